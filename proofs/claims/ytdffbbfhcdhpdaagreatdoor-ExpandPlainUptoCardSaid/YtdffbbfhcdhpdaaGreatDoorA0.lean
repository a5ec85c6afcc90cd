/- Words for memory (what a call may turn, what a slice holds), plain lemmas on strings as lists of bytes, and rules for the walk. No statement of the seat is proved here. -/
import Derived.Test.YtdffbbfhcdhpdaaGreatDoorProg
import Derived.WalkKit
import Derived.WalkSpells
import Derived.WalkLawsBesides
import Derived.Lib.Hide
import Derived.Lib.Builder
namespace Go.Proofs.YtdffbbfhcdhpdaaGreatDoor
open Go.RowKit

/-- A string value, by its bytes. -/
abbrev S (l : List UInt8) : Value := .string ⟨l.toArray⟩
abbrev I (n : Int) : Value := .int .i64 n
abbrev B8 (c : UInt8) : Value := .int .u8 c.toNat
abbrev Ptr (b : Nat) : Value := .pointer (some ⟨b, 0, none⟩)
abbrev NilS : Value := .slice none 0 0

@[go_sem] theorem ba_getElem (l : List UInt8) (i : Nat) (h : i < (ByteArray.mk l.toArray).size) :
    (ByteArray.mk l.toArray)[i]'h = l[i]'(show i < l.length from h) := rfl

@[go_sem] theorem ba_extract (l : List UInt8) (a b : Nat) :
    (ByteArray.mk l.toArray).extract a b = ⟨((l.take b).drop a).toArray⟩ := by
  apply ByteArray.ext
  rw [ByteArray.data_extract]
  simp [List.extract_eq_take_drop, List.drop_take]

@[go_sem] theorem lt_add_lit {b n k : Nat} (h : b < n) : (b < n + k) = True := by simp; omega

theorem u8_ne {c n : UInt8} (h : c ≠ n) : ((c.toNat : Int) == (n.toNat : Int)) = false := by
  simp only [beq_eq_false_iff_ne]; intro e; exact h (UInt8.toNat_inj.1 (by omega))

/-! ### What a call may turn -/
/-- All that lay below block B lies as it lay, and so does each block from B on whose cells are of no type of E. -/
structure Fr (B : Nat) (E : List TypeId) (w w' : World) : Prop where
  os : w'.os = w.os
  tape : w'.tape = w.tape
  output : w'.output = w.output
  size : w.heap.size ≤ w'.heap.size
  block : ∀ k, k < w.heap.size → (k < B ∨ ∀ c e f, w.heap[k]? = some (.cells c e f) → e ∉ E) → w'.heap[k]? = w.heap[k]?

theorem Fr.refl (B : Nat) (E : List TypeId) (w : World) : Fr B E w w := ⟨rfl, rfl, rfl, Nat.le_refl _, fun _ _ _ => rfl⟩
theorem Fr.trans {B : Nat} {E : List TypeId} {a b c : World} (h : Fr B E a b) (k : Fr B E b c) : Fr B E a c :=
  ⟨k.os.trans h.os, k.tape.trans h.tape, k.output.trans h.output, Nat.le_trans h.size k.size, fun i hi hc => by
    have e := h.block i hi hc
    rw [← e]; refine k.block i (Nat.lt_of_lt_of_le hi h.size) ?_
    rw [e]; exact hc⟩
theorem Fr.mono {B B' : Nat} {E E' : List TypeId} {w w' : World} (h : Fr B E w w') (hB : B' ≤ B) (hE : ∀ e, e ∈ E → e ∈ E') : Fr B' E' w w' :=
  ⟨h.os, h.tape, h.output, h.size, fun k hk hc => h.block k hk (hc.imp (fun x => Nat.lt_of_lt_of_le x hB) (fun x c e f hh he => x c e f hh (hE e he)))⟩
theorem Fr.below {B : Nat} {E : List TypeId} {w w' : World} (h : Fr B E w w') (hB : B ≤ w.heap.size) : Below B w w' :=
  ⟨h.os, h.tape, h.output, h.size, fun k hk => h.block k (Nat.lt_of_lt_of_le hk hB) (.inl hk)⟩
theorem Fr.of_below {B C : Nat} {E : List TypeId} {w w' : World} (h : Below C w w') (hC : w.heap.size ≤ C) : Fr B E w w' :=
  ⟨h.os, h.tape, h.output, h.size, fun k hk _ => h.block k (Nat.lt_of_lt_of_le hk hC)⟩
/-- A call that turned what lay from C on alone, where nothing lay. -/
theorem Fr.of_own {B C : Nat} {E E' : List TypeId} {w w' : World} (h : Fr C E' w w') (hC : w.heap.size ≤ C) : Fr B E w w' :=
  ⟨h.os, h.tape, h.output, h.size, fun k hk _ => h.block k hk (.inl (Nat.lt_of_lt_of_le hk hC))⟩
theorem Fr.drew {B : Nat} {E : List TypeId} {a w : World} (h : Fr B E a w) : Fr B E a w.drew := ⟨h.os, h.tape, h.output, h.size, h.block⟩
theorem Fr.drewN {B : Nat} {E : List TypeId} {a w : World} (h : Fr B E a w) (n : Nat) : Fr B E a (w.drewN n) := ⟨h.os, h.tape, h.output, h.size, h.block⟩
theorem Fr.alloc {B : Nat} {E : List TypeId} {a w : World} (h : Fr B E a w) (o : Obj) : Fr B E a (w.alloc o) :=
  h.trans ⟨rfl, rfl, rfl, by simp, fun k hk _ => Below.heap_alloc _ _ _ hk⟩
theorem Fr.setCell {B : Nat} {E : List TypeId} {a w : World} (h : Fr B E a w) {p : Addr} {c : Array Value} {e : TypeId} {f : Nat × Nat} (hp : w.heap[p.block]? = some (.cells c e f))
    (hB : B ≤ p.block) (he : e ∈ E) (u : Value) : Fr B E a (w.setCell p u) :=
  h.trans ⟨rfl, rfl, rfl, by simp [World.setCell], fun k hk hc => by
    by_cases hkp : k = p.block
    · subst hkp
      rcases hc with hc | hc
      · omega
      · exact (hc _ _ _ hp he).elim
    · exact Below.heap_setCell _ _ _ _ hkp⟩
theorem Fr.grown {B : Nat} {E : List TypeId} {a w w' : World} {row : Option Nat} (h : Fr B E a w) (hg : w.grownBy w' row)
    (hr : ∀ g, row = some g → B ≤ g ∧ ∃ c e f, w.heap[g]? = some (.cells c e f) ∧ e ∈ E) : Fr B E a w' :=
  h.trans ⟨hg.os, hg.tape, hg.output, hg.size, fun k hk hc => by
    by_cases hkp : some k = row
    · obtain ⟨hB, c, e, f, hh, he⟩ := hr k hkp.symm
      rcases hc with hc | hc
      · omega
      · exact (hc _ _ _ hh he).elim
    · exact hg.block k hk hkp⟩
theorem Fr.freeze {B : Nat} {E : List TypeId} {a w : World} (h : Fr B E a w) {p : Addr} {c : Array Value} {e : TypeId} {f : Nat × Nat} (hp : w.heap[p.block]? = some (.cells c e f))
    (hB : B ≤ p.block) (he : e ∈ E) (n : Nat) : Fr B E a (w.freeze p n) := by
  unfold World.freeze
  split
  · exact h
  · exact h.trans ⟨rfl, rfl, rfl, by simp, fun k hk hc => by
      by_cases hkp : k = p.block
      · subst hkp
        rcases hc with hc | hc
        · omega
        · exact (hc _ _ _ hp he).elim
      · simp only [Array.getElem?_modify]; rw [if_neg (fun x => hkp x.symm)]⟩
theorem Fr.cell {B : Nat} {E : List TypeId} {w w' : World} (h : Fr B E w w') {k : Nat} (hk : k < w.heap.size) (hc : k < B ∨ ∀ c e f, w.heap[k]? = some (.cells c e f) → e ∉ E) (o : Nat) :
    w'.cell? ⟨k, o, none⟩ = w.cell? ⟨k, o, none⟩ := World.cell?_of_block (w := w) (h.block k hk hc)

/-- The row that an owned slice lies in. -/
theorem ownsRow_row {w : World} {base : Nat} {e : TypeId} {size : Nat} {v : Value} {n : Nat} {xs : List Value} (h : w.ownsRow base e size v n xs) :
    ∀ g, v.ownBlock = some g → base ≤ g ∧ ∃ c f, w.heap[g]? = some (.cells c e f) := by
  intro g hg
  rcases h.2 with ⟨rfl, _⟩ | ⟨g', cap, cur, rfl, hb, hh, _⟩
  · simp [Value.ownBlock] at hg
  · simp [Value.ownBlock] at hg
    subst hg
    exact ⟨hb, _, _, hh⟩
theorem Fr.grownRow {B : Nat} {E : List TypeId} {a w w' : World} (h : Fr B E a w) {e : TypeId} {size : Nat} {v : Value} {n : Nat} {xs : List Value} (ho : w.ownsRow B e size v n xs)
    (hg : w.grownBy w' v.ownBlock) (he : e ∈ E) : Fr B E a w' :=
  h.grown hg fun g hv => by obtain ⟨h1, c, f, h2⟩ := ownsRow_row ho g hv; exact ⟨h1, c, e, f, h2, he⟩
/-- An owned row stays where its type is none of those that turn, or where it lies below. -/
theorem ownsRow_fr {C : Nat} {E : List TypeId} {w w' : World} {base : Nat} {e : TypeId} {size : Nat} {v : Value} {n : Nat} {xs : List Value} (h : w.ownsRow base e size v n xs)
    (hf : Fr C E w w') (he : e ∉ E ∨ ∀ g, v.ownBlock = some g → g < C) : w'.ownsRow base e size v n xs := by
  refine ⟨h.1, ?_⟩
  rcases h.2 with hn | ⟨g, cap, cur, rfl, hb, hh, r⟩
  · exact .inl hn
  · refine .inr ⟨g, cap, cur, rfl, hb, ?_, r⟩
    rw [hf.block g (Array.getElem?_eq_some_iff.1 hh).1 ?_]; · exact hh
    rcases he with he | he
    · exact .inr fun c e' f h' => by rw [hh] at h'; cases h'; exact he
    · exact .inl (he g rfl)
theorem ownsRow_succ {W : World} {base : Nat} {e : TypeId} {size : Nat} {v : Value} {k : Nat} {xs : List Value} (h : W.ownsRow base e size v (k + 1) xs) : ∃ g cap, v = .slice (some ⟨g, 0, none⟩) (k + 1) cap := by
  rcases h.2 with ⟨_, h0⟩ | ⟨g, cap, cur, hv, _⟩
  · omega
  · exact ⟨g, cap, hv⟩
theorem ownsRow_slice {W : World} {base : Nat} {e : TypeId} {size : Nat} {v : Value} {k : Nat} {xs : List Value} (h : W.ownsRow base e size v k xs) : ∃ a cap, v = .slice a k cap := by
  rcases h.2 with ⟨hv, h0⟩ | ⟨g, cap, cur, hv, _⟩
  · exact ⟨none, 0, by rw [hv, h0]⟩
  · exact ⟨_, cap, hv⟩

theorem below_grownRow {B : Nat} {a w w' : World} {e : TypeId} {size : Nat} {v : Value} {n : Nat} {xs : List Value} (h : Below B a w) (ho : w.ownsRow B e size v n xs)
    (hg : w.grownBy w' v.ownBlock) (hB : B ≤ w.heap.size) : Below B a w' := h.grown hg hB (fun k e => (ho.lt k e).1)

/-! ### Blocks -/
theorem blk_lt {w : World} {b : Nat} {x : Obj} (h : w.heap[b]? = some x) : b < w.heap.size := (Array.getElem?_eq_some_iff.1 h).1
theorem blk_alloc {w : World} {b : Nat} {x : Obj} (h : w.heap[b]? = some x) (o : Obj) : (w.alloc o).heap[b]? = some x :=
  (Below.heap_alloc w o b (blk_lt h)).trans h
theorem blk_new (w : World) (o : Obj) : (w.alloc o).heap[w.heap.size]? = some o := heap_alloc_new w o
theorem blk_set {w : World} {b : Nat} {cs : Array Value} {T : TypeId} {f : Nat × Nat} (h : w.heap[b]? = some (.cells cs T f)) (j : Nat) (u : Value) :
    (w.setCell ⟨b, j, none⟩ u).heap[b]? = some (.cells (cs.setIfInBounds j u) T f) := by
  simp [World.setCell, Array.getElem?_modify, h]
theorem blk_other {w : World} {b : Nat} {x : Obj} (h : w.heap[b]? = some x) {a : Addr} (ha : b ≠ a.block) (u : Value) : (w.setCell a u).heap[b]? = some x :=
  (Below.heap_setCell w a u b ha).trans h
theorem blk_cell {w : World} {b : Nat} {cs : Array Value} {T : TypeId} {f : Nat × Nat} (h : w.heap[b]? = some (.cells cs T f)) (j : Nat) : w.cell? ⟨b, j, none⟩ = cs[j]? := by
  simp [World.cell?, h]
theorem blk_free {w : World} {b : Nat} {cs : Array Value} {T : TypeId} (h : w.heap[b]? = some (.cells cs T (0, 0))) (j : Nat) : w.frozen? ⟨b, j, none⟩ = false := by
  simp [World.frozen?, h]
theorem blk_fr {B : Nat} {E : List TypeId} {w w' : World} (h : Fr B E w w') {b : Nat} {cs : Array Value} {T : TypeId} {f : Nat × Nat} (hb : w.heap[b]? = some (.cells cs T f)) (hT : b < B ∨ T ∉ E) :
    w'.heap[b]? = some (.cells cs T f) := by
  rw [h.block b (blk_lt hb) (hT.imp id (fun x c e f' y => by rw [hb] at y; cases y; exact x))]; exact hb
theorem blk_ext {w w' : World} (h : Below w.heap.size w w') {b : Nat} {x : Obj} (hb : w.heap[b]? = some x) : w'.heap[b]? = some x := (h.block b (blk_lt hb)).trans hb
/-- Behind an append to an owned row: a block of another type. -/
theorem blk_grown {w w' : World} {B : Nat} {e : TypeId} {size : Nat} {v : Value} {n : Nat} {xs : List Value} (hg : w.grownBy w' v.ownBlock) (ho : w.ownsRow B e size v n xs)
    {b : Nat} {cs : Array Value} {T : TypeId} {f : Nat × Nat} (hb : w.heap[b]? = some (.cells cs T f)) (hT : T ≠ e) : w'.heap[b]? = some (.cells cs T f) := by
  rw [hg.block b (blk_lt hb)]; · exact hb
  intro e1
  obtain ⟨_, c, f', h⟩ := ownsRow_row ho b e1.symm
  rw [hb] at h; cases h; exact hT rfl
theorem ownsRow_set {w : World} {base : Nat} {e : TypeId} {size : Nat} {v : Value} {n : Nat} {xs : List Value} (h : w.ownsRow base e size v n xs)
    {b : Nat} {cs : Array Value} {T : TypeId} {f : Nat × Nat} (hb : w.heap[b]? = some (.cells cs T f)) (hT : T ≠ e) (j : Nat) (u : Value) : (w.setCell ⟨b, j, none⟩ u).ownsRow base e size v n xs :=
  ownsRow_fr h (C := b) (E := [T]) ((Fr.refl b [T] w).setCell (p := ⟨b, j, none⟩) hb (Nat.le_refl _) (by simp) u) (.inl (by simp; exact fun x => hT x.symm))

theorem size_alloc' (w : World) (o : Obj) : (w.alloc o).heap.size = w.heap.size + 1 := by simp
/-- The cells of a block that has just been made, as a source of an append. -/
theorem new_cells {w : World} {n : Nat} (hn : n = w.heap.size) (xs : List Value) (t : TypeId) :
    ∀ (j : Nat) (u : Value), xs[j]? = some u → (w.alloc (.cells xs.toArray t)).cell? ((⟨n, 0, none⟩ : Addr).add j) = some u := by
  intro j u h
  subst hn
  have hadd : (⟨w.heap.size, 0, none⟩ : Addr).add j = ⟨w.heap.size, j, none⟩ := by unfold Addr.add; split <;> simp_all
  rw [hadd, blk_cell (blk_new w _)]
  simpa using h

/-! ### Lists -/
theorem flat_get {α β : Type} (f : α → List β) (m : Nat) (hf : ∀ x, (f x).length = m) : ∀ (l : List α) (k r : Nat) (hk : k < l.length) (_ : r < m), (l.flatMap f)[k * m + r]? = (f l[k])[r]?
  | [], k, r, hk, _ => by simp at hk
  | x :: l, 0, r, _, hr => by
    rw [List.flatMap_cons, Nat.zero_mul, Nat.zero_add, List.getElem?_append_left (by rw [hf]; exact hr)]; rfl
  | x :: l, k + 1, r, hk, hr => by
    rw [List.flatMap_cons, List.getElem?_append_right (by rw [hf, Nat.add_mul]; omega), hf]
    have e : (k + 1) * m + r - m = k * m + r := by rw [Nat.add_mul]; omega
    rw [e, flat_get f m hf l k r (by simpa using hk) hr]; rfl
theorem flat_len {α β : Type} (f : α → List β) (m : Nat) (hf : ∀ x, (f x).length = m) (l : List α) : (l.flatMap f).length = l.length * m := by
  induction l with
  | nil => simp
  | cons x l ih => rw [List.flatMap_cons, List.length_append, ih, hf, List.length_cons, Nat.add_mul]; omega
theorem flat_snoc {α β : Type} (f : α → List β) (l : List α) (k : Nat) (h : k < l.length) : (l.take (k + 1)).flatMap f = (l.take k).flatMap f ++ f l[k] := by
  rw [List.take_succ_eq_append_getElem h]; simp only [List.flatMap_append, List.flatMap_cons, List.flatMap_nil, List.append_nil]
theorem flat_le {α β : Type} (f : α → List β) (l : List α) (k : Nat) (h : k < l.length) : ((l.take k).flatMap f).length + (f l[k]).length ≤ (l.flatMap f).length := by
  rw [← List.length_append, ← flat_snoc f l k h]
  conv => rhs; rw [← List.take_append_drop (k + 1) l, List.flatMap_append, List.length_append]
  omega

/-! ### What a slice holds -/
/-- A slice value of n elements of k cells each, read off memory: its cells are xs; its block lies below B or is a row of type e. -/
def Sl (B : Nat) (e : TypeId) (w : World) (v : Value) (n k : Nat) (xs : List Value) : Prop :=
  xs.length = n * k ∧ ((v = NilS ∧ n = 0) ∨
    ∃ b o c, v = .slice (some ⟨b, o, none⟩) n c ∧ n ≤ c ∧ c ≤ maxLen ∧ b < w.heap.size ∧ (b < B ∨ ∃ cs f, w.heap[b]? = some (.cells cs e f)) ∧
      ∀ j u, xs[j]? = some u → w.cell? ⟨b, o + j, none⟩ = some u)

theorem Sl.nil (B : Nat) (e : TypeId) (w : World) (k : Nat) : Sl B e w NilS 0 k [] := ⟨by simp, .inl ⟨rfl, rfl⟩⟩
theorem Sl.fr {B : Nat} {e : TypeId} {w w' : World} {v : Value} {n k : Nat} {xs : List Value} (h : Sl B e w v n k xs) {C : Nat} {E : List TypeId} (hf : Fr C E w w') (hB : B ≤ C) (he : e ∉ E) : Sl B e w' v n k xs := by
  obtain ⟨h0, h | ⟨b, o, c, rfl, hn, hm, hb, hk, hc⟩⟩ := h
  · exact ⟨h0, .inl h⟩
  · have hkeep : w'.heap[b]? = w.heap[b]? := hf.block b hb (hk.imp (fun x => by omega) (fun ⟨cs, f, x⟩ c' e' f' y => by rw [x] at y; cases y; exact he))
    refine ⟨h0, .inr ⟨b, o, c, rfl, hn, hm, Nat.lt_of_lt_of_le hb hf.size, hk.imp id (fun ⟨cs, f, x⟩ => ⟨cs, f, hkeep.trans x⟩), fun j u hu => ?_⟩⟩
    rw [← hc j u hu]; exact World.cell?_of_block (w := w) hkeep
/-- .. behind a call that turned nothing that lay. -/
theorem Sl.ext {B : Nat} {e : TypeId} {w w' : World} {v : Value} {n k : Nat} {xs : List Value} (h : Sl B e w v n k xs) (hf : Below w.heap.size w w') : Sl B e w' v n k xs :=
  h.fr (C := w.heap.size + B) (E := []) (Fr.of_below hf (Nat.le_refl _)) (by omega) (by simp)
theorem Sl.mono {B B' : Nat} {e : TypeId} {w : World} {v : Value} {n k : Nat} {xs : List Value} (h : Sl B e w v n k xs) (hB : B ≤ B') : Sl B' e w v n k xs := by
  obtain ⟨h0, h | ⟨b, o, c, rfl, hn, hm, hb, hk, hc⟩⟩ := h
  · exact ⟨h0, .inl h⟩
  · exact ⟨h0, .inr ⟨b, o, c, rfl, hn, hm, hb, hk.imp (fun x => by omega) id, hc⟩⟩
theorem Sl.of_owns {B : Nat} {e : TypeId} {w : World} {base : Nat} {v : Value} {n k : Nat} {xs : List Value} (h : w.ownsRow base e k v n xs) : Sl B e w v n k xs := by
  refine ⟨h.1, ?_⟩
  rcases h.2 with hn | ⟨g, cap, cur, rfl, hb, hh, hn, hm, hs, ht⟩
  · exact .inl hn
  · refine .inr ⟨g, 0, cap, rfl, hn, hm, (Array.getElem?_eq_some_iff.1 hh).1, .inr ⟨_, _, hh⟩, fun j u hu => ?_⟩
    have := h.cells (g := g) rfl j u hu
    rw [← this]
    unfold Addr.add; split <;> simp_all
end Go.Proofs.YtdffbbfhcdhpdaaGreatDoor
