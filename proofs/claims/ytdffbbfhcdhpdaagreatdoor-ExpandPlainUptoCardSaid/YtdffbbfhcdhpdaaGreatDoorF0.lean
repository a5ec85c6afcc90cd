/- Words as trees of parts: how they lie in memory, how large they are. No program is walked here. -/
import Derived.Test.YtdffbbfhcdhpdaaGreatDoorD7
namespace Go.Proofs.YtdffbbfhcdhpdaaGreatDoor
open Go.RowKit

/-- A part of a word, with the parts of its own word. -/
inductive PT where
  | mk (kind : Int) (quoted : Bool) (text name op : List UInt8) (word : List PT) : PT
def PT.kind : PT → Int | .mk k _ _ _ _ _ => k
def PT.quoted : PT → Bool | .mk _ q _ _ _ _ => q
def PT.text : PT → List UInt8 | .mk _ _ t _ _ _ => t
def PT.name : PT → List UInt8 | .mk _ _ _ n _ _ => n
def PT.op : PT → List UInt8 | .mk _ _ _ _ o _ => o
def PT.word : PT → List PT | .mk _ _ _ _ _ wd => wd

mutual
def PT.size : PT → Nat
  | .mk _ _ t n o wd => 1 + t.length + n.length + o.length + PT.sizes wd
def PT.sizes : List PT → Nat
  | [] => 0
  | t :: ts => t.size + PT.sizes ts
end
/-- A row of parts in a block from B on. -/
def RowAt (B : Nat) (w : World) (v : Value) (ps : List PartS) : Prop :=
  Sl w.heap.size 42 w v ps.length 6 (partCells ps) ∧ ∀ b o n c, v = .slice (some ⟨b, o, none⟩) n c → B ≤ b
mutual
def PT.at (B : Nat) (w : World) : PT → PartS → Prop
  | .mk k q t n o wd, p => p.kind = k ∧ p.quoted = q ∧ p.text = t ∧ p.name = n ∧ p.op = o ∧ ∃ ps : List PartS, RowAt B w p.word ps ∧ PT.rows B w wd ps
def PT.rows (B : Nat) (w : World) : List PT → List PartS → Prop
  | [], ps => ps = []
  | t :: ts, ps => ∃ p r, ps = p :: r ∧ PT.at B w t p ∧ PT.rows B w ts r
end
/-- A slice value that holds a word's parts, all in blocks from B on. -/
def Tree (B : Nat) (w : World) (v : Value) (ts : List PT) : Prop := ∃ ps : List PartS, RowAt B w v ps ∧ PT.rows B w ts ps

theorem PT.size_eq (t : PT) : t.size = 1 + t.text.length + t.name.length + t.op.length + PT.sizes t.word := by
  cases t; simp [PT.size, PT.text, PT.name, PT.op, PT.word]
theorem PT.sizes_append (a b : List PT) : PT.sizes (a ++ b) = PT.sizes a + PT.sizes b := by
  induction a with
  | nil => simp [PT.sizes]
  | cons t a ih => simp [PT.sizes, ih]; omega
theorem PT.sizes_one (t : PT) : PT.sizes [t] = t.size := by simp [PT.sizes]
theorem PT.len_sizes (l : List PT) : l.length ≤ PT.sizes l := by
  induction l with
  | nil => simp
  | cons t a ih => simp only [PT.sizes, List.length_cons]; have := t.size_eq; omega
theorem PT.size_mem {l : List PT} {t : PT} (h : t ∈ l) : t.size ≤ PT.sizes l := by
  induction l with
  | nil => simp at h
  | cons a l ih =>
    simp only [PT.sizes]
    rcases List.mem_cons.1 h with rfl | h
    · omega
    · have := ih h; omega
theorem PT.sizes_take (l : List PT) (k : Nat) : PT.sizes (l.take k) ≤ PT.sizes l := by
  conv => rhs; rw [← List.take_append_drop k l]
  rw [PT.sizes_append]; omega
theorem PT.sizes_snoc (l : List PT) (k : Nat) (h : k < l.length) : PT.sizes (l.take (k + 1)) = PT.sizes (l.take k) + l[k].size := by
  rw [List.take_succ_eq_append_getElem h, PT.sizes_append, PT.sizes_one]

theorem RowAt.keep {B : Nat} {w w' : World} {v : Value} {ps : List PartS} (h : RowAt B w v ps) (hs : w.heap.size ≤ w'.heap.size) (hk : ∀ b, B ≤ b → b < w.heap.size → w'.heap[b]? = w.heap[b]?) : RowAt B w' v ps := by
  obtain ⟨⟨h0, h1⟩, h2⟩ := h
  refine ⟨⟨h0, ?_⟩, h2⟩
  rcases h1 with h1 | ⟨b, o, c, rfl, hn, hm, hb, _, hc⟩
  · exact .inl h1
  · refine .inr ⟨b, o, c, rfl, hn, hm, by omega, .inl (by omega), fun j u hu => ?_⟩
    rw [← hc j u hu]
    exact World.cell?_of_block (w := w) (hk b (h2 _ _ _ _ rfl) hb)
theorem RowAt.low {B B' : Nat} {w : World} {v : Value} {ps : List PartS} (h : RowAt B w v ps) (hB : B' ≤ B) : RowAt B' w v ps := ⟨h.1, fun b o n c e => Nat.le_trans hB (h.2 b o n c e)⟩
theorem RowAt.of_owns {B base : Nat} {w : World} {v : Value} {ps : List PartS} {n : Nat} (h : w.ownsRow base 42 6 v n (partCells ps)) (hn : n = ps.length) (hB : B ≤ base) : RowAt B w v ps := by
  subst hn
  refine ⟨(Sl.of_owns (B := w.heap.size) h), fun b o n c e => ?_⟩
  subst e
  rcases h.2 with ⟨hn, _⟩ | ⟨g, cap, cur, hv, hb, _⟩
  · simp at hn
  · cases hv; omega

theorem PT.at_iff (B : Nat) (w : World) (t : PT) (p : PartS) : t.at B w p ↔ p.kind = t.kind ∧ p.quoted = t.quoted ∧ p.text = t.text ∧ p.name = t.name ∧ p.op = t.op ∧ Tree B w p.word t.word := by
  cases t; simp only [PT.at, Tree, PT.kind, PT.quoted, PT.text, PT.name, PT.op, PT.word]
mutual
theorem PT.at_keep {B : Nat} {w w' : World} (hs : w.heap.size ≤ w'.heap.size) (hk : ∀ b, B ≤ b → b < w.heap.size → w'.heap[b]? = w.heap[b]?) : ∀ (t : PT) (p : PartS), t.at B w p → t.at B w' p
  | .mk k q t n o wd, p, h => by
    simp only [PT.at] at h ⊢
    obtain ⟨h1, h2, h3, h4, h5, ps, hp, hr⟩ := h
    exact ⟨h1, h2, h3, h4, h5, ps, hp.keep hs hk, PT.rows_keep hs hk wd ps hr⟩
theorem PT.rows_keep {B : Nat} {w w' : World} (hs : w.heap.size ≤ w'.heap.size) (hk : ∀ b, B ≤ b → b < w.heap.size → w'.heap[b]? = w.heap[b]?) : ∀ (ts : List PT) (ps : List PartS), PT.rows B w ts ps → PT.rows B w' ts ps
  | [], ps, h => by simpa only [PT.rows] using h
  | t :: ts, ps, h => by
    simp only [PT.rows] at h ⊢
    obtain ⟨p, r, rfl, h1, h2⟩ := h
    exact ⟨p, r, rfl, PT.at_keep hs hk t p h1, PT.rows_keep hs hk ts r h2⟩
end
mutual
theorem PT.at_low {B B' : Nat} {w : World} (hB : B' ≤ B) : ∀ (t : PT) (p : PartS), t.at B w p → t.at B' w p
  | .mk k q t n o wd, p, h => by
    simp only [PT.at] at h ⊢
    obtain ⟨h1, h2, h3, h4, h5, ps, hp, hr⟩ := h
    exact ⟨h1, h2, h3, h4, h5, ps, hp.low hB, PT.rows_low hB wd ps hr⟩
theorem PT.rows_low {B B' : Nat} {w : World} (hB : B' ≤ B) : ∀ (ts : List PT) (ps : List PartS), PT.rows B w ts ps → PT.rows B' w ts ps
  | [], ps, h => by simpa only [PT.rows] using h
  | t :: ts, ps, h => by
    simp only [PT.rows] at h ⊢
    obtain ⟨p, r, rfl, h1, h2⟩ := h
    exact ⟨p, r, rfl, PT.at_low hB t p h1, PT.rows_low hB ts r h2⟩
end
theorem Tree.keep {B : Nat} {w w' : World} {v : Value} {ts : List PT} (h : Tree B w v ts) (hs : w.heap.size ≤ w'.heap.size) (hk : ∀ b, B ≤ b → b < w.heap.size → w'.heap[b]? = w.heap[b]?) : Tree B w' v ts := by
  obtain ⟨ps, h1, h2⟩ := h
  exact ⟨ps, h1.keep hs hk, PT.rows_keep hs hk ts ps h2⟩
theorem Tree.ext {B : Nat} {w w' : World} {v : Value} {ts : List PT} (h : Tree B w v ts) (hb : Below w.heap.size w w') : Tree B w' v ts := h.keep hb.size fun b _ h => hb.block b h
theorem Tree.set {B : Nat} {w : World} {v : Value} {ts : List PT} (h : Tree B w v ts) {n : Nat} (hn : n < B) (j : Nat) (u : Value) : Tree B (w.setCell ⟨n, j, none⟩ u) v ts :=
  h.keep (by simp [World.setCell]) fun b hB _ => Below.heap_setCell w ⟨n, j, none⟩ u b (by show b ≠ n; omega)
theorem Tree.low {B B' : Nat} {w : World} {v : Value} {ts : List PT} (h : Tree B w v ts) (hB : B' ≤ B) : Tree B' w v ts := by
  obtain ⟨ps, h1, h2⟩ := h
  exact ⟨ps, h1.low hB, PT.rows_low hB ts ps h2⟩
theorem Tree.nil (B : Nat) (w : World) : Tree B w NilS [] := ⟨[], ⟨Sl.nil _ _ _ _, fun b o n c e => by simp at e⟩, by simp only [PT.rows]⟩
theorem PT.rows_len {B : Nat} {w : World} : ∀ {ts : List PT} {ps : List PartS}, PT.rows B w ts ps → ps.length = ts.length
  | [], ps, h => by simp only [PT.rows] at h; subst h; rfl
  | t :: ts, ps, h => by
    simp only [PT.rows] at h
    obtain ⟨p, r, rfl, _, h2⟩ := h
    simp [PT.rows_len h2]
theorem PT.rows_get {B : Nat} {w : World} : ∀ {ts : List PT} {ps : List PartS}, PT.rows B w ts ps → ∀ k (h : k < ts.length) (h' : k < ps.length), PT.at B w ts[k] ps[k]
  | [], _, _, k, h, _ => by simp at h
  | t :: ts, ps, h, k, hk, hk' => by
    simp only [PT.rows] at h
    obtain ⟨p, r, rfl, h1, h2⟩ := h
    cases k with
    | zero => exact h1
    | succ k => exact PT.rows_get h2 k (by simpa using hk) (by simpa using hk')
theorem PT.rows_append {B : Nat} {w : World} : ∀ {a : List PT} {p : List PartS} {b : List PT} {q : List PartS}, PT.rows B w a p → PT.rows B w b q → PT.rows B w (a ++ b) (p ++ q)
  | [], p, b, q, h, k => by simp only [PT.rows] at h; subst h; simpa using k
  | t :: ts, p, b, q, h, k => by
    simp only [PT.rows] at h
    obtain ⟨x, r, rfl, h1, h2⟩ := h
    simp only [List.cons_append, PT.rows]
    exact ⟨x, r ++ q, rfl, h1, PT.rows_append h2 k⟩
theorem PT.rows_one {B : Nat} {w : World} {t : PT} {p : PartS} (h : t.at B w p) : PT.rows B w [t] [p] := by
  simp only [PT.rows]; exact ⟨p, [], rfl, h, rfl⟩
theorem PT.rows_snoc {B : Nat} {w : World} : ∀ {a : List PT} {t : PT} {ps : List PartS}, PT.rows B w (a ++ [t]) ps → ∃ p q, ps = p ++ [q] ∧ PT.rows B w a p ∧ t.at B w q
  | [], t, ps, h => by
    simp only [List.nil_append, PT.rows] at h
    obtain ⟨p, r, rfl, h1, rfl⟩ := h
    exact ⟨[], p, rfl, by simp only [PT.rows], h1⟩
  | x :: a, t, ps, h => by
    simp only [List.cons_append, PT.rows] at h
    obtain ⟨y, r, rfl, h1, h2⟩ := h
    obtain ⟨p, q, rfl, h3, h4⟩ := PT.rows_snoc h2
    exact ⟨y :: p, q, rfl, by simp only [PT.rows]; exact ⟨y, p, rfl, h1, h3⟩, h4⟩
theorem Tree.slice {B : Nat} {w : World} {v : Value} {ts : List PT} (h : Tree B w v ts) : ∃ a c, v = .slice a ts.length c := by
  obtain ⟨ps, h1, h2⟩ := h
  obtain ⟨a, c, e⟩ := h1.1.slice
  exact ⟨a, c, by rw [e, PT.rows_len h2]⟩
theorem PT.at_word {B : Nat} {w : World} {t : PT} {p : PartS} (h : t.at B w p) : ∃ a n c, p.word = .slice a n c := by
  obtain ⟨_, _, _, _, _, ht⟩ := (PT.at_iff B w t p).1 h
  obtain ⟨a, c, e⟩ := ht.slice
  exact ⟨a, _, c, e⟩
theorem PT.rows_word {B : Nat} {w : World} {ts : List PT} {ps : List PartS} (h : PT.rows B w ts ps) : ∀ p ∈ ps, ∃ a n c, p.word = .slice a n c := by
  intro p hp
  obtain ⟨k, hk, rfl⟩ := List.getElem_of_mem hp
  exact PT.at_word (PT.rows_get h k (by rw [← PT.rows_len h]; exact hk) hk)

/-! ### What Add does -/
def PT.mergeable (q p : PT) : Bool := p.kind == 0 && q.kind == 0 && q.quoted == p.quoted
def PT.join (q p : PT) : PT := .mk q.kind q.quoted (q.text ++ p.text) q.name q.op q.word
def addT : List PT → PT → List PT
  | [], p => [p]
  | [q], p => if q.mergeable p then [q.join p] else [q, p]
  | q :: r :: s, p => q :: addT (r :: s) p
theorem addT_snoc (p q : PT) : ∀ l : List PT, addT (l ++ [q]) p = if q.mergeable p then l ++ [q.join p] else l ++ [q, p]
  | [] => by simp only [List.nil_append, addT]
  | [x] => by simp only [List.cons_append, List.nil_append, addT]; split <;> rfl
  | x :: y :: l => by
    have := addT_snoc p q (y :: l)
    simp only [List.cons_append, addT] at this ⊢
    rw [this]; split <;> rfl
theorem PT.join_size (q p : PT) : (q.join p).size ≤ q.size + p.size := by
  rw [PT.size_eq, PT.size_eq q, PT.size_eq p]
  simp only [PT.join, PT.text, PT.name, PT.op, PT.word, List.length_append]; omega
theorem list_snoc {α : Type} (l : List α) : l = [] ∨ ∃ r q, l = r ++ [q] := by
  rcases List.eq_nil_or_concat l with h | ⟨r, q, h⟩
  · exact .inl h
  · exact .inr ⟨r, q, by rw [h, List.concat_eq_append]⟩
theorem addT_size (l : List PT) (p : PT) : PT.sizes (addT l p) ≤ PT.sizes l + p.size := by
  rcases list_snoc l with rfl | ⟨r, q, rfl⟩
  · simp [addT, PT.sizes]
  · rw [addT_snoc]
    have := PT.join_size q p
    split
    · simp only [PT.sizes_append, PT.sizes]; omega
    · simp only [PT.sizes_append, PT.sizes]; omega

/-! ### Words that the parser makes -/
/-- What a parameter's name is. -/
def NameP (n : List UInt8) : Prop := n ≠ [] ∧ (nameOf n = n ∨ (∀ c ∈ n, isD c = true) ∨ n = [35] ∨ n = [63] ∨ n = [64] ∨ n = [42])
def opsL : List (List UInt8) := [[58, 45], [58, 61], [58, 63], [58, 43], [37, 37], [35, 35], [45], [61], [63], [43], [37], [35]]
def OpP (n o : List UInt8) : Prop := o = [] ∨ o = [108, 101, 110] ∨ (o ∈ opsL ∧ (o = [61] ∨ o = [58, 61] → nameOf n = n))
mutual
def PT.wf : PT → Prop
  | .mk k _ _ n o wd => (k = 0 ∨ k = 1 ∨ k = 2 ∨ k = 3) ∧ (k = 1 → NameP n ∧ OpP n o) ∧ PT.wfs wd
def PT.wfs : List PT → Prop
  | [] => True
  | t :: ts => t.wf ∧ PT.wfs ts
end
theorem PT.wf_iff (t : PT) : t.wf ↔ (t.kind = 0 ∨ t.kind = 1 ∨ t.kind = 2 ∨ t.kind = 3) ∧ (t.kind = 1 → NameP t.name ∧ OpP t.name t.op) ∧ PT.wfs t.word := by
  cases t; simp only [PT.wf, PT.kind, PT.name, PT.op, PT.word]
theorem PT.wfs_append (a b : List PT) : PT.wfs (a ++ b) ↔ PT.wfs a ∧ PT.wfs b := by
  induction a with
  | nil => simp [PT.wfs]
  | cons t a ih => simp only [List.cons_append, PT.wfs, ih]; exact and_assoc.symm
theorem PT.wfs_one (t : PT) : PT.wfs [t] ↔ t.wf := by simp [PT.wfs]
theorem PT.wfs_mem {l : List PT} (h : PT.wfs l) {t : PT} (ht : t ∈ l) : t.wf := by
  induction l with
  | nil => simp at ht
  | cons a l ih =>
    simp only [PT.wfs] at h
    rcases List.mem_cons.1 ht with rfl | ht
    · exact h.1
    · exact ih h.2 ht
theorem PT.join_wf {q p : PT} (h : q.wf) : (q.join p).wf := by
  rw [PT.wf_iff] at h ⊢
  exact h
theorem addT_wf {l : List PT} {p : PT} (h : PT.wfs l) (hp : p.wf) : PT.wfs (addT l p) := by
  rcases list_snoc l with rfl | ⟨r, q, rfl⟩
  · simp [addT, PT.wfs, hp]
  · rw [PT.wfs_append, PT.wfs_one] at h
    rw [addT_snoc]
    split
    · rw [PT.wfs_append, PT.wfs_one]; exact ⟨h.1, PT.join_wf h.2⟩
    · rw [PT.wfs_append]; exact ⟨h.1, by simp only [PT.wfs]; exact ⟨h.2, hp, trivial⟩⟩

/-! ### What quotes does -/
mutual
def PT.quoteT : PT → PT
  | .mk k _ t n o wd => .mk k true t n o (PT.quotesT wd [])
/-- Parts so far, and the quoted parts of what is left. -/
def PT.quotesT : List PT → List PT → List PT
  | [], out => out
  | t :: ts, out => PT.quotesT ts (addT out t.quoteT)
end
theorem PT.quotesT_append (b : List PT) : ∀ (a out : List PT), PT.quotesT (a ++ b) out = PT.quotesT b (PT.quotesT a out)
  | [], out => by simp [PT.quotesT]
  | t :: a, out => by simp only [List.cons_append, PT.quotesT]; exact PT.quotesT_append b a _
theorem PT.quotesT_snoc (l : List PT) (k : Nat) (h : k < l.length) : PT.quotesT (l.take (k + 1)) [] = addT (PT.quotesT (l.take k) []) l[k].quoteT := by
  rw [List.take_succ_eq_append_getElem h, PT.quotesT_append]; simp only [PT.quotesT]
theorem PT.quoteT_eq (t : PT) : t.quoteT = .mk t.kind true t.text t.name t.op (PT.quotesT t.word []) := by
  cases t; simp only [PT.quoteT, PT.kind, PT.text, PT.name, PT.op, PT.word]
mutual
theorem PT.quoteT_size : ∀ t : PT, t.quoteT.size ≤ t.size
  | .mk k q t n o wd => by
    have := PT.quotesT_size wd []
    simp only [PT.quoteT, PT.size, PT.sizes] at this ⊢; omega
theorem PT.quotesT_size : ∀ (l out : List PT), PT.sizes (PT.quotesT l out) ≤ PT.sizes out + PT.sizes l
  | [], out => by simp [PT.quotesT, PT.sizes]
  | t :: ts, out => by
    have h1 := PT.quoteT_size t
    have h2 := PT.quotesT_size ts (addT out t.quoteT)
    have h3 := addT_size out t.quoteT
    simp only [PT.quotesT, PT.sizes]; omega
end
mutual
theorem PT.quoteT_wf : ∀ t : PT, t.wf → t.quoteT.wf
  | .mk k q t n o wd, h => by
    simp only [PT.wf, PT.quoteT] at h ⊢
    exact ⟨h.1, h.2.1, PT.quotesT_wf wd [] h.2.2 (by simp [PT.wfs])⟩
theorem PT.quotesT_wf : ∀ (l out : List PT), PT.wfs l → PT.wfs out → PT.wfs (PT.quotesT l out)
  | [], out, _, h => by simpa only [PT.quotesT] using h
  | t :: ts, out, h, ho => by
    simp only [PT.wfs] at h
    simp only [PT.quotesT]
    exact PT.quotesT_wf ts _ h.2 (addT_wf ho (PT.quoteT_wf t h.1))
end
end Go.Proofs.YtdffbbfhcdhpdaaGreatDoor
