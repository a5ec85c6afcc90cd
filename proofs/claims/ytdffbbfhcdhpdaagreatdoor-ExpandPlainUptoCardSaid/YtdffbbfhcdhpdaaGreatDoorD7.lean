/- Fields and Text on the three quoted parts of ExpandQuoted. -/
import Derived.Test.YtdffbbfhcdhpdaaGreatDoorD6
namespace Go.Proofs.YtdffbbfhcdhpdaaGreatDoor
open Go.RowKit

abbrev qvars (s : List UInt8) : List VarD := [⟨[118], s, false, false⟩]
structure QW (s : List UInt8) (al : List (List UInt8)) (vv av : Value) (w : World) : Prop where
  glob : Glob w
  vars : Sl w.heap.size 27 w vv 1 4 (varCells (qvars s))
  args : Sl w.heap.size 9 w av al.length 1 (al.map S)
theorem QW.ext {s : List UInt8} {al : List (List UInt8)} {vv av : Value} {w w' : World} (h : QW s al vv av w) (hb : Below w.heap.size w w') : QW s al vv av w' :=
  ⟨h.glob.ext hb, (h.vars.ext hb).top, (h.args.ext hb).top⟩

def QOut (fs : List (List UInt8)) (s : List UInt8) (al : List (List UInt8)) (W : World) (e : Ending) (w' : World) : Prop :=
  ∃ r vv' av', e = .returned (.tuple #[r, .agg #[vv', av', I 0], I 0]) ∧ (∃ a c, r = .slice a fs.length c) ∧ (∃ a c, vv' = .slice a 1 c) ∧ (∃ a c, av' = .slice a al.length c) ∧
    Sl w'.heap.size 9 w' r fs.length 1 (fs.map S) ∧ QW s al vv' av' w' ∧ Below W.heap.size W w'

theorem fields_quoted (p : PartS) (fs : List (List UInt8)) (s : List UInt8) (al : List (List UInt8)) (vv av pv pr : Value) (W : World) (h : QW s al vv av W) (hp : Sl W.heap.size 42 W pv 1 6 p.cells) (hok : PartOk (qvars s) p)
    (hfs : fieldsOf (ifsOf (qvars s)) (partSegs (qvars s) al p) = fs.map escape) (hsz : splSize (partSegs (qvars s) al p) ≤ 1073741824) (h200 : ∀ f ∈ fs, f.length ≤ 200) (hn : fs.length ≤ 10) (hal : al.length ≤ 10) (hsl : slen al ≤ 200) :
    Calls Tryz.prog 10 #[pr, pv, .agg #[vv, av, I 0], NilS] W fun e w' => QOut fs s al W e w' := by
  have hj := join_len al
  have e1 : ([p] : List PartS).flatMap (partSegs (qvars s) al) = partSegs (qvars s) al p := by simp
  refine (fieldsAll_any vv av NilS pv pr ⟨qvars s, al, 0, [], []⟩ [p] W h.glob h.vars h.args (Sl.nil _ _ _ _) (by simpa [partCells] using hp) (fun q hq => by obtain rfl := List.mem_singleton.1 hq; exact hok) (by simp) (by dsimp only; omega) (by simp; omega) (vmono_one _ _) (by rw [e1]; exact hsz) ?_ ?_).mono ?_
  · rw [e1, hfs]
    intro f hf
    obtain ⟨g, hg, rfl⟩ := List.mem_map.1 hf
    have := h200 g hg
    exact ⟨.inl (special_escape g), by rw [escape_length]; omega⟩
  · rw [e1, hfs, List.length_map]; omega
  · rintro e w' ⟨r, vv', av', rfl, hr, hv, ha, hb⟩
    rw [e1, hfs, List.length_map, map_plain_escape] at hr
    exact ⟨r, vv', av', rfl, hr.slice, hv.slice, ha.slice, hr, ⟨h.glob.ext hb, hv, ha⟩, hb⟩

theorem vget_v (s : List UInt8) : vget (qvars s) [118] = ⟨[118], s, false, false⟩ := rfl
abbrev part1 (s : List UInt8) : PartS := ⟨0, true, s, [], [], NilS⟩
abbrev part2 : PartS := ⟨1, true, [], [118], [], NilS⟩
abbrev part3 : PartS := ⟨1, true, [], [64], [], NilS⟩
abbrev part4 : PartS := ⟨1, false, [], [118], [], NilS⟩
theorem nameOk_v (s : List UInt8) : NameOk (qvars s) [118] := .inr ⟨by decide, by simp, vmono_one _ _⟩

theorem fq1 (s : List UInt8) (al : List (List UInt8)) (vv av pv pr : Value) (W : World) (h : QW s al vv av W) (hp : Sl W.heap.size 42 W pv 1 6 (part1 s).cells) (hs : s.length ≤ 200) (hal : al.length ≤ 10) (hsl : slen al ≤ 200) :
    Calls Tryz.prog 10 #[pr, pv, .agg #[vv, av, I 0], NilS] W fun e w' => QOut [s] s al W e w' := by
  have e1 : partSegs (qvars s) al (part1 s) = [⟨1, s⟩] := by simp [partSegs]
  exact fields_quoted (part1 s) [s] s al vv av pv pr W h hp ⟨⟨_, _, _, rfl⟩, .inl rfl⟩ (by rw [e1, fieldsOf_one]; rfl) (by rw [e1]; simp [splSize]; omega) (by intro f hf; obtain rfl := List.mem_singleton.1 hf; exact hs) (by simp) hal hsl
theorem fq2 (s : List UInt8) (al : List (List UInt8)) (vv av pv pr : Value) (W : World) (h : QW s al vv av W) (hp : Sl W.heap.size 42 W pv 1 6 part2.cells) (hs : s.length ≤ 200) (hal : al.length ≤ 10) (hsl : slen al ≤ 200) :
    Calls Tryz.prog 10 #[pr, pv, .agg #[vv, av, I 0], NilS] W fun e w' => QOut [s] s al W e w' := by
  have e1 : partSegs (qvars s) al part2 = [⟨1, s⟩] := by simp [partSegs, paramSegs, vget_v, PartS.seg]
  exact fields_quoted part2 [s] s al vv av pv pr W h hp ⟨⟨_, _, _, rfl⟩, .inr ⟨rfl, rfl, nameOk_v s⟩⟩ (by rw [e1, fieldsOf_one]; rfl) (by rw [e1]; simp [splSize]; omega) (by intro f hf; obtain rfl := List.mem_singleton.1 hf; exact hs) (by simp) hal hsl
theorem fq3 (s : List UInt8) (al : List (List UInt8)) (vv av pv pr : Value) (W : World) (h : QW s al vv av W) (hp : Sl W.heap.size 42 W pv 1 6 part3.cells) (hal : al.length ≤ 10) (hsl : slen al ≤ 200) :
    Calls Tryz.prog 10 #[pr, pv, .agg #[vv, av, I 0], NilS] W fun e w' => QOut al s al W e w' := by
  have e1 : partSegs (qvars s) al part3 = argSegs 1 al := by simp [partSegs, paramSegs, PartS.seg]
  have h1 := splSize_args al
  exact fields_quoted part3 al s al vv av pv pr W h hp ⟨⟨_, _, _, rfl⟩, .inr ⟨rfl, rfl, .inl rfl⟩⟩ (by rw [e1, fieldsOf_args]) (by rw [e1]; omega) (fun f hf => Nat.le_trans (slen_mem al f hf) hsl) hal hal hsl
def TOut (s : List UInt8) (al : List (List UInt8)) (W : World) (e : Ending) (w' : World) : Prop :=
  ∃ vv' av', e = .returned (.tuple #[S s, .agg #[vv', av', I 0], I 0]) ∧ (∃ a c, vv' = .slice a 1 c) ∧ (∃ a c, av' = .slice a al.length c) ∧ QW s al vv' av' w' ∧ Below W.heap.size W w'
theorem tq4 (s : List UInt8) (al : List (List UInt8)) (vv av pv : Value) (W : World) (h : QW s al vv av W) (hp : Sl W.heap.size 42 W pv 1 6 part4.cells) (hs : s.length ≤ 200) (hal : al.length ≤ 10) (hsl : slen al ≤ 200) :
    Calls Tryz.prog 11 #[pv, .agg #[vv, av, I 0], NilS, .bool false] W fun e w' => TOut s al W e w' := by
  have hj := join_len al
  have e1 : ([part4] : List PartS).flatMap (partSegs (qvars s) al) = [⟨2, s⟩] := by simp [partSegs, paramSegs, vget_v, PartS.seg]
  have e2 : joined [⟨2, s⟩] false = s := by simp [joined, segOut]
  refine (text_any vv av NilS pv ⟨qvars s, al, 0, [], []⟩ [part4] false W h.glob h.vars h.args (Sl.nil _ _ _ _) (by simpa [partCells] using hp) (fun q hq => by obtain rfl := List.mem_singleton.1 hq; exact ⟨⟨_, _, _, rfl⟩, .inr ⟨rfl, rfl, nameOk_v s⟩⟩) (by simp) (by dsimp only; omega) (by simp; omega) ?_ ?_).mono ?_
  · rw [e1]
    intro f hf
    obtain rfl := List.mem_singleton.1 hf
    show s.length ≤ _
    omega
  · rw [e1, e2]; omega
  · rintro e w' ⟨vv', av', rfl, hv, ha, hb⟩
    rw [e1, e2]
    exact ⟨vv', av', rfl, hv.slice, ha.slice, ⟨h.glob.ext hb, hv, ha⟩, hb⟩
end Go.Proofs.YtdffbbfhcdhpdaaGreatDoor
