/- the plain laws behind ExpandQuoted. -/
import Derived.Test.YtdffbbfhcdhpdaaGreatDoorD5
namespace Go.Proofs.YtdffbbfhcdhpdaaGreatDoor
open Go.RowKit

theorem fieldsOf_one (ifs t : List UInt8) : fieldsOf ifs [⟨1, t⟩] = [escape t] := by
  simp [fieldsOf, splAll, splTake, SplD.put, SplD.ended]
theorem splAll_args (k : List (List UInt8)) : ∀ x : SplD, x.begun = true → (splAll x (k.flatMap fun c => [⟨3, []⟩, ⟨1, c⟩])).begun = true ∧ (splAll x (k.flatMap fun c => [⟨3, []⟩, ⟨1, c⟩])).ended.out = x.ended.out ++ k.map escape := by
  induction k with
  | nil => intro x hx; simp [splAll, hx]
  | cons c k ih =>
    intro x hx
    have h1 : splAll x ((c :: k).flatMap fun c => [⟨3, []⟩, ⟨1, c⟩]) = splAll (splTake (splTake x ⟨3, []⟩) ⟨1, c⟩) (k.flatMap fun c => [⟨3, []⟩, ⟨1, c⟩]) := by simp [splAll]
    have h2 : (splTake (splTake x ⟨3, []⟩) ⟨1, c⟩).begun = true := by simp [splTake, SplD.put]
    have h3 : (splTake (splTake x ⟨3, []⟩) ⟨1, c⟩).ended.out = x.ended.out ++ [escape c] := by simp [splTake, SplD.put, SplD.ended, hx]
    obtain ⟨i1, i2⟩ := ih _ h2
    rw [h1]
    exact ⟨i1, by rw [i2, h3]; simp⟩
theorem fieldsOf_args (ifs : List UInt8) (l : List (List UInt8)) : fieldsOf ifs (argSegs 1 l) = l.map escape := by
  cases l with
  | nil => simp [fieldsOf, argSegs, splAll]
  | cons a r =>
    have h0 : (splTake ⟨ifs, [], [], false, false⟩ ⟨1, a⟩).begun = true := by simp [splTake, SplD.put]
    have h1 : (splTake ⟨ifs, [], [], false, false⟩ ⟨1, a⟩).ended.out = [escape a] := by simp [splTake, SplD.put, SplD.ended]
    obtain ⟨i1, i2⟩ := splAll_args r _ h0
    have h2 : splAll ⟨ifs, [], [], false, false⟩ (argSegs 1 (a :: r)) = splAll (splTake ⟨ifs, [], [], false, false⟩ ⟨1, a⟩) (r.flatMap fun c => [⟨3, []⟩, ⟨1, c⟩]) := by simp [splAll, argSegs]
    unfold fieldsOf
    rw [h2]
    dsimp only
    rw [i1, if_pos rfl, i2, h1]; simp
def slen (l : List (List UInt8)) : Nat := (l.map List.length).sum
theorem slen_snoc (l : List (List UInt8)) (k : Nat) (h : k < l.length) : slen (l.take (k + 1)) = slen (l.take k) + l[k].length := by
  rw [List.take_succ_eq_append_getElem h]; simp only [slen, List.map_append, List.map_cons, List.map_nil, List.sum_append, List.sum_cons, List.sum_nil, Nat.add_zero]
theorem slen_le (l : List (List UInt8)) (m : Nat) (h : ∀ a ∈ l, a.length ≤ m) : slen l ≤ l.length * m := by
  induction l with
  | nil => simp [slen]
  | cons a l ih =>
    have h1 := h a (List.mem_cons_self ..)
    have h2 := ih (fun b hb => h b (List.mem_cons_of_mem _ hb))
    simp only [slen, List.map_cons, List.sum_cons, List.length_cons] at h2 ⊢
    rw [Nat.succ_mul]; omega
theorem slen_mem (l : List (List UInt8)) : ∀ a ∈ l, a.length ≤ slen l := by
  induction l with
  | nil => simp
  | cons b l ih =>
    intro a ha
    simp only [slen, List.map_cons, List.sum_cons] at ih ⊢
    rcases List.mem_cons.1 ha with rfl | ha
    · omega
    · have := ih a ha; omega
theorem splSize_args (l : List (List UInt8)) : splSize (argSegs 1 l) ≤ 2 * slen l + 2 * l.length := by
  have hr : ∀ r : List (List UInt8), splSize (r.flatMap fun c => [⟨3, []⟩, ⟨1, c⟩]) = 2 * slen r + 2 * r.length := by
    intro r
    induction r with
    | nil => simp [splSize, slen]
    | cons c r ih => simp only [splSize, slen, List.flatMap_cons, List.map_append, List.map_cons, List.map_nil, List.sum_append, List.sum_cons, List.sum_nil, List.length_cons, List.length_nil] at ih ⊢; omega
  cases l with
  | nil => simp [splSize, argSegs]
  | cons a r =>
    have := hr r
    simp only [splSize, slen, argSegs, List.map_cons, List.sum_cons, List.length_cons] at this ⊢
    omega
theorem map_plain_escape (l : List (List UInt8)) : (l.map escape).map plain = l := by
  rw [List.map_map]; exact (List.map_congr_left (fun a _ => plain_escape a)).trans (List.map_id l)
theorem join_len (l : List (List UInt8)) : (Lib.join l [32]).length ≤ slen l + l.length := by
  induction l with
  | nil => simp [Lib.join]
  | cons a r ih =>
    cases r with
    | nil => simp [Lib.join, slen]
    | cons b r =>
      simp [Lib.join, slen] at ih ⊢
      omega
end Go.Proofs.YtdffbbfhcdhpdaaGreatDoor
