/- ref08.Parse on every text. -/
import Derived.Test.YtdffbbfhcdhpdaaGreatDoorF8
namespace Go.Proofs.YtdffbbfhcdhpdaaGreatDoor
open Go.RowKit

theorem parts_all : ∀ n d : Nat, 31 ≤ d + n → d ≤ 100 → PartsC d
  | 0, d, h, hd => parts_deep d (by omega) hd
  | n + 1, d, h, hd => by
    by_cases h30 : d ≤ 30
    · have ih := parts_all n (d + 1) (by omega) (by omega)
      have hBr : BracesC d := fun s q w hs => braces_step d h30 ih s q w hs
      have hD : DollarC d := fun s q w h1 h2 => dollar_step d hBr s q w h1 h2
      exact parts_step d h30 hD (double_step d hD)
    · exact parts_deep d (by omega) hd
set_option maxRecDepth 100000 in
set_option maxHeartbeats 400000 in
theorem parse_any (s : List UInt8) (w : World) (hs : s.length ≤ 1048576) : Calls Tryz.prog 14 #[S s] w (PaE s w) := by
  have hP := Lib.hid (parts_all 31 1 (by omega) (by omega))
  go_enter Tryz.func14, Tryz.ntmps14
  go_wp2_with fail
  refine (hP.out s _ hs).mono ?_
  rintro e w1 ⟨v, ts, err, rfl, ht, hok, hb⟩
  obtain ⟨a, c, rfl⟩ := ht.slice
  have H := Lib.hid (And.intro ht (And.intro hok hb))
  clear ht hok hb
  generalize ts.length = n at *
  go_wp2_with fail
  go_ret2
  exact ⟨_, ts, err, rfl, H.out.1, H.out.2.1, H.out.2.2⟩
end Go.Proofs.YtdffbbfhcdhpdaaGreatDoor
