/- maps with texts as keys, made by the call: what a store of a new key and a look-up do; expander.param's table. -/
import Derived.Test.YtdffbbfhcdhpdaaGreatDoorB3
namespace Go.Proofs.YtdffbbfhcdhpdaaGreatDoor
open Go.RowKit

theorem run_checkKey_string {P : Program} {K : TypeId} (hK : P.underlying K = some .string) (b : Bool) (n : Nat) (s : ByteArray) (w : World) : (Instr.checkKey b (n + 1) K (.string s)).run P w = .ok () w := by
  simp [Instr.checkKey, run_underlying hK]
/-- m[k] = v, k a new key, in a map that lies in the last block. -/
theorem run_mapUpdate_fresh {P : Program} {T K E : TypeId} (hT : P.underlying T = some (.map K E)) (hK : P.underlying K = some .string) (es : Array MapEntry) (clock : Nat) (k : ByteArray) (v : Value)
    (hf : Instr.findNow .string (.string k) es.toList 0 = some none) (w : World) (r : Nat) (hr : r = w.heap.size) :
    (Instr.mapUpdate T (.map (some r)) (.string k) v).run P (w.alloc (.map es clock)) = .ok () (w.alloc (.map (es.push { key := .string k, val := v, born := clock }) (clock + 1))) := by
  subst hr
  have h1 : (w.alloc (.map es clock)).heap[w.heap.size]? = some (.map es clock) := blk_new w _
  have hc := run_checkKey_string (P := P) hK false 9999 k (w.alloc (.map es clock))
  simp only [Instr.mapUpdate, Sem.run_bind, run_underlying hT, getObj, Sem.run, h1, Result.andThen, hc, Instr.findKey, run_underlying hK, hf, setObj, Sem.run_pure]
  have ha : ∀ (h : Array Obj) (o o' : Obj), (h.push o).setIfInBounds h.size o' = h.push o' := fun h o o' => by
    apply Array.ext'
    simp
  show Result.ok () ({ w with heap := (w.heap.push _).setIfInBounds w.heap.size _ } : World) = .ok () ({ w with heap := w.heap.push _ } : World)
  rw [ha]
/-- v, ok := m[k], k there. -/
theorem run_lookup_there {P : Program} {T K E : TypeId} (hT : P.underlying T = some (.map K E)) (hK : P.underlying K = some .string) (es : Array MapEntry) (clock : Nat) (k : ByteArray) (v : Value) (i : Nat)
    (hf : Instr.findNow .string (.string k) es.toList 0 = some (some (i, v))) (w : World) (r : Nat) (h1 : w.heap[r]? = some (.map es clock)) :
    (Instr.lookup T (.map (some r)) (.string k) true).run P w = .ok (.tuple #[v, .bool true]) w := by
  have hc := run_checkKey_string (P := P) hK es.isEmpty 9999 k w
  simp only [Instr.lookup, Sem.run_bind, run_underlying hT, getObj, Sem.run, h1, Result.andThen, hc, Instr.findKey, run_underlying hK, hf, Sem.run_pure, if_true]
/-- .. k not there. -/
theorem run_lookup_none {P : Program} {T K E : TypeId} (hT : P.underlying T = some (.map K E)) (hK : P.underlying K = some .string) (z : Value) (hz : ∀ w, (zeroValue E).run P w = .ok z w) (es : Array MapEntry) (clock : Nat) (k : ByteArray)
    (hf : Instr.findNow .string (.string k) es.toList 0 = some none) (w : World) (r : Nat) (h1 : w.heap[r]? = some (.map es clock)) :
    (Instr.lookup T (.map (some r)) (.string k) true).run P w = .ok (.tuple #[z, .bool false]) w := by
  have hc := run_checkKey_string (P := P) hK es.isEmpty 9999 k w
  simp only [Instr.lookup, Sem.run_bind, run_underlying hT, getObj, Sem.run, h1, Result.andThen, hc, Instr.findKey, run_underlying hK, hf, Sem.run_pure, hz, if_true]

abbrev fnv (f : Nat) : Value := .func (.func f) #[] #[]
abbrev ent (k : List UInt8) (f : Nat) (i : Nat) : MapEntry := { key := S k, val := fnv f, born := i }
/-- expander.param's table of ways. -/
def ways : Array MapEntry := #[ent [] 125 0, ent [108, 101, 110] 126 1, ent [45] 127 2, ent [61] 128 3, ent [63] 129 4, ent [43] 130 5]
theorem ways0 (w : World) (r : Nat) (hr : r = w.heap.size) : (Instr.mapUpdate 196 (.map (some r)) (.string ⟨#[]⟩) (fnv 125)).run Tryz.prog (w.alloc (.map #[] 0)) = .ok () (w.alloc (.map (ways.extract 0 1) 1)) :=
  run_mapUpdate_fresh (T := 196) Tryz.underlying196 Tryz.underlying9 #[] 0 ⟨#[]⟩ (fnv 125) (by kernel_rfl) w r hr
theorem ways1 (w : World) (r : Nat) (hr : r = w.heap.size) : (Instr.mapUpdate 196 (.map (some r)) (.string ⟨#[108, 101, 110]⟩) (fnv 126)).run Tryz.prog (w.alloc (.map (ways.extract 0 1) 1)) = .ok () (w.alloc (.map (ways.extract 0 2) 2)) :=
  run_mapUpdate_fresh (T := 196) Tryz.underlying196 Tryz.underlying9 (ways.extract 0 1) 1 ⟨#[108, 101, 110]⟩ (fnv 126) (by kernel_rfl) w r hr
theorem ways2 (w : World) (r : Nat) (hr : r = w.heap.size) : (Instr.mapUpdate 196 (.map (some r)) (.string ⟨#[45]⟩) (fnv 127)).run Tryz.prog (w.alloc (.map (ways.extract 0 2) 2)) = .ok () (w.alloc (.map (ways.extract 0 3) 3)) :=
  run_mapUpdate_fresh (T := 196) Tryz.underlying196 Tryz.underlying9 (ways.extract 0 2) 2 ⟨#[45]⟩ (fnv 127) (by kernel_rfl) w r hr
theorem ways3 (w : World) (r : Nat) (hr : r = w.heap.size) : (Instr.mapUpdate 196 (.map (some r)) (.string ⟨#[61]⟩) (fnv 128)).run Tryz.prog (w.alloc (.map (ways.extract 0 3) 3)) = .ok () (w.alloc (.map (ways.extract 0 4) 4)) :=
  run_mapUpdate_fresh (T := 196) Tryz.underlying196 Tryz.underlying9 (ways.extract 0 3) 3 ⟨#[61]⟩ (fnv 128) (by kernel_rfl) w r hr
theorem ways4 (w : World) (r : Nat) (hr : r = w.heap.size) : (Instr.mapUpdate 196 (.map (some r)) (.string ⟨#[63]⟩) (fnv 129)).run Tryz.prog (w.alloc (.map (ways.extract 0 4) 4)) = .ok () (w.alloc (.map (ways.extract 0 5) 5)) :=
  run_mapUpdate_fresh (T := 196) Tryz.underlying196 Tryz.underlying9 (ways.extract 0 4) 4 ⟨#[63]⟩ (fnv 129) (by kernel_rfl) w r hr
theorem ways5 (w : World) (r : Nat) (hr : r = w.heap.size) : (Instr.mapUpdate 196 (.map (some r)) (.string ⟨#[43]⟩) (fnv 130)).run Tryz.prog (w.alloc (.map (ways.extract 0 5) 5)) = .ok () (w.alloc (.map (ways.extract 0 6) 6)) :=
  run_mapUpdate_fresh (T := 196) Tryz.underlying196 Tryz.underlying9 (ways.extract 0 5) 5 ⟨#[43]⟩ (fnv 130) (by kernel_rfl) w r hr
end Go.Proofs.YtdffbbfhcdhpdaaGreatDoor
