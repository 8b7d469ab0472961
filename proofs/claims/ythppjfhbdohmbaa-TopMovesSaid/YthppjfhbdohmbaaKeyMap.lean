/- Maps whose keys are api.Key: what such a key reads as; and the map of what was seen. -/
import Derived.Test.YthppjfhbdohmbaaOpen
import Derived.Maps.Own
import Derived.Maps.OwnIn
import Derived.Maps.Views
import Derived.DeepKeys4
import Derived.StringKeys
namespace Go.Proofs.Ythppjfhbdohmbaa
open Go.RowKit Go.Maps Go.ChangeMaps Go.WideMaps

theorem lawKey : Keyed Try.prog 57 :=
  Keyed.of_law (deep_law_laid (by kernel_rfl) (m := 2) (by omega) (of_decide_eq_true (by kernel_rfl)) (by kernel_rfl) (by rw [Try.underlying57]))

def keyLit (k : Int) (s : ByteArray) : Lit := .string (keyBytes [.int .u8 k, .string s.data.toList])
theorem keyOf_key (k : Int) (s : ByteArray) (hk : (Lit.int .u8 k).wf = true) (hs : s.size ≤ maxLen) : keyOf Try.prog 57 (.agg (Key.cells ⟨k, s⟩)) = some (keyLit k s) := by
  have hkt : Try.prog.keyType 57 = true := by kernel_rfl
  have hc : Try.prog.cellsOf 57 = 2 := by kernel_rfl
  have h0 : Try.prog.cellsOf 22 = 1 := by kernel_rfl
  have h1 : Try.prog.cellsOf 9 = 1 := by kernel_rfl
  obtain ⟨m, hm⟩ : ∃ m, Try.prog.types.size = m + 1 := ⟨Try.prog.types.size - 1, by have : 0 < Try.prog.types.size := of_decide_eq_true (by kernel_rfl); omega⟩
  unfold keyOf
  simp only [Try.underlying57]
  rw [if_pos (by simp [hkt, Value.formed, Try.underlying57, hc, Key.cells]), hm]
  unfold Program.keyLits
  simp only [Try.underlying57, Value.cells]
  rw [if_pos (by rw [hc]; exact ⟨rfl, by simp⟩)]
  simp [Key.cells, h0, h1, Program.keyLits, Try.underlying22, Try.underlying9, hk, hs, keyLit]
theorem keyLit_inj {k k' : Int} {s s' : ByteArray} (hk : (Lit.int .u8 k).wf = true) (hs : s.size ≤ maxLen) (hk' : (Lit.int .u8 k').wf = true) (hs' : s'.size ≤ maxLen) (h : keyLit k s = keyLit k' s') : k = k' ∧ s = s' := by
  have h1 := lawKey.inj (keyOf_key k s hk hs) (h ▸ keyOf_key k' s' hk' hs')
  simp only [Key.cells, Value.agg.injEq, Array.mk.injEq, List.cons.injEq, Value.int.injEq, Value.string.injEq] at h1
  exact ⟨h1.1.2, h1.2.1⟩
end Go.Proofs.Ythppjfhbdohmbaa
