/- object.Right: the contract of the Go function, joined. -/
import Derived.Test.YthppjfhbdohmbaaRightC
import Derived.Test.YthppjfhbdohmbaaRightD
import Derived.Test.YthppjfhbdohmbaaRightE
import Derived.Test.YthppjfhbdohmbaaRightF
import Derived.Test.YthppjfhbdohmbaaRightG
namespace Go.Proofs.Ythppjfhbdohmbaa
open Go.RowKit

theorem right_any (o : Obj) (w : World) (h : o.Wf) :
    Calls Try.prog 14 #[.agg o.cells] w fun e w' => e = .returned (.bool (rightB o)) ∧ Below w.heap.size w w' := by
  cases h1 : nameL o.name.data.toList
  · exact right_noName o w h h1
  by_cases h2 : restO o = Obj.zero o.kind
  case neg => exact right_noRest o w h h1 h2
  cases h3 : namesB o
  · exact right_noNames o w h h1 h2 h3
  cases h4 : sizeB o.size
  · exact right_noSize o w h h1 h2 h3 h4
  cases h5 : sizeB o.got
  · exact right_noGot o w h h1 h2 h3 h4 h5
  have e : rightB o = kindB o := by unfold rightB baseB; rw [h1, h3, h4, h5, decide_eq_true h2]; simp
  rw [e]
  by_cases k1 : o.kind = 1
  · exact right_1 o w h h1 h2 h3 h4 h5 k1
  by_cases k2 : o.kind = 2
  · exact right_2 o w h h1 h2 h3 h4 h5 k2
  by_cases k3 : o.kind = 3
  · exact right_3 o w h h1 h2 h3 h4 h5 k3
  by_cases k4 : o.kind = 4
  · cases v1 : o.cls.toList.isEmpty
    case true => exact right_4_0 o w h h1 h2 h3 h4 h5 k4 v1
    cases v2 : o.zone.toList.isEmpty
    case true => exact right_4_1 o w h h1 h2 h3 h4 h5 k4 v1 v2
    by_cases v3 : 0 < o.size
    case neg => exact right_4_2 o w h h1 h2 h3 h4 h5 k4 v1 v2 v3
    by_cases v4 : 0 < o.got
    case neg => exact right_4_3 o w h h1 h2 h3 h4 h5 k4 v1 v2 v3 v4
    by_cases v5 : o.mode = 1
    · cases v7 : oneB o.phase [3, 5]
      · exact right_4_m1_0 o w h h1 h2 h3 h4 h5 k4 v1 v2 v3 v4 v5 v7
      · cases v8 : o.claim.toList.isEmpty
        · exact right_4_m1_2 o w h h1 h2 h3 h4 h5 k4 v1 v2 v3 v4 v5 v7 v8
        · exact right_4_m1_1 o w h h1 h2 h3 h4 h5 k4 v1 v2 v3 v4 v5 v7 v8
    by_cases v6 : o.mode = 2
    · cases v7 : oneB o.phase [3, 5]
      · exact right_4_m2_0 o w h h1 h2 h3 h4 h5 k4 v1 v2 v3 v4 v6 v7
      · cases v8 : o.claim.toList.isEmpty
        · exact right_4_m2_2 o w h h1 h2 h3 h4 h5 k4 v1 v2 v3 v4 v6 v7 v8
        · exact right_4_m2_1 o w h h1 h2 h3 h4 h5 k4 v1 v2 v3 v4 v6 v7 v8
    exact right_4_4 o w h h1 h2 h3 h4 h5 k4 v1 v2 v3 v4 v5 v6
  by_cases k5 : o.kind = 5
  · exact right_5 o w h h1 h2 h3 h4 h5 k5
  by_cases k6 : o.kind = 6
  · exact right_6 o w h h1 h2 h3 h4 h5 k6
  by_cases k7 : o.kind = 7
  · exact right_7 o w h h1 h2 h3 h4 h5 k7
  exact right_0 o w h h1 h2 h3 h4 h5 ⟨k1, k2, k3, k4, k5, k6, k7⟩
end Go.Proofs.Ythppjfhbdohmbaa
