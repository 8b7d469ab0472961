/- codec.Object: the contract of the Go function. -/
import Derived.Test.YthppjfhbdohmbaaRight
import Derived.Test.YthppjfhbdohmbaaWriter4
namespace Go.Proofs.Ythppjfhbdohmbaa
open Go.RowKit

/-- All the bytes of an object. -/
def bytesE (o : Obj) : List Int := (objE o).foldl (· ++ ·) []
/-- The slice v holds the bytes bs, in a row laid behind w. -/
def Bytes (w w' : World) (v : Value) (bs : List Int) : Prop := ∃ g, w.heap.size ≤ g ∧ w'.ownsRow (g + 1) 5 1 v bs.length (u8s bs)
def objectPost (o : Obj) (w : World) (e : Ending) (w' : World) : Prop :=
  Below w.heap.size w w' ∧ if rightB o = true then ∃ v, e = .returned (.tuple #[v, .int .i64 0]) ∧ Bytes w w' v (bytesE o) else e = .returned (.tuple #[.slice none 0 0, .int .i64 2])

theorem size_of_nameOr' (s : ByteArray) (h : nameOr s = true) : s.size ≤ 40 := by
  cases hv : s.toList.isEmpty
  · exact size_of_nameOr s hv h
  · have h1 : s.toList = [] := by simpa using hv
    rw [ByteArray.toList_eq] at h1
    have h2 : s.data.toList.length = 0 := by rw [h1]; rfl
    have h3 : s.data.toList.length = s.size := by simp
    omega
theorem Obj.Fit.of {o : Obj} (h : o.Wf) (hr : rightB o = true) : o.Fit := by
  simp only [rightB, baseB, namesB, Obj.texts, List.all_cons, List.all_nil, Bool.and_true, Bool.and_eq_true, sizeB, decide_eq_true_eq] at hr
  obtain ⟨⟨⟨⟨⟨h1, h2⟩, n1, n2, n3, n4, n5, n6⟩, s1, s2⟩, s3, s4⟩, hk⟩ := hr
  have m := fun s h => size_of_nameOr' s h
  have hn : o.name.size ≤ 40 := by
    simp only [nameL, Bool.and_eq_true, decide_eq_true_eq] at h1
    have := h1.2
    simpa using this
  exact ⟨h.version, h.born, h.num, h.tag, ⟨s1, by omega⟩, ⟨s3, by omega⟩, h.kind, h.mode, h.phase, by omega, by have := m _ n1; omega, by have := m _ n2; omega, by have := m _ n3; omega, by have := m _ n4; omega, by have := m _ n5; omega, by have := m _ n6; omega⟩

set_option maxRecDepth 100000 in
set_option maxHeartbeats 1000000 in
theorem Object_any (o : Obj) (w : World) (h : o.Wf) : Calls Try.prog 7 #[.agg o.cells] w (objectPost o w) := by
  have HW := Lib.hid h
  clear h
  go_enter Try.func7, Try.ntmps7
  go_wp2_with fail
  refine (right_any o _ HW.out).mono ?_
  rintro e w1 ⟨rfl, hb⟩
  have HB := Lib.hid hb
  have hz := hb.size
  obtain ⟨hc, hr⟩ := below_rules hb
  clear hb
  simp only [World.size_alloc] at hz hc hr
  have hz2 : w.heap.size < w1.heap.size := hz
  cases hR : rightB o
  · have HR := Lib.hid hR
    clear hR
    go_wp2_with fail
    go_ret2
    refine ⟨?_, ?_⟩
    · exact ((Below.refl _ _).alloc (Nat.le_refl _) _).trans (HB.out.mono (by simp))
    · rw [HR.out]; rfl
  · have HR := Lib.hid hR
    clear hR
    go_wp2_with fail
    have hw0 : Wrt (w1.alloc (.cells #[.slice none 0 0] 71)) w1.heap.size (.slice none 0 0) [] := ⟨heap?_alloc_at _ _ _ rfl, ⟨rfl, .inl ⟨rfl, rfl⟩⟩⟩
    refine (object_any w1.heap.size _ [] o _ hw0 (Obj.Fit.of HW.out HR.out) (by simp)).mono ?_
    rintro e w2 ⟨rfl, v, hw, hu⟩
    have hc2 := cell_of_row w2 w1.heap.size 0 _ _ _ hw.cell
    have hs := hu.size
    simp only [World.size_alloc] at hs
    have hz3 : w1.heap.size < w2.heap.size := hs
    have HU := Lib.hid hu
    have HO := Lib.hid hw.own
    clear hw hu hw0
    go_wp2_with fail
    go_ret2
    refine ⟨?_, ?_⟩
    · refine (((Below.refl _ _).alloc (Nat.le_refl _) _).trans (HB.out.mono (by simp))).trans (((Below.refl _ _).alloc (by omega) _).trans (HU.out.below (by simp; omega) ?_))
      rintro k (rfl | ⟨hk, _⟩) <;> omega
    · rw [HR.out]; exact ⟨v, rfl, w1.heap.size, by omega, HO.out⟩
end Go.Proofs.Ythppjfhbdohmbaa
