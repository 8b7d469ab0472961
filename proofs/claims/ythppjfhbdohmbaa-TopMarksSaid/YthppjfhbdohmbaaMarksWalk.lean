/- The law TopMarks: the walk. -/
import Derived.Test.YthppjfhbdohmbaaMarks
namespace Go.Proofs.Ythppjfhbdohmbaa
open Go.RowKit

set_option maxRecDepth 100000 in
set_option maxHeartbeats 4000000 in
theorem marks_0 (o : Obj) (w : World) (h : o.Wf) (hr : rightB o = false) : Calls Try.prog 3 #[.agg o.cells] w fun e w' => e = .returned (.bool true) ∧ Below w.heap.size w w' := by
  have HW := Lib.hid h
  have HR := Lib.hid hr
  have HU : Hid (userB o = false) := by unfold Hid userB; rw [hr]; rfl
  have HM : Hid (rightB o.marked = false) := (marked_right o).trans hr
  clear h hr
  go_enter Try.func3, Try.ntmps3
  go_wp2_with fail
  refine (Object_any o _ HW.out).mono ?_
  rintro e w1 ⟨hb, hp⟩
  rw [if_neg (by rw [HR.out]; decide)] at hp
  subst hp
  have HB1 : Hid (Below w.heap.size w w1) := ((Below.refl _ _).alloc (Nat.le_refl _) _).trans (hb.mono (by simp))
  obtain ⟨hc, hrr⟩ := below_rules hb
  have hz := hb.size
  simp only [World.size_alloc] at hc hrr hz
  have hz2 : w.heap.size < w1.heap.size := hz
  clear hb
  go_wp2_with fail
  refine (Object_any o.marked (w1.alloc (.cells o.marked.cells 27)) (marked_wf HW.out)).mono ?_
  rintro e w2 ⟨hb, hp⟩
  rw [if_neg (by rw [HM.out]; decide)] at hp
  subst hp
  have HB2 : Hid (Below w.heap.size w w2) := HB1.out.trans ((((Below.refl _ _).alloc (Nat.le_refl _) (.cells o.marked.cells 27)).trans (hb.mono (by simp))).mono (by omega))
  obtain ⟨hc2, hr2⟩ := below_rules hb
  have hz3 := hb.size
  simp only [World.size_alloc] at hc2 hr2 hz3
  have hz4 : w1.heap.size < w2.heap.size := hz3
  clear hb
  go_wp2_with fail
  refine (user_any o _ HW.out).mono ?_
  rintro e w3 ⟨rfl, hb⟩
  have HB3 : Hid (Below w.heap.size w w3) := HB2.out.trans (hb.mono (by omega))
  clear hb
  rw [HU.out]
  go_wp2_with fail
  go_ret
  exact ⟨rfl, HB3.out⟩

set_option maxRecDepth 100000 in
set_option maxHeartbeats 4000000 in
theorem marks_1 (o : Obj) (w : World) (h : o.Wf) (hr : rightB o = true) : Calls Try.prog 3 #[.agg o.cells] w fun e w' => e = .returned (.bool true) ∧ Below w.heap.size w w' := by
  have HW := Lib.hid h
  have HR := Lib.hid hr
  have HM : Hid (rightB o.marked = true) := (marked_right o).trans hr
  clear h hr
  go_enter Try.func3, Try.ntmps3
  go_wp2_with fail
  refine (Object_any o _ HW.out).mono ?_
  rintro e w1 ⟨hb, hp⟩
  rw [if_pos HR.out] at hp
  obtain ⟨va, rfl, ga, hga, hoa⟩ := hp
  have HB1 : Hid (Below w.heap.size w w1) := ((Below.refl _ _).alloc (Nat.le_refl _) _).trans (hb.mono (by simp))
  obtain ⟨hc, hrr⟩ := below_rules hb
  have hz := hb.size
  simp only [World.size_alloc] at hc hrr hz
  have hz2 : w.heap.size < w1.heap.size := hz
  have HOA := Lib.hid hoa
  have HPA := Lib.hid (byte_all o HW.out)
  clear hb hoa
  go_wp2_with fail
  refine (Object_any o.marked (w1.alloc (.cells o.marked.cells 27)) (marked_wf HW.out)).mono ?_
  rintro e w2 ⟨hb, hp⟩
  rw [if_pos HM.out] at hp
  obtain ⟨vb, rfl, gb, hgb, hob⟩ := hp
  have HB2 : Hid (Below w.heap.size w w2) := HB1.out.trans ((((Below.refl _ _).alloc (Nat.le_refl _) (.cells o.marked.cells 27)).trans (hb.mono (by simp))).mono (by omega))
  obtain ⟨hc2, hr2⟩ := below_rules hb
  have hz3 := hb.size
  simp only [World.size_alloc] at hc2 hr2 hz3
  have hz4 : w1.heap.size < w2.heap.size := hz3
  have hoa2 := own_keep (own_keep HOA.out ((Below.refl _ _).alloc (Nat.le_refl _) (.cells o.marked.cells 27))) (hb.mono (by simp))
  have hpos : 0 < (bytesE o).length := by rw [bytesE_split]; simp; omega
  obtain ⟨pa, ca, rfl, hca⟩ := own_convert hoa2 hpos HPA.out
  obtain ⟨pb, cb, rfl, hcb⟩ := own_convert hob (by rw [marked_length]; exact hpos) (byte_all o.marked (marked_wf HW.out))
  have hne : strOf (bytesE o) ≠ strOf (bytesE o.marked) := fun e => marked_ne o (strOf_inj HPA.out (byte_all o.marked (marked_wf HW.out)) e)
  have hl := marked_length o
  rw [hl] at hcb
  generalize strOf (bytesE o) = sa at hca hne
  generalize strOf (bytesE o.marked) = sb at hcb hne
  have hne1 : (sa.toList == sb.toList) = false := by rw [beqB]; simpa using hne
  have hne2 : ¬ sa.toList = sb.toList := by simpa using hne1
  clear hb hob hoa2
  go_wp2_with fail
  refine (user_any o _ HW.out).mono ?_
  rintro e w3 ⟨rfl, hb⟩
  have HB3 : Hid (Below w.heap.size w w3) := HB2.out.trans (hb.mono (by omega))
  obtain ⟨hc3, hr3⟩ := below_rules hb
  have hz5 := hb.size
  have hz6 : w1.heap.size < w3.heap.size := by omega
  clear hb
  cases hU : userB o
  · have HU := Lib.hid hU
    clear hU
    go_wp2_with fail
    go_ret
    exact ⟨rfl, HB3.out⟩
  · have HUM : Hid (userB o.marked = false) := by
      unfold Hid
      simp only [userB, Bool.and_eq_true, Bool.not_eq_true'] at hU
      have hd : o.marked.deleting = true := by simp [Obj.marked, hU.1.1.1.1.1.2]
      unfold userB
      rw [hd]; simp
    clear hU
    go_wp2_with fail
    refine (user_any o.marked _ (marked_wf HW.out)).mono ?_
    rintro e w4 ⟨rfl, hb⟩
    have HB4 : Hid (Below w.heap.size w w4) := HB3.out.trans (hb.mono (by omega))
    clear hb
    rw [HUM.out]
    go_wp2_with fail
    go_ret
    exact ⟨rfl, HB4.out⟩

theorem marks_any (o : Obj) (w : World) (h : o.Wf) : Calls Try.prog 3 #[.agg o.cells] w fun e w' => e = .returned (.bool true) ∧ Below w.heap.size w w' := by
  cases hr : rightB o
  · exact marks_0 o w h hr
  · exact marks_1 o w h hr
end Go.Proofs.Ythppjfhbdohmbaa
