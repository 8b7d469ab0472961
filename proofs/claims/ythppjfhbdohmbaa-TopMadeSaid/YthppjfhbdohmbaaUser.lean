/- object.User: the contract of the Go function. -/
import Derived.Test.YthppjfhbdohmbaaCodec
namespace Go.Proofs.Ythppjfhbdohmbaa
open Go.RowKit

def userK (o : Obj) : Bool :=
  if o.kind = 3 then o.phase == 1 && emptyB o.node && emptyB o.zone && o.got == 0
  else if o.kind = 4 then o.phase == 4 && emptyB o.claim && o.got == o.size
  else if o.kind = 6 then emptyB o.node
  else if o.kind = 7 then o.phase == 1 && emptyB o.volume && o.got == 0
  else o.kind != 5
def userB (o : Obj) : Bool := rightB o && !o.deleting && (o.version == 0) && (o.born == 0) && (o.num == 0) && (o.tag == 0) && userK o

theorem app_nil (a b : ByteArray) : (a ++ b).toList = [] ↔ a.toList = [] ∧ b.toList = [] := by
  rw [ByteArray.toList_eq, ByteArray.toList_eq, ByteArray.toList_eq, ByteArray.data_append, Array.toList_append, List.append_eq_nil_iff]

set_option maxRecDepth 100000 in
set_option maxHeartbeats 4000000 in
theorem user_0 (o : Obj) (w : World) (h : o.Wf) (hn : rightB o = false) : Calls Try.prog 8 #[.agg o.cells] w fun e w' => e = .returned (.bool (userB o)) ∧ Below w.heap.size w w' := by
  have HW := Lib.hid h
  have HR := Lib.hid hn
  clear h hn
  go_enter Try.func8, Try.ntmps8
  go_wp2_with fail
  refine (right_any o _ HW.out).mono ?_
  rintro e w1 ⟨rfl, hb⟩
  have HB : Hid (Below w.heap.size w w1) := ((Below.refl _ _).alloc (Nat.le_refl _) _).trans (hb.mono (by simp))
  clear hb
  rw [HR.out]
  go_wp2_with fail
  go_ret
  exact ⟨by unfold userB; rw [HR.out]; rfl, HB.out⟩

set_option maxRecDepth 100000 in
set_option maxHeartbeats 4000000 in
theorem user_1 (o : Obj) (w : World) (h : o.Wf) (hn : rightB o = true) (hd : o.deleting = true) : Calls Try.prog 8 #[.agg o.cells] w fun e w' => e = .returned (.bool (userB o)) ∧ Below w.heap.size w w' := by
  have HW := Lib.hid h
  have HR := Lib.hid hn
  have HD := Lib.hid hd
  clear h hn
  go_enter Try.func8, Try.ntmps8
  go_wp2_with fail
  refine (right_any o _ HW.out).mono ?_
  rintro e w1 ⟨rfl, hb⟩
  have HB : Hid (Below w.heap.size w w1) := ((Below.refl _ _).alloc (Nat.le_refl _) _).trans (hb.mono (by simp))
  obtain ⟨hc, hr⟩ := below_rules hb
  simp only [World.size_alloc] at hc hr
  clear hb
  rw [HR.out]
  go_wp2_with fail
  go_ret
  exact ⟨by unfold userB; rw [HD.out]; simp, HB.out⟩

set_option maxRecDepth 100000 in
set_option maxHeartbeats 40000000 in
theorem user_2 (o : Obj) (w : World) (h : o.Wf) (hn : rightB o = true) (hd : o.deleting = false) : Calls Try.prog 8 #[.agg o.cells] w fun e w' => e = .returned (.bool (userB o)) ∧ Below w.heap.size w w' := by
  have HW := Lib.hid h
  have HR := Lib.hid hn
  have HF := Lib.hid (Obj.Fit.of h hn)
  have hs1 := (Obj.Fit.of h hn).node
  have hs2 := (Obj.Fit.of h hn).zone
  have HU : Hid (userB o = ((o.version == 0) && (o.born == 0) && (o.num == 0) && (o.tag == 0) && userK o)) := by unfold Hid userB; rw [hn, hd]; rfl
  clear h hn
  go_enter Try.func8, Try.ntmps8
  go_wp2_with fail
  refine (right_any o _ HW.out).mono ?_
  rintro e w1 ⟨rfl, hb⟩
  have HB : Hid (Below w.heap.size w w1) := ((Below.refl _ _).alloc (Nat.le_refl _) _).trans (hb.mono (by simp))
  obtain ⟨hc, hr⟩ := below_rules hb
  simp only [World.size_alloc] at hc hr
  clear hb
  rw [HR.out]
  go_wp2_with fail
  all_goals (go_ret; refine ⟨?_, HB.out⟩; rw [HU.out]; clear hc hr HW HR HF HU HB hs1 hs2; first | (simp [userK, emptyB, *]; done) | (simp_all [userK, emptyB, app_nil]; done))

theorem user_any (o : Obj) (w : World) (h : o.Wf) : Calls Try.prog 8 #[.agg o.cells] w fun e w' => e = .returned (.bool (userB o)) ∧ Below w.heap.size w w' := by
  cases hr : rightB o
  · exact user_0 o w h hr
  · cases hd : o.deleting
    · exact user_2 o w h hr hd
    · exact user_1 o w h hr hd
end Go.Proofs.Ythppjfhbdohmbaa
