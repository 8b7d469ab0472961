/- The law TopMoves: the walk. -/
import Derived.Test.YthppjfhbdohmbaaMoves
namespace Go.Proofs.Ythppjfhbdohmbaa
open Go.RowKit Go.Shelf Go.Maps

set_option maxRecDepth 100000 in
set_option maxHeartbeats 8000000 in
theorem moves_any (a0 : Int) (w : World) (h0 : 0 ≤ a0) (h1 : a0 ≤ 4294967295) :
    Calls Try.prog 4 #[.int .u32 a0] w fun e w' => e = .returned (.bool true) ∧ Below w.heap.size w w' := by
  go_enter Try.func4, Try.ntmps4
  go_wp2_with fail
  refine (volume_unwanted (w.heap.size + 1 + 1 + 1 + 1) 4 [claimO, volO, podO, oldO 8 0] ⟨#[118]⟩ a0 volO podO (oldO 8 0) _ (scene4 8 0) (objs4 _ _ (by simp) _ _ _ _) h0 (by omega) (only4 8 0) (by simp) (isA4 8 0) (node_ne 8 0) rfl).mono ?_
  rintro e w1 ⟨rfl, hb⟩
  have hf := five w (.cells claimO.cells 27) (.cells volO.cells 27) (.cells podO.cells 27) (.cells (oldO 8 0).cells 27) (.cells (claimO.cells ++ (volO.cells ++ (podO.cells ++ (oldO 8 0).cells))) 27)
  have hA1 := (hb.block _ (by simp; omega)).trans hf.1
  have hB1 := (hb.block _ (by simp <;> omega)).trans hf.2.1
  have hC1 := (hb.block _ (by simp <;> omega)).trans hf.2.2
  have hz1 : w.heap.size + 5 ≤ w1.heap.size := by have := hb.size; simpa using this
  have HB1 : Hid (Below w.heap.size w w1) := ((((((Below.refl w.heap.size w).alloc (Nat.le_refl _) _).alloc (by simp) _).alloc (by simp; omega) _).alloc (by simp; omega) _).alloc (by simp; omega) _).trans (hb.mono (by simp; omega))
  have r1 := rowO hA1
  have r2 := rowO hB1
  have r3 := rowO hC1
  have l1 : w.heap.size < w1.heap.size := by omega
  have l2 : w.heap.size + 1 < w1.heap.size := by omega
  have l3 : w.heap.size + 1 + 1 < w1.heap.size := by omega
  have HA1 := Lib.hid hA1
  have HB1' := Lib.hid hB1
  have HC1 := Lib.hid hC1
  clear hb hf hA1 hB1 hC1
  go_wp2_with fail
  refine (volume_leaving (w1.heap.size + 1) 4 [claimO, volO, podO, oldO 9 (a0 + 1)] ⟨#[118]⟩ (a0 + 1) volO podO (oldO 9 (a0 + 1)) _ (scene4 9 (a0 + 1)) (objs4 _ _ (by simp) _ _ _ _) (by omega) (by omega) (only4 9 (a0 + 1)) (by simp) (isA4 9 (a0 + 1)) (node_ne 9 (a0 + 1)) rfl).mono ?_
  rintro e w2 ⟨rfl, hb⟩
  have hz2 := size2 hb
  have HA2 := Lib.hid (later2 HA1.out hb)
  have HB2' := Lib.hid (later2 HB1'.out hb)
  have HC2 := Lib.hid (later2 HC1.out hb)
  have HB2 := Lib.hid (below2 HB1.out hb)
  have HT1_2 := Lib.hid (new2 hb)
  clear hb r1 r2 r3 l1 l2 l3
  have r1 := rowO HA2.out
  have r2 := rowO HB2'.out
  have r3 := rowO HC2.out
  have l1 : w.heap.size < w2.heap.size := by omega
  have l2 : w.heap.size + 1 < w2.heap.size := by omega
  have l3 : w.heap.size + 1 + 1 < w2.heap.size := by omega
  have t1 := rowAO (x := (GAct.mk 1 (oldO 9 (a0 + 1)) zeroCall)) HT1_2.out
  have m1 : w1.heap.size < w2.heap.size := by omega
  go_wp2_with fail
  refine (after_any (w2.heap.size + 1) 4 [claimO, volO, podO, oldO 9 (a0 + 1)] (a0 + 1) volO podO (oldO 9 (a0 + 1)) ⟨13, 0, es, 0⟩ _ (scene4 9 (a0 + 1)) (objs4 _ _ (by simp) _ _ _ _) (by omega) (by omega) (only4 9 (a0 + 1)) (by simp) (isA4 9 (a0 + 1)) (node_ne 9 (a0 + 1)) rfl (.inr rfl)).mono ?_
  rintro e w3 ⟨rfl, hb⟩
  clear t1 m1
  have hz3 := size2 hb
  have HA3 := Lib.hid (later2 HA2.out hb)
  have HB3' := Lib.hid (later2 HB2'.out hb)
  have HC3 := Lib.hid (later2 HC2.out hb)
  have HB3 := Lib.hid (below2 HB2.out hb)
  have HT1_3 := Lib.hid (later2 HT1_2.out hb)
  have HT2_3 := Lib.hid (new2 hb)
  clear hb r1 r2 r3 l1 l2 l3
  have r1 := rowO HA3.out
  have r2 := rowO HB3'.out
  have r3 := rowO HC3.out
  have l1 : w.heap.size < w3.heap.size := by omega
  have l2 : w.heap.size + 1 < w3.heap.size := by omega
  have l3 : w.heap.size + 1 + 1 < w3.heap.size := by omega
  have t1 := rowAO (x := (GAct.mk 1 (oldO 9 (a0 + 1)) zeroCall)) HT1_3.out
  have t2 := rowAC (x := (GAct.mk 3 zeroO (askC 4 (oldO 9 (a0 + 1))))) HT2_3.out
  have m1 : w1.heap.size < w3.heap.size := by omega
  have m2 : w2.heap.size < w3.heap.size := by omega
  go_wp2_with fail
  refine (after_any (w3.heap.size + 1) 4 [claimO, volO, podO, oldO 9 (a0 + 1)] (a0 + 1) volO podO (oldO 9 (a0 + 1)) ⟨0, 0, es, 0⟩ _ (scene4 9 (a0 + 1)) (objs4 _ _ (by simp) _ _ _ _) (by omega) (by omega) (only4 9 (a0 + 1)) (by simp) (isA4 9 (a0 + 1)) (node_ne 9 (a0 + 1)) rfl (.inl rfl)).mono ?_
  rintro e w4 ⟨rfl, hb⟩
  clear t1 m1 t2 m2
  have hz4 := size2 hb
  have HA4 := Lib.hid (later2 HA3.out hb)
  have HB4' := Lib.hid (later2 HB3'.out hb)
  have HC4 := Lib.hid (later2 HC3.out hb)
  have HB4 := Lib.hid (below2 HB3.out hb)
  have HT1_4 := Lib.hid (later2 HT1_3.out hb)
  have HT2_4 := Lib.hid (later2 HT2_3.out hb)
  have HT3_4 := Lib.hid (new2 hb)
  clear hb r1 r2 r3 l1 l2 l3
  have r1 := rowO HA4.out
  have r2 := rowO HB4'.out
  have r3 := rowO HC4.out
  have l1 : w.heap.size < w4.heap.size := by omega
  have l2 : w.heap.size + 1 < w4.heap.size := by omega
  have l3 : w.heap.size + 1 + 1 < w4.heap.size := by omega
  go_wp2_with fail
  refine (volume_new (w4.heap.size + 1) 3 [claimO, volO, podO] ⟨#[118]⟩ (a0 + 2) volO podO (oldO 0 0) _ scene3 (objs3 _ _ (by simp) _ _ _) (by omega) (by omega) (fun x hx h => absurd ((none3 x hx).symm.trans h) (by decide)) none3 (by decide) (by decide) (by decide)).mono ?_
  rintro e w5 ⟨rfl, hb⟩
  have hz5 := size2 hb
  have HA5 := Lib.hid (later2 HA4.out hb)
  have HB5' := Lib.hid (later2 HB4'.out hb)
  have HC5 := Lib.hid (later2 HC4.out hb)
  have HB5 := Lib.hid (below2 HB4.out hb)
  have HT1_5 := Lib.hid (later2 HT1_4.out hb)
  have HT2_5 := Lib.hid (later2 HT2_4.out hb)
  have HT3_5 := Lib.hid (later2 HT3_4.out hb)
  have HT4_5 := Lib.hid (new2 hb)
  clear hb r1 r2 r3 l1 l2 l3
  have c2 := cellA (x := (GAct.mk 3 zeroO (askC 4 (oldO 9 (a0 + 1))))) HT2_5.out
  have c3 := cellA (x := GAct.mk 0 zeroO zeroCall) HT3_5.out
  have c4 := cellA (x := GAct.mk 2 (oldO 9 (a0 + 1)) zeroCall) HT4_5.out
  have m2 : w2.heap.size < w5.heap.size := by omega
  have m3 : w3.heap.size < w5.heap.size := by omega
  have m4 : w4.heap.size < w5.heap.size := by omega
  have hq : (a0 + 2 + 1 == a0 + 3) = true := by simp; omega
  have hv : ((askC 4 (oldO 9 (a0 + 1))).verb == 4) = true := rfl
  have hn : (attO ⟨#[118]⟩ ⟨#[109]⟩).node.toList = [109] := by rw [ByteArray.toList_eq]; rfl
  go_wp2_with fail
  go_ret
  exact ⟨rfl, HB5.out.alloc HB5.out.size _⟩
end Go.Proofs.Ythppjfhbdohmbaa
