/- codec.Read: the contract of the Go function where the bytes are those of a right object. -/
import Derived.Test.YthppjfhbdohmbaaReader3
import Derived.Defers
import Derived.Recover
namespace Go.Proofs.Ythppjfhbdohmbaa
open Go.RowKit

theorem caught_nil (w : World) : Calls Try.prog 36 #[.nilIface] w fun e w' => e = .returned (.bool false) ∧ w = w' := by
  go_enter Try.func36, Try.ntmps36
  go_wp2
  go_ret
  exact ⟨rfl, rfl⟩

theorem read_door (p q : Addr) (w : World) :
    CallsD Try.prog 35 #[.pointer (some p), .pointer (some q)] .returning w fun e u' w' => e = .returned (.tuple #[]) ∧ u' = .returning ∧ w' = w := by
  refine callsD_of_wpS Try.func35 rfl fun c₀ cs hu => ?_
  apply wpS_seq
  apply wpS_region
  simp [wpOpsS, go_sem, recoverD, hu, Try.ntmps35, Exit.thenS]
  refine (caught_nil _).mono ?_
  rintro e w' ⟨rfl, rfl⟩
  simp
  refine wpS_cond (t := false) (by simp [Act.eval, Array.replicate]) ?_
  simp only [Bool.false_eq_true, if_false]
  refine wpS_of_wp (wp_skip ?_)
  cases c₀
  simp_all [bodyPostS, results, Try.results35]

theorem results13 (tmps : Array Value) (w : World) (g h : Nat) (cs : Array Value) (v : Value) (hp : tmps.getD 2 undef = .pointer (some ⟨g, 0, none⟩)) (hq : tmps.getD 3 undef = .pointer (some ⟨h, 0, none⟩)) (hg : w.heap[g]? = some (.cells cs 27)) (hs : cs.size = 20)
    (hv : w.cell? ⟨h, 0, none⟩ = some v) : (results Try.f13 tmps).run Try.prog w = .ok (.tuple #[.agg cs, v]) w := by
  have hp' : tmps[2]?.getD undef = .pointer (some ⟨g, 0, none⟩) := by simpa using hp
  have hq' : tmps[3]?.getD undef = .pointer (some ⟨h, 0, none⟩) := by simpa using hq
  have h1 := run_loadVar_row (P := Try.prog) w g 27 27 cs (0, 0) _ hg Try.underlying27 rfl (by rw [hs]; kernel_rfl)
  have h2 : (loadVar 29 ⟨h, 0, none⟩).run Try.prog w = .ok v w := by simp [go_sem, hv]
  simp [results, hp', hq', asAddr, h1, h2]

set_option maxRecDepth 100000 in
set_option maxHeartbeats 4000000 in
theorem Read_any (b cap : Nat) (o : Obj) (w : World) (hh : ∀ (i : Nat) (c : Int), (bytesE o)[i]? = some c → w.cell? ⟨b, i, none⟩ = some (.int .u8 c)) (hc : (bytesE o).length ≤ cap) (hb : b < w.heap.size) (hw : o.Wf) (hr : rightB o = true) :
    Calls Try.prog 13 #[.slice (some ⟨b, 0, none⟩) (bytesE o).length cap] w fun e w' => e = .returned (.tuple #[.agg o.cells, .int .i64 0]) ∧ Below w.heap.size w w' := by
  have hmf : ∀ (fn : Fn) (first cap : Array Value) (w : World), (Instr.makeFunc fn first cap).run Try.prog w = .ok (.func fn first cap) w := fun _ _ _ _ => rfl
  have HH := Lib.hid hh
  have HW := Lib.hid hw
  have HR := Lib.hid hr
  clear hh hw hr
  generalize hL : (bytesE o).length = L at *
  have HL := Lib.hid hL
  clear hL
  go_enter_defers Try.func13, Try.ntmps13
  go_wp2_with fail
  refine (robject_any (w.heap.size + 2) b o _ ?_ HW.out HR.out ?_ ?_).mono ?_
  · refine ⟨0, cap, (heap?_alloc_at _ _ _ (by simp)).trans (by rw [HL.out]), by rw [HL.out]; exact hc, by omega, fun i c hi => ?_⟩
    rw [Nat.zero_add, ← HH.out i c hi]
    simp only [World.cell?]
    rw [heap?_alloc_past _ _ _ (by simp; omega), heap?_alloc_past _ _ _ (by simp; omega), heap?_alloc_past _ _ _ hb]
  · simp
  · simp; omega
  rintro e w1 ⟨rfl, hrd, hu⟩
  have HRD := Lib.hid hrd
  have HU := Lib.hid hu
  have hsz := hu.size
  simp only [World.size_alloc] at hsz
  have hD0 := (hu.block w.heap.size (by simp; omega) (by omega)).trans ((heap?_alloc_past _ _ _ (by simp; omega)).trans ((heap?_alloc_past _ _ _ (by simp)).trans (heap?_alloc_at _ _ _ rfl)))
  have hE0 := (hu.block (w.heap.size + 1) (by simp) (by omega)).trans ((heap?_alloc_past _ _ _ (by simp)).trans (heap?_alloc_at _ _ _ (by simp)))
  have hD1 : (w1.putRow w.heap.size 0 o.cells).heap[w.heap.size]? = some (.cells o.cells 27) := by rw [World.heap_putRow_same _ _ _ hD0]; exact congrArg (fun c => some (Go.Obj.cells c 27 (0, 0))) (Obj.over o _)
  have hD2 : ((w1.putRow w.heap.size 0 o.cells).putRow w.heap.size 0 o.cells).heap[w.heap.size]? = some (.cells o.cells 27) := by rw [World.heap_putRow_same _ _ _ hD1, Obj.over]
  have hE2 : ((w1.putRow w.heap.size 0 o.cells).putRow w.heap.size 0 o.cells).heap[w.heap.size + 1]? = some (.cells #[.int .i64 0] 29) := by
    rw [World.heap_putRow_other _ _ _ _ (by omega), World.heap_putRow_other _ _ _ _ (by omega)]; exact hE0
  have hr1 : w1.rowFree w.heap.size 0 20 = true := by rw [World.rowFree_of _ _ _ hD0]; rfl
  have hr2 : (w1.putRow w.heap.size 0 o.cells).rowAt? w.heap.size 0 20 = some o.cells := by rw [World.rowAt?_of _ _ _ hD1]; exact Obj.row o
  have hr3 : (w1.putRow w.heap.size 0 o.cells).rowFree w.heap.size 0 20 = true := by rw [World.rowFree_of _ _ _ hD1]; rfl
  have hc2 : ((w1.putRow w.heap.size 0 o.cells).putRow w.heap.size 0 o.cells).cell? ⟨w.heap.size + 1, 0, none⟩ = some (.int .i64 0) := cell_of_row _ _ 0 _ _ _ hE2
  have hf2 : ((w1.putRow w.heap.size 0 o.cells).putRow w.heap.size 0 o.cells).frozen? ⟨w.heap.size + 1, 0, none⟩ = false := frozen_of_row _ _ 0 _ _ hE2
  have HD2 := Lib.hid hD2
  have HE2 := Lib.hid hE2
  have HZ := Lib.hid hsz
  clear hrd hu hD0 hE0 hD1 hD2 hE2
  go_wp2_with fail
  refine (rend_any (w.heap.size + 2) b _ (HRD.out.keep (World.heap_putRow_other _ _ _ _ (by omega)) (World.heap_putRow_other _ _ _ _ (by omega)))).mono ?_
  rintro e w' ⟨rfl, rfl⟩
  go_wp2_with fail
  refine leaves_cons (f := 35) (args := #[.pointer (some ⟨w.heap.size, 0, none⟩), .pointer (some ⟨w.heap.size + 1, 0, none⟩)]) (by simp) (by simp [go_sem]) ?_
  refine (read_door _ _ _).mono ?_
  rintro e u' w'' ⟨rfl, rfl, rfl⟩
  have hD4 : (((w1.putRow w.heap.size 0 o.cells).putRow w.heap.size 0 o.cells).setCell ⟨w.heap.size + 1, 0, none⟩ (.int .i64 0)).heap[w.heap.size]? = some (.cells o.cells 27) :=
    (Below.heap_setCell _ _ _ _ (by simp)).trans HD2.out
  have hE4 : (((w1.putRow w.heap.size 0 o.cells).putRow w.heap.size 0 o.cells).setCell ⟨w.heap.size + 1, 0, none⟩ (.int .i64 0)).heap[w.heap.size + 1]? = some (.cells #[.int .i64 0] 29) :=
    heap_setCell_same _ _ 0 _ _ _ HE2.out
  have HBW : Hid (Below w.heap.size w (((w1.putRow w.heap.size 0 o.cells).putRow w.heap.size 0 o.cells).setCell ⟨w.heap.size + 1, 0, none⟩ (.int .i64 0))) := by
    have h1 := HU.out.below (B := w.heap.size) (by simp; omega) (fun k hk => by omega)
    have h2 : Below w.heap.size w w1 := ((((Below.refl _ _).alloc (Nat.le_refl _) _).alloc (by simp) _).alloc (by simp; omega) _).trans h1
    refine ⟨h2.os, h2.tape, h2.output, by have := h2.size; simpa using this, fun k hk => ?_⟩
    rw [Below.heap_setCell _ _ _ _ (by simp; omega), World.heap_putRow_other _ _ _ _ (by omega), World.heap_putRow_other _ _ _ _ (by omega)]
    exact h2.block k hk
  exact ⟨_, results13 _ _ w.heap.size (w.heap.size + 1) o.cells (.int .i64 0) rfl rfl hD4 rfl (cell_of_row _ _ 0 _ _ _ hE4), rfl, HBW.out⟩
end Go.Proofs.Ythppjfhbdohmbaa
