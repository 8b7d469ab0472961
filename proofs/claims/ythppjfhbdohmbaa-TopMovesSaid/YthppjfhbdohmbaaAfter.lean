/- attach.After behind a call that takes an attachment off: lost; done: the contract of the Go function. -/
import Derived.Test.YthppjfhbdohmbaaVolume
namespace Go.Proofs.Ythppjfhbdohmbaa
open Go.RowKit Go.Shelf Go.Maps

theorem results10 (tmps : Array Value) (w : World) (g : Nat) (cs : Array Value) (hp : tmps.getD 8 undef = .pointer (some ⟨g, 0, none⟩)) (hg : w.heap[g]? = some (.cells cs 39)) (hs : cs.size = 28) :
    (results Try.f10 tmps).run Try.prog w = .ok (.agg cs) w :=
  results_cell_row rfl tmps w g 39 cs (0, 0) _ hp hg Try.underlying39 rfl (by rw [hs]; kernel_rfl)
theorem below_putRow' {w w' : World} {g : Nat} (h : Below w.heap.size w w') (hg : w.heap.size ≤ g) {cs : Array Value} : Below w.heap.size w (w'.putRow g 0 cs) :=
  ⟨h.os, h.tape, h.output, by have := h.size; simpa using this, fun k hk => (World.heap_putRow_other _ _ _ _ (by omega)).trans (h.block k hk)⟩

def afterAct (err : Int) (a : Obj) : GAct := if err = 0 then GAct.mk 2 a zeroCall else GAct.mk 0 zeroO zeroCall

set_option maxRecDepth 100000 in
set_option maxHeartbeats 4000000 in
theorem after_any (B cap : Nat) (all : List Obj) (ver : Int) (v0 q a : Obj) (r : Res) (w : World) (hs : Scene all a.volume v0 q) (hc : Objs w B all) (hv0 : 0 ≤ ver) (hv1 : ver < 18446744073709551615) (ha : ∀ x ∈ all, isA a.volume x = true → x = a)
    (ham : a ∈ all) (haa : isA a.volume a = true) (hne : (a.node.toList == q.node.toList) = false) (hp9 : (a.phase == 9) = true) (hr : r.err = 0 ∨ r.err = 13) :
    Calls Try.prog 10 #[.slice (some ⟨B, 0, none⟩) all.length cap, .int .u64 ver, .agg (askC 4 a).cells, .agg r.cells] w fun e w' => e = .returned (.agg (afterAct r.err a).cells) ∧ Below w.heap.size w w' := by
  have HS := Lib.hid hs
  have HC := Lib.hid hc
  have HA := Lib.hid ha
  have HAM := Lib.hid ham
  have HAA := Lib.hid haa
  have HNE := Lib.hid hne
  have HP9 := Lib.hid hp9
  have HR := Lib.hid hr
  have hBl := hc.1
  clear hs hc ha ham haa hne hp9 hr
  have hmf : ∀ (fn : Fn) (first cap : Array Value) (w : World), (Instr.makeFunc fn first cap).run Try.prog w = .ok (.func fn first cap) w := fun _ _ _ _ => rfl
  obtain ⟨re, rs, rz, rt⟩ := r
  simp only at HR
  go_enter Try.func10, Try.ntmps10
  go_wp2_with fail
  have hB0 : Below w.heap.size w (((w.alloc (.cells (askC 4 a).cells 37)).alloc (.cells (Res.mk re rs rz rt).cells 44)).alloc (.cells zeroAct.cells 39)) := (((Below.refl w.heap.size w).alloc (Nat.le_refl _) _).alloc (by simp) _).alloc (by simp; omega) _
  refine (volume_leaving B cap all a.volume ver v0 q a _ HS.out (HC.out.below hB0 hBl) hv0 hv1 HA.out HAM.out HAA.out HNE.out HP9.out).mono ?_
  rintro e w1 ⟨rfl, hb⟩
  have hz1 : w.heap.size + 3 ≤ w1.heap.size := by have := hb.size; simpa using this
  have hC1 : w1.heap[w.heap.size]? = some (.cells (askC 4 a).cells 37) := (hb.block _ (by simp; omega)).trans ((heap?_alloc_past _ _ _ (by simp; omega)).trans ((heap?_alloc_past _ _ _ (by simp)).trans (heap?_alloc_at _ _ _ rfl)))
  have hR1 : w1.heap[w.heap.size + 1]? = some (.cells (Res.mk re rs rz rt).cells 44) := (hb.block _ (by simp)).trans ((heap?_alloc_past _ _ _ (by simp)).trans (heap?_alloc_at _ _ _ (by simp)))
  have hD1 : w1.heap[w.heap.size + 1 + 1]? = some (.cells zeroAct.cells 39) := (hb.block _ (by simp)).trans (heap?_alloc_at _ _ _ (by simp))
  have hrc1 : w1.rowAt? w.heap.size 0 7 = some (askC 4 a).cells := by rw [World.rowAt?_of _ _ _ hC1]; exact Call.row _
  have hcc1 : ∀ i, w1.cell? ⟨w.heap.size, i, none⟩ = (askC 4 a).cells[i]? := fun i => cell_of_row _ _ i _ _ _ hC1
  have hl0 : w.heap.size < w1.heap.size := by omega
  have HB1 : Hid (Below w.heap.size w w1) := hB0.trans (hb.mono (by simp; omega))
  have HC1 := Lib.hid hC1
  have HR1 := Lib.hid hR1
  have HD1 := Lib.hid hD1
  clear hb hC1 hR1 hD1 hB0
  go_wp2_with fail
  refine (attachments_any B cap all a.volume a _ HS.out.len HS.out.keys HS.out.nodup (HC.out.below (HB1.out.alloc HB1.out.size _) hBl) HA.out).mono ?_
  rintro e w2 ⟨av, rfl, ho2, hb2⟩
  rcases ho2 with ⟨_, hno⟩ | ⟨⟨g2, cap2, cur2, rfl, hg2, hh2, hr2⟩, _⟩
  · exact absurd ⟨a, HAM.out, HAA.out⟩ hno
  have hz2 := hb2.size
  simp only [World.size_alloc] at hz2
  have hrow2 : w2.rowAt? g2 0 20 = some a.cells := by rw [World.rowAt?_of _ _ _ hh2]; exact hr2
  have hg2w : g2 < w2.heap.size := (Array.getElem?_eq_some_iff.1 hh2).1
  have hC2 := (hb2.block _ (by simp; omega)).trans ((heap?_alloc_past _ _ _ (by omega)).trans HC1.out)
  have hR2 := (hb2.block _ (by simp; omega)).trans ((heap?_alloc_past _ _ _ (by omega)).trans HR1.out)
  have hD2 := (hb2.block _ (by simp; omega)).trans ((heap?_alloc_past _ _ _ (by omega)).trans HD1.out)
  have hcc2 : ∀ i, w2.cell? ⟨w.heap.size, i, none⟩ = (askC 4 a).cells[i]? := fun i => cell_of_row _ _ i _ _ _ hC2
  have hcr2 : ∀ i, w2.cell? ⟨w.heap.size + 1, i, none⟩ = (Res.mk re rs rz rt).cells[i]? := fun i => cell_of_row _ _ i _ _ _ hR2
  have hf2 : w2.rowFree (w.heap.size + 1 + 1) 0 28 = true := by rw [World.rowFree_of _ _ _ hD2]; rfl
  have hl2 : w.heap.size + 3 ≤ w2.heap.size := by omega
  have hl3 : w.heap.size < w2.heap.size := by omega
  have hl4 : w.heap.size + 1 < w2.heap.size := by omega
  have hl5 : w.heap.size + 1 + 1 < w2.heap.size := by omega
  have HB2 : Hid (Below w.heap.size w w2) := (HB1.out.alloc HB1.out.size _).trans (hb2.mono (by simp; omega))
  have HD2 := Lib.hid hD2
  have HCC2 := Lib.hid hcc2
  clear hb2 hh2 hr2 hg2 hC2 hR2 hD2 hrc1 hcc1 hcc2
  go_wp2_with fail
  refine (indexF_one g2 cap2 w.heap.size a (askC 4 a) _ hrow2 (by omega) HCC2.out (by simp [askC]) (by simp [askC])).mono ?_
  rintro e w' ⟨rfl, rfl⟩
  have hcc2 := HCC2.out
  rcases HR.out with rfl | rfl
  all_goals
    clear HR
    go_wp2_with fail
    refine bodyPost_ret (results10 _ _ (w.heap.size + 1 + 1) _ rfl ((heap?_alloc_past _ _ _ (by simp; omega)).trans ((heap?_alloc_past _ _ _ (by simp; omega)).trans ((World.heap_putRow_same _ _ _ HD2.out).trans (by rw [GAct.over])))) rfl) rfl ⟨by simp [afterAct], ?_⟩
    exact ((below_putRow' HB2.out (by omega)).alloc (by simp; omega) _).alloc (by simp; omega) _
end Go.Proofs.Ythppjfhbdohmbaa
