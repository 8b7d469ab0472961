/- object.rest: an object without what its kind names: the contract of the Go function, by walks. -/
import Derived.Test.YthppjfhbdohmbaaObj
import Derived.Test.YthppjfhbdohmbaaStructLaws
import Derived.Deep.Cut
namespace Go.Proofs.Ythppjfhbdohmbaa
open Go.RowKit

def Obj.zero (k : Int) : Obj := { kind := k, name := es, version := 0, born := 0, deleting := false, hold := false, cls := es, size := 0, got := 0, mode := 0, keep := false, wait := false, zone := es, node := es, claim := es, volume := es, source := es, phase := 0, num := 0, tag := 0 }

def restO (o : Obj) : Obj :=
  let o := { o with name := es, version := 0, born := 0, deleting := false, hold := false }
  if o.kind = 1 then { o with zone := es, wait := false, keep := false }
  else if o.kind = 2 then { o with zone := es }
  else if o.kind = 3 then { o with cls := es, size := 0, got := 0, mode := 0, zone := es, node := es, volume := es, source := es, phase := 0, num := 0 }
  else if o.kind = 4 then { o with cls := es, size := 0, got := 0, mode := 0, keep := false, zone := es, claim := es, phase := 0, num := 0 }
  else if o.kind = 5 then { o with volume := es, node := es, phase := 0, num := 0 }
  else if o.kind = 6 then { o with claim := es, node := es }
  else if o.kind = 7 then { o with source := es, volume := es, got := 0, phase := 0, num := 0, tag := 0 }
  else o

theorem results40 (tmps : Array Value) (w : World) (g : Nat) (cs : Array Value) (hp : tmps.getD 2 undef = .pointer (some ⟨g, 0, none⟩)) (hg : w.heap[g]? = some (.cells cs 27)) (hs : cs.size = 20) :
    (results Try.f40 tmps).run Try.prog w = .ok (.agg cs) w :=
  results_cell_row rfl tmps w g 27 cs (0, 0) _ hp hg Try.underlying27 rfl (by rw [hs]; kernel_rfl)

set_option maxRecDepth 100000 in
set_option maxHeartbeats 1000000 in
theorem rest_1 (o : Obj) (w : World) (h1 : o.kind = 1) :
    Calls Try.prog 40 #[.agg o.cells] w fun e w' => e = .returned (.agg (restO o).cells) ∧ Below w.heap.size w w' := by
  obtain ⟨kind, name, version, born, deleting, hold, cls, size, got, mode, keep, wait, zone, node, claim, volume, source, phase, num, tag⟩ := o
  simp only at h1
  subst h1
  go_enter Try.func40, Try.ntmps40
  go_wp2
  refine bodyPost_ret (results40 _ _ (w.heap.size + 1) _ rfl (heap?_alloc_at _ _ _ (by simp)) rfl) rfl ⟨?_, ((Below.refl _ _).alloc (Nat.le_refl _) _).alloc (by simp) _⟩
  rfl
set_option maxRecDepth 100000 in
set_option maxHeartbeats 1000000 in
theorem rest_2 (o : Obj) (w : World) (h1 : o.kind = 2) :
    Calls Try.prog 40 #[.agg o.cells] w fun e w' => e = .returned (.agg (restO o).cells) ∧ Below w.heap.size w w' := by
  obtain ⟨kind, name, version, born, deleting, hold, cls, size, got, mode, keep, wait, zone, node, claim, volume, source, phase, num, tag⟩ := o
  simp only at h1
  subst h1
  go_enter Try.func40, Try.ntmps40
  go_wp2
  refine bodyPost_ret (results40 _ _ (w.heap.size + 1) _ rfl (heap?_alloc_at _ _ _ (by simp)) rfl) rfl ⟨?_, ((Below.refl _ _).alloc (Nat.le_refl _) _).alloc (by simp) _⟩
  rfl
set_option maxRecDepth 100000 in
set_option maxHeartbeats 1000000 in
theorem rest_3 (o : Obj) (w : World) (h1 : o.kind = 3) :
    Calls Try.prog 40 #[.agg o.cells] w fun e w' => e = .returned (.agg (restO o).cells) ∧ Below w.heap.size w w' := by
  obtain ⟨kind, name, version, born, deleting, hold, cls, size, got, mode, keep, wait, zone, node, claim, volume, source, phase, num, tag⟩ := o
  simp only at h1
  subst h1
  go_enter Try.func40, Try.ntmps40
  go_wp2
  refine bodyPost_ret (results40 _ _ (w.heap.size + 1) _ rfl (heap?_alloc_at _ _ _ (by simp)) rfl) rfl ⟨?_, ((Below.refl _ _).alloc (Nat.le_refl _) _).alloc (by simp) _⟩
  rfl
set_option maxRecDepth 100000 in
set_option maxHeartbeats 1000000 in
theorem rest_4 (o : Obj) (w : World) (h1 : o.kind = 4) :
    Calls Try.prog 40 #[.agg o.cells] w fun e w' => e = .returned (.agg (restO o).cells) ∧ Below w.heap.size w w' := by
  obtain ⟨kind, name, version, born, deleting, hold, cls, size, got, mode, keep, wait, zone, node, claim, volume, source, phase, num, tag⟩ := o
  simp only at h1
  subst h1
  go_enter Try.func40, Try.ntmps40
  go_wp2
  refine bodyPost_ret (results40 _ _ (w.heap.size + 1) _ rfl (heap?_alloc_at _ _ _ (by simp)) rfl) rfl ⟨?_, ((Below.refl _ _).alloc (Nat.le_refl _) _).alloc (by simp) _⟩
  rfl
set_option maxRecDepth 100000 in
set_option maxHeartbeats 1000000 in
theorem rest_5 (o : Obj) (w : World) (h1 : o.kind = 5) :
    Calls Try.prog 40 #[.agg o.cells] w fun e w' => e = .returned (.agg (restO o).cells) ∧ Below w.heap.size w w' := by
  obtain ⟨kind, name, version, born, deleting, hold, cls, size, got, mode, keep, wait, zone, node, claim, volume, source, phase, num, tag⟩ := o
  simp only at h1
  subst h1
  go_enter Try.func40, Try.ntmps40
  go_wp2
  refine bodyPost_ret (results40 _ _ (w.heap.size + 1) _ rfl (heap?_alloc_at _ _ _ (by simp)) rfl) rfl ⟨?_, ((Below.refl _ _).alloc (Nat.le_refl _) _).alloc (by simp) _⟩
  rfl
set_option maxRecDepth 100000 in
set_option maxHeartbeats 1000000 in
theorem rest_6 (o : Obj) (w : World) (h1 : o.kind = 6) :
    Calls Try.prog 40 #[.agg o.cells] w fun e w' => e = .returned (.agg (restO o).cells) ∧ Below w.heap.size w w' := by
  obtain ⟨kind, name, version, born, deleting, hold, cls, size, got, mode, keep, wait, zone, node, claim, volume, source, phase, num, tag⟩ := o
  simp only at h1
  subst h1
  go_enter Try.func40, Try.ntmps40
  go_wp2
  refine bodyPost_ret (results40 _ _ (w.heap.size + 1) _ rfl (heap?_alloc_at _ _ _ (by simp)) rfl) rfl ⟨?_, ((Below.refl _ _).alloc (Nat.le_refl _) _).alloc (by simp) _⟩
  rfl
set_option maxRecDepth 100000 in
set_option maxHeartbeats 1000000 in
theorem rest_7 (o : Obj) (w : World) (h1 : o.kind = 7) :
    Calls Try.prog 40 #[.agg o.cells] w fun e w' => e = .returned (.agg (restO o).cells) ∧ Below w.heap.size w w' := by
  obtain ⟨kind, name, version, born, deleting, hold, cls, size, got, mode, keep, wait, zone, node, claim, volume, source, phase, num, tag⟩ := o
  simp only at h1
  subst h1
  go_enter Try.func40, Try.ntmps40
  go_wp2
  refine bodyPost_ret (results40 _ _ (w.heap.size + 1) _ rfl (heap?_alloc_at _ _ _ (by simp)) rfl) rfl ⟨?_, ((Below.refl _ _).alloc (Nat.le_refl _) _).alloc (by simp) _⟩
  rfl
set_option maxRecDepth 100000 in
set_option maxHeartbeats 1000000 in
theorem rest_0 (o : Obj) (w : World) (h1 : o.kind ≠ 1 ∧ o.kind ≠ 2 ∧ o.kind ≠ 3 ∧ o.kind ≠ 4 ∧ o.kind ≠ 5 ∧ o.kind ≠ 6 ∧ o.kind ≠ 7) :
    Calls Try.prog 40 #[.agg o.cells] w fun e w' => e = .returned (.agg (restO o).cells) ∧ Below w.heap.size w w' := by
  obtain ⟨kind, name, version, born, deleting, hold, cls, size, got, mode, keep, wait, zone, node, claim, volume, source, phase, num, tag⟩ := o
  simp only at h1
  obtain ⟨h1, h2, h3, h4, h5, h6, h7⟩ := h1
  have e1 : (kind == 1) = false := by simpa using h1
  have e2 : (kind == 2) = false := by simpa using h2
  have e3 : (kind == 3) = false := by simpa using h3
  have e4 : (kind == 4) = false := by simpa using h4
  have e5 : (kind == 5) = false := by simpa using h5
  have e6 : (kind == 6) = false := by simpa using h6
  have e7 : (kind == 7) = false := by simpa using h7
  go_enter Try.func40, Try.ntmps40
  go_wp2
  refine bodyPost_ret (results40 _ _ (w.heap.size + 1) _ rfl (heap?_alloc_at _ _ _ (by simp)) rfl) rfl ⟨?_, ((Below.refl _ _).alloc (Nat.le_refl _) _).alloc (by simp) _⟩
  simp only [restO, if_neg h1, if_neg h2, if_neg h3, if_neg h4, if_neg h5, if_neg h6, if_neg h7]

theorem rest_any (o : Obj) (w : World) :
    Calls Try.prog 40 #[.agg o.cells] w fun e w' => e = .returned (.agg (restO o).cells) ∧ Below w.heap.size w w' := by
  by_cases h1 : o.kind = 1
  · exact rest_1 o w h1
  by_cases h2 : o.kind = 2
  · exact rest_2 o w h2
  by_cases h3 : o.kind = 3
  · exact rest_3 o w h3
  by_cases h4 : o.kind = 4
  · exact rest_4 o w h4
  by_cases h5 : o.kind = 5
  · exact rest_5 o w h5
  by_cases h6 : o.kind = 6
  · exact rest_6 o w h6
  by_cases h7 : o.kind = 7
  · exact rest_7 o w h7
  exact rest_0 o w ⟨h1, h2, h3, h4, h5, h6, h7⟩
end Go.Proofs.Ythppjfhbdohmbaa
