/- attach.put of what stands there already: the contracts of the Go functions, strings and objects. -/
import Derived.Test.YthppjfhbdohmbaaPut
import Derived.WalkLawsBesides
namespace Go.Proofs.Ythppjfhbdohmbaa
open Go.RowKit Go.Shelf Go.Maps

theorem isNaN_any (x : ByteArray) (w : World) : Calls Try.prog 101 #[.string x] w fun e w' => e = .returned (.bool false) ∧ w = w' := by
  go_enter Try.func101, Try.ntmps101
  go_wp2
  go_ret
  exact ⟨rfl, rfl⟩
theorem less_self (l : List UInt8) : Op.bytesLess l l = false := by
  induction l with
  | nil => rfl
  | cons a l ih => simp [Op.bytesLess, ih]
set_option maxRecDepth 100000 in
theorem compare_same (x : ByteArray) (w : World) : Calls Try.prog 90 #[.string x, .string x] w fun e w' => e = .returned (.int .i64 0) ∧ w = w' := by
  have hl := less_self x.toList
  go_enter Try.func90, Try.ntmps90
  go_wp2_with (go_at_call 101; refine (isNaN_any _ _).mono ?_; rintro e w' ⟨rfl, rfl⟩)
  go_ret
  exact ⟨rfl, rfl⟩

set_option maxRecDepth 100000 in
theorem cmpStr_same (x : ByteArray) (bx : Nat) (w : World) (hb : w.cell? ⟨bx, 0, none⟩ = some (.func (.func 64) #[] #[])) :
    Calls Try.prog 89 #[.string x, .string x, .pointer (some ⟨bx, 0, none⟩)] w fun e w' => e = .returned (.int .i64 0) ∧ w = w' := by
  go_enter Try.func89, Try.ntmps89
  go_wp2_with fail
  refine (keyStr _ _).mono ?_
  rintro e w' ⟨rfl, rfl⟩
  go_wp2_with fail
  refine (compare_same _ _).mono ?_
  rintro e w' ⟨rfl, rfl⟩
  go_wp2_with fail
  go_ret
  exact ⟨rfl, rfl⟩

set_option maxRecDepth 100000 in
set_option maxHeartbeats 1000000 in
theorem bsearch_same (g cap bx : Nat) (x : ByteArray) (w : World) (hc : w.cell? ⟨g, 0, none⟩ = some (.string x)) (hb : w.cell? ⟨bx, 0, none⟩ = some (.func (.func 64) #[] #[])) :
    Calls Try.prog 88 #[.slice (some ⟨g, 0, none⟩) 1 cap, .string x, .func (.func 89) #[] #[.pointer (some ⟨bx, 0, none⟩)]] w fun e w' => e = .returned (.tuple #[.int .i64 0, .bool true]) ∧ w = w' := by
  have HB := Lib.hid hb
  clear hb
  go_enter Try.func88, Try.ntmps88
  go_wp2_with fail
  go_loop [9, 10, 11] (fun i j _ => i = .int .i64 0 ∧ ∃ k : Nat, k ≤ 1 ∧ j = .int .i64 k) (fun _ j _ => (intOf j).toNat)
  case atStart => exact ⟨rfl, 1, Nat.le_refl _, rfl⟩
  case round =>
    obtain ⟨rfl, k, hk, rfl⟩ := hrel
    by_cases h : k = 0
    · subst h
      go_wp2_with (go_at_call 89; refine (cmpStr_same _ _ _ HB.out).mono ?_; rintro e w' ⟨rfl, rfl⟩)
      go_ret2
      exact ⟨rfl, rfl⟩
    · obtain rfl : k = 1 := by omega
      go_wp2_with (go_at_call 89; refine (cmpStr_same _ _ _ HB.out).mono ?_; rintro e w' ⟨rfl, rfl⟩)
      exact ⟨⟨rfl, 0, by omega, rfl⟩, by simp [intOf]⟩

theorem cellPast (w : World) (o : Go.Obj) (b i : Nat) (h : b < w.heap.size) : (w.alloc o).cell? ⟨b, i, none⟩ = w.cell? ⟨b, i, none⟩ := by
  simp only [World.cell?]; rw [heap?_alloc_past _ _ _ h]
set_option maxRecDepth 100000 in
theorem put_same (g cap : Nat) (x : ByteArray) (w : World) (hg : g < w.heap.size) (hc : w.cell? ⟨g, 0, none⟩ = some (.string x)) :
    Calls Try.prog 63 #[.slice (some ⟨g, 0, none⟩) 1 cap, .string x, .func (.func 64) #[] #[]] w fun e w' => e = .returned (.slice (some ⟨g, 0, none⟩) 1 cap) ∧ Below w.heap.size w w' := by
  have hmf : ∀ (fn : Fn) (first cap : Array Value) (w : World), (Instr.makeFunc fn first cap).run Try.prog w = .ok (.func fn first cap) w := fun _ _ _ _ => rfl
  go_enter Try.func63, Try.ntmps63
  go_wp2_with fail
  refine (keyStr _ _).mono ?_
  rintro e w' ⟨rfl, rfl⟩
  go_wp2_with fail
  refine (bsearch_same g cap w.heap.size x _ ((cellPast _ _ _ _ hg).trans hc) (cell_of_row _ _ 0 _ _ _ (heap?_alloc_at _ _ _ rfl))).mono ?_
  rintro e w' ⟨rfl, rfl⟩
  go_wp2_with fail
  go_ret
  exact ⟨rfl, (Below.refl _ _).alloc (Nat.le_refl _) _⟩

/-! ### objects -/
set_option maxRecDepth 100000 in
theorem cmpObj_same (x : Obj) (bx : Nat) (w : World) (hbl : bx < w.heap.size) (hb : w.cell? ⟨bx, 0, none⟩ = some (.func (.func 66) #[] #[])) :
    Calls Try.prog 93 #[.agg x.cells, .string x.name, .pointer (some ⟨bx, 0, none⟩)] w fun e w' => e = .returned (.int .i64 0) ∧ Below w.heap.size w w' := by
  go_enter Try.func93, Try.ntmps93
  go_wp2_with fail
  refine (keyObj x _).mono ?_
  rintro e w' ⟨rfl, rfl⟩
  go_wp2_with fail
  refine (compare_same _ _).mono ?_
  rintro e w' ⟨rfl, rfl⟩
  go_wp2_with fail
  go_ret
  exact ⟨rfl, ((Below.refl _ _).alloc (Nat.le_refl _) _).alloc (by simp) _⟩

set_option maxRecDepth 100000 in
set_option maxHeartbeats 1000000 in
theorem bsearchO_same (g cap bx : Nat) (x : Obj) (w : World) (hg : g < w.heap.size) (hc : w.rowAt? g 0 20 = some x.cells) (hbl : bx < w.heap.size) (hb : w.cell? ⟨bx, 0, none⟩ = some (.func (.func 66) #[] #[])) :
    Calls Try.prog 92 #[.slice (some ⟨g, 0, none⟩) 1 cap, .string x.name, .func (.func 93) #[] #[.pointer (some ⟨bx, 0, none⟩)]] w fun e w' => e = .returned (.tuple #[.int .i64 0, .bool true]) ∧ Below w.heap.size w w' := by
  have HB := Lib.hid hb
  have HC := Lib.hid hc
  clear hb hc
  go_enter Try.func92, Try.ntmps92
  go_wp2_with fail
  go_loopw [9, 10, 11] (fun i j _ wr => i = .int .i64 0 ∧ (∃ k : Nat, k ≤ 1 ∧ j = .int .i64 k) ∧ Hid (Below w.heap.size w wr)) (fun _ j _ _ => (intOf j).toNat)
  case atStart => exact ⟨rfl, ⟨1, Nat.le_refl _, rfl⟩, Below.refl _ _⟩
  case round =>
    obtain ⟨rfl, ⟨k, hk, rfl⟩, HW⟩ := hrel
    have hcw : wr.rowAt? g 0 20 = some x.cells := by rw [← HC.out]; unfold World.rowAt?; rw [HW.out.block g hg]
    have hbw : wr.cell? ⟨bx, 0, none⟩ = some (.func (.func 66) #[] #[]) := (HW.out.cell (p := ⟨bx, 0, none⟩) hbl).trans HB.out
    have hsw : bx < wr.heap.size := by have := HW.out.size; omega
    have HBW := Lib.hid hbw
    clear hbw
    by_cases h : k = 0
    · subst h
      go_wp2_with (go_at_call 93; refine (cmpObj_same x _ _ hsw HBW.out).mono ?_; rintro e w' ⟨rfl, hbb⟩; have HBB := Lib.hid hbb; clear hbb)
      go_ret2
      exact ⟨rfl, HW.out.trans (HBB.out.mono HW.out.size)⟩
    · obtain rfl : k = 1 := by omega
      go_wp2_with (go_at_call 93; refine (cmpObj_same x _ _ hsw HBW.out).mono ?_; rintro e w' ⟨rfl, hbb⟩; have HBB := Lib.hid hbb; clear hbb)
      exact ⟨⟨rfl, ⟨0, by omega, rfl⟩, HW.out.trans (HBB.out.mono HW.out.size)⟩, by simp [intOf]⟩

set_option maxRecDepth 100000 in
theorem putO_same (g cap : Nat) (x : Obj) (w : World) (hg : g < w.heap.size) (hc : w.rowAt? g 0 20 = some x.cells) :
    Calls Try.prog 65 #[.slice (some ⟨g, 0, none⟩) 1 cap, .agg x.cells, .func (.func 66) #[] #[]] w fun e w' => e = .returned (.slice (some ⟨g, 0, none⟩) 1 cap) ∧ Below w.heap.size w w' := by
  have hmf : ∀ (fn : Fn) (first cap : Array Value) (w : World), (Instr.makeFunc fn first cap).run Try.prog w = .ok (.func fn first cap) w := fun _ _ _ _ => rfl
  have HC := Lib.hid hc
  clear hc
  go_enter Try.func65, Try.ntmps65
  go_wp2_with fail
  refine (keyObj x _).mono ?_
  rintro e w' ⟨rfl, rfl⟩
  go_wp2_with fail
  refine (bsearchO_same g cap (w.heap.size + 1) x _ (by simp; omega) ?_ (by simp) ?_).mono ?_
  · rw [← HC.out]
    unfold World.rowAt?
    rw [heap?_alloc_past _ _ _ (by simp; omega), heap?_alloc_past _ _ _ (by simp; omega), heap?_alloc_past _ _ _ hg]
  · exact (cellPast _ _ _ _ (by simp)).trans (cell_of_row _ _ 0 _ _ _ (heap?_alloc_at _ _ _ (by simp)))
  rintro e w1 ⟨rfl, hb⟩
  have HB : Hid (Below w.heap.size w w1) := ((((Below.refl _ _).alloc (Nat.le_refl _) _).alloc (by simp) _).alloc (by simp; omega) _).trans (hb.mono (by simp; omega))
  clear hb
  go_wp2_with fail
  go_ret
  exact ⟨rfl, HB.out⟩
end Go.Proofs.Ythppjfhbdohmbaa
