/- attach's small functions: write, ask, the closures; slices.Contains, ContainsFunc, IndexFunc of at most one: contracts. -/
import Derived.Test.YthppjfhbdohmbaaAttachments
namespace Go.Proofs.Ythppjfhbdohmbaa
open Go.RowKit Go.Shelf Go.Maps

def zeroCall : Call := ⟨0, es, 0, 0, es, es, es⟩
def bact (t : TypeId) (ps : Array (Nat × Value)) : Sem Value := Instr.build t ps
theorem bact_in (ps : Array (Nat × Value)) : Instr.build 39 ps = bact 39 ps := rfl
set_option maxRecDepth 100000 in
theorem bact_obj (a : Int) (o : Obj) (w : World) : (bact 39 #[(0, .int .u8 a), (1, .agg o.cells)]).run Try.prog w = .ok (.agg (GAct.mk a o zeroCall).cells) w := by
  kernel_rfl
set_option maxRecDepth 100000 in
theorem bact_call (a : Int) (c : Call) (w : World) : (bact 39 #[(0, .int .u8 a), (2, .agg c.cells)]).run Try.prog w = .ok (.agg (GAct.mk a zeroO c).cells) w := by
  kernel_rfl
set_option maxRecDepth 100000 in
theorem bact_none (w : World) : (bact 39 #[]).run Try.prog w = .ok (.agg (GAct.mk 0 zeroO zeroCall).cells) w := by
  kernel_rfl
attribute [go_sem ↓] bact_in
attribute [go_sem] bact_obj bact_call bact_none
theorem results29 (tmps : Array Value) (w : World) (g : Nat) (cs : Array Value) (hp : tmps.getD 6 undef = .pointer (some ⟨g, 0, none⟩)) (hg : w.heap[g]? = some (.cells cs 39)) (hs : cs.size = 28) :
    (results Try.f29 tmps).run Try.prog w = .ok (.agg cs) w :=
  results_cell_row rfl tmps w g 39 cs (0, 0) _ hp hg Try.underlying39 rfl (by rw [hs]; kernel_rfl)
theorem results28 (tmps : Array Value) (w : World) (g : Nat) (cs : Array Value) (hp : tmps.getD 4 undef = .pointer (some ⟨g, 0, none⟩)) (hg : w.heap[g]? = some (.cells cs 39)) (hs : cs.size = 28) :
    (results Try.f28 tmps).run Try.prog w = .ok (.agg cs) w :=
  results_cell_row rfl tmps w g 39 cs (0, 0) _ hp hg Try.underlying39 rfl (by rw [hs]; kernel_rfl)

set_option maxRecDepth 100000 in
set_option maxHeartbeats 1000000 in
theorem write_any (o : Obj) (p v : Int) (w : World) (h0 : 0 ≤ v) (h1 : v < 18446744073709551615) :
    Calls Try.prog 29 #[.agg o.cells, .int .u8 p, .int .u64 v] w fun e w' => e = .returned (.agg (GAct.mk 1 { o with phase := p, num := v + 1 } zeroCall).cells) ∧ Below w.heap.size w w' := by
  go_enter Try.func29, Try.ntmps29
  go_wp2
  exact bodyPost_ret (results29 _ _ (w.heap.size + 1) _ rfl (heap?_alloc_at _ _ _ (by simp)) rfl) rfl ⟨rfl, ((Below.refl _ _).alloc (Nat.le_refl _) _).alloc (by simp) _⟩

def askC (verb : Int) (o : Obj) : Call := ⟨verb, o.volume, o.num, 0, es, o.node, es⟩
set_option maxRecDepth 100000 in
set_option maxHeartbeats 1000000 in
theorem ask_any (v : Int) (o : Obj) (w : World) :
    Calls Try.prog 28 #[.int .u8 v, .agg o.cells] w fun e w' => e = .returned (.agg (GAct.mk 3 zeroO (askC v o)).cells) ∧ Below w.heap.size w w' := by
  go_enter Try.func28, Try.ntmps28
  go_wp2
  exact bodyPost_ret (results28 _ _ (w.heap.size + 1) _ rfl (heap?_alloc_at _ _ _ (by simp)) rfl) rfl ⟨rfl, ((Below.refl _ _).alloc (Nat.le_refl _) _).alloc (by simp) _⟩

set_option maxRecDepth 100000 in
theorem atNode_any (o : Obj) (bx : Nat) (node : ByteArray) (w : World) (hb : bx < w.heap.size) (hc : w.cell? ⟨bx, 0, none⟩ = some (.string node)) :
    Calls Try.prog 31 #[.agg o.cells, .pointer (some ⟨bx, 0, none⟩)] w fun e w' => e = .returned (.bool (o.node.toList == node.toList)) ∧ w' = w.alloc (.cells o.cells 27) := by
  go_enter Try.func31, Try.ntmps31
  go_wp2
  go_ret
  exact ⟨rfl, rfl⟩

set_option maxRecDepth 100000 in
theorem atCall_any (o : Obj) (bx : Nat) (c : Call) (w : World) (hb : bx < w.heap.size) (hc : ∀ i, w.cell? ⟨bx, i, none⟩ = c.cells[i]?) (h1 : (o.node.toList == c.node.toList) = true) (h2 : (o.num == c.num) = true) :
    Calls Try.prog 33 #[.agg o.cells, .pointer (some ⟨bx, 0, none⟩)] w fun e w' => e = .returned (.bool true) ∧ w' = w.alloc (.cells o.cells 27) := by
  go_enter Try.func33, Try.ntmps33
  go_wp2
  go_ret
  exact ⟨rfl, rfl⟩

set_option maxRecDepth 100000 in
theorem index_one (g cap : Nat) (x y : ByteArray) (w : World) (hc : w.cell? ⟨g, 0, none⟩ = some (.string x)) (h : (y.toList == x.toList) = false) :
    Calls Try.prog 67 #[.slice (some ⟨g, 0, none⟩) 1 cap, .string y] w fun e w' => e = .returned (.int .i64 (-1)) ∧ w = w' := by
  go_enter Try.func67, Try.ntmps67
  go_wp2
  go_loop [8] (fun i => ∃ k : Nat, k ≤ 1 ∧ i = .int .i64 k) (fun i => 1 - (intOf i).toNat)
  case atStart => exact ⟨0, by omega, rfl⟩
  case round =>
    obtain ⟨k, hk, rfl⟩ := hrel
    by_cases h0 : k = 0
    · subst h0
      go_wp2
      exact ⟨⟨1, by omega, rfl⟩, by simp [intOf]⟩
    · obtain rfl : k = 1 := by omega
      go_wp2
      go_ret
      exact ⟨rfl, rfl⟩
set_option maxRecDepth 100000 in
theorem contains_one (g cap : Nat) (x y : ByteArray) (w : World) (hc : w.cell? ⟨g, 0, none⟩ = some (.string x)) (h : (y.toList == x.toList) = false) :
    Calls Try.prog 27 #[.slice (some ⟨g, 0, none⟩) 1 cap, .string y] w fun e w' => e = .returned (.bool false) ∧ w = w' := by
  go_enter Try.func27, Try.ntmps27
  go_wp2_with fail
  refine (index_one g cap x y _ hc h).mono ?_
  rintro e w' ⟨rfl, rfl⟩
  go_wp2_with fail
  go_ret
  exact ⟨rfl, rfl⟩

set_option maxRecDepth 100000 in
theorem indexF_none (f : Value) (w : World) : Calls Try.prog 32 #[.slice none 0 0, f] w fun e w' => e = .returned (.int .i64 (-1)) ∧ w = w' := by
  go_enter Try.func32, Try.ntmps32
  go_wp2
  go_loop [8] (fun i => i = .int .i64 0) (fun _ => 0)
  case atStart => exact rfl
  case round =>
    subst hrel
    go_wp2
    go_ret
    exact ⟨rfl, rfl⟩
set_option maxRecDepth 100000 in
theorem containsF_none (f : Value) (w : World) : Calls Try.prog 30 #[.slice none 0 0, f] w fun e w' => e = .returned (.bool false) ∧ w = w' := by
  go_enter Try.func30, Try.ntmps30
  go_wp2_with fail
  refine (indexF_none _ _).mono ?_
  rintro e w' ⟨rfl, rfl⟩
  go_wp2_with fail
  go_ret
  exact ⟨rfl, rfl⟩
set_option maxRecDepth 100000 in
theorem indexF_one (g cap bx : Nat) (o : Obj) (c : Call) (w : World) (hr : w.rowAt? g 0 20 = some o.cells) (hb : bx < w.heap.size) (hc : ∀ i, w.cell? ⟨bx, i, none⟩ = c.cells[i]?) (h1 : (o.node.toList == c.node.toList) = true) (h2 : (o.num == c.num) = true) :
    Calls Try.prog 32 #[.slice (some ⟨g, 0, none⟩) 1 cap, .func (.func 33) #[] #[.pointer (some ⟨bx, 0, none⟩)]] w fun e w' => e = .returned (.int .i64 0) ∧ w' = w.alloc (.cells o.cells 27) := by
  have HC := Lib.hid hc
  have H1 := Lib.hid h1
  have H2 := Lib.hid h2
  clear hc h1 h2
  go_enter Try.func32, Try.ntmps32
  go_wp2
  go_loop [8] (fun i => i = .int .i64 0) (fun _ => 0)
  case atStart => exact rfl
  case round =>
    subst hrel
    go_wp2_with fail
    refine (atCall_any o bx c _ hb HC.out H1.out H2.out).mono ?_
    rintro e w' ⟨rfl, rfl⟩
    go_wp2_with fail
    go_ret
    exact ⟨rfl, rfl⟩
end Go.Proofs.Ythppjfhbdohmbaa
