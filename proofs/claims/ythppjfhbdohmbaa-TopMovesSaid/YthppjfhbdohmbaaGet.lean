/- attach.get: the contract of the Go function, where the keys are pairwise different. -/
import Derived.Test.YthppjfhbdohmbaaFirsts
namespace Go.Proofs.Ythppjfhbdohmbaa
open Go.RowKit Go.Shelf Go.Maps
attribute [local go_sem] Oper.semAt_some

theorem firsts_any (B len cap : Nat) (w : World) : Calls Try.prog 62 #[.slice (some ⟨B, 0, none⟩) len cap] w fun e w' =>
    e = .returned (.func (.func 87) #[] #[.pointer (some ⟨w.heap.size, 0, none⟩)]) ∧ w' = w.alloc (.cells #[.slice (some ⟨B, 0, none⟩) len cap] 41) := by
  have hmf : ∀ (fn : Fn) (first cap : Array Value) (w : World), (Instr.makeFunc fn first cap).run Try.prog w = .ok (.func fn first cap) w := fun _ _ _ _ => rfl
  go_enter Try.func62, Try.ntmps62
  go_wp2
  go_ret
  exact ⟨rfl, rfl⟩

theorem KeepX.refl (n₀ m : Nat) (W : World) : KeepX n₀ m W W := ⟨Below.refl _ _, fun _ _ _ h _ => h⟩
theorem KeepX.alloc {n₀ : Nat} (m : Nat) (W : World) (o : Go.Obj) (h : n₀ ≤ W.heap.size) : KeepX n₀ m W (W.alloc o) :=
  ⟨(Below.refl _ _).alloc h _, fun _ _ _ hk _ => (Below.heap_alloc _ _ _ (Array.getElem?_eq_some_iff.1 hk).1).trans hk⟩

def isIt (k : Int) (name : ByteArray) (o : Obj) : Bool := o.kind == k && o.name.toList == name.toList
def zeroO : Obj := ⟨0, es, 0, 0, false, false, es, 0, 0, 0, false, false, es, es, es, es, es, 0, 0, 0⟩

/-- The blocks that get lays: the kind, the name, the two results. -/
structure GetI (w : World) (k : Int) (name : ByteArray) (o : Obj) (ok : Bool) (W : World) : Prop where
  kind : W.heap[w.heap.size]? = some (.cells #[.int .u8 k] 22)
  name : W.heap[w.heap.size + 1]? = some (.cells #[.string name] 9)
  out : W.heap[w.heap.size + 2]? = some (.cells o.cells 27)
  ok : W.heap[w.heap.size + 3]? = some (.cells #[.bool ok] 4)
  below : Below w.heap.size w W
theorem GetI.grown {w : World} {k : Int} {name : ByteArray} {o : Obj} {ok : Bool} {W W' : World} {row : Option Nat} (h : GetI w k name o ok W) (hg : W.grownBy W' row) (hr : ∀ r, row = some r → w.heap.size + 4 ≤ r) : GetI w k name o ok W' := by
  have hs := (Array.getElem?_eq_some_iff.1 h.ok).1
  have hb : ∀ j, j < w.heap.size + 4 → W'.heap[j]? = W.heap[j]? := fun j hj => hg.block j (by omega) (fun e => by have := hr j e.symm; omega)
  exact ⟨(hb _ (by omega)).trans h.kind, (hb _ (by omega)).trans h.name, (hb _ (by omega)).trans h.out, (hb _ (by omega)).trans h.ok, h.below.grown hg (by omega) (fun r e => by have := hr r e; omega)⟩

theorem GetI.set {w : World} {k : Int} {name : ByteArray} {o : Obj} {ok : Bool} {W : World} (h : GetI w k name o ok W) (x : Obj) (b : Bool) :
    GetI w k name x b ((W.putRow (w.heap.size + 1 + 1) 0 x.cells).setCell ⟨w.heap.size + 1 + 1 + 1, 0, none⟩ (.bool b)) := by
  refine ⟨?_, ?_, ?_, ?_, ?_⟩
  · rw [Below.heap_setCell _ _ _ _ (by simp; omega), World.heap_putRow_other _ _ _ _ (by omega)]; exact h.kind
  · rw [Below.heap_setCell _ _ _ _ (by simp), World.heap_putRow_other _ _ _ _ (by omega)]; exact h.name
  · rw [Below.heap_setCell _ _ _ _ (by simp)]
    exact (World.heap_putRow_same _ _ _ h.out).trans (by rw [Obj.over])
  · exact heap_setCell_same _ _ 0 _ _ _ ((World.heap_putRow_other _ _ _ _ (by omega)).trans h.ok)
  · refine ⟨h.below.os, h.below.tape, h.below.output, by have := h.below.size; simpa using this, fun j hj => ?_⟩
    rw [Below.heap_setCell _ _ _ _ (by simp; omega), World.heap_putRow_other _ _ _ _ (by omega)]
    exact h.below.block j hj
theorem getset_other (w W : World) (x : Obj) (b : Bool) (j : Nat) (hj : w.heap.size + 4 ≤ j) : ((W.putRow (w.heap.size + 1 + 1) 0 x.cells).setCell ⟨w.heap.size + 1 + 1 + 1, 0, none⟩ (.bool b)).heap[j]? = W.heap[j]? := by
  rw [Below.heap_setCell _ _ _ _ (by simp; omega), World.heap_putRow_other _ _ _ _ (by omega)]
theorem GetI.putObj {w : World} {k : Int} {name : ByteArray} {o : Obj} {ok : Bool} {W : World} (h : GetI w k name o ok W) (D : Nat) (x : Go.Obj) (hD : w.heap.size + 4 ≤ D) : GetI w k name o ok (W.putObj D x) :=
  h.grown (grownBy_putObj' W D x) (fun r e => by cases e; exact hD)
theorem results24 (tmps : Array Value) (w : World) (g h : Nat) (cs : Array Value) (v : Value) (hp : tmps.getD 6 undef = .pointer (some ⟨g, 0, none⟩)) (hq : tmps.getD 7 undef = .pointer (some ⟨h, 0, none⟩)) (hg : w.heap[g]? = some (.cells cs 27)) (hs : cs.size = 20)
    (hv : w.cell? ⟨h, 0, none⟩ = some v) : (results Try.f24 tmps).run Try.prog w = .ok (.tuple #[.agg cs, v]) w := by
  have hp' : tmps[6]?.getD undef = .pointer (some ⟨g, 0, none⟩) := by simpa using hp
  have hq' : tmps[7]?.getD undef = .pointer (some ⟨h, 0, none⟩) := by simpa using hq
  have h1 := run_loadVar_row (P := Try.prog) w g 27 27 cs (0, 0) _ hg Try.underlying27 rfl (by rw [hs]; kernel_rfl)
  have h2 : (loadVar 4 ⟨h, 0, none⟩).run Try.prog w = .ok v w := by simp [go_sem, hv]
  simp [results, hp', hq', asAddr, h1, h2]

set_option maxRecDepth 100000 in
set_option maxHeartbeats 4000000 in
theorem get_any (B cap : Nat) (all : List Obj) (k : Int) (name : ByteArray) (w : World) (hlen : all.length ≤ 1000) (hkeys : ∀ o ∈ all, o.Keyish) (hnd : all.Pairwise (fun a b => a.klit ≠ b.klit)) (hc : Objs w B all) :
    Calls Try.prog 24 #[.slice (some ⟨B, 0, none⟩) all.length cap, .int .u8 k, .string name] w fun e w' =>
      e = .returned (.tuple #[.agg ((all.find? (isIt k name)).getD zeroO).cells, .bool (all.find? (isIt k name)).isSome]) ∧ Below w.heap.size w w' := by
  have HC := Lib.hid hc
  have HK := Lib.hid hkeys
  have HND := Lib.hid hnd
  have hBl := hc.1
  clear hc hkeys hnd
  have f62 : Fence.wide.fn 62 := trivial
  have f75 : Fence.wide.fn 75 := trivial
  have f87 : Fence.wide.fn 87 := trivial
  refine (callsIn_wide (n := 6)).1 ?_
  refine callsIn_of_wp_marks Try.func24 rfl trivial ?_ rfl
  simp only [Try.ntmps24, List.size_toArray, List.length_cons, List.length_nil, Nat.reduceAdd, Nat.reduceSub, Array.replicate_succ, Array.replicate_zero, List.push_toArray, List.append_toArray, List.nil_append, List.cons_append]
  gi_wp2_with fail
  refine (callsIn_wide.2 (firsts_any B all.length cap _)).mono ?_
  rintro e w' ⟨rfl, rfl⟩
  gi_wp2_with fail
  generalize hW0 : ((((w.alloc (.cells #[.int .u8 k] 22)).alloc (.cells #[.string name] 9)).alloc (.cells (Obj.mk 0 ⟨#[]⟩ 0 0 false false ⟨#[]⟩ 0 0 0 false false ⟨#[]⟩ ⟨#[]⟩ ⟨#[]⟩ ⟨#[]⟩ ⟨#[]⟩ 0 0 0).cells 27)).alloc (.cells #[.bool false] 4)).alloc (.cells #[.slice (some ⟨B, 0, none⟩) all.length cap] 41) = W0
  have hsz : W0.heap.size = w.heap.size + 5 := by rw [← hW0]; simp
  have hBW : Below w.heap.size w W0 := by
    rw [← hW0]
    exact (((((Below.refl _ _).alloc (Nat.le_refl _) _).alloc (by simp) _).alloc (by simp; omega) _).alloc (by simp; omega) _).alloc (by simp; omega) _
  have hI0 : GetI w k name zeroO false W0 := by
    refine ⟨?_, ?_, ?_, ?_, hBW⟩ <;> rw [← hW0]
    · rw [heap?_alloc_past _ _ _ (by simp <;> omega), heap?_alloc_past _ _ _ (by simp <;> omega), heap?_alloc_past _ _ _ (by simp <;> omega), heap?_alloc_past _ _ _ (by simp <;> omega)]; exact heap?_alloc_at _ _ _ rfl
    · rw [heap?_alloc_past _ _ _ (by simp <;> omega), heap?_alloc_past _ _ _ (by simp <;> omega), heap?_alloc_past _ _ _ (by simp <;> omega)]; exact heap?_alloc_at _ _ _ (by simp <;> omega)
    · rw [heap?_alloc_past _ _ _ (by simp <;> omega), heap?_alloc_past _ _ _ (by simp <;> omega)]; exact heap?_alloc_at _ _ _ (by simp <;> omega)
    · rw [heap?_alloc_past _ _ _ (by simp <;> omega)]; exact heap?_alloc_at _ _ _ (by simp <;> omega)
  have hbs : W0.cell? ⟨w.heap.size + 4, 0, none⟩ = some (.slice (some ⟨B, 0, none⟩) all.length cap) := by
    rw [← hW0]; exact cell_of_row _ _ 0 _ _ _ (heap?_alloc_at _ _ _ (by simp))
  have hob : Objs W0 B all := HC.out.below hBW hBl
  clear hW0
  have HSZ := Lib.hid hsz
  refine wpIn_rangeFunc_ownH rfl (by omega) (gf := 87) (lb := #[.pointer (some ⟨w.heap.size + 4, 0, none⟩)]) rfl f87 (enters_of Try.func87 (by kernel_rfl) rfl)
    (firsts_stops Fence.wide 5 f87 f75 rfl (by omega) (fun o w => callsIn_wide.2 (Key_any o w)) (w.heap.size + 4) w.heap.size B cap all hlen hBl HK.out HND.out W0 (by omega) (by omega) hbs hob)
    KeepX.trans (fun W l o o' hl h h1 h2 => KeepX.book (by omega) W l o o' hl h h1 h2) (Below.refl _ _) (fun _ => rfl)
    (fun pre W => (GetI w k name zeroO false W ∧ w.heap.size + 5 ≤ W.heap.size) ∧ ∀ o ∈ pre, isIt k name o.1 = false)
    (fun c pre W => c = .ret ∧ ∃ p x, pre = p ++ [x] ∧ isIt k name x.1 = true ∧ (∀ o ∈ p, isIt k name o.1 = false) ∧ GetI w k name x.1 true W)
    (fun s A B' row hs hg hr => ⟨⟨hs.1.1.grown hg (fun r e => by have := (hr r e).1; omega), Nat.le_trans hs.1.2 hg.size⟩, hs.2⟩)
    (fun c s A B' row hs hg hr => by
      obtain ⟨hc, p, x, h1, h2, h3, h4⟩ := hs
      exact ⟨hc, p, x, h1, h2, h3, h4.grown hg (fun r e => by have := (hr r e).1; omega)⟩)
    ⟨⟨hI0, by omega⟩, fun _ h => by cases h⟩
    (fun x a' W => ∃ Bx, w.heap.size + 5 ≤ Bx ∧ W.heap[Bx]? = some (.cells x.1.cells 27) ∧ a' = { tmps := #[.slice (some ⟨B, 0, none⟩) all.length cap, .int .u8 k, .string name, undef, .pointer (some ⟨w.heap.size, 0, none⟩), .pointer (some ⟨w.heap.size + 1, 0, none⟩), .pointer (some ⟨w.heap.size + 1 + 1, 0, none⟩), .pointer (some ⟨w.heap.size + 1 + 1 + 1, 0, none⟩), .pointer (some ⟨Bx, 0, none⟩), .slice (some ⟨B, 0, none⟩) all.length cap, .func (.func 87) #[] #[.pointer (some ⟨w.heap.size + 1 + 1 + 1 + 1, 0, none⟩)], .agg x.1.cells, undef, undef, undef, undef, undef, undef, undef, undef, undef, undef, undef, undef], defers := [] })
    (fun x a' _ A B' row hs hg hr => by
      obtain ⟨Bx, h1, h2, h3⟩ := hs
      refine ⟨Bx, h1, (hg.block _ (Array.getElem?_eq_some_iff.1 h2).1 (fun e => ?_)).trans h2, h3⟩
      obtain ⟨_, o, ho, hc⟩ := hr Bx e.symm
      rw [h2] at ho
      cases ho
      cases hc)
    ?assign ?body ?done ?stop
  case assign =>
    intro l pre x W K hi hK
    gi_wp2
    exact hK _ _ ((KeepsOthers.alloc _ _).from _) (KeepX.alloc _ _ _ (by have := hi.1.2; omega)) ⟨⟨hi.1.1.grown (World.grownBy_alloc W _ none) (fun r e => by cases e), by have := hi.1.2; simp; omega⟩, hi.2⟩ ⟨W.heap.size, hi.1.2, heap?_alloc_at _ _ _ rfl, rfl⟩
  case body =>
    rintro l pre ⟨x, hxm⟩ a' W hl ⟨r, hr⟩ ⟨⟨hi, hz⟩, hno⟩ ⟨Bx, hBx, bX, rfl⟩ hlt
    dsimp only at bX
    dsimp only
    have hk0 : W.cell? ⟨w.heap.size, 0, none⟩ = some (.int .u8 k) := cell_of_row _ _ 0 _ _ _ hi.kind
    have hk1 : W.cell? ⟨w.heap.size + 1, 0, none⟩ = some (.string name) := cell_of_row _ _ 0 _ _ _ hi.name
    have hx : ∀ i, W.cell? ⟨Bx, i, none⟩ = x.cells[i]? := fun i => cell_of_row _ _ i _ _ _ bX
    have hrow : W.rowAt? Bx 0 20 = some x.cells := by rw [World.rowAt?_of _ _ _ bX]; exact Obj.row x
    have hfree : W.rowFree (w.heap.size + 1 + 1) 0 20 = true := by rw [World.rowFree_of _ _ _ hi.out]; rfl
    have hp : (W.putRow (w.heap.size + 1 + 1) 0 x.cells).heap[w.heap.size + 1 + 1 + 1]? = some (.cells #[.bool false] 4) := (World.heap_putRow_other _ _ _ _ (by omega)).trans hi.ok
    have hp0 : (W.putRow (w.heap.size + 1 + 1) 0 x.cells).cell? ⟨w.heap.size + 1 + 1 + 1, 0, none⟩ = some (.bool false) := cell_of_row _ _ 0 _ _ _ hp
    have hp1 : (W.putRow (w.heap.size + 1 + 1) 0 x.cells).frozen? ⟨w.heap.size + 1 + 1 + 1, 0, none⟩ = false := frozen_of_row _ _ 0 _ _ hp
    have HP := Lib.hid hp
    have HI := Lib.hid hi
    have HNO := Lib.hid hno
    clear bX hp hi hno hsz hr
    have stay : Hid (isIt k name x = false → KeepsFrom W0.heap.size W W ∧ KeepX w.heap.size W0.heap.size W W ∧ (GetI w k name zeroO false W ∧ w.heap.size + 5 ≤ W.heap.size) ∧ ∀ o ∈ pre ++ [⟨x, hxm⟩], isIt k name o.1 = false) := by
      intro h
      refine ⟨KeepsFrom.refl _ _, KeepX.refl _ _ _, ⟨HI.out, hz⟩, fun o ho => ?_⟩
      rcases List.mem_append.1 ho with h1 | h1
      · exact HNO.out o h1
      · rw [List.mem_singleton.1 h1]; exact h
    by_cases e1 : x.kind = k
    · have e1' : (x.kind == k) = true := by simpa using e1
      by_cases e2 : (x.name.toList == name.toList) = true
      · have HIT : Hid (isIt k name x = true) := by unfold Hid isIt; rw [e1', e2]; rfl
        clear e1
        gi_wp2
        refine ⟨⟨by simp, fun j o hj h0 ho => (getset_other w W x true j (by have := HSZ.out; omega)).trans h0⟩, rfl, pre, ⟨x, hxm⟩, rfl, HIT.out, HNO.out, HI.out.set x true⟩
      · have e2' := Bool.eq_false_iff.2 e2
        have HIT : Hid (isIt k name x = false) := by unfold Hid isIt; rw [e1', e2']; rfl
        clear e1 e2
        gi_wp2
        exact stay.out HIT.out
    · have e1' : (x.kind == k) = false := by simpa using e1
      have HIT : Hid (isIt k name x = false) := by unfold Hid isIt; rw [e1']; rfl
      clear e1
      gi_wp2
      exact stay.out HIT.out
  case done =>
    rintro D ys W hD hall ⟨⟨hi, hz⟩, hno0⟩ hK
    have hno : ∀ o ∈ all, isIt k name o = false := by
      intro o ho
      rw [← hall] at ho
      obtain ⟨y, hy, rfl⟩ := List.mem_map.1 ho
      exact hno0 y hy
    have hrow : W.rowAt? (w.heap.size + 1 + 1) 0 20 = some zeroO.cells := by rw [World.rowAt?_of _ _ _ hi.out]; exact Obj.row _
    have hfree : W.rowFree (w.heap.size + 1 + 1) 0 20 = true := by rw [World.rowFree_of _ _ _ hi.out]; rfl
    have hp : (W.putRow (w.heap.size + 1 + 1) 0 zeroO.cells).heap[w.heap.size + 1 + 1 + 1]? = some (.cells #[.bool false] 4) := (World.heap_putRow_other _ _ _ _ (by omega)).trans hi.ok
    have hp0 : (W.putRow (w.heap.size + 1 + 1) 0 zeroO.cells).cell? ⟨w.heap.size + 1 + 1 + 1, 0, none⟩ = some (.bool false) := cell_of_row _ _ 0 _ _ _ hp
    have hp1 : (W.putRow (w.heap.size + 1 + 1) 0 zeroO.cells).frozen? ⟨w.heap.size + 1 + 1 + 1, 0, none⟩ = false := frozen_of_row _ _ 0 _ _ hp
    have HP := Lib.hid hp
    have HI := Lib.hid hi
    have HNO := Lib.hid hno
    clear hi hno hno0 hall hsz hp
    gi_wp2
    have HF : all.find? (isIt k name) = none := List.find?_eq_none.2 (fun o ho => by simp [HNO.out o ho])
    have hi2 := HI.out.set zeroO false
    have hK2 := (getset_other w W zeroO false D (by have := HSZ.out; omega)).trans hK
    have hi3 := hi2.putObj D (.deferred none) (by have := HSZ.out; omega)
    refine ⟨by simp, .inl ⟨_, _, rfl, run_takeDeferred hK2, ?_⟩⟩
    exact ⟨_, results24 _ _ (w.heap.size + 2) (w.heap.size + 3) zeroO.cells (.bool false) rfl rfl hi3.out rfl (cell_of_row _ _ 0 _ _ _ hi3.ok), by rw [HF]; rfl, hi3.below⟩
  case stop =>
    rintro D c pre W hD hpre0 ⟨rfl, p, ⟨x, hxm⟩, rfl, hx, hno0, hi⟩ hK
    have hno : ∀ o ∈ p.map (·.1), isIt k name o = false := by
      intro o ho
      obtain ⟨y, hy, rfl⟩ := List.mem_map.1 ho
      exact hno0 y hy
    have hpre : p.map (·.1) ++ [x] <+: all := by simpa using hpre0
    dsimp only at hx hi
    have HI := Lib.hid hi
    have HPRE := Lib.hid hpre
    have HNO := Lib.hid hno
    have HX := Lib.hid hx
    clear hi hpre hpre0 hno hno0 hx hsz
    gi_wp2
    have HF : all.find? (isIt k name) = some x := by
      obtain ⟨r, hr⟩ := HPRE.out
      rw [← hr, List.append_assoc, List.find?_append, List.find?_eq_none.2 (fun o ho => by simp [HNO.out o ho])]
      simp [HX.out]
    have hi3 := HI.out.putObj D (.deferred none) (by have := HSZ.out; omega)
    refine ⟨by simp, .inl ⟨_, _, rfl, run_takeDeferred hK, ?_⟩⟩
    exact ⟨_, results24 _ _ (w.heap.size + 2) (w.heap.size + 3) x.cells (.bool true) rfl rfl hi3.out rfl (cell_of_row _ _ 0 _ _ _ hi3.ok), by rw [HF]; rfl, hi3.below⟩
end Go.Proofs.Ythppjfhbdohmbaa
