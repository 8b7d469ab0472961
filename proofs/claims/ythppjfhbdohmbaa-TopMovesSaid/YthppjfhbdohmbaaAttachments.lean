/- attach.Attachments where there is at most one of the volume: the contract of the Go function. -/
import Derived.Test.YthppjfhbdohmbaaWanted
namespace Go.Proofs.Ythppjfhbdohmbaa
open Go.RowKit Go.Shelf Go.Maps
attribute [local go_sem] Oper.semAt_some

def isA (vol : ByteArray) (x : Obj) : Bool := x.kind == 5 && x.volume.toList == vol.toList
/-- The blocks that Attachments lays: the name, what came out so far (ov). -/
structure AttI (w : World) (vol : ByteArray) (ov : Value) (W : World) : Prop where
  vol : W.heap[w.heap.size]? = some (.cells #[.string vol] 9)
  out : W.heap[w.heap.size + 1]? = some (.cells #[ov] 41)
  below : Below w.heap.size w W
  size : w.heap.size + 3 ≤ W.heap.size
theorem AttI.grown {w : World} {vol : ByteArray} {ov : Value} {W W' : World} {row : Option Nat} (h : AttI w vol ov W) (hg : W.grownBy W' row) (hr : ∀ r, row = some r → w.heap.size + 3 ≤ r) : AttI w vol ov W' := by
  have hz := h.size
  have hb : ∀ j, j < w.heap.size + 3 → W'.heap[j]? = W.heap[j]? := fun j hj => hg.block j (by omega) (fun e => by have := hr j e.symm; omega)
  exact ⟨(hb _ (by omega)).trans h.vol, (hb _ (by omega)).trans h.out, h.below.grown hg (by omega) (fun r e => by have := hr r e; omega), by have := hg.size; omega⟩
/-- What came out so far: nothing, or the one object. -/
def OutO (w : World) (ov : Value) (q : Obj) (some' : Prop) (W : World) : Prop :=
  (ov = .slice none 0 0 ∧ ¬ some') ∨ (One W w.heap.size 27 ov q.cells ∧ some')
theorem OutO.grown {w : World} {ov : Value} {q : Obj} {s : Prop} {W W' : World} {row : Option Nat} (h : OutO w ov q s W) (hg : W.grownBy W' row) (hr : ∀ r, row = some r → ∃ o : Go.Obj, W.heap[r]? = some o ∧ o.isCells = false) : OutO w ov q s W' := by
  rcases h with h | ⟨h, hs⟩
  · exact .inl h
  · refine .inr ⟨h.kept (fun j c _ hj => ?_), hs⟩
    refine (hg.block j (Array.getElem?_eq_some_iff.1 hj).1 (fun e => ?_)).trans hj
    obtain ⟨o, ho, hc⟩ := hr j e.symm
    rw [hj] at ho
    cases ho
    cases hc
theorem OutO.of_iff {w : World} {ov : Value} {q : Obj} {s s' : Prop} {W : World} (h : OutO w ov q s W) (e : s ↔ s') : OutO w ov q s' W := by
  have : s = s' := propext e
  subst this
  exact h
theorem OutO.later {w : World} {ov : Value} {q : Obj} {s : Prop} {W W' : World} (h : OutO w ov q s W) (hb : Below W.heap.size W W') : OutO w ov q s W' := by
  rcases h with h | ⟨h, hs⟩
  · exact .inl h
  · exact .inr ⟨h.kept (fun j c _ hj => (hb.block j (Array.getElem?_eq_some_iff.1 hj).1).trans hj), hs⟩
theorem putO_out {w W : World} {ov : Value} {q : Obj} {s : Prop} (ho : OutO w ov q s W) (hw : w.heap.size ≤ W.heap.size) :
    Calls Try.prog 65 #[ov, .agg q.cells, .func (.func 66) #[] #[]] W fun e W' => ∃ v, e = .returned v ∧ One W' w.heap.size 27 v q.cells ∧ Below W.heap.size W W' := by
  rcases ho with ⟨rfl, _⟩ | ⟨⟨g, cp, cur, rfl, hg, hh, hr⟩, _⟩
  · refine (putO_nil q W).mono ?_
    rintro e W' ⟨v, rfl, ⟨g, cp, cur, h1, h2, h3, h4⟩, hb⟩
    exact ⟨v, rfl, ⟨g, cp, cur, h1, by omega, h3, h4⟩, hb⟩
  · have hc : W.rowAt? g 0 20 = some q.cells := by rw [World.rowAt?_of _ _ _ hh]; exact hr
    refine (putO_same g cp q W (Array.getElem?_eq_some_iff.1 hh).1 hc).mono ?_
    rintro e W' ⟨rfl, hb⟩
    exact ⟨_, rfl, ⟨g, cp, cur, rfl, hg, (hb.block g (Array.getElem?_eq_some_iff.1 hh).1).trans hh, hr⟩, hb⟩

set_option maxRecDepth 100000 in
set_option maxHeartbeats 4000000 in
theorem attachments_any (B cap : Nat) (all : List Obj) (vol : ByteArray) (q : Obj) (w : World) (hlen : all.length ≤ 1000) (hkeys : ∀ o ∈ all, o.Keyish) (hnd : all.Pairwise (fun a b => a.klit ≠ b.klit)) (hc : Objs w B all)
    (hq : ∀ x ∈ all, isA vol x = true → x = q) :
    Calls Try.prog 26 #[.slice (some ⟨B, 0, none⟩) all.length cap, .string vol] w fun e w' => ∃ v, e = .returned v ∧ OutO w v q (∃ x ∈ all, isA vol x = true) w' ∧ Below w.heap.size w w' := by
  have HC := Lib.hid hc
  have HK := Lib.hid hkeys
  have HND := Lib.hid hnd
  have HQ := Lib.hid hq
  have hBl := hc.1
  clear hc hkeys hnd hq
  have f62 : Fence.wide.fn 62 := trivial
  have f65 : Fence.wide.fn 65 := trivial
  have f75 : Fence.wide.fn 75 := trivial
  have f87 : Fence.wide.fn 87 := trivial
  refine (callsIn_wide (n := 6)).1 ?_
  refine callsIn_of_wp_marks Try.func26 rfl trivial ?_ rfl
  simp only [Try.ntmps26, List.size_toArray, List.length_cons, List.length_nil, Nat.reduceAdd, Nat.reduceSub, Array.replicate_succ, Array.replicate_zero, List.push_toArray, List.append_toArray, List.nil_append, List.cons_append]
  gi_wp2_with fail
  refine (callsIn_wide.2 (firsts_any B all.length cap _)).mono ?_
  rintro e w' ⟨rfl, rfl⟩
  gi_wp2_with fail
  generalize hW0 : ((w.alloc (.cells #[.string vol] 9)).alloc (.cells #[.slice none 0 0] 41)).alloc (.cells #[.slice (some ⟨B, 0, none⟩) all.length cap] 41) = W0
  have hsz : W0.heap.size = w.heap.size + 3 := by rw [← hW0]; simp
  have hBW : Below w.heap.size w W0 := by
    rw [← hW0]
    exact ((((Below.refl w.heap.size w).alloc (Nat.le_refl _) _).alloc (by simp) _).alloc (by simp; omega) _)
  have hI0 : AttI w vol (.slice none 0 0) W0 := by
    refine ⟨?_, ?_, hBW, by omega⟩ <;> rw [← hW0]
    · rw [heap?_alloc_past _ _ _ (by simp; omega), heap?_alloc_past _ _ _ (by simp)]; exact heap?_alloc_at _ _ _ rfl
    · rw [heap?_alloc_past _ _ _ (by simp)]; exact heap?_alloc_at _ _ _ (by simp)
  have hbs : W0.cell? ⟨w.heap.size + 1 + 1, 0, none⟩ = some (.slice (some ⟨B, 0, none⟩) all.length cap) := by
    rw [← hW0]; exact cell_of_row _ _ 0 _ _ _ (heap?_alloc_at _ _ _ (by simp))
  have hob : Objs W0 B all := HC.out.below hBW hBl
  clear hW0
  have HSZ := Lib.hid hsz
  refine wpIn_rangeFunc_ownH rfl (by omega) (gf := 87) (lb := #[.pointer (some ⟨w.heap.size + 1 + 1, 0, none⟩)]) rfl f87 (enters_of Try.func87 (by kernel_rfl) rfl)
    (firsts_stops Fence.wide 5 f87 f75 rfl (by omega) (fun o w => callsIn_wide.2 (Key_any o w)) (w.heap.size + 1 + 1) w.heap.size B cap all hlen hBl HK.out HND.out W0 (by omega) (by omega) hbs hob)
    KeepX.trans (fun W l o o' hl h h1 h2 => KeepX.book (by omega) W l o o' hl h h1 h2) (Below.refl _ _) (fun _ => rfl)
    (fun pre W => ∃ ov, AttI w vol ov W ∧ OutO w ov q (∃ x ∈ pre, isA vol x.1 = true) W)
    (fun _ _ _ => False)
    (fun s A B' row hs hg hr => by
      obtain ⟨ov, h1, h2⟩ := hs
      exact ⟨ov, h1.grown hg (fun r e => by have := (hr r e).1; omega), h2.grown hg (fun r e => by obtain ⟨_, o, ho, hc⟩ := hr r e; exact ⟨o, ho, hc⟩)⟩)
    (fun c s A B' row hs hg hr => hs.elim)
    ⟨_, hI0, .inl ⟨rfl, fun ⟨_, h, _⟩ => by cases h⟩⟩
    (fun x a' W => ∃ Bx, W0.heap.size ≤ Bx ∧ W.heap[Bx]? = some (.cells x.1.cells 27) ∧ a' = { tmps := #[.slice (some ⟨B, 0, none⟩) all.length cap, .string vol, undef, .pointer (some ⟨w.heap.size, 0, none⟩), .slice none 0 0, .pointer (some ⟨w.heap.size + 1, 0, none⟩), .pointer (some ⟨Bx, 0, none⟩), .slice (some ⟨B, 0, none⟩) all.length cap, .func (.func 87) #[] #[.pointer (some ⟨w.heap.size + 1 + 1, 0, none⟩)], .agg x.1.cells, undef, undef, undef, undef, undef, undef, undef, undef, undef, undef, undef, undef, undef], defers := [] })
    (fun x a' _ A B' row hs hg hr => by
      obtain ⟨Bx, h1, h2, h3⟩ := hs
      refine ⟨Bx, h1, (hg.block _ (Array.getElem?_eq_some_iff.1 h2).1 (fun e => ?_)).trans h2, h3⟩
      obtain ⟨_, o, ho, hc⟩ := hr Bx e.symm
      rw [h2] at ho
      cases ho
      cases hc)
    ?assign ?body ?done ?stop
  case assign =>
    intro l pre x W K ⟨ov, hi, ho⟩ hK
    gi_wp2
    exact hK _ _ ((KeepsOthers.alloc _ _).from _) (KeepX.alloc _ _ _ (by have := hi.size; omega)) ⟨ov, hi.grown (World.grownBy_alloc W _ none) (fun r e => by cases e), ho.grown (World.grownBy_alloc W _ none) (fun r e => by cases e)⟩ ⟨W.heap.size, by have := hi.size; omega, heap?_alloc_at _ _ _ rfl, rfl⟩
  case body =>
    rintro l pre ⟨x, hxm⟩ a' W hl ⟨r, hr⟩ ⟨ov, hi, ho⟩ ⟨Bx, hBx, bX, rfl⟩ hlt
    dsimp only at bX
    dsimp only
    have hx : ∀ i, W.cell? ⟨Bx, i, none⟩ = x.cells[i]? := fun i => cell_of_row _ _ i _ _ _ bX
    have hxr : W.rowAt? Bx 0 20 = some x.cells := by rw [World.rowAt?_of _ _ _ bX]; exact Obj.row x
    have hcvol : W.cell? ⟨w.heap.size, 0, none⟩ = some (.string vol) := cell_of_row _ _ 0 _ _ _ hi.vol
    have hcG : W.cell? ⟨w.heap.size + 1, 0, none⟩ = some ov := cell_of_row _ _ 0 _ _ _ hi.out
    have HI := Lib.hid hi
    have HO := Lib.hid ho
    have hG := hi.size
    clear bX hi ho hr hsz
    have stay : Hid (isA vol x = false → KeepsFrom W0.heap.size W W ∧ KeepX w.heap.size W0.heap.size W W ∧ ∃ ov, AttI w vol ov W ∧ OutO w ov q (∃ y ∈ pre ++ [⟨x, hxm⟩], isA vol y.1 = true) W) := by
      intro h
      refine ⟨KeepsFrom.refl _ _, KeepX.refl _ _ _, ov, HI.out, ?_⟩
      refine HO.out.of_iff ⟨fun ⟨y, hy, hw⟩ => ⟨y, List.mem_append_left _ hy, hw⟩, fun ⟨y, hy, hw⟩ => ?_⟩
      rcases List.mem_append.1 hy with h1 | h1
      · exact ⟨y, h1, hw⟩
      · rw [List.mem_singleton.1 h1] at hw
        exact absurd (h.symm.trans hw) (by decide)
    by_cases k5 : x.kind = 5
    case neg =>
      have e1 : (x.kind == 5) = false := by simpa using k5
      have HW : Hid (isA vol x = false) := by unfold Hid isA; rw [e1]; simp
      clear k5
      gi_wp2
      exact stay.out HW.out
    have e1 : (x.kind == 5) = true := by simpa using k5
    clear k5
    cases hvq : (x.volume.toList == vol.toList)
    case false =>
      have HW : Hid (isA vol x = false) := by unfold Hid isA; rw [hvq]; simp
      gi_wp2
      exact stay.out HW.out
    have HWT : Hid (isA vol x = true) := by unfold Hid isA; rw [e1, hvq]; rfl
    obtain rfl : x = q := HQ.out x hxm HWT.out
    gi_wp2_with fail
    refine (CallsIn.inRound l (callsIn_wide.2 (putO_out HO.out (by omega)))).mono ?_
    rintro e w4 ⟨v, rfl, ho4, hb4⟩
    obtain ⟨g, cp, cur, rfl, hg4, hh4, hr4⟩ := ho4
    have hG4 := (hb4.block _ (by omega)).trans HI.out.out
    have hcG4 : w4.cell? ⟨w.heap.size + 1, 0, none⟩ = some ov := cell_of_row _ _ 0 _ _ _ hG4
    have hfG4 : w4.frozen? ⟨w.heap.size + 1, 0, none⟩ = false := frozen_of_row _ _ 0 _ _ hG4
    have hne : g ≠ w.heap.size + 1 := by
      intro e
      rw [e, hG4] at hh4
      injection hh4 with h1
      injection h1 with _ h2
      exact absurd h2 (by decide)
    have hfin : KeepsFrom W0.heap.size W (w4.setCell ⟨w.heap.size + 1, 0, none⟩ (.slice (some ⟨g, 0, none⟩) 1 cp)) ∧ KeepX w.heap.size W0.heap.size W (w4.setCell ⟨w.heap.size + 1, 0, none⟩ (.slice (some ⟨g, 0, none⟩) 1 cp)) ∧ ∃ ov, AttI w vol ov (w4.setCell ⟨w.heap.size + 1, 0, none⟩ (.slice (some ⟨g, 0, none⟩) 1 cp)) ∧ OutO w ov x (∃ y ∈ pre ++ [⟨x, hxm⟩], isA vol y.1 = true) (w4.setCell ⟨w.heap.size + 1, 0, none⟩ (.slice (some ⟨g, 0, none⟩) 1 cp)) := by
      have hz := HSZ.out
      refine ⟨(KeepsFrom.of_below hb4).trans ((KeepsOthers.setCell _ _ _).from _), (KeepX.of_below hb4 (by omega)).trans (KeepX.setCell _ _ (by omega) (by omega)), _, ?_, .inr ⟨⟨g, cp, cur, rfl, hg4, ?_, hr4⟩, ⟨⟨x, hxm⟩, by simp, HWT.out⟩⟩⟩
      · refine ⟨(Below.heap_setCell _ _ _ _ (by simp)).trans ((hb4.block _ (by omega)).trans HI.out.vol), heap_setCell_same _ _ 0 _ _ _ hG4, (HI.out.below.trans (hb4.mono (by omega))).setCell (p := ⟨w.heap.size + 1, 0, none⟩) (by simp) _, by have := hb4.size; simp; omega⟩
      · exact (Below.heap_setCell _ _ _ _ (by simpa using hne)).trans hh4
    have HFIN := Lib.hid hfin
    clear hg4 hh4 hr4 hG4 hb4 hfin hne
    gi_wp2
    exact HFIN.out
  case done =>
    rintro D ys W hD hall ⟨ov, hi, ho⟩ hK
    have hcG : W.cell? ⟨w.heap.size + 1, 0, none⟩ = some ov := cell_of_row _ _ 0 _ _ _ hi.out
    have HI := Lib.hid hi
    have HO : Hid (OutO w ov q (∃ x ∈ all, isA vol x = true) W) := by
      refine ho.of_iff ⟨fun ⟨y, hy, hw⟩ => ⟨y.1, y.2, hw⟩, fun ⟨y, hy, hw⟩ => ?_⟩
      rw [← hall] at hy
      obtain ⟨z, hz, rfl⟩ := List.mem_map.1 hy
      exact ⟨z, hz, hw⟩
    clear hi ho hall hsz
    gi_wp2
    refine ⟨by simp, .inl ⟨_, _, rfl, run_takeDeferred hK, ?_⟩⟩
    exact ⟨_, results_tmp rfl _ _ _, ov, rfl, HO.out.grown (grownBy_putObj' W D _) (fun r e => by cases e; exact ⟨_, hK, rfl⟩), HI.out.below.grown (grownBy_putObj' W D _) (by have := HI.out.size; omega) (fun r e => by cases e; have := HSZ.out; omega)⟩
  case stop =>
    rintro D c pre W hD _ h hK
    exact h.elim
end Go.Proofs.Ythppjfhbdohmbaa
