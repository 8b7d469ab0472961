/- attach.Wanted where just one pod wants the volume: the contract of the Go function. -/
import Derived.Test.YthppjfhbdohmbaaPut2
namespace Go.Proofs.Ythppjfhbdohmbaa
open Go.RowKit Go.Shelf Go.Maps
attribute [local go_sem] Oper.semAt_some

def wantC (all : List Obj) (vol : ByteArray) (x : Obj) : Bool :=
  (all.find? (isIt 3 x.claim)).isSome && ((all.find? (isIt 3 x.claim)).getD zeroO).phase == 3 && ((all.find? (isIt 3 x.claim)).getD zeroO).volume.toList == vol.toList
def wantP (all : List Obj) (vol : ByteArray) (x : Obj) : Bool := x.kind == 6 && !x.deleting && !emptyB x.node && wantC all vol x

theorem KeepX.of_below {n₀ m : Nat} {W W' : World} (h : Below W.heap.size W W') (hn : n₀ ≤ W.heap.size) : KeepX n₀ m W W' :=
  ⟨h.mono hn, fun k _ _ hk _ => (h.block k (Array.getElem?_eq_some_iff.1 hk).1).trans hk⟩
theorem KeepsFrom.of_below {B : Nat} {W W' : World} (h : Below W.heap.size W W') : KeepsFrom B W W' :=
  ⟨h.size, fun k _ _ hk _ => (h.block k (Array.getElem?_eq_some_iff.1 hk).1).trans hk⟩
theorem KeepX.setCell {n₀ m G : Nat} (W : World) (v : Value) (h1 : n₀ ≤ G) (h2 : G < m) : KeepX n₀ m W (W.setCell ⟨G, 0, none⟩ v) :=
  ⟨(Below.refl _ _).setCell (p := ⟨G, 0, none⟩) h1 v, fun k o hk ho _ => (Below.heap_setCell _ _ _ _ (by simp; omega)).trans ho⟩

/-- The blocks that Wanted lays: the objects, the name, what came out so far (ov). -/
structure WantI (w w1 : World) (vol : ByteArray) (B n cap : Nat) (node : ByteArray) (ov : Value) (W : World) : Prop where
  sl : W.heap[w.heap.size]? = some (.cells #[.slice (some ⟨B, 0, none⟩) n cap] 41)
  vol : W.heap[w.heap.size + 1]? = some (.cells #[.string vol] 9)
  out : W.heap[w1.heap.size + 1]? = some (.cells #[ov] 51)
  below : Below w.heap.size w W
  size : w.heap.size + 2 ≤ w1.heap.size ∧ w1.heap.size + 3 ≤ W.heap.size
theorem WantI.grown {w w1 : World} {vol : ByteArray} {B n cap : Nat} {node : ByteArray} {ov : Value} {W W' : World} {row : Option Nat} (h : WantI w w1 vol B n cap node ov W) (hg : W.grownBy W' row) (hr : ∀ r, row = some r → w1.heap.size + 3 ≤ r) : WantI w w1 vol B n cap node ov W' := by
  have hz := h.size
  have hb : ∀ j, j < w1.heap.size + 3 → W'.heap[j]? = W.heap[j]? := fun j hj => hg.block j (by omega) (fun e => by have := hr j e.symm; omega)
  exact ⟨(hb _ (by omega)).trans h.sl, (hb _ (by omega)).trans h.vol, (hb _ (by omega)).trans h.out, h.below.grown hg (by omega) (fun r e => by have := hr r e; omega), hz.1, by have := hg.size; omega⟩
/-- What came out so far: nothing, or the one node. -/
def Out (w : World) (ov : Value) (node : ByteArray) (some' : Prop) (W : World) : Prop :=
  (ov = .slice none 0 0 ∧ ¬ some') ∨ (One W w.heap.size 9 ov #[.string node] ∧ some')
theorem Out.grown {w : World} {ov : Value} {node : ByteArray} {s : Prop} {W W' : World} {row : Option Nat} (h : Out w ov node s W) (hg : W.grownBy W' row) (hr : ∀ r, row = some r → ∃ o : Go.Obj, W.heap[r]? = some o ∧ o.isCells = false) : Out w ov node s W' := by
  rcases h with h | ⟨h, hs⟩
  · exact .inl h
  · refine .inr ⟨h.kept (fun j c _ hj => ?_), hs⟩
    refine (hg.block j (Array.getElem?_eq_some_iff.1 hj).1 (fun e => ?_)).trans hj
    obtain ⟨o, ho, hc⟩ := hr j e.symm
    rw [hj] at ho
    cases ho
    cases hc

theorem WantI.later {w w1 : World} {vol : ByteArray} {B n cap : Nat} {node : ByteArray} {ov : Value} {W W' : World} (h : WantI w w1 vol B n cap node ov W) (hb : Below W.heap.size W W') : WantI w w1 vol B n cap node ov W' := by
  have hz := h.size
  exact ⟨(hb.block _ (by omega)).trans h.sl, (hb.block _ (by omega)).trans h.vol, (hb.block _ (by omega)).trans h.out, h.below.trans (hb.mono (by omega)), hz.1, by have := hb.size; omega⟩
theorem Out.later {w : World} {ov : Value} {node : ByteArray} {s : Prop} {W W' : World} (h : Out w ov node s W) (hb : Below W.heap.size W W') (_ : w.heap.size ≤ W.heap.size) : Out w ov node s W' := by
  rcases h with h | ⟨h, hs⟩
  · exact .inl h
  · exact .inr ⟨h.kept (fun j c _ hj => (hb.block j (Array.getElem?_eq_some_iff.1 hj).1).trans hj), hs⟩
theorem Out.of_iff {w : World} {ov : Value} {node : ByteArray} {s s' : Prop} {W : World} (h : Out w ov node s W) (e : s ↔ s') : Out w ov node s' W := by
  have : s = s' := propext e
  subst this
  exact h

theorem put_out {w W : World} {ov : Value} {node : ByteArray} {s : Prop} (ho : Out w ov node s W) (hw : w.heap.size ≤ W.heap.size) :
    Calls Try.prog 63 #[ov, .string node, .func (.func 64) #[] #[]] W fun e W' => ∃ v, e = .returned v ∧ One W' w.heap.size 9 v #[.string node] ∧ Below W.heap.size W W' := by
  rcases ho with ⟨rfl, _⟩ | ⟨⟨g, cp, cur, rfl, hg, hh, hr⟩, _⟩
  · refine (put_nil node W).mono ?_
    rintro e W' ⟨v, rfl, ⟨g, cp, cur, h1, h2, h3, h4⟩, hb⟩
    exact ⟨v, rfl, ⟨g, cp, cur, h1, by omega, h3, h4⟩, hb⟩
  · have hc : W.cell? ⟨g, 0, none⟩ = some (.string node) := by
      rw [cell_of_row _ _ 0 _ _ _ hh]
      unfold arrRow at hr
      split at hr
      · rename_i hle
        have h1 := congrArg (fun o => o.bind (fun (a : Array Value) => a[0]?)) hr
        simp only [Option.bind_some, Array.getElem?_extract] at h1
        rw [if_pos (by simp at hle ⊢; omega)] at h1
        simpa using h1
      · cases hr
    refine (put_same g cp node W (Array.getElem?_eq_some_iff.1 hh).1 hc).mono ?_
    rintro e W' ⟨rfl, hb⟩
    exact ⟨_, rfl, ⟨g, cp, cur, rfl, hg, (hb.block g (Array.getElem?_eq_some_iff.1 hh).1).trans hh, hr⟩, hb⟩

set_option maxRecDepth 100000 in
set_option maxHeartbeats 4000000 in
theorem wanted_one (B cap : Nat) (all : List Obj) (vol : ByteArray) (q v0 : Obj) (w : World) (hlen : all.length ≤ 1000) (hkeys : ∀ o ∈ all, o.Keyish) (hnd : all.Pairwise (fun a b => a.klit ≠ b.klit)) (hc : Objs w B all)
    (hv : all.find? (isIt 4 vol) = some v0) (hph : v0.phase = 3) (hq : ∀ x ∈ all, wantP all vol x = true → x = q) (hqm : q ∈ all) (hqw : wantP all vol q = true) :
    Calls Try.prog 25 #[.slice (some ⟨B, 0, none⟩) all.length cap, .string vol] w fun e w' => ∃ v, e = .returned v ∧ One w' w.heap.size 9 v #[.string q.node] ∧ Below w.heap.size w w' := by
  have HC := Lib.hid hc
  have HK := Lib.hid hkeys
  have HND := Lib.hid hnd
  have HQ := Lib.hid hq
  have HQM := Lib.hid hqm
  have HQW := Lib.hid hqw
  have HV := Lib.hid hv
  have hBl := hc.1
  have hp1 : (v0.phase == 3) = true := by simpa using hph
  have hp2 : (v0.phase != 3) = false := by simpa using hph
  clear hc hkeys hnd hq hqm hqw hv hph
  have f62 : Fence.wide.fn 62 := trivial
  have f24 : Fence.wide.fn 24 := trivial
  have f63 : Fence.wide.fn 63 := trivial
  have f75 : Fence.wide.fn 75 := trivial
  have f87 : Fence.wide.fn 87 := trivial
  refine (callsIn_wide (n := 6)).1 ?_
  refine callsIn_of_wp_marks Try.func25 rfl trivial ?_ rfl
  simp only [Try.ntmps25, List.size_toArray, List.length_cons, List.length_nil, Nat.reduceAdd, Nat.reduceSub, Array.replicate_succ, Array.replicate_zero, List.push_toArray, List.append_toArray, List.nil_append, List.cons_append]
  gi_wp2_with fail
  refine (callsIn_wide.2 (get_any B cap all 4 vol _ hlen HK.out HND.out (HC.out.below (((Below.refl w.heap.size w).alloc (Nat.le_refl _) _).alloc (by simp) _) hBl))).mono ?_
  rintro e w1 ⟨rfl, hb⟩
  rw [HV.out]
  simp only [Option.getD_some, Option.isSome_some]
  have hz1 := hb.size
  simp only [World.size_alloc] at hz1
  have HB1 : Hid (Below w.heap.size w w1) := (((Below.refl w.heap.size w).alloc (Nat.le_refl _) _).alloc (by simp) _).trans (hb.mono (by simp; omega))
  have hs0 : Hid (w1.heap[w.heap.size]? = some (.cells #[.slice (some ⟨B, 0, none⟩) all.length cap] 41)) := (hb.block _ (by simp; omega)).trans ((heap?_alloc_past _ _ _ (by simp)).trans (heap?_alloc_at _ _ _ rfl))
  have hs1 : Hid (w1.heap[w.heap.size + 1]? = some (.cells #[.string vol] 9)) := (hb.block _ (by simp)).trans (heap?_alloc_at _ _ _ (by simp))
  have hc0 : w1.cell? ⟨w.heap.size, 0, none⟩ = some (.slice (some ⟨B, 0, none⟩) all.length cap) := cell_of_row _ _ 0 _ _ _ hs0.out
  have hz2 : w.heap.size < w1.heap.size := by omega
  clear hb
  gi_wp2_with fail
  refine (callsIn_wide.2 (firsts_any B all.length cap _)).mono ?_
  rintro e w' ⟨rfl, rfl⟩
  gi_wp2_with fail
  generalize hW0 : ((w1.alloc (.cells v0.cells 27)).alloc (.cells #[.slice none 0 0] 51)).alloc (.cells #[.slice (some ⟨B, 0, none⟩) all.length cap] 41) = W0
  have hsz : W0.heap.size = w1.heap.size + 3 := by rw [← hW0]; simp
  have hBW1 : Below w1.heap.size w1 W0 := by
    rw [← hW0]
    exact ((((Below.refl w1.heap.size w1).alloc (Nat.le_refl _) _).alloc (by simp) _).alloc (by simp; omega) _)
  have hBW : Below w.heap.size w W0 := HB1.out.trans (hBW1.mono (by omega))
  have hI0 : WantI w w1 vol B all.length cap q.node (.slice none 0 0) W0 := by
    refine ⟨(hBW1.block _ (by omega)).trans hs0.out, (hBW1.block _ (by omega)).trans hs1.out, ?_, hBW, by omega⟩
    rw [← hW0, heap?_alloc_past _ _ _ (by simp)]
    exact heap?_alloc_at _ _ _ (by simp)
  have hbs : W0.cell? ⟨w1.heap.size + 1 + 1, 0, none⟩ = some (.slice (some ⟨B, 0, none⟩) all.length cap) := by
    rw [← hW0]; exact cell_of_row _ _ 0 _ _ _ (heap?_alloc_at _ _ _ (by simp))
  have hob : Objs W0 B all := HC.out.below hBW hBl
  clear hW0
  have HSZ := Lib.hid hsz
  refine wpIn_rangeFunc_ownH rfl (by omega) (gf := 87) (lb := #[.pointer (some ⟨w1.heap.size + 1 + 1, 0, none⟩)]) rfl f87 (enters_of Try.func87 (by kernel_rfl) rfl)
    (firsts_stops Fence.wide 5 f87 f75 rfl (by omega) (fun o w => callsIn_wide.2 (Key_any o w)) (w1.heap.size + 1 + 1) w.heap.size B cap all hlen hBl HK.out HND.out W0 (by omega) (by omega) hbs hob)
    KeepX.trans (fun W l o o' hl h h1 h2 => KeepX.book (by omega) W l o o' hl h h1 h2) (Below.refl _ _) (fun _ => rfl)
    (fun pre W => ∃ ov, WantI w w1 vol B all.length cap q.node ov W ∧ Out w ov q.node (∃ x ∈ pre, wantP all vol x.1 = true) W)
    (fun _ _ _ => False)
    (fun s A B' row hs hg hr => by
      obtain ⟨ov, h1, h2⟩ := hs
      exact ⟨ov, h1.grown hg (fun r e => by have := (hr r e).1; omega), h2.grown hg (fun r e => by obtain ⟨_, o, ho, hc⟩ := hr r e; exact ⟨o, ho, hc⟩)⟩)
    (fun c s A B' row hs hg hr => hs.elim)
    ⟨_, hI0, .inl ⟨rfl, fun ⟨_, h, _⟩ => by cases h⟩⟩
    (fun x a' W => ∃ Bx, W0.heap.size ≤ Bx ∧ W.heap[Bx]? = some (.cells x.1.cells 27) ∧ a' = { tmps := #[.slice (some ⟨B, 0, none⟩) all.length cap, .string vol, .pointer (some ⟨w.heap.size, 0, none⟩), .pointer (some ⟨w.heap.size + 1, 0, none⟩), .slice none 0 0, .pointer (some ⟨w1.heap.size, 0, none⟩), .bool true, .pointer (some ⟨w1.heap.size + 1, 0, none⟩), .pointer (some ⟨Bx, 0, none⟩), undef, undef, .tuple #[.agg v0.cells, .bool true], .slice (some ⟨B, 0, none⟩) all.length cap, .string vol, .tuple #[.agg v0.cells, .bool true], .agg v0.cells, .bool true, .bool true, .bool false, .bool false, .pointer (some ⟨w1.heap.size, 17, none⟩), .int .u8 v0.phase, .bool false, .bool false, .slice (some ⟨B, 0, none⟩) all.length cap, .func (.func 87) #[] #[.pointer (some ⟨w1.heap.size + 1 + 1, 0, none⟩)], .agg x.1.cells, undef, undef, undef, undef, undef, undef, undef, undef, undef, undef, undef, undef, undef, undef, undef, undef, undef, undef, undef, undef, undef, undef, undef, undef, undef, undef, undef, undef, undef, undef, undef, undef, undef, undef, undef, undef], defers := [] })
    (fun x a' _ A B' row hs hg hr => by
      obtain ⟨Bx, h1, h2, h3⟩ := hs
      refine ⟨Bx, h1, (hg.block _ (Array.getElem?_eq_some_iff.1 h2).1 (fun e => ?_)).trans h2, h3⟩
      obtain ⟨_, o, ho, hc⟩ := hr Bx e.symm
      rw [h2] at ho
      cases ho
      cases hc)
    ?assign ?body ?done ?stop
  case assign =>
    intro l pre x W K ⟨ov, hi, ho⟩ hK
    gi_wp2
    exact hK _ _ ((KeepsOthers.alloc _ _).from _) (KeepX.alloc _ _ _ (by have := hi.size; omega)) ⟨ov, hi.grown (World.grownBy_alloc W _ none) (fun r e => by cases e), ho.grown (World.grownBy_alloc W _ none) (fun r e => by cases e)⟩ ⟨W.heap.size, by have := hi.size; omega, heap?_alloc_at _ _ _ rfl, rfl⟩
  case body =>
    rintro l pre ⟨x, hxm⟩ a' W hl ⟨r, hr⟩ ⟨ov, hi, ho⟩ ⟨Bx, hBx, bX, rfl⟩ hlt
    dsimp only at bX
    dsimp only
    have hx : ∀ i, W.cell? ⟨Bx, i, none⟩ = x.cells[i]? := fun i => cell_of_row _ _ i _ _ _ bX
    have hcsl : W.cell? ⟨w.heap.size, 0, none⟩ = some (.slice (some ⟨B, 0, none⟩) all.length cap) := cell_of_row _ _ 0 _ _ _ hi.sl
    have hBxl : Bx < W.heap.size := (Array.getElem?_eq_some_iff.1 bX).1
    have hsl : w.heap.size < W.heap.size := (Array.getElem?_eq_some_iff.1 hi.sl).1
    have hsl1 : w.heap.size + 1 < W.heap.size := (Array.getElem?_eq_some_iff.1 hi.vol).1
    have HBX := Lib.hid bX
    have HI := Lib.hid hi
    have HO := Lib.hid ho
    have hG := hi.size
    clear bX hi ho hr hsz hs0 hs1
    have stay : Hid (∀ W', Below W.heap.size W W' → wantP all vol x = false → KeepsFrom W0.heap.size W W' ∧ KeepX w.heap.size W0.heap.size W W' ∧ ∃ ov, WantI w w1 vol B all.length cap q.node ov W' ∧ Out w ov q.node (∃ y ∈ pre ++ [⟨x, hxm⟩], wantP all vol y.1 = true) W') := by
      intro W' hb h
      refine ⟨KeepsFrom.of_below hb, KeepX.of_below hb (by omega), ov, HI.out.later hb, ?_⟩
      refine (HO.out.later hb (by omega)).of_iff ⟨fun ⟨y, hy, hw⟩ => ⟨y, List.mem_append_left _ hy, hw⟩, fun ⟨y, hy, hw⟩ => ?_⟩
      rcases List.mem_append.1 hy with h1 | h1
      · exact ⟨y, h1, hw⟩
      · rw [List.mem_singleton.1 h1] at hw
        exact absurd (h.symm.trans hw) (by decide)
    by_cases k6 : x.kind = 6
    case neg =>
      have e1 : (x.kind == 6) = false := by simpa using k6
      have e2 : (x.kind != 6) = true := by simpa using k6
      have HW : Hid (wantP all vol x = false) := by unfold Hid wantP; rw [e1]; simp
      clear k6
      gi_wp2
      exact stay.out W (Below.refl _ _) HW.out
    have e1 : (x.kind != 6) = false := by simpa using k6
    have K6 : Hid (x.kind = 6) := k6
    clear k6
    cases hdel : x.deleting
    case true =>
      have HW : Hid (wantP all vol x = false) := by unfold Hid wantP; rw [hdel]; simp
      gi_wp2
      exact stay.out W (Below.refl _ _) HW.out
    cases hnode : x.node.toList.isEmpty
    case true =>
      have HW : Hid (wantP all vol x = false) := by unfold Hid wantP emptyB; rw [hnode]; simp
      gi_wp2
      exact stay.out W (Below.refl _ _) HW.out
    have HWP : Hid (wantP all vol x = wantC all vol x) := by unfold Hid wantP emptyB; rw [K6.out, hdel, hnode]; simp
    gi_wp2_with fail
    refine (CallsIn.inRound l (callsIn_wide.2 (get_any B cap all 3 x.claim W hlen HK.out HND.out (HC.out.below HI.out.below hBl)))).mono ?_
    rintro e w3 ⟨rfl, hb⟩
    have HWC : Hid (wantC all vol x = ((all.find? (isIt 3 x.claim)).isSome && ((all.find? (isIt 3 x.claim)).getD zeroO).phase == 3 && ((all.find? (isIt 3 x.claim)).getD zeroO).volume.toList == vol.toList)) := rfl
    generalize (all.find? (isIt 3 x.claim)).isSome = okb at HWC ⊢
    generalize (all.find? (isIt 3 x.claim)).getD zeroO = c at HWC ⊢
    have HB3 := Lib.hid hb
    have hz3 := hb.size
    have hcvol : w3.cell? ⟨w.heap.size + 1, 0, none⟩ = some (.string vol) := (hb.cell (p := ⟨w.heap.size + 1, 0, none⟩) hsl1).trans (cell_of_row _ _ 0 _ _ _ HI.out.vol)
    have hsl3 : w.heap.size + 1 < w3.heap.size := by omega
    have hx3 : ∀ i, w3.cell? ⟨Bx, i, none⟩ = x.cells[i]? := fun i => (hb.cell (p := ⟨Bx, i, none⟩) hBxl).trans (hx i)
    have hBx3 : Bx < w3.heap.size := by omega
    have hG3 : w3.heap[w1.heap.size + 1]? = some (.cells #[ov] 51) := (hb.block _ (by omega)).trans HI.out.out
    have hcG : w3.cell? ⟨w1.heap.size + 1, 0, none⟩ = some ov := cell_of_row _ _ 0 _ _ _ hG3
    have hGl : w1.heap.size + 1 < w3.heap.size := by omega
    have HG3 := Lib.hid hG3
    clear hb hG3
    have skip : Hid (wantC all vol x = false → KeepsFrom W0.heap.size W (w3.alloc (.cells c.cells 27)) ∧ KeepX w.heap.size W0.heap.size W (w3.alloc (.cells c.cells 27)) ∧ ∃ ov, WantI w w1 vol B all.length cap q.node ov (w3.alloc (.cells c.cells 27)) ∧ Out w ov q.node (∃ y ∈ pre ++ [⟨x, hxm⟩], wantP all vol y.1 = true) (w3.alloc (.cells c.cells 27))) :=
      fun h => stay.out _ (HB3.out.alloc HB3.out.size _) (HWP.out.trans h)
    cases okb
    case false =>
      have HWF : Hid (wantC all vol x = false) := HWC.out.trans (by simp)
      gi_wp2
      exact skip.out HWF.out
    by_cases p3 : c.phase = 3
    case neg =>
      have e3 : (c.phase == 3) = false := by simpa using p3
      have HWF : Hid (wantC all vol x = false) := HWC.out.trans (by rw [e3]; simp)
      clear p3
      gi_wp2
      exact skip.out HWF.out
    have e3 : (c.phase == 3) = true := by simpa using p3
    clear p3
    cases hvq : (c.volume.toList == vol.toList)
    case false =>
      have HWF : Hid (wantC all vol x = false) := HWC.out.trans (by rw [hvq]; simp)
      gi_wp2
      exact skip.out HWF.out
    have HWT : Hid (wantP all vol x = true) := HWP.out.trans (HWC.out.trans (by rw [e3, hvq]; rfl))
    obtain rfl : x = q := HQ.out x hxm HWT.out
    gi_wp2_with fail
    have hbA : Below W.heap.size W (w3.alloc (.cells c.cells 27)) := HB3.out.alloc HB3.out.size _
    refine (CallsIn.inRound l (callsIn_wide.2 (put_out (HO.out.later hbA (by omega)) (by simp; omega)))).mono ?_
    rintro e w4 ⟨v, rfl, ho4, hb4⟩
    obtain ⟨g, cp, cur, rfl, hg4, hh4, hr4⟩ := ho4
    have hGA : (w3.alloc (.cells c.cells 27)).heap[w1.heap.size + 1]? = some (.cells #[ov] 51) := (heap?_alloc_past _ _ _ (by omega)).trans HG3.out
    have hG4 := (hb4.block _ (by simp; omega)).trans hGA
    have hcG4 : w4.cell? ⟨w1.heap.size + 1, 0, none⟩ = some ov := cell_of_row _ _ 0 _ _ _ hG4
    have hfG4 : w4.frozen? ⟨w1.heap.size + 1, 0, none⟩ = false := frozen_of_row _ _ 0 _ _ hG4
    have hbB : Below W.heap.size W w4 := hbA.trans (hb4.mono (by simp; omega))
    have hne : g ≠ w1.heap.size + 1 := by
      intro e
      rw [e, hG4] at hh4
      injection hh4 with h1
      injection h1 with _ h2
      exact absurd h2 (by decide)
    have hfin : KeepsFrom W0.heap.size W (w4.setCell ⟨w1.heap.size + 1, 0, none⟩ (.slice (some ⟨g, 0, none⟩) 1 cp)) ∧ KeepX w.heap.size W0.heap.size W (w4.setCell ⟨w1.heap.size + 1, 0, none⟩ (.slice (some ⟨g, 0, none⟩) 1 cp)) ∧ ∃ ov, WantI w w1 vol B all.length cap x.node ov (w4.setCell ⟨w1.heap.size + 1, 0, none⟩ (.slice (some ⟨g, 0, none⟩) 1 cp)) ∧ Out w ov x.node (∃ y ∈ pre ++ [⟨x, hxm⟩], wantP all vol y.1 = true) (w4.setCell ⟨w1.heap.size + 1, 0, none⟩ (.slice (some ⟨g, 0, none⟩) 1 cp)) := by
      have hz := HSZ.out
      have hi4 := HI.out.later hbB
      refine ⟨(KeepsFrom.of_below hbB).trans ((KeepsOthers.setCell _ _ _).from _), (KeepX.of_below hbB (by omega)).trans (KeepX.setCell _ _ (by omega) (by omega)), _, ?_, .inr ⟨⟨g, cp, cur, rfl, hg4, ?_, hr4⟩, ⟨⟨x, hxm⟩, by simp, HWT.out⟩⟩⟩
      · refine ⟨(Below.heap_setCell _ _ _ _ (by simp; omega)).trans hi4.sl, (Below.heap_setCell _ _ _ _ (by simp; omega)).trans hi4.vol, heap_setCell_same _ _ 0 _ _ _ hG4, hi4.below.setCell (p := ⟨w1.heap.size + 1, 0, none⟩) (by simp; omega) _, hi4.size.1, by have := hi4.size.2; simpa using this⟩
      · exact (Below.heap_setCell _ _ _ _ (by simpa using hne)).trans hh4
    have HFIN := Lib.hid hfin
    clear hbA hg4 hh4 hr4 hGA hG4 hbB hb4 hfin hne
    gi_wp2
    exact HFIN.out
  case done =>
    rintro D ys W hD hall ⟨ov, hi, ho⟩ hK
    have hcG : W.cell? ⟨w1.heap.size + 1, 0, none⟩ = some ov := cell_of_row _ _ 0 _ _ _ hi.out
    have HI := Lib.hid hi
    have HO : Hid (One W w.heap.size 9 ov #[.string q.node]) := by
      rcases ho with ⟨_, hno⟩ | ⟨h1, _⟩
      · refine absurd ?_ hno
        have hq2 := HQM.out
        rw [← hall] at hq2
        obtain ⟨y, hy, he⟩ := List.mem_map.1 hq2
        exact ⟨y, hy, by rw [he]; exact HQW.out⟩
      · exact h1
    clear hi ho hall hsz
    gi_wp2
    refine ⟨by simp, .inl ⟨_, _, rfl, run_takeDeferred hK, ?_⟩⟩
    refine ⟨_, results_tmp rfl _ _ _, ov, rfl, HO.out.kept (fun j c _ hj => ?_), ?_⟩
    · refine (World.putObj_heap_other (fun e => ?_)).trans hj
      rw [e, hK] at hj
      cases hj
    · exact HI.out.below.grown (grownBy_putObj' W D _) (by have := HI.out.size; omega) (fun r e => by cases e; have := HSZ.out; omega)
  case stop =>
    rintro D c pre W hD _ h hK
    exact h.elim
end Go.Proofs.Ythppjfhbdohmbaa
