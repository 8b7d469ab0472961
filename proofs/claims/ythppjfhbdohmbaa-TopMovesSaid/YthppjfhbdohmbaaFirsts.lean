/- attach.firsts: the iterator over the objects that there are: its contract, where the keys are pairwise different. -/
import Derived.Test.YthppjfhbdohmbaaKeyMap
import Derived.Test.YthppjfhbdohmbaaRightA
import Derived.RangeFuncNested
import Derived.RangeFuncBound
import Derived.RangeFuncCalls
import Derived.RangeFuncLeaves
import Derived.Shelf.Abstract
import Derived.Shelf.RegionOpen
import Derived.WalkKit
import Derived.OwnWalkIn
import Derived.TacticsInMore
import Derived.LoopNIn
import Derived.LoopIn
namespace Go.Proofs.Ythppjfhbdohmbaa
open Go.RowKit Go.Shelf Go.Maps
attribute [local go_sem] Oper.semAt_some

/-- What a round keeps: all below n₀, and from m on all cells and maps. -/
structure KeepX (n₀ m : Nat) (W W' : World) : Prop where
  below : Below n₀ W W'
  same : ∀ (k : Nat) (o : Go.Obj), m ≤ k → W.heap[k]? = some o → (o.isCells = true ∨ o.isWalk = true) → W'.heap[k]? = some o
theorem KeepX.trans {n₀ m : Nat} {A B C : World} (h : KeepX n₀ m A B) (k : KeepX n₀ m B C) : KeepX n₀ m A C :=
  ⟨h.below.trans k.below, fun i o hi ho hk => k.same i o hi (h.same i o hi ho hk) hk⟩
theorem KeepX.book {n₀ m : Nat} {w : World} (hn : n₀ ≤ w.heap.size) (W : World) (l : Nat) (o o' : Go.Obj) (hl : w.heap.size ≤ l) (h : W.heap[l]? = some o) (h1 : o.isCells = false) (h2 : o.isWalk = false) : KeepX n₀ m W (W.putObj l o') :=
  ⟨belowK_b hn W l o o' hl h h1 h2, fun k x _ hk hx => by
    by_cases e : k = l
    · subst e
      rw [h] at hk
      cases hk
      simp [h1, h2] at hx
    · exact (World.putObj_heap_other e).trans hk⟩

theorem resultsKey (tmps : Array Value) (w : World) (g : Nat) (cs : Array Value) (hp : tmps.getD 2 undef = .pointer (some ⟨g, 0, none⟩)) (hg : w.heap[g]? = some (.cells cs 57)) (hs : cs.size = 2) :
    (results Try.f75 tmps).run Try.prog w = .ok (.agg cs) w :=
  results_cell_row rfl tmps w g 57 cs (0, 0) _ hp hg Try.underlying57 rfl (by rw [hs]; kernel_rfl)

set_option maxRecDepth 100000 in
theorem Key_any (o : Obj) (w : World) : Calls Try.prog 75 #[.agg o.cells] w fun e w' => e = .returned (.agg (Key.mk o.kind o.name).cells) ∧ w' = (w.alloc (.cells o.cells 27)).alloc (.cells (Key.mk o.kind o.name).cells 57) := by
  go_enter Try.func75, Try.ntmps75
  go_wp2
  exact bodyPost_ret (resultsKey _ _ (w.heap.size + 1) _ rfl (heap?_alloc_at _ _ _ (by simp)) rfl) rfl ⟨rfl, rfl⟩

/-- The objects all lie in block B. -/
def Objs (w : World) (B : Nat) (all : List Obj) : Prop := B < w.heap.size ∧ ∀ (k : Nat) (o : Obj), all[k]? = some o → w.rowAt? B (k * 20) 20 = some o.cells
theorem Objs.below {n₀ : Nat} {w w' : World} {B : Nat} {all : List Obj} (h : Objs w B all) (hb : Below n₀ w w') (hB : B < n₀) : Objs w' B all :=
  ⟨Nat.lt_of_lt_of_le h.1 hb.size, fun k o hk => by rw [← h.2 k o hk]; unfold World.rowAt?; rw [hb.block B hB]⟩

/-- Plain enough to be a key. -/
def Obj.Keyish (o : Obj) : Prop := (Lit.int .u8 o.kind).wf = true ∧ o.name.size ≤ maxLen
def Obj.klit (o : Obj) : Lit := keyLit o.kind o.name

theorem hgrow_below {n₀ : Nat} {a w w' : World} {b : Nat} (h : Below n₀ a w) (hb : n₀ ≤ b) (hn : n₀ ≤ a.heap.size) (hg : w.grownBy w' (some b)) : Below n₀ a w' :=
  h.grown hg (Nat.le_trans hn h.size) (fun k e => by cases e; exact hb)
theorem zeroValue4 (w : World) : (zeroValue 4).run Try.prog w = .ok (.bool false) w := by kernel_rfl
/-- How an element of a map reads, whatever it is: as itself. -/
def asIs (v : Value) : Option (DataW Value × List MemPlace) := some (.held v, [])

set_option maxRecDepth 100000 in
set_option maxHeartbeats 4000000 in
theorem firsts1_in (F : Fence) (n : Nat) (h87 : F.fn 87) (h75 : F.fn 75) (hro : F.round = none) (hn : 1 ≤ n) (hkey : ∀ (o : Obj) (w : World), CallsIn F (n - 1) Try.prog 75 #[.agg o.cells] w fun e w' => e = .returned (.agg (Key.mk o.kind o.name).cells) ∧ w' = (w.alloc (.cells o.cells 27)).alloc (.cells (Key.mk o.kind o.name).cells 57))
    (l Bs n₀ m B cap : Nat) (all : List Obj) (hlen : all.length ≤ 1000) (hB : B < n₀) (hkeys : ∀ o ∈ all, o.Keyish) (hnd : all.Pairwise (fun a b => a.klit ≠ b.klit)) (J Jx : List Obj → World → Prop)
    (W : World) (hm : m ≤ W.heap.size) (hJ : AbidesFrom W.heap.size J)
    (hY : ∀ pre x W1, J pre W1 → pre.length < all.length → x ∈ all → YieldAt F (n - 1) Try.prog l #[.agg x.cells] W1 fun e W' =>
      (e = .returned (.bool true) ∧ J (pre ++ [x]) W' ∧ KeepX n₀ m W1 W') ∨ (e = .returned (.bool false) ∧ Jx (pre ++ [x]) W'))
    (hBsl : Bs < W.heap.size) (hBs : W.cell? ⟨Bs, 0, none⟩ = some (.slice (some ⟨B, 0, none⟩) all.length cap)) (hc : Objs W B all) (h0 : J [] W) (hn0 : n₀ ≤ W.heap.size) :
    CallsIn F n Try.prog 87 #[.func (.yield l) #[] #[], .pointer (some ⟨Bs, 0, none⟩)] W fun e W' => (∃ v, e = .returned v) ∧
      ((∃ ys, ys = all ∧ J ys W') ∨ (∃ pre, pre <+: all ∧ Jx pre W')) := by
  have HC := Lib.hid hc
  have HJ := Lib.hid hJ
  have HK := Lib.hid hkeys
  have HND := Lib.hid hnd
  have hmm := @run_makeMap Try.prog
  clear hc hJ hkeys hnd
  refine callsIn_of_wp Try.func87 rfl h87 ?_ hro
  simp only [Try.ntmps87, List.size_toArray, List.length_cons, List.length_nil, Nat.reduceAdd, Nat.reduceSub, Array.replicate_succ, Array.replicate_zero, List.push_toArray, List.append_toArray, List.nil_append, List.cons_append]
  gi_wp2
  gi_loopw [10] (fun i wr => ∃ (k : Nat) (D : DataW Value), k ≤ all.length ∧ i = .int .i64 k ∧ Hid (J (all.take k) wr) ∧ Hid (Below n₀ W wr) ∧ Hid (wr.ownsMap Try.prog 57 asIs W.heap.size k D) ∧ Hid (IsMap D) ∧ Hid (∀ (j : Nat) (o : Obj), k ≤ j → all[j]? = some o → ∀ z, D.atKey o.klit z = z))
    (fun i _ => all.length - (intOf i).toNat)
  case atStart =>
    exact ⟨0, .map [], Nat.zero_le _, rfl, HJ.out _ _ _ none h0 (World.grownBy_alloc W _ none) (fun r e => by cases e), (Below.refl _ _).alloc hn0 _, World.ownsMap_made _ _ _ _, ⟨[], rfl⟩, fun _ _ _ _ _ => rfl⟩
  case round =>
    obtain ⟨k, D, hk, rfl, HJs, HB, HO, HI, HF⟩ := hrel
    by_cases hlt : k < all.length
    · have hob : all[k]? = some all[k] := List.getElem?_eq_getElem hlt
      have hx := (HC.out.below HB.out hB).2 k _ hob
      have HT : Hid (all.take (k + 1) = all.take k ++ [all[k]]) := List.take_succ_eq_append_getElem hlt
      have HMX := Lib.hid (List.getElem_mem hlt)
      have HKX := Lib.hid (HK.out all[k] (List.getElem_mem _))
      have HNX : Hid (∀ (j : Nat) (o : Obj), k + 1 ≤ j → all[j]? = some o → o.klit ≠ all[k].klit) := fun j o hj ho => by
        have h1 := List.pairwise_iff_getElem.1 HND.out k j hlt (List.getElem?_eq_some_iff.1 ho).1 (by omega)
        rw [(List.getElem?_eq_some_iff.1 ho).2] at h1
        exact fun e => h1 e.symm
      generalize all[k] = x at hob hx HT HKX HNX HMX
      have HOB := Lib.hid hob
      clear hob
      have ab : ∀ {s : List Obj} {A : World} (o : Go.Obj), J s A → J s (A.alloc o) := fun o h => HJ.out _ _ _ none h (World.grownBy_alloc _ o none) (fun r e => by cases e)
      have HO4 := Lib.hid ((((HO.out.alloc (.cells x.cells 27)).alloc (.cells x.cells 27)).alloc (.cells (Key.mk x.kind x.name).cells 57)).alloc (.cells (Key.mk x.kind x.name).cells 57))
      have hkl := keyOf_key x.kind x.name HKX.out.1 HKX.out.2
      obtain ⟨v, ps, hrun, hat⟩ := HO4.out.lookup (t := 150) lawKey Try.underlying150 (zeroValue4 _) (zd := .held (.bool false)) (zp := []) rfl hkl
      obtain rfl : v = .bool false := by
        have h1 := HF.out k x (Nat.le_refl _) HOB.out (.held (.bool false))
        unfold Obj.klit at h1
        rw [h1] at hat
        simp only [asIs, Option.some.injEq, Prod.mk.injEq, DataW.held.injEq] at hat
        exact hat.1
      obtain ⟨fn, tmps, assign, body, hy, hR⟩ := hY (all.take k) x _ (ab (.cells (Key.mk x.kind x.name).cells 57) (ab (.cells (Key.mk x.kind x.name).cells 57) (ab (.cells x.cells 27) (ab (.cells x.cells 27) HJs.out)))) (by rw [List.length_take]; omega) HMX.out
      have HR := Lib.hid hR
      clear hR hat ab
      gi_wp2
      refine (hkey x _).mono ?_
      rintro e w1 ⟨rfl, rfl⟩
      gi_wp2
      refine HR.out.mono ?_
      have hwr : W.heap.size < wr.heap.size := HO.out.lt
      rintro e W5 (⟨rfl, hJ5, hk5⟩ | ⟨rfl, hJx5⟩)
      · have hK4 : ((((wr.alloc (.cells x.cells 27)).alloc (.cells x.cells 27)).alloc (.cells (Key.mk x.kind x.name).cells 57)).alloc (.cells (Key.mk x.kind x.name).cells 57)).heap[wr.heap.size + 1 + 1 + 1]? = some (.cells (Key.mk x.kind x.name).cells 57) := heap?_alloc_at _ _ _ (by simp)
        have hK5 := hk5.same _ _ (by omega) hK4 (.inl rfl)
        have hrow5 : W5.rowAt? (wr.heap.size + 1 + 1 + 1) 0 2 = some (Key.mk x.kind x.name).cells := by rw [World.rowAt?_of _ _ _ hK5]; exact Key.row _
        have HO5 : Hid (W5.ownsMap Try.prog 57 asIs W.heap.size k D) := by
          obtain ⟨es, clock, hb, Fq, hs, hD⟩ := HO4.out
          exact ⟨es, clock, hk5.same _ _ (by omega) hb (.inr rfl), Fq, hs, hD⟩
        have HB5 : Hid (Below n₀ W W5) := (((((HB.out.alloc (by omega) _).alloc (by simp; omega) _).alloc (by simp; omega) _).alloc (by simp; omega) _)).trans hk5.below
        have hz5 : W.heap.size < W5.heap.size := HO5.out.lt
        have HJ5 := Lib.hid hJ5
        clear hk5 hK4 hK5 hJ5 hy hrun
        gi_wp2_with (gi_at_mapUpdate; refine wpListIn_mapUpdate_own _ rfl _ _ _ 150 rfl 57 4 lawKey Try.underlying150 asIs W.heap.size k D rfl HO5.out (by unfold maxLen; omega) _ _ _ rfl rfl hkl (.held (.bool true)) [] rfl ?_; intro w6 hown6 hgrow6)
        refine ⟨⟨k + 1, _, by omega, by go_num, ?_, hgrow_below HB5.out (by omega) hn0 hgrow6, hown6, IsMap.put HI.out _ _, ?_⟩, by simp [intOf]; omega⟩
        · unfold Hid
          rw [HT.out]
          refine HJ.out _ _ _ _ HJ5.out hgrow6 (fun r e => ?_)
          cases e
          obtain ⟨es, clock, hb, _⟩ := HO5.out
          exact ⟨Nat.le_refl _, _, hb, rfl⟩
        · intro j o hj ho z
          exact (atKey_put_other (k := x.klit) (HNX.out j o hj ho) _ z).trans (HF.out j o (by omega) ho z)
      · gi_wp2
        refine bodyPost_ret (results_none rfl _ _ _) rfl ?_
        exact ⟨⟨_, rfl⟩, .inr ⟨all.take k ++ [x], by rw [← HT.out]; exact List.take_prefix _ _, hJx5⟩⟩
    · have hk' : k = all.length := by omega
      have HE : Hid (all.take k = all) := by unfold Hid; rw [hk']; exact List.take_length
      gi_wp2
      go_end0
      refine ⟨⟨_, rfl⟩, .inl ⟨all, rfl, ?_⟩⟩
      have := HJs.out
      rw [HE.out] at this
      exact this

/-- attach.firsts as an iterator: what it yields is one of the objects. -/
theorem firsts_stops (F : Fence) (n : Nat) (h87 : F.fn 87) (h75 : F.fn 75) (hro : F.round = none) (hn : 1 ≤ n) (hkey : ∀ (o : Obj) (w : World), CallsIn F (n - 1) Try.prog 75 #[.agg o.cells] w fun e w' => e = .returned (.agg (Key.mk o.kind o.name).cells) ∧ w' = (w.alloc (.cells o.cells 27)).alloc (.cells (Key.mk o.kind o.name).cells 57))
    (Bs n₀ B cap : Nat) (all : List Obj) (hlen : all.length ≤ 1000) (hB : B < n₀) (hkeys : ∀ o ∈ all, o.Keyish) (hnd : all.Pairwise (fun a b => a.klit ≠ b.klit)) (w : World) (hn0 : n₀ ≤ w.heap.size) (hBsl : Bs < w.heap.size)
    (hBs : w.cell? ⟨Bs, 0, none⟩ = some (.slice (some ⟨B, 0, none⟩) all.length cap)) (hc : Objs w B all) :
    SeqStopsK F n Try.prog 87 #[.pointer (some ⟨Bs, 0, none⟩)] (fun x : { x : Obj // x ∈ all } => #[.agg x.1.cells]) (KeepX n₀ w.heap.size) (fun ys => ys.map (·.1) = all) (fun pre => pre.map (·.1) <+: all) all.length w := fun l J Jx W hW hJ _ hY h0 => by
  refine (firsts1_in F n h87 h75 hro hn hkey l Bs n₀ w.heap.size B cap all hlen hB hkeys hnd (fun pre W => ∃ p : List { x : Obj // x ∈ all }, p.map (·.1) = pre ∧ J p W) (fun pre W => ∃ p : List { x : Obj // x ∈ all }, p.map (·.1) = pre ∧ Jx p W) W hW.size ?_ ?_ (Nat.lt_of_lt_of_le hBsl hW.size) ((hW.cell (p := ⟨Bs, 0, none⟩) hBsl).trans hBs)
    ⟨Nat.lt_of_lt_of_le hc.1 hW.size, fun k o hk => by rw [← hc.2 k o hk]; unfold World.rowAt?; rw [hW.block B hc.1]⟩ ⟨[], rfl, h0⟩ (Nat.le_trans hn0 hW.size)).mono ?_
  · rintro s A B' row ⟨p, hp, hj⟩ hg hr
    exact ⟨p, hp, hJ p A B' row hj hg hr⟩
  · rintro pre x W1 ⟨p, rfl, hj⟩ hl hx
    obtain ⟨fn, tmps, assign, body, hy, hR⟩ := hY p ⟨x, hx⟩ W1 hj (by simpa using hl)
    refine ⟨fn, tmps, assign, body, hy, hR.mono ?_⟩
    rintro e W' (⟨he, h1, h2⟩ | ⟨he, h1⟩)
    · exact .inl ⟨he, ⟨p ++ [⟨x, hx⟩], by simp, h1⟩, h2⟩
    · exact .inr ⟨he, ⟨p ++ [⟨x, hx⟩], by simp, h1⟩⟩
  · rintro e W' ⟨hv, ⟨ys, rfl, p, hp, hj⟩ | ⟨pre, hpre, p, hp, hj⟩⟩
    · exact ⟨hv, .inl ⟨p, hp, hj⟩⟩
    · exact ⟨hv, .inr ⟨p, (show p.map (·.1) <+: all from hp ▸ hpre), hj⟩⟩
end Go.Proofs.Ythppjfhbdohmbaa
