/- attach.Volume: the contract of the Go function in three scenes: an attachment that is not wanted; one that is being taken off; none. -/
import Derived.Test.YthppjfhbdohmbaaMoves1
namespace Go.Proofs.Ythppjfhbdohmbaa
open Go.RowKit Go.Shelf Go.Maps

theorem arr_one {cur : Array Value} {x : Value} (h : arrRow cur 0 1 = some #[x]) : cur[0]? = some x := by
  unfold arrRow at h
  split at h
  · rename_i hle
    have h1 := congrArg (fun o => o.bind (fun (a : Array Value) => a[0]?)) h
    simp only [Option.bind_some, Array.getElem?_extract] at h1
    rw [if_pos (by simp at hle ⊢; omega)] at h1
    simpa using h1
  · cases h
def zeroAct : GAct := ⟨0, zeroO, zeroCall⟩
theorem results9 (tmps : Array Value) (w : World) (g : Nat) (cs : Array Value) (hp : tmps.getD 6 undef = .pointer (some ⟨g, 0, none⟩)) (hg : w.heap[g]? = some (.cells cs 39)) (hs : cs.size = 28) :
    (results Try.f9 tmps).run Try.prog w = .ok (.agg cs) w :=
  results_cell_row rfl tmps w g 39 cs (0, 0) _ hp hg Try.underlying39 rfl (by rw [hs]; kernel_rfl)

/-- What a list of objects is, of which the volume name is bound and wanted by the one pod q. -/
structure Scene (all : List Obj) (name : ByteArray) (v0 q : Obj) : Prop where
  len : all.length ≤ 1000
  keys : ∀ o ∈ all, o.Keyish
  nodup : all.Pairwise (fun a b => a.klit ≠ b.klit)
  vol : all.find? (isIt 4 name) = some v0
  phase : v0.phase = 3
  pod : ∀ x ∈ all, wantP all name x = true → x = q
  mem : q ∈ all
  wants : wantP all name q = true

theorem below_putRow {w w' : World} (h : Below w.heap.size w w') {cs : Array Value} : Below w.heap.size w (w'.putRow w.heap.size 0 cs) :=
  ⟨h.os, h.tape, h.output, by have := h.size; simpa using this, fun k hk => (World.heap_putRow_other _ _ _ _ (by omega)).trans (h.block k hk)⟩

def attO0 (vol node : ByteArray) : Obj := ⟨5, es, 0, 0, false, false, es, 0, 0, 0, false, false, es, node, es, vol, es, 0, 0, 0⟩
def attO (vol node : ByteArray) : Obj := ⟨5, attachName vol node, 0, 0, false, false, es, 0, 0, 0, false, false, es, node, es, vol, es, 0, 0, 0⟩
theorem attachName_size (a b : ByteArray) (ha : a.size ≤ 40) (hb : b.size ≤ 40) : (attachName a b).size ≤ maxLen := by
  have h : (attachName a b).size = a.size + (b.size + 1) := by
    show (a.data.toList ++ 47 :: b.data.toList).toArray.size = a.data.size + (b.data.size + 1)
    rw [List.size_toArray, List.length_append, List.length_cons, Array.length_toList, Array.length_toList]
  have h2 : (81 : Nat) ≤ maxLen := by decide
  omega
theorem results11' (tmps : Array Value) (w : World) (g : Nat) (cs : Array Value) (hp : tmps.getD 2 undef = .pointer (some ⟨g, 0, none⟩)) (hg : w.heap[g]? = some (.cells cs 27)) (hs : cs.size = 20) :
    (results Try.f11 tmps).run Try.prog w = .ok (.agg cs) w :=
  results_cell_row rfl tmps w g 27 cs (0, 0) _ hp hg Try.underlying27 rfl (by rw [hs]; kernel_rfl)
set_option maxRecDepth 100000 in
set_option maxHeartbeats 4000000 in
theorem default_attach (vol node : ByteArray) (w : World) (h1 : vol.size ≤ 40) (h2 : node.size ≤ 40) :
    Calls Try.prog 11 #[.agg (attO0 vol node).cells] w fun e w' => e = .returned (.agg (attO vol node).cells) ∧ Below w.heap.size w w' := by
  have H1 := Lib.hid h1
  have H2 := Lib.hid h2
  clear h1 h2
  unfold attO0
  go_enter Try.func11, Try.ntmps11
  go_wp2_with fail
  refine (attach_any vol node _ H1.out H2.out).mono ?_
  rintro e w1 ⟨rfl, hb⟩
  have HB : Hid (Below w.heap.size w w1) := (((Below.refl _ _).alloc (Nat.le_refl _) _).alloc (by simp) _).trans (hb.mono (by simp; omega))
  have hD0 : w1.heap[w.heap.size]? = some (.cells (attO0 vol node).cells 27) := (hb.block _ (by simp; omega)).trans ((heap?_alloc_past _ _ _ (by simp)).trans (heap?_alloc_at _ _ _ rfl))
  have hE0 := (hb.block (w.heap.size + 1) (by simp)).trans (heap?_alloc_at _ _ _ (by simp))
  have hc : w1.cell? ⟨w.heap.size, 1, none⟩ = some (.string es) := (cell_of_row _ _ 1 _ _ _ hD0).trans rfl
  have hf : w1.frozen? ⟨w.heap.size, 1, none⟩ = false := frozen_of_row _ _ 1 _ _ hD0
  have hD1 : (w1.setCell ⟨w.heap.size, 1, none⟩ (.string (attachName vol node))).heap[w.heap.size]? = some (.cells (attO vol node).cells 27) := (heap_setCell_same _ _ 1 _ _ _ hD0).trans rfl
  have hE1 := (Below.heap_setCell w1 ⟨w.heap.size, 1, none⟩ (.string (attachName vol node)) (w.heap.size + 1) (by simp)).trans hE0
  have hr1 : (w1.setCell ⟨w.heap.size, 1, none⟩ (.string (attachName vol node))).rowAt? w.heap.size 0 20 = some (attO vol node).cells := by rw [World.rowAt?_of _ _ _ hD1]; exact Obj.row _
  have hf1 : (w1.setCell ⟨w.heap.size, 1, none⟩ (.string (attachName vol node))).rowFree (w.heap.size + 1) 0 20 = true := by rw [World.rowFree_of _ _ _ hE1]; rfl
  have HE1 := Lib.hid hE1
  clear hb hD0 hE0 hD1 hE1
  go_wp2_with fail
  refine bodyPost_ret (results11' _ _ (w.heap.size + 1) _ rfl ((World.heap_putRow_same _ _ _ HE1.out).trans (by rw [Obj.over])) rfl) rfl ⟨rfl, ?_⟩
  have hb2 := HB.out.setCell (p := ⟨w.heap.size, 1, none⟩) (Nat.le_refl _) (.string (attachName vol node))
  exact ⟨hb2.os, hb2.tape, hb2.output, by have := hb2.size; simpa using this, fun k hk => (World.heap_putRow_other _ _ _ _ (by omega)).trans (hb2.block k hk)⟩

set_option maxRecDepth 100000 in
set_option maxHeartbeats 4000000 in
theorem volume_unwanted (B cap : Nat) (all : List Obj) (name : ByteArray) (ver : Int) (v0 q a : Obj) (w : World) (hs : Scene all name v0 q) (hc : Objs w B all) (hv0 : 0 ≤ ver) (hv1 : ver < 18446744073709551615) (ha : ∀ x ∈ all, isA name x = true → x = a) (ham : a ∈ all) (haa : isA name a = true) (hne : (a.node.toList == q.node.toList) = false) (hp9 : (a.phase == 9) = false) :
    Calls Try.prog 9 #[.slice (some ⟨B, 0, none⟩) all.length cap, .int .u64 ver, .string name] w fun e w' => e = .returned (.agg (GAct.mk 1 { a with phase := 9, num := ver + 1 } zeroCall).cells) ∧ Below w.heap.size w w' := by
  have HS := Lib.hid hs
  have HC := Lib.hid hc
  have HA := Lib.hid ha
  have hBl := hc.1
  have hp3 : (v0.phase == 3) = true := by simpa using hs.phase
  have hp3' : (v0.phase != 3) = false := by simpa using hs.phase
  clear hs hc ha
  have HAM := Lib.hid ham
  have HAA := Lib.hid haa
  have HNE := Lib.hid hne
  clear ham haa hne
  go_enter Try.func9, Try.ntmps9
  go_wp2_with fail
  refine (get_any B cap all 4 name _ HS.out.len HS.out.keys HS.out.nodup (HC.out.below ((Below.refl w.heap.size w).alloc (Nat.le_refl _) _) hBl)).mono ?_
  rintro e w1 ⟨rfl, hb⟩
  rw [HS.out.vol]
  simp only [Option.getD_some, Option.isSome_some]
  have hz1 : w.heap.size < w1.heap.size := by have := hb.size; simp at this; omega
  have HB1 : Hid (Below w.heap.size w w1) := ((Below.refl w.heap.size w).alloc (Nat.le_refl _) _).trans (hb.mono (by simp))
  have HD1 : Hid (w1.heap[w.heap.size]? = some (.cells zeroAct.cells 39)) := (hb.block _ (by simp)).trans (heap?_alloc_at _ _ _ rfl)
  clear hb
  go_wp2_with fail
  refine (wanted_one B cap all name q v0 _ HS.out.len HS.out.keys HS.out.nodup (HC.out.below (HB1.out.alloc HB1.out.size _) hBl) HS.out.vol HS.out.phase HS.out.pod HS.out.mem HS.out.wants).mono ?_
  rintro e w2 ⟨wv, rfl, ho2, hb2⟩
  have hz2 : w1.heap.size + 1 ≤ w2.heap.size := by have := hb2.size; simpa using this
  have HB2 : Hid (Below w.heap.size w w2) := (HB1.out.alloc HB1.out.size _).trans (hb2.mono (by simp; omega))
  have HD2 : Hid (w2.heap[w.heap.size]? = some (.cells zeroAct.cells 39)) := (hb2.block _ (by simp; omega)).trans ((heap?_alloc_past _ _ _ hz1).trans HD1.out)
  have HV2 : Hid (w2.heap[w1.heap.size]? = some (.cells v0.cells 27)) := (hb2.block _ (by simp)).trans (heap?_alloc_at _ _ _ rfl)
  have HO2 := Lib.hid ho2
  clear hb2 ho2
  go_wp2_with fail
  refine (attachments_any B cap all name a w2 HS.out.len HS.out.keys HS.out.nodup (HC.out.below HB2.out hBl) HA.out).mono ?_
  rintro e w3 ⟨av, rfl, ho3, hb3⟩
  obtain ⟨g1, cap1, cur1, rfl, hg1, hh1, hr1⟩ := HO2.out
  have hg1l := (Array.getElem?_eq_some_iff.1 hh1).1
  have hz3 := hb3.size
  have hc1 : w3.cell? ⟨g1, 0, none⟩ = some (.string q.node) := (hb3.cell (p := ⟨g1, 0, none⟩) hg1l).trans ((cell_of_row _ _ 0 _ _ _ hh1).trans (arr_one hr1))
  have hD3 := (hb3.block _ (by omega)).trans HD2.out
  have hV3 := (hb3.block _ (by omega)).trans HV2.out
  have hv7 : ∀ i, w3.cell? ⟨w1.heap.size, i, none⟩ = v0.cells[i]? := fun i => cell_of_row _ _ i _ _ _ hV3
  have hg1w : g1 < w3.heap.size := by omega
  have hDw : w.heap.size < w3.heap.size := by omega
  have hVw : w1.heap.size < w3.heap.size := by omega
  have HB3 : Hid (Below w.heap.size w w3) := HB2.out.trans (hb3.mono (by have := HB2.out.size; omega))
  have HD3 := Lib.hid hD3
  clear hb3 hh1 hr1 hg1 hg1l hD3 hV3 hz3
  rcases ho3 with ⟨_, hno⟩ | ⟨⟨g2, cap2, cur2, rfl, hg2, hh2, hr2⟩, _⟩
  · exact absurd ⟨a, HAM.out, HAA.out⟩ hno
  have hg2w : g2 < w3.heap.size := (Array.getElem?_eq_some_iff.1 hh2).1
  have hrow2 : w3.rowAt? g2 0 20 = some a.cells := by rw [World.rowAt?_of _ _ _ hh2]; exact hr2
  clear hg2 hh2 hr2
  go_wp2_with fail
  go_loop [34] (fun i => i = .int .i64 0) (fun _ => 0)
  case atStart => exact rfl
  case round =>
    subst hrel
    go_wp2_with fail
    refine (contains_one g1 cap1 q.node a.node _ (by rw [cellPast _ _ _ _ hg1w]; exact hc1) HNE.out).mono ?_
    rintro e w' ⟨rfl, rfl⟩
    go_wp2_with fail
    refine (write_any a 9 ver _ hv0 hv1).mono ?_
    rintro e w5 ⟨rfl, hb5⟩
    have HB5 : Hid (Below w.heap.size w w5) := (HB3.out.alloc HB3.out.size _).trans (hb5.mono (by simp; omega))
    have hD5 := (hb5.block _ (by simp; omega)).trans ((heap?_alloc_past _ _ _ hDw).trans HD3.out)
    have hf5 : w5.rowFree w.heap.size 0 28 = true := by rw [World.rowFree_of _ _ _ hD5]; rfl
    have HD5 := Lib.hid hD5
    clear hb5 hD5
    go_wp2_with fail
    exact bodyPost_ret (results9 _ _ w.heap.size _ rfl ((World.heap_putRow_same _ _ _ HD5.out).trans (by rw [GAct.over])) rfl) rfl ⟨rfl, below_putRow HB5.out⟩

set_option maxRecDepth 100000 in
set_option maxHeartbeats 4000000 in
theorem volume_leaving (B cap : Nat) (all : List Obj) (name : ByteArray) (ver : Int) (v0 q a : Obj) (w : World) (hs : Scene all name v0 q) (hc : Objs w B all) (_hv0 : 0 ≤ ver) (_hv1 : ver < 18446744073709551615) (ha : ∀ x ∈ all, isA name x = true → x = a) (ham : a ∈ all) (haa : isA name a = true) (hne : (a.node.toList == q.node.toList) = false) (hp9 : (a.phase == 9) = true) :
    Calls Try.prog 9 #[.slice (some ⟨B, 0, none⟩) all.length cap, .int .u64 ver, .string name] w fun e w' => e = .returned (.agg (GAct.mk 3 zeroO (askC 4 a)).cells) ∧ Below w.heap.size w w' := by
  have HS := Lib.hid hs
  have HC := Lib.hid hc
  have HA := Lib.hid ha
  have hBl := hc.1
  have hp3 : (v0.phase == 3) = true := by simpa using hs.phase
  have hp3' : (v0.phase != 3) = false := by simpa using hs.phase
  clear hs hc ha
  have HAM := Lib.hid ham
  have HAA := Lib.hid haa
  have HNE := Lib.hid hne
  clear ham haa hne
  go_enter Try.func9, Try.ntmps9
  go_wp2_with fail
  refine (get_any B cap all 4 name _ HS.out.len HS.out.keys HS.out.nodup (HC.out.below ((Below.refl w.heap.size w).alloc (Nat.le_refl _) _) hBl)).mono ?_
  rintro e w1 ⟨rfl, hb⟩
  rw [HS.out.vol]
  simp only [Option.getD_some, Option.isSome_some]
  have hz1 : w.heap.size < w1.heap.size := by have := hb.size; simp at this; omega
  have HB1 : Hid (Below w.heap.size w w1) := ((Below.refl w.heap.size w).alloc (Nat.le_refl _) _).trans (hb.mono (by simp))
  have HD1 : Hid (w1.heap[w.heap.size]? = some (.cells zeroAct.cells 39)) := (hb.block _ (by simp)).trans (heap?_alloc_at _ _ _ rfl)
  clear hb
  go_wp2_with fail
  refine (wanted_one B cap all name q v0 _ HS.out.len HS.out.keys HS.out.nodup (HC.out.below (HB1.out.alloc HB1.out.size _) hBl) HS.out.vol HS.out.phase HS.out.pod HS.out.mem HS.out.wants).mono ?_
  rintro e w2 ⟨wv, rfl, ho2, hb2⟩
  have hz2 : w1.heap.size + 1 ≤ w2.heap.size := by have := hb2.size; simpa using this
  have HB2 : Hid (Below w.heap.size w w2) := (HB1.out.alloc HB1.out.size _).trans (hb2.mono (by simp; omega))
  have HD2 : Hid (w2.heap[w.heap.size]? = some (.cells zeroAct.cells 39)) := (hb2.block _ (by simp; omega)).trans ((heap?_alloc_past _ _ _ hz1).trans HD1.out)
  have HV2 : Hid (w2.heap[w1.heap.size]? = some (.cells v0.cells 27)) := (hb2.block _ (by simp)).trans (heap?_alloc_at _ _ _ rfl)
  have HO2 := Lib.hid ho2
  clear hb2 ho2
  go_wp2_with fail
  refine (attachments_any B cap all name a w2 HS.out.len HS.out.keys HS.out.nodup (HC.out.below HB2.out hBl) HA.out).mono ?_
  rintro e w3 ⟨av, rfl, ho3, hb3⟩
  obtain ⟨g1, cap1, cur1, rfl, hg1, hh1, hr1⟩ := HO2.out
  have hg1l := (Array.getElem?_eq_some_iff.1 hh1).1
  have hz3 := hb3.size
  have hc1 : w3.cell? ⟨g1, 0, none⟩ = some (.string q.node) := (hb3.cell (p := ⟨g1, 0, none⟩) hg1l).trans ((cell_of_row _ _ 0 _ _ _ hh1).trans (arr_one hr1))
  have hD3 := (hb3.block _ (by omega)).trans HD2.out
  have hV3 := (hb3.block _ (by omega)).trans HV2.out
  have hv7 : ∀ i, w3.cell? ⟨w1.heap.size, i, none⟩ = v0.cells[i]? := fun i => cell_of_row _ _ i _ _ _ hV3
  have hg1w : g1 < w3.heap.size := by omega
  have hDw : w.heap.size < w3.heap.size := by omega
  have hVw : w1.heap.size < w3.heap.size := by omega
  have HB3 : Hid (Below w.heap.size w w3) := HB2.out.trans (hb3.mono (by have := HB2.out.size; omega))
  have HD3 := Lib.hid hD3
  clear hb3 hh1 hr1 hg1 hg1l hD3 hV3 hz3
  rcases ho3 with ⟨_, hno⟩ | ⟨⟨g2, cap2, cur2, rfl, hg2, hh2, hr2⟩, _⟩
  · exact absurd ⟨a, HAM.out, HAA.out⟩ hno
  have hg2w : g2 < w3.heap.size := (Array.getElem?_eq_some_iff.1 hh2).1
  have hrow2 : w3.rowAt? g2 0 20 = some a.cells := by rw [World.rowAt?_of _ _ _ hh2]; exact hr2
  clear hg2 hh2 hr2
  go_wp2_with fail
  go_loop [34] (fun i => i = .int .i64 0) (fun _ => 0)
  case atStart => exact rfl
  case round =>
    subst hrel
    go_wp2_with fail
    refine (contains_one g1 cap1 q.node a.node _ (by rw [cellPast _ _ _ _ hg1w]; exact hc1) HNE.out).mono ?_
    rintro e w' ⟨rfl, rfl⟩
    go_wp2_with fail
    refine (ask_any 4 a _).mono ?_
    rintro e w5 ⟨rfl, hb5⟩
    have HB5 : Hid (Below w.heap.size w w5) := (HB3.out.alloc HB3.out.size _).trans (hb5.mono (by simp; omega))
    have hD5 := (hb5.block _ (by simp; omega)).trans ((heap?_alloc_past _ _ _ hDw).trans HD3.out)
    have hf5 : w5.rowFree w.heap.size 0 28 = true := by rw [World.rowFree_of _ _ _ hD5]; rfl
    have HD5 := Lib.hid hD5
    clear hb5 hD5
    go_wp2_with fail
    exact bodyPost_ret (results9 _ _ w.heap.size _ rfl ((World.heap_putRow_same _ _ _ HD5.out).trans (by rw [GAct.over])) rfl) rfl ⟨rfl, below_putRow HB5.out⟩

set_option maxRecDepth 100000 in
set_option maxHeartbeats 4000000 in
theorem volume_new (B cap : Nat) (all : List Obj) (name : ByteArray) (ver : Int) (v0 q a : Obj) (w : World) (hs : Scene all name v0 q) (hc : Objs w B all) (hv0 : 0 ≤ ver) (hv1 : ver < 18446744073709551615) (ha : ∀ x ∈ all, isA name x = true → x = a) (hno : ∀ x ∈ all, isA name x = false) (hnn : name.size ≤ 40) (hqn : q.node.size ≤ 40) (hnl : nameL (attachName name q.node).data.toList = true) :
    Calls Try.prog 9 #[.slice (some ⟨B, 0, none⟩) all.length cap, .int .u64 ver, .string name] w fun e w' => e = .returned (.agg (GAct.mk 1 { attO name q.node with phase := 7, num := ver + 1 } zeroCall).cells) ∧ Below w.heap.size w w' := by
  have HS := Lib.hid hs
  have HC := Lib.hid hc
  have HA := Lib.hid ha
  have hBl := hc.1
  have hp3 : (v0.phase == 3) = true := by simpa using hs.phase
  have hp3' : (v0.phase != 3) = false := by simpa using hs.phase
  clear hs hc ha
  have HNO := Lib.hid hno
  have HNN := Lib.hid hnn
  have HQN := Lib.hid hqn
  have HNL := Lib.hid hnl
  clear hno hnn hqn hnl
  go_enter Try.func9, Try.ntmps9
  go_wp2_with fail
  refine (get_any B cap all 4 name _ HS.out.len HS.out.keys HS.out.nodup (HC.out.below ((Below.refl w.heap.size w).alloc (Nat.le_refl _) _) hBl)).mono ?_
  rintro e w1 ⟨rfl, hb⟩
  rw [HS.out.vol]
  simp only [Option.getD_some, Option.isSome_some]
  have hz1 : w.heap.size < w1.heap.size := by have := hb.size; simp at this; omega
  have HB1 : Hid (Below w.heap.size w w1) := ((Below.refl w.heap.size w).alloc (Nat.le_refl _) _).trans (hb.mono (by simp))
  have HD1 : Hid (w1.heap[w.heap.size]? = some (.cells zeroAct.cells 39)) := (hb.block _ (by simp)).trans (heap?_alloc_at _ _ _ rfl)
  clear hb
  go_wp2_with fail
  refine (wanted_one B cap all name q v0 _ HS.out.len HS.out.keys HS.out.nodup (HC.out.below (HB1.out.alloc HB1.out.size _) hBl) HS.out.vol HS.out.phase HS.out.pod HS.out.mem HS.out.wants).mono ?_
  rintro e w2 ⟨wv, rfl, ho2, hb2⟩
  have hz2 : w1.heap.size + 1 ≤ w2.heap.size := by have := hb2.size; simpa using this
  have HB2 : Hid (Below w.heap.size w w2) := (HB1.out.alloc HB1.out.size _).trans (hb2.mono (by simp; omega))
  have HD2 : Hid (w2.heap[w.heap.size]? = some (.cells zeroAct.cells 39)) := (hb2.block _ (by simp; omega)).trans ((heap?_alloc_past _ _ _ hz1).trans HD1.out)
  have HV2 : Hid (w2.heap[w1.heap.size]? = some (.cells v0.cells 27)) := (hb2.block _ (by simp)).trans (heap?_alloc_at _ _ _ rfl)
  have HO2 := Lib.hid ho2
  clear hb2 ho2
  go_wp2_with fail
  refine (attachments_any B cap all name a w2 HS.out.len HS.out.keys HS.out.nodup (HC.out.below HB2.out hBl) HA.out).mono ?_
  rintro e w3 ⟨av, rfl, ho3, hb3⟩
  obtain ⟨g1, cap1, cur1, rfl, hg1, hh1, hr1⟩ := HO2.out
  have hg1l := (Array.getElem?_eq_some_iff.1 hh1).1
  have hz3 := hb3.size
  have hc1 : w3.cell? ⟨g1, 0, none⟩ = some (.string q.node) := (hb3.cell (p := ⟨g1, 0, none⟩) hg1l).trans ((cell_of_row _ _ 0 _ _ _ hh1).trans (arr_one hr1))
  have hD3 := (hb3.block _ (by omega)).trans HD2.out
  have hV3 := (hb3.block _ (by omega)).trans HV2.out
  have hv7 : ∀ i, w3.cell? ⟨w1.heap.size, i, none⟩ = v0.cells[i]? := fun i => cell_of_row _ _ i _ _ _ hV3
  have hg1w : g1 < w3.heap.size := by omega
  have hDw : w.heap.size < w3.heap.size := by omega
  have hVw : w1.heap.size < w3.heap.size := by omega
  have HB3 : Hid (Below w.heap.size w w3) := HB2.out.trans (hb3.mono (by have := HB2.out.size; omega))
  have HD3 := Lib.hid hD3
  clear hb3 hh1 hr1 hg1 hg1l hD3 hV3 hz3
  rcases ho3 with ⟨rfl, _⟩ | ⟨_, ⟨x, hx, hxx⟩⟩
  case inr => exact absurd (hxx.symm.trans (HNO.out x hx)) (by decide)
  by_cases hm : v0.mode = 1
  case' pos => have hm1 : (v0.mode == 1) = true := by simpa using hm
  case' neg => have hm1 : (v0.mode == 1) = false := by simpa using hm
  all_goals
    clear hm
    go_wp2_with fail
    go_loop [34] (fun i => i = .int .i64 0) (fun _ => 0)
    case atStart => exact rfl
    case round =>
      subst hrel
      go_wp2_with fail
      go_loop [77] (fun i => i = .int .i64 0) (fun _ => 0)
      case atStart => exact rfl
      case round =>
        subst hrel
        go_wp2_with fail
        refine (containsF_none _ _).mono ?_
        rintro e w' ⟨rfl, rfl⟩
        go_wp2_with fail
        refine (default_attach name q.node _ HNN.out HQN.out).mono ?_
        rintro e w5 ⟨rfl, hb5⟩
        have HB5 : Hid (Below w.heap.size w w5) := (HB3.out.alloc HB3.out.size _).trans (hb5.mono (by simp; omega))
        have HD5 : Hid (w5.heap[w.heap.size]? = some (.cells zeroAct.cells 39)) := (hb5.block _ (by simp; omega)).trans ((heap?_alloc_past _ _ _ hDw).trans HD3.out)
        have hz5 : w.heap.size < w5.heap.size := by have := hb5.size; simp at this; omega
        clear hb5
        go_wp2_with fail
        refine (Name_any _ _ (attachName_size _ _ HNN.out HQN.out)).mono ?_
        rintro e w' ⟨rfl, rfl⟩
        rw [HNL.out]
        go_wp2_with fail
        refine (write_any (attO name q.node) 7 ver _ hv0 hv1).mono ?_
        rintro e w6 ⟨rfl, hb6⟩
        have HB6 : Hid (Below w.heap.size w w6) := (HB5.out.alloc HB5.out.size _).trans (hb6.mono (by simp; omega))
        have hD6 := (hb6.block _ (by simp; omega)).trans ((heap?_alloc_past _ _ _ hz5).trans HD5.out)
        have hf6 : w6.rowFree w.heap.size 0 28 = true := by rw [World.rowFree_of _ _ _ hD6]; rfl
        have HD6 := Lib.hid hD6
        clear hb6 hD6
        go_wp2_with fail
        exact bodyPost_ret (results9 _ _ w.heap.size _ rfl ((World.heap_putRow_same _ _ _ HD6.out).trans (by rw [GAct.over])) rfl) rfl ⟨rfl, below_putRow HB6.out⟩

end Go.Proofs.Ythppjfhbdohmbaa
