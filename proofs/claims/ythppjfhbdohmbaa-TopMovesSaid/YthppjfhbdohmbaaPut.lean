/- attach.put into an empty list: the contracts of the Go functions, strings and objects. -/
import Derived.Test.YthppjfhbdohmbaaGet
import Derived.Test.YthppjfhbdohmbaaFrame
import Derived.OwnWalk
namespace Go.Proofs.Ythppjfhbdohmbaa
open Go.RowKit Go.Shelf Go.Maps

/-- The slice v holds the one element whose cells are cs, in a block of its own from lo on. -/
def One (w : World) (lo : Nat) (t : TypeId) (v : Value) (cs : Array Value) : Prop :=
  ∃ g cap cur, v = .slice (some ⟨g, 0, none⟩) 1 cap ∧ lo ≤ g ∧ w.heap[g]? = some (.cells cur t (0, 0)) ∧ arrRow cur 0 cs.size = some cs
theorem One.of_own {w : World} {lo : Nat} {t : TypeId} {size : Nat} {v : Value} {cs : Array Value} (h : w.ownsRow lo t size v 1 cs.toList) : One w lo t v cs := by
  obtain ⟨hl, ⟨_, hn⟩ | ⟨g, cap, cur, hv, hlo, hh, hcap, _, hsz, hx⟩⟩ := h
  · exact absurd hn (by omega)
  · refine ⟨g, cap, cur, hv, hlo, hh, ?_⟩
    have h1 : cs.size = size := by simpa using hl
    have h2 : size ≤ cur.size := by rw [hsz]; exact Nat.le_mul_of_pos_left _ (by omega)
    unfold arrRow
    rw [if_pos (by omega)]
    congr 1
    rw [← Array.toList_inj, Array.toList_extract, List.extract_eq_take_drop]
    simp only [Nat.zero_add, List.drop_zero, Nat.sub_zero]
    rw [h1, ← hx, Nat.one_mul]
theorem One.kept {w w' : World} {lo : Nat} {t : TypeId} {v : Value} {cs : Array Value} (h : One w lo t v cs) (hk : ∀ j c, lo ≤ j → w.heap[j]? = some (.cells c t (0, 0)) → w'.heap[j]? = some (.cells c t (0, 0))) : One w' lo t v cs := by
  obtain ⟨g, cap, cur, hv, hlo, hh, hr⟩ := h
  exact ⟨g, cap, cur, hv, hlo, hk g cur hlo hh, hr⟩

set_option maxRecDepth 100000 in
theorem bsearch_nil (x : Value) (f : Value) (w : World) : Calls Try.prog 88 #[.slice none 0 0, x, f] w fun e w' => e = .returned (.tuple #[.int .i64 0, .bool false]) ∧ w = w' := by
  go_enter Try.func88, Try.ntmps88
  go_wp2
  go_loop [9, 10] (fun i j => i = .int .i64 0 ∧ j = .int .i64 0) (fun _ _ => 0)
  case atStart => exact ⟨rfl, rfl⟩
  case round =>
    obtain ⟨rfl, rfl⟩ := hrel
    go_wp2
    go_ret2
    exact ⟨rfl, rfl⟩

theorem info9 : (Try.prog.info? 9).map (fun i => (i.zero, i.size, i.bytes)) = some (some (.string ⟨#[]⟩), 1, 16) := by kernel_rfl

set_option maxRecDepth 100000 in
theorem insert_nil (b : Nat) (x : ByteArray) (w : World) (hb : w.heap[b]? = some (.cells #[.string x] 9)) :
    Calls Try.prog 91 #[.slice none 0 0, .int .i64 0, .slice (some ⟨b, 0, none⟩) 1 1] w fun e w' => ∃ v, e = .returned v ∧ One w' w.heap.size 9 v #[.string x] ∧ Below w.heap.size w w' := by
  have hc : w.cell? ⟨b, 0, none⟩ = some (.string x) := cell_of_row w b 0 _ _ _ hb
  obtain ⟨i0, hi, hz0, hz1, hz2⟩ := info_parts info9
  have hown : w.ownsRow w.heap.size 9 1 (.slice none 0 0) 0 [] := ⟨rfl, .inl ⟨rfl, rfl⟩⟩
  have hnew : ∀ j u, [Value.string x][j]? = some u → w.cell? ((⟨b, 0, none⟩ : Addr).add j) = some u := by
    intro j u hj
    match j, hj with
    | 0, h => injection h with h; subst h; exact hc
  have HN := Lib.hid hnew
  have HO := Lib.hid hown
  clear hb hnew hown
  go_enter Try.func91, Try.ntmps91
  go_wp2_with (at_builtin; refine wpList_append_own_at _ rfl _ _ 51 rfl w.heap.size 9 i0 (.string ⟨#[]⟩) 1 16 Try.underlying51 hi hz0 hz1 hz2 rfl (by decide) _ _ _ rfl HO.out ⟨b, 0, none⟩ 1 1 [.string x] rfl rfl HN.out (by simp [Value.oneCell']) (by unfold maxLen; omega) (by omega) (Nat.le_refl _) ?_; intro v' w1 hown1 hgrow _ hloc; have HO1 := Lib.hid hown1; have HG := Lib.hid hgrow; clear hown1 hgrow hloc)
  go_ret
  exact ⟨_, rfl, One.of_own HO1.out, (Below.refl _ _).grown HG.out (Nat.le_refl _) (fun k e => by cases e)⟩

theorem keyStr (x : ByteArray) (w : World) : Calls Try.prog 64 #[.string x] w fun e w' => e = .returned (.string x) ∧ w = w' := by
  go_enter Try.func64, Try.ntmps64
  go_wp2
  go_ret
  exact ⟨rfl, rfl⟩
theorem keyObj (x : Obj) (w : World) : Calls Try.prog 66 #[.agg x.cells] w fun e w' => e = .returned (.string x.name) ∧ w' = w.alloc (.cells x.cells 27) := by
  go_enter Try.func66, Try.ntmps66
  go_wp2
  go_ret
  exact ⟨rfl, rfl⟩

set_option maxRecDepth 100000 in
theorem bsearchO_nil (x : Value) (f : Value) (w : World) : Calls Try.prog 92 #[.slice none 0 0, x, f] w fun e w' => e = .returned (.tuple #[.int .i64 0, .bool false]) ∧ w = w' := by
  go_enter Try.func92, Try.ntmps92
  go_wp2
  go_loop [9, 10] (fun i j => i = .int .i64 0 ∧ j = .int .i64 0) (fun _ _ => 0)
  case atStart => exact ⟨rfl, rfl⟩
  case round =>
    obtain ⟨rfl, rfl⟩ := hrel
    go_wp2
    go_ret2
    exact ⟨rfl, rfl⟩

theorem info27 : (Try.prog.info? 27).map (fun i => (i.zero, i.size, i.bytes)) = some (some (.agg (Obj.mk 0 ⟨#[]⟩ 0 0 false false ⟨#[]⟩ 0 0 0 false false ⟨#[]⟩ ⟨#[]⟩ ⟨#[]⟩ ⟨#[]⟩ ⟨#[]⟩ 0 0 0).cells), 20, 192) := by kernel_rfl

set_option maxRecDepth 100000 in
theorem insertO_nil (b : Nat) (x : Obj) (w : World) (hb : w.heap[b]? = some (.cells x.cells 27)) :
    Calls Try.prog 94 #[.slice none 0 0, .int .i64 0, .slice (some ⟨b, 0, none⟩) 1 1] w fun e w' => ∃ v, e = .returned v ∧ One w' w.heap.size 27 v x.cells ∧ Below w.heap.size w w' := by
  obtain ⟨i0, hi, hz0, hz1, hz2⟩ := info_parts info27
  have hown : w.ownsRow w.heap.size 27 20 (.slice none 0 0) 0 [] := ⟨rfl, .inl ⟨rfl, rfl⟩⟩
  have hnew : ∀ j u, x.cells.toList[j]? = some u → w.cell? ((⟨b, 0, none⟩ : Addr).add j) = some u := by
    intro j u hj
    rw [show (⟨b, 0, none⟩ : Addr).add j = ⟨b, j, none⟩ by simp [Addr.add]; intro e; exact e.symm, cell_of_row w b j _ _ _ hb]
    simpa using hj
  have HN := Lib.hid hnew
  have HO := Lib.hid hown
  have hone : ∀ u ∈ x.cells.toList, u.oneCell' = true := by
    intro u hu
    simp only [Obj.cells, List.mem_cons, List.not_mem_nil, or_false] at hu
    rcases hu with h | h | h | h | h | h | h | h | h | h | h | h | h | h | h | h | h | h | h | h <;> rw [h] <;> rfl
  have HE := Lib.hid hone
  clear hb hnew hown hone
  go_enter Try.func94, Try.ntmps94
  go_wp2_with (at_builtin; refine wpList_append_own_at _ rfl _ _ 41 rfl w.heap.size 27 i0 _ 20 192 Try.underlying41 hi hz0 hz1 hz2 rfl (by decide) _ _ _ rfl HO.out ⟨b, 0, none⟩ 1 1 x.cells.toList rfl rfl HN.out HE.out (by unfold maxLen; omega) (by omega) (Nat.le_refl _) ?_; intro v' w1 hown1 hgrow _ hloc; have HO1 := Lib.hid hown1; have HG := Lib.hid hgrow; clear hown1 hgrow hloc)
  go_ret
  exact ⟨_, rfl, One.of_own HO1.out, (Below.refl _ _).grown HG.out (Nat.le_refl _) (fun k e => by cases e)⟩

def bslice (t : TypeId) (n : Nat) (ps : Array (Nat × Value)) : Sem Value := Instr.buildSlice t n ps
theorem bslice_in (n : Nat) (ps : Array (Nat × Value)) : Instr.buildSlice 41 n ps = bslice 41 n ps := rfl
set_option maxRecDepth 100000 in
theorem build1 (x : Obj) (w : World) : (bslice 41 1 #[(0, .agg x.cells)]).run Try.prog w = .ok (.slice (some ⟨w.heap.size, 0, none⟩) 1 1) (w.alloc (.cells x.cells 27)) := by
  kernel_rfl
set_option maxRecDepth 100000 in
theorem build3 (x y z : Obj) (w : World) : (bslice 41 3 #[(0, .agg x.cells), (1, .agg y.cells), (2, .agg z.cells)]).run Try.prog w = .ok (.slice (some ⟨w.heap.size, 0, none⟩) 3 3) (w.alloc (.cells (x.cells ++ y.cells ++ z.cells) 27)) := by
  kernel_rfl
set_option maxRecDepth 100000 in
theorem build4 (x y z u : Obj) (w : World) : (bslice 41 4 #[(0, .agg x.cells), (1, .agg y.cells), (2, .agg z.cells), (3, .agg u.cells)]).run Try.prog w = .ok (.slice (some ⟨w.heap.size, 0, none⟩) 4 4) (w.alloc (.cells (x.cells ++ y.cells ++ z.cells ++ u.cells) 27)) := by
  kernel_rfl

attribute [go_sem ↓] bslice_in
attribute [go_sem] build1 build3 build4

set_option maxRecDepth 100000 in
theorem put_nil (x : ByteArray) (w : World) : Calls Try.prog 63 #[.slice none 0 0, .string x, .func (.func 64) #[] #[]] w fun e w' => ∃ v, e = .returned v ∧ One w' w.heap.size 9 v #[.string x] ∧ Below w.heap.size w w' := by
  have hmf : ∀ (fn : Fn) (first cap : Array Value) (w : World), (Instr.makeFunc fn first cap).run Try.prog w = .ok (.func fn first cap) w := fun _ _ _ _ => rfl
  go_enter Try.func63, Try.ntmps63
  go_wp2_with fail
  refine (keyStr _ _).mono ?_
  rintro e w' ⟨rfl, rfl⟩
  go_wp2_with fail
  refine (bsearch_nil _ _ _).mono ?_
  rintro e w' ⟨rfl, rfl⟩
  go_wp2_with fail
  refine (insert_nil _ x _ (heap?_alloc_at _ _ _ (by simp))).mono ?_
  rintro e w1 ⟨v, rfl, ho, hb⟩
  have HO := Lib.hid ho
  have HB := Lib.hid hb
  clear ho hb
  go_wp2_with fail
  go_ret
  obtain ⟨g, cap, cur, h1, h2, h3, h4⟩ := HO.out
  exact ⟨v, rfl, ⟨g, cap, cur, h1, by simp at h2; omega, h3, h4⟩, ((((Below.refl _ _).alloc (Nat.le_refl _) _).alloc (by simp) _).trans (HB.out.mono (by simp; omega)))⟩

set_option maxRecDepth 100000 in
set_option maxHeartbeats 1000000 in
theorem putO_nil (x : Obj) (w : World) : Calls Try.prog 65 #[.slice none 0 0, .agg x.cells, .func (.func 66) #[] #[]] w fun e w' => ∃ v, e = .returned v ∧ One w' w.heap.size 27 v x.cells ∧ Below w.heap.size w w' := by
  have hmf : ∀ (fn : Fn) (first cap : Array Value) (w : World), (Instr.makeFunc fn first cap).run Try.prog w = .ok (.func fn first cap) w := fun _ _ _ _ => rfl
  go_enter Try.func65, Try.ntmps65
  go_wp2_with fail
  refine (keyObj x _).mono ?_
  rintro e w' ⟨rfl, rfl⟩
  go_wp2_with fail
  refine (bsearchO_nil _ _ _).mono ?_
  rintro e w' ⟨rfl, rfl⟩
  go_wp2_with fail
  refine (insertO_nil _ x _ (heap?_alloc_at _ _ _ (by simp))).mono ?_
  rintro e w1 ⟨v, rfl, ho, hb⟩
  have HO := Lib.hid ho
  have HB := Lib.hid hb
  clear ho hb
  go_wp2_with fail
  go_ret
  obtain ⟨g, cap, cur, h1, h2, h3, h4⟩ := HO.out
  exact ⟨v, rfl, ⟨g, cap, cur, h1, by simp at h2; omega, h3, h4⟩, ((((((Below.refl _ _).alloc (Nat.le_refl _) _).alloc (by simp) _).alloc (by simp; omega) _).alloc (by simp; omega) _).trans (HB.out.mono (by simp; omega)))⟩
end Go.Proofs.Ythppjfhbdohmbaa
