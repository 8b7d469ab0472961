/- The law TopMoves: the plain part (the objects, the scenes) and the walk. -/
import Derived.Test.YthppjfhbdohmbaaAfter
namespace Go.Proofs.Ythppjfhbdohmbaa
open Go.RowKit Go.Shelf Go.Maps

theorem arr3 (a b c : Obj) : arrRow (a.cells ++ (b.cells ++ c.cells)) 0 20 = some a.cells ∧ arrRow (a.cells ++ (b.cells ++ c.cells)) 20 20 = some b.cells ∧ arrRow (a.cells ++ (b.cells ++ c.cells)) 40 20 = some c.cells := ⟨by kernel_rfl, by kernel_rfl, by kernel_rfl⟩
theorem arr4 (a b c d : Obj) : arrRow (a.cells ++ (b.cells ++ (c.cells ++ d.cells))) 0 20 = some a.cells ∧ arrRow (a.cells ++ (b.cells ++ (c.cells ++ d.cells))) 20 20 = some b.cells ∧ arrRow (a.cells ++ (b.cells ++ (c.cells ++ d.cells))) 40 20 = some c.cells ∧ arrRow (a.cells ++ (b.cells ++ (c.cells ++ d.cells))) 60 20 = some d.cells := ⟨by kernel_rfl, by kernel_rfl, by kernel_rfl, by kernel_rfl⟩
theorem objs3 (w : World) (g : Nat) (hg : g = w.heap.size) (a b c : Obj) : Objs (w.alloc (.cells (a.cells ++ (b.cells ++ c.cells)) 27)) g [a, b, c] := by
  subst hg
  refine ⟨by simp, fun k o hk => ?_⟩
  rw [World.rowAt?_alloc_at _ _ _ _ _ _ rfl]
  have h := arr3 a b c
  generalize a.cells ++ (b.cells ++ c.cells) = cs at h ⊢
  obtain ⟨h0, h1, h2⟩ := h
  rcases k with _ | _ | _ | k
  · obtain rfl : a = o := by simpa using hk
    exact h0
  · obtain rfl : b = o := by simpa using hk
    exact h1
  · obtain rfl : c = o := by simpa using hk
    exact h2
  · simp at hk
theorem objs4 (w : World) (g : Nat) (hg : g = w.heap.size) (a b c d : Obj) : Objs (w.alloc (.cells (a.cells ++ (b.cells ++ (c.cells ++ d.cells))) 27)) g [a, b, c, d] := by
  subst hg
  refine ⟨by simp, fun k o hk => ?_⟩
  rw [World.rowAt?_alloc_at _ _ _ _ _ _ rfl]
  have h := arr4 a b c d
  generalize a.cells ++ (b.cells ++ (c.cells ++ d.cells)) = cs at h ⊢
  obtain ⟨h0, h1, h2, h3⟩ := h
  rcases k with _ | _ | _ | _ | k
  · obtain rfl : a = o := by simpa using hk
    exact h0
  · obtain rfl : b = o := by simpa using hk
    exact h1
  · obtain rfl : c = o := by simpa using hk
    exact h2
  · obtain rfl : d = o := by simpa using hk
    exact h3
  · simp at hk

theorem later2 {wk w' : World} {x y o : Go.Obj} {g : Nat} (h : wk.heap[g]? = some o) (hb : Below ((wk.alloc x).alloc y).heap.size ((wk.alloc x).alloc y) w') : w'.heap[g]? = some o := by
  have hg := (Array.getElem?_eq_some_iff.1 h).1
  exact (hb.block g (by simp; omega)).trans ((heap?_alloc_past _ _ _ (by simp; omega)).trans ((heap?_alloc_past _ _ _ hg).trans h))
theorem new2 {wk w' : World} {x y : Go.Obj} (hb : Below ((wk.alloc x).alloc y).heap.size ((wk.alloc x).alloc y) w') : w'.heap[wk.heap.size]? = some x :=
  (hb.block _ (by simp; omega)).trans ((heap?_alloc_past _ _ _ (by simp)).trans (heap?_alloc_at _ _ _ rfl))
theorem size2 {wk w' : World} {x y : Go.Obj} (hb : Below ((wk.alloc x).alloc y).heap.size ((wk.alloc x).alloc y) w') : wk.heap.size + 2 ≤ w'.heap.size := by have := hb.size; simpa using this
theorem below2 {w wk w' : World} {x y : Go.Obj} (h : Below w.heap.size w wk) (hb : Below ((wk.alloc x).alloc y).heap.size ((wk.alloc x).alloc y) w') : Below w.heap.size w w' := by
  have := h.size
  exact ((h.alloc (by omega) _).alloc (by simp; omega) _).trans (hb.mono (by simp; omega))
theorem rowO {w : World} {g : Nat} {o : Obj} (h : w.heap[g]? = some (.cells o.cells 27)) : w.rowAt? g 0 20 = some o.cells := by rw [World.rowAt?_of _ _ _ h]; exact Obj.row o
theorem rowAO {w : World} {g : Nat} {x : GAct} (h : w.heap[g]? = some (.cells x.cells 39)) : w.rowAt? g 1 20 = some x.obj.cells := by rw [World.rowAt?_of _ _ _ h]; exact GAct.row_obj x
theorem rowAC {w : World} {g : Nat} {x : GAct} (h : w.heap[g]? = some (.cells x.cells 39)) : w.rowAt? g 21 7 = some x.call.cells := by rw [World.rowAt?_of _ _ _ h]; exact GAct.row_call x
theorem cellA {w : World} {g : Nat} {x : GAct} (h : w.heap[g]? = some (.cells x.cells 39)) : ∀ i, w.cell? ⟨g, i, none⟩ = x.cells[i]? := fun i => cell_of_row _ _ i _ _ _ h
theorem five (w : World) (a b c d e : Go.Obj) : (((((w.alloc a).alloc b).alloc c).alloc d).alloc e).heap[w.heap.size]? = some a ∧ (((((w.alloc a).alloc b).alloc c).alloc d).alloc e).heap[w.heap.size + 1]? = some b ∧ (((((w.alloc a).alloc b).alloc c).alloc d).alloc e).heap[w.heap.size + 1 + 1]? = some c := by
  refine ⟨?_, ?_, ?_⟩
  · rw [heap?_alloc_past _ _ _ (by simp <;> omega), heap?_alloc_past _ _ _ (by simp <;> omega), heap?_alloc_past _ _ _ (by simp <;> omega), heap?_alloc_past _ _ _ (by simp <;> omega)]; exact heap?_alloc_at _ _ _ rfl
  · rw [heap?_alloc_past _ _ _ (by simp <;> omega), heap?_alloc_past _ _ _ (by simp <;> omega), heap?_alloc_past _ _ _ (by simp <;> omega)]; exact heap?_alloc_at _ _ _ (by simp)
  · rw [heap?_alloc_past _ _ _ (by simp <;> omega), heap?_alloc_past _ _ _ (by simp <;> omega)]; exact heap?_alloc_at _ _ _ (by simp)

/-- "c", "f", "v", "z", "c#1", "p", "m", "v/l", "l". -/
abbrev claimO : Obj := ⟨3, ⟨#[99]⟩, 0, 0, false, false, ⟨#[102]⟩, 4, 0, 1, false, false, ⟨#[]⟩, ⟨#[]⟩, ⟨#[]⟩, ⟨#[118]⟩, ⟨#[]⟩, 3, 0, 0⟩
abbrev volO : Obj := ⟨4, ⟨#[118]⟩, 0, 0, false, false, ⟨#[102]⟩, 4, 4, 1, false, false, ⟨#[122]⟩, ⟨#[]⟩, ⟨#[99, 35, 49]⟩, ⟨#[]⟩, ⟨#[]⟩, 3, 0, 0⟩
abbrev podO : Obj := ⟨6, ⟨#[112]⟩, 0, 0, false, false, ⟨#[]⟩, 0, 0, 0, false, false, ⟨#[]⟩, ⟨#[109]⟩, ⟨#[99]⟩, ⟨#[]⟩, ⟨#[]⟩, 0, 0, 0⟩
abbrev oldO (ph num : Int) : Obj := ⟨5, ⟨#[118, 47, 108]⟩, 0, 0, false, false, ⟨#[]⟩, 0, 0, 0, false, false, ⟨#[]⟩, ⟨#[108]⟩, ⟨#[]⟩, ⟨#[118]⟩, ⟨#[]⟩, ph, num, 0⟩

theorem keyish_small (k : Int) (hk : (Lit.int .u8 k).wf = true) (a : Array UInt8) (ha : a.size ≤ 40) : (Lit.int .u8 k).wf = true ∧ (⟨a⟩ : ByteArray).size ≤ maxLen :=
  ⟨hk, by show a.size ≤ maxLen; have h : (40 : Nat) ≤ maxLen := by decide
          omega⟩
theorem klit_ne {o p : Obj} (ho : o.Keyish) (hp : p.Keyish) (h : o.kind ≠ p.kind) : o.klit ≠ p.klit := fun e => h (keyLit_inj ho.1 ho.2 hp.1 hp.2 e).1
theorem ki1 : claimO.Keyish := keyish_small 3 (by decide) _ (by decide)
theorem ki2 : volO.Keyish := keyish_small 4 (by decide) _ (by decide)
theorem ki3 : podO.Keyish := keyish_small 6 (by decide) _ (by decide)
theorem ki4 (ph num : Int) : (oldO ph num).Keyish := keyish_small 5 (by decide) _ (by decide)
theorem sameS (a b : Array UInt8) : ((⟨a⟩ : ByteArray).toList == (⟨b⟩ : ByteArray).toList) = (a.toList == b.toList) := by rw [ByteArray.toList_eq, ByteArray.toList_eq]
theorem emptyS (a : Array UInt8) : emptyB ⟨a⟩ = a.toList.isEmpty := by unfold emptyB; rw [ByteArray.toList_eq]

theorem scene4 (ph num : Int) : Scene [claimO, volO, podO, oldO ph num] ⟨#[118]⟩ volO podO := by
  have hw : ∀ x : Obj, x.kind ≠ 6 → wantP [claimO, volO, podO, oldO ph num] ⟨#[118]⟩ x = false := fun x hx => by
    have h : (x.kind == 6) = false := by simpa using hx
    unfold wantP; rw [h]; simp
  refine ⟨by simp, ?_, ?_, ?_, rfl, ?_, by simp, ?_⟩
  · intro o ho
    simp only [List.mem_cons, List.not_mem_nil, or_false] at ho
    rcases ho with rfl | rfl | rfl | rfl
    · exact ki1
    · exact ki2
    · exact ki3
    · exact ki4 ph num
  · refine .cons ?_ (.cons ?_ (.cons ?_ (.cons ?_ .nil)))
    · intro o ho
      simp only [List.mem_cons, List.not_mem_nil, or_false] at ho
      rcases ho with rfl | rfl | rfl
      · exact klit_ne ki1 ki2 (by decide)
      · exact klit_ne ki1 ki3 (by decide)
      · exact klit_ne ki1 (ki4 ph num) (show (3 : Int) ≠ 5 by decide)
    · intro o ho
      simp only [List.mem_cons, List.not_mem_nil, or_false] at ho
      rcases ho with rfl | rfl
      · exact klit_ne ki2 ki3 (by decide)
      · exact klit_ne ki2 (ki4 ph num) (show (4 : Int) ≠ 5 by decide)
    · intro o ho
      simp only [List.mem_cons, List.not_mem_nil, or_false] at ho
      subst ho
      exact klit_ne ki3 (ki4 ph num) (show (6 : Int) ≠ 5 by decide)
    · intro o ho; cases ho
  · simp [List.find?, isIt]
  · intro x hx hwx
    simp only [List.mem_cons, List.not_mem_nil, or_false] at hx
    rcases hx with rfl | rfl | rfl | rfl
    · rw [hw _ (by decide)] at hwx; cases hwx
    · rw [hw _ (by decide)] at hwx; cases hwx
    · rfl
    · rw [hw _ (show (5 : Int) ≠ 6 by decide)] at hwx; cases hwx
  · simp [wantP, wantC, List.find?, isIt, emptyS]
theorem scene3 : Scene [claimO, volO, podO] ⟨#[118]⟩ volO podO := by
  have hw : ∀ x : Obj, x.kind ≠ 6 → wantP [claimO, volO, podO] ⟨#[118]⟩ x = false := fun x hx => by
    have h : (x.kind == 6) = false := by simpa using hx
    unfold wantP; rw [h]; simp
  refine ⟨by simp, ?_, ?_, ?_, rfl, ?_, by simp, ?_⟩
  · intro o ho
    simp only [List.mem_cons, List.not_mem_nil, or_false] at ho
    rcases ho with rfl | rfl | rfl
    · exact ki1
    · exact ki2
    · exact ki3
  · refine .cons ?_ (.cons ?_ (.cons ?_ .nil))
    · intro o ho
      simp only [List.mem_cons, List.not_mem_nil, or_false] at ho
      rcases ho with rfl | rfl
      · exact klit_ne ki1 ki2 (by decide)
      · exact klit_ne ki1 ki3 (by decide)
    · intro o ho
      simp only [List.mem_cons, List.not_mem_nil, or_false] at ho
      subst ho
      exact klit_ne ki2 ki3 (by decide)
    · intro o ho; cases ho
  · simp [List.find?, isIt]
  · intro x hx hwx
    simp only [List.mem_cons, List.not_mem_nil, or_false] at hx
    rcases hx with rfl | rfl | rfl
    · rw [hw _ (by decide)] at hwx; cases hwx
    · rw [hw _ (by decide)] at hwx; cases hwx
    · rfl
  · simp [wantP, wantC, List.find?, isIt, emptyS]
theorem only4 (ph num : Int) : ∀ x ∈ [claimO, volO, podO, oldO ph num], isA ⟨#[118]⟩ x = true → x = oldO ph num := by
  intro x hx h
  simp only [List.mem_cons, List.not_mem_nil, or_false] at hx
  rcases hx with rfl | rfl | rfl | rfl
  · simp [isA] at h
  · simp [isA] at h
  · simp [isA] at h
  · rfl
theorem isA4 (ph num : Int) : isA ⟨#[118]⟩ (oldO ph num) = true := by simp [isA]
theorem none3 : ∀ x ∈ [claimO, volO, podO], isA ⟨#[118]⟩ x = false := by
  intro x hx
  simp only [List.mem_cons, List.not_mem_nil, or_false] at hx
  rcases hx with rfl | rfl | rfl <;> simp [isA]
theorem node_ne (ph num : Int) : ((oldO ph num).node.toList == podO.node.toList) = false := by rw [sameS]; rfl
end Go.Proofs.Ythppjfhbdohmbaa
