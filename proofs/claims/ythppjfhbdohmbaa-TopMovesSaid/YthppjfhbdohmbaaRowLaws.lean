/- Whole rows in memory: what a load or a store of a struct does, as rules for the walk. -/
import Derived.WalkKit
import Derived.ProofKit
import Derived.Laws.Rows
import Derived.Laws.Tables
import Derived.Deep.MidRow
namespace Go
open Go.RowKit

/-- The n cells from offset o on of block g. -/
def arrRow (c : Array Value) (o n : Nat) : Option (Array Value) := if o + n ≤ c.size then some (c.extract o (o + n)) else none
def World.rowAt? (w : World) (g o n : Nat) : Option (Array Value) := match w.heap[g]? with | some (.cells c _ _) => arrRow c o n | _ => none

theorem heap?_alloc_at (w : World) (b : Obj) (n : Nat) (hn : n = w.heap.size) : (w.alloc b).heap[n]? = some b := by subst hn; exact heap_alloc_new w b
theorem heap?_alloc_past (w : World) (b : Obj) (n : Nat) (hn : n < w.heap.size) : (w.alloc b).heap[n]? = w.heap[n]? := by
  show (w.heap.push b)[n]? = _
  rw [Array.getElem?_push, if_neg (by omega)]

section
variable {w : World}
theorem World.rowAt?_of (g o n : Nat) {c : Array Value} {t : TypeId} {fr : Nat × Nat} (h : w.heap[g]? = some (.cells c t fr)) : w.rowAt? g o n = arrRow c o n := by
  simp [World.rowAt?, h]
@[go_sem] theorem World.rowAt?_alloc_at (c : Array Value) (t : TypeId) (fr : Nat × Nat) (g o n : Nat) (hn : g = w.heap.size) : (w.alloc (.cells c t fr)).rowAt? g o n = arrRow c o n := by
  simp [World.rowAt?, heap?_alloc_at w _ g hn]
@[go_sem] theorem World.rowAt?_alloc_past (b : Obj) (g o n : Nat) (hn : g < w.heap.size) : (w.alloc b).rowAt? g o n = w.rowAt? g o n := by
  simp [World.rowAt?, heap?_alloc_past w b g hn]
@[go_sem] theorem World.rowAt?_drew (g o n : Nat) : w.drew.rowAt? g o n = w.rowAt? g o n := rfl
end

/-- What the walk cannot do by these rules it does as before. -/
def loadSlow (P : Program) (ty : TypeId) (g o : Nat) (w : World) : Result Value := (loadVar ty ⟨g, o, none⟩).run P w

theorem extract_cells (c : Array Value) (o n : Nat) : ∀ j v, (c.extract o (o + n)).toList[j]? = some v → c[o + j]? = some v := by
  intro j v hv
  rw [Array.getElem?_toList, Array.getElem?_extract] at hv
  split at hv
  · simpa using hv
  · cases hv

theorem run_loadVar_row' {P : Program} {ty : TypeId} {n : Nat} {d : TypeDesc} (hu : P.underlying ty = some d) (hd : d.isRow = true) (hi : (P.info? ty).map (·.size) = some n) (g o : Nat) (w : World) :
    (loadVar ty ⟨g, o, none⟩).run P w = match w.rowAt? g o n with | some cs => .ok (.agg cs) w | none => loadSlow P ty g o w := by
  cases hr : w.rowAt? g o n with
  | none => rfl
  | some cs =>
    unfold World.rowAt? at hr
    split at hr
    case h_1 c t fr hb =>
      unfold arrRow at hr
      split at hr
      · rename_i hle
        simp only [Option.some.injEq] at hr
        subst hr
        have hl : (c.extract o (o + n)).size = n := by simp; omega
        have := run_loadVar_mid (P := P) w g o ty (c.extract o (o + n)).toList d (fun j v hv => by
          rw [cell_of_row w g (o + j) c t fr hb]
          exact extract_cells c o n j v hv) hu hd (by rw [hi]; simp; omega)
        rw [Array.toArray_toList] at this
        exact this
      · cases hr
    case h_2 => cases hr

/-! ### The store -/
def World.rowFree (w : World) (g o n : Nat) : Bool := match w.heap[g]? with | some (.cells c _ fr) => decide (o + n ≤ c.size) && fr == (0, 0) | _ => false
/-- cs laid over c from o on. -/
def splice (c : Array Value) (o : Nat) (cs : Array Value) : Array Value := c.extract 0 o ++ cs ++ c.extract (o + cs.size) c.size
def World.putRow (w : World) (g o : Nat) (cs : Array Value) : World :=
  { w with heap := w.heap.modify g fun | .cells c e fr => .cells (splice c o cs) e fr | b => b }

section
variable {w : World}
theorem World.rowFree_of (g o n : Nat) {c : Array Value} {t : TypeId} (h : w.heap[g]? = some (.cells c t (0, 0))) : w.rowFree g o n = decide (o + n ≤ c.size) := by
  simp [World.rowFree, h]
@[go_sem] theorem World.rowFree_alloc_at (c : Array Value) (t : TypeId) (g o n : Nat) (hn : g = w.heap.size) : (w.alloc (.cells c t)).rowFree g o n = decide (o + n ≤ c.size) := by
  simp [World.rowFree, heap?_alloc_at w _ g hn]
@[go_sem] theorem World.rowFree_alloc_past (b : Obj) (g o n : Nat) (hn : g < w.heap.size) : (w.alloc b).rowFree g o n = w.rowFree g o n := by
  simp [World.rowFree, heap?_alloc_past w b g hn]
@[go_sem] theorem World.rowFree_drew (g o n : Nat) : w.drew.rowFree g o n = w.rowFree g o n := rfl
@[go_sem] theorem World.putRow_drew (g o : Nat) (cs : Array Value) : w.drew.putRow g o cs = (w.putRow g o cs).drew := rfl
@[go_sem] theorem World.putRow_alloc_at (c : Array Value) (t : TypeId) (g o : Nat) (cs : Array Value) (hn : g = w.heap.size) : (w.alloc (.cells c t)).putRow g o cs = w.alloc (.cells (splice c o cs) t) := by
  subst hn
  unfold World.putRow World.alloc
  congr 1
  apply Array.ext_getElem?
  intro k
  simp only [Array.getElem?_modify, Array.getElem?_push]
  by_cases hk : k = w.heap.size
  · subst hk; simp
  · simp [hk, Ne.symm hk]
@[go_sem] theorem World.putRow_alloc_past (b : Obj) (g o : Nat) (cs : Array Value) (hn : g < w.heap.size) : (w.alloc b).putRow g o cs = (w.putRow g o cs).alloc b := by
  unfold World.putRow World.alloc
  congr 1
  apply Array.ext_getElem?
  intro k
  simp only [Array.getElem?_modify, Array.getElem?_push, Array.size_modify]
  by_cases hk : k = w.heap.size
  · subst hk; simp [Nat.ne_of_lt hn]
  · simp [hk]
@[simp] theorem World.size_putRow (g o : Nat) (cs : Array Value) : (w.putRow g o cs).heap.size = w.heap.size := by simp [World.putRow]
theorem World.heap_putRow_same (g o : Nat) (cs : Array Value) {c : Array Value} {t : TypeId} {fr : Nat × Nat} (h : w.heap[g]? = some (.cells c t fr)) : (w.putRow g o cs).heap[g]? = some (.cells (splice c o cs) t fr) := by
  simp [World.putRow, Array.getElem?_modify, h]
theorem World.heap_putRow_other (g o : Nat) (cs : Array Value) (k : Nat) (hk : k ≠ g) : (w.putRow g o cs).heap[k]? = w.heap[k]? := by
  simp [World.putRow, Array.getElem?_modify, Ne.symm hk]
end

theorem splice_size (c : Array Value) (o : Nat) (cs : Array Value) (h : o + cs.size ≤ c.size) : (splice c o cs).size = c.size := by
  simp [splice]; omega

theorem splice_get (c : Array Value) (o : Nat) (cs : Array Value) (h : o + cs.size ≤ c.size) (k : Nat) : (splice c o cs)[k]? = if o ≤ k ∧ k < o + cs.size then cs[k - o]? else c[k]? := by
  unfold splice
  have h1 : (c.extract 0 o).size = o := by simp; omega
  by_cases hk : k < o
  · rw [if_neg (by omega), Array.getElem?_append_left (by simp; omega), Array.getElem?_append_left (by omega), Array.getElem?_extract]
    simp; omega
  · by_cases hk2 : k < o + cs.size
    · rw [if_pos ⟨by omega, hk2⟩, Array.getElem?_append_left (by simp; omega), Array.getElem?_append_right (by omega), h1]
    · rw [if_neg (by omega), Array.getElem?_append_right (by simp; omega), Array.getElem?_extract]
      have : (c.extract 0 o ++ cs).size = o + cs.size := by simp; omega
      rw [this]
      split
      · congr 1; omega
      · rw [Array.getElem?_eq_none]; omega

theorem arrRow_all (c : Array Value) (n : Nat) (h : c.size = n) : arrRow c 0 n = some c := by
  subst h
  simp [arrRow]

theorem splice_all (c cs : Array Value) (h : c.size = cs.size) : splice c 0 cs = cs := by
  apply Array.ext_getElem?
  intro k
  rw [splice_get _ _ _ (by omega)]
  by_cases hk : k < cs.size
  · rw [if_pos (by omega)]; rfl
  · rw [if_neg (by omega), Array.getElem?_eq_none (by omega), Array.getElem?_eq_none (by omega)]

theorem splice_cons (c : Array Value) (o : Nat) (v : Value) (r : List Value) (h : o + (r.length + 1) ≤ c.size) :
    splice (c.setIfInBounds o v) (o + 1) r.toArray = splice c o (v :: r).toArray := by
  apply Array.ext_getElem?
  intro k
  rw [splice_get _ _ _ (by simp; omega), splice_get _ _ _ (by simp; omega)]
  simp only [List.size_toArray, List.length_cons, List.getElem?_toArray, Array.getElem?_setIfInBounds]
  by_cases h1 : k = o
  · subst h1
    rw [if_neg (by omega), if_pos (by omega), if_pos (by omega)]; simp
  · by_cases h2 : o + 1 ≤ k ∧ k < o + 1 + r.length
    · rw [if_pos h2, if_pos (by omega), show k - o = (k - (o + 1)) + 1 by omega, List.getElem?_cons_succ]
    · rw [if_neg h2, if_neg (by omega : ¬ (o ≤ k ∧ k < o + (r.length + 1))), if_neg (Ne.symm h1)]

theorem world_heap_ext {w w' : World} (h1 : w'.tape = w.tape) (h2 : w'.drawn = w.drawn) (h3 : w'.os = w.os) (h4 : w'.output = w.output) (h : ∀ k : Nat, w'.heap[k]? = w.heap[k]?) : w' = w := by
  cases w; cases w'; simp_all; exact Array.ext_getElem? h

theorem setCells_putRow (g : Nat) (t : TypeId) : ∀ (vs : List Value) (o : Nat) (c : Array Value) (w : World), w.heap[g]? = some (.cells c t (0, 0)) → o + vs.length ≤ c.size → w.setCells g o vs = w.putRow g o vs.toArray
  | [], o, c, w, hb, hle => by
    rw [World.setCells]
    refine (world_heap_ext (w := w) (w' := w.putRow g o #[]) rfl rfl rfl rfl fun k => ?_).symm
    by_cases hk : k = g
    · subst hk
      rw [World.heap_putRow_same _ _ _ hb, hb]
      congr 2
      apply Array.ext_getElem?
      intro j
      rw [splice_get _ _ _ (by simpa using hle)]
      simp only [List.size_toArray, List.length_nil]
      rw [if_neg (by omega)]
    · exact World.heap_putRow_other _ _ _ _ hk
  | v :: r, o, c, w, hb, hle => by
    have hb' : (w.setCell ⟨g, o, none⟩ v).heap[g]? = some (.cells (c.setIfInBounds o v) t (0, 0)) := by simp [World.setCell, Array.getElem?_modify, hb]
    rw [World.setCells, setCells_putRow g t r (o + 1) _ _ hb' (by simp at hle ⊢; omega)]
    refine world_heap_ext rfl rfl rfl rfl fun k => ?_
    by_cases hk : k = g
    · subst hk
      rw [World.heap_putRow_same _ _ _ hb', World.heap_putRow_same _ _ _ hb, splice_cons c o v r (by simpa using hle)]
    · rw [World.heap_putRow_other _ _ _ _ hk, World.heap_putRow_other _ _ _ _ hk]
      exact Below.heap_setCell _ _ _ _ hk

theorem run_storeVar_row2 {P : Program} {ty : TypeId} {n : Nat} (hi : (P.info? ty).map (·.size) = some n) (g o : Nat) (cs : Array Value) (w : World) (h1 : w.rowFree g o n = true) (h2 : cs.all (·.oneCell') = true) (h3 : cs.size = n) :
    (storeVar ty ⟨g, o, none⟩ (.agg cs)).run P w = .ok () (w.putRow g o cs) := by
  unfold World.rowFree at h1
  split at h1
  case h_2 => cases h1
  case h_1 c t fr hb =>
    simp only [Bool.and_eq_true, decide_eq_true_eq, beq_iff_eq] at h1
    obtain ⟨hle, rfl⟩ := h1
    have ht : w.there g o cs.size := fun j hj => ⟨by rw [cell_of_row w g (o + j) c t (0, 0) hb, Array.getElem?_eq_getElem (by omega)]; rfl, by simp [World.frozen?, hb]⟩
    rw [run_storeVar_mid (P := P) w g o ty cs ht (by rw [hi, h3]) h2, setCells_putRow g t cs.toList o c w hb (by simp; omega)]

def storeSlow (P : Program) (ty : TypeId) (g o : Nat) (cs : Array Value) (w : World) : Result Unit := (storeVar ty ⟨g, o, none⟩ (.agg cs)).run P w

/-- Each is the value of one cell. -/
def cellsOk (cs : Array Value) : Bool := cs.all (·.oneCell')

theorem run_storeVar_row' {P : Program} {ty : TypeId} {n : Nat} (hi : (P.info? ty).map (·.size) = some n) (g o : Nat) (cs : Array Value) (w : World) :
    (storeVar ty ⟨g, o, none⟩ (.agg cs)).run P w = if w.rowFree g o n = true ∧ cellsOk cs = true ∧ cs.size = n then .ok () (w.putRow g o cs) else storeSlow P ty g o cs w := by
  by_cases h : w.rowFree g o n = true ∧ cellsOk cs = true ∧ cs.size = n
  · rw [if_pos h]; exact run_storeVar_row2 hi g o cs w h.1 h.2.1 h.2.2
  · rw [if_neg h]; rfl

/-- A load, a store of a row, kept whole till its operands stand. -/
def loadRow (ty : TypeId) (x : Value) : Sem Value := Instr.loadAt ty x
def storeRow (ty : TypeId) (x y : Value) : Sem Unit := Instr.storeAt ty x y

theorem loadRow_at {P : Program} {ty : TypeId} {n : Nat} {d : TypeDesc} (hu : P.underlying ty = some d) (hd : d.isRow = true) (hi : (P.info? ty).map (·.size) = some n) (g o : Nat) (w : World) :
    (loadRow ty (.pointer (some ⟨g, o, none⟩))).run P w = match w.rowAt? g o n with | some cs => .ok (.agg cs) w | none => loadSlow P ty g o w := by
  rw [← run_loadVar_row' hu hd hi]
  simp only [loadRow, Instr.loadAt, Instr.sureAddr, Sem.run_bind, Sem.run_pure, Result.andThen_ok]

theorem storeRow_at {P : Program} {ty : TypeId} {n : Nat} (hi : (P.info? ty).map (·.size) = some n) (g o : Nat) (cs : Array Value) (w : World) :
    (storeRow ty (.pointer (some ⟨g, o, none⟩)) (.agg cs)).run P w = if w.rowFree g o n = true ∧ cellsOk cs = true ∧ cs.size = n then .ok () (w.putRow g o cs) else storeSlow P ty g o cs w := by
  rw [← run_storeVar_row' hi]
  simp only [storeRow, Instr.storeAt, Instr.sureAddr, Sem.run_bind, Sem.run_pure, Result.andThen_ok]
end Go
