/- The codec's writer: byte, number, text, flags, object: the contracts of the Go functions, by walks. -/
import Derived.Test.YthppjfhbdohmbaaFrame
import Derived.Test.YthppjfhbdohmbaaStructLaws
import Derived.Test.YthppjfhbdohmbaaPi
import Derived.OwnWalk
import Derived.Lib.Hide
import Derived.RangeFuncBox
namespace Go.Proofs.Ythppjfhbdohmbaa
open Go.RowKit

def u8s (bs : List Int) : List Value := bs.map fun b => .int .u8 b
/-- The writer in block g holds the slice v, which owns the bytes bs. -/
structure Wrt (w : World) (g : Nat) (v : Value) (bs : List Int) : Prop where
  cell : w.heap[g]? = some (.cells #[v] 71)
  own : w.ownsRow (g + 1) 5 1 v bs.length (u8s bs)
/-- What the writer in block g may turn: its own block, and rows of bytes behind it. -/
def Fw (g : Nat) (w : World) (k : Nat) : Prop := k = g ∨ (g < k ∧ ∃ c fr, w.heap[k]? = some (.cells c 5 fr))
/-- Behind a call of the writer. -/
def Wrote (w : World) (g : Nat) (bs : List Int) (e : Ending) (w' : World) : Prop :=
  e = .returned (.tuple #[]) ∧ ∃ v', Wrt w' g v' bs ∧ Upd (Fw g w) w w' (Fw g w')

theorem fw_foot {g : Nat} {w w' : World} (h : ∀ k, k < w.heap.size → ¬ Fw g w k → w'.heap[k]? = w.heap[k]?) : ∀ k, Fw g w' k → Fw g w k ∨ w.heap.size ≤ k := by
  intro k hk
  rcases Nat.lt_or_ge k w.heap.size with hlt | hge
  · by_cases hf : Fw g w k
    · exact .inl hf
    · rcases hk with rfl | ⟨hg, c, fr, he⟩
      · exact .inl (.inl rfl)
      · exact .inl (.inr ⟨hg, c, fr, by rw [← h k hlt hf]; exact he⟩)
  · exact .inr hge
/-- A block of another kind stands. -/
theorem Upd.stays {g : Nat} {w w' : World} (h : Upd (Fw g w) w w' (Fw g w')) {k : Nat} {c : Array Value} {t : TypeId} {fr : Nat × Nat} (hb : w.heap[k]? = some (.cells c t fr)) (hk : k ≠ g) (ht : t ≠ 5) : w'.heap[k]? = some (.cells c t fr) := by
  refine (h.block k (Array.getElem?_eq_some_iff.1 hb).1 ?_).trans hb
  rintro (e | ⟨_, c', fr', e⟩)
  · exact hk e
  · rw [hb] at e; injection e with e; injection e with _ e2; exact ht e2

theorem own_ge {w : World} {base : Nat} {e : TypeId} {n : Nat} {v : Value} {xs : List Value} (h : w.ownsRow base e 1 v n xs) {k : Nat} (hk : v.ownBlock = some k) : base ≤ k ∧ k < w.heap.size := by
  rcases h.2 with ⟨rfl, _⟩ | ⟨g, cap, cur, rfl, hb, hh, _⟩
  · simp [Value.ownBlock] at hk
  · have : g = k := by simpa [Value.ownBlock] using hk
    subst this
    exact ⟨hb, (Array.getElem?_eq_some_iff.1 hh).1⟩

/-- Behind an append: the writer's own cell then holds the new slice. -/
theorem wrote_of_append {w w0 w1 : World} {g : Nat} {v : Value} {bs cs : List Int} {v' : Value} {n : Nat} (hw0 : Upd (Fw g w) w w0 (Fw g w0)) (hc : w0.heap[g]? = some (.cells #[v] 71)) (hown : w0.ownsRow (g + 1) 5 1 v n (u8s bs))
    (hgrow : w0.grownBy w1 v.ownBlock) (hown1 : w1.ownsRow (g + 1) 5 1 v' (bs.length + cs.length) (u8s bs ++ u8s cs)) :
    Wrote w g (bs ++ cs) (.returned (.tuple #[])) (w1.setCell ⟨g, 0, none⟩ v') := by
  have hg : g < w0.heap.size := (Array.getElem?_eq_some_iff.1 hc).1
  have hne : v.ownBlock ≠ some g := fun e => by have := own_ge hown e; omega
  have hb1 : w1.heap[g]? = some (.cells #[v] 71) := (hgrow.block g hg (fun e => hne e.symm)).trans hc
  have hF : ∀ k, v.ownBlock = some k → Fw g w0 k := by
    intro k hk
    have h1 := own_ge hown hk
    rcases hown.2 with ⟨rfl, _⟩ | ⟨g', cap, cur, rfl, hb, hh, _⟩
    · simp [Value.ownBlock] at hk
    · have : g' = k := by simpa [Value.ownBlock] using hk
      subst this
      exact .inr ⟨by omega, _, _, hh⟩
  have h2 := (Upd.grown (F := Fw g w0) hgrow hF).trans (Upd.setCell (Fw g w0) w1 ⟨g, 0, none⟩ v' (Or.inl rfl))
  have h3 : Upd (Fw g w0) w0 (w1.setCell ⟨g, 0, none⟩ v') (Fw g (w1.setCell ⟨g, 0, none⟩ v')) := ⟨h2.os, h2.tape, h2.output, h2.size, h2.block, fw_foot h2.block⟩
  refine ⟨rfl, v', ⟨?_, ?_⟩, hw0.trans h3⟩
  · rw [heap_setCell_same w1 g 0 #[v] _ _ hb1]; rfl
  · have := ownsRow_setCell_below hown1 (a := ⟨g, 0, none⟩) (by simp) v'
    simpa [u8s] using this

theorem fw_alloc (g : Nat) (w : World) (o : Go.Obj) : Upd (Fw g w) w (w.alloc o) (Fw g (w.alloc o)) :=
  have h := Upd.alloc (Fw g w) w o
  ⟨h.os, h.tape, h.output, h.size, h.block, fw_foot h.block⟩

theorem kept_of_append {w w1 : World} {g : Nat} {v : Value} {n : Nat} {xs : List Value} (hc : w.heap[g]? = some (.cells #[v] 71)) (hown : w.ownsRow (g + 1) 5 1 v n xs)
    (hgrow : w.grownBy w1 v.ownBlock) : w1.cell? ⟨g, 0, none⟩ = some v ∧ w1.frozen? ⟨g, 0, none⟩ = false := by
  have hg : g < w.heap.size := (Array.getElem?_eq_some_iff.1 hc).1
  have hne : v.ownBlock ≠ some g := fun e => by have := own_ge hown e; omega
  have hb1 : w1.heap[g]? = some (.cells #[v] 71) := (hgrow.block g hg (fun e => hne e.symm)).trans hc
  exact ⟨cell_of_row w1 g 0 _ _ _ hb1, frozen_of_row w1 g 0 _ _ hb1⟩

theorem info5 : (Try.prog.info? 5).map (fun i => (i.zero, i.size, i.bytes)) = some (some (.int .u8 0), 1, 1) := by kernel_rfl

set_option maxRecDepth 100000 in
set_option maxHeartbeats 1000000 in
theorem byte_any (g : Nat) (v : Value) (bs : List Int) (c : Int) (w : World) (h : Wrt w g v bs) (hn : bs.length ≤ 1000000) :
    Calls Try.prog 58 #[.pointer (some ⟨g, 0, none⟩), .int .u8 c] w (Wrote w g (bs ++ [c])) := by
  obtain ⟨hcell, hown⟩ := h
  have hc0 : w.cell? ⟨g, 0, none⟩ = some v := cell_of_row w g 0 _ _ _ hcell
  have hg : g < w.heap.size := (Array.getElem?_eq_some_iff.1 hcell).1
  obtain ⟨i0, hi, hz0, hz1, hz2⟩ := info_parts info5
  have HC := Lib.hid hcell
  clear hcell
  go_enter Try.func58, Try.ntmps58
  go_wp2_with (at_builtin; refine wpList_append_own_at _ rfl _ _ 28 rfl (g + 1) 5 i0 (.int .u8 0) 1 1 Try.underlying28 hi hz0 hz1 hz2 rfl (by decide) _ _ _ rfl (hown.alloc _) ⟨w.heap.size, 0, none⟩ 1 1 [.int .u8 c] rfl rfl (cell_one_new _ _ _) (by simp [Value.oneCell']) (by unfold maxLen; omega) (by omega) (by simp; omega) ?_; intro v' w1 hown1 hgrow _ hloc; obtain ⟨g', cap', rfl⟩ := ownsRow_succ hown1; have HC2 : (w.alloc (.cells #[.int .u8 c] 5)).heap[g]? = some _ := (Below.heap_alloc _ _ _ hg).trans HC.out; obtain ⟨hc1, hf1⟩ := kept_of_append HC2 (hown.alloc _) hgrow; have hfin := Lib.hid (wrote_of_append (cs := [c]) (fw_alloc g w _) HC2 (hown.alloc _) hgrow hown1); clear hown hown1 hgrow hloc HC2)
  go_end0
  exact hfin.out

/-- A number's bytes: seven bits each, the lowest first. -/
def numE (n : Nat) : List Int := if n ≤ 127 then [(n : Int)] else ((n % 128 + 128 : Nat) : Int) :: numE (n / 128)
termination_by n
decreasing_by omega

theorem numE_small {n : Nat} (h : n ≤ 127) : numE n = [(n : Int)] := by unfold numE; rw [if_pos h]
theorem numE_great {n : Nat} (h : ¬ n ≤ 127) : numE n = ((n % 128 + 128 : Nat) : Int) :: numE (n / 128) := by rw [numE, if_neg h]

theorem or128 (x : Nat) (h : x < 256) : bits .or .u8 (x : Int) 128 = ((x % 128 + 128 : Nat) : Int) := by
  have : ∀ y : Fin 256, bits .or .u8 ((y.val : Nat) : Int) 128 = ((y.val % 128 + 128 : Nat) : Int) := by decide +kernel
  exact this ⟨x, h⟩
theorem byte_or (m : Nat) : bits .or .u8 ((m : Int) % 256) 128 = ((m % 128 + 128 : Nat) : Int) := by
  have := or128 (m % 256) (by omega)
  rw [show ((m : Int) % 256) = ((m % 256 : Nat) : Int) by omega, this]
  congr 2
  omega

set_option maxRecDepth 100000 in
set_option maxHeartbeats 1000000 in
theorem number_any (g : Nat) (v : Value) (bs : List Int) (n : Nat) (w : World) (h : Wrt w g v bs) (hn : n < 18446744073709551616) (hl : bs.length + (numE n).length ≤ 1000000) :
    Calls Try.prog 60 #[.pointer (some ⟨g, 0, none⟩), .int .u64 n] w (Wrote w g (bs ++ numE n)) := by
  have HW := Lib.hid h
  have HL := Lib.hid hl
  clear h hl
  go_enter Try.func60, Try.ntmps60
  go_wp2_with fail
  go_loopw [1] (fun s wr => ∃ (m : Nat) (v1 : Value) (b1 : List Int), s = .int .u64 m ∧ m ≤ n ∧ Hid (Wrt wr g v1 b1) ∧ Hid (Upd (Fw g w) w wr (Fw g wr)) ∧ Hid (b1 ++ numE m = bs ++ numE n)) (fun s _ => (intOf s).toNat)
  case atStart => exact ⟨n, v, bs, rfl, Nat.le_refl _, HW, Upd.refl _ _, rfl⟩
  case round =>
    obtain ⟨m, v1, b1, rfl, hm, HW1, HU1, HE1⟩ := hrel
    by_cases hlt : m ≤ 127
    · have hb : ¬ 127 < m := by omega
      have HL1 : Hid (b1.length ≤ 1000000) := by
        have h1 := congrArg List.length HE1.out
        have h2 := HL.out
        simp only [List.length_append] at h1
        unfold Hid; omega
      go_wp2_with fail
      refine (byte_any g v1 b1 m wr HW1.out HL1.out).mono ?_
      rintro e w1 ⟨rfl, v2, hw2, hu2⟩
      have HF : Hid (Wrote w g (bs ++ numE n) (.returned (.tuple #[])) w1) := ⟨rfl, v2, by rw [← HE1.out, numE_small hlt]; exact hw2, HU1.out.trans hu2⟩
      clear hw2 hu2
      go_wp2_with fail
      go_end0
      exact HF.out
    · have HL1 : Hid (b1.length ≤ 1000000) := by
        have h1 := congrArg List.length HE1.out
        have h2 := HL.out
        simp only [List.length_append] at h1
        unfold Hid; omega
      go_wp2_with fail
      rw [byte_or]
      refine (byte_any g v1 b1 _ wr HW1.out HL1.out).mono ?_
      rintro e w1 ⟨rfl, v2, hw2, hu2⟩
      have HW2 := Lib.hid hw2
      have HU2 := Lib.hid hu2
      clear hw2 hu2
      go_wp2_with fail
      refine ⟨⟨m / 128, v2, b1 ++ [((m % 128 + 128 : Nat) : Int)], congrArg (Value.int .u64) (by omega), by omega, HW2, HU1.out.trans HU2.out, ?_⟩, by simp [intOf]; omega⟩
      unfold Hid
      rw [← HE1.out, numE_great hlt]; simp
end Go.Proofs.Ythppjfhbdohmbaa
