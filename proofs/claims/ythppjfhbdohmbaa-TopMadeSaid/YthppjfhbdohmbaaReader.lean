/- The codec's reader: must, take, byte, number, text, size, end: the contracts of the Go functions where the bytes are as they should be, by walks. -/
import Derived.Test.YthppjfhbdohmbaaWriter
import Derived.Deep.DeepFit
namespace Go.Proofs.Ythppjfhbdohmbaa
open Go.RowKit

/-- From w to w' the block g alone has turned. -/
structure Turn (g : Nat) (w w' : World) : Prop where
  os : w'.os = w.os
  tape : w'.tape = w.tape
  output : w'.output = w.output
  size : w'.heap.size = w.heap.size
  block : ∀ k, k ≠ g → w'.heap[k]? = w.heap[k]?
namespace Turn
variable {g : Nat} {w w' w'' : World}
theorem refl (g : Nat) (w : World) : Turn g w w := ⟨rfl, rfl, rfl, rfl, fun _ _ => rfl⟩
theorem trans (h : Turn g w w') (k : Turn g w' w'') : Turn g w w'' := ⟨k.os.trans h.os, k.tape.trans h.tape, k.output.trans h.output, k.size.trans h.size, fun i hi => (k.block i hi).trans (h.block i hi)⟩
theorem setCell (g o : Nat) (w : World) (v : Value) : Turn g w (w.setCell ⟨g, o, none⟩ v) := ⟨rfl, rfl, rfl, by simp, fun _ hk => Below.heap_setCell _ _ _ _ hk⟩
theorem cell (h : Turn g w w') {b o : Nat} (hb : b ≠ g) : w'.cell? ⟨b, o, none⟩ = w.cell? ⟨b, o, none⟩ := by simp [World.cell?, h.block b hb]
theorem frozen (h : Turn g w w') {b o : Nat} (hb : b ≠ g) : w'.frozen? ⟨b, o, none⟩ = w.frozen? ⟨b, o, none⟩ := by simp [World.frozen?, h.block b hb]
theorem below (h : Turn g w w') {B : Nat} (hB : B ≤ g) : Below B w w' := ⟨h.os, h.tape, h.output, by rw [h.size]; exact Nat.le_refl _, fun k hk => h.block k (by omega)⟩
end Turn

/-- The reader in block g stands before the bytes bs, which lie in block b. -/
def Rd (w : World) (g b : Nat) (bs : List Int) : Prop :=
  ∃ o cap, w.heap[g]? = some (.cells #[.slice (some ⟨b, o, none⟩) bs.length cap] 87) ∧ bs.length ≤ cap ∧ b ≠ g ∧ ∀ (i : Nat) (c : Int), bs[i]? = some c → w.cell? ⟨b, o + i, none⟩ = some (.int .u8 c)

theorem must_any (w : World) : Calls Try.prog 57 #[.bool true] w fun e w' => e = .returned (.tuple #[]) ∧ w = w' := by
  go_enter Try.func57, Try.ntmps57
  go_wp2
  go_end0
  exact ⟨rfl, rfl⟩

def takePost (w : World) (g b n : Nat) (bs : List Int) (e : Ending) (w' : World) : Prop :=
  ∃ o cap, e = .returned (.slice (some ⟨b, o, none⟩) n cap) ∧ n ≤ cap ∧ (∀ (i : Nat) (c : Int), bs[i]? = some c → w'.cell? ⟨b, o + i, none⟩ = some (.int .u8 c)) ∧ Rd w' g b (bs.drop n) ∧ Turn g w w'

set_option maxRecDepth 100000 in
set_option maxHeartbeats 1000000 in
theorem take_any (g b n : Nat) (bs : List Int) (w : World) (h : Rd w g b bs) (hn : n ≤ bs.length) (_hl : bs.length ≤ 1000000) :
    Calls Try.prog 86 #[.pointer (some ⟨g, 0, none⟩), .int .i64 n] w (takePost w g b n bs) := by
  obtain ⟨o, cap, hh, hle, hne, hcells⟩ := h
  have hc : w.cell? ⟨g, 0, none⟩ = some (.slice (some ⟨b, o, none⟩) bs.length cap) := cell_of_row w g 0 _ _ _ hh
  have hf : w.frozen? ⟨g, 0, none⟩ = false := frozen_of_row w g 0 _ _ hh
  have HH := Lib.hid hh
  have HC := Lib.hid hcells
  clear hh hcells
  have hnl : Hid (bs.length - n = (bs.drop n).length) := by unfold Hid; simp
  generalize hL : bs.length = L at *
  have HL := Lib.hid hL
  clear hL
  have hnc : n ≤ cap := by omega
  go_enter Try.func86, Try.ntmps86
  go_wp2_with (go_at_call 57; refine (must_any _).mono ?_; rintro e w' ⟨rfl, rfl⟩)
  all_goals go_ret
  · have hT := Turn.setCell g 0 w (.slice (some ⟨b, o, none⟩) (L - n) 0)
    refine ⟨o, n, rfl, Nat.le_refl _, fun i c hi => by rw [hT.cell hne]; exact HC.out i c hi, ⟨o, 0, ?_, ?_, hne, ?_⟩, hT⟩
    · rw [heap_setCell_same w g 0 _ _ _ HH.out, ← hnl.out]; rfl
    · rw [← hnl.out]; omega
    · intro i c hi
      have h1 : i < (bs.drop n).length := (List.getElem?_eq_some_iff.1 hi).1
      rw [← hnl.out] at h1
      omega
  · have hT := Turn.setCell g 0 w (.slice (some ⟨b, o + n, none⟩) (L - n) (cap - n))
    refine ⟨o, cap, rfl, hnc, fun i c hi => by rw [hT.cell hne]; exact HC.out i c hi, ⟨o + n, cap - n, ?_, ?_, hne, ?_⟩, hT⟩
    · rw [heap_setCell_same w g 0 _ _ _ HH.out, ← hnl.out]; rfl
    · rw [← hnl.out]; omega
    · intro i c hi
      rw [hT.cell hne, Nat.add_assoc]
      rw [List.getElem?_drop] at hi
      exact HC.out _ c hi

/-- Behind a call of the reader: the value v, the reader before rest. -/
def Took (w : World) (g b : Nat) (v : Value) (rest : List Int) (e : Ending) (w' : World) : Prop := e = .returned v ∧ Rd w' g b rest ∧ Turn g w w'

set_option maxRecDepth 100000 in
set_option maxHeartbeats 1000000 in
theorem rbyte_any (g b : Nat) (c : Int) (bs : List Int) (w : World) (h : Rd w g b (c :: bs)) (hl : (c :: bs).length ≤ 1000000) :
    Calls Try.prog 56 #[.pointer (some ⟨g, 0, none⟩)] w (Took w g b (.int .u8 c) bs) := by
  have HD := Lib.hid h
  have HL := Lib.hid hl
  clear h hl
  go_enter Try.func56, Try.ntmps56
  go_wp2_with fail
  refine (take_any g b 1 (c :: bs) w HD.out (by simp) HL.out).mono ?_
  rintro e w1 ⟨o, cap, rfl, hcap, hcells, hrd, hT⟩
  have h0 : w1.cell? ⟨b, o, none⟩ = some (.int .u8 c) := hcells 0 c rfl
  have HT := Lib.hid hT
  have HR := Lib.hid hrd
  clear hcells hT hrd
  go_wp2_with fail
  go_ret
  exact ⟨rfl, HR.out, HT.out⟩

theorem rend_any (g b : Nat) (w : World) (h : Rd w g b []) :
    Calls Try.prog 38 #[.pointer (some ⟨g, 0, none⟩)] w fun e w' => e = .returned (.tuple #[]) ∧ w = w' := by
  obtain ⟨o, cap, hh, hle, hne, hcells⟩ := h
  have hc : w.cell? ⟨g, 0, none⟩ = some (.slice (some ⟨b, o, none⟩) 0 cap) := cell_of_row w g 0 _ _ _ hh
  clear hh hcells
  go_enter Try.func38, Try.ntmps38
  go_wp2_with (go_at_call 57; refine (must_any _).mono ?_; rintro e w' ⟨rfl, rfl⟩)
  go_end0
  exact ⟨rfl, rfl⟩
end Go.Proofs.Ythppjfhbdohmbaa
