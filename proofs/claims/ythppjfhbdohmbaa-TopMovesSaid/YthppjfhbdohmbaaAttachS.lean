/- strings.Contains at one byte, object.AttachName: contracts. -/
import Derived.Test.YthppjfhbdohmbaaRest
import Derived.Test.YthppjfhbdohmbaaShelf
namespace Go.Proofs.Ythppjfhbdohmbaa
open Go.RowKit
def hasSlash (s : ByteArray) : Bool := s.data.toList.contains 47
def attachName (a b : ByteArray) : ByteArray := ⟨(a.data.toList ++ 47 :: b.data.toList).toArray⟩
theorem index_has (l : List UInt8) (c : UInt8) : decide (0 ≤ Lib.indexByte l c) = l.contains c := by
  induction l with
  | nil => rfl
  | cons b l ih =>
    have hge := Lib.indexByte_ge l c
    rw [List.contains_cons, ← ih]
    rw [show Lib.indexByte (b :: l) c = if b == c then 0 else if Lib.indexByte l c == -1 then -1 else Lib.indexByte l c + 1 from rfl]
    by_cases hb : b = c
    · subst hb; simp
    · have h1 : (b == c) = false := by simpa using hb
      have h2 : (c == b) = false := by simpa using fun e => hb e.symm
      rw [h1, h2]
      by_cases h : Lib.indexByte l c = -1
      · simp [h]
      · have h3 : (Lib.indexByte l c == -1) = false := by simpa using h
        rw [h3]
        simp only [Bool.false_eq_true, if_false, Bool.false_or, decide_eq_decide]
        omega
theorem join_two (a b : List UInt8) : Lib.join [a, b] [47] = a ++ 47 :: b := by simp [Lib.join, List.intercalate]
theorem contains_slash (s : ByteArray) (w : World) :
    Calls Try.prog 42 #[.string s, .string ⟨#[47]⟩] w fun e w' => e = .returned (.bool (hasSlash s)) ∧ w = w' := by
  refine (Try.strings_Contains_one s 47 w).mono ?_
  rintro e w' ⟨rfl, rfl⟩
  refine ⟨?_, rfl⟩
  rw [hasSlash, index_has]
set_option maxRecDepth 100000 in
theorem attach_any (a b : ByteArray) (w : World) (ha : a.size ≤ 40) (hb : b.size ≤ 40) :
    Calls Try.prog 34 #[.string a, .string b] w fun e w' => e = .returned (.string (attachName a b)) ∧ Below w.heap.size w w' := by
  have HA := Lib.hid ha
  have HB := Lib.hid hb
  clear ha hb
  go_enter Try.func34, Try.ntmps34
  go_wp2_with fail
  refine (Try.strings_Join w.heap.size 0 2 [a, b] ⟨#[47]⟩ (w.alloc (.cells #[.string a, .string b] 9)) ?_ (by simp) (by simp) (by simp) ?_).mono ?_
  · intro j x hj
    rw [Nat.zero_add, World.cell?_alloc_new]
    match j, hj with
    | 0, h => simpa using h
    | 1, h => simpa using h
  · have := HA.out
    have := HB.out
    simp [Lib.join, List.intercalate]
    omega
  · rintro e w1 ⟨rfl, hb⟩
    have HQ : Hid (Below w.heap.size w w1) := ((Below.refl _ _).alloc (Nat.le_refl _) _).trans (hb.mono (by simp))
    clear hb
    go_wp2_with fail
    go_ret
    refine ⟨?_, HQ.out⟩
    simp [attachName, Lib.join, List.intercalate]
end Go.Proofs.Ythppjfhbdohmbaa
