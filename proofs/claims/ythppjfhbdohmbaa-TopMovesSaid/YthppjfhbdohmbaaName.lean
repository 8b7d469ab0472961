/- object.Name tells whether a text may be a name: the contract of the Go function, by a walk. -/
import Derived.Test.YthppjfhbdohmbaaChecked
import Derived.WalkKit
import Derived.ProofKit
import Derived.Deep.QuietTactic
import Derived.BigQuiet
namespace Go.Proofs.Ythppjfhbdohmbaa
open Go.RowKit

def nameC (c : UInt8) : Bool := (97 ≤ c && c ≤ 122) || (48 ≤ c && c ≤ 57) || c == 45 || c == 46 || c == 35 || c == 47
def nameL (l : List UInt8) : Bool := l.all nameC && !l.isEmpty && decide (l.length ≤ 40)

theorem all_take_succ (s : ByteArray) (k : Nat) (h : k < s.size) : (s.data.toList.take (k + 1)).all nameC = ((s.data.toList.take k).all nameC && nameC s[k]) := by
  rw [List.take_succ_eq_append_getElem (by simpa using h)]
  simp only [List.all_append, List.all_cons, List.all_nil, Bool.and_true]
  rfl

theorem nameC_of (c : UInt8) : nameC c = true ↔ (97 ≤ (c.toNat : Int) ∧ (c.toNat : Int) ≤ 122) ∨ (48 ≤ (c.toNat : Int) ∧ (c.toNat : Int) ≤ 57) ∨ (c.toNat : Int) = 45 ∨ (c.toNat : Int) = 46 ∨ (c.toNat : Int) = 35 ∨ (c.toNat : Int) = 47 := by
  simp only [nameC, Bool.or_eq_true, Bool.and_eq_true, decide_eq_true_eq, UInt8.le_iff_toNat_le, beq_iff_eq]
  rw [show (c = 45 ↔ (c.toNat : Int) = 45) by rw [← UInt8.toNat_inj]; simp; omega, show (c = 46 ↔ (c.toNat : Int) = 46) by rw [← UInt8.toNat_inj]; simp; omega, show (c = 35 ↔ (c.toNat : Int) = 35) by rw [← UInt8.toNat_inj]; simp; omega, show (c = 47 ↔ (c.toNat : Int) = 47) by rw [← UInt8.toNat_inj]; simp; omega]
  simp
  omega

theorem nameL_no (s : ByteArray) (k : Nat) (h : k < s.size) (hn : nameC s[k] = false) : nameL s.data.toList = false := by
  have hm : s[k] ∈ s.data.toList := by
    have : s.data.toList[k]'(by simpa using h) = s[k] := rfl
    rw [← this]; exact List.getElem_mem _
  have : s.data.toList.all nameC = false := by
    rw [List.all_eq_false]; exact ⟨_, hm, by simp [hn]⟩
  simp [nameL, this]
theorem nameL_yes (s : ByteArray) (h : (s.data.toList.take s.size).all nameC = true) : nameL s.data.toList = (!s.toList.isEmpty && decide ((s.size : Int) ≤ 40)) := by
  rw [List.take_of_length_le (by simp)] at h
  have e : s.toList = s.data.toList := ByteArray.toList_eq s
  have e2 : s.data.toList.length = s.size := by simp
  rw [nameL, h, e, Bool.true_and, e2]
  congr 1
  rw [Bool.eq_iff_iff]; simp; omega

set_option maxHeartbeats 1000000 in
theorem Name_any (s : ByteArray) (w : World) (hs : s.size ≤ maxLen) :
    Calls Try.prog 12 #[.string s] w fun e w' => e = .returned (.bool (nameL s.data.toList)) ∧ w = w' := by
  unfold maxLen at hs
  go_enter Try.func12, Try.ntmps12
  go_wp2
  go_loop [2, 3, 9] (fun r i j => ∃ k : Nat, k ≤ s.size ∧ j = .int .i64 k ∧ (s.data.toList.take k).all nameC = true) (fun _ _ j => s.size - (intOf j).toNat)
  case atStart => exact ⟨0, Nat.zero_le _, rfl, rfl⟩
  case round =>
    obtain ⟨k, hk, rfl, hall⟩ := hrel
    have hsn := all_take_succ s k
    have HS : Hid (∀ h : k < s.size, (s.data.toList.take (k + 1)).all nameC = ((s.data.toList.take k).all nameC && nameC s[k])) := hsn
    have HA : Hid ((s.data.toList.take k).all nameC = true) := hall
    clear hsn hall
    go_wp2
    all_goals first
      | (refine ⟨⟨k + 1, by omega, by go_num, ?_⟩, by simp [intOf]; omega⟩
         rw [HS.out ‹_›, HA.out, Bool.true_and, nameC_of]
         try simp only [bne_eq_false_iff_eq, Bool.not_eq_false', decide_eq_true_eq] at *
         omega)
      | (go_ret
         refine ⟨?_, rfl⟩
         have hlt : k < s.size := by assumption
         have hn : nameC s[k] = false := by
           rw [Bool.eq_false_iff, ne_eq, nameC_of]
           try simp only [bne_iff_ne, ne_eq, Bool.not_eq_true', decide_eq_false_iff_not] at *
           omega
         rw [nameL_no s k hlt hn]; rfl)
      | (go_ret
         refine ⟨?_, rfl⟩
         have hk' : k = s.size := by omega
         subst hk'
         rw [nameL_yes s HA.out]
         simp_all)
end Go.Proofs.Ythppjfhbdohmbaa
