/- object's small helpers (names, one, Right's size, rest, AttachName): the contracts of the Go functions, by walks. -/
import Derived.Test.YthppjfhbdohmbaaName
import Derived.Deep.RegionHeld3
import Derived.Deep.DeepFit
import Derived.Lib.Hide
namespace Go.Proofs.Ythppjfhbdohmbaa
open Go.RowKit

def emptyB (s : ByteArray) : Bool := s.toList.isEmpty
def nameOr (s : ByteArray) : Bool := emptyB s || nameL s.data.toList

theorem toList_eq' (s : ByteArray) : s.toList = s.data.toList := ByteArray.toList_eq s

set_option maxHeartbeats 1000000 in
theorem names_any (b c : Nat) (ss : List ByteArray) (w : World) (hn : ss.length ≤ 100) (hs : ∀ s ∈ ss, s.size ≤ maxLen)
    (hc : ∀ i (h : i < ss.length), w.cell? ⟨b, i, none⟩ = some (.string ss[i])) :
    Calls Try.prog 41 #[.slice (some ⟨b, 0, none⟩) ss.length c] w fun e w' => e = .returned (.bool (ss.all nameOr)) ∧ w = w' := by
  have HC := Lib.hid hc
  have HS := Lib.hid hs
  clear hc hs
  go_enter Try.func41, Try.ntmps41
  go_wp2
  go_loop [4, 7] (fun r j => ∃ k : Nat, k ≤ ss.length ∧ j = .int .i64 k ∧ Hid ((ss.take k).all nameOr = true)) (fun _ j => ss.length - (intOf j).toNat)
  case atStart => exact ⟨0, Nat.zero_le _, rfl, rfl⟩
  case round =>
    obtain ⟨k, hk, rfl, HA⟩ := hrel
    by_cases hlt : k < ss.length
    · have hcell := HC.out k hlt
      have hsz := HS.out ss[k] (List.getElem_mem _)
      have hstep : Hid ((ss.take (k + 1)).all nameOr = nameOr ss[k]) := by
        unfold Hid at HA ⊢
        rw [List.take_succ_eq_append_getElem hlt, List.all_append, HA]; simp
      have hno : Hid (nameOr ss[k] = false → ss.all nameOr = false) := by
        intro h
        rw [List.all_eq_false]; exact ⟨_, List.getElem_mem hlt, by simp [h]⟩
      generalize ss[k] = s at hcell hsz hstep hno
      have HZ := Lib.hid hsz
      clear hsz
      by_cases he : emptyB s = true
      · have h1 : s.toList.isEmpty = true := he
        have hem : Hid (nameOr s = true) := by unfold Hid nameOr; rw [he]; rfl
        clear he
        go_wp2_with fail
        refine ⟨⟨k + 1, by omega, by go_num, hstep.out.trans hem.out⟩, by simp [intOf]; omega⟩
      · have h1 : s.toList.isEmpty = false := Bool.eq_false_iff.2 he
        have hem : Hid (nameOr s = nameL s.data.toList) := by unfold Hid nameOr; rw [Bool.eq_false_iff.2 he]; rfl
        clear he
        by_cases hnm : nameL s.data.toList = true
        · have HN := Lib.hid hnm
          clear hnm
          go_wp2_with (go_at_call 12; refine (Name_any s _ HZ.out).mono ?_; rintro e w' ⟨rfl, rfl⟩; rw [HN.out])
          refine ⟨⟨k + 1, by omega, by go_num, hstep.out.trans (hem.out.trans HN.out)⟩, by simp [intOf]; omega⟩
        · have HN := Lib.hid (Bool.eq_false_iff.2 hnm)
          clear hnm
          go_wp2_with (go_at_call 12; refine (Name_any s _ HZ.out).mono ?_; rintro e w' ⟨rfl, rfl⟩; rw [HN.out])
          go_ret
          exact ⟨by rw [hno.out (hem.out.trans HN.out)]; rfl, rfl⟩
    · go_wp2_with fail
      go_ret
      have hk' : k = ss.length := by omega
      subst hk'
      have := HA.out
      rw [List.take_of_length_le (Nat.le_refl _)] at this
      exact ⟨by rw [this]; rfl, rfl⟩

def oneB (p : Int) (ps : List Int) : Bool := ps.contains p

set_option maxHeartbeats 1000000 in
theorem one_any (p : Int) (b c : Nat) (ps : List Int) (w : World) (hn : ps.length ≤ 100)
    (hc : ∀ i (h : i < ps.length), w.cell? ⟨b, i, none⟩ = some (.int .u8 ps[i])) :
    Calls Try.prog 43 #[.int .u8 p, .slice (some ⟨b, 0, none⟩) ps.length c] w fun e w' => e = .returned (.bool (oneB p ps)) ∧ w = w' := by
  have HC := Lib.hid hc
  clear hc
  go_enter Try.func43, Try.ntmps43
  go_wp2
  go_loop [6, 9] (fun r j => ∃ k : Nat, k ≤ ps.length ∧ j = .int .i64 k ∧ Hid ((ps.take k).contains p = false)) (fun _ j => ps.length - (intOf j).toNat)
  case atStart => exact ⟨0, Nat.zero_le _, rfl, rfl⟩
  case round =>
    obtain ⟨k, hk, rfl, HA⟩ := hrel
    by_cases hlt : k < ps.length
    · have hcell := HC.out k hlt
      have hstep : Hid ((ps.take (k + 1)).contains p = (p == ps[k])) := by
        unfold Hid at HA ⊢
        rw [List.take_succ_eq_append_getElem hlt]
        simp only [List.contains_eq_mem, List.mem_append, List.mem_singleton] at HA ⊢
        simp at HA
        simp [HA]
        rw [Bool.eq_iff_iff]; simp
      have hyes : Hid (p = ps[k] → ps.contains p = true) := by
        intro h
        rw [List.contains_iff_mem, h]; exact List.getElem_mem hlt
      generalize ps[k] = q at hcell hstep hyes
      by_cases he : p = q
      · have h1 : (p == q) = true := by simpa using he
        have HE := Lib.hid he
        clear he
        go_wp2_with fail
        go_ret
        exact ⟨by rw [oneB, hyes.out HE.out]; rfl, rfl⟩
      · have h1 : (p == q) = false := by simpa using he
        clear he
        go_wp2_with fail
        refine ⟨⟨k + 1, by omega, by go_num, by unfold Hid at hstep ⊢; rw [hstep]; exact h1⟩, by simp [intOf]; omega⟩
    · go_wp2_with fail
      go_ret
      have hk' : k = ps.length := by omega
      subst hk'
      have := HA.out
      rw [List.take_of_length_le (Nat.le_refl _)] at this
      exact ⟨by rw [oneB, this]; rfl, rfl⟩

theorem size_any (n : Int) (w : World) :
    Calls Try.prog 39 #[.int .i64 n] w fun e w' => e = .returned (.bool (decide (0 ≤ n) && decide (n ≤ 1125899906842624))) ∧ w = w' := by
  by_cases h : 0 ≤ n
  · go_enter Try.func39, Try.ntmps39
    go_wp2
    go_ret
    exact ⟨by simp [h], rfl⟩
  · go_enter Try.func39, Try.ntmps39
    go_wp2
    go_ret
    exact ⟨by simp; omega, rfl⟩

end Go.Proofs.Ythppjfhbdohmbaa
