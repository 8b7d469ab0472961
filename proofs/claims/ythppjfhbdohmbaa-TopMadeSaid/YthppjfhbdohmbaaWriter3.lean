/- The codec's flags, and a whole object. -/
import Derived.Test.YthppjfhbdohmbaaWriter2
namespace Go.Proofs.Ythppjfhbdohmbaa
open Go.RowKit

def flagE : List Bool → Int
  | [] => 0
  | b :: l => (if b then 1 else 0) + 2 * flagE l

theorem flagE_snoc (l : List Bool) (b : Bool) : flagE (l ++ [b]) = flagE l + (if b then 2 ^ l.length else 0) := by
  induction l with
  | nil => cases b <;> rfl
  | cons a l ih =>
    simp only [List.cons_append, flagE, ih, List.length_cons]
    cases b
    · simp
    · simp only [if_true, Int.pow_succ]; omega
theorem flagE_nonneg (l : List Bool) : 0 ≤ flagE l := by
  induction l with
  | nil => decide
  | cons a l ih => simp only [flagE]; split <;> omega
theorem flagE_lt (l : List Bool) : flagE l < 2 ^ l.length := by
  induction l with
  | nil => decide
  | cons a l ih => simp only [flagE, List.length_cons, Int.pow_succ]; split <;> omega
theorem or_pow (k : Nat) (x : Int) (hk : k < 8) (h0 : 0 ≤ x) (h1 : x < 2 ^ k) : bits .or .u8 x (2 ^ k % 256) = x + 2 ^ k := by
  have h : ∀ k : Fin 8, ∀ y : Fin 256, (y.val : Int) < 2 ^ k.val → bits .or .u8 ((y.val : Nat) : Int) (2 ^ k.val % 256) = (y.val : Int) + 2 ^ k.val := by decide +kernel
  have h2 : (2 : Int) ^ k ≤ 256 := by
    have : ∀ k : Fin 8, (2 : Int) ^ k.val ≤ 256 := by decide
    exact this ⟨k, hk⟩
  have := h ⟨k, hk⟩ ⟨x.toNat, by omega⟩
  simp only at this
  rw [Int.toNat_of_nonneg h0] at this
  exact this h1

set_option maxRecDepth 100000 in
set_option maxHeartbeats 1000000 in
theorem flags_any (b : Nat) (l : List Bool) (w : World) (hn : l.length ≤ 8) (hc : ∀ i (h : i < l.length), w.cell? ⟨b, i, none⟩ = some (.bool l[i])) :
    Calls Try.prog 61 #[.slice (some ⟨b, 0, none⟩) l.length l.length] w (fun e w' => e = .returned (.int .u8 (flagE l)) ∧ w = w') := by
  have HC := Lib.hid hc
  clear hc
  go_enter Try.func61, Try.ntmps61
  go_wp2_with fail
  go_loopw [2, 7] (fun x s wr => ∃ (k : Nat), s = .int .i64 k ∧ k ≤ l.length ∧ x = .int .u8 (flagE (l.take k)) ∧ wr = w) (fun _ s _ => l.length - (intOf s).toNat)
  case atStart => exact ⟨0, rfl, Nat.zero_le _, rfl, rfl⟩
  case round =>
    obtain ⟨k, rfl, hk, rfl, rfl⟩ := hrel
    by_cases hlt : k < l.length
    · have hcell := HC.out k hlt
      have HT : Hid (flagE (l.take (k + 1)) = flagE (l.take k) + (if l[k] then 2 ^ k else 0)) := by
        unfold Hid
        rw [List.take_succ_eq_append_getElem hlt, flagE_snoc, List.length_take, Nat.min_eq_left (by omega)]
      cases hb : l[k]
      · rw [hb] at hcell HT
        have HB := Lib.hid hb
        clear hb
        go_wp2_with fail
        refine ⟨⟨k + 1, by simp, by omega, ?_, trivial⟩, by simp [intOf]; omega⟩
        rw [HT.out]; simp
      · rw [hb] at hcell HT
        have HB := Lib.hid hb
        clear hb
        go_wp2_with fail
        refine ⟨⟨k + 1, by simp, by omega, ?_, trivial⟩, by simp [intOf]; omega⟩
        have h1 := flagE_lt (l.take k)
        rw [List.length_take, Nat.min_eq_left (by omega)] at h1
        rw [HT.out, or_pow k _ (by omega) (flagE_nonneg _) h1]; rfl
    · go_wp2_with fail
      have hk' : k = l.length := by omega
      subst hk'
      go_ret
      rw [List.take_of_length_le (Nat.le_refl _)]
      exact ⟨rfl, rfl⟩
end Go.Proofs.Ythppjfhbdohmbaa
