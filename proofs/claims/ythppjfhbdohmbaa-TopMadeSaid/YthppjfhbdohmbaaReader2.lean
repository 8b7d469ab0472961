/- The codec's reader: number, text, size. -/
import Derived.Test.YthppjfhbdohmbaaReader
import Derived.Test.YthppjfhbdohmbaaWriter2
import Derived.Lib.VarintBits
namespace Go.Proofs.Ythppjfhbdohmbaa
open Go.RowKit

theorem lt64 {n : Nat} (h : n < 18446744073709551616) : (n : Int) < 2 ^ 64 := by
  have : (n : Int) < 18446744073709551616 := by omega
  simpa using this
theorem or_digit (y m t : Nat) (hm : m < 256) (hy : y < 2 ^ t) (hs : y + (m % 128) * 2 ^ t < 18446744073709551616) :
    bits .or .u64 (y : Int) (IntKind.u64.wrap (IntKind.u64.wrap (bits .and .u8 (m : Int) 127) * 2 ^ t)) = ((y + (m % 128) * 2 ^ t : Nat) : Int) := by
  have h1 : bits .and .u8 (m : Int) 127 = ((m % 128 : Nat) : Int) := by rw [u8_and127 _ (by omega) (by omega)]; omega
  have h2 : (((m % 128 : Nat) : Int) * 2 ^ t) = (((m % 128) * 2 ^ t : Nat) : Int) := by push_cast; rfl
  have hpow : (2 : Int) ^ t = ((2 ^ t : Nat) : Int) := by push_cast; rfl
  rw [h1, wraps_u64 ((m % 128 : Nat) : Int) (by omega) (lt64 (by omega)), h2, wraps_u64 _ (by omega) (lt64 (by omega))]
  rw [bits_join_low .u64 64 (by decide) wraps_u64 t _ _ (by omega) (by rw [hpow]; exact_mod_cast hy) (lt64 (by omega)) (by omega) (by rw [hpow]; exact_mod_cast Nat.mul_mod_left _ _) (lt64 (by omega))]
  omega
theorem digit_next (x k : Nat) : x % 128 ^ k + (x / 128 ^ k % 128) * 128 ^ k = x % 128 ^ (k + 1) := by
  rw [Nat.pow_succ, Nat.mod_mul, Nat.mul_comm]
theorem pow7 (k : Nat) : 2 ^ (7 * k) = 128 ^ k := by rw [Nat.pow_mul]

/-- What the loop of number adds in one round. -/
theorem or_round (x k y t m : Nat) (c : Nat) (hx : x < 18446744073709551616) (hy : y = x % 128 ^ k) (ht : t = 7 * k) (hm : x / 128 ^ k = m) (hc : c < 256) (hcm : c % 128 = m % 128) :
    bits .or .u64 (y : Int) (IntKind.u64.wrap (IntKind.u64.wrap (bits .and .u8 (c : Int) 127) * 2 ^ t)) = ((x % 128 ^ (k + 1) : Nat) : Int) := by
  subst ht hy hm
  have h1 := digit_next x k
  have h2 := Nat.mod_le x (128 ^ (k + 1))
  rw [or_digit _ _ _ hc (by rw [pow7]; exact Nat.mod_lt _ (Nat.pow_pos (by decide))) (by rw [pow7, hcm, h1]; omega), pow7, hcm, h1]

theorem numE_short (j : Nat) : ∀ n, n < 128 ^ (j + 1) → (numE n).length ≤ j + 1 := by
  induction j with
  | zero => intro n hn; rw [numE_small (by omega)]; simp
  | succ j ih =>
    intro n hn
    by_cases h : n ≤ 127
    · rw [numE_small h]; simp
    · rw [numE_great h]
      have := ih (n / 128) (by rw [Nat.pow_succ] at hn; omega)
      simp; omega
theorem numE_ten (n : Nat) (h : n < 18446744073709551616) : (numE n).length ≤ 10 := numE_short 9 n (by omega)

set_option maxRecDepth 100000 in
set_option maxHeartbeats 1000000 in
theorem rnumber_any (g b x : Nat) (rest : List Int) (w : World) (h : Rd w g b (numE x ++ rest)) (hx : x < 18446744073709551616) (hl : rest.length ≤ 900000) :
    Calls Try.prog 55 #[.pointer (some ⟨g, 0, none⟩)] w (Took w g b (.int .u64 x) rest) := by
  have HD := Lib.hid h
  have HX := Lib.hid hx
  have HL := Lib.hid hl
  clear h hl hx
  go_enter Try.func55, Try.ntmps55
  go_wp2_with fail
  go_loopw [2, 3] (fun n s wr => ∃ (k y t : Nat), n = .int .u64 y ∧ s = .int .i64 t ∧ t ≤ 63 ∧ Hid (y = x % 128 ^ k) ∧ Hid (t = 7 * k) ∧ Hid (Rd wr g b (numE (x / 128 ^ k) ++ rest)) ∧ Hid (k = 0 ∨ 0 < x / 128 ^ k) ∧ Hid (Turn g w wr)) (fun _ s _ => 64 - (intOf s).toNat)
  case atStart => exact ⟨0, 0, 0, rfl, rfl, by omega, by simp [Hid, Nat.mod_one], rfl, by simpa [Hid] using HD, .inl rfl, Turn.refl _ _⟩
  case round =>
    obtain ⟨k, y, t, rfl, rfl, ht, HY, HT, HR, HP, HU⟩ := hrel
    have hk : k ≤ 9 := by have := HT.out; omega
    have HB : Hid (k = 9 → x / 128 ^ k ≤ 1) := by
      intro e
      rw [e]
      have := HX.out
      omega
    generalize hm : x / 128 ^ k = m at *
    have HM := Lib.hid hm
    clear hm
    have hrl : (numE m ++ rest).length ≤ 1000000 := by
      have h1 := HX.out
      have h2 := HL.out
      have h3 := Nat.div_le_self x (128 ^ k)
      have h4 := HM.out
      have h5 := numE_ten m (by omega)
      rw [List.length_append]
      omega
    by_cases hlt : m ≤ 127
    · have HO : Hid (bits .or .u64 (y : Int) (IntKind.u64.wrap (IntKind.u64.wrap (bits .and .u8 (m : Int) 127) * 2 ^ t)) = (x : Int)) := by
        unfold Hid
        rw [or_round x k y t m m HX.out HY.out HT.out HM.out (by omega) rfl]
        rw [← digit_next, HM.out, Nat.mod_eq_of_lt (show m < 128 by omega)]
        have := Nat.div_add_mod x (128 ^ k)
        rw [HM.out, Nat.mul_comm] at this
        omega
      have hr := HR.out
      rw [numE_small hlt] at hr hrl
      have HR0 := Lib.hid hr
      have HRL := Lib.hid hrl
      have hm1 : (m : Int) < 128 := by omega
      clear hr hrl
      by_cases h63 : t < 63
      · have h1 : decide ((t : Int) < 63) = true := by simp; omega
        by_cases hm0 : m = 0
        · have HK0 : t = 0 := by have := HP.out; have := HT.out; omega
          subst hm0 HK0
          go_wp2_with fail
          refine (rbyte_any g b _ rest wr HR0.out HRL.out).mono ?_
          rintro e w1 ⟨rfl, hr1, hu1⟩
          have HR1 := Lib.hid hr1
          have HU1 := Lib.hid hu1
          clear hr1 hu1
          go_wp2_with (go_at_call 57; refine (must_any _).mono ?_; rintro e w' ⟨rfl, rfl⟩)
          go_ret
          exact ⟨by rw [← HO.out]; rfl, HR1.out, HU.out.trans HU1.out⟩
        · have hm2 : ((m : Int) != 0) = true := by simp; omega
          have hm3 : ¬ (m : Int) = 0 := by omega
          go_wp2_with fail
          refine (rbyte_any g b _ rest wr HR0.out HRL.out).mono ?_
          rintro e w1 ⟨rfl, hr1, hu1⟩
          have HR1 := Lib.hid hr1
          have HU1 := Lib.hid hu1
          clear hr1 hu1
          go_wp2_with (go_at_call 57; refine (must_any _).mono ?_; rintro e w' ⟨rfl, rfl⟩)
          go_ret
          exact ⟨by rw [← HO.out]; rfl, HR1.out, HU.out.trans HU1.out⟩
      · obtain rfl : t = 63 := by omega
        have hk9 : k = 9 := by have := HT.out; omega
        have hm1' : (m : Int) ≤ 1 := by have := HB.out hk9; omega
        have hm0 : ¬ m = 0 := by have := HP.out; omega
        have hm2 : ((m : Int) != 0) = true := by simp; omega
        have hm3 : ¬ (m : Int) = 0 := by omega
        go_wp2_with fail
        refine (rbyte_any g b _ rest wr HR0.out HRL.out).mono ?_
        rintro e w1 ⟨rfl, hr1, hu1⟩
        have HR1 := Lib.hid hr1
        have HU1 := Lib.hid hu1
        clear hr1 hu1
        go_wp2_with (go_at_call 57; refine (must_any _).mono ?_; rintro e w' ⟨rfl, rfl⟩)
        go_ret
        exact ⟨by rw [← HO.out]; rfl, HR1.out, HU.out.trans HU1.out⟩
    · have hk8 : ¬ k = 9 := fun e => by have := HB.out e; omega
      have h63 : t < 63 := by have := HT.out; omega
      have h1 : decide ((t : Int) < 63) = true := by simp; omega
      have hr := HR.out
      rw [numE_great hlt] at hr hrl
      have HR0 := Lib.hid hr
      have HRL := Lib.hid hrl
      have HO : Hid (bits .or .u64 (y : Int) (IntKind.u64.wrap (IntKind.u64.wrap (bits .and .u8 ((m % 128 + 128 : Nat) : Int) 127) * 2 ^ t)) = ((x % 128 ^ (k + 1) : Nat) : Int)) :=
        or_round x k y t m (m % 128 + 128) HX.out HY.out HT.out HM.out (by omega) (by omega)
      have HN : Hid (x / 128 ^ (k + 1) = m / 128) := by
        unfold Hid
        rw [Nat.pow_succ, ← Nat.div_div_eq_div_mul, HM.out]
      have hq : Hid (0 < m / 128) := by unfold Hid; omega
      clear hr hrl
      generalize hc : m % 128 + 128 = c at *
      have hc1 : ¬ (c : Int) < 128 := by omega
      have HC := Lib.hid hc
      clear hc
      go_wp2_with fail
      refine (rbyte_any g b _ _ wr HR0.out HRL.out).mono ?_
      rintro e w1 ⟨rfl, hr1, hu1⟩
      have HR1 := Lib.hid hr1
      have HU1 := Lib.hid hu1
      clear hr1 hu1
      go_wp2_with (go_at_call 57; refine (must_any _).mono ?_; rintro e w' ⟨rfl, rfl⟩)
      refine ⟨⟨k + 1, x % 128 ^ (k + 1), t + 7, congrArg (Value.int .u64) HO.out, by go_num, by have := HT.out; omega, rfl, by have := HT.out; unfold Hid; omega, by rw [HN.out]; exact HR1, .inr (by rw [HN.out]; exact hq.out), HU.out.trans HU1.out⟩, by simp [intOf]; omega⟩

theorem Rd.run (w : World) {o b : Nat} {bs : List Int} {n : Nat} (hcells : ∀ (i : Nat) (c : Int), bs[i]? = some c → w.cell? ⟨b, o + i, none⟩ = some (.int .u8 c)) (cap : Nat) (s : ByteArray) (hs : bs.take n = bytesI s) (hn : s.size = n) :
    (convert 28 9 (.slice (some ⟨b, o, none⟩) n cap)).run Try.prog w = .ok (.string s) w := by
  have h := run_convert_bytes_back (P := Try.prog) w 28 9 5 ⟨b, o, none⟩ cap s.data.toList Try.underlying28 Try.underlying5 Try.underlying9 (fun j hj => by
    have h1 : bs[j]? = some ((s.data.toList[j].toNat : Nat) : Int) := by
      have h2 : (bs.take n)[j]? = bs[j]? := by rw [List.getElem?_take_of_lt (by rw [← hn]; simpa using hj)]
      rw [← h2, hs]
      simp only [bytesI, List.getElem?_map, List.getElem?_eq_getElem hj, Option.map_some]
    have h3 := hcells j _ h1
    rw [show (⟨b, o, none⟩ : Addr).add j = ⟨b, o + j, none⟩ by simp [Addr.add]]
    exact h3)
  have hl : s.data.toList.length = n := by rw [← hn]; simp
  rw [hl] at h
  exact h

set_option maxRecDepth 100000 in
set_option maxHeartbeats 1000000 in
theorem rtext_any (g b : Nat) (s : ByteArray) (rest : List Int) (w : World) (h : Rd w g b (textE s ++ rest)) (hs : s.size ≤ 40) (hl : rest.length ≤ 800000) :
    Calls Try.prog 69 #[.pointer (some ⟨g, 0, none⟩)] w (Took w g b (.string s) rest) := by
  have h1 : Rd w g b (numE s.size ++ (bytesI s ++ rest)) := by rw [← List.append_assoc]; exact h
  have hbl := bytesI_length s
  have HD := Lib.hid h1
  have HL := Lib.hid hl
  have HB := Lib.hid hbl
  clear h h1 hl hbl
  have hsi : (s.size : Int) ≤ 40 := by omega
  go_enter Try.func69, Try.ntmps69
  go_wp2_with fail
  refine (rnumber_any g b s.size _ w HD.out (by omega) (by have := HB.out; have := HL.out; simp; omega)).mono ?_
  rintro e w1 ⟨rfl, hr1, hu1⟩
  have HR1 := Lib.hid hr1
  have HU1 := Lib.hid hu1
  clear hr1 hu1
  go_wp2_with (go_at_call 57; refine (must_any _).mono ?_; rintro e w' ⟨rfl, rfl⟩)
  refine (take_any g b s.size _ w1 HR1.out (by have := HB.out; simp; omega) (by have := HB.out; have := HL.out; simp; omega)).mono ?_
  rintro e w2 ⟨o, cap, rfl, hcap, hcells, hr2, hu2⟩
  have hcv := Rd.run w2 hcells cap s (by rw [List.take_append_of_le_length (by rw [HB.out]; exact Nat.le_refl _), List.take_of_length_le (by rw [HB.out]; exact Nat.le_refl _)]) rfl
  have HR2 : Hid (Rd w2 g b rest) := by
    have : (bytesI s ++ rest).drop s.size = rest := by rw [← HB.out]; simp
    rw [this] at hr2
    exact hr2
  have HU2 := Lib.hid hu2
  clear hr2 hu2 hcells
  go_wp2_with fail
  go_ret
  exact ⟨rfl, HR2.out, HU1.out.trans HU2.out⟩

set_option maxRecDepth 100000 in
set_option maxHeartbeats 1000000 in
theorem rsize_any (g b n : Nat) (rest : List Int) (w : World) (h : Rd w g b (numE n ++ rest)) (hn : n ≤ 1125899906842624) (hl : rest.length ≤ 800000) :
    Calls Try.prog 70 #[.pointer (some ⟨g, 0, none⟩)] w (Took w g b (.int .i64 n) rest) := by
  have HD := Lib.hid h
  have HL := Lib.hid hl
  clear h hl
  have hni : (n : Int) ≤ 1125899906842624 := by omega
  go_enter Try.func70, Try.ntmps70
  go_wp2_with fail
  refine (rnumber_any g b n _ w HD.out (by omega) (by have := HL.out; omega)).mono ?_
  rintro e w1 ⟨rfl, hr1, hu1⟩
  have HR1 := Lib.hid hr1
  have HU1 := Lib.hid hu1
  clear hr1 hu1
  go_wp2_with (go_at_call 57; refine (must_any _).mono ?_; rintro e w' ⟨rfl, rfl⟩)
  go_ret
  exact ⟨rfl, HR1.out, HU1.out⟩
end Go.Proofs.Ythppjfhbdohmbaa
