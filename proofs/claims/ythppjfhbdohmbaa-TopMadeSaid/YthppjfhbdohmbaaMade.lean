/- The law TopMade: what a user makes by default: the walk. -/
import Derived.Test.YthppjfhbdohmbaaRead
import Derived.Test.YthppjfhbdohmbaaMarks
namespace Go.Proofs.Ythppjfhbdohmbaa
open Go.RowKit

def askO (name cls : ByteArray) (size : Int) : Obj := ⟨3, name, 0, 0, false, false, cls, size, 0, 0, false, false, es, es, es, es, es, 0, 0, 0⟩
def madeO (name cls : ByteArray) (size : Int) : Obj := ⟨3, name, 0, 0, false, true, cls, size, 0, 1, false, false, es, es, es, es, es, 1, 0, 0⟩

theorem results11 (tmps : Array Value) (w : World) (g : Nat) (cs : Array Value) (hp : tmps.getD 2 undef = .pointer (some ⟨g, 0, none⟩)) (hg : w.heap[g]? = some (.cells cs 27)) (hs : cs.size = 20) :
    (results Try.f11 tmps).run Try.prog w = .ok (.agg cs) w :=
  results_cell_row rfl tmps w g 27 cs (0, 0) _ hp hg Try.underlying27 rfl (by rw [hs]; kernel_rfl)

set_option maxRecDepth 100000 in
set_option maxHeartbeats 4000000 in
theorem default_claim (name cls : ByteArray) (size : Int) (w : World) :
    Calls Try.prog 11 #[.agg (askO name cls size).cells] w fun e w' => e = .returned (.agg (madeO name cls size).cells) ∧ Below w.heap.size w w' := by
  unfold askO
  go_enter Try.func11, Try.ntmps11
  go_wp2
  refine bodyPost_ret (results11 _ _ (w.heap.size + 1) _ rfl (heap?_alloc_at _ _ _ (by simp)) rfl) rfl ⟨?_, ((Below.refl _ _).alloc (Nat.le_refl _) _).alloc (by simp) _⟩
  rfl

theorem es_empty : emptyB es = true := by unfold emptyB; rw [ByteArray.toList_eq]; rfl
theorem nameL_empty (s : ByteArray) (h : emptyB s = true) : nameL s.data.toList = false := by
  simp only [emptyB, List.isEmpty_iff] at h
  rw [ByteArray.toList_eq] at h
  rw [h]; rfl
theorem right_made (name cls : ByteArray) (size : Int) : rightB (madeO name cls size) = (nameL name.data.toList && nameL cls.data.toList && decide (0 < size) && decide (size ≤ 1125899906842624)) := by
  have h1 : restO (madeO name cls size) = Obj.zero 3 := rfl
  have h2 : nameOr es = true := by unfold nameOr; rw [es_empty]; rfl
  have h3 : namesB (madeO name cls size) = nameOr cls := by simp [namesB, Obj.texts, madeO, h2]
  have h4 : kindB (madeO name cls size) = (!emptyB cls && decide (0 < size)) := by
    unfold kindB madeO
    simp [modeB, oneB, es_empty]
    first | done | rfl | congr
  have h5 : sizeB (madeO name cls size).got = true := rfl
  unfold rightB baseB
  rw [h3, h4, h5, show decide (restO (madeO name cls size) = Obj.zero (madeO name cls size).kind) = true from decide_eq_true h1]
  show (nameL name.data.toList && true && nameOr cls && sizeB size && true && (!emptyB cls && decide (0 < size))) = _
  unfold nameOr sizeB
  by_cases hc : emptyB cls = true
  · rw [hc, nameL_empty cls hc]; simp
  · rw [Bool.eq_false_iff.2 hc]
    by_cases h0 : 0 < size
    · have : 0 ≤ size := by omega
      simp [h0, this]
    · simp [h0]
theorem user_made (name cls : ByteArray) (size : Int) (h : rightB (madeO name cls size) = true) : userB (madeO name cls size) = true := by
  have h4 : userK (madeO name cls size) = true := by simp [userK, madeO, es_empty]
  unfold userB
  rw [h, h4]; rfl
theorem made_wf (name cls : ByteArray) (size : Int) (hn : name.size ≤ maxLen) (hc : cls.size ≤ maxLen) (h0 : -9223372036854775808 ≤ size) (h1 : size < 9223372036854775808) : (madeO name cls size).Wf :=
  ⟨by simp [madeO], by simp [madeO], by simp [madeO], by simp [madeO], by simp [madeO], by simp [madeO], by simp [madeO], ⟨h0, h1⟩, by simp [madeO], hn, hc, Nat.zero_le maxLen, Nat.zero_le maxLen, Nat.zero_le maxLen, Nat.zero_le maxLen, Nat.zero_le maxLen⟩

theorem own_cells {w : World} {base : Nat} {v : Value} {bs : List Int} (h : w.ownsRow base 5 1 v bs.length (u8s bs)) (h0 : 0 < bs.length) :
    ∃ g cap, v = .slice (some ⟨g, 0, none⟩) bs.length cap ∧ g < w.heap.size ∧ (∀ (i : Nat) (c : Int), bs[i]? = some c → w.cell? ⟨g, i, none⟩ = some (.int .u8 c)) ∧ bs.length ≤ cap := by
  rcases h.2 with ⟨rfl, hx⟩ | ⟨g, cap, cur, rfl, hb, hh, hcap, hc, hsz, hxs⟩
  · omega
  · refine ⟨g, cap, rfl, (Array.getElem?_eq_some_iff.1 hh).1, fun i c hi => ?_, by omega⟩
    have hl : i < bs.length := (List.getElem?_eq_some_iff.1 hi).1
    have h4 : cur.toList[i]? = (u8s bs)[i]? := by rw [← hxs, List.getElem?_take_of_lt (by omega)]
    rw [u8s_get bs i hl, (List.getElem?_eq_some_iff.1 hi).2] at h4
    rw [cell_of_row w g i _ _ _ hh]
    simpa using h4

set_option maxRecDepth 100000 in
set_option maxHeartbeats 4000000 in
theorem made_0 (name cls : ByteArray) (size : Int) (w : World) (hn : name.size ≤ maxLen) (hc : cls.size ≤ maxLen) (h0 : -9223372036854775808 ≤ size) (h1 : size < 9223372036854775808)
    (hr : rightB (madeO name cls size) = true) :
    Calls Try.prog 5 #[.string name, .string cls, .int .i64 size] w fun e w' => e = .returned (.bool true) ∧ Below w.heap.size w w' := by
  have HN := Lib.hid hn
  have HC := Lib.hid hc
  have HW := Lib.hid (made_wf name cls size hn hc h0 h1)
  have HR := Lib.hid hr
  clear hn hc h0 h1 hr
  go_enter Try.func5, Try.ntmps5
  go_wp2_with fail
  refine (default_claim name cls size _).mono ?_
  rintro e w1 ⟨rfl, hb⟩
  have HB1 := Lib.hid hb
  have hz1 := hb.size
  clear hb
  go_wp2_with fail
  have hR2 := HR.out
  rw [right_made] at hR2
  simp only [Bool.and_eq_true, decide_eq_true_eq] at hR2
  obtain ⟨⟨⟨hq1, hq2⟩, hq3⟩, hq4⟩ := hR2
  have HQ1 := Lib.hid hq1
  have HQ2 := Lib.hid hq2
  clear hq1 hq2
  refine (Object_any (madeO name cls size) _ HW.out).mono ?_
  rintro e w2 ⟨hb, hp⟩
  rw [if_pos HR.out] at hp
  obtain ⟨va, rfl, ga, hga, hoa⟩ := hp
  have HD2 : Hid (w2.heap[w1.heap.size]? = some (.cells (madeO name cls size).cells 27)) := (hb.block _ (by simp)).trans (heap?_alloc_at _ _ _ rfl)
  have HB2 : Hid (Below w.heap.size w w2) := (HB1.out.alloc hz1 _).trans (hb.mono (by simp; omega))
  have hpos : 0 < (bytesE (madeO name cls size)).length := by rw [bytesE_split]; simp; omega
  obtain ⟨gb, cap, rfl, hgb, hcells, hcap⟩ := own_cells hoa hpos
  have HCE := Lib.hid hcells
  have HCA := Lib.hid hcap
  have HGB := Lib.hid hgb
  have hrow2 : w2.rowAt? w1.heap.size 0 20 = some (madeO name cls size).cells := by rw [World.rowAt?_of _ _ _ HD2.out]; exact Obj.row _
  have hz2 : w1.heap.size < w2.heap.size := (Array.getElem?_eq_some_iff.1 HD2.out).1
  clear hb hoa hcells hcap hpos hgb
  go_wp2_with (go_at_call 12; (first | (with_reducible refine (Name_any name _ HN.out).mono ?_) | (with_reducible refine (Name_any cls _ HC.out).mono ?_)); rintro e w' ⟨rfl, rfl⟩; first | rw [HQ1.out] | rw [HQ2.out])
  refine (Read_any gb cap (madeO name cls size) w2 HCE.out HCA.out HGB.out HW.out HR.out).mono ?_
  rintro e w3 ⟨rfl, hb⟩
  have HB3 : Hid (Below w.heap.size w w3) := HB2.out.trans (hb.mono (by have := HB2.out.size; omega))
  have hrow3 : w3.rowAt? w1.heap.size 0 20 = some (madeO name cls size).cells := by rw [World.rowAt?_of _ _ _ ((hb.block _ hz2).trans HD2.out)]; exact Obj.row _
  have hz3 : w1.heap.size < w3.heap.size := by have := hb.size; omega
  clear hb
  go_wp2_with fail
  refine (user_any (madeO name cls size) _ HW.out).mono ?_
  rintro e w4 ⟨rfl, hb⟩
  have HB4 : Hid (Below w.heap.size w w4) := (HB3.out.alloc HB3.out.size _).trans (hb.mono (by have := HB3.out.size; simp; omega))
  obtain ⟨hc4, hr4⟩ := below_rules hb
  clear hb
  rw [user_made _ _ _ HR.out]
  go_wp2_with fail
  refine (right_any (madeO name cls size) _ HW.out).mono ?_
  rintro e w5 ⟨rfl, hb⟩
  have HB5 : Hid (Below w.heap.size w w5) := HB4.out.trans (hb.mono HB4.out.size)
  clear hb
  rw [HR.out]
  go_wp2_with fail
  go_ret
  exact ⟨rfl, HB5.out⟩

theorem made_no (name cls : ByteArray) (size : Int) (h : rightB (madeO name cls size) = false) : userB (madeO name cls size) = false := by unfold userB; rw [h]; rfl

set_option maxRecDepth 100000 in
set_option maxHeartbeats 4000000 in
theorem made_1 (name cls : ByteArray) (size : Int) (w : World) (hn : name.size ≤ maxLen) (hc : cls.size ≤ maxLen) (h0 : -9223372036854775808 ≤ size) (h1 : size < 9223372036854775808)
    (hr : rightB (madeO name cls size) = false) :
    Calls Try.prog 5 #[.string name, .string cls, .int .i64 size] w fun e w' => e = .returned (.bool true) ∧ Below w.heap.size w w' := by
  have HN := Lib.hid hn
  have HC := Lib.hid hc
  have HW := Lib.hid (made_wf name cls size hn hc h0 h1)
  have HR := Lib.hid hr
  clear hn hc h0 h1 hr
  rw [right_made] at HR
  have HR' := HR.out
  have HRR : Hid (rightB (madeO name cls size) = false) := (right_made name cls size).trans HR'
  generalize hb1 : nameL name.data.toList = b1 at *
  generalize hb2 : nameL cls.data.toList = b2 at *
  have HQ1 := Lib.hid hb1
  have HQ2 := Lib.hid hb2
  have hcase : b1 = false ∨ (b1 = true ∧ b2 = false) ∨ (b1 = true ∧ b2 = true ∧ ¬ 0 < size) ∨ (b1 = true ∧ b2 = true ∧ 0 < size ∧ ¬ size ≤ 1125899906842624) := by
    cases b1
    · simp
    · cases b2
      · simp
      · by_cases h0 : 0 < size
        · simp [h0] at HR'
          simp [h0]; omega
        · simp [h0]
  clear hb1 hb2 HR HR'
  have HK := Lib.hid hcase
  clear hcase
  go_enter Try.func5, Try.ntmps5
  go_wp2_with fail
  refine (default_claim name cls size _).mono ?_
  rintro e w1 ⟨rfl, hb⟩
  have HB1 := Lib.hid hb
  have hz1 := hb.size
  clear hb
  go_wp2_with fail
  refine (Object_any (madeO name cls size) _ HW.out).mono ?_
  rintro e w2 ⟨hb, hp⟩
  rw [if_neg (by rw [HRR.out]; decide)] at hp
  subst hp
  have HD2 : Hid (w2.heap[w1.heap.size]? = some (.cells (madeO name cls size).cells 27)) := (hb.block _ (by simp)).trans (heap?_alloc_at _ _ _ rfl)
  have HB2 : Hid (Below w.heap.size w w2) := (HB1.out.alloc hz1 _).trans (hb.mono (by simp; omega))
  have hrow2 : w2.rowAt? w1.heap.size 0 20 = some (madeO name cls size).cells := by rw [World.rowAt?_of _ _ _ HD2.out]; exact Obj.row _
  have hz2 : w1.heap.size < w2.heap.size := (Array.getElem?_eq_some_iff.1 HD2.out).1
  clear hb
  rcases HK.out with rfl | ⟨rfl, rfl⟩ | ⟨rfl, rfl, hs⟩ | ⟨rfl, rfl, hs0, hs⟩
  all_goals
    clear HK
    try have hs9 : decide (size ≤ 1125899906842624) = false := by simp; omega
    go_wp2_with (go_at_call 12; (first | (with_reducible refine (Name_any name _ HN.out).mono ?_) | (with_reducible refine (Name_any cls _ HC.out).mono ?_)); rintro e w' ⟨rfl, rfl⟩; first | rw [HQ1.out] | rw [HQ2.out])
    refine (user_any (madeO name cls size) _ HW.out).mono ?_
    rintro e w4 ⟨rfl, hb⟩
    have HB4 : Hid (Below w.heap.size w w4) := HB2.out.trans (hb.mono HB2.out.size)
    have hc4 : ∀ i, w4.cell? ⟨w1.heap.size, i, none⟩ = (madeO name cls size).cells[i]? := fun i => cell_of_row _ _ i _ _ _ ((hb.block _ hz2).trans HD2.out)
    have hg5 : (madeO name cls size).cells[5]? = some (.bool true) := rfl
    clear hb
    rw [made_no _ _ _ HRR.out]
    go_wp2_with fail
    go_ret
    exact ⟨rfl, HB4.out⟩

theorem made_any (name cls : ByteArray) (size : Int) (w : World) (hn : name.size ≤ maxLen) (hc : cls.size ≤ maxLen) (h0 : -9223372036854775808 ≤ size) (h1 : size < 9223372036854775808) :
    Calls Try.prog 5 #[.string name, .string cls, .int .i64 size] w fun e w' => e = .returned (.bool true) ∧ Below w.heap.size w w' := by
  cases h : rightB (madeO name cls size)
  · exact made_1 name cls size w hn hc h0 h1 h
  · exact made_0 name cls size w hn hc h0 h1 h
end Go.Proofs.Ythppjfhbdohmbaa
