/- The codec's writer: text and flags. -/
import Derived.Test.YthppjfhbdohmbaaWriter
import Derived.Lib.AppendStr
namespace Go.Proofs.Ythppjfhbdohmbaa
open Go.RowKit

def bytesI (s : ByteArray) : List Int := s.data.toList.map fun b => (b.toNat : Int)
def textE (s : ByteArray) : List Int := numE s.size ++ bytesI s
theorem strCells_eq (s : ByteArray) : Lib.strCells s = u8s (bytesI s) := by simp [Lib.strCells, u8s, bytesI]
theorem bytesI_length (s : ByteArray) : (bytesI s).length = s.size := by simp [bytesI]
theorem numE_pos (n : Nat) : 0 < (numE n).length := by unfold numE; split <;> simp

theorem hidOut {p : Prop} (h : Hid p) : p := h
theorem own_form {w : World} {base : Nat} {e : TypeId} {n : Nat} {v : Value} {xs : List Value} (h : w.ownsRow base e 1 v n xs) (hn : 0 < n) : ∃ g cap, v = .slice (some ⟨g, 0, none⟩) n cap ∧ base ≤ g ∧ g < w.heap.size := by
  rcases h.2 with ⟨rfl, hx⟩ | ⟨g, cap, cur, rfl, hb, hh, _⟩
  · exact absurd h.1 (by simp_all)
  · exact ⟨g, cap, rfl, hb, (Array.getElem?_eq_some_iff.1 hh).1⟩

theorem flat_snoc {α β : Type} (f : α → List β) (l : List α) (k : Nat) (h : k < l.length) : (l.take (k + 1)).flatMap f = (l.take k).flatMap f ++ f l[k] := by
  rw [List.take_succ_eq_append_getElem h, List.flatMap_append]; simp
theorem flat_le {α β : Type} (f : α → List β) (l : List α) (k : Nat) : ((l.take k).flatMap f).length ≤ (l.flatMap f).length := by
  have : l.flatMap f = (l.take k).flatMap f ++ (l.drop k).flatMap f := by rw [← List.flatMap_append, List.take_append_drop]
  rw [this, List.length_append]; omega

set_option maxRecDepth 100000 in
set_option maxHeartbeats 1000000 in
theorem text_any (g : Nat) (v : Value) (bs : List Int) (b : Nat) (ss : List ByteArray) (w : World) (h : Wrt w g v bs) (hb : w.heap[b]? = some (.cells (ss.map .string).toArray 9)) (hbg : b ≠ g)
    (hn : ss.length ≤ 100) (hs : ∀ s ∈ ss, s.size ≤ 1000) (hl : bs.length + (ss.flatMap textE).length ≤ 1000000) :
    Calls Try.prog 59 #[.pointer (some ⟨g, 0, none⟩), .slice (some ⟨b, 0, none⟩) ss.length ss.length] w (Wrote w g (bs ++ ss.flatMap textE)) := by
  have HW := Lib.hid h
  have HL := Lib.hid hl
  have HB := Lib.hid hb
  have HS := Lib.hid hs
  clear h hl hb hs
  obtain ⟨i0, hi, hz0, hz1, hz2⟩ := info_parts info5
  go_enter Try.func59, Try.ntmps59
  go_wp2_with fail
  go_loopw [5, 8] (fun _ s wr => ∃ (k : Nat) (v1 : Value) (b1 : List Int), s = .int .i64 k ∧ k ≤ ss.length ∧ Hid (Wrt wr g v1 b1) ∧ Hid (Upd (Fw g w) w wr (Fw g wr)) ∧ Hid (b1 = bs ++ (ss.take k).flatMap textE)) (fun _ s _ => ss.length - (intOf s).toNat)
  case atStart => exact ⟨0, v, bs, rfl, Nat.zero_le _, HW, ⟨rfl, rfl, rfl, Nat.le_refl _, fun _ _ _ => rfl, fun _ h => .inl h⟩, by simp [Hid]⟩
  case round =>
    obtain ⟨k, v1, b1, rfl, hk, HW1, HU1, HE1⟩ := hrel
    by_cases hlt : k < ss.length
    · have HX := Lib.hid (Upd.stays HU1.out HB.out hbg (by decide))
      have hcell : wr.cell? ⟨b, k, none⟩ = some (.string ss[k]) := by
        rw [cell_of_row wr b k _ _ _ HX.out]; simp [hlt]
      have hsz := HS.out ss[k] (List.getElem_mem _)
      have HT : Hid (b1 ++ textE ss[k] = bs ++ (ss.take (k + 1)).flatMap textE) := by
        unfold Hid; rw [HE1.out, flat_snoc textE ss k hlt, List.append_assoc]
      have HLL : Hid (b1.length + (textE ss[k]).length ≤ 1000000) := by
        have h1 : (bs ++ (ss.take (k + 1)).flatMap textE).length ≤ 1000000 := by
          have h2 := HL.out
          have h3 := flat_le textE ss (k + 1)
          simp only [List.length_append]
          omega
        rw [← HT.out, List.length_append] at h1
        exact h1
      generalize ss[k] = s at hcell hsz HT HLL
      have HZ := Lib.hid hsz
      have hsz' : (s.size : Int) ≤ 1000 := by omega
      clear hsz
      go_wp2_with fail
      refine (number_any g v1 b1 s.size wr HW1.out (by have := HZ.out; omega) (by have := HLL.out; simp only [textE, List.length_append] at this; omega)).mono ?_
      rintro e w1 ⟨rfl, v2, hw2, hu2⟩
      have hg := HW1.out.cell
      have hc0 : w1.cell? ⟨g, 0, none⟩ = some v2 := cell_of_row w1 g 0 _ _ _ hw2.cell
      have HO2 := Lib.hid hw2.own
      have HC2 := Lib.hid hw2.cell
      have HU2 := Lib.hid hu2
      have hgs : g < w1.heap.size := (Array.getElem?_eq_some_iff.1 hw2.cell).1
      clear hw2 hu2 hg
      have hN : (b1 ++ numE s.size).length + s.size ≤ 1000000 := by
        have h1 := HLL.out
        unfold textE at h1
        rw [List.length_append, bytesI_length] at h1
        rw [List.length_append]; omega
      have HN := Lib.hid hN
      clear hN
      go_wp2_with (at_builtin; refine hidOut ?_)
      unfold Hid
      refine Lib.wpList_append_own_string _ rfl _ _ 28 9 rfl (g + 1) 5 i0 Try.underlying28 Try.underlying9 hi hz0 hz1 hz2 _ _ _ rfl HO2.out s rfl (by have := HN.out; unfold maxLen; omega) (by have := HN.out; omega) (by omega) ?_
      intro v' w3 hown1 hgrow _
      have hown2 : w3.ownsRow (g + 1) 5 1 v' ((b1 ++ numE s.size).length + (bytesI s).length) (u8s (b1 ++ numE s.size) ++ u8s (bytesI s)) := by
        rw [bytesI_length, ← strCells_eq]; exact hown1
      obtain ⟨g', cap', rfl, _, _⟩ := own_form hown1 (by have := numE_pos s.size; rw [List.length_append]; omega)
      clear hown1
      obtain ⟨hc1, hf1⟩ := kept_of_append HC2.out HO2.out hgrow
      have hfin := Lib.hid (wrote_of_append (bs := b1 ++ numE s.size) (cs := bytesI s) (Upd.refl _ _) HC2.out HO2.out hgrow hown2)
      clear hown2 hgrow
      go_wp2_with fail
      have hfin2 := hfin.out
      simp only [List.length_append] at hfin2
      obtain ⟨_, v5, hw5, hu5⟩ := hfin2
      refine ⟨⟨k + 1, v5, b1 ++ numE s.size ++ bytesI s, by simp, by omega, hw5, (HU1.out.trans HU2.out).trans hu5, ?_⟩, by simp [intOf]; omega⟩
      have := HT.out
      unfold Hid
      rw [← this, textE, List.append_assoc]
    · go_wp2_with fail
      have hk' : k = ss.length := by omega
      subst hk'
      go_end0
      refine ⟨rfl, v1, ?_, HU1.out⟩
      have := HE1.out
      rw [List.take_of_length_le (Nat.le_refl _)] at this
      rw [← this]; exact HW1.out
end Go.Proofs.Ythppjfhbdohmbaa
