/- What codec.Object writes for an object and for the same object marked: as long, but not the same. -/
import Derived.Test.YthppjfhbdohmbaaUser
namespace Go.Proofs.Ythppjfhbdohmbaa
open Go.RowKit

def Obj.marked (o : Obj) : Obj := { o with deleting := !o.deleting }
def preE (o : Obj) : List Int := [o.kind] ++ textE o.name ++ numE o.version.toNat ++ numE o.born.toNat
def postE (o : Obj) : List Int := textE o.cls ++ numE o.size.toNat ++ numE o.got.toNat ++ [o.mode] ++ [o.zone, o.node, o.claim, o.volume, o.source].flatMap textE ++ [o.phase] ++ numE o.num.toNat ++ numE o.tag.toNat
theorem bytesE_split (o : Obj) : bytesE o = preE o ++ (flagE [o.deleting, o.hold, o.keep, o.wait] :: postE o) := by
  simp [bytesE, objE, preE, postE]
theorem bytesE_marked (o : Obj) : bytesE o.marked = preE o ++ (flagE [!o.deleting, o.hold, o.keep, o.wait] :: postE o) := by
  rw [bytesE_split]; rfl
theorem flags_differ (a b c d : Bool) : flagE [a, b, c, d] ≠ flagE [!a, b, c, d] := by revert a b c d; decide
theorem marked_length (o : Obj) : (bytesE o.marked).length = (bytesE o).length := by rw [bytesE_marked, bytesE_split]; simp
theorem marked_ne (o : Obj) : bytesE o ≠ bytesE o.marked := by
  rw [bytesE_marked, bytesE_split]
  intro h
  have := List.append_cancel_left h
  injection this with h1 _
  exact flags_differ _ _ _ _ h1
theorem marked_right (o : Obj) : rightB o.marked = rightB o := by
  have h1 : restO o.marked = restO o := rfl
  unfold rightB baseB
  rw [h1]
  rfl
theorem marked_wf {o : Obj} (h : o.Wf) : o.marked.Wf := ⟨h.kind, h.mode, h.phase, h.version, h.born, h.num, h.tag, h.size, h.got, h.name, h.cls, h.zone, h.node, h.claim, h.volume, h.source⟩

/-- Bytes indeed. -/
def isByte (n : Int) : Prop := 0 ≤ n ∧ n ≤ 255
theorem byte_num (n : Nat) : ∀ b ∈ numE n, isByte b := by
  induction n using Nat.strongRecOn with
  | ind n ih =>
    by_cases h : n ≤ 127
    · rw [numE_small h]; intro b hb; simp at hb; subst hb; unfold isByte; omega
    · rw [numE_great h]
      intro b hb
      rcases List.mem_cons.1 hb with rfl | hb
      · unfold isByte; omega
      · exact ih (n / 128) (by omega) b hb
theorem byte_text (s : ByteArray) : ∀ b ∈ textE s, isByte b := by
  intro b hb
  rcases List.mem_append.1 hb with hb | hb
  · exact byte_num _ b hb
  · simp only [bytesI, List.mem_map] at hb
    obtain ⟨x, _, rfl⟩ := hb
    have := x.toNat_lt
    unfold isByte; omega
theorem byte_all (o : Obj) (h : o.Wf) : ∀ b ∈ bytesE o, isByte b := by
  have h1 := h.kind
  have h2 := h.mode
  have h3 := h.phase
  have h4 := flagE_nonneg [o.deleting, o.hold, o.keep, o.wait]
  have h5 := flagE_lt [o.deleting, o.hold, o.keep, o.wait]
  simp only [List.length_cons, List.length_nil] at h5
  intro b hb
  simp only [bytesE, objE, List.foldl_cons, List.foldl_nil, List.nil_append, List.mem_append, List.mem_singleton, List.flatMap_cons, List.flatMap_nil, List.append_nil] at hb
  have hn := byte_num
  have ht := byte_text
  rcases hb with ((((((((((((hb | hb) | hb) | hb) | hb) | hb) | hb) | hb) | hb) | hb) | hb) | hb) | hb)
  all_goals first | exact hn _ _ hb | exact ht _ _ hb | (subst hb; unfold isByte; omega) | (rcases hb with hb | hb | hb | hb | hb <;> exact ht _ _ hb)
/-- The string of such bytes. -/
def strOf (bs : List Int) : ByteArray := ⟨(bs.map fun n => UInt8.ofNat n.toNat).toArray⟩
theorem strOf_inj {a b : List Int} (ha : ∀ x ∈ a, isByte x) (hb : ∀ x ∈ b, isByte x) (h : strOf a = strOf b) : a = b := by
  have h1 : a.map (fun n => UInt8.ofNat n.toNat) = b.map (fun n => UInt8.ofNat n.toNat) := by
    have := congrArg (fun s => s.data.toList) h
    simpa [strOf] using this
  have h2 : ∀ l : List Int, (∀ x ∈ l, isByte x) → (l.map (fun n => UInt8.ofNat n.toNat)).map (fun u => (u.toNat : Int)) = l := by
    intro l hl
    rw [List.map_map]
    conv => rhs; rw [← List.map_id l]
    refine List.map_congr_left fun x hx => ?_
    have := hl x hx
    unfold isByte at this
    simp only [Function.comp, id, UInt8.toNat_ofNat']
    omega
  rw [← h2 a ha, ← h2 b hb, h1]

theorem own_keep {w w' : World} {base : Nat} {e : TypeId} {n : Nat} {v : Value} {xs : List Value} (h : w.ownsRow base e 1 v n xs) (hb : Below w.heap.size w w') : w'.ownsRow base e 1 v n xs := by
  refine ⟨h.1, ?_⟩
  rcases h.2 with h2 | ⟨g, cap, cur, rfl, h1, h2, h3⟩
  · exact .inl h2
  · exact .inr ⟨g, cap, cur, rfl, h1, by rw [hb.block g (Array.getElem?_eq_some_iff.1 h2).1]; exact h2, h3⟩
theorem u8s_get (bs : List Int) (k : Nat) (h : k < bs.length) : (u8s bs)[k]? = some (.int .u8 bs[k]) := by simp [u8s, h]
theorem own_convert {w : World} {base : Nat} {v : Value} {bs : List Int} (h : w.ownsRow base 5 1 v bs.length (u8s bs)) (h0 : 0 < bs.length) (hby : ∀ b ∈ bs, isByte b) :
    ∃ g cap, v = .slice (some ⟨g, 0, none⟩) bs.length cap ∧ (convert 28 9 v).run Try.prog w = .ok (.string (strOf bs)) w := by
  rcases h.2 with ⟨rfl, hx⟩ | ⟨g, cap, cur, rfl, hb, hh, hcap, hc, hsz, hxs⟩
  · omega
  · refine ⟨g, cap, rfl, ?_⟩
    have hl : (bs.map fun n => UInt8.ofNat n.toNat).length = bs.length := by simp
    have := run_convert_bytes_back (P := Try.prog) w 28 9 5 ⟨g, 0, none⟩ cap (bs.map fun n => UInt8.ofNat n.toNat) Try.underlying28 Try.underlying5 Try.underlying9 (fun j hj => by
      rw [List.length_map] at hj
      have h4 : cur.toList[j]? = (u8s bs)[j]? := by
        rw [← hxs, List.getElem?_take_of_lt (by omega)]
      rw [u8s_get bs j hj] at h4
      have h5 := hby bs[j] (List.getElem_mem hj)
      unfold isByte at h5
      have h6 : cur[j]? = some (.int .u8 bs[j]) := by simpa using h4
      rw [show (⟨g, 0, none⟩ : Addr).add j = ⟨g, j, none⟩ by simp [Addr.add]; intro e; exact e.symm, cell_of_row w g j _ _ _ hh, h6]
      simp only [List.getElem_map, UInt8.toNat_ofNat']
      congr 2
      omega)
    rw [hl] at this
    exact this
end Go.Proofs.Ythppjfhbdohmbaa
