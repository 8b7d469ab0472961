/- The codec's writer: a whole object. -/
import Derived.Test.YthppjfhbdohmbaaWriter3
namespace Go.Proofs.Ythppjfhbdohmbaa
open Go.RowKit

theorem Wrt.alloc {w : World} {g : Nat} {v : Value} {bs : List Int} (h : Wrt w g v bs) (o : Go.Obj) : Wrt (w.alloc o) g v bs :=
  ⟨(Below.heap_alloc _ _ _ (Array.getElem?_eq_some_iff.1 h.cell).1).trans h.cell, h.own.alloc o⟩
theorem Wrote.from_alloc {w : World} {g : Nat} {bs : List Int} {o : Go.Obj} {e : Ending} {w' : World} (h : Wrote (w.alloc o) g bs e w') : Wrote w g bs e w' := by
  obtain ⟨he, v, hw, hu⟩ := h
  exact ⟨he, v, hw, (fw_alloc g w o).trans hu⟩

theorem text1 (g : Nat) (v : Value) (bs : List Int) (s : ByteArray) (w : World) (h : Wrt w g v bs) (hs : s.size ≤ 1000) (hl : (bs ++ textE s).length ≤ 1000000) :
    Calls Try.prog 59 #[.pointer (some ⟨g, 0, none⟩), .slice (some ⟨w.heap.size, 0, none⟩) 1 1] (w.alloc (.cells #[.string s] 9)) (Wrote w g (bs ++ textE s)) := by
  have hg : g < w.heap.size := (Array.getElem?_eq_some_iff.1 h.cell).1
  refine (text_any g v bs w.heap.size [s] (w.alloc (.cells #[.string s] 9)) (h.alloc _) (heap?_alloc_at _ _ _ rfl) (by omega) (by simp) (by simpa using hs) (by simpa using hl)).mono ?_
  intro e w' h1
  have h2 := h1.from_alloc
  simpa using h2
theorem text5 (g : Nat) (v : Value) (bs : List Int) (a b c d e : ByteArray) (w : World) (h : Wrt w g v bs) (ha : a.size ≤ 1000) (hb : b.size ≤ 1000) (hc : c.size ≤ 1000) (hd : d.size ≤ 1000) (he : e.size ≤ 1000) (hl : (bs ++ [a, b, c, d, e].flatMap textE).length ≤ 1000000) :
    Calls Try.prog 59 #[.pointer (some ⟨g, 0, none⟩), .slice (some ⟨w.heap.size, 0, none⟩) 5 5] (w.alloc (.cells #[.string a, .string b, .string c, .string d, .string e] 9)) (Wrote w g (bs ++ [a, b, c, d, e].flatMap textE)) := by
  have hg : g < w.heap.size := (Array.getElem?_eq_some_iff.1 h.cell).1
  refine (text_any g v bs w.heap.size [a, b, c, d, e] (w.alloc (.cells #[.string a, .string b, .string c, .string d, .string e] 9)) (h.alloc _) (heap?_alloc_at _ _ _ rfl) (by omega) (by simp) (by simp [ha, hb, hc, hd, he]) (by rw [← List.length_append]; exact hl)).mono ?_
  intro e w' h1
  exact h1.from_alloc
theorem flags4 (a b c d : Bool) (w : World) :
    Calls Try.prog 61 #[.slice (some ⟨w.heap.size, 0, none⟩) 4 4] (w.alloc (.cells #[.bool a, .bool b, .bool c, .bool d] 4)) (fun e w' => e = .returned (.int .u8 (flagE [a, b, c, d])) ∧ w.alloc (.cells #[.bool a, .bool b, .bool c, .bool d] 4) = w') :=
  flags_any w.heap.size [a, b, c, d] _ (by simp) (fun i h => by
    rw [World.cell?_alloc_new]
    have h' : i < 4 := h
    match i, h' with
    | 0, _ => rfl
    | 1, _ => rfl
    | 2, _ => rfl
    | 3, _ => rfl)

theorem wrap_u64 (n : Nat) (h : n < 18446744073709551616) : IntKind.u64.wrap (n : Int) = n := by
  unfold IntKind.wrap
  simp [IntKind.bits, IntKind.signed]
  omega

theorem len_numE (n : Nat) (k : Nat) (h : n < 128 ^ (k + 1)) : (numE n).length ≤ k + 1 := by
  induction k generalizing n with
  | zero => rw [numE_small (by omega)]; simp
  | succ k ih =>
    by_cases hn : n ≤ 127
    · rw [numE_small hn]; simp
    · rw [numE_great hn]
      have := ih (n / 128) (by rw [Nat.pow_succ] at h; exact Nat.div_lt_of_lt_mul (by rw [Nat.mul_comm]; exact h))
      simp only [List.length_cons]; omega
theorem len_num64 (n : Nat) (h : n < 18446744073709551616) : (numE n).length ≤ 10 := len_numE n 9 (by simp; omega)
theorem len_text (s : ByteArray) (h : s.size ≤ 1000) : (textE s).length ≤ 1010 := by
  have := len_num64 s.size (by omega)
  rw [textE, List.length_append, bytesI_length]; omega

/-- What an object holds that may be written: no size beyond Go's types, no text beyond a thousand bytes. -/
structure Obj.Fit (o : Obj) : Prop where
  version : 0 ≤ o.version ∧ o.version < 18446744073709551616
  born : 0 ≤ o.born ∧ o.born < 18446744073709551616
  num : 0 ≤ o.num ∧ o.num < 18446744073709551616
  tag : 0 ≤ o.tag ∧ o.tag < 18446744073709551616
  size : 0 ≤ o.size ∧ o.size < 9223372036854775808
  got : 0 ≤ o.got ∧ o.got < 9223372036854775808
  kind : 0 ≤ o.kind ∧ o.kind ≤ 255
  mode : 0 ≤ o.mode ∧ o.mode ≤ 255
  phase : 0 ≤ o.phase ∧ o.phase ≤ 255
  name : o.name.size ≤ 1000
  cls : o.cls.size ≤ 1000
  zone : o.zone.size ≤ 1000
  node : o.node.size ≤ 1000
  claim : o.claim.size ≤ 1000
  volume : o.volume.size ≤ 1000
  source : o.source.size ≤ 1000

/-- An object's bytes. -/
def objE (o : Obj) : List (List Int) := [[o.kind], textE o.name, numE o.version.toNat, numE o.born.toNat, [flagE [o.deleting, o.hold, o.keep, o.wait]], textE o.cls, numE o.size.toNat, numE o.got.toNat, [o.mode], [o.zone, o.node, o.claim, o.volume, o.source].flatMap textE, [o.phase], numE o.num.toNat, numE o.tag.toNat]
theorem len_objE (o : Obj) (h : o.Fit) : ∀ p ∈ objE o, p.length ≤ 5050 := by
  have hn := len_text _ h.name
  have hc := len_text _ h.cls
  have h1 := len_text _ h.zone
  have h2 := len_text _ h.node
  have h3 := len_text _ h.claim
  have h4 := len_text _ h.volume
  have h5 := len_text _ h.source
  have nversion := len_num64 o.version.toNat (by have := h.version; omega)
  have nborn := len_num64 o.born.toNat (by have := h.born; omega)
  have nnum := len_num64 o.num.toNat (by have := h.num; omega)
  have ntag := len_num64 o.tag.toNat (by have := h.tag; omega)
  have nsize := len_num64 o.size.toNat (by have := h.size; omega)
  have ngot := len_num64 o.got.toNat (by have := h.got; omega)
  simp only [objE, List.mem_cons, List.not_mem_nil, or_false, forall_eq_or_imp, forall_eq, List.length_cons, List.length_nil, List.flatMap_cons, List.flatMap_nil, List.length_append]
  refine ⟨?_, ?_, ?_, ?_, ?_, ?_, ?_, ?_, ?_, ?_, ?_, ?_, ?_⟩ <;> omega

theorem foldl_len (l : List (List Int)) (b : List Int) (n m : Nat) (hb : b.length ≤ n) (h : ∀ p ∈ l, p.length ≤ m) : (l.foldl (· ++ ·) b).length ≤ n + l.length * m := by
  induction l generalizing b n with
  | nil => simpa using hb
  | cons p l ih =>
    have := ih (b ++ p) (n + m) (by have := h p (by simp); rw [List.length_append]; omega) (fun q hq => h q (by simp [hq]))
    simp only [List.foldl_cons, List.length_cons]
    rw [Nat.succ_mul]; omega

set_option maxRecDepth 100000 in
set_option maxHeartbeats 4000000 in
theorem object_any (g : Nat) (v : Value) (bs : List Int) (o : Obj) (w : World) (h : Wrt w g v bs) (ho : o.Fit) (hl : bs.length ≤ 100000) :
    Calls Try.prog 23 #[.pointer (some ⟨g, 0, none⟩), .agg o.cells] w (Wrote w g ((objE o).foldl (· ++ ·) bs)) := by
  have HW0 := Lib.hid (h.alloc (.cells o.cells 27))
  have HU0 := Lib.hid (fw_alloc g w (.cells o.cells 27))
  have HX0 : Hid ((w.alloc (.cells o.cells 27)).heap[w.heap.size]? = some (.cells o.cells 27)) := heap?_alloc_at _ _ _ rfl
  have hne : w.heap.size ≠ g := by have := (Array.getElem?_eq_some_iff.1 h.cell).1; omega
  have HN := Lib.hid hne
  have HF := Lib.hid ho
  have HP := Lib.hid (fun (l : List (List Int)) (hs : ∀ p ∈ l, p ∈ objE o) (hn : l.length ≤ 13) => Nat.le_trans (foldl_len l bs 100000 5050 hl (fun p hp => len_objE o ho p (hs p hp))) (by have := Nat.mul_le_mul_right 5050 hn; omega : 100000 + l.length * 5050 ≤ 999999))
  obtain ⟨nversion, eversion⟩ : ∃ n : Nat, o.version = n := ⟨o.version.toNat, by have := ho.version; omega⟩
  obtain ⟨nborn, eborn⟩ : ∃ n : Nat, o.born = n := ⟨o.born.toNat, by have := ho.born; omega⟩
  obtain ⟨nnum, enum⟩ : ∃ n : Nat, o.num = n := ⟨o.num.toNat, by have := ho.num; omega⟩
  obtain ⟨ntag, etag⟩ : ∃ n : Nat, o.tag = n := ⟨o.tag.toNat, by have := ho.tag; omega⟩
  obtain ⟨nsize, esize⟩ : ∃ n : Nat, o.size = n := ⟨o.size.toNat, by have := ho.size; omega⟩
  obtain ⟨ngot, egot⟩ : ∃ n : Nat, o.got = n := ⟨o.got.toNat, by have := ho.got; omega⟩
  have L0 : Hid (bs.length ≤ 1000000) := by unfold Hid; omega
  clear h ho hne hl
  go_enter Try.func23, Try.ntmps23
  go_wp2_with fail
  have L1 : Hid ((bs ++ [o.kind]).length ≤ 999999) := HP.out [[o.kind]] (by simp [objE, eversion, eborn, enum, etag, esize, egot, Int.toNat_natCast]) (by simp)
  refine (byte_any g v (bs) _ _ HW0.out (by have := L0.out; omega)).mono ?_
  intro e w1 h1
  obtain ⟨rfl, v1, hw, hu⟩ := h1
  have HW1 := Lib.hid hw
  have HU1 := Lib.hid (HU0.out.trans hu)
  have HX1 := Lib.hid (Upd.stays hu HX0.out HN.out (by decide))
  have hc1 := fun k => cell_of_row w1 w.heap.size k _ _ _ HX1.out
  clear hw hu L0
  go_wp2_with fail
  have L2 : Hid ((bs ++ [o.kind] ++ textE o.name).length ≤ 999999) := HP.out [[o.kind], textE o.name] (by simp [objE, eversion, eborn, enum, etag, esize, egot, Int.toNat_natCast]) (by simp)
  refine (text1 g v1 (bs ++ [o.kind]) _ _ HW1.out HF.out.name (by have := L2.out; omega)).mono ?_
  intro e w2 h2
  obtain ⟨rfl, v2, hw, hu⟩ := h2
  have HW2 := Lib.hid hw
  have HU2 := Lib.hid (HU1.out.trans hu)
  have HX2 := Lib.hid (Upd.stays hu HX1.out HN.out (by decide))
  have hc2 := fun k => cell_of_row w2 w.heap.size k _ _ _ HX2.out
  clear hw hu hc1 L1
  go_wp2_with fail
  have L3 : Hid ((bs ++ [o.kind] ++ textE o.name ++ numE nversion).length ≤ 999999) := HP.out [[o.kind], textE o.name, numE nversion] (by simp [objE, eversion, eborn, enum, etag, esize, egot, Int.toNat_natCast]) (by simp)
  refine (number_any g v2 (bs ++ [o.kind] ++ textE o.name) nversion _ HW2.out (by have := HF.out.version; omega) (by have := L3.out; rw [List.length_append] at this; omega)).mono ?_
  intro e w3 h3
  obtain ⟨rfl, v3, hw, hu⟩ := h3
  have HW3 := Lib.hid hw
  have HU3 := Lib.hid (HU2.out.trans hu)
  have HX3 := Lib.hid (Upd.stays hu HX2.out HN.out (by decide))
  have hc3 := fun k => cell_of_row w3 w.heap.size k _ _ _ HX3.out
  clear hw hu hc2 L2
  go_wp2_with fail
  have L4 : Hid ((bs ++ [o.kind] ++ textE o.name ++ numE nversion ++ numE nborn).length ≤ 999999) := HP.out [[o.kind], textE o.name, numE nversion, numE nborn] (by simp [objE, eversion, eborn, enum, etag, esize, egot, Int.toNat_natCast]) (by simp)
  refine (number_any g v3 (bs ++ [o.kind] ++ textE o.name ++ numE nversion) nborn _ HW3.out (by have := HF.out.born; omega) (by have := L4.out; rw [List.length_append] at this; omega)).mono ?_
  intro e w4 h4
  obtain ⟨rfl, v4, hw, hu⟩ := h4
  have HW4 := Lib.hid hw
  have HU4 := Lib.hid (HU3.out.trans hu)
  have HX4 := Lib.hid (Upd.stays hu HX3.out HN.out (by decide))
  have hc4 := fun k => cell_of_row w4 w.heap.size k _ _ _ HX4.out
  clear hw hu hc3 L3
  go_wp2_with fail
  have L5 : Hid ((bs ++ [o.kind] ++ textE o.name ++ numE nversion ++ numE nborn ++ [flagE [o.deleting, o.hold, o.keep, o.wait]]).length ≤ 999999) := HP.out [[o.kind], textE o.name, numE nversion, numE nborn, [flagE [o.deleting, o.hold, o.keep, o.wait]]] (by simp [objE, eversion, eborn, enum, etag, esize, egot, Int.toNat_natCast]) (by simp)
  refine (flags4 _ _ _ _ _).mono ?_
  rintro e wf ⟨rfl, rfl⟩
  go_wp2_with fail
  refine (byte_any g v4 (bs ++ [o.kind] ++ textE o.name ++ numE nversion ++ numE nborn) _ _ (HW4.out.alloc _) (by have := L4.out; omega)).mono ?_
  intro e w5 h5
  obtain ⟨rfl, v5, hw, hu⟩ := h5.from_alloc
  have HW5 := Lib.hid hw
  have HU5 := Lib.hid (HU4.out.trans hu)
  have HX5 := Lib.hid (Upd.stays hu HX4.out HN.out (by decide))
  have hc5 := fun k => cell_of_row w5 w.heap.size k _ _ _ HX5.out
  clear hw hu hc4 L4
  go_wp2_with fail
  have L6 : Hid ((bs ++ [o.kind] ++ textE o.name ++ numE nversion ++ numE nborn ++ [flagE [o.deleting, o.hold, o.keep, o.wait]] ++ textE o.cls).length ≤ 999999) := HP.out [[o.kind], textE o.name, numE nversion, numE nborn, [flagE [o.deleting, o.hold, o.keep, o.wait]], textE o.cls] (by simp [objE, eversion, eborn, enum, etag, esize, egot, Int.toNat_natCast]) (by simp)
  refine (text1 g v5 (bs ++ [o.kind] ++ textE o.name ++ numE nversion ++ numE nborn ++ [flagE [o.deleting, o.hold, o.keep, o.wait]]) _ _ HW5.out HF.out.cls (by have := L6.out; omega)).mono ?_
  intro e w6 h6
  obtain ⟨rfl, v6, hw, hu⟩ := h6
  have HW6 := Lib.hid hw
  have HU6 := Lib.hid (HU5.out.trans hu)
  have HX6 := Lib.hid (Upd.stays hu HX5.out HN.out (by decide))
  have hc6 := fun k => cell_of_row w6 w.heap.size k _ _ _ HX6.out
  clear hw hu hc5 L5
  go_wp2_with fail
  have L7 : Hid ((bs ++ [o.kind] ++ textE o.name ++ numE nversion ++ numE nborn ++ [flagE [o.deleting, o.hold, o.keep, o.wait]] ++ textE o.cls ++ numE nsize).length ≤ 999999) := HP.out [[o.kind], textE o.name, numE nversion, numE nborn, [flagE [o.deleting, o.hold, o.keep, o.wait]], textE o.cls, numE nsize] (by simp [objE, eversion, eborn, enum, etag, esize, egot, Int.toNat_natCast]) (by simp)
  rw [wrap_u64 nsize (by have := HF.out.size; omega)]
  refine (number_any g v6 (bs ++ [o.kind] ++ textE o.name ++ numE nversion ++ numE nborn ++ [flagE [o.deleting, o.hold, o.keep, o.wait]] ++ textE o.cls) nsize _ HW6.out (by have := HF.out.size; omega) (by have := L7.out; rw [List.length_append] at this; omega)).mono ?_
  intro e w7 h7
  obtain ⟨rfl, v7, hw, hu⟩ := h7
  have HW7 := Lib.hid hw
  have HU7 := Lib.hid (HU6.out.trans hu)
  have HX7 := Lib.hid (Upd.stays hu HX6.out HN.out (by decide))
  have hc7 := fun k => cell_of_row w7 w.heap.size k _ _ _ HX7.out
  clear hw hu hc6 L6
  go_wp2_with fail
  have L8 : Hid ((bs ++ [o.kind] ++ textE o.name ++ numE nversion ++ numE nborn ++ [flagE [o.deleting, o.hold, o.keep, o.wait]] ++ textE o.cls ++ numE nsize ++ numE ngot).length ≤ 999999) := HP.out [[o.kind], textE o.name, numE nversion, numE nborn, [flagE [o.deleting, o.hold, o.keep, o.wait]], textE o.cls, numE nsize, numE ngot] (by simp [objE, eversion, eborn, enum, etag, esize, egot, Int.toNat_natCast]) (by simp)
  rw [wrap_u64 ngot (by have := HF.out.got; omega)]
  refine (number_any g v7 (bs ++ [o.kind] ++ textE o.name ++ numE nversion ++ numE nborn ++ [flagE [o.deleting, o.hold, o.keep, o.wait]] ++ textE o.cls ++ numE nsize) ngot _ HW7.out (by have := HF.out.got; omega) (by have := L8.out; rw [List.length_append] at this; omega)).mono ?_
  intro e w8 h8
  obtain ⟨rfl, v8, hw, hu⟩ := h8
  have HW8 := Lib.hid hw
  have HU8 := Lib.hid (HU7.out.trans hu)
  have HX8 := Lib.hid (Upd.stays hu HX7.out HN.out (by decide))
  have hc8 := fun k => cell_of_row w8 w.heap.size k _ _ _ HX8.out
  clear hw hu hc7 L7
  go_wp2_with fail
  have L9 : Hid ((bs ++ [o.kind] ++ textE o.name ++ numE nversion ++ numE nborn ++ [flagE [o.deleting, o.hold, o.keep, o.wait]] ++ textE o.cls ++ numE nsize ++ numE ngot ++ [o.mode]).length ≤ 999999) := HP.out [[o.kind], textE o.name, numE nversion, numE nborn, [flagE [o.deleting, o.hold, o.keep, o.wait]], textE o.cls, numE nsize, numE ngot, [o.mode]] (by simp [objE, eversion, eborn, enum, etag, esize, egot, Int.toNat_natCast]) (by simp)
  refine (byte_any g v8 (bs ++ [o.kind] ++ textE o.name ++ numE nversion ++ numE nborn ++ [flagE [o.deleting, o.hold, o.keep, o.wait]] ++ textE o.cls ++ numE nsize ++ numE ngot) _ _ HW8.out (by have := L8.out; omega)).mono ?_
  intro e w9 h9
  obtain ⟨rfl, v9, hw, hu⟩ := h9
  have HW9 := Lib.hid hw
  have HU9 := Lib.hid (HU8.out.trans hu)
  have HX9 := Lib.hid (Upd.stays hu HX8.out HN.out (by decide))
  have hc9 := fun k => cell_of_row w9 w.heap.size k _ _ _ HX9.out
  clear hw hu hc8 L8
  go_wp2_with fail
  have L10 : Hid ((bs ++ [o.kind] ++ textE o.name ++ numE nversion ++ numE nborn ++ [flagE [o.deleting, o.hold, o.keep, o.wait]] ++ textE o.cls ++ numE nsize ++ numE ngot ++ [o.mode] ++ [o.zone, o.node, o.claim, o.volume, o.source].flatMap textE).length ≤ 999999) := HP.out [[o.kind], textE o.name, numE nversion, numE nborn, [flagE [o.deleting, o.hold, o.keep, o.wait]], textE o.cls, numE nsize, numE ngot, [o.mode], [o.zone, o.node, o.claim, o.volume, o.source].flatMap textE] (by simp [objE, eversion, eborn, enum, etag, esize, egot, Int.toNat_natCast]) (by simp)
  refine (text5 g v9 (bs ++ [o.kind] ++ textE o.name ++ numE nversion ++ numE nborn ++ [flagE [o.deleting, o.hold, o.keep, o.wait]] ++ textE o.cls ++ numE nsize ++ numE ngot ++ [o.mode]) _ _ _ _ _ _ HW9.out HF.out.zone HF.out.node HF.out.claim HF.out.volume HF.out.source (by have := L10.out; omega)).mono ?_
  intro e w10 h10
  obtain ⟨rfl, v10, hw, hu⟩ := h10
  have HW10 := Lib.hid hw
  have HU10 := Lib.hid (HU9.out.trans hu)
  have HX10 := Lib.hid (Upd.stays hu HX9.out HN.out (by decide))
  have hc10 := fun k => cell_of_row w10 w.heap.size k _ _ _ HX10.out
  clear hw hu hc9 L9
  go_wp2_with fail
  have L11 : Hid ((bs ++ [o.kind] ++ textE o.name ++ numE nversion ++ numE nborn ++ [flagE [o.deleting, o.hold, o.keep, o.wait]] ++ textE o.cls ++ numE nsize ++ numE ngot ++ [o.mode] ++ [o.zone, o.node, o.claim, o.volume, o.source].flatMap textE ++ [o.phase]).length ≤ 999999) := HP.out [[o.kind], textE o.name, numE nversion, numE nborn, [flagE [o.deleting, o.hold, o.keep, o.wait]], textE o.cls, numE nsize, numE ngot, [o.mode], [o.zone, o.node, o.claim, o.volume, o.source].flatMap textE, [o.phase]] (by simp [objE, eversion, eborn, enum, etag, esize, egot, Int.toNat_natCast]) (by simp)
  refine (byte_any g v10 (bs ++ [o.kind] ++ textE o.name ++ numE nversion ++ numE nborn ++ [flagE [o.deleting, o.hold, o.keep, o.wait]] ++ textE o.cls ++ numE nsize ++ numE ngot ++ [o.mode] ++ [o.zone, o.node, o.claim, o.volume, o.source].flatMap textE) _ _ HW10.out (by have := L10.out; omega)).mono ?_
  intro e w11 h11
  obtain ⟨rfl, v11, hw, hu⟩ := h11
  have HW11 := Lib.hid hw
  have HU11 := Lib.hid (HU10.out.trans hu)
  have HX11 := Lib.hid (Upd.stays hu HX10.out HN.out (by decide))
  have hc11 := fun k => cell_of_row w11 w.heap.size k _ _ _ HX11.out
  clear hw hu hc10 L10
  go_wp2_with fail
  have L12 : Hid ((bs ++ [o.kind] ++ textE o.name ++ numE nversion ++ numE nborn ++ [flagE [o.deleting, o.hold, o.keep, o.wait]] ++ textE o.cls ++ numE nsize ++ numE ngot ++ [o.mode] ++ [o.zone, o.node, o.claim, o.volume, o.source].flatMap textE ++ [o.phase] ++ numE nnum).length ≤ 999999) := HP.out [[o.kind], textE o.name, numE nversion, numE nborn, [flagE [o.deleting, o.hold, o.keep, o.wait]], textE o.cls, numE nsize, numE ngot, [o.mode], [o.zone, o.node, o.claim, o.volume, o.source].flatMap textE, [o.phase], numE nnum] (by simp [objE, eversion, eborn, enum, etag, esize, egot, Int.toNat_natCast]) (by simp)
  refine (number_any g v11 (bs ++ [o.kind] ++ textE o.name ++ numE nversion ++ numE nborn ++ [flagE [o.deleting, o.hold, o.keep, o.wait]] ++ textE o.cls ++ numE nsize ++ numE ngot ++ [o.mode] ++ [o.zone, o.node, o.claim, o.volume, o.source].flatMap textE ++ [o.phase]) nnum _ HW11.out (by have := HF.out.num; omega) (by have := L12.out; rw [List.length_append] at this; omega)).mono ?_
  intro e w12 h12
  obtain ⟨rfl, v12, hw, hu⟩ := h12
  have HW12 := Lib.hid hw
  have HU12 := Lib.hid (HU11.out.trans hu)
  have HX12 := Lib.hid (Upd.stays hu HX11.out HN.out (by decide))
  have hc12 := fun k => cell_of_row w12 w.heap.size k _ _ _ HX12.out
  clear hw hu hc11 L11
  go_wp2_with fail
  have L13 : Hid ((bs ++ [o.kind] ++ textE o.name ++ numE nversion ++ numE nborn ++ [flagE [o.deleting, o.hold, o.keep, o.wait]] ++ textE o.cls ++ numE nsize ++ numE ngot ++ [o.mode] ++ [o.zone, o.node, o.claim, o.volume, o.source].flatMap textE ++ [o.phase] ++ numE nnum ++ numE ntag).length ≤ 999999) := HP.out [[o.kind], textE o.name, numE nversion, numE nborn, [flagE [o.deleting, o.hold, o.keep, o.wait]], textE o.cls, numE nsize, numE ngot, [o.mode], [o.zone, o.node, o.claim, o.volume, o.source].flatMap textE, [o.phase], numE nnum, numE ntag] (by simp [objE, eversion, eborn, enum, etag, esize, egot, Int.toNat_natCast]) (by simp)
  refine (number_any g v12 (bs ++ [o.kind] ++ textE o.name ++ numE nversion ++ numE nborn ++ [flagE [o.deleting, o.hold, o.keep, o.wait]] ++ textE o.cls ++ numE nsize ++ numE ngot ++ [o.mode] ++ [o.zone, o.node, o.claim, o.volume, o.source].flatMap textE ++ [o.phase] ++ numE nnum) ntag _ HW12.out (by have := HF.out.tag; omega) (by have := L13.out; rw [List.length_append] at this; omega)).mono ?_
  intro e w13 h13
  obtain ⟨rfl, v13, hw, hu⟩ := h13
  have HW13 := Lib.hid hw
  have HU13 := Lib.hid (HU12.out.trans hu)
  have HX13 := Lib.hid (Upd.stays hu HX12.out HN.out (by decide))
  have hc13 := fun k => cell_of_row w13 w.heap.size k _ _ _ HX13.out
  clear hw hu hc12 L12
  go_wp2_with fail
  go_end0
  refine ⟨rfl, v13, ?_, HU13.out⟩
  have := HW13.out
  simp only [objE, eversion, eborn, enum, etag, esize, egot, Int.toNat_natCast, List.foldl_cons, List.foldl_nil]
  exact this
end Go.Proofs.Ythppjfhbdohmbaa
