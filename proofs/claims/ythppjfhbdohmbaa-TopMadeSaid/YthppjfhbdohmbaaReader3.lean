/- (*codec.reader).object: the contract of the Go function where the bytes are those of a right object. -/
import Derived.Test.YthppjfhbdohmbaaReader2
import Derived.Test.YthppjfhbdohmbaaCodec
namespace Go.Proofs.Ythppjfhbdohmbaa
open Go.RowKit

theorem rnum (g b : Nat) (n : Int) (rest : List Int) (w : World) (h : Rd w g b (numE n.toNat ++ rest)) (h0 : 0 ≤ n) (hn : n < 18446744073709551616) (hl : rest.length ≤ 800000) :
    Calls Try.prog 55 #[.pointer (some ⟨g, 0, none⟩)] w (Took w g b (.int .u64 n) rest) := by
  have := rnumber_any g b n.toNat rest w h (by omega) (by omega)
  rw [Int.toNat_of_nonneg h0] at this
  exact this
theorem rsize (g b : Nat) (n : Int) (rest : List Int) (w : World) (h : Rd w g b (numE n.toNat ++ rest)) (h0 : 0 ≤ n) (hn : n ≤ 1125899906842624) (hl : rest.length ≤ 800000) :
    Calls Try.prog 70 #[.pointer (some ⟨g, 0, none⟩)] w (Took w g b (.int .i64 n) rest) := by
  have := rsize_any g b n.toNat rest w h (by omega) (by omega)
  rw [Int.toNat_of_nonneg h0] at this
  exact this
theorem rbyte (g b : Nat) (c : Int) (rest : List Int) (w : World) (h : Rd w g b ([c] ++ rest)) (hl : rest.length ≤ 800000) :
    Calls Try.prog 56 #[.pointer (some ⟨g, 0, none⟩)] w (Took w g b (.int .u8 c) rest) := rbyte_any g b c rest w h (by simp; omega)

/-- Between two steps of the reader's object: what is read so far lies in the new block, the reader stands before rest. -/
structure RSt (w : World) (g b : Nat) (o : Obj) (rest : List Int) (wi : World) : Prop where
  row : wi.heap[w.heap.size]? = some (.cells o.cells 27)
  rd : Rd wi g b rest
  upd : Upd (fun k => k = g) w wi (fun k => k = g)
  len : rest.length ≤ 100000
theorem Rd.keep {w w' : World} {g b : Nat} {bs : List Int} (h : Rd w g b bs) (hg : w'.heap[g]? = w.heap[g]?) (hb : w'.heap[b]? = w.heap[b]?) : Rd w' g b bs := by
  obtain ⟨o, cap, hh, hle, hne, hc⟩ := h
  exact ⟨o, cap, by rw [hg]; exact hh, hle, hne, fun i c hi => by have := hc i c hi; simp only [World.cell?, hb] at this ⊢; exact this⟩
theorem RSt.took {w wi wj : World} {g b : Nat} {o : Obj} {p rest : List Int} {v : Value} {e : Ending} (h : RSt w g b o (p ++ rest) wi) (hg : g < w.heap.size) (k : Took wi g b v rest e wj) : e = .returned v ∧ RSt w g b o rest wj := by
  obtain ⟨he, hr, ht⟩ := k
  refine ⟨he, ?_, hr, h.upd.trans ⟨ht.os, ht.tape, ht.output, by rw [ht.size]; exact Nat.le_refl _, fun k _ hk => ht.block k hk, fun k hk => .inl hk⟩, by have := h.len; simp only [List.length_append] at this; omega⟩
  rw [ht.block _ (by omega)]; exact h.row
theorem RSt.set {w wi : World} {g b : Nat} {o o' : Obj} {rest : List Int} (h : RSt w g b o rest wi) (hg : g < w.heap.size) (hb : b < w.heap.size) (i : Nat) (v : Value) (ho : o.cells.setIfInBounds i v = o'.cells) : RSt w g b o' rest (wi.setCell ⟨w.heap.size, i, none⟩ v) := by
  refine ⟨by rw [heap_setCell_same _ _ _ _ _ _ h.row, ho], h.rd.keep (Below.heap_setCell _ _ _ _ (by simp; omega)) (Below.heap_setCell _ _ _ _ (by simp; omega)), ?_, h.len⟩
  have hu := h.upd
  exact ⟨hu.os, hu.tape, hu.output, by simpa using hu.size, fun k hk hf => (Below.heap_setCell _ _ _ _ (by simp; omega)).trans (hu.block k hk hf), hu.foot⟩
theorem RSt.short {w wi : World} {g b : Nat} {o : Obj} {p rest : List Int} (h : RSt w g b o (p ++ rest) wi) : rest.length ≤ 800000 := by
  have := h.len
  simp only [List.length_append] at this
  omega
theorem RSt.rules {w wi : World} {g b : Nat} {o : Obj} {rest : List Int} (h : RSt w g b o rest wi) : (∀ i, wi.cell? ⟨w.heap.size, i, none⟩ = o.cells[i]?) ∧ (∀ i, wi.frozen? ⟨w.heap.size, i, none⟩ = false) ∧ wi.rowAt? w.heap.size 0 20 = some o.cells ∧ wi.rowFree w.heap.size 0 20 = true := by
  refine ⟨fun i => cell_of_row wi w.heap.size i o.cells _ _ h.row, fun i => frozen_of_row wi w.heap.size i _ _ h.row, ?_, ?_⟩
  · rw [World.rowAt?_of _ _ _ h.row]; exact Obj.row o
  · rw [World.rowFree_of _ _ _ h.row]; rfl

def readE (o : Obj) : List Int := ([o.kind] ++ (textE o.name ++ (numE o.version.toNat ++ (numE o.born.toNat ++ ([flagE [o.deleting, o.hold, o.keep, o.wait]] ++ (textE o.cls ++ (numE o.size.toNat ++ (numE o.got.toNat ++ ([o.mode] ++ (textE o.zone ++ (textE o.node ++ (textE o.claim ++ (textE o.volume ++ (textE o.source ++ ([o.phase] ++ (numE o.num.toNat ++ (numE o.tag.toNat ++ ([] : List Int))))))))))))))))))
theorem readE_eq (o : Obj) : bytesE o = readE o := by simp [bytesE, objE, readE, List.append_assoc]
theorem bytes_short (o : Obj) (h : o.Fit) : (bytesE o).length ≤ 100000 := by
  have := foldl_len (objE o) [] 0 5050 (by simp) (len_objE o h)
  have h2 : (objE o).length = 13 := rfl
  unfold bytesE
  omega
theorem flag_bits : ∀ a b c d : Bool, decide (0 < bits .and .u8 (flagE [a, b, c, d]) 1) = a ∧ decide (0 < bits .and .u8 (flagE [a, b, c, d]) 2) = b ∧ decide (0 < bits .and .u8 (flagE [a, b, c, d]) 4) = c ∧ decide (0 < bits .and .u8 (flagE [a, b, c, d]) 8) = d := by decide
structure Obj.Small (o : Obj) : Prop where
  name : o.name.size ≤ 40
  cls : o.cls.size ≤ 40
  zone : o.zone.size ≤ 40
  node : o.node.size ≤ 40
  claim : o.claim.size ≤ 40
  volume : o.volume.size ≤ 40
  source : o.source.size ≤ 40
  size : o.size ≤ 1125899906842624
  got : o.got ≤ 1125899906842624
theorem nameFits (o : Obj) (hr : rightB o = true) : o.Small := by
  simp only [rightB, baseB, namesB, Obj.texts, List.all_cons, List.all_nil, Bool.and_true, Bool.and_eq_true, sizeB, decide_eq_true_eq] at hr
  obtain ⟨⟨⟨⟨⟨h1, h2⟩, n1, n2, n3, n4, n5, n6⟩, s1, s2⟩, s3, s4⟩, hk⟩ := hr
  have m := fun s h => size_of_nameOr' s h
  have hn : o.name.size ≤ 40 := by
    simp only [nameL, Bool.and_eq_true, decide_eq_true_eq] at h1
    have := h1.2
    simpa using this
  exact ⟨hn, m _ n1, m _ n2, m _ n3, m _ n4, m _ n5, m _ n6, s2, s4⟩
theorem results37 (tmps : Array Value) (w : World) (g : Nat) (cs : Array Value) (hp : tmps.getD 2 undef = .pointer (some ⟨g, 0, none⟩)) (hg : w.heap[g]? = some (.cells cs 27)) (hs : cs.size = 20) :
    (results Try.f37 tmps).run Try.prog w = .ok (.agg cs) w :=
  results_cell_row rfl tmps w g 27 cs (0, 0) _ hp hg Try.underlying27 rfl (by rw [hs]; kernel_rfl)

set_option maxRecDepth 100000 in
set_option maxHeartbeats 4000000 in
theorem robject_any (g b : Nat) (o : Obj) (w : World) (h : Rd w g b (bytesE o)) (hw : o.Wf) (hr : rightB o = true) (hg : g < w.heap.size) (hb : b < w.heap.size) :
    Calls Try.prog 37 #[.pointer (some ⟨g, 0, none⟩)] w fun e w' => e = .returned (.agg o.cells) ∧ Rd w' g b [] ∧ Upd (fun k => k = g) w w' (fun k => k = g) := by
  have HF := Lib.hid (Obj.Fit.of hw hr)
  have HS := Lib.hid (bytes_short o (Obj.Fit.of hw hr))
  rw [readE_eq] at h
  unfold Hid at HS
  rw [readE_eq] at HS
  have HL := Lib.hid HS
  clear HS
  have HS := Lib.hid (nameFits o hr)
  have HD := Lib.hid h
  have HW := Lib.hid hw
  have HR := Lib.hid hr
  clear h hw hr
  unfold readE at HD HL
  go_enter Try.func37, Try.ntmps37
  go_wp2_with fail
  have HC : Hid (RSt w g b (⟨0, es, 0, 0, false, false, es, 0, 0, 0, false, false, es, es, es, es, es, 0, 0, 0⟩ : Obj) ([o.kind] ++ (textE o.name ++ (numE o.version.toNat ++ (numE o.born.toNat ++ ([flagE [o.deleting, o.hold, o.keep, o.wait]] ++ (textE o.cls ++ (numE o.size.toNat ++ (numE o.got.toNat ++ ([o.mode] ++ (textE o.zone ++ (textE o.node ++ (textE o.claim ++ (textE o.volume ++ (textE o.source ++ ([o.phase] ++ (numE o.num.toNat ++ (numE o.tag.toNat ++ ([] : List Int)))))))))))))))))) (w.alloc (.cells (⟨0, es, 0, 0, false, false, es, 0, 0, 0, false, false, es, es, es, es, es, 0, 0, 0⟩ : Obj).cells 27))) :=
    ⟨heap?_alloc_at _ _ _ rfl, HD.out.keep (Below.heap_alloc _ _ _ hg) (Below.heap_alloc _ _ _ hb), Upd.alloc _ _ _, HL.out⟩
  clear HD
  refine (rbyte g b o.kind _ _ HC.out.rd HC.out.short).mono ?_
  rintro e w1 ht
  obtain ⟨rfl, hs⟩ := HC.out.took hg ht
  clear HC ht
  have HC := Lib.hid hs
  clear hs
  go_wp2_with fail
  refine (rtext_any g b o.name _ _ HC.out.rd HS.out.name HC.out.short).mono ?_
  rintro e w2 ht
  obtain ⟨rfl, hs⟩ := HC.out.took hg ht
  clear HC ht
  have HC := Lib.hid hs
  clear hs
  obtain ⟨hc, hf, _, _⟩ := HC.out.rules
  go_wp2_with fail
  have HC' := Lib.hid (RSt.set ((RSt.set (HC.out) hg hb 0 (.int .u8 o.kind) (Obj.set_0 _ _))) hg hb 1 (.string o.name) (Obj.set_1 _ _))
  clear HC hc hf
  have HC := HC'
  clear HC'
  refine (rnum g b o.version _ _ HC.out.rd HF.out.version.1 HF.out.version.2 HC.out.short).mono ?_
  rintro e w3 ht
  obtain ⟨rfl, hs⟩ := HC.out.took hg ht
  clear HC ht
  have HC := Lib.hid hs
  clear hs
  go_wp2_with fail
  refine (rnum g b o.born _ _ HC.out.rd HF.out.born.1 HF.out.born.2 HC.out.short).mono ?_
  rintro e w4 ht
  obtain ⟨rfl, hs⟩ := HC.out.took hg ht
  clear HC ht
  have HC := Lib.hid hs
  clear hs
  obtain ⟨hc, hf, _, _⟩ := HC.out.rules
  go_wp2_with fail
  have HC' := Lib.hid (RSt.set ((RSt.set (HC.out) hg hb 2 (.int .u64 o.version) (Obj.set_2 _ _))) hg hb 3 (.int .u64 o.born) (Obj.set_3 _ _))
  clear HC hc hf
  have HC := HC'
  clear HC'
  refine (rbyte g b (flagE [o.deleting, o.hold, o.keep, o.wait]) _ _ HC.out.rd HC.out.short).mono ?_
  rintro e w5 ht
  obtain ⟨rfl, hs⟩ := HC.out.took hg ht
  clear HC ht
  have HC := Lib.hid hs
  clear hs
  have hfl := flag_bits o.deleting o.hold o.keep o.wait
  have hfn := flagE_nonneg [o.deleting, o.hold, o.keep, o.wait]
  have hfl2 := flagE_lt [o.deleting, o.hold, o.keep, o.wait]
  simp only [List.length_cons, List.length_nil] at hfl2
  have hfl3 : flagE [o.deleting, o.hold, o.keep, o.wait] < 16 := by omega
  clear hfl2
  generalize flagE [o.deleting, o.hold, o.keep, o.wait] = fl at *
  obtain ⟨hf1, hf2, hf3, hf4⟩ := hfl
  obtain ⟨hc, hf, _, _⟩ := HC.out.rules
  go_wp2_with (go_at_call 57; refine (must_any _).mono ?_; rintro e w' ⟨rfl, rfl⟩)
  have HC' := Lib.hid (RSt.set ((RSt.set ((RSt.set ((RSt.set (HC.out) hg hb 4 (.bool o.deleting) (Obj.set_4 _ _))) hg hb 5 (.bool o.hold) (Obj.set_5 _ _))) hg hb 10 (.bool o.keep) (Obj.set_10 _ _))) hg hb 11 (.bool o.wait) (Obj.set_11 _ _))
  clear HC hc hf
  have HC := HC'
  clear HC'
  refine (rtext_any g b o.cls _ _ HC.out.rd HS.out.cls HC.out.short).mono ?_
  rintro e w6 ht
  obtain ⟨rfl, hs⟩ := HC.out.took hg ht
  clear HC ht
  have HC := Lib.hid hs
  clear hs
  go_wp2_with fail
  refine (rsize g b o.size _ _ HC.out.rd HF.out.size.1 HS.out.size HC.out.short).mono ?_
  rintro e w7 ht
  obtain ⟨rfl, hs⟩ := HC.out.took hg ht
  clear HC ht
  have HC := Lib.hid hs
  clear hs
  go_wp2_with fail
  refine (rsize g b o.got _ _ HC.out.rd HF.out.got.1 HS.out.got HC.out.short).mono ?_
  rintro e w8 ht
  obtain ⟨rfl, hs⟩ := HC.out.took hg ht
  clear HC ht
  have HC := Lib.hid hs
  clear hs
  obtain ⟨hc, hf, _, _⟩ := HC.out.rules
  go_wp2_with fail
  have HC' := Lib.hid (RSt.set ((RSt.set ((RSt.set (HC.out) hg hb 6 (.string o.cls) (Obj.set_6 _ _))) hg hb 7 (.int .i64 o.size) (Obj.set_7 _ _))) hg hb 8 (.int .i64 o.got) (Obj.set_8 _ _))
  clear HC hc hf
  have HC := HC'
  clear HC'
  refine (rbyte g b o.mode _ _ HC.out.rd HC.out.short).mono ?_
  rintro e w9 ht
  obtain ⟨rfl, hs⟩ := HC.out.took hg ht
  clear HC ht
  have HC := Lib.hid hs
  clear hs
  obtain ⟨hc, hf, _, _⟩ := HC.out.rules
  go_wp2_with fail
  have HC' := Lib.hid (RSt.set (HC.out) hg hb 9 (.int .u8 o.mode) (Obj.set_9 _ _))
  clear HC hc hf
  have HC := HC'
  clear HC'
  refine (rtext_any g b o.zone _ _ HC.out.rd HS.out.zone HC.out.short).mono ?_
  rintro e w10 ht
  obtain ⟨rfl, hs⟩ := HC.out.took hg ht
  clear HC ht
  have HC := Lib.hid hs
  clear hs
  go_wp2_with fail
  refine (rtext_any g b o.node _ _ HC.out.rd HS.out.node HC.out.short).mono ?_
  rintro e w11 ht
  obtain ⟨rfl, hs⟩ := HC.out.took hg ht
  clear HC ht
  have HC := Lib.hid hs
  clear hs
  go_wp2_with fail
  refine (rtext_any g b o.claim _ _ HC.out.rd HS.out.claim HC.out.short).mono ?_
  rintro e w12 ht
  obtain ⟨rfl, hs⟩ := HC.out.took hg ht
  clear HC ht
  have HC := Lib.hid hs
  clear hs
  go_wp2_with fail
  refine (rtext_any g b o.volume _ _ HC.out.rd HS.out.volume HC.out.short).mono ?_
  rintro e w13 ht
  obtain ⟨rfl, hs⟩ := HC.out.took hg ht
  clear HC ht
  have HC := Lib.hid hs
  clear hs
  go_wp2_with fail
  refine (rtext_any g b o.source _ _ HC.out.rd HS.out.source HC.out.short).mono ?_
  rintro e w14 ht
  obtain ⟨rfl, hs⟩ := HC.out.took hg ht
  clear HC ht
  have HC := Lib.hid hs
  clear hs
  obtain ⟨hc, hf, _, _⟩ := HC.out.rules
  go_wp2_with fail
  have HC' := Lib.hid (RSt.set ((RSt.set ((RSt.set ((RSt.set ((RSt.set (HC.out) hg hb 12 (.string o.zone) (Obj.set_12 _ _))) hg hb 13 (.string o.node) (Obj.set_13 _ _))) hg hb 14 (.string o.claim) (Obj.set_14 _ _))) hg hb 15 (.string o.volume) (Obj.set_15 _ _))) hg hb 16 (.string o.source) (Obj.set_16 _ _))
  clear HC hc hf
  have HC := HC'
  clear HC'
  refine (rbyte g b o.phase _ _ HC.out.rd HC.out.short).mono ?_
  rintro e w15 ht
  obtain ⟨rfl, hs⟩ := HC.out.took hg ht
  clear HC ht
  have HC := Lib.hid hs
  clear hs
  obtain ⟨hc, hf, _, _⟩ := HC.out.rules
  go_wp2_with fail
  have HC' := Lib.hid (RSt.set (HC.out) hg hb 17 (.int .u8 o.phase) (Obj.set_17 _ _))
  clear HC hc hf
  have HC := HC'
  clear HC'
  refine (rnum g b o.num _ _ HC.out.rd HF.out.num.1 HF.out.num.2 HC.out.short).mono ?_
  rintro e w16 ht
  obtain ⟨rfl, hs⟩ := HC.out.took hg ht
  clear HC ht
  have HC := Lib.hid hs
  clear hs
  go_wp2_with fail
  refine (rnum g b o.tag _ _ HC.out.rd HF.out.tag.1 HF.out.tag.2 HC.out.short).mono ?_
  rintro e w17 ht
  obtain ⟨rfl, hs⟩ := HC.out.took hg ht
  clear HC ht
  have HC := Lib.hid hs
  clear hs
  obtain ⟨hc, hf, _, _⟩ := HC.out.rules
  have HC2 := Lib.hid (show RSt w g b o ([] : List Int) _ from (RSt.set ((RSt.set (HC.out) hg hb 18 (.int .u64 o.num) (Obj.set_18 _ _))) hg hb 19 (.int .u64 o.tag) (Obj.set_19 _ _)))
  obtain ⟨_, _, hrow, _⟩ := HC2.out.rules
  go_wp2_with fail
  refine (right_any o _ HW.out).mono ?_
  rintro e w30 ⟨rfl, hb3⟩
  rw [HR.out]
  have HB3 := Lib.hid hb3
  have hsz := HC2.out.upd.size
  have hD := HC2.out.row
  have hDl := (Array.getElem?_eq_some_iff.1 hD).1
  have HD3 := Lib.hid ((hb3.block _ hDl).trans hD)
  have hrow3 : w30.rowAt? w.heap.size 0 20 = some o.cells := by rw [World.rowAt?_of _ _ _ HD3.out]; exact Obj.row o
  have hfree3 : w30.rowFree w.heap.size 0 20 = true := by rw [World.rowFree_of _ _ _ HD3.out]; rfl
  have HG : Hid (Rd w30 g b [] ∧ Upd (fun k => k = g) w (w30.putRow w.heap.size 0 o.cells) (fun k => k = g)) := by
    have hgl : g < w30.heap.size := by have := hb3.size; omega
    refine ⟨HC2.out.rd.keep (hb3.block _ (by omega)) (hb3.block _ (by omega)), ?_⟩
    have hu := HC2.out.upd.trans (Upd.of_below hb3 _)
    exact ⟨hu.os, hu.tape, hu.output, by simpa using hu.size, fun k hk hf => (World.heap_putRow_other _ _ _ _ (by omega)).trans (hu.block k hk hf), fun k hk => .inl hk⟩
  clear hb3 hsz hD hDl hrow
  go_wp2_with (go_at_call 57; refine (must_any _).mono ?_; rintro e w' ⟨rfl, rfl⟩)
  refine bodyPost_ret (results37 _ _ w.heap.size _ rfl (World.heap_putRow_same _ _ _ HD3.out) (by rw [Obj.over]; rfl)) rfl ⟨by rw [Obj.over], ?_, HG.out.2⟩
  exact HG.out.1.keep (World.heap_putRow_other _ _ _ _ (by omega)) (World.heap_putRow_other _ _ _ _ (by omega))
end Go.Proofs.Ythppjfhbdohmbaa
