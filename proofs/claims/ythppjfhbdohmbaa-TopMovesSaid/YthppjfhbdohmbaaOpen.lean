/- Go structs of plain fields as the form's data: opened and shut. -/
import Derived.Test.YthppjfhbdohmbaaStructLaws
import Derived.Deep.Fields
import Derived.Lib.SmallJoins
import Derived.ChangeSame
namespace Go.Proofs.Ythppjfhbdohmbaa
open Go.ChangeShapes Go.WideShapes Go.ChangeAt Go.RowKit Go.Deep

section
variable {H : Type} {enc : TypeId × Value → H} {P : Program} {w : World} {base : Nat} {spare : Nat → Bool} {held : Bool}
theorem fieldAt {fs : Array Field} {n : Nat} {cs : List Value} {xs : List (DataW H × List MemPlace)} {T : TypeId} {c : Value} {y : DataW H × List MemPlace} (hone : oneCellFields P fs = true)
    (hf : ∀ (i : Nat) (f : Field), fs[i]? = some f → DataW.trod enc P w base spare held n f.type ((cs.drop f.offset).take (P.cellsOf f.type)) = xs[i]?) (i : Nat) (f : Field) (hfi : fs[i]? = some f) (hT : f.type = T) (hc : cs[i]? = some c) (hy : xs[i]? = some y) :
    DataW.trod enc P w base spare held n T [c] = some y := by
  obtain ⟨ho, hk⟩ := hone_of hone i f hfi
  have h := hf i f hfi
  rw [ho, hk, hy, hT] at h
  have hi : i < cs.length := (List.getElem?_eq_some_iff.1 hc).1
  have he : cs[i] = c := (List.getElem?_eq_some_iff.1 hc).2
  rw [List.drop_eq_getElem_cons hi, he] at h
  exact h
theorem mapM_some_mk {α β : Type} (g : α → Option β) (l : List α) (xs : List β) (hl : xs.length = l.length) (h : ∀ (i : Nat) (a : α) (y : β), l[i]? = some a → xs[i]? = some y → g a = some y) : l.mapM g = some xs := by
  induction l generalizing xs with
  | nil => cases xs with
    | nil => rfl
    | cons x xs => simp at hl
  | cons a l ih =>
    cases xs with
    | nil => simp at hl
    | cons x xs =>
      rw [List.mapM_cons, h 0 a x rfl rfl, ih xs (by simpa using hl) (fun i a y h1 h2 => h (i + 1) a y (by simpa using h1) (by simpa using h2))]
      rfl
theorem mapM_fields {fs : Array Field} {n : Nat} {cs : List Value} {xs : List (DataW H × List MemPlace)} (hone : oneCellFields P fs = true) (hl : cs.length = fs.size) (hx : xs.length = fs.size)
    (h : ∀ (i : Nat) (f : Field) (c : Value) (y : DataW H × List MemPlace), fs[i]? = some f → cs[i]? = some c → xs[i]? = some y → DataW.trod enc P w base spare held n f.type [c] = some y) :
    fs.toList.mapM (fun f => DataW.trod enc P w base spare held n f.type ((cs.drop f.offset).take (P.cellsOf f.type))) = some xs := by
  refine mapM_some_mk _ _ _ (by simpa using hx) (fun i f y hf hy => ?_)
  have hf' : fs[i]? = some f := by simpa using hf
  obtain ⟨ho, hk⟩ := hone_of hone i f hf'
  have hi : i < cs.length := by have := (Array.getElem?_eq_some_iff.1 hf').1; omega
  rw [ho, hk, List.drop_eq_getElem_cons hi]
  exact h i f cs[i] y hf' (List.getElem?_eq_getElem hi) hy
theorem lit_int {t : TypeId} {k : IntKind} {n : Int} (ht : P.underlying t = some (.int k)) (h : (Lit.int k n).wf = true) : DataW.trod enc P w base spare held 1 t [.int k n] = some (.lit (.int k n), []) := trod_int_mk 0 ht h
theorem lit_bool {t : TypeId} {b : Bool} (ht : P.underlying t = some .bool) : DataW.trod enc P w base spare held 1 t [.bool b] = some (.lit (.bool b), []) := by simp [DataW.trod, ht]
theorem lit_string {t : TypeId} {s : ByteArray} (ht : P.underlying t = some .string) (h : s.size ≤ maxLen) : DataW.trod enc P w base spare held 1 t [.string s] = some (.lit (.string s.data.toList), []) := by simp [DataW.trod, ht, h]
end

def Obj.datum {H : Type} (x : Obj) : DataW H := .agg [.lit (.int .u8 x.kind), .lit (.string x.name.data.toList), .lit (.int .u64 x.version), .lit (.int .u64 x.born), .lit (.bool x.deleting), .lit (.bool x.hold), .lit (.string x.cls.data.toList), .lit (.int .i64 x.size), .lit (.int .i64 x.got), .lit (.int .u8 x.mode), .lit (.bool x.keep), .lit (.bool x.wait), .lit (.string x.zone.data.toList), .lit (.string x.node.data.toList), .lit (.string x.claim.data.toList), .lit (.string x.volume.data.toList), .lit (.string x.source.data.toList), .lit (.int .u8 x.phase), .lit (.int .u64 x.num), .lit (.int .u64 x.tag)]
def Obj.Lits (x : Obj) : Prop := (Lit.int .u8 x.kind).wf = true ∧ x.name.size ≤ maxLen ∧ (Lit.int .u64 x.version).wf = true ∧ (Lit.int .u64 x.born).wf = true ∧ x.cls.size ≤ maxLen ∧ (Lit.int .i64 x.size).wf = true ∧ (Lit.int .i64 x.got).wf = true ∧ (Lit.int .u8 x.mode).wf = true ∧ x.zone.size ≤ maxLen ∧ x.node.size ≤ maxLen ∧ x.claim.size ≤ maxLen ∧ x.volume.size ≤ maxLen ∧ x.source.size ≤ maxLen ∧ (Lit.int .u8 x.phase).wf = true ∧ (Lit.int .u64 x.num).wf = true ∧ (Lit.int .u64 x.tag).wf = true
set_option maxRecDepth 100000 in
set_option maxHeartbeats 1000000 in
theorem Obj.trod {H : Type} {enc : TypeId × Value → H} {w : World} {base : Nat} {spare : Nat → Bool} {held : Bool} {fuel : Nat} {cs : List Value} {x : DataW H × List MemPlace} (h : DataW.trod enc Try.prog w base spare held fuel 27 cs = some x) :
    ∃ o : Obj, cs = o.cells.toList ∧ x = (o.datum, []) ∧ o.Lits := by
  obtain ⟨xs, n, hn, hx, hl, hxl, hf⟩ := DataW.trod_struct Try.underlying27 h
  have hl' : cs.length = 20 := hl.trans (by kernel_rfl)
  have hxl' : xs.length = 20 := hxl
  match cs, hl', xs, hxl' with
  | [c0, c1, c2, c3, c4, c5, c6, c7, c8, c9, c10, c11, c12, c13, c14, c15, c16, c17, c18, c19], _, [y0, y1, y2, y3, y4, y5, y6, y7, y8, y9, y10, y11, y12, y13, y14, y15, y16, y17, y18, y19], _ =>
    have h0 := fieldAt (T := 22) (c := c0) (y := y0) (by kernel_rfl) hf 0 _ rfl rfl rfl rfl
    have h1 := fieldAt (T := 9) (c := c1) (y := y1) (by kernel_rfl) hf 1 _ rfl rfl rfl rfl
    have h2 := fieldAt (T := 23) (c := c2) (y := y2) (by kernel_rfl) hf 2 _ rfl rfl rfl rfl
    have h3 := fieldAt (T := 23) (c := c3) (y := y3) (by kernel_rfl) hf 3 _ rfl rfl rfl rfl
    have h4 := fieldAt (T := 4) (c := c4) (y := y4) (by kernel_rfl) hf 4 _ rfl rfl rfl rfl
    have h5 := fieldAt (T := 4) (c := c5) (y := y5) (by kernel_rfl) hf 5 _ rfl rfl rfl rfl
    have h6 := fieldAt (T := 9) (c := c6) (y := y6) (by kernel_rfl) hf 6 _ rfl rfl rfl rfl
    have h7 := fieldAt (T := 2) (c := c7) (y := y7) (by kernel_rfl) hf 7 _ rfl rfl rfl rfl
    have h8 := fieldAt (T := 2) (c := c8) (y := y8) (by kernel_rfl) hf 8 _ rfl rfl rfl rfl
    have h9 := fieldAt (T := 24) (c := c9) (y := y9) (by kernel_rfl) hf 9 _ rfl rfl rfl rfl
    have h10 := fieldAt (T := 4) (c := c10) (y := y10) (by kernel_rfl) hf 10 _ rfl rfl rfl rfl
    have h11 := fieldAt (T := 4) (c := c11) (y := y11) (by kernel_rfl) hf 11 _ rfl rfl rfl rfl
    have h12 := fieldAt (T := 9) (c := c12) (y := y12) (by kernel_rfl) hf 12 _ rfl rfl rfl rfl
    have h13 := fieldAt (T := 9) (c := c13) (y := y13) (by kernel_rfl) hf 13 _ rfl rfl rfl rfl
    have h14 := fieldAt (T := 9) (c := c14) (y := y14) (by kernel_rfl) hf 14 _ rfl rfl rfl rfl
    have h15 := fieldAt (T := 9) (c := c15) (y := y15) (by kernel_rfl) hf 15 _ rfl rfl rfl rfl
    have h16 := fieldAt (T := 9) (c := c16) (y := y16) (by kernel_rfl) hf 16 _ rfl rfl rfl rfl
    have h17 := fieldAt (T := 25) (c := c17) (y := y17) (by kernel_rfl) hf 17 _ rfl rfl rfl rfl
    have h18 := fieldAt (T := 23) (c := c18) (y := y18) (by kernel_rfl) hf 18 _ rfl rfl rfl rfl
    have h19 := fieldAt (T := 23) (c := c19) (y := y19) (by kernel_rfl) hf 19 _ rfl rfl rfl rfl
    clear hf h
    obtain ⟨a0, e0, rfl, w0⟩ := DataW.trod_int Try.underlying22 h0
    obtain rfl : c0 = .int .u8 a0 := List.singleton_inj.1 e0
    obtain ⟨a1, e1, rfl, w1⟩ := DataW.trod_string Try.underlying9 h1
    obtain rfl : c1 = .string a1 := List.singleton_inj.1 e1
    obtain ⟨a2, e2, rfl, w2⟩ := DataW.trod_int Try.underlying23 h2
    obtain rfl : c2 = .int .u64 a2 := List.singleton_inj.1 e2
    obtain ⟨a3, e3, rfl, w3⟩ := DataW.trod_int Try.underlying23 h3
    obtain rfl : c3 = .int .u64 a3 := List.singleton_inj.1 e3
    obtain ⟨a4, e4, rfl⟩ := DataW.trod_bool Try.underlying4 h4
    obtain rfl : c4 = .bool a4 := List.singleton_inj.1 e4
    obtain ⟨a5, e5, rfl⟩ := DataW.trod_bool Try.underlying4 h5
    obtain rfl : c5 = .bool a5 := List.singleton_inj.1 e5
    obtain ⟨a6, e6, rfl, w6⟩ := DataW.trod_string Try.underlying9 h6
    obtain rfl : c6 = .string a6 := List.singleton_inj.1 e6
    obtain ⟨a7, e7, rfl, w7⟩ := DataW.trod_int Try.underlying2 h7
    obtain rfl : c7 = .int .i64 a7 := List.singleton_inj.1 e7
    obtain ⟨a8, e8, rfl, w8⟩ := DataW.trod_int Try.underlying2 h8
    obtain rfl : c8 = .int .i64 a8 := List.singleton_inj.1 e8
    obtain ⟨a9, e9, rfl, w9⟩ := DataW.trod_int Try.underlying24 h9
    obtain rfl : c9 = .int .u8 a9 := List.singleton_inj.1 e9
    obtain ⟨a10, e10, rfl⟩ := DataW.trod_bool Try.underlying4 h10
    obtain rfl : c10 = .bool a10 := List.singleton_inj.1 e10
    obtain ⟨a11, e11, rfl⟩ := DataW.trod_bool Try.underlying4 h11
    obtain rfl : c11 = .bool a11 := List.singleton_inj.1 e11
    obtain ⟨a12, e12, rfl, w12⟩ := DataW.trod_string Try.underlying9 h12
    obtain rfl : c12 = .string a12 := List.singleton_inj.1 e12
    obtain ⟨a13, e13, rfl, w13⟩ := DataW.trod_string Try.underlying9 h13
    obtain rfl : c13 = .string a13 := List.singleton_inj.1 e13
    obtain ⟨a14, e14, rfl, w14⟩ := DataW.trod_string Try.underlying9 h14
    obtain rfl : c14 = .string a14 := List.singleton_inj.1 e14
    obtain ⟨a15, e15, rfl, w15⟩ := DataW.trod_string Try.underlying9 h15
    obtain rfl : c15 = .string a15 := List.singleton_inj.1 e15
    obtain ⟨a16, e16, rfl, w16⟩ := DataW.trod_string Try.underlying9 h16
    obtain rfl : c16 = .string a16 := List.singleton_inj.1 e16
    obtain ⟨a17, e17, rfl, w17⟩ := DataW.trod_int Try.underlying25 h17
    obtain rfl : c17 = .int .u8 a17 := List.singleton_inj.1 e17
    obtain ⟨a18, e18, rfl, w18⟩ := DataW.trod_int Try.underlying23 h18
    obtain rfl : c18 = .int .u64 a18 := List.singleton_inj.1 e18
    obtain ⟨a19, e19, rfl, w19⟩ := DataW.trod_int Try.underlying23 h19
    obtain rfl : c19 = .int .u64 a19 := List.singleton_inj.1 e19
    exact ⟨⟨a0, a1, a2, a3, a4, a5, a6, a7, a8, a9, a10, a11, a12, a13, a14, a15, a16, a17, a18, a19⟩, rfl, hx, w0, w1, w2, w3, w6, w7, w8, w9, w12, w13, w14, w15, w16, w17, w18, w19⟩
set_option maxRecDepth 100000 in
set_option maxHeartbeats 1000000 in
theorem Obj.trod_mk {H : Type} {enc : TypeId × Value → H} {w : World} {base : Nat} {spare : Nat → Bool} {held : Bool} (o : Obj) (h : o.Lits) : DataW.trod enc Try.prog w base spare held 2 27 o.cells.toList = some (o.datum, []) := by
  obtain ⟨a0, a1, a2, a3, a4, a5, a6, a7, a8, a9, a10, a11, a12, a13, a14, a15, a16, a17, a18, a19⟩ := o
  obtain ⟨h0, h1, h2, h3, h6, h7, h8, h9, h12, h13, h14, h15, h16, h17, h18, h19⟩ := h
  have f0 : DataW.trod enc Try.prog w base spare held 1 22 [.int .u8 a0] = some (.lit (.int .u8 a0), []) := lit_int Try.underlying22 h0
  have f1 : DataW.trod enc Try.prog w base spare held 1 9 [.string a1] = some (.lit (.string a1.data.toList), []) := lit_string Try.underlying9 h1
  have f2 : DataW.trod enc Try.prog w base spare held 1 23 [.int .u64 a2] = some (.lit (.int .u64 a2), []) := lit_int Try.underlying23 h2
  have f3 : DataW.trod enc Try.prog w base spare held 1 23 [.int .u64 a3] = some (.lit (.int .u64 a3), []) := lit_int Try.underlying23 h3
  have f4 : DataW.trod enc Try.prog w base spare held 1 4 [.bool a4] = some (.lit (.bool a4), []) := lit_bool Try.underlying4
  have f5 : DataW.trod enc Try.prog w base spare held 1 4 [.bool a5] = some (.lit (.bool a5), []) := lit_bool Try.underlying4
  have f6 : DataW.trod enc Try.prog w base spare held 1 9 [.string a6] = some (.lit (.string a6.data.toList), []) := lit_string Try.underlying9 h6
  have f7 : DataW.trod enc Try.prog w base spare held 1 2 [.int .i64 a7] = some (.lit (.int .i64 a7), []) := lit_int Try.underlying2 h7
  have f8 : DataW.trod enc Try.prog w base spare held 1 2 [.int .i64 a8] = some (.lit (.int .i64 a8), []) := lit_int Try.underlying2 h8
  have f9 : DataW.trod enc Try.prog w base spare held 1 24 [.int .u8 a9] = some (.lit (.int .u8 a9), []) := lit_int Try.underlying24 h9
  have f10 : DataW.trod enc Try.prog w base spare held 1 4 [.bool a10] = some (.lit (.bool a10), []) := lit_bool Try.underlying4
  have f11 : DataW.trod enc Try.prog w base spare held 1 4 [.bool a11] = some (.lit (.bool a11), []) := lit_bool Try.underlying4
  have f12 : DataW.trod enc Try.prog w base spare held 1 9 [.string a12] = some (.lit (.string a12.data.toList), []) := lit_string Try.underlying9 h12
  have f13 : DataW.trod enc Try.prog w base spare held 1 9 [.string a13] = some (.lit (.string a13.data.toList), []) := lit_string Try.underlying9 h13
  have f14 : DataW.trod enc Try.prog w base spare held 1 9 [.string a14] = some (.lit (.string a14.data.toList), []) := lit_string Try.underlying9 h14
  have f15 : DataW.trod enc Try.prog w base spare held 1 9 [.string a15] = some (.lit (.string a15.data.toList), []) := lit_string Try.underlying9 h15
  have f16 : DataW.trod enc Try.prog w base spare held 1 9 [.string a16] = some (.lit (.string a16.data.toList), []) := lit_string Try.underlying9 h16
  have f17 : DataW.trod enc Try.prog w base spare held 1 25 [.int .u8 a17] = some (.lit (.int .u8 a17), []) := lit_int Try.underlying25 h17
  have f18 : DataW.trod enc Try.prog w base spare held 1 23 [.int .u64 a18] = some (.lit (.int .u64 a18), []) := lit_int Try.underlying23 h18
  have f19 : DataW.trod enc Try.prog w base spare held 1 23 [.int .u64 a19] = some (.lit (.int .u64 a19), []) := lit_int Try.underlying23 h19
  refine trod_struct_mk (enc := enc) (w := w) (base := base) (spare := spare) (held := held) (n := 1) (xs := [(.lit (.int .u8 a0), []), (.lit (.string a1.data.toList), []), (.lit (.int .u64 a2), []), (.lit (.int .u64 a3), []), (.lit (.bool a4), []), (.lit (.bool a5), []), (.lit (.string a6.data.toList), []), (.lit (.int .i64 a7), []), (.lit (.int .i64 a8), []), (.lit (.int .u8 a9), []), (.lit (.bool a10), []), (.lit (.bool a11), []), (.lit (.string a12.data.toList), []), (.lit (.string a13.data.toList), []), (.lit (.string a14.data.toList), []), (.lit (.string a15.data.toList), []), (.lit (.string a16.data.toList), []), (.lit (.int .u8 a17), []), (.lit (.int .u64 a18), []), (.lit (.int .u64 a19), [])]) Try.underlying27 (by rw [show Try.prog.cellsOf 27 = 20 by kernel_rfl]; rfl) (mapM_fields (by kernel_rfl) rfl rfl ?_)
  intro i f c y hfi hc hy
  match i with
  | 0 => injection hfi with e1; injection hc with e2; injection hy with e3; subst e1; subst e2; subst e3; exact f0
  | 1 => injection hfi with e1; injection hc with e2; injection hy with e3; subst e1; subst e2; subst e3; exact f1
  | 2 => injection hfi with e1; injection hc with e2; injection hy with e3; subst e1; subst e2; subst e3; exact f2
  | 3 => injection hfi with e1; injection hc with e2; injection hy with e3; subst e1; subst e2; subst e3; exact f3
  | 4 => injection hfi with e1; injection hc with e2; injection hy with e3; subst e1; subst e2; subst e3; exact f4
  | 5 => injection hfi with e1; injection hc with e2; injection hy with e3; subst e1; subst e2; subst e3; exact f5
  | 6 => injection hfi with e1; injection hc with e2; injection hy with e3; subst e1; subst e2; subst e3; exact f6
  | 7 => injection hfi with e1; injection hc with e2; injection hy with e3; subst e1; subst e2; subst e3; exact f7
  | 8 => injection hfi with e1; injection hc with e2; injection hy with e3; subst e1; subst e2; subst e3; exact f8
  | 9 => injection hfi with e1; injection hc with e2; injection hy with e3; subst e1; subst e2; subst e3; exact f9
  | 10 => injection hfi with e1; injection hc with e2; injection hy with e3; subst e1; subst e2; subst e3; exact f10
  | 11 => injection hfi with e1; injection hc with e2; injection hy with e3; subst e1; subst e2; subst e3; exact f11
  | 12 => injection hfi with e1; injection hc with e2; injection hy with e3; subst e1; subst e2; subst e3; exact f12
  | 13 => injection hfi with e1; injection hc with e2; injection hy with e3; subst e1; subst e2; subst e3; exact f13
  | 14 => injection hfi with e1; injection hc with e2; injection hy with e3; subst e1; subst e2; subst e3; exact f14
  | 15 => injection hfi with e1; injection hc with e2; injection hy with e3; subst e1; subst e2; subst e3; exact f15
  | 16 => injection hfi with e1; injection hc with e2; injection hy with e3; subst e1; subst e2; subst e3; exact f16
  | 17 => injection hfi with e1; injection hc with e2; injection hy with e3; subst e1; subst e2; subst e3; exact f17
  | 18 => injection hfi with e1; injection hc with e2; injection hy with e3; subst e1; subst e2; subst e3; exact f18
  | 19 => injection hfi with e1; injection hc with e2; injection hy with e3; subst e1; subst e2; subst e3; exact f19
  | i + 20 => exact absurd hfi (by simp)
set_option maxRecDepth 100000 in
theorem Obj.open {H : Type} {enc : TypeId × Value → H} {w : World} {base : Nat} {spare : Nat → Bool} {held : Bool} {r : Reach} {b0 : Nat} {v : Value} {d : DataW H} {p : List MemPlace} (hv : Value.okWide Try.prog w r b0 27 v) (h : DataW.Trod enc Try.prog w base spare held 27 v d p) :
    ∃ o : Obj, v = .agg o.cells ∧ d = o.datum ∧ p = [] ∧ o.Lits := by
  obtain ⟨cs, rfl, hsz⟩ := okWide_struct Try.underlying27 hv
  obtain ⟨fuel, hf⟩ := h
  obtain ⟨o, hc, hx, hl⟩ := Obj.trod (show DataW.trod enc Try.prog w base spare held fuel 27 cs.toList = some (d, p) from hf)
  simp only [Prod.mk.injEq] at hx
  exact ⟨o, by rw [show cs = o.cells from Array.toList_inj.1 hc], hx.1, hx.2, hl⟩
theorem Obj.shut {H : Type} {enc : TypeId × Value → H} {w : World} {base : Nat} {spare : Nat → Bool} {held : Bool} (o : Obj) (h : o.Lits) : DataW.Trod enc Try.prog w base spare held 27 (.agg o.cells) o.datum [] := ⟨2, o.trod_mk h⟩

end Go.Proofs.Ythppjfhbdohmbaa
