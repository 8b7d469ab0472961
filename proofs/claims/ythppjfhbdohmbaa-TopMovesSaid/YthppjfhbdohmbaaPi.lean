/- A region that draws its order, walked once in an order of our choosing: what is only read is taken first, what acts comes up alone. -/
import Derived.WalkKit
import Derived.OrdersHeld
import Derived.KernelRfl
import Derived.Deep.RegionHeld
namespace Go
open Go.RowKit

section
variable {P : Program} {ops : Array Oper} {Q : Exit → Act → World → Prop} {S : World → Prop}

/-- The chosen order serves: each operation is ready at its turn; one that is only read ('false') touches nobody who is still to come; one that acts ('true') is the only one that may come up. -/
def piOk (ops : Array Oper) : List (Nat × Bool) → Array Bool → Bool
  | [], listed => Region.ready .any ops listed == []
  | (i, eff) :: l, listed => (if eff then Region.ready .any ops listed == [i] else (Region.ready .any ops listed).contains i && Region.free .any ops listed i) && piOk ops l (listed.setIfInBounds i true)

/-- The walk in that order. -/
def wpPi (P : Program) (ops : Array Oper) (Q : Exit → Act → World → Prop) (S : World → Prop) : List (Nat × Bool) → Act → World → Prop
  | [], a, w => Q .normal a w
  | (i, eff) :: l, a, w => match ops[i]? with
    | none => False
    | some o => if eff then wpOp P ops Q i (fun a' w' => S w' ∧ wpPi P ops Q S l a' w') a w
      else ∃ v, YieldsIf P ops S o v a ∧ wpPi P ops Q S l (a.put o.dst v) w

theorem wpAnyH_of_pi (hs : Region.noSelect ops = true) (hQ : ∀ d v c a w, Q (.panic c) (a.put d v) w → Q (.panic c) a w) :
    ∀ (l : List (Nat × Bool)) (listed : Array Bool) (a : Act) (w : World), piOk ops l listed = true → S w → wpPi P ops Q S l a w → wpAnyH P .any ops Q S l.length listed a w
  | [], listed, a, w, hB, _, h => ⟨by simpa [piOk] using hB, h⟩
  | (i, false) :: l, listed, a, w, hB, hS, h => by
    simp only [piOk, Bool.false_eq_true, if_false, Bool.and_eq_true] at hB
    obtain ⟨⟨h1, h2⟩, h3⟩ := hB
    simp only [wpPi] at h
    cases ho : ops[i]? with
    | none => simp [ho] at h
    | some o =>
      simp only [ho, Bool.false_eq_true, if_false] at h
      obtain ⟨v, hy, hn⟩ := h
      exact wpAnyH_first ho (Region.noSelect_spec hs) (fun c a w => hQ _ _ c a w) l.length listed a w (Region.free_spec ho h2) (by simpa using h1) hy hS
        (wpAnyH_of_pi hs hQ l _ _ _ h3 hS hn)
  | (i, true) :: l, listed, a, w, hB, hS, h => by
    simp only [piOk, if_true, Bool.and_eq_true, beq_iff_eq] at hB
    obtain ⟨h1, h3⟩ := hB
    simp only [wpPi] at h
    cases ho : ops[i]? with
    | none => simp [ho] at h
    | some o =>
      simp only [ho, if_true] at h
      refine ⟨fun h0 => (by rw [h1] at h0; cases h0), fun j hj => ?_⟩
      rw [h1] at hj
      simp only [List.mem_singleton] at hj
      subst hj
      exact wpOp_mono (fun a' w' ⟨hS', hn⟩ => ⟨hS', wpAnyH_of_pi hs hQ l _ _ _ h3 hS' hn⟩) h

theorem wp_region_pi (π : List (Nat × Bool)) (S : World → Prop) {id : Nat} {a : Act} {w : World} (hm : P.follows .mixedOrders = true) (hs : Region.noSelect ops = true) (hl : π.length = ops.size)
    (hB : piOk ops π (Array.replicate ops.size false) = true) (hQ : ∀ d v c a w, Q (.panic c) (a.put d v) w → Q (.panic c) a w) (hS : S w.drew)
    (h : S w.drew → wpPi P ops Q S π a w.drew) : (Code.region id ops true).wp P Q a w :=
  wp_region_held_drew hm hS fun hS => by
    have := wpAnyH_of_pi hs hQ π _ a _ hB hS (h hS)
    rw [hl] at this
    exact this

theorem pi_nil {a : Act} {w : World} (h : Q .normal a w) : wpPi P ops Q S [] a w := h

/-- An operation that is only read, carried out. -/
theorem pi_run {i : Nat} {o : Oper} {l : List (Nat × Bool)} {a : Act} {w : World} {v : Value} (ho : ops[i]? = some o) (hw : Region.wanted o (yielded ops a.tmps) = true)
    (hy : ∀ w, S w → (execOp a.eval o).run P w = .ok (.value v) w) (h : wpPi P ops Q S l (a.put o.dst v) w) : wpPi P ops Q S ((i, false) :: l) a w := by
  simp only [wpPi, ho, Bool.false_eq_true, if_false]
  exact ⟨v, .inl ⟨hw, hy⟩, h⟩
theorem pi_skip {i : Nat} {o : Oper} {l : List (Nat × Bool)} {a : Act} {w : World} (ho : ops[i]? = some o) (hw : Region.wanted o (yielded ops a.tmps) = false)
    (h : wpPi P ops Q S l (a.put o.dst undef) w) : wpPi P ops Q S ((i, false) :: l) a w := by
  simp only [wpPi, ho, Bool.false_eq_true, if_false]
  exact ⟨undef, .inr ⟨hw, rfl⟩, h⟩
/-- One that acts. -/
theorem pi_act {i : Nat} {o : Oper} {l : List (Nat × Bool)} {a : Act} {w : World} (ho : ops[i]? = some o) (hw : Region.wanted o (yielded ops a.tmps) = true)
    (h : ∀ K : Act → World → Prop, (∀ a' w', S w' → wpPi P ops Q S l a' w' → K a' w') → o.wp P a w K Q) : wpPi P ops Q S ((i, true) :: l) a w := by
  simp only [wpPi, ho, if_true, wpOp, hw]
  exact .inl (h _ fun _ _ h1 h2 => ⟨h1, h2⟩)
theorem pi_act_skip {i : Nat} {o : Oper} {l : List (Nat × Bool)} {a : Act} {w : World} (ho : ops[i]? = some o) (hw : Region.wanted o (yielded ops a.tmps) = false) (hS : S w)
    (h : wpPi P ops Q S l (a.put o.dst undef) w) : wpPi P ops Q S ((i, true) :: l) a w := by
  simp only [wpPi, ho, if_true, wpOp, hw, Bool.false_eq_true, if_false]
  exact ⟨hS, h⟩
end
end Go
