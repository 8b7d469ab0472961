/- What a call may turn: a set of blocks and new ones; and a writer's bytes in memory. -/
import Derived.Test.YthppjfhbdohmbaaRowLaws
import Derived.Maps.AppendAt
namespace Go
open Go.RowKit

/-- From w to w' nothing has turned but the blocks of F and new ones; what is owned behind it, F', lies among these. -/
structure Upd (F : Nat → Prop) (w w' : World) (F' : Nat → Prop) : Prop where
  os : w'.os = w.os
  tape : w'.tape = w.tape
  output : w'.output = w.output
  size : w.heap.size ≤ w'.heap.size
  block : ∀ k, k < w.heap.size → ¬ F k → w'.heap[k]? = w.heap[k]?
  foot : ∀ k, F' k → F k ∨ w.heap.size ≤ k

namespace Upd
variable {F F' F'' : Nat → Prop} {w w' w'' : World}
theorem refl (F : Nat → Prop) (w : World) : Upd F w w F := ⟨rfl, rfl, rfl, Nat.le_refl _, fun _ _ _ => rfl, fun _ h => .inl h⟩
theorem trans (h : Upd F w w' F') (k : Upd F' w' w'' F'') : Upd F w w'' F'' where
  os := k.os.trans h.os
  tape := k.tape.trans h.tape
  output := k.output.trans h.output
  size := Nat.le_trans h.size k.size
  block := fun i hi hf => (k.block i (Nat.lt_of_lt_of_le hi h.size) (fun hf' => (h.foot i hf').elim hf (fun h1 => by omega))).trans (h.block i hi hf)
  foot := fun i hi => (k.foot i hi).elim (h.foot i) (fun h1 => .inr (Nat.le_trans h.size h1))
theorem of_below (h : Below w.heap.size w w') (F : Nat → Prop) : Upd F w w' F := ⟨h.os, h.tape, h.output, h.size, fun k hk _ => h.block k hk, fun _ h => .inl h⟩
theorem below (h : Upd F w w' F') {B : Nat} (hB : B ≤ w.heap.size) (hF : ∀ k, F k → B ≤ k) : Below B w w' :=
  ⟨h.os, h.tape, h.output, h.size, fun k hk => h.block k (by omega) (fun hf => by have := hF k hf; omega)⟩
theorem drew (F : Nat → Prop) (w : World) : Upd F w w.drew F := ⟨rfl, rfl, rfl, Nat.le_refl _, fun _ _ _ => rfl, fun _ h => .inl h⟩
theorem alloc (F : Nat → Prop) (w : World) (o : Obj) : Upd F w (w.alloc o) F := of_below ((Below.refl _ _).alloc (Nat.le_refl _) _) F
/-- A set that holds more may turn more. -/
theorem widen {G : Nat → Prop} (h : Upd F w w' F') (hG : ∀ k, F k → G k) : Upd G w w' (fun k => F' k ∨ G k) :=
  ⟨h.os, h.tape, h.output, h.size, fun k hk hf => h.block k hk (fun hf' => hf (hG k hf')), fun k hk => hk.elim (fun h1 => (h.foot k h1).imp (hG k) id) .inl⟩
theorem keep (h : Upd F w w' F') {k : Nat} (hk : k < w.heap.size) (hf : ¬ F k) : w'.heap[k]? = w.heap[k]? ∧ ¬ F' k :=
  ⟨h.block k hk hf, fun hf' => (h.foot k hf').elim hf (fun h1 => by omega)⟩
theorem setCell (F : Nat → Prop) (w : World) (a : Addr) (v : Value) (ha : F a.block) : Upd F w (w.setCell a v) F :=
  ⟨rfl, rfl, rfl, by simp, fun k _ hf => Below.heap_setCell _ _ _ _ (fun e => hf (e ▸ ha)), fun _ h => .inl h⟩
theorem grown {row : Option Nat} (h : w.grownBy w' row) (hr : ∀ k, row = some k → F k) : Upd F w w' F :=
  ⟨h.os, h.tape, h.output, h.size, fun k hk hf => h.block k hk (fun e => hf (hr k e.symm)), fun _ h => .inl h⟩
end Upd
end Go
