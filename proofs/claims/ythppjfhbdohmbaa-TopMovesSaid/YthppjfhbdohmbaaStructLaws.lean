/- How the structs' rows are loaded and stored: rules of the walk over this program. -/
import Derived.Test.YthppjfhbdohmbaaStructs
import Derived.Test.YthppjfhbdohmbaaChecked
namespace Go.Proofs.Ythppjfhbdohmbaa
open Go.RowKit

theorem beqB (a b : ByteArray) : (a.toList == b.toList) = decide (a = b) := by
  rw [ByteArray.toList_eq, ByteArray.toList_eq, Bool.eq_iff_iff]
  simp only [beq_iff_eq, decide_eq_true_eq]
  exact ⟨WideShapes.bytes_inj, fun h => by rw [h]⟩

theorem Obj.loads (x : Value) : Instr.loadAt 27 x = loadRow 27 x := rfl
theorem Obj.load_at (g o : Nat) (w : World) : (loadRow 27 (.pointer (some ⟨g, o, none⟩))).run Try.prog w = match w.rowAt? g o 20 with | some cs => .ok (.agg cs) w | none => loadSlow Try.prog 27 g o w := loadRow_at Try.underlying27 rfl (by kernel_rfl) g o w
theorem Obj.stores (x y : Value) : Instr.storeAt 27 x y = storeRow 27 x y := rfl
theorem Obj.store_at (g o : Nat) (cs : Array Value) (w : World) : (storeRow 27 (.pointer (some ⟨g, o, none⟩)) (.agg cs)).run Try.prog w = if w.rowFree g o 20 = true ∧ cellsOk cs = true ∧ cs.size = 20 then .ok () (w.putRow g o cs) else storeSlow Try.prog 27 g o cs w := storeRow_at (by kernel_rfl) g o cs w
theorem Obj.guards (op : BinOp) (x y : Operand) (xs ys : Array Value) (w : World) : (eqGuard op 27 x y (.agg xs) (.agg ys)).run Try.prog w = .ok () w := run_eqGuard_agg w op 27 x y xs ys (by kernel_rfl)
set_option maxRecDepth 100000 in
set_option maxHeartbeats 2000000 in
theorem Obj.eqs (d : Nat) (x y : Obj) (w : World) : (Op.equalIn (d + 2) 27 (.agg x.cells) (.agg y.cells)).run Try.prog w = .ok (decide (x = y)) w := by
  rw [show d + 2 = (d + 1) + 1 from rfl, run_equalIn_struct w (d + 1) 27 _ _ (by kernel_rfl) (by kernel_rfl)]
  obtain ⟨a0, a1, a2, a3, a4, a5, a6, a7, a8, a9, a10, a11, a12, a13, a14, a15, a16, a17, a18, a19⟩ := x
  obtain ⟨b0, b1, b2, b3, b4, b5, b6, b7, b8, b9, b10, b11, b12, b13, b14, b15, b16, b17, b18, b19⟩ := y
  simp only [Program.fieldsOf, Try.underlying27, Op.eqFields]
  simp [go_sem, beqB]
  by_cases h0 : a0 = b0 <;> simp [h0]
  by_cases h1 : a1 = b1 <;> simp [h1]
  by_cases h2 : a2 = b2 <;> simp [h2]
  by_cases h3 : a3 = b3 <;> simp [h3]
  by_cases h4 : a4 = b4 <;> simp [h4]
  by_cases h5 : a5 = b5 <;> simp [h5]
  by_cases h6 : a6 = b6 <;> simp [h6]
  by_cases h7 : a7 = b7 <;> simp [h7]
  by_cases h8 : a8 = b8 <;> simp [h8]
  by_cases h9 : a9 = b9 <;> simp [h9]
  by_cases h10 : a10 = b10 <;> simp [h10]
  by_cases h11 : a11 = b11 <;> simp [h11]
  by_cases h12 : a12 = b12 <;> simp [h12]
  by_cases h13 : a13 = b13 <;> simp [h13]
  by_cases h14 : a14 = b14 <;> simp [h14]
  by_cases h15 : a15 = b15 <;> simp [h15]
  by_cases h16 : a16 = b16 <;> simp [h16]
  by_cases h17 : a17 = b17 <;> simp [h17]
  by_cases h18 : a18 = b18 <;> simp [h18]
  by_cases h19 : a19 = b19 <;> simp [h19]
theorem Key.loads (x : Value) : Instr.loadAt 57 x = loadRow 57 x := rfl
theorem Key.load_at (g o : Nat) (w : World) : (loadRow 57 (.pointer (some ⟨g, o, none⟩))).run Try.prog w = match w.rowAt? g o 2 with | some cs => .ok (.agg cs) w | none => loadSlow Try.prog 57 g o w := loadRow_at Try.underlying57 rfl (by kernel_rfl) g o w
theorem Key.stores (x y : Value) : Instr.storeAt 57 x y = storeRow 57 x y := rfl
theorem Key.store_at (g o : Nat) (cs : Array Value) (w : World) : (storeRow 57 (.pointer (some ⟨g, o, none⟩)) (.agg cs)).run Try.prog w = if w.rowFree g o 2 = true ∧ cellsOk cs = true ∧ cs.size = 2 then .ok () (w.putRow g o cs) else storeSlow Try.prog 57 g o cs w := storeRow_at (by kernel_rfl) g o cs w
theorem Key.guards (op : BinOp) (x y : Operand) (xs ys : Array Value) (w : World) : (eqGuard op 57 x y (.agg xs) (.agg ys)).run Try.prog w = .ok () w := run_eqGuard_agg w op 57 x y xs ys (by kernel_rfl)
set_option maxRecDepth 100000 in
set_option maxHeartbeats 2000000 in
theorem Key.eqs (d : Nat) (x y : Key) (w : World) : (Op.equalIn (d + 2) 57 (.agg x.cells) (.agg y.cells)).run Try.prog w = .ok (decide (x = y)) w := by
  rw [show d + 2 = (d + 1) + 1 from rfl, run_equalIn_struct w (d + 1) 57 _ _ (by kernel_rfl) (by kernel_rfl)]
  obtain ⟨a0, a1⟩ := x
  obtain ⟨b0, b1⟩ := y
  simp only [Program.fieldsOf, Try.underlying57, Op.eqFields]
  simp [go_sem, beqB]
  by_cases h0 : a0 = b0 <;> simp [h0]
  by_cases h1 : a1 = b1 <;> simp [h1]
theorem Event.loads (x : Value) : Instr.loadAt 66 x = loadRow 66 x := rfl
theorem Event.load_at (g o : Nat) (w : World) : (loadRow 66 (.pointer (some ⟨g, o, none⟩))).run Try.prog w = match w.rowAt? g o 22 with | some cs => .ok (.agg cs) w | none => loadSlow Try.prog 66 g o w := loadRow_at Try.underlying66 rfl (by kernel_rfl) g o w
theorem Event.stores (x y : Value) : Instr.storeAt 66 x y = storeRow 66 x y := rfl
theorem Event.store_at (g o : Nat) (cs : Array Value) (w : World) : (storeRow 66 (.pointer (some ⟨g, o, none⟩)) (.agg cs)).run Try.prog w = if w.rowFree g o 22 = true ∧ cellsOk cs = true ∧ cs.size = 22 then .ok () (w.putRow g o cs) else storeSlow Try.prog 66 g o cs w := storeRow_at (by kernel_rfl) g o cs w
theorem Event.guards (op : BinOp) (x y : Operand) (xs ys : Array Value) (w : World) : (eqGuard op 66 x y (.agg xs) (.agg ys)).run Try.prog w = .ok () w := run_eqGuard_agg w op 66 x y xs ys (by kernel_rfl)
theorem Call.loads (x : Value) : Instr.loadAt 37 x = loadRow 37 x := rfl
theorem Call.load_at (g o : Nat) (w : World) : (loadRow 37 (.pointer (some ⟨g, o, none⟩))).run Try.prog w = match w.rowAt? g o 7 with | some cs => .ok (.agg cs) w | none => loadSlow Try.prog 37 g o w := loadRow_at Try.underlying37 rfl (by kernel_rfl) g o w
theorem Call.stores (x y : Value) : Instr.storeAt 37 x y = storeRow 37 x y := rfl
theorem Call.store_at (g o : Nat) (cs : Array Value) (w : World) : (storeRow 37 (.pointer (some ⟨g, o, none⟩)) (.agg cs)).run Try.prog w = if w.rowFree g o 7 = true ∧ cellsOk cs = true ∧ cs.size = 7 then .ok () (w.putRow g o cs) else storeSlow Try.prog 37 g o cs w := storeRow_at (by kernel_rfl) g o cs w
theorem Call.guards (op : BinOp) (x y : Operand) (xs ys : Array Value) (w : World) : (eqGuard op 37 x y (.agg xs) (.agg ys)).run Try.prog w = .ok () w := run_eqGuard_agg w op 37 x y xs ys (by kernel_rfl)
set_option maxRecDepth 100000 in
set_option maxHeartbeats 2000000 in
theorem Call.eqs (d : Nat) (x y : Call) (w : World) : (Op.equalIn (d + 2) 37 (.agg x.cells) (.agg y.cells)).run Try.prog w = .ok (decide (x = y)) w := by
  rw [show d + 2 = (d + 1) + 1 from rfl, run_equalIn_struct w (d + 1) 37 _ _ (by kernel_rfl) (by kernel_rfl)]
  obtain ⟨a0, a1, a2, a3, a4, a5, a6⟩ := x
  obtain ⟨b0, b1, b2, b3, b4, b5, b6⟩ := y
  simp only [Program.fieldsOf, Try.underlying37, Op.eqFields]
  simp [go_sem, beqB]
  by_cases h0 : a0 = b0 <;> simp [h0]
  by_cases h1 : a1 = b1 <;> simp [h1]
  by_cases h2 : a2 = b2 <;> simp [h2]
  by_cases h3 : a3 = b3 <;> simp [h3]
  by_cases h4 : a4 = b4 <;> simp [h4]
  by_cases h5 : a5 = b5 <;> simp [h5]
  by_cases h6 : a6 = b6 <;> simp [h6]
theorem Res.loads (x : Value) : Instr.loadAt 44 x = loadRow 44 x := rfl
theorem Res.load_at (g o : Nat) (w : World) : (loadRow 44 (.pointer (some ⟨g, o, none⟩))).run Try.prog w = match w.rowAt? g o 4 with | some cs => .ok (.agg cs) w | none => loadSlow Try.prog 44 g o w := loadRow_at Try.underlying44 rfl (by kernel_rfl) g o w
theorem Res.stores (x y : Value) : Instr.storeAt 44 x y = storeRow 44 x y := rfl
theorem Res.store_at (g o : Nat) (cs : Array Value) (w : World) : (storeRow 44 (.pointer (some ⟨g, o, none⟩)) (.agg cs)).run Try.prog w = if w.rowFree g o 4 = true ∧ cellsOk cs = true ∧ cs.size = 4 then .ok () (w.putRow g o cs) else storeSlow Try.prog 44 g o cs w := storeRow_at (by kernel_rfl) g o cs w
theorem Res.guards (op : BinOp) (x y : Operand) (xs ys : Array Value) (w : World) : (eqGuard op 44 x y (.agg xs) (.agg ys)).run Try.prog w = .ok () w := run_eqGuard_agg w op 44 x y xs ys (by kernel_rfl)
set_option maxRecDepth 100000 in
set_option maxHeartbeats 2000000 in
theorem Res.eqs (d : Nat) (x y : Res) (w : World) : (Op.equalIn (d + 2) 44 (.agg x.cells) (.agg y.cells)).run Try.prog w = .ok (decide (x = y)) w := by
  rw [show d + 2 = (d + 1) + 1 from rfl, run_equalIn_struct w (d + 1) 44 _ _ (by kernel_rfl) (by kernel_rfl)]
  obtain ⟨a0, a1, a2, a3⟩ := x
  obtain ⟨b0, b1, b2, b3⟩ := y
  simp only [Program.fieldsOf, Try.underlying44, Op.eqFields]
  simp [go_sem, beqB]
  by_cases h0 : a0 = b0 <;> simp [h0]
  by_cases h1 : a1 = b1 <;> simp [h1]
  by_cases h2 : a2 = b2 <;> simp [h2]
  by_cases h3 : a3 = b3 <;> simp [h3]
theorem GAct.loads (x : Value) : Instr.loadAt 39 x = loadRow 39 x := rfl
theorem GAct.load_at (g o : Nat) (w : World) : (loadRow 39 (.pointer (some ⟨g, o, none⟩))).run Try.prog w = match w.rowAt? g o 28 with | some cs => .ok (.agg cs) w | none => loadSlow Try.prog 39 g o w := loadRow_at Try.underlying39 rfl (by kernel_rfl) g o w
theorem GAct.stores (x y : Value) : Instr.storeAt 39 x y = storeRow 39 x y := rfl
theorem GAct.store_at (g o : Nat) (cs : Array Value) (w : World) : (storeRow 39 (.pointer (some ⟨g, o, none⟩)) (.agg cs)).run Try.prog w = if w.rowFree g o 28 = true ∧ cellsOk cs = true ∧ cs.size = 28 then .ok () (w.putRow g o cs) else storeSlow Try.prog 39 g o cs w := storeRow_at (by kernel_rfl) g o cs w
theorem GAct.guards (op : BinOp) (x y : Operand) (xs ys : Array Value) (w : World) : (eqGuard op 39 x y (.agg xs) (.agg ys)).run Try.prog w = .ok () w := run_eqGuard_agg w op 39 x y xs ys (by kernel_rfl)

attribute [go_sem ↓] Obj.loads Obj.stores Obj.guards Obj.eqs Key.loads Key.stores Key.guards Key.eqs Event.loads Event.stores Event.guards Call.loads Call.stores Call.guards Call.eqs Res.loads Res.stores Res.guards Res.eqs GAct.loads GAct.stores GAct.guards
attribute [go_sem] Obj.fold Obj.load_at Obj.store_at Key.fold Key.load_at Key.store_at Event.fold Event.load_at Event.store_at Call.fold Call.load_at Call.store_at Res.fold Res.load_at Res.store_at GAct.fold GAct.load_at GAct.store_at
end Go.Proofs.Ythppjfhbdohmbaa
