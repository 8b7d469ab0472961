/- The Go structs as plain data, their cells, and the rules of the walk for them. -/
import Derived.Test.YthppjfhbdohmbaaRowLaws
namespace Go.Proofs.Ythppjfhbdohmbaa
open Go.RowKit

abbrev es : ByteArray := ⟨#[]⟩

structure Obj where
  kind : Int
  name : ByteArray
  version : Int
  born : Int
  deleting : Bool
  hold : Bool
  cls : ByteArray
  size : Int
  got : Int
  mode : Int
  keep : Bool
  wait : Bool
  zone : ByteArray
  node : ByteArray
  claim : ByteArray
  volume : ByteArray
  source : ByteArray
  phase : Int
  num : Int
  tag : Int
  deriving DecidableEq
def Obj.cells (x : Obj) : Array Value := #[.int .u8 x.kind, .string x.name, .int .u64 x.version, .int .u64 x.born, .bool x.deleting, .bool x.hold, .string x.cls, .int .i64 x.size, .int .i64 x.got, .int .u8 x.mode, .bool x.keep, .bool x.wait, .string x.zone, .string x.node, .string x.claim, .string x.volume, .string x.source, .int .u8 x.phase, .int .u64 x.num, .int .u64 x.tag]
@[go_sem] theorem Obj.cells_size (x : Obj) : x.cells.size = 20 := rfl
@[go_sem] theorem Obj.cells_all (x : Obj) : cellsOk x.cells = true := by simp [cellsOk, Obj.cells, Value.oneCell']
@[go_sem] theorem Obj.row (x : Obj) : arrRow x.cells 0 20 = some x.cells := arrRow_all _ _ rfl
@[go_sem] theorem Obj.over (x y : Obj) : splice y.cells 0 x.cells = x.cells := splice_all y.cells x.cells rfl
@[go_sem] theorem Obj.cells_ne (x : Obj) : (x.cells = #[]) = False := by simp [Obj.cells]
@[go_sem] theorem Obj.get_0 (x : Obj) : x.cells[0]? = some (.int .u8 x.kind) := rfl
@[go_sem] theorem Obj.set_0 (x : Obj) (v : Int) : x.cells.setIfInBounds 0 (.int .u8 v) = ({ x with kind := v } : Obj).cells := rfl
@[go_sem] theorem Obj.get_1 (x : Obj) : x.cells[1]? = some (.string x.name) := rfl
@[go_sem] theorem Obj.set_1 (x : Obj) (v : ByteArray) : x.cells.setIfInBounds 1 (.string v) = ({ x with name := v } : Obj).cells := rfl
@[go_sem] theorem Obj.get_2 (x : Obj) : x.cells[2]? = some (.int .u64 x.version) := rfl
@[go_sem] theorem Obj.set_2 (x : Obj) (v : Int) : x.cells.setIfInBounds 2 (.int .u64 v) = ({ x with version := v } : Obj).cells := rfl
@[go_sem] theorem Obj.get_3 (x : Obj) : x.cells[3]? = some (.int .u64 x.born) := rfl
@[go_sem] theorem Obj.set_3 (x : Obj) (v : Int) : x.cells.setIfInBounds 3 (.int .u64 v) = ({ x with born := v } : Obj).cells := rfl
@[go_sem] theorem Obj.get_4 (x : Obj) : x.cells[4]? = some (.bool x.deleting) := rfl
@[go_sem] theorem Obj.set_4 (x : Obj) (v : Bool) : x.cells.setIfInBounds 4 (.bool v) = ({ x with deleting := v } : Obj).cells := rfl
@[go_sem] theorem Obj.get_5 (x : Obj) : x.cells[5]? = some (.bool x.hold) := rfl
@[go_sem] theorem Obj.set_5 (x : Obj) (v : Bool) : x.cells.setIfInBounds 5 (.bool v) = ({ x with hold := v } : Obj).cells := rfl
@[go_sem] theorem Obj.get_6 (x : Obj) : x.cells[6]? = some (.string x.cls) := rfl
@[go_sem] theorem Obj.set_6 (x : Obj) (v : ByteArray) : x.cells.setIfInBounds 6 (.string v) = ({ x with cls := v } : Obj).cells := rfl
@[go_sem] theorem Obj.get_7 (x : Obj) : x.cells[7]? = some (.int .i64 x.size) := rfl
@[go_sem] theorem Obj.set_7 (x : Obj) (v : Int) : x.cells.setIfInBounds 7 (.int .i64 v) = ({ x with size := v } : Obj).cells := rfl
@[go_sem] theorem Obj.get_8 (x : Obj) : x.cells[8]? = some (.int .i64 x.got) := rfl
@[go_sem] theorem Obj.set_8 (x : Obj) (v : Int) : x.cells.setIfInBounds 8 (.int .i64 v) = ({ x with got := v } : Obj).cells := rfl
@[go_sem] theorem Obj.get_9 (x : Obj) : x.cells[9]? = some (.int .u8 x.mode) := rfl
@[go_sem] theorem Obj.set_9 (x : Obj) (v : Int) : x.cells.setIfInBounds 9 (.int .u8 v) = ({ x with mode := v } : Obj).cells := rfl
@[go_sem] theorem Obj.get_10 (x : Obj) : x.cells[10]? = some (.bool x.keep) := rfl
@[go_sem] theorem Obj.set_10 (x : Obj) (v : Bool) : x.cells.setIfInBounds 10 (.bool v) = ({ x with keep := v } : Obj).cells := rfl
@[go_sem] theorem Obj.get_11 (x : Obj) : x.cells[11]? = some (.bool x.wait) := rfl
@[go_sem] theorem Obj.set_11 (x : Obj) (v : Bool) : x.cells.setIfInBounds 11 (.bool v) = ({ x with wait := v } : Obj).cells := rfl
@[go_sem] theorem Obj.get_12 (x : Obj) : x.cells[12]? = some (.string x.zone) := rfl
@[go_sem] theorem Obj.set_12 (x : Obj) (v : ByteArray) : x.cells.setIfInBounds 12 (.string v) = ({ x with zone := v } : Obj).cells := rfl
@[go_sem] theorem Obj.get_13 (x : Obj) : x.cells[13]? = some (.string x.node) := rfl
@[go_sem] theorem Obj.set_13 (x : Obj) (v : ByteArray) : x.cells.setIfInBounds 13 (.string v) = ({ x with node := v } : Obj).cells := rfl
@[go_sem] theorem Obj.get_14 (x : Obj) : x.cells[14]? = some (.string x.claim) := rfl
@[go_sem] theorem Obj.set_14 (x : Obj) (v : ByteArray) : x.cells.setIfInBounds 14 (.string v) = ({ x with claim := v } : Obj).cells := rfl
@[go_sem] theorem Obj.get_15 (x : Obj) : x.cells[15]? = some (.string x.volume) := rfl
@[go_sem] theorem Obj.set_15 (x : Obj) (v : ByteArray) : x.cells.setIfInBounds 15 (.string v) = ({ x with volume := v } : Obj).cells := rfl
@[go_sem] theorem Obj.get_16 (x : Obj) : x.cells[16]? = some (.string x.source) := rfl
@[go_sem] theorem Obj.set_16 (x : Obj) (v : ByteArray) : x.cells.setIfInBounds 16 (.string v) = ({ x with source := v } : Obj).cells := rfl
@[go_sem] theorem Obj.get_17 (x : Obj) : x.cells[17]? = some (.int .u8 x.phase) := rfl
@[go_sem] theorem Obj.set_17 (x : Obj) (v : Int) : x.cells.setIfInBounds 17 (.int .u8 v) = ({ x with phase := v } : Obj).cells := rfl
@[go_sem] theorem Obj.get_18 (x : Obj) : x.cells[18]? = some (.int .u64 x.num) := rfl
@[go_sem] theorem Obj.set_18 (x : Obj) (v : Int) : x.cells.setIfInBounds 18 (.int .u64 v) = ({ x with num := v } : Obj).cells := rfl
@[go_sem] theorem Obj.get_19 (x : Obj) : x.cells[19]? = some (.int .u64 x.tag) := rfl
@[go_sem] theorem Obj.set_19 (x : Obj) (v : Int) : x.cells.setIfInBounds 19 (.int .u64 v) = ({ x with tag := v } : Obj).cells := rfl
theorem Obj.fold (a0 : Int) (a1 : ByteArray) (a2 : Int) (a3 : Int) (a4 : Bool) (a5 : Bool) (a6 : ByteArray) (a7 : Int) (a8 : Int) (a9 : Int) (a10 : Bool) (a11 : Bool) (a12 : ByteArray) (a13 : ByteArray) (a14 : ByteArray) (a15 : ByteArray) (a16 : ByteArray) (a17 : Int) (a18 : Int) (a19 : Int) : #[.int .u8 a0, .string a1, .int .u64 a2, .int .u64 a3, .bool a4, .bool a5, .string a6, .int .i64 a7, .int .i64 a8, .int .u8 a9, .bool a10, .bool a11, .string a12, .string a13, .string a14, .string a15, .string a16, .int .u8 a17, .int .u64 a18, .int .u64 a19] = (Obj.mk a0 a1 a2 a3 a4 a5 a6 a7 a8 a9 a10 a11 a12 a13 a14 a15 a16 a17 a18 a19).cells := rfl

structure Key where
  kind : Int
  name : ByteArray
  deriving DecidableEq
def Key.cells (x : Key) : Array Value := #[.int .u8 x.kind, .string x.name]
@[go_sem] theorem Key.cells_size (x : Key) : x.cells.size = 2 := rfl
@[go_sem] theorem Key.cells_all (x : Key) : cellsOk x.cells = true := by simp [cellsOk, Key.cells, Value.oneCell']
@[go_sem] theorem Key.row (x : Key) : arrRow x.cells 0 2 = some x.cells := arrRow_all _ _ rfl
@[go_sem] theorem Key.over (x y : Key) : splice y.cells 0 x.cells = x.cells := splice_all y.cells x.cells rfl
@[go_sem] theorem Key.cells_ne (x : Key) : (x.cells = #[]) = False := by simp [Key.cells]
@[go_sem] theorem Key.get_0 (x : Key) : x.cells[0]? = some (.int .u8 x.kind) := rfl
@[go_sem] theorem Key.set_0 (x : Key) (v : Int) : x.cells.setIfInBounds 0 (.int .u8 v) = ({ x with kind := v } : Key).cells := rfl
@[go_sem] theorem Key.get_1 (x : Key) : x.cells[1]? = some (.string x.name) := rfl
@[go_sem] theorem Key.set_1 (x : Key) (v : ByteArray) : x.cells.setIfInBounds 1 (.string v) = ({ x with name := v } : Key).cells := rfl
theorem Key.fold (a0 : Int) (a1 : ByteArray) : #[.int .u8 a0, .string a1] = (Key.mk a0 a1).cells := rfl

structure Event where
  version : Int
  gone : Bool
  obj : Obj
  deriving DecidableEq
def Event.cells (x : Event) : Array Value := #[.int .u64 x.version, .bool x.gone, .int .u8 x.obj.kind, .string x.obj.name, .int .u64 x.obj.version, .int .u64 x.obj.born, .bool x.obj.deleting, .bool x.obj.hold, .string x.obj.cls, .int .i64 x.obj.size, .int .i64 x.obj.got, .int .u8 x.obj.mode, .bool x.obj.keep, .bool x.obj.wait, .string x.obj.zone, .string x.obj.node, .string x.obj.claim, .string x.obj.volume, .string x.obj.source, .int .u8 x.obj.phase, .int .u64 x.obj.num, .int .u64 x.obj.tag]
@[go_sem] theorem Event.cells_size (x : Event) : x.cells.size = 22 := rfl
@[go_sem] theorem Event.cells_all (x : Event) : cellsOk x.cells = true := by simp [cellsOk, Event.cells, Value.oneCell']
@[go_sem] theorem Event.row (x : Event) : arrRow x.cells 0 22 = some x.cells := arrRow_all _ _ rfl
@[go_sem] theorem Event.over (x y : Event) : splice y.cells 0 x.cells = x.cells := splice_all y.cells x.cells rfl
@[go_sem] theorem Event.cells_ne (x : Event) : (x.cells = #[]) = False := by simp [Event.cells]
@[go_sem] theorem Event.get_0 (x : Event) : x.cells[0]? = some (.int .u64 x.version) := rfl
@[go_sem] theorem Event.set_0 (x : Event) (v : Int) : x.cells.setIfInBounds 0 (.int .u64 v) = ({ x with version := v } : Event).cells := rfl
@[go_sem] theorem Event.get_1 (x : Event) : x.cells[1]? = some (.bool x.gone) := rfl
@[go_sem] theorem Event.set_1 (x : Event) (v : Bool) : x.cells.setIfInBounds 1 (.bool v) = ({ x with gone := v } : Event).cells := rfl
@[go_sem] theorem Event.get_2 (x : Event) : x.cells[2]? = some (.int .u8 x.obj.kind) := rfl
@[go_sem] theorem Event.set_2 (x : Event) (v : Int) : x.cells.setIfInBounds 2 (.int .u8 v) = ({ x with obj.kind := v } : Event).cells := rfl
@[go_sem] theorem Event.get_3 (x : Event) : x.cells[3]? = some (.string x.obj.name) := rfl
@[go_sem] theorem Event.set_3 (x : Event) (v : ByteArray) : x.cells.setIfInBounds 3 (.string v) = ({ x with obj.name := v } : Event).cells := rfl
@[go_sem] theorem Event.get_4 (x : Event) : x.cells[4]? = some (.int .u64 x.obj.version) := rfl
@[go_sem] theorem Event.set_4 (x : Event) (v : Int) : x.cells.setIfInBounds 4 (.int .u64 v) = ({ x with obj.version := v } : Event).cells := rfl
@[go_sem] theorem Event.get_5 (x : Event) : x.cells[5]? = some (.int .u64 x.obj.born) := rfl
@[go_sem] theorem Event.set_5 (x : Event) (v : Int) : x.cells.setIfInBounds 5 (.int .u64 v) = ({ x with obj.born := v } : Event).cells := rfl
@[go_sem] theorem Event.get_6 (x : Event) : x.cells[6]? = some (.bool x.obj.deleting) := rfl
@[go_sem] theorem Event.set_6 (x : Event) (v : Bool) : x.cells.setIfInBounds 6 (.bool v) = ({ x with obj.deleting := v } : Event).cells := rfl
@[go_sem] theorem Event.get_7 (x : Event) : x.cells[7]? = some (.bool x.obj.hold) := rfl
@[go_sem] theorem Event.set_7 (x : Event) (v : Bool) : x.cells.setIfInBounds 7 (.bool v) = ({ x with obj.hold := v } : Event).cells := rfl
@[go_sem] theorem Event.get_8 (x : Event) : x.cells[8]? = some (.string x.obj.cls) := rfl
@[go_sem] theorem Event.set_8 (x : Event) (v : ByteArray) : x.cells.setIfInBounds 8 (.string v) = ({ x with obj.cls := v } : Event).cells := rfl
@[go_sem] theorem Event.get_9 (x : Event) : x.cells[9]? = some (.int .i64 x.obj.size) := rfl
@[go_sem] theorem Event.set_9 (x : Event) (v : Int) : x.cells.setIfInBounds 9 (.int .i64 v) = ({ x with obj.size := v } : Event).cells := rfl
@[go_sem] theorem Event.get_10 (x : Event) : x.cells[10]? = some (.int .i64 x.obj.got) := rfl
@[go_sem] theorem Event.set_10 (x : Event) (v : Int) : x.cells.setIfInBounds 10 (.int .i64 v) = ({ x with obj.got := v } : Event).cells := rfl
@[go_sem] theorem Event.get_11 (x : Event) : x.cells[11]? = some (.int .u8 x.obj.mode) := rfl
@[go_sem] theorem Event.set_11 (x : Event) (v : Int) : x.cells.setIfInBounds 11 (.int .u8 v) = ({ x with obj.mode := v } : Event).cells := rfl
@[go_sem] theorem Event.get_12 (x : Event) : x.cells[12]? = some (.bool x.obj.keep) := rfl
@[go_sem] theorem Event.set_12 (x : Event) (v : Bool) : x.cells.setIfInBounds 12 (.bool v) = ({ x with obj.keep := v } : Event).cells := rfl
@[go_sem] theorem Event.get_13 (x : Event) : x.cells[13]? = some (.bool x.obj.wait) := rfl
@[go_sem] theorem Event.set_13 (x : Event) (v : Bool) : x.cells.setIfInBounds 13 (.bool v) = ({ x with obj.wait := v } : Event).cells := rfl
@[go_sem] theorem Event.get_14 (x : Event) : x.cells[14]? = some (.string x.obj.zone) := rfl
@[go_sem] theorem Event.set_14 (x : Event) (v : ByteArray) : x.cells.setIfInBounds 14 (.string v) = ({ x with obj.zone := v } : Event).cells := rfl
@[go_sem] theorem Event.get_15 (x : Event) : x.cells[15]? = some (.string x.obj.node) := rfl
@[go_sem] theorem Event.set_15 (x : Event) (v : ByteArray) : x.cells.setIfInBounds 15 (.string v) = ({ x with obj.node := v } : Event).cells := rfl
@[go_sem] theorem Event.get_16 (x : Event) : x.cells[16]? = some (.string x.obj.claim) := rfl
@[go_sem] theorem Event.set_16 (x : Event) (v : ByteArray) : x.cells.setIfInBounds 16 (.string v) = ({ x with obj.claim := v } : Event).cells := rfl
@[go_sem] theorem Event.get_17 (x : Event) : x.cells[17]? = some (.string x.obj.volume) := rfl
@[go_sem] theorem Event.set_17 (x : Event) (v : ByteArray) : x.cells.setIfInBounds 17 (.string v) = ({ x with obj.volume := v } : Event).cells := rfl
@[go_sem] theorem Event.get_18 (x : Event) : x.cells[18]? = some (.string x.obj.source) := rfl
@[go_sem] theorem Event.set_18 (x : Event) (v : ByteArray) : x.cells.setIfInBounds 18 (.string v) = ({ x with obj.source := v } : Event).cells := rfl
@[go_sem] theorem Event.get_19 (x : Event) : x.cells[19]? = some (.int .u8 x.obj.phase) := rfl
@[go_sem] theorem Event.set_19 (x : Event) (v : Int) : x.cells.setIfInBounds 19 (.int .u8 v) = ({ x with obj.phase := v } : Event).cells := rfl
@[go_sem] theorem Event.get_20 (x : Event) : x.cells[20]? = some (.int .u64 x.obj.num) := rfl
@[go_sem] theorem Event.set_20 (x : Event) (v : Int) : x.cells.setIfInBounds 20 (.int .u64 v) = ({ x with obj.num := v } : Event).cells := rfl
@[go_sem] theorem Event.get_21 (x : Event) : x.cells[21]? = some (.int .u64 x.obj.tag) := rfl
@[go_sem] theorem Event.set_21 (x : Event) (v : Int) : x.cells.setIfInBounds 21 (.int .u64 v) = ({ x with obj.tag := v } : Event).cells := rfl
theorem Event.fold (a0 : Int) (a1 : Bool) (a2 : Int) (a3 : ByteArray) (a4 : Int) (a5 : Int) (a6 : Bool) (a7 : Bool) (a8 : ByteArray) (a9 : Int) (a10 : Int) (a11 : Int) (a12 : Bool) (a13 : Bool) (a14 : ByteArray) (a15 : ByteArray) (a16 : ByteArray) (a17 : ByteArray) (a18 : ByteArray) (a19 : Int) (a20 : Int) (a21 : Int) : #[.int .u64 a0, .bool a1, .int .u8 a2, .string a3, .int .u64 a4, .int .u64 a5, .bool a6, .bool a7, .string a8, .int .i64 a9, .int .i64 a10, .int .u8 a11, .bool a12, .bool a13, .string a14, .string a15, .string a16, .string a17, .string a18, .int .u8 a19, .int .u64 a20, .int .u64 a21] = (Event.mk a0 a1 (Obj.mk a2 a3 a4 a5 a6 a7 a8 a9 a10 a11 a12 a13 a14 a15 a16 a17 a18 a19 a20 a21)).cells := rfl
@[go_sem] theorem Event.row_obj (x : Event) : arrRow x.cells 2 20 = some x.obj.cells := by simp [arrRow, Event.cells, Obj.cells]
@[go_sem] theorem Event.put_obj (x : Event) (y : Obj) : splice x.cells 2 y.cells = ({ x with obj := y } : Event).cells := by simp [splice, Event.cells, Obj.cells]

structure Call where
  verb : Int
  target : ByteArray
  num : Int
  size : Int
  zone : ByteArray
  node : ByteArray
  source : ByteArray
  deriving DecidableEq
def Call.cells (x : Call) : Array Value := #[.int .u8 x.verb, .string x.target, .int .u64 x.num, .int .i64 x.size, .string x.zone, .string x.node, .string x.source]
@[go_sem] theorem Call.cells_size (x : Call) : x.cells.size = 7 := rfl
@[go_sem] theorem Call.cells_all (x : Call) : cellsOk x.cells = true := by simp [cellsOk, Call.cells, Value.oneCell']
@[go_sem] theorem Call.row (x : Call) : arrRow x.cells 0 7 = some x.cells := arrRow_all _ _ rfl
@[go_sem] theorem Call.over (x y : Call) : splice y.cells 0 x.cells = x.cells := splice_all y.cells x.cells rfl
@[go_sem] theorem Call.cells_ne (x : Call) : (x.cells = #[]) = False := by simp [Call.cells]
@[go_sem] theorem Call.get_0 (x : Call) : x.cells[0]? = some (.int .u8 x.verb) := rfl
@[go_sem] theorem Call.set_0 (x : Call) (v : Int) : x.cells.setIfInBounds 0 (.int .u8 v) = ({ x with verb := v } : Call).cells := rfl
@[go_sem] theorem Call.get_1 (x : Call) : x.cells[1]? = some (.string x.target) := rfl
@[go_sem] theorem Call.set_1 (x : Call) (v : ByteArray) : x.cells.setIfInBounds 1 (.string v) = ({ x with target := v } : Call).cells := rfl
@[go_sem] theorem Call.get_2 (x : Call) : x.cells[2]? = some (.int .u64 x.num) := rfl
@[go_sem] theorem Call.set_2 (x : Call) (v : Int) : x.cells.setIfInBounds 2 (.int .u64 v) = ({ x with num := v } : Call).cells := rfl
@[go_sem] theorem Call.get_3 (x : Call) : x.cells[3]? = some (.int .i64 x.size) := rfl
@[go_sem] theorem Call.set_3 (x : Call) (v : Int) : x.cells.setIfInBounds 3 (.int .i64 v) = ({ x with size := v } : Call).cells := rfl
@[go_sem] theorem Call.get_4 (x : Call) : x.cells[4]? = some (.string x.zone) := rfl
@[go_sem] theorem Call.set_4 (x : Call) (v : ByteArray) : x.cells.setIfInBounds 4 (.string v) = ({ x with zone := v } : Call).cells := rfl
@[go_sem] theorem Call.get_5 (x : Call) : x.cells[5]? = some (.string x.node) := rfl
@[go_sem] theorem Call.set_5 (x : Call) (v : ByteArray) : x.cells.setIfInBounds 5 (.string v) = ({ x with node := v } : Call).cells := rfl
@[go_sem] theorem Call.get_6 (x : Call) : x.cells[6]? = some (.string x.source) := rfl
@[go_sem] theorem Call.set_6 (x : Call) (v : ByteArray) : x.cells.setIfInBounds 6 (.string v) = ({ x with source := v } : Call).cells := rfl
theorem Call.fold (a0 : Int) (a1 : ByteArray) (a2 : Int) (a3 : Int) (a4 : ByteArray) (a5 : ByteArray) (a6 : ByteArray) : #[.int .u8 a0, .string a1, .int .u64 a2, .int .i64 a3, .string a4, .string a5, .string a6] = (Call.mk a0 a1 a2 a3 a4 a5 a6).cells := rfl

structure Res where
  err : Int
  size : Int
  zone : ByteArray
  tag : Int
  deriving DecidableEq
def Res.cells (x : Res) : Array Value := #[.int .i64 x.err, .int .i64 x.size, .string x.zone, .int .u64 x.tag]
@[go_sem] theorem Res.cells_size (x : Res) : x.cells.size = 4 := rfl
@[go_sem] theorem Res.cells_all (x : Res) : cellsOk x.cells = true := by simp [cellsOk, Res.cells, Value.oneCell']
@[go_sem] theorem Res.row (x : Res) : arrRow x.cells 0 4 = some x.cells := arrRow_all _ _ rfl
@[go_sem] theorem Res.over (x y : Res) : splice y.cells 0 x.cells = x.cells := splice_all y.cells x.cells rfl
@[go_sem] theorem Res.cells_ne (x : Res) : (x.cells = #[]) = False := by simp [Res.cells]
@[go_sem] theorem Res.get_0 (x : Res) : x.cells[0]? = some (.int .i64 x.err) := rfl
@[go_sem] theorem Res.set_0 (x : Res) (v : Int) : x.cells.setIfInBounds 0 (.int .i64 v) = ({ x with err := v } : Res).cells := rfl
@[go_sem] theorem Res.get_1 (x : Res) : x.cells[1]? = some (.int .i64 x.size) := rfl
@[go_sem] theorem Res.set_1 (x : Res) (v : Int) : x.cells.setIfInBounds 1 (.int .i64 v) = ({ x with size := v } : Res).cells := rfl
@[go_sem] theorem Res.get_2 (x : Res) : x.cells[2]? = some (.string x.zone) := rfl
@[go_sem] theorem Res.set_2 (x : Res) (v : ByteArray) : x.cells.setIfInBounds 2 (.string v) = ({ x with zone := v } : Res).cells := rfl
@[go_sem] theorem Res.get_3 (x : Res) : x.cells[3]? = some (.int .u64 x.tag) := rfl
@[go_sem] theorem Res.set_3 (x : Res) (v : Int) : x.cells.setIfInBounds 3 (.int .u64 v) = ({ x with tag := v } : Res).cells := rfl
theorem Res.fold (a0 : Int) (a1 : Int) (a2 : ByteArray) (a3 : Int) : #[.int .i64 a0, .int .i64 a1, .string a2, .int .u64 a3] = (Res.mk a0 a1 a2 a3).cells := rfl

structure GAct where
  act : Int
  obj : Obj
  call : Call
  deriving DecidableEq
def GAct.cells (x : GAct) : Array Value := #[.int .u8 x.act, .int .u8 x.obj.kind, .string x.obj.name, .int .u64 x.obj.version, .int .u64 x.obj.born, .bool x.obj.deleting, .bool x.obj.hold, .string x.obj.cls, .int .i64 x.obj.size, .int .i64 x.obj.got, .int .u8 x.obj.mode, .bool x.obj.keep, .bool x.obj.wait, .string x.obj.zone, .string x.obj.node, .string x.obj.claim, .string x.obj.volume, .string x.obj.source, .int .u8 x.obj.phase, .int .u64 x.obj.num, .int .u64 x.obj.tag, .int .u8 x.call.verb, .string x.call.target, .int .u64 x.call.num, .int .i64 x.call.size, .string x.call.zone, .string x.call.node, .string x.call.source]
@[go_sem] theorem GAct.cells_size (x : GAct) : x.cells.size = 28 := rfl
@[go_sem] theorem GAct.cells_all (x : GAct) : cellsOk x.cells = true := by simp [cellsOk, GAct.cells, Value.oneCell']
@[go_sem] theorem GAct.row (x : GAct) : arrRow x.cells 0 28 = some x.cells := arrRow_all _ _ rfl
@[go_sem] theorem GAct.over (x y : GAct) : splice y.cells 0 x.cells = x.cells := splice_all y.cells x.cells rfl
@[go_sem] theorem GAct.cells_ne (x : GAct) : (x.cells = #[]) = False := by simp [GAct.cells]
@[go_sem] theorem GAct.get_0 (x : GAct) : x.cells[0]? = some (.int .u8 x.act) := rfl
@[go_sem] theorem GAct.set_0 (x : GAct) (v : Int) : x.cells.setIfInBounds 0 (.int .u8 v) = ({ x with act := v } : GAct).cells := rfl
@[go_sem] theorem GAct.get_1 (x : GAct) : x.cells[1]? = some (.int .u8 x.obj.kind) := rfl
@[go_sem] theorem GAct.set_1 (x : GAct) (v : Int) : x.cells.setIfInBounds 1 (.int .u8 v) = ({ x with obj.kind := v } : GAct).cells := rfl
@[go_sem] theorem GAct.get_2 (x : GAct) : x.cells[2]? = some (.string x.obj.name) := rfl
@[go_sem] theorem GAct.set_2 (x : GAct) (v : ByteArray) : x.cells.setIfInBounds 2 (.string v) = ({ x with obj.name := v } : GAct).cells := rfl
@[go_sem] theorem GAct.get_3 (x : GAct) : x.cells[3]? = some (.int .u64 x.obj.version) := rfl
@[go_sem] theorem GAct.set_3 (x : GAct) (v : Int) : x.cells.setIfInBounds 3 (.int .u64 v) = ({ x with obj.version := v } : GAct).cells := rfl
@[go_sem] theorem GAct.get_4 (x : GAct) : x.cells[4]? = some (.int .u64 x.obj.born) := rfl
@[go_sem] theorem GAct.set_4 (x : GAct) (v : Int) : x.cells.setIfInBounds 4 (.int .u64 v) = ({ x with obj.born := v } : GAct).cells := rfl
@[go_sem] theorem GAct.get_5 (x : GAct) : x.cells[5]? = some (.bool x.obj.deleting) := rfl
@[go_sem] theorem GAct.set_5 (x : GAct) (v : Bool) : x.cells.setIfInBounds 5 (.bool v) = ({ x with obj.deleting := v } : GAct).cells := rfl
@[go_sem] theorem GAct.get_6 (x : GAct) : x.cells[6]? = some (.bool x.obj.hold) := rfl
@[go_sem] theorem GAct.set_6 (x : GAct) (v : Bool) : x.cells.setIfInBounds 6 (.bool v) = ({ x with obj.hold := v } : GAct).cells := rfl
@[go_sem] theorem GAct.get_7 (x : GAct) : x.cells[7]? = some (.string x.obj.cls) := rfl
@[go_sem] theorem GAct.set_7 (x : GAct) (v : ByteArray) : x.cells.setIfInBounds 7 (.string v) = ({ x with obj.cls := v } : GAct).cells := rfl
@[go_sem] theorem GAct.get_8 (x : GAct) : x.cells[8]? = some (.int .i64 x.obj.size) := rfl
@[go_sem] theorem GAct.set_8 (x : GAct) (v : Int) : x.cells.setIfInBounds 8 (.int .i64 v) = ({ x with obj.size := v } : GAct).cells := rfl
@[go_sem] theorem GAct.get_9 (x : GAct) : x.cells[9]? = some (.int .i64 x.obj.got) := rfl
@[go_sem] theorem GAct.set_9 (x : GAct) (v : Int) : x.cells.setIfInBounds 9 (.int .i64 v) = ({ x with obj.got := v } : GAct).cells := rfl
@[go_sem] theorem GAct.get_10 (x : GAct) : x.cells[10]? = some (.int .u8 x.obj.mode) := rfl
@[go_sem] theorem GAct.set_10 (x : GAct) (v : Int) : x.cells.setIfInBounds 10 (.int .u8 v) = ({ x with obj.mode := v } : GAct).cells := rfl
@[go_sem] theorem GAct.get_11 (x : GAct) : x.cells[11]? = some (.bool x.obj.keep) := rfl
@[go_sem] theorem GAct.set_11 (x : GAct) (v : Bool) : x.cells.setIfInBounds 11 (.bool v) = ({ x with obj.keep := v } : GAct).cells := rfl
@[go_sem] theorem GAct.get_12 (x : GAct) : x.cells[12]? = some (.bool x.obj.wait) := rfl
@[go_sem] theorem GAct.set_12 (x : GAct) (v : Bool) : x.cells.setIfInBounds 12 (.bool v) = ({ x with obj.wait := v } : GAct).cells := rfl
@[go_sem] theorem GAct.get_13 (x : GAct) : x.cells[13]? = some (.string x.obj.zone) := rfl
@[go_sem] theorem GAct.set_13 (x : GAct) (v : ByteArray) : x.cells.setIfInBounds 13 (.string v) = ({ x with obj.zone := v } : GAct).cells := rfl
@[go_sem] theorem GAct.get_14 (x : GAct) : x.cells[14]? = some (.string x.obj.node) := rfl
@[go_sem] theorem GAct.set_14 (x : GAct) (v : ByteArray) : x.cells.setIfInBounds 14 (.string v) = ({ x with obj.node := v } : GAct).cells := rfl
@[go_sem] theorem GAct.get_15 (x : GAct) : x.cells[15]? = some (.string x.obj.claim) := rfl
@[go_sem] theorem GAct.set_15 (x : GAct) (v : ByteArray) : x.cells.setIfInBounds 15 (.string v) = ({ x with obj.claim := v } : GAct).cells := rfl
@[go_sem] theorem GAct.get_16 (x : GAct) : x.cells[16]? = some (.string x.obj.volume) := rfl
@[go_sem] theorem GAct.set_16 (x : GAct) (v : ByteArray) : x.cells.setIfInBounds 16 (.string v) = ({ x with obj.volume := v } : GAct).cells := rfl
@[go_sem] theorem GAct.get_17 (x : GAct) : x.cells[17]? = some (.string x.obj.source) := rfl
@[go_sem] theorem GAct.set_17 (x : GAct) (v : ByteArray) : x.cells.setIfInBounds 17 (.string v) = ({ x with obj.source := v } : GAct).cells := rfl
@[go_sem] theorem GAct.get_18 (x : GAct) : x.cells[18]? = some (.int .u8 x.obj.phase) := rfl
@[go_sem] theorem GAct.set_18 (x : GAct) (v : Int) : x.cells.setIfInBounds 18 (.int .u8 v) = ({ x with obj.phase := v } : GAct).cells := rfl
@[go_sem] theorem GAct.get_19 (x : GAct) : x.cells[19]? = some (.int .u64 x.obj.num) := rfl
@[go_sem] theorem GAct.set_19 (x : GAct) (v : Int) : x.cells.setIfInBounds 19 (.int .u64 v) = ({ x with obj.num := v } : GAct).cells := rfl
@[go_sem] theorem GAct.get_20 (x : GAct) : x.cells[20]? = some (.int .u64 x.obj.tag) := rfl
@[go_sem] theorem GAct.set_20 (x : GAct) (v : Int) : x.cells.setIfInBounds 20 (.int .u64 v) = ({ x with obj.tag := v } : GAct).cells := rfl
@[go_sem] theorem GAct.get_21 (x : GAct) : x.cells[21]? = some (.int .u8 x.call.verb) := rfl
@[go_sem] theorem GAct.set_21 (x : GAct) (v : Int) : x.cells.setIfInBounds 21 (.int .u8 v) = ({ x with call.verb := v } : GAct).cells := rfl
@[go_sem] theorem GAct.get_22 (x : GAct) : x.cells[22]? = some (.string x.call.target) := rfl
@[go_sem] theorem GAct.set_22 (x : GAct) (v : ByteArray) : x.cells.setIfInBounds 22 (.string v) = ({ x with call.target := v } : GAct).cells := rfl
@[go_sem] theorem GAct.get_23 (x : GAct) : x.cells[23]? = some (.int .u64 x.call.num) := rfl
@[go_sem] theorem GAct.set_23 (x : GAct) (v : Int) : x.cells.setIfInBounds 23 (.int .u64 v) = ({ x with call.num := v } : GAct).cells := rfl
@[go_sem] theorem GAct.get_24 (x : GAct) : x.cells[24]? = some (.int .i64 x.call.size) := rfl
@[go_sem] theorem GAct.set_24 (x : GAct) (v : Int) : x.cells.setIfInBounds 24 (.int .i64 v) = ({ x with call.size := v } : GAct).cells := rfl
@[go_sem] theorem GAct.get_25 (x : GAct) : x.cells[25]? = some (.string x.call.zone) := rfl
@[go_sem] theorem GAct.set_25 (x : GAct) (v : ByteArray) : x.cells.setIfInBounds 25 (.string v) = ({ x with call.zone := v } : GAct).cells := rfl
@[go_sem] theorem GAct.get_26 (x : GAct) : x.cells[26]? = some (.string x.call.node) := rfl
@[go_sem] theorem GAct.set_26 (x : GAct) (v : ByteArray) : x.cells.setIfInBounds 26 (.string v) = ({ x with call.node := v } : GAct).cells := rfl
@[go_sem] theorem GAct.get_27 (x : GAct) : x.cells[27]? = some (.string x.call.source) := rfl
@[go_sem] theorem GAct.set_27 (x : GAct) (v : ByteArray) : x.cells.setIfInBounds 27 (.string v) = ({ x with call.source := v } : GAct).cells := rfl
theorem GAct.fold (a0 : Int) (a1 : Int) (a2 : ByteArray) (a3 : Int) (a4 : Int) (a5 : Bool) (a6 : Bool) (a7 : ByteArray) (a8 : Int) (a9 : Int) (a10 : Int) (a11 : Bool) (a12 : Bool) (a13 : ByteArray) (a14 : ByteArray) (a15 : ByteArray) (a16 : ByteArray) (a17 : ByteArray) (a18 : Int) (a19 : Int) (a20 : Int) (a21 : Int) (a22 : ByteArray) (a23 : Int) (a24 : Int) (a25 : ByteArray) (a26 : ByteArray) (a27 : ByteArray) : #[.int .u8 a0, .int .u8 a1, .string a2, .int .u64 a3, .int .u64 a4, .bool a5, .bool a6, .string a7, .int .i64 a8, .int .i64 a9, .int .u8 a10, .bool a11, .bool a12, .string a13, .string a14, .string a15, .string a16, .string a17, .int .u8 a18, .int .u64 a19, .int .u64 a20, .int .u8 a21, .string a22, .int .u64 a23, .int .i64 a24, .string a25, .string a26, .string a27] = (GAct.mk a0 (Obj.mk a1 a2 a3 a4 a5 a6 a7 a8 a9 a10 a11 a12 a13 a14 a15 a16 a17 a18 a19 a20) (Call.mk a21 a22 a23 a24 a25 a26 a27)).cells := rfl
@[go_sem] theorem GAct.row_obj (x : GAct) : arrRow x.cells 1 20 = some x.obj.cells := by simp [arrRow, GAct.cells, Obj.cells]
@[go_sem] theorem GAct.put_obj (x : GAct) (y : Obj) : splice x.cells 1 y.cells = ({ x with obj := y } : GAct).cells := by simp [splice, GAct.cells, Obj.cells]
@[go_sem] theorem GAct.row_call (x : GAct) : arrRow x.cells 21 7 = some x.call.cells := by simp [arrRow, GAct.cells, Call.cells]
@[go_sem] theorem GAct.put_call (x : GAct) (y : Call) : splice x.cells 21 y.cells = ({ x with call := y } : GAct).cells := by simp [splice, GAct.cells, Call.cells]

end Go.Proofs.Ythppjfhbdohmbaa
