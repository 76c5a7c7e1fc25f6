/-
  PLAIN DATA of the statements: entries and messages, their letters, what is right, the texts, as Lean functions on numbers and lists of bytes. No program is imported. No condition. By an AI agent.
-/
import Derived.Lib.ItoaNum
import Derived.Lib.ItoaMem
import Derived.Lib.Join
import GoSem.Core.Value
namespace Go.Proofs.YtbjbgdnjcppjhaaGreatDoor

/-- an entry's fields -/
structure Ent where
  term : Int
  index : Int
  kind : Int
  client : Int
  seq : Int
  block : Int
  many : Int
  node : Int
  level : Int
  data : ByteArray
  old : ByteArray

/-- its cells, as the model lays them -/
def Ent.cells (e : Ent) : Array Value :=
  #[.int .u64 e.term, .int .u64 e.index, .int .i64 e.kind, .int .u64 e.client, .int .u64 e.seq, .int .u64 e.block, .int .u64 e.many, .int .i64 e.node, .int .i64 e.level, .string e.data, .string e.old]
def Ent.val (e : Ent) : Value := .agg e.cells
def Ent.zero : Ent := ⟨0, 0, 0, 0, 0, 0, 0, 0, 0, ⟨#[]⟩, ⟨#[]⟩⟩

/-- an unsigned number of 64 bits, an int -/
def U64 (n : Int) : Prop := 0 ≤ n ∧ n ≤ 18446744073709551615
def I64 (n : Int) : Prop := -9223372036854775808 ≤ n ∧ n ≤ 9223372036854775807

structure Ent.wf (e : Ent) : Prop where
  term : U64 e.term
  index : U64 e.index
  kind : I64 e.kind
  client : U64 e.client
  seq : U64 e.seq
  block : U64 e.block
  many : U64 e.many
  node : I64 e.node
  level : I64 e.level
  data : e.data.size ≤ 9223372036854775807
  old : e.old.size ≤ 9223372036854775807

/-- the letters of an entry's kind (P4.1) -/
def entL (k : Int) : List UInt8 :=
  if k = 1 then [99, 98, 100] else if k = 2 then [99, 98, 109] else if k = 3 then [99, 109] else if k = 4 then [99] else if k = 5 then [110] else if k = 6 then [110]
  else if k = 7 then [110, 108] else if k = 11 then [99, 98, 100, 111] else []
def entOk (k : Int) : Bool := decide (0 ≤ k) && decide (k ≤ 11)
/-- the letters of a message's kind (P4.2) -/
def msgL (k : Int) : List UInt8 :=
  if k = 1 then [105, 112] else if k = 2 then [121] else if k = 3 then [105, 112] else if k = 4 then [121] else if k = 5 then [105, 112, 116, 101, 107] else if k = 6 then [105, 121, 107]
  else if k = 7 then [105, 112, 115] else if k = 8 then [105] else if k = 9 then [107] else if k = 10 then [107] else []
def msgOk (k : Int) : Bool := decide (1 ≤ k) && decide (k ≤ 10)

/-- a field that is asked: its letter, whether it is there, whether it is right -/
abbrev Fld := UInt8 × Bool × Bool
def fldOk (may : List UInt8) (f : Fld) : Bool := if may.contains f.1 then f.2.2 else !f.2.1
def fitB (may : List UInt8) (l : List Fld) : Bool := l.all (fldOk may)

def smallB (n : Int) : Bool := decide (n < 4294967296)
def nodeB (n : Int) : Bool := decide (1 ≤ n) && decide (n ≤ 7)
def Ent.flds (e : Ent) : List Fld :=
  [(99, decide (0 < e.client) || decide (0 < e.seq), decide (0 < e.client)), (98, decide (0 < e.block), smallB e.block), (109, decide (0 < e.many), smallB e.many),
   (110, !decide (e.node = 0), nodeB e.node), (108, !decide (e.level = 0), decide (e.level = 1) || decide (e.level = 2)),
   (100, !decide (e.data.size = 0), decide (e.data.size ≤ 64)), (111, !decide (e.old.size = 0), decide (e.old.size ≤ 64))]
/-- may the entry be? (P4.1) -/
def rightB (e : Ent) : Bool := entOk e.kind && decide (0 < e.term) && decide (0 < e.index) && fitB (entL e.kind) e.flds
def levelI (k : Int) : Int := if k = 11 then 2 else 1

/-- sixteenths -/
def hexD (n : Nat) : UInt8 := if n < 10 then UInt8.ofNat (48 + n) else UInt8.ofNat (87 + n)
def hexL : List UInt8 → List UInt8
  | [] => []
  | b :: r => hexD (b.toNat / 16) :: hexD (b.toNat % 16) :: hexL r
theorem hexL_append (a b : List UInt8) : hexL (a ++ b) = hexL a ++ hexL b := by
  induction a with
  | nil => rfl
  | cons x r ih => simp [hexL, ih]
theorem hexL_length (a : List UInt8) : (hexL a).length = 2 * a.length := by
  induction a with
  | nil => rfl
  | cons x r ih => simp [hexL, ih]; omega

/-- a number, as it is read -/
def dec (n : Int) : List UInt8 := Lib.decDigits n.toNat

/-- a field's text, by its letter -/
def Ent.fldT (e : Ent) (c : UInt8) : List UInt8 :=
  if c = 99 then dec e.client ++ [47] ++ dec e.seq else if c = 98 then dec e.block else if c = 109 then dec e.many else if c = 110 then Lib.itoa e.node
  else if c = 108 then Lib.itoa e.level else if c = 100 then hexL e.data.data.toList else hexL e.old.data.toList
/-- the letters in the order in which they are told -/
def entOrder : List UInt8 := [99, 98, 109, 110, 108, 100, 111]
def Ent.piece (e : Ent) (c : UInt8) : List UInt8 := if (entL e.kind).contains c then [32, c, 61] ++ e.fldT c else []
def Ent.headT (e : Ent) : List UInt8 := Lib.itoa e.kind ++ [32] ++ dec e.term ++ [46] ++ dec e.index
/-- an entry's text (P4.3) -/
def textL (e : Ent) : List UInt8 := e.headT ++ entOrder.flatMap e.piece

/-- a message's fields; its entries apart -/
structure Msg where
  kind : Int
  frm : Int
  to : Int
  term : Int
  index : Int
  prev : Int
  commit : Int
  mark : Int
  ok : Bool
  snap : ByteArray
  entries : List Ent

structure Msg.wf (m : Msg) : Prop where
  kind : I64 m.kind
  frm : I64 m.frm
  to : I64 m.to
  term : U64 m.term
  index : U64 m.index
  prev : U64 m.prev
  commit : U64 m.commit
  mark : U64 m.mark
  snap : m.snap.size ≤ 9223372036854775807
  entries : ∀ e ∈ m.entries, e.wf

/-- its cells; the entries' slice is given -/
def Msg.cells (m : Msg) (s : Value) : Array Value :=
  #[.int .i64 m.kind, .int .i64 m.frm, .int .i64 m.to, .int .u64 m.term, .int .u64 m.index, .int .u64 m.prev, .int .u64 m.commit, .int .u64 m.mark, .bool m.ok, s, .string m.snap]

def Msg.flds (m : Msg) : List Fld :=
  [(105, decide (0 < m.index), true), (112, decide (0 < m.prev), true), (116, decide (0 < m.commit), true), (107, decide (0 < m.mark), true), (121, m.ok, true),
   (101, decide (0 < m.entries.length), decide (m.entries.length ≤ 64) && m.entries.all rightB), (115, !decide (m.snap.size = 0), decide (m.snap.size ≤ 16384))]
def msgRightB (m : Msg) : Bool := msgOk m.kind && nodeB m.frm && nodeB m.to && fitB (msgL m.kind) m.flds
def msgLevelI (m : Msg) : Int := if m.kind = 9 ∨ m.kind = 10 ∨ m.entries.any (fun e => decide (e.kind = 11)) = true then 2 else 1

def Msg.fldT (m : Msg) (c : UInt8) : List UInt8 :=
  if c = 105 then dec m.index else if c = 112 then dec m.prev else if c = 116 then dec m.commit else if c = 107 then dec m.mark else if c = 121 then (if m.ok then [49] else [48])
  else if c = 101 then [91] ++ Lib.join (m.entries.map textL) [59] ++ [93] else hexL m.snap.data.toList
def msgOrder : List UInt8 := [105, 112, 116, 107, 121, 101, 115]
def Msg.piece (m : Msg) (c : UInt8) : List UInt8 := if (msgL m.kind).contains c then [32, c, 61] ++ m.fldT c else []
def Msg.headT (m : Msg) : List UInt8 := Lib.itoa m.kind ++ [32] ++ Lib.itoa m.frm ++ [62] ++ Lib.itoa m.to ++ [32] ++ dec m.term
/-- a message's text (P4.3) -/
def msgTextL (m : Msg) : List UInt8 := m.headT ++ msgOrder.flatMap m.piece

end Go.Proofs.YtbjbgdnjcppjhaaGreatDoor
