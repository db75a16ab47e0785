/-
  Plain data of answers and statements: how they are written, how they are read. No program in sight.
-/
import Derived.Test.YtehkgcmdndehaaaDoorRdD
import Derived.Test.YtehkgcmdndehaaaDoorReqF
namespace Go.Proofs.YtehkgcmdndehaaaDoor
set_option linter.unusedSimpArgs false
set_option linter.unusedVariables false
open Go.RowKit

structure StmtD where
  name : ByteArray
  term : Int
  frm : Int
  till : Int
  granted : Int
  consumed : Int
  expired : Int
  rolled : Int
  over : Int

structure AnsD where
  err : Int
  left : Int
  over : Int
  n : Int
  stmt : StmtD

def StmtD.nums (s : StmtD) : List Int := [s.term, s.frm, s.till, s.granted, s.consumed, s.expired, s.rolled, s.over]
def StmtD.cells (s : StmtD) : Array Value := #[.string s.name, .int .i64 s.term, .int .i64 s.frm, .int .i64 s.till, .int .i64 s.granted, .int .i64 s.consumed, .int .i64 s.expired, .int .i64 s.rolled, .int .i64 s.over]
def AnsD.cells (a : AnsD) : Array Value := #[.int .i64 a.err, .int .i64 a.left, .int .i64 a.over, .int .i64 a.n,
  .string a.stmt.name, .int .i64 a.stmt.term, .int .i64 a.stmt.frm, .int .i64 a.stmt.till, .int .i64 a.stmt.granted, .int .i64 a.stmt.consumed, .int .i64 a.stmt.expired, .int .i64 a.stmt.rolled, .int .i64 a.stmt.over]
def stmtZ : StmtD := ⟨⟨#[]⟩, 0, 0, 0, 0, 0, 0, 0, 0⟩
def ansZ : AnsD := ⟨0, 0, 0, 0, stmtZ⟩

def encStmt (s : StmtD) : List UInt8 := encText s.name ++ encInts s.nums
/-- An answer's bytes. -/
def encAns (a : AnsD) : List UInt8 :=
  byteOf a.err :: encInts [a.left, a.over, a.n] ++ (if a.stmt.term = 0 then [0] else 1 :: encStmt a.stmt)

/-- Of eight numbers and a name a statement. -/
def stmtOf (name : List UInt8) (l : List Int) : StmtD := ⟨strB name, l.getD 0 0, l.getD 1 0, l.getD 2 0, l.getD 3 0, l.getD 4 0, l.getD 5 0, l.getD 6 0, l.getD 7 0⟩

/-- An answer that is read, and what was wrong (0: nothing; 8: bytes lacked; 9: more; 11: bad). -/
def parseAns (bs : List UInt8) : AnsD × Int :=
  let r0 : Rd := ⟨bs, false⟩
  let e := r0.one
  let l := Rd.ints 3 e.2
  let f := l.2.one
  if f.2.cut = false ∧ 1 < f.1 then (ansZ, 11) else
  let s := f.2.str
  let t := Rd.ints 8 s.2
  let last := if f.1 = 1 then t.2 else f.2
  let st := if f.1 = 1 then stmtOf s.1 t.1 else stmtZ
  if last.cut = true then (ansZ, 8) else
  if f.1 = 1 ∧ st.term = 0 then (ansZ, 11) else
  if 0 < last.bs.length then (ansZ, 9) else
  (⟨e.1, l.1.getD 0 0, l.1.getD 1 0, l.1.getD 2 0, st⟩, 0)
end Go.Proofs.YtehkgcmdndehaaaDoor
