/-
  No cell of these rows narrows 'for every input' (looked for: loops, veiled, ifaces, maps, wideKeys, modest, calm, conditions, laid).
  DERIVED. THE GIVEN ROWS OF THIS SEAT. 8 by the template 'for every input the law returns true; each argument reads behind the call as it read before'; 0 by the template 'total and deterministic' (their statements: YtehkgcmdndehaaaTotals.lean).
  GIVEN WITH THE SEED: the statements are not yours to turn. If you find one false, say at which input.
  Laid BY PROGRAM, IN A SANDBOX (cutbox-rows.mjs): the forced cells as the released guide's own fill.sh prints them over the translation a155a56ec061a2e5… (all of the seat's roots in one cut). By AI agents, Wed Nov 11 2026. No macro, syntax, notation, axiom, sorry.
-/
import Derived.Test.YtehkgcmdndehaaaChecked
import GoSem.Claim
import GoSem.ClaimJoined
import GoSem.ClaimMapViews
import Derived.JoinedTies
import Derived.KernelRfl
namespace Go.Proofs.Ytehkgcmdndehaaa
/- THE CELL 'sum', in the pinned program and in every row, IS THE sha256 OF THE DUMP (.gsa) THAT YtehkgcmdndehaaaProg.lean LOADS. Nothing in Lean hashes anything: it is a label: what it is worth is what the hold of that sum in a sandbox is worth. -/
noncomputable def Try.pinned : Pinned := { name := "ytehkgcmdndehaaa", sum := "a155a56ec061a2e560329ba4b001b9bc63aeda38db0fc153b87666eec630b918", checked := Try.checked }
namespace Rows
def none {H : Type} : Left H := { results := [], args := [] }

/-- 'tolllaw18.FrameSizes': WHATEVER THE INPUT: true; the input reads as it did. -/
def frameSizesSpec : ChangeSpec := { name := "frameSizes", fn := fun _ => fun
  | [d] => { results := [.lit (.bool true)], args := [d] }
  | _ => none }
def frameSizesRow : OpenClaim := { program := "ytehkgcmdndehaaa", sum := "a155a56ec061a2e560329ba4b001b9bc63aeda38db0fc153b87666eec630b918", func := "toll/tolllaw18.FrameSizes", spec := "frameSizes", unfollowed := true, recurses := true, apart := false }
def FrameSizesSaid : Prop := frameSizesRow.holds Try.pinned (OpenSpec.ofChange frameSizesSpec)

/-- ITS FALSE NEIGHBOUR: 'it returns false'. Refute it at one input. -/
def frameSizesWrong : ChangeSpec := { name := "frameSizes", fn := fun _ => fun
  | [d] => { results := [.lit (.bool false)], args := [d] }
  | _ => none }
def FrameSizesWrongFalsely : Prop := frameSizesRow.holds Try.pinned (OpenSpec.ofChange frameSizesWrong)

/-- 'tolllaw18.FrameFrames': WHATEVER THE INPUT: true; the input reads as it did. -/
def frameFramesSpec : ChangeSpec := { name := "frameFrames", fn := fun _ => fun
  | [d1, d2] => { results := [.lit (.bool true)], args := [d1, d2] }
  | _ => none }
def frameFramesRow : OpenClaim := { program := "ytehkgcmdndehaaa", sum := "a155a56ec061a2e560329ba4b001b9bc63aeda38db0fc153b87666eec630b918", func := "toll/tolllaw18.FrameFrames", spec := "frameFrames", unfollowed := true, recurses := true, apart := false }
def FrameFramesSaid : Prop := frameFramesRow.holds Try.pinned (OpenSpec.ofChange frameFramesSpec)

/-- ITS FALSE NEIGHBOUR: 'it returns false'. Refute it at one input. -/
def frameFramesWrong : ChangeSpec := { name := "frameFrames", fn := fun _ => fun
  | [d1, d2] => { results := [.lit (.bool false)], args := [d1, d2] }
  | _ => none }
def FrameFramesWrongFalsely : Prop := frameFramesRow.holds Try.pinned (OpenSpec.ofChange frameFramesWrong)

/-- 'tolllaw18.FrameAnswers': WHATEVER THE INPUT: true; the input reads as it did. -/
def frameAnswersSpec : ChangeSpec := { name := "frameAnswers", fn := fun _ => fun
  | [d1, d2] => { results := [.lit (.bool true)], args := [d1, d2] }
  | _ => none }
def frameAnswersRow : OpenClaim := { program := "ytehkgcmdndehaaa", sum := "a155a56ec061a2e560329ba4b001b9bc63aeda38db0fc153b87666eec630b918", func := "toll/tolllaw18.FrameAnswers", spec := "frameAnswers", unfollowed := true, recurses := true, apart := false }
def FrameAnswersSaid : Prop := frameAnswersRow.holds Try.pinned (OpenSpec.ofChange frameAnswersSpec)

/-- ITS FALSE NEIGHBOUR: 'it returns false'. Refute it at one input. -/
def frameAnswersWrong : ChangeSpec := { name := "frameAnswers", fn := fun _ => fun
  | [d1, d2] => { results := [.lit (.bool false)], args := [d1, d2] }
  | _ => none }
def FrameAnswersWrongFalsely : Prop := frameAnswersRow.holds Try.pinned (OpenSpec.ofChange frameAnswersWrong)

/-- 'tolllaw19.SessionPieces': WHATEVER THE INPUT: true; the input reads as it did. -/
def sessionPiecesSpec : ChangeSpec := { name := "sessionPieces", fn := fun _ => fun
  | [d1, d2] => { results := [.lit (.bool true)], args := [d1, d2] }
  | _ => none }
def sessionPiecesRow : OpenClaim := { program := "ytehkgcmdndehaaa", sum := "a155a56ec061a2e560329ba4b001b9bc63aeda38db0fc153b87666eec630b918", func := "toll/tolllaw19.SessionPieces", spec := "sessionPieces", inPlace := ["sync/atomic.LoadUint32", "(*internal/sync.Mutex).Lock", "internal/race.Disable", "sync/atomic.CompareAndSwapInt32", "internal/race.Enable", "internal/race.Acquire", "(*internal/sync.Mutex).lockSlow", "internal/sync.runtime_canSpin", "internal/sync.runtime_doSpin", "internal/sync.throw", "internal/sync.runtime_nanotime", "internal/sync.runtime_SemacquireMutex", "sync/atomic.AddInt32", "(*internal/sync.Mutex).Unlock", "internal/race.ReleaseMerge", "(*internal/sync.Mutex).unlockSlow", "internal/sync.fatal", "internal/sync.runtime_Semrelease", "sync/atomic.StoreUint32"], unfollowed := true, recurses := true, apart := false }
def SessionPiecesSaid : Prop := sessionPiecesRow.holds Try.pinned (OpenSpec.ofChange sessionPiecesSpec)

/-- ITS FALSE NEIGHBOUR: 'it returns false'. Refute it at one input. -/
def sessionPiecesWrong : ChangeSpec := { name := "sessionPieces", fn := fun _ => fun
  | [d1, d2] => { results := [.lit (.bool false)], args := [d1, d2] }
  | _ => none }
def SessionPiecesWrongFalsely : Prop := sessionPiecesRow.holds Try.pinned (OpenSpec.ofChange sessionPiecesWrong)

/-- 'tolllaw19.SessionBreaks': WHATEVER THE INPUT: true; the input reads as it did. -/
def sessionBreaksSpec : ChangeSpec := { name := "sessionBreaks", fn := fun _ => fun
  | [d1, d2, d3] => { results := [.lit (.bool true)], args := [d1, d2, d3] }
  | _ => none }
def sessionBreaksRow : OpenClaim := { program := "ytehkgcmdndehaaa", sum := "a155a56ec061a2e560329ba4b001b9bc63aeda38db0fc153b87666eec630b918", func := "toll/tolllaw19.SessionBreaks", spec := "sessionBreaks", inPlace := ["sync/atomic.LoadUint32", "(*internal/sync.Mutex).Lock", "internal/race.Disable", "sync/atomic.CompareAndSwapInt32", "internal/race.Enable", "internal/race.Acquire", "(*internal/sync.Mutex).lockSlow", "internal/sync.runtime_canSpin", "internal/sync.runtime_doSpin", "internal/sync.throw", "internal/sync.runtime_nanotime", "internal/sync.runtime_SemacquireMutex", "sync/atomic.AddInt32", "(*internal/sync.Mutex).Unlock", "internal/race.ReleaseMerge", "(*internal/sync.Mutex).unlockSlow", "internal/sync.fatal", "internal/sync.runtime_Semrelease", "sync/atomic.StoreUint32"], unfollowed := true, recurses := true, apart := false }
def SessionBreaksSaid : Prop := sessionBreaksRow.holds Try.pinned (OpenSpec.ofChange sessionBreaksSpec)

/-- ITS FALSE NEIGHBOUR: 'it returns false'. Refute it at one input. -/
def sessionBreaksWrong : ChangeSpec := { name := "sessionBreaks", fn := fun _ => fun
  | [d1, d2, d3] => { results := [.lit (.bool false)], args := [d1, d2, d3] }
  | _ => none }
def SessionBreaksWrongFalsely : Prop := sessionBreaksRow.holds Try.pinned (OpenSpec.ofChange sessionBreaksWrong)

/-- 'tolllaw19.SessionWaits': WHATEVER THE INPUT: true; the input reads as it did. -/
def sessionWaitsSpec : ChangeSpec := { name := "sessionWaits", fn := fun _ => fun
  | [d] => { results := [.lit (.bool true)], args := [d] }
  | _ => none }
def sessionWaitsRow : OpenClaim := { program := "ytehkgcmdndehaaa", sum := "a155a56ec061a2e560329ba4b001b9bc63aeda38db0fc153b87666eec630b918", func := "toll/tolllaw19.SessionWaits", spec := "sessionWaits", inPlace := ["sync/atomic.LoadUint32", "(*internal/sync.Mutex).Lock", "internal/race.Disable", "sync/atomic.CompareAndSwapInt32", "internal/race.Enable", "internal/race.Acquire", "(*internal/sync.Mutex).lockSlow", "internal/sync.runtime_canSpin", "internal/sync.runtime_doSpin", "internal/sync.throw", "internal/sync.runtime_nanotime", "internal/sync.runtime_SemacquireMutex", "sync/atomic.AddInt32", "(*internal/sync.Mutex).Unlock", "internal/race.ReleaseMerge", "(*internal/sync.Mutex).unlockSlow", "internal/sync.fatal", "internal/sync.runtime_Semrelease", "sync/atomic.StoreUint32"], unfollowed := true, recurses := true, apart := false }
def SessionWaitsSaid : Prop := sessionWaitsRow.holds Try.pinned (OpenSpec.ofChange sessionWaitsSpec)

/-- ITS FALSE NEIGHBOUR: 'it returns false'. Refute it at one input. -/
def sessionWaitsWrong : ChangeSpec := { name := "sessionWaits", fn := fun _ => fun
  | [d] => { results := [.lit (.bool false)], args := [d] }
  | _ => none }
def SessionWaitsWrongFalsely : Prop := sessionWaitsRow.holds Try.pinned (OpenSpec.ofChange sessionWaitsWrong)

/-- 'tolllaw18.FrameRequests': WHATEVER THE INPUT: true; the input reads as it did. -/
def frameRequestsSpec : ChangeSpec := { name := "frameRequests", fn := fun _ => fun
  | [d1, d2, d3] => { results := [.lit (.bool true)], args := [d1, d2, d3] }
  | _ => none }
def frameRequestsRow : OpenClaim := { program := "ytehkgcmdndehaaa", sum := "a155a56ec061a2e560329ba4b001b9bc63aeda38db0fc153b87666eec630b918", func := "toll/tolllaw18.FrameRequests", spec := "frameRequests", unfollowed := true, recurses := true, apart := false }
def FrameRequestsSaid : Prop := frameRequestsRow.holds Try.pinned (OpenSpec.ofChange frameRequestsSpec)

/-- ITS FALSE NEIGHBOUR: 'it returns false'. Refute it at one input. -/
def frameRequestsWrong : ChangeSpec := { name := "frameRequests", fn := fun _ => fun
  | [d1, d2, d3] => { results := [.lit (.bool false)], args := [d1, d2, d3] }
  | _ => none }
def FrameRequestsWrongFalsely : Prop := frameRequestsRow.holds Try.pinned (OpenSpec.ofChange frameRequestsWrong)

/-- 'tolllaw18.FrameTurns': WHATEVER THE INPUT: true; the input reads as it did. -/
def frameTurnsSpec : ChangeSpec := { name := "frameTurns", fn := fun _ => fun
  | [d1, d2, d3, d4, d5, d6] => { results := [.lit (.bool true)], args := [d1, d2, d3, d4, d5, d6] }
  | _ => none }
def frameTurnsRow : OpenClaim := { program := "ytehkgcmdndehaaa", sum := "a155a56ec061a2e560329ba4b001b9bc63aeda38db0fc153b87666eec630b918", func := "toll/tolllaw18.FrameTurns", spec := "frameTurns", unfollowed := true, recurses := true, apart := false }
def FrameTurnsSaid : Prop := frameTurnsRow.holds Try.pinned (OpenSpec.ofChange frameTurnsSpec)

/-- ITS FALSE NEIGHBOUR: 'it returns false'. Refute it at one input. -/
def frameTurnsWrong : ChangeSpec := { name := "frameTurns", fn := fun _ => fun
  | [d1, d2, d3, d4, d5, d6] => { results := [.lit (.bool false)], args := [d1, d2, d3, d4, d5, d6] }
  | _ => none }
def FrameTurnsWrongFalsely : Prop := frameTurnsRow.holds Try.pinned (OpenSpec.ofChange frameTurnsWrong)

/- THE SECOND FORM. 'bulk': how many values and letters a reading holds, each counted each time it is reached (what is shared counts as often as it is met; a slice's spare places count too). A statement '..UptoSaid' is the law's where the arguments, and the package variables that the reading takes, are together of bulk at most 1048576: NARROWER than '..Said'. Prove '..Said' where nothing that the law and all that it calls make is longer than what came in: it says more and counts as full. Else prove '..UptoSaid'. A law counts once. -/
mutual
def uptoBulk {H : Type} : DataW H → Nat
  | .lit (.string bytes) => bytes.length + 1
  | .lit _ => 1
  | .nil => 1
  | .ptr d => uptoBulk d + 1
  | .slice elems spare => uptoBulkAll elems + uptoBulkAll spare + 1
  | .agg parts => uptoBulkAll parts + 1
  | .iface _ d => uptoBulk d + 1
  | .map entries => uptoBulkEntries entries + 1
  | .held _ => 1
def uptoBulkAll {H : Type} : List (DataW H) → Nat
  | [] => 0
  | d :: r => uptoBulk d + uptoBulkAll r
def uptoBulkEntries {H : Type} : List (Lit × DataW H) → Nat
  | [] => 0
  | x :: r => uptoBulkEntry x + uptoBulkEntries r
def uptoBulkEntry {H : Type} : Lit × DataW H → Nat
  | (.string bytes, d) => bytes.length + uptoBulk d + 1
  | (_, d) => uptoBulk d + 1
 end
def uptoSmall : (H : Type) → List (DataW H) → Bool := fun _ ds => decide (uptoBulkAll ds ≤ 1048576)
def OpenSpec.upto (s : _root_.Go.ChangeSpec) : _root_.Go.OpenSpec := { _root_.Go.OpenSpec.ofChange s with cond := some uptoSmall }

/-- 'tolllaw18.FrameSizes', WHERE WHAT IT READS IS OF BULK AT MOST 1048576: true; the input reads as it did. -/
def frameSizesUptoRow : OpenClaim := { program := "ytehkgcmdndehaaa", sum := "a155a56ec061a2e560329ba4b001b9bc63aeda38db0fc153b87666eec630b918", func := "toll/tolllaw18.FrameSizes", spec := "frameSizes", unfollowed := true, recurses := true, apart := false, narrowed := true }
def FrameSizesUptoSaid : Prop := frameSizesUptoRow.holds Try.pinned (OpenSpec.upto frameSizesSpec)

/-- 'tolllaw18.FrameFrames', WHERE WHAT IT READS IS OF BULK AT MOST 1048576: true; the input reads as it did. -/
def frameFramesUptoRow : OpenClaim := { program := "ytehkgcmdndehaaa", sum := "a155a56ec061a2e560329ba4b001b9bc63aeda38db0fc153b87666eec630b918", func := "toll/tolllaw18.FrameFrames", spec := "frameFrames", unfollowed := true, recurses := true, apart := false, narrowed := true }
def FrameFramesUptoSaid : Prop := frameFramesUptoRow.holds Try.pinned (OpenSpec.upto frameFramesSpec)

/-- 'tolllaw18.FrameAnswers', WHERE WHAT IT READS IS OF BULK AT MOST 1048576: true; the input reads as it did. -/
def frameAnswersUptoRow : OpenClaim := { program := "ytehkgcmdndehaaa", sum := "a155a56ec061a2e560329ba4b001b9bc63aeda38db0fc153b87666eec630b918", func := "toll/tolllaw18.FrameAnswers", spec := "frameAnswers", unfollowed := true, recurses := true, apart := false, narrowed := true }
def FrameAnswersUptoSaid : Prop := frameAnswersUptoRow.holds Try.pinned (OpenSpec.upto frameAnswersSpec)

/-- 'tolllaw19.SessionPieces', WHERE WHAT IT READS IS OF BULK AT MOST 1048576: true; the input reads as it did. -/
def sessionPiecesUptoRow : OpenClaim := { program := "ytehkgcmdndehaaa", sum := "a155a56ec061a2e560329ba4b001b9bc63aeda38db0fc153b87666eec630b918", func := "toll/tolllaw19.SessionPieces", spec := "sessionPieces", inPlace := ["sync/atomic.LoadUint32", "(*internal/sync.Mutex).Lock", "internal/race.Disable", "sync/atomic.CompareAndSwapInt32", "internal/race.Enable", "internal/race.Acquire", "(*internal/sync.Mutex).lockSlow", "internal/sync.runtime_canSpin", "internal/sync.runtime_doSpin", "internal/sync.throw", "internal/sync.runtime_nanotime", "internal/sync.runtime_SemacquireMutex", "sync/atomic.AddInt32", "(*internal/sync.Mutex).Unlock", "internal/race.ReleaseMerge", "(*internal/sync.Mutex).unlockSlow", "internal/sync.fatal", "internal/sync.runtime_Semrelease", "sync/atomic.StoreUint32"], unfollowed := true, recurses := true, apart := false, narrowed := true }
def SessionPiecesUptoSaid : Prop := sessionPiecesUptoRow.holds Try.pinned (OpenSpec.upto sessionPiecesSpec)

/-- 'tolllaw19.SessionBreaks', WHERE WHAT IT READS IS OF BULK AT MOST 1048576: true; the input reads as it did. -/
def sessionBreaksUptoRow : OpenClaim := { program := "ytehkgcmdndehaaa", sum := "a155a56ec061a2e560329ba4b001b9bc63aeda38db0fc153b87666eec630b918", func := "toll/tolllaw19.SessionBreaks", spec := "sessionBreaks", inPlace := ["sync/atomic.LoadUint32", "(*internal/sync.Mutex).Lock", "internal/race.Disable", "sync/atomic.CompareAndSwapInt32", "internal/race.Enable", "internal/race.Acquire", "(*internal/sync.Mutex).lockSlow", "internal/sync.runtime_canSpin", "internal/sync.runtime_doSpin", "internal/sync.throw", "internal/sync.runtime_nanotime", "internal/sync.runtime_SemacquireMutex", "sync/atomic.AddInt32", "(*internal/sync.Mutex).Unlock", "internal/race.ReleaseMerge", "(*internal/sync.Mutex).unlockSlow", "internal/sync.fatal", "internal/sync.runtime_Semrelease", "sync/atomic.StoreUint32"], unfollowed := true, recurses := true, apart := false, narrowed := true }
def SessionBreaksUptoSaid : Prop := sessionBreaksUptoRow.holds Try.pinned (OpenSpec.upto sessionBreaksSpec)

/-- 'tolllaw19.SessionWaits', WHERE WHAT IT READS IS OF BULK AT MOST 1048576: true; the input reads as it did. -/
def sessionWaitsUptoRow : OpenClaim := { program := "ytehkgcmdndehaaa", sum := "a155a56ec061a2e560329ba4b001b9bc63aeda38db0fc153b87666eec630b918", func := "toll/tolllaw19.SessionWaits", spec := "sessionWaits", inPlace := ["sync/atomic.LoadUint32", "(*internal/sync.Mutex).Lock", "internal/race.Disable", "sync/atomic.CompareAndSwapInt32", "internal/race.Enable", "internal/race.Acquire", "(*internal/sync.Mutex).lockSlow", "internal/sync.runtime_canSpin", "internal/sync.runtime_doSpin", "internal/sync.throw", "internal/sync.runtime_nanotime", "internal/sync.runtime_SemacquireMutex", "sync/atomic.AddInt32", "(*internal/sync.Mutex).Unlock", "internal/race.ReleaseMerge", "(*internal/sync.Mutex).unlockSlow", "internal/sync.fatal", "internal/sync.runtime_Semrelease", "sync/atomic.StoreUint32"], unfollowed := true, recurses := true, apart := false, narrowed := true }
def SessionWaitsUptoSaid : Prop := sessionWaitsUptoRow.holds Try.pinned (OpenSpec.upto sessionWaitsSpec)

/-- 'tolllaw18.FrameRequests', WHERE WHAT IT READS IS OF BULK AT MOST 1048576: true; the input reads as it did. -/
def frameRequestsUptoRow : OpenClaim := { program := "ytehkgcmdndehaaa", sum := "a155a56ec061a2e560329ba4b001b9bc63aeda38db0fc153b87666eec630b918", func := "toll/tolllaw18.FrameRequests", spec := "frameRequests", unfollowed := true, recurses := true, apart := false, narrowed := true }
def FrameRequestsUptoSaid : Prop := frameRequestsUptoRow.holds Try.pinned (OpenSpec.upto frameRequestsSpec)

/-- 'tolllaw18.FrameTurns', WHERE WHAT IT READS IS OF BULK AT MOST 1048576: true; the input reads as it did. -/
def frameTurnsUptoRow : OpenClaim := { program := "ytehkgcmdndehaaa", sum := "a155a56ec061a2e560329ba4b001b9bc63aeda38db0fc153b87666eec630b918", func := "toll/tolllaw18.FrameTurns", spec := "frameTurns", unfollowed := true, recurses := true, apart := false, narrowed := true }
def FrameTurnsUptoSaid : Prop := frameTurnsUptoRow.holds Try.pinned (OpenSpec.upto frameTurnsSpec)

end Rows
end Go.Proofs.Ytehkgcmdndehaaa
