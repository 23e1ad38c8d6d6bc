/-
  No cell of these rows narrows 'for every input' (looked for: loops, veiled, ifaces, maps, wideKeys, modest, calm, conditions, laid).
  DERIVED. THE GIVEN ROWS OF THIS SEAT. 14 by the template 'for every input the law returns true; each argument reads behind the call as it read before'; 0 by the template 'total and deterministic' (their statements: YthfafenigjldlaaGreatTotals.lean).
  GIVEN WITH THE SEED: the statements are not yours to turn. If you find one false, say at which input.
  Laid BY PROGRAM, IN A SANDBOX (cutbox-rows.mjs): the forced cells as the released guide's own fill.sh prints them over the translation f4eee802eb6da5af… (all of the seat's roots in one cut). By AI agents, Wed Nov 11 2026. No macro, syntax, notation, axiom, sorry.
-/
import Derived.Test.YthfafenigjldlaaGreatChecked
import GoSem.Claim
import GoSem.ClaimJoined
import GoSem.ClaimMapViews
import Derived.JoinedTies
import Derived.KernelRfl
namespace Go.Proofs.YthfafenigjldlaaGreat
/- THE CELL 'sum', in the pinned program and in every row, IS THE sha256 OF THE DUMP (.gsa) THAT YthfafenigjldlaaGreatProg.lean LOADS. Nothing in Lean hashes anything: it is a label: what it is worth is what the hold of that sum in a sandbox is worth. -/
noncomputable def Tryz.pinned : Pinned := { name := "ythfafenigjldlaagreat", sum := "f4eee802eb6da5af467019d726ddccd499d4ae42053ee0f0bb7fdf97d03730fe", checked := Tryz.checked }
namespace Rows
def none {H : Type} : Left H := { results := [], args := [] }

/-- 'interrexlaw1.LabelAll': WHATEVER THE INPUT: true; the input reads as it did. -/
def labelAllSpec : ChangeSpec := { name := "labelAll", fn := fun _ => fun
  | [d1, d2, d3, d4] => { results := [.lit (.bool true)], args := [d1, d2, d3, d4] }
  | _ => none }
def labelAllRow : OpenClaim := { program := "ythfafenigjldlaagreat", sum := "f4eee802eb6da5af467019d726ddccd499d4ae42053ee0f0bb7fdf97d03730fe", func := "interrex/interrexlaw1.LabelAll", spec := "labelAll", inPlace := ["sync/atomic.LoadUint32", "(*internal/sync.Mutex).Lock", "internal/race.Disable", "sync/atomic.CompareAndSwapInt32", "internal/race.Enable", "internal/race.Acquire", "(*internal/sync.Mutex).lockSlow", "internal/sync.runtime_canSpin", "internal/sync.runtime_doSpin", "internal/sync.throw", "internal/sync.runtime_nanotime", "internal/sync.runtime_SemacquireMutex", "sync/atomic.AddInt32", "(*internal/sync.Mutex).Unlock", "internal/race.ReleaseMerge", "(*internal/sync.Mutex).unlockSlow", "internal/sync.fatal", "internal/sync.runtime_Semrelease", "sync/atomic.StoreUint32"], unfollowed := true, recurses := true, apart := false }
def LabelAllSaid : Prop := labelAllRow.holds Tryz.pinned (OpenSpec.ofChange labelAllSpec)

/-- ITS FALSE NEIGHBOUR: 'it returns false'. Refute it at one input. -/
def labelAllWrong : ChangeSpec := { name := "labelAll", fn := fun _ => fun
  | [d1, d2, d3, d4] => { results := [.lit (.bool false)], args := [d1, d2, d3, d4] }
  | _ => none }
def LabelAllWrongFalsely : Prop := labelAllRow.holds Tryz.pinned (OpenSpec.ofChange labelAllWrong)

/-- 'interrexlaw1.CodeKey': WHATEVER THE INPUT: true; the input reads as it did. -/
def codeKeySpec : ChangeSpec := { name := "codeKey", fn := fun _ => fun
  | [d1, d2, d3] => { results := [.lit (.bool true)], args := [d1, d2, d3] }
  | _ => none }
def codeKeyRow : OpenClaim := { program := "ythfafenigjldlaagreat", sum := "f4eee802eb6da5af467019d726ddccd499d4ae42053ee0f0bb7fdf97d03730fe", func := "interrex/interrexlaw1.CodeKey", spec := "codeKey", inPlace := ["sync/atomic.LoadUint32", "(*internal/sync.Mutex).Lock", "internal/race.Disable", "sync/atomic.CompareAndSwapInt32", "internal/race.Enable", "internal/race.Acquire", "(*internal/sync.Mutex).lockSlow", "internal/sync.runtime_canSpin", "internal/sync.runtime_doSpin", "internal/sync.throw", "internal/sync.runtime_nanotime", "internal/sync.runtime_SemacquireMutex", "sync/atomic.AddInt32", "(*internal/sync.Mutex).Unlock", "internal/race.ReleaseMerge", "(*internal/sync.Mutex).unlockSlow", "internal/sync.fatal", "internal/sync.runtime_Semrelease", "sync/atomic.StoreUint32"], unfollowed := true, recurses := true, apart := false }
def CodeKeySaid : Prop := codeKeyRow.holds Tryz.pinned (OpenSpec.ofChange codeKeySpec)

/-- ITS FALSE NEIGHBOUR: 'it returns false'. Refute it at one input. -/
def codeKeyWrong : ChangeSpec := { name := "codeKey", fn := fun _ => fun
  | [d1, d2, d3] => { results := [.lit (.bool false)], args := [d1, d2, d3] }
  | _ => none }
def CodeKeyWrongFalsely : Prop := codeKeyRow.holds Tryz.pinned (OpenSpec.ofChange codeKeyWrong)

/-- 'interrexlaw1.LabelRising': WHATEVER THE INPUT: true; the input reads as it did. -/
def labelRisingSpec : ChangeSpec := { name := "labelRising", fn := fun _ => fun
  | [d1, d2, d3] => { results := [.lit (.bool true)], args := [d1, d2, d3] }
  | _ => none }
def labelRisingRow : OpenClaim := { program := "ythfafenigjldlaagreat", sum := "f4eee802eb6da5af467019d726ddccd499d4ae42053ee0f0bb7fdf97d03730fe", func := "interrex/interrexlaw1.LabelRising", spec := "labelRising", inPlace := ["sync/atomic.LoadUint32", "(*internal/sync.Mutex).Lock", "internal/race.Disable", "sync/atomic.CompareAndSwapInt32", "internal/race.Enable", "internal/race.Acquire", "(*internal/sync.Mutex).lockSlow", "internal/sync.runtime_canSpin", "internal/sync.runtime_doSpin", "internal/sync.throw", "internal/sync.runtime_nanotime", "internal/sync.runtime_SemacquireMutex", "sync/atomic.AddInt32", "(*internal/sync.Mutex).Unlock", "internal/race.ReleaseMerge", "(*internal/sync.Mutex).unlockSlow", "internal/sync.fatal", "internal/sync.runtime_Semrelease", "sync/atomic.StoreUint32"], unfollowed := true, recurses := true, apart := false }
def LabelRisingSaid : Prop := labelRisingRow.holds Tryz.pinned (OpenSpec.ofChange labelRisingSpec)

/-- ITS FALSE NEIGHBOUR: 'it returns false'. Refute it at one input. -/
def labelRisingWrong : ChangeSpec := { name := "labelRising", fn := fun _ => fun
  | [d1, d2, d3] => { results := [.lit (.bool false)], args := [d1, d2, d3] }
  | _ => none }
def LabelRisingWrongFalsely : Prop := labelRisingRow.holds Tryz.pinned (OpenSpec.ofChange labelRisingWrong)

/-- 'interrexlaw1.LabelTerms': WHATEVER THE INPUT: true; the input reads as it did. -/
def labelTermsSpec : ChangeSpec := { name := "labelTerms", fn := fun _ => fun
  | [d1, d2] => { results := [.lit (.bool true)], args := [d1, d2] }
  | _ => none }
def labelTermsRow : OpenClaim := { program := "ythfafenigjldlaagreat", sum := "f4eee802eb6da5af467019d726ddccd499d4ae42053ee0f0bb7fdf97d03730fe", func := "interrex/interrexlaw1.LabelTerms", spec := "labelTerms", inPlace := ["sync/atomic.LoadUint32", "(*internal/sync.Mutex).Lock", "internal/race.Disable", "sync/atomic.CompareAndSwapInt32", "internal/race.Enable", "internal/race.Acquire", "(*internal/sync.Mutex).lockSlow", "internal/sync.runtime_canSpin", "internal/sync.runtime_doSpin", "internal/sync.throw", "internal/sync.runtime_nanotime", "internal/sync.runtime_SemacquireMutex", "sync/atomic.AddInt32", "(*internal/sync.Mutex).Unlock", "internal/race.ReleaseMerge", "(*internal/sync.Mutex).unlockSlow", "internal/sync.fatal", "internal/sync.runtime_Semrelease", "sync/atomic.StoreUint32"], unfollowed := true, recurses := true, apart := false }
def LabelTermsSaid : Prop := labelTermsRow.holds Tryz.pinned (OpenSpec.ofChange labelTermsSpec)

/-- ITS FALSE NEIGHBOUR: 'it returns false'. Refute it at one input. -/
def labelTermsWrong : ChangeSpec := { name := "labelTerms", fn := fun _ => fun
  | [d1, d2] => { results := [.lit (.bool false)], args := [d1, d2] }
  | _ => none }
def LabelTermsWrongFalsely : Prop := labelTermsRow.holds Tryz.pinned (OpenSpec.ofChange labelTermsWrong)

/-- 'interrexlaw1.CodeNames': WHATEVER THE INPUT: true; the input reads as it did. -/
def codeNamesSpec : ChangeSpec := { name := "codeNames", fn := fun _ => fun
  | [d1, d2] => { results := [.lit (.bool true)], args := [d1, d2] }
  | _ => none }
def codeNamesRow : OpenClaim := { program := "ythfafenigjldlaagreat", sum := "f4eee802eb6da5af467019d726ddccd499d4ae42053ee0f0bb7fdf97d03730fe", func := "interrex/interrexlaw1.CodeNames", spec := "codeNames", inPlace := ["sync/atomic.LoadUint32", "(*internal/sync.Mutex).Lock", "internal/race.Disable", "sync/atomic.CompareAndSwapInt32", "internal/race.Enable", "internal/race.Acquire", "(*internal/sync.Mutex).lockSlow", "internal/sync.runtime_canSpin", "internal/sync.runtime_doSpin", "internal/sync.throw", "internal/sync.runtime_nanotime", "internal/sync.runtime_SemacquireMutex", "sync/atomic.AddInt32", "(*internal/sync.Mutex).Unlock", "internal/race.ReleaseMerge", "(*internal/sync.Mutex).unlockSlow", "internal/sync.fatal", "internal/sync.runtime_Semrelease", "sync/atomic.StoreUint32"], unfollowed := true, recurses := true, apart := false }
def CodeNamesSaid : Prop := codeNamesRow.holds Tryz.pinned (OpenSpec.ofChange codeNamesSpec)

/-- ITS FALSE NEIGHBOUR: 'it returns false'. Refute it at one input. -/
def codeNamesWrong : ChangeSpec := { name := "codeNames", fn := fun _ => fun
  | [d1, d2] => { results := [.lit (.bool false)], args := [d1, d2] }
  | _ => none }
def CodeNamesWrongFalsely : Prop := codeNamesRow.holds Tryz.pinned (OpenSpec.ofChange codeNamesWrong)

/-- 'interrexlaw1.TaintAll': WHATEVER THE INPUT: true; the input reads as it did. -/
def taintAllSpec : ChangeSpec := { name := "taintAll", fn := fun _ => fun
  | [d1, d2] => { results := [.lit (.bool true)], args := [d1, d2] }
  | _ => none }
def taintAllRow : OpenClaim := { program := "ythfafenigjldlaagreat", sum := "f4eee802eb6da5af467019d726ddccd499d4ae42053ee0f0bb7fdf97d03730fe", func := "interrex/interrexlaw1.TaintAll", spec := "taintAll", inPlace := ["sync/atomic.LoadUint32", "(*internal/sync.Mutex).Lock", "internal/race.Disable", "sync/atomic.CompareAndSwapInt32", "internal/race.Enable", "internal/race.Acquire", "(*internal/sync.Mutex).lockSlow", "internal/sync.runtime_canSpin", "internal/sync.runtime_doSpin", "internal/sync.throw", "internal/sync.runtime_nanotime", "internal/sync.runtime_SemacquireMutex", "sync/atomic.AddInt32", "(*internal/sync.Mutex).Unlock", "internal/race.ReleaseMerge", "(*internal/sync.Mutex).unlockSlow", "internal/sync.fatal", "internal/sync.runtime_Semrelease", "sync/atomic.StoreUint32"], unfollowed := true, recurses := true, apart := false }
def TaintAllSaid : Prop := taintAllRow.holds Tryz.pinned (OpenSpec.ofChange taintAllSpec)

/-- ITS FALSE NEIGHBOUR: 'it returns false'. Refute it at one input. -/
def taintAllWrong : ChangeSpec := { name := "taintAll", fn := fun _ => fun
  | [d1, d2] => { results := [.lit (.bool false)], args := [d1, d2] }
  | _ => none }
def TaintAllWrongFalsely : Prop := taintAllRow.holds Tryz.pinned (OpenSpec.ofChange taintAllWrong)

/-- 'interrexlaw1.QtyTurn': WHATEVER THE INPUT: true; the input reads as it did. -/
def qtyTurnSpec : ChangeSpec := { name := "qtyTurn", fn := fun _ => fun
  | [d1, d2, d3] => { results := [.lit (.bool true)], args := [d1, d2, d3] }
  | _ => none }
def qtyTurnRow : OpenClaim := { program := "ythfafenigjldlaagreat", sum := "f4eee802eb6da5af467019d726ddccd499d4ae42053ee0f0bb7fdf97d03730fe", func := "interrex/interrexlaw1.QtyTurn", spec := "qtyTurn", inPlace := ["sync/atomic.LoadUint32", "(*internal/sync.Mutex).Lock", "internal/race.Disable", "sync/atomic.CompareAndSwapInt32", "internal/race.Enable", "internal/race.Acquire", "(*internal/sync.Mutex).lockSlow", "internal/sync.runtime_canSpin", "internal/sync.runtime_doSpin", "internal/sync.throw", "internal/sync.runtime_nanotime", "internal/sync.runtime_SemacquireMutex", "sync/atomic.AddInt32", "(*internal/sync.Mutex).Unlock", "internal/race.ReleaseMerge", "(*internal/sync.Mutex).unlockSlow", "internal/sync.fatal", "internal/sync.runtime_Semrelease", "sync/atomic.StoreUint32"], unfollowed := true, recurses := true, apart := false }
def QtyTurnSaid : Prop := qtyTurnRow.holds Tryz.pinned (OpenSpec.ofChange qtyTurnSpec)

/-- ITS FALSE NEIGHBOUR: 'it returns false'. Refute it at one input. -/
def qtyTurnWrong : ChangeSpec := { name := "qtyTurn", fn := fun _ => fun
  | [d1, d2, d3] => { results := [.lit (.bool false)], args := [d1, d2, d3] }
  | _ => none }
def QtyTurnWrongFalsely : Prop := qtyTurnRow.holds Tryz.pinned (OpenSpec.ofChange qtyTurnWrong)

/-- 'interrexlaw1.QtyEdge': WHATEVER THE INPUT: true; the input reads as it did. -/
def qtyEdgeSpec : ChangeSpec := { name := "qtyEdge", fn := fun _ => fun
  | [d1, d2] => { results := [.lit (.bool true)], args := [d1, d2] }
  | _ => none }
def qtyEdgeRow : OpenClaim := { program := "ythfafenigjldlaagreat", sum := "f4eee802eb6da5af467019d726ddccd499d4ae42053ee0f0bb7fdf97d03730fe", func := "interrex/interrexlaw1.QtyEdge", spec := "qtyEdge", inPlace := ["sync/atomic.LoadUint32", "(*internal/sync.Mutex).Lock", "internal/race.Disable", "sync/atomic.CompareAndSwapInt32", "internal/race.Enable", "internal/race.Acquire", "(*internal/sync.Mutex).lockSlow", "internal/sync.runtime_canSpin", "internal/sync.runtime_doSpin", "internal/sync.throw", "internal/sync.runtime_nanotime", "internal/sync.runtime_SemacquireMutex", "sync/atomic.AddInt32", "(*internal/sync.Mutex).Unlock", "internal/race.ReleaseMerge", "(*internal/sync.Mutex).unlockSlow", "internal/sync.fatal", "internal/sync.runtime_Semrelease", "sync/atomic.StoreUint32"], unfollowed := true, recurses := true, apart := false }
def QtyEdgeSaid : Prop := qtyEdgeRow.holds Tryz.pinned (OpenSpec.ofChange qtyEdgeSpec)

/-- ITS FALSE NEIGHBOUR: 'it returns false'. Refute it at one input. -/
def qtyEdgeWrong : ChangeSpec := { name := "qtyEdge", fn := fun _ => fun
  | [d1, d2] => { results := [.lit (.bool false)], args := [d1, d2] }
  | _ => none }
def QtyEdgeWrongFalsely : Prop := qtyEdgeRow.holds Tryz.pinned (OpenSpec.ofChange qtyEdgeWrong)

/-- 'interrexlaw1.QtyFits': WHATEVER THE INPUT: true; the input reads as it did. -/
def qtyFitsSpec : ChangeSpec := { name := "qtyFits", fn := fun _ => fun
  | [d1, d2, d3] => { results := [.lit (.bool true)], args := [d1, d2, d3] }
  | _ => none }
def qtyFitsRow : OpenClaim := { program := "ythfafenigjldlaagreat", sum := "f4eee802eb6da5af467019d726ddccd499d4ae42053ee0f0bb7fdf97d03730fe", func := "interrex/interrexlaw1.QtyFits", spec := "qtyFits", inPlace := ["sync/atomic.LoadUint32", "(*internal/sync.Mutex).Lock", "internal/race.Disable", "sync/atomic.CompareAndSwapInt32", "internal/race.Enable", "internal/race.Acquire", "(*internal/sync.Mutex).lockSlow", "internal/sync.runtime_canSpin", "internal/sync.runtime_doSpin", "internal/sync.throw", "internal/sync.runtime_nanotime", "internal/sync.runtime_SemacquireMutex", "sync/atomic.AddInt32", "(*internal/sync.Mutex).Unlock", "internal/race.ReleaseMerge", "(*internal/sync.Mutex).unlockSlow", "internal/sync.fatal", "internal/sync.runtime_Semrelease", "sync/atomic.StoreUint32"], unfollowed := true, recurses := true, apart := false }
def QtyFitsSaid : Prop := qtyFitsRow.holds Tryz.pinned (OpenSpec.ofChange qtyFitsSpec)

/-- ITS FALSE NEIGHBOUR: 'it returns false'. Refute it at one input. -/
def qtyFitsWrong : ChangeSpec := { name := "qtyFits", fn := fun _ => fun
  | [d1, d2, d3] => { results := [.lit (.bool false)], args := [d1, d2, d3] }
  | _ => none }
def QtyFitsWrongFalsely : Prop := qtyFitsRow.holds Tryz.pinned (OpenSpec.ofChange qtyFitsWrong)

/-- 'interrexlaw1.ObjOwn': WHATEVER THE INPUT: true; the input reads as it did. -/
def objOwnSpec : ChangeSpec := { name := "objOwn", fn := fun _ => fun
  | [d1, d2] => { results := [.lit (.bool true)], args := [d1, d2] }
  | _ => none }
def objOwnRow : OpenClaim := { program := "ythfafenigjldlaagreat", sum := "f4eee802eb6da5af467019d726ddccd499d4ae42053ee0f0bb7fdf97d03730fe", func := "interrex/interrexlaw1.ObjOwn", spec := "objOwn", inPlace := ["sync/atomic.LoadUint32", "(*internal/sync.Mutex).Lock", "internal/race.Disable", "sync/atomic.CompareAndSwapInt32", "internal/race.Enable", "internal/race.Acquire", "(*internal/sync.Mutex).lockSlow", "internal/sync.runtime_canSpin", "internal/sync.runtime_doSpin", "internal/sync.throw", "internal/sync.runtime_nanotime", "internal/sync.runtime_SemacquireMutex", "sync/atomic.AddInt32", "(*internal/sync.Mutex).Unlock", "internal/race.ReleaseMerge", "(*internal/sync.Mutex).unlockSlow", "internal/sync.fatal", "internal/sync.runtime_Semrelease", "sync/atomic.StoreUint32"], unfollowed := true, recurses := true, apart := false }
def ObjOwnSaid : Prop := objOwnRow.holds Tryz.pinned (OpenSpec.ofChange objOwnSpec)

/-- ITS FALSE NEIGHBOUR: 'it returns false'. Refute it at one input. -/
def objOwnWrong : ChangeSpec := { name := "objOwn", fn := fun _ => fun
  | [d1, d2] => { results := [.lit (.bool false)], args := [d1, d2] }
  | _ => none }
def ObjOwnWrongFalsely : Prop := objOwnRow.holds Tryz.pinned (OpenSpec.ofChange objOwnWrong)

/-- 'interrexlaw1.ObjPart': WHATEVER THE INPUT: true; the input reads as it did. -/
def objPartSpec : ChangeSpec := { name := "objPart", fn := fun _ => fun
  | [d1, d2, d3] => { results := [.lit (.bool true)], args := [d1, d2, d3] }
  | _ => none }
def objPartRow : OpenClaim := { program := "ythfafenigjldlaagreat", sum := "f4eee802eb6da5af467019d726ddccd499d4ae42053ee0f0bb7fdf97d03730fe", func := "interrex/interrexlaw1.ObjPart", spec := "objPart", inPlace := ["sync/atomic.LoadUint32", "(*internal/sync.Mutex).Lock", "internal/race.Disable", "sync/atomic.CompareAndSwapInt32", "internal/race.Enable", "internal/race.Acquire", "(*internal/sync.Mutex).lockSlow", "internal/sync.runtime_canSpin", "internal/sync.runtime_doSpin", "internal/sync.throw", "internal/sync.runtime_nanotime", "internal/sync.runtime_SemacquireMutex", "sync/atomic.AddInt32", "(*internal/sync.Mutex).Unlock", "internal/race.ReleaseMerge", "(*internal/sync.Mutex).unlockSlow", "internal/sync.fatal", "internal/sync.runtime_Semrelease", "sync/atomic.StoreUint32"], unfollowed := true, recurses := true, apart := false }
def ObjPartSaid : Prop := objPartRow.holds Tryz.pinned (OpenSpec.ofChange objPartSpec)

/-- ITS FALSE NEIGHBOUR: 'it returns false'. Refute it at one input. -/
def objPartWrong : ChangeSpec := { name := "objPart", fn := fun _ => fun
  | [d1, d2, d3] => { results := [.lit (.bool false)], args := [d1, d2, d3] }
  | _ => none }
def ObjPartWrongFalsely : Prop := objPartRow.holds Tryz.pinned (OpenSpec.ofChange objPartWrong)

/-- 'interrexlaw1.CodeAgain': WHATEVER THE INPUT: true; the input reads as it did. -/
def codeAgainSpec : ChangeSpec := { name := "codeAgain", fn := fun _ => fun
  | [d1, d2, d3] => { results := [.lit (.bool true)], args := [d1, d2, d3] }
  | _ => none }
def codeAgainRow : OpenClaim := { program := "ythfafenigjldlaagreat", sum := "f4eee802eb6da5af467019d726ddccd499d4ae42053ee0f0bb7fdf97d03730fe", func := "interrex/interrexlaw1.CodeAgain", spec := "codeAgain", inPlace := ["sync/atomic.LoadUint32", "(*internal/sync.Mutex).Lock", "internal/race.Disable", "sync/atomic.CompareAndSwapInt32", "internal/race.Enable", "internal/race.Acquire", "(*internal/sync.Mutex).lockSlow", "internal/sync.runtime_canSpin", "internal/sync.runtime_doSpin", "internal/sync.throw", "internal/sync.runtime_nanotime", "internal/sync.runtime_SemacquireMutex", "sync/atomic.AddInt32", "(*internal/sync.Mutex).Unlock", "internal/race.ReleaseMerge", "(*internal/sync.Mutex).unlockSlow", "internal/sync.fatal", "internal/sync.runtime_Semrelease", "sync/atomic.StoreUint32"], unfollowed := true, recurses := true, apart := false }
def CodeAgainSaid : Prop := codeAgainRow.holds Tryz.pinned (OpenSpec.ofChange codeAgainSpec)

/-- ITS FALSE NEIGHBOUR: 'it returns false'. Refute it at one input. -/
def codeAgainWrong : ChangeSpec := { name := "codeAgain", fn := fun _ => fun
  | [d1, d2, d3] => { results := [.lit (.bool false)], args := [d1, d2, d3] }
  | _ => none }
def CodeAgainWrongFalsely : Prop := codeAgainRow.holds Tryz.pinned (OpenSpec.ofChange codeAgainWrong)

/-- 'interrexlaw1.CodeRoom': WHATEVER THE INPUT: true; the input reads as it did. -/
def codeRoomSpec : ChangeSpec := { name := "codeRoom", fn := fun _ => fun
  | [d1, d2] => { results := [.lit (.bool true)], args := [d1, d2] }
  | _ => none }
def codeRoomRow : OpenClaim := { program := "ythfafenigjldlaagreat", sum := "f4eee802eb6da5af467019d726ddccd499d4ae42053ee0f0bb7fdf97d03730fe", func := "interrex/interrexlaw1.CodeRoom", spec := "codeRoom", inPlace := ["sync/atomic.LoadUint32", "(*internal/sync.Mutex).Lock", "internal/race.Disable", "sync/atomic.CompareAndSwapInt32", "internal/race.Enable", "internal/race.Acquire", "(*internal/sync.Mutex).lockSlow", "internal/sync.runtime_canSpin", "internal/sync.runtime_doSpin", "internal/sync.throw", "internal/sync.runtime_nanotime", "internal/sync.runtime_SemacquireMutex", "sync/atomic.AddInt32", "(*internal/sync.Mutex).Unlock", "internal/race.ReleaseMerge", "(*internal/sync.Mutex).unlockSlow", "internal/sync.fatal", "internal/sync.runtime_Semrelease", "sync/atomic.StoreUint32"], unfollowed := true, recurses := true, apart := false }
def CodeRoomSaid : Prop := codeRoomRow.holds Tryz.pinned (OpenSpec.ofChange codeRoomSpec)

/-- ITS FALSE NEIGHBOUR: 'it returns false'. Refute it at one input. -/
def codeRoomWrong : ChangeSpec := { name := "codeRoom", fn := fun _ => fun
  | [d1, d2] => { results := [.lit (.bool false)], args := [d1, d2] }
  | _ => none }
def CodeRoomWrongFalsely : Prop := codeRoomRow.holds Tryz.pinned (OpenSpec.ofChange codeRoomWrong)

/-- 'interrexlaw1.CodeAny': WHATEVER THE INPUT: true; the input reads as it did. -/
def codeAnySpec : ChangeSpec := { name := "codeAny", fn := fun _ => fun
  | [d1, d2, d3, d4, d5] => { results := [.lit (.bool true)], args := [d1, d2, d3, d4, d5] }
  | _ => none }
def codeAnyRow : OpenClaim := { program := "ythfafenigjldlaagreat", sum := "f4eee802eb6da5af467019d726ddccd499d4ae42053ee0f0bb7fdf97d03730fe", func := "interrex/interrexlaw1.CodeAny", spec := "codeAny", inPlace := ["sync/atomic.LoadUint32", "(*internal/sync.Mutex).Lock", "internal/race.Disable", "sync/atomic.CompareAndSwapInt32", "internal/race.Enable", "internal/race.Acquire", "(*internal/sync.Mutex).lockSlow", "internal/sync.runtime_canSpin", "internal/sync.runtime_doSpin", "internal/sync.throw", "internal/sync.runtime_nanotime", "internal/sync.runtime_SemacquireMutex", "sync/atomic.AddInt32", "(*internal/sync.Mutex).Unlock", "internal/race.ReleaseMerge", "(*internal/sync.Mutex).unlockSlow", "internal/sync.fatal", "internal/sync.runtime_Semrelease", "sync/atomic.StoreUint32"], unfollowed := true, recurses := true, apart := false }
def CodeAnySaid : Prop := codeAnyRow.holds Tryz.pinned (OpenSpec.ofChange codeAnySpec)

/-- ITS FALSE NEIGHBOUR: 'it returns false'. Refute it at one input. -/
def codeAnyWrong : ChangeSpec := { name := "codeAny", fn := fun _ => fun
  | [d1, d2, d3, d4, d5] => { results := [.lit (.bool false)], args := [d1, d2, d3, d4, d5] }
  | _ => none }
def CodeAnyWrongFalsely : Prop := codeAnyRow.holds Tryz.pinned (OpenSpec.ofChange codeAnyWrong)

/- THE SECOND FORM. 'bulk': how many values and letters a reading holds, each counted each time it is reached (what is shared counts as often as it is met; a slice's spare places count too). A statement '..UptoSaid' is the law's where the arguments, and the package variables that the reading takes, are together of bulk at most 1048576: NARROWER than '..Said'. Prove '..Said' where nothing that the law and all that it calls make is longer than what came in: it says more and counts as full. Else prove '..UptoSaid'. A law counts once. -/
mutual
def uptoBulk {H : Type} : DataW H → Nat
  | .lit (.string bytes) => bytes.length + 1
  | .lit _ => 1
  | .nil => 1
  | .ptr d => uptoBulk d + 1
  | .slice elems spare => uptoBulkAll elems + uptoBulkAll spare + 1
  | .agg parts => uptoBulkAll parts + 1
  | .iface _ d => uptoBulk d + 1
  | .map entries => uptoBulkEntries entries + 1
  | .held _ => 1
def uptoBulkAll {H : Type} : List (DataW H) → Nat
  | [] => 0
  | d :: r => uptoBulk d + uptoBulkAll r
def uptoBulkEntries {H : Type} : List (Lit × DataW H) → Nat
  | [] => 0
  | x :: r => uptoBulkEntry x + uptoBulkEntries r
def uptoBulkEntry {H : Type} : Lit × DataW H → Nat
  | (.string bytes, d) => bytes.length + uptoBulk d + 1
  | (_, d) => uptoBulk d + 1
 end
def uptoSmall : (H : Type) → List (DataW H) → Bool := fun _ ds => decide (uptoBulkAll ds ≤ 1048576)
def OpenSpec.upto (s : _root_.Go.ChangeSpec) : _root_.Go.OpenSpec := { _root_.Go.OpenSpec.ofChange s with cond := some uptoSmall }

/-- 'interrexlaw1.LabelAll', WHERE WHAT IT READS IS OF BULK AT MOST 1048576: true; the input reads as it did. -/
def labelAllUptoRow : OpenClaim := { program := "ythfafenigjldlaagreat", sum := "f4eee802eb6da5af467019d726ddccd499d4ae42053ee0f0bb7fdf97d03730fe", func := "interrex/interrexlaw1.LabelAll", spec := "labelAll", inPlace := ["sync/atomic.LoadUint32", "(*internal/sync.Mutex).Lock", "internal/race.Disable", "sync/atomic.CompareAndSwapInt32", "internal/race.Enable", "internal/race.Acquire", "(*internal/sync.Mutex).lockSlow", "internal/sync.runtime_canSpin", "internal/sync.runtime_doSpin", "internal/sync.throw", "internal/sync.runtime_nanotime", "internal/sync.runtime_SemacquireMutex", "sync/atomic.AddInt32", "(*internal/sync.Mutex).Unlock", "internal/race.ReleaseMerge", "(*internal/sync.Mutex).unlockSlow", "internal/sync.fatal", "internal/sync.runtime_Semrelease", "sync/atomic.StoreUint32"], unfollowed := true, recurses := true, apart := false, narrowed := true }
def LabelAllUptoSaid : Prop := labelAllUptoRow.holds Tryz.pinned (OpenSpec.upto labelAllSpec)

/-- 'interrexlaw1.CodeKey', WHERE WHAT IT READS IS OF BULK AT MOST 1048576: true; the input reads as it did. -/
def codeKeyUptoRow : OpenClaim := { program := "ythfafenigjldlaagreat", sum := "f4eee802eb6da5af467019d726ddccd499d4ae42053ee0f0bb7fdf97d03730fe", func := "interrex/interrexlaw1.CodeKey", spec := "codeKey", inPlace := ["sync/atomic.LoadUint32", "(*internal/sync.Mutex).Lock", "internal/race.Disable", "sync/atomic.CompareAndSwapInt32", "internal/race.Enable", "internal/race.Acquire", "(*internal/sync.Mutex).lockSlow", "internal/sync.runtime_canSpin", "internal/sync.runtime_doSpin", "internal/sync.throw", "internal/sync.runtime_nanotime", "internal/sync.runtime_SemacquireMutex", "sync/atomic.AddInt32", "(*internal/sync.Mutex).Unlock", "internal/race.ReleaseMerge", "(*internal/sync.Mutex).unlockSlow", "internal/sync.fatal", "internal/sync.runtime_Semrelease", "sync/atomic.StoreUint32"], unfollowed := true, recurses := true, apart := false, narrowed := true }
def CodeKeyUptoSaid : Prop := codeKeyUptoRow.holds Tryz.pinned (OpenSpec.upto codeKeySpec)

/-- 'interrexlaw1.LabelRising', WHERE WHAT IT READS IS OF BULK AT MOST 1048576: true; the input reads as it did. -/
def labelRisingUptoRow : OpenClaim := { program := "ythfafenigjldlaagreat", sum := "f4eee802eb6da5af467019d726ddccd499d4ae42053ee0f0bb7fdf97d03730fe", func := "interrex/interrexlaw1.LabelRising", spec := "labelRising", inPlace := ["sync/atomic.LoadUint32", "(*internal/sync.Mutex).Lock", "internal/race.Disable", "sync/atomic.CompareAndSwapInt32", "internal/race.Enable", "internal/race.Acquire", "(*internal/sync.Mutex).lockSlow", "internal/sync.runtime_canSpin", "internal/sync.runtime_doSpin", "internal/sync.throw", "internal/sync.runtime_nanotime", "internal/sync.runtime_SemacquireMutex", "sync/atomic.AddInt32", "(*internal/sync.Mutex).Unlock", "internal/race.ReleaseMerge", "(*internal/sync.Mutex).unlockSlow", "internal/sync.fatal", "internal/sync.runtime_Semrelease", "sync/atomic.StoreUint32"], unfollowed := true, recurses := true, apart := false, narrowed := true }
def LabelRisingUptoSaid : Prop := labelRisingUptoRow.holds Tryz.pinned (OpenSpec.upto labelRisingSpec)

/-- 'interrexlaw1.LabelTerms', WHERE WHAT IT READS IS OF BULK AT MOST 1048576: true; the input reads as it did. -/
def labelTermsUptoRow : OpenClaim := { program := "ythfafenigjldlaagreat", sum := "f4eee802eb6da5af467019d726ddccd499d4ae42053ee0f0bb7fdf97d03730fe", func := "interrex/interrexlaw1.LabelTerms", spec := "labelTerms", inPlace := ["sync/atomic.LoadUint32", "(*internal/sync.Mutex).Lock", "internal/race.Disable", "sync/atomic.CompareAndSwapInt32", "internal/race.Enable", "internal/race.Acquire", "(*internal/sync.Mutex).lockSlow", "internal/sync.runtime_canSpin", "internal/sync.runtime_doSpin", "internal/sync.throw", "internal/sync.runtime_nanotime", "internal/sync.runtime_SemacquireMutex", "sync/atomic.AddInt32", "(*internal/sync.Mutex).Unlock", "internal/race.ReleaseMerge", "(*internal/sync.Mutex).unlockSlow", "internal/sync.fatal", "internal/sync.runtime_Semrelease", "sync/atomic.StoreUint32"], unfollowed := true, recurses := true, apart := false, narrowed := true }
def LabelTermsUptoSaid : Prop := labelTermsUptoRow.holds Tryz.pinned (OpenSpec.upto labelTermsSpec)

/-- 'interrexlaw1.CodeNames', WHERE WHAT IT READS IS OF BULK AT MOST 1048576: true; the input reads as it did. -/
def codeNamesUptoRow : OpenClaim := { program := "ythfafenigjldlaagreat", sum := "f4eee802eb6da5af467019d726ddccd499d4ae42053ee0f0bb7fdf97d03730fe", func := "interrex/interrexlaw1.CodeNames", spec := "codeNames", inPlace := ["sync/atomic.LoadUint32", "(*internal/sync.Mutex).Lock", "internal/race.Disable", "sync/atomic.CompareAndSwapInt32", "internal/race.Enable", "internal/race.Acquire", "(*internal/sync.Mutex).lockSlow", "internal/sync.runtime_canSpin", "internal/sync.runtime_doSpin", "internal/sync.throw", "internal/sync.runtime_nanotime", "internal/sync.runtime_SemacquireMutex", "sync/atomic.AddInt32", "(*internal/sync.Mutex).Unlock", "internal/race.ReleaseMerge", "(*internal/sync.Mutex).unlockSlow", "internal/sync.fatal", "internal/sync.runtime_Semrelease", "sync/atomic.StoreUint32"], unfollowed := true, recurses := true, apart := false, narrowed := true }
def CodeNamesUptoSaid : Prop := codeNamesUptoRow.holds Tryz.pinned (OpenSpec.upto codeNamesSpec)

/-- 'interrexlaw1.TaintAll', WHERE WHAT IT READS IS OF BULK AT MOST 1048576: true; the input reads as it did. -/
def taintAllUptoRow : OpenClaim := { program := "ythfafenigjldlaagreat", sum := "f4eee802eb6da5af467019d726ddccd499d4ae42053ee0f0bb7fdf97d03730fe", func := "interrex/interrexlaw1.TaintAll", spec := "taintAll", inPlace := ["sync/atomic.LoadUint32", "(*internal/sync.Mutex).Lock", "internal/race.Disable", "sync/atomic.CompareAndSwapInt32", "internal/race.Enable", "internal/race.Acquire", "(*internal/sync.Mutex).lockSlow", "internal/sync.runtime_canSpin", "internal/sync.runtime_doSpin", "internal/sync.throw", "internal/sync.runtime_nanotime", "internal/sync.runtime_SemacquireMutex", "sync/atomic.AddInt32", "(*internal/sync.Mutex).Unlock", "internal/race.ReleaseMerge", "(*internal/sync.Mutex).unlockSlow", "internal/sync.fatal", "internal/sync.runtime_Semrelease", "sync/atomic.StoreUint32"], unfollowed := true, recurses := true, apart := false, narrowed := true }
def TaintAllUptoSaid : Prop := taintAllUptoRow.holds Tryz.pinned (OpenSpec.upto taintAllSpec)

/-- 'interrexlaw1.QtyTurn', WHERE WHAT IT READS IS OF BULK AT MOST 1048576: true; the input reads as it did. -/
def qtyTurnUptoRow : OpenClaim := { program := "ythfafenigjldlaagreat", sum := "f4eee802eb6da5af467019d726ddccd499d4ae42053ee0f0bb7fdf97d03730fe", func := "interrex/interrexlaw1.QtyTurn", spec := "qtyTurn", inPlace := ["sync/atomic.LoadUint32", "(*internal/sync.Mutex).Lock", "internal/race.Disable", "sync/atomic.CompareAndSwapInt32", "internal/race.Enable", "internal/race.Acquire", "(*internal/sync.Mutex).lockSlow", "internal/sync.runtime_canSpin", "internal/sync.runtime_doSpin", "internal/sync.throw", "internal/sync.runtime_nanotime", "internal/sync.runtime_SemacquireMutex", "sync/atomic.AddInt32", "(*internal/sync.Mutex).Unlock", "internal/race.ReleaseMerge", "(*internal/sync.Mutex).unlockSlow", "internal/sync.fatal", "internal/sync.runtime_Semrelease", "sync/atomic.StoreUint32"], unfollowed := true, recurses := true, apart := false, narrowed := true }
def QtyTurnUptoSaid : Prop := qtyTurnUptoRow.holds Tryz.pinned (OpenSpec.upto qtyTurnSpec)

/-- 'interrexlaw1.QtyEdge', WHERE WHAT IT READS IS OF BULK AT MOST 1048576: true; the input reads as it did. -/
def qtyEdgeUptoRow : OpenClaim := { program := "ythfafenigjldlaagreat", sum := "f4eee802eb6da5af467019d726ddccd499d4ae42053ee0f0bb7fdf97d03730fe", func := "interrex/interrexlaw1.QtyEdge", spec := "qtyEdge", inPlace := ["sync/atomic.LoadUint32", "(*internal/sync.Mutex).Lock", "internal/race.Disable", "sync/atomic.CompareAndSwapInt32", "internal/race.Enable", "internal/race.Acquire", "(*internal/sync.Mutex).lockSlow", "internal/sync.runtime_canSpin", "internal/sync.runtime_doSpin", "internal/sync.throw", "internal/sync.runtime_nanotime", "internal/sync.runtime_SemacquireMutex", "sync/atomic.AddInt32", "(*internal/sync.Mutex).Unlock", "internal/race.ReleaseMerge", "(*internal/sync.Mutex).unlockSlow", "internal/sync.fatal", "internal/sync.runtime_Semrelease", "sync/atomic.StoreUint32"], unfollowed := true, recurses := true, apart := false, narrowed := true }
def QtyEdgeUptoSaid : Prop := qtyEdgeUptoRow.holds Tryz.pinned (OpenSpec.upto qtyEdgeSpec)

/-- 'interrexlaw1.QtyFits', WHERE WHAT IT READS IS OF BULK AT MOST 1048576: true; the input reads as it did. -/
def qtyFitsUptoRow : OpenClaim := { program := "ythfafenigjldlaagreat", sum := "f4eee802eb6da5af467019d726ddccd499d4ae42053ee0f0bb7fdf97d03730fe", func := "interrex/interrexlaw1.QtyFits", spec := "qtyFits", inPlace := ["sync/atomic.LoadUint32", "(*internal/sync.Mutex).Lock", "internal/race.Disable", "sync/atomic.CompareAndSwapInt32", "internal/race.Enable", "internal/race.Acquire", "(*internal/sync.Mutex).lockSlow", "internal/sync.runtime_canSpin", "internal/sync.runtime_doSpin", "internal/sync.throw", "internal/sync.runtime_nanotime", "internal/sync.runtime_SemacquireMutex", "sync/atomic.AddInt32", "(*internal/sync.Mutex).Unlock", "internal/race.ReleaseMerge", "(*internal/sync.Mutex).unlockSlow", "internal/sync.fatal", "internal/sync.runtime_Semrelease", "sync/atomic.StoreUint32"], unfollowed := true, recurses := true, apart := false, narrowed := true }
def QtyFitsUptoSaid : Prop := qtyFitsUptoRow.holds Tryz.pinned (OpenSpec.upto qtyFitsSpec)

/-- 'interrexlaw1.ObjOwn', WHERE WHAT IT READS IS OF BULK AT MOST 1048576: true; the input reads as it did. -/
def objOwnUptoRow : OpenClaim := { program := "ythfafenigjldlaagreat", sum := "f4eee802eb6da5af467019d726ddccd499d4ae42053ee0f0bb7fdf97d03730fe", func := "interrex/interrexlaw1.ObjOwn", spec := "objOwn", inPlace := ["sync/atomic.LoadUint32", "(*internal/sync.Mutex).Lock", "internal/race.Disable", "sync/atomic.CompareAndSwapInt32", "internal/race.Enable", "internal/race.Acquire", "(*internal/sync.Mutex).lockSlow", "internal/sync.runtime_canSpin", "internal/sync.runtime_doSpin", "internal/sync.throw", "internal/sync.runtime_nanotime", "internal/sync.runtime_SemacquireMutex", "sync/atomic.AddInt32", "(*internal/sync.Mutex).Unlock", "internal/race.ReleaseMerge", "(*internal/sync.Mutex).unlockSlow", "internal/sync.fatal", "internal/sync.runtime_Semrelease", "sync/atomic.StoreUint32"], unfollowed := true, recurses := true, apart := false, narrowed := true }
def ObjOwnUptoSaid : Prop := objOwnUptoRow.holds Tryz.pinned (OpenSpec.upto objOwnSpec)

/-- 'interrexlaw1.ObjPart', WHERE WHAT IT READS IS OF BULK AT MOST 1048576: true; the input reads as it did. -/
def objPartUptoRow : OpenClaim := { program := "ythfafenigjldlaagreat", sum := "f4eee802eb6da5af467019d726ddccd499d4ae42053ee0f0bb7fdf97d03730fe", func := "interrex/interrexlaw1.ObjPart", spec := "objPart", inPlace := ["sync/atomic.LoadUint32", "(*internal/sync.Mutex).Lock", "internal/race.Disable", "sync/atomic.CompareAndSwapInt32", "internal/race.Enable", "internal/race.Acquire", "(*internal/sync.Mutex).lockSlow", "internal/sync.runtime_canSpin", "internal/sync.runtime_doSpin", "internal/sync.throw", "internal/sync.runtime_nanotime", "internal/sync.runtime_SemacquireMutex", "sync/atomic.AddInt32", "(*internal/sync.Mutex).Unlock", "internal/race.ReleaseMerge", "(*internal/sync.Mutex).unlockSlow", "internal/sync.fatal", "internal/sync.runtime_Semrelease", "sync/atomic.StoreUint32"], unfollowed := true, recurses := true, apart := false, narrowed := true }
def ObjPartUptoSaid : Prop := objPartUptoRow.holds Tryz.pinned (OpenSpec.upto objPartSpec)

/-- 'interrexlaw1.CodeAgain', WHERE WHAT IT READS IS OF BULK AT MOST 1048576: true; the input reads as it did. -/
def codeAgainUptoRow : OpenClaim := { program := "ythfafenigjldlaagreat", sum := "f4eee802eb6da5af467019d726ddccd499d4ae42053ee0f0bb7fdf97d03730fe", func := "interrex/interrexlaw1.CodeAgain", spec := "codeAgain", inPlace := ["sync/atomic.LoadUint32", "(*internal/sync.Mutex).Lock", "internal/race.Disable", "sync/atomic.CompareAndSwapInt32", "internal/race.Enable", "internal/race.Acquire", "(*internal/sync.Mutex).lockSlow", "internal/sync.runtime_canSpin", "internal/sync.runtime_doSpin", "internal/sync.throw", "internal/sync.runtime_nanotime", "internal/sync.runtime_SemacquireMutex", "sync/atomic.AddInt32", "(*internal/sync.Mutex).Unlock", "internal/race.ReleaseMerge", "(*internal/sync.Mutex).unlockSlow", "internal/sync.fatal", "internal/sync.runtime_Semrelease", "sync/atomic.StoreUint32"], unfollowed := true, recurses := true, apart := false, narrowed := true }
def CodeAgainUptoSaid : Prop := codeAgainUptoRow.holds Tryz.pinned (OpenSpec.upto codeAgainSpec)

/-- 'interrexlaw1.CodeRoom', WHERE WHAT IT READS IS OF BULK AT MOST 1048576: true; the input reads as it did. -/
def codeRoomUptoRow : OpenClaim := { program := "ythfafenigjldlaagreat", sum := "f4eee802eb6da5af467019d726ddccd499d4ae42053ee0f0bb7fdf97d03730fe", func := "interrex/interrexlaw1.CodeRoom", spec := "codeRoom", inPlace := ["sync/atomic.LoadUint32", "(*internal/sync.Mutex).Lock", "internal/race.Disable", "sync/atomic.CompareAndSwapInt32", "internal/race.Enable", "internal/race.Acquire", "(*internal/sync.Mutex).lockSlow", "internal/sync.runtime_canSpin", "internal/sync.runtime_doSpin", "internal/sync.throw", "internal/sync.runtime_nanotime", "internal/sync.runtime_SemacquireMutex", "sync/atomic.AddInt32", "(*internal/sync.Mutex).Unlock", "internal/race.ReleaseMerge", "(*internal/sync.Mutex).unlockSlow", "internal/sync.fatal", "internal/sync.runtime_Semrelease", "sync/atomic.StoreUint32"], unfollowed := true, recurses := true, apart := false, narrowed := true }
def CodeRoomUptoSaid : Prop := codeRoomUptoRow.holds Tryz.pinned (OpenSpec.upto codeRoomSpec)

/-- 'interrexlaw1.CodeAny', WHERE WHAT IT READS IS OF BULK AT MOST 1048576: true; the input reads as it did. -/
def codeAnyUptoRow : OpenClaim := { program := "ythfafenigjldlaagreat", sum := "f4eee802eb6da5af467019d726ddccd499d4ae42053ee0f0bb7fdf97d03730fe", func := "interrex/interrexlaw1.CodeAny", spec := "codeAny", inPlace := ["sync/atomic.LoadUint32", "(*internal/sync.Mutex).Lock", "internal/race.Disable", "sync/atomic.CompareAndSwapInt32", "internal/race.Enable", "internal/race.Acquire", "(*internal/sync.Mutex).lockSlow", "internal/sync.runtime_canSpin", "internal/sync.runtime_doSpin", "internal/sync.throw", "internal/sync.runtime_nanotime", "internal/sync.runtime_SemacquireMutex", "sync/atomic.AddInt32", "(*internal/sync.Mutex).Unlock", "internal/race.ReleaseMerge", "(*internal/sync.Mutex).unlockSlow", "internal/sync.fatal", "internal/sync.runtime_Semrelease", "sync/atomic.StoreUint32"], unfollowed := true, recurses := true, apart := false, narrowed := true }
def CodeAnyUptoSaid : Prop := codeAnyUptoRow.holds Tryz.pinned (OpenSpec.upto codeAnySpec)

end Rows
end Go.Proofs.YthfafenigjldlaaGreat
