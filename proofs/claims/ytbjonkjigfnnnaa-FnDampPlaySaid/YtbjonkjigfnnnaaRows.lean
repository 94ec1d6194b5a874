/-
  No cell of these rows narrows 'for every input' (looked for: loops, veiled, ifaces, maps, wideKeys, modest, calm, conditions, laid).
  DERIVED. THE GIVEN ROWS OF THIS SEAT. 16 by the template 'for every input the law returns true; each argument reads behind the call as it read before'; 0 by the template 'total and deterministic' (their statements: YtbjonkjigfnnnaaTotals.lean).
  GIVEN WITH THE SEED: the statements are not yours to turn. If you find one false, say at which input.
  Laid BY PROGRAM, IN A SANDBOX (cutbox-rows.mjs): the forced cells as the released guide's own fill.sh prints them over the translation 93292ef3755a8573… (all of the seat's roots in one cut). By AI agents, Wed Nov 11 2026. No macro, syntax, notation, axiom, sorry.
-/
import Derived.Test.YtbjonkjigfnnnaaChecked
import GoSem.Claim
import GoSem.ClaimJoined
import GoSem.ClaimMapViews
import Derived.JoinedTies
import Derived.KernelRfl
namespace Go.Proofs.Ytbjonkjigfnnnaa
/- THE CELL 'sum', in the pinned program and in every row, IS THE sha256 OF THE DUMP (.gsa) THAT YtbjonkjigfnnnaaProg.lean LOADS. Nothing in Lean hashes anything: it is a label: what it is worth is what the hold of that sum in a sandbox is worth. -/
noncomputable def Try.pinned : Pinned := { name := "ytbjonkjigfnnnaa", sum := "93292ef3755a85734986e09de697e82687ba1c095ca6c5624f6bef11b0ed9626", checked := Try.checked }
namespace Rows
def none {H : Type} : Left H := { results := [], args := [] }

/-- 'laws.FnExactDampOk': WHATEVER THE INPUT: true; the input reads as it did. -/
def fnExactDampOkSpec : ChangeSpec := { name := "fnExactDampOk", fn := fun _ => fun
  | [d] => { results := [.lit (.bool true)], args := [d] }
  | _ => none }
def fnExactDampOkRow : OpenClaim := { program := "ytbjonkjigfnnnaa", sum := "93292ef3755a85734986e09de697e82687ba1c095ca6c5624f6bef11b0ed9626", func := "loop.example/wayboard/laws.FnExactDampOk", spec := "fnExactDampOk", apart := false }
def FnExactDampOkSaid : Prop := fnExactDampOkRow.holds Try.pinned (OpenSpec.ofChange fnExactDampOkSpec)

/-- ITS FALSE NEIGHBOUR: 'it returns false'. Refute it at one input. -/
def fnExactDampOkWrong : ChangeSpec := { name := "fnExactDampOk", fn := fun _ => fun
  | [d] => { results := [.lit (.bool false)], args := [d] }
  | _ => none }
def FnExactDampOkWrongFalsely : Prop := fnExactDampOkRow.holds Try.pinned (OpenSpec.ofChange fnExactDampOkWrong)

/-- 'laws.FnDampForm': WHATEVER THE INPUT: true; the input reads as it did. -/
def fnDampFormSpec : ChangeSpec := { name := "fnDampForm", fn := fun _ => fun
  | [d] => { results := [.lit (.bool true)], args := [d] }
  | _ => none }
def fnDampFormRow : OpenClaim := { program := "ytbjonkjigfnnnaa", sum := "93292ef3755a85734986e09de697e82687ba1c095ca6c5624f6bef11b0ed9626", func := "loop.example/wayboard/laws.FnDampForm", spec := "fnDampForm", apart := false }
def FnDampFormSaid : Prop := fnDampFormRow.holds Try.pinned (OpenSpec.ofChange fnDampFormSpec)

/-- ITS FALSE NEIGHBOUR: 'it returns false'. Refute it at one input. -/
def fnDampFormWrong : ChangeSpec := { name := "fnDampForm", fn := fun _ => fun
  | [d] => { results := [.lit (.bool false)], args := [d] }
  | _ => none }
def FnDampFormWrongFalsely : Prop := fnDampFormRow.holds Try.pinned (OpenSpec.ofChange fnDampFormWrong)

/-- 'laws.FnExactDampFree': WHATEVER THE INPUT: true; the input reads as it did. -/
def fnExactDampFreeSpec : ChangeSpec := { name := "fnExactDampFree", fn := fun _ => fun
  | [d] => { results := [.lit (.bool true)], args := [d] }
  | _ => none }
def fnExactDampFreeRow : OpenClaim := { program := "ytbjonkjigfnnnaa", sum := "93292ef3755a85734986e09de697e82687ba1c095ca6c5624f6bef11b0ed9626", func := "loop.example/wayboard/laws.FnExactDampFree", spec := "fnExactDampFree", apart := false }
def FnExactDampFreeSaid : Prop := fnExactDampFreeRow.holds Try.pinned (OpenSpec.ofChange fnExactDampFreeSpec)

/-- ITS FALSE NEIGHBOUR: 'it returns false'. Refute it at one input. -/
def fnExactDampFreeWrong : ChangeSpec := { name := "fnExactDampFree", fn := fun _ => fun
  | [d] => { results := [.lit (.bool false)], args := [d] }
  | _ => none }
def FnExactDampFreeWrongFalsely : Prop := fnExactDampFreeRow.holds Try.pinned (OpenSpec.ofChange fnExactDampFreeWrong)

/-- 'laws.FnExactDampNow': WHATEVER THE INPUT: true; the input reads as it did. -/
def fnExactDampNowSpec : ChangeSpec := { name := "fnExactDampNow", fn := fun _ => fun
  | [d1, d2] => { results := [.lit (.bool true)], args := [d1, d2] }
  | _ => none }
def fnExactDampNowRow : OpenClaim := { program := "ytbjonkjigfnnnaa", sum := "93292ef3755a85734986e09de697e82687ba1c095ca6c5624f6bef11b0ed9626", func := "loop.example/wayboard/laws.FnExactDampNow", spec := "fnExactDampNow", inPlace := ["(*internal/sync.Mutex).Lock", "internal/race.Disable", "sync/atomic.CompareAndSwapInt32", "internal/race.Enable", "internal/race.Acquire", "(*internal/sync.Mutex).lockSlow", "internal/sync.runtime_canSpin", "internal/sync.runtime_doSpin", "internal/sync.throw", "internal/sync.runtime_nanotime", "internal/sync.runtime_SemacquireMutex", "sync/atomic.AddInt32", "(*internal/sync.Mutex).Unlock", "internal/race.ReleaseMerge", "(*internal/sync.Mutex).unlockSlow", "internal/sync.fatal", "internal/sync.runtime_Semrelease"], apart := false }
def FnExactDampNowSaid : Prop := fnExactDampNowRow.holds Try.pinned (OpenSpec.ofChange fnExactDampNowSpec)

/-- ITS FALSE NEIGHBOUR: 'it returns false'. Refute it at one input. -/
def fnExactDampNowWrong : ChangeSpec := { name := "fnExactDampNow", fn := fun _ => fun
  | [d1, d2] => { results := [.lit (.bool false)], args := [d1, d2] }
  | _ => none }
def FnExactDampNowWrongFalsely : Prop := fnExactDampNowRow.holds Try.pinned (OpenSpec.ofChange fnExactDampNowWrong)

/-- 'laws.FnDampBound': WHATEVER THE INPUT: true; the input reads as it did. -/
def fnDampBoundSpec : ChangeSpec := { name := "fnDampBound", fn := fun _ => fun
  | [d] => { results := [.lit (.bool true)], args := [d] }
  | _ => none }
def fnDampBoundRow : OpenClaim := { program := "ytbjonkjigfnnnaa", sum := "93292ef3755a85734986e09de697e82687ba1c095ca6c5624f6bef11b0ed9626", func := "loop.example/wayboard/laws.FnDampBound", spec := "fnDampBound", apart := false }
def FnDampBoundSaid : Prop := fnDampBoundRow.holds Try.pinned (OpenSpec.ofChange fnDampBoundSpec)

/-- ITS FALSE NEIGHBOUR: 'it returns false'. Refute it at one input. -/
def fnDampBoundWrong : ChangeSpec := { name := "fnDampBound", fn := fun _ => fun
  | [d] => { results := [.lit (.bool false)], args := [d] }
  | _ => none }
def FnDampBoundWrongFalsely : Prop := fnDampBoundRow.holds Try.pinned (OpenSpec.ofChange fnDampBoundWrong)

/-- 'laws.FnDampOrder': WHATEVER THE INPUT: true; the input reads as it did. -/
def fnDampOrderSpec : ChangeSpec := { name := "fnDampOrder", fn := fun _ => fun
  | [d1, d2] => { results := [.lit (.bool true)], args := [d1, d2] }
  | _ => none }
def fnDampOrderRow : OpenClaim := { program := "ytbjonkjigfnnnaa", sum := "93292ef3755a85734986e09de697e82687ba1c095ca6c5624f6bef11b0ed9626", func := "loop.example/wayboard/laws.FnDampOrder", spec := "fnDampOrder", apart := false }
def FnDampOrderSaid : Prop := fnDampOrderRow.holds Try.pinned (OpenSpec.ofChange fnDampOrderSpec)

/-- ITS FALSE NEIGHBOUR: 'it returns false'. Refute it at one input. -/
def fnDampOrderWrong : ChangeSpec := { name := "fnDampOrder", fn := fun _ => fun
  | [d1, d2] => { results := [.lit (.bool false)], args := [d1, d2] }
  | _ => none }
def FnDampOrderWrongFalsely : Prop := fnDampOrderRow.holds Try.pinned (OpenSpec.ofChange fnDampOrderWrong)

/-- 'laws.FnExactDampFlap': WHATEVER THE INPUT: true; the input reads as it did. -/
def fnExactDampFlapSpec : ChangeSpec := { name := "fnExactDampFlap", fn := fun _ => fun
  | [d1, d2] => { results := [.lit (.bool true)], args := [d1, d2] }
  | _ => none }
def fnExactDampFlapRow : OpenClaim := { program := "ytbjonkjigfnnnaa", sum := "93292ef3755a85734986e09de697e82687ba1c095ca6c5624f6bef11b0ed9626", func := "loop.example/wayboard/laws.FnExactDampFlap", spec := "fnExactDampFlap", inPlace := ["(*internal/sync.Mutex).Lock", "internal/race.Disable", "sync/atomic.CompareAndSwapInt32", "internal/race.Enable", "internal/race.Acquire", "(*internal/sync.Mutex).lockSlow", "internal/sync.runtime_canSpin", "internal/sync.runtime_doSpin", "internal/sync.throw", "internal/sync.runtime_nanotime", "internal/sync.runtime_SemacquireMutex", "sync/atomic.AddInt32", "(*internal/sync.Mutex).Unlock", "internal/race.ReleaseMerge", "(*internal/sync.Mutex).unlockSlow", "internal/sync.fatal", "internal/sync.runtime_Semrelease"], apart := false }
def FnExactDampFlapSaid : Prop := fnExactDampFlapRow.holds Try.pinned (OpenSpec.ofChange fnExactDampFlapSpec)

/-- ITS FALSE NEIGHBOUR: 'it returns false'. Refute it at one input. -/
def fnExactDampFlapWrong : ChangeSpec := { name := "fnExactDampFlap", fn := fun _ => fun
  | [d1, d2] => { results := [.lit (.bool false)], args := [d1, d2] }
  | _ => none }
def FnExactDampFlapWrongFalsely : Prop := fnExactDampFlapRow.holds Try.pinned (OpenSpec.ofChange fnExactDampFlapWrong)

/-- 'laws.FnDampLater': WHATEVER THE INPUT: true; the input reads as it did. -/
def fnDampLaterSpec : ChangeSpec := { name := "fnDampLater", fn := fun _ => fun
  | [d1, d2] => { results := [.lit (.bool true)], args := [d1, d2] }
  | _ => none }
def fnDampLaterRow : OpenClaim := { program := "ytbjonkjigfnnnaa", sum := "93292ef3755a85734986e09de697e82687ba1c095ca6c5624f6bef11b0ed9626", func := "loop.example/wayboard/laws.FnDampLater", spec := "fnDampLater", inPlace := ["(*internal/sync.Mutex).Lock", "internal/race.Disable", "sync/atomic.CompareAndSwapInt32", "internal/race.Enable", "internal/race.Acquire", "(*internal/sync.Mutex).lockSlow", "internal/sync.runtime_canSpin", "internal/sync.runtime_doSpin", "internal/sync.throw", "internal/sync.runtime_nanotime", "internal/sync.runtime_SemacquireMutex", "sync/atomic.AddInt32", "(*internal/sync.Mutex).Unlock", "internal/race.ReleaseMerge", "(*internal/sync.Mutex).unlockSlow", "internal/sync.fatal", "internal/sync.runtime_Semrelease"], apart := false }
def FnDampLaterSaid : Prop := fnDampLaterRow.holds Try.pinned (OpenSpec.ofChange fnDampLaterSpec)

/-- ITS FALSE NEIGHBOUR: 'it returns false'. Refute it at one input. -/
def fnDampLaterWrong : ChangeSpec := { name := "fnDampLater", fn := fun _ => fun
  | [d1, d2] => { results := [.lit (.bool false)], args := [d1, d2] }
  | _ => none }
def FnDampLaterWrongFalsely : Prop := fnDampLaterRow.holds Try.pinned (OpenSpec.ofChange fnDampLaterWrong)

/-- 'laws.FnDampNow': WHATEVER THE INPUT: true; the input reads as it did. -/
def fnDampNowSpec : ChangeSpec := { name := "fnDampNow", fn := fun _ => fun
  | [d] => { results := [.lit (.bool true)], args := [d] }
  | _ => none }
def fnDampNowRow : OpenClaim := { program := "ytbjonkjigfnnnaa", sum := "93292ef3755a85734986e09de697e82687ba1c095ca6c5624f6bef11b0ed9626", func := "loop.example/wayboard/laws.FnDampNow", spec := "fnDampNow", inPlace := ["(*internal/sync.Mutex).Lock", "internal/race.Disable", "sync/atomic.CompareAndSwapInt32", "internal/race.Enable", "internal/race.Acquire", "(*internal/sync.Mutex).lockSlow", "internal/sync.runtime_canSpin", "internal/sync.runtime_doSpin", "internal/sync.throw", "internal/sync.runtime_nanotime", "internal/sync.runtime_SemacquireMutex", "sync/atomic.AddInt32", "(*internal/sync.Mutex).Unlock", "internal/race.ReleaseMerge", "(*internal/sync.Mutex).unlockSlow", "internal/sync.fatal", "internal/sync.runtime_Semrelease"], apart := false }
def FnDampNowSaid : Prop := fnDampNowRow.holds Try.pinned (OpenSpec.ofChange fnDampNowSpec)

/-- ITS FALSE NEIGHBOUR: 'it returns false'. Refute it at one input. -/
def fnDampNowWrong : ChangeSpec := { name := "fnDampNow", fn := fun _ => fun
  | [d] => { results := [.lit (.bool false)], args := [d] }
  | _ => none }
def FnDampNowWrongFalsely : Prop := fnDampNowRow.holds Try.pinned (OpenSpec.ofChange fnDampNowWrong)

/-- 'laws.FnExactDampPlay': WHATEVER THE INPUT: true; the input reads as it did. -/
def fnExactDampPlaySpec : ChangeSpec := { name := "fnExactDampPlay", fn := fun _ => fun
  | [d] => { results := [.lit (.bool true)], args := [d] }
  | _ => none }
def fnExactDampPlayRow : OpenClaim := { program := "ytbjonkjigfnnnaa", sum := "93292ef3755a85734986e09de697e82687ba1c095ca6c5624f6bef11b0ed9626", func := "loop.example/wayboard/laws.FnExactDampPlay", spec := "fnExactDampPlay", inPlace := ["(*internal/sync.Mutex).Lock", "internal/race.Disable", "sync/atomic.CompareAndSwapInt32", "internal/race.Enable", "internal/race.Acquire", "(*internal/sync.Mutex).lockSlow", "internal/sync.runtime_canSpin", "internal/sync.runtime_doSpin", "internal/sync.throw", "internal/sync.runtime_nanotime", "internal/sync.runtime_SemacquireMutex", "sync/atomic.AddInt32", "(*internal/sync.Mutex).Unlock", "internal/race.ReleaseMerge", "(*internal/sync.Mutex).unlockSlow", "internal/sync.fatal", "internal/sync.runtime_Semrelease"], apart := false }
def FnExactDampPlaySaid : Prop := fnExactDampPlayRow.holds Try.pinned (OpenSpec.ofChange fnExactDampPlaySpec)

/-- ITS FALSE NEIGHBOUR: 'it returns false'. Refute it at one input. -/
def fnExactDampPlayWrong : ChangeSpec := { name := "fnExactDampPlay", fn := fun _ => fun
  | [d] => { results := [.lit (.bool false)], args := [d] }
  | _ => none }
def FnExactDampPlayWrongFalsely : Prop := fnExactDampPlayRow.holds Try.pinned (OpenSpec.ofChange fnExactDampPlayWrong)

/-- 'laws.FnDampFlap': WHATEVER THE INPUT: true; the input reads as it did. -/
def fnDampFlapSpec : ChangeSpec := { name := "fnDampFlap", fn := fun _ => fun
  | [d] => { results := [.lit (.bool true)], args := [d] }
  | _ => none }
def fnDampFlapRow : OpenClaim := { program := "ytbjonkjigfnnnaa", sum := "93292ef3755a85734986e09de697e82687ba1c095ca6c5624f6bef11b0ed9626", func := "loop.example/wayboard/laws.FnDampFlap", spec := "fnDampFlap", inPlace := ["(*internal/sync.Mutex).Lock", "internal/race.Disable", "sync/atomic.CompareAndSwapInt32", "internal/race.Enable", "internal/race.Acquire", "(*internal/sync.Mutex).lockSlow", "internal/sync.runtime_canSpin", "internal/sync.runtime_doSpin", "internal/sync.throw", "internal/sync.runtime_nanotime", "internal/sync.runtime_SemacquireMutex", "sync/atomic.AddInt32", "(*internal/sync.Mutex).Unlock", "internal/race.ReleaseMerge", "(*internal/sync.Mutex).unlockSlow", "internal/sync.fatal", "internal/sync.runtime_Semrelease"], apart := false }
def FnDampFlapSaid : Prop := fnDampFlapRow.holds Try.pinned (OpenSpec.ofChange fnDampFlapSpec)

/-- ITS FALSE NEIGHBOUR: 'it returns false'. Refute it at one input. -/
def fnDampFlapWrong : ChangeSpec := { name := "fnDampFlap", fn := fun _ => fun
  | [d] => { results := [.lit (.bool false)], args := [d] }
  | _ => none }
def FnDampFlapWrongFalsely : Prop := fnDampFlapRow.holds Try.pinned (OpenSpec.ofChange fnDampFlapWrong)

/-- 'laws.FnFlapMore': WHATEVER THE INPUT: true; the input reads as it did. -/
def fnFlapMoreSpec : ChangeSpec := { name := "fnFlapMore", fn := fun _ => fun
  | [d] => { results := [.lit (.bool true)], args := [d] }
  | _ => none }
def fnFlapMoreRow : OpenClaim := { program := "ytbjonkjigfnnnaa", sum := "93292ef3755a85734986e09de697e82687ba1c095ca6c5624f6bef11b0ed9626", func := "loop.example/wayboard/laws.FnFlapMore", spec := "fnFlapMore", inPlace := ["(*internal/sync.Mutex).Lock", "internal/race.Disable", "sync/atomic.CompareAndSwapInt32", "internal/race.Enable", "internal/race.Acquire", "(*internal/sync.Mutex).lockSlow", "internal/sync.runtime_canSpin", "internal/sync.runtime_doSpin", "internal/sync.throw", "internal/sync.runtime_nanotime", "internal/sync.runtime_SemacquireMutex", "sync/atomic.AddInt32", "(*internal/sync.Mutex).Unlock", "internal/race.ReleaseMerge", "(*internal/sync.Mutex).unlockSlow", "internal/sync.fatal", "internal/sync.runtime_Semrelease"], apart := false }
def FnFlapMoreSaid : Prop := fnFlapMoreRow.holds Try.pinned (OpenSpec.ofChange fnFlapMoreSpec)

/-- ITS FALSE NEIGHBOUR: 'it returns false'. Refute it at one input. -/
def fnFlapMoreWrong : ChangeSpec := { name := "fnFlapMore", fn := fun _ => fun
  | [d] => { results := [.lit (.bool false)], args := [d] }
  | _ => none }
def FnFlapMoreWrongFalsely : Prop := fnFlapMoreRow.holds Try.pinned (OpenSpec.ofChange fnFlapMoreWrong)

/-- 'laws.FnDampPlay': WHATEVER THE INPUT: true; the input reads as it did. -/
def fnDampPlaySpec : ChangeSpec := { name := "fnDampPlay", fn := fun _ => fun
  | [d] => { results := [.lit (.bool true)], args := [d] }
  | _ => none }
def fnDampPlayRow : OpenClaim := { program := "ytbjonkjigfnnnaa", sum := "93292ef3755a85734986e09de697e82687ba1c095ca6c5624f6bef11b0ed9626", func := "loop.example/wayboard/laws.FnDampPlay", spec := "fnDampPlay", inPlace := ["(*internal/sync.Mutex).Lock", "internal/race.Disable", "sync/atomic.CompareAndSwapInt32", "internal/race.Enable", "internal/race.Acquire", "(*internal/sync.Mutex).lockSlow", "internal/sync.runtime_canSpin", "internal/sync.runtime_doSpin", "internal/sync.throw", "internal/sync.runtime_nanotime", "internal/sync.runtime_SemacquireMutex", "sync/atomic.AddInt32", "(*internal/sync.Mutex).Unlock", "internal/race.ReleaseMerge", "(*internal/sync.Mutex).unlockSlow", "internal/sync.fatal", "internal/sync.runtime_Semrelease"], apart := false }
def FnDampPlaySaid : Prop := fnDampPlayRow.holds Try.pinned (OpenSpec.ofChange fnDampPlaySpec)

/-- ITS FALSE NEIGHBOUR: 'it returns false'. Refute it at one input. -/
def fnDampPlayWrong : ChangeSpec := { name := "fnDampPlay", fn := fun _ => fun
  | [d] => { results := [.lit (.bool false)], args := [d] }
  | _ => none }
def FnDampPlayWrongFalsely : Prop := fnDampPlayRow.holds Try.pinned (OpenSpec.ofChange fnDampPlayWrong)

/-- 'laws.FnDampQuick': WHATEVER THE INPUT: true; the input reads as it did. -/
def fnDampQuickSpec : ChangeSpec := { name := "fnDampQuick", fn := fun _ => fun
  | [d1, d2] => { results := [.lit (.bool true)], args := [d1, d2] }
  | _ => none }
def fnDampQuickRow : OpenClaim := { program := "ytbjonkjigfnnnaa", sum := "93292ef3755a85734986e09de697e82687ba1c095ca6c5624f6bef11b0ed9626", func := "loop.example/wayboard/laws.FnDampQuick", spec := "fnDampQuick", inPlace := ["(*internal/sync.Mutex).Lock", "internal/race.Disable", "sync/atomic.CompareAndSwapInt32", "internal/race.Enable", "internal/race.Acquire", "(*internal/sync.Mutex).lockSlow", "internal/sync.runtime_canSpin", "internal/sync.runtime_doSpin", "internal/sync.throw", "internal/sync.runtime_nanotime", "internal/sync.runtime_SemacquireMutex", "sync/atomic.AddInt32", "(*internal/sync.Mutex).Unlock", "internal/race.ReleaseMerge", "(*internal/sync.Mutex).unlockSlow", "internal/sync.fatal", "internal/sync.runtime_Semrelease"], apart := false }
def FnDampQuickSaid : Prop := fnDampQuickRow.holds Try.pinned (OpenSpec.ofChange fnDampQuickSpec)

/-- ITS FALSE NEIGHBOUR: 'it returns false'. Refute it at one input. -/
def fnDampQuickWrong : ChangeSpec := { name := "fnDampQuick", fn := fun _ => fun
  | [d1, d2] => { results := [.lit (.bool false)], args := [d1, d2] }
  | _ => none }
def FnDampQuickWrongFalsely : Prop := fnDampQuickRow.holds Try.pinned (OpenSpec.ofChange fnDampQuickWrong)

/-- 'laws.FnDampSteady': WHATEVER THE INPUT: true; the input reads as it did. -/
def fnDampSteadySpec : ChangeSpec := { name := "fnDampSteady", fn := fun _ => fun
  | [d1, d2] => { results := [.lit (.bool true)], args := [d1, d2] }
  | _ => none }
def fnDampSteadyRow : OpenClaim := { program := "ytbjonkjigfnnnaa", sum := "93292ef3755a85734986e09de697e82687ba1c095ca6c5624f6bef11b0ed9626", func := "loop.example/wayboard/laws.FnDampSteady", spec := "fnDampSteady", inPlace := ["(*internal/sync.Mutex).Lock", "internal/race.Disable", "sync/atomic.CompareAndSwapInt32", "internal/race.Enable", "internal/race.Acquire", "(*internal/sync.Mutex).lockSlow", "internal/sync.runtime_canSpin", "internal/sync.runtime_doSpin", "internal/sync.throw", "internal/sync.runtime_nanotime", "internal/sync.runtime_SemacquireMutex", "sync/atomic.AddInt32", "(*internal/sync.Mutex).Unlock", "internal/race.ReleaseMerge", "(*internal/sync.Mutex).unlockSlow", "internal/sync.fatal", "internal/sync.runtime_Semrelease"], apart := false }
def FnDampSteadySaid : Prop := fnDampSteadyRow.holds Try.pinned (OpenSpec.ofChange fnDampSteadySpec)

/-- ITS FALSE NEIGHBOUR: 'it returns false'. Refute it at one input. -/
def fnDampSteadyWrong : ChangeSpec := { name := "fnDampSteady", fn := fun _ => fun
  | [d1, d2] => { results := [.lit (.bool false)], args := [d1, d2] }
  | _ => none }
def FnDampSteadyWrongFalsely : Prop := fnDampSteadyRow.holds Try.pinned (OpenSpec.ofChange fnDampSteadyWrong)

/-- 'laws.FnDampFree': WHATEVER THE INPUT: true; the input reads as it did. -/
def fnDampFreeSpec : ChangeSpec := { name := "fnDampFree", fn := fun _ => fun
  | [d] => { results := [.lit (.bool true)], args := [d] }
  | _ => none }
def fnDampFreeRow : OpenClaim := { program := "ytbjonkjigfnnnaa", sum := "93292ef3755a85734986e09de697e82687ba1c095ca6c5624f6bef11b0ed9626", func := "loop.example/wayboard/laws.FnDampFree", spec := "fnDampFree", inPlace := ["(*internal/sync.Mutex).Lock", "internal/race.Disable", "sync/atomic.CompareAndSwapInt32", "internal/race.Enable", "internal/race.Acquire", "(*internal/sync.Mutex).lockSlow", "internal/sync.runtime_canSpin", "internal/sync.runtime_doSpin", "internal/sync.throw", "internal/sync.runtime_nanotime", "internal/sync.runtime_SemacquireMutex", "sync/atomic.AddInt32", "(*internal/sync.Mutex).Unlock", "internal/race.ReleaseMerge", "(*internal/sync.Mutex).unlockSlow", "internal/sync.fatal", "internal/sync.runtime_Semrelease"], apart := false }
def FnDampFreeSaid : Prop := fnDampFreeRow.holds Try.pinned (OpenSpec.ofChange fnDampFreeSpec)

/-- ITS FALSE NEIGHBOUR: 'it returns false'. Refute it at one input. -/
def fnDampFreeWrong : ChangeSpec := { name := "fnDampFree", fn := fun _ => fun
  | [d] => { results := [.lit (.bool false)], args := [d] }
  | _ => none }
def FnDampFreeWrongFalsely : Prop := fnDampFreeRow.holds Try.pinned (OpenSpec.ofChange fnDampFreeWrong)

/- THE SECOND FORM. 'bulk': how many values and letters a reading holds, each counted each time it is reached (what is shared counts as often as it is met; a slice's spare places count too). A statement '..UptoSaid' is the law's where the arguments, and the package variables that the reading takes, are together of bulk at most 1048576: NARROWER than '..Said'. Prove '..Said' where nothing that the law and all that it calls make is longer than what came in: it says more and counts as full. Else prove '..UptoSaid'. A law counts once. -/
mutual
def uptoBulk {H : Type} : DataW H → Nat
  | .lit (.string bytes) => bytes.length + 1
  | .lit _ => 1
  | .nil => 1
  | .ptr d => uptoBulk d + 1
  | .slice elems spare => uptoBulkAll elems + uptoBulkAll spare + 1
  | .agg parts => uptoBulkAll parts + 1
  | .iface _ d => uptoBulk d + 1
  | .map entries => uptoBulkEntries entries + 1
  | .held _ => 1
def uptoBulkAll {H : Type} : List (DataW H) → Nat
  | [] => 0
  | d :: r => uptoBulk d + uptoBulkAll r
def uptoBulkEntries {H : Type} : List (Lit × DataW H) → Nat
  | [] => 0
  | x :: r => uptoBulkEntry x + uptoBulkEntries r
def uptoBulkEntry {H : Type} : Lit × DataW H → Nat
  | (.string bytes, d) => bytes.length + uptoBulk d + 1
  | (_, d) => uptoBulk d + 1
 end
def uptoSmall : (H : Type) → List (DataW H) → Bool := fun _ ds => decide (uptoBulkAll ds ≤ 1048576)
def OpenSpec.upto (s : _root_.Go.ChangeSpec) : _root_.Go.OpenSpec := { _root_.Go.OpenSpec.ofChange s with cond := some uptoSmall }

/-- 'laws.FnExactDampOk', WHERE WHAT IT READS IS OF BULK AT MOST 1048576: true; the input reads as it did. -/
def fnExactDampOkUptoRow : OpenClaim := { program := "ytbjonkjigfnnnaa", sum := "93292ef3755a85734986e09de697e82687ba1c095ca6c5624f6bef11b0ed9626", func := "loop.example/wayboard/laws.FnExactDampOk", spec := "fnExactDampOk", apart := false, narrowed := true }
def FnExactDampOkUptoSaid : Prop := fnExactDampOkUptoRow.holds Try.pinned (OpenSpec.upto fnExactDampOkSpec)

/-- 'laws.FnDampForm', WHERE WHAT IT READS IS OF BULK AT MOST 1048576: true; the input reads as it did. -/
def fnDampFormUptoRow : OpenClaim := { program := "ytbjonkjigfnnnaa", sum := "93292ef3755a85734986e09de697e82687ba1c095ca6c5624f6bef11b0ed9626", func := "loop.example/wayboard/laws.FnDampForm", spec := "fnDampForm", apart := false, narrowed := true }
def FnDampFormUptoSaid : Prop := fnDampFormUptoRow.holds Try.pinned (OpenSpec.upto fnDampFormSpec)

/-- 'laws.FnExactDampFree', WHERE WHAT IT READS IS OF BULK AT MOST 1048576: true; the input reads as it did. -/
def fnExactDampFreeUptoRow : OpenClaim := { program := "ytbjonkjigfnnnaa", sum := "93292ef3755a85734986e09de697e82687ba1c095ca6c5624f6bef11b0ed9626", func := "loop.example/wayboard/laws.FnExactDampFree", spec := "fnExactDampFree", apart := false, narrowed := true }
def FnExactDampFreeUptoSaid : Prop := fnExactDampFreeUptoRow.holds Try.pinned (OpenSpec.upto fnExactDampFreeSpec)

/-- 'laws.FnExactDampNow', WHERE WHAT IT READS IS OF BULK AT MOST 1048576: true; the input reads as it did. -/
def fnExactDampNowUptoRow : OpenClaim := { program := "ytbjonkjigfnnnaa", sum := "93292ef3755a85734986e09de697e82687ba1c095ca6c5624f6bef11b0ed9626", func := "loop.example/wayboard/laws.FnExactDampNow", spec := "fnExactDampNow", inPlace := ["(*internal/sync.Mutex).Lock", "internal/race.Disable", "sync/atomic.CompareAndSwapInt32", "internal/race.Enable", "internal/race.Acquire", "(*internal/sync.Mutex).lockSlow", "internal/sync.runtime_canSpin", "internal/sync.runtime_doSpin", "internal/sync.throw", "internal/sync.runtime_nanotime", "internal/sync.runtime_SemacquireMutex", "sync/atomic.AddInt32", "(*internal/sync.Mutex).Unlock", "internal/race.ReleaseMerge", "(*internal/sync.Mutex).unlockSlow", "internal/sync.fatal", "internal/sync.runtime_Semrelease"], apart := false, narrowed := true }
def FnExactDampNowUptoSaid : Prop := fnExactDampNowUptoRow.holds Try.pinned (OpenSpec.upto fnExactDampNowSpec)

/-- 'laws.FnDampBound', WHERE WHAT IT READS IS OF BULK AT MOST 1048576: true; the input reads as it did. -/
def fnDampBoundUptoRow : OpenClaim := { program := "ytbjonkjigfnnnaa", sum := "93292ef3755a85734986e09de697e82687ba1c095ca6c5624f6bef11b0ed9626", func := "loop.example/wayboard/laws.FnDampBound", spec := "fnDampBound", apart := false, narrowed := true }
def FnDampBoundUptoSaid : Prop := fnDampBoundUptoRow.holds Try.pinned (OpenSpec.upto fnDampBoundSpec)

/-- 'laws.FnDampOrder', WHERE WHAT IT READS IS OF BULK AT MOST 1048576: true; the input reads as it did. -/
def fnDampOrderUptoRow : OpenClaim := { program := "ytbjonkjigfnnnaa", sum := "93292ef3755a85734986e09de697e82687ba1c095ca6c5624f6bef11b0ed9626", func := "loop.example/wayboard/laws.FnDampOrder", spec := "fnDampOrder", apart := false, narrowed := true }
def FnDampOrderUptoSaid : Prop := fnDampOrderUptoRow.holds Try.pinned (OpenSpec.upto fnDampOrderSpec)

/-- 'laws.FnExactDampFlap', WHERE WHAT IT READS IS OF BULK AT MOST 1048576: true; the input reads as it did. -/
def fnExactDampFlapUptoRow : OpenClaim := { program := "ytbjonkjigfnnnaa", sum := "93292ef3755a85734986e09de697e82687ba1c095ca6c5624f6bef11b0ed9626", func := "loop.example/wayboard/laws.FnExactDampFlap", spec := "fnExactDampFlap", inPlace := ["(*internal/sync.Mutex).Lock", "internal/race.Disable", "sync/atomic.CompareAndSwapInt32", "internal/race.Enable", "internal/race.Acquire", "(*internal/sync.Mutex).lockSlow", "internal/sync.runtime_canSpin", "internal/sync.runtime_doSpin", "internal/sync.throw", "internal/sync.runtime_nanotime", "internal/sync.runtime_SemacquireMutex", "sync/atomic.AddInt32", "(*internal/sync.Mutex).Unlock", "internal/race.ReleaseMerge", "(*internal/sync.Mutex).unlockSlow", "internal/sync.fatal", "internal/sync.runtime_Semrelease"], apart := false, narrowed := true }
def FnExactDampFlapUptoSaid : Prop := fnExactDampFlapUptoRow.holds Try.pinned (OpenSpec.upto fnExactDampFlapSpec)

/-- 'laws.FnDampLater', WHERE WHAT IT READS IS OF BULK AT MOST 1048576: true; the input reads as it did. -/
def fnDampLaterUptoRow : OpenClaim := { program := "ytbjonkjigfnnnaa", sum := "93292ef3755a85734986e09de697e82687ba1c095ca6c5624f6bef11b0ed9626", func := "loop.example/wayboard/laws.FnDampLater", spec := "fnDampLater", inPlace := ["(*internal/sync.Mutex).Lock", "internal/race.Disable", "sync/atomic.CompareAndSwapInt32", "internal/race.Enable", "internal/race.Acquire", "(*internal/sync.Mutex).lockSlow", "internal/sync.runtime_canSpin", "internal/sync.runtime_doSpin", "internal/sync.throw", "internal/sync.runtime_nanotime", "internal/sync.runtime_SemacquireMutex", "sync/atomic.AddInt32", "(*internal/sync.Mutex).Unlock", "internal/race.ReleaseMerge", "(*internal/sync.Mutex).unlockSlow", "internal/sync.fatal", "internal/sync.runtime_Semrelease"], apart := false, narrowed := true }
def FnDampLaterUptoSaid : Prop := fnDampLaterUptoRow.holds Try.pinned (OpenSpec.upto fnDampLaterSpec)

/-- 'laws.FnDampNow', WHERE WHAT IT READS IS OF BULK AT MOST 1048576: true; the input reads as it did. -/
def fnDampNowUptoRow : OpenClaim := { program := "ytbjonkjigfnnnaa", sum := "93292ef3755a85734986e09de697e82687ba1c095ca6c5624f6bef11b0ed9626", func := "loop.example/wayboard/laws.FnDampNow", spec := "fnDampNow", inPlace := ["(*internal/sync.Mutex).Lock", "internal/race.Disable", "sync/atomic.CompareAndSwapInt32", "internal/race.Enable", "internal/race.Acquire", "(*internal/sync.Mutex).lockSlow", "internal/sync.runtime_canSpin", "internal/sync.runtime_doSpin", "internal/sync.throw", "internal/sync.runtime_nanotime", "internal/sync.runtime_SemacquireMutex", "sync/atomic.AddInt32", "(*internal/sync.Mutex).Unlock", "internal/race.ReleaseMerge", "(*internal/sync.Mutex).unlockSlow", "internal/sync.fatal", "internal/sync.runtime_Semrelease"], apart := false, narrowed := true }
def FnDampNowUptoSaid : Prop := fnDampNowUptoRow.holds Try.pinned (OpenSpec.upto fnDampNowSpec)

/-- 'laws.FnExactDampPlay', WHERE WHAT IT READS IS OF BULK AT MOST 1048576: true; the input reads as it did. -/
def fnExactDampPlayUptoRow : OpenClaim := { program := "ytbjonkjigfnnnaa", sum := "93292ef3755a85734986e09de697e82687ba1c095ca6c5624f6bef11b0ed9626", func := "loop.example/wayboard/laws.FnExactDampPlay", spec := "fnExactDampPlay", inPlace := ["(*internal/sync.Mutex).Lock", "internal/race.Disable", "sync/atomic.CompareAndSwapInt32", "internal/race.Enable", "internal/race.Acquire", "(*internal/sync.Mutex).lockSlow", "internal/sync.runtime_canSpin", "internal/sync.runtime_doSpin", "internal/sync.throw", "internal/sync.runtime_nanotime", "internal/sync.runtime_SemacquireMutex", "sync/atomic.AddInt32", "(*internal/sync.Mutex).Unlock", "internal/race.ReleaseMerge", "(*internal/sync.Mutex).unlockSlow", "internal/sync.fatal", "internal/sync.runtime_Semrelease"], apart := false, narrowed := true }
def FnExactDampPlayUptoSaid : Prop := fnExactDampPlayUptoRow.holds Try.pinned (OpenSpec.upto fnExactDampPlaySpec)

/-- 'laws.FnDampFlap', WHERE WHAT IT READS IS OF BULK AT MOST 1048576: true; the input reads as it did. -/
def fnDampFlapUptoRow : OpenClaim := { program := "ytbjonkjigfnnnaa", sum := "93292ef3755a85734986e09de697e82687ba1c095ca6c5624f6bef11b0ed9626", func := "loop.example/wayboard/laws.FnDampFlap", spec := "fnDampFlap", inPlace := ["(*internal/sync.Mutex).Lock", "internal/race.Disable", "sync/atomic.CompareAndSwapInt32", "internal/race.Enable", "internal/race.Acquire", "(*internal/sync.Mutex).lockSlow", "internal/sync.runtime_canSpin", "internal/sync.runtime_doSpin", "internal/sync.throw", "internal/sync.runtime_nanotime", "internal/sync.runtime_SemacquireMutex", "sync/atomic.AddInt32", "(*internal/sync.Mutex).Unlock", "internal/race.ReleaseMerge", "(*internal/sync.Mutex).unlockSlow", "internal/sync.fatal", "internal/sync.runtime_Semrelease"], apart := false, narrowed := true }
def FnDampFlapUptoSaid : Prop := fnDampFlapUptoRow.holds Try.pinned (OpenSpec.upto fnDampFlapSpec)

/-- 'laws.FnFlapMore', WHERE WHAT IT READS IS OF BULK AT MOST 1048576: true; the input reads as it did. -/
def fnFlapMoreUptoRow : OpenClaim := { program := "ytbjonkjigfnnnaa", sum := "93292ef3755a85734986e09de697e82687ba1c095ca6c5624f6bef11b0ed9626", func := "loop.example/wayboard/laws.FnFlapMore", spec := "fnFlapMore", inPlace := ["(*internal/sync.Mutex).Lock", "internal/race.Disable", "sync/atomic.CompareAndSwapInt32", "internal/race.Enable", "internal/race.Acquire", "(*internal/sync.Mutex).lockSlow", "internal/sync.runtime_canSpin", "internal/sync.runtime_doSpin", "internal/sync.throw", "internal/sync.runtime_nanotime", "internal/sync.runtime_SemacquireMutex", "sync/atomic.AddInt32", "(*internal/sync.Mutex).Unlock", "internal/race.ReleaseMerge", "(*internal/sync.Mutex).unlockSlow", "internal/sync.fatal", "internal/sync.runtime_Semrelease"], apart := false, narrowed := true }
def FnFlapMoreUptoSaid : Prop := fnFlapMoreUptoRow.holds Try.pinned (OpenSpec.upto fnFlapMoreSpec)

/-- 'laws.FnDampPlay', WHERE WHAT IT READS IS OF BULK AT MOST 1048576: true; the input reads as it did. -/
def fnDampPlayUptoRow : OpenClaim := { program := "ytbjonkjigfnnnaa", sum := "93292ef3755a85734986e09de697e82687ba1c095ca6c5624f6bef11b0ed9626", func := "loop.example/wayboard/laws.FnDampPlay", spec := "fnDampPlay", inPlace := ["(*internal/sync.Mutex).Lock", "internal/race.Disable", "sync/atomic.CompareAndSwapInt32", "internal/race.Enable", "internal/race.Acquire", "(*internal/sync.Mutex).lockSlow", "internal/sync.runtime_canSpin", "internal/sync.runtime_doSpin", "internal/sync.throw", "internal/sync.runtime_nanotime", "internal/sync.runtime_SemacquireMutex", "sync/atomic.AddInt32", "(*internal/sync.Mutex).Unlock", "internal/race.ReleaseMerge", "(*internal/sync.Mutex).unlockSlow", "internal/sync.fatal", "internal/sync.runtime_Semrelease"], apart := false, narrowed := true }
def FnDampPlayUptoSaid : Prop := fnDampPlayUptoRow.holds Try.pinned (OpenSpec.upto fnDampPlaySpec)

/-- 'laws.FnDampQuick', WHERE WHAT IT READS IS OF BULK AT MOST 1048576: true; the input reads as it did. -/
def fnDampQuickUptoRow : OpenClaim := { program := "ytbjonkjigfnnnaa", sum := "93292ef3755a85734986e09de697e82687ba1c095ca6c5624f6bef11b0ed9626", func := "loop.example/wayboard/laws.FnDampQuick", spec := "fnDampQuick", inPlace := ["(*internal/sync.Mutex).Lock", "internal/race.Disable", "sync/atomic.CompareAndSwapInt32", "internal/race.Enable", "internal/race.Acquire", "(*internal/sync.Mutex).lockSlow", "internal/sync.runtime_canSpin", "internal/sync.runtime_doSpin", "internal/sync.throw", "internal/sync.runtime_nanotime", "internal/sync.runtime_SemacquireMutex", "sync/atomic.AddInt32", "(*internal/sync.Mutex).Unlock", "internal/race.ReleaseMerge", "(*internal/sync.Mutex).unlockSlow", "internal/sync.fatal", "internal/sync.runtime_Semrelease"], apart := false, narrowed := true }
def FnDampQuickUptoSaid : Prop := fnDampQuickUptoRow.holds Try.pinned (OpenSpec.upto fnDampQuickSpec)

/-- 'laws.FnDampSteady', WHERE WHAT IT READS IS OF BULK AT MOST 1048576: true; the input reads as it did. -/
def fnDampSteadyUptoRow : OpenClaim := { program := "ytbjonkjigfnnnaa", sum := "93292ef3755a85734986e09de697e82687ba1c095ca6c5624f6bef11b0ed9626", func := "loop.example/wayboard/laws.FnDampSteady", spec := "fnDampSteady", inPlace := ["(*internal/sync.Mutex).Lock", "internal/race.Disable", "sync/atomic.CompareAndSwapInt32", "internal/race.Enable", "internal/race.Acquire", "(*internal/sync.Mutex).lockSlow", "internal/sync.runtime_canSpin", "internal/sync.runtime_doSpin", "internal/sync.throw", "internal/sync.runtime_nanotime", "internal/sync.runtime_SemacquireMutex", "sync/atomic.AddInt32", "(*internal/sync.Mutex).Unlock", "internal/race.ReleaseMerge", "(*internal/sync.Mutex).unlockSlow", "internal/sync.fatal", "internal/sync.runtime_Semrelease"], apart := false, narrowed := true }
def FnDampSteadyUptoSaid : Prop := fnDampSteadyUptoRow.holds Try.pinned (OpenSpec.upto fnDampSteadySpec)

/-- 'laws.FnDampFree', WHERE WHAT IT READS IS OF BULK AT MOST 1048576: true; the input reads as it did. -/
def fnDampFreeUptoRow : OpenClaim := { program := "ytbjonkjigfnnnaa", sum := "93292ef3755a85734986e09de697e82687ba1c095ca6c5624f6bef11b0ed9626", func := "loop.example/wayboard/laws.FnDampFree", spec := "fnDampFree", inPlace := ["(*internal/sync.Mutex).Lock", "internal/race.Disable", "sync/atomic.CompareAndSwapInt32", "internal/race.Enable", "internal/race.Acquire", "(*internal/sync.Mutex).lockSlow", "internal/sync.runtime_canSpin", "internal/sync.runtime_doSpin", "internal/sync.throw", "internal/sync.runtime_nanotime", "internal/sync.runtime_SemacquireMutex", "sync/atomic.AddInt32", "(*internal/sync.Mutex).Unlock", "internal/race.ReleaseMerge", "(*internal/sync.Mutex).unlockSlow", "internal/sync.fatal", "internal/sync.runtime_Semrelease"], apart := false, narrowed := true }
def FnDampFreeUptoSaid : Prop := fnDampFreeUptoRow.holds Try.pinned (OpenSpec.upto fnDampFreeSpec)

end Rows
end Go.Proofs.Ytbjonkjigfnnnaa
