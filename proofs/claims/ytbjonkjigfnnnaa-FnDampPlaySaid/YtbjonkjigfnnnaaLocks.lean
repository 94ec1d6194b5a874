/- The numbers under which this translation holds sync.Mutex's functions and types; each is checked as this is compiled. -/
import Derived.Test.YtbjonkjigfnnnaaProg
import Derived.Conc.RwLib
import Derived.Conc.MuData
import Derived.KernelRfl
namespace Go.Proofs.Ytbjonkjigfnnnaa
abbrev muLink : Go.Conc.Locks.MuLink := { lock := 48, unlock := 49, ilock := 50, iunlock := 51, lockSlow := 56, unlockSlow := 59, disable := 52, enable := 54, acquire := 55, relMerge := 57, cas32 := 53, add32 := 58, tMutex := 66, tIMutex := 64, tPMutex := 69, tPIMutex := 70, tPI32 := 72, tUP := 74, tNoCopy := 61, tU32 := 62 }
theorem muLib : Go.Conc.Locks.MuLib Try.prog muLink :=
  ⟨Try.func48, Try.func49, Try.func50, Try.func51, Try.func52, Try.func54, Try.func55, Try.func57, Try.func53, Try.func58, Try.underlying64, Try.runUnderlying64, Try.sizeOf64, Try.isAgg64, Try.zeroValue64, Try.underlying66, Try.runUnderlying66, Try.sizeOf66, Try.isAgg66, Try.zeroValue66, Try.underlying69, Try.runUnderlying69, Try.sizeOf69, Try.isAgg69, Try.zeroValue69, Try.underlying70, Try.runUnderlying70, Try.sizeOf70, Try.isAgg70, Try.zeroValue70, Try.underlying72, Try.runUnderlying72, Try.sizeOf72, Try.isAgg72, Try.zeroValue72, Try.underlying74, Try.runUnderlying74, Try.sizeOf74, Try.isAgg74, Try.zeroValue74, Try.underlying61, Try.runUnderlying61, Try.sizeOf61, Try.isAgg61, Try.zeroValue61, Try.underlying21, Try.runUnderlying21, Try.sizeOf21, Try.isAgg21, Try.zeroValue21, (by kernel_rfl)⟩
end Go.Proofs.Ytbjonkjigfnnnaa
