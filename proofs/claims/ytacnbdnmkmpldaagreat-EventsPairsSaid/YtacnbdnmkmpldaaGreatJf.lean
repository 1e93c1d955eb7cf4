/- Of the program alone: the facts that every row's frame asks, each by the kernel, once. -/
import Derived.Test.YtacnbdnmkmpldaaGreatRows
import Derived.Test.YtacnbdnmkmpldaaGreatProg
import Derived.Test.YtacnbdnmkmpldaaGreatChecked
import Derived.WalkKit
import Derived.ProofKit
import Derived.KernelRfl
import Derived.JoinedOf
namespace Go.Proofs.YtacnbdnmkmpldaaGreat.Jf
open Go Go.Proofs
theorem and_intro {a b : Bool} (ha : a = true) (hb : b = true) : (a && b) = true := by rw [ha, hb]; rfl
theorem laid : laidOutB Tryz.pinned.checked.prog = true := by kernel_rfl
theorem rowed : mapsRowed Tryz.pinned.checked.prog = true := by kernel_rfl
theorem heard : Tryz.pinned.checked.prog.stopsHeard = true := by kernel_rfl
theorem enter : Tryz.pinned.checked.prog.mayEnter = true := by kernel_rfl
theorem lifts : Tryz.pinned.checked.prog.liftsFinal = false := by kernel_rfl
end Go.Proofs.YtacnbdnmkmpldaaGreat.Jf
