/- Of the regions that draw their order: that the order of the text serves; each by the kernel. -/
import Derived.Test.YtacnbdnmkmpldaaGreatProg
import Derived.Test.YtacnbdnmkmpldaaGreatMem
import Derived.KernelRfl
namespace Go.Proofs.YtacnbdnmkmpldaaGreat.Q
theorem lexHangs : Region.lexB .any (opsOf Tryz.f137 4) = true := by kernel_rfl
theorem lexEvent5 : Region.lexB .any (opsOf Tryz.f89 5) = true := by kernel_rfl
theorem lexEvent6 : Region.lexB .any (opsOf Tryz.f89 6) = true := by kernel_rfl
theorem lexFrom : Region.lexB .any (opsOf Tryz.f90 8) = true := by kernel_rfl
theorem lexOrder : Region.lexB .any (opsOf Tryz.f91 10) = true := by kernel_rfl
theorem lexRHangs : Region.lexB .any (opsOf Tryz.f63 5) = true := by kernel_rfl
theorem lexRCheck13 : Region.lexB .any (opsOf Tryz.f26 13) = true := by kernel_rfl
theorem lexRCheck24 : Region.lexB .any (opsOf Tryz.f26 24) = true := by kernel_rfl
theorem lexRCheck36 : Region.lexB .any (opsOf Tryz.f26 36) = true := by kernel_rfl
end Go.Proofs.YtacnbdnmkmpldaaGreat.Q
