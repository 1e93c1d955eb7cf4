/- Of the regions that draw their order: that the order of the text serves; each by the kernel. -/
import Derived.Test.YtacnbdnmkmpldaaProg
import Derived.Test.YtacnbdnmkmpldaaMem
import Derived.KernelRfl
namespace Go.Proofs.Ytacnbdnmkmpldaa.Q
theorem lexHangs : Region.lexB .any (opsOf Try.f50 4) = true := by kernel_rfl
theorem lexEvent5 : Region.lexB .any (opsOf Try.f27 5) = true := by kernel_rfl
theorem lexEvent6 : Region.lexB .any (opsOf Try.f27 6) = true := by kernel_rfl
theorem lexFrom : Region.lexB .any (opsOf Try.f28 8) = true := by kernel_rfl
theorem lexOrder : Region.lexB .any (opsOf Try.f29 10) = true := by kernel_rfl
theorem lexRHangs : Region.lexB .any (opsOf Try.f32 5) = true := by kernel_rfl
theorem lexRCheck13 : Region.lexB .any (opsOf Try.f12 13) = true := by kernel_rfl
theorem lexRCheck24 : Region.lexB .any (opsOf Try.f12 24) = true := by kernel_rfl
theorem lexRCheck36 : Region.lexB .any (opsOf Try.f12 36) = true := by kernel_rfl
end Go.Proofs.Ytacnbdnmkmpldaa.Q
