/- 67280421310721 has no divisor but 1 and itself (checked by the kernel). -/
import Derived.Test.YtkegefnpmijfiaaGreatQPeriods
namespace Go.Proofs.YtkegefnpmijfiaaGreat
theorem big1 : noDiv 67280421310721 16 2 = true := by decide +kernel
theorem big2 : noDiv 67280421310721 16 (2 + 32 * 2 ^ 16) = true := by decide +kernel
theorem big3 : noDiv 67280421310721 16 (2 + 32 * 2 ^ 17) = true := by decide +kernel
theorem big4 : noDiv 67280421310721 16 (2 + 32 * 2 ^ 17 + 32 * 2 ^ 16) = true := by decide +kernel
theorem prm_67280421310721 : Prm 67280421310721 := prm_of (k := 18) (by show ((noDiv 67280421310721 16 2 && noDiv 67280421310721 16 (2 + 32 * 2 ^ 16)) && (noDiv 67280421310721 16 (2 + 32 * 2 ^ 17) && noDiv 67280421310721 16 (2 + 32 * 2 ^ 17 + 32 * 2 ^ 16))) = true; rw [big1, big2, big3, big4]; rfl) (by decide) (by decide)
end Go.Proofs.YtkegefnpmijfiaaGreat
