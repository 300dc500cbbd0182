/- The first 32 numbers that are added: reckoned by the kernel. -/
import Derived.Test.YtpijkibhjklkoaaRefRoot
namespace Go.Proofs.Ytpijkibhjklkoaa.Roots
set_option linter.unusedVariables false
set_option linter.unusedSimpArgs false
open Go Go.RowKit Go.Proofs.Ytpijkibhjklkoaa.Mem
set_option maxRecDepth 100000
theorem third0 : rootsAre 3 [2, 3, 5, 7, 11, 13, 17, 19] [1116352408, 1899447441, 3049323471, 3921009573, 961987163, 1508970993, 2453635748, 2870763221] = true := by kernel_rfl
theorem third8 : rootsAre 3 [23, 29, 31, 37, 41, 43, 47, 53] [3624381080, 310598401, 607225278, 1426881987, 1925078388, 2162078206, 2614888103, 3248222580] = true := by kernel_rfl
theorem third16 : rootsAre 3 [59, 61, 67, 71, 73, 79, 83, 89] [3835390401, 4022224774, 264347078, 604807628, 770255983, 1249150122, 1555081692, 1996064986] = true := by kernel_rfl
theorem third24 : rootsAre 3 [97, 101, 103, 107, 109, 113, 127, 131] [2554220882, 2821834349, 2952996808, 3210313671, 3336571891, 3584528711, 113926993, 338241895] = true := by kernel_rfl
end Go.Proofs.Ytpijkibhjklkoaa.Roots
