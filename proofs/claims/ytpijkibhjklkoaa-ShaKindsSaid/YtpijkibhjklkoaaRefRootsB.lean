/- The other 32 numbers, and those at the begin: reckoned by the kernel. -/
import Derived.Test.YtpijkibhjklkoaaRefRoot
namespace Go.Proofs.Ytpijkibhjklkoaa.Roots
set_option linter.unusedVariables false
set_option linter.unusedSimpArgs false
open Go Go.RowKit Go.Proofs.Ytpijkibhjklkoaa.Mem
set_option maxRecDepth 100000
theorem fourth0 : rootsAre 3 [137, 139, 149, 151, 157, 163, 167, 173] [666307205, 773529912, 1294757372, 1396182291, 1695183700, 1986661051, 2177026350, 2456956037] = true := by kernel_rfl
theorem fourth8 : rootsAre 3 [179, 181, 191, 193, 197, 199, 211, 223] [2730485921, 2820302411, 3259730800, 3345764771, 3516065817, 3600352804, 4094571909, 275423344] = true := by kernel_rfl
theorem fourth16 : rootsAre 3 [227, 229, 233, 239, 241, 251, 257, 263] [430227734, 506948616, 659060556, 883997877, 958139571, 1322822218, 1537002063, 1747873779] = true := by kernel_rfl
theorem fourth24 : rootsAre 3 [269, 271, 277, 281, 283, 293, 307, 311] [1955562222, 2024104815, 2227730452, 2361852424, 2428436474, 2756734187, 3204031479, 3329325298] = true := by kernel_rfl
theorem second0 : rootsAre 2 [2, 3, 5, 7, 11, 13, 17, 19] [1779033703, 3144134277, 1013904242, 2773480762, 1359893119, 2600822924, 528734635, 1541459225] = true := by kernel_rfl
end Go.Proofs.Ytpijkibhjklkoaa.Roots
