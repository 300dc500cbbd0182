/- ShaSums: the law's walk. -/
import Derived.Test.YtjcofbjfolaoiaaShaAwake
import Derived.Test.YtjcofbjfolaoiaaEqArr
namespace Go.Proofs.Ytjcofbjfolaoiaa.ShaSums
set_option linter.unusedVariables false
set_option linter.unusedSimpArgs false
open Go Go.RowKit Go.Proofs.Ytjcofbjfolaoiaa.Mem Go.Proofs.Ytjcofbjfolaoiaa.Sum Go.Proofs.Ytjcofbjfolaoiaa.RefWith Go.Proofs.Ytjcofbjfolaoiaa.RefSum Go.Proofs.Ytjcofbjfolaoiaa.ShaAwake

theorem sumB_byte (x : List Int) : Byte (sumB x) := by
  intro y hy
  unfold sumB at hy
  obtain ⟨j, _, h⟩ := List.mem_flatMap.1 hy
  exact Put32.bytes4_byte _ y h
theorem sum_same (W : World) (x : List Int) : (Op.equalIn 10000 102 (.agg (sumA x)) (.agg (sumA x))).run Try.prog W = .ok true W := by
  have h := run_eq_ints (P := Try.prog) W 102 5 32 uArr32 Try.underlying5 info8 (sumB x) (sumB x) (sumB_byte x) (sumB_byte x) (sumB_len x) (sumB_len x)
  rw [decide_eq_true rfl] at h
  exact h


end Go.Proofs.Ytjcofbjfolaoiaa.ShaSums
