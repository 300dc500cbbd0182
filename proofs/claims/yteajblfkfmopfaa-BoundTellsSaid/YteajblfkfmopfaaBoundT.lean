/- BoundTells: the walk, joined, in the shape of the row. -/
import Derived.Test.YteajblfkfmopfaaBoundL
namespace Go.Proofs.Yteajblfkfmopfaa.Bound
set_option linter.unusedVariables false
set_option linter.unusedSimpArgs false
open Go Go.RowKit Go.Proofs.Yteajblfkfmopfaa.Mem
theorem tells_walk (s t p d k : Int) (A : Option Addr) (n c : Nat) (l : List Int) (w : World) (_ : (Lit.int .i64 k).wf = true) (h : Rd .i64 w A n c l) (_ : ∀ i ∈ l, (Lit.int .i64 i).wf = true) (_ : n * 8 ≤ 140737488351232) :
    Calls Try.prog 3 #[.agg #[.int .i64 s, .int .i64 t, .int .i64 p, .int .i64 d], .int .i64 k, .slice A n c] w fun e w' => e = .returned (.bool true) ∧ Below w.heap.size w w' := by
  by_cases hn : n ≤ 100
  · exact bt_near s t p d k l A n c hn w h
  · exact bt_far s t p d k A n c (by omega) w
end Go.Proofs.Yteajblfkfmopfaa.Bound
