/- QuotaJoins: all cases. -/
import Derived.Test.YtcbfdofeedlajaaQuotaO
namespace Go.Proofs.Ytcbfdofeedlajaa.QuotaW
set_option linter.unusedVariables false
set_option linter.unusedSimpArgs false
open Go Go.RowKit Go.Sort Go.Proofs.Ytcbfdofeedlajaa.Mem Go.Proofs.Ytcbfdofeedlajaa.Flat Go.Proofs.Ytcbfdofeedlajaa.QuotaP

theorem joins_any (ts : List Tn) (A : Option Addr) (n c : Nat) (t : Tn) (d : Int) (w : World) (h : RdT Tn.row 35 w A n c ts) :
    Calls Try.prog 6 #[.slice A n c, .agg t.row.toArray, .int .i64 d] w fun e w' => e = .returned (.bool true) ∧ Below w.heap.size w w' := by
  by_cases hn : n ≤ 40
  · rcases Bool.eq_false_or_eq_true (rightB ts) with hr | hr
    · by_cases hb : t.id < 1 ∨ 16 < t.id ∨ t.q < 0 ∨ 4096 < t.q ∨ t.u ≠ 0 ∨ d < 0 ∨ 4096 < d
      · exact joins_arg ts A n c t.row t.id t.q t.u d (RowOf.of t) w hn h hr hb
      · have hg : 1 ≤ t.id ∧ t.id ≤ 16 ∧ 0 ≤ t.q ∧ t.q ≤ 4096 ∧ t.u = 0 ∧ 0 ≤ d ∧ d ≤ 4096 := by omega
        rcases first_or t.id ts with ⟨j, hj, hfi⟩ | hno
        · exact joins_twice ts A n c t.row t.id t.q t.u d (RowOf.of t) w hn h hr hg j ⟨by rw [← h.len]; exact hj, hfi⟩
        · have hno2 : ∀ k, k < n → (nthT ts k).id ≠ t.id := fun k hk => hno k (by rw [h.len]; exact hk)
          by_cases hf : d < tot_q ts + t.q
          · exact joins_full ts A n c t.row t.id t.q t.u d (RowOf.of t) w hn h hr hg hno2 hf
          · exact joins_ok ts A n c t.row t.id t.q t.u d (RowOf.of t) w hn h hr hg hno2 (by omega) t rfl rfl
    · exact joins_nr ts A n c t.row t.id t.q t.u d (RowOf.of t) w hn h hr
  · exact joins_far A n c t.row t.id t.q t.u d (RowOf.of t) w (by omega)
theorem joins_walk (A : Option Addr) (n c : Nat) (ts : List Tn) (t : Tn) (d : Int) (w : World) (h : RdT Tn.row 35 w A n c ts) (_ : (Lit.int .i64 d).wf = true) :
    Calls Try.prog 6 #[.slice A n c, .agg t.row.toArray, .int .i64 d] w fun e w' => e = .returned (.bool true) ∧ Below w.heap.size w w' :=
  joins_any ts A n c t d w h
end Go.Proofs.Ytcbfdofeedlajaa.QuotaW
