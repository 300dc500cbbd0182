/- KdfNumbers: the law's walk. -/
import Derived.Test.YtlfomomgkjknhaaDerive
import Derived.Test.YtlfomomgkjknhaaRefSame
namespace Go.Proofs.Ytlfomomgkjknhaa.KdfNumbers
set_option linter.unusedVariables false
set_option linter.unusedSimpArgs false
open Go Go.RowKit Go.Proofs.Ytlfomomgkjknhaa.Mem Go.Proofs.Ytlfomomgkjknhaa.Put32 Go.Proofs.Ytlfomomgkjknhaa.Pad Go.Proofs.Ytlfomomgkjknhaa.Sum Go.Proofs.Ytlfomomgkjknhaa.Hmac Go.Proofs.Ytlfomomgkjknhaa.Parts Go.Proofs.Ytlfomomgkjknhaa.Put Go.Proofs.Ytlfomomgkjknhaa.Derive

set_option maxHeartbeats 400000 in
theorem awake_true (w : World) : Calls Try.prog 36 #[] w fun e w' => e = .returned (.bool true) ∧ Below w.heap.size w w' := by
  have HK : As (Rd .u8 (w.alloc (.cells #[.int .u8 1] 5)) (some ⟨w.heap.size, 0, none⟩) 1 1 [1]) := ⟨Rd.lit w .u8 5 [1] (by decide)⟩
  have HB := As.mk (below_alloc (Below.refl w.heap.size w) (.cells #[.int .u8 1] 5))
  go_enter Try.func36, Try.ntmps36
  go_wp2_with (go_at_call 40; refine As.out ?_)
  refine As.mk ?_
  refine (derive_ok [1] [] (some ⟨w.heap.size, 0, none⟩) 1 1 ⟨#[97]⟩ 40 none 0 0 _ (by intro y hy; simp at hy; omega) (by decide) HK.out (by decide) (by decide) (by decide) (by simp) (by decide) ⟨rfl, Nat.le_refl _, by decide, fun h => by omega⟩).mono ?_
  rintro e w1 ⟨A', c', rfl, _, hb⟩
  have HB1 := As.mk (below_step HB.out hb)
  clear hb
  go_wp2
  go_ret
  exact ⟨rfl, HB1.out⟩
set_option maxHeartbeats 400000 in
theorem walk (n : Int) (w : World) (hwf : (Lit.int .i64 n).wf = true) :
    Calls Try.prog 8 #[.int .i64 n] w fun e w' => e = .returned (.bool true) ∧ Below w.heap.size w w' := by
  by_cases h : n < 0 ∨ 4611686018427387904 < n
  · have H := As.mk h
    rcases h with h | h
    all_goals
      go_enter Try.func8, Try.ntmps8
      go_wp2_with (first
        | (go_at_call 36; (with_reducible refine (awake_true _).mono ?_); rintro e w1 ⟨rfl, hb⟩; have HB1 := As.mk hb; clear hb)
        | (go_at_call 37; (with_reducible refine (number_bad n H.out _).mono ?_); rintro e w2 ⟨rfl, rfl⟩))
      go_ret
      exact ⟨rfl, HB1.out⟩
  · obtain ⟨n, rfl⟩ := Int.eq_ofNat_of_zero_le (show 0 ≤ n by omega)
    have hn : (n : Int) ≤ 4611686018427387904 := by omega
    have HN := As.mk (show n ≤ 4611686018427387904 by omega)
    have k2 : IntKind.u64.wrap (n : Int) = (n : Int) := Go.Proofs.Ytlfomomgkjknhaa.Bits.wrap_u .u64 rfl n (by show n < 18446744073709551616; omega)
    clear h hwf
    go_enter Try.func8, Try.ntmps8
    go_wp2_with (first
      | (go_at_call 36; (with_reducible refine (awake_true _).mono ?_); rintro e w1 ⟨rfl, hb⟩; have HB1 := As.mk hb; clear hb)
      | (go_at_call 37; (with_reducible refine (number_ok n HN.out _).mono ?_); rintro e w2 ⟨A, c, rfl, hb, ho⟩; have HR := As.mk (own_rd_at ho); have HB2 := As.mk (below_step HB1.out hb); clear hb ho)
      | (go_at_call 38; (with_reducible refine (RefPad.put64 n (by have := HN.out; omega) _).mono ?_); rintro e w3 ⟨A2, c2, rfl, hb, ho⟩; have HR2 := As.mk (own_rd_at ho); have HR3 := As.mk (HR.out.below hb); have HB3 := As.mk (below_step HB2.out hb); clear hb ho)
      | (go_at_call 33; (with_reducible refine (RefSame.same_any (bytes8 n) (bytes8 n) _ _ 8 8 _ _ _ true (by decide) (by simp) HR3.out HR2.out).mono ?_); rintro e w4 ⟨rfl, nd, rfl⟩))
    go_ret
    exact ⟨rfl, below_drewN HB3.out _⟩
end Go.Proofs.Ytlfomomgkjknhaa.KdfNumbers
