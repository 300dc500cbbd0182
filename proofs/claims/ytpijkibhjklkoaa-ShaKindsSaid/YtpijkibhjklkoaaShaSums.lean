/- ShaSums: the law's walk. -/
import Derived.Test.YtpijkibhjklkoaaShaAwake
import Derived.Test.YtpijkibhjklkoaaEqArr
namespace Go.Proofs.Ytpijkibhjklkoaa.ShaSums
set_option linter.unusedVariables false
set_option linter.unusedSimpArgs false
open Go Go.RowKit Go.Proofs.Ytpijkibhjklkoaa.Mem Go.Proofs.Ytpijkibhjklkoaa.Sum Go.Proofs.Ytpijkibhjklkoaa.RefWith Go.Proofs.Ytpijkibhjklkoaa.RefSum Go.Proofs.Ytpijkibhjklkoaa.ShaAwake

theorem sumB_byte (x : List Int) : Byte (sumB x) := by
  intro y hy
  unfold sumB at hy
  obtain ⟨j, _, h⟩ := List.mem_flatMap.1 hy
  exact Put32.bytes4_byte _ y h
theorem sum_same (W : World) (x : List Int) : (Op.equalIn 10000 44 (.agg (sumA x)) (.agg (sumA x))).run Try.prog W = .ok true W := by
  have h := run_eq_ints (P := Try.prog) W 44 5 32 uArr32 Try.underlying5 info8 (sumB x) (sumB x) (sumB_byte x) (sumB_byte x) (sumB_len x) (sumB_len x)
  rw [decide_eq_true rfl] at h
  exact h
set_option maxHeartbeats 400000 in
set_option maxRecDepth 100000 in
theorem far (A : Option Addr) (n c : Nat) (w : World) (h : 400 < n) :
    Calls Try.prog 8 #[.slice A n c] w fun e w' => e = .returned (.bool true) ∧ Below w.heap.size w w' := by
  have d3 : decide (400 < (n : Int)) = true := decide_eq_true (by omega)
  have d3' : decide (400 < n) = true := decide_eq_true (by omega)
  clear h
  go_enter Try.func8, Try.ntmps8
  go_wp2_with (go_at_call 29; refine (awake_true _).mono ?_; rintro e w1 ⟨rfl, hb⟩)
  go_ret
  exact ⟨rfl, hb⟩

set_option maxHeartbeats 400000 in
set_option maxRecDepth 100000 in
theorem near (x : List Int) (hx : Byte x) (A : Option Addr) (n c : Nat) (w : World) (hn : n ≤ 400) (h0 : Rd .u8 w A n c x) :
    Calls Try.prog 8 #[.slice A n c] w fun e w' => e = .returned (.bool true) ∧ Below w.heap.size w w' := by
  have d3 : decide (400 < (n : Int)) = false := decide_eq_false (by omega)
  have d3' : decide (400 < n) = false := decide_eq_false (by omega)
  obtain ⟨V, hV⟩ : ∃ V, V = sumA x := ⟨_, rfl⟩
  have heq := fun W => sum_same W x
  rw [← hV] at heq
  have HV := As.mk hV
  have HX := As.mk hx
  have HN := As.mk hn
  have H0 := As.mk h0
  clear hV hx hn h0
  go_enter Try.func8, Try.ntmps8
  go_wp2_with (first
    | (go_at_call 29; refine (awake_true _).mono ?_; rintro e w1 ⟨rfl, hb⟩; have HB1 := As.mk hb; have H1 := As.mk (H0.out.below hb); clear hb)
    | (go_at_call 30; refine (sum_one x HX.out A n c _ w1 (Nat.le_trans HN.out (by decide)) H1.out).mono ?_; rintro e w2 ⟨rfl, hb⟩; rw [← HV.out]; have HB2 := As.mk (Below.trans HB1.out (hb.mono HB1.out.size)); have H2 := As.mk (H1.out.below hb); clear hb)
    | (go_at_call 31; refine (sum_ref x HX.out A n c w2 (Nat.le_trans HN.out (by decide)) H2.out).mono ?_; rintro e w3 ⟨rfl, hb⟩; rw [← HV.out]; have HB3 := As.mk (Below.trans HB2.out (hb.mono HB2.out.size)); clear hb))
  go_ret
  exact ⟨rfl, HB3.out⟩

theorem walk (A : Option Addr) (n c : Nat) (x : List Int) (w : World) (h0 : Rd .u8 w A n c x) (hx : ∀ v ∈ x, (Lit.int .u8 v).wf = true) (hn : n * 1 ≤ 140737488351232) :
    Calls Try.prog 8 #[.slice A n c] w fun e w' => e = .returned (.bool true) ∧ Below w.heap.size w w' := by
  by_cases h : 400 < n
  · exact far A n c w h
  · exact near x (byte_of hx) A n c w (by omega) h0
end Go.Proofs.Ytpijkibhjklkoaa.ShaSums
