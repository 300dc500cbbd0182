/- sha.Pad. -/
import Derived.Test.YteajblfkfmopfaaPut32
import Derived.Test.YteajblfkfmopfaaZeros
namespace Go.Proofs.Yteajblfkfmopfaa.Pad
set_option linter.unusedVariables false
set_option linter.unusedSimpArgs false
open Go Go.RowKit Go.Proofs.Yteajblfkfmopfaa.Mem Go.Proofs.Yteajblfkfmopfaa.Put32

def padZ (n : Nat) : Nat := (119 - n % 64) % 64
/-- what stands behind n bytes -/
def pad (n : Nat) : List Int := (128 :: List.replicate (padZ n) 0) ++ bytes8 (n * 8)
theorem bytes8_len (v : Nat) : (bytes8 v).length = 8 := rfl
theorem pad_len (n : Nat) : (pad n).length = padZ n + 9 := by
  simp only [pad, List.length_append, List.length_cons, List.length_replicate, bytes8_len]
theorem padZ_le (n : Nat) : padZ n ≤ 63 := by unfold padZ; omega
theorem pad_mod (n : Nat) : (n + (pad n).length) % 64 = 0 := by rw [pad_len]; unfold padZ; omega
theorem pad_byte (n : Nat) : Byte (pad n) := by
  intro x hx
  simp only [pad, List.mem_append, List.mem_cons] at hx
  rcases hx with (rfl | h) | h
  · omega
  · rw [List.eq_of_mem_replicate h]; omega
  · exact bytes8_byte _ x h

set_option maxHeartbeats 400000 in
set_option maxRecDepth 100000 in
theorem bad (n : Int) (w : World) (h : n < 0 ∨ 1099511627776 < n) :
    Calls Try.prog 221 #[.int .i64 n] w fun e w' => e = .returned (.slice none 0 0) ∧ w = w' := by
  by_cases h0 : n < 0
  · have d0 : decide (n < 0) = true := decide_eq_true h0
    clear h h0
    go_enter Try.func221, Try.ntmps221
    go_wp2
    go_ret
    exact ⟨rfl, rfl⟩
  · have d0 : decide (n < 0) = false := decide_eq_false h0
    have d1 : decide (1099511627776 < n) = true := decide_eq_true (by omega)
    clear h h0
    go_enter Try.func221, Try.ntmps221
    go_wp2
    go_ret
    exact ⟨rfl, rfl⟩

set_option maxHeartbeats 400000 in
set_option maxRecDepth 100000 in
theorem ok (n : Nat) (w : World) (h : n ≤ 1099511627776) :
    Calls Try.prog 221 #[.int .i64 n] w fun e w' => ∃ A c, e = .returned (.slice A (padZ n + 9) c) ∧ Below w.heap.size w w' ∧ OwnAt w' w.heap.size (.slice A (padZ n + 9) c) (padZ n + 9) ((pad n).map (Value.int .u8)) := by
  have d0 : decide ((n : Int) < 0) = false := decide_eq_false (by omega)
  have d1 : decide (1099511627776 < (n : Int)) = false := decide_eq_false (by omega)
  obtain ⟨z, hz⟩ : ∃ z : Nat, z = padZ n := ⟨_, rfl⟩
  obtain ⟨v, hv⟩ : ∃ v : Nat, v = n * 8 := ⟨_, rfl⟩
  have HP : As (pad n = (128 :: List.replicate z 0) ++ bytes8 v) := ⟨by rw [hz, hv]; rfl⟩
  have HZ := As.mk (show z ≤ 63 by have := padZ_le n; omega)
  have HV := As.mk (show v < 18446744073709551616 by omega)
  rw [← hz]
  have e1 : (119 - (n : Int) % 64) % 64 = (z : Int) := by rw [hz]; unfold padZ; omega
  have E1 := As.mk e1
  clear e1
  have e2 : IntKind.u64.wrap (n : Int) = (n : Int) := by
    have := Go.Proofs.Yteajblfkfmopfaa.Bits.wrap_u .u64 rfl n (by show n < 18446744073709551616; omega)
    exact this
  have e3 : IntKind.u64.wrap ((n : Int) * 8) = (v : Int) := by
    have := Go.Proofs.Yteajblfkfmopfaa.Bits.wrap_u .u64 rfl v (by show v < 18446744073709551616; omega)
    rw [← this, hv]; rfl
  clear h hz hv
  go_enter Try.func221, Try.ntmps221
  go_wp2_with (first
    | (go_at_call 238; (with_reducible refine (put64 v HV.out _).mono ?_); rintro e w2 ⟨A2, c2, rfl, hb, ho⟩; have HB2 := As.mk (below_step HB1.out hb); have HO1b := As.mk (HO1.out.below hb); have HO2 := As.mk ho; clear hb ho)
    | (at_builtin; refine wpList_app_zeros rfl _ _ 37 3 rfl w.heap.size 5 (.int .u8 0) 1 .i64 .i64 Try.underlying37 Try.underlying3 CloneB.info rfl rfl _ 1 [.int .u8 128] rfl (OwnAt.lit w 5 [.int .u8 128] (by decide)) z (congrArg (Value.int .i64) E1.out) (by decide) ?c1 ?c2 ?c3 (below_alloc (Below.refl _ w) _) (Nat.le_refl _) ?_; (case c1 => have := HZ.out; unfold maxLen; omega); (case c2 => have := HZ.out; omega); (case c3 => simp); intro v1 w1 hown hg hat hb1; obtain ⟨A1, c1, rfl⟩ := hown.slice; have HB1 := As.mk hb1; have HO1 := As.mk hown; clear hown hg hat hb1)
    | (at_builtin; refine wpList_app2 rfl _ _ 37 rfl w.heap.size 5 (.int .u8 0) 1 Try.underlying37 CloneB.info rfl _ (1 + z) _ rfl HO1b.out _ 8 _ rfl (Src.own HO2.out (ints_oneCell .u8 _)) ?c4 ?c5 ?c6 HB2.out (Nat.le_refl _) ?_; (case c4 => have := HZ.out; unfold maxLen; omega); (case c5 => have := HZ.out; omega); (case c6 => exact HB2.out.size); intro v3 w3 hown hg hat hb3; obtain ⟨A3, c3, rfl⟩ := hown.slice; have HB3 := As.mk hb3; have HO3 := As.mk hown; clear hown hg hat hb3))
  clear e2 e3
  go_ret
  have h := HO3.out
  rw [show 1 + z + 8 = z + 9 by omega] at h ⊢
  refine ⟨_, _, rfl, HB3.out, ?_⟩
  rw [HP.out]
  simpa using h

end Go.Proofs.Yteajblfkfmopfaa.Pad
