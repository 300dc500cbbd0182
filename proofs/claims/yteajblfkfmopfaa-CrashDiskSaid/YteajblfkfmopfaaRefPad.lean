/- chatelaineref01.Put64, chatelaineref05.Pad. -/
import Derived.Test.YteajblfkfmopfaaMem4
namespace Go.Proofs.Yteajblfkfmopfaa.RefPad
set_option linter.unusedVariables false
set_option linter.unusedSimpArgs false
open Go Go.RowKit Go.Proofs.Yteajblfkfmopfaa.Mem Go.Proofs.Yteajblfkfmopfaa.W32 Go.Proofs.Yteajblfkfmopfaa.Turns Go.Proofs.Yteajblfkfmopfaa.Put32 Go.Proofs.Yteajblfkfmopfaa.Pad

def sc (i : Nat) : Nat := 72057594037927936 / 256 ^ i
theorem sc_succ (i : Nat) : sc (i + 1) = sc i / 256 := by unfold sc; rw [Nat.pow_succ, Nat.div_div_eq_div_mul]
theorem sc_pos (i : Nat) (h : i < 8) : 0 < sc i := by
  revert i; decide
theorem sc_le (i : Nat) : sc i ≤ 72057594037927936 := Nat.div_le_self _ _
theorem byte_at (v i : Nat) (hv : v < 18446744073709551616) (h : i < 8) : (bytes8 v)[i]? = some ((v / sc i % 256 : Nat) : Int) := by
  rcases i with _ | _ | _ | _ | _ | _ | _ | _ | i
  · simp [bytes8, bytes4, sc] <;> omega
  · simp [bytes8, bytes4, sc] <;> omega
  · simp [bytes8, bytes4, sc] <;> omega
  · simp [bytes8, bytes4, sc] <;> omega
  · simp [bytes8, bytes4, sc] <;> omega
  · simp [bytes8, bytes4, sc] <;> omega
  · simp [bytes8, bytes4, sc] <;> omega
  · simp [bytes8, bytes4, sc] <;> omega
  · omega
theorem byte_take (v i : Nat) (hv : v < 18446744073709551616) (h : i < 8) : ((bytes8 v).take (i + 1)).map (Value.int .u8) = ((bytes8 v).take i).map (Value.int .u8) ++ [.int .u8 ((v / sc i % 256 : Nat) : Int)] := by
  rw [List.take_add_one, byte_at v i hv h, List.map_append]; rfl

set_option maxHeartbeats 400000 in
set_option maxRecDepth 100000 in
theorem put64 (v : Nat) (hv : v < 18446744073709551616) (w : World) :
    Calls Try.prog 251 #[.int .u64 (v : Int)] w fun e w' => ∃ A c, e = .returned (.slice A 8 c) ∧ Below w.heap.size w w' ∧ OwnAt w' w.heap.size (.slice A 8 c) 8 ((bytes8 v).map (Value.int .u8)) := by
  have HV := As.mk hv
  clear hv
  go_enter Try.func251, Try.ntmps251
  go_wp2
  go_loopg [3, 4, 5] 8 (fun kq v3 v4 v5 wr => ∃ (i : Nat) (A : Option Addr) (c : Nat), i + kq = 8 ∧ v3 = .slice A i c ∧ v4 = .int .u64 (sc i : Int) ∧ v5 = .int .i64 i ∧ As (OwnAt wr w.heap.size (.slice A i c) i (((bytes8 v).take i).map (Value.int .u8))) ∧ As (Below w.heap.size w wr))
  case atStart => exact ⟨0, none, 0, by omega, rfl, rfl, rfl, ⟨OwnAt.nil _ _⟩, ⟨Below.refl _ _⟩⟩
  case round =>
    obtain ⟨i, A, c, hi, rfl, rfl, rfl, HO, HB⟩ := hrel
    have HI := As.mk hi
    clear hi
    by_cases hlt : i < 8
    · have c0 : decide ((i : Int) < 8) = true := decide_eq_true (by omega)
      have c1 : decide (i < 8) = true := decide_eq_true hlt
      have hw : wrap64 ((i : Int) + 1) = ((i + 1 : Nat) : Int) := wrap_up (by omega)
      obtain ⟨d, hd⟩ : ∃ d, d = sc i := ⟨_, rfl⟩
      have HD := As.mk hd
      have hd0 : 0 < d := by rw [hd]; exact sc_pos i hlt
      have hd1 : d ≤ 72057594037927936 := by rw [hd]; exact sc_le i
      have HD1 := As.mk hd1
      rw [← hd]
      have n0 : ¬ ((d : Int) = 0) := by omega
      have n1 : ((d : Int) == 0) = false := beq_eq_false_iff_ne.2 n0
      have n2 : ¬ (d = 0) := by omega
      have HLT := As.mk hlt
      clear hd hd0 hd1
      go_wp2_with (at_builtin; refine wpList_app_one rfl _ _ 37 rfl w.heap.size 5 (.int .u8 0) 1 Try.underlying37 CloneB.info rfl _ i _ rfl HO.out _ _ rfl rfl ?c1 ?c2 HB.out.size HB.out (Nat.le_refl _) ?_; (case c1 => have := HLT.out; unfold maxLen; omega); (case c2 => have := HLT.out; omega); intro A1 c1 w1 hown hg hat hb; have HO1 := As.mk hown; have HB1 := As.mk hb; clear hown hg hat hb)
      go_roundg (8 - (i + 1))
      case measure => have := HI.out; omega
      case rel =>
        have ho := HO1.out
        refine ⟨i + 1, A1, c1, by have := HI.out; omega, rfl, ?_, by go_num, ⟨?_⟩, HB1⟩
        · rw [sc_succ, ← HD.out]; have := HD1.out; have e := Go.Proofs.Yteajblfkfmopfaa.Bits.wrap_u .u64 rfl (d / 256) (by show d / 256 < 18446744073709551616; omega); exact congrArg (Value.int .u64) e
        · rw [byte_take v i HV.out hlt, ← HD.out]
          have e := Go.Proofs.Yteajblfkfmopfaa.Bits.wrap_u .u64 rfl (v / d) (Nat.lt_of_le_of_lt (Nat.div_le_self _ _) HV.out)
          have e2 : (IntKind.u64.wrap ((v : Int) / (d : Int))).tmod 256 % 256 = ((v / d % 256 : Nat) : Int) := by
            rw [← Int.natCast_ediv, e, Int.tmod_eq_emod_of_nonneg (Int.natCast_nonneg _)]
            omega
          rw [← e2]
          exact ho
    · have c0 : decide ((i : Int) < 8) = false := decide_eq_false (by omega)
      have c1 : decide (i < 8) = false := decide_eq_false hlt
      obtain rfl : i = 8 := by have := HI.out; omega
      go_wp2
      go_ret
      refine ⟨_, _, rfl, HB.out, ?_⟩
      have := HO.out
      rwa [List.take_of_length_le (by rw [bytes8_len]; omega)] at this
theorem pad_any (n : Nat) (w : World) (h : n ≤ 1099511627776) :
    Calls Try.prog 239 #[.int .i64 n] w fun e w' => ∃ A c, e = .returned (.slice A (padZ n + 9) c) ∧ Below w.heap.size w w' ∧ OwnAt w' w.heap.size (.slice A (padZ n + 9) c) (padZ n + 9) ((pad n).map (Value.int .u8)) := by
  have HN := As.mk h
  clear h
  go_enter Try.func239, Try.ntmps239
  go_wp2
  go_loopg [3] (padZ n) (fun kq v4 wr => ∃ (i : Nat) (A : Option Addr) (c : Nat), i + kq = padZ n ∧ v4 = .slice A (i + 1) c ∧ As (OwnAt wr w.heap.size (.slice A (i + 1) c) (i + 1) ((128 :: List.replicate i 0).map (Value.int .u8))) ∧ As (Below w.heap.size w wr))
  case atStart => exact ⟨0, some ⟨w.heap.size, 0, none⟩, 1, by omega, rfl, ⟨OwnAt.lit w 5 [.int .u8 128] (by decide)⟩, ⟨below_alloc (Below.refl _ _) _⟩⟩
  case round =>
    obtain ⟨i, A, c, hi, rfl, HO, HB⟩ := hrel
    have HI := As.mk hi
    have hz := padZ_le n
    have HZ := As.mk hz
    obtain ⟨m, hm⟩ : ∃ m : Nat, m = n + (i + 1) := ⟨_, rfl⟩
    have HE1 := As.mk (show IntKind.i64.wrap ((n : Int) + ((i : Int) + 1)) = (m : Int) by rw [IntKind.wrap_i64]; have := HN.out; omega)
    have HE2 := As.mk (show wrap64 ((n : Int) + ((i : Int) + 1)) = (m : Int) by unfold wrap64; have := HN.out; omega)
    have htm : (m : Int).tmod 64 = (m : Int) % 64 := Int.tmod_eq_emod_of_nonneg (Int.natCast_nonneg _)
    by_cases hlt : i < padZ n
    · have c0 : ((m : Int) % 64 != 56) = true := by rw [bne_iff_ne]; unfold padZ at hlt; omega
      have c2 : ((m : Int).tmod 64 != 56) = true := by rw [htm]; exact c0
      have HLT := As.mk hlt
      clear hi hm hlt hz htm
      have e1 := HE1.out
      have e2 := HE2.out
      go_wp2_with (at_builtin; clear e1 e2; refine wpList_app_one rfl _ _ 37 rfl w.heap.size 5 (.int .u8 0) 1 Try.underlying37 CloneB.info rfl _ (i + 1) _ rfl HO.out _ _ rfl rfl ?c1 ?c2 HB.out.size HB.out (Nat.le_refl _) ?_; (case c1 => have := HZ.out; have := HLT.out; unfold maxLen; omega); (case c2 => have := HZ.out; have := HLT.out; omega); intro A1 c1 w1 hown hg hat hb; have HO1 := As.mk hown; have HB1 := As.mk hb; clear hown hg hat hb)
      go_roundg (padZ n - (i + 1))
      case measure => have := HI.out; have := HLT.out; omega
      case rel =>
        refine ⟨i + 1, A1, c1, by have := HI.out; have := HLT.out; omega, rfl, ⟨?_⟩, HB1⟩
        have := HO1.out
        rw [List.replicate_succ', ← List.cons_append, List.map_append]
        exact this
    · have hz2 : i = padZ n := by omega
      have c0 : ((m : Int) % 64 != 56) = false := by rw [bne_eq_false_iff_eq]; unfold padZ at hz2; omega
      have c2 : ((m : Int).tmod 64 != 56) = false := by rw [htm]; exact c0
      have HZ2 := As.mk hz2
      obtain ⟨v, hv⟩ : ∃ v : Nat, v = n * 8 := ⟨_, rfl⟩
      have HV := As.mk hv
      have HVL := As.mk (show v < 18446744073709551616 by have := HN.out; omega)
      have k2 : IntKind.u64.wrap (n : Int) = (n : Int) := Go.Proofs.Yteajblfkfmopfaa.Bits.wrap_u .u64 rfl n (by show n < 18446744073709551616; have := HN.out; omega)
      have k3 : IntKind.u64.wrap ((n : Int) * 8) = (v : Int) := by
        have := Go.Proofs.Yteajblfkfmopfaa.Bits.wrap_u .u64 rfl v (by show v < 18446744073709551616; exact HVL.out)
        rw [← this, hv]; rfl
      have HI64 := As.mk (show i ≤ 63 by omega)
      clear hi hm hlt hz htm hz2 hv
      have e1 := HE1.out
      have e2 := HE2.out
      go_wp2_with (first
        | (go_at_call 251; clear e1 e2 k2 k3; (with_reducible refine (put64 v HVL.out _).mono ?_); rintro e w2 ⟨A2, c2, rfl, hb, ho⟩; have HB2 := As.mk (below_step HB.out hb); have HO1 := As.mk (HO.out.below hb); have HO2 := As.mk ho; have HS := As.mk hb.size; clear hb ho)
        | (at_builtin; refine wpList_app2 rfl _ _ 37 rfl w.heap.size 5 (.int .u8 0) 1 Try.underlying37 CloneB.info rfl _ (i + 1) _ rfl HO1.out _ 8 _ rfl (Src.own HO2.out (ints_oneCell .u8 _)) ?c4 ?c5 ?c6 HB2.out (Nat.le_refl _) ?_; (case c4 => have := HI64.out; unfold maxLen; omega); (case c5 => have := HI64.out; omega); (case c6 => exact HB2.out.size); intro v3 w3 hown hg hat hb3; obtain ⟨A3, c3, rfl⟩ := hown.slice; have HB3 := As.mk hb3; have HO3 := As.mk hown; clear hown hg hat hb3))
      go_ret
      have h := HO3.out
      rw [show i + 1 + 8 = padZ n + 9 by rw [HZ2.out]] at h ⊢
      refine ⟨_, _, rfl, HB3.out, ?_⟩
      rw [show pad n = (128 :: List.replicate i 0) ++ bytes8 v by rw [pad, ← HV.out, ← HZ2.out], List.map_append]
      exact h
end Go.Proofs.Yteajblfkfmopfaa.RefPad
