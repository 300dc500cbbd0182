/- bound.Bytes, Draws. -/
import Derived.Test.YteajblfkfmopfaaBoundE
import Derived.Test.YteajblfkfmopfaaFlatStep
namespace Go.Proofs.Yteajblfkfmopfaa.Bound
set_option linter.unusedVariables false
set_option linter.unusedSimpArgs false
open Go Go.RowKit Go.Proofs.Yteajblfkfmopfaa.Mem Go.Proofs.Yteajblfkfmopfaa.Flat Go.Proofs.Yteajblfkfmopfaa.Geo Go.Proofs.Yteajblfkfmopfaa.LayA

/-! ### spaces -/
def okX (x : Int) : Bool := decide (1 ≤ x) && decide (x ≤ 4096)
theorem okX_iff (x : Int) : okX x = true ↔ 1 ≤ x ∧ x ≤ 4096 := by simp [okX]
def okL (l : List Int) (n : Nat) : Bool := (List.range n).all fun j => okX (nth l j)
theorem okL_iff (l : List Int) (n : Nat) : okL l n = true ↔ ∀ j, j < n → okX (nth l j) = true := by simp [okL, List.all_eq_true]
theorem okL_no {l : List Int} {n j : Nat} (hj : j < n) (h : okX (nth l j) = false) : okL l n = false := by
  rcases Bool.eq_false_or_eq_true (okL l n) with h1 | h1
  · have := (okL_iff l n).1 h1 j hj; rw [h] at this; cases this
  · exact h1
theorem okL_first {l : List Int} : ∀ n, okL l n = false → ∃ j, j < n ∧ okX (nth l j) = false ∧ ∀ k, k < j → okX (nth l k) = true
  | 0, h => by simp [okL] at h
  | n + 1, h => by
    rcases Bool.eq_false_or_eq_true (okL l n) with h1 | h1
    · refine ⟨n, by omega, ?_, fun k hk => (okL_iff l n).1 h1 k hk⟩
      rcases Bool.eq_false_or_eq_true (okX (nth l n)) with h2 | h2
      · have : okL l (n + 1) = true := by
          rw [okL_iff]
          intro j hj
          rcases Nat.lt_succ_iff_lt_or_eq.1 hj with h3 | rfl
          · exact (okL_iff l n).1 h1 j h3
          · exact h2
        rw [h] at this; cases this
      · exact h2
    · obtain ⟨j, hj, h2, h3⟩ := okL_first n h1
      exact ⟨j, by omega, h2, h3⟩
/-- bytes behind i spaces -/
def accB (b : Nat) (l : List Int) : Nat → Nat
  | 0 => b
  | i + 1 => accB b l i + 40 * totN (nth l i).toNat + 32 * (nth l i).toNat
theorem acc_le {b : Nat} {l : List Int} : ∀ i, (∀ k, k < i → okX (nth l k) = true) → accB b l i ≤ b + 1114352 * i
  | 0, _ => by simp [accB]
  | i + 1, h => by
    have ih := acc_le (b := b) i fun k hk => h k (by omega)
    have h1 := (okX_iff _).1 (h i (by omega))
    have h2 := tot_le (n := (nth l i).toNat) (by omega)
    rw [accB]
    omega
theorem within_ok {n lo hi : Int} (h : lo ≤ n ∧ n ≤ hi) : (decide (lo ≤ n) && decide (n ≤ hi)) = true := by simp; exact h
theorem within_no {n lo hi : Int} (h : n < lo ∨ hi < n) : (decide (lo ≤ n) && decide (n ≤ hi)) = false := by
  rcases Bool.eq_false_or_eq_true (decide (lo ≤ n) && decide (n ≤ hi)) with h1 | h1
  · simp at h1; omega
  · exact h1
set_option maxHeartbeats 1000000 in
theorem bytes_zero (T E : Int) (A : Option Addr) (n c : Nat) (h : T < 0 ∨ 16 < T ∨ 64 < n ∨ E < 0 ∨ 1048576 < E) (w : World) :
    Calls Try.prog 25 #[.int .i64 T, .slice A n c, .int .i64 E] w fun e w' => e = .returned (.int .i64 0) ∧ w = w' := by
  by_cases h1 : T < 0 ∨ 16 < T
  · have HT := As.mk (within_no (n := T) (lo := 0) (hi := 16) h1)
    clear h h1
    go_enter Try.func25, Try.ntmps25
    go_wp2_with (go_at_call 94; (with_reducible refine (within_b T 0 16 false HT.out w).mono ?_); rintro e w1 ⟨rfl, rfl⟩)
    go_ret
    exact ⟨rfl, rfl⟩
  · have HT := As.mk (within_ok (n := T) (lo := 0) (hi := 16) (by omega))
    by_cases h2 : 64 < n
    · have d0 : decide (64 < (n : Int)) = true := decide_eq_true (by omega)
      have d1 : decide (64 < n) = true := decide_eq_true h2
      clear h h1 h2
      go_enter Try.func25, Try.ntmps25
      go_wp2_with (go_at_call 94; (with_reducible refine (within_b T 0 16 true HT.out w).mono ?_); rintro e w1 ⟨rfl, rfl⟩)
      go_ret
      exact ⟨rfl, rfl⟩
    · have d0 : decide (64 < (n : Int)) = false := decide_eq_false (by omega)
      have d1 : decide (64 < n) = false := decide_eq_false h2
      have HE := As.mk (within_no (n := E) (lo := 0) (hi := 1048576) (by omega))
      clear h h1 h2
      go_enter Try.func25, Try.ntmps25
      go_wp2_with (first
        | (go_at_call 94; (with_reducible refine (within_b T 0 16 true HT.out w).mono ?_); rintro e w1 ⟨rfl, rfl⟩)
        | (go_at_call 94; (with_reducible refine (within_b E 0 1048576 false HE.out w).mono ?_); rintro e w1 ⟨rfl, rfl⟩))
      go_ret
      exact ⟨rfl, rfl⟩
set_option maxHeartbeats 2000000 in
set_option maxRecDepth 100000 in
theorem bytes_any (l : List Int) (A : Option Addr) (n c V : Nat) (hn : n ≤ 64) (hV : (if okL l n = true then accB (225 + 54 * n) l n else 0) = V) (w : World) (h : Rd .i64 w A n c l) :
    Calls Try.prog 25 #[.int .i64 3, .slice A n c, .int .i64 9] w fun e w' => e = .returned (.int .i64 (V : Int)) ∧ Below w.heap.size w w' := by
  have HN := As.mk hn
  have H := As.mk h
  have HV := As.mk hV
  have HT := As.mk (within_ok (n := 3) (lo := 0) (hi := 16) (by decide))
  have HE := As.mk (within_ok (n := 9) (lo := 0) (hi := 1048576) (by decide))
  have d0 : decide (64 < (n : Int)) = false := decide_eq_false (by omega)
  have d1 : decide (64 < n) = false := decide_eq_false (by omega)
  have hn0 : (0 : Int) ≤ (n : Int) := by omega
  have hn1 : (n : Int) ≤ 64 := by omega
  clear hn h hV
  go_enter Try.func25, Try.ntmps25
  go_wp2_with (first
    | (go_at_call 94; (with_reducible refine (within_b 3 0 16 true HT.out w).mono ?_); rintro e w1 ⟨rfl, rfl⟩)
    | (go_at_call 94; (with_reducible refine (within_b 9 0 1048576 true HE.out w).mono ?_); rintro e w1 ⟨rfl, rfl⟩)
    | (go_at_call 93; (refine (sum_four 42 111 (54 * (n : Int)) 72 ((225 + 54 * n : Nat) : Int) (by omega) (by omega) (by omega) (by omega) (by omega) w).mono ?_); rintro e w1 ⟨rfl, hb⟩; have HB1 := As.mk hb; have H1 := As.mk (H.out.below hb); clear hb))
  clear hn0 hn1
  go_loopg [7, 34] n (fun kq v7 v34 wr => ∃ (i a : Nat), i + kq = n ∧ v7 = .int .i64 (a : Int) ∧ v34 = .int .i64 (i : Int) ∧ As (∀ k, k < i → okX (nth l k) = true) ∧ As (a = accB (225 + 54 * n) l i) ∧ As (Below w.heap.size w wr) ∧ As (Rd .i64 wr A n c l))
  case atStart => exact ⟨0, 225 + 54 * n, by omega, rfl, rfl, ⟨fun k hk => by omega⟩, ⟨rfl⟩, HB1, H1⟩
  case round =>
    obtain ⟨i, a, hi, rfl, rfl, HO, HA, HB, HR⟩ := hrel
    have HI := As.mk hi
    clear hi
    by_cases hlt : i < n
    · have c0 : decide ((i : Int) < (n : Int)) = true := decide_eq_true (by omega)
      have c1 : decide (i < n) = true := decide_eq_true hlt
      have lt' : (i : Int) < (n : Int) := by omega
      have hw : wrap64 ((i : Int) + 1) = ((i + 1 : Nat) : Int) := wrap_up (by have := HN.out; omega)
      obtain ⟨ad, ea, cc⟩ := HR.out.at i hlt
      cases ea
      have HLT := As.mk hlt
      have HAS : As (accB (225 + 54 * n) l (i + 1) = accB (225 + 54 * n) l i + 40 * totN (nth l i).toNat + 32 * (nth l i).toNat) := ⟨rfl⟩
      have HOK : As (okX (nth l i) = (decide (1 ≤ nth l i) && decide (nth l i ≤ 4096))) := ⟨rfl⟩
      obtain ⟨x, hx⟩ : ∃ x, nth l i = x := ⟨_, rfl⟩
      have HX := As.mk hx
      rw [hx] at cc HAS HOK
      clear hx hlt
      rcases Bool.eq_false_or_eq_true (okX x) with hk | hk
      · have HK := As.mk (HOK.out.symm.trans hk)
        have hxb := (okX_iff x).1 hk
        obtain ⟨m, rfl⟩ := Int.eq_ofNat_of_zero_le (show 0 ≤ x by omega)
        have HMB := As.mk (show 1 ≤ m ∧ m ≤ 4096 by omega)
        obtain ⟨T, hT⟩ : ∃ T, totN m = T := ⟨_, rfl⟩
        have HTT := As.mk hT
        have hTl := tot_le (n := m) (by omega)
        rw [hT] at hTl
        have hal := acc_le (b := 225 + 54 * n) i HO.out
        rw [← HA.out] at hal
        have HBD := As.mk (And.intro hTl (show a ≤ 80000000 by have := HN.out; have := HLT.out; omega))
        have m1 : (1 : Int) ≤ (m : Int) := by omega
        have m2 : (m : Int) ≤ 4096 := by omega
        have t1 : (0 : Int) ≤ (T : Int) := by omega
        have t2 : (T : Int) ≤ 24582 := by omega
        clear hk hxb hT hTl hal
        go_wp2_with (first
          | (go_at_call 94; (with_reducible refine (within_b (m : Int) 1 4096 true HK.out wr).mono ?_); rintro e w2 ⟨rfl, rfl⟩)
          | (go_at_call 95; (with_reducible refine (total_ok m T HMB.out HTT.out wr).mono ?_); rintro e w2 ⟨rfl, hb⟩; have HB2 := As.mk (below_step HB.out hb); have HR2 := As.mk (HR.out.below hb); clear hb)
          | (go_at_call 93; (refine (sum_three (a : Int) (40 * (T : Int)) (32 * (m : Int)) ((a + 40 * T + 32 * m : Nat) : Int) (by omega) (by have := HBD.out; omega) (by omega) (by omega) w2).mono ?_); rintro e w3 ⟨rfl, hb⟩; have HB3 := As.mk (below_step HB2.out hb); have HR3 := As.mk (HR2.out.below hb); clear hb))
        go_roundg (n - (i + 1))
        case measure => have := HI.out; have := HLT.out; omega
        case rel =>
          refine ⟨i + 1, a + 40 * T + 32 * m, by have := HI.out; have := HLT.out; omega, rfl, by go_num, ⟨fun k hk => ?_⟩, ⟨?_⟩, HB3, HR3⟩
          · rcases Nat.lt_succ_iff_lt_or_eq.1 hk with h | rfl
            · exact HO.out k h
            · rw [HX.out, okX_iff]; have := HMB.out; omega
          · rw [HAS.out, ← HA.out, show ((m : Nat) : Int).toNat = m by omega, HTT.out]
      · have HK := As.mk (HOK.out.symm.trans hk)
        have HV0 : As (V = 0) := ⟨by rw [← HV.out, if_neg (by rw [okL_no HLT.out (by rw [HX.out]; exact hk)]; decide)]⟩
        clear hk
        go_wp2_with (go_at_call 94; (with_reducible refine (within_b x 1 4096 false HK.out wr).mono ?_); rintro e w2 ⟨rfl, rfl⟩)
        go_ret
        exact ⟨by rw [HV0.out]; rfl, HB.out⟩
    · have c0 : decide ((i : Int) < (n : Int)) = false := decide_eq_false (by omega)
      have c1 : decide (i < n) = false := decide_eq_false hlt
      obtain rfl : i = n := by have := HI.out; omega
      have HVV : As (a = V) := ⟨by rw [← HV.out, if_pos ((okL_iff l i).2 HO.out), HA.out]⟩
      clear hlt
      go_wp2
      go_ret
      exact ⟨by rw [HVV.out]; rfl, HB.out⟩
end Go.Proofs.Yteajblfkfmopfaa.Bound
