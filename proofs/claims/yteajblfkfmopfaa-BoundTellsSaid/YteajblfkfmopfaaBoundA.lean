/- path: may, Depth, width, Count. bound: within, sum, meta. -/
import Derived.Test.YteajblfkfmopfaaBoundP
import Derived.Test.YteajblfkfmopfaaLayA
namespace Go.Proofs.Yteajblfkfmopfaa.Bound
set_option linter.unusedVariables false
set_option linter.unusedSimpArgs false
open Go Go.RowKit Go.Proofs.Yteajblfkfmopfaa.Mem Go.Proofs.Yteajblfkfmopfaa.Geo Go.Proofs.Yteajblfkfmopfaa.LayA

set_option maxHeartbeats 400000 in
theorem pmay_any (n : Int) (b : Bool) (h : (decide (1 ≤ n) && decide (n ≤ 4096)) = b) (w : World) :
    Calls Try.prog 214 #[.int .i64 n] w fun e w' => e = .returned (.bool b) ∧ w = w' := by
  by_cases h1 : 1 ≤ n
  · have d0 : decide (1 ≤ n) = true := decide_eq_true h1
    have HR := As.mk (show b = decide (n ≤ 4096) by rw [← h]; simp [h1])
    clear h
    go_enter Try.func214, Try.ntmps214
    go_wp2
    go_ret
    exact ⟨by rw [HR.out]; rfl, rfl⟩
  · have d0 : decide (1 ≤ n) = false := decide_eq_false h1
    have HR := As.mk (show b = false by rw [← h]; simp [h1])
    clear h
    go_enter Try.func214, Try.ntmps214
    go_wp2
    go_ret
    exact ⟨by rw [HR.out]; rfl, rfl⟩
set_option maxHeartbeats 400000 in
theorem within_b (n lo hi : Int) (b : Bool) (h : (decide (lo ≤ n) && decide (n ≤ hi)) = b) (w : World) :
    Calls Try.prog 94 #[.int .i64 n, .int .i64 lo, .int .i64 hi] w fun e w' => e = .returned (.bool b) ∧ w = w' := by
  by_cases h1 : lo ≤ n
  · have d0 : decide (lo ≤ n) = true := decide_eq_true h1
    have HR := As.mk (show b = decide (n ≤ hi) by rw [← h]; simp [h1])
    clear h
    go_enter Try.func94, Try.ntmps94
    go_wp2
    go_ret
    exact ⟨by rw [HR.out]; rfl, rfl⟩
  · have d0 : decide (lo ≤ n) = false := decide_eq_false h1
    have HR := As.mk (show b = false by rw [← h]; simp [h1])
    clear h
    go_enter Try.func94, Try.ntmps94
    go_wp2
    go_ret
    exact ⟨by rw [HR.out]; rfl, rfl⟩
theorem may_yes {n : Nat} (h : 1 ≤ n ∧ n ≤ 4096) : (decide (1 ≤ (n : Int)) && decide ((n : Int) ≤ 4096)) = true := by
  simp only [Bool.and_eq_true, decide_eq_true_eq]; omega
set_option maxHeartbeats 1000000 in
theorem depth_ok (n D : Nat) (hn : 1 ≤ n ∧ n ≤ 4096) (hD : depN n = D) (w : World) :
    Calls Try.prog 213 #[.int .i64 (n : Int)] w fun e w' => e = .returned (.int .i64 (D : Int)) ∧ w = w' := by
  have HN := As.mk hn
  have HD := As.mk hD
  clear hn hD
  go_enter Try.func213, Try.ntmps213
  go_wp2_with (go_at_call 214; (with_reducible refine (pmay_any n true (may_yes HN.out) w).mono ?_); rintro e w1 ⟨rfl, rfl⟩)
  go_loopg [3, 4] 6 (fun kq v3 v4 wr => ∃ d r : Nat, d + kq = 7 ∧ v3 = .int .i64 (d : Int) ∧ v4 = .int .i64 (r : Int) ∧ As (1 ≤ d ∧ r = 4 ^ d) ∧ As (d = 1 ∨ 4 ^ (d - 1) < n) ∧ As (w = wr))
  case atStart => exact ⟨1, 4, by omega, rfl, rfl, ⟨by decide⟩, ⟨.inl rfl⟩, ⟨rfl⟩⟩
  case round =>
    obtain ⟨d, r, hd, rfl, rfl, HR, HL, HW⟩ := hrel
    have HI := As.mk hd
    obtain rfl := HW.out
    clear hd HW
    by_cases hlt : r < n
    · have c0 : decide ((r : Int) < (n : Int)) = true := decide_eq_true (by omega)
      have c1 : decide (r < n) = true := decide_eq_true hlt
      have HD6 : As (d ≤ 5) := ⟨by
        have h1 := HR.out
        have h2 := HN.out
        rcases Nat.lt_or_ge d 6 with h | h
        · omega
        · have : 4 ^ 6 ≤ 4 ^ d := Nat.pow_le_pow_right (by decide) h
          have := pows
          omega⟩
      have hw : wrap64 ((d : Int) + 1) = ((d + 1 : Nat) : Int) := wn _ (by omega) (by have := HD6.out; omega)
      have hw2 : wrap64 ((r : Int) * 4) = ((r * 4 : Nat) : Int) := wn _ (by omega) (by have := HN.out; omega)
      have HLT := As.mk hlt
      clear hlt
      go_wp2
      go_roundg (7 - (d + 1))
      case measure => have := HI.out; have := HD6.out; omega
      case rel => exact ⟨d + 1, r * 4, by have := HI.out; have := HD6.out; omega, by go_num, by go_num, ⟨by omega, by rw [HR.out.2, Nat.pow_succ]⟩, ⟨.inr (by rw [Nat.add_sub_cancel, ← HR.out.2]; exact HLT.out)⟩, ⟨rfl⟩⟩
    · have c0 : decide ((r : Int) < (n : Int)) = false := decide_eq_false (by omega)
      have c1 : decide (r < n) = false := decide_eq_false hlt
      have HDD : As (d = D) := ⟨by
        have h1 := HR.out
        have h2 := HN.out
        have h3 := HL.out
        have h4 := HI.out
        have h6 : d ≤ 6 := by
          rcases Nat.lt_or_ge d 7 with h | h
          · omega
          · rcases h3 with h3 | h3
            · omega
            · have : 4 ^ 6 ≤ 4 ^ (d - 1) := Nat.pow_le_pow_right (by decide) (by omega)
              have := pows
              omega
        rw [← HD.out, dep_of (n := n) (j := d - 1) h2.2 (by omega) (by rw [show d - 1 + 1 = d by omega, ← h1.2]; omega) (by rcases h3 with h3 | h3; exact .inl (by omega); exact .inr h3)]
        omega⟩
      clear hlt
      go_wp2
      go_ret
      exact ⟨by rw [HDD.out]; rfl, rfl⟩
set_option maxHeartbeats 1000000 in
theorem width_ok (n l k p : Nat) (hn : 1 ≤ n ∧ n ≤ 4096) (hk : l + k = depN n) (hp : 4 ^ k = p) (w : World) :
    Calls Try.prog 215 #[.int .i64 (n : Int), .int .i64 (l : Int)] w fun e w' => e = .returned (.int .i64 (p : Int)) ∧ w = w' := by
  have HN := As.mk hn
  have HP := As.mk hp
  have hb := dep_bd n
  have HK6 := As.mk (show k ≤ 6 by omega)
  obtain ⟨D, hD⟩ : ∃ D, depN n = D := ⟨_, rfl⟩
  rw [hD] at hk hb
  have HD := As.mk hD
  have f0 : wrap64 ((D : Int) - (l : Int)) = (k : Int) := wn _ (by omega) (by omega)
  have f1 : IntKind.i64.wrap ((D : Int) - (l : Int)) = (k : Int) := iwn _ (by omega) (by omega)
  clear hn hp hk hb hD
  go_enter Try.func215, Try.ntmps215
  go_wp2_with (go_at_call 213; (with_reducible refine (depth_ok n D HN.out HD.out w).mono ?_); rintro e w1 ⟨rfl, rfl⟩)
  clear f0 f1
  go_loopg [5, 10] k (fun kq v5 v10 wr => ∃ i r : Nat, i + kq = k ∧ v5 = .int .i64 (r : Int) ∧ v10 = .int .i64 (i : Int) ∧ As (r = 4 ^ i) ∧ As (w = wr))
  case atStart => exact ⟨0, 1, by omega, rfl, rfl, ⟨rfl⟩, ⟨rfl⟩⟩
  case round =>
    obtain ⟨i, r, hi, rfl, rfl, HR, HW⟩ := hrel
    have HI := As.mk hi
    obtain rfl := HW.out
    clear hi HW
    by_cases hlt : i < k
    · have c0 : decide ((i : Int) < (k : Int)) = true := decide_eq_true (by omega)
      have c1 : decide (i < k) = true := decide_eq_true hlt
      have hr : r ≤ 4096 := by
        have h1 := HR.out
        have h2 := HK6.out
        have : 4 ^ i ≤ 4 ^ 6 := Nat.pow_le_pow_right (by decide) (by omega)
        have := pows
        omega
      have hw : wrap64 ((i : Int) + 1) = ((i + 1 : Nat) : Int) := wn _ (by omega) (by have := HK6.out; omega)
      have hw2 : wrap64 ((r : Int) * 4) = ((r * 4 : Nat) : Int) := wn _ (by omega) (by omega)
      have HLT := As.mk hlt
      clear hlt hr
      go_wp2
      go_roundg (k - (i + 1))
      case measure => have := HI.out; have := HLT.out; omega
      case rel => exact ⟨i + 1, r * 4, by have := HI.out; have := HLT.out; omega, by go_num, by go_num, ⟨by rw [HR.out, Nat.pow_succ]⟩, ⟨rfl⟩⟩
    · have c0 : decide ((i : Int) < (k : Int)) = false := decide_eq_false (by omega)
      have c1 : decide (i < k) = false := decide_eq_false hlt
      have HDD : As (r = p) := ⟨by rw [HR.out, ← HP.out]; congr 1; have := HI.out; omega⟩
      clear hlt
      go_wp2
      go_ret
      exact ⟨by rw [HDD.out]; rfl, rfl⟩
set_option maxHeartbeats 1000000 in
theorem count_ok (n l k x : Nat) (hn : 1 ≤ n ∧ n ≤ 4096) (hk : l + k = depN n) (hx : cN n k = x) (w : World) :
    Calls Try.prog 174 #[.int .i64 (n : Int), .int .i64 (l : Int)] w fun e w' => e = .returned (.int .i64 (x : Int)) ∧ w = w' := by
  have HN := As.mk hn
  have HKK := As.mk hk
  have hb := dep_bd n
  obtain ⟨D, hD⟩ : ∃ D, depN n = D := ⟨_, rfl⟩
  rw [hD] at hk hb
  have HD := As.mk hD
  have d0 : decide ((l : Int) < 0) = false := decide_eq_false (by omega)
  have d1 : decide ((D : Int) < (l : Int)) = false := decide_eq_false (by omega)
  have d1' : decide (D < l) = false := decide_eq_false (by omega)
  have hp0 : 0 < 4 ^ k := Nat.pow_pos (by decide)
  have hp6 : 4 ^ k ≤ 4096 := by
    have : 4 ^ k ≤ 4 ^ 6 := Nat.pow_le_pow_right (by decide) (by omega)
    have := pows
    omega
  obtain ⟨p, hp⟩ : ∃ p, 4 ^ k = p := ⟨_, rfl⟩
  have HP := As.mk hp
  rw [hp] at hp0 hp6
  have e0 : ¬ (p : Int) = 0 := by omega
  have e1 : ¬ p = 0 := by omega
  have HY := As.mk (show x = (n + p - 1) / p by rw [← hx, ← hp]; rfl)
  have hn0 : (1 : Int) ≤ (n : Int) := by omega
  have hn1 : (n : Int) ≤ 4096 := by omega
  have hp1 : (1 : Int) ≤ (p : Int) := by omega
  have hp2 : (p : Int) ≤ 4096 := by omega
  have HB := As.mk (And.intro hn0 (And.intro hn1 (And.intro hp1 hp2)))
  clear hn hk hx hD hp hp0 hp6 hb hn0 hn1 hp1 hp2
  go_enter Try.func174, Try.ntmps174
  go_wp2_with (first
    | (go_at_call 214; (with_reducible refine (pmay_any n true (may_yes HN.out) w).mono ?_); rintro e w1 ⟨rfl, rfl⟩)
    | (go_at_call 213; (with_reducible refine (depth_ok n D HN.out HD.out w).mono ?_); rintro e w1 ⟨rfl, rfl⟩)
    | (go_at_call 215; (with_reducible refine (width_ok n l k p HN.out HKK.out HP.out w).mono ?_); rintro e w1 ⟨rfl, rfl⟩; refine As.out ?_))
  refine As.mk ?_
  obtain ⟨hn0, hn1, hp1, hp2⟩ := HB.out
  go_wp2
  go_ret
  exact ⟨ret_int (by rw [HY.out, show (n : Int) + (p : Int) - 1 = ((n + p - 1 : Nat) : Int) by omega]; rfl), rfl⟩
end Go.Proofs.Yteajblfkfmopfaa.Bound
