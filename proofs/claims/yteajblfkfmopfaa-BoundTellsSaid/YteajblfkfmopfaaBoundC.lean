/- op.Changes, Draws; txn.Steps; bound.Change, Format, Mount, Draws; the statement's own small ones. -/
import Derived.Test.YteajblfkfmopfaaBoundB
namespace Go.Proofs.Yteajblfkfmopfaa.Bound
set_option linter.unusedVariables false
set_option linter.unusedSimpArgs false
open Go Go.RowKit Go.Proofs.Yteajblfkfmopfaa.Mem Go.Proofs.Yteajblfkfmopfaa.Geo Go.Proofs.Yteajblfkfmopfaa.LayA

set_option maxHeartbeats 400000 in
theorem owithin_any (n lo hi : Int) (b : Bool) (h : (decide (lo ≤ n) && decide (n ≤ hi)) = b) (w : World) :
    Calls Try.prog 172 #[.int .i64 n, .int .i64 lo, .int .i64 hi] w fun e w' => e = .returned (.bool b) ∧ w = w' := by
  by_cases h1 : lo ≤ n
  · have d0 : decide (lo ≤ n) = true := decide_eq_true h1
    have HR := As.mk (show b = decide (n ≤ hi) by rw [← h]; simp [h1])
    clear h
    go_enter Try.func172, Try.ntmps172
    go_wp2
    go_ret
    exact ⟨by rw [HR.out]; rfl, rfl⟩
  · have d0 : decide (lo ≤ n) = false := decide_eq_false h1
    have HR := As.mk (show b = false by rw [← h]; simp [h1])
    clear h
    go_enter Try.func172, Try.ntmps172
    go_wp2
    go_ret
    exact ⟨by rw [HR.out]; rfl, rfl⟩
/-- a kind that changes something -/
def chB (k : Int) : Bool := decide (1 ≤ k) && decide (k ≤ 10) && (k != 6) && (k != 7)
theorem chB_iff (k : Int) : chB k = true ↔ 1 ≤ k ∧ k ≤ 10 ∧ k ≠ 6 ∧ k ≠ 7 := by simp [chB, and_assoc]
set_option maxHeartbeats 1000000 in
theorem changes_any (k : Int) (b : Bool) (h : chB k = b) (w : World) :
    Calls Try.prog 91 #[.int .i64 k] w fun e w' => e = .returned (.bool b) ∧ w = w' := by
  by_cases h1 : 1 ≤ k ∧ k ≤ 10
  · have HW : As ((decide (1 ≤ k) && decide (k ≤ 10)) = true) := ⟨by simp; exact h1⟩
    by_cases h6 : k = 6
    · have e0 : (k != 6) = false := by simp [h6]
      have HR : As (b = false) := ⟨by rw [← h]; simp [chB, h6]⟩
      clear h h1 h6
      go_enter Try.func91, Try.ntmps91
      go_wp2_with (go_at_call 172; (with_reducible refine (owithin_any k 1 10 true HW.out w).mono ?_); rintro e w1 ⟨rfl, rfl⟩)
      go_ret
      exact ⟨by rw [HR.out]; rfl, rfl⟩
    · have e0 : (k != 6) = true := by simp [h6]
      by_cases h7 : k = 7
      · have e1 : (k != 7) = false := by simp [h7]
        have HR : As (b = false) := ⟨by rw [← h]; simp [chB, h7]⟩
        clear h h1 h6 h7
        go_enter Try.func91, Try.ntmps91
        go_wp2_with (go_at_call 172; (with_reducible refine (owithin_any k 1 10 true HW.out w).mono ?_); rintro e w1 ⟨rfl, rfl⟩)
        go_ret
        exact ⟨by rw [HR.out]; rfl, rfl⟩
      · have e1 : (k != 7) = true := by simp [h7]
        have HR : As (b = true) := ⟨by rw [← h, chB_iff]; exact ⟨h1.1, h1.2, h6, h7⟩⟩
        clear h h1 h6 h7
        go_enter Try.func91, Try.ntmps91
        go_wp2_with (go_at_call 172; (with_reducible refine (owithin_any k 1 10 true HW.out w).mono ?_); rintro e w1 ⟨rfl, rfl⟩)
        go_ret
        exact ⟨by rw [HR.out]; rfl, rfl⟩
  · have HW : As ((decide (1 ≤ k) && decide (k ≤ 10)) = false) := ⟨by
      rcases Bool.eq_false_or_eq_true (decide (1 ≤ k) && decide (k ≤ 10)) with h2 | h2
      · simp at h2; exact absurd h2 h1
      · exact h2⟩
    have HR : As (b = false) := ⟨by rw [← h]; unfold chB; rw [HW.out]; rfl⟩
    clear h h1
    go_enter Try.func91, Try.ntmps91
    go_wp2_with (go_at_call 172; (with_reducible refine (owithin_any k 1 10 false HW.out w).mono ?_); rintro e w1 ⟨rfl, rfl⟩)
    go_ret
    exact ⟨by rw [HR.out]; rfl, rfl⟩
/-- a kind that changes keys -/
def drB (k : Int) : Bool := k == 2 || k == 3 || k == 4 || k == 5 || k == 10
set_option maxHeartbeats 1000000 in
theorem odraws_any (k : Int) (b : Bool) (h : drB k = b) (w : World) :
    Calls Try.prog 96 #[.int .i64 k] w fun e w' => e = .returned (.bool b) ∧ w = w' := by
  have HR := As.mk h
  unfold drB at HR
  clear h
  obtain ⟨b2, e2⟩ : ∃ b, (k == 2) = b := ⟨_, rfl⟩
  obtain ⟨b3, e3⟩ : ∃ b, (k == 3) = b := ⟨_, rfl⟩
  obtain ⟨b4, e4⟩ : ∃ b, (k == 4) = b := ⟨_, rfl⟩
  obtain ⟨b5, e5⟩ : ∃ b, (k == 5) = b := ⟨_, rfl⟩
  obtain ⟨b6, e6⟩ : ∃ b, (k == 10) = b := ⟨_, rfl⟩
  rw [e2, e3, e4, e5, e6] at HR
  cases b2 <;> cases b3 <;> cases b4 <;> cases b5 <;> cases b6
  all_goals
    obtain rfl := HR.out
    clear HR
    go_enter Try.func96, Try.ntmps96
    go_wp2
    go_ret
    exact ⟨rfl, rfl⟩
def stepsN (m s : Nat) : Nat := recN m s + m + 4
theorem steps_le {m s : Nat} (hm : m ≤ 65536) (hs : 64 ≤ s) : stepsN m s ≤ 200000 := by
  unfold stepsN recN
  have := index_le (n := m) hs
  omega
set_option maxHeartbeats 1000000 in
theorem tsteps_ok (m s S : Nat) (z : Int) (hz : z = (m : Int)) (hm : m ≤ 65536) (hs : 64 ≤ s ∧ s ≤ 256 ∧ s % 16 = 0) (hS : stepsN m s = S) (w : World) :
    Calls Try.prog 92 #[.int .i64 z, .int .i64 (s : Int)] w fun e w' => e = .returned (.int .i64 (S : Int)) ∧ w = w' := by
  subst hz
  have hb := steps_le hm hs.1
  obtain ⟨r, hr⟩ : ∃ r, recN m s = r := ⟨_, rfl⟩
  have HR := As.mk hr
  have HM := As.mk hm
  have HS := As.mk hs
  have HSS : As (r + m + 4 = S) := ⟨by rw [← hS, ← hr]; rfl⟩
  have hrb : r ≤ 200000 := by unfold stepsN at hb; omega
  have f1 : wrap64 ((r : Int) + (m : Int)) = ((r + m : Nat) : Int) := wn _ (by omega) (by omega)
  have f2 : wrap64 (((r + m : Nat) : Int) + 4) = (S : Int) := wn _ (by have := HSS.out; omega) (by have := HSS.out; omega)
  have f3 : wrap64 ((r : Int) + (m : Int) + 4) = (S : Int) := wn _ (by have := HSS.out; omega) (by have := HSS.out; omega)
  have F := As.mk (And.intro f1 (And.intro f2 f3))
  clear hb hr hm hs hS hrb f1 f2 f3
  go_enter Try.func92, Try.ntmps92
  go_wp2_with (go_at_call 75; (with_reducible refine (size_ok m s r HM.out HS.out HR.out w).mono ?_); rintro e w1 ⟨rfl, rfl⟩)
  go_ret
  exact ⟨ret_int (by first | rw [F.out.1, F.out.2.1] | rw [F.out.2.2] | (rw [← HSS.out]; omega)), rfl⟩
set_option maxHeartbeats 1000000 in
theorem lsteps_ok (m s S : Nat) (z : Int) (hz : z = (m : Int)) (hm : m ≤ 65536) (hs : 64 ≤ s ∧ s ≤ 256) (hS : stepsN m s = S) (w : World) :
    Calls Try.prog 20 #[.int .i64 z, .int .i64 (s : Int)] w fun e w' => e = .returned (.int .i64 (S : Int)) ∧ w = w' := by
  subst hz
  have hb := steps_le hm hs.1
  obtain ⟨r, hr⟩ : ∃ r, recN m s = r := ⟨_, rfl⟩
  have HR := As.mk hr
  have HM := As.mk hm
  have HS := As.mk hs
  have HSS : As (r + m + 4 = S) := ⟨by rw [← hS, ← hr]; rfl⟩
  have hrb : r ≤ 200000 := by unfold stepsN at hb; omega
  have f1 : wrap64 ((r : Int) + (m : Int)) = ((r + m : Nat) : Int) := wn _ (by omega) (by omega)
  have f2 : wrap64 (((r + m : Nat) : Int) + 4) = (S : Int) := wn _ (by have := HSS.out; omega) (by have := HSS.out; omega)
  have f3 : wrap64 ((r : Int) + (m : Int) + 4) = (S : Int) := wn _ (by have := HSS.out; omega) (by have := HSS.out; omega)
  have F := As.mk (And.intro f1 (And.intro f2 f3))
  clear hb hr hm hs hS hrb f1 f2 f3
  go_enter Try.func20, Try.ntmps20
  go_wp2_with (go_at_call 77; (with_reducible refine (sizeR_ok m s r HM.out HS.out HR.out w).mono ?_); rintro e w1 ⟨rfl, rfl⟩)
  go_ret
  exact ⟨ret_int (by first | rw [F.out.1, F.out.2.1] | rw [F.out.2.2] | (rw [← HSS.out]; omega)), rfl⟩
end Go.Proofs.Yteajblfkfmopfaa.Bound
