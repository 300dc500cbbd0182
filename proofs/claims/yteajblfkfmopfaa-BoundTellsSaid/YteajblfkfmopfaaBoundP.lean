/- Trees' levels, counted: plain reckoning. -/
import Derived.Test.YteajblfkfmopfaaGeo
namespace Go.Proofs.Yteajblfkfmopfaa.Bound
set_option linter.unusedVariables false
set_option linter.unusedSimpArgs false
open Go Go.RowKit Go.Proofs.Yteajblfkfmopfaa.Geo

/-- how many nodes, k levels above the leaves -/
def cN (n k : Nat) : Nat := ceil n (4 ^ k)
theorem c_zero (n : Nat) : cN n 0 = n := by unfold cN ceil; simp
theorem c_succ (n k : Nat) : (cN n k + 3) / 4 = cN n (k + 1) := by
  unfold cN ceil
  have h : 0 < 4 ^ k := Nat.pow_pos (by decide)
  rw [show (n + 4 ^ k - 1) / 4 ^ k + 3 = (n + 4 ^ k - 1 + 3 * 4 ^ k) / 4 ^ k by rw [Nat.add_mul_div_right _ _ h], Nat.div_div_eq_div_mul, ← Nat.pow_succ]
  congr 1
  rw [Nat.pow_succ]; omega
theorem c_le (n k : Nat) : cN n k ≤ n + 1 := by
  unfold cN ceil
  have h : 0 < 4 ^ k := Nat.pow_pos (by decide)
  rw [Nat.div_le_iff_le_mul h]
  have : n + 1 ≤ (n + 1) * 4 ^ k := Nat.le_mul_of_pos_right _ h
  omega
/-- a tree's depth -/
def depN (n : Nat) : Nat := if n ≤ 4 then 1 else if n ≤ 16 then 2 else if n ≤ 64 then 3 else if n ≤ 256 then 4 else if n ≤ 1024 then 5 else 6
theorem dep_bd (n : Nat) : 1 ≤ depN n ∧ depN n ≤ 6 := by
  unfold depN
  repeat' split
  all_goals omega
theorem pows : (4 : Nat) ^ 0 = 1 ∧ (4 : Nat) ^ 1 = 4 ∧ (4 : Nat) ^ 2 = 16 ∧ (4 : Nat) ^ 3 = 64 ∧ (4 : Nat) ^ 4 = 256 ∧ (4 : Nat) ^ 5 = 1024 ∧ (4 : Nat) ^ 6 = 4096 := by decide
theorem pow_cases (j : Nat) (h : j ≤ 6) : (j = 0 ∧ 4 ^ j = 1) ∨ (j = 1 ∧ 4 ^ j = 4) ∨ (j = 2 ∧ 4 ^ j = 16) ∨ (j = 3 ∧ 4 ^ j = 64) ∨ (j = 4 ∧ 4 ^ j = 256) ∨ (j = 5 ∧ 4 ^ j = 1024) ∨ (j = 6 ∧ 4 ^ j = 4096) := by
  have := pows
  rcases j with _ | _ | _ | _ | _ | _ | _ | j <;> first | omega | simp
theorem dep_of {n j : Nat} (hn : n ≤ 4096) (hj : j ≤ 5) (h : n ≤ 4 ^ (j + 1)) (h0 : j = 0 ∨ 4 ^ j < n) : depN n = j + 1 := by
  have h1 := pow_cases j (by omega)
  have h2 := pow_cases (j + 1) (by omega)
  unfold depN
  repeat' split
  all_goals omega
theorem dep_ge {n : Nat} (hn : n ≤ 4096) : n ≤ 4 ^ depN n := by
  have h1 := pow_cases (depN n) (dep_bd n).2
  unfold depN at *
  repeat' split at h1
  all_goals (repeat' split); all_goals omega
theorem dep_lt {n : Nat} (k : Nat) (h1 : 1 ≤ k) (hk : k < depN n) : 4 ^ k < n := by
  have h2 := pow_cases k (by have := (dep_bd n).2; omega)
  unfold depN at hk
  repeat' split at hk
  all_goals omega
theorem c_top {n : Nat} (h1 : 1 ≤ n) (hn : n ≤ 4096) : cN n (depN n) = 1 := by
  unfold cN ceil
  have h := dep_ge hn
  have hp : 0 < 4 ^ depN n := Nat.pow_pos (by decide)
  generalize 4 ^ depN n = p at *
  rw [Nat.div_eq_of_lt_le (k := 1)] <;> omega
theorem c_more {n k : Nat} (hk : k < depN n) (h1 : 1 ≤ k) : 2 ≤ cN n k := by
  unfold cN ceil
  have h := dep_lt k h1 hk
  have hp : 0 < 4 ^ k := Nat.pow_pos (by decide)
  generalize 4 ^ k = p at *
  rw [Nat.le_div_iff_mul_le hp]; omega
theorem c_more0 {n : Nat} (h : 2 ≤ n) : 2 ≤ cN n 0 := by rw [c_zero]; exact h
/-- the nodes of the first l levels below the root -/
def sumC (n : Nat) : Nat → Nat
  | 0 => 0
  | l + 1 => sumC n l + cN n (depN n - (l + 1))
def totN (n : Nat) : Nat := sumC n (depN n)
theorem sumC_le (n l : Nat) : sumC n l ≤ l * (n + 1) := by
  induction l with
  | zero => simp [sumC]
  | succ l ih =>
    have := c_le n (depN n - (l + 1))
    rw [sumC, Nat.add_mul]; omega
theorem tot_le {n : Nat} (hn : n ≤ 4096) : totN n ≤ 24582 := by
  have h := sumC_le n (depN n)
  have h2 := (dep_bd n).2
  have h3 : depN n * (n + 1) ≤ 6 * (n + 1) := Nat.mul_le_mul_right _ h2
  unfold totN
  omega
/-- how many nodes each level has, from the root on -/
def countsL (n : Nat) : List Int := (List.range (depN n + 1)).map fun i => (cN n (depN n - i) : Int)
theorem counts_len (n : Nat) : (countsL n).length = depN n + 1 := by simp [countsL]
/-- from the leaves up -/
def upsL (n k : Nat) : List Int := (List.range k).map fun i => (cN n i : Int)
theorem ups_succ (n k : Nat) : upsL n (k + 1) = upsL n k ++ [(cN n k : Int)] := by simp [upsL, List.range_succ]
theorem ups_len (n k : Nat) : (upsL n k).length = k := by simp [upsL]
/-- turned round, from place i on -/
def backL (n k : Nat) : List Int := (List.range k).map fun i => (cN n (depN n - i) : Int)
theorem back_succ (n k : Nat) : backL n (k + 1) = backL n k ++ [(cN n (depN n - k) : Int)] := by simp [backL, List.range_succ]
theorem back_all (n : Nat) : backL n (depN n + 1) = countsL n := rfl
end Go.Proofs.Yteajblfkfmopfaa.Bound
