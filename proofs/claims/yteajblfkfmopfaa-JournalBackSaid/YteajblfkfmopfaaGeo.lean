/- Geometries: plain reckoning. -/
import Derived.WalkKit
namespace Go.Proofs.Yteajblfkfmopfaa.Geo
set_option linter.unusedVariables false
set_option linter.unusedSimpArgs false
open Go Go.RowKit

/-- a right geometry -/
structure Right (s t p d : Int) : Prop where
  s0 : 64 ≤ s
  s1 : s ≤ 256
  sm : s % 16 = 0
  t0 : 1 ≤ t
  t1 : t ≤ 16
  p0 : 1 ≤ p
  p1 : p ≤ 64
  d0 : 1 ≤ d
  d1 : d ≤ 4096
def rightB (s t p d : Int) : Bool := decide (64 ≤ s) && decide (s ≤ 256) && decide (s % 16 = 0) && decide (1 ≤ t) && decide (t ≤ 16) && decide (1 ≤ p) && decide (p ≤ 64) && decide (1 ≤ d) && decide (d ≤ 4096)
theorem rightB_iff (s t p d : Int) : rightB s t p d = true ↔ Right s t p d := by
  unfold rightB
  simp only [Bool.and_eq_true, decide_eq_true_eq]
  exact ⟨fun ⟨⟨⟨⟨⟨⟨⟨⟨a, b⟩, c⟩, d⟩, e⟩, f⟩, g⟩, h⟩, i⟩ => ⟨a, b, c, d, e, f, g, h, i⟩, fun h => ⟨⟨⟨⟨⟨⟨⟨⟨h.s0, h.s1⟩, h.sm⟩, h.t0⟩, h.t1⟩, h.p0⟩, h.p1⟩, h.d0⟩, h.d1⟩⟩
/-- a right geometry's numbers are natural ones -/
theorem Right.nat {s t p d : Int} (h : Right s t p d) : ∃ s' t' p' d' : Nat, s = s' ∧ t = t' ∧ p = p' ∧ d = d' ∧ 64 ≤ s' ∧ s' ≤ 256 ∧ s' % 16 = 0 ∧ 1 ≤ t' ∧ t' ≤ 16 ∧ 1 ≤ p' ∧ p' ≤ 64 ∧ 1 ≤ d' ∧ d' ≤ 4096 := by
  obtain ⟨a, b, c, d0, e, f, g, h0, i⟩ := h
  exact ⟨s.toNat, t.toNat, p.toNat, d.toNat, by omega, by omega, by omega, by omega, by omega, by omega, by omega, by omega, by omega, by omega, by omega, by omega, by omega⟩
/-- how many parts of s are wanted for n -/
def ceil (n s : Nat) : Nat := (n + s - 1) / s
theorem ceil_of {n s i : Nat} (hs : 0 < s) (h : n ≤ i * s) (h1 : i = 0 ∨ (i - 1) * s < n) : i = ceil n s := by
  unfold ceil
  symm
  apply Nat.div_eq_of_lt_le
  · rcases h1 with rfl | h1
    · omega
    · rcases i with _ | i
      · omega
      · rw [Nat.add_sub_cancel] at h1
        rw [Nat.succ_mul]; omega
  · rw [Nat.succ_mul]; omega
theorem ceil_lt {n s k : Nat} (hs : 0 < s) (h : n + s ≤ k * s) : ceil n s < k := by
  unfold ceil
  rw [Nat.div_lt_iff_lt_mul hs]
  omega
theorem ceil_ge {n s : Nat} (hs : 0 < s) : n ≤ ceil n s * s := by
  unfold ceil
  have h := Nat.div_add_mod (n + s - 1) s
  have h2 := Nat.mod_lt (n + s - 1) hs
  rw [Nat.mul_comm] at h
  omega
/-- one more is wanted just if these are not enough -/
theorem ceil_gt {n s i : Nat} (hs : 0 < s) (h : i * s < n) : i < ceil n s := by
  have h1 := ceil_ge (n := n) hs
  rcases Nat.lt_or_ge i (ceil n s) with h2 | h2
  · exact h2
  · have := Nat.mul_le_mul_right s h2
    omega
def metaN (t p d : Nat) : Nat := 64 + 48 * t + 320 * p + 96 * d
/-- how many sectors meta has -/
def secN (s t p d : Nat) : Nat := ceil (metaN t p d + 4) s
/-- how many sectors a record of n has -/
def recN (n s : Nat) : Nat := 1 + ceil (4 * n) s + n
theorem metaN_le {t p d : Nat} (ht : t ≤ 16) (hp : p ≤ 64) (hd : d ≤ 4096) : metaN t p d ≤ 414528 := by unfold metaN; omega
theorem mul_ge {s k : Nat} (hs : 64 ≤ s) : k * 64 ≤ k * s := Nat.mul_le_mul_left k hs
theorem secN_lt {s t p d : Nat} (hs : 64 ≤ s) (ht : t ≤ 16) (hp : p ≤ 64) (hd : d ≤ 4096) : secN s t p d < 6480 := by
  unfold secN
  have := metaN_le ht hp hd
  have h1 := mul_ge (k := 6479) hs
  refine ceil_lt (by omega) ?_
  rw [Nat.succ_mul]
  omega
theorem secN_pos {s t p d : Nat} (hs : 64 ≤ s) : 1 ≤ secN s t p d := by
  unfold secN
  refine Nat.succ_le_of_lt (ceil_gt (by omega) ?_)
  unfold metaN; omega
theorem index_le {n s : Nat} (hs : 64 ≤ s) : ceil (4 * n) s ≤ n := by
  rcases Nat.eq_zero_or_pos n with rfl | hn
  · unfold ceil
    rw [Nat.mul_zero, Nat.zero_add, Nat.div_eq_of_lt (by omega)]
    exact Nat.le_refl _
  · have h1 := mul_ge (k := n) hs
    have := ceil_lt (n := 4 * n) (s := s) (k := n + 1) (by omega) (by rw [Nat.add_mul n 1 s]; omega)
    omega
/-- no wrap -/
theorem wr (x : Int) (h : -1000000000000000000 ≤ x ∧ x ≤ 1000000000000000000) : wrap64 x = x := by
  unfold wrap64
  omega
theorem wn {x : Int} (n : Nat) (e : x = (n : Int)) (h : n ≤ 1000000000000000000) : wrap64 x = (n : Int) := by
  rw [e]; exact wr _ (by omega)
theorem iw (x : Int) (h : -1000000000000000000 ≤ x ∧ x ≤ 1000000000000000000) : IntKind.i64.wrap x = x := by
  rw [IntKind.wrap_i64]
  omega
theorem iwn {x : Int} (n : Nat) (e : x = (n : Int)) (h : n ≤ 1000000000000000000) : IntKind.i64.wrap x = (n : Int) := by
  rw [e]; exact iw _ (by omega)
end Go.Proofs.Yteajblfkfmopfaa.Geo
