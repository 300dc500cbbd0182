/- chatelaineref01.Right, chatelaineref05.turn, shift. -/
import Derived.Test.YteajblfkfmopfaaSum
namespace Go.Proofs.Yteajblfkfmopfaa.RefWord
set_option linter.unusedVariables false
set_option linter.unusedSimpArgs false
open Go Go.RowKit Go.Proofs.Yteajblfkfmopfaa.Mem Go.Proofs.Yteajblfkfmopfaa.W32 Go.Proofs.Yteajblfkfmopfaa.Turns

theorem right_odd (x : W) (h : x.toNat % 2 = 1) : (rot x 1).toNat = x.toNat / 2 + 2147483648 := by
  have hx := lt x
  unfold rot
  rw [BitVec.toNat_or, BitVec.toNat_ushiftRight, BitVec.toNat_shiftLeft, Nat.shiftRight_eq_div_pow, Nat.shiftLeft_eq]
  rw [show x.toNat * 2 ^ (32 - 1) % 2 ^ 32 = 1 * 2 ^ 31 by omega, Nat.or_comm, or_add 1 (x.toNat / 2 ^ 1) 31 (by omega)]
  omega
theorem right_even (x : W) (h : x.toNat % 2 = 0) : (rot x 1).toNat = x.toNat / 2 := by
  have hx := lt x
  unfold rot
  rw [BitVec.toNat_or, BitVec.toNat_ushiftRight, BitVec.toNat_shiftLeft, Nat.shiftRight_eq_div_pow, Nat.shiftLeft_eq]
  rw [show x.toNat * 2 ^ (32 - 1) % 2 ^ 32 = 0 by omega, Nat.or_zero]

set_option maxRecDepth 100000 in
theorem rightN (m : Nat) (hm : m < 4294967296) (w : World) :
    Calls Try.prog 252 #[.int .u32 (m : Int)] w fun e w' => e = .returned (.int .u32 (if m % 2 = 1 then m / 2 + 2147483648 else m / 2 : Nat)) ∧ w = w' := by
  by_cases h : m % 2 = 1
  · have c0 : ((m : Int) % 2 == 1) = true := beq_iff_eq.2 (by omega)
    rw [if_pos h]
    have HM := As.mk hm
    clear h hm
    go_enter Try.func252, Try.ntmps252
    go_wp2
    go_ret
    exact ⟨ret_int (by have := HM.out; omega), rfl⟩
  · have c0 : ((m : Int) % 2 == 1) = false := beq_eq_false_iff_ne.2 (by omega)
    rw [if_neg h]
    have HM := As.mk hm
    clear h hm
    go_enter Try.func252, Try.ntmps252
    go_wp2
    go_ret
    exact ⟨ret_int (by have := HM.out; omega), rfl⟩
theorem right (x : W) (w : World) :
    Calls Try.prog 252 #[.int .u32 (x.toNat : Int)] w fun e w' => e = .returned (.int .u32 ((rot x 1).toNat : Int)) ∧ w = w' := by
  have e : (rot x 1).toNat = if x.toNat % 2 = 1 then x.toNat / 2 + 2147483648 else x.toNat / 2 := by
    by_cases h : x.toNat % 2 = 1
    · rw [if_pos h, right_odd x h]
    · rw [if_neg h, right_even x (by omega)]
  rw [e]
  exact rightN _ (lt x) w

/-- turned, place by place -/
def rots (x : W) : Nat → W
  | 0 => x
  | n + 1 => rot (rots x n) 1
theorem rot_bit (x : W) (n i : Nat) (hn : n < 32) (hi : i < 32) : (rot x n).getLsbD i = x.getLsbD ((i + n) % 32) := by
  unfold rot
  rw [BitVec.getLsbD_or, BitVec.getLsbD_ushiftRight, BitVec.getLsbD_shiftLeft]
  by_cases h : i + n < 32
  · rw [Nat.mod_eq_of_lt h, Nat.add_comm n i]
    have : decide (i < 32 - n) = true := decide_eq_true (by omega)
    simp [this]
  · have e : (i + n) % 32 = i - (32 - n) := by omega
    have h1 : decide (i < 32 - n) = false := decide_eq_false (by omega)
    have h2 : x.getLsbD (n + i) = false := BitVec.getLsbD_of_ge _ _ (by omega)
    rw [e, h2]
    simp [h1, hi]
theorem rots_eq (x : W) : ∀ n, n < 32 → rots x n = rot x n := by
  intro n
  induction n with
  | zero =>
    intro _
    refine BitVec.eq_of_getLsbD_eq fun i hi => ?_
    rw [rot_bit x 0 i (by omega) hi, Nat.add_zero, Nat.mod_eq_of_lt hi]; rfl
  | succ n ih =>
    intro h
    refine BitVec.eq_of_getLsbD_eq fun i hi => ?_
    rw [rots, rot_bit _ 1 i (by omega) hi, ih (by omega), rot_bit _ n _ (by omega) (Nat.mod_lt _ (by omega)), rot_bit x (n + 1) i h hi]
    congr 1
    omega

theorem turn (x : W) (n : Nat) (hn : n < 32) (w : World) :
    Calls Try.prog 241 #[.int .u32 (x.toNat : Int), .int .i64 n] w fun e w' => e = .returned (.int .u32 ((rot x n).toNat : Int)) ∧ w' = w := by
  rw [← rots_eq x n hn]
  have HN := As.mk hn
  clear hn
  go_enter Try.func241, Try.ntmps241
  go_wp2
  go_loopg [0, 5] n (fun kq v0 v5 wr => ∃ i : Nat, i + kq = n ∧ v0 = .int .u32 ((rots x i).toNat : Int) ∧ v5 = .int .i64 i ∧ wr = w)
  case atStart => exact ⟨0, by omega, rfl, rfl, rfl⟩
  case round =>
    obtain ⟨i, hi, rfl, rfl, rfl⟩ := hrel
    have HI := As.mk hi
    clear hi
    by_cases hlt : i < n
    · have c0 : decide ((i : Int) < (n : Int)) = true := decide_eq_true (by omega)
      have c1 : decide (i < n) = true := decide_eq_true hlt
      have hw : wrap64 ((i : Int) + 1) = ((i + 1 : Nat) : Int) := wrap_up (by have := HN.out; omega)
      obtain ⟨y, hy⟩ : ∃ y, y = rots x i := ⟨_, rfl⟩
      have HY := As.mk hy
      rw [← hy]
      clear hy
      go_wp2_with (go_at_call 252; refine (right y _).mono ?_; rintro e w1 ⟨rfl, rfl⟩)
      go_roundg (n - (i + 1))
      case measure => have := HI.out; omega
      case rel => exact ⟨i + 1, by have := HI.out; omega, by rw [HY.out]; rfl, by go_num, rfl⟩
    · have c0 : decide ((i : Int) < (n : Int)) = false := decide_eq_false (by omega)
      have c1 : decide (i < n) = false := decide_eq_false hlt
      obtain rfl : i = n := by have := HI.out; omega
      go_wp2
      go_ret
      exact ⟨rfl, rfl⟩
def halves (x : W) : Nat → W
  | 0 => x
  | n + 1 => halves x n >>> 1
theorem halves_eq (x : W) : ∀ n, halves x n = x >>> n := by
  intro n
  induction n with
  | zero => simp [halves]
  | succ n ih => rw [halves, ih, ← BitVec.shiftRight_add]
theorem halve (x : W) : (x.toNat : Int) / 2 % 4294967296 = ((x >>> 1).toNat : Int) := by
  have := lt x
  rw [BitVec.toNat_ushiftRight, Nat.shiftRight_eq_div_pow]; omega
theorem shift (x : W) (n : Nat) (hn : n < 32) (w : World) :
    Calls Try.prog 242 #[.int .u32 (x.toNat : Int), .int .i64 n] w fun e w' => e = .returned (.int .u32 ((x >>> n).toNat : Int)) ∧ w' = w := by
  rw [← halves_eq x n]
  have HN := As.mk hn
  clear hn
  go_enter Try.func242, Try.ntmps242
  go_wp2
  go_loopg [0, 5] n (fun kq v0 v5 wr => ∃ i : Nat, i + kq = n ∧ v0 = .int .u32 ((halves x i).toNat : Int) ∧ v5 = .int .i64 i ∧ wr = w)
  case atStart => exact ⟨0, by omega, rfl, rfl, rfl⟩
  case round =>
    obtain ⟨i, hi, rfl, rfl, rfl⟩ := hrel
    have HI := As.mk hi
    clear hi
    by_cases hlt : i < n
    · have c0 : decide ((i : Int) < (n : Int)) = true := decide_eq_true (by omega)
      have c1 : decide (i < n) = true := decide_eq_true hlt
      have hw : wrap64 ((i : Int) + 1) = ((i + 1 : Nat) : Int) := wrap_up (by have := HN.out; omega)
      obtain ⟨y, hy⟩ : ∃ y : Nat, y = (halves x i).toNat := ⟨_, rfl⟩
      have HY := As.mk hy
      rw [← hy]
      clear hy
      go_wp2
      go_roundg (n - (i + 1))
      case measure => have := HI.out; omega
      case rel => exact ⟨i + 1, by have := HI.out; omega, by rw [HY.out]; exact congrArg (Value.int .u32) (halve _), by go_num, rfl⟩
    · have c0 : decide ((i : Int) < (n : Int)) = false := decide_eq_false (by omega)
      have c1 : decide (i < n) = false := decide_eq_false hlt
      obtain rfl : i = n := by have := HI.out; omega
      go_wp2
      go_ret
      exact ⟨rfl, rfl⟩
end Go.Proofs.Yteajblfkfmopfaa.RefWord
