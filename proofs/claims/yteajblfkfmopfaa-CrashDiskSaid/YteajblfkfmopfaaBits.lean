/- Plain laws on bit operations at unsigned kinds: each is Lean's own operation on natural numbers, for operands that fit. -/
import Derived.Laws.BitsLemmas
import Derived.WalkKit
namespace Go.Proofs.Yteajblfkfmopfaa.Bits
set_option linter.unusedVariables false
set_option linter.unusedSimpArgs false
open Go

theorem wrap_u (k : IntKind) (hk : k.signed = false) (n : Nat) (h : n < 2 ^ k.bits) : k.wrap (n : Int) = n := by
  have : ((n : Int) % ((2 ^ k.bits : Nat) : Int)) = n := by
    rw [← Int.natCast_emod, Nat.mod_eq_of_lt h]
  cases k <;> simp [IntKind.signed] at hk <;> simp [IntKind.wrap, IntKind.bits, IntKind.signed] at * <;> omega

theorem bits_xor (k : IntKind) (hk : k.signed = false) (a b : Nat) (ha : a < 2 ^ k.bits) (hb : b < 2 ^ k.bits) : bits .xor k a b = ((a ^^^ b : Nat) : Int) := by
  simp only [bits, BitVec.ofInt_natCast, BitVec.toNat_xor, BitVec.toNat_ofNat, Nat.mod_eq_of_lt ha, Nat.mod_eq_of_lt hb]
  exact wrap_u k hk _ (Nat.xor_lt_two_pow ha hb)
theorem bits_and (k : IntKind) (hk : k.signed = false) (a b : Nat) (ha : a < 2 ^ k.bits) (hb : b < 2 ^ k.bits) : bits .and k a b = ((a &&& b : Nat) : Int) := by
  simp only [bits, BitVec.ofInt_natCast, BitVec.toNat_and, BitVec.toNat_ofNat, Nat.mod_eq_of_lt ha, Nat.mod_eq_of_lt hb]
  exact wrap_u k hk _ (Nat.and_lt_two_pow _ hb)
theorem bits_or (k : IntKind) (hk : k.signed = false) (a b : Nat) (ha : a < 2 ^ k.bits) (hb : b < 2 ^ k.bits) : bits .or k a b = ((a ||| b : Nat) : Int) := by
  simp only [bits, BitVec.ofInt_natCast, BitVec.toNat_or, BitVec.toNat_ofNat, Nat.mod_eq_of_lt ha, Nat.mod_eq_of_lt hb]
  exact wrap_u k hk _ (Nat.or_lt_two_pow ha hb)

theorem bits_lt (op : BinOp) (k : IntKind) (hk : k.signed = false) (x y : Int) : 0 ≤ bits op k x y ∧ bits op k x y < 2 ^ k.bits := by
  unfold bits
  have key : ∀ v : BitVec k.bits, 0 ≤ k.wrap (v.toNat : Int) ∧ k.wrap (v.toNat : Int) < 2 ^ k.bits := by
    intro v
    have hv : v.toNat < 2 ^ k.bits := v.isLt
    rw [wrap_u k hk v.toNat hv]
    exact ⟨by omega, by exact_mod_cast hv⟩
  cases op <;> exact key _
theorem u8_lt (op : BinOp) (x y : Int) : 0 ≤ bits op .u8 x y ∧ bits op .u8 x y < 256 := bits_lt op .u8 rfl x y
theorem u32_lt (op : BinOp) (x y : Int) : 0 ≤ bits op .u32 x y ∧ bits op .u32 x y < 4294967296 := bits_lt op .u32 rfl x y

theorem nu32_xor (a b : Nat) (ha : a < 4294967296) (hb : b < 4294967296) : bits .xor .u32 a b = ((a ^^^ b : Nat) : Int) := bits_xor .u32 rfl a b ha hb
theorem nu32_and (a b : Nat) (ha : a < 4294967296) (hb : b < 4294967296) : bits .and .u32 a b = ((a &&& b : Nat) : Int) := bits_and .u32 rfl a b ha hb
theorem nu32_or (a b : Nat) (ha : a < 4294967296) (hb : b < 4294967296) : bits .or .u32 a b = ((a ||| b : Nat) : Int) := bits_or .u32 rfl a b ha hb
theorem nu8_xor (a b : Nat) (ha : a < 256) (hb : b < 256) : bits .xor .u8 a b = ((a ^^^ b : Nat) : Int) := bits_xor .u8 rfl a b ha hb
theorem nu8_and (a b : Nat) (ha : a < 256) (hb : b < 256) : bits .and .u8 a b = ((a &&& b : Nat) : Int) := bits_and .u8 rfl a b ha hb
theorem nu8_or (a b : Nat) (ha : a < 256) (hb : b < 256) : bits .or .u8 a b = ((a ||| b : Nat) : Int) := bits_or .u8 rfl a b ha hb

theorem or_zero (a b : Nat) : (a ||| b = 0) ↔ (a = 0 ∧ b = 0) := by
  constructor
  · intro h
    have h1 := @Nat.left_le_or a b
    have h2 := @Nat.right_le_or a b
    omega
  · rintro ⟨rfl, rfl⟩; rfl
theorem xor_zero (a b : Nat) : (a ^^^ b = 0) ↔ a = b := by
  constructor
  · intro h
    apply Nat.eq_of_testBit_eq
    intro i
    have := congrArg (fun n => n.testBit i) h
    simp only [Nat.testBit_xor, Nat.zero_testBit] at this
    revert this
    cases a.testBit i <;> cases b.testBit i <;> simp
  · rintro rfl; exact Nat.xor_self a

end Go.Proofs.Yteajblfkfmopfaa.Bits
