/- Words of 32 bits: the machine's numbers and Lean's BitVec 32. Plain. -/
import Derived.Test.YteajblfkfmopfaaBits
namespace Go.Proofs.Yteajblfkfmopfaa.W32
set_option linter.unusedVariables false
set_option linter.unusedSimpArgs false
open Go Go.Proofs.Yteajblfkfmopfaa.Bits

abbrev W := BitVec 32
/-- a word as a value -/
def wv (x : W) : Value := .int .u32 (x.toNat : Int)
theorem lt (x : W) : x.toNat < 4294967296 := x.isLt

theorem w_xor (x y : W) : bits .xor .u32 (x.toNat : Int) (y.toNat : Int) = ((x ^^^ y).toNat : Int) := by
  rw [nu32_xor _ _ (lt x) (lt y), BitVec.toNat_xor]
theorem w_and (x y : W) : bits .and .u32 (x.toNat : Int) (y.toNat : Int) = ((x &&& y).toNat : Int) := by
  rw [nu32_and _ _ (lt x) (lt y), BitVec.toNat_and]
theorem w_or (x y : W) : bits .or .u32 (x.toNat : Int) (y.toNat : Int) = ((x ||| y).toNat : Int) := by
  rw [nu32_or _ _ (lt x) (lt y), BitVec.toNat_or]
theorem w_add (x y : W) : ((x.toNat : Int) + (y.toNat : Int)) % 4294967296 = ((x + y).toNat : Int) := by
  rw [BitVec.toNat_add]; omega
theorem w_wrap_add (x y : W) : IntKind.u32.wrap ((x.toNat : Int) + (y.toNat : Int)) = ((x + y).toNat : Int) := by
  rw [IntKind.wrap_u32, w_add]
theorem w_not (x : W) : 4294967295 - (x.toNat : Int) = ((~~~x).toNat : Int) := by
  have := lt x
  rw [BitVec.toNat_not]; omega
theorem w_shr (x : W) (n : Nat) : (x.toNat : Int) / (2 ^ n : Nat) = ((x >>> n).toNat : Int) := by
  rw [BitVec.toNat_ushiftRight, Nat.shiftRight_eq_div_pow]; omega
theorem w_shl (x : W) (n : Nat) : ((x.toNat : Int) * (2 ^ n : Nat)) % 4294967296 = ((x <<< n).toNat : Int) := by
  rw [BitVec.toNat_shiftLeft, Nat.shiftLeft_eq]
  have : ((x.toNat : Int) * (2 ^ n : Nat)) = ((x.toNat * 2 ^ n : Nat) : Int) := by rw [Int.natCast_mul]
  rw [this]; omega

/-- turned to the right -/
def rot (x : W) (n : Nat) : W := x >>> n ||| x <<< (32 - n)
theorem rot_int (x : W) (n : Nat) : bits .or .u32 ((x.toNat : Int) / (2 ^ n : Nat)) (((x.toNat : Int) * (2 ^ (32 - n) : Nat)) % 4294967296) = ((rot x n).toNat : Int) := by
  rw [w_shr, w_shl, w_or]; rfl
end Go.Proofs.Yteajblfkfmopfaa.W32
