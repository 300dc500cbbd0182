/- chatelaineref01.Get64 of four bytes. -/
import Derived.Test.YteajblfkfmopfaaRefPad
namespace Go.Proofs.Yteajblfkfmopfaa.RefGet
set_option linter.unusedVariables false
set_option linter.unusedSimpArgs false
open Go Go.RowKit Go.Proofs.Yteajblfkfmopfaa.Mem Go.Proofs.Yteajblfkfmopfaa.W32 Go.Proofs.Yteajblfkfmopfaa.Turns Go.Proofs.Yteajblfkfmopfaa.Put32 Go.Proofs.Yteajblfkfmopfaa.Pad

def acc (x : List Int) : Nat → Nat
  | 0 => 0
  | i + 1 => 256 * acc x i + (nth x i).toNat
theorem byte_lt {x : List Int} (h : Byte x) (i : Nat) (hi : i < x.length) : ∃ b : Nat, nth x i = (b : Int) ∧ b < 256 := by
  have := h (nth x i) (by rw [nth_getD, List.getD_eq_getElem?_getD, List.getElem?_eq_getElem hi]; exact List.getElem_mem _)
  exact ⟨(nth x i).toNat, by omega, by omega⟩
theorem acc4 (x : List Int) (h : Byte x) (hl : x.length = 4) : acc x 4 = (word x 0).toNat := by
  obtain ⟨a, ha, a1⟩ := byte_lt h 0 (by omega)
  obtain ⟨b, hb, b1⟩ := byte_lt h 1 (by omega)
  obtain ⟨c, hc, c1⟩ := byte_lt h 2 (by omega)
  obtain ⟨d, hd, d1⟩ := byte_lt h 3 (by omega)
  simp only [acc, word, be32, BitVec.toNat_ofNat, Nat.zero_add, ha, hb, hc, hd, Int.toNat_natCast]
  omega
theorem acc_lt (x : List Int) (h : Byte x) : ∀ i, i ≤ x.length → acc x i < 256 ^ i := by
  intro i
  induction i with
  | zero => intro _; show 0 < 1; omega
  | succ i ih =>
    intro hi
    obtain ⟨b, hb, b1⟩ := byte_lt h i (by omega)
    have := ih (by omega)
    rw [acc, Nat.pow_succ, hb]
    omega
set_option maxHeartbeats 400000 in
set_option maxRecDepth 100000 in
theorem get64 (x : List Int) (hx : Byte x) (A : Option Addr) (c : Nat) (w : World) (h0 : Rd .u8 w A 4 c x) : Calls Try.prog 240 #[.slice A 4 c] w fun e w' => e = .returned (.int .u64 ((word x 0).toNat : Int)) ∧ w' = w := by
  rw [← acc4 x hx h0.len]
  have HX := As.mk hx
  clear hx
  go_enter Try.func240, Try.ntmps240
  go_wp2
  go_loopg [3, 4] 4 (fun kq v3 v4 wr => ∃ i : Nat, i + kq = 4 ∧ v3 = .int .u64 (acc x i : Int) ∧ v4 = .int .i64 i ∧ wr = w)
  case atStart => exact ⟨0, by omega, rfl, rfl, rfl⟩
  case round =>
    obtain ⟨i, hi, rfl, rfl, rfl⟩ := hrel
    have HI := As.mk hi
    by_cases hlt : i < 4
    · have c0 : decide ((i : Int) < 4) = true := decide_eq_true (by omega)
      have c1 : decide (i < 4) = true := decide_eq_true hlt
      have hw : wrap64 ((i : Int) + 1) = ((i + 1 : Nat) : Int) := wrap_up (by omega)
      obtain ⟨ad, ea, hc⟩ := h0.at i hlt
      obtain ⟨b, hb, b1⟩ := byte_lt HX.out i (by have := h0.len; omega)
      have ha := acc_lt x HX.out i (by have := h0.len; omega)
      have hp : 256 ^ i ≤ 16777216 := Nat.pow_le_pow_right (by omega) (show i ≤ 3 by omega)
      obtain ⟨a, hA⟩ : ∃ a, a = acc x i := ⟨_, rfl⟩
      have HAC := As.mk (show acc x (i + 1) = 256 * a + b by rw [acc, hb, hA]; rfl)
      rw [← hA] at ha ⊢
      obtain ⟨s, hs⟩ : ∃ s, s = 256 * a + b := ⟨_, rfl⟩
      have k0 : IntKind.u64.wrap (256 * (a : Int)) = 256 * (a : Int) := Go.Proofs.Yteajblfkfmopfaa.Bits.wrap_u .u64 rfl (256 * a) (by show 256 * a < 18446744073709551616; omega)
      have k1 : IntKind.u64.wrap (b : Int) = (b : Int) := Go.Proofs.Yteajblfkfmopfaa.Bits.wrap_u .u64 rfl b (by show b < 18446744073709551616; omega)
      have k2 : IntKind.u64.wrap (256 * (a : Int) + (b : Int)) = (s : Int) := by
        have := Go.Proofs.Yteajblfkfmopfaa.Bits.wrap_u .u64 rfl (256 * a + b) (by show 256 * a + b < 18446744073709551616; omega)
        rw [hs]; exact this
      rw [hb] at hc
      have HS := As.mk hs
      clear hs hb b1 ha hp hA hi
      cases ea
      go_wp2
      go_roundg (4 - (i + 1))
      case measure => have := HI.out; omega
      case rel =>
        refine ⟨i + 1, by have := HI.out; omega, ?_, by go_num, rfl⟩
        rw [HAC.out, ← HS.out]
    · have c0 : decide ((i : Int) < 4) = false := decide_eq_false (by omega)
      have c1 : decide (i < 4) = false := decide_eq_false hlt
      obtain rfl : i = 4 := by have := HI.out; omega
      go_wp2
      go_ret
      exact ⟨rfl, rfl⟩
end Go.Proofs.Yteajblfkfmopfaa.RefGet
