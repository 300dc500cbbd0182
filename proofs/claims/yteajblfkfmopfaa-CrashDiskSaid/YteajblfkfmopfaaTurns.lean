/- sha.turns, word.Get32, word.Put32, word.Put64. -/
import Derived.Test.YteajblfkfmopfaaRotate
import Derived.Deep.LoopGhost
import Derived.Deep.QuietTactic
import Derived.BigQuiet
import Derived.BigRegion
namespace Go.Proofs.Yteajblfkfmopfaa.Turns
set_option linter.unusedVariables false
set_option linter.unusedSimpArgs false
open Go Go.RowKit Go.Proofs.Yteajblfkfmopfaa.Mem Go.Proofs.Yteajblfkfmopfaa.W32 Go.Proofs.Yteajblfkfmopfaa.Bits

def turns (x : W) (a b c : Nat) : W := rot x a ^^^ rot x b ^^^ rot x c
theorem any (x : W) (w : World) (a b c : Nat) (ha : a ∈ [2, 6, 7, 11, 13, 17, 18, 19, 22, 25]) (hb : b ∈ [2, 6, 7, 11, 13, 17, 18, 19, 22, 25]) (hc : c ∈ [2, 6, 7, 11, 13, 17, 18, 19, 22, 25]) :
    Calls Try.prog 237 #[.int .u32 (x.toNat : Int), .int .i64 a, .int .i64 b, .int .i64 c] w fun e w' => e = .returned (.int .u32 ((turns x a b c).toNat : Int)) ∧ w = w' := by
  have HA := As.mk ha
  have HB := As.mk hb
  have HC := As.mk hc
  clear ha hb hc
  go_enter Try.func237, Try.ntmps237
  go_wp2_with (go_at_call 250; first
    | ((with_reducible refine (Rotate.any x _ a HA.out).mono ?_); rintro e w1 ⟨rfl, rfl⟩)
    | ((with_reducible refine (Rotate.any x _ b HB.out).mono ?_); rintro e w1 ⟨rfl, rfl⟩)
    | ((with_reducible refine (Rotate.any x _ c HC.out).mono ?_); rintro e w1 ⟨rfl, rfl⟩))
  go_ret
  exact ⟨ret_int (by rw [w_xor, w_xor]; rfl), rfl⟩

/-- four bytes, as a word -/
def be32 (a b c d : Nat) : W := BitVec.ofNat 32 (a * 16777216 + b * 65536 + c * 256 + d)
theorem or_add (a b k : Nat) (hb : b < 2 ^ k) : a * 2 ^ k ||| b = a * 2 ^ k + b := by
  rw [Nat.mul_comm, ← Nat.two_pow_add_eq_or_of_lt hb a]
theorem be32_int (a b c d : Nat) (ha : a < 256) (hb : b < 256) (hc : c < 256) (hd : d < 256) :
    bits .or .u32 (bits .or .u32 (bits .or .u32 ((a : Int) * 16777216) ((b : Int) * 65536)) ((c : Int) * 256)) (d : Int) = ((be32 a b c d).toNat : Int) := by
  have e1 : (a : Int) * 16777216 = ((a * 16777216 : Nat) : Int) := by omega
  have e2 : (b : Int) * 65536 = ((b * 65536 : Nat) : Int) := by omega
  have e3 : (c : Int) * 256 = ((c * 256 : Nat) : Int) := by omega
  have o1 : a * 16777216 ||| b * 65536 = a * 16777216 + b * 65536 := or_add a (b * 65536) 24 (by omega)
  have o2 : (a * 16777216 + b * 65536) ||| c * 256 = a * 16777216 + b * 65536 + c * 256 := by
    have := or_add (a * 256 + b) (c * 256) 16 (by omega)
    rw [show (a * 256 + b) * 2 ^ 16 = a * 16777216 + b * 65536 by omega] at this
    exact this
  have o3 : (a * 16777216 + b * 65536 + c * 256) ||| d = a * 16777216 + b * 65536 + c * 256 + d := by
    have := or_add (a * 65536 + b * 256 + c) d 8 (by omega)
    rw [show (a * 65536 + b * 256 + c) * 2 ^ 8 = a * 16777216 + b * 65536 + c * 256 by omega] at this
    exact this
  rw [e1, e2, e3, nu32_or _ _ (by omega) (by omega), o1, nu32_or _ _ (by omega) (by omega), o2, nu32_or _ _ (by omega) (by omega), o3]
  unfold be32
  rw [BitVec.toNat_ofNat]
  omega

/-- the word of four bytes from place i on -/
def word (x : List Int) (i : Nat) : W := be32 (nth x i).toNat (nth x (i + 1)).toNat (nth x (i + 2)).toNat (nth x (i + 3)).toNat

set_option maxHeartbeats 400000 in
set_option maxRecDepth 100000 in
theorem get32 (x : List Int) (hx : Byte x) (A : Option Addr) (c : Nat) (w : World) (h0 : Rd .u8 w A 4 c x) :
    Calls Try.prog 249 #[.slice A 4 c] w fun e w' => e = .returned (.tuple #[.int .u32 ((word x 0).toNat : Int), .bool true]) ∧ ∃ nd, w' = w.drewN nd := by
  obtain ⟨ad, rfl, hc⟩ := h0.cells (by omega)
  obtain ⟨a0, l0, e0⟩ := hx.nat 0
  obtain ⟨a1, l1, e1⟩ := hx.nat 1
  obtain ⟨a2, l2, e2⟩ := hx.nat 2
  obtain ⟨a3, l3, e3⟩ := hx.nat 3
  have c0 : w.cell? ad = some (.int .u8 a0) := by
    have := hc 0 (by omega)
    rwa [show ad.add 0 = ad by unfold Addr.add; simp, e0] at this
  have c1 : w.cell? ⟨ad.block, ad.off + 1, none⟩ = some (.int .u8 a1) := by
    have := hc 1 (by omega)
    rwa [show ad.add 1 = ⟨ad.block, ad.off + 1, none⟩ by unfold Addr.add; simp, e1] at this
  have c2 : w.cell? ⟨ad.block, ad.off + 2, none⟩ = some (.int .u8 a2) := by
    have := hc 2 (by omega)
    rwa [show ad.add 2 = ⟨ad.block, ad.off + 2, none⟩ by unfold Addr.add; simp, e2] at this
  have c3 : w.cell? ⟨ad.block, ad.off + 3, none⟩ = some (.int .u8 a3) := by
    have := hc 3 (by omega)
    rwa [show ad.add 3 = ⟨ad.block, ad.off + 3, none⟩ by unfold Addr.add; simp, e3] at this
  have HW : As (word x 0 = be32 a0 a1 a2 a3) := ⟨by unfold word; rw [e0, e1, e2, e3]; rfl⟩
  have HE := As.mk (be32_int a0 a1 a2 a3 l0 l1 l2 l3)
  have wr : ∀ a : Nat, a < 256 → IntKind.u32.wrap (a : Int) = a ∧ IntKind.u32.wrap ((a : Int) * 16777216) = (a : Int) * 16777216 ∧ IntKind.u32.wrap ((a : Int) * 65536) = (a : Int) * 65536 ∧ IntKind.u32.wrap ((a : Int) * 256) = (a : Int) * 256 := fun a ha => by
    simp only [IntKind.wrap_u32]; omega
  obtain ⟨r0, s0, _, _⟩ := wr a0 l0
  obtain ⟨r1, _, s1, _⟩ := wr a1 l1
  obtain ⟨r2, _, _, s2⟩ := wr a2 l2
  obtain ⟨r3, _, _, _⟩ := wr a3 l3
  clear hc e0 e1 e2 e3 h0 hx wr
  go_enter Try.func249, Try.ntmps249
  go_wp2
  go_quiet (fail)
  clear r0 r1 r2 r3 s0 s1 s2
  go_wp2
  go_ret2
  rw [HW.out]
  exact ⟨by rw [← HE.out]; rfl, _, rfl⟩

end Go.Proofs.Yteajblfkfmopfaa.Turns
