/- same.Choose: what the call makes. -/
import Derived.Test.YtpijkibhjklkoaaProg
import Derived.Test.YtpijkibhjklkoaaMem
import Derived.Test.YtpijkibhjklkoaaBits
import Derived.Deep.LoopGhost
import Derived.Deep.QuietTactic
import Derived.BigQuiet
import Derived.BigRegion
import Derived.Outline
namespace Go.Proofs.Ytpijkibhjklkoaa.Choose
open Go Go.RowKit Go.Proofs.Ytpijkibhjklkoaa.Mem Go.Proofs.Ytpijkibhjklkoaa.Bits

theorem info5 : (Try.prog.info? 5).map (fun i => (i.zero, i.size, i.bytes)) = some (some (.int .u8 0), 1, 1) := by kernel_rfl

/-- What is chosen at place j. -/
def pickd (first : Bool) (x y : List Int) (j : Nat) : Int := if first then nth x j else nth y j

theorem one_bits : ∀ a : BitVec 8, bits .and .u8 (a.toNat : Int) 255 = a.toNat ∧ bits .and .u8 (a.toNat : Int) 0 = 0 ∧ bits .andNot .u8 (a.toNat : Int) 255 = 0 ∧ bits .andNot .u8 (a.toNat : Int) 0 = a.toNat ∧ bits .or .u8 (a.toNat : Int) 0 = a.toNat ∧ bits .or .u8 0 (a.toNat : Int) = a.toNat := by decide +kernel
theorem one_bits' (a : Nat) (ha : a < 256) : bits .and .u8 (a : Int) 255 = a ∧ bits .and .u8 (a : Int) 0 = 0 ∧ bits .andNot .u8 (a : Int) 255 = 0 ∧ bits .andNot .u8 (a : Int) 0 = a ∧ bits .or .u8 (a : Int) 0 = a ∧ bits .or .u8 0 (a : Int) = a := by
  have := one_bits (BitVec.ofNat 8 a)
  simp only [BitVec.toNat_ofNat] at this
  rwa [show a % 2 ^ 8 = a by omega] at this

theorem mix (first : Bool) (x y : List Int) (hx : Byte x) (hy : Byte y) (j : Nat) :
    bits .or .u8 (bits .and .u8 (nth x j) (if first then 255 else 0)) (bits .andNot .u8 (nth y j) (if first then 255 else 0)) = pickd first x y j := by
  obtain ⟨a, ha, ea⟩ := hx.nat j
  obtain ⟨b, hb, eb⟩ := hy.nat j
  unfold pickd
  rw [ea, eb]
  have h1 := one_bits' a ha
  have h2 := one_bits' b hb
  cases first
  · simp only [Bool.false_eq_true, if_false]
    rw [h1.2.1, h2.2.2.2.1, h2.2.2.2.2.2]
  · simp only [if_true]
    rw [h1.1, h2.2.2.1, h1.2.2.2.2.1]

theorem unlike (first : Bool) (A B : Option Addr) (n m c d : Nat) (w : World) (hl : n ≠ m)  :
    Calls Try.prog 27 #[.bool first, .slice A n c, .slice B m d] w fun e w' => e = .returned (.tuple #[.slice none 0 0, .int .i64 2]) ∧ w = w' := by
  have b0 : ((n : Int) == (m : Int)) = false := beq_eq_false_iff_ne.mpr (by omega)
  have b1 : ((n : Int) != (m : Int)) = true := bne_iff_ne.mpr (by omega)
  have b2 : (n == m) = false := beq_eq_false_iff_ne.mpr (by omega)
  clear hl
  go_enter Try.func27, Try.ntmps27
  go_wp2
  go_ret2
  exact ⟨rfl, rfl⟩

set_option maxHeartbeats 1000000 in
set_option maxRecDepth 100000 in
theorem like (first : Bool) (x y : List Int) (A B : Option Addr) (n c d : Nat) (w : World) (hm : n ≤ 140737488351232) (hx : Byte x) (hy : Byte y) (h0 : Rd .u8 w A n c x) (h1 : Rd .u8 w B n d y) :
    Calls Try.prog 27 #[.bool first, .slice A n c, .slice B n d] w fun e w' => e = .returned (.tuple #[.slice (some ⟨w.heap.size, 0, none⟩) n n, .int .i64 0]) ∧
      Below w.heap.size w w' ∧ w'.rowIs w.heap.size 5 n (fun j => .int .u8 (pickd first x y j)) := by
  have HX := As.mk hx
  have HY := As.mk hy
  clear hx hy
  have hmk := run_make_row' (P := Try.prog) 22 5 (.int .u8 0) 1 Try.underlying22 info5 rfl .i64 .i64 n (by omega) (by omega)
  have HG : As (∀ j, bits .or .u8 (bits .and .u8 (nth x j) (if first then 255 else 0)) (bits .andNot .u8 (nth y j) (if first then 255 else 0)) = pickd first x y j) := ⟨fun j => mix first x y HX.out HY.out j⟩
  obtain ⟨g, hg⟩ : ∃ g : Nat → Int, g = pickd first x y := ⟨_, rfl⟩
  rw [← hg] at HG ⊢
  clear hg
  cases first
  all_goals
    simp only [if_true, Bool.false_eq_true, if_false] at HG
    go_enter Try.func27, Try.ntmps27
    go_wp2
    clear hmk
    go_loopg [22] (n) (fun kq v22 wr => ∃ i : Nat, i + kq = n ∧ v22 = .int .i64 i ∧ As (Below w.heap.size w wr) ∧ As (wr.rowIs w.heap.size 5 n (fun j => if j < i then .int .u8 (g j) else .int .u8 0)))
    case atStart => exact ⟨0, by omega, rfl, ⟨below_alloc (Below.refl _ _) _⟩, ⟨(World.rowIs_made w _ n 5).congr (fun j _ => by rw [if_neg (by omega)])⟩⟩
    case round =>
      obtain ⟨i, hi, rfl, HB, HR⟩ := hrel
      have HK := As.mk hi
      clear hi
      by_cases hlt : i < n
      · have c0 : decide ((i : Int) < (n : Int)) = true := decide_eq_true (by omega)
        have c1 : decide (i < n) = true := decide_eq_true hlt
        obtain ⟨ad0, e0, hx0⟩ := (h0.below HB.out).at i hlt
        cases e0
        obtain ⟨ad1, e1, hx1⟩ := (h1.below HB.out).at i hlt
        cases e1
        have t1 : wr.cell? ⟨w.heap.size, i, none⟩ = some (.int .u8 0) := by simpa using HR.out.cell hlt
        have t2 : wr.frozen? ⟨w.heap.size, i, none⟩ = false := HR.out.frozen i
        have hw : wrap64 ((i : Int) + 1) = ((i + 1 : Nat) : Int) := wrap_up (by omega)
        go_wp2
        go_big_region
        go_wp2
        go_roundg (n - (i + 1))
        case measure => have := HK.out; omega
        case rel => exact ⟨i + 1, by omega, by go_num, ⟨(HB.out.setCell (Nat.le_refl _) _).drew⟩, ⟨(HR.out.set i _).congr (fun j _ => by
          by_cases e : j = i
          · subst e; rw [if_pos rfl, if_pos (by omega), HG.out j]
          · rw [if_neg e]
            by_cases hlt : j < i
            · rw [if_pos hlt, if_pos (by omega)]
            · rw [if_neg hlt, if_neg (by omega)])⟩⟩
      · have c0 : decide ((i : Int) < (n : Int)) = false := decide_eq_false (by omega)
        have c1 : decide (i < n) = false := decide_eq_false hlt
        go_wp2
        go_ret2
        exact ⟨rfl, HB.out, HR.out.congr (fun j hj => by rw [if_pos (by have := HK.out; omega)])⟩

end Go.Proofs.Ytpijkibhjklkoaa.Choose
