/- chatelaineref01.Same: whether two lists of bytes are one. -/
import Derived.Test.YteajblfkfmopfaaProg
import Derived.Test.YteajblfkfmopfaaMem
import Derived.Deep.LoopGhost
import Derived.Deep.QuietTactic
import Derived.BigQuiet
import Derived.Outline
namespace Go.Proofs.Yteajblfkfmopfaa.RefSame
set_option linter.unusedVariables false
set_option linter.unusedSimpArgs false
open Go Go.RowKit Go.Proofs.Yteajblfkfmopfaa.Mem

def Pre (x y : List Int) (i : Nat) : Prop := ∀ j, j < i → nth x j = nth y j

set_option maxHeartbeats 1000000 in
set_option maxRecDepth 100000 in
theorem same_any (x y : List Int) (A B : Option Addr) (n m c d : Nat) (w : World) (q : Bool) (hm : n ≤ 140737488351232) (hq : q = true ↔ x = y) (h0 : Rd .u8 w A n c x) (h1 : Rd .u8 w B m d y) :
    Calls Try.prog 61 #[.slice A n c, .slice B m d] w fun e w' => e = .returned (.bool q) ∧ ∃ nd, w' = w.drewN nd := by
  have hxl := h0.len
  have hyl := h1.len
  by_cases hl : n = m
  · subst hl
    have HE : As (x.length = y.length) := ⟨by omega⟩
    have HXL := As.mk hxl
    clear hxl hyl
    have HQ := As.mk hq
    clear hq
    go_enter Try.func61, Try.ntmps61
    go_wp2
    go_loopg [5] n (fun kq v5 wr => ∃ i : Nat, i + kq = n ∧ v5 = .int .i64 i ∧ As (Pre x y i) ∧ ∃ nd, wr = w.drewN nd)
    case atStart => exact ⟨0, by omega, rfl, ⟨fun j hj => by omega⟩, 0, rfl⟩
    case round =>
      obtain ⟨i, hi, rfl, HP, nd, rfl⟩ := hrel
      have HK := As.mk hi
      clear hi
      by_cases hlt : i < n
      · have c0 : decide ((i : Int) < (n : Int)) = true := decide_eq_true (by omega)
        have c1 : decide (i < n) = true := decide_eq_true hlt
        obtain ⟨ad0, e0, hx0⟩ := h0.at i hlt
        cases e0
        obtain ⟨ad1, e1, hx1⟩ := h1.at i hlt
        cases e1
        have hw : wrap64 ((i : Int) + 1) = ((i + 1 : Nat) : Int) := wrap_up (by omega)
        by_cases e : nth x i = nth y i
        · have q0 : (nth x i == nth y i) = true := beq_iff_eq.mpr e
          have q1 : (nth x i != nth y i) = false := bne_eq_false_iff_eq.mpr e
          have E := As.mk e
          clear e
          go_wp2
          go_quiet (fail)
          go_wp2
          go_roundg (n - (i + 1))
          case measure => have := HK.out; omega
          case rel => exact ⟨i + 1, by omega, by go_num, ⟨fun j hj => by
            by_cases e : j = i
            · subst e; exact E.out
            · exact HP.out j (by omega)⟩, _, rfl⟩
        · have q0 : (nth x i == nth y i) = false := beq_eq_false_iff_ne.mpr e
          have q1 : (nth x i != nth y i) = true := bne_iff_ne.mpr e
          have hf : q = false := by
            cases q
            · rfl
            · exact absurd (by rw [HQ.out.mp rfl]) e
          clear e
          subst hf
          go_wp2
          go_quiet (fail)
          go_wp2
          go_ret
          exact ⟨rfl, _, World.drewN_drewN _ _ _⟩
      · have c0 : decide ((i : Int) < (n : Int)) = false := decide_eq_false (by omega)
        have c1 : decide (i < n) = false := decide_eq_false hlt
        have hf : q = true := HQ.out.mpr (eq_of_getD HE.out fun j hj => HP.out j (by have := HK.out; have := HXL.out; omega))
        subst hf
        go_wp2
        go_ret
        exact ⟨rfl, _, rfl⟩
  · have b0 : ((n : Int) == (m : Int)) = false := beq_eq_false_iff_ne.mpr (by omega)
    have b1 : ((n : Int) != (m : Int)) = true := bne_iff_ne.mpr (by omega)
    have b2 : (n == m) = false := beq_eq_false_iff_ne.mpr (by omega)
    have hf : q = false := by
      cases q
      · rfl
      · exact absurd (by rw [← hxl, ← hyl, hq.mp rfl]) hl
    clear hl hq
    subst hf
    go_enter Try.func61, Try.ntmps61
    go_wp2
    go_ret
    exact ⟨rfl, 0, rfl⟩

end Go.Proofs.Yteajblfkfmopfaa.RefSame
