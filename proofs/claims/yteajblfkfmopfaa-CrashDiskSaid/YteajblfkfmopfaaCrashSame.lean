/- crash.Same: slices.EqualFunc with bytes.Equal. -/
import Derived.Test.YteajblfkfmopfaaCrashMayL
namespace Go.Proofs.Yteajblfkfmopfaa.CrashApply
set_option linter.unusedVariables false
set_option linter.unusedSimpArgs false
open Go Go.RowKit Go.Proofs.Yteajblfkfmopfaa.Mem Go.Proofs.Yteajblfkfmopfaa.Sum

set_option maxHeartbeats 2000000 in
set_option maxRecDepth 100000 in
theorem same_any (w : World) (ps ls : List (List Int)) (A B : Option Addr) (n c d : Nat) (hn : n ≤ 1000000) (h0 : RdP w A n c ps) (h1 : RdP w B n d ls) (bp : ∀ p ∈ ps, Byte p) (bl : ∀ p ∈ ls, Byte p) (heq : ps = ls) :
    Calls Try.prog 50 #[.slice A n c, .slice B n d] w fun e w' => e = .returned (.bool true) ∧ Below w.heap.size w w' := by
  subst heq
  have HN := As.mk hn
  have H0 := As.mk h0
  have H1 := As.mk h1
  have BP := As.mk bp
  have e0 : decide ((n : Int) = (n : Int)) = true := decide_eq_true rfl
  clear hn h0 h1 bp bl
  go_enter Try.func50, Try.ntmps50
  go_wp2
  go_loopg [17] n (fun kq v17 wr => ∃ i : Nat, i + kq = n ∧ v17 = .int .i64 i ∧ As (Below w.heap.size w wr))
  case atStart => exact ⟨0, by omega, rfl, ⟨Below.refl _ _⟩⟩
  case round =>
    obtain ⟨i, hi, rfl, HB⟩ := hrel
    have HI := As.mk hi
    clear hi
    by_cases hlt : i < n
    · have b0 : decide ((i : Int) < (n : Int)) = true := decide_eq_true (by omega)
      have b1 : decide (i < n) = true := decide_eq_true hlt
      have lt' : (i : Int) < (n : Int) := by omega
      have hw : wrap64 ((i : Int) + 1) = ((i + 1 : Nat) : Int) := wrap_up (by have := HN.out; omega)
      obtain ⟨ad, Aj, cj, ea, hx, hr⟩ := (H0.out.below HB.out).at i hlt
      cases ea
      obtain ⟨bd, Bj, dj, ea, hy, hs⟩ := (H1.out.below HB.out).at i hlt
      cases ea
      obtain ⟨b, hb⟩ : ∃ b, b = nthP ps i := ⟨_, rfl⟩
      have bb : Byte b := BP.out b (by rw [hb, nthP, List.getD_eq_getElem?_getD, List.getElem?_eq_getElem (by rw [H0.out.len]; exact hlt)]; exact List.getElem_mem _)
      rw [← hb] at hx hr hy hs
      obtain ⟨lb, hlb⟩ : ∃ lb, lb = b.length := ⟨_, rfl⟩
      rw [← hlb] at hx hr hy hs
      have HRB := As.mk hr
      have HRP := As.mk hs
      have BB := As.mk bb
      have HLT := As.mk hlt
      clear hr hs bb hb hlb hlt
      go_wp2_with (go_at_call 119; refine As.out ?_)
      refine As.mk ?_
      refine (BytesEq.any b b BB.out BB.out Aj Bj lb cj lb dj wr HRB.out HRP.out).mono ?_
      rintro e w5 ⟨rfl, hb5⟩
      rw [decide_eq_true rfl]
      have HB5 := As.mk (below_step HB.out hb5)
      clear hb5
      go_wp2
      go_roundg (n - (i + 1))
      case measure => have := HI.out; have := HLT.out; omega
      case rel => exact ⟨i + 1, by have := HI.out; have := HLT.out; omega, by go_num, HB5⟩
    · have b0 : decide ((i : Int) < (n : Int)) = false := decide_eq_false (by omega)
      have b1 : decide (i < n) = false := decide_eq_false hlt
      clear hlt
      go_wp2
      go_ret
      exact ⟨rfl, HB.out⟩
end Go.Proofs.Yteajblfkfmopfaa.CrashApply
