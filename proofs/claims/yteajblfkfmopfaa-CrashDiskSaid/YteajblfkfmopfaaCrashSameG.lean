/- crash.Same of any two images; crash.all$1$1. -/
import Derived.Test.YteajblfkfmopfaaCrashLawD
namespace Go.Proofs.Yteajblfkfmopfaa.LawCrash
set_option linter.unusedVariables false
set_option linter.unusedSimpArgs false
open Go Go.RowKit Go.Proofs.Yteajblfkfmopfaa.Mem Go.Proofs.Yteajblfkfmopfaa.Put32 Go.Proofs.Yteajblfkfmopfaa.Sum Go.Proofs.Yteajblfkfmopfaa.Hmac Go.Proofs.Yteajblfkfmopfaa.Parts Go.Proofs.Yteajblfkfmopfaa.Entries Go.Proofs.Yteajblfkfmopfaa.CrashApply

set_option maxHeartbeats 2000000 in
set_option maxRecDepth 100000 in
theorem sameC_any (w : World) (ps ls : List (List Int)) (A B : Option Addr) (n c m d : Nat) (hn : n ≤ 1000000) (h0 : RdP w A n c ps) (h1 : RdP w B m d ls) (bp : ∀ p ∈ ps, Byte p) (bl : ∀ p ∈ ls, Byte p) (r : Bool) (hr : r = true ↔ ps = ls) :
    Calls Try.prog 50 #[.slice A n c, .slice B m d] w fun e w' => e = .returned (.bool r) ∧ Below w.heap.size w w' := by
  have HN := As.mk hn
  have H0 := As.mk h0
  have H1 := As.mk h1
  have BP := As.mk bp
  have BL := As.mk bl
  have HR := As.mk hr
  by_cases hnm : n = m
  · subst hnm
    have e0 : decide ((n : Int) = (n : Int)) = true := decide_eq_true rfl
    clear hn h0 h1 bp bl hr
    go_enter Try.func50, Try.ntmps50
    go_wp2
    go_loopg [17] n (fun kq v17 wr => ∃ i : Nat, i + kq = n ∧ v17 = .int .i64 i ∧ As (∀ j, j < i → nthP ps j = nthP ls j) ∧ As (Below w.heap.size w wr))
    case atStart => exact ⟨0, by omega, rfl, ⟨fun j hj => by omega⟩, ⟨Below.refl _ _⟩⟩
    case round =>
      obtain ⟨i, hi, rfl, HJ, HB⟩ := hrel
      have HI := As.mk hi
      clear hi
      by_cases hlt : i < n
      · have b0 : decide ((i : Int) < (n : Int)) = true := decide_eq_true (by omega)
        have b1 : decide (i < n) = true := decide_eq_true hlt
        have lt' : (i : Int) < (n : Int) := by omega
        have hw : wrap64 ((i : Int) + 1) = ((i + 1 : Nat) : Int) := wrap_up (by have := HN.out; omega)
        obtain ⟨ad, Aj, cj, ea, hx, hr⟩ := (H0.out.below HB.out).at i hlt
        cases ea
        obtain ⟨bd, Bj, dj, ea, hy, hs⟩ := (H1.out.below HB.out).at i hlt
        cases ea
        have bb1 := BP.out _ (nthP_mem (rs := ps) (j := i) (by rw [H0.out.len]; exact hlt))
        have bb2 := BL.out _ (nthP_mem (rs := ls) (j := i) (by rw [H1.out.len]; exact hlt))
        have HJS := As.mk (show nthP ps i = nthP ls i → ∀ j, j < i + 1 → nthP ps j = nthP ls j from fun hh j hj => by
          rcases Nat.lt_succ_iff_lt_or_eq.1 hj with h | rfl
          · exact HJ.out j h
          · exact hh)
        have HNO := As.mk (show nthP ps i ≠ nthP ls i → r = false from fun hh => by
          cases r with
          | false => rfl
          | true => exact absurd (by rw [HR.out.1 rfl]) hh)
        generalize nthP ps i = x at *
        generalize nthP ls i = y at *
        obtain ⟨a, ha⟩ : ∃ a, x.length = a := ⟨_, rfl⟩
        obtain ⟨b, hb⟩ : ∃ b, y.length = b := ⟨_, rfl⟩
        rw [ha] at hx hr
        rw [hb] at hy hs
        have HRB := As.mk hr
        have HRP := As.mk hs
        have BB1 := As.mk bb1
        have BB2 := As.mk bb2
        have HLT := As.mk hlt
        clear hr hs bb1 bb2 ha hb hlt HJ
        go_wp2_with (go_at_call 119; refine As.out ?_)
        refine As.mk ?_
        refine (BytesEq.any x y BB1.out BB2.out Aj Bj a cj b dj wr HRB.out HRP.out).mono ?_
        rintro e w5 ⟨rfl, hb5⟩
        have HB5 := As.mk (below_step HB.out hb5)
        clear hb5
        rcases Classical.em (x = y) with hxy | hxy
        · rw [decide_eq_true hxy]
          have HJ2 := As.mk (HJS.out hxy)
          clear hxy HNO HJS
          go_wp2
          go_roundg (n - (i + 1))
          case measure => have := HI.out; have := HLT.out; omega
          case rel => exact ⟨i + 1, by have := HI.out; have := HLT.out; omega, by go_num, HJ2, HB5⟩
        · rw [decide_eq_false hxy]
          have HF := As.mk (HNO.out hxy)
          clear hxy HNO HJS
          go_wp2
          go_ret
          exact ⟨by rw [HF.out]; rfl, HB5.out⟩
      · have b0 : decide ((i : Int) < (n : Int)) = false := decide_eq_false (by omega)
        have b1 : decide (i < n) = false := decide_eq_false hlt
        have HT := As.mk (show r = true from HR.out.2 (List.ext_getElem (by rw [H0.out.len, H1.out.len]) fun j h1 h2 => by
          have := HJ.out j (by have := HI.out; have := H0.out.len; omega)
          unfold nthP at this
          rw [List.getD_eq_getElem?_getD, List.getD_eq_getElem?_getD, List.getElem?_eq_getElem h1, List.getElem?_eq_getElem h2] at this
          exact this))
        clear hlt
        go_wp2
        go_ret
        exact ⟨by rw [HT.out]; rfl, HB.out⟩
  · have e0 : decide ((n : Int) = (m : Int)) = false := decide_eq_false (by omega)
    have e1 : ((n : Int) != (m : Int)) = true := by simp; omega
    have e2 : ((n : Int) == (m : Int)) = false := by simp; omega
    have e3 : (n == m) = false := by simp; omega
    have HF := As.mk (show r = false by
      cases r with
      | false => rfl
      | true => exact absurd (by rw [← H0.out.len, ← H1.out.len, HR.out.1 rfl]) hnm)
    clear hn h0 h1 bp bl hr hnm
    go_enter Try.func50, Try.ntmps50
    go_wp2
    go_ret
    exact ⟨by rw [HF.out]; rfl, Below.refl _ _⟩
end Go.Proofs.Yteajblfkfmopfaa.LawCrash
