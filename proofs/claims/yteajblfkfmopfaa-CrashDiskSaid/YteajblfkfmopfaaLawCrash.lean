/- chatelainelaw34: within. -/
import Derived.Test.YteajblfkfmopfaaCrashSame
namespace Go.Proofs.Yteajblfkfmopfaa.LawCrash
set_option linter.unusedVariables false
set_option linter.unusedSimpArgs false
open Go Go.RowKit Go.Proofs.Yteajblfkfmopfaa.Mem Go.Proofs.Yteajblfkfmopfaa.Sum Go.Proofs.Yteajblfkfmopfaa.Entries

set_option maxHeartbeats 2000000 in
set_option maxRecDepth 100000 in
theorem within_any (w : World) (sec : Int) (E : Option Addr) (m d : Nat) (es : List (Int × List Int)) (hm : m ≤ 1000000) (h1 : RdE w E m d es) :
    Calls Try.prog 46 #[.int .i64 sec, .slice E m d] w fun e w' => e = .returned (.bool (!(es.any (outE sec)))) ∧ Below w.heap.size w w' := by
  have HM := As.mk hm
  have H1 := As.mk h1
  clear hm h1
  go_enter Try.func46, Try.ntmps46
  go_wp2
  go_loopg [9] m (fun kq v9 wr => ∃ i : Nat, i + kq = m ∧ v9 = .int .i64 i ∧ As (∀ k, k < i → outE sec (nthE es k) = false) ∧ As (Below w.heap.size w wr))
  case atStart => exact ⟨0, by omega, rfl, ⟨fun k hk => by omega⟩, ⟨Below.refl _ _⟩⟩
  case round =>
    obtain ⟨i, hi, rfl, HK, HB⟩ := hrel
    have HI := As.mk hi
    clear hi
    by_cases hlt : i < m
    · have b0 : decide ((i : Int) < (m : Int)) = true := decide_eq_true (by omega)
      have b1 : decide (i < m) = true := decide_eq_true hlt
      have lt' : (i : Int) < (m : Int) := by omega
      have hw : wrap64 ((i : Int) + 1) = ((i + 1 : Nat) : Int) := wrap_up (by have := HM.out; omega)
      obtain ⟨ad, Aj, cj, ea, h1, h2, h3⟩ := (H1.out.below HB.out).at i hlt
      cases ea
      obtain ⟨s, hs⟩ : ∃ s, s = (nthE es i).1 := ⟨_, rfl⟩
      obtain ⟨l, hl⟩ : ∃ l, l = (nthE es i).2.length := ⟨_, rfl⟩
      rw [← hs] at h1
      rw [← hl] at h2
      have HQ := As.mk (show outE sec (nthE es i) = (decide (s < 0) || decide (sec ≤ s)) by rw [hs]; rfl)
      have HMEM := As.mk (show nthE es i ∈ es by rw [nthE, List.getD_eq_getElem?_getD, List.getElem?_eq_getElem (by rw [H1.out.len]; exact hlt)]; exact List.getElem_mem _)
      have H1c := As.mk h1
      have H2c := As.mk h2
      have HLT := As.mk hlt
      have HBa := As.mk (below_step HB.out (below_alloc (Below.refl wr.heap.size wr) (.cells #[.int .i64 s, .slice Aj l cj] 90)))
      clear h1 h2 h3 hs hl hlt
      by_cases ho : outE sec (nthE es i) = true
      · have HANY := As.mk (show (!(es.any (outE sec))) = false by rw [List.any_eq_true.2 ⟨_, HMEM.out, ho⟩]; rfl)
        rw [HQ.out, Bool.or_eq_true, decide_eq_true_eq, decide_eq_true_eq] at ho
        by_cases hneg : s < 0
        · have z0 : decide (s < 0) = true := decide_eq_true hneg
          clear ho hneg
          go_wp2_with (refine wpList_load_at rfl 90 (.tmp 11) rfl (ad.add (i * 2)) rfl [.int .i64 s, .slice Aj l cj] _ (fun j v hv => by rcases j with _ | _ | j <;> simp at hv <;> subst hv <;> rw [add_add] <;> first | exact H1c.out | exact H2c.out) Try.underlying90 rfl infoEn ?_)
          go_ret
          exact ⟨by rw [HANY.out]; rfl, HBa.out⟩
        · have z0 : decide (s < 0) = false := decide_eq_false hneg
          have z1 : decide (sec ≤ s) = true := decide_eq_true (by omega)
          clear ho hneg
          go_wp2_with (refine wpList_load_at rfl 90 (.tmp 11) rfl (ad.add (i * 2)) rfl [.int .i64 s, .slice Aj l cj] _ (fun j v hv => by rcases j with _ | _ | j <;> simp at hv <;> subst hv <;> rw [add_add] <;> first | exact H1c.out | exact H2c.out) Try.underlying90 rfl infoEn ?_)
          go_ret
          exact ⟨by rw [HANY.out]; rfl, HBa.out⟩
      · have HOF := As.mk (show outE sec (nthE es i) = false by simpa using ho)
        have ho2 := HOF.out
        rw [HQ.out, Bool.or_eq_false_iff, decide_eq_false_iff_not, decide_eq_false_iff_not] at ho2
        have z0 : decide (s < 0) = false := decide_eq_false ho2.1
        have z1 : decide (sec ≤ s) = false := decide_eq_false ho2.2
        clear ho ho2
        go_wp2_with (refine wpList_load_at rfl 90 (.tmp 11) rfl (ad.add (i * 2)) rfl [.int .i64 s, .slice Aj l cj] _ (fun j v hv => by rcases j with _ | _ | j <;> simp at hv <;> subst hv <;> rw [add_add] <;> first | exact H1c.out | exact H2c.out) Try.underlying90 rfl infoEn ?_)
        go_roundg (m - (i + 1))
        case measure => have := HI.out; have := HLT.out; omega
        case rel =>
          refine ⟨i + 1, by have := HI.out; have := HLT.out; omega, by go_num, ⟨fun k hk => ?_⟩, HBa⟩
          rcases Nat.lt_succ_iff_lt_or_eq.1 hk with h | rfl
          · exact HK.out k h
          · exact HOF.out
    · have b0 : decide ((i : Int) < (m : Int)) = false := decide_eq_false (by omega)
      have b1 : decide (i < m) = false := decide_eq_false hlt
      have HANY := As.mk (show (!(es.any (outE sec))) = true by
        rw [List.any_eq_false.2 (fun e he => by
          obtain ⟨k, hk, rfl⟩ := List.mem_iff_getElem.1 he
          have := HK.out k (by have := H1.out.len; omega)
          rw [nthE, List.getD_eq_getElem?_getD, List.getElem?_eq_getElem hk] at this
          simpa using this)]; rfl)
      clear hlt
      go_wp2
      go_ret
      exact ⟨by rw [HANY.out]; rfl, HB.out⟩
end Go.Proofs.Yteajblfkfmopfaa.LawCrash
