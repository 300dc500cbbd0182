/- The statement CrashApplies, where the writes are within. -/
import Derived.Test.YteajblfkfmopfaaCrashLawA
namespace Go.Proofs.Yteajblfkfmopfaa.LawCrash
set_option linter.unusedVariables false
set_option linter.unusedSimpArgs false
open Go Go.RowKit Go.Proofs.Yteajblfkfmopfaa.Mem Go.Proofs.Yteajblfkfmopfaa.Put32 Go.Proofs.Yteajblfkfmopfaa.Sum Go.Proofs.Yteajblfkfmopfaa.Hmac Go.Proofs.Yteajblfkfmopfaa.Parts Go.Proofs.Yteajblfkfmopfaa.Entries Go.Proofs.Yteajblfkfmopfaa.CrashApply

set_option maxHeartbeats 4000000 in
set_option maxRecDepth 100000 in
theorem appl_in (w : World) (A E K : Option Addr) (n c m d kn kc : Nat) (ps : List (List Int)) (es : List (Int × List Int)) (bs : List Bool) (hn : n ≤ 12) (hm : m ≤ 14) (hk : kn ≤ 40) (h0 : RdP w A n c ps) (h1 : RdE w E m d es) (h2 : RdB w K kn kc bs) (hf : few34 ps es = true) (hr : mayF n m es = 0) (hw : (!(es.any (outE n))) = true) (hlp : ∀ p ∈ ps, p.length ≤ 1000000) (hle : ∀ e ∈ es, e.2.length ≤ 1000000) (bp : ∀ p ∈ ps, Byte p) (be : ∀ e ∈ es, Byte e.2) :
    Calls Try.prog 7 #[.slice A n c, .slice E m d, .slice K kn kc] w fun e w' => e = .returned (.bool true) ∧ Below w.heap.size w w' := by
  have HN := As.mk hn
  have HM := As.mk hm
  have H0 := As.mk h0
  have H1 := As.mk h1
  have H2 := As.mk h2
  have HF := As.mk hf
  have HR := As.mk hr
  have HW := As.mk hw
  have HLP := As.mk hlp
  have HLE := As.mk hle
  have HBP := As.mk bp
  have HBE := As.mk be
  have HIN := As.mk (in_of_may hr h1.len)
  have hk' : ¬ (40 : Int) < (kn : Int) := by omega
  have c0 : decide ((40 : Int) < (kn : Int)) = false := decide_eq_false hk'
  have c1 : decide (40 < kn) = false := decide_eq_false (by omega)
  obtain ⟨X, hX⟩ : ∃ X, X = doneF (keptF bs) 0 ps es := ⟨_, rfl⟩
  have HX := As.mk hX
  have HXB := As.mk (show ∀ p ∈ X, Byte p ∧ p.length ≤ 1000000 by
    rw [hX]
    exact doneF_all _ (fun p => Byte p ∧ p.length ≤ 1000000) es 0 ps (fun p hp => ⟨bp p hp, hlp p hp⟩) (fun e he => ⟨be e he, hle e he⟩))
  have HXL := As.mk (show X.length = n by rw [hX]; exact (doneF_len _ _ _ _).trans h0.len)
  have HLX := As.mk (show leftF es ps X n = true by
    rw [hX]
    refine leftF_done _ es ps n h0.len fun e he => ?_
    obtain ⟨t, ht, rfl⟩ := mem_nthE he
    exact ((in_of_may hr h1.len) t (by rw [← h1.len]; exact ht)).1)
  have HLO := As.mk (leftF_own es ps n)
  clear hn hm h0 h1 h2 hf hr hw hlp hle bp be hX
  go_enter Try.func7, Try.ntmps7
  go_wp2_with (first
    | (go_at_call 43; (with_reducible refine (awake_true _).mono ?_); rintro e w1 ⟨rfl, hb⟩; have HB1 := As.mk hb; clear hb)
    | (go_at_call 44; (with_reducible refine (few34_any w1 A E n c m d ps es (by have := HN.out; omega) (by have := HM.out; omega) (H0.out.below HB1.out) (H1.out.below HB1.out) true HF.out).mono ?_); rintro e w2 ⟨rfl, hb⟩; have HB2 := As.mk (below_step HB1.out hb); have H02 := As.mk (H0.out.below (below_step HB1.out hb)); have H12 := As.mk (H1.out.below (below_step HB1.out hb)); have H22 := As.mk (H2.out.below (below_step HB1.out hb)); clear hb)
    | (go_at_call 45; (with_reducible refine (apply_ok w2 ps es bs A E K n c m d kn kc (by have := HN.out; omega) (by have := HM.out; omega) H02.out H12.out H22.out HLP.out HLE.out HR.out).mono ?_); rintro e w3 ⟨A3, c3, L3, B3, rfl, hB, hp, hb, hfr⟩; rw [← HX.out] at hp hfr; have HB3 := As.mk hb; have HP3 := As.mk hp; have HF3 := As.mk (SoftAll.of_fresh hfr); have HBB := As.mk hB; clear hb hp hfr hB)
    | (go_at_call 46; (with_reducible refine (within_any w3 n E m d es (by have := HM.out; omega) (H12.out.below HB3.out)).mono ?_); rintro e w4 ⟨rfl, hb⟩; rw [HW.out]; have HB34 := As.mk hb; have HB4 := As.mk (below_step HB3.out hb); clear hb)
    | (go_at_call 48; (with_reducible refine (done34_old w2 w4 ps es bs A E K n c m d kn kc (by have := HN.out; omega) (by have := HM.out; omega) HB4.out H02.out H12.out (H22.out.below HB4.out) HIN.out).mono ?_); rintro e w5 ⟨A5, c5, L5, rfl, hp, hb, ho⟩; rw [← HX.out] at hp ho; have HP5 := As.mk hp; have HO5 := As.mk ho; have HB45 := As.mk hb; have HB5 := As.mk (below_step HB4.out (hb.mono (Nat.le_refl _))); clear hp hb ho)
    | (go_at_call 49; (with_reducible refine (same34_any w5 A3 A5 n c3 n c5 X X (by have := HN.out; omega) (fun p hp => (HXB.out p hp).2) ((HP3.out.below (below_step HB34.out HB45.out)).rdp) HP5.out.rdp true (iff_of_true rfl rfl)).mono ?_); rintro e w6 ⟨rfl, hb⟩; have HB6 := As.mk hb; clear hb)
    | (go_at_call 50; (with_reducible refine (sameC_any w6 X X A3 A5 n c3 n c5 (by have := HN.out; omega) ((HP3.out.below (below_step (below_step HB34.out HB45.out) HB6.out)).rdp) (HP5.out.below HB6.out).rdp (fun p hp => (HXB.out p hp).1) (fun p hp => (HXB.out p hp).1) true (iff_of_true rfl rfl)).mono ?_); rintro e w7 ⟨rfl, hb⟩; have HB7 := As.mk (below_step HB6.out hb); clear hb)
    | (go_at_call 47; (with_reducible refine (mayL_any w7 ps X es A E A3 n c m d n c3 (by have := HN.out; omega) (by have := HM.out; omega) (H02.out.below (below_step HB5.out HB7.out)) (H12.out.below (below_step HB5.out HB7.out)) ((HP3.out.below (below_step (below_step HB34.out HB45.out) HB7.out)).rdp) HR.out HBP.out (fun p hp => (HXB.out p hp).1) HBE.out).mono ?_); rintro e w8 ⟨rfl, hb⟩; rw [HLX.out]; have HB8 := As.mk (below_step HB7.out hb); clear hb)
    | (go_at_call 47; (with_reducible refine (mayL_any w8 ps ps es A E A n c m d n c (by have := HN.out; omega) (by have := HM.out; omega) (H02.out.below (below_step HB5.out HB8.out)) (H12.out.below (below_step HB5.out HB8.out)) (H02.out.below (below_step HB5.out HB8.out)) HR.out HBP.out HBP.out HBE.out).mono ?_); rintro e w9 ⟨rfl, hb⟩; rw [HLO.out]; have HB9 := As.mk (below_step HB8.out hb); clear hb))
  have HW39 := As.mk (below_step (below_step HB34.out HB45.out) HB9.out)
  have HO9 := As.mk (HP3.out.own.below HW39.out)
  have HS9 := As.mk (HF3.out.below HW39.out)
  have HB29 := As.mk (below_step HB5.out HB9.out)
  have HO59 := As.mk (HP5.out.own.below HB9.out)
  have HSZ := As.mk (show w3.heap.size ≤ w4.heap.size ∧ w2.heap.size ≤ B3 from ⟨HB34.out.size, HBB.out⟩)
  clear HB3 HB34 HB4 HB45 HB5 HB6 HB7 HB8 HB9 HP3 HF3 HB1 HBB H0 H1 H2 c0 c1 hk'
  go_loopg [84] n (fun kq v84 wr => ∃ i : Nat, i + kq = n ∧ v84 = .int .i64 (i : Int) ∧ As (OwnAt wr B3 (.slice A3 n c3) n L3) ∧ As (SoftAll wr L3 X n B3 w3.heap.size (Value.slice A3 n c3).ownBlock) ∧ As (Below B3 w9 wr) ∧ As (∀ k, w3.heap.size ≤ k → k < w9.heap.size → wr.heap[k]? = w9.heap[k]?))
  case atStart => exact ⟨0, by omega, rfl, HO9, HS9, ⟨Below.refl _ _⟩, ⟨fun _ _ _ => rfl⟩⟩
  case round =>
    clear HO9 HS9
    obtain ⟨i, hi, rfl, HO, HS, HB, HK⟩ := hrel
    have HII := As.mk hi
    clear hi
    by_cases hlt : i < n
    · have b0 : decide ((i : Int) < (n : Int)) = true := decide_eq_true (by omega)
      have b1 : decide (i < n) = true := decide_eq_true hlt
      have lt' : (i : Int) < (n : Int) := by omega
      have hw : wrap64 ((i : Int) + 1) = ((i + 1 : Nat) : Int) := wrap_up (by have := HN.out; omega)
      obtain ⟨Aj, cj, hL, _⟩ := HS.out i hlt
      obtain ⟨a3, ea, hc⟩ := HO.out.cell i _ hL
      cases ea
      obtain ⟨l, hl⟩ : ∃ l, l = (nthP X i).length := ⟨_, rfl⟩
      rw [← hl] at hL hc
      have HLL := As.mk hl
      have HLB := As.mk (show l ≤ 1000000 by rw [hl]; exact (HXB.out _ (nthP_mem (by rw [HXL.out]; exact hlt))).2)
      have HL := As.mk hL
      have HLT := As.mk hlt
      clear hlt hl hL
      obtain ⟨wo, rfl⟩ : ∃ wo : World, wo = wr := ⟨_, rfl⟩
      go_wp2
      clear hc
      go_loopg [90] l (fun kq v90 wr => ∃ t : Nat, t + kq = l ∧ v90 = .int .i64 (t : Int) ∧ As (OwnAt wr B3 (.slice (some a3) n c3) n L3) ∧ As (SoftAll wr L3 X n B3 w3.heap.size (Value.slice (some a3) n c3).ownBlock) ∧ As (Below B3 w9 wr) ∧ As (∀ k, w3.heap.size ≤ k → k < w9.heap.size → wr.heap[k]? = w9.heap[k]?))
      case atStart => exact ⟨0, by omega, rfl, HO, HS, HB, HK⟩
      case round =>
        clear HO HS HB HK
        obtain ⟨t, ht, rfl, HO, HS, HB, HK⟩ := hrel
        have HTT := As.mk ht
        clear ht
        by_cases hlt : t < l
        · have d0 : decide ((t : Int) < (l : Int)) = true := decide_eq_true (by omega)
          have d1 : decide (t < l) = true := decide_eq_true hlt
          have lt2 : (t : Int) < (l : Int) := by omega
          have hw2 : wrap64 ((t : Int) + 1) = ((t + 1 : Nat) : Int) := wrap_up (by have := HLB.out; omega)
          obtain ⟨Aj', cj', hL', hso⟩ := HS.out i HLT.out
          rw [← HLL.out] at hL' hso
          rw [HL.out] at hL'
          obtain ⟨e2, e4⟩ : Aj = Aj' ∧ cj = cj' := by
            injection hL' with e1
            injection e1 with a b c
            exact ⟨a, c⟩
          subst e2
          subst e4
          obtain ⟨g, off, ea, hg1, hg2, hg3, hg4⟩ := hso (by omega)
          subst ea
          obtain ⟨⟨z, hz⟩, hfz⟩ := hg4 t hlt
          have hz2 := hz
          rw [← Addr.add_mid] at hz2
          have HG := As.mk (show B3 ≤ g ∧ g < w3.heap.size from ⟨hg1, hg2⟩)
          have HGN := As.mk hg3
          have HLT2 := As.mk hlt
          clear hlt hg1 hg2 hg3 hg4
          go_wp2
          go_roundg (l - (t + 1))
          case measure => have := HTT.out; have := HLT2.out; omega
          case rel =>
            refine ⟨t + 1, by have := HTT.out; have := HLT2.out; omega, by go_num, ⟨HO.out.kept fun k hk => heap_setCell_other _ _ _ _ (fun e => HGN.out (by rw [hk]; simpa using e.symm))⟩, ⟨HS.out.set _ _⟩, ⟨HB.out.setCell HG.out.1 _⟩, ⟨fun k hk1 hk2 => ?_⟩⟩
            rw [heap_setCell_other _ _ _ _ (by simp only; have := HG.out.2; omega)]
            exact HK.out k hk1 hk2
        · have d0 : decide ((t : Int) < (l : Int)) = false := decide_eq_false (by omega)
          have d1 : decide (t < l) = false := decide_eq_false hlt
          clear hlt
          go_wp2
          go_roundg (n - (i + 1))
          case measure => have := HII.out; have := HLT.out; omega
          case rel => exact ⟨i + 1, by have := HII.out; have := HLT.out; omega, by go_num, HO, HS, HB, HK⟩
    · have b0 : decide ((i : Int) < (n : Int)) = false := decide_eq_false (by omega)
      have b1 : decide (i < n) = false := decide_eq_false hlt
      have HBR := As.mk (HB29.out.trans (HB.out.mono HSZ.out.2))
      have HOR := As.mk (HO59.out.kept (w1 := wr) fun k hk => by
        have h1 := HO59.out.lt k hk
        exact HK.out k (Nat.le_trans HSZ.out.1 h1.1) h1.2)
      have HRR := As.mk (rdp_old HOR.out HXL.out HO5.out HBR.out)
      clear hlt HS HO HB HK HII
      go_wp2_with (first
        | (go_at_call 48; (with_reducible refine (done34_old w2 wr ps es bs A E K n c m d kn kc (by have := HN.out; omega) (by have := HM.out; omega) HBR.out H02.out H12.out (H22.out.below HBR.out) HIN.out).mono ?_); rintro e wa ⟨A7, c7, L7, rfl, hp, hb, ho⟩; rw [← HX.out] at hp ho; have HP7 := As.mk hp.rdp; have HRA := As.mk (HRR.out.below hb); have HBX := As.mk (HBR.out.trans (hb.mono HBR.out.size)); clear hp hb ho)
        | (go_at_call 49; (with_reducible refine (same34_any wa A5 A7 n c5 n c7 X X (by have := HN.out; omega) (fun p hp => (HXB.out p hp).2) HRA.out HP7.out true (iff_of_true rfl rfl)).mono ?_); rintro e wb ⟨rfl, hb⟩; have HBY := As.mk (HBX.out.trans (hb.mono HBX.out.size)); clear hb)
        | (go_at_call 50; (with_reducible refine (sameC_any wb ps ps A A n c n c (by have := HN.out; omega) (H02.out.below HBY.out) (H02.out.below HBY.out) HBP.out HBP.out true (iff_of_true rfl rfl)).mono ?_); rintro e wc ⟨rfl, hb⟩; have HBZ := As.mk (HBY.out.trans (hb.mono HBY.out.size)); clear hb))
      go_ret
      exact ⟨rfl, below_step HB2.out HBZ.out⟩
theorem applies_walk (A : Option Addr) (n c : Nat) (ps : List (List Int)) (E : Option Addr) (m d : Nat) (es : List (Int × List Int)) (K : Option Addr) (kn kc : Nat) (bs : List Bool) (w : World) (h0 : RdP w A n c ps) (bp : ∀ p ∈ ps, ∀ i ∈ p, (Lit.int .u8 i).wf = true) (h1 : RdE w E m d es) (be : ∀ e ∈ es, ∀ i ∈ e.2, (Lit.int .u8 i).wf = true) (h2 : RdB w K kn kc bs) (_ : True) :
    Calls Try.prog 7 #[.slice A n c, .slice E m d, .slice K kn kc] w fun e w' => e = .returned (.bool true) ∧ Below w.heap.size w w' := by
  have hn : n ≤ 9223372036854775807 := by have h3 := h0.le; have h4 := h0.cap; unfold maxLen at h4; omega
  have hm : m ≤ 9223372036854775807 := by have h3 := h1.le; have h4 := h1.cap; unfold maxLen at h4; omega
  cases hf : few34 ps es with
  | false => exact appl_few w A E K n c m d kn kc ps es hn hm h0 h1 hf
  | true =>
    obtain ⟨hlp, hle, hpn, hem⟩ := few_parts hf
    rw [h0.len] at hpn
    rw [h1.len] at hem
    have bp' : ∀ p ∈ ps, Byte p := fun p hp => Go.Proofs.Yteajblfkfmopfaa.Mem.byte_of (bp p hp)
    have be' : ∀ e ∈ es, Byte e.2 := fun e he => Go.Proofs.Yteajblfkfmopfaa.Mem.byte_of (be e he)
    by_cases hk : 40 < kn
    · exact appl_forty w A E K n c m d kn kc ps es hpn hem hk h0 h1 hf
    · rcases mayF_few (n := n) (m := m) (es := es) (by omega) (by omega) with hr | hr
      · have hw := within_of (n := n) (m := m) (es := es) (by omega) (by omega) _ hr
        exact appl_in w A E K n c m d kn kc ps es bs hpn hem (by omega) h0 h1 h2 hf hr hw hlp hle bp' be'
      · have hw := within_of (n := n) (m := m) (es := es) (by omega) (by omega) _ hr
        exact appl_out w A E K n c m d kn kc ps es hpn hem (by omega) h0 h1 hf hr hw
end Go.Proofs.Yteajblfkfmopfaa.LawCrash
