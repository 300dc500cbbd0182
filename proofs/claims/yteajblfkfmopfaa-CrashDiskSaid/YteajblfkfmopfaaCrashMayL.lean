/- crash.May. -/
import Derived.Test.YteajblfkfmopfaaCrashApply
import Derived.Test.YteajblfkfmopfaaParts
namespace Go.Proofs.Yteajblfkfmopfaa.CrashApply
set_option linter.unusedVariables false
set_option linter.unusedSimpArgs false
open Go Go.RowKit Go.Proofs.Yteajblfkfmopfaa.Mem Go.Proofs.Yteajblfkfmopfaa.Put32 Go.Proofs.Yteajblfkfmopfaa.Sum Go.Proofs.Yteajblfkfmopfaa.Hmac Go.Proofs.Yteajblfkfmopfaa.Parts Go.Proofs.Yteajblfkfmopfaa.Entries

/-- may the j-th sector hold b? -/
def okF (j : Nat) (b p : List Int) (es : List (Int × List Int)) : Bool := decide (b = p) || es.any fun e => decide (e.1 = (j : Int)) && decide (b = e.2)
theorem okF_snoc (j : Nat) (b p : List Int) (es : List (Int × List Int)) (e : Int × List Int) : okF j b p (es ++ [e]) = (okF j b p es || (decide (e.1 = (j : Int)) && decide (b = e.2))) := by
  simp [okF, Bool.or_assoc]
/-- may all? -/
def leftF (es : List (Int × List Int)) (ps ls : List (List Int)) : Nat → Bool
  | 0 => true
  | j + 1 => leftF es ps ls j && okF j (nthP ls j) (nthP ps j) es
theorem leftF_all (es : List (Int × List Int)) (ps ls : List (List Int)) : ∀ n, (∀ j, j < n → okF j (nthP ls j) (nthP ps j) es = true) → leftF es ps ls n = true
  | 0, _ => rfl
  | n + 1, h => by rw [leftF, leftF_all es ps ls n (fun j hj => h j (by omega)), h n (by omega)]; rfl
theorem leftF_no (es : List (Int × List Int)) (ps ls : List (List Int)) (j : Nat) (h : okF j (nthP ls j) (nthP ps j) es = false) : ∀ n, j < n → leftF es ps ls n = false
  | 0, hj => by omega
  | n + 1, hj => by
    rw [leftF]
    rcases Nat.lt_succ_iff_lt_or_eq.1 hj with h1 | rfl
    · rw [leftF_no es ps ls j h n h1]; rfl
    · rw [h, Bool.and_false]
set_option maxHeartbeats 2000000 in
set_option maxRecDepth 100000 in
theorem mayL_any (w : World) (ps ls : List (List Int)) (es : List (Int × List Int)) (A E K : Option Addr) (n c m d k kc : Nat) (hn : n ≤ 1000000) (hm : m ≤ 1000000) (h0 : RdP w A n c ps) (h1 : RdE w E m d es) (hk : RdP w K n kc ls) (hr : mayF n m es = 0) (bp : ∀ p ∈ ps, Byte p) (bl : ∀ p ∈ ls, Byte p) (be : ∀ e ∈ es, Byte e.2) :
    Calls Try.prog 47 #[.slice A n c, .slice E m d, .slice K n kc] w fun e w' => e = .returned (.bool (leftF es ps ls n)) ∧ Below w.heap.size w w' := by
  have HN := As.mk hn
  have HM := As.mk hm
  have HR := As.mk hr
  have H0 := As.mk h0
  have H1 := As.mk h1
  have HK := As.mk hk
  have e0 : decide ((n : Int) = (n : Int)) = true := decide_eq_true rfl
  have BP := As.mk bp
  have BL := As.mk bl
  have BE := As.mk be
  clear hn hm h0 h1 hk hr bp bl be
  go_enter Try.func47, Try.ntmps47
  go_wp2_with (go_at_call 116; refine (may_any w n E m d es HM.out H1.out).mono ?_; rintro e w2 ⟨rfl, hb⟩; rw [HR.out]; have HB2 := As.mk hb; clear hb)
  go_loopg [26] n (fun kq v26 wr => ∃ i : Nat, i + kq = n ∧ v26 = .int .i64 i ∧ As (∀ j, j < i → okF j (nthP ls j) (nthP ps j) es = true) ∧ As (Below w.heap.size w wr))
  case atStart => exact ⟨0, by omega, rfl, ⟨fun j hj => by omega⟩, HB2⟩
  case round =>
    clear HB2
    obtain ⟨i, hi, rfl, HJ, HB⟩ := hrel
    have HI := As.mk hi
    clear hi
    by_cases hlt : i < n
    · have b0 : decide ((i : Int) < (n : Int)) = true := decide_eq_true (by omega)
      have b1 : decide (i < n) = true := decide_eq_true hlt
      have lt' : (i : Int) < (n : Int) := by omega
      have hw : wrap64 ((i : Int) + 1) = ((i + 1 : Nat) : Int) := wrap_up (by have := HN.out; omega)
      obtain ⟨ad, Aj, cj, ea, hx, hr⟩ := (HK.out.below HB.out).at i hlt
      cases ea
      obtain ⟨ad2, Bj, dj, ea, hy, hs⟩ := (H0.out.below HB.out).at i hlt
      cases ea
      obtain ⟨b, hb⟩ : ∃ b, b = nthP ls i := ⟨_, rfl⟩
      obtain ⟨p, hp⟩ : ∃ p, p = nthP ps i := ⟨_, rfl⟩
      have bb : Byte b := BL.out b (by rw [hb, nthP, List.getD_eq_getElem?_getD, List.getElem?_eq_getElem (by rw [HK.out.len]; exact hlt)]; exact List.getElem_mem _)
      have bp : Byte p := BP.out p (by rw [hp, nthP, List.getD_eq_getElem?_getD, List.getElem?_eq_getElem (by rw [H0.out.len]; exact hlt)]; exact List.getElem_mem _)
      rw [← hb] at hx hr
      rw [← hp] at hy hs
      obtain ⟨lb, hlb⟩ : ∃ lb, lb = b.length := ⟨_, rfl⟩
      obtain ⟨lp, hlp⟩ : ∃ lp, lp = p.length := ⟨_, rfl⟩
      rw [← hlb] at hx hr
      rw [← hlp] at hy hs
      have HRB := As.mk hr
      have HRP := As.mk hs
      have BB := As.mk bb
      have BPp := As.mk bp
      have HBB := As.mk hb
      have HPP := As.mk hp
      have HLT := As.mk hlt
      obtain ⟨wo, rfl⟩ : ∃ wo : World, wo = wr := ⟨_, rfl⟩
      clear hr hs bb bp hb hp hlb hlp hlt
      go_wp2_with (go_at_call 119; refine As.out ?_)
      refine As.mk ?_
      refine (BytesEq.any b p BB.out BPp.out Aj Bj lb cj lp dj wo HRB.out HRP.out).mono ?_
      rintro e w5 ⟨rfl, hb5⟩
      have HB5 := As.mk (below_step HB.out hb5)
      have HBR5 := As.mk (HRB.out.below hb5)
      clear hb5
      go_wp2
      go_loopg [9, 39] m (fun kq v9 v39 wr => ∃ k : Nat, k + kq = m ∧ v9 = .bool (okF i b p (es.take k)) ∧ v39 = .int .i64 k ∧ As (Below w.heap.size w wr) ∧ As (Rd .u8 wr Aj lb cj b))
      case atStart => exact ⟨0, by omega, by simp [okF], rfl, HB5, HBR5⟩
      case round =>
        clear HB5 HBR5
        obtain ⟨k, hk, rfl, rfl, HB6, HBR6⟩ := hrel
        have HKK := As.mk hk
        clear hk
        by_cases hlt : k < m
        · have d0 : decide ((k : Int) < (m : Int)) = true := decide_eq_true (by omega)
          have d1 : decide (k < m) = true := decide_eq_true hlt
          have kt' : (k : Int) < (m : Int) := by omega
          have hw2 : wrap64 ((k : Int) + 1) = ((k + 1 : Nat) : Int) := wrap_up (by have := HM.out; omega)
          obtain ⟨ed, Ek, ck, ea, h1, h2, h3⟩ := (H1.out.below HB6.out).at k hlt
          cases ea
          obtain ⟨s, hs⟩ : ∃ s, s = (nthE es k).1 := ⟨_, rfl⟩
          obtain ⟨q, hq⟩ : ∃ q, q = (nthE es k).2 := ⟨_, rfl⟩
          obtain ⟨lq, hlq⟩ : ∃ lq, lq = q.length := ⟨_, rfl⟩
          rw [← hs] at h1
          rw [← hq] at h2 h3
          rw [← hlq] at h2 h3
          have H1c := As.mk h1
          have H2c := As.mk h2
          have H3c := As.mk h3
          have HST := As.mk (show okF i b p (es.take (k + 1)) = (okF i b p (es.take k) || (decide (s = (i : Int)) && decide (b = q))) by rw [takeE es k (by rw [H1.out.len]; exact hlt), okF_snoc, hs, hq])
          have BQ := As.mk (show Byte q by rw [hq]; exact BE.out _ (by rw [nthE, List.getD_eq_getElem?_getD, List.getElem?_eq_getElem (by rw [H1.out.len]; exact hlt)]; exact List.getElem_mem _))
          have HLK := As.mk hlt
          clear h1 h2 h3 hs hq hlq hlt
          obtain ⟨o, ho⟩ : ∃ o, o = okF i b p (es.take k) := ⟨_, rfl⟩
          rw [← ho] at HST ⊢
          clear ho
          have hba := below_alloc (Below.refl wr.heap.size wr) (.cells #[.int .i64 s, .slice Ek lq ck] 90)
          have HBa := As.mk (below_step HB6.out hba)
          have HRa := As.mk (HBR6.out.below hba)
          have HQa := As.mk (H3c.out.below hba)
          clear hba
          cases o with
          | true =>
            go_wp2_with (refine wpList_load_at rfl 90 (.tmp 41) rfl (ed.add (k * 2)) rfl [.int .i64 s, .slice Ek lq ck] _ (fun j v hv => by rcases j with _ | _ | j <;> simp at hv <;> subst hv <;> rw [add_add] <;> first | exact H1c.out | exact H2c.out) Try.underlying90 rfl infoEn ?_; refine As.out ?_)
            refine As.mk ?_
            clear H1c H2c H3c HQa HRB HRP hx hy
            go_wp2
            go_roundg (m - (k + 1))
            case measure => have := HKK.out; have := HLK.out; omega
            case rel => exact ⟨k + 1, by have := HKK.out; have := HLK.out; omega, by rw [HST.out, Bool.true_or], by go_num, HBa, HRa⟩
          | false =>
            by_cases hsi : s = (i : Int)
            · subst hsi
              have z0 : decide ((i : Int) = (i : Int)) = true := decide_eq_true rfl
              have HST2 := As.mk (HST.out.trans (by rw [z0, Bool.false_or, Bool.true_and] : _ = decide (b = q)))
              go_wp2_with (first
                | (refine wpList_load_at rfl 90 (.tmp 41) rfl (ed.add (k * 2)) rfl [.int .i64 (i : Int), .slice Ek lq ck] _ (fun j v hv => by rcases j with _ | _ | j <;> simp at hv <;> subst hv <;> rw [add_add] <;> first | exact H1c.out | exact H2c.out) Try.underlying90 rfl infoEn ?_)
                | (go_at_call 119; refine As.out ?_))
              refine As.mk ?_
              refine (BytesEq.any b q BB.out BQ.out Aj Ek lb cj lq ck _ HRa.out HQa.out).mono ?_
              rintro e w7 ⟨rfl, hb7⟩
              have HB7 := As.mk (below_step HBa.out hb7)
              have HR7 := As.mk (HRa.out.below hb7)
              clear hb7 H1c H2c H3c HQa HRB HRP hx hy
              obtain ⟨o2, ho2⟩ : ∃ o2, o2 = decide (b = q) := ⟨_, rfl⟩
              rw [← ho2] at HST2 ⊢
              clear ho2
              go_wp2
              go_roundg (m - (k + 1))
              case measure => have := HKK.out; have := HLK.out; omega
              case rel => exact ⟨k + 1, by have := HKK.out; have := HLK.out; omega, by rw [HST2.out], by go_num, HB7, HR7⟩
            · have z0 : decide (s = (i : Int)) = false := decide_eq_false hsi
              have z1 : (s == (i : Int)) = false := beq_eq_false_iff_ne.2 hsi
              have z2 : ¬ s = (i : Int) := hsi
              have HST2 := As.mk (HST.out.trans (by rw [z0, Bool.false_or, Bool.false_and] : _ = false))
              clear hsi
              go_wp2_with (refine wpList_load_at rfl 90 (.tmp 41) rfl (ed.add (k * 2)) rfl [.int .i64 s, .slice Ek lq ck] _ (fun j v hv => by rcases j with _ | _ | j <;> simp at hv <;> subst hv <;> rw [add_add] <;> first | exact H1c.out | exact H2c.out) Try.underlying90 rfl infoEn ?_; refine As.out ?_)
              refine As.mk ?_
              clear H1c H2c H3c HQa HRB HRP hx hy
              go_wp2
              go_roundg (m - (k + 1))
              case measure => have := HKK.out; have := HLK.out; omega
              case rel => exact ⟨k + 1, by have := HKK.out; have := HLK.out; omega, by rw [HST2.out], by go_num, HBa, HRa⟩
        · have d0 : decide ((k : Int) < (m : Int)) = false := decide_eq_false (by omega)
          have d1 : decide (k < m) = false := decide_eq_false hlt
          obtain rfl : k = m := by have := HKK.out; omega
          have hall : es.take k = es := by rw [← H1.out.len, List.take_length]
          rw [hall]
          have HOK := As.mk (show okF i b p es = okF i (nthP ls i) (nthP ps i) es by rw [HBB.out, HPP.out])
          obtain ⟨o, ho⟩ : ∃ o, o = okF i b p es := ⟨_, rfl⟩
          rw [← ho] at HOK ⊢
          clear ho hall hlt
          cases o with
          | true =>
            go_wp2
            go_roundg (n - (i + 1))
            case measure => have := HI.out; have := HLT.out; omega
            case rel =>
              refine ⟨i + 1, by have := HI.out; have := HLT.out; omega, by go_num, ⟨fun j hj => ?_⟩, HB6⟩
              rcases Nat.lt_succ_iff_lt_or_eq.1 hj with h | rfl
              · exact HJ.out j h
              · exact HOK.out.symm
          | false =>
            have HF := As.mk (leftF_no es ps ls i HOK.out.symm n HLT.out)
            go_wp2
            go_ret
            exact ⟨by rw [HF.out]; rfl, HB6.out⟩
    · have b0 : decide ((i : Int) < (n : Int)) = false := decide_eq_false (by omega)
      have b1 : decide (i < n) = false := decide_eq_false hlt
      obtain rfl : i = n := by have := HI.out; omega
      have HF := As.mk (leftF_all es ps ls i HJ.out)
      clear hlt
      go_wp2
      go_ret
      exact ⟨by rw [HF.out]; rfl, HB.out⟩
end Go.Proofs.Yteajblfkfmopfaa.CrashApply
