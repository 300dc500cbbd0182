/- crash.Count. -/
import Derived.Test.YteajblfkfmopfaaCrashCnt
namespace Go.Proofs.Yteajblfkfmopfaa.LawCrash
set_option linter.unusedVariables false
set_option linter.unusedSimpArgs false
open Go Go.RowKit Go.Maps Go.Proofs.Yteajblfkfmopfaa.Mem Go.Proofs.Yteajblfkfmopfaa.Put32 Go.Proofs.Yteajblfkfmopfaa.Sum Go.Proofs.Yteajblfkfmopfaa.Hmac Go.Proofs.Yteajblfkfmopfaa.Parts Go.Proofs.Yteajblfkfmopfaa.Entries Go.Proofs.Yteajblfkfmopfaa.CrashApply

abbrev secs (es : List (Int × List Int)) : List Int := es.map (fun e => e.1)
theorem map_kept {w w' : World} {k : TypeId} {R : Value → Option (DataW Unit × List MemPlace)} {b n : Nat} {D : DataW Unit} (h : w.ownsMap Try.prog k R b n D) (hb : w'.heap[b]? = w.heap[b]?) : w'.ownsMap Try.prog k R b n D := by
  obtain ⟨es, clock, h1, h2⟩ := h
  exact ⟨es, clock, hb.trans h1, h2⟩
theorem map_lt {w : World} {k : TypeId} {R : Value → Option (DataW Unit × List MemPlace)} {b n : Nat} {D : DataW Unit} (h : w.ownsMap Try.prog k R b n D) : b < w.heap.size := by
  obtain ⟨es, clock, h1, h2⟩ := h
  exact (Array.getElem?_eq_some_iff.1 h1).1
theorem wf_i64 {x : Int} (h0 : 0 ≤ x) (h : x ≤ 9223372036854775807) : (Lit.int .i64 x).wf = true := by
  simp [Lit.wf, IntKind.min, IntKind.max, IntKind.signed, IntKind.bits]
  omega
theorem two14 (m : Nat) (hm : m ≤ 14) : 2 ^ m ≤ 16384 := Nat.le_trans (Nat.pow_le_pow_right (by decide) hm) (by decide)
theorem lawI : Keyed Try.prog 3 := int_keyed Try.underlying3
theorem zeroI (w : World) : (zeroValue 3).run Try.prog w = .ok (.int .i64 0) w := by kernel_rfl
theorem sameKey_int (z x : Int) : Lit.sameKey (.int .i64 z) (.int .i64 x) = (z == x) := by
  by_cases e : z = x
  · subst e
    simp [Lit.sameKey]
  · rw [sameKey_ne (fun h => e (by injection h)), beq_eq_false_iff_ne.2 e]
theorem nthE_sec {es : List (Int × List Int)} {i : Nat} (h : i < es.length) : (secs es).take (i + 1) = (secs es).take i ++ [(nthE es i).1] := by
  rw [List.take_succ_eq_append_getElem (by simpa using h), nthE, List.getD_eq_getElem?_getD, List.getElem?_eq_getElem h]
  simp [secs]
set_option maxHeartbeats 2000000 in
set_option maxRecDepth 100000 in
theorem count_ok (w : World) (sec : Int) (E : Option Addr) (m d : Nat) (es : List (Int × List Int)) (hm : m ≤ 14) (hsec : sec ≤ 9223372036854775807) (h1 : RdE w E m d es) (hin : ∀ j, j < m → 0 ≤ (nthE es j).1 ∧ (nthE es j).1 < sec) (r : Int) (hr : mayF sec m es = r) (hne : ¬ r = 41) :
    Calls Try.prog 52 #[.int .i64 sec, .slice E m d] w fun e w' => e = .returned (.tuple #[.int .i64 (wantN (secs es) : Nat), .int .i64 0]) ∧ Below w.heap.size w w' := by
  have HM := As.mk hm
  have HSEC := As.mk hsec
  have H1 := As.mk h1
  have HIN := As.mk hin
  have HR := As.mk hr
  have d0 : decide (r = 41) = false := decide_eq_false hne
  have d1 : (r == 41) = false := beq_eq_false_iff_ne.2 hne
  have hmm := @run_makeMap Try.prog
  obtain ⟨l, hl⟩ : ∃ l, l = secs es := ⟨_, rfl⟩
  have HLL := As.mk (show l.length = m by rw [hl, List.length_map]; exact h1.len)
  have HSN := As.mk (show ∀ i, i < m → l.take (i + 1) = l.take i ++ [(nthE es i).1] from fun i hi => by rw [hl]; exact nthE_sec (by rw [h1.len]; exact hi))
  have HW := As.mk (show wantN l ≤ 16384 from Nat.le_trans (want_le l) (by rw [HLL.out]; exact two14 m hm))
  rw [← hl]
  clear hm h1 hr hne hsec hin hl
  go_enter Try.func52, Try.ntmps52
  go_wp2_with (go_at_call 116; (with_reducible refine (may_any w sec E m d es (by have := HM.out; omega) H1.out).mono ?_); rintro e w1 ⟨rfl, hb⟩; rw [HR.out]; have HB1 := As.mk hb; clear hb)
  obtain ⟨B, hB⟩ : ∃ B, w1.heap.size = B := ⟨_, rfl⟩
  have HB0 := As.mk (show w.heap.size ≤ B by rw [← hB]; exact HB1.out.size)
  have HBA := As.mk (below_alloc HB1.out (.map #[] 0))
  have HMA : As ((w1.alloc (.map #[] 0)).ownsMap Try.prog 3 (plainElem (H := Unit) Try.prog 3) B 0 (.map [])) := ⟨by rw [← hB]; exact World.ownsMap_made _ _ _ _⟩
  have HBE := As.mk hB
  rw [hB]
  clear hB
  go_loopg [19] m (fun kq v19 wr => ∃ (i : Nat) (D : DataW Unit), i + kq = m ∧ v19 = .int .i64 (i : Int) ∧ As (wr.ownsMap Try.prog 3 (plainElem Try.prog 3) B i D) ∧ As (Cnt D (l.take i)) ∧ As (Below w.heap.size w wr))
  case atStart => exact ⟨0, .map [], by omega, rfl, HMA, ⟨Cnt.nil⟩, HBA⟩
  case round =>
    clear HMA HBA
    obtain ⟨i, D, hi, rfl, HO, HD, HB⟩ := hrel
    have HI := As.mk hi
    clear hi
    by_cases hlt : i < m
    · have c0 : decide ((i : Int) < (m : Int)) = true := decide_eq_true (by omega)
      have c1 : decide (i < m) = true := decide_eq_true hlt
      have lt' : (i : Int) < (m : Int) := by omega
      have HWU := As.mk (show wrap64 ((i : Int) + 1) = ((i + 1 : Nat) : Int) from wrap_up (by have := HM.out; omega))
      obtain ⟨ad, Aj, cj, ea, h1w, h2w, h3w⟩ := H1.out.at i hlt
      cases ea
      have h1 := (HB.out.cell (World.block_lt_of_cell? w _ h1w)).trans h1w
      have h2 := (HB.out.cell (World.block_lt_of_cell? w _ h2w)).trans h2w
      have hs2 := HIN.out i hlt
      have HSI := As.mk (HSN.out i hlt)
      obtain ⟨s, hs⟩ : ∃ s, s = (nthE es i).1 := ⟨_, rfl⟩
      obtain ⟨ll, hll⟩ : ∃ ll, ll = (nthE es i).2.length := ⟨_, rfl⟩
      rw [← hs] at h1 hs2 HSI
      rw [← hll] at h2
      obtain ⟨pl, hpl⟩ : ∃ pl, pl = l.take i := ⟨_, rfl⟩
      rw [← hpl] at HSI HD
      obtain ⟨cn, hcn⟩ : ∃ cn, cn = pl.count s := ⟨_, rfl⟩
      have hcl : cn ≤ m := by rw [hcn]; refine Nat.le_trans List.count_le_length ?_; rw [hpl, List.length_take]; omega
      have HWU2 := As.mk (show wrap64 ((cn : Int) + 1) = ((cn + 1 : Nat) : Int) from wrap_up (by have := HM.out; omega))
      have HWF := As.mk (show (Lit.int .i64 ((cn + 1 : Nat) : Int)).wf = true from wf_i64 (by omega) (by have := HM.out; omega))
      have HKEY := As.mk (keyOf_int_mk (P := Try.prog) (a := s) Try.underlying3 (wf_i64 hs2.1 (by have := HSEC.out; omega)))
      have HPE := As.mk (show plainElem (H := Unit) Try.prog 3 (.int .i64 (wrap64 ((cn : Int) + 1))) = some (.lit (.int .i64 ((cn + 1 : Nat) : Int)), []) by rw [HWU2.out]; exact plainElem_int Try.underlying3 HWF.out)
      have HAT := As.mk (HD.out.at_ s)
      have HP := As.mk (HD.out.put s)
      rw [← hcn] at HAT HP
      have H1c := As.mk h1
      have H2c := As.mk h2
      have HLT := As.mk hlt
      have HBL := As.mk (map_lt HO.out)
      have HNE := As.mk (show B ≠ wr.heap.size by have := map_lt HO.out; omega)
      have hba := below_alloc (Below.refl wr.heap.size wr) (.cells #[.int .i64 s, .slice Aj ll cj] 90)
      have HOa := As.mk (map_kept HO.out (hba.block _ HBL.out))
      have HBa := As.mk (HB.out.trans (hba.mono HB.out.size))
      clear h1 h2 h3w hs hll hpl hcn hcl hs2 hlt hba h1w h2w
      have hw := HWU.out
      have hw2 := HWU2.out
      go_wp2_with (first
        | (refine wpList_load_at rfl 90 (.tmp 21) rfl (ad.add (i * 2)) rfl [.int .i64 s, .slice Aj ll cj] _ (fun j v hv => by rcases j with _ | _ | j <;> simp at hv <;> subst hv <;> rw [add_add] <;> first | exact H1c.out | exact H2c.out) Try.underlying90 rfl infoEn ?_)
        | (at_lookup; refine wpList_lookup_own_int _ rfl _ _ 172 rfl 3 3 .i64 lawI Try.underlying172 Try.underlying3 (zeroI _) B i D rfl HOa.out _ _ rfl HKEY.out ?_; intro c hat _; obtain rfl : c = (cn : Int) := (by have := hat.symm.trans HAT.out; injection this with this; injection this); clear hat)
        | (at_mapUpdate; refine wpList_mapUpdate_own _ rfl _ _ _ 172 rfl 3 3 lawI Try.underlying172 _ B i D rfl HOa.out (by have := HM.out; have := HLT.out; unfold maxLen; omega) _ _ _ rfl rfl HKEY.out _ [] HPE.out ?_; intro w5 hown hg; have HO5 := As.mk hown; have HB5 := As.mk (HBa.out.grown hg HBa.out.size (fun k e => by cases e; exact HB0.out)); clear hown hg))
      go_roundg (m - (i + 1))
      case measure => have := HI.out; have := HLT.out; omega
      case rel => exact ⟨i + 1, _, by have := HI.out; have := HLT.out; omega, by go_num, HO5, ⟨by rw [HSI.out]; exact HP.out⟩, HB5⟩
    · have c0 : decide ((i : Int) < (m : Int)) = false := decide_eq_false (by omega)
      have c1 : decide (i < m) = false := decide_eq_false hlt
      obtain rfl : m = i := by have := HI.out; omega
      rw [show l.take m = l by rw [← HLL.out, List.take_length]] at HD
      have hsz : ¬ (40 : Int) < (Maps.size D : Int) := by have := HD.out.size_; have := HLL.out; have := HM.out; omega
      have e0 : decide ((40 : Int) < (Maps.size D : Int)) = false := decide_eq_false hsz
      have e1 : decide (40 < Maps.size D) = false := decide_eq_false (by omega)
      clear hlt
      go_wp2_with (first
        | (at_len; refine wpList_len_own _ rfl _ 172 rfl 3 3 Try.underlying172 _ B m D rfl HO.out ?_)
        | (at_range; refine wpList_range_own _ rfl _ 172 rfl 3 3 lawI Try.underlying172 _ B m D rfl HO.out ?_; intro w7 hrg hg hs7; have HRG := As.mk hrg; have HB7 := As.mk (HB.out.grown hg HB.out.size (fun k e => by cases e)); clear hrg hg hs7))
      obtain ⟨rB, hrB⟩ : ∃ rB, wr.heap.size = rB := ⟨_, rfl⟩
      rw [hrB] at HRG ⊢
      have HRL := As.mk (show w.heap.size ≤ rB by rw [← hrB]; exact HB.out.size)
      clear hrB HO HB hsz e0 e1 c0 c1 HI
      go_loopw [9] (fun v9 wr => ∃ (left : Lit → Bool) (cnt : Nat) (o : Nat), v9 = .int .i64 (o : Int) ∧ As (wr.ranges Try.prog 3 (plainElem (H := Unit) Try.prog 3) B rB m D left cnt) ∧ As (o = prodF (waysF l) (fun x => !left (.int .i64 x)) (dist l)) ∧ As (Below w.heap.size w wr)) (fun _ wr => wr.rangeLeft B rB)
      case atStart =>
        refine ⟨_, _, 1, rfl, HRG, ⟨?_⟩, HB7⟩
        have h1 : ∀ L : List Int, (∀ x ∈ L, x ∈ l) → prodF (waysF l) (fun x => !has D (.int .i64 x)) L = 1 := by
          intro L hL
          induction L with
          | nil => rfl
          | cons y r ih =>
            rw [prodF, ih fun x hx => hL x (List.mem_cons_of_mem _ hx)]
            have : has D (.int .i64 y) = true := (HD.out.has_ _).2 ⟨y, hL y (List.mem_cons_self ..), rfl⟩
            rw [this]
            rfl
        exact (h1 _ fun x hx => (mem_dist l x).1 hx).symm
      case round =>
        clear HRG HB7
        obtain ⟨left, cnt, o, rfl, HRG, HP, HB⟩ := hrel
        go_wp2_with (at_next; refine wpList_next_ranges_ii _ rfl _ rfl 3 3 .i64 .i64 lawI Try.underlying3 Try.underlying3 B rB m _ _ _ rfl HRG.out ?_ ?_)
        · intro _ hl0
          have HE := As.mk (show wantN l = o by
            rw [HP.out]
            exact prodF_congr _ _ _ _ _ fun x _ => ⟨rfl, by rw [hl0]; rfl⟩)
          clear hl0
          go_wp2
          go_ret2
          exact ⟨by rw [HE.out]; rfl, HB.out⟩
        · intro x c w8 cnt1 hwx hwc hlx hat hrg1 hlt hg1 hs1 hen
          have hc : c = ((l.count x : Nat) : Int) := by
            have h1 := (hat (.lit (.int .i64 0))).symm.trans (HD.out.at_ x)
            injection h1 with h1
            injection h1
          obtain ⟨cn, hcn⟩ : ∃ cn, cn = l.count x := ⟨_, rfl⟩
          rw [← hcn] at hc
          subst hc
          have hx : x ∈ dist l := by
            obtain ⟨y, hy, e⟩ := (HD.out.has_ _).1 (has_true_of_atKey hat)
            injection e with _ e
            rw [e]
            exact (mem_dist l y).2 hy
          have hps := prodF_step (waysF l) (fun z => !left (.int .i64 z)) x (dist l) (nodup_dist l) hx (by rw [hlx]; rfl)
          have hpl : prodF (waysF l) (fun z => (!left (.int .i64 z)) || (z == x)) (dist l) ≤ 16384 := Nat.le_trans (prodF_le _ (fun _ => by unfold waysF; omega) _ _) HW.out
          have hwx2 : waysF l x = cn + 1 := by unfold waysF; rw [hcn]
          rw [hps, ← HP.out, hwx2] at hpl
          have hcl : cn ≤ 14 := by rw [hcn]; refine Nat.le_trans List.count_le_length ?_; rw [HLL.out]; exact HM.out
          have HNP := As.mk (show o * (cn + 1) = prodF (waysF l) (fun z => !(left (.int .i64 z) && !Lit.sameKey (.int .i64 z) (.int .i64 x))) (dist l) by
            rw [← hwx2, HP.out, ← hps]
            refine prodF_congr _ _ _ _ _ fun z _ => ⟨rfl, ?_⟩
            have hk : Lit.sameKey (.int .i64 z) (.int .i64 x) = (z == x) := sameKey_int z x
            rw [hk]
            cases left (.int .i64 z) <;> cases (z == x) <;> rfl)
          have hq : ((o : Nat) : Int) ≤ 1099511627776 / ((cn : Int) + 1) := Int.le_ediv_of_mul_le (by omega) (by
            have : ((o * (cn + 1) : Nat) : Int) ≤ 16384 := by exact_mod_cast hpl
            rw [Int.natCast_mul, Int.natCast_add] at this
            simp only [Int.natCast_one] at this
            omega)
          have q0 : decide (1099511627776 / ((cn : Int) + 1) < (o : Int)) = false := decide_eq_false (by omega)
          have ho : o ≤ 16384 := Nat.le_trans (Nat.le_mul_of_pos_right _ (by omega)) hpl
          have HW2 := As.mk (show wrap64 ((cn : Int) + 1) = (cn : Int) + 1 by unfold wrap64; omega)
          have hm3 : wrap64 ((o : Int) * ((cn : Int) + 1)) = ((o * (cn + 1) : Nat) : Int) := by
            have h5 : ((o : Int) * ((cn : Int) + 1)) = ((o * (cn + 1) : Nat) : Int) := by rw [Int.natCast_mul]; rfl
            rw [h5]
            unfold wrap64
            omega
          have HR1 := As.mk hrg1
          have HB8 := As.mk (HB.out.grown hg1 HB.out.size (fun k e => by cases e; exact HRL.out))
          have HLT1 := As.mk hlt
          clear hwx hwc hlx hat hrg1 hlt hg1 hs1 hx hps hpl hwx2 hcn
          have hw2 := HW2.out
          go_wp2
          go_roundw
          case rel => exact ⟨_, cnt1, o * (cn + 1), by first | rw [hm3] | rfl | (rw [Int.natCast_mul]; rfl), HR1, HNP, HB8⟩
          case measure => rw [HR1.out.left_eq, HRG.out.left_eq]; exact HLT1.out
end Go.Proofs.Yteajblfkfmopfaa.LawCrash
