/- QuotaJoins: the good case. -/
import Derived.Test.YtcbfdofeedlajaaQuotaN
namespace Go.Proofs.Ytcbfdofeedlajaa.QuotaW
set_option linter.unusedVariables false
set_option linter.unusedSimpArgs false
open Go Go.RowKit Go.Sort Go.Proofs.Ytcbfdofeedlajaa.Mem Go.Proofs.Ytcbfdofeedlajaa.Flat Go.Proofs.Ytcbfdofeedlajaa.QuotaP

set_option maxHeartbeats 4000000 in
set_option maxRecDepth 100000 in
theorem joins_ok (ts : List Tn) (A : Option Addr) (n c : Nat) (R : List Value) (x q u d : Int) (hR : RowOf R x q u) (w : World) (hn : n ≤ 40) (h : RdT Tn.row 35 w A n c ts) (hr : rightB ts = true) (hg : 1 ≤ x ∧ x ≤ 16 ∧ 0 ≤ q ∧ q ≤ 4096 ∧ u = 0 ∧ 0 ≤ d ∧ d ≤ 4096) (hk : ∀ k, k < n → (nthT ts k).id ≠ x) (hf : tot_q ts + q ≤ d) (t : Tn) (ht : t.row = R) (hti : t.id = x) :
    Calls Try.prog 6 #[.slice A n c, .agg R.toArray, .int .i64 d] w fun e w' => e = .returned (.bool true) ∧ Below w.heap.size w w' := by
  have d3 : decide (40 < (n : Int)) = false := decide_eq_false (by omega)
  have d3' : decide (40 < n) = false := decide_eq_false (by omega)
  have HN := As.mk hn
  have HRR := As.mk hR
  have HR := As.mk hr
  have HB0 := As.mk (below_alloc (Below.refl w.heap.size w) (.cells R.toArray 49))
  have H := As.mk (h.below HB0.out)
  have HW0 := As.mk (heap_alloc_new w (.cells R.toArray 49))
  have HG := As.mk hg
  have HJB : As (JoinB ts x q u d true true true true true) := ⟨⟨hr, by simp; omega, by simp; omega, by simp; omega, by simp; omega⟩⟩
  have e1 : decide (x < 1) = false := decide_eq_false (by omega)
  have e2 : decide (16 < x) = false := decide_eq_false (by omega)
  have e3 : decide (q < 0) = false := decide_eq_false (by omega)
  have e4 : decide (4096 < q) = false := decide_eq_false (by omega)
  have e5 : (u != 0) = false := by rw [hg.2.2.2.2.1]; rfl
  have e6 : decide (d < 0) = false := decide_eq_false (by omega)
  have e7 : decide (4096 < d) = false := decide_eq_false (by omega)
  have E := As.mk (And.intro e1 (And.intro e2 (And.intro e3 (And.intro e4 (And.intro e5 (And.intro e6 e7))))))
  clear e1 e2 e3 e4 e5 e6 e7
  have HK := As.mk hk
  have HF := As.mk hf
  have HTR := As.mk ht
  have HTI := As.mk hti
  have HLN := As.mk h.len
  clear hg hk hf ht hti
  have HTQ := As.mk (show tot_q ts = sumF Tn.q ts n by unfold tot_q; rw [if_pos hr, h.len])
  have HTU := As.mk (show tot_u ts = sumF Tn.u ts n by unfold tot_u; rw [if_pos hr, h.len])
  have HSB : As (∀ i, i ≤ n → (0 ≤ sumF Tn.q ts i ∧ sumF Tn.q ts i ≤ 4096 * i) ∧ 0 ≤ sumF Tn.u ts i ∧ sumF Tn.u ts i ≤ 4096 * i) := ⟨fun i hi => by
    have h1 := (rightB_iff ts).1 hr
    have a := sumQ_bd ts.length h1 i (by rw [h.len]; exact hi)
    have b := sumU_bd ts.length h1 i (by rw [h.len]; exact hi)
    omega⟩
  clear hn h hr hR
  go_enter Try.func6, Try.ntmps6
  go_wp2_with (refine wpList_boxArr rfl 49 _ rfl R.toArray rfl ?_; refine As.out ?_)
  refine As.mk ?_
  generalize w.alloc (.cells R.toArray 49) = w0 at *
  generalize hgg : w.heap.size = g0 at HW0 ⊢
  clear hgg
  go_wp2_with (go_at_call 26; (with_reducible refine (awake_true _).mono ?_); rintro e w1 ⟨rfl, hb⟩; have HB1 := As.mk (below_step HB0.out hb); have HW1 := As.mk ((hb.block _ (Array.getElem?_eq_some_iff.1 HW0.out).1).trans HW0.out); have H1 := As.mk (H.out.below hb); clear hb)
  go_loopg [7, 8, 9, 25] n (fun kq v7 v8 v9 v25 wr => ∃ i : Nat, i + kq = n ∧ v7 = .int .i64 (sumF Tn.q ts i) ∧ v8 = .int .i64 (sumF Tn.u ts i) ∧ v9 = .bool (thereN ts x i) ∧ v25 = .int .i64 i ∧ As (Below w.heap.size w wr) ∧ As (wr.heap[g0]? = some (.cells R.toArray 49 (0, 0))) ∧ As (RdT Tn.row 35 wr A n c ts))
  case atStart => exact ⟨0, by omega, rfl, rfl, rfl, rfl, HB1, HW1, H1⟩
  case round =>
    obtain ⟨i, hi, rfl, rfl, rfl, rfl, HB, HW, HX⟩ := hrel
    have HI := As.mk hi
    clear hi
    by_cases hlt : i < n
    · have c0 : decide ((i : Int) < (n : Int)) = true := decide_eq_true (by omega)
      have c1 : decide (i < n) = true := decide_eq_true hlt
      have lt' : (i : Int) < (n : Int) := by omega
      have hw : wrap64 ((i : Int) + 1) = ((i + 1 : Nat) : Int) := wrap_up (by have := HN.out; omega)
      obtain ⟨ad, ea, h1⟩ := HX.out.at i hlt
      cases ea
      have HRW := As.mk (RowOf.of (nthT ts i))
      have HTS : As (thereN ts x (i + 1) = (thereN ts x i || ((nthT ts i).id == x))) := ⟨rfl⟩
      generalize hRR : (nthT ts i).row = R' at h1 HRW
      clear hRR
      have HC1 := As.mk h1
      clear h1
      have HSQ : As (sumF Tn.q ts (i + 1) = sumF Tn.q ts i + (nthT ts i).q) := ⟨rfl⟩
      have HSU : As (sumF Tn.u ts (i + 1) = sumF Tn.u ts i + (nthT ts i).u) := ⟨rfl⟩
      have b0 := HSB.out i (by omega)
      have b1 := HSB.out (i + 1) (by omega)
      rw [HSQ.out, HSU.out] at b1
      obtain ⟨SQ, hSQ⟩ : ∃ S, sumF Tn.q ts i = S := ⟨_, rfl⟩
      obtain ⟨SU, hSU⟩ : ∃ S, sumF Tn.u ts i = S := ⟨_, rfl⟩
      rw [hSQ, hSU] at b0 b1
      rw [hSQ] at HSQ
      rw [hSU] at HSU
      rw [hSQ, hSU]
      clear hSQ hSU
      generalize (nthT ts i).id = x' at *
      generalize (nthT ts i).q = q' at *
      generalize (nthT ts i).u = u' at *
      have hsq : wrap64 (SQ + q') = SQ + q' := by unfold wrap64; have := HN.out; omega
      have hsu : wrap64 (SU + u') = SU + u' := by unfold wrap64; have := HN.out; omega
      clear b0 b1
      have HLT := As.mk hlt
      clear hlt
      go_wp2_with (first
        | (refine wpList_load_at rfl 49 (.tmp 27) rfl (ad.add (i * 35)) rfl R' _ HC1.out Try.underlying49 rfl HRW.out.info ?_)
        | (refine wpList_allocArr rfl 49 rfl zT zT_info ?_)
        | (refine wpList_storeNew rfl rfl 49 _ _ rfl rfl R'.toArray rfl 49 zT HRW.out.info' HRW.out.zs HRW.out.one ?_; refine As.out ?_))
      refine As.mk ?_
      have hal := below_alloc (Below.refl wr.heap.size wr) (.cells R'.toArray 49)
      have HB2 := As.mk (below_step HB.out hal)
      have HX2 := As.mk (HX.out.below hal)
      have HW2 := As.mk ((hal.block _ (Array.getElem?_eq_some_iff.1 HW.out).1).trans HW.out)
      have HV2 := As.mk (heap_alloc_new wr (.cells R'.toArray 49))
      clear hal
      generalize wr.alloc (.cells R'.toArray 49) = w2 at *
      generalize wr.heap.size = g2 at *
      go_wp2_with (go_at_call 30; (with_reducible refine (rightL_any ts _ n c w2 (by have := HN.out; omega) HX2.out).mono ?_); rintro e w3 ⟨rfl, hb⟩; rw [HR.out]; have HB3 := As.mk (below_step HB2.out hb); have HX3 := As.mk (HX2.out.below hb); have HW3 := As.mk ((hb.block _ (Array.getElem?_eq_some_iff.1 HW2.out).1).trans HW2.out); have HV3 := As.mk ((hb.block _ (Array.getElem?_eq_some_iff.1 HV2.out).1).trans HV2.out); clear hb; refine As.out ?_)
      refine As.mk ?_
      obtain ⟨z0, z1, z2⟩ := HRW.out.cell HV3.out
      obtain ⟨y0, y1, y2⟩ := HRR.out.cell HW3.out
      cases hth : thereN ts x i with
      | true =>
        rw [hth] at HTS
        clear hth
        go_wp2
        go_roundg (n - (i + 1))
        case measure => have := HI.out; have := HLT.out; omega
        case rel => exact ⟨i + 1, by have := HI.out; have := HLT.out; omega, by rw [HSQ.out, hsq], by rw [HSU.out, hsu], by rw [HTS.out]; rfl, by go_num, HB3, HW3, HX3⟩
      | false =>
        rw [hth] at HTS
        clear hth
        go_wp2
        go_roundg (n - (i + 1))
        case measure => have := HI.out; have := HLT.out; omega
        case rel => exact ⟨i + 1, by have := HI.out; have := HLT.out; omega, by rw [HSQ.out, hsq], by rw [HSU.out, hsu], by rw [HTS.out]; rfl, by go_num, HB3, HW3, HX3⟩
    · have c0 : decide ((i : Int) < (n : Int)) = false := decide_eq_false (by omega)
      have c1 : decide (i < n) = false := decide_eq_false hlt
      obtain rfl : i = n := by have := HI.out; omega
      clear hlt
      rw [there_no i HK.out]
      rw [show sumF Tn.q ts i = tot_q ts from HTQ.out.symm, show sumF Tn.u ts i = tot_u ts from HTU.out.symm]
      obtain ⟨SQ, hSQ⟩ : ∃ S, tot_q ts = S := ⟨_, rfl⟩
      obtain ⟨SU, hSU⟩ : ∃ S, tot_u ts = S := ⟨_, rfl⟩
      rw [hSQ, hSU]
      have ESQ := As.mk hSQ
      have ESU := As.mk hSU
      clear hSQ hSU
      have nq : (SQ != SQ) = false := by simp
      have nu : (SU != SU) = false := by simp
      have HNI := As.mk (show i ≤ 1000000 by have := HN.out; omega)
      go_wp2_with (first
        | (go_at_call 31; (with_reducible refine (right_any ts _ i c wr HNI.out HX.out).mono ?_); rintro e w4 ⟨rfl, hb⟩; rw [HR.out]; have HB4 := As.mk (below_step HB.out hb); have HX4 := As.mk (HX.out.below hb); have HW4 := As.mk ((hb.block _ (Array.getElem?_eq_some_iff.1 HW.out).1).trans HW.out); clear hb)
        | (go_at_call 30; (with_reducible refine (rightL_any ts _ i c w4 HNI.out HX4.out).mono ?_); rintro e w5 ⟨rfl, hb⟩; rw [HR.out]; have HB5 := As.mk (below_step HB4.out hb); have HX5 := As.mk (HX4.out.below hb); have HW5 := As.mk ((hb.block _ (Array.getElem?_eq_some_iff.1 HW4.out).1).trans HW4.out); clear hb)
        | (go_at_call 32; (with_reducible refine (total_q' ts _ i c w5 HNI.out HX5.out).mono ?_); rintro e w6 ⟨rfl, hb⟩; rw [ESQ.out]; have HB6 := As.mk (below_step HB5.out hb); have HX6 := As.mk (HX5.out.below hb); have HW6 := As.mk ((hb.block _ (Array.getElem?_eq_some_iff.1 HW5.out).1).trans HW5.out); clear hb)
        | (go_at_call 33; (with_reducible refine (total_u' ts _ i c w6 HNI.out HX6.out).mono ?_); rintro e w7 ⟨rfl, hb⟩; rw [ESU.out]; have HB7 := As.mk (below_step HB6.out hb); have HX7 := As.mk (HX6.out.below hb); have HW7 := As.mk ((hb.block _ (Array.getElem?_eq_some_iff.1 HW6.out).1).trans HW6.out); clear hb)
        | (refine wpList_load_row rfl 49 (.tmp 4) rfl g0 rfl 49 R.toArray (0, 0) _ HW7.out Try.underlying49 rfl HRR.out.info' ?_)
        | (go_at_call 34; refine As.out ?_))
      refine As.mk ?_
      refine (join_own ts R x q u d HRR.out _ i c w7 HNI.out HX7.out HJB.out HK.out HF.out (by have := tot_bd HR.out; have := HG.out; omega) t HTR.out HTI.out).mono ?_
      rintro e w8 ⟨g8, cc, l, rfl, hp, hs, hq, hb⟩
      have hli : l = ins t ts := sorted_ins HR.out (fun y hy => by obtain ⟨k, hk, rfl⟩ := nth_mem hy; rw [HTI.out]; exact HK.out k (by rw [← HLN.out]; exact hk)) l hp hs
      subst hli
      have HQ8 := As.mk hq
      have HB8 := As.mk (below_step HB7.out hb)
      have HX8 := As.mk (HX7.out.below hb)
      have HW8 := As.mk ((hb.block _ (Array.getElem?_eq_some_iff.1 HW7.out).1).trans HW7.out)
      clear hb hp hs hq
      go_wp2_with (go_at_call 30; (with_reducible refine (rightL_any ts _ i c w8 HNI.out HX8.out).mono ?_); rintro e w9 ⟨rfl, hb⟩; rw [HR.out]; have HB9 := As.mk (below_step HB8.out hb); have HX9 := As.mk (HX8.out.below hb); have HW9 := As.mk ((hb.block _ (Array.getElem?_eq_some_iff.1 HW8.out).1).trans HW8.out); have HQ9 := As.mk (HQ8.out.below hb); clear hb; refine As.out ?_)
      refine As.mk ?_
      obtain ⟨y0, y1, y2⟩ := HRR.out.cell HW9.out
      obtain ⟨e1, e2, e3, e4, e5, e6, e7⟩ := E.out
      have htb := tot_bd HR.out
      have hgg := HG.out
      rw [ESQ.out] at htb
      have hs1 : wrap64 (SQ + q) = SQ + q := by unfold wrap64; omega
      have hf2 : decide (d < SQ + q) = false := decide_eq_false (by have := HF.out; rw [ESQ.out] at this; omega)
      clear htb hgg
      go_wp2
      clear hs1 hf2 e1 e2 e3 e4 e5 e6 e7 nq nu y0 y1 y2
      obtain ⟨n, hin⟩ : ∃ n, n = i := ⟨i, rfl⟩
      subst hin
      have HO9 : As (w9.ownsRow w9.heap.size 49 35 (.slice none 0 0) (wantN t ts 0).1.length ((wantN t ts 0).1.flatMap Tn.row)) := ⟨World.ownsRow_nil _ _ _ _⟩
      clear HB HW HX
      go_loopg [14, 15, 141] n (fun kq v14 v15 v141 wr => ∃ (i : Nat) (v : Value), i + kq = n ∧ v = v14 ∧ v15 = .bool (wantN t ts i).2 ∧ v141 = .int .i64 i ∧ As (wr.ownsRow w9.heap.size 49 35 v (wantN t ts i).1.length ((wantN t ts i).1.flatMap Tn.row)) ∧ As (Below w9.heap.size w9 wr))
      case atStart => exact ⟨0, _, by omega, rfl, rfl, rfl, HO9, ⟨Below.refl _ _⟩⟩
      case round =>
        obtain ⟨i, v14, hi, rfl, rfl, rfl, HO, HB⟩ := hrel
        have HI := As.mk hi
        clear hi
        have HKL : As ((wantN t ts i).1.length ≤ 41) := ⟨by
          have hw1 := want_len t ts i (by have := HLN.out; have := HI.out; omega)
          have := HN.out
          have := HI.out
          split at hw1 <;> omega⟩
        by_cases hlt : i < n
        · have c0 : decide ((i : Int) < (n : Int)) = true := decide_eq_true (by omega)
          have c1 : decide (i < n) = true := decide_eq_true hlt
          have lt' : (i : Int) < (n : Int) := by omega
          have hw : wrap64 ((i : Int) + 1) = ((i + 1 : Nat) : Int) := wrap_up (by have := HN.out; omega)
          obtain ⟨ad, ea, h1⟩ := (HX9.out.below HB.out).at i hlt
          cases ea
          have HRW := As.mk (RowOf.of (nthT ts i))
          have HST := As.mk (want_succ t ts i (by have := HLN.out; omega))
          obtain ⟨tx, htx⟩ : ∃ tx, nthT ts i = tx := ⟨_, rfl⟩
          rw [htx] at h1 HRW HST
          clear htx
          obtain ⟨R', hR'⟩ : ∃ R', tx.row = R' := ⟨_, rfl⟩
          have HR' := As.mk hR'
          rw [hR'] at h1 HRW
          clear hR'
          have HC1 := As.mk h1
          clear h1
          obtain ⟨x', hx'⟩ : ∃ y, tx.id = y := ⟨_, rfl⟩
          have HX' := As.mk hx'
          rw [hx'] at HRW
          clear hx'
          generalize tx.q = q' at HRW
          generalize tx.u = u' at HRW
          obtain ⟨acc, hacc⟩ : ∃ a, (wantN t ts i).1 = a := ⟨_, rfl⟩
          obtain ⟨fl, hfl⟩ : ∃ a, (wantN t ts i).2 = a := ⟨_, rfl⟩
          have HAF : As (wantN t ts i = (acc, fl)) := ⟨by rw [← hacc, ← hfl]⟩
          rw [hacc] at HO HKL
          rw [hfl]
          rw [HAF.out] at HST
          clear hacc hfl HAF
          have HLT := As.mk hlt
          clear hlt
          go_wp2_with (first
            | (refine wpList_load_at rfl 49 (.tmp 143) rfl (ad.add (i * 35)) rfl R' _ HC1.out Try.underlying49 rfl HRW.out.info ?_)
            | (refine wpList_allocArr rfl 49 rfl zT zT_info ?_)
            | (refine wpList_storeNew rfl rfl 49 _ _ rfl rfl R'.toArray rfl 49 zT HRW.out.info' HRW.out.zs HRW.out.one ?_; refine As.out ?_))
          refine As.mk ?_
          have hal := below_alloc (Below.refl wr.heap.size wr) (.cells R'.toArray 49)
          have HBa := As.mk (below_step HB.out hal)
          have HOa := As.mk (own_below HO.out hal)
          have HVa := As.mk (heap_alloc_new wr (.cells R'.toArray 49))
          have HLTV := As.mk (fun (k : Nat) (hk : v14.ownBlock = some k) => (HO.out.lt k hk).2)
          clear hal
          generalize wr.alloc (.cells R'.toArray 49) = wa at *
          generalize wr.heap.size = ga at *
          have HWa := As.mk ((HBa.out.block _ (Array.getElem?_eq_some_iff.1 HW9.out).1).trans HW9.out)
          obtain ⟨z0, z1, z2⟩ := HRW.out.cell HVa.out
          obtain ⟨y0, y1, y2⟩ := HRR.out.cell HWa.out
          cases fl with
          | true =>
            have HST2 : As (wantN t ts (i + 1) = (acc ++ [tx], true)) := ⟨by rw [HST.out]; unfold stepW; rw [if_neg (by simp)]⟩
            go_wp2_with (first
              | (refine wpList_load_row rfl 49 (.tmp 17) rfl ga rfl 49 R'.toArray (0, 0) _ HVa.out Try.underlying49 rfl HRW.out.info' ?_)
              | (refine wpList_build_one' rfl 47 49 _ rfl R'.toArray 35 (.agg zT) 56 Try.underlying47 infoC (by decide) rfl (by rw [List.size_toArray, HRW.out.len]) ?_)
              | (at_builtin; refine wpList_app rfl _ _ 47 rfl w9.heap.size 49 (.agg zT) 35 56 Try.underlying47 infoC rfl (by decide) v14 (acc.length) (acc.flatMap Tn.row) rfl (HOa.out.alloc _) _ 1 R' rfl (src_one (heap_alloc_new wa _) HRW.out.one' HRW.out.len) (by have := HKL.out; unfold maxLen; omega) (by have := HKL.out; omega) (below_alloc HBa.out _).size (below_alloc HBa.out _) (Nat.le_refl _) ?_; intro vb wb hown hg hat hb; have HOb := As.mk hown; have HBb := As.mk hb; have HGb := As.mk hg; clear hown hg hat hb; refine As.out ?_))
            refine As.mk ?_
            go_wp2
            go_roundg (n - (i + 1))
            case measure => have := HI.out; have := HLT.out; omega
            case rel => exact ⟨i + 1, _, by have := HI.out; have := HLT.out; omega, rfl, by rw [HST2.out], by go_num, ⟨by rw [HST2.out]; exact fin_app HR'.out HOb.out⟩, HBb⟩
          | false =>
            by_cases hxx : x < x'
            · have dx : decide (x < x') = true := decide_eq_true hxx
              have HST2 : As (wantN t ts (i + 1) = (acc ++ [t] ++ [tx], true)) := ⟨by rw [HST.out]; unfold stepW; rw [if_pos ⟨rfl, by rw [HTI.out, HX'.out]; exact hxx⟩]⟩
              clear hxx
              go_wp2_with (first
                | (refine wpList_load_row rfl 49 (.tmp 4) rfl g0 rfl 49 R.toArray (0, 0) _ HWa.out Try.underlying49 rfl HRR.out.info' ?_)
                | (refine wpList_build_one' rfl 47 49 _ rfl R.toArray 35 (.agg zT) 56 Try.underlying47 infoC (by decide) rfl (by rw [List.size_toArray, HRR.out.len]) ?_)
                | (at_builtin; refine wpList_app rfl _ _ 47 rfl w9.heap.size 49 (.agg zT) 35 56 Try.underlying47 infoC rfl (by decide) v14 (acc.length) (acc.flatMap Tn.row) rfl (HOa.out.alloc _) _ 1 R rfl (src_one (heap_alloc_new wa _) HRR.out.one' HRR.out.len) (by have := HKL.out; unfold maxLen; omega) (by have := HKL.out; omega) (below_alloc HBa.out _).size (below_alloc HBa.out _) (Nat.le_refl _) ?_; intro vb wb hown hg hat hb; have HOb := As.mk hown; have HBb := As.mk hb; have HGb := As.mk hg; clear hown hg hat hb; refine As.out ?_))
              refine As.mk ?_
              have HVb : As (wb.heap[ga]? = some (.cells R'.toArray 49 (0, 0))) := ⟨by
                have hlt := (Array.getElem?_eq_some_iff.1 HVa.out).1
                rw [HGb.out.block ga (by simp; omega) (fun e => by have := HLTV.out ga e.symm; omega)]
                exact ((below_alloc (Below.refl _ wa) _).block ga hlt).trans HVa.out⟩
              have HOc : As (wb.ownsRow w9.heap.size 49 35 vb (acc ++ [t]).length ((acc ++ [t]).flatMap Tn.row)) := ⟨fin_app HTR.out HOb.out⟩
              have HKM : As ((acc ++ [t]).length ≤ 42) := ⟨by have := HKL.out; simp; omega⟩
              clear HOb HGb HKL
              have HKL := HKM
              go_wp2_with (first
                | (refine wpList_load_row rfl 49 (.tmp 17) rfl ga rfl 49 R'.toArray (0, 0) _ HVb.out Try.underlying49 rfl HRW.out.info' ?_)
                | (refine wpList_build_one' rfl 47 49 _ rfl R'.toArray 35 (.agg zT) 56 Try.underlying47 infoC (by decide) rfl (by rw [List.size_toArray, HRW.out.len]) ?_)
                | (at_builtin; refine wpList_app rfl _ _ 47 rfl w9.heap.size 49 (.agg zT) 35 56 Try.underlying47 infoC rfl (by decide) vb ((acc ++ [t]).length) ((acc ++ [t]).flatMap Tn.row) rfl (HOc.out.alloc _) _ 1 R' rfl (src_one (heap_alloc_new wb _) HRW.out.one' HRW.out.len) (by have := HKL.out; unfold maxLen; omega) (by have := HKL.out; omega) (below_alloc HBb.out _).size (below_alloc HBb.out _) (Nat.le_refl _) ?_; intro vd wd hown hg hat hb; have HOd := As.mk hown; have HBd := As.mk hb; have HGd := As.mk hg; clear hown hg hat hb; refine As.out ?_))
              refine As.mk ?_
              go_wp2
              go_roundg (n - (i + 1))
              case measure => have := HI.out; have := HLT.out; omega
              case rel => exact ⟨i + 1, _, by have := HI.out; have := HLT.out; omega, rfl, by rw [HST2.out], by go_num, ⟨by rw [HST2.out]; exact fin_app HR'.out HOd.out⟩, HBd⟩
            · have dx : decide (x < x') = false := decide_eq_false hxx
              have HST2 : As (wantN t ts (i + 1) = (acc ++ [tx], false)) := ⟨by rw [HST.out]; unfold stepW; rw [if_neg (fun e => hxx (by have := e.2; rw [HTI.out, HX'.out] at this; exact this))]⟩
              clear hxx
              go_wp2_with (first
                | (refine wpList_load_row rfl 49 (.tmp 17) rfl ga rfl 49 R'.toArray (0, 0) _ HVa.out Try.underlying49 rfl HRW.out.info' ?_)
                | (refine wpList_build_one' rfl 47 49 _ rfl R'.toArray 35 (.agg zT) 56 Try.underlying47 infoC (by decide) rfl (by rw [List.size_toArray, HRW.out.len]) ?_)
                | (at_builtin; refine wpList_app rfl _ _ 47 rfl w9.heap.size 49 (.agg zT) 35 56 Try.underlying47 infoC rfl (by decide) v14 (acc.length) (acc.flatMap Tn.row) rfl (HOa.out.alloc _) _ 1 R' rfl (src_one (heap_alloc_new wa _) HRW.out.one' HRW.out.len) (by have := HKL.out; unfold maxLen; omega) (by have := HKL.out; omega) (below_alloc HBa.out _).size (below_alloc HBa.out _) (Nat.le_refl _) ?_; intro vb wb hown hg hat hb; have HOb := As.mk hown; have HBb := As.mk hb; have HGb := As.mk hg; clear hown hg hat hb; refine As.out ?_))
              refine As.mk ?_
              go_wp2
              go_roundg (n - (i + 1))
              case measure => have := HI.out; have := HLT.out; omega
              case rel => exact ⟨i + 1, _, by have := HI.out; have := HLT.out; omega, rfl, by rw [HST2.out], by go_num, ⟨by rw [HST2.out]; exact fin_app HR'.out HOb.out⟩, HBb⟩
        · have c0 : decide ((i : Int) < (n : Int)) = false := decide_eq_false (by omega)
          have c1 : decide (i < n) = false := decide_eq_false hlt
          obtain rfl : i = n := by have := HI.out; omega
          clear hlt
          have HFI := As.mk (want_ins t ts)
          rw [HLN.out] at HFI
          obtain ⟨acc, hacc⟩ : ∃ a, (wantN t ts i).1 = a := ⟨_, rfl⟩
          obtain ⟨fl, hfl⟩ : ∃ a, (wantN t ts i).2 = a := ⟨_, rfl⟩
          have HAF : As (wantN t ts i = (acc, fl)) := ⟨by rw [← hacc, ← hfl]⟩
          rw [hacc] at HO HKL
          rw [hfl]
          rw [HAF.out] at HFI
          clear hacc hfl HAF
          have HWa := As.mk ((HB.out.block _ (Array.getElem?_eq_some_iff.1 HW9.out).1).trans HW9.out)
          have HIL := As.mk (ins_len t ts)
          rw [HLN.out] at HIL
          cases fl with
          | true =>
            have HE : As (acc = ins t ts) := ⟨HFI.out⟩
            have HO2 : As (wr.ownsRow w9.heap.size 49 35 v14 (i + 1) ((ins t ts).flatMap Tn.row)) := ⟨by rw [← HIL.out, ← HE.out]; exact HO.out⟩
            obtain ⟨A2, c2, rfl, hrd⟩ := own_rdT row_len (by decide) HO2.out HIL.out
            have HR2 := As.mk hrd
            have HQ2 := As.mk (HQ9.out.below HB.out)
            clear hrd
            go_wp2_with (go_at_call 29; (with_reducible refine (same_true (ins t ts) _ _ (i + 1) _ _ wr (by have := HN.out; omega) HQ2.out HR2.out).mono ?_); rintro e wz ⟨rfl, hb⟩; have HBZ := As.mk (HB9.out.trans ((HB.out.trans (hb.mono HB.out.size)).mono HB9.out.size)); clear hb)
            go_ret
            exact ⟨rfl, HBZ.out⟩
          | false =>
            have HE : As (acc ++ [t] = ins t ts) := ⟨HFI.out⟩
            go_wp2_with (first
              | (refine wpList_load_row rfl 49 (.tmp 4) rfl g0 rfl 49 R.toArray (0, 0) _ HWa.out Try.underlying49 rfl HRR.out.info' ?_)
              | (refine wpList_build_one' rfl 47 49 _ rfl R.toArray 35 (.agg zT) 56 Try.underlying47 infoC (by decide) rfl (by rw [List.size_toArray, HRR.out.len]) ?_)
              | (at_builtin; refine wpList_app rfl _ _ 47 rfl w9.heap.size 49 (.agg zT) 35 56 Try.underlying47 infoC rfl (by decide) v14 (acc.length) (acc.flatMap Tn.row) rfl (HO.out.alloc _) _ 1 R rfl (src_one (heap_alloc_new wr _) HRR.out.one' HRR.out.len) (by have := HKL.out; unfold maxLen; omega) (by have := HKL.out; omega) (below_alloc HB.out _).size (below_alloc HB.out _) (Nat.le_refl _) ?_; intro vb wb hown hg hat hb; have HOb := As.mk hown; have HBb := As.mk hb; have HGb := As.mk hg; clear hown hg hat hb; refine As.out ?_))
            refine As.mk ?_
            have HO2 : As (wb.ownsRow w9.heap.size 49 35 vb (i + 1) ((ins t ts).flatMap Tn.row)) := ⟨by rw [← HIL.out, ← HE.out]; exact fin_app HTR.out HOb.out⟩
            obtain ⟨A2, c2, rfl, hrd⟩ := own_rdT row_len (by decide) HO2.out HIL.out
            have HR2 := As.mk hrd
            have HQ2 := As.mk (HQ9.out.below HBb.out)
            clear hrd
            go_wp2_with (go_at_call 29; (with_reducible refine (same_true (ins t ts) _ _ (i + 1) _ _ wb (by have := HN.out; omega) HQ2.out HR2.out).mono ?_); rintro e wz ⟨rfl, hb⟩; have HBZ := As.mk (HB9.out.trans ((HBb.out.trans (hb.mono HBb.out.size)).mono HB9.out.size)); clear hb)
            go_ret
            exact ⟨rfl, HBZ.out⟩
end Go.Proofs.Ytcbfdofeedlajaa.QuotaW
