/- QuotaJoins: the statement. -/
import Derived.Test.YtcbfdofeedlajaaQuotaM
namespace Go.Proofs.Ytcbfdofeedlajaa.QuotaW
set_option linter.unusedVariables false
set_option linter.unusedSimpArgs false
open Go Go.RowKit Go.Sort Go.Proofs.Ytcbfdofeedlajaa.Mem Go.Proofs.Ytcbfdofeedlajaa.Flat Go.Proofs.Ytcbfdofeedlajaa.QuotaP

def thereN (ts : List Tn) (x : Int) : Nat → Bool
  | 0 => false
  | i + 1 => thereN ts x i || ((nthT ts i).id == x)
theorem there_no {ts : List Tn} {x : Int} : ∀ n, (∀ k, k < n → (nthT ts k).id ≠ x) → thereN ts x n = false
  | 0, _ => rfl
  | n + 1, h => by
    rw [thereN, there_no n (fun k hk => h k (by omega))]
    simpa using h n (by omega)
theorem there_yes {ts : List Tn} {x : Int} {j : Nat} (h : (nthT ts j).id = x) : ∀ n, j < n → thereN ts x n = true
  | 0, hj => by omega
  | n + 1, hj => by
    rw [thereN]
    by_cases e : j = n
    · subst e; simp [h]
    · rw [there_yes h n (by omega)]; rfl
theorem tot_bd {ts : List Tn} (hr : rightB ts = true) : 0 ≤ tot_q ts ∧ tot_q ts ≤ 65536 := by
  have h1 := sumQ_bd ts.length ((rightB_iff ts).1 hr) ts.length (Nat.le_refl _)
  have h2 := ok_len ts.length ((rightB_iff ts).1 hr)
  unfold tot_q
  rw [if_pos hr]
  omega
set_option maxHeartbeats 400000 in
set_option maxRecDepth 100000 in
theorem joins_far (A : Option Addr) (n c : Nat) (R : List Value) (x q u d : Int) (hR : RowOf R x q u) (w : World) (h : 40 < n) :
    Calls Try.prog 6 #[.slice A n c, .agg R.toArray, .int .i64 d] w fun e w' => e = .returned (.bool true) ∧ Below w.heap.size w w' := by
  have d3 : decide (40 < (n : Int)) = true := decide_eq_true (by omega)
  have d3' : decide (40 < n) = true := decide_eq_true (by omega)
  have HB0 := As.mk (below_alloc (Below.refl w.heap.size w) (.cells R.toArray 49))
  clear h
  go_enter Try.func6, Try.ntmps6
  go_wp2_with (first
    | (refine wpList_boxArr rfl 49 _ rfl R.toArray rfl ?_)
    | (go_at_call 26; refine (awake_true _).mono ?_; rintro e w1 ⟨rfl, hb⟩; have HB1 := As.mk (below_step HB0.out hb); clear hb))
  go_ret
  exact ⟨rfl, HB1.out⟩

set_option maxHeartbeats 4000000 in
set_option maxRecDepth 100000 in
theorem joins_nr (ts : List Tn) (A : Option Addr) (n c : Nat) (R : List Value) (x q u d : Int) (hR : RowOf R x q u) (w : World) (hn : n ≤ 40) (h : RdT Tn.row 35 w A n c ts) (hr : rightB ts = false)  :
    Calls Try.prog 6 #[.slice A n c, .agg R.toArray, .int .i64 d] w fun e w' => e = .returned (.bool true) ∧ Below w.heap.size w w' := by
  have d3 : decide (40 < (n : Int)) = false := decide_eq_false (by omega)
  have d3' : decide (40 < n) = false := decide_eq_false (by omega)
  have HN := As.mk hn
  have HRR := As.mk hR
  have HR := As.mk hr
  have HB0 := As.mk (below_alloc (Below.refl w.heap.size w) (.cells R.toArray 49))
  have H := As.mk (h.below HB0.out)
  have HW0 := As.mk (heap_alloc_new w (.cells R.toArray 49))
  have HTQ := As.mk (show tot_q ts = 0 by unfold tot_q; rw [if_neg (by rw [hr]; decide)])
  have HTU := As.mk (show tot_u ts = 0 by unfold tot_u; rw [if_neg (by rw [hr]; decide)])
  clear hn h hr hR
  go_enter Try.func6, Try.ntmps6
  go_wp2_with (refine wpList_boxArr rfl 49 _ rfl R.toArray rfl ?_; refine As.out ?_)
  refine As.mk ?_
  generalize w.alloc (.cells R.toArray 49) = w0 at *
  generalize hgg : w.heap.size = g0 at HW0 ⊢
  clear hgg
  go_wp2_with (go_at_call 26; (with_reducible refine (awake_true _).mono ?_); rintro e w1 ⟨rfl, hb⟩; have HB1 := As.mk (below_step HB0.out hb); have HW1 := As.mk ((hb.block _ (Array.getElem?_eq_some_iff.1 HW0.out).1).trans HW0.out); have H1 := As.mk (H.out.below hb); clear hb)
  go_loopg [7, 8, 9, 25] n (fun kq v7 v8 v9 v25 wr => ∃ i : Nat, i + kq = n ∧ v7 = .int .i64 (0) ∧ v8 = .int .i64 (0) ∧ v9 = .bool (thereN ts x i) ∧ v25 = .int .i64 i ∧ As (Below w.heap.size w wr) ∧ As (wr.heap[g0]? = some (.cells R.toArray 49 (0, 0))) ∧ As (RdT Tn.row 35 wr A n c ts))
  case atStart => exact ⟨0, by omega, rfl, rfl, rfl, rfl, HB1, HW1, H1⟩
  case round =>
    obtain ⟨i, hi, rfl, rfl, rfl, rfl, HB, HW, HX⟩ := hrel
    have HI := As.mk hi
    clear hi
    by_cases hlt : i < n
    · have c0 : decide ((i : Int) < (n : Int)) = true := decide_eq_true (by omega)
      have c1 : decide (i < n) = true := decide_eq_true hlt
      have lt' : (i : Int) < (n : Int) := by omega
      have hw : wrap64 ((i : Int) + 1) = ((i + 1 : Nat) : Int) := wrap_up (by have := HN.out; omega)
      obtain ⟨ad, ea, h1⟩ := HX.out.at i hlt
      cases ea
      have HRW := As.mk (RowOf.of (nthT ts i))
      have HTS : As (thereN ts x (i + 1) = (thereN ts x i || ((nthT ts i).id == x))) := ⟨rfl⟩
      generalize hRR : (nthT ts i).row = R' at h1 HRW
      clear hRR
      have HC1 := As.mk h1
      clear h1
      generalize (nthT ts i).id = x' at *
      generalize (nthT ts i).q = q' at *
      generalize (nthT ts i).u = u' at *
      have HLT := As.mk hlt
      clear hlt
      go_wp2_with (first
        | (refine wpList_load_at rfl 49 (.tmp 27) rfl (ad.add (i * 35)) rfl R' _ HC1.out Try.underlying49 rfl HRW.out.info ?_)
        | (refine wpList_allocArr rfl 49 rfl zT zT_info ?_)
        | (refine wpList_storeNew rfl rfl 49 _ _ rfl rfl R'.toArray rfl 49 zT HRW.out.info' HRW.out.zs HRW.out.one ?_; refine As.out ?_))
      refine As.mk ?_
      have hal := below_alloc (Below.refl wr.heap.size wr) (.cells R'.toArray 49)
      have HB2 := As.mk (below_step HB.out hal)
      have HX2 := As.mk (HX.out.below hal)
      have HW2 := As.mk ((hal.block _ (Array.getElem?_eq_some_iff.1 HW.out).1).trans HW.out)
      have HV2 := As.mk (heap_alloc_new wr (.cells R'.toArray 49))
      clear hal
      generalize wr.alloc (.cells R'.toArray 49) = w2 at *
      generalize wr.heap.size = g2 at *
      go_wp2_with (go_at_call 30; (with_reducible refine (rightL_any ts _ n c w2 (by have := HN.out; omega) HX2.out).mono ?_); rintro e w3 ⟨rfl, hb⟩; rw [HR.out]; have HB3 := As.mk (below_step HB2.out hb); have HX3 := As.mk (HX2.out.below hb); have HW3 := As.mk ((hb.block _ (Array.getElem?_eq_some_iff.1 HW2.out).1).trans HW2.out); have HV3 := As.mk ((hb.block _ (Array.getElem?_eq_some_iff.1 HV2.out).1).trans HV2.out); clear hb; refine As.out ?_)
      refine As.mk ?_
      obtain ⟨z0, z1, z2⟩ := HRW.out.cell HV3.out
      obtain ⟨y0, y1, y2⟩ := HRR.out.cell HW3.out
      cases hth : thereN ts x i with
      | true =>
        rw [hth] at HTS
        clear hth
        go_wp2
        go_roundg (n - (i + 1))
        case measure => have := HI.out; have := HLT.out; omega
        case rel => exact ⟨i + 1, by have := HI.out; have := HLT.out; omega, rfl, rfl, by rw [HTS.out]; rfl, by go_num, HB3, HW3, HX3⟩
      | false =>
        rw [hth] at HTS
        clear hth
        go_wp2
        go_roundg (n - (i + 1))
        case measure => have := HI.out; have := HLT.out; omega
        case rel => exact ⟨i + 1, by have := HI.out; have := HLT.out; omega, rfl, rfl, by rw [HTS.out]; rfl, by go_num, HB3, HW3, HX3⟩
    · have c0 : decide ((i : Int) < (n : Int)) = false := decide_eq_false (by omega)
      have c1 : decide (i < n) = false := decide_eq_false hlt
      obtain rfl : i = n := by have := HI.out; omega
      clear hlt
      have ESQ := HTQ
      have ESU := HTU
      have HNI := As.mk (show i ≤ 1000000 by have := HN.out; omega)
      go_wp2_with (first
        | (go_at_call 31; (with_reducible refine (right_any ts _ i c wr HNI.out HX.out).mono ?_); rintro e w4 ⟨rfl, hb⟩; rw [HR.out]; have HB4 := As.mk (below_step HB.out hb); have HX4 := As.mk (HX.out.below hb); have HW4 := As.mk ((hb.block _ (Array.getElem?_eq_some_iff.1 HW.out).1).trans HW.out); clear hb)
        | (go_at_call 30; (with_reducible refine (rightL_any ts _ i c w4 HNI.out HX4.out).mono ?_); rintro e w5 ⟨rfl, hb⟩; rw [HR.out]; have HB5 := As.mk (below_step HB4.out hb); have HX5 := As.mk (HX4.out.below hb); have HW5 := As.mk ((hb.block _ (Array.getElem?_eq_some_iff.1 HW4.out).1).trans HW4.out); clear hb)
        | (go_at_call 32; (with_reducible refine (total_q' ts _ i c w5 HNI.out HX5.out).mono ?_); rintro e w6 ⟨rfl, hb⟩; rw [ESQ.out]; have HB6 := As.mk (below_step HB5.out hb); have HX6 := As.mk (HX5.out.below hb); have HW6 := As.mk ((hb.block _ (Array.getElem?_eq_some_iff.1 HW5.out).1).trans HW5.out); clear hb)
        | (go_at_call 33; (with_reducible refine (total_u' ts _ i c w6 HNI.out HX6.out).mono ?_); rintro e w7 ⟨rfl, hb⟩; rw [ESU.out]; have HB7 := As.mk (below_step HB6.out hb); have HX7 := As.mk (HX6.out.below hb); have HW7 := As.mk ((hb.block _ (Array.getElem?_eq_some_iff.1 HW6.out).1).trans HW6.out); clear hb)
        | (refine wpList_load_row rfl 49 (.tmp 4) rfl g0 rfl 49 R.toArray (0, 0) _ HW7.out Try.underlying49 rfl HRR.out.info' ?_)
        | (go_at_call 34; refine As.out ?_))
      refine As.mk ?_
      obtain ⟨b1, hb1⟩ : ∃ b, (decide (1 ≤ x) && decide (x ≤ 16)) = b := ⟨_, rfl⟩
      obtain ⟨b2, hb2⟩ : ∃ b, (decide (0 ≤ q) && decide (q ≤ 4096)) = b := ⟨_, rfl⟩
      obtain ⟨b3, hb3⟩ : ∃ b, (u == 0) = b := ⟨_, rfl⟩
      obtain ⟨b4, hb4⟩ : ∃ b, (decide (0 ≤ d) && decide (d ≤ 4096)) = b := ⟨_, rfl⟩
      refine (join_arg ts R x q u d HRR.out _ i c w7 HNI.out HX7.out false b1 b2 b3 b4 ⟨HR.out, hb1, hb2, hb3, hb4⟩ rfl).mono ?_
      rintro e w8 ⟨rfl, hb⟩
      have HB8 := As.mk (below_step HB7.out hb)
      have HX8 := As.mk (HX7.out.below hb)
      have HW8 := As.mk ((hb.block _ (Array.getElem?_eq_some_iff.1 HW7.out).1).trans HW7.out)
      clear hb
      clear hb1 hb2 hb3 hb4
      go_wp2_with (go_at_call 30; (with_reducible refine (rightL_any ts _ i c w8 HNI.out HX8.out).mono ?_); rintro e w9 ⟨rfl, hb⟩; rw [HR.out]; have HB9 := As.mk (below_step HB8.out hb); have HX9 := As.mk (HX8.out.below hb); have HW9 := As.mk ((hb.block _ (Array.getElem?_eq_some_iff.1 HW8.out).1).trans HW8.out); clear hb; refine As.out ?_)
      refine As.mk ?_
      obtain ⟨y0, y1, y2⟩ := HRR.out.cell HW9.out
      go_wp2
      go_ret
      exact ⟨rfl, HB9.out⟩
set_option maxHeartbeats 4000000 in
set_option maxRecDepth 100000 in
theorem joins_arg (ts : List Tn) (A : Option Addr) (n c : Nat) (R : List Value) (x q u d : Int) (hR : RowOf R x q u) (w : World) (hn : n ≤ 40) (h : RdT Tn.row 35 w A n c ts) (hr : rightB ts = true) (hbd : x < 1 ∨ 16 < x ∨ q < 0 ∨ 4096 < q ∨ u ≠ 0 ∨ d < 0 ∨ 4096 < d) :
    Calls Try.prog 6 #[.slice A n c, .agg R.toArray, .int .i64 d] w fun e w' => e = .returned (.bool true) ∧ Below w.heap.size w w' := by
  have d3 : decide (40 < (n : Int)) = false := decide_eq_false (by omega)
  have d3' : decide (40 < n) = false := decide_eq_false (by omega)
  have HN := As.mk hn
  have HRR := As.mk hR
  have HR := As.mk hr
  have HB0 := As.mk (below_alloc (Below.refl w.heap.size w) (.cells R.toArray 49))
  have H := As.mk (h.below HB0.out)
  have HW0 := As.mk (heap_alloc_new w (.cells R.toArray 49))
  have HBD := As.mk hbd
  clear hbd
  have HTQ := As.mk (show tot_q ts = sumF Tn.q ts n by unfold tot_q; rw [if_pos hr, h.len])
  have HTU := As.mk (show tot_u ts = sumF Tn.u ts n by unfold tot_u; rw [if_pos hr, h.len])
  have HSB : As (∀ i, i ≤ n → (0 ≤ sumF Tn.q ts i ∧ sumF Tn.q ts i ≤ 4096 * i) ∧ 0 ≤ sumF Tn.u ts i ∧ sumF Tn.u ts i ≤ 4096 * i) := ⟨fun i hi => by
    have h1 := (rightB_iff ts).1 hr
    have a := sumQ_bd ts.length h1 i (by rw [h.len]; exact hi)
    have b := sumU_bd ts.length h1 i (by rw [h.len]; exact hi)
    omega⟩
  clear hn h hr hR
  go_enter Try.func6, Try.ntmps6
  go_wp2_with (refine wpList_boxArr rfl 49 _ rfl R.toArray rfl ?_; refine As.out ?_)
  refine As.mk ?_
  generalize w.alloc (.cells R.toArray 49) = w0 at *
  generalize hgg : w.heap.size = g0 at HW0 ⊢
  clear hgg
  go_wp2_with (go_at_call 26; (with_reducible refine (awake_true _).mono ?_); rintro e w1 ⟨rfl, hb⟩; have HB1 := As.mk (below_step HB0.out hb); have HW1 := As.mk ((hb.block _ (Array.getElem?_eq_some_iff.1 HW0.out).1).trans HW0.out); have H1 := As.mk (H.out.below hb); clear hb)
  go_loopg [7, 8, 9, 25] n (fun kq v7 v8 v9 v25 wr => ∃ i : Nat, i + kq = n ∧ v7 = .int .i64 (sumF Tn.q ts i) ∧ v8 = .int .i64 (sumF Tn.u ts i) ∧ v9 = .bool (thereN ts x i) ∧ v25 = .int .i64 i ∧ As (Below w.heap.size w wr) ∧ As (wr.heap[g0]? = some (.cells R.toArray 49 (0, 0))) ∧ As (RdT Tn.row 35 wr A n c ts))
  case atStart => exact ⟨0, by omega, rfl, rfl, rfl, rfl, HB1, HW1, H1⟩
  case round =>
    obtain ⟨i, hi, rfl, rfl, rfl, rfl, HB, HW, HX⟩ := hrel
    have HI := As.mk hi
    clear hi
    by_cases hlt : i < n
    · have c0 : decide ((i : Int) < (n : Int)) = true := decide_eq_true (by omega)
      have c1 : decide (i < n) = true := decide_eq_true hlt
      have lt' : (i : Int) < (n : Int) := by omega
      have hw : wrap64 ((i : Int) + 1) = ((i + 1 : Nat) : Int) := wrap_up (by have := HN.out; omega)
      obtain ⟨ad, ea, h1⟩ := HX.out.at i hlt
      cases ea
      have HRW := As.mk (RowOf.of (nthT ts i))
      have HTS : As (thereN ts x (i + 1) = (thereN ts x i || ((nthT ts i).id == x))) := ⟨rfl⟩
      generalize hRR : (nthT ts i).row = R' at h1 HRW
      clear hRR
      have HC1 := As.mk h1
      clear h1
      have HSQ : As (sumF Tn.q ts (i + 1) = sumF Tn.q ts i + (nthT ts i).q) := ⟨rfl⟩
      have HSU : As (sumF Tn.u ts (i + 1) = sumF Tn.u ts i + (nthT ts i).u) := ⟨rfl⟩
      have b0 := HSB.out i (by omega)
      have b1 := HSB.out (i + 1) (by omega)
      rw [HSQ.out, HSU.out] at b1
      obtain ⟨SQ, hSQ⟩ : ∃ S, sumF Tn.q ts i = S := ⟨_, rfl⟩
      obtain ⟨SU, hSU⟩ : ∃ S, sumF Tn.u ts i = S := ⟨_, rfl⟩
      rw [hSQ, hSU] at b0 b1
      rw [hSQ] at HSQ
      rw [hSU] at HSU
      rw [hSQ, hSU]
      clear hSQ hSU
      generalize (nthT ts i).id = x' at *
      generalize (nthT ts i).q = q' at *
      generalize (nthT ts i).u = u' at *
      have hsq : wrap64 (SQ + q') = SQ + q' := by unfold wrap64; have := HN.out; omega
      have hsu : wrap64 (SU + u') = SU + u' := by unfold wrap64; have := HN.out; omega
      clear b0 b1
      have HLT := As.mk hlt
      clear hlt
      go_wp2_with (first
        | (refine wpList_load_at rfl 49 (.tmp 27) rfl (ad.add (i * 35)) rfl R' _ HC1.out Try.underlying49 rfl HRW.out.info ?_)
        | (refine wpList_allocArr rfl 49 rfl zT zT_info ?_)
        | (refine wpList_storeNew rfl rfl 49 _ _ rfl rfl R'.toArray rfl 49 zT HRW.out.info' HRW.out.zs HRW.out.one ?_; refine As.out ?_))
      refine As.mk ?_
      have hal := below_alloc (Below.refl wr.heap.size wr) (.cells R'.toArray 49)
      have HB2 := As.mk (below_step HB.out hal)
      have HX2 := As.mk (HX.out.below hal)
      have HW2 := As.mk ((hal.block _ (Array.getElem?_eq_some_iff.1 HW.out).1).trans HW.out)
      have HV2 := As.mk (heap_alloc_new wr (.cells R'.toArray 49))
      clear hal
      generalize wr.alloc (.cells R'.toArray 49) = w2 at *
      generalize wr.heap.size = g2 at *
      go_wp2_with (go_at_call 30; (with_reducible refine (rightL_any ts _ n c w2 (by have := HN.out; omega) HX2.out).mono ?_); rintro e w3 ⟨rfl, hb⟩; rw [HR.out]; have HB3 := As.mk (below_step HB2.out hb); have HX3 := As.mk (HX2.out.below hb); have HW3 := As.mk ((hb.block _ (Array.getElem?_eq_some_iff.1 HW2.out).1).trans HW2.out); have HV3 := As.mk ((hb.block _ (Array.getElem?_eq_some_iff.1 HV2.out).1).trans HV2.out); clear hb; refine As.out ?_)
      refine As.mk ?_
      obtain ⟨z0, z1, z2⟩ := HRW.out.cell HV3.out
      obtain ⟨y0, y1, y2⟩ := HRR.out.cell HW3.out
      cases hth : thereN ts x i with
      | true =>
        rw [hth] at HTS
        clear hth
        go_wp2
        go_roundg (n - (i + 1))
        case measure => have := HI.out; have := HLT.out; omega
        case rel => exact ⟨i + 1, by have := HI.out; have := HLT.out; omega, by rw [HSQ.out, hsq], by rw [HSU.out, hsu], by rw [HTS.out]; rfl, by go_num, HB3, HW3, HX3⟩
      | false =>
        rw [hth] at HTS
        clear hth
        go_wp2
        go_roundg (n - (i + 1))
        case measure => have := HI.out; have := HLT.out; omega
        case rel => exact ⟨i + 1, by have := HI.out; have := HLT.out; omega, by rw [HSQ.out, hsq], by rw [HSU.out, hsu], by rw [HTS.out]; rfl, by go_num, HB3, HW3, HX3⟩
    · have c0 : decide ((i : Int) < (n : Int)) = false := decide_eq_false (by omega)
      have c1 : decide (i < n) = false := decide_eq_false hlt
      obtain rfl : i = n := by have := HI.out; omega
      clear hlt
      rw [show sumF Tn.q ts i = tot_q ts from HTQ.out.symm, show sumF Tn.u ts i = tot_u ts from HTU.out.symm]
      obtain ⟨SQ, hSQ⟩ : ∃ S, tot_q ts = S := ⟨_, rfl⟩
      obtain ⟨SU, hSU⟩ : ∃ S, tot_u ts = S := ⟨_, rfl⟩
      rw [hSQ, hSU]
      have ESQ := As.mk hSQ
      have ESU := As.mk hSU
      clear hSQ hSU
      have nq : (SQ != SQ) = false := by simp
      have nu : (SU != SU) = false := by simp
      have HNI := As.mk (show i ≤ 1000000 by have := HN.out; omega)
      go_wp2_with (first
        | (go_at_call 31; (with_reducible refine (right_any ts _ i c wr HNI.out HX.out).mono ?_); rintro e w4 ⟨rfl, hb⟩; rw [HR.out]; have HB4 := As.mk (below_step HB.out hb); have HX4 := As.mk (HX.out.below hb); have HW4 := As.mk ((hb.block _ (Array.getElem?_eq_some_iff.1 HW.out).1).trans HW.out); clear hb)
        | (go_at_call 30; (with_reducible refine (rightL_any ts _ i c w4 HNI.out HX4.out).mono ?_); rintro e w5 ⟨rfl, hb⟩; rw [HR.out]; have HB5 := As.mk (below_step HB4.out hb); have HX5 := As.mk (HX4.out.below hb); have HW5 := As.mk ((hb.block _ (Array.getElem?_eq_some_iff.1 HW4.out).1).trans HW4.out); clear hb)
        | (go_at_call 32; (with_reducible refine (total_q' ts _ i c w5 HNI.out HX5.out).mono ?_); rintro e w6 ⟨rfl, hb⟩; rw [ESQ.out]; have HB6 := As.mk (below_step HB5.out hb); have HX6 := As.mk (HX5.out.below hb); have HW6 := As.mk ((hb.block _ (Array.getElem?_eq_some_iff.1 HW5.out).1).trans HW5.out); clear hb)
        | (go_at_call 33; (with_reducible refine (total_u' ts _ i c w6 HNI.out HX6.out).mono ?_); rintro e w7 ⟨rfl, hb⟩; rw [ESU.out]; have HB7 := As.mk (below_step HB6.out hb); have HX7 := As.mk (HX6.out.below hb); have HW7 := As.mk ((hb.block _ (Array.getElem?_eq_some_iff.1 HW6.out).1).trans HW6.out); clear hb)
        | (refine wpList_load_row rfl 49 (.tmp 4) rfl g0 rfl 49 R.toArray (0, 0) _ HW7.out Try.underlying49 rfl HRR.out.info' ?_)
        | (go_at_call 34; refine As.out ?_))
      refine As.mk ?_
      obtain ⟨b1, hb1⟩ : ∃ b, (decide (1 ≤ x) && decide (x ≤ 16)) = b := ⟨_, rfl⟩
      obtain ⟨b2, hb2⟩ : ∃ b, (decide (0 ≤ q) && decide (q ≤ 4096)) = b := ⟨_, rfl⟩
      obtain ⟨b3, hb3⟩ : ∃ b, (u == 0) = b := ⟨_, rfl⟩
      obtain ⟨b4, hb4⟩ : ∃ b, (decide (0 ≤ d) && decide (d ≤ 4096)) = b := ⟨_, rfl⟩
      have hall : (true && (b1 && (b2 && (b3 && b4)))) = false := by
        have h9 := HBD.out
        rw [← hb1, ← hb2, ← hb3, ← hb4, Bool.eq_false_iff]
        intro h8
        simp only [Bool.and_eq_true, decide_eq_true_eq, beq_iff_eq] at h8
        omega
      refine (join_arg ts R x q u d HRR.out _ i c w7 HNI.out HX7.out true b1 b2 b3 b4 ⟨HR.out, hb1, hb2, hb3, hb4⟩ hall).mono ?_
      rintro e w8 ⟨rfl, hb⟩
      have HB8 := As.mk (below_step HB7.out hb)
      have HX8 := As.mk (HX7.out.below hb)
      have HW8 := As.mk ((hb.block _ (Array.getElem?_eq_some_iff.1 HW7.out).1).trans HW7.out)
      clear hb
      clear hb1 hb2 hb3 hb4 hall
      go_wp2_with (go_at_call 30; (with_reducible refine (rightL_any ts _ i c w8 HNI.out HX8.out).mono ?_); rintro e w9 ⟨rfl, hb⟩; rw [HR.out]; have HB9 := As.mk (below_step HB8.out hb); have HX9 := As.mk (HX8.out.below hb); have HW9 := As.mk ((hb.block _ (Array.getElem?_eq_some_iff.1 HW8.out).1).trans HW8.out); clear hb; refine As.out ?_)
      refine As.mk ?_
      obtain ⟨y0, y1, y2⟩ := HRR.out.cell HW9.out
      by_cases hc0 : x < 1
      · have d0 : decide (x < 1) = true := decide_eq_true hc0
        clear hc0
        go_wp2
        go_ret
        exact ⟨rfl, HB9.out⟩
      · have d0 : decide (x < 1) = false := decide_eq_false hc0
        by_cases hc1 : 16 < x
        · have d1 : decide (16 < x) = true := decide_eq_true hc1
          clear hc0 hc1
          go_wp2
          go_ret
          exact ⟨rfl, HB9.out⟩
        · have d1 : decide (16 < x) = false := decide_eq_false hc1
          by_cases hc2 : q < 0
          · have d2 : decide (q < 0) = true := decide_eq_true hc2
            clear hc0 hc1 hc2
            go_wp2
            go_ret
            exact ⟨rfl, HB9.out⟩
          · have d2 : decide (q < 0) = false := decide_eq_false hc2
            by_cases hc3 : 4096 < q
            · have d3 : decide (4096 < q) = true := decide_eq_true hc3
              clear hc0 hc1 hc2 hc3
              go_wp2
              go_ret
              exact ⟨rfl, HB9.out⟩
            · have d3 : decide (4096 < q) = false := decide_eq_false hc3
              by_cases hc4 : u ≠ 0
              · have d4 : (u != 0) = true := bne_iff_ne.2 hc4
                clear hc0 hc1 hc2 hc3 hc4
                go_wp2
                go_ret
                exact ⟨rfl, HB9.out⟩
              · have d4 : (u != 0) = false := by simpa using hc4
                by_cases hc5 : d < 0
                · have d5 : decide (d < 0) = true := decide_eq_true hc5
                  clear hc0 hc1 hc2 hc3 hc4 hc5
                  go_wp2
                  go_ret
                  exact ⟨rfl, HB9.out⟩
                · have d5 : decide (d < 0) = false := decide_eq_false hc5
                  by_cases hc6 : 4096 < d
                  · have d6 : decide (4096 < d) = true := decide_eq_true hc6
                    clear hc0 hc1 hc2 hc3 hc4 hc5 hc6
                    go_wp2
                    go_ret
                    exact ⟨rfl, HB9.out⟩
                  · have d6 : decide (4096 < d) = false := decide_eq_false hc6
                    refine absurd (HBD.out) ?_
                    omega
set_option maxHeartbeats 4000000 in
set_option maxRecDepth 100000 in
theorem joins_twice (ts : List Tn) (A : Option Addr) (n c : Nat) (R : List Value) (x q u d : Int) (hR : RowOf R x q u) (w : World) (hn : n ≤ 40) (h : RdT Tn.row 35 w A n c ts) (hr : rightB ts = true) (hg : 1 ≤ x ∧ x ≤ 16 ∧ 0 ≤ q ∧ q ≤ 4096 ∧ u = 0 ∧ 0 ≤ d ∧ d ≤ 4096) (j : Nat) (hk : j < n ∧ firstI x ts j) :
    Calls Try.prog 6 #[.slice A n c, .agg R.toArray, .int .i64 d] w fun e w' => e = .returned (.bool true) ∧ Below w.heap.size w w' := by
  have d3 : decide (40 < (n : Int)) = false := decide_eq_false (by omega)
  have d3' : decide (40 < n) = false := decide_eq_false (by omega)
  have HN := As.mk hn
  have HRR := As.mk hR
  have HR := As.mk hr
  have HB0 := As.mk (below_alloc (Below.refl w.heap.size w) (.cells R.toArray 49))
  have H := As.mk (h.below HB0.out)
  have HW0 := As.mk (heap_alloc_new w (.cells R.toArray 49))
  have HG := As.mk hg
  have HJB : As (JoinB ts x q u d true true true true true) := ⟨⟨hr, by simp; omega, by simp; omega, by simp; omega, by simp; omega⟩⟩
  have e1 : decide (x < 1) = false := decide_eq_false (by omega)
  have e2 : decide (16 < x) = false := decide_eq_false (by omega)
  have e3 : decide (q < 0) = false := decide_eq_false (by omega)
  have e4 : decide (4096 < q) = false := decide_eq_false (by omega)
  have e5 : (u != 0) = false := by rw [hg.2.2.2.2.1]; rfl
  have e6 : decide (d < 0) = false := decide_eq_false (by omega)
  have e7 : decide (4096 < d) = false := decide_eq_false (by omega)
  have E := As.mk (And.intro e1 (And.intro e2 (And.intro e3 (And.intro e4 (And.intro e5 (And.intro e6 e7))))))
  clear e1 e2 e3 e4 e5 e6 e7
  have HK := As.mk hk
  clear hg hk
  have HTQ := As.mk (show tot_q ts = sumF Tn.q ts n by unfold tot_q; rw [if_pos hr, h.len])
  have HTU := As.mk (show tot_u ts = sumF Tn.u ts n by unfold tot_u; rw [if_pos hr, h.len])
  have HSB : As (∀ i, i ≤ n → (0 ≤ sumF Tn.q ts i ∧ sumF Tn.q ts i ≤ 4096 * i) ∧ 0 ≤ sumF Tn.u ts i ∧ sumF Tn.u ts i ≤ 4096 * i) := ⟨fun i hi => by
    have h1 := (rightB_iff ts).1 hr
    have a := sumQ_bd ts.length h1 i (by rw [h.len]; exact hi)
    have b := sumU_bd ts.length h1 i (by rw [h.len]; exact hi)
    omega⟩
  clear hn h hr hR
  go_enter Try.func6, Try.ntmps6
  go_wp2_with (refine wpList_boxArr rfl 49 _ rfl R.toArray rfl ?_; refine As.out ?_)
  refine As.mk ?_
  generalize w.alloc (.cells R.toArray 49) = w0 at *
  generalize hgg : w.heap.size = g0 at HW0 ⊢
  clear hgg
  go_wp2_with (go_at_call 26; (with_reducible refine (awake_true _).mono ?_); rintro e w1 ⟨rfl, hb⟩; have HB1 := As.mk (below_step HB0.out hb); have HW1 := As.mk ((hb.block _ (Array.getElem?_eq_some_iff.1 HW0.out).1).trans HW0.out); have H1 := As.mk (H.out.below hb); clear hb)
  go_loopg [7, 8, 9, 25] n (fun kq v7 v8 v9 v25 wr => ∃ i : Nat, i + kq = n ∧ v7 = .int .i64 (sumF Tn.q ts i) ∧ v8 = .int .i64 (sumF Tn.u ts i) ∧ v9 = .bool (thereN ts x i) ∧ v25 = .int .i64 i ∧ As (Below w.heap.size w wr) ∧ As (wr.heap[g0]? = some (.cells R.toArray 49 (0, 0))) ∧ As (RdT Tn.row 35 wr A n c ts))
  case atStart => exact ⟨0, by omega, rfl, rfl, rfl, rfl, HB1, HW1, H1⟩
  case round =>
    obtain ⟨i, hi, rfl, rfl, rfl, rfl, HB, HW, HX⟩ := hrel
    have HI := As.mk hi
    clear hi
    by_cases hlt : i < n
    · have c0 : decide ((i : Int) < (n : Int)) = true := decide_eq_true (by omega)
      have c1 : decide (i < n) = true := decide_eq_true hlt
      have lt' : (i : Int) < (n : Int) := by omega
      have hw : wrap64 ((i : Int) + 1) = ((i + 1 : Nat) : Int) := wrap_up (by have := HN.out; omega)
      obtain ⟨ad, ea, h1⟩ := HX.out.at i hlt
      cases ea
      have HRW := As.mk (RowOf.of (nthT ts i))
      have HTS : As (thereN ts x (i + 1) = (thereN ts x i || ((nthT ts i).id == x))) := ⟨rfl⟩
      generalize hRR : (nthT ts i).row = R' at h1 HRW
      clear hRR
      have HC1 := As.mk h1
      clear h1
      have HSQ : As (sumF Tn.q ts (i + 1) = sumF Tn.q ts i + (nthT ts i).q) := ⟨rfl⟩
      have HSU : As (sumF Tn.u ts (i + 1) = sumF Tn.u ts i + (nthT ts i).u) := ⟨rfl⟩
      have b0 := HSB.out i (by omega)
      have b1 := HSB.out (i + 1) (by omega)
      rw [HSQ.out, HSU.out] at b1
      obtain ⟨SQ, hSQ⟩ : ∃ S, sumF Tn.q ts i = S := ⟨_, rfl⟩
      obtain ⟨SU, hSU⟩ : ∃ S, sumF Tn.u ts i = S := ⟨_, rfl⟩
      rw [hSQ, hSU] at b0 b1
      rw [hSQ] at HSQ
      rw [hSU] at HSU
      rw [hSQ, hSU]
      clear hSQ hSU
      generalize (nthT ts i).id = x' at *
      generalize (nthT ts i).q = q' at *
      generalize (nthT ts i).u = u' at *
      have hsq : wrap64 (SQ + q') = SQ + q' := by unfold wrap64; have := HN.out; omega
      have hsu : wrap64 (SU + u') = SU + u' := by unfold wrap64; have := HN.out; omega
      clear b0 b1
      have HLT := As.mk hlt
      clear hlt
      go_wp2_with (first
        | (refine wpList_load_at rfl 49 (.tmp 27) rfl (ad.add (i * 35)) rfl R' _ HC1.out Try.underlying49 rfl HRW.out.info ?_)
        | (refine wpList_allocArr rfl 49 rfl zT zT_info ?_)
        | (refine wpList_storeNew rfl rfl 49 _ _ rfl rfl R'.toArray rfl 49 zT HRW.out.info' HRW.out.zs HRW.out.one ?_; refine As.out ?_))
      refine As.mk ?_
      have hal := below_alloc (Below.refl wr.heap.size wr) (.cells R'.toArray 49)
      have HB2 := As.mk (below_step HB.out hal)
      have HX2 := As.mk (HX.out.below hal)
      have HW2 := As.mk ((hal.block _ (Array.getElem?_eq_some_iff.1 HW.out).1).trans HW.out)
      have HV2 := As.mk (heap_alloc_new wr (.cells R'.toArray 49))
      clear hal
      generalize wr.alloc (.cells R'.toArray 49) = w2 at *
      generalize wr.heap.size = g2 at *
      go_wp2_with (go_at_call 30; (with_reducible refine (rightL_any ts _ n c w2 (by have := HN.out; omega) HX2.out).mono ?_); rintro e w3 ⟨rfl, hb⟩; rw [HR.out]; have HB3 := As.mk (below_step HB2.out hb); have HX3 := As.mk (HX2.out.below hb); have HW3 := As.mk ((hb.block _ (Array.getElem?_eq_some_iff.1 HW2.out).1).trans HW2.out); have HV3 := As.mk ((hb.block _ (Array.getElem?_eq_some_iff.1 HV2.out).1).trans HV2.out); clear hb; refine As.out ?_)
      refine As.mk ?_
      obtain ⟨z0, z1, z2⟩ := HRW.out.cell HV3.out
      obtain ⟨y0, y1, y2⟩ := HRR.out.cell HW3.out
      cases hth : thereN ts x i with
      | true =>
        rw [hth] at HTS
        clear hth
        go_wp2
        go_roundg (n - (i + 1))
        case measure => have := HI.out; have := HLT.out; omega
        case rel => exact ⟨i + 1, by have := HI.out; have := HLT.out; omega, by rw [HSQ.out, hsq], by rw [HSU.out, hsu], by rw [HTS.out]; rfl, by go_num, HB3, HW3, HX3⟩
      | false =>
        rw [hth] at HTS
        clear hth
        go_wp2
        go_roundg (n - (i + 1))
        case measure => have := HI.out; have := HLT.out; omega
        case rel => exact ⟨i + 1, by have := HI.out; have := HLT.out; omega, by rw [HSQ.out, hsq], by rw [HSU.out, hsu], by rw [HTS.out]; rfl, by go_num, HB3, HW3, HX3⟩
    · have c0 : decide ((i : Int) < (n : Int)) = false := decide_eq_false (by omega)
      have c1 : decide (i < n) = false := decide_eq_false hlt
      obtain rfl : i = n := by have := HI.out; omega
      clear hlt
      rw [there_yes HK.out.2.1 i HK.out.1]
      rw [show sumF Tn.q ts i = tot_q ts from HTQ.out.symm, show sumF Tn.u ts i = tot_u ts from HTU.out.symm]
      obtain ⟨SQ, hSQ⟩ : ∃ S, tot_q ts = S := ⟨_, rfl⟩
      obtain ⟨SU, hSU⟩ : ∃ S, tot_u ts = S := ⟨_, rfl⟩
      rw [hSQ, hSU]
      have ESQ := As.mk hSQ
      have ESU := As.mk hSU
      clear hSQ hSU
      have nq : (SQ != SQ) = false := by simp
      have nu : (SU != SU) = false := by simp
      have HNI := As.mk (show i ≤ 1000000 by have := HN.out; omega)
      go_wp2_with (first
        | (go_at_call 31; (with_reducible refine (right_any ts _ i c wr HNI.out HX.out).mono ?_); rintro e w4 ⟨rfl, hb⟩; rw [HR.out]; have HB4 := As.mk (below_step HB.out hb); have HX4 := As.mk (HX.out.below hb); have HW4 := As.mk ((hb.block _ (Array.getElem?_eq_some_iff.1 HW.out).1).trans HW.out); clear hb)
        | (go_at_call 30; (with_reducible refine (rightL_any ts _ i c w4 HNI.out HX4.out).mono ?_); rintro e w5 ⟨rfl, hb⟩; rw [HR.out]; have HB5 := As.mk (below_step HB4.out hb); have HX5 := As.mk (HX4.out.below hb); have HW5 := As.mk ((hb.block _ (Array.getElem?_eq_some_iff.1 HW4.out).1).trans HW4.out); clear hb)
        | (go_at_call 32; (with_reducible refine (total_q' ts _ i c w5 HNI.out HX5.out).mono ?_); rintro e w6 ⟨rfl, hb⟩; rw [ESQ.out]; have HB6 := As.mk (below_step HB5.out hb); have HX6 := As.mk (HX5.out.below hb); have HW6 := As.mk ((hb.block _ (Array.getElem?_eq_some_iff.1 HW5.out).1).trans HW5.out); clear hb)
        | (go_at_call 33; (with_reducible refine (total_u' ts _ i c w6 HNI.out HX6.out).mono ?_); rintro e w7 ⟨rfl, hb⟩; rw [ESU.out]; have HB7 := As.mk (below_step HB6.out hb); have HX7 := As.mk (HX6.out.below hb); have HW7 := As.mk ((hb.block _ (Array.getElem?_eq_some_iff.1 HW6.out).1).trans HW6.out); clear hb)
        | (refine wpList_load_row rfl 49 (.tmp 4) rfl g0 rfl 49 R.toArray (0, 0) _ HW7.out Try.underlying49 rfl HRR.out.info' ?_)
        | (go_at_call 34; refine As.out ?_))
      refine As.mk ?_
      refine (join_twice ts R x q u d HRR.out _ i c w7 HNI.out HX7.out HJB.out j HK.out).mono ?_
      rintro e w8 ⟨rfl, hb⟩
      have HB8 := As.mk (below_step HB7.out hb)
      have HX8 := As.mk (HX7.out.below hb)
      have HW8 := As.mk ((hb.block _ (Array.getElem?_eq_some_iff.1 HW7.out).1).trans HW7.out)
      clear hb
      go_wp2_with (go_at_call 30; (with_reducible refine (rightL_any ts _ i c w8 HNI.out HX8.out).mono ?_); rintro e w9 ⟨rfl, hb⟩; rw [HR.out]; have HB9 := As.mk (below_step HB8.out hb); have HX9 := As.mk (HX8.out.below hb); have HW9 := As.mk ((hb.block _ (Array.getElem?_eq_some_iff.1 HW8.out).1).trans HW8.out); clear hb; refine As.out ?_)
      refine As.mk ?_
      obtain ⟨y0, y1, y2⟩ := HRR.out.cell HW9.out
      obtain ⟨e1, e2, e3, e4, e5, e6, e7⟩ := E.out
      go_wp2
      go_ret
      exact ⟨rfl, HB9.out⟩
set_option maxHeartbeats 4000000 in
set_option maxRecDepth 100000 in
theorem joins_full (ts : List Tn) (A : Option Addr) (n c : Nat) (R : List Value) (x q u d : Int) (hR : RowOf R x q u) (w : World) (hn : n ≤ 40) (h : RdT Tn.row 35 w A n c ts) (hr : rightB ts = true) (hg : 1 ≤ x ∧ x ≤ 16 ∧ 0 ≤ q ∧ q ≤ 4096 ∧ u = 0 ∧ 0 ≤ d ∧ d ≤ 4096) (hk : ∀ k, k < n → (nthT ts k).id ≠ x) (hf : d < tot_q ts + q) :
    Calls Try.prog 6 #[.slice A n c, .agg R.toArray, .int .i64 d] w fun e w' => e = .returned (.bool true) ∧ Below w.heap.size w w' := by
  have d3 : decide (40 < (n : Int)) = false := decide_eq_false (by omega)
  have d3' : decide (40 < n) = false := decide_eq_false (by omega)
  have HN := As.mk hn
  have HRR := As.mk hR
  have HR := As.mk hr
  have HB0 := As.mk (below_alloc (Below.refl w.heap.size w) (.cells R.toArray 49))
  have H := As.mk (h.below HB0.out)
  have HW0 := As.mk (heap_alloc_new w (.cells R.toArray 49))
  have HG := As.mk hg
  have HJB : As (JoinB ts x q u d true true true true true) := ⟨⟨hr, by simp; omega, by simp; omega, by simp; omega, by simp; omega⟩⟩
  have e1 : decide (x < 1) = false := decide_eq_false (by omega)
  have e2 : decide (16 < x) = false := decide_eq_false (by omega)
  have e3 : decide (q < 0) = false := decide_eq_false (by omega)
  have e4 : decide (4096 < q) = false := decide_eq_false (by omega)
  have e5 : (u != 0) = false := by rw [hg.2.2.2.2.1]; rfl
  have e6 : decide (d < 0) = false := decide_eq_false (by omega)
  have e7 : decide (4096 < d) = false := decide_eq_false (by omega)
  have E := As.mk (And.intro e1 (And.intro e2 (And.intro e3 (And.intro e4 (And.intro e5 (And.intro e6 e7))))))
  clear e1 e2 e3 e4 e5 e6 e7
  have HK := As.mk hk
  have HF := As.mk hf
  clear hg hk hf
  have HTQ := As.mk (show tot_q ts = sumF Tn.q ts n by unfold tot_q; rw [if_pos hr, h.len])
  have HTU := As.mk (show tot_u ts = sumF Tn.u ts n by unfold tot_u; rw [if_pos hr, h.len])
  have HSB : As (∀ i, i ≤ n → (0 ≤ sumF Tn.q ts i ∧ sumF Tn.q ts i ≤ 4096 * i) ∧ 0 ≤ sumF Tn.u ts i ∧ sumF Tn.u ts i ≤ 4096 * i) := ⟨fun i hi => by
    have h1 := (rightB_iff ts).1 hr
    have a := sumQ_bd ts.length h1 i (by rw [h.len]; exact hi)
    have b := sumU_bd ts.length h1 i (by rw [h.len]; exact hi)
    omega⟩
  clear hn h hr hR
  go_enter Try.func6, Try.ntmps6
  go_wp2_with (refine wpList_boxArr rfl 49 _ rfl R.toArray rfl ?_; refine As.out ?_)
  refine As.mk ?_
  generalize w.alloc (.cells R.toArray 49) = w0 at *
  generalize hgg : w.heap.size = g0 at HW0 ⊢
  clear hgg
  go_wp2_with (go_at_call 26; (with_reducible refine (awake_true _).mono ?_); rintro e w1 ⟨rfl, hb⟩; have HB1 := As.mk (below_step HB0.out hb); have HW1 := As.mk ((hb.block _ (Array.getElem?_eq_some_iff.1 HW0.out).1).trans HW0.out); have H1 := As.mk (H.out.below hb); clear hb)
  go_loopg [7, 8, 9, 25] n (fun kq v7 v8 v9 v25 wr => ∃ i : Nat, i + kq = n ∧ v7 = .int .i64 (sumF Tn.q ts i) ∧ v8 = .int .i64 (sumF Tn.u ts i) ∧ v9 = .bool (thereN ts x i) ∧ v25 = .int .i64 i ∧ As (Below w.heap.size w wr) ∧ As (wr.heap[g0]? = some (.cells R.toArray 49 (0, 0))) ∧ As (RdT Tn.row 35 wr A n c ts))
  case atStart => exact ⟨0, by omega, rfl, rfl, rfl, rfl, HB1, HW1, H1⟩
  case round =>
    obtain ⟨i, hi, rfl, rfl, rfl, rfl, HB, HW, HX⟩ := hrel
    have HI := As.mk hi
    clear hi
    by_cases hlt : i < n
    · have c0 : decide ((i : Int) < (n : Int)) = true := decide_eq_true (by omega)
      have c1 : decide (i < n) = true := decide_eq_true hlt
      have lt' : (i : Int) < (n : Int) := by omega
      have hw : wrap64 ((i : Int) + 1) = ((i + 1 : Nat) : Int) := wrap_up (by have := HN.out; omega)
      obtain ⟨ad, ea, h1⟩ := HX.out.at i hlt
      cases ea
      have HRW := As.mk (RowOf.of (nthT ts i))
      have HTS : As (thereN ts x (i + 1) = (thereN ts x i || ((nthT ts i).id == x))) := ⟨rfl⟩
      generalize hRR : (nthT ts i).row = R' at h1 HRW
      clear hRR
      have HC1 := As.mk h1
      clear h1
      have HSQ : As (sumF Tn.q ts (i + 1) = sumF Tn.q ts i + (nthT ts i).q) := ⟨rfl⟩
      have HSU : As (sumF Tn.u ts (i + 1) = sumF Tn.u ts i + (nthT ts i).u) := ⟨rfl⟩
      have b0 := HSB.out i (by omega)
      have b1 := HSB.out (i + 1) (by omega)
      rw [HSQ.out, HSU.out] at b1
      obtain ⟨SQ, hSQ⟩ : ∃ S, sumF Tn.q ts i = S := ⟨_, rfl⟩
      obtain ⟨SU, hSU⟩ : ∃ S, sumF Tn.u ts i = S := ⟨_, rfl⟩
      rw [hSQ, hSU] at b0 b1
      rw [hSQ] at HSQ
      rw [hSU] at HSU
      rw [hSQ, hSU]
      clear hSQ hSU
      generalize (nthT ts i).id = x' at *
      generalize (nthT ts i).q = q' at *
      generalize (nthT ts i).u = u' at *
      have hsq : wrap64 (SQ + q') = SQ + q' := by unfold wrap64; have := HN.out; omega
      have hsu : wrap64 (SU + u') = SU + u' := by unfold wrap64; have := HN.out; omega
      clear b0 b1
      have HLT := As.mk hlt
      clear hlt
      go_wp2_with (first
        | (refine wpList_load_at rfl 49 (.tmp 27) rfl (ad.add (i * 35)) rfl R' _ HC1.out Try.underlying49 rfl HRW.out.info ?_)
        | (refine wpList_allocArr rfl 49 rfl zT zT_info ?_)
        | (refine wpList_storeNew rfl rfl 49 _ _ rfl rfl R'.toArray rfl 49 zT HRW.out.info' HRW.out.zs HRW.out.one ?_; refine As.out ?_))
      refine As.mk ?_
      have hal := below_alloc (Below.refl wr.heap.size wr) (.cells R'.toArray 49)
      have HB2 := As.mk (below_step HB.out hal)
      have HX2 := As.mk (HX.out.below hal)
      have HW2 := As.mk ((hal.block _ (Array.getElem?_eq_some_iff.1 HW.out).1).trans HW.out)
      have HV2 := As.mk (heap_alloc_new wr (.cells R'.toArray 49))
      clear hal
      generalize wr.alloc (.cells R'.toArray 49) = w2 at *
      generalize wr.heap.size = g2 at *
      go_wp2_with (go_at_call 30; (with_reducible refine (rightL_any ts _ n c w2 (by have := HN.out; omega) HX2.out).mono ?_); rintro e w3 ⟨rfl, hb⟩; rw [HR.out]; have HB3 := As.mk (below_step HB2.out hb); have HX3 := As.mk (HX2.out.below hb); have HW3 := As.mk ((hb.block _ (Array.getElem?_eq_some_iff.1 HW2.out).1).trans HW2.out); have HV3 := As.mk ((hb.block _ (Array.getElem?_eq_some_iff.1 HV2.out).1).trans HV2.out); clear hb; refine As.out ?_)
      refine As.mk ?_
      obtain ⟨z0, z1, z2⟩ := HRW.out.cell HV3.out
      obtain ⟨y0, y1, y2⟩ := HRR.out.cell HW3.out
      cases hth : thereN ts x i with
      | true =>
        rw [hth] at HTS
        clear hth
        go_wp2
        go_roundg (n - (i + 1))
        case measure => have := HI.out; have := HLT.out; omega
        case rel => exact ⟨i + 1, by have := HI.out; have := HLT.out; omega, by rw [HSQ.out, hsq], by rw [HSU.out, hsu], by rw [HTS.out]; rfl, by go_num, HB3, HW3, HX3⟩
      | false =>
        rw [hth] at HTS
        clear hth
        go_wp2
        go_roundg (n - (i + 1))
        case measure => have := HI.out; have := HLT.out; omega
        case rel => exact ⟨i + 1, by have := HI.out; have := HLT.out; omega, by rw [HSQ.out, hsq], by rw [HSU.out, hsu], by rw [HTS.out]; rfl, by go_num, HB3, HW3, HX3⟩
    · have c0 : decide ((i : Int) < (n : Int)) = false := decide_eq_false (by omega)
      have c1 : decide (i < n) = false := decide_eq_false hlt
      obtain rfl : i = n := by have := HI.out; omega
      clear hlt
      rw [there_no i HK.out]
      rw [show sumF Tn.q ts i = tot_q ts from HTQ.out.symm, show sumF Tn.u ts i = tot_u ts from HTU.out.symm]
      obtain ⟨SQ, hSQ⟩ : ∃ S, tot_q ts = S := ⟨_, rfl⟩
      obtain ⟨SU, hSU⟩ : ∃ S, tot_u ts = S := ⟨_, rfl⟩
      rw [hSQ, hSU]
      have ESQ := As.mk hSQ
      have ESU := As.mk hSU
      clear hSQ hSU
      have nq : (SQ != SQ) = false := by simp
      have nu : (SU != SU) = false := by simp
      have HNI := As.mk (show i ≤ 1000000 by have := HN.out; omega)
      go_wp2_with (first
        | (go_at_call 31; (with_reducible refine (right_any ts _ i c wr HNI.out HX.out).mono ?_); rintro e w4 ⟨rfl, hb⟩; rw [HR.out]; have HB4 := As.mk (below_step HB.out hb); have HX4 := As.mk (HX.out.below hb); have HW4 := As.mk ((hb.block _ (Array.getElem?_eq_some_iff.1 HW.out).1).trans HW.out); clear hb)
        | (go_at_call 30; (with_reducible refine (rightL_any ts _ i c w4 HNI.out HX4.out).mono ?_); rintro e w5 ⟨rfl, hb⟩; rw [HR.out]; have HB5 := As.mk (below_step HB4.out hb); have HX5 := As.mk (HX4.out.below hb); have HW5 := As.mk ((hb.block _ (Array.getElem?_eq_some_iff.1 HW4.out).1).trans HW4.out); clear hb)
        | (go_at_call 32; (with_reducible refine (total_q' ts _ i c w5 HNI.out HX5.out).mono ?_); rintro e w6 ⟨rfl, hb⟩; rw [ESQ.out]; have HB6 := As.mk (below_step HB5.out hb); have HX6 := As.mk (HX5.out.below hb); have HW6 := As.mk ((hb.block _ (Array.getElem?_eq_some_iff.1 HW5.out).1).trans HW5.out); clear hb)
        | (go_at_call 33; (with_reducible refine (total_u' ts _ i c w6 HNI.out HX6.out).mono ?_); rintro e w7 ⟨rfl, hb⟩; rw [ESU.out]; have HB7 := As.mk (below_step HB6.out hb); have HX7 := As.mk (HX6.out.below hb); have HW7 := As.mk ((hb.block _ (Array.getElem?_eq_some_iff.1 HW6.out).1).trans HW6.out); clear hb)
        | (refine wpList_load_row rfl 49 (.tmp 4) rfl g0 rfl 49 R.toArray (0, 0) _ HW7.out Try.underlying49 rfl HRR.out.info' ?_)
        | (go_at_call 34; refine As.out ?_))
      refine As.mk ?_
      refine (join_full ts R x q u d HRR.out _ i c w7 HNI.out HX7.out HJB.out HK.out HF.out (by have := tot_bd HR.out; have := HG.out; omega)).mono ?_
      rintro e w8 ⟨rfl, hb⟩
      have HB8 := As.mk (below_step HB7.out hb)
      have HX8 := As.mk (HX7.out.below hb)
      have HW8 := As.mk ((hb.block _ (Array.getElem?_eq_some_iff.1 HW7.out).1).trans HW7.out)
      clear hb
      go_wp2_with (go_at_call 30; (with_reducible refine (rightL_any ts _ i c w8 HNI.out HX8.out).mono ?_); rintro e w9 ⟨rfl, hb⟩; rw [HR.out]; have HB9 := As.mk (below_step HB8.out hb); have HX9 := As.mk (HX8.out.below hb); have HW9 := As.mk ((hb.block _ (Array.getElem?_eq_some_iff.1 HW8.out).1).trans HW8.out); clear hb; refine As.out ?_)
      refine As.mk ?_
      obtain ⟨y0, y1, y2⟩ := HRR.out.cell HW9.out
      obtain ⟨e1, e2, e3, e4, e5, e6, e7⟩ := E.out
      have htb := tot_bd HR.out
      have hgg := HG.out
      rw [ESQ.out] at htb
      have hs1 : wrap64 (SQ + q) = SQ + q := by unfold wrap64; omega
      have hf2 : decide (d < SQ + q) = true := decide_eq_true (by have := HF.out; rw [ESQ.out] at this; exact this)
      clear htb hgg
      go_wp2
      go_ret
      exact ⟨rfl, HB9.out⟩
theorem fin_app {w : World} {B : Nat} {v : Value} {acc : List Tn} {t : Tn} {R : List Value} (ht : t.row = R) (h : w.ownsRow B 49 35 v (acc.length + 1) (acc.flatMap Tn.row ++ R)) : w.ownsRow B 49 35 v (acc ++ [t]).length ((acc ++ [t]).flatMap Tn.row) := by
  rw [List.length_append, List.flatMap_append, List.flatMap_cons, ht, List.flatMap_nil, List.append_nil]
  exact h
end Go.Proofs.Ytcbfdofeedlajaa.QuotaW
