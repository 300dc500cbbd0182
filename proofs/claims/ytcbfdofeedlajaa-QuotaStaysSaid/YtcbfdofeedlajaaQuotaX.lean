/- quota: closures, total, Find, slices.Clone at tenants, Move. -/
import Derived.Test.YtcbfdofeedlajaaQuotaW
namespace Go.Proofs.Ytcbfdofeedlajaa.QuotaW
set_option linter.unusedVariables false
set_option linter.unusedSimpArgs false
open Go Go.RowKit Go.Proofs.Ytcbfdofeedlajaa.Mem Go.Proofs.Ytcbfdofeedlajaa.Flat Go.Proofs.Ytcbfdofeedlajaa.QuotaP

set_option maxHeartbeats 400000 in
theorem clos_q (R : List Value) (x q u : Int) (h : RowOf R x q u) (w : World) :
    Calls Try.prog 84 #[.agg R.toArray] w fun e w' => e = .returned (.int .i64 q) ∧ Below w.heap.size w w' := by
  have H := As.mk h
  clear h
  go_enter Try.func84, Try.ntmps84
  go_wp2_with (refine wpList_boxArr rfl 49 _ rfl R.toArray rfl ?_; refine As.out ?_)
  refine As.mk ?_
  have HB1 := As.mk (below_alloc (Below.refl w.heap.size w) (.cells R.toArray 49))
  have HW1 := As.mk (heap_alloc_new w (.cells R.toArray 49))
  generalize w.alloc (.cells R.toArray 49) = w1 at *
  generalize hgg : w.heap.size = g1 at HW1 ⊢
  clear hgg
  obtain ⟨z0, z1, z2⟩ := H.out.cell HW1.out
  go_wp2
  go_ret
  exact ⟨rfl, HB1.out⟩
set_option maxHeartbeats 400000 in
theorem clos_u (R : List Value) (x q u : Int) (h : RowOf R x q u) (w : World) :
    Calls Try.prog 85 #[.agg R.toArray] w fun e w' => e = .returned (.int .i64 u) ∧ Below w.heap.size w w' := by
  have H := As.mk h
  clear h
  go_enter Try.func85, Try.ntmps85
  go_wp2_with (refine wpList_boxArr rfl 49 _ rfl R.toArray rfl ?_; refine As.out ?_)
  refine As.mk ?_
  have HB1 := As.mk (below_alloc (Below.refl w.heap.size w) (.cells R.toArray 49))
  have HW1 := As.mk (heap_alloc_new w (.cells R.toArray 49))
  generalize w.alloc (.cells R.toArray 49) = w1 at *
  generalize hgg : w.heap.size = g1 at HW1 ⊢
  clear hgg
  obtain ⟨z0, z1, z2⟩ := H.out.cell HW1.out
  go_wp2
  go_ret
  exact ⟨rfl, HB1.out⟩
set_option maxHeartbeats 400000 in
theorem clos_id (R : List Value) (x q u id : Int) (h : RowOf R x q u) (g : Nat) (w : World) (hg : w.cell? ⟨g, 0, none⟩ = some (.int .i64 id)) :
    Calls Try.prog 80 #[.agg R.toArray, .pointer (some ⟨g, 0, none⟩)] w fun e w' => e = .returned (.bool (x == id)) ∧ Below w.heap.size w w' := by
  have H := As.mk h
  have HG := As.mk ((World.cell?_alloc_lt w (.cells R.toArray 49) _ (World.block_lt_of_cell? w _ hg)).trans hg)
  clear h hg
  go_enter Try.func80, Try.ntmps80
  go_wp2_with (refine wpList_boxArr rfl 49 _ rfl R.toArray rfl ?_; refine As.out ?_)
  refine As.mk ?_
  have HB1 := As.mk (below_alloc (Below.refl w.heap.size w) (.cells R.toArray 49))
  have HW1 := As.mk (heap_alloc_new w (.cells R.toArray 49))
  generalize w.alloc (.cells R.toArray 49) = w1 at *
  generalize hgg : w.heap.size = g1 at HW1 ⊢
  clear hgg
  obtain ⟨z0, z1, z2⟩ := H.out.cell HW1.out
  have z3 := HG.out
  go_wp2
  go_ret
  exact ⟨rfl, by first | exact HB1.out | exact below_drewN HB1.out 1⟩
/-- the sum, of right ones -/
def tot_q (ts : List Tn) : Int := if rightB ts = true then sumF Tn.q ts ts.length else 0
set_option maxHeartbeats 2000000 in
set_option maxRecDepth 100000 in
theorem total_q (ts : List Tn) (A : Option Addr) (n c : Nat) (w : World) (hn : n ≤ 1000000) (h : RdT Tn.row 35 w A n c ts) :
    Calls Try.prog 83 #[.slice A n c, .func (.func 84) #[] #[]] w fun e w' => e = .returned (.int .i64 (tot_q ts)) ∧ Below w.heap.size w w' := by
  have HN := As.mk hn
  have H := As.mk h
  cases hr : rightB ts with
  | false =>
    have HR := As.mk hr
    have HT := As.mk (show tot_q ts = 0 by unfold tot_q; rw [if_neg (by rw [hr]; decide)])
    clear hn h hr
    go_enter Try.func83, Try.ntmps83
    go_wp2_with (go_at_call 31; (with_reducible refine (right_any ts A n c w HN.out H.out).mono ?_); rintro e w1 ⟨rfl, hb⟩; rw [HR.out]; have HB1 := As.mk hb; clear hb)
    go_ret
    exact ⟨by rw [HT.out]; rfl, HB1.out⟩
  | true =>
    have HR := As.mk hr
    have HT := As.mk (show tot_q ts = sumF Tn.q ts ts.length by unfold tot_q; rw [if_pos hr])
    have HS : As (∀ i, i ≤ n → 0 ≤ sumF Tn.q ts i ∧ sumF Tn.q ts i ≤ 4096 * i) := ⟨fun i hi => by
      have h1 := (rightB_iff ts).1 hr
      have := sumQ_bd ts.length h1 i (by rw [h.len]; exact hi)
      have := sumQ_bd ts.length h1 i (by rw [h.len]; exact hi)
      omega⟩
    have HL : As (n ≤ 16) := ⟨by rw [← h.len]; exact ok_len ts.length ((rightB_iff ts).1 hr)⟩
    clear hn h hr
    go_enter Try.func83, Try.ntmps83
    go_wp2_with (go_at_call 31; (with_reducible refine (right_any ts A n c w HN.out H.out).mono ?_); rintro e w1 ⟨rfl, hb⟩; rw [HR.out]; have HB1 := As.mk hb; clear hb)
    go_loopg [5, 13] n (fun kq v5 v13 wr => ∃ i : Nat, i + kq = n ∧ v13 = .int .i64 i ∧ v5 = .int .i64 (sumF Tn.q ts i) ∧ As (Below w.heap.size w wr))
    case atStart => exact ⟨0, by omega, rfl, rfl, HB1⟩
    case round =>
      obtain ⟨i, hi, rfl, rfl, HB⟩ := hrel
      have HI := As.mk hi
      clear hi
      by_cases hlt : i < n
      · have c0 : decide ((i : Int) < (n : Int)) = true := decide_eq_true (by omega)
        have c1 : decide (i < n) = true := decide_eq_true hlt
        have lt' : (i : Int) < (n : Int) := by omega
        have hw : wrap64 ((i : Int) + 1) = ((i + 1 : Nat) : Int) := wrap_up (by have := HN.out; omega)
        obtain ⟨ad, ea, h1⟩ := (H.out.below HB.out).at i hlt
        cases ea
        have HRW := As.mk (RowOf.of (nthT ts i))
        have HSS : As (sumF Tn.q ts (i + 1) = sumF Tn.q ts i + (nthT ts i).q) := ⟨rfl⟩
        have hs0 := HS.out i (by omega)
        have hs1 := HS.out (i + 1) (by omega)
        rw [HSS.out] at hs1
        have hl := HL.out
        generalize hR : (nthT ts i).row = R at h1 HRW
        clear hR
        have H1 := As.mk h1
        clear h1
        generalize (nthT ts i).id = x at *
        generalize (nthT ts i).q = q at *
        generalize (nthT ts i).u = u at *
        obtain ⟨S, hS⟩ : ∃ S, sumF Tn.q ts i = S := ⟨_, rfl⟩
        rw [hS] at hs0 hs1 HSS ⊢
        have hsum : wrap64 (S + q) = S + q := by unfold wrap64; omega
        have HLT := As.mk hlt
        clear hlt hs0 hs1 hl
        go_wp2_with (first
          | (refine wpList_load_at rfl 49 (.tmp 15) rfl (ad.add (i * 35)) rfl R _ H1.out Try.underlying49 rfl HRW.out.info ?_)
          | (refine wpList_allocArr rfl 49 rfl zT zT_info ?_)
          | (refine wpList_storeNew rfl rfl 49 _ _ rfl rfl R.toArray rfl 49 zT HRW.out.info' HRW.out.zs HRW.out.one ?_; refine As.out ?_))
        refine As.mk ?_
        have HB2 := As.mk (below_step HB.out (below_alloc (Below.refl wr.heap.size wr) (.cells R.toArray 49)))
        have HW2 := As.mk (heap_alloc_new wr (.cells R.toArray 49))
        generalize wr.alloc (.cells R.toArray 49) = w2 at *
        generalize wr.heap.size = g2 at *
        go_wp2_with (first
          | (refine wpList_load_row rfl 49 (.tmp 7) rfl g2 rfl 49 R.toArray (0, 0) _ HW2.out Try.underlying49 rfl HRW.out.info' ?_)
          | (go_at_call 84; (with_reducible refine (clos_q R x q u HRW.out _).mono ?_); rintro e w3 ⟨rfl, hb⟩; have HB3 := As.mk (below_step HB2.out hb); clear hb))
        go_roundg (n - (i + 1))
        case measure => have := HI.out; have := HLT.out; omega
        case rel => exact ⟨i + 1, by have := HI.out; have := HLT.out; omega, by go_num, by rw [HSS.out, hsum], HB3⟩
      · have c0 : decide ((i : Int) < (n : Int)) = false := decide_eq_false (by omega)
        have c1 : decide (i < n) = false := decide_eq_false hlt
        obtain rfl : i = n := by have := HI.out; omega
        have HT2 := As.mk (show tot_q ts = sumF Tn.q ts i by rw [HT.out, H.out.len])
        clear hlt
        go_wp2
        go_ret
        exact ⟨by rw [HT2.out]; rfl, HB.out⟩
set_option maxHeartbeats 400000 in
theorem total_q' (ts : List Tn) (A : Option Addr) (n c : Nat) (w : World) (hn : n ≤ 1000000) (h : RdT Tn.row 35 w A n c ts) :
    Calls Try.prog 32 #[.slice A n c] w fun e w' => e = .returned (.int .i64 (tot_q ts)) ∧ Below w.heap.size w w' := by
  have HN := As.mk hn
  have H := As.mk h
  clear hn h
  go_enter Try.func32, Try.ntmps32
  go_wp2_with (go_at_call 83; (with_reducible refine (total_q ts A n c w HN.out H.out).mono ?_); rintro e w1 ⟨rfl, hb⟩; have HB1 := As.mk hb; clear hb)
  go_ret
  exact ⟨rfl, HB1.out⟩
/-- the sum, of right ones -/
def tot_u (ts : List Tn) : Int := if rightB ts = true then sumF Tn.u ts ts.length else 0
set_option maxHeartbeats 2000000 in
set_option maxRecDepth 100000 in
theorem total_u (ts : List Tn) (A : Option Addr) (n c : Nat) (w : World) (hn : n ≤ 1000000) (h : RdT Tn.row 35 w A n c ts) :
    Calls Try.prog 83 #[.slice A n c, .func (.func 85) #[] #[]] w fun e w' => e = .returned (.int .i64 (tot_u ts)) ∧ Below w.heap.size w w' := by
  have HN := As.mk hn
  have H := As.mk h
  cases hr : rightB ts with
  | false =>
    have HR := As.mk hr
    have HT := As.mk (show tot_u ts = 0 by unfold tot_u; rw [if_neg (by rw [hr]; decide)])
    clear hn h hr
    go_enter Try.func83, Try.ntmps83
    go_wp2_with (go_at_call 31; (with_reducible refine (right_any ts A n c w HN.out H.out).mono ?_); rintro e w1 ⟨rfl, hb⟩; rw [HR.out]; have HB1 := As.mk hb; clear hb)
    go_ret
    exact ⟨by rw [HT.out]; rfl, HB1.out⟩
  | true =>
    have HR := As.mk hr
    have HT := As.mk (show tot_u ts = sumF Tn.u ts ts.length by unfold tot_u; rw [if_pos hr])
    have HS : As (∀ i, i ≤ n → 0 ≤ sumF Tn.u ts i ∧ sumF Tn.u ts i ≤ 4096 * i) := ⟨fun i hi => by
      have h1 := (rightB_iff ts).1 hr
      have := sumU_bd ts.length h1 i (by rw [h.len]; exact hi)
      have := sumQ_bd ts.length h1 i (by rw [h.len]; exact hi)
      omega⟩
    have HL : As (n ≤ 16) := ⟨by rw [← h.len]; exact ok_len ts.length ((rightB_iff ts).1 hr)⟩
    clear hn h hr
    go_enter Try.func83, Try.ntmps83
    go_wp2_with (go_at_call 31; (with_reducible refine (right_any ts A n c w HN.out H.out).mono ?_); rintro e w1 ⟨rfl, hb⟩; rw [HR.out]; have HB1 := As.mk hb; clear hb)
    go_loopg [5, 13] n (fun kq v5 v13 wr => ∃ i : Nat, i + kq = n ∧ v13 = .int .i64 i ∧ v5 = .int .i64 (sumF Tn.u ts i) ∧ As (Below w.heap.size w wr))
    case atStart => exact ⟨0, by omega, rfl, rfl, HB1⟩
    case round =>
      obtain ⟨i, hi, rfl, rfl, HB⟩ := hrel
      have HI := As.mk hi
      clear hi
      by_cases hlt : i < n
      · have c0 : decide ((i : Int) < (n : Int)) = true := decide_eq_true (by omega)
        have c1 : decide (i < n) = true := decide_eq_true hlt
        have lt' : (i : Int) < (n : Int) := by omega
        have hw : wrap64 ((i : Int) + 1) = ((i + 1 : Nat) : Int) := wrap_up (by have := HN.out; omega)
        obtain ⟨ad, ea, h1⟩ := (H.out.below HB.out).at i hlt
        cases ea
        have HRW := As.mk (RowOf.of (nthT ts i))
        have HSS : As (sumF Tn.u ts (i + 1) = sumF Tn.u ts i + (nthT ts i).u) := ⟨rfl⟩
        have hs0 := HS.out i (by omega)
        have hs1 := HS.out (i + 1) (by omega)
        rw [HSS.out] at hs1
        have hl := HL.out
        generalize hR : (nthT ts i).row = R at h1 HRW
        clear hR
        have H1 := As.mk h1
        clear h1
        generalize (nthT ts i).id = x at *
        generalize (nthT ts i).q = q at *
        generalize (nthT ts i).u = u at *
        obtain ⟨S, hS⟩ : ∃ S, sumF Tn.u ts i = S := ⟨_, rfl⟩
        rw [hS] at hs0 hs1 HSS ⊢
        have hsum : wrap64 (S + u) = S + u := by unfold wrap64; omega
        have HLT := As.mk hlt
        clear hlt hs0 hs1 hl
        go_wp2_with (first
          | (refine wpList_load_at rfl 49 (.tmp 15) rfl (ad.add (i * 35)) rfl R _ H1.out Try.underlying49 rfl HRW.out.info ?_)
          | (refine wpList_allocArr rfl 49 rfl zT zT_info ?_)
          | (refine wpList_storeNew rfl rfl 49 _ _ rfl rfl R.toArray rfl 49 zT HRW.out.info' HRW.out.zs HRW.out.one ?_; refine As.out ?_))
        refine As.mk ?_
        have HB2 := As.mk (below_step HB.out (below_alloc (Below.refl wr.heap.size wr) (.cells R.toArray 49)))
        have HW2 := As.mk (heap_alloc_new wr (.cells R.toArray 49))
        generalize wr.alloc (.cells R.toArray 49) = w2 at *
        generalize wr.heap.size = g2 at *
        go_wp2_with (first
          | (refine wpList_load_row rfl 49 (.tmp 7) rfl g2 rfl 49 R.toArray (0, 0) _ HW2.out Try.underlying49 rfl HRW.out.info' ?_)
          | (go_at_call 85; (with_reducible refine (clos_u R x q u HRW.out _).mono ?_); rintro e w3 ⟨rfl, hb⟩; have HB3 := As.mk (below_step HB2.out hb); clear hb))
        go_roundg (n - (i + 1))
        case measure => have := HI.out; have := HLT.out; omega
        case rel => exact ⟨i + 1, by have := HI.out; have := HLT.out; omega, by go_num, by rw [HSS.out, hsum], HB3⟩
      · have c0 : decide ((i : Int) < (n : Int)) = false := decide_eq_false (by omega)
        have c1 : decide (i < n) = false := decide_eq_false hlt
        obtain rfl : i = n := by have := HI.out; omega
        have HT2 := As.mk (show tot_u ts = sumF Tn.u ts i by rw [HT.out, H.out.len])
        clear hlt
        go_wp2
        go_ret
        exact ⟨by rw [HT2.out]; rfl, HB.out⟩
set_option maxHeartbeats 400000 in
theorem total_u' (ts : List Tn) (A : Option Addr) (n c : Nat) (w : World) (hn : n ≤ 1000000) (h : RdT Tn.row 35 w A n c ts) :
    Calls Try.prog 33 #[.slice A n c] w fun e w' => e = .returned (.int .i64 (tot_u ts)) ∧ Below w.heap.size w w' := by
  have HN := As.mk hn
  have H := As.mk h
  clear hn h
  go_enter Try.func33, Try.ntmps33
  go_wp2_with (go_at_call 83; (with_reducible refine (total_u ts A n c w HN.out H.out).mono ?_); rintro e w1 ⟨rfl, hb⟩; have HB1 := As.mk hb; clear hb)
  go_ret
  exact ⟨rfl, HB1.out⟩
end Go.Proofs.Ytcbfdofeedlajaa.QuotaW
