/- bound.Change, Format, Mount. -/
import Derived.Test.YteajblfkfmopfaaBoundC
namespace Go.Proofs.Yteajblfkfmopfaa.Bound
set_option linter.unusedVariables false
set_option linter.unusedSimpArgs false
open Go Go.RowKit Go.Proofs.Yteajblfkfmopfaa.Mem Go.Proofs.Yteajblfkfmopfaa.Geo Go.Proofs.Yteajblfkfmopfaa.LayA

/-- what a change, formatting, mounting cost -/
def chgN (s t p d k : Int) : Nat := if rightB s t p d = true then (if k = 8 then stepsN (secB s t p d + 1) s.toNat else if chB k = true then stepsN (secB s t p d) s.toNat else 0) else 0
def fmtN (s t p d : Int) : Nat := if rightB s t p d = true then 3 + stepsN (secB s t p d) s.toNat else 0
def mntN (s t p d : Int) : Nat := if rightB s t p d = true then secB s t p d + 2 else 0
theorem sec_bd (s t p d : Nat) (h : rightB s t p d = true) : 1 ≤ secB s t p d ∧ secB s t p d < 6480 ∧ secB s t p d = secN s t p d := by
  have hr := (rightB_iff _ _ _ _).1 h
  have h1 := hr.s0
  have h2 := hr.t1
  have h3 := hr.p1
  have h4 := hr.d1
  have e : secB s t p d = secN s t p d := by unfold secB; rw [if_pos h]; rfl
  rw [e]
  exact ⟨secN_pos (by omega), secN_lt (by omega) (by omega) (by omega) (by omega), rfl⟩
theorem sec_zero {s t p d : Int} (h : rightB s t p d = false) : secB s t p d = 0 := by unfold secB; rw [if_neg (by rw [h]; decide)]
theorem wide_of_right {s t p d : Nat} (h : rightB s t p d = true) : 64 ≤ s ∧ s ≤ 256 ∧ s % 16 = 0 := by
  have hr := (rightB_iff _ _ _ _).1 h
  have h1 := hr.s0
  have h2 := hr.s1
  have h3 := hr.sm
  omega
set_option maxHeartbeats 1000000 in
set_option maxRecDepth 100000 in
theorem format_any (s t p d : Int) (V : Nat) (hV : fmtN s t p d = V) (w : World) :
    Calls Try.prog 22 #[.agg #[.int .i64 s, .int .i64 t, .int .i64 p, .int .i64 d]] w fun e w' => e = .returned (.int .i64 (V : Int)) ∧ Below w.heap.size w w' := by
  have HB0 := As.mk (below_alloc (Below.refl w.heap.size w) (.cells #[.int .i64 s, .int .i64 t, .int .i64 p, .int .i64 d] 23))
  have HG0 := As.mk (heap_alloc_new w (.cells #[.int .i64 s, .int .i64 t, .int .i64 p, .int .i64 d] 23))
  obtain ⟨M, hM⟩ : ∃ M, secB s t p d = M := ⟨_, rfl⟩
  have HM := As.mk hM
  rcases Bool.eq_false_or_eq_true (rightB s t p d) with hr | hr
  · obtain ⟨s, t, p, d, rfl, rfl, rfl, rfl, -⟩ := ((rightB_iff _ _ _ _).1 hr).nat
    have hb := sec_bd s t p d hr
    rw [hM] at hb
    have HW := As.mk (wide_of_right hr)
    have HMB := As.mk hb
    have e0 : ((M : Int) == 0) = false := beq_eq_false_iff_ne.2 (by omega)
    have e0' : (M == 0) = false := beq_eq_false_iff_ne.2 (by omega)
    obtain ⟨S, hS⟩ : ∃ S, stepsN M s = S := ⟨_, rfl⟩
    have HS := As.mk hS
    have HSL := As.mk (show S ≤ 200000 by rw [← hS]; exact steps_le (by omega) HW.out.1)
    have HV : As (3 + S = V) := ⟨by rw [← hV, ← hS, ← hM]; unfold fmtN; rw [if_pos hr]; rfl⟩
    clear hb hr hV hM hS
    go_enter Try.func22, Try.ntmps22
    go_wp2_with (first
      | (refine wpList_boxArr rfl 23 _ rfl #[.int .i64 (s : Int), .int .i64 (t : Int), .int .i64 (p : Int), .int .i64 (d : Int)] rfl ?_; refine As.out ?_))
    refine As.mk ?_
    generalize w.alloc _ = w1 at *
    go_wp2_with (first
      | (refine wpList_load_row rfl 23 (.tmp 1) rfl w.heap.size rfl 23 #[.int .i64 (s : Int), .int .i64 (t : Int), .int .i64 (p : Int), .int .i64 (d : Int)] (0, 0) _ HG0.out Try.underlying23 rfl info_geom ?_)
      | (go_at_call 90; (with_reducible refine (meta_any s t p d M HM.out w1).mono ?_); rintro e w2 ⟨rfl, hb⟩; have HB2 := As.mk (below_step HB0.out hb); have HG2 := As.mk ((hb.block _ (Array.getElem?_eq_some_iff.1 HG0.out).1).trans HG0.out); clear hb; refine As.out ?_))
    refine As.mk ?_
    have c0 : w2.cell? ⟨w.heap.size, 0, none⟩ = some (.int .i64 (s : Int)) := cell_of_row w2 _ 0 _ _ _ HG2.out
    go_wp2_with (first
      | (go_at_call 92; (with_reducible refine (tsteps_ok M s S (M : Int) rfl (by have := HMB.out; omega) HW.out HS.out w2).mono ?_); rintro e w3 ⟨rfl, rfl⟩)
      | (go_at_call 93; (refine (sum_two 3 (S : Int) (V : Int) (by have := HV.out; omega) (by omega) (by have := HSL.out; omega) w2).mono ?_); rintro e w4 ⟨rfl, hb⟩; have HB4 := As.mk (below_step HB2.out hb); clear hb))
    go_ret
    exact ⟨rfl, HB4.out⟩
  · have hM0 : M = 0 := by rw [← hM]; exact sec_zero hr
    subst hM0
    obtain rfl : V = 0 := by rw [← hV]; unfold fmtN; rw [if_neg (by rw [hr]; decide)]
    clear hr hV hM
    go_enter Try.func22, Try.ntmps22
    go_wp2_with (first
      | (refine wpList_boxArr rfl 23 _ rfl #[.int .i64 s, .int .i64 t, .int .i64 p, .int .i64 d] rfl ?_; refine As.out ?_))
    refine As.mk ?_
    generalize w.alloc _ = w1 at *
    go_wp2_with (first
      | (refine wpList_load_row rfl 23 (.tmp 1) rfl w.heap.size rfl 23 #[.int .i64 s, .int .i64 t, .int .i64 p, .int .i64 d] (0, 0) _ HG0.out Try.underlying23 rfl info_geom ?_)
      | (go_at_call 90; (with_reducible refine (meta_any s t p d 0 HM.out w1).mono ?_); rintro e w2 ⟨rfl, hb⟩; have HB2 := As.mk (below_step HB0.out hb); have HG2 := As.mk ((hb.block _ (Array.getElem?_eq_some_iff.1 HG0.out).1).trans HG0.out); clear hb; refine As.out ?_))
    refine As.mk ?_
    go_wp2
    go_ret
    exact ⟨rfl, HB2.out⟩
set_option maxHeartbeats 1000000 in
set_option maxRecDepth 100000 in
theorem mount_any (s t p d : Int) (V : Nat) (hV : mntN s t p d = V) (w : World) :
    Calls Try.prog 23 #[.agg #[.int .i64 s, .int .i64 t, .int .i64 p, .int .i64 d]] w fun e w' => e = .returned (.int .i64 (V : Int)) ∧ Below w.heap.size w w' := by
  have HB0 := As.mk (below_alloc (Below.refl w.heap.size w) (.cells #[.int .i64 s, .int .i64 t, .int .i64 p, .int .i64 d] 23))
  have HG0 := As.mk (heap_alloc_new w (.cells #[.int .i64 s, .int .i64 t, .int .i64 p, .int .i64 d] 23))
  obtain ⟨M, hM⟩ : ∃ M, secB s t p d = M := ⟨_, rfl⟩
  have HM := As.mk hM
  rcases Bool.eq_false_or_eq_true (rightB s t p d) with hr | hr
  · obtain ⟨s, t, p, d, rfl, rfl, rfl, rfl, -⟩ := ((rightB_iff _ _ _ _).1 hr).nat
    have hb := sec_bd s t p d hr
    rw [hM] at hb
    have HW := As.mk (wide_of_right hr)
    have HMB := As.mk hb
    have e0 : ((M : Int) == 0) = false := beq_eq_false_iff_ne.2 (by omega)
    have e0' : (M == 0) = false := beq_eq_false_iff_ne.2 (by omega)
    have HV : As (M + 2 = V) := ⟨by rw [← hV, ← hM]; unfold mntN; rw [if_pos hr]⟩
    clear hb hr hV hM
    go_enter Try.func23, Try.ntmps23
    go_wp2_with (first
      | (refine wpList_boxArr rfl 23 _ rfl #[.int .i64 (s : Int), .int .i64 (t : Int), .int .i64 (p : Int), .int .i64 (d : Int)] rfl ?_; refine As.out ?_))
    refine As.mk ?_
    generalize w.alloc _ = w1 at *
    go_wp2_with (first
      | (refine wpList_load_row rfl 23 (.tmp 1) rfl w.heap.size rfl 23 #[.int .i64 (s : Int), .int .i64 (t : Int), .int .i64 (p : Int), .int .i64 (d : Int)] (0, 0) _ HG0.out Try.underlying23 rfl info_geom ?_)
      | (go_at_call 90; (with_reducible refine (meta_any s t p d M HM.out w1).mono ?_); rintro e w2 ⟨rfl, hb⟩; have HB2 := As.mk (below_step HB0.out hb); have HG2 := As.mk ((hb.block _ (Array.getElem?_eq_some_iff.1 HG0.out).1).trans HG0.out); clear hb; refine As.out ?_))
    refine As.mk ?_
    go_wp2_with (first
      | (go_at_call 93; (refine (sum_two (M : Int) 2 (V : Int) (by have := HV.out; omega) (by have := HMB.out; omega) (by omega) w2).mono ?_); rintro e w4 ⟨rfl, hb⟩; have HB4 := As.mk (below_step HB2.out hb); clear hb))
    go_ret
    exact ⟨rfl, HB4.out⟩
  · have hM0 : M = 0 := by rw [← hM]; exact sec_zero hr
    subst hM0
    obtain rfl : V = 0 := by rw [← hV]; unfold mntN; rw [if_neg (by rw [hr]; decide)]
    clear hr hV hM
    go_enter Try.func23, Try.ntmps23
    go_wp2_with (first
      | (refine wpList_boxArr rfl 23 _ rfl #[.int .i64 s, .int .i64 t, .int .i64 p, .int .i64 d] rfl ?_; refine As.out ?_))
    refine As.mk ?_
    generalize w.alloc _ = w1 at *
    go_wp2_with (first
      | (refine wpList_load_row rfl 23 (.tmp 1) rfl w.heap.size rfl 23 #[.int .i64 s, .int .i64 t, .int .i64 p, .int .i64 d] (0, 0) _ HG0.out Try.underlying23 rfl info_geom ?_)
      | (go_at_call 90; (with_reducible refine (meta_any s t p d 0 HM.out w1).mono ?_); rintro e w2 ⟨rfl, hb⟩; have HB2 := As.mk (below_step HB0.out hb); have HG2 := As.mk ((hb.block _ (Array.getElem?_eq_some_iff.1 HG0.out).1).trans HG0.out); clear hb; refine As.out ?_))
    refine As.mk ?_
    go_wp2
    go_ret
    exact ⟨rfl, HB2.out⟩
set_option maxHeartbeats 1000000 in
set_option maxRecDepth 100000 in
theorem change_any (s t p d k : Int) (V : Nat) (hV : chgN s t p d k = V) (w : World) :
    Calls Try.prog 21 #[.agg #[.int .i64 s, .int .i64 t, .int .i64 p, .int .i64 d], .int .i64 k] w fun e w' => e = .returned (.int .i64 (V : Int)) ∧ Below w.heap.size w w' := by
  have HB0 := As.mk (below_alloc (Below.refl w.heap.size w) (.cells #[.int .i64 s, .int .i64 t, .int .i64 p, .int .i64 d] 23))
  have HG0 := As.mk (heap_alloc_new w (.cells #[.int .i64 s, .int .i64 t, .int .i64 p, .int .i64 d] 23))
  obtain ⟨M, hM⟩ : ∃ M, secB s t p d = M := ⟨_, rfl⟩
  have HM := As.mk hM
  rcases Bool.eq_false_or_eq_true (rightB s t p d) with hr | hr
  · obtain ⟨s, t, p, d, rfl, rfl, rfl, rfl, -⟩ := ((rightB_iff _ _ _ _).1 hr).nat
    have hb := sec_bd s t p d hr
    rw [hM] at hb
    have HW := As.mk (wide_of_right hr)
    have HMB := As.mk hb
    have e0 : ((M : Int) == 0) = false := beq_eq_false_iff_ne.2 (by omega)
    have e0' : (M == 0) = false := beq_eq_false_iff_ne.2 (by omega)
    rcases Bool.eq_false_or_eq_true (chB k) with hc | hc
    · have HC := As.mk hc
      by_cases h8 : k = 8
      · obtain ⟨S, hS⟩ : ∃ S, stepsN (M + 1) s = S := ⟨_, rfl⟩
        have HS := As.mk hS
        have HV : As (S = V) := ⟨by rw [← hV, ← hS, ← hM]; unfold chgN; rw [if_pos hr, if_pos h8]; rfl⟩
        have e8 : (k == 8) = true := by simp [h8]
        have hw : wrap64 ((M : Int) + 1) = ((M + 1 : Nat) : Int) := wn _ (by omega) (by omega)
        clear hb hr hV hM hS h8 hc
        go_enter Try.func21, Try.ntmps21
        go_wp2_with (first
          | (refine wpList_boxArr rfl 23 _ rfl #[.int .i64 (s : Int), .int .i64 (t : Int), .int .i64 (p : Int), .int .i64 (d : Int)] rfl ?_; refine As.out ?_))
        refine As.mk ?_
        generalize w.alloc _ = w1 at *
        go_wp2_with (first
          | (refine wpList_load_row rfl 23 (.tmp 2) rfl w.heap.size rfl 23 #[.int .i64 (s : Int), .int .i64 (t : Int), .int .i64 (p : Int), .int .i64 (d : Int)] (0, 0) _ HG0.out Try.underlying23 rfl info_geom ?_)
          | (go_at_call 90; (with_reducible refine (meta_any s t p d M HM.out w1).mono ?_); rintro e w2 ⟨rfl, hb⟩; have HB2 := As.mk (below_step HB0.out hb); have HG2 := As.mk ((hb.block _ (Array.getElem?_eq_some_iff.1 HG0.out).1).trans HG0.out); clear hb; refine As.out ?_))
        refine As.mk ?_
        have c0 : w2.cell? ⟨w.heap.size, 0, none⟩ = some (.int .i64 (s : Int)) := cell_of_row w2 _ 0 _ _ _ HG2.out
        go_wp2_with (first
          | (go_at_call 91; (with_reducible refine (changes_any k true HC.out w2).mono ?_); rintro e w3 ⟨rfl, rfl⟩)
          | (go_at_call 92; (refine (tsteps_ok (M + 1) s S _ (by omega) (by have := HMB.out; omega) HW.out HS.out w2).mono ?_); rintro e w3 ⟨rfl, rfl⟩))
        go_ret
        exact ⟨by rw [HV.out]; rfl, HB2.out⟩
      · obtain ⟨S, hS⟩ : ∃ S, stepsN M s = S := ⟨_, rfl⟩
        have HS := As.mk hS
        have HV : As (S = V) := ⟨by rw [← hV, ← hS, ← hM]; unfold chgN; rw [if_pos hr, if_neg h8, if_pos hc]; rfl⟩
        have e8 : (k == 8) = false := by simp [h8]
        clear hb hr hV hM hS h8 hc
        go_enter Try.func21, Try.ntmps21
        go_wp2_with (first
          | (refine wpList_boxArr rfl 23 _ rfl #[.int .i64 (s : Int), .int .i64 (t : Int), .int .i64 (p : Int), .int .i64 (d : Int)] rfl ?_; refine As.out ?_))
        refine As.mk ?_
        generalize w.alloc _ = w1 at *
        go_wp2_with (first
          | (refine wpList_load_row rfl 23 (.tmp 2) rfl w.heap.size rfl 23 #[.int .i64 (s : Int), .int .i64 (t : Int), .int .i64 (p : Int), .int .i64 (d : Int)] (0, 0) _ HG0.out Try.underlying23 rfl info_geom ?_)
          | (go_at_call 90; (with_reducible refine (meta_any s t p d M HM.out w1).mono ?_); rintro e w2 ⟨rfl, hb⟩; have HB2 := As.mk (below_step HB0.out hb); have HG2 := As.mk ((hb.block _ (Array.getElem?_eq_some_iff.1 HG0.out).1).trans HG0.out); clear hb; refine As.out ?_))
        refine As.mk ?_
        have c0 : w2.cell? ⟨w.heap.size, 0, none⟩ = some (.int .i64 (s : Int)) := cell_of_row w2 _ 0 _ _ _ HG2.out
        go_wp2_with (first
          | (go_at_call 91; (with_reducible refine (changes_any k true HC.out w2).mono ?_); rintro e w3 ⟨rfl, rfl⟩)
          | (go_at_call 92; (with_reducible refine (tsteps_ok M s S (M : Int) rfl (by have := HMB.out; omega) HW.out HS.out w2).mono ?_); rintro e w3 ⟨rfl, rfl⟩))
        go_ret
        exact ⟨by rw [HV.out]; rfl, HB2.out⟩
    · have HC := As.mk hc
      have h8 : k ≠ 8 := by rintro rfl; revert hc; decide
      obtain rfl : V = 0 := by rw [← hV]; unfold chgN; rw [if_pos hr, if_neg h8, if_neg (by rw [hc]; decide)]
      clear hb hr hV hM h8 hc
      go_enter Try.func21, Try.ntmps21
      go_wp2_with (first
        | (refine wpList_boxArr rfl 23 _ rfl #[.int .i64 (s : Int), .int .i64 (t : Int), .int .i64 (p : Int), .int .i64 (d : Int)] rfl ?_; refine As.out ?_))
      refine As.mk ?_
      generalize w.alloc _ = w1 at *
      go_wp2_with (first
        | (refine wpList_load_row rfl 23 (.tmp 2) rfl w.heap.size rfl 23 #[.int .i64 (s : Int), .int .i64 (t : Int), .int .i64 (p : Int), .int .i64 (d : Int)] (0, 0) _ HG0.out Try.underlying23 rfl info_geom ?_)
        | (go_at_call 90; (with_reducible refine (meta_any s t p d M HM.out w1).mono ?_); rintro e w2 ⟨rfl, hb⟩; have HB2 := As.mk (below_step HB0.out hb); have HG2 := As.mk ((hb.block _ (Array.getElem?_eq_some_iff.1 HG0.out).1).trans HG0.out); clear hb; refine As.out ?_))
      refine As.mk ?_
      have c0 : w2.cell? ⟨w.heap.size, 0, none⟩ = some (.int .i64 (s : Int)) := cell_of_row w2 _ 0 _ _ _ HG2.out
      go_wp2_with (first
        | (go_at_call 91; (with_reducible refine (changes_any k false HC.out w2).mono ?_); rintro e w3 ⟨rfl, rfl⟩))
      go_ret
      exact ⟨rfl, HB2.out⟩
  · have hM0 : M = 0 := by rw [← hM]; exact sec_zero hr
    subst hM0
    obtain rfl : V = 0 := by rw [← hV]; unfold chgN; rw [if_neg (by rw [hr]; decide)]
    clear hr hV hM
    go_enter Try.func21, Try.ntmps21
    go_wp2_with (first
      | (refine wpList_boxArr rfl 23 _ rfl #[.int .i64 s, .int .i64 t, .int .i64 p, .int .i64 d] rfl ?_; refine As.out ?_))
    refine As.mk ?_
    generalize w.alloc _ = w1 at *
    go_wp2_with (first
      | (refine wpList_load_row rfl 23 (.tmp 2) rfl w.heap.size rfl 23 #[.int .i64 s, .int .i64 t, .int .i64 p, .int .i64 d] (0, 0) _ HG0.out Try.underlying23 rfl info_geom ?_)
      | (go_at_call 90; (with_reducible refine (meta_any s t p d 0 HM.out w1).mono ?_); rintro e w2 ⟨rfl, hb⟩; have HB2 := As.mk (below_step HB0.out hb); have HG2 := As.mk ((hb.block _ (Array.getElem?_eq_some_iff.1 HG0.out).1).trans HG0.out); clear hb; refine As.out ?_))
    refine As.mk ?_
    go_wp2
    go_ret
    exact ⟨rfl, HB2.out⟩
end Go.Proofs.Yteajblfkfmopfaa.Bound
