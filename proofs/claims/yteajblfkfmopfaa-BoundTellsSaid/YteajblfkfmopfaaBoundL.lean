/- BoundTells: the statement. -/
import Derived.Test.YteajblfkfmopfaaBoundG
import Derived.Test.YteajblfkfmopfaaGuard
import Derived.Deep.DeepCutAuto
import Derived.Deep.CutBlock
namespace Go.Proofs.Yteajblfkfmopfaa.Bound
set_option linter.unusedVariables false
set_option linter.unusedSimpArgs false
open Go Go.RowKit Go.Proofs.Yteajblfkfmopfaa.Mem Go.Proofs.Yteajblfkfmopfaa.Flat Go.Proofs.Yteajblfkfmopfaa.Geo Go.Proofs.Yteajblfkfmopfaa.LayA

set_option maxHeartbeats 400000 in
set_option maxRecDepth 100000 in
theorem bt_far (s t p d k : Int) (A : Option Addr) (n c : Nat) (h : 100 < n) (w : World) :
    Calls Try.prog 3 #[.agg #[.int .i64 s, .int .i64 t, .int .i64 p, .int .i64 d], .int .i64 k, .slice A n c] w fun e w' => e = .returned (.bool true) ∧ Below w.heap.size w w' := by
  have HB0 := As.mk (below_alloc (Below.refl w.heap.size w) (.cells #[.int .i64 s, .int .i64 t, .int .i64 p, .int .i64 d] 23))
  have d0 : decide (100 < (n : Int)) = true := decide_eq_true (by omega)
  have d1 : decide (100 < n) = true := decide_eq_true h
  clear h
  go_enter Try.func3, Try.ntmps3
  go_wp2_with (go_at_call 17; (refine (awake_true _).mono ?_); rintro e w1 ⟨rfl, hb⟩; have HB1 := As.mk (below_step HB0.out hb); clear hb)
  go_ret
  exact ⟨rfl, HB1.out⟩
theorem wpList_layMeta {ops : Array Oper} {rest : List Oper} {o : Oper} {a : Act} {w : World} {Q : Exit → Act → World → Prop} (hgd : o.guard = none) (x : Operand) (ho : o.op = .field 30 x 2) (r m d : Nat) (hx : a.eval x = .agg (layC r m d))
    (h : wpList Try.prog ops Q rest (a.put o.dst (.agg #[.int .i64 (2 + r : Nat), .int .i64 (m : Int)])) w) : wpList Try.prog ops Q (o :: rest) a w := by
  refine wpList_run hgd _ ?_ h
  unfold execOp
  simp only [ho, hx]
  kernel_rfl
theorem wpList_extLen {ops : Array Oper} {rest : List Oper} {o : Oper} {a : Act} {w : World} {Q : Exit → Act → World → Prop} (hgd : o.guard = none) (x : Operand) (ho : o.op = .field 28 x 1) (u v : Int) (hx : a.eval x = .agg #[.int .i64 u, .int .i64 v])
    (h : wpList Try.prog ops Q rest (a.put o.dst (.int .i64 v)) w) : wpList Try.prog ops Q (o :: rest) a w := by
  refine wpList_run hgd _ ?_ h
  unfold execOp
  simp only [ho, hx]
  kernel_rfl
theorem counts_d (n D : Nat) (hn : 1 ≤ n ∧ n ≤ 4096) (hD : depN n = D) (w : World) :
    Calls Try.prog 24 #[.int .i64 (n : Int)] w fun e w' => ∃ A c, e = .returned (.slice A (D + 1) c) ∧ Rd .i64 w' A (D + 1) c (countsL n) ∧ Below w.heap.size w w' := by
  subst hD
  exact counts_ok n hn w
theorem counts_tail {n D : Nat} (hD : depN n = D) {w : World} {A : Option Addr} {c : Nat} (h : Rd .i64 w A (D + 1) c (countsL n)) : Rd .i64 w (cutA A c 1 1) D (c - 1) ((countsL n).drop 1) := by
  have h2 := h.cut 1 (D + 1) (by omega) (Nat.le_refl _)
  rwa [List.take_of_length_le (by rw [List.length_drop, counts_len, hD]; omega)] at h2
theorem counts_nth {n D : Nat} (hD : depN n = D) (i : Nat) (h : i < D) : nth ((countsL n).drop 1) i = (cN n (D - (i + 1)) : Nat) := by
  unfold countsL
  rw [nth_getD, List.getD_eq_getElem?_getD, List.getElem?_drop, List.getElem?_map, List.getElem?_range (by omega), hD, Nat.add_comm 1 i]
  rfl
theorem sumC_step {n D : Nat} (hD : depN n = D) (i : Nat) : sumC n (i + 1) = sumC n i + cN n (D - (i + 1)) := by subst hD; rfl
theorem bytes_all (l : List Int) (A : Option Addr) (n c V : Nat) (hV : (if n ≤ 64 ∧ okL l n = true then accB (225 + 54 * n) l n else 0) = V) (w : World) (h : Rd .i64 w A n c l) :
    Calls Try.prog 25 #[.int .i64 3, .slice A n c, .int .i64 9] w fun e w' => e = .returned (.int .i64 (V : Int)) ∧ Below w.heap.size w w' := by
  by_cases hn : n ≤ 64
  · refine bytes_any l A n c V hn ?_ w h
    rw [← hV]
    by_cases hk : okL l n = true
    · rw [if_pos hk, if_pos ⟨hn, hk⟩]
    · rw [if_neg hk, if_neg (fun e => hk e.2)]
  · rw [if_neg (fun e => hn e.1)] at hV
    subst hV
    exact (bytes_zero 3 9 A n c (by omega) w).mono fun _ _ ⟨e, ew⟩ => ⟨e, ew ▸ Below.refl _ _⟩
theorem wpList_buildOp {ops : Array Oper} {rest : List Oper} {o : Oper} {a : Act} {w : World} {Q : Exit → Act → World → Prop} (hgd : o.guard = none) (x : Operand) (ho : o.op = .build 39 #[(0, x)]) (k : Int) (hx : a.eval x = .int .i64 k)
    (h : wpList Try.prog ops Q rest (a.put o.dst (.agg (opRow k).toArray)) w) : wpList Try.prog ops Q (o :: rest) a w := by
  refine wpList_run hgd _ ?_ h
  unfold execOp
  simp only [ho, List.map_toArray, List.map_cons, List.map_nil, hx]
  kernel_rfl
theorem take_op (l : List Int) (i : Nat) (h : i < l.length) : (l.take (i + 1)).flatMap opRow = (l.take i).flatMap opRow ++ opRow (nth l i) := by
  rw [List.take_succ_eq_append_getElem h, List.flatMap_append, nth_getD, List.getD_eq_getElem?_getD, List.getElem?_eq_getElem h]
  simp
theorem drB_eq (k : Int) : drB k = ((decide (2 ≤ k) && decide (k ≤ 5)) || (k == 10)) := by
  unfold drB
  rw [Bool.eq_iff_iff]
  simp only [Bool.or_eq_true, Bool.and_eq_true, beq_iff_eq, decide_eq_true_eq]
  omega
set_option maxHeartbeats 4000000 in
set_option maxRecDepth 100000 in
theorem bt_near (s t p d k : Int) (l : List Int) (A : Option Addr) (n c : Nat) (hn : n ≤ 100) (w : World) (h : Rd .i64 w A n c l) :
    Calls Try.prog 3 #[.agg #[.int .i64 s, .int .i64 t, .int .i64 p, .int .i64 d], .int .i64 k, .slice A n c] w fun e w' => e = .returned (.bool true) ∧ Below w.heap.size w w' := by
  have HN := As.mk hn
  have HB0 := As.mk (below_alloc (Below.refl w.heap.size w) (.cells #[.int .i64 s, .int .i64 t, .int .i64 p, .int .i64 d] 23))
  have HG0 := As.mk (heap_alloc_new w (.cells #[.int .i64 s, .int .i64 t, .int .i64 p, .int .i64 d] 23))
  have H0 := As.mk (h.below HB0.out)
  have d0 : decide (100 < (n : Int)) = false := decide_eq_false (by omega)
  have d1 : decide (100 < n) = false := decide_eq_false (by omega)
  obtain ⟨b, hb⟩ : ∃ b, rightB s t p d = b := ⟨_, rfl⟩
  have HRB := As.mk hb
  obtain ⟨C, hC⟩ : ∃ C, chgN s t p d k = C := ⟨_, rfl⟩
  obtain ⟨F, hF⟩ : ∃ F, fmtN s t p d = F := ⟨_, rfl⟩
  obtain ⟨M, hM⟩ : ∃ M, mntN s t p d = M := ⟨_, rfl⟩
  have HC := As.mk hC
  have HF := As.mk hF
  have HM := As.mk hM
  clear hn h hb hC hF hM
  go_enter Try.func3, Try.ntmps3
  go_wp2_with (first
    | (refine wpList_boxArr rfl 23 _ rfl #[.int .i64 s, .int .i64 t, .int .i64 p, .int .i64 d] rfl ?_; refine As.out ?_))
  refine As.mk ?_
  generalize w.alloc _ = w1 at *
  go_upto_if 27 with (first
    | (go_at_call 17; (with_reducible refine (awake_true w1).mono ?_); rintro e w2 ⟨rfl, hb⟩; have HB2 := As.mk (below_step HB0.out hb); have HG2 := As.mk ((hb.block _ (Array.getElem?_eq_some_iff.1 HG0.out).1).trans HG0.out); have H2 := As.mk (H0.out.below hb); clear hb)
    | (refine wpList_load_row rfl 23 (.tmp 3) rfl w.heap.size rfl 23 #[.int .i64 s, .int .i64 t, .int .i64 p, .int .i64 d] (0, 0) _ HG2.out Try.underlying23 rfl info_geom ?_)
    | (go_at_call 18; (with_reducible refine (rightR_any s t p d b HRB.out w2).mono ?_); rintro e w3 ⟨rfl, hb⟩; have HB3 := As.mk (below_step HB2.out hb); have HG3 := As.mk ((hb.block _ (Array.getElem?_eq_some_iff.1 HG2.out).1).trans HG2.out); have H3 := As.mk (H2.out.below hb); clear hb))
  go_cut [7, 8, 9] (fun s7 s8 s9 wx => s7 = .int .i64 (C : Int) ∧ s8 = .int .i64 (F : Int) ∧ s9 = .int .i64 (M : Int) ∧ As (Below w.heap.size w wx) ∧ As (wx.heap[w.heap.size]? = some (.cells #[.int .i64 s, .int .i64 t, .int .i64 p, .int .i64 d] 23 (0, 0))) ∧ As (Rd .i64 wx A n c l))
  case first =>
    rcases Bool.eq_false_or_eq_true b with hbb | hbb
    · have hr := HRB.out
      rw [hbb] at hr
      subst hbb
      obtain ⟨s, t, p, d, rfl, rfl, rfl, rfl, -⟩ := ((rightB_iff _ _ _ _).1 hr).nat
      have hb := sec_bd s t p d hr
      have HW2 := As.mk (show 64 ≤ s ∧ s ≤ 256 from ⟨(wide_of_right hr).1, (wide_of_right hr).2.1⟩)
      obtain ⟨MM, hMM⟩ : ∃ M, secN s t p d = M := ⟨_, rfl⟩
      rw [hMM] at hb
      have hSB : secB s t p d = MM := hb.2.2
      rw [hSB] at hb
      obtain ⟨R, hR⟩ : ∃ R, recN (MM + 1) s = R := ⟨_, rfl⟩
      have HLY : As (layC (recN (secN s t p d + 1) s) (secN s t p d) d = layC R MM d) := ⟨by rw [hMM, hR]⟩
      obtain ⟨S, hS⟩ : ∃ S, stepsN MM s = S := ⟨_, rfl⟩
      have hSL : S ≤ 200000 := by rw [← hS]; exact steps_le (by omega) HW2.out.1
      have HFV : As (3 + S = F) := ⟨by rw [← HF.out]; unfold fmtN; rw [if_pos hr, hSB]; show 3 + S = 3 + stepsN MM s; rw [hS]⟩
      have HMV : As (MM + 2 = M) := ⟨by rw [← HM.out]; unfold mntN; rw [if_pos hr, hSB]⟩
      have HCD := As.mk (show chgN s t p d k = C from HC.out)
      have HMB := As.mk hb
      have HRT := As.mk hr
      have HS := As.mk hS
      have hm1 : MM < 6480 := hb.2.1
      have wA : wrap64 (3 + (S : Int)) = 3 + (S : Int) := by unfold wrap64; omega
      have wB : wrap64 ((MM : Int) + 2) = (MM : Int) + 2 := by unfold wrap64; omega
      have wC : wrap64 ((MM : Int) + 1) = (MM : Int) + 1 := by unfold wrap64; omega
      by_cases h8 : k = 8
      · have e8 : (k == 8) = true := by simp [h8]
        have HCV : As (stepsN (MM + 1) s = C) := ⟨by rw [← HCD.out]; unfold chgN; rw [if_pos hr, if_pos h8, hSB]; rfl⟩
        clear hb hMM hR hS hSB h8 hr
        go_wp2_with (first
          | (refine wpList_load_row rfl 23 (.tmp 3) rfl w.heap.size rfl 23 #[.int .i64 (s : Int), .int .i64 (t : Int), .int .i64 (p : Int), .int .i64 (d : Int)] (0, 0) _ HG3.out Try.underlying23 rfl info_geom ?_)
          | (go_at_call 19; (with_reducible refine (layR_ok s t p d HRT.out (layC R MM d) HLY.out w3).mono ?_); rintro e w4 ⟨rfl, hb⟩; have HB4 := As.mk (below_step HB3.out hb); have HG4 := As.mk ((hb.block _ (Array.getElem?_eq_some_iff.1 HG3.out).1).trans HG3.out); have H4 := As.mk (H3.out.below hb); clear hb; refine As.out ?_))
        refine As.mk ?_
        have c0 : w4.cell? ⟨w.heap.size, 0, none⟩ = some (.int .i64 (s : Int)) := cell_of_row w4 _ 0 _ _ _ HG4.out
        go_wp2_with (first
          | (refine wpList_layMeta rfl _ rfl R MM d rfl ?_)
          | (refine wpList_extLen rfl _ rfl _ _ rfl ?_)
          | (go_at_call 20; (with_reducible refine (lsteps_ok MM s S (MM : Int) rfl (by have := HMB.out; omega) HW2.out HS.out w4).mono ?_); rintro e wq ⟨rfl, rfl⟩)
          | (go_at_call 20; (refine (lsteps_ok (MM + 1) s C _ (by omega) (by have := HMB.out; omega) HW2.out HCV.out w4).mono ?_); rintro e wq ⟨rfl, rfl⟩))
        go_meet
        exact ⟨by first | rfl | (rw [HCV.out]), by rw [← HFV.out]; go_num, by rw [← HMV.out]; go_num, HB4, HG4, H4⟩
      · have e8 : (k == 8) = false := by simp [h8]
        rcases Bool.eq_false_or_eq_true (chB k) with hc | hc
        · have HCV : As (S = C) := ⟨by rw [← HCD.out]; unfold chgN; rw [if_pos hr, if_neg h8, if_pos hc, hSB]; exact hS.symm⟩
          obtain ⟨k1, k2, k3, k4⟩ := (chB_iff k).1 hc
          have q1 : decide (1 ≤ k) = true := decide_eq_true k1
          have q2 : decide (k ≤ 10) = true := decide_eq_true k2
          have q3 : (k != 6) = true := by simpa using k3
          have q4 : (k != 7) = true := by simpa using k4
          clear hb hMM hR hS hSB h8 hr hc k1 k2 k3 k4
          go_wp2_with (first
            | (refine wpList_load_row rfl 23 (.tmp 3) rfl w.heap.size rfl 23 #[.int .i64 (s : Int), .int .i64 (t : Int), .int .i64 (p : Int), .int .i64 (d : Int)] (0, 0) _ HG3.out Try.underlying23 rfl info_geom ?_)
            | (go_at_call 19; (with_reducible refine (layR_ok s t p d HRT.out (layC R MM d) HLY.out w3).mono ?_); rintro e w4 ⟨rfl, hb⟩; have HB4 := As.mk (below_step HB3.out hb); have HG4 := As.mk ((hb.block _ (Array.getElem?_eq_some_iff.1 HG3.out).1).trans HG3.out); have H4 := As.mk (H3.out.below hb); clear hb; refine As.out ?_))
          refine As.mk ?_
          have c0 : w4.cell? ⟨w.heap.size, 0, none⟩ = some (.int .i64 (s : Int)) := cell_of_row w4 _ 0 _ _ _ HG4.out
          go_wp2_with (first
            | (refine wpList_layMeta rfl _ rfl R MM d rfl ?_)
            | (refine wpList_extLen rfl _ rfl _ _ rfl ?_)
            | (go_at_call 20; (with_reducible refine (lsteps_ok MM s S (MM : Int) rfl (by have := HMB.out; omega) HW2.out HS.out w4).mono ?_); rintro e wq ⟨rfl, rfl⟩))
          go_meet
          exact ⟨by first | rfl | (rw [← HCV.out]; rfl) | (rw [← HCV.out]), by rw [← HFV.out]; go_num, by rw [← HMV.out]; go_num, HB4, HG4, H4⟩
        · have HCV : As (0 = C) := ⟨by rw [← HCD.out]; unfold chgN; rw [if_pos hr, if_neg h8, if_neg (by rw [hc]; decide)]⟩
          have hcs : k < 1 ∨ (1 ≤ k ∧ 10 < k) ∨ k = 6 ∨ k = 7 := by
            by_cases g1 : k < 1
            · exact .inl g1
            · by_cases g2 : 10 < k
              · exact .inr (.inl ⟨by omega, g2⟩)
              · by_cases g3 : k = 6
                · exact .inr (.inr (.inl g3))
                · by_cases g4 : k = 7
                  · exact .inr (.inr (.inr g4))
                  · rw [(chB_iff k).2 ⟨by omega, by omega, g3, g4⟩] at hc; cases hc
          clear hb hMM hR hS hSB h8 hr hc
          rcases hcs with g1 | ⟨g1, g2⟩ | g1 | g1
          · have q1 : decide (1 ≤ k) = false := decide_eq_false (by omega)
            clear g1
            go_wp2_with (first
              | (refine wpList_load_row rfl 23 (.tmp 3) rfl w.heap.size rfl 23 #[.int .i64 (s : Int), .int .i64 (t : Int), .int .i64 (p : Int), .int .i64 (d : Int)] (0, 0) _ HG3.out Try.underlying23 rfl info_geom ?_)
              | (go_at_call 19; (with_reducible refine (layR_ok s t p d HRT.out (layC R MM d) HLY.out w3).mono ?_); rintro e w4 ⟨rfl, hb⟩; have HB4 := As.mk (below_step HB3.out hb); have HG4 := As.mk ((hb.block _ (Array.getElem?_eq_some_iff.1 HG3.out).1).trans HG3.out); have H4 := As.mk (H3.out.below hb); clear hb; refine As.out ?_))
            refine As.mk ?_
            have c0 : w4.cell? ⟨w.heap.size, 0, none⟩ = some (.int .i64 (s : Int)) := cell_of_row w4 _ 0 _ _ _ HG4.out
            go_wp2_with (first
              | (refine wpList_layMeta rfl _ rfl R MM d rfl ?_)
              | (refine wpList_extLen rfl _ rfl _ _ rfl ?_)
              | (go_at_call 20; (with_reducible refine (lsteps_ok MM s S (MM : Int) rfl (by have := HMB.out; omega) HW2.out HS.out w4).mono ?_); rintro e wq ⟨rfl, rfl⟩))
            go_meet
            exact ⟨by first | rfl | (rw [← HCV.out]; rfl) | (rw [← HCV.out]), by rw [← HFV.out]; go_num, by rw [← HMV.out]; go_num, HB4, HG4, H4⟩
          · have q1 : decide (1 ≤ k) = true := decide_eq_true g1
            have q2 : decide (k ≤ 10) = false := decide_eq_false (by omega)
            clear g1 g2
            go_wp2_with (first
              | (refine wpList_load_row rfl 23 (.tmp 3) rfl w.heap.size rfl 23 #[.int .i64 (s : Int), .int .i64 (t : Int), .int .i64 (p : Int), .int .i64 (d : Int)] (0, 0) _ HG3.out Try.underlying23 rfl info_geom ?_)
              | (go_at_call 19; (with_reducible refine (layR_ok s t p d HRT.out (layC R MM d) HLY.out w3).mono ?_); rintro e w4 ⟨rfl, hb⟩; have HB4 := As.mk (below_step HB3.out hb); have HG4 := As.mk ((hb.block _ (Array.getElem?_eq_some_iff.1 HG3.out).1).trans HG3.out); have H4 := As.mk (H3.out.below hb); clear hb; refine As.out ?_))
            refine As.mk ?_
            have c0 : w4.cell? ⟨w.heap.size, 0, none⟩ = some (.int .i64 (s : Int)) := cell_of_row w4 _ 0 _ _ _ HG4.out
            go_wp2_with (first
              | (refine wpList_layMeta rfl _ rfl R MM d rfl ?_)
              | (refine wpList_extLen rfl _ rfl _ _ rfl ?_)
              | (go_at_call 20; (with_reducible refine (lsteps_ok MM s S (MM : Int) rfl (by have := HMB.out; omega) HW2.out HS.out w4).mono ?_); rintro e wq ⟨rfl, rfl⟩))
            go_meet
            exact ⟨by first | rfl | (rw [← HCV.out]; rfl) | (rw [← HCV.out]), by rw [← HFV.out]; go_num, by rw [← HMV.out]; go_num, HB4, HG4, H4⟩
          · subst g1
            go_wp2_with (first
              | (refine wpList_load_row rfl 23 (.tmp 3) rfl w.heap.size rfl 23 #[.int .i64 (s : Int), .int .i64 (t : Int), .int .i64 (p : Int), .int .i64 (d : Int)] (0, 0) _ HG3.out Try.underlying23 rfl info_geom ?_)
              | (go_at_call 19; (with_reducible refine (layR_ok s t p d HRT.out (layC R MM d) HLY.out w3).mono ?_); rintro e w4 ⟨rfl, hb⟩; have HB4 := As.mk (below_step HB3.out hb); have HG4 := As.mk ((hb.block _ (Array.getElem?_eq_some_iff.1 HG3.out).1).trans HG3.out); have H4 := As.mk (H3.out.below hb); clear hb; refine As.out ?_))
            refine As.mk ?_
            have c0 : w4.cell? ⟨w.heap.size, 0, none⟩ = some (.int .i64 (s : Int)) := cell_of_row w4 _ 0 _ _ _ HG4.out
            go_wp2_with (first
              | (refine wpList_layMeta rfl _ rfl R MM d rfl ?_)
              | (refine wpList_extLen rfl _ rfl _ _ rfl ?_)
              | (go_at_call 20; (with_reducible refine (lsteps_ok MM s S (MM : Int) rfl (by have := HMB.out; omega) HW2.out HS.out w4).mono ?_); rintro e wq ⟨rfl, rfl⟩))
            go_meet
            exact ⟨by first | rfl | (rw [← HCV.out]; rfl) | (rw [← HCV.out]), by rw [← HFV.out]; go_num, by rw [← HMV.out]; go_num, HB4, HG4, H4⟩
          · subst g1
            go_wp2_with (first
              | (refine wpList_load_row rfl 23 (.tmp 3) rfl w.heap.size rfl 23 #[.int .i64 (s : Int), .int .i64 (t : Int), .int .i64 (p : Int), .int .i64 (d : Int)] (0, 0) _ HG3.out Try.underlying23 rfl info_geom ?_)
              | (go_at_call 19; (with_reducible refine (layR_ok s t p d HRT.out (layC R MM d) HLY.out w3).mono ?_); rintro e w4 ⟨rfl, hb⟩; have HB4 := As.mk (below_step HB3.out hb); have HG4 := As.mk ((hb.block _ (Array.getElem?_eq_some_iff.1 HG3.out).1).trans HG3.out); have H4 := As.mk (H3.out.below hb); clear hb; refine As.out ?_))
            refine As.mk ?_
            have c0 : w4.cell? ⟨w.heap.size, 0, none⟩ = some (.int .i64 (s : Int)) := cell_of_row w4 _ 0 _ _ _ HG4.out
            go_wp2_with (first
              | (refine wpList_layMeta rfl _ rfl R MM d rfl ?_)
              | (refine wpList_extLen rfl _ rfl _ _ rfl ?_)
              | (go_at_call 20; (with_reducible refine (lsteps_ok MM s S (MM : Int) rfl (by have := HMB.out; omega) HW2.out HS.out w4).mono ?_); rintro e wq ⟨rfl, rfl⟩))
            go_meet
            exact ⟨by first | rfl | (rw [← HCV.out]; rfl) | (rw [← HCV.out]), by rw [← HFV.out]; go_num, by rw [← HMV.out]; go_num, HB4, HG4, H4⟩
    · have hr := HRB.out
      rw [hbb] at hr
      subst hbb
      obtain rfl : C = 0 := by rw [← HC.out]; unfold chgN; rw [if_neg (by rw [hr]; decide)]
      obtain rfl : F = 0 := by rw [← HF.out]; unfold fmtN; rw [if_neg (by rw [hr]; decide)]
      obtain rfl : M = 0 := by rw [← HM.out]; unfold mntN; rw [if_neg (by rw [hr]; decide)]
      clear hr
      go_wp2
      go_meet
      exact ⟨rfl, rfl, rfl, HB3, HG3, H3⟩
  case rest =>
    obtain ⟨rfl, rfl, rfl, HB5, HG5, H5⟩ := hcut
    have HNB := As.mk (show n ≤ 100 from HN.out)
    have f1 : wrap64 (54 * (n : Int)) = 54 * (n : Int) := by unfold wrap64; have := HN.out; omega
    have f2 : wrap64 (153 + 54 * (n : Int)) = 153 + 54 * (n : Int) := by unfold wrap64; have := HN.out; omega
    have f3 : wrap64 (153 + 54 * (n : Int) + 72) = ((225 + 54 * n : Nat) : Int) := by unfold wrap64; have := HN.out; omega
    obtain ⟨q0, hq0⟩ : ∃ q, decide (n ≤ 64) = q := ⟨_, rfl⟩
    have g0 : decide ((n : Int) ≤ 64) = q0 := by rw [← hq0, decide_eq_decide]; omega
    go_upto_block 1 with (first
      | (refine wpList_load_row rfl 23 (.tmp 3) rfl w.heap.size rfl 23 #[.int .i64 s, .int .i64 t, .int .i64 p, .int .i64 d] (0, 0) _ HG5.out Try.underlying23 rfl info_geom ?_)
      | (go_at_call 21; (with_reducible refine (change_any s t p d k C HC.out wc).mono ?_); rintro e w6 ⟨rfl, hb⟩; have HB6 := As.mk (below_step HB5.out hb); have HG6 := As.mk ((hb.block _ (Array.getElem?_eq_some_iff.1 HG5.out).1).trans HG5.out); have H6 := As.mk (H5.out.below hb); clear hb)
      | (refine wpList_load_rowG (by rfl) 23 (.tmp 3) rfl w.heap.size rfl 23 #[.int .i64 s, .int .i64 t, .int .i64 p, .int .i64 d] (0, 0) _ HG6.out Try.underlying23 rfl info_geom ?_)
      | (go_at_call 22; (with_reducible refine (format_any s t p d F HF.out w6).mono ?_); rintro e w7 ⟨rfl, hb⟩; have HB7 := As.mk (below_step HB6.out hb); have HG7 := As.mk ((hb.block _ (Array.getElem?_eq_some_iff.1 HG6.out).1).trans HG6.out); have H7 := As.mk (H6.out.below hb); clear hb)
      | (refine wpList_load_rowG (by rfl) 23 (.tmp 3) rfl w.heap.size rfl 23 #[.int .i64 s, .int .i64 t, .int .i64 p, .int .i64 d] (0, 0) _ HG7.out Try.underlying23 rfl info_geom ?_)
      | (go_at_call 23; (with_reducible refine (mount_any s t p d M HM.out w7).mono ?_); rintro e w8 ⟨rfl, hb⟩; have HB8 := As.mk (below_step HB7.out hb); have HG8 := As.mk ((hb.block _ (Array.getElem?_eq_some_iff.1 HG7.out).1).trans HG7.out); have H8 := As.mk (H7.out.below hb); clear hb))
    go_cut [11, 12] (fun s11 s12 wx => ∃ x : Nat, s11 = .int .i64 (x : Int) ∧ s12 = .bool (q0 && okL l n) ∧ As (okL l n = true → x = accB (225 + 54 * n) l n) ∧ As (Below w.heap.size w wx) ∧ As (Rd .i64 wx A n c l))
    case first =>
      go_wp2_with fail
      go_loopg [11, 12, 14, 16, 93] n (fun kq v11 v12 v14 v16 v93 wr => ∃ (i a : Nat), i + kq = n ∧ v11 = .int .i64 (a : Int) ∧ v12 = .bool q0 ∧ v93 = .int .i64 (i : Int) ∧ As (∀ k, k < i → okX (nth l k) = true) ∧ As (a = accB (225 + 54 * n) l i) ∧ As (Below w.heap.size w wr) ∧ As (Rd .i64 wr A n c l))
      case atStart => exact ⟨0, 225 + 54 * n, by omega, by go_num, rfl, rfl, ⟨fun k hk => by omega⟩, ⟨rfl⟩, HB8, H8⟩
      case round =>
        obtain ⟨i, a, hi, rfl, rfl, rfl, HO, HA, HB, HR⟩ := hrel
        have HI := As.mk hi
        clear hi f1 f2 f3
        by_cases hlt : i < n
        · have p0 : decide ((i : Int) < (n : Int)) = true := decide_eq_true (by omega)
          have p1 : decide (i < n) = true := decide_eq_true hlt
          have lt' : (i : Int) < (n : Int) := by omega
          have hw : wrap64 ((i : Int) + 1) = ((i + 1 : Nat) : Int) := wrap_up (by have := HN.out; omega)
          obtain ⟨ad, ea, cc⟩ := HR.out.at i hlt
          cases ea
          have HLT := As.mk hlt
          have HAS : As (accB (225 + 54 * n) l (i + 1) = accB (225 + 54 * n) l i + 40 * totN (nth l i).toNat + 32 * (nth l i).toNat) := ⟨rfl⟩
          have HOK := As.mk (okX_iff (nth l i))
          obtain ⟨x, hx⟩ : ∃ x, nth l i = x := ⟨_, rfl⟩
          have HX := As.mk hx
          rw [hx] at cc HAS HOK
          clear hx hlt
          rcases Bool.eq_false_or_eq_true (okX x) with hk | hk
          · have hxb := HOK.out.1 hk
            obtain ⟨m, rfl⟩ := Int.eq_ofNat_of_zero_le (show 0 ≤ x by omega)
            have HMB := As.mk (show 1 ≤ m ∧ m ≤ 4096 by omega)
            have y1 : decide ((m : Int) < 1) = false := decide_eq_false (by omega)
            have y1' : decide (m < 1) = false := decide_eq_false (by omega)
            have y2 : decide (4096 < (m : Int)) = false := decide_eq_false (by omega)
            have y2' : decide (4096 < m) = false := decide_eq_false (by omega)
            obtain ⟨D, hD⟩ : ∃ D, depN m = D := ⟨_, rfl⟩
            have HD := As.mk hD
            have HDB : As (1 ≤ D ∧ D ≤ 6) := ⟨hD ▸ dep_bd m⟩
            have hal := acc_le (b := 225 + 54 * n) i HO.out
            rw [← HA.out] at hal
            have HAL := As.mk (show a ≤ 120000000 by have := HN.out; have := HLT.out; omega)
            clear hk hxb hD hal
            go_wp2_with (go_at_call 24; (with_reducible refine (counts_d m D HMB.out HD.out wr).mono ?_); rintro e w2 ⟨A1, c1, rfl, hr, hb⟩; have HB2 := As.mk (below_step HB.out hb); have HR2 := As.mk (HR.out.below hb); have HRC := As.mk (counts_tail HD.out hr); clear hr hb; refine As.out ?_)
            refine As.mk ?_
            have hcut : ∀ W, (Instr.slice 24 (.slice A1 (D + 1) c1) (some (.int .i64 1)) none none).run Try.prog W = .ok (.slice (cutA A1 c1 1 1) D (c1 - 1)) W := fun W => run_cut_from W 24 3 Try.underlying24 infoInt A1 (D + 1) c1 1 .i64 (by omega)
            go_wp2
            clear hcut
            generalize cutA A1 c1 1 1 = A2 at *
            generalize c1 - 1 = c2 at *
            obtain ⟨wo, rfl⟩ : ∃ wo : World, wo = wr := ⟨_, rfl⟩
            go_loopg [11, 107] D (fun kq v11 v107 wr => ∃ (j b : Nat), j + kq = D ∧ v11 = .int .i64 (b : Int) ∧ v107 = .int .i64 (j : Int) ∧ As (b = a + 40 * sumC m j) ∧ wr = w2)
            case atStart => exact ⟨0, a, by omega, rfl, rfl, ⟨by simp [sumC]⟩, rfl⟩
            case round =>
              obtain ⟨j, b, hj, rfl, rfl, HBV, rfl⟩ := hrel
              have HJ := As.mk hj
              have hsl := sumC_le m j
              have hsl6 : j * (m + 1) ≤ 6 * (m + 1) := Nat.mul_le_mul_right _ (by have := HDB.out; omega)
              have HBL := As.mk (show b ≤ 121000000 by have := HBV.out; have := HAL.out; have := HMB.out; omega)
              clear hj hsl hsl6
              by_cases hjt : j < D
              · have q0' : decide ((j : Int) < (D : Int)) = true := decide_eq_true (by omega)
                have q1' : decide (j < D) = true := decide_eq_true hjt
                have qt' : (j : Int) < (D : Int) := by omega
                have hw2 : wrap64 ((j : Int) + 1) = ((j + 1 : Nat) : Int) := wrap_up (by have := HDB.out; omega)
                obtain ⟨ad2, ea2, cc2⟩ := HRC.out.at j hjt
                cases ea2
                rw [counts_nth HD.out j hjt] at cc2
                have HSS := As.mk (sumC_step HD.out j)
                have hcl := c_le m (D - (j + 1))
                generalize cN m (D - (j + 1)) = y at *
                have hv1 : wrap64 (40 * (y : Int)) = ((40 * y : Nat) : Int) := wn _ (by omega) (by have := HMB.out; omega)
                have hv1' : wrap64 (40 * (y : Int)) = 40 * (y : Int) := by rw [hv1]; omega
                have hv2 : wrap64 ((b : Int) + 40 * (y : Int)) = ((b + 40 * y : Nat) : Int) := wn _ (by omega) (by have := HBL.out; have := HMB.out; omega)
                have HJT := As.mk hjt
                clear hjt hcl hv1
                go_wp2
                go_roundg (D - (j + 1))
                case measure => have := HJ.out; have := HJT.out; omega
                case rel => exact ⟨j + 1, b + 40 * y, by have := HJ.out; have := HJT.out; omega, by go_num, by go_num, ⟨by rw [HSS.out, HBV.out]; omega⟩, rfl⟩
              · have q0' : decide ((j : Int) < (D : Int)) = false := decide_eq_false (by omega)
                have q1' : decide (j < D) = false := decide_eq_false hjt
                obtain rfl : j = D := by have := HJ.out; omega
                have HTOT : As (sumC m j = totN m) := ⟨by unfold totN; rw [HD.out]⟩
                have hv1 : wrap64 (32 * (m : Int)) = 32 * (m : Int) := Geo.wr _ (by have := HMB.out; omega)
                have hv2 : wrap64 ((b : Int) + 32 * (m : Int)) = ((b + 32 * m : Nat) : Int) := wn _ (by omega) (by have := HBL.out; have := HMB.out; omega)
                clear hjt
                go_wp2
                go_roundg (n - (i + 1))
                case measure => have := HI.out; have := HLT.out; omega
                case rel =>
                  refine ⟨i + 1, b + 32 * m, by have := HI.out; have := HLT.out; omega, by go_num, rfl, by go_num, ⟨fun k hk => ?_⟩, ⟨?_⟩, HB2, HR2⟩
                  · rcases Nat.lt_succ_iff_lt_or_eq.1 hk with h | rfl
                    · exact HO.out k h
                    · rw [HX.out, okX_iff]; have := HMB.out; omega
                  · rw [HAS.out, HBV.out, ← HA.out, show ((m : Nat) : Int).toNat = m by omega, HTOT.out]
          · have HNO : As (okL l n = false) := ⟨okL_no HLT.out (by rw [HX.out]; exact hk)⟩
            by_cases hx1 : x < 1
            · have y1 : decide (x < 1) = true := decide_eq_true hx1
              clear hk
              go_wp2
              go_meet
              exact ⟨a, rfl, by rw [HNO.out, Bool.and_false], ⟨fun h => by rw [HNO.out] at h; cases h⟩, HB, HR⟩
            · have y1 : decide (x < 1) = false := decide_eq_false hx1
              have hx2 : 4096 < x := by
                by_cases h2 : 4096 < x
                · exact h2
                · rw [HOK.out.2 (by omega)] at hk; cases hk
              have y2 : decide (4096 < x) = true := decide_eq_true hx2
              clear hk hx1 hx2
              go_wp2
              go_meet
              exact ⟨a, rfl, by rw [HNO.out, Bool.and_false], ⟨fun h => by rw [HNO.out] at h; cases h⟩, HB, HR⟩
        · have p0 : decide ((i : Int) < (n : Int)) = false := decide_eq_false (by omega)
          have p1 : decide (i < n) = false := decide_eq_false hlt
          obtain rfl : n = i := by have := HI.out; omega
          have HOL := As.mk ((okL_iff l n).2 HO.out)
          clear hlt
          go_wp2
          go_meet
          exact ⟨a, rfl, by rw [HOL.out, Bool.and_true], ⟨fun _ => HA.out⟩, HB, HR⟩
    case rest =>
      obtain ⟨x, rfl, rfl, HXA, HB9, H9⟩ := hcut
      obtain ⟨q1, hq1⟩ : ∃ q, okL l n = q := ⟨_, rfl⟩
      have HXQ := As.mk (show (q0 && okL l n) = true ↔ (n ≤ 64 ∧ okL l n = true) by rw [Bool.and_eq_true, ← hq0, decide_eq_true_eq])
      obtain ⟨V, hV⟩ : ∃ V, (if n ≤ 64 ∧ okL l n = true then accB (225 + 54 * n) l n else 0) = V := ⟨_, rfl⟩
      have HV := As.mk hV
      obtain ⟨q2, hq2⟩ : ∃ q, (q0 && okL l n) = q := ⟨_, rfl⟩
      have HQ2 := As.mk hq2
      rw [hq2]
      clear hq0 hq1 hq2 hV g0
      go_upto_if 122 with fail
      go_cut [11] (fun s11 wx => s11 = .int .i64 (V : Int) ∧ As (Below w.heap.size w wx) ∧ As (Rd .i64 wx A n c l))
      case first =>
        cases q2 with
        | true =>
          have hk := HXQ.out.1 HQ2.out
          have HVX : As ((x : Int) = (V : Int)) := ⟨by rw [← HV.out, if_pos hk, HXA.out hk.2]⟩
          clear hk
          go_wp2
          go_meet
          exact ⟨by rw [HVX.out], HB9, H9⟩
        | false =>
          have HVX : As (V = 0) := ⟨by rw [← HV.out, if_neg (fun hk => by have := HXQ.out.2 hk; rw [HQ2.out] at this; cases this)]⟩
          go_wp2
          go_meet
          exact ⟨by rw [HVX.out]; rfl, HB9, H9⟩
      case rest =>
        obtain ⟨rfl, HB10, H10⟩ := hcut
        have HLL : As (l.length = n) := ⟨H10.out.len⟩
        clear f1 f2 f3
        go_wp2
        go_loopg [17, 18, 125] n (fun kq v17 v18 v125 wr => ∃ (i b cap : Nat) (P : Option Addr), i + kq = n ∧ v17 = .slice P i cap ∧ v18 = .int .i64 (b : Int) ∧ v125 = .int .i64 (i : Int) ∧ As (b = drN l i) ∧ As (wr.ownsRow wc.heap.size 39 7 (.slice P i cap) i ((l.take i).flatMap opRow)) ∧ As (Below wc.heap.size wc wr))
        case atStart => exact ⟨0, 0, 0, none, by omega, rfl, rfl, rfl, ⟨rfl⟩, ⟨⟨by simp, .inl ⟨rfl, rfl⟩⟩⟩, ⟨Below.refl _ _⟩⟩
        case round =>
          obtain ⟨i, b, cap, P, hi, rfl, rfl, rfl, HBV, HO, HBB⟩ := hrel
          have HI := As.mk hi
          clear hi
          by_cases hlt : i < n
          · have c0 : decide ((i : Int) < (n : Int)) = true := decide_eq_true (by omega)
            have c1 : decide (i < n) = true := decide_eq_true hlt
            have lt' : (i : Int) < (n : Int) := by omega
            have hw : wrap64 ((i : Int) + 1) = ((i + 1 : Nat) : Int) := wrap_up (by have := HN.out; omega)
            obtain ⟨ad, ea, cc⟩ := (H10.out.below HBB.out).at i hlt
            cases ea
            have HLT := As.mk hlt
            have HTK := As.mk (take_op l i (by rw [HLL.out]; exact hlt))
            have HDR : As (drN l (i + 1) = drN l i + if drB (nth l i) = true then 64 else 0) := ⟨rfl⟩
            have hdl := dr_le l i
            have HDL := As.mk (show b ≤ 6400 by have := HBV.out; have := HN.out; omega)
            obtain ⟨y, hy⟩ : ∃ y, nth l i = y := ⟨_, rfl⟩
            rw [hy] at cc HTK HDR
            have HDB := As.mk (drB_eq y)
            have HBB1 := As.mk (below_alloc HBB.out (.cells (opRow y).toArray 39))
            have HO1 := As.mk (own_below HO.out (below_alloc (Below.refl wr.heap.size wr) (.cells (opRow y).toArray 39)))
            have HS1 : As (Go.Proofs.Yteajblfkfmopfaa.Mem.Src (wr.alloc (.cells (opRow y).toArray 39)) (.slice (some ⟨wr.heap.size, 0, none⟩) 1 1) 1 7 (opRow y)) := ⟨src_one (heap_alloc_new wr _) (op_one y) rfl⟩
            clear hy hlt hdl
            go_wp2_with (first
              | (refine wpList_buildOp rfl (.tmp 130) rfl y rfl ?_)
              | (refine wpList_build_one' rfl 36 39 (.tmp 131) rfl (opRow y).toArray 7 (.agg opZ) 88 Try.underlying36 op_info3 (by decide) rfl rfl ?_)
              | (at_builtin; refine wpList_app rfl (.tmp 129) (.tmp 132) 36 rfl wc.heap.size 39 (.agg opZ) 7 88 Try.underlying36 op_info3 rfl (by decide) _ i _ rfl HO1.out _ 1 (opRow y) rfl HS1.out ?g1 ?g2 HBB1.out.size HBB1.out (Nat.le_refl _) ?_; (case g1 => have := HN.out; have := HLT.out; unfold maxLen; omega); (case g2 => have := HN.out; have := HLT.out; omega); intro va wa hown hg hat hb; obtain ⟨Aa, ca, rfl⟩ := own_slice hown; rw [← HTK.out] at hown; have HOa := As.mk hown; have HBa := As.mk hb; clear hown hg hat hb; refine As.out ?_))
            refine As.mk ?_
            clear HBB1 HO1 HS1 HO HBB cc
            have hv : wrap64 ((b : Int) + 64) = ((b + 64 : Nat) : Int) := wn _ (by omega) (by have := HDL.out; omega)
            by_cases h10 : y = 10
            · subst h10
              have hd : drB 10 = true := by decide
              rw [if_pos hd] at HDR
              clear hd
              go_wp2
              go_roundg (n - (i + 1))
              case measure => have := HI.out; have := HLT.out; omega
              case rel => exact ⟨i + 1, b + 64, ca, Aa, by have := HI.out; have := HLT.out; omega, rfl, by go_num, by go_num, ⟨by rw [HDR.out, HBV.out]⟩, HOa, HBa⟩
            · have k10 : (y == 10) = false := beq_eq_false_iff_ne.2 h10
              by_cases h2 : 2 ≤ y
              · have k2 : decide (2 ≤ y) = true := decide_eq_true h2
                by_cases h5 : y ≤ 5
                · have k5 : decide (y ≤ 5) = true := decide_eq_true h5
                  have hd : drB y = true := by rw [HDB.out, k2, k5]; rfl
                  rw [if_pos hd] at HDR
                  clear hd h10 h2 h5
                  go_wp2
                  go_roundg (n - (i + 1))
                  case measure => have := HI.out; have := HLT.out; omega
                  case rel => exact ⟨i + 1, b + 64, ca, Aa, by have := HI.out; have := HLT.out; omega, rfl, by go_num, by go_num, ⟨by rw [HDR.out, HBV.out]⟩, HOa, HBa⟩
                · have k5 : decide (y ≤ 5) = false := decide_eq_false h5
                  have hd : drB y = false := by rw [HDB.out, k2, k5, k10]; rfl
                  rw [if_neg (by rw [hd]; decide)] at HDR
                  clear hd h10 h2 h5 hv
                  go_wp2
                  go_roundg (n - (i + 1))
                  case measure => have := HI.out; have := HLT.out; omega
                  case rel => exact ⟨i + 1, b, ca, Aa, by have := HI.out; have := HLT.out; omega, rfl, rfl, by go_num, ⟨by rw [HDR.out, HBV.out]; rfl⟩, HOa, HBa⟩
              · have k2 : decide (2 ≤ y) = false := decide_eq_false h2
                have hd : drB y = false := by rw [HDB.out, k2, k10]; rfl
                rw [if_neg (by rw [hd]; decide)] at HDR
                clear hd h10 h2 hv
                go_wp2
                go_roundg (n - (i + 1))
                case measure => have := HI.out; have := HLT.out; omega
                case rel => exact ⟨i + 1, b, ca, Aa, by have := HI.out; have := HLT.out; omega, rfl, rfl, by go_num, ⟨by rw [HDR.out, HBV.out]; rfl⟩, HOa, HBa⟩
          · have c0 : decide ((i : Int) < (n : Int)) = false := decide_eq_false (by omega)
            have c1 : decide (i < n) = false := decide_eq_false hlt
            obtain rfl : n = i := by have := HI.out; omega
            obtain ⟨A', c', e', hrd⟩ := own_rdT (row := opRow) op_len (by decide) HO.out (by rw [List.length_take, HLL.out]; omega)
            cases e'
            rw [List.take_of_length_le (by rw [HLL.out]; exact Nat.le_refl _)] at hrd
            have HRT := As.mk hrd
            have HBW := As.mk (below_step HB10.out HBB.out)
            have HRW := As.mk (H10.out.below HBB.out)
            have HBV' := As.mk HBV.out.symm
            clear hlt hrd HO
            go_wp2_with (first
              | (go_at_call 25; (with_reducible refine (bytes_all l A n c V HV.out wr HRW.out).mono ?_); rintro e w12 ⟨rfl, hb⟩; have HB12 := As.mk (below_step HBW.out hb); have HRT12 := As.mk (HRT.out.below hb); clear hb)
              | (go_at_call 25; (with_reducible refine (bytes_zero (-1) 9 A n c (.inl (by decide)) w12).mono ?_); rintro e w13 ⟨rfl, rfl⟩)
              | (go_at_call 25; (with_reducible refine (bytes_zero 17 9 A n c (.inr (.inl (by decide))) w12).mono ?_); rintro e w13 ⟨rfl, rfl⟩)
              | (go_at_call 25; (with_reducible refine (bytes_zero 0 (-1) A n c (.inr (.inr (.inr (.inl (by decide))))) w12).mono ?_); rintro e w13 ⟨rfl, rfl⟩)
              | (go_at_call 26; (with_reducible refine (draws_any l P n cap b (by have := HN.out; omega) HBV'.out w12 HRT12.out).mono ?_); rintro e w13 ⟨rfl, hb⟩; have HB13 := As.mk (below_step HB12.out hb); clear hb))
            go_ret
            exact ⟨rfl, HB13.out⟩
end Go.Proofs.Yteajblfkfmopfaa.Bound
