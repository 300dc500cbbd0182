/- AdminlogBytes: the statement, of records that are right. From a row's data to what a walk reads: a struct of numbers handed over as a value. -/
import Derived.Test.YtjcofbjfolaoiaaAdminK
import Derived.Test.YtjcofbjfolaoiaaLift
import Derived.Deep.Slices
import Derived.Deep.Fields
import Derived.Test.YtjcofbjfolaoiaaAdminA
namespace Go.Proofs.Ytjcofbjfolaoiaa.Admin
set_option linter.unusedVariables false
set_option linter.unusedSimpArgs false
open Go Go.RowKit Go.Proofs.Ytjcofbjfolaoiaa.LayA Go.Proofs.Ytjcofbjfolaoiaa.SlotP Go.Proofs.Ytjcofbjfolaoiaa.Mem Go.Proofs.Ytjcofbjfolaoiaa.Pad Go.Proofs.Ytjcofbjfolaoiaa.Put Go.Proofs.Ytjcofbjfolaoiaa.Val Go.Proofs.Ytjcofbjfolaoiaa.Reader

set_option maxHeartbeats 4000000 in
set_option maxRecDepth 100000 in
theorem ab_right_lt (r : List Int) (hl : r.length = 6) (hr : rightR r = true) (b : List Int) (hby : Byte b) (A : Option Addr) (n c : Nat) (hc : n < 48) (w : World) (h0 : Rd .u8 w A n c b) :
    Calls Try.prog 13 #[.agg (recA r), .slice A n c] w fun e w' => e = .returned (.bool true) ∧ Below w.heap.size w w' := by
  have HL := As.mk hl
  have HR := As.mk hr
  have HBY := As.mk hby
  have HRS : As ((recA r).size = 6) := ⟨by rw [recA_size, hl]⟩
  have HB0 := As.mk (below_alloc (Below.refl w.heap.size w) (.cells (recA r) 101))
  have HG0 := As.mk (heap_alloc_new w (.cells (recA r) 101))
  have H0 := As.mk (h0.below HB0.out)
  have hlb := h0.len
  have d0 : decide (100 < (n : Int)) = false := decide_eq_false (by omega)
  have d1 : decide (100 < n) = false := decide_eq_false (by omega)
  have hge : takeE b = 10 := by unfold takeE; rw [if_pos (by omega)]
  have htr : takeR b = zero6 := takeR_bad (by rw [hge]; decide)
  have e0 : decide ((n : Int) < 48) = true := decide_eq_true (by omega)
  have e1 : decide (n < 48) = true := decide_eq_true hc
  obtain ⟨t, hte⟩ : ∃ t, t = zero6 := ⟨_, rfl⟩
  have HTV := As.mk hte
  rw [← hte] at htr
  have HT := As.mk htr
  have HG := As.mk hge
  have HTL : As (t.length = 6) := ⟨by rw [← htr]; exact takeR_len b⟩
  have HTS : As ((recA t).size = 6) := ⟨by rw [recA_size]; exact HTL.out⟩
  clear hte htr hge hl hr hby h0 hlb hc
  go_enter Try.func13, Try.ntmps13
  go_wp2_with (first
    | (refine wpList_boxArr rfl 101 _ rfl (recA r) rfl ?_)
    | (go_at_call 57; (with_reducible refine (awake_true _).mono ?_); rintro e w1 ⟨rfl, hb⟩; have HB1 := As.mk (below_step HB0.out hb); have HG1 := As.mk ((hb.block _ (Array.getElem?_eq_some_iff.1 HG0.out).1).trans HG0.out); have H1 := As.mk (H0.out.below hb); clear hb)
    | (refine wpList_load_rowG (by rfl) 101 (.tmp 2) rfl w.heap.size rfl 101 (recA r) (0, 0) _ HG1.out Try.underlying101 rfl (by rw [HRS.out]; exact info_rec) ?_)
    | (go_at_call 66; (with_reducible refine (abytes_ok r HL.out HR.out w1).mono ?_); rintro e w2 ⟨A2, c2, rfl, ho, hb⟩; have HO2 := As.mk (Parts.own_rd_at ho); have HB2 := As.mk (below_step HB1.out hb); have HG2 := As.mk ((hb.block _ (Array.getElem?_eq_some_iff.1 HG1.out).1).trans HG1.out); have H2 := As.mk (H1.out.below hb); clear ho hb; refine As.out ?_))
  refine As.mk ?_
  go_wp2_with (first
    | (refine wpList_load_rowG (by rfl) 101 (.tmp 2) rfl w.heap.size rfl 101 (recA r) (0, 0) _ HG2.out Try.underlying101 rfl (by rw [HRS.out]; exact info_rec) ?_)
    | (go_at_call 65; (with_reducible refine (rightR_any r HL.out true HR.out w2).mono ?_); rintro e w3 ⟨rfl, hb⟩; have HO3 := As.mk (HO2.out.below hb); have HB3 := As.mk (below_step HB2.out hb); have HG3 := As.mk ((hb.block _ (Array.getElem?_eq_some_iff.1 HG2.out).1).trans HG2.out); have H3 := As.mk (H2.out.below hb); clear hb)
    | (go_at_call 67; refine As.out ?_))
  refine As.mk ?_
  have hte2 : takeE (bytesR r) = 0 := by
    unfold takeE
    rw [bytesR_len, if_neg (by decide), if_neg (by decide)]
    exact errN_ok 6 fun k hk => by
      rw [numAt_bytes r ((rightR_iff r).1 HR.out) k hk]
      have := (rightR_iff r).1 HR.out k hk
      omega
  have htr2 : takeR (bytesR r) = r := by rw [takeR_ok hte2]; exact nums_bytes r HL.out ((rightR_iff r).1 HR.out)
  refine (atake_any (bytesR r) (outN_byte r 6) A2 48 c2 w3 HO3.out).mono ?_
  rintro e w4 ⟨rfl, hb⟩
  rw [htr2, hte2]
  have HO4 := As.mk (HO3.out.below hb)
  have HB4 := As.mk (below_step HB3.out hb)
  have HG4 := As.mk ((hb.block _ (Array.getElem?_eq_some_iff.1 HG3.out).1).trans HG3.out)
  have H4 := As.mk (H3.out.below hb)
  clear hte2 htr2 hb HO2 HB2 HG2 H2 HO3 HB3 HG3 H3 HB1 HG1 H1 HB0 HG0 H0
  have hself : ∀ W, (Op.equalIn 10000 101 (.agg (recA r)) (.agg (recA r))).run Try.prog W = .ok true W := fun W => by rw [rec_eq r r HL.out HL.out W, eqR_self]
  have HOK := As.mk ((rightR_iff r).1 HR.out)
  go_wp2_with (first
    | (refine wpList_allocArr rfl 101 rfl (recA zero6) rec_zero ?_)
    | (refine wpList_storeNew rfl rfl 101 _ _ rfl rfl (recA r) rfl 101 (recA zero6) (by rw [HRS.out]; exact info_rec) (by rw [HRS.out]; rfl) (recA_one r) ?_; refine As.out ?_))
  refine As.mk ?_
  have hba := below_alloc (Below.refl w4.heap.size w4) (.cells (recA r) 101)
  have HO5 := As.mk (HO4.out.below hba)
  have HB5 := As.mk (below_step HB4.out hba)
  have HG5 := As.mk ((hba.block _ (Array.getElem?_eq_some_iff.1 HG4.out).1).trans HG4.out)
  have HN5 := As.mk (heap_alloc_new w4 (.cells (recA r) 101))
  have H5 := As.mk (H4.out.below hba)
  clear hba HO4 HB4 HG4 H4
  generalize w4.alloc (.cells (recA r) 101) = w5 at *
  generalize w4.heap.size = g5 at *
  go_wp2_with (first
    | (refine wpList_load_rowG (by rfl) 101 (.tmp 2) rfl w.heap.size rfl 101 (recA r) (0, 0) _ HG5.out Try.underlying101 rfl (by rw [HRS.out]; exact info_rec) ?_)
    | (go_at_call 68; (with_reducible refine (bytesR_any r HL.out HOK.out w5).mono ?_); rintro e w6 ⟨A6, c6, rfl, ho, hb⟩; have HP6 := As.mk (Parts.own_rd_at ho); have HO6 := As.mk (HO5.out.below hb); have HB6 := As.mk (below_step HB5.out hb); have HG6 := As.mk ((hb.block _ (Array.getElem?_eq_some_iff.1 HG5.out).1).trans HG5.out); have HN6 := As.mk ((hb.block _ (Array.getElem?_eq_some_iff.1 HN5.out).1).trans HN5.out); have H6 := As.mk (H5.out.below hb); clear ho hb)
    | (go_at_call 24; (with_reducible refine (RefSame.same_any _ _ _ _ 48 48 _ _ w6 true (by decide) (by simp) HO6.out HP6.out).mono ?_); rintro e w7 ⟨rfl, nd, rfl⟩; have HB7 := As.mk (below_drewN HB6.out nd); have HG7 : As ((w6.drewN nd).heap[w.heap.size]? = _) := ⟨HG6.out⟩; have HN7 : As ((w6.drewN nd).heap[g5]? = _) := ⟨HN6.out⟩; have H7 := As.mk (H6.out.drewN nd); refine As.out ?_))
  refine As.mk ?_
  generalize w6.drewN nd = wz at *
  go_wp2_with (first
    | (refine wpList_load_rowG (by rfl) 101 (.tmp 7) rfl g5 rfl 101 (recA r) (0, 0) _ HN7.out Try.underlying101 rfl (by rw [HRS.out]; exact info_rec) ?_)
    | (refine wpList_load_rowG (by rfl) 101 (.tmp 2) rfl w.heap.size rfl 101 (recA r) (0, 0) _ HG7.out Try.underlying101 rfl (by rw [HRS.out]; exact info_rec) ?_)
    | (go_at_call 67; refine As.out ?_))
  refine As.mk ?_
  have HZ := HB7
  have HBZ := H7
  clear HO5 HB5 HG5 HN5 H5 HO6 HB6 HG6 HN6 H6 HP6 hself HG7 HN7
  refine (atake_any b HBY.out A n c wz HBZ.out).mono ?_
  rintro e wy ⟨rfl, hb⟩
  have HY := As.mk (below_step HZ.out hb)
  have HBB := As.mk (HBZ.out.below hb)
  clear hb HZ HBZ
  rw [HT.out, HG.out]
  have hq := fun W => rec_eq t zero6 HTL.out rfl W
  obtain ⟨q, hqq⟩ : ∃ q, eqR t zero6 = q := ⟨_, rfl⟩
  rw [hqq] at hq
  have HQ := As.mk hqq
  clear hqq
  go_wp2_with (first
    | (refine wpList_allocArr rfl 101 rfl (recA zero6) rec_zero ?_)
    | (refine wpList_storeNew rfl rfl 101 _ _ rfl rfl (recA t) rfl 101 (recA zero6) (by rw [HTS.out]; exact info_rec) (by rw [HTS.out]; rfl) (recA_one t) ?_; refine As.out ?_))
  refine As.mk ?_
  have hba := below_alloc (Below.refl wy.heap.size wy) (.cells (recA t) 101)
  have HX := As.mk (below_step HY.out hba)
  have HBX := As.mk (HBB.out.below hba)
  have HTX := As.mk (heap_alloc_new wy (.cells (recA t) 101))
  clear hba HY HBB
  generalize wy.alloc (.cells (recA t) 101) = wx at *
  generalize wy.heap.size = gx at *
  have HQT : As (q = true) := ⟨by rw [← HQ.out, HTV.out]; rfl⟩
  obtain rfl := HQT.out
  clear HQT
  go_wp2_with (first
    | (refine wpList_load_rowG (by rfl) 101 (.tmp 9) rfl gx rfl 101 (recA t) (0, 0) _ HTX.out Try.underlying101 rfl (by rw [HTS.out]; exact info_rec) ?_)
    | (refine wpList_buildR0 rfl rfl ?_))
  go_ret
  exact ⟨rfl, HX.out⟩
set_option maxHeartbeats 4000000 in
set_option maxRecDepth 100000 in
theorem ab_right_gt (r : List Int) (hl : r.length = 6) (hr : rightR r = true) (b : List Int) (hby : Byte b) (A : Option Addr) (n c : Nat) (hc : 48 < n ∧ n ≤ 100) (w : World) (h0 : Rd .u8 w A n c b) :
    Calls Try.prog 13 #[.agg (recA r), .slice A n c] w fun e w' => e = .returned (.bool true) ∧ Below w.heap.size w w' := by
  have HL := As.mk hl
  have HR := As.mk hr
  have HBY := As.mk hby
  have HRS : As ((recA r).size = 6) := ⟨by rw [recA_size, hl]⟩
  have HB0 := As.mk (below_alloc (Below.refl w.heap.size w) (.cells (recA r) 101))
  have HG0 := As.mk (heap_alloc_new w (.cells (recA r) 101))
  have H0 := As.mk (h0.below HB0.out)
  have hlb := h0.len
  have d0 : decide (100 < (n : Int)) = false := decide_eq_false (by omega)
  have d1 : decide (100 < n) = false := decide_eq_false (by omega)
  have hge : takeE b = 13 := by unfold takeE; rw [if_neg (by omega), if_pos (by omega)]
  have htr : takeR b = zero6 := takeR_bad (by rw [hge]; decide)
  have e0 : decide ((n : Int) < 48) = false := decide_eq_false (by omega)
  have e1 : decide (n < 48) = false := decide_eq_false (by omega)
  have e2 : decide (48 < (n : Int)) = true := decide_eq_true (by omega)
  have e3 : decide (48 < n) = true := decide_eq_true hc.1
  obtain ⟨t, hte⟩ : ∃ t, t = zero6 := ⟨_, rfl⟩
  have HTV := As.mk hte
  rw [← hte] at htr
  have HT := As.mk htr
  have HG := As.mk hge
  have HTL : As (t.length = 6) := ⟨by rw [← htr]; exact takeR_len b⟩
  have HTS : As ((recA t).size = 6) := ⟨by rw [recA_size]; exact HTL.out⟩
  clear hte htr hge hl hr hby h0 hlb hc
  go_enter Try.func13, Try.ntmps13
  go_wp2_with (first
    | (refine wpList_boxArr rfl 101 _ rfl (recA r) rfl ?_)
    | (go_at_call 57; (with_reducible refine (awake_true _).mono ?_); rintro e w1 ⟨rfl, hb⟩; have HB1 := As.mk (below_step HB0.out hb); have HG1 := As.mk ((hb.block _ (Array.getElem?_eq_some_iff.1 HG0.out).1).trans HG0.out); have H1 := As.mk (H0.out.below hb); clear hb)
    | (refine wpList_load_rowG (by rfl) 101 (.tmp 2) rfl w.heap.size rfl 101 (recA r) (0, 0) _ HG1.out Try.underlying101 rfl (by rw [HRS.out]; exact info_rec) ?_)
    | (go_at_call 66; (with_reducible refine (abytes_ok r HL.out HR.out w1).mono ?_); rintro e w2 ⟨A2, c2, rfl, ho, hb⟩; have HO2 := As.mk (Parts.own_rd_at ho); have HB2 := As.mk (below_step HB1.out hb); have HG2 := As.mk ((hb.block _ (Array.getElem?_eq_some_iff.1 HG1.out).1).trans HG1.out); have H2 := As.mk (H1.out.below hb); clear ho hb; refine As.out ?_))
  refine As.mk ?_
  go_wp2_with (first
    | (refine wpList_load_rowG (by rfl) 101 (.tmp 2) rfl w.heap.size rfl 101 (recA r) (0, 0) _ HG2.out Try.underlying101 rfl (by rw [HRS.out]; exact info_rec) ?_)
    | (go_at_call 65; (with_reducible refine (rightR_any r HL.out true HR.out w2).mono ?_); rintro e w3 ⟨rfl, hb⟩; have HO3 := As.mk (HO2.out.below hb); have HB3 := As.mk (below_step HB2.out hb); have HG3 := As.mk ((hb.block _ (Array.getElem?_eq_some_iff.1 HG2.out).1).trans HG2.out); have H3 := As.mk (H2.out.below hb); clear hb)
    | (go_at_call 67; refine As.out ?_))
  refine As.mk ?_
  have hte2 : takeE (bytesR r) = 0 := by
    unfold takeE
    rw [bytesR_len, if_neg (by decide), if_neg (by decide)]
    exact errN_ok 6 fun k hk => by
      rw [numAt_bytes r ((rightR_iff r).1 HR.out) k hk]
      have := (rightR_iff r).1 HR.out k hk
      omega
  have htr2 : takeR (bytesR r) = r := by rw [takeR_ok hte2]; exact nums_bytes r HL.out ((rightR_iff r).1 HR.out)
  refine (atake_any (bytesR r) (outN_byte r 6) A2 48 c2 w3 HO3.out).mono ?_
  rintro e w4 ⟨rfl, hb⟩
  rw [htr2, hte2]
  have HO4 := As.mk (HO3.out.below hb)
  have HB4 := As.mk (below_step HB3.out hb)
  have HG4 := As.mk ((hb.block _ (Array.getElem?_eq_some_iff.1 HG3.out).1).trans HG3.out)
  have H4 := As.mk (H3.out.below hb)
  clear hte2 htr2 hb HO2 HB2 HG2 H2 HO3 HB3 HG3 H3 HB1 HG1 H1 HB0 HG0 H0
  have hself : ∀ W, (Op.equalIn 10000 101 (.agg (recA r)) (.agg (recA r))).run Try.prog W = .ok true W := fun W => by rw [rec_eq r r HL.out HL.out W, eqR_self]
  have HOK := As.mk ((rightR_iff r).1 HR.out)
  go_wp2_with (first
    | (refine wpList_allocArr rfl 101 rfl (recA zero6) rec_zero ?_)
    | (refine wpList_storeNew rfl rfl 101 _ _ rfl rfl (recA r) rfl 101 (recA zero6) (by rw [HRS.out]; exact info_rec) (by rw [HRS.out]; rfl) (recA_one r) ?_; refine As.out ?_))
  refine As.mk ?_
  have hba := below_alloc (Below.refl w4.heap.size w4) (.cells (recA r) 101)
  have HO5 := As.mk (HO4.out.below hba)
  have HB5 := As.mk (below_step HB4.out hba)
  have HG5 := As.mk ((hba.block _ (Array.getElem?_eq_some_iff.1 HG4.out).1).trans HG4.out)
  have HN5 := As.mk (heap_alloc_new w4 (.cells (recA r) 101))
  have H5 := As.mk (H4.out.below hba)
  clear hba HO4 HB4 HG4 H4
  generalize w4.alloc (.cells (recA r) 101) = w5 at *
  generalize w4.heap.size = g5 at *
  go_wp2_with (first
    | (refine wpList_load_rowG (by rfl) 101 (.tmp 2) rfl w.heap.size rfl 101 (recA r) (0, 0) _ HG5.out Try.underlying101 rfl (by rw [HRS.out]; exact info_rec) ?_)
    | (go_at_call 68; (with_reducible refine (bytesR_any r HL.out HOK.out w5).mono ?_); rintro e w6 ⟨A6, c6, rfl, ho, hb⟩; have HP6 := As.mk (Parts.own_rd_at ho); have HO6 := As.mk (HO5.out.below hb); have HB6 := As.mk (below_step HB5.out hb); have HG6 := As.mk ((hb.block _ (Array.getElem?_eq_some_iff.1 HG5.out).1).trans HG5.out); have HN6 := As.mk ((hb.block _ (Array.getElem?_eq_some_iff.1 HN5.out).1).trans HN5.out); have H6 := As.mk (H5.out.below hb); clear ho hb)
    | (go_at_call 24; (with_reducible refine (RefSame.same_any _ _ _ _ 48 48 _ _ w6 true (by decide) (by simp) HO6.out HP6.out).mono ?_); rintro e w7 ⟨rfl, nd, rfl⟩; have HB7 := As.mk (below_drewN HB6.out nd); have HG7 : As ((w6.drewN nd).heap[w.heap.size]? = _) := ⟨HG6.out⟩; have HN7 : As ((w6.drewN nd).heap[g5]? = _) := ⟨HN6.out⟩; have H7 := As.mk (H6.out.drewN nd); refine As.out ?_))
  refine As.mk ?_
  generalize w6.drewN nd = wz at *
  go_wp2_with (first
    | (refine wpList_load_rowG (by rfl) 101 (.tmp 7) rfl g5 rfl 101 (recA r) (0, 0) _ HN7.out Try.underlying101 rfl (by rw [HRS.out]; exact info_rec) ?_)
    | (refine wpList_load_rowG (by rfl) 101 (.tmp 2) rfl w.heap.size rfl 101 (recA r) (0, 0) _ HG7.out Try.underlying101 rfl (by rw [HRS.out]; exact info_rec) ?_)
    | (go_at_call 67; refine As.out ?_))
  refine As.mk ?_
  have HZ := HB7
  have HBZ := H7
  clear HO5 HB5 HG5 HN5 H5 HO6 HB6 HG6 HN6 H6 HP6 hself HG7 HN7
  refine (atake_any b HBY.out A n c wz HBZ.out).mono ?_
  rintro e wy ⟨rfl, hb⟩
  have HY := As.mk (below_step HZ.out hb)
  have HBB := As.mk (HBZ.out.below hb)
  clear hb HZ HBZ
  rw [HT.out, HG.out]
  have hq := fun W => rec_eq t zero6 HTL.out rfl W
  obtain ⟨q, hqq⟩ : ∃ q, eqR t zero6 = q := ⟨_, rfl⟩
  rw [hqq] at hq
  have HQ := As.mk hqq
  clear hqq
  go_wp2_with (first
    | (refine wpList_allocArr rfl 101 rfl (recA zero6) rec_zero ?_)
    | (refine wpList_storeNew rfl rfl 101 _ _ rfl rfl (recA t) rfl 101 (recA zero6) (by rw [HTS.out]; exact info_rec) (by rw [HTS.out]; rfl) (recA_one t) ?_; refine As.out ?_))
  refine As.mk ?_
  have hba := below_alloc (Below.refl wy.heap.size wy) (.cells (recA t) 101)
  have HX := As.mk (below_step HY.out hba)
  have HBX := As.mk (HBB.out.below hba)
  have HTX := As.mk (heap_alloc_new wy (.cells (recA t) 101))
  clear hba HY HBB
  generalize wy.alloc (.cells (recA t) 101) = wx at *
  generalize wy.heap.size = gx at *
  have HQT : As (q = true) := ⟨by rw [← HQ.out, HTV.out]; rfl⟩
  obtain rfl := HQT.out
  clear HQT
  go_wp2_with (first
    | (refine wpList_load_rowG (by rfl) 101 (.tmp 9) rfl gx rfl 101 (recA t) (0, 0) _ HTX.out Try.underlying101 rfl (by rw [HTS.out]; exact info_rec) ?_)
    | (refine wpList_buildR0 rfl rfl ?_))
  go_ret
  exact ⟨rfl, HX.out⟩
set_option maxHeartbeats 4000000 in
set_option maxRecDepth 100000 in
theorem ab_right_form (r : List Int) (hl : r.length = 6) (hr : rightR r = true) (b : List Int) (hby : Byte b) (A : Option Addr) (n c : Nat) (hc : n = 48 ∧ errN b 6 ≠ 0) (w : World) (h0 : Rd .u8 w A n c b) :
    Calls Try.prog 13 #[.agg (recA r), .slice A n c] w fun e w' => e = .returned (.bool true) ∧ Below w.heap.size w w' := by
  have HL := As.mk hl
  have HR := As.mk hr
  have HBY := As.mk hby
  have HRS : As ((recA r).size = 6) := ⟨by rw [recA_size, hl]⟩
  have HB0 := As.mk (below_alloc (Below.refl w.heap.size w) (.cells (recA r) 101))
  have HG0 := As.mk (heap_alloc_new w (.cells (recA r) 101))
  have H0 := As.mk (h0.below HB0.out)
  have hlb := h0.len
  have d0 : decide (100 < (n : Int)) = false := decide_eq_false (by omega)
  have d1 : decide (100 < n) = false := decide_eq_false (by omega)
  obtain ⟨rfl, hne⟩ := hc
  have hge : takeE b = 11 := by unfold takeE; rw [if_neg (by omega), if_neg (by omega)]; exact (errN_two b 6).resolve_left hne
  have htr : takeR b = zero6 := takeR_bad (by rw [hge]; decide)
  have HNE := As.mk (badN_six hne)
  clear hne
  obtain ⟨t, hte⟩ : ∃ t, t = zero6 := ⟨_, rfl⟩
  have HTV := As.mk hte
  rw [← hte] at htr
  have HT := As.mk htr
  have HG := As.mk hge
  have HTL : As (t.length = 6) := ⟨by rw [← htr]; exact takeR_len b⟩
  have HTS : As ((recA t).size = 6) := ⟨by rw [recA_size]; exact HTL.out⟩
  clear hte htr hge hl hr hby h0 hlb
  go_enter Try.func13, Try.ntmps13
  go_wp2_with (first
    | (refine wpList_boxArr rfl 101 _ rfl (recA r) rfl ?_)
    | (go_at_call 57; (with_reducible refine (awake_true _).mono ?_); rintro e w1 ⟨rfl, hb⟩; have HB1 := As.mk (below_step HB0.out hb); have HG1 := As.mk ((hb.block _ (Array.getElem?_eq_some_iff.1 HG0.out).1).trans HG0.out); have H1 := As.mk (H0.out.below hb); clear hb)
    | (refine wpList_load_rowG (by rfl) 101 (.tmp 2) rfl w.heap.size rfl 101 (recA r) (0, 0) _ HG1.out Try.underlying101 rfl (by rw [HRS.out]; exact info_rec) ?_)
    | (go_at_call 66; (with_reducible refine (abytes_ok r HL.out HR.out w1).mono ?_); rintro e w2 ⟨A2, c2, rfl, ho, hb⟩; have HO2 := As.mk (Parts.own_rd_at ho); have HB2 := As.mk (below_step HB1.out hb); have HG2 := As.mk ((hb.block _ (Array.getElem?_eq_some_iff.1 HG1.out).1).trans HG1.out); have H2 := As.mk (H1.out.below hb); clear ho hb; refine As.out ?_))
  refine As.mk ?_
  go_wp2_with (first
    | (refine wpList_load_rowG (by rfl) 101 (.tmp 2) rfl w.heap.size rfl 101 (recA r) (0, 0) _ HG2.out Try.underlying101 rfl (by rw [HRS.out]; exact info_rec) ?_)
    | (go_at_call 65; (with_reducible refine (rightR_any r HL.out true HR.out w2).mono ?_); rintro e w3 ⟨rfl, hb⟩; have HO3 := As.mk (HO2.out.below hb); have HB3 := As.mk (below_step HB2.out hb); have HG3 := As.mk ((hb.block _ (Array.getElem?_eq_some_iff.1 HG2.out).1).trans HG2.out); have H3 := As.mk (H2.out.below hb); clear hb)
    | (go_at_call 67; refine As.out ?_))
  refine As.mk ?_
  have hte2 : takeE (bytesR r) = 0 := by
    unfold takeE
    rw [bytesR_len, if_neg (by decide), if_neg (by decide)]
    exact errN_ok 6 fun k hk => by
      rw [numAt_bytes r ((rightR_iff r).1 HR.out) k hk]
      have := (rightR_iff r).1 HR.out k hk
      omega
  have htr2 : takeR (bytesR r) = r := by rw [takeR_ok hte2]; exact nums_bytes r HL.out ((rightR_iff r).1 HR.out)
  refine (atake_any (bytesR r) (outN_byte r 6) A2 48 c2 w3 HO3.out).mono ?_
  rintro e w4 ⟨rfl, hb⟩
  rw [htr2, hte2]
  have HO4 := As.mk (HO3.out.below hb)
  have HB4 := As.mk (below_step HB3.out hb)
  have HG4 := As.mk ((hb.block _ (Array.getElem?_eq_some_iff.1 HG3.out).1).trans HG3.out)
  have H4 := As.mk (H3.out.below hb)
  clear hte2 htr2 hb HO2 HB2 HG2 H2 HO3 HB3 HG3 H3 HB1 HG1 H1 HB0 HG0 H0
  have hself : ∀ W, (Op.equalIn 10000 101 (.agg (recA r)) (.agg (recA r))).run Try.prog W = .ok true W := fun W => by rw [rec_eq r r HL.out HL.out W, eqR_self]
  have HOK := As.mk ((rightR_iff r).1 HR.out)
  go_wp2_with (first
    | (refine wpList_allocArr rfl 101 rfl (recA zero6) rec_zero ?_)
    | (refine wpList_storeNew rfl rfl 101 _ _ rfl rfl (recA r) rfl 101 (recA zero6) (by rw [HRS.out]; exact info_rec) (by rw [HRS.out]; rfl) (recA_one r) ?_; refine As.out ?_))
  refine As.mk ?_
  have hba := below_alloc (Below.refl w4.heap.size w4) (.cells (recA r) 101)
  have HO5 := As.mk (HO4.out.below hba)
  have HB5 := As.mk (below_step HB4.out hba)
  have HG5 := As.mk ((hba.block _ (Array.getElem?_eq_some_iff.1 HG4.out).1).trans HG4.out)
  have HN5 := As.mk (heap_alloc_new w4 (.cells (recA r) 101))
  have H5 := As.mk (H4.out.below hba)
  clear hba HO4 HB4 HG4 H4
  generalize w4.alloc (.cells (recA r) 101) = w5 at *
  generalize w4.heap.size = g5 at *
  go_wp2_with (first
    | (refine wpList_load_rowG (by rfl) 101 (.tmp 2) rfl w.heap.size rfl 101 (recA r) (0, 0) _ HG5.out Try.underlying101 rfl (by rw [HRS.out]; exact info_rec) ?_)
    | (go_at_call 68; (with_reducible refine (bytesR_any r HL.out HOK.out w5).mono ?_); rintro e w6 ⟨A6, c6, rfl, ho, hb⟩; have HP6 := As.mk (Parts.own_rd_at ho); have HO6 := As.mk (HO5.out.below hb); have HB6 := As.mk (below_step HB5.out hb); have HG6 := As.mk ((hb.block _ (Array.getElem?_eq_some_iff.1 HG5.out).1).trans HG5.out); have HN6 := As.mk ((hb.block _ (Array.getElem?_eq_some_iff.1 HN5.out).1).trans HN5.out); have H6 := As.mk (H5.out.below hb); clear ho hb)
    | (go_at_call 24; (with_reducible refine (RefSame.same_any _ _ _ _ 48 48 _ _ w6 true (by decide) (by simp) HO6.out HP6.out).mono ?_); rintro e w7 ⟨rfl, nd, rfl⟩; have HB7 := As.mk (below_drewN HB6.out nd); have HG7 : As ((w6.drewN nd).heap[w.heap.size]? = _) := ⟨HG6.out⟩; have HN7 : As ((w6.drewN nd).heap[g5]? = _) := ⟨HN6.out⟩; have H7 := As.mk (H6.out.drewN nd); refine As.out ?_))
  refine As.mk ?_
  generalize w6.drewN nd = wz at *
  go_wp2_with (first
    | (refine wpList_load_rowG (by rfl) 101 (.tmp 7) rfl g5 rfl 101 (recA r) (0, 0) _ HN7.out Try.underlying101 rfl (by rw [HRS.out]; exact info_rec) ?_)
    | (refine wpList_load_rowG (by rfl) 101 (.tmp 2) rfl w.heap.size rfl 101 (recA r) (0, 0) _ HG7.out Try.underlying101 rfl (by rw [HRS.out]; exact info_rec) ?_)
    | (go_at_call 67; refine As.out ?_))
  refine As.mk ?_
  have HZ := HB7
  have HBZ := H7
  clear HO5 HB5 HG5 HN5 H5 HO6 HB6 HG6 HN6 H6 HP6 hself HG7 HN7
  refine (atake_any b HBY.out A 48 c wz HBZ.out).mono ?_
  rintro e wy ⟨rfl, hb⟩
  have HY := As.mk (below_step HZ.out hb)
  have HBB := As.mk (HBZ.out.below hb)
  clear hb HZ HBZ
  rw [HT.out, HG.out]
  have hq := fun W => rec_eq t zero6 HTL.out rfl W
  obtain ⟨q, hqq⟩ : ∃ q, eqR t zero6 = q := ⟨_, rfl⟩
  rw [hqq] at hq
  have HQ := As.mk hqq
  clear hqq
  go_wp2_with (first
    | (refine wpList_allocArr rfl 101 rfl (recA zero6) rec_zero ?_)
    | (refine wpList_storeNew rfl rfl 101 _ _ rfl rfl (recA t) rfl 101 (recA zero6) (by rw [HTS.out]; exact info_rec) (by rw [HTS.out]; rfl) (recA_one t) ?_; refine As.out ?_))
  refine As.mk ?_
  have hba := below_alloc (Below.refl wy.heap.size wy) (.cells (recA t) 101)
  have HX := As.mk (below_step HY.out hba)
  have HBX := As.mk (HBB.out.below hba)
  have HTX := As.mk (heap_alloc_new wy (.cells (recA t) 101))
  clear hba HY HBB
  generalize wy.alloc (.cells (recA t) 101) = wx at *
  generalize wy.heap.size = gx at *
  have HQT : As (q = true) := ⟨by rw [← HQ.out, HTV.out]; rfl⟩
  obtain rfl := HQT.out
  clear HQT
  go_wp2_with (first
    | (refine wpList_load_rowG (by rfl) 101 (.tmp 9) rfl gx rfl 101 (recA t) (0, 0) _ HTX.out Try.underlying101 rfl (by rw [HTS.out]; exact info_rec) ?_)
    | (refine wpList_buildR0 rfl rfl ?_))
  go_loopg [12, 13] 6 (fun kq v12 v13 wr => ∃ (k j : Nat), k + kq = 6 ∧ v12 = .bool (badN b k) ∧ v13 = .int .i64 (j : Int) ∧ As (j = 8 * k) ∧ As (wx = wr))
  case atStart => exact ⟨0, 0, by omega, rfl, rfl, ⟨rfl⟩, ⟨rfl⟩⟩
  case round =>
    obtain ⟨k, j, hk, rfl, rfl, HJ, HW⟩ := hrel
    have HK := As.mk hk
    obtain rfl := HW.out
    clear hk HW
    by_cases hlt : k < 6
    · have c0 : decide ((j : Int) < 48) = true := decide_eq_true (by have := HJ.out; omega)
      have c1 : decide (j < 48) = true := decide_eq_true (by have := HJ.out; omega)
      have lt' : (j : Int) < 48 := by have := HJ.out; omega
      have hw : wrap64 ((j : Int) + 8) = ((j + 8 : Nat) : Int) := by unfold wrap64; omega
      have hle := HBX.out.le
      have hsl : ∀ W, (Instr.slice 32 (.slice A 48 c) (some (.int .i64 (j : Int))) (some (.int .i64 ((j + 8 : Nat) : Int))) none).run Try.prog W = .ok (.slice (cutA A c j 1) 8 (c - j)) W := fun W => by
        have := run_cut (P := Try.prog) W 32 5 Try.underlying32 CloneB.info A 48 c j (j + 8) .i64 .i64 (by omega) (by have := HJ.out; omega)
        rwa [show j + 8 - j = 8 by omega] at this
      have hsl2 : ∀ W, (Instr.slice 32 (.slice A 48 c) (some (.int .i64 (j : Int))) (some (.int .i64 ((j : Int) + 8))) none).run Try.prog W = .ok (.slice (cutA A c j 1) 8 (c - j)) W := fun W => by
        have := hsl W
        rwa [show ((j + 8 : Nat) : Int) = (j : Int) + 8 by omega] at this
      have HC := As.mk (HBX.out.cut j (j + 8) (by omega) (by have := HJ.out; omega))
      rw [show j + 8 - j = 8 by omega] at HC
      have hgo := get_of (x := b.drop j) (k := 8) (n := 48 - j) (by rw [List.length_drop, HBX.out.len]) (by have := HJ.out; omega) (by decide) (by decide)
      obtain ⟨v, hv⟩ : ∃ v, valB ((b.drop j).take 8) = v := ⟨_, rfl⟩
      rw [hv] at hgo
      have HVN : As (numAt b k = v) := ⟨by rw [← hv, HJ.out]; rfl⟩
      have HBS : As (badN b (k + 1) = (badN b k || decide (M < (numAt b k : Int)))) := ⟨rfl⟩
      rw [HVN.out] at HBS
      have HLT := As.mk hlt
      have HGO := As.mk hgo
      clear hv hgo hlt hle
      go_wp2_with (go_at_call 69; (with_reducible refine (getR_any _ (byte_take (byte_drop HBY.out j) 8) (cutA A c j 1) 8 (c - j) wx HC.out).mono ?_); rintro e w9 ⟨rfl, rfl⟩; refine As.out ?_)
      refine As.mk ?_
      rw [HGO.out.1, HGO.out.2]
      by_cases h62 : v ≤ 4611686018427387904
      · rw [if_pos h62, if_pos h62]
        by_cases hM : (v : Int) ≤ 1099511627776
        · have f0 : decide (1099511627776 < (v : Int)) = false := decide_eq_false (by omega)
          have f1 : decide (1099511627776 < v) = false := decide_eq_false (by omega)
          have HBT : As (badN b (k + 1) = badN b k) := ⟨by rw [HBS.out, decide_eq_false (by unfold M; omega), Bool.or_false]⟩
          obtain ⟨bb, hbb⟩ : ∃ bb, badN b k = bb := ⟨_, rfl⟩
          rw [hbb] at HBT ⊢
          clear h62 hM hbb
          cases bb with
          | true =>
            go_wp2
            go_roundg (6 - (k + 1))
            case measure => have := HK.out; have := HLT.out; omega
            case rel => exact ⟨k + 1, j + 8, by have := HK.out; have := HLT.out; omega, by rw [HBT.out], by go_num, ⟨by have := HJ.out; omega⟩, ⟨rfl⟩⟩
          | false =>
            go_wp2
            go_roundg (6 - (k + 1))
            case measure => have := HK.out; have := HLT.out; omega
            case rel => exact ⟨k + 1, j + 8, by have := HK.out; have := HLT.out; omega, by rw [HBT.out], by go_num, ⟨by have := HJ.out; omega⟩, ⟨rfl⟩⟩
        · have f0 : decide (1099511627776 < (v : Int)) = true := decide_eq_true (by omega)
          have f1 : decide (1099511627776 < v) = true := decide_eq_true (by omega)
          have HBT : As (badN b (k + 1) = true) := ⟨by rw [HBS.out, decide_eq_true (by unfold M; omega), Bool.or_true]⟩
          obtain ⟨bb, hbb⟩ : ∃ bb, badN b k = bb := ⟨_, rfl⟩
          rw [hbb]
          clear h62 hM hbb
          cases bb with
          | true =>
            go_wp2
            go_roundg (6 - (k + 1))
            case measure => have := HK.out; have := HLT.out; omega
            case rel => exact ⟨k + 1, j + 8, by have := HK.out; have := HLT.out; omega, by rw [HBT.out], by go_num, ⟨by have := HJ.out; omega⟩, ⟨rfl⟩⟩
          | false =>
            go_wp2
            go_roundg (6 - (k + 1))
            case measure => have := HK.out; have := HLT.out; omega
            case rel => exact ⟨k + 1, j + 8, by have := HK.out; have := HLT.out; omega, by rw [HBT.out], by go_num, ⟨by have := HJ.out; omega⟩, ⟨rfl⟩⟩
      · rw [if_neg h62, if_neg h62]
        have HBT : As (badN b (k + 1) = true) := ⟨by rw [HBS.out, decide_eq_true (by unfold M; omega), Bool.or_true]⟩
        obtain ⟨bb, hbb⟩ : ∃ bb, badN b k = bb := ⟨_, rfl⟩
        rw [hbb]
        clear h62 hbb
        cases bb with
        | true =>
          go_wp2
          go_roundg (6 - (k + 1))
          case measure => have := HK.out; have := HLT.out; omega
          case rel => exact ⟨k + 1, j + 8, by have := HK.out; have := HLT.out; omega, by rw [HBT.out], by go_num, ⟨by have := HJ.out; omega⟩, ⟨rfl⟩⟩
        | false =>
          go_wp2
          go_roundg (6 - (k + 1))
          case measure => have := HK.out; have := HLT.out; omega
          case rel => exact ⟨k + 1, j + 8, by have := HK.out; have := HLT.out; omega, by rw [HBT.out], by go_num, ⟨by have := HJ.out; omega⟩, ⟨rfl⟩⟩
    · obtain rfl : k = 6 := by have := HK.out; omega
      have c0 : decide ((j : Int) < 48) = false := decide_eq_false (by have := HJ.out; omega)
      have c1 : decide (j < 48) = false := decide_eq_false (by have := HJ.out; omega)
      rw [HNE.out]
      clear hlt
      go_wp2
      go_ret
      exact ⟨rfl, HX.out⟩
set_option maxHeartbeats 4000000 in
set_option maxRecDepth 100000 in
theorem ab_right_ok (r : List Int) (hl : r.length = 6) (hr : rightR r = true) (b : List Int) (hby : Byte b) (A : Option Addr) (n c : Nat) (hc : n = 48 ∧ errN b 6 = 0) (w : World) (h0 : Rd .u8 w A n c b) :
    Calls Try.prog 13 #[.agg (recA r), .slice A n c] w fun e w' => e = .returned (.bool true) ∧ Below w.heap.size w w' := by
  have HL := As.mk hl
  have HR := As.mk hr
  have HBY := As.mk hby
  have HRS : As ((recA r).size = 6) := ⟨by rw [recA_size, hl]⟩
  have HB0 := As.mk (below_alloc (Below.refl w.heap.size w) (.cells (recA r) 101))
  have HG0 := As.mk (heap_alloc_new w (.cells (recA r) 101))
  have H0 := As.mk (h0.below HB0.out)
  have hlb := h0.len
  have d0 : decide (100 < (n : Int)) = false := decide_eq_false (by omega)
  have d1 : decide (100 < n) = false := decide_eq_false (by omega)
  obtain ⟨rfl, hne⟩ := hc
  have hge : takeE b = 0 := by unfold takeE; rw [if_neg (by omega), if_neg (by omega)]; exact hne
  have htr : takeR b = numsB b := takeR_ok hge
  have HNR := As.mk (nums_right hne)
  have HBN := As.mk (bytes_nums b hby hlb)
  clear hne
  obtain ⟨t, hte⟩ : ∃ t, t = (numsB b) := ⟨_, rfl⟩
  have HTV := As.mk hte
  rw [← hte] at htr HNR HBN
  have HT := As.mk htr
  have HG := As.mk hge
  have HTL : As (t.length = 6) := ⟨by rw [← htr]; exact takeR_len b⟩
  have HTS : As ((recA t).size = 6) := ⟨by rw [recA_size]; exact HTL.out⟩
  clear hte htr hge hl hr hby h0 hlb
  go_enter Try.func13, Try.ntmps13
  go_wp2_with (first
    | (refine wpList_boxArr rfl 101 _ rfl (recA r) rfl ?_)
    | (go_at_call 57; (with_reducible refine (awake_true _).mono ?_); rintro e w1 ⟨rfl, hb⟩; have HB1 := As.mk (below_step HB0.out hb); have HG1 := As.mk ((hb.block _ (Array.getElem?_eq_some_iff.1 HG0.out).1).trans HG0.out); have H1 := As.mk (H0.out.below hb); clear hb)
    | (refine wpList_load_rowG (by rfl) 101 (.tmp 2) rfl w.heap.size rfl 101 (recA r) (0, 0) _ HG1.out Try.underlying101 rfl (by rw [HRS.out]; exact info_rec) ?_)
    | (go_at_call 66; (with_reducible refine (abytes_ok r HL.out HR.out w1).mono ?_); rintro e w2 ⟨A2, c2, rfl, ho, hb⟩; have HO2 := As.mk (Parts.own_rd_at ho); have HB2 := As.mk (below_step HB1.out hb); have HG2 := As.mk ((hb.block _ (Array.getElem?_eq_some_iff.1 HG1.out).1).trans HG1.out); have H2 := As.mk (H1.out.below hb); clear ho hb; refine As.out ?_))
  refine As.mk ?_
  go_wp2_with (first
    | (refine wpList_load_rowG (by rfl) 101 (.tmp 2) rfl w.heap.size rfl 101 (recA r) (0, 0) _ HG2.out Try.underlying101 rfl (by rw [HRS.out]; exact info_rec) ?_)
    | (go_at_call 65; (with_reducible refine (rightR_any r HL.out true HR.out w2).mono ?_); rintro e w3 ⟨rfl, hb⟩; have HO3 := As.mk (HO2.out.below hb); have HB3 := As.mk (below_step HB2.out hb); have HG3 := As.mk ((hb.block _ (Array.getElem?_eq_some_iff.1 HG2.out).1).trans HG2.out); have H3 := As.mk (H2.out.below hb); clear hb)
    | (go_at_call 67; refine As.out ?_))
  refine As.mk ?_
  have hte2 : takeE (bytesR r) = 0 := by
    unfold takeE
    rw [bytesR_len, if_neg (by decide), if_neg (by decide)]
    exact errN_ok 6 fun k hk => by
      rw [numAt_bytes r ((rightR_iff r).1 HR.out) k hk]
      have := (rightR_iff r).1 HR.out k hk
      omega
  have htr2 : takeR (bytesR r) = r := by rw [takeR_ok hte2]; exact nums_bytes r HL.out ((rightR_iff r).1 HR.out)
  refine (atake_any (bytesR r) (outN_byte r 6) A2 48 c2 w3 HO3.out).mono ?_
  rintro e w4 ⟨rfl, hb⟩
  rw [htr2, hte2]
  have HO4 := As.mk (HO3.out.below hb)
  have HB4 := As.mk (below_step HB3.out hb)
  have HG4 := As.mk ((hb.block _ (Array.getElem?_eq_some_iff.1 HG3.out).1).trans HG3.out)
  have H4 := As.mk (H3.out.below hb)
  clear hte2 htr2 hb HO2 HB2 HG2 H2 HO3 HB3 HG3 H3 HB1 HG1 H1 HB0 HG0 H0
  have hself : ∀ W, (Op.equalIn 10000 101 (.agg (recA r)) (.agg (recA r))).run Try.prog W = .ok true W := fun W => by rw [rec_eq r r HL.out HL.out W, eqR_self]
  have HOK := As.mk ((rightR_iff r).1 HR.out)
  go_wp2_with (first
    | (refine wpList_allocArr rfl 101 rfl (recA zero6) rec_zero ?_)
    | (refine wpList_storeNew rfl rfl 101 _ _ rfl rfl (recA r) rfl 101 (recA zero6) (by rw [HRS.out]; exact info_rec) (by rw [HRS.out]; rfl) (recA_one r) ?_; refine As.out ?_))
  refine As.mk ?_
  have hba := below_alloc (Below.refl w4.heap.size w4) (.cells (recA r) 101)
  have HO5 := As.mk (HO4.out.below hba)
  have HB5 := As.mk (below_step HB4.out hba)
  have HG5 := As.mk ((hba.block _ (Array.getElem?_eq_some_iff.1 HG4.out).1).trans HG4.out)
  have HN5 := As.mk (heap_alloc_new w4 (.cells (recA r) 101))
  have H5 := As.mk (H4.out.below hba)
  clear hba HO4 HB4 HG4 H4
  generalize w4.alloc (.cells (recA r) 101) = w5 at *
  generalize w4.heap.size = g5 at *
  go_wp2_with (first
    | (refine wpList_load_rowG (by rfl) 101 (.tmp 2) rfl w.heap.size rfl 101 (recA r) (0, 0) _ HG5.out Try.underlying101 rfl (by rw [HRS.out]; exact info_rec) ?_)
    | (go_at_call 68; (with_reducible refine (bytesR_any r HL.out HOK.out w5).mono ?_); rintro e w6 ⟨A6, c6, rfl, ho, hb⟩; have HP6 := As.mk (Parts.own_rd_at ho); have HO6 := As.mk (HO5.out.below hb); have HB6 := As.mk (below_step HB5.out hb); have HG6 := As.mk ((hb.block _ (Array.getElem?_eq_some_iff.1 HG5.out).1).trans HG5.out); have HN6 := As.mk ((hb.block _ (Array.getElem?_eq_some_iff.1 HN5.out).1).trans HN5.out); have H6 := As.mk (H5.out.below hb); clear ho hb)
    | (go_at_call 24; (with_reducible refine (RefSame.same_any _ _ _ _ 48 48 _ _ w6 true (by decide) (by simp) HO6.out HP6.out).mono ?_); rintro e w7 ⟨rfl, nd, rfl⟩; have HB7 := As.mk (below_drewN HB6.out nd); have HG7 : As ((w6.drewN nd).heap[w.heap.size]? = _) := ⟨HG6.out⟩; have HN7 : As ((w6.drewN nd).heap[g5]? = _) := ⟨HN6.out⟩; have H7 := As.mk (H6.out.drewN nd); refine As.out ?_))
  refine As.mk ?_
  generalize w6.drewN nd = wz at *
  go_wp2_with (first
    | (refine wpList_load_rowG (by rfl) 101 (.tmp 7) rfl g5 rfl 101 (recA r) (0, 0) _ HN7.out Try.underlying101 rfl (by rw [HRS.out]; exact info_rec) ?_)
    | (refine wpList_load_rowG (by rfl) 101 (.tmp 2) rfl w.heap.size rfl 101 (recA r) (0, 0) _ HG7.out Try.underlying101 rfl (by rw [HRS.out]; exact info_rec) ?_)
    | (go_at_call 67; refine As.out ?_))
  refine As.mk ?_
  have HZ := HB7
  have HBZ := H7
  clear HO5 HB5 HG5 HN5 H5 HO6 HB6 HG6 HN6 H6 HP6 hself HG7 HN7
  refine (atake_any b HBY.out A 48 c wz HBZ.out).mono ?_
  rintro e wy ⟨rfl, hb⟩
  have HY := As.mk (below_step HZ.out hb)
  have HBB := As.mk (HBZ.out.below hb)
  clear hb HZ HBZ
  rw [HT.out, HG.out]
  have hq := fun W => rec_eq t zero6 HTL.out rfl W
  obtain ⟨q, hqq⟩ : ∃ q, eqR t zero6 = q := ⟨_, rfl⟩
  rw [hqq] at hq
  have HQ := As.mk hqq
  clear hqq
  go_wp2_with (first
    | (refine wpList_allocArr rfl 101 rfl (recA zero6) rec_zero ?_)
    | (refine wpList_storeNew rfl rfl 101 _ _ rfl rfl (recA t) rfl 101 (recA zero6) (by rw [HTS.out]; exact info_rec) (by rw [HTS.out]; rfl) (recA_one t) ?_; refine As.out ?_))
  refine As.mk ?_
  have hba := below_alloc (Below.refl wy.heap.size wy) (.cells (recA t) 101)
  have HX := As.mk (below_step HY.out hba)
  have HBX := As.mk (HBB.out.below hba)
  have HTX := As.mk (heap_alloc_new wy (.cells (recA t) 101))
  clear hba HY HBB
  generalize wy.alloc (.cells (recA t) 101) = wx at *
  generalize wy.heap.size = gx at *
  have HOK2 := As.mk ((rightR_iff t).1 HNR.out)
  go_wp2_with (first
    | (refine wpList_load_rowG (by rfl) 101 (.tmp 9) rfl gx rfl 101 (recA t) (0, 0) _ HTX.out Try.underlying101 rfl (by rw [HTS.out]; exact info_rec) ?_)
    | (refine wpList_buildR0 rfl rfl ?_)
    | (go_at_call 65; (with_reducible refine (rightR_any t HTL.out true HNR.out wx).mono ?_); rintro e v1 ⟨rfl, hb⟩; have HV1 := As.mk (below_step HX.out hb); have HT1 := As.mk ((hb.block _ (Array.getElem?_eq_some_iff.1 HTX.out).1).trans HTX.out); have HD1 := As.mk (HBX.out.below hb); clear hb; refine As.out ?_))
  refine As.mk ?_
  go_wp2_with (first
    | (refine wpList_load_rowG (by rfl) 101 (.tmp 9) rfl gx rfl 101 (recA t) (0, 0) _ HT1.out Try.underlying101 rfl (by rw [HTS.out]; exact info_rec) ?_)
    | (go_at_call 68; (with_reducible refine (bytesR_any t HTL.out HOK2.out v1).mono ?_); rintro e v2 ⟨A6, c6, rfl, ho, hb⟩; rw [HBN.out] at ho; have HP6 := As.mk (Parts.own_rd_at ho); have HV2 := As.mk (below_step HV1.out hb); have HD2 := As.mk (HD1.out.below hb); clear ho hb)
    | (go_at_call 24; (with_reducible refine (RefSame.same_any _ _ _ _ 48 48 _ _ v2 true (by decide) (by simp) HP6.out HD2.out).mono ?_); rintro e v3 ⟨rfl, nd, rfl⟩))
  go_ret
  exact ⟨rfl, below_drewN HV2.out nd⟩
theorem ab_any (r : List Int) (hl : r.length = 6) (b : List Int) (hby : Byte b) (A : Option Addr) (n c : Nat) (w : World) (h0 : Rd .u8 w A n c b) :
    Calls Try.prog 13 #[.agg (recA r), .slice A n c] w fun e w' => e = .returned (.bool true) ∧ Below w.heap.size w w' := by
  by_cases h100 : 100 < n
  · exact ab_far r hl A n c h100 w
  · rcases Bool.eq_false_or_eq_true (rightR r) with hr | hr
    · by_cases h1 : n < 48
      · exact ab_right_lt r hl hr b hby A n c h1 w h0
      · by_cases h2 : 48 < n
        · exact ab_right_gt r hl hr b hby A n c (by omega) w h0
        · by_cases h3 : errN b 6 = 0
          · exact ab_right_ok r hl hr b hby A n c ⟨by omega, h3⟩ w h0
          · exact ab_right_form r hl hr b hby A n c ⟨by omega, h3⟩ w h0
    · by_cases h1 : n < 48
      · exact ab_wrong_lt r hl hr b hby A n c h1 w h0
      · by_cases h2 : 48 < n
        · exact ab_wrong_gt r hl hr b hby A n c (by omega) w h0
        · by_cases h3 : errN b 6 = 0
          · exact ab_wrong_ok r hl hr b hby A n c ⟨by omega, h3⟩ w h0
          · exact ab_wrong_form r hl hr b hby A n c ⟨by omega, h3⟩ w h0
theorem bytes_walk (r : List Int) (A : Option Addr) (n c : Nat) (b : List Int) (w : World) (hl : r.length = 6) (h0 : Rd .u8 w A n c b) (hb : ∀ i ∈ b, (Lit.int .u8 i).wf = true) (_ : n * 1 ≤ 140737488351232) :
    Calls Try.prog 13 #[.agg (recA r), .slice A n c] w fun e w' => e = .returned (.bool true) ∧ Below w.heap.size w w' :=
  ab_any r hl b (fun i hi => by
    have h := hb i hi
    simp [Lit.wf, IntKind.min, IntKind.max, IntKind.signed, IntKind.bits] at h
    omega) A n c w h0
end Go.Proofs.Ytjcofbjfolaoiaa.Admin
namespace Go.Proofs.Ytjcofbjfolaoiaa.LiftR
set_option linter.unusedVariables false
set_option linter.unusedSimpArgs false
open Go Go.RowKit Go.ChangeShapes Go.WideShapes Go.ChangeAt Go.Deep
section
variable {H : Type} {enc : TypeId × Value → H} {P : Program} {W : World} {base : Nat} {spare : Nat → Bool} {held : Bool}
theorem one_at {cs : List Value} {o : Nat} {m : Int} (h : (cs.drop o).take 1 = [.int .i64 m]) : cs[o]? = some (.int .i64 m) := by
  have : ((cs.drop o).take 1)[0]? = some (.int .i64 m) := by rw [h]; rfl
  rw [List.getElem?_take, if_pos (by omega), List.getElem?_drop] at this
  simpa using this
theorem rec1 {r : Reach} {b0 : Nat} {e : TypeId} {fs : Array Field} {m : Nat} {v : Value} {d : DataW H} {p : List MemPlace} (he : P.underlying e = some (.struct fs)) (hm : fs.size = m) (hC : P.cellsOf e = m)
    (ho : ∀ (i : Nat) (f : Field), fs[i]? = some f → f.offset = i ∧ P.cellsOf f.type = 1 ∧ P.underlying f.type = some (.int .i64))
    (hv : Value.okWide P W r b0 e v) (h : DataW.Trod enc P W base spare held e v d p) : ∃ r, v = .agg (Admin.recA r) ∧ r.length = m := by
  simp only [Value.okWide, he] at hv
  obtain ⟨cs, rfl, _⟩ := hv
  obtain ⟨fuel, hf⟩ := h
  have hf2 : DataW.trod enc P W base spare held fuel e cs.toList = some (d, p) := hf
  obtain ⟨ys, n', _, _, hlen, hyl, hff⟩ := DataW.trod_struct he hf2
  have hl : cs.toList.length = m := by rw [hlen, hC]
  have each : ∀ i, i < m → ∃ x, cs.toList[i]? = some (.int .i64 x) := fun i hi => by
    have h1 : fs[i]? = some fs[i] := Array.getElem?_eq_getElem (by omega)
    obtain ⟨o, c, u⟩ := ho i _ h1
    have h4 := hff i _ h1
    have hi : i < ys.length := by omega
    rw [List.getElem?_eq_getElem hi, o, c] at h4
    obtain ⟨x, q, _, _⟩ := DataW.trod_int u h4
    exact ⟨x, one_at q⟩
  refine ⟨cs.toList.map fun v => match v with | .int _ x => x | _ => 0, ?_, by simpa using hl⟩
  congr 1
  unfold Admin.recA
  rw [← Array.toList_inj]
  refine List.ext_getElem? fun i => ?_
  by_cases hi : i < m
  · obtain ⟨x, hx⟩ := each i hi
    rw [hx]
    simp only [List.getElem?_map, hx]
    simp [hx]
  · rw [List.getElem?_eq_none (by omega), List.getElem?_eq_none (by simp at hl ⊢; omega)]
end
end Go.Proofs.Ytjcofbjfolaoiaa.LiftR
