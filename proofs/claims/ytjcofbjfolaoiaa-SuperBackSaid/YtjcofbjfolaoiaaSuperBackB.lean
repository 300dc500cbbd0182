/- SuperBack, both slots may be (1). SuperBack, for every geometry and two versions. -/
import Derived.Test.YtjcofbjfolaoiaaNewest
import Derived.Test.YtjcofbjfolaoiaaSuperLays
import Derived.Test.YtjcofbjfolaoiaaSuperBackA
namespace Go.Proofs.Ytjcofbjfolaoiaa.SlotP
set_option linter.unusedVariables false
set_option linter.unusedSimpArgs false
open Go Go.RowKit Go.Proofs.Ytjcofbjfolaoiaa.Mem Go.Proofs.Ytjcofbjfolaoiaa.Put Go.Proofs.Ytjcofbjfolaoiaa.Geo Go.Proofs.Ytjcofbjfolaoiaa.RefPutN Go.Proofs.Ytjcofbjfolaoiaa.Val Go.Proofs.Ytjcofbjfolaoiaa.Reader Go.Proofs.Ytjcofbjfolaoiaa.LayA

set_option maxHeartbeats 40000000 in
set_option maxRecDepth 100000 in
theorem back_both1 (s t p d v0 v1 vm : Nat) (sl : Int) (h : rightB s t p d = true) (hv0 : v0 ≤ 1099511627776) (hv1 : v1 ≤ 1099511627776) (hsl : v0 < v1 ∧ vm = v1 ∧ sl = 1) (w : World) :
    Calls Try.prog 7 #[.agg #[.int .i64 (s : Int), .int .i64 (t : Int), .int .i64 (p : Int), .int .i64 (d : Int)], .agg #[.int .i64 (v0 : Int), .int .i64 (v1 : Int)]] w fun e w' => e = .returned (.bool true) ∧ Below w.heap.size w w' := by
  obtain ⟨r, x1, m, x2, x3, hL, hm, hr, hx1, hx2, hx3⟩ := lay_named s t p d h
  obtain ⟨M, hM⟩ : ∃ M, metaN t p d = M := ⟨_, rfl⟩
  have hR := (rightB_iff _ _ _ _).1 h
  have hs := hR.s0
  have hs1 := hR.s1
  have ht := hR.t1
  have hp := hR.p1
  have hd := hR.d1
  have hmm : m < 6480 := by rw [hm]; exact secN_lt (by omega) (by omega) (by omega) (by omega)
  have hM1 : M ≤ 414528 := by rw [← hM]; exact metaN_le (by omega) (by omega) (by omega)
  have hix := index_le (n := m + 1) (s := s) (by omega)
  have hrr : r = 1 + ceil (4 * (m + 1)) s + (m + 1) := by rw [hr, hm]; rfl
  obtain ⟨y, hy⟩ : ∃ y, y = m * s := ⟨_, rfl⟩
  have hyb : y ≤ 6480 * 256 := by rw [hy]; exact Nat.mul_le_mul (by omega) (by omega)
  have hyM : M + 4 ≤ y := by
    rw [hy, hm, ← hM]
    exact ceil_ge (by omega)
  obtain ⟨n4, hn4⟩ : ∃ n4, n4 = M + 4 := ⟨_, rfl⟩
  have H := As.mk h
  have HLY := As.mk hL
  have HMM := As.mk hM
  have W0 := As.mk hv0
  have W1 := As.mk hv1
  obtain ⟨q0, q1, q2⟩ := take_slot s t p d v0 h hv0
  obtain ⟨r0, r1, r2⟩ := take_slot s t p d v1 h hv1
  have S2 := As.mk (show 2 + r = x1 from hx1.symm)
  clear hL hM hm hr hR
  have Z1 := As.mk (Geo.wr ((0 : Int) + 2) (by omega))
  have Z2 := As.mk (wn (x := 2 + (r : Int)) x1 (by omega) (by omega))
  have Z3 := As.mk (wn (x := (x1 : Int) + (m : Int)) x2 (by omega) (by omega))
  have Z4 := As.mk (wn (x := (x2 : Int) + (d : Int)) x3 (by omega) (by omega))
  have Z5 := As.mk (wn (x := (m : Int) * (s : Int)) y (by rw [hy, Int.natCast_mul]) (by omega))
  have Z6 := As.mk (wn (x := (M : Int) + 4) n4 (by omega) (by omega))
  have Y2 := As.mk (iwn (x := 2 + (r : Int)) x1 (by omega) (by omega))
  have Y3 := As.mk (iwn (x := (x1 : Int) + (m : Int)) x2 (by omega) (by omega))
  have Y4 := As.mk (iwn (x := (x2 : Int) + (d : Int)) x3 (by omega) (by omega))
  have Y5 := As.mk (iwn (x := (m : Int) * (s : Int)) y (by rw [hy, Int.natCast_mul]) (by omega))
  have Y6 := As.mk (iwn (x := (M : Int) + 4) n4 (by omega) (by omega))
  have Y1 := As.mk (iw ((0 : Int) + 2) (by omega))
  have D1 := As.mk (decide_eq_true (show (n4 : Int) ≤ (y : Int) by omega))
  have D2 := As.mk (decide_eq_true (show (m : Int) < (r : Int) by omega))
  have D3 := As.mk (decide_eq_true (show (x3 : Int) ≤ 1048576 by omega))
  have D4 := As.mk (decide_eq_true (show n4 ≤ y by omega))
  have D5 := As.mk (decide_eq_true (show m < r by omega))
  have D6 := As.mk (decide_eq_true (show x3 ≤ 1048576 by omega))
  have HSL := As.mk (show s ≤ 140737488351232 by omega)
  obtain ⟨a, ha⟩ : ∃ a, slotB s t p d v0 = a := ⟨_, rfl⟩
  obtain ⟨b, hb⟩ : ∃ b, slotB s t p d v1 = b := ⟨_, rfl⟩
  rw [ha] at q0 q1 q2
  rw [hb] at r0 r1 r2
  have HA := As.mk (show Byte a by rw [← ha]; exact slotB_byte _ _ _ _ _)
  have HBY := As.mk (show Byte b by rw [← hb]; exact slotB_byte _ _ _ _ _)
  have EA := As.mk ha
  have EB := As.mk hb
  have HTK : As (∀ W A c, Rd .u8 W A s c a → Calls Try.prog 42 #[.slice A s c] W fun e w' => e = .returned (.tuple #[.agg #[.int .i64 (s : Int), .int .i64 (t : Int), .int .i64 (p : Int), .int .i64 (d : Int)], .int .i64 (v0 : Int), .int .i64 0]) ∧ Below W.heap.size W w') := ⟨fun W A c h2 => by
    have h3 := take_any a HA.out A s c W h2 HSL.out
    rw [q0, q1, q2] at h3
    exact h3⟩
  have HNR : As (newR a b = .tuple #[.agg #[.int .i64 (s : Int), .int .i64 (t : Int), .int .i64 (p : Int), .int .i64 (d : Int)], .int .i64 (vm : Int), .int .i64 sl, .int .i64 0]) := ⟨by
    obtain ⟨e1, e2, e3⟩ := hsl
    rw [newR_second r0 (.inr (by show okI a (raw a 4 8) < okI b (raw b 4 8); rw [q2, r2]; omega)), r1, show verI b = (v1 : Int) from r2, e2, e3]⟩
  have HMX := As.mk (show max (v0 : Int) (v1 : Int) = (vm : Int) by obtain ⟨e1, e2, e3⟩ := hsl; omega)
  have HSLT := As.mk hsl
  clear q0 q1 q2 r0 r1 r2 ha hb hs hs1 ht hp hd hmm hM1 hix hrr hy hyb hyM hn4 hx1 hx2 hx3 h hv0 hv1 hsl
  have HB0 := As.mk (below_alloc (below_alloc (Below.refl w.heap.size w) (.cells #[.int .i64 (s : Int), .int .i64 (t : Int), .int .i64 (p : Int), .int .i64 (d : Int)] 53)) (.cells #[.int .i64 (v0 : Int), .int .i64 (v1 : Int)] 74))
  have HG0 := As.mk (g9b (below_alloc (Below.refl (w.alloc (.cells #[.int .i64 (s : Int), .int .i64 (t : Int), .int .i64 (p : Int), .int .i64 (d : Int)] 53)).heap.size _) (.cells #[.int .i64 (v0 : Int), .int .i64 (v1 : Int)] 74)) (heap_alloc_new w (.cells #[.int .i64 (s : Int), .int .i64 (t : Int), .int .i64 (p : Int), .int .i64 (d : Int)] 53)))
  have HV0 := As.mk (heap_alloc2_new w (.cells #[.int .i64 (s : Int), .int .i64 (t : Int), .int .i64 (p : Int), .int .i64 (d : Int)] 53) (.cells #[.int .i64 (v0 : Int), .int .i64 (v1 : Int)] 74))
  go_enter Try.func7, Try.ntmps7
  go_wp2_with (first
    | (refine wpList_boxArr rfl 74 _ rfl #[.int .i64 (v0 : Int), .int .i64 (v1 : Int)] rfl ?_)
    | (go_at_call 33; (with_reducible refine (awake_true _).mono ?_); rintro e w1 ⟨rfl, hb⟩; have HB1 := As.mk (below_step HB0.out hb); have HG1 := As.mk (g9b hb HG0.out); have HV1 := As.mk (g9b hb HV0.out); clear hb; refine As.out ?_))
  refine As.mk ?_
  clear HB0 HG0 HV0
  have c0 := cell_of_row _ _ 0 _ _ _ HG1.out
  have c1 := cell_of_row _ _ 1 _ _ _ HG1.out
  have c2 := cell_of_row _ _ 2 _ _ _ HG1.out
  have c3 := cell_of_row _ _ 3 _ _ _ HG1.out
  have u0 := cell_of_row _ _ 0 _ _ _ HV1.out
  have u1 := cell_of_row _ _ 1 _ _ _ HV1.out
  go_wp2_with (first
    | (go_at_call 35; (with_reducible refine (slot_ok s t p d v0 H.out W0.out _).mono ?_); rintro e w2 ⟨A2, c2', rfl, ho, hb⟩; rw [EA.out] at ho; obtain ⟨A2', d2', e2, hrd⟩ := ho.rd; cases e2; have HX2 := As.mk hrd; clear ho hrd; have HB2 := As.mk (below_step HB1.out hb); have HG2 := As.mk (g9b hb HG1.out); have HV2 := As.mk (g9b hb HV1.out); clear hb; refine As.out ?_))
  refine As.mk ?_
  clear c0 c1 c2 c3 u0 u1 HG1 HV1 HB1
  have c0 := cell_of_row _ _ 0 _ _ _ HG2.out
  have c1 := cell_of_row _ _ 1 _ _ _ HG2.out
  have c2 := cell_of_row _ _ 2 _ _ _ HG2.out
  have c3 := cell_of_row _ _ 3 _ _ _ HG2.out
  have u0 := cell_of_row _ _ 0 _ _ _ HV2.out
  have u1 := cell_of_row _ _ 1 _ _ _ HV2.out
  go_wp2_with (first
    | (go_at_call 35; (with_reducible refine (slot_ok s t p d v1 H.out W1.out _).mono ?_); rintro e w3 ⟨A3, c3', rfl, ho, hb⟩; rw [EB.out] at ho; obtain ⟨A3', d3', e3, hrd⟩ := ho.rd; cases e3; have HY3 := As.mk hrd; have HX3 := As.mk (HX2.out.below hb); clear ho hrd; have HB3 := As.mk (below_step HB2.out hb); have HG3 := As.mk (g9b hb HG2.out); have HV3 := As.mk (g9b hb HV2.out); clear hb; refine As.out ?_))
  refine As.mk ?_
  clear c0 c1 c2 c3 u0 u1 HG2 HV2 HB2
  go_wp2_with (first
    | (go_at_call 42; (with_reducible refine (HTK.out _ A2 c2' HX3.out).mono ?_); rintro e w4 ⟨rfl, hb⟩; have HB4 := As.mk (below_step HB3.out hb); have HG4 := As.mk (g9b hb HG3.out); have HV4 := As.mk (g9b hb HV3.out); have HX4 := As.mk (HX3.out.below hb); have HY4 := As.mk (HY3.out.below hb); clear hb)
    | (refine wpList_storeNew rfl rfl 53 _ _ rfl rfl #[.int .i64 (s : Int), .int .i64 (t : Int), .int .i64 (p : Int), .int .i64 (d : Int)] rfl 53 #[.int .i64 0, .int .i64 0, .int .i64 0, .int .i64 0] info_geom rfl (one4 _ _ _ _) ?_; refine As.out ?_))
  refine As.mk ?_
  have hal := below_alloc (Below.refl w4.heap.size w4) (.cells #[.int .i64 (s : Int), .int .i64 (t : Int), .int .i64 (p : Int), .int .i64 (d : Int)] 53)
  have HB5 := As.mk (below_step HB4.out hal)
  have HG5 := As.mk (g9b hal HG4.out)
  have HV5 := As.mk (g9b hal HV4.out)
  have HX5 := As.mk (HX4.out.below hal)
  have HY5 := As.mk (HY4.out.below hal)
  have HP5 := As.mk (heap_alloc_new w4 (.cells #[.int .i64 (s : Int), .int .i64 (t : Int), .int .i64 (p : Int), .int .i64 (d : Int)] 53))
  clear hal HB3 HG3 HV3 HX3 HY3 HB4 HG4 HV4 HX4 HY4
  generalize w4.alloc (.cells #[.int .i64 (s : Int), .int .i64 (t : Int), .int .i64 (p : Int), .int .i64 (d : Int)] 53) = w5 at *
  generalize w4.heap.size = g5 at *
  go_wp2_with (first
    | (go_at_call 44; (with_reducible refine (newestK a b HA.out HBY.out A2 A3 s s c2' c3' w5 _ HNR.out HX5.out HY5.out HSL.out HSL.out).mono ?_); rintro e w6 ⟨rfl, hb⟩; have HB6 := As.mk (below_step HB5.out hb); have HG6 := As.mk (g9b hb HG5.out); have HV6 := As.mk (g9b hb HV5.out); have HP6 := As.mk (g9b hb HP5.out); clear hb)
    | (refine wpList_storeNew rfl rfl 53 _ _ rfl rfl #[.int .i64 (s : Int), .int .i64 (t : Int), .int .i64 (p : Int), .int .i64 (d : Int)] rfl 53 #[.int .i64 0, .int .i64 0, .int .i64 0, .int .i64 0] info_geom rfl (one4 _ _ _ _) ?_; refine As.out ?_))
  refine As.mk ?_
  have hal := below_alloc (Below.refl w6.heap.size w6) (.cells #[.int .i64 (s : Int), .int .i64 (t : Int), .int .i64 (p : Int), .int .i64 (d : Int)] 53)
  have HB7 := As.mk (below_step HB6.out hal)
  have HG7 := As.mk (g9b hal HG6.out)
  have HV7 := As.mk (g9b hal HV6.out)
  have HP7 := As.mk (g9b hal HP6.out)
  have HQ7 := As.mk (heap_alloc_new w6 (.cells #[.int .i64 (s : Int), .int .i64 (t : Int), .int .i64 (p : Int), .int .i64 (d : Int)] 53))
  clear hal HB5 HG5 HV5 HX5 HY5 HP5 HB6 HG6 HV6 HP6
  generalize w6.alloc (.cells #[.int .i64 (s : Int), .int .i64 (t : Int), .int .i64 (p : Int), .int .i64 (d : Int)] 53) = w7 at *
  generalize w6.heap.size = g7 at *
  have c0 := cell_of_row _ _ 0 _ _ _ HG7.out
  have c1 := cell_of_row _ _ 1 _ _ _ HG7.out
  have c2 := cell_of_row _ _ 2 _ _ _ HG7.out
  have c3 := cell_of_row _ _ 3 _ _ _ HG7.out
  have u0 := cell_of_row _ _ 0 _ _ _ HV7.out
  have u1 := cell_of_row _ _ 1 _ _ _ HV7.out
  have p0 := cell_of_row _ _ 0 _ _ _ HP7.out
  have p1 := cell_of_row _ _ 1 _ _ _ HP7.out
  have p2 := cell_of_row _ _ 2 _ _ _ HP7.out
  have p3 := cell_of_row _ _ 3 _ _ _ HP7.out
  have q0 := cell_of_row _ _ 0 _ _ _ HQ7.out
  have q1 := cell_of_row _ _ 1 _ _ _ HQ7.out
  have q2 := cell_of_row _ _ 2 _ _ _ HQ7.out
  have q3 := cell_of_row _ _ 3 _ _ _ HQ7.out
  have hq := fun W => geom_self W (s : Int) t p d
  have hmx := HMX.out
  have hone : (#[.int .i64 0, .int .i64 2, .int .i64 2, .int .i64 (r : Int), .int .i64 (x1 : Int), .int .i64 (m : Int), .int .i64 (x2 : Int), .int .i64 (d : Int), .int .i64 (x3 : Int)] : Array Value).all (·.oneCell') = true := by simp [Value.oneCell']
  have HONE := As.mk hone
  clear hone
  obtain ⟨e1, rfl, rfl⟩ := HSLT.out
  all_goals as_aux_lemma =>
    have e1' : (v0 : Int) < (vm : Int) := by omega
    clear HSLT
    go_wp2_with (first
      | (go_at_call 34; (with_reducible refine (lay_okL s t p d H.out _ HLY.out _).mono ?_); rintro e w8 ⟨rfl, hb⟩; have HB8 := As.mk (below_step HB7.out hb); have HG8 := As.mk (g9b hb HG7.out); clear hb)
      | (refine wpList_allocArr rfl 57 rfl lay0 (by kernel_rfl) ?_)
      | (refine wpList_storeNew rfl rfl 57 _ _ rfl rfl #[.int .i64 0, .int .i64 2, .int .i64 2, .int .i64 (r : Int), .int .i64 (x1 : Int), .int .i64 (m : Int), .int .i64 (x2 : Int), .int .i64 (d : Int), .int .i64 (x3 : Int)] rfl 57 lay0 info_layout rfl HONE.out ?_; refine As.out ?_))
    refine As.mk ?_
    have hal := below_alloc (Below.refl w8.heap.size w8) (.cells #[.int .i64 0, .int .i64 2, .int .i64 2, .int .i64 (r : Int), .int .i64 (x1 : Int), .int .i64 (m : Int), .int .i64 (x2 : Int), .int .i64 (d : Int), .int .i64 (x3 : Int)] 57)
    have HB9 := As.mk (below_step HB8.out hal)
    have HG9 := As.mk (g9b hal HG8.out)
    have HL9 := As.mk (heap_alloc_new w8 (.cells #[.int .i64 0, .int .i64 2, .int .i64 2, .int .i64 (r : Int), .int .i64 (x1 : Int), .int .i64 (m : Int), .int .i64 (x2 : Int), .int .i64 (d : Int), .int .i64 (x3 : Int)] 57))
    clear hal HB7 HG7 HV7 HP7 HQ7 HB8 HG8 c0 c1 c2 c3 u0 u1 p0 p1 p2 p3 q0 q1 q2 q3 hq hmx
    generalize w8.alloc (.cells #[.int .i64 0, .int .i64 2, .int .i64 2, .int .i64 (r : Int), .int .i64 (x1 : Int), .int .i64 (m : Int), .int .i64 (x2 : Int), .int .i64 (d : Int), .int .i64 (x3 : Int)] 57) = w9 at *
    generalize w8.heap.size = g9 at *
    have HGL9 := As.mk (And.intro (And.intro (cell_of_row _ _ 0 _ _ _ HG9.out : w9.cell? ⟨w.heap.size, 0, none⟩ = some (.int .i64 (s : Int))) (And.intro (cell_of_row _ _ 1 _ _ _ HG9.out : w9.cell? ⟨w.heap.size, 1, none⟩ = some (.int .i64 (t : Int))) (And.intro (cell_of_row _ _ 2 _ _ _ HG9.out : w9.cell? ⟨w.heap.size, 2, none⟩ = some (.int .i64 (p : Int))) (cell_of_row _ _ 3 _ _ _ HG9.out : w9.cell? ⟨w.heap.size, 3, none⟩ = some (.int .i64 (d : Int)))))) (l9 HL9.out))
    have z1 : wrap64 ((0 : Int) + 2) = 2 := Z1.out
    have z1' : wrap64 2 = 2 := Z1.out
    have z2 := Z2.out
    have y1 : IntKind.i64.wrap ((0 : Int) + 2) = 2 := Y1.out
    have y1' : IntKind.i64.wrap 2 = 2 := Y1.out
    have y2 := Y2.out
    have y3 := Y3.out
    have y4 := Y4.out
    have y5 := Y5.out
    have y6 := Y6.out
    have z3 := Z3.out
    have z4 := Z4.out
    have z5 := Z5.out
    have z6 := Z6.out
    have f1 := D1.out
    have f2 := D2.out
    have f3 := D3.out
    have f4 := D4.out
    have f5 := D5.out
    have f6 := D6.out
    clear HONE HX2 HSL HTK HNR HA HBY EA EB S2 W0 W1
    go_wp2
    as_aux_lemma =>
      simp only [List.append]
      refine wp_region_held_drew (S := (fun W : World => (W.cell? ⟨w.heap.size, 0, none⟩ = some (.int .i64 (s : Int)) ∧ W.cell? ⟨w.heap.size, 1, none⟩ = some (.int .i64 (t : Int)) ∧ W.cell? ⟨w.heap.size, 2, none⟩ = some (.int .i64 (p : Int)) ∧ W.cell? ⟨w.heap.size, 3, none⟩ = some (.int .i64 (d : Int))) ∧ W.cell? ⟨g9, 0, none⟩ = some (.int .i64 0) ∧ W.cell? ⟨g9, 1, none⟩ = some (.int .i64 2) ∧ W.cell? ⟨g9, 2, none⟩ = some (.int .i64 2) ∧ W.cell? ⟨g9, 3, none⟩ = some (.int .i64 (r : Int)) ∧ W.cell? ⟨g9, 4, none⟩ = some (.int .i64 (x1 : Int)) ∧ W.cell? ⟨g9, 5, none⟩ = some (.int .i64 (m : Int)) ∧ W.cell? ⟨g9, 6, none⟩ = some (.int .i64 (x2 : Int)) ∧ W.cell? ⟨g9, 7, none⟩ = some (.int .i64 (d : Int)) ∧ W.cell? ⟨g9, 8, none⟩ = some (.int .i64 (x3 : Int)))) (by kernel_rfl) HGL9.out (fun hHeld => ?_)
      refine wpAnyH_take (i := 0) (v := .bool true) rfl (by kernel_rfl) (by kernel_rfl) (by kernel_rfl) (fun _ _ _ h => h) (Or.inl ⟨by rfl, fun W hW => by go_simp⟩) hHeld ?_
      try simp only [Act.put, List.setIfInBounds_toArray, List.set_cons_zero, List.set_cons_succ, List.getElem_toArray, List.getElem_cons_zero, List.getElem_cons_succ]
      refine wpAnyH_take (i := 1) (v := .bool true) rfl (by kernel_rfl) (by kernel_rfl) (by kernel_rfl) (fun _ _ _ h => h) (Or.inl ⟨by rfl, fun W hW => by go_simp⟩) hHeld ?_
      try simp only [Act.put, List.setIfInBounds_toArray, List.set_cons_zero, List.set_cons_succ, List.getElem_toArray, List.getElem_cons_zero, List.getElem_cons_succ]
      refine wpAnyH_take (i := 2) (v := .pointer (some ⟨g9, 0, none⟩)) rfl (by kernel_rfl) (by kernel_rfl) (by kernel_rfl) (fun _ _ _ h => h) (Or.inl ⟨by rfl, fun W hW => by go_simp⟩) hHeld ?_
      try simp only [Act.put, List.setIfInBounds_toArray, List.set_cons_zero, List.set_cons_succ, List.getElem_toArray, List.getElem_cons_zero, List.getElem_cons_succ]
      refine wpAnyH_take (i := 3) (v := .pointer (some ⟨g9, 0, none⟩)) rfl (by kernel_rfl) (by kernel_rfl) (by kernel_rfl) (fun _ _ _ h => h) (Or.inl ⟨by rfl, fun W hW => by go_simp⟩) hHeld ?_
      try simp only [Act.put, List.setIfInBounds_toArray, List.set_cons_zero, List.set_cons_succ, List.getElem_toArray, List.getElem_cons_zero, List.getElem_cons_succ]
      refine wpAnyH_take (i := 4) (v := .int .i64 (0 : Int)) rfl (by kernel_rfl) (by kernel_rfl) (by kernel_rfl) (fun _ _ _ h => h) (Or.inl ⟨by rfl, fun W hW => by (obtain ⟨⟨c0, c1, c2, c3⟩, l0, l1, l2, l3, l4, l5, l6, l7, l8⟩ := hW; go_simp)⟩) hHeld ?_
      try simp only [Act.put, List.setIfInBounds_toArray, List.set_cons_zero, List.set_cons_succ, List.getElem_toArray, List.getElem_cons_zero, List.getElem_cons_succ]
      refine wpAnyH_take (i := 5) (v := .bool true) rfl (by kernel_rfl) (by kernel_rfl) (by kernel_rfl) (fun _ _ _ h => h) (Or.inl ⟨by rfl, fun W hW => by go_simp⟩) hHeld ?_
      try simp only [Act.put, List.setIfInBounds_toArray, List.set_cons_zero, List.set_cons_succ, List.getElem_toArray, List.getElem_cons_zero, List.getElem_cons_succ]
      refine wpAnyH_take (i := 6) (v := .bool true) rfl (by kernel_rfl) (by kernel_rfl) (by kernel_rfl) (fun _ _ _ h => h) (Or.inl ⟨by rfl, fun W hW => by go_simp⟩) hHeld ?_
      try simp only [Act.put, List.setIfInBounds_toArray, List.set_cons_zero, List.set_cons_succ, List.getElem_toArray, List.getElem_cons_zero, List.getElem_cons_succ]
      refine wpAnyH_take (i := 7) (v := .bool true) rfl (by kernel_rfl) (by kernel_rfl) (by kernel_rfl) (fun _ _ _ h => h) (Or.inl ⟨by rfl, fun W hW => by go_simp⟩) hHeld ?_
      try simp only [Act.put, List.setIfInBounds_toArray, List.set_cons_zero, List.set_cons_succ, List.getElem_toArray, List.getElem_cons_zero, List.getElem_cons_succ]
      refine wpAnyH_take (i := 8) (v := .pointer (some ⟨g9, 0, none⟩)) rfl (by kernel_rfl) (by kernel_rfl) (by kernel_rfl) (fun _ _ _ h => h) (Or.inl ⟨by rfl, fun W hW => by go_simp⟩) hHeld ?_
      try simp only [Act.put, List.setIfInBounds_toArray, List.set_cons_zero, List.set_cons_succ, List.getElem_toArray, List.getElem_cons_zero, List.getElem_cons_succ]
      refine wpAnyH_take (i := 9) (v := .pointer (some ⟨g9, 0, none⟩)) rfl (by kernel_rfl) (by kernel_rfl) (by kernel_rfl) (fun _ _ _ h => h) (Or.inl ⟨by rfl, fun W hW => by go_simp⟩) hHeld ?_
      try simp only [Act.put, List.setIfInBounds_toArray, List.set_cons_zero, List.set_cons_succ, List.getElem_toArray, List.getElem_cons_zero, List.getElem_cons_succ]
      refine wpAnyH_take (i := 10) (v := .int .i64 (0 : Int)) rfl (by kernel_rfl) (by kernel_rfl) (by kernel_rfl) (fun _ _ _ h => h) (Or.inl ⟨by rfl, fun W hW => by (obtain ⟨⟨c0, c1, c2, c3⟩, l0, l1, l2, l3, l4, l5, l6, l7, l8⟩ := hW; go_simp)⟩) hHeld ?_
      try simp only [Act.put, List.setIfInBounds_toArray, List.set_cons_zero, List.set_cons_succ, List.getElem_toArray, List.getElem_cons_zero, List.getElem_cons_succ]
      refine wpAnyH_take (i := 11) (v := .pointer (some ⟨g9, 0, none⟩)) rfl (by kernel_rfl) (by kernel_rfl) (by kernel_rfl) (fun _ _ _ h => h) (Or.inl ⟨by rfl, fun W hW => by go_simp⟩) hHeld ?_
      try simp only [Act.put, List.setIfInBounds_toArray, List.set_cons_zero, List.set_cons_succ, List.getElem_toArray, List.getElem_cons_zero, List.getElem_cons_succ]
      refine wpAnyH_take (i := 12) (v := .pointer (some ⟨g9, 1, none⟩)) rfl (by kernel_rfl) (by kernel_rfl) (by kernel_rfl) (fun _ _ _ h => h) (Or.inl ⟨by rfl, fun W hW => by go_simp⟩) hHeld ?_
      try simp only [Act.put, List.setIfInBounds_toArray, List.set_cons_zero, List.set_cons_succ, List.getElem_toArray, List.getElem_cons_zero, List.getElem_cons_succ]
      refine wpAnyH_take (i := 13) (v := .int .i64 (2 : Int)) rfl (by kernel_rfl) (by kernel_rfl) (by kernel_rfl) (fun _ _ _ h => h) (Or.inl ⟨by rfl, fun W hW => by (obtain ⟨⟨c0, c1, c2, c3⟩, l0, l1, l2, l3, l4, l5, l6, l7, l8⟩ := hW; go_simp)⟩) hHeld ?_
      try simp only [Act.put, List.setIfInBounds_toArray, List.set_cons_zero, List.set_cons_succ, List.getElem_toArray, List.getElem_cons_zero, List.getElem_cons_succ]
      refine wpAnyH_take (i := 14) (v := .int .i64 (2 : Int)) rfl (by kernel_rfl) (by kernel_rfl) (by kernel_rfl) (fun _ _ _ h => h) (Or.inl ⟨by rfl, fun W hW => by go_simp⟩) hHeld ?_
      try simp only [Act.put, List.setIfInBounds_toArray, List.set_cons_zero, List.set_cons_succ, List.getElem_toArray, List.getElem_cons_zero, List.getElem_cons_succ]
      refine wpAnyH_take (i := 15) (v := .pointer (some ⟨g9, 2, none⟩)) rfl (by kernel_rfl) (by kernel_rfl) (by kernel_rfl) (fun _ _ _ h => h) (Or.inl ⟨by rfl, fun W hW => by go_simp⟩) hHeld ?_
      try simp only [Act.put, List.setIfInBounds_toArray, List.set_cons_zero, List.set_cons_succ, List.getElem_toArray, List.getElem_cons_zero, List.getElem_cons_succ]
      as_aux_lemma =>
        refine wpAnyH_take (i := 16) (v := .pointer (some ⟨g9, 2, none⟩)) rfl (by kernel_rfl) (by kernel_rfl) (by kernel_rfl) (fun _ _ _ h => h) (Or.inl ⟨by rfl, fun W hW => by go_simp⟩) hHeld ?_
        try simp only [Act.put, List.setIfInBounds_toArray, List.set_cons_zero, List.set_cons_succ, List.getElem_toArray, List.getElem_cons_zero, List.getElem_cons_succ]
        refine wpAnyH_take (i := 17) (v := .int .i64 (2 : Int)) rfl (by kernel_rfl) (by kernel_rfl) (by kernel_rfl) (fun _ _ _ h => h) (Or.inl ⟨by rfl, fun W hW => by (obtain ⟨⟨c0, c1, c2, c3⟩, l0, l1, l2, l3, l4, l5, l6, l7, l8⟩ := hW; go_simp)⟩) hHeld ?_
        try simp only [Act.put, List.setIfInBounds_toArray, List.set_cons_zero, List.set_cons_succ, List.getElem_toArray, List.getElem_cons_zero, List.getElem_cons_succ]
        refine wpAnyH_take (i := 18) (v := .bool true) rfl (by kernel_rfl) (by kernel_rfl) (by kernel_rfl) (fun _ _ _ h => h) (Or.inl ⟨by rfl, fun W hW => by go_simp⟩) hHeld ?_
        try simp only [Act.put, List.setIfInBounds_toArray, List.set_cons_zero, List.set_cons_succ, List.getElem_toArray, List.getElem_cons_zero, List.getElem_cons_succ]
        refine wpAnyH_take (i := 19) (v := .bool true) rfl (by kernel_rfl) (by kernel_rfl) (by kernel_rfl) (fun _ _ _ h => h) (Or.inl ⟨by rfl, fun W hW => by go_simp⟩) hHeld ?_
        try simp only [Act.put, List.setIfInBounds_toArray, List.set_cons_zero, List.set_cons_succ, List.getElem_toArray, List.getElem_cons_zero, List.getElem_cons_succ]
        refine wpAnyH_take (i := 20) (v := .bool true) rfl (by kernel_rfl) (by kernel_rfl) (by kernel_rfl) (fun _ _ _ h => h) (Or.inl ⟨by rfl, fun W hW => by go_simp⟩) hHeld ?_
        try simp only [Act.put, List.setIfInBounds_toArray, List.set_cons_zero, List.set_cons_succ, List.getElem_toArray, List.getElem_cons_zero, List.getElem_cons_succ]
        refine wpAnyH_take (i := 21) (v := .pointer (some ⟨g9, 2, none⟩)) rfl (by kernel_rfl) (by kernel_rfl) (by kernel_rfl) (fun _ _ _ h => h) (Or.inl ⟨by rfl, fun W hW => by go_simp⟩) hHeld ?_
        try simp only [Act.put, List.setIfInBounds_toArray, List.set_cons_zero, List.set_cons_succ, List.getElem_toArray, List.getElem_cons_zero, List.getElem_cons_succ]
        refine wpAnyH_take (i := 22) (v := .pointer (some ⟨g9, 2, none⟩)) rfl (by kernel_rfl) (by kernel_rfl) (by kernel_rfl) (fun _ _ _ h => h) (Or.inl ⟨by rfl, fun W hW => by go_simp⟩) hHeld ?_
        try simp only [Act.put, List.setIfInBounds_toArray, List.set_cons_zero, List.set_cons_succ, List.getElem_toArray, List.getElem_cons_zero, List.getElem_cons_succ]
        refine wpAnyH_take (i := 23) (v := .int .i64 (2 : Int)) rfl (by kernel_rfl) (by kernel_rfl) (by kernel_rfl) (fun _ _ _ h => h) (Or.inl ⟨by rfl, fun W hW => by (obtain ⟨⟨c0, c1, c2, c3⟩, l0, l1, l2, l3, l4, l5, l6, l7, l8⟩ := hW; go_simp)⟩) hHeld ?_
        try simp only [Act.put, List.setIfInBounds_toArray, List.set_cons_zero, List.set_cons_succ, List.getElem_toArray, List.getElem_cons_zero, List.getElem_cons_succ]
        refine wpAnyH_take (i := 24) (v := .pointer (some ⟨g9, 2, none⟩)) rfl (by kernel_rfl) (by kernel_rfl) (by kernel_rfl) (fun _ _ _ h => h) (Or.inl ⟨by rfl, fun W hW => by go_simp⟩) hHeld ?_
        try simp only [Act.put, List.setIfInBounds_toArray, List.set_cons_zero, List.set_cons_succ, List.getElem_toArray, List.getElem_cons_zero, List.getElem_cons_succ]
        refine wpAnyH_take (i := 25) (v := .pointer (some ⟨g9, 3, none⟩)) rfl (by kernel_rfl) (by kernel_rfl) (by kernel_rfl) (fun _ _ _ h => h) (Or.inl ⟨by rfl, fun W hW => by go_simp⟩) hHeld ?_
        try simp only [Act.put, List.setIfInBounds_toArray, List.set_cons_zero, List.set_cons_succ, List.getElem_toArray, List.getElem_cons_zero, List.getElem_cons_succ]
        refine wpAnyH_take (i := 26) (v := .int .i64 (r : Int)) rfl (by kernel_rfl) (by kernel_rfl) (by kernel_rfl) (fun _ _ _ h => h) (Or.inl ⟨by rfl, fun W hW => by (obtain ⟨⟨c0, c1, c2, c3⟩, l0, l1, l2, l3, l4, l5, l6, l7, l8⟩ := hW; go_simp)⟩) hHeld ?_
        try simp only [Act.put, List.setIfInBounds_toArray, List.set_cons_zero, List.set_cons_succ, List.getElem_toArray, List.getElem_cons_zero, List.getElem_cons_succ]
        refine wpAnyH_take (i := 27) (v := .int .i64 (x1 : Int)) rfl (by kernel_rfl) (by kernel_rfl) (by kernel_rfl) (fun _ _ _ h => h) (Or.inl ⟨by rfl, fun W hW => by go_simp⟩) hHeld ?_
        try simp only [Act.put, List.setIfInBounds_toArray, List.set_cons_zero, List.set_cons_succ, List.getElem_toArray, List.getElem_cons_zero, List.getElem_cons_succ]
        refine wpAnyH_take (i := 28) (v := .pointer (some ⟨g9, 4, none⟩)) rfl (by kernel_rfl) (by kernel_rfl) (by kernel_rfl) (fun _ _ _ h => h) (Or.inl ⟨by rfl, fun W hW => by go_simp⟩) hHeld ?_
        try simp only [Act.put, List.setIfInBounds_toArray, List.set_cons_zero, List.set_cons_succ, List.getElem_toArray, List.getElem_cons_zero, List.getElem_cons_succ]
        refine wpAnyH_take (i := 29) (v := .pointer (some ⟨g9, 4, none⟩)) rfl (by kernel_rfl) (by kernel_rfl) (by kernel_rfl) (fun _ _ _ h => h) (Or.inl ⟨by rfl, fun W hW => by go_simp⟩) hHeld ?_
        try simp only [Act.put, List.setIfInBounds_toArray, List.set_cons_zero, List.set_cons_succ, List.getElem_toArray, List.getElem_cons_zero, List.getElem_cons_succ]
        refine wpAnyH_take (i := 30) (v := .int .i64 (x1 : Int)) rfl (by kernel_rfl) (by kernel_rfl) (by kernel_rfl) (fun _ _ _ h => h) (Or.inl ⟨by rfl, fun W hW => by (obtain ⟨⟨c0, c1, c2, c3⟩, l0, l1, l2, l3, l4, l5, l6, l7, l8⟩ := hW; go_simp)⟩) hHeld ?_
        try simp only [Act.put, List.setIfInBounds_toArray, List.set_cons_zero, List.set_cons_succ, List.getElem_toArray, List.getElem_cons_zero, List.getElem_cons_succ]
        refine wpAnyH_take (i := 31) (v := .bool true) rfl (by kernel_rfl) (by kernel_rfl) (by kernel_rfl) (fun _ _ _ h => h) (Or.inl ⟨by rfl, fun W hW => by go_simp⟩) hHeld ?_
        try simp only [Act.put, List.setIfInBounds_toArray, List.set_cons_zero, List.set_cons_succ, List.getElem_toArray, List.getElem_cons_zero, List.getElem_cons_succ]
        as_aux_lemma =>
          refine wpAnyH_take (i := 32) (v := .bool true) rfl (by kernel_rfl) (by kernel_rfl) (by kernel_rfl) (fun _ _ _ h => h) (Or.inl ⟨by rfl, fun W hW => by go_simp⟩) hHeld ?_
          try simp only [Act.put, List.setIfInBounds_toArray, List.set_cons_zero, List.set_cons_succ, List.getElem_toArray, List.getElem_cons_zero, List.getElem_cons_succ]
          refine wpAnyH_take (i := 33) (v := .bool true) rfl (by kernel_rfl) (by kernel_rfl) (by kernel_rfl) (fun _ _ _ h => h) (Or.inl ⟨by rfl, fun W hW => by go_simp⟩) hHeld ?_
          try simp only [Act.put, List.setIfInBounds_toArray, List.set_cons_zero, List.set_cons_succ, List.getElem_toArray, List.getElem_cons_zero, List.getElem_cons_succ]
          refine wpAnyH_take (i := 34) (v := .pointer (some ⟨g9, 4, none⟩)) rfl (by kernel_rfl) (by kernel_rfl) (by kernel_rfl) (fun _ _ _ h => h) (Or.inl ⟨by rfl, fun W hW => by go_simp⟩) hHeld ?_
          try simp only [Act.put, List.setIfInBounds_toArray, List.set_cons_zero, List.set_cons_succ, List.getElem_toArray, List.getElem_cons_zero, List.getElem_cons_succ]
          refine wpAnyH_take (i := 35) (v := .pointer (some ⟨g9, 4, none⟩)) rfl (by kernel_rfl) (by kernel_rfl) (by kernel_rfl) (fun _ _ _ h => h) (Or.inl ⟨by rfl, fun W hW => by go_simp⟩) hHeld ?_
          try simp only [Act.put, List.setIfInBounds_toArray, List.set_cons_zero, List.set_cons_succ, List.getElem_toArray, List.getElem_cons_zero, List.getElem_cons_succ]
          refine wpAnyH_take (i := 36) (v := .int .i64 (x1 : Int)) rfl (by kernel_rfl) (by kernel_rfl) (by kernel_rfl) (fun _ _ _ h => h) (Or.inl ⟨by rfl, fun W hW => by (obtain ⟨⟨c0, c1, c2, c3⟩, l0, l1, l2, l3, l4, l5, l6, l7, l8⟩ := hW; go_simp)⟩) hHeld ?_
          try simp only [Act.put, List.setIfInBounds_toArray, List.set_cons_zero, List.set_cons_succ, List.getElem_toArray, List.getElem_cons_zero, List.getElem_cons_succ]
          refine wpAnyH_take (i := 37) (v := .pointer (some ⟨g9, 4, none⟩)) rfl (by kernel_rfl) (by kernel_rfl) (by kernel_rfl) (fun _ _ _ h => h) (Or.inl ⟨by rfl, fun W hW => by go_simp⟩) hHeld ?_
          try simp only [Act.put, List.setIfInBounds_toArray, List.set_cons_zero, List.set_cons_succ, List.getElem_toArray, List.getElem_cons_zero, List.getElem_cons_succ]
          refine wpAnyH_take (i := 38) (v := .pointer (some ⟨g9, 5, none⟩)) rfl (by kernel_rfl) (by kernel_rfl) (by kernel_rfl) (fun _ _ _ h => h) (Or.inl ⟨by rfl, fun W hW => by go_simp⟩) hHeld ?_
          try simp only [Act.put, List.setIfInBounds_toArray, List.set_cons_zero, List.set_cons_succ, List.getElem_toArray, List.getElem_cons_zero, List.getElem_cons_succ]
          refine wpAnyH_take (i := 39) (v := .int .i64 (m : Int)) rfl (by kernel_rfl) (by kernel_rfl) (by kernel_rfl) (fun _ _ _ h => h) (Or.inl ⟨by rfl, fun W hW => by (obtain ⟨⟨c0, c1, c2, c3⟩, l0, l1, l2, l3, l4, l5, l6, l7, l8⟩ := hW; go_simp)⟩) hHeld ?_
          try simp only [Act.put, List.setIfInBounds_toArray, List.set_cons_zero, List.set_cons_succ, List.getElem_toArray, List.getElem_cons_zero, List.getElem_cons_succ]
          refine wpAnyH_take (i := 40) (v := .int .i64 (x2 : Int)) rfl (by kernel_rfl) (by kernel_rfl) (by kernel_rfl) (fun _ _ _ h => h) (Or.inl ⟨by rfl, fun W hW => by go_simp⟩) hHeld ?_
          try simp only [Act.put, List.setIfInBounds_toArray, List.set_cons_zero, List.set_cons_succ, List.getElem_toArray, List.getElem_cons_zero, List.getElem_cons_succ]
          refine wpAnyH_take (i := 41) (v := .pointer (some ⟨g9, 6, none⟩)) rfl (by kernel_rfl) (by kernel_rfl) (by kernel_rfl) (fun _ _ _ h => h) (Or.inl ⟨by rfl, fun W hW => by go_simp⟩) hHeld ?_
          try simp only [Act.put, List.setIfInBounds_toArray, List.set_cons_zero, List.set_cons_succ, List.getElem_toArray, List.getElem_cons_zero, List.getElem_cons_succ]
          refine wpAnyH_take (i := 42) (v := .pointer (some ⟨g9, 6, none⟩)) rfl (by kernel_rfl) (by kernel_rfl) (by kernel_rfl) (fun _ _ _ h => h) (Or.inl ⟨by rfl, fun W hW => by go_simp⟩) hHeld ?_
          try simp only [Act.put, List.setIfInBounds_toArray, List.set_cons_zero, List.set_cons_succ, List.getElem_toArray, List.getElem_cons_zero, List.getElem_cons_succ]
          refine wpAnyH_take (i := 43) (v := .int .i64 (x2 : Int)) rfl (by kernel_rfl) (by kernel_rfl) (by kernel_rfl) (fun _ _ _ h => h) (Or.inl ⟨by rfl, fun W hW => by (obtain ⟨⟨c0, c1, c2, c3⟩, l0, l1, l2, l3, l4, l5, l6, l7, l8⟩ := hW; go_simp)⟩) hHeld ?_
          try simp only [Act.put, List.setIfInBounds_toArray, List.set_cons_zero, List.set_cons_succ, List.getElem_toArray, List.getElem_cons_zero, List.getElem_cons_succ]
          refine wpAnyH_take (i := 44) (v := .bool true) rfl (by kernel_rfl) (by kernel_rfl) (by kernel_rfl) (fun _ _ _ h => h) (Or.inl ⟨by rfl, fun W hW => by go_simp⟩) hHeld ?_
          try simp only [Act.put, List.setIfInBounds_toArray, List.set_cons_zero, List.set_cons_succ, List.getElem_toArray, List.getElem_cons_zero, List.getElem_cons_succ]
          refine wpAnyH_take (i := 45) (v := .bool true) rfl (by kernel_rfl) (by kernel_rfl) (by kernel_rfl) (fun _ _ _ h => h) (Or.inl ⟨by rfl, fun W hW => by go_simp⟩) hHeld ?_
          try simp only [Act.put, List.setIfInBounds_toArray, List.set_cons_zero, List.set_cons_succ, List.getElem_toArray, List.getElem_cons_zero, List.getElem_cons_succ]
          refine wpAnyH_take (i := 46) (v := .bool true) rfl (by kernel_rfl) (by kernel_rfl) (by kernel_rfl) (fun _ _ _ h => h) (Or.inl ⟨by rfl, fun W hW => by go_simp⟩) hHeld ?_
          try simp only [Act.put, List.setIfInBounds_toArray, List.set_cons_zero, List.set_cons_succ, List.getElem_toArray, List.getElem_cons_zero, List.getElem_cons_succ]
          refine wpAnyH_take (i := 47) (v := .pointer (some ⟨g9, 6, none⟩)) rfl (by kernel_rfl) (by kernel_rfl) (by kernel_rfl) (fun _ _ _ h => h) (Or.inl ⟨by rfl, fun W hW => by go_simp⟩) hHeld ?_
          try simp only [Act.put, List.setIfInBounds_toArray, List.set_cons_zero, List.set_cons_succ, List.getElem_toArray, List.getElem_cons_zero, List.getElem_cons_succ]
          as_aux_lemma =>
            refine wpAnyH_take (i := 48) (v := .pointer (some ⟨g9, 6, none⟩)) rfl (by kernel_rfl) (by kernel_rfl) (by kernel_rfl) (fun _ _ _ h => h) (Or.inl ⟨by rfl, fun W hW => by go_simp⟩) hHeld ?_
            try simp only [Act.put, List.setIfInBounds_toArray, List.set_cons_zero, List.set_cons_succ, List.getElem_toArray, List.getElem_cons_zero, List.getElem_cons_succ]
            refine wpAnyH_take (i := 49) (v := .int .i64 (x2 : Int)) rfl (by kernel_rfl) (by kernel_rfl) (by kernel_rfl) (fun _ _ _ h => h) (Or.inl ⟨by rfl, fun W hW => by (obtain ⟨⟨c0, c1, c2, c3⟩, l0, l1, l2, l3, l4, l5, l6, l7, l8⟩ := hW; go_simp)⟩) hHeld ?_
            try simp only [Act.put, List.setIfInBounds_toArray, List.set_cons_zero, List.set_cons_succ, List.getElem_toArray, List.getElem_cons_zero, List.getElem_cons_succ]
            refine wpAnyH_take (i := 50) (v := .pointer (some ⟨g9, 6, none⟩)) rfl (by kernel_rfl) (by kernel_rfl) (by kernel_rfl) (fun _ _ _ h => h) (Or.inl ⟨by rfl, fun W hW => by go_simp⟩) hHeld ?_
            try simp only [Act.put, List.setIfInBounds_toArray, List.set_cons_zero, List.set_cons_succ, List.getElem_toArray, List.getElem_cons_zero, List.getElem_cons_succ]
            refine wpAnyH_take (i := 51) (v := .pointer (some ⟨g9, 7, none⟩)) rfl (by kernel_rfl) (by kernel_rfl) (by kernel_rfl) (fun _ _ _ h => h) (Or.inl ⟨by rfl, fun W hW => by go_simp⟩) hHeld ?_
            try simp only [Act.put, List.setIfInBounds_toArray, List.set_cons_zero, List.set_cons_succ, List.getElem_toArray, List.getElem_cons_zero, List.getElem_cons_succ]
            refine wpAnyH_take (i := 52) (v := .int .i64 (d : Int)) rfl (by kernel_rfl) (by kernel_rfl) (by kernel_rfl) (fun _ _ _ h => h) (Or.inl ⟨by rfl, fun W hW => by (obtain ⟨⟨c0, c1, c2, c3⟩, l0, l1, l2, l3, l4, l5, l6, l7, l8⟩ := hW; go_simp)⟩) hHeld ?_
            try simp only [Act.put, List.setIfInBounds_toArray, List.set_cons_zero, List.set_cons_succ, List.getElem_toArray, List.getElem_cons_zero, List.getElem_cons_succ]
            refine wpAnyH_take (i := 53) (v := .int .i64 (x3 : Int)) rfl (by kernel_rfl) (by kernel_rfl) (by kernel_rfl) (fun _ _ _ h => h) (Or.inl ⟨by rfl, fun W hW => by go_simp⟩) hHeld ?_
            try simp only [Act.put, List.setIfInBounds_toArray, List.set_cons_zero, List.set_cons_succ, List.getElem_toArray, List.getElem_cons_zero, List.getElem_cons_succ]
            refine wpAnyH_take (i := 54) (v := .pointer (some ⟨g9, 8, none⟩)) rfl (by kernel_rfl) (by kernel_rfl) (by kernel_rfl) (fun _ _ _ h => h) (Or.inl ⟨by rfl, fun W hW => by go_simp⟩) hHeld ?_
            try simp only [Act.put, List.setIfInBounds_toArray, List.set_cons_zero, List.set_cons_succ, List.getElem_toArray, List.getElem_cons_zero, List.getElem_cons_succ]
            refine wpAnyH_take (i := 55) (v := .int .i64 (x3 : Int)) rfl (by kernel_rfl) (by kernel_rfl) (by kernel_rfl) (fun _ _ _ h => h) (Or.inl ⟨by rfl, fun W hW => by (obtain ⟨⟨c0, c1, c2, c3⟩, l0, l1, l2, l3, l4, l5, l6, l7, l8⟩ := hW; go_simp)⟩) hHeld ?_
            try simp only [Act.put, List.setIfInBounds_toArray, List.set_cons_zero, List.set_cons_succ, List.getElem_toArray, List.getElem_cons_zero, List.getElem_cons_succ]
            refine wpAnyH_take (i := 56) (v := .bool true) rfl (by kernel_rfl) (by kernel_rfl) (by kernel_rfl) (fun _ _ _ h => h) (Or.inl ⟨by rfl, fun W hW => by go_simp⟩) hHeld ?_
            try simp only [Act.put, List.setIfInBounds_toArray, List.set_cons_zero, List.set_cons_succ, List.getElem_toArray, List.getElem_cons_zero, List.getElem_cons_succ]
            refine wpAnyH_take (i := 57) (v := .bool true) rfl (by kernel_rfl) (by kernel_rfl) (by kernel_rfl) (fun _ _ _ h => h) (Or.inl ⟨by rfl, fun W hW => by go_simp⟩) hHeld ?_
            try simp only [Act.put, List.setIfInBounds_toArray, List.set_cons_zero, List.set_cons_succ, List.getElem_toArray, List.getElem_cons_zero, List.getElem_cons_succ]
            refine wpAnyH_take (i := 58) (v := .bool true) rfl (by kernel_rfl) (by kernel_rfl) (by kernel_rfl) (fun _ _ _ h => h) (Or.inl ⟨by rfl, fun W hW => by go_simp⟩) hHeld ?_
            try simp only [Act.put, List.setIfInBounds_toArray, List.set_cons_zero, List.set_cons_succ, List.getElem_toArray, List.getElem_cons_zero, List.getElem_cons_succ]
            refine wpAnyH_take (i := 59) (v := .pointer (some ⟨g9, 6, none⟩)) rfl (by kernel_rfl) (by kernel_rfl) (by kernel_rfl) (fun _ _ _ h => h) (Or.inl ⟨by rfl, fun W hW => by go_simp⟩) hHeld ?_
            try simp only [Act.put, List.setIfInBounds_toArray, List.set_cons_zero, List.set_cons_succ, List.getElem_toArray, List.getElem_cons_zero, List.getElem_cons_succ]
            refine wpAnyH_take (i := 60) (v := .pointer (some ⟨g9, 7, none⟩)) rfl (by kernel_rfl) (by kernel_rfl) (by kernel_rfl) (fun _ _ _ h => h) (Or.inl ⟨by rfl, fun W hW => by go_simp⟩) hHeld ?_
            try simp only [Act.put, List.setIfInBounds_toArray, List.set_cons_zero, List.set_cons_succ, List.getElem_toArray, List.getElem_cons_zero, List.getElem_cons_succ]
            refine wpAnyH_take (i := 61) (v := .int .i64 (d : Int)) rfl (by kernel_rfl) (by kernel_rfl) (by kernel_rfl) (fun _ _ _ h => h) (Or.inl ⟨by rfl, fun W hW => by (obtain ⟨⟨c0, c1, c2, c3⟩, l0, l1, l2, l3, l4, l5, l6, l7, l8⟩ := hW; go_simp)⟩) hHeld ?_
            try simp only [Act.put, List.setIfInBounds_toArray, List.set_cons_zero, List.set_cons_succ, List.getElem_toArray, List.getElem_cons_zero, List.getElem_cons_succ]
            refine wpAnyH_take (i := 62) (v := .pointer (some ⟨w.heap.size, 3, none⟩)) rfl (by kernel_rfl) (by kernel_rfl) (by kernel_rfl) (fun _ _ _ h => h) (Or.inl ⟨by rfl, fun W hW => by go_simp⟩) hHeld ?_
            try simp only [Act.put, List.setIfInBounds_toArray, List.set_cons_zero, List.set_cons_succ, List.getElem_toArray, List.getElem_cons_zero, List.getElem_cons_succ]
            refine wpAnyH_take (i := 63) (v := .int .i64 (d : Int)) rfl (by kernel_rfl) (by kernel_rfl) (by kernel_rfl) (fun _ _ _ h => h) (Or.inl ⟨by rfl, fun W hW => by (obtain ⟨⟨c0, c1, c2, c3⟩, l0, l1, l2, l3, l4, l5, l6, l7, l8⟩ := hW; go_simp)⟩) hHeld ?_
            try simp only [Act.put, List.setIfInBounds_toArray, List.set_cons_zero, List.set_cons_succ, List.getElem_toArray, List.getElem_cons_zero, List.getElem_cons_succ]
            as_aux_lemma =>
              refine wpAnyH_take (i := 64) (v := .bool true) rfl (by kernel_rfl) (by kernel_rfl) (by kernel_rfl) (fun _ _ _ h => h) (Or.inl ⟨by rfl, fun W hW => by go_simp⟩) hHeld ?_
              try simp only [Act.put, List.setIfInBounds_toArray, List.set_cons_zero, List.set_cons_succ, List.getElem_toArray, List.getElem_cons_zero, List.getElem_cons_succ]
              refine wpAnyH_take (i := 65) (v := .bool true) rfl (by kernel_rfl) (by kernel_rfl) (by kernel_rfl) (fun _ _ _ h => h) (Or.inl ⟨by rfl, fun W hW => by go_simp⟩) hHeld ?_
              try simp only [Act.put, List.setIfInBounds_toArray, List.set_cons_zero, List.set_cons_succ, List.getElem_toArray, List.getElem_cons_zero, List.getElem_cons_succ]
              refine wpAnyH_take (i := 66) (v := .bool true) rfl (by kernel_rfl) (by kernel_rfl) (by kernel_rfl) (fun _ _ _ h => h) (Or.inl ⟨by rfl, fun W hW => by go_simp⟩) hHeld ?_
              try simp only [Act.put, List.setIfInBounds_toArray, List.set_cons_zero, List.set_cons_succ, List.getElem_toArray, List.getElem_cons_zero, List.getElem_cons_succ]
              refine wpAnyH_take (i := 67) (v := .pointer (some ⟨g9, 4, none⟩)) rfl (by kernel_rfl) (by kernel_rfl) (by kernel_rfl) (fun _ _ _ h => h) (Or.inl ⟨by rfl, fun W hW => by go_simp⟩) hHeld ?_
              try simp only [Act.put, List.setIfInBounds_toArray, List.set_cons_zero, List.set_cons_succ, List.getElem_toArray, List.getElem_cons_zero, List.getElem_cons_succ]
              refine wpAnyH_take (i := 68) (v := .pointer (some ⟨g9, 5, none⟩)) rfl (by kernel_rfl) (by kernel_rfl) (by kernel_rfl) (fun _ _ _ h => h) (Or.inl ⟨by rfl, fun W hW => by go_simp⟩) hHeld ?_
              try simp only [Act.put, List.setIfInBounds_toArray, List.set_cons_zero, List.set_cons_succ, List.getElem_toArray, List.getElem_cons_zero, List.getElem_cons_succ]
              refine wpAnyH_take (i := 69) (v := .int .i64 (m : Int)) rfl (by kernel_rfl) (by kernel_rfl) (by kernel_rfl) (fun _ _ _ h => h) (Or.inl ⟨by rfl, fun W hW => by (obtain ⟨⟨c0, c1, c2, c3⟩, l0, l1, l2, l3, l4, l5, l6, l7, l8⟩ := hW; go_simp)⟩) hHeld ?_
              try simp only [Act.put, List.setIfInBounds_toArray, List.set_cons_zero, List.set_cons_succ, List.getElem_toArray, List.getElem_cons_zero, List.getElem_cons_succ]
              refine wpAnyH_take (i := 70) (v := .pointer (some ⟨w.heap.size, 0, none⟩)) rfl (by kernel_rfl) (by kernel_rfl) (by kernel_rfl) (fun _ _ _ h => h) (Or.inl ⟨by rfl, fun W hW => by go_simp⟩) hHeld ?_
              try simp only [Act.put, List.setIfInBounds_toArray, List.set_cons_zero, List.set_cons_succ, List.getElem_toArray, List.getElem_cons_zero, List.getElem_cons_succ]
              refine wpAnyH_take (i := 71) (v := .int .i64 (s : Int)) rfl (by kernel_rfl) (by kernel_rfl) (by kernel_rfl) (fun _ _ _ h => h) (Or.inl ⟨by rfl, fun W hW => by (obtain ⟨⟨c0, c1, c2, c3⟩, l0, l1, l2, l3, l4, l5, l6, l7, l8⟩ := hW; go_simp)⟩) hHeld ?_
              try simp only [Act.put, List.setIfInBounds_toArray, List.set_cons_zero, List.set_cons_succ, List.getElem_toArray, List.getElem_cons_zero, List.getElem_cons_succ]
              refine wpAnyH_take (i := 72) (v := .int .i64 (y : Int)) rfl (by kernel_rfl) (by kernel_rfl) (by kernel_rfl) (fun _ _ _ h => h) (Or.inl ⟨by rfl, fun W hW => by go_simp⟩) hHeld ?_
              try simp only [Act.put, List.setIfInBounds_toArray, List.set_cons_zero, List.set_cons_succ, List.getElem_toArray, List.getElem_cons_zero, List.getElem_cons_succ]
              refine wpAnyH_take (i := 73) (v := .agg #[.int .i64 (s : Int), .int .i64 (t : Int), .int .i64 (p : Int), .int .i64 (d : Int)]) rfl (by kernel_rfl) (by kernel_rfl) (by kernel_rfl) (fun _ _ _ h => h) (Or.inl ⟨by rfl, fun W hW => by (obtain ⟨⟨c0, c1, c2, c3⟩, l0, l1, l2, l3, l4, l5, l6, l7, l8⟩ := hW; go_simp)⟩) hHeld ?_
              try simp only [Act.put, List.setIfInBounds_toArray, List.set_cons_zero, List.set_cons_succ, List.getElem_toArray, List.getElem_cons_zero, List.getElem_cons_succ]
              refine wpAnyH_ready (rs := [74]) (by kernel_rfl) (by simp) (AllReadyH.cons rfl (fun K' hK => ?_) AllReadyH.nil)
              go_simp
              refine (meta_okM (s : Int) t p d M HMM.out H.out w9.drew).mono ?_
              rintro e w10 ⟨rfl, hb⟩
              have HB10 := As.mk (below_step (below_drewN HB9.out 1) hb)
              have HG10 := As.mk (g4_below hb HGL9.out.1)
              have HGL10 := As.mk (And.intro HG10.out (l9 (g9b hb HL9.out)))
              clear hb hHeld
              refine hK.out _ _ HGL10.out (fun hHeld => ?_)
              clear hK
              try simp only [Act.put, List.setIfInBounds_toArray, List.set_cons_zero, List.set_cons_succ, List.getElem_toArray, List.getElem_cons_zero, List.getElem_cons_succ]
              refine wpAnyH_take (i := 75) (v := .int .i64 (n4 : Int)) rfl (by kernel_rfl) (by kernel_rfl) (by kernel_rfl) (fun _ _ _ h => h) (Or.inl ⟨by rfl, fun W hW => by go_simp⟩) hHeld ?_
              try simp only [Act.put, List.setIfInBounds_toArray, List.set_cons_zero, List.set_cons_succ, List.getElem_toArray, List.getElem_cons_zero, List.getElem_cons_succ]
              refine wpAnyH_take (i := 76) (v := .bool true) rfl (by kernel_rfl) (by kernel_rfl) (by kernel_rfl) (fun _ _ _ h => h) (Or.inl ⟨by rfl, fun W hW => by go_simp⟩) hHeld ?_
              try simp only [Act.put, List.setIfInBounds_toArray, List.set_cons_zero, List.set_cons_succ, List.getElem_toArray, List.getElem_cons_zero, List.getElem_cons_succ]
              refine wpAnyH_take (i := 77) (v := .bool true) rfl (by kernel_rfl) (by kernel_rfl) (by kernel_rfl) (fun _ _ _ h => h) (Or.inl ⟨by rfl, fun W hW => by go_simp⟩) hHeld ?_
              try simp only [Act.put, List.setIfInBounds_toArray, List.set_cons_zero, List.set_cons_succ, List.getElem_toArray, List.getElem_cons_zero, List.getElem_cons_succ]
              refine wpAnyH_take (i := 78) (v := .bool true) rfl (by kernel_rfl) (by kernel_rfl) (by kernel_rfl) (fun _ _ _ h => h) (Or.inl ⟨by rfl, fun W hW => by go_simp⟩) hHeld ?_
              try simp only [Act.put, List.setIfInBounds_toArray, List.set_cons_zero, List.set_cons_succ, List.getElem_toArray, List.getElem_cons_zero, List.getElem_cons_succ]
              refine wpAnyH_take (i := 79) (v := .pointer (some ⟨g9, 2, none⟩)) rfl (by kernel_rfl) (by kernel_rfl) (by kernel_rfl) (fun _ _ _ h => h) (Or.inl ⟨by rfl, fun W hW => by go_simp⟩) hHeld ?_
              try simp only [Act.put, List.setIfInBounds_toArray, List.set_cons_zero, List.set_cons_succ, List.getElem_toArray, List.getElem_cons_zero, List.getElem_cons_succ]
              as_aux_lemma =>
                refine wpAnyH_take (i := 80) (v := .pointer (some ⟨g9, 3, none⟩)) rfl (by kernel_rfl) (by kernel_rfl) (by kernel_rfl) (fun _ _ _ h => h) (Or.inl ⟨by rfl, fun W hW => by go_simp⟩) hHeld ?_
                try simp only [Act.put, List.setIfInBounds_toArray, List.set_cons_zero, List.set_cons_succ, List.getElem_toArray, List.getElem_cons_zero, List.getElem_cons_succ]
                refine wpAnyH_take (i := 81) (v := .int .i64 (r : Int)) rfl (by kernel_rfl) (by kernel_rfl) (by kernel_rfl) (fun _ _ _ h => h) (Or.inl ⟨by rfl, fun W hW => by (obtain ⟨⟨c0, c1, c2, c3⟩, l0, l1, l2, l3, l4, l5, l6, l7, l8⟩ := hW; go_simp)⟩) hHeld ?_
                try simp only [Act.put, List.setIfInBounds_toArray, List.set_cons_zero, List.set_cons_succ, List.getElem_toArray, List.getElem_cons_zero, List.getElem_cons_succ]
                refine wpAnyH_take (i := 82) (v := .pointer (some ⟨g9, 4, none⟩)) rfl (by kernel_rfl) (by kernel_rfl) (by kernel_rfl) (fun _ _ _ h => h) (Or.inl ⟨by rfl, fun W hW => by go_simp⟩) hHeld ?_
                try simp only [Act.put, List.setIfInBounds_toArray, List.set_cons_zero, List.set_cons_succ, List.getElem_toArray, List.getElem_cons_zero, List.getElem_cons_succ]
                refine wpAnyH_take (i := 83) (v := .pointer (some ⟨g9, 5, none⟩)) rfl (by kernel_rfl) (by kernel_rfl) (by kernel_rfl) (fun _ _ _ h => h) (Or.inl ⟨by rfl, fun W hW => by go_simp⟩) hHeld ?_
                try simp only [Act.put, List.setIfInBounds_toArray, List.set_cons_zero, List.set_cons_succ, List.getElem_toArray, List.getElem_cons_zero, List.getElem_cons_succ]
                refine wpAnyH_take (i := 84) (v := .int .i64 (m : Int)) rfl (by kernel_rfl) (by kernel_rfl) (by kernel_rfl) (fun _ _ _ h => h) (Or.inl ⟨by rfl, fun W hW => by (obtain ⟨⟨c0, c1, c2, c3⟩, l0, l1, l2, l3, l4, l5, l6, l7, l8⟩ := hW; go_simp)⟩) hHeld ?_
                try simp only [Act.put, List.setIfInBounds_toArray, List.set_cons_zero, List.set_cons_succ, List.getElem_toArray, List.getElem_cons_zero, List.getElem_cons_succ]
                refine wpAnyH_take (i := 85) (v := .bool true) rfl (by kernel_rfl) (by kernel_rfl) (by kernel_rfl) (fun _ _ _ h => h) (Or.inl ⟨by rfl, fun W hW => by go_simp⟩) hHeld ?_
                try simp only [Act.put, List.setIfInBounds_toArray, List.set_cons_zero, List.set_cons_succ, List.getElem_toArray, List.getElem_cons_zero, List.getElem_cons_succ]
                refine wpAnyH_take (i := 86) (v := .bool true) rfl (by kernel_rfl) (by kernel_rfl) (by kernel_rfl) (fun _ _ _ h => h) (Or.inl ⟨by rfl, fun W hW => by go_simp⟩) hHeld ?_
                try simp only [Act.put, List.setIfInBounds_toArray, List.set_cons_zero, List.set_cons_succ, List.getElem_toArray, List.getElem_cons_zero, List.getElem_cons_succ]
                refine wpAnyH_take (i := 87) (v := .bool true) rfl (by kernel_rfl) (by kernel_rfl) (by kernel_rfl) (fun _ _ _ h => h) (Or.inl ⟨by rfl, fun W hW => by go_simp⟩) hHeld ?_
                try simp only [Act.put, List.setIfInBounds_toArray, List.set_cons_zero, List.set_cons_succ, List.getElem_toArray, List.getElem_cons_zero, List.getElem_cons_succ]
                refine wpAnyH_take (i := 88) (v := .pointer (some ⟨g9, 8, none⟩)) rfl (by kernel_rfl) (by kernel_rfl) (by kernel_rfl) (fun _ _ _ h => h) (Or.inl ⟨by rfl, fun W hW => by go_simp⟩) hHeld ?_
                try simp only [Act.put, List.setIfInBounds_toArray, List.set_cons_zero, List.set_cons_succ, List.getElem_toArray, List.getElem_cons_zero, List.getElem_cons_succ]
                refine wpAnyH_take (i := 89) (v := .int .i64 (x3 : Int)) rfl (by kernel_rfl) (by kernel_rfl) (by kernel_rfl) (fun _ _ _ h => h) (Or.inl ⟨by rfl, fun W hW => by (obtain ⟨⟨c0, c1, c2, c3⟩, l0, l1, l2, l3, l4, l5, l6, l7, l8⟩ := hW; go_simp)⟩) hHeld ?_
                try simp only [Act.put, List.setIfInBounds_toArray, List.set_cons_zero, List.set_cons_succ, List.getElem_toArray, List.getElem_cons_zero, List.getElem_cons_succ]
                refine wpAnyH_take (i := 90) (v := .bool true) rfl (by kernel_rfl) (by kernel_rfl) (by kernel_rfl) (fun _ _ _ h => h) (Or.inl ⟨by rfl, fun W hW => by go_simp⟩) hHeld ?_
                try simp only [Act.put, List.setIfInBounds_toArray, List.set_cons_zero, List.set_cons_succ, List.getElem_toArray, List.getElem_cons_zero, List.getElem_cons_succ]
                refine wpAnyH_take (i := 91) (v := .bool true) rfl (by kernel_rfl) (by kernel_rfl) (by kernel_rfl) (fun _ _ _ h => h) (Or.inl ⟨by rfl, fun W hW => by go_simp⟩) hHeld ?_
                try simp only [Act.put, List.setIfInBounds_toArray, List.set_cons_zero, List.set_cons_succ, List.getElem_toArray, List.getElem_cons_zero, List.getElem_cons_succ]
                refine wpAnyH_take (i := 92) (v := .bool true) rfl (by kernel_rfl) (by kernel_rfl) (by kernel_rfl) (fun _ _ _ h => h) (Or.inl ⟨by rfl, fun W hW => by go_simp⟩) hHeld ?_
                try simp only [Act.put, List.setIfInBounds_toArray, List.set_cons_zero, List.set_cons_succ, List.getElem_toArray, List.getElem_cons_zero, List.getElem_cons_succ]
                refine wpAnyH_done (by kernel_rfl) ?_ _
                go_wp2
                go_ret
                exact ⟨rfl, HB10.out⟩
end Go.Proofs.Ytjcofbjfolaoiaa.SlotP
namespace Go.Proofs.Ytjcofbjfolaoiaa.SlotP
set_option linter.unusedVariables false
set_option linter.unusedSimpArgs false
open Go Go.RowKit Go.Proofs.Ytjcofbjfolaoiaa.Mem Go.Proofs.Ytjcofbjfolaoiaa.Put Go.Proofs.Ytjcofbjfolaoiaa.Geo Go.Proofs.Ytjcofbjfolaoiaa.RefPutN Go.Proofs.Ytjcofbjfolaoiaa.Val Go.Proofs.Ytjcofbjfolaoiaa.Reader Go.Proofs.Ytjcofbjfolaoiaa.LayA

/-- may a slot of this version be? -/
def mayP (s t p d v : Int) : Bool := rightB s t p d && (decide (0 ≤ v) && decide (v ≤ 1099511627776))
theorem mayP_no {s t p d v : Int} (h : mayP s t p d v = false) : rightB s t p d = false ∨ (decide (0 ≤ v) && decide (v ≤ 1099511627776)) = false := by
  unfold mayP at h
  rcases Bool.eq_false_or_eq_true (rightB s t p d) with h1 | h1
  · rw [h1] at h
    exact .inr (by simpa using h)
  · exact .inl h1
/-- either way: an error and no bytes, or bytes -/
theorem put_either (s t p d v : Int) (w : World) :
    Calls Try.prog 35 #[.agg #[.int .i64 s, .int .i64 t, .int .i64 p, .int .i64 d], .int .i64 v] w fun e w' => ∃ A n c, e = .returned (.tuple #[.slice A n c, .int .i64 (if mayP s t p d v = true then 0 else 2)]) ∧ (mayP s t p d v = false → n = 0) ∧ Below w.heap.size w w' := by
  rcases Bool.eq_false_or_eq_true (mayP s t p d v) with h | h
  · have h2 := h
    unfold mayP at h2
    simp only [Bool.and_eq_true, decide_eq_true_eq] at h2
    obtain ⟨hr, h0, h1⟩ := h2
    obtain ⟨s, t, p, d, rfl, rfl, rfl, rfl, -⟩ := ((rightB_iff _ _ _ _).1 hr).nat
    obtain ⟨v, rfl⟩ := Int.eq_ofNat_of_zero_le h0
    refine (slot_ok s t p d v hr (by omega) w).mono ?_
    rintro e w' ⟨A, c, rfl, _, hb⟩
    exact ⟨A, s, c, by rw [if_pos h], (fun hc => by rw [h] at hc; cases hc), hb⟩
  · refine (slot_bad s t p d v (mayP_no h) w).mono ?_
    rintro e w' ⟨rfl, hb⟩
    exact ⟨none, 0, 0, by rw [if_neg (by rw [h]; decide)], fun _ => rfl, hb⟩
theorem put_eitherK (s t p d v k : Int) (b : Bool) (hb : mayP s t p d v = b) (hk : (if b = true then (0 : Int) else 2) = k) (w : World) :
    Calls Try.prog 35 #[.agg #[.int .i64 s, .int .i64 t, .int .i64 p, .int .i64 d], .int .i64 v] w fun e w' => ∃ A n c, e = .returned (.tuple #[.slice A n c, .int .i64 k]) ∧ (b = false → n = 0) ∧ Below w.heap.size w w' := by
  have h := put_either s t p d v w
  rw [hb, hk] at h
  exact h
set_option maxHeartbeats 4000000 in
set_option maxRecDepth 100000 in
theorem back_first (s t p d v0 v1 : Int) (h : mayP s t p d v0 = false) (w : World) :
    Calls Try.prog 7 #[.agg #[.int .i64 s, .int .i64 t, .int .i64 p, .int .i64 d], .agg #[.int .i64 v0, .int .i64 v1]] w fun e w' => e = .returned (.bool true) ∧ Below w.heap.size w w' := by
  have H := As.mk h
  obtain ⟨b1, hb1⟩ : ∃ y, mayP s t p d v1 = y := ⟨_, rfl⟩
  obtain ⟨k1, hk1⟩ : ∃ y, (if b1 = true then (0 : Int) else 2) = y := ⟨_, rfl⟩
  have H1 := As.mk hb1
  have K1 := As.mk hk1
  clear h hb1 hk1
  have HB0 := As.mk (below_alloc (below_alloc (Below.refl w.heap.size w) (.cells #[.int .i64 s, .int .i64 t, .int .i64 p, .int .i64 d] 53)) (.cells #[.int .i64 v0, .int .i64 v1] 74))
  have HG0 := As.mk (g9b (below_alloc (Below.refl (w.alloc (.cells #[.int .i64 s, .int .i64 t, .int .i64 p, .int .i64 d] 53)).heap.size _) (.cells #[.int .i64 v0, .int .i64 v1] 74)) (heap_alloc_new w (.cells #[.int .i64 s, .int .i64 t, .int .i64 p, .int .i64 d] 53)))
  have HV0 := As.mk (heap_alloc2_new w (.cells #[.int .i64 s, .int .i64 t, .int .i64 p, .int .i64 d] 53) (.cells #[.int .i64 v0, .int .i64 v1] 74))
  go_enter Try.func7, Try.ntmps7
  go_wp2_with (first
    | (refine wpList_boxArr rfl 74 _ rfl #[.int .i64 v0, .int .i64 v1] rfl ?_)
    | (go_at_call 33; (with_reducible refine (awake_true _).mono ?_); rintro e w1 ⟨rfl, hb⟩; have HB1 := As.mk (below_step HB0.out hb); have HG1 := As.mk (g9b hb HG0.out); have HV1 := As.mk (g9b hb HV0.out); clear hb; refine As.out ?_))
  refine As.mk ?_
  clear HB0 HG0 HV0
  have c0 := cell_of_row _ _ 0 _ _ _ HG1.out
  have c1 := cell_of_row _ _ 1 _ _ _ HG1.out
  have c2 := cell_of_row _ _ 2 _ _ _ HG1.out
  have c3 := cell_of_row _ _ 3 _ _ _ HG1.out
  have u0 := cell_of_row _ _ 0 _ _ _ HV1.out
  have u1 := cell_of_row _ _ 1 _ _ _ HV1.out
  go_wp2_with (first
    | (go_at_call 35; (with_reducible refine (slot_bad s t p d v0 (mayP_no H.out) _).mono ?_); rintro e w2 ⟨rfl, hb⟩;  have HB2 := As.mk (below_step HB1.out hb); have HG2 := As.mk (g9b hb HG1.out); have HV2 := As.mk (g9b hb HV1.out); clear hb; refine As.out ?_))
  refine As.mk ?_
  clear c0 c1 c2 c3 u0 u1 HG1 HV1 HB1
  have c0 := cell_of_row _ _ 0 _ _ _ HG2.out
  have c1 := cell_of_row _ _ 1 _ _ _ HG2.out
  have c2 := cell_of_row _ _ 2 _ _ _ HG2.out
  have c3 := cell_of_row _ _ 3 _ _ _ HG2.out
  have u0 := cell_of_row _ _ 0 _ _ _ HV2.out
  have u1 := cell_of_row _ _ 1 _ _ _ HV2.out
  go_wp2_with (first
    | (go_at_call 35; (with_reducible refine (put_eitherK s t p d v1 k1 b1 H1.out K1.out _).mono ?_); rintro e w3 ⟨A3, n3, c3', rfl, _, hb⟩;  have HB3 := As.mk (below_step HB2.out hb); have HG3 := As.mk (g9b hb HG2.out); have HV3 := As.mk (g9b hb HV2.out); clear hb; refine As.out ?_))
  refine As.mk ?_
  clear c0 c1 c2 c3 u0 u1 HG2 HV2 HB2
  go_wp2
  go_ret
  exact ⟨rfl, HB3.out⟩
set_option maxHeartbeats 4000000 in
set_option maxRecDepth 100000 in
theorem back_second (s t p d v0 v1 : Int) (hv : mayP s t p d v0 = true) (h : mayP s t p d v1 = false) (w : World) :
    Calls Try.prog 7 #[.agg #[.int .i64 s, .int .i64 t, .int .i64 p, .int .i64 d], .agg #[.int .i64 v0, .int .i64 v1]] w fun e w' => e = .returned (.bool true) ∧ Below w.heap.size w w' := by
  have H := As.mk h
  have HV := As.mk hv
  have h0 : mayP s t p d v0 = true := hv
  clear h hv h0
  have HB0 := As.mk (below_alloc (below_alloc (Below.refl w.heap.size w) (.cells #[.int .i64 s, .int .i64 t, .int .i64 p, .int .i64 d] 53)) (.cells #[.int .i64 v0, .int .i64 v1] 74))
  have HG0 := As.mk (g9b (below_alloc (Below.refl (w.alloc (.cells #[.int .i64 s, .int .i64 t, .int .i64 p, .int .i64 d] 53)).heap.size _) (.cells #[.int .i64 v0, .int .i64 v1] 74)) (heap_alloc_new w (.cells #[.int .i64 s, .int .i64 t, .int .i64 p, .int .i64 d] 53)))
  have HV0 := As.mk (heap_alloc2_new w (.cells #[.int .i64 s, .int .i64 t, .int .i64 p, .int .i64 d] 53) (.cells #[.int .i64 v0, .int .i64 v1] 74))
  go_enter Try.func7, Try.ntmps7
  go_wp2_with (first
    | (refine wpList_boxArr rfl 74 _ rfl #[.int .i64 v0, .int .i64 v1] rfl ?_)
    | (go_at_call 33; (with_reducible refine (awake_true _).mono ?_); rintro e w1 ⟨rfl, hb⟩; have HB1 := As.mk (below_step HB0.out hb); have HG1 := As.mk (g9b hb HG0.out); have HV1 := As.mk (g9b hb HV0.out); clear hb; refine As.out ?_))
  refine As.mk ?_
  clear HB0 HG0 HV0
  have c0 := cell_of_row _ _ 0 _ _ _ HG1.out
  have c1 := cell_of_row _ _ 1 _ _ _ HG1.out
  have c2 := cell_of_row _ _ 2 _ _ _ HG1.out
  have c3 := cell_of_row _ _ 3 _ _ _ HG1.out
  have u0 := cell_of_row _ _ 0 _ _ _ HV1.out
  have u1 := cell_of_row _ _ 1 _ _ _ HV1.out
  go_wp2_with (first
    | (go_at_call 35; (with_reducible refine (put_eitherK s t p d v0 0 true HV.out rfl _).mono ?_); rintro e w2 ⟨A2, n2, c2', rfl, _, hb⟩;  have HB2 := As.mk (below_step HB1.out hb); have HG2 := As.mk (g9b hb HG1.out); have HV2 := As.mk (g9b hb HV1.out); clear hb; refine As.out ?_))
  refine As.mk ?_
  clear c0 c1 c2 c3 u0 u1 HG1 HV1 HB1
  have c0 := cell_of_row _ _ 0 _ _ _ HG2.out
  have c1 := cell_of_row _ _ 1 _ _ _ HG2.out
  have c2 := cell_of_row _ _ 2 _ _ _ HG2.out
  have c3 := cell_of_row _ _ 3 _ _ _ HG2.out
  have u0 := cell_of_row _ _ 0 _ _ _ HV2.out
  have u1 := cell_of_row _ _ 1 _ _ _ HV2.out
  go_wp2_with (first
    | (go_at_call 35; (with_reducible refine (slot_bad s t p d v1 (mayP_no H.out) _).mono ?_); rintro e w3 ⟨rfl, hb⟩;  have HB3 := As.mk (below_step HB2.out hb); have HG3 := As.mk (g9b hb HG2.out); have HV3 := As.mk (g9b hb HV2.out); clear hb; refine As.out ?_))
  refine As.mk ?_
  clear c0 c1 c2 c3 u0 u1 HG2 HV2 HB2
  go_wp2
  go_ret
  exact ⟨rfl, HB3.out⟩
theorem back_any (s t p d v0 v1 : Int) (w : World) :
    Calls Try.prog 7 #[.agg #[.int .i64 s, .int .i64 t, .int .i64 p, .int .i64 d], .agg #[.int .i64 v0, .int .i64 v1]] w fun e w' => e = .returned (.bool true) ∧ Below w.heap.size w w' := by
  rcases Bool.eq_false_or_eq_true (mayP s t p d v0) with h0 | h0
  · rcases Bool.eq_false_or_eq_true (mayP s t p d v1) with h1 | h1
    · unfold mayP at h0 h1
      simp only [Bool.and_eq_true, decide_eq_true_eq] at h0 h1
      obtain ⟨hr, a0, a1⟩ := h0
      obtain ⟨_, b0, b1⟩ := h1
      obtain ⟨s, t, p, d, rfl, rfl, rfl, rfl, -⟩ := ((rightB_iff _ _ _ _).1 hr).nat
      obtain ⟨v0, rfl⟩ := Int.eq_ofNat_of_zero_le a0
      obtain ⟨v1, rfl⟩ := Int.eq_ofNat_of_zero_le b0
      by_cases h : v1 ≤ v0
      · exact back_both0 s t p d v0 v1 v0 0 hr (by omega) (by omega) ⟨h, rfl, rfl⟩ w
      · exact back_both1 s t p d v0 v1 v1 1 hr (by omega) (by omega) ⟨by omega, rfl, rfl⟩ w
    · exact back_second s t p d v0 v1 h0 h1 w
  · exact back_first s t p d v0 v1 h0 w
theorem back_walk (s t p d : Int) (x : List Int) (w : World) (hl : x.length = 2) (_ : ∀ i ∈ x, (Lit.int .i64 i).wf = true) :
    Calls Try.prog 7 #[.agg #[.int .i64 s, .int .i64 t, .int .i64 p, .int .i64 d], .agg (x.map (Value.int .i64)).toArray] w fun e w' => e = .returned (.bool true) ∧ Below w.heap.size w w' := by
  obtain ⟨v0, v1, rfl⟩ : ∃ v0 v1, x = [v0, v1] := by
    match x, hl with
    | [v0, v1], _ => exact ⟨v0, v1, rfl⟩
  exact back_any s t p d v0 v1 w
end Go.Proofs.Ytjcofbjfolaoiaa.SlotP
