/- SuperTakes, for every two texts. -/
import Derived.Test.YtjcofbjfolaoiaaNewest
import Derived.Test.YtjcofbjfolaoiaaRefTake
import Derived.Test.YtjcofbjfolaoiaaSuperLays
namespace Go.Proofs.Ytjcofbjfolaoiaa.SlotP
set_option linter.unusedVariables false
set_option linter.unusedSimpArgs false
open Go Go.RowKit Go.Proofs.Ytjcofbjfolaoiaa.Mem Go.Proofs.Ytjcofbjfolaoiaa.Put Go.Proofs.Ytjcofbjfolaoiaa.Geo Go.Proofs.Ytjcofbjfolaoiaa.RefPutN Go.Proofs.Ytjcofbjfolaoiaa.Val Go.Proofs.Ytjcofbjfolaoiaa.Reader Go.Proofs.Ytjcofbjfolaoiaa.LayA

theorem takeR_any (b : List Int) (hbb : Byte b) (A : Option Addr) (n c : Nat) (w : World) (h0 : Rd .u8 w A n c b) (hm : n ≤ 140737488351232) :
    Calls Try.prog 43 #[.slice A n c] w fun e w' => e = .returned (.tuple #[.agg (tookA b), .int .i64 (okI b (raw b 4 8)), .int .i64 (takeE b)]) ∧ Below w.heap.size w w' := by
  by_cases hn : n < 54
  · exact takeR_short b A n c w h0 hn
  · exact takeR_long b hbb A n c w h0 (by omega) hm
set_option maxHeartbeats 1000000 in
set_option maxRecDepth 100000 in
theorem takes_far (A B : Option Addr) (n m c d : Nat) (w : World) (h : 300 < n ∨ 300 < m) :
    Calls Try.prog 6 #[.slice A n c, .slice B m d] w fun e w' => e = .returned (.bool true) ∧ Below w.heap.size w w' := by
  by_cases hn : 300 < n
  · have d0 : decide (300 < (n : Int)) = true := decide_eq_true (by omega)
    have d1 : decide (300 < n) = true := decide_eq_true hn
    clear h hn
    go_enter Try.func6, Try.ntmps6
    go_wp2_with (first
      | (go_at_call 33; (with_reducible refine (awake_true _).mono ?_); rintro e w1 ⟨rfl, hb⟩; have HB1 := As.mk hb; clear hb))
    go_ret
    exact ⟨rfl, HB1.out⟩
  · have d0 : decide (300 < (n : Int)) = false := decide_eq_false (by omega)
    have d1 : decide (300 < n) = false := decide_eq_false hn
    have d2 : decide (300 < (m : Int)) = true := decide_eq_true (by omega)
    have d3 : decide (300 < m) = true := decide_eq_true (by omega)
    clear h hn
    go_enter Try.func6, Try.ntmps6
    go_wp2_with (first
      | (go_at_call 33; (with_reducible refine (awake_true _).mono ?_); rintro e w1 ⟨rfl, hb⟩; have HB1 := As.mk hb; clear hb))
    go_ret
    exact ⟨rfl, HB1.out⟩
set_option maxHeartbeats 20000000 in
set_option maxRecDepth 100000 in
theorem takes_near (a b : List Int) (ha : Byte a) (hb : Byte b) (A B : Option Addr) (n m c d : Nat) (w : World) (hn : n ≤ 300) (hm : m ≤ 300) (h0 : Rd .u8 w A n c a) (h1 : Rd .u8 w B m d b) :
    Calls Try.prog 6 #[.slice A n c, .slice B m d] w fun e w' => e = .returned (.bool true) ∧ Below w.heap.size w w' := by
  have d0 : decide (300 < (n : Int)) = false := decide_eq_false (by omega)
  have d1 : decide (300 < n) = false := decide_eq_false (by omega)
  have d2 : decide (300 < (m : Int)) = false := decide_eq_false (by omega)
  have d3 : decide (300 < m) = false := decide_eq_false (by omega)
  obtain ⟨a0, i0⟩ : ∃ y, okI a (raw a 12 2) = y := ⟨_, rfl⟩
  obtain ⟨a1, i1⟩ : ∃ y, okI a (raw a 14 2) = y := ⟨_, rfl⟩
  obtain ⟨a2, i2⟩ : ∃ y, okI a (raw a 16 2) = y := ⟨_, rfl⟩
  obtain ⟨a3, i3⟩ : ∃ y, okI a (raw a 18 4) = y := ⟨_, rfl⟩
  obtain ⟨va, i4⟩ : ∃ y, okI a (raw a 4 8) = y := ⟨_, rfl⟩
  obtain ⟨ea, i5⟩ : ∃ y, takeE a = y := ⟨_, rfl⟩
  obtain ⟨b0, j0⟩ : ∃ y, okI b (raw b 12 2) = y := ⟨_, rfl⟩
  obtain ⟨b1, j1⟩ : ∃ y, okI b (raw b 14 2) = y := ⟨_, rfl⟩
  obtain ⟨b2, j2⟩ : ∃ y, okI b (raw b 16 2) = y := ⟨_, rfl⟩
  obtain ⟨b3, j3⟩ : ∃ y, okI b (raw b 18 4) = y := ⟨_, rfl⟩
  obtain ⟨vb, j4⟩ : ∃ y, okI b (raw b 4 8) = y := ⟨_, rfl⟩
  obtain ⟨eb, j5⟩ : ∃ y, takeE b = y := ⟨_, rfl⟩
  have TA := As.mk (show tookA a = #[.int .i64 a0, .int .i64 a1, .int .i64 a2, .int .i64 a3] by unfold tookA; rw [i0, i1, i2, i3])
  have TB := As.mk (show tookA b = #[.int .i64 b0, .int .i64 b1, .int .i64 b2, .int .i64 b3] by unfold tookA; rw [j0, j1, j2, j3])
  have HTA : As (∀ W, Rd .u8 W A n c a → Calls Try.prog 42 #[.slice A n c] W fun e w' => e = .returned (.tuple #[.agg #[.int .i64 a0, .int .i64 a1, .int .i64 a2, .int .i64 a3], .int .i64 va, .int .i64 ea]) ∧ Below W.heap.size W w') := ⟨fun W h => by rw [← TA.out, ← i4, ← i5]; exact take_any a ha A n c W h (by omega)⟩
  have HRA : As (∀ W, Rd .u8 W A n c a → Calls Try.prog 43 #[.slice A n c] W fun e w' => e = .returned (.tuple #[.agg #[.int .i64 a0, .int .i64 a1, .int .i64 a2, .int .i64 a3], .int .i64 va, .int .i64 ea]) ∧ Below W.heap.size W w') := ⟨fun W h => by rw [← TA.out, ← i4, ← i5]; exact takeR_any a ha A n c W h (by omega)⟩
  have HRB : As (∀ W, Rd .u8 W B m d b → Calls Try.prog 43 #[.slice B m d] W fun e w' => e = .returned (.tuple #[.agg #[.int .i64 b0, .int .i64 b1, .int .i64 b2, .int .i64 b3], .int .i64 vb, .int .i64 eb]) ∧ Below W.heap.size W w') := ⟨fun W h => by rw [← TB.out, ← j4, ← j5]; exact takeR_any b hb B m d W h (by omega)⟩
  have KA := As.mk (And.intro i4 i5)
  have KB := As.mk (And.intro j4 j5)
  have H0 := As.mk h0
  have H1 := As.mk h1
  have HA := As.mk ha
  have HBY := As.mk hb
  have HN := As.mk (show n ≤ 140737488351232 by omega)
  have HM := As.mk (show m ≤ 140737488351232 by omega)
  have hq := fun W => geom_self W a0 a1 a2 a3
  clear i0 i1 i2 i3 i4 i5 j0 j1 j2 j3 j4 j5 h0 h1 ha hb hn hm
  go_enter Try.func6, Try.ntmps6
  go_wp2_with (first
    | (go_at_call 33; (with_reducible refine (awake_true _).mono ?_); rintro e w1 ⟨rfl, hb⟩; have HB1 := As.mk hb; have HX1 := As.mk (H0.out.below hb); have HY1 := As.mk (H1.out.below hb); clear hb)
    | (go_at_call 42; (with_reducible refine (HTA.out _ HX1.out).mono ?_); rintro e w2 ⟨rfl, hb⟩; have HB2 := As.mk (below_step HB1.out hb); clear hb)
    | (refine wpList_storeNew rfl rfl 53 _ _ rfl rfl #[.int .i64 a0, .int .i64 a1, .int .i64 a2, .int .i64 a3] rfl 53 #[.int .i64 0, .int .i64 0, .int .i64 0, .int .i64 0] info_geom rfl (one4 _ _ _ _) ?_; refine As.out ?_))
  refine As.mk ?_
  have HB3 := As.mk (below_alloc HB2.out (.cells #[.int .i64 a0, .int .i64 a1, .int .i64 a2, .int .i64 a3] 53))
  have HP3 := As.mk (heap_alloc_new w2 (.cells #[.int .i64 a0, .int .i64 a1, .int .i64 a2, .int .i64 a3] 53))
  generalize w2.alloc (.cells #[.int .i64 a0, .int .i64 a1, .int .i64 a2, .int .i64 a3] 53) = w3 at *
  generalize w2.heap.size = g3 at *
  have HX3 := As.mk (H0.out.below HB3.out)
  go_wp2_with (first
    | (go_at_call 43; (with_reducible refine (HRA.out _ HX3.out).mono ?_); rintro e w4 ⟨rfl, hb⟩; have HB4 := As.mk (below_step HB3.out hb); have HP4 := As.mk (g9b hb HP3.out); clear hb)
    | (refine wpList_storeNew rfl rfl 53 _ _ rfl rfl #[.int .i64 a0, .int .i64 a1, .int .i64 a2, .int .i64 a3] rfl 53 #[.int .i64 0, .int .i64 0, .int .i64 0, .int .i64 0] info_geom rfl (one4 _ _ _ _) ?_; refine As.out ?_))
  refine As.mk ?_
  have HP5 := As.mk (g9b (below_alloc (Below.refl w4.heap.size w4) (.cells #[.int .i64 a0, .int .i64 a1, .int .i64 a2, .int .i64 a3] 53)) HP4.out)
  have HB5 := As.mk (below_alloc HB4.out (.cells #[.int .i64 a0, .int .i64 a1, .int .i64 a2, .int .i64 a3] 53))
  have HQ5 := As.mk (heap_alloc_new w4 (.cells #[.int .i64 a0, .int .i64 a1, .int .i64 a2, .int .i64 a3] 53))
  generalize w4.alloc (.cells #[.int .i64 a0, .int .i64 a1, .int .i64 a2, .int .i64 a3] 53) = w5 at *
  generalize w4.heap.size = g5 at *
  have HY5 := As.mk (H1.out.below HB5.out)
  go_wp2_with (first
    | (go_at_call 43; (with_reducible refine (HRB.out _ HY5.out).mono ?_); rintro e w6 ⟨rfl, hb⟩; have HB6 := As.mk (below_step HB5.out hb); have HP6 := As.mk (g9b hb HP5.out); have HQ6 := As.mk (g9b hb HQ5.out); clear hb)
    | (refine wpList_storeNew rfl rfl 53 _ _ rfl rfl #[.int .i64 b0, .int .i64 b1, .int .i64 b2, .int .i64 b3] rfl 53 #[.int .i64 0, .int .i64 0, .int .i64 0, .int .i64 0] info_geom rfl (one4 _ _ _ _) ?_; refine As.out ?_))
  refine As.mk ?_
  have HP7 := As.mk (g9b (below_alloc (Below.refl w6.heap.size w6) (.cells #[.int .i64 b0, .int .i64 b1, .int .i64 b2, .int .i64 b3] 53)) HP6.out)
  have HQ7 := As.mk (g9b (below_alloc (Below.refl w6.heap.size w6) (.cells #[.int .i64 b0, .int .i64 b1, .int .i64 b2, .int .i64 b3] 53)) HQ6.out)
  have HB7 := As.mk (below_alloc HB6.out (.cells #[.int .i64 b0, .int .i64 b1, .int .i64 b2, .int .i64 b3] 53))
  have HS7 := As.mk (heap_alloc_new w6 (.cells #[.int .i64 b0, .int .i64 b1, .int .i64 b2, .int .i64 b3] 53))
  generalize w6.alloc (.cells #[.int .i64 b0, .int .i64 b1, .int .i64 b2, .int .i64 b3] 53) = w7 at *
  generalize w6.heap.size = g7 at *
  clear HB1 HB2 HB3 HB4 HB5 HB6 HP3 HP4 HP5 HP6 HQ5 HQ6 HX1 HY1 HX3 HY5 HTA HRA HRB
  have HX7 := As.mk (H0.out.below HB7.out)
  have HY7 := As.mk (H1.out.below HB7.out)
  by_cases hea : ea = 0
  · by_cases heb : eb ≠ 0 ∨ vb ≤ va
    · have HNR := As.mk (newR_first (a := a) (b := b) (by rw [KA.out.2]; exact hea) (by rw [KB.out.2]; show eb ≠ 0 ∨ okI b (raw b 4 8) ≤ okI a (raw a 4 8); rw [KA.out.1, KB.out.1]; exact heb))
      have hva : verI a = va := KA.out.1
      rw [TA.out, hva] at HNR
      clear hva
      have e0 : (ea != 0) = false := by rw [hea]; rfl
      have e1 : (ea == 0) = true := by rw [hea]; rfl
      obtain ⟨bb, hbb⟩ : ∃ y, (eb != 0) = y := ⟨_, rfl⟩
      have hbb2 : bb = true ∨ (bb = false ∧ vb ≤ va) := by
        rcases heb with h | h
        · exact .inl (by rw [← hbb]; exact bne_iff_ne.2 h)
        · cases bb
          · exact .inr ⟨rfl, h⟩
          · exact .inl rfl
      obtain ⟨cc, hcc⟩ : ∃ y, decide (vb ≤ va) = y := ⟨_, rfl⟩
      have hcc2 : bb = true ∨ (bb = false ∧ cc = true) := by
        rcases hbb2 with h | ⟨h, h2⟩
        · exact .inl h
        · exact .inr ⟨h, by rw [← hcc]; exact decide_eq_true h2⟩
      have HCC := As.mk hcc2
      clear hcc2 hbb2 heb hea
      rcases HCC.out with rfl | ⟨rfl, rfl⟩
      all_goals
        go_wp2_with (first
          | (refine wpList_load_row rfl 53 (.tmp 5) rfl g3 rfl 53 #[.int .i64 a0, .int .i64 a1, .int .i64 a2, .int .i64 a3] (0, 0) _ HP7.out Try.underlying53 rfl info_geom ?_)
          | (refine wpList_load_row rfl 53 (.tmp 8) rfl g5 rfl 53 #[.int .i64 a0, .int .i64 a1, .int .i64 a2, .int .i64 a3] (0, 0) _ HQ7.out Try.underlying53 rfl info_geom ?_)
          | (go_at_call 44; (with_reducible refine (newestK a b HA.out HBY.out A B n m c d w7 _ HNR.out HX7.out HY7.out HN.out HM.out).mono ?_); rintro e w8 ⟨rfl, hb⟩; have HB8 := As.mk (below_step HB7.out hb); have HQ8 := As.mk (g9b hb HQ7.out); have HS8 := As.mk (g9b hb HS7.out); clear hb)
          | (refine wpList_storeNew rfl rfl 53 _ _ rfl rfl #[.int .i64 a0, .int .i64 a1, .int .i64 a2, .int .i64 a3] rfl 53 #[.int .i64 0, .int .i64 0, .int .i64 0, .int .i64 0] info_geom rfl (one4 _ _ _ _) ?_; refine As.out ?_))
        refine As.mk ?_
        have HB9 := As.mk (below_alloc HB8.out (.cells #[.int .i64 a0, .int .i64 a1, .int .i64 a2, .int .i64 a3] 53))
        have HQ9 := As.mk (g9b (below_alloc (Below.refl w8.heap.size w8) (.cells #[.int .i64 a0, .int .i64 a1, .int .i64 a2, .int .i64 a3] 53)) HQ8.out)
        have HS9 := As.mk (g9b (below_alloc (Below.refl w8.heap.size w8) (.cells #[.int .i64 a0, .int .i64 a1, .int .i64 a2, .int .i64 a3] 53)) HS8.out)
        have HT9 := As.mk (heap_alloc_new w8 (.cells #[.int .i64 a0, .int .i64 a1, .int .i64 a2, .int .i64 a3] 53))
        generalize w8.alloc (.cells #[.int .i64 a0, .int .i64 a1, .int .i64 a2, .int .i64 a3] 53) = w9 at *
        generalize w8.heap.size = g9 at *
        have x0 := cell_of_row _ _ 0 _ _ _ HT9.out
        have x1 := cell_of_row _ _ 1 _ _ _ HT9.out
        have x2 := cell_of_row _ _ 2 _ _ _ HT9.out
        have x3 := cell_of_row _ _ 3 _ _ _ HT9.out
        have y0 := cell_of_row _ _ 0 _ _ _ HQ9.out
        have y1 := cell_of_row _ _ 1 _ _ _ HQ9.out
        have y2 := cell_of_row _ _ 2 _ _ _ HQ9.out
        have y3 := cell_of_row _ _ 3 _ _ _ HQ9.out
        have z0 := cell_of_row _ _ 0 _ _ _ HS9.out
        have z1 := cell_of_row _ _ 1 _ _ _ HS9.out
        have z2 := cell_of_row _ _ 2 _ _ _ HS9.out
        have z3 := cell_of_row _ _ 3 _ _ _ HS9.out
        have hq2 := fun W => geom_self W a0 a1 a2 a3
        go_wp2
        go_ret
        exact ⟨rfl, HB9.out⟩
    · have hb0 : eb = 0 := by by_cases h : eb = 0; exact h; exact absurd (.inl h) heb
      have hlt : va < vb := by by_cases h : vb ≤ va; exact absurd (.inr h) heb; omega
      have HNR := As.mk (newR_second (a := a) (b := b) (by rw [KB.out.2]; exact hb0) (.inr (by show okI a (raw a 4 8) < okI b (raw b 4 8); rw [KA.out.1, KB.out.1]; exact hlt)))
      have hvb : verI b = vb := KB.out.1
      rw [TB.out, hvb] at HNR
      clear hvb heb
      have e0 : (ea != 0) = false := by rw [hea]; rfl
      have e1 : (ea == 0) = true := by rw [hea]; rfl
      have e2 : (eb != 0) = false := by rw [hb0]; rfl
      have e3 : decide (vb ≤ va) = false := decide_eq_false (by omega)
      clear hea hb0 hlt
      go_wp2_with (first
        | (refine wpList_load_row rfl 53 (.tmp 5) rfl g3 rfl 53 #[.int .i64 a0, .int .i64 a1, .int .i64 a2, .int .i64 a3] (0, 0) _ HP7.out Try.underlying53 rfl info_geom ?_)
        | (refine wpList_load_row rfl 53 (.tmp 8) rfl g5 rfl 53 #[.int .i64 a0, .int .i64 a1, .int .i64 a2, .int .i64 a3] (0, 0) _ HQ7.out Try.underlying53 rfl info_geom ?_)
        | (go_at_call 44; (with_reducible refine (newestK a b HA.out HBY.out A B n m c d w7 _ HNR.out HX7.out HY7.out HN.out HM.out).mono ?_); rintro e w8 ⟨rfl, hb⟩; have HB8 := As.mk (below_step HB7.out hb); have HQ8 := As.mk (g9b hb HQ7.out); have HS8 := As.mk (g9b hb HS7.out); clear hb)
        | (refine wpList_storeNew rfl rfl 53 _ _ rfl rfl #[.int .i64 b0, .int .i64 b1, .int .i64 b2, .int .i64 b3] rfl 53 #[.int .i64 0, .int .i64 0, .int .i64 0, .int .i64 0] info_geom rfl (one4 _ _ _ _) ?_; refine As.out ?_))
      refine As.mk ?_
      have HB9 := As.mk (below_alloc HB8.out (.cells #[.int .i64 b0, .int .i64 b1, .int .i64 b2, .int .i64 b3] 53))
      have HQ9 := As.mk (g9b (below_alloc (Below.refl w8.heap.size w8) (.cells #[.int .i64 b0, .int .i64 b1, .int .i64 b2, .int .i64 b3] 53)) HQ8.out)
      have HS9 := As.mk (g9b (below_alloc (Below.refl w8.heap.size w8) (.cells #[.int .i64 b0, .int .i64 b1, .int .i64 b2, .int .i64 b3] 53)) HS8.out)
      have HT9 := As.mk (heap_alloc_new w8 (.cells #[.int .i64 b0, .int .i64 b1, .int .i64 b2, .int .i64 b3] 53))
      generalize w8.alloc (.cells #[.int .i64 b0, .int .i64 b1, .int .i64 b2, .int .i64 b3] 53) = w9 at *
      generalize w8.heap.size = g9 at *
      have x0 := cell_of_row _ _ 0 _ _ _ HT9.out
      have x1 := cell_of_row _ _ 1 _ _ _ HT9.out
      have x2 := cell_of_row _ _ 2 _ _ _ HT9.out
      have x3 := cell_of_row _ _ 3 _ _ _ HT9.out
      have y0 := cell_of_row _ _ 0 _ _ _ HQ9.out
      have y1 := cell_of_row _ _ 1 _ _ _ HQ9.out
      have y2 := cell_of_row _ _ 2 _ _ _ HQ9.out
      have y3 := cell_of_row _ _ 3 _ _ _ HQ9.out
      have z0 := cell_of_row _ _ 0 _ _ _ HS9.out
      have z1 := cell_of_row _ _ 1 _ _ _ HS9.out
      have z2 := cell_of_row _ _ 2 _ _ _ HS9.out
      have z3 := cell_of_row _ _ 3 _ _ _ HS9.out
      have hq2 := fun W => geom_self W b0 b1 b2 b3
      go_wp2
      go_ret
      exact ⟨rfl, HB9.out⟩
  · by_cases heb : eb = 0
    · have HNR := As.mk (newR_second (a := a) (b := b) (by rw [KB.out.2]; exact heb) (.inl (by rw [KA.out.2]; exact hea)))
      have hvb : verI b = vb := KB.out.1
      rw [TB.out, hvb] at HNR
      clear hvb
      have e0 : (ea != 0) = true := bne_iff_ne.2 hea
      have e1 : (ea == 0) = false := beq_eq_false_iff_ne.2 hea
      have e2 : (eb != 0) = false := by rw [heb]; rfl
      clear hea heb
      go_wp2_with (first
        | (refine wpList_load_row rfl 53 (.tmp 5) rfl g3 rfl 53 #[.int .i64 a0, .int .i64 a1, .int .i64 a2, .int .i64 a3] (0, 0) _ HP7.out Try.underlying53 rfl info_geom ?_)
        | (refine wpList_load_row rfl 53 (.tmp 8) rfl g5 rfl 53 #[.int .i64 a0, .int .i64 a1, .int .i64 a2, .int .i64 a3] (0, 0) _ HQ7.out Try.underlying53 rfl info_geom ?_)
        | (go_at_call 44; (with_reducible refine (newestK a b HA.out HBY.out A B n m c d w7 _ HNR.out HX7.out HY7.out HN.out HM.out).mono ?_); rintro e w8 ⟨rfl, hb⟩; have HB8 := As.mk (below_step HB7.out hb); have HQ8 := As.mk (g9b hb HQ7.out); have HS8 := As.mk (g9b hb HS7.out); clear hb)
        | (refine wpList_storeNew rfl rfl 53 _ _ rfl rfl #[.int .i64 b0, .int .i64 b1, .int .i64 b2, .int .i64 b3] rfl 53 #[.int .i64 0, .int .i64 0, .int .i64 0, .int .i64 0] info_geom rfl (one4 _ _ _ _) ?_; refine As.out ?_))
      refine As.mk ?_
      have HB9 := As.mk (below_alloc HB8.out (.cells #[.int .i64 b0, .int .i64 b1, .int .i64 b2, .int .i64 b3] 53))
      have HQ9 := As.mk (g9b (below_alloc (Below.refl w8.heap.size w8) (.cells #[.int .i64 b0, .int .i64 b1, .int .i64 b2, .int .i64 b3] 53)) HQ8.out)
      have HS9 := As.mk (g9b (below_alloc (Below.refl w8.heap.size w8) (.cells #[.int .i64 b0, .int .i64 b1, .int .i64 b2, .int .i64 b3] 53)) HS8.out)
      have HT9 := As.mk (heap_alloc_new w8 (.cells #[.int .i64 b0, .int .i64 b1, .int .i64 b2, .int .i64 b3] 53))
      generalize w8.alloc (.cells #[.int .i64 b0, .int .i64 b1, .int .i64 b2, .int .i64 b3] 53) = w9 at *
      generalize w8.heap.size = g9 at *
      have x0 := cell_of_row _ _ 0 _ _ _ HT9.out
      have x1 := cell_of_row _ _ 1 _ _ _ HT9.out
      have x2 := cell_of_row _ _ 2 _ _ _ HT9.out
      have x3 := cell_of_row _ _ 3 _ _ _ HT9.out
      have y0 := cell_of_row _ _ 0 _ _ _ HQ9.out
      have y1 := cell_of_row _ _ 1 _ _ _ HQ9.out
      have y2 := cell_of_row _ _ 2 _ _ _ HQ9.out
      have y3 := cell_of_row _ _ 3 _ _ _ HQ9.out
      have z0 := cell_of_row _ _ 0 _ _ _ HS9.out
      have z1 := cell_of_row _ _ 1 _ _ _ HS9.out
      have z2 := cell_of_row _ _ 2 _ _ _ HS9.out
      have z3 := cell_of_row _ _ 3 _ _ _ HS9.out
      have hq2 := fun W => geom_self W b0 b1 b2 b3
      go_wp2
      go_ret
      exact ⟨rfl, HB9.out⟩
    · have HNR := As.mk (newR_none (a := a) (b := b) (by rw [KA.out.2]; exact hea) (by rw [KB.out.2]; exact heb))
      have e0 : (ea != 0) = true := bne_iff_ne.2 hea
      have e2 : (eb != 0) = true := bne_iff_ne.2 heb
      clear hea heb
      go_wp2_with (first
        | (refine wpList_load_row rfl 53 (.tmp 5) rfl g3 rfl 53 #[.int .i64 a0, .int .i64 a1, .int .i64 a2, .int .i64 a3] (0, 0) _ HP7.out Try.underlying53 rfl info_geom ?_)
        | (refine wpList_load_row rfl 53 (.tmp 8) rfl g5 rfl 53 #[.int .i64 a0, .int .i64 a1, .int .i64 a2, .int .i64 a3] (0, 0) _ HQ7.out Try.underlying53 rfl info_geom ?_)
        | (go_at_call 44; (with_reducible refine (newestK a b HA.out HBY.out A B n m c d w7 _ HNR.out HX7.out HY7.out HN.out HM.out).mono ?_); rintro e w8 ⟨rfl, hb⟩; have HB8 := As.mk (below_step HB7.out hb); have HQ8 := As.mk (g9b hb HQ7.out); have HS8 := As.mk (g9b hb HS7.out); clear hb)
        | (refine wpList_storeNew rfl rfl 53 _ _ rfl rfl #[.int .i64 0, .int .i64 0, .int .i64 0, .int .i64 0] rfl 53 #[.int .i64 0, .int .i64 0, .int .i64 0, .int .i64 0] info_geom rfl (one4 _ _ _ _) ?_; refine As.out ?_))
      refine As.mk ?_
      have HB9 := As.mk (below_alloc HB8.out (.cells #[.int .i64 0, .int .i64 0, .int .i64 0, .int .i64 0] 53))
      have HQ9 := As.mk (g9b (below_alloc (Below.refl w8.heap.size w8) (.cells #[.int .i64 0, .int .i64 0, .int .i64 0, .int .i64 0] 53)) HQ8.out)
      have HS9 := As.mk (g9b (below_alloc (Below.refl w8.heap.size w8) (.cells #[.int .i64 0, .int .i64 0, .int .i64 0, .int .i64 0] 53)) HS8.out)
      have HT9 := As.mk (heap_alloc_new w8 (.cells #[.int .i64 0, .int .i64 0, .int .i64 0, .int .i64 0] 53))
      generalize w8.alloc (.cells #[.int .i64 0, .int .i64 0, .int .i64 0, .int .i64 0] 53) = w9 at *
      generalize w8.heap.size = g9 at *
      have x0 := cell_of_row _ _ 0 _ _ _ HT9.out
      have x1 := cell_of_row _ _ 1 _ _ _ HT9.out
      have x2 := cell_of_row _ _ 2 _ _ _ HT9.out
      have x3 := cell_of_row _ _ 3 _ _ _ HT9.out
      have y0 := cell_of_row _ _ 0 _ _ _ HQ9.out
      have y1 := cell_of_row _ _ 1 _ _ _ HQ9.out
      have y2 := cell_of_row _ _ 2 _ _ _ HQ9.out
      have y3 := cell_of_row _ _ 3 _ _ _ HQ9.out
      have z0 := cell_of_row _ _ 0 _ _ _ HS9.out
      have z1 := cell_of_row _ _ 1 _ _ _ HS9.out
      have z2 := cell_of_row _ _ 2 _ _ _ HS9.out
      have z3 := cell_of_row _ _ 3 _ _ _ HS9.out
      have hq2 := fun W => geom_self W 0 0 0 0
      go_wp2
      go_ret
      exact ⟨rfl, HB9.out⟩
theorem takes_walk (A : Option Addr) (n c : Nat) (a : List Int) (B : Option Addr) (m d : Nat) (b : List Int) (w : World) (h0 : Rd .u8 w A n c a) (ha : ∀ v ∈ a, (Lit.int .u8 v).wf = true) (_ : n * 1 ≤ 140737488351232)
    (h1 : Rd .u8 w B m d b) (hb : ∀ v ∈ b, (Lit.int .u8 v).wf = true) (_ : m * 1 ≤ 140737488351232) :
    Calls Try.prog 6 #[.slice A n c, .slice B m d] w fun e w' => e = .returned (.bool true) ∧ Below w.heap.size w w' := by
  by_cases h : 300 < n ∨ 300 < m
  · exact takes_far A B n m c d w h
  · exact takes_near a b (byte_of ha) (byte_of hb) A B n m c d w (by omega) (by omega) h0 h1
end Go.Proofs.Ytjcofbjfolaoiaa.SlotP
