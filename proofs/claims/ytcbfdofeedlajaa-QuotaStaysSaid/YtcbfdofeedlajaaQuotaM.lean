/- QuotaMoves: the chapter's example, and the statement. -/
import Derived.Test.YtcbfdofeedlajaaQuotaL
namespace Go.Proofs.Ytcbfdofeedlajaa.QuotaW
set_option linter.unusedVariables false
set_option linter.unusedSimpArgs false
open Go Go.RowKit Go.Sort Go.Proofs.Ytcbfdofeedlajaa.Mem Go.Proofs.Ytcbfdofeedlajaa.Flat Go.Proofs.Ytcbfdofeedlajaa.QuotaP

def awT : Tn := ⟨1, 5, 0, fun _ => 0⟩
theorem wpList_buildT {ops : Array Oper} {rest : List Oper} {o : Oper} {a : Act} {w : World} {Q : Exit → Act → World → Prop} (hgd : o.guard = none) (ho : o.op = .build 49 #[(0, .const (.int .i64 1)), (1, .const (.int .i64 5))])
    (h : wpList Try.prog ops Q rest (a.put o.dst (.agg awT.row.toArray)) w) : wpList Try.prog ops Q (o :: rest) a w := by
  refine wpList_run hgd _ ?_ h
  unfold execOp
  simp only [ho]
  kernel_rfl
theorem aw_join : JoinB [] 1 5 0 8 true true true true true := ⟨rfl, by decide, by decide, rfl, by decide⟩
theorem aw_right (u : Int) (h : 0 ≤ u ∧ u ≤ 5) : rightB [⟨1, 5, u, fun _ => 0⟩] = true := by
  rw [rightB_iff]
  intro i hi
  obtain rfl : i = 0 := by simp at hi; omega
  show okAt 0 ⟨1, 5, u, fun _ => 0⟩ = true
  rw [okAt_iff]
  simp only
  omega
theorem aw_first (u : Int) : 0 < 1 ∧ firstI 1 [⟨1, 5, u, fun _ => 0⟩] 0 := ⟨by omega, rfl, fun k hk => by omega⟩
set_option maxHeartbeats 2000000 in
set_option maxRecDepth 100000 in
theorem awake_true (w : World) : Calls Try.prog 26 #[] w fun e w' => e = .returned (.bool true) ∧ Below w.heap.size w w' := by
  have HR := As.mk (RowOf.of awT)
  go_enter Try.func26, Try.ntmps26
  go_wp2_with (first
    | (refine wpList_buildT rfl rfl ?_)
    | (go_at_call 34; refine As.out ?_))
  refine As.mk ?_
  refine (join_own [] awT.row 1 5 0 8 HR.out none 0 0 w (by decide) (RdT.nil _ _ _ _ _ (by decide)) aw_join (fun k hk => by omega) (by show (tot_q [] + 5 : Int) ≤ 8; decide) (by decide) awT rfl rfl).mono ?_
  rintro e w1 ⟨g, cc, l, rfl, hp, hs, hr, hb⟩
  obtain rfl : l = [awT] := by simpa using hp
  have H1 := As.mk hr
  have HB1 := As.mk hb
  clear hp hs hr hb
  go_wp2_with (first
    | (go_at_call 28; refine As.out ?_))
  refine As.mk ?_
  refine (move_ok [awT] 1 3 (some ⟨g, 0, none⟩) 1 cc w1 (by decide) H1.out (aw_right 0 (by decide)) 0 (aw_first 0) (by decide)).mono ?_
  rintro e w2 ⟨v, rfl, ho, hb⟩
  obtain ⟨g2, c2, rfl, _, _, _, _⟩ := own_head ho (by omega)
  have HM : As (RdT Tn.row 35 w2 (some ⟨g2, 0, none⟩) 1 c2 [⟨1, 5, 3, fun _ => 0⟩]) := ⟨by
    obtain ⟨A, c, e, h⟩ := own_rdT row_len (by decide) ho (by rw [moved_len]; rfl)
    cases e
    exact h⟩
  have HB2 := As.mk (below_step HB1.out hb)
  clear ho hb
  go_wp2_with (first
    | (go_at_call 28; refine As.out ?_))
  refine As.mk ?_
  refine (move_bad [⟨1, 5, 3, fun _ => 0⟩] 1 3 (some ⟨g2, 0, none⟩) 1 c2 w2 (by decide) HM.out (aw_right 3 (by decide)) 0 (aw_first 3) 33 (by decide) (by decide)).mono ?_
  rintro e w3 ⟨rfl, hb⟩
  have HB3 := As.mk (below_step HB2.out hb)
  have z2 : w3.cell? ⟨g2, 2, none⟩ = some (.int .i64 3) := by
    obtain ⟨ad, e, h1⟩ := (HM.out.below hb).at 0 (by omega)
    cases e
    exact h1 2 _ rfl
  clear hb
  go_wp2
  go_ret
  exact ⟨rfl, HB3.out⟩
set_option maxHeartbeats 400000 in
set_option maxRecDepth 100000 in
theorem moves_far (A : Option Addr) (n c : Nat) (id by_ : Int) (w : World) (h : 40 < n) :
    Calls Try.prog 5 #[.slice A n c, .int .i64 id, .int .i64 by_] w fun e w' => e = .returned (.bool true) ∧ Below w.heap.size w w' := by
  have d3 : decide (40 < (n : Int)) = true := decide_eq_true (by omega)
  have d3' : decide (40 < n) = true := decide_eq_true (by omega)
  clear h
  go_enter Try.func5, Try.ntmps5
  go_wp2_with (go_at_call 26; refine (awake_true _).mono ?_; rintro e w1 ⟨rfl, hb⟩)
  go_ret
  exact ⟨rfl, hb⟩

def atN (j i : Nat) : Int := if i ≤ j then -1 else (j : Int)
theorem atN_lo {j i : Nat} (h : i ≤ j) : atN j i = -1 := by unfold atN; rw [if_pos h]
theorem atN_hi {j i : Nat} (h : j < i) : atN j i = (j : Int) := by unfold atN; rw [if_neg (by omega)]
set_option maxHeartbeats 4000000 in
set_option maxRecDepth 100000 in
theorem moves_nr1 (ts : List Tn) (A : Option Addr) (n c : Nat) (id by_ : Int) (w : World) (hn : n ≤ 40) (h : RdT Tn.row 35 w A n c ts) (j : Nat) (hk : j < n ∧ firstI id ts j) (hr : rightB ts = false) :
    Calls Try.prog 5 #[.slice A n c, .int .i64 id, .int .i64 by_] w fun e w' => e = .returned (.bool true) ∧ Below w.heap.size w w' := by
  have d3 : decide (40 < (n : Int)) = false := decide_eq_false (by omega)
  have d3' : decide (40 < n) = false := decide_eq_false (by omega)
  have HN := As.mk hn
  have H := As.mk h
  have HK := As.mk hk
  have HR := As.mk hr
  clear hn h hk hr
  go_enter Try.func5, Try.ntmps5
  go_wp2_with (first
    | (go_at_call 26; (with_reducible refine (awake_true _).mono ?_); rintro e w1 ⟨rfl, hb⟩; have HB1 := As.mk hb; have H1 := As.mk (H.out.below hb); have HSRC := As.mk ((H1.out.below (below_alloc (Below.refl _ w1) (.cells #[] 49))).src row_len row_one); clear hb)
    | (at_builtin; refine wpList_app rfl _ _ 47 rfl w1.heap.size 49 (.agg zT) 35 56 Try.underlying47 infoC rfl (by decide) _ 0 [] rfl (World.ownsRow_lit w1 #[] 0 (Nat.le_refl _) (by decide) rfl) _ n (ts.flatMap Tn.row) rfl HSRC.out ?c1 ?c2 ?c3 (below_alloc (Below.refl _ w1) _) (Nat.le_refl _) ?_; (case c1 => have := HN.out; unfold maxLen; omega); (case c2 => have := HN.out; omega); (case c3 => simp); intro v2 w2 hown hg hat hb2; simp only [Nat.zero_add, List.nil_append] at hown; obtain ⟨B, d, rfl⟩ := own_slice hown; have HO2 := As.mk hown; have HB2 := As.mk hb2; clear hown hg hat hb2))
  go_loopg [8, 25] n (fun kq v8 v25 wr => ∃ i : Nat, i + kq = n ∧ v8 = .int .i64 (atN j i) ∧ v25 = .int .i64 i ∧ As (Below w1.heap.size w1 wr) ∧ As (wr.ownsRow w1.heap.size 49 35 (.slice B n d) n (ts.flatMap Tn.row)))
  case atStart => exact ⟨0, by omega, by rw [atN_lo (by omega)], rfl, HB2, HO2⟩
  case round =>
    obtain ⟨i, hi, rfl, rfl, HB, HO⟩ := hrel
    have HI := As.mk hi
    clear hi
    by_cases hlt : i < n
    · have c0 : decide ((i : Int) < (n : Int)) = true := decide_eq_true (by omega)
      have c1 : decide (i < n) = true := decide_eq_true hlt
      have lt' : (i : Int) < (n : Int) := by omega
      have hw : wrap64 ((i : Int) + 1) = ((i + 1 : Nat) : Int) := wrap_up (by have := HN.out; omega)
      obtain ⟨ad, ea, h1⟩ := (H1.out.below HB.out).at i hlt
      cases ea
      have HRW := As.mk (RowOf.of (nthT ts i))
      generalize hR : (nthT ts i).row = R at h1 HRW
      clear hR
      have HC1 := As.mk h1
      clear h1
      obtain ⟨x, hx⟩ : ∃ x, (nthT ts i).id = x := ⟨_, rfl⟩
      rw [hx] at HRW
      have HX := As.mk hx
      clear hx
      generalize (nthT ts i).q = q at HRW
      generalize (nthT ts i).u = u at HRW
      have HLT := As.mk hlt
      clear hlt
      rcases Nat.lt_trichotomy i j with hij | hij | hij
      · rw [atN_lo (by omega)]
        have hne : (x == id) = false := by
          have := HK.out.2.2 i hij
          rw [HX.out] at this
          simpa using this
        have HIJ := As.mk hij
        clear hij
        go_wp2_with (first
          | (refine wpList_load_at rfl 49 (.tmp 28) rfl (ad.add (i * 35)) rfl R _ HC1.out Try.underlying49 rfl HRW.out.info ?_)
          | (refine wpList_allocArr rfl 49 rfl zT zT_info ?_)
          | (refine wpList_storeNew rfl rfl 49 _ _ rfl rfl R.toArray rfl 49 zT HRW.out.info' HRW.out.zs HRW.out.one ?_; refine As.out ?_))
        refine As.mk ?_
        have hal := below_alloc (Below.refl wr.heap.size wr) (.cells R.toArray 49)
        have HB3 := As.mk (below_step HB.out hal)
        have HO3 := As.mk (own_below HO.out hal)
        have HW3 := As.mk (heap_alloc_new wr (.cells R.toArray 49))
        clear hal
        generalize wr.alloc (.cells R.toArray 49) = w3 at *
        generalize wr.heap.size = g3 at *
        obtain ⟨z0, z1, z2⟩ := HRW.out.cell HW3.out
        go_wp2
        go_roundg (n - (i + 1))
        case measure => have := HI.out; have := HLT.out; omega
        case rel => exact ⟨i + 1, by have := HI.out; have := HLT.out; omega, by rw [atN_lo (by have := HIJ.out; omega)], by go_num, HB3, HO3⟩
      · rw [atN_lo (by omega)]
        have hne : (x == id) = true := by
          have := HK.out.2.1
          rw [← hij, HX.out] at this
          simpa using this
        have HIJ := As.mk hij
        clear hij
        go_wp2_with (first
          | (refine wpList_load_at rfl 49 (.tmp 28) rfl (ad.add (i * 35)) rfl R _ HC1.out Try.underlying49 rfl HRW.out.info ?_)
          | (refine wpList_allocArr rfl 49 rfl zT zT_info ?_)
          | (refine wpList_storeNew rfl rfl 49 _ _ rfl rfl R.toArray rfl 49 zT HRW.out.info' HRW.out.zs HRW.out.one ?_; refine As.out ?_))
        refine As.mk ?_
        have hal := below_alloc (Below.refl wr.heap.size wr) (.cells R.toArray 49)
        have HB3 := As.mk (below_step HB.out hal)
        have HO3 := As.mk (own_below HO.out hal)
        have HW3 := As.mk (heap_alloc_new wr (.cells R.toArray 49))
        clear hal
        generalize wr.alloc (.cells R.toArray 49) = w3 at *
        generalize wr.heap.size = g3 at *
        obtain ⟨z0, z1, z2⟩ := HRW.out.cell HW3.out
        go_wp2
        go_roundg (n - (i + 1))
        case measure => have := HI.out; have := HLT.out; omega
        case rel => exact ⟨i + 1, by have := HI.out; have := HLT.out; omega, by rw [atN_hi (by have := HIJ.out; omega), HIJ.out], by go_num, HB3, HO3⟩
      · rw [atN_hi (by omega)]
        have hj0 : decide ((j : Int) < 0) = false := decide_eq_false (by omega)
        have HIJ := As.mk hij
        clear hij
        go_wp2_with (first
          | (refine wpList_load_at rfl 49 (.tmp 28) rfl (ad.add (i * 35)) rfl R _ HC1.out Try.underlying49 rfl HRW.out.info ?_)
          | (refine wpList_allocArr rfl 49 rfl zT zT_info ?_)
          | (refine wpList_storeNew rfl rfl 49 _ _ rfl rfl R.toArray rfl 49 zT HRW.out.info' HRW.out.zs HRW.out.one ?_; refine As.out ?_))
        refine As.mk ?_
        have hal := below_alloc (Below.refl wr.heap.size wr) (.cells R.toArray 49)
        have HB3 := As.mk (below_step HB.out hal)
        have HO3 := As.mk (own_below HO.out hal)
        have HW3 := As.mk (heap_alloc_new wr (.cells R.toArray 49))
        clear hal
        generalize wr.alloc (.cells R.toArray 49) = w3 at *
        generalize wr.heap.size = g3 at *
        obtain ⟨z0, z1, z2⟩ := HRW.out.cell HW3.out
        go_wp2
        go_roundg (n - (i + 1))
        case measure => have := HI.out; have := HLT.out; omega
        case rel => exact ⟨i + 1, by have := HI.out; have := HLT.out; omega, by rw [atN_hi (by have := HIJ.out; omega)], by go_num, HB3, HO3⟩
    · have c0 : decide ((i : Int) < (n : Int)) = false := decide_eq_false (by omega)
      have c1 : decide (i < n) = false := decide_eq_false hlt
      obtain rfl : i = n := by have := HI.out; omega
      clear hlt
      rw [atN_hi HK.out.1]
      have hj1 : decide ((0 : Int) ≤ (j : Int)) = true := decide_eq_true (by omega)
      have hj2 : ((j : Int) != (j : Int)) = false := by simp
      have hj3 : decide ((j : Int) < 0) = false := decide_eq_false (by omega)
      go_wp2_with (first
        | (go_at_call 27; (with_reducible refine (find_hit id ts A i c wr (by have := HN.out; omega) (H1.out.below HB.out) j HK.out).mono ?_); rintro e w4 ⟨rfl, hb⟩; have HB4 := As.mk (below_step HB.out hb); have HO4 := As.mk (own_below HO.out hb); clear hb)
        | (go_at_call 28; (with_reducible refine (move_right ts id by_ A i c w4 (by have := HN.out; omega) (H1.out.below HB4.out) HR.out).mono ?_); rintro e w5 ⟨rfl, hb⟩; have HB5 := As.mk (below_step HB4.out hb); have HO5 := As.mk (own_below HO4.out hb); clear hb; refine As.out ?_))
      refine As.mk ?_
      have HD5 : As (RdT Tn.row 35 w5 B i d ts) := ⟨by
        obtain ⟨A', c', e', h'⟩ := own_rdT row_len (by decide) HO5.out H.out.len
        cases e'
        exact h'⟩
      have HA5 := As.mk (H1.out.below HB5.out)
      go_wp2_with (first
        | (go_at_call 29; (with_reducible refine (same_true ts A B i c d w5 (by have := HN.out; omega) HA5.out HD5.out).mono ?_); rintro e w6 ⟨rfl, hb⟩; have HB6 := As.mk (below_step HB5.out hb); have HA6 := As.mk (HA5.out.below hb); have HO6 := As.mk (own_below HO5.out hb); clear hb)
        | (go_at_call 30; (with_reducible refine (rightL_any ts A i c w6 (by have := HN.out; omega) HA6.out).mono ?_); rintro e w7 ⟨rfl, hb⟩; rw [HR.out]; have HB7 := As.mk (below_step HB6.out hb); have HA7 := As.mk (HA6.out.below hb); have HO7 := As.mk (own_below HO6.out hb); clear hb; refine As.out ?_))
      refine As.mk ?_
      go_wp2
      go_ret
      exact ⟨rfl, HB1.out.trans (HB7.out.mono HB1.out.size)⟩

set_option maxHeartbeats 4000000 in
set_option maxRecDepth 100000 in
theorem moves_nr0 (ts : List Tn) (A : Option Addr) (n c : Nat) (id by_ : Int) (w : World) (hn : n ≤ 40) (h : RdT Tn.row 35 w A n c ts) (hk : ∀ k, k < n → (nthT ts k).id ≠ id) (hr : rightB ts = false) :
    Calls Try.prog 5 #[.slice A n c, .int .i64 id, .int .i64 by_] w fun e w' => e = .returned (.bool true) ∧ Below w.heap.size w w' := by
  have d3 : decide (40 < (n : Int)) = false := decide_eq_false (by omega)
  have d3' : decide (40 < n) = false := decide_eq_false (by omega)
  have HN := As.mk hn
  have H := As.mk h
  have HK := As.mk hk
  have HR := As.mk hr
  clear hn h hk hr
  go_enter Try.func5, Try.ntmps5
  go_wp2_with (first
    | (go_at_call 26; (with_reducible refine (awake_true _).mono ?_); rintro e w1 ⟨rfl, hb⟩; have HB1 := As.mk hb; have H1 := As.mk (H.out.below hb); have HSRC := As.mk ((H1.out.below (below_alloc (Below.refl _ w1) (.cells #[] 49))).src row_len row_one); clear hb)
    | (at_builtin; refine wpList_app rfl _ _ 47 rfl w1.heap.size 49 (.agg zT) 35 56 Try.underlying47 infoC rfl (by decide) _ 0 [] rfl (World.ownsRow_lit w1 #[] 0 (Nat.le_refl _) (by decide) rfl) _ n (ts.flatMap Tn.row) rfl HSRC.out ?c1 ?c2 ?c3 (below_alloc (Below.refl _ w1) _) (Nat.le_refl _) ?_; (case c1 => have := HN.out; unfold maxLen; omega); (case c2 => have := HN.out; omega); (case c3 => simp); intro v2 w2 hown hg hat hb2; simp only [Nat.zero_add, List.nil_append] at hown; obtain ⟨B, d, rfl⟩ := own_slice hown; have HO2 := As.mk hown; have HB2 := As.mk hb2; clear hown hg hat hb2))
  go_loopg [8, 25] n (fun kq v8 v25 wr => ∃ i : Nat, i + kq = n ∧ v8 = .int .i64 (-1) ∧ v25 = .int .i64 i ∧ As (Below w1.heap.size w1 wr) ∧ As (wr.ownsRow w1.heap.size 49 35 (.slice B n d) n (ts.flatMap Tn.row)))
  case atStart => exact ⟨0, by omega, rfl, rfl, HB2, HO2⟩
  case round =>
    obtain ⟨i, hi, rfl, rfl, HB, HO⟩ := hrel
    have HI := As.mk hi
    clear hi
    by_cases hlt : i < n
    · have c0 : decide ((i : Int) < (n : Int)) = true := decide_eq_true (by omega)
      have c1 : decide (i < n) = true := decide_eq_true hlt
      have lt' : (i : Int) < (n : Int) := by omega
      have hw : wrap64 ((i : Int) + 1) = ((i + 1 : Nat) : Int) := wrap_up (by have := HN.out; omega)
      obtain ⟨ad, ea, h1⟩ := (H1.out.below HB.out).at i hlt
      cases ea
      have HRW := As.mk (RowOf.of (nthT ts i))
      generalize hR : (nthT ts i).row = R at h1 HRW
      clear hR
      have HC1 := As.mk h1
      clear h1
      obtain ⟨x, hx⟩ : ∃ x, (nthT ts i).id = x := ⟨_, rfl⟩
      rw [hx] at HRW
      have HX := As.mk hx
      clear hx
      generalize (nthT ts i).q = q at HRW
      generalize (nthT ts i).u = u at HRW
      have HLT := As.mk hlt
      clear hlt
      have hne : (x == id) = false := by
        have := HK.out i HLT.out
        rw [HX.out] at this
        simpa using this
      go_wp2_with (first
        | (refine wpList_load_at rfl 49 (.tmp 28) rfl (ad.add (i * 35)) rfl R _ HC1.out Try.underlying49 rfl HRW.out.info ?_)
        | (refine wpList_allocArr rfl 49 rfl zT zT_info ?_)
        | (refine wpList_storeNew rfl rfl 49 _ _ rfl rfl R.toArray rfl 49 zT HRW.out.info' HRW.out.zs HRW.out.one ?_; refine As.out ?_))
      refine As.mk ?_
      have hal := below_alloc (Below.refl wr.heap.size wr) (.cells R.toArray 49)
      have HB3 := As.mk (below_step HB.out hal)
      have HO3 := As.mk (own_below HO.out hal)
      have HW3 := As.mk (heap_alloc_new wr (.cells R.toArray 49))
      clear hal
      generalize wr.alloc (.cells R.toArray 49) = w3 at *
      generalize wr.heap.size = g3 at *
      obtain ⟨z0, z1, z2⟩ := HRW.out.cell HW3.out
      go_wp2
      go_roundg (n - (i + 1))
      case measure => have := HI.out; have := HLT.out; omega
      case rel => exact ⟨i + 1, by have := HI.out; have := HLT.out; omega, rfl, by go_num, HB3, HO3⟩
    · have c0 : decide ((i : Int) < (n : Int)) = false := decide_eq_false (by omega)
      have c1 : decide (i < n) = false := decide_eq_false hlt
      obtain rfl : i = n := by have := HI.out; omega
      clear hlt
      go_wp2_with (first
        | (go_at_call 27; (with_reducible refine (find_none id ts A i c wr (by have := HN.out; omega) (H1.out.below HB.out) HK.out).mono ?_); rintro e w4 ⟨rfl, hb⟩; have HB4 := As.mk (below_step HB.out hb); have HO4 := As.mk (own_below HO.out hb); clear hb)
        | (go_at_call 28; (with_reducible refine (move_right ts id by_ A i c w4 (by have := HN.out; omega) (H1.out.below HB4.out) HR.out).mono ?_); rintro e w5 ⟨rfl, hb⟩; have HB5 := As.mk (below_step HB4.out hb); have HO5 := As.mk (own_below HO4.out hb); clear hb; refine As.out ?_))
      refine As.mk ?_
      have HD5 : As (RdT Tn.row 35 w5 B i d ts) := ⟨by
        obtain ⟨A', c', e', h'⟩ := own_rdT row_len (by decide) HO5.out H.out.len
        cases e'
        exact h'⟩
      have HA5 := As.mk (H1.out.below HB5.out)
      go_wp2_with (first
        | (go_at_call 29; (with_reducible refine (same_true ts A B i c d w5 (by have := HN.out; omega) HA5.out HD5.out).mono ?_); rintro e w6 ⟨rfl, hb⟩; have HB6 := As.mk (below_step HB5.out hb); have HA6 := As.mk (HA5.out.below hb); have HO6 := As.mk (own_below HO5.out hb); clear hb)
        | (go_at_call 30; (with_reducible refine (rightL_any ts A i c w6 (by have := HN.out; omega) HA6.out).mono ?_); rintro e w7 ⟨rfl, hb⟩; rw [HR.out]; have HB7 := As.mk (below_step HB6.out hb); have HA7 := As.mk (HA6.out.below hb); have HO7 := As.mk (own_below HO6.out hb); clear hb; refine As.out ?_))
      refine As.mk ?_
      go_wp2
      go_ret
      exact ⟨rfl, HB1.out.trans (HB7.out.mono HB1.out.size)⟩

set_option maxHeartbeats 4000000 in
set_option maxRecDepth 100000 in
theorem moves_none (ts : List Tn) (A : Option Addr) (n c : Nat) (id by_ : Int) (w : World) (hn : n ≤ 40) (h : RdT Tn.row 35 w A n c ts) (hk : ∀ k, k < n → (nthT ts k).id ≠ id) (hr : rightB ts = true) :
    Calls Try.prog 5 #[.slice A n c, .int .i64 id, .int .i64 by_] w fun e w' => e = .returned (.bool true) ∧ Below w.heap.size w w' := by
  have d3 : decide (40 < (n : Int)) = false := decide_eq_false (by omega)
  have d3' : decide (40 < n) = false := decide_eq_false (by omega)
  have HN := As.mk hn
  have H := As.mk h
  have HK := As.mk hk
  have HR := As.mk hr
  clear hn h hk hr
  go_enter Try.func5, Try.ntmps5
  go_wp2_with (first
    | (go_at_call 26; (with_reducible refine (awake_true _).mono ?_); rintro e w1 ⟨rfl, hb⟩; have HB1 := As.mk hb; have H1 := As.mk (H.out.below hb); have HSRC := As.mk ((H1.out.below (below_alloc (Below.refl _ w1) (.cells #[] 49))).src row_len row_one); clear hb)
    | (at_builtin; refine wpList_app rfl _ _ 47 rfl w1.heap.size 49 (.agg zT) 35 56 Try.underlying47 infoC rfl (by decide) _ 0 [] rfl (World.ownsRow_lit w1 #[] 0 (Nat.le_refl _) (by decide) rfl) _ n (ts.flatMap Tn.row) rfl HSRC.out ?c1 ?c2 ?c3 (below_alloc (Below.refl _ w1) _) (Nat.le_refl _) ?_; (case c1 => have := HN.out; unfold maxLen; omega); (case c2 => have := HN.out; omega); (case c3 => simp); intro v2 w2 hown hg hat hb2; simp only [Nat.zero_add, List.nil_append] at hown; obtain ⟨B, d, rfl⟩ := own_slice hown; have HO2 := As.mk hown; have HB2 := As.mk hb2; clear hown hg hat hb2))
  go_loopg [8, 25] n (fun kq v8 v25 wr => ∃ i : Nat, i + kq = n ∧ v8 = .int .i64 (-1) ∧ v25 = .int .i64 i ∧ As (Below w1.heap.size w1 wr) ∧ As (wr.ownsRow w1.heap.size 49 35 (.slice B n d) n (ts.flatMap Tn.row)))
  case atStart => exact ⟨0, by omega, rfl, rfl, HB2, HO2⟩
  case round =>
    obtain ⟨i, hi, rfl, rfl, HB, HO⟩ := hrel
    have HI := As.mk hi
    clear hi
    by_cases hlt : i < n
    · have c0 : decide ((i : Int) < (n : Int)) = true := decide_eq_true (by omega)
      have c1 : decide (i < n) = true := decide_eq_true hlt
      have lt' : (i : Int) < (n : Int) := by omega
      have hw : wrap64 ((i : Int) + 1) = ((i + 1 : Nat) : Int) := wrap_up (by have := HN.out; omega)
      obtain ⟨ad, ea, h1⟩ := (H1.out.below HB.out).at i hlt
      cases ea
      have HRW := As.mk (RowOf.of (nthT ts i))
      generalize hR : (nthT ts i).row = R at h1 HRW
      clear hR
      have HC1 := As.mk h1
      clear h1
      obtain ⟨x, hx⟩ : ∃ x, (nthT ts i).id = x := ⟨_, rfl⟩
      rw [hx] at HRW
      have HX := As.mk hx
      clear hx
      generalize (nthT ts i).q = q at HRW
      generalize (nthT ts i).u = u at HRW
      have HLT := As.mk hlt
      clear hlt
      have hne : (x == id) = false := by
        have := HK.out i HLT.out
        rw [HX.out] at this
        simpa using this
      go_wp2_with (first
        | (refine wpList_load_at rfl 49 (.tmp 28) rfl (ad.add (i * 35)) rfl R _ HC1.out Try.underlying49 rfl HRW.out.info ?_)
        | (refine wpList_allocArr rfl 49 rfl zT zT_info ?_)
        | (refine wpList_storeNew rfl rfl 49 _ _ rfl rfl R.toArray rfl 49 zT HRW.out.info' HRW.out.zs HRW.out.one ?_; refine As.out ?_))
      refine As.mk ?_
      have hal := below_alloc (Below.refl wr.heap.size wr) (.cells R.toArray 49)
      have HB3 := As.mk (below_step HB.out hal)
      have HO3 := As.mk (own_below HO.out hal)
      have HW3 := As.mk (heap_alloc_new wr (.cells R.toArray 49))
      clear hal
      generalize wr.alloc (.cells R.toArray 49) = w3 at *
      generalize wr.heap.size = g3 at *
      obtain ⟨z0, z1, z2⟩ := HRW.out.cell HW3.out
      go_wp2
      go_roundg (n - (i + 1))
      case measure => have := HI.out; have := HLT.out; omega
      case rel => exact ⟨i + 1, by have := HI.out; have := HLT.out; omega, rfl, by go_num, HB3, HO3⟩
    · have c0 : decide ((i : Int) < (n : Int)) = false := decide_eq_false (by omega)
      have c1 : decide (i < n) = false := decide_eq_false hlt
      obtain rfl : i = n := by have := HI.out; omega
      clear hlt
      go_wp2_with (first
        | (go_at_call 27; (with_reducible refine (find_none id ts A i c wr (by have := HN.out; omega) (H1.out.below HB.out) HK.out).mono ?_); rintro e w4 ⟨rfl, hb⟩; have HB4 := As.mk (below_step HB.out hb); have HO4 := As.mk (own_below HO.out hb); clear hb)
        | (go_at_call 28; (with_reducible refine (move_none ts id by_ A i c w4 (by have := HN.out; omega) (H1.out.below HB4.out) HR.out HK.out).mono ?_); rintro e w5 ⟨rfl, hb⟩; have HB5 := As.mk (below_step HB4.out hb); have HO5 := As.mk (own_below HO4.out hb); clear hb; refine As.out ?_))
      refine As.mk ?_
      have HD5 : As (RdT Tn.row 35 w5 B i d ts) := ⟨by
        obtain ⟨A', c', e', h'⟩ := own_rdT row_len (by decide) HO5.out H.out.len
        cases e'
        exact h'⟩
      have HA5 := As.mk (H1.out.below HB5.out)
      go_wp2_with (first
        | (go_at_call 29; (with_reducible refine (same_true ts A B i c d w5 (by have := HN.out; omega) HA5.out HD5.out).mono ?_); rintro e w6 ⟨rfl, hb⟩; have HB6 := As.mk (below_step HB5.out hb); have HA6 := As.mk (HA5.out.below hb); have HO6 := As.mk (own_below HO5.out hb); clear hb)
        | (go_at_call 30; (with_reducible refine (rightL_any ts A i c w6 (by have := HN.out; omega) HA6.out).mono ?_); rintro e w7 ⟨rfl, hb⟩; rw [HR.out]; have HB7 := As.mk (below_step HB6.out hb); have HA7 := As.mk (HA6.out.below hb); have HO7 := As.mk (own_below HO6.out hb); clear hb; refine As.out ?_))
      refine As.mk ?_
      go_wp2
      go_ret
      exact ⟨rfl, HB1.out.trans (HB7.out.mono HB1.out.size)⟩

set_option maxHeartbeats 4000000 in
set_option maxRecDepth 100000 in
theorem moves_33 (ts : List Tn) (A : Option Addr) (n c : Nat) (id by_ : Int) (w : World) (hn : n ≤ 40) (h : RdT Tn.row 35 w A n c ts) (j : Nat) (hk : j < n ∧ firstI id ts j) (hr : rightB ts = true) (hm : moveE (nthT ts j) by_ = 33) :
    Calls Try.prog 5 #[.slice A n c, .int .i64 id, .int .i64 by_] w fun e w' => e = .returned (.bool true) ∧ Below w.heap.size w w' := by
  have d3 : decide (40 < (n : Int)) = false := decide_eq_false (by omega)
  have d3' : decide (40 < n) = false := decide_eq_false (by omega)
  have HN := As.mk hn
  have H := As.mk h
  have HK := As.mk hk
  have HR := As.mk hr
  have HM := As.mk hm
  clear hn h hk hr hm
  go_enter Try.func5, Try.ntmps5
  go_wp2_with (first
    | (go_at_call 26; (with_reducible refine (awake_true _).mono ?_); rintro e w1 ⟨rfl, hb⟩; have HB1 := As.mk hb; have H1 := As.mk (H.out.below hb); have HSRC := As.mk ((H1.out.below (below_alloc (Below.refl _ w1) (.cells #[] 49))).src row_len row_one); clear hb)
    | (at_builtin; refine wpList_app rfl _ _ 47 rfl w1.heap.size 49 (.agg zT) 35 56 Try.underlying47 infoC rfl (by decide) _ 0 [] rfl (World.ownsRow_lit w1 #[] 0 (Nat.le_refl _) (by decide) rfl) _ n (ts.flatMap Tn.row) rfl HSRC.out ?c1 ?c2 ?c3 (below_alloc (Below.refl _ w1) _) (Nat.le_refl _) ?_; (case c1 => have := HN.out; unfold maxLen; omega); (case c2 => have := HN.out; omega); (case c3 => simp); intro v2 w2 hown hg hat hb2; simp only [Nat.zero_add, List.nil_append] at hown; obtain ⟨B, d, rfl⟩ := own_slice hown; have HO2 := As.mk hown; have HB2 := As.mk hb2; clear hown hg hat hb2))
  go_loopg [8, 25] n (fun kq v8 v25 wr => ∃ i : Nat, i + kq = n ∧ v8 = .int .i64 (atN j i) ∧ v25 = .int .i64 i ∧ As (Below w1.heap.size w1 wr) ∧ As (wr.ownsRow w1.heap.size 49 35 (.slice B n d) n (ts.flatMap Tn.row)))
  case atStart => exact ⟨0, by omega, by rw [atN_lo (by omega)], rfl, HB2, HO2⟩
  case round =>
    obtain ⟨i, hi, rfl, rfl, HB, HO⟩ := hrel
    have HI := As.mk hi
    clear hi
    by_cases hlt : i < n
    · have c0 : decide ((i : Int) < (n : Int)) = true := decide_eq_true (by omega)
      have c1 : decide (i < n) = true := decide_eq_true hlt
      have lt' : (i : Int) < (n : Int) := by omega
      have hw : wrap64 ((i : Int) + 1) = ((i + 1 : Nat) : Int) := wrap_up (by have := HN.out; omega)
      obtain ⟨ad, ea, h1⟩ := (H1.out.below HB.out).at i hlt
      cases ea
      have HRW := As.mk (RowOf.of (nthT ts i))
      generalize hR : (nthT ts i).row = R at h1 HRW
      clear hR
      have HC1 := As.mk h1
      clear h1
      obtain ⟨x, hx⟩ : ∃ x, (nthT ts i).id = x := ⟨_, rfl⟩
      rw [hx] at HRW
      have HX := As.mk hx
      clear hx
      generalize (nthT ts i).q = q at HRW
      generalize (nthT ts i).u = u at HRW
      have HLT := As.mk hlt
      clear hlt
      rcases Nat.lt_trichotomy i j with hij | hij | hij
      · rw [atN_lo (by omega)]
        have hne : (x == id) = false := by
          have := HK.out.2.2 i hij
          rw [HX.out] at this
          simpa using this
        have HIJ := As.mk hij
        clear hij
        go_wp2_with (first
          | (refine wpList_load_at rfl 49 (.tmp 28) rfl (ad.add (i * 35)) rfl R _ HC1.out Try.underlying49 rfl HRW.out.info ?_)
          | (refine wpList_allocArr rfl 49 rfl zT zT_info ?_)
          | (refine wpList_storeNew rfl rfl 49 _ _ rfl rfl R.toArray rfl 49 zT HRW.out.info' HRW.out.zs HRW.out.one ?_; refine As.out ?_))
        refine As.mk ?_
        have hal := below_alloc (Below.refl wr.heap.size wr) (.cells R.toArray 49)
        have HB3 := As.mk (below_step HB.out hal)
        have HO3 := As.mk (own_below HO.out hal)
        have HW3 := As.mk (heap_alloc_new wr (.cells R.toArray 49))
        clear hal
        generalize wr.alloc (.cells R.toArray 49) = w3 at *
        generalize wr.heap.size = g3 at *
        obtain ⟨z0, z1, z2⟩ := HRW.out.cell HW3.out
        go_wp2
        go_roundg (n - (i + 1))
        case measure => have := HI.out; have := HLT.out; omega
        case rel => exact ⟨i + 1, by have := HI.out; have := HLT.out; omega, by rw [atN_lo (by have := HIJ.out; omega)], by go_num, HB3, HO3⟩
      · rw [atN_lo (by omega)]
        have hne : (x == id) = true := by
          have := HK.out.2.1
          rw [← hij, HX.out] at this
          simpa using this
        have HIJ := As.mk hij
        clear hij
        go_wp2_with (first
          | (refine wpList_load_at rfl 49 (.tmp 28) rfl (ad.add (i * 35)) rfl R _ HC1.out Try.underlying49 rfl HRW.out.info ?_)
          | (refine wpList_allocArr rfl 49 rfl zT zT_info ?_)
          | (refine wpList_storeNew rfl rfl 49 _ _ rfl rfl R.toArray rfl 49 zT HRW.out.info' HRW.out.zs HRW.out.one ?_; refine As.out ?_))
        refine As.mk ?_
        have hal := below_alloc (Below.refl wr.heap.size wr) (.cells R.toArray 49)
        have HB3 := As.mk (below_step HB.out hal)
        have HO3 := As.mk (own_below HO.out hal)
        have HW3 := As.mk (heap_alloc_new wr (.cells R.toArray 49))
        clear hal
        generalize wr.alloc (.cells R.toArray 49) = w3 at *
        generalize wr.heap.size = g3 at *
        obtain ⟨z0, z1, z2⟩ := HRW.out.cell HW3.out
        go_wp2
        go_roundg (n - (i + 1))
        case measure => have := HI.out; have := HLT.out; omega
        case rel => exact ⟨i + 1, by have := HI.out; have := HLT.out; omega, by rw [atN_hi (by have := HIJ.out; omega), HIJ.out], by go_num, HB3, HO3⟩
      · rw [atN_hi (by omega)]
        have hj0 : decide ((j : Int) < 0) = false := decide_eq_false (by omega)
        have HIJ := As.mk hij
        clear hij
        go_wp2_with (first
          | (refine wpList_load_at rfl 49 (.tmp 28) rfl (ad.add (i * 35)) rfl R _ HC1.out Try.underlying49 rfl HRW.out.info ?_)
          | (refine wpList_allocArr rfl 49 rfl zT zT_info ?_)
          | (refine wpList_storeNew rfl rfl 49 _ _ rfl rfl R.toArray rfl 49 zT HRW.out.info' HRW.out.zs HRW.out.one ?_; refine As.out ?_))
        refine As.mk ?_
        have hal := below_alloc (Below.refl wr.heap.size wr) (.cells R.toArray 49)
        have HB3 := As.mk (below_step HB.out hal)
        have HO3 := As.mk (own_below HO.out hal)
        have HW3 := As.mk (heap_alloc_new wr (.cells R.toArray 49))
        clear hal
        generalize wr.alloc (.cells R.toArray 49) = w3 at *
        generalize wr.heap.size = g3 at *
        obtain ⟨z0, z1, z2⟩ := HRW.out.cell HW3.out
        go_wp2
        go_roundg (n - (i + 1))
        case measure => have := HI.out; have := HLT.out; omega
        case rel => exact ⟨i + 1, by have := HI.out; have := HLT.out; omega, by rw [atN_hi (by have := HIJ.out; omega)], by go_num, HB3, HO3⟩
    · have c0 : decide ((i : Int) < (n : Int)) = false := decide_eq_false (by omega)
      have c1 : decide (i < n) = false := decide_eq_false hlt
      obtain rfl : i = n := by have := HI.out; omega
      clear hlt
      rw [atN_hi HK.out.1]
      have hj1 : decide ((0 : Int) ≤ (j : Int)) = true := decide_eq_true (by omega)
      have hj2 : ((j : Int) != (j : Int)) = false := by simp
      have hj3 : decide ((j : Int) < 0) = false := decide_eq_false (by omega)
      go_wp2_with (first
        | (go_at_call 27; (with_reducible refine (find_hit id ts A i c wr (by have := HN.out; omega) (H1.out.below HB.out) j HK.out).mono ?_); rintro e w4 ⟨rfl, hb⟩; have HB4 := As.mk (below_step HB.out hb); have HO4 := As.mk (own_below HO.out hb); clear hb)
        | (go_at_call 28; (with_reducible refine (move_bad ts id by_ A i c w4 (by have := HN.out; omega) (H1.out.below HB4.out) HR.out j HK.out 33 HM.out (by decide)).mono ?_); rintro e w5 ⟨rfl, hb⟩; have HB5 := As.mk (below_step HB4.out hb); have HO5 := As.mk (own_below HO4.out hb); clear hb; refine As.out ?_))
      refine As.mk ?_
      have HD5 : As (RdT Tn.row 35 w5 B i d ts) := ⟨by
        obtain ⟨A', c', e', h'⟩ := own_rdT row_len (by decide) HO5.out H.out.len
        cases e'
        exact h'⟩
      have HA5 := As.mk (H1.out.below HB5.out)
      go_wp2_with (first
        | (go_at_call 29; (with_reducible refine (same_true ts A B i c d w5 (by have := HN.out; omega) HA5.out HD5.out).mono ?_); rintro e w6 ⟨rfl, hb⟩; have HB6 := As.mk (below_step HB5.out hb); have HA6 := As.mk (HA5.out.below hb); have HO6 := As.mk (own_below HO5.out hb); clear hb)
        | (go_at_call 30; (with_reducible refine (rightL_any ts A i c w6 (by have := HN.out; omega) HA6.out).mono ?_); rintro e w7 ⟨rfl, hb⟩; rw [HR.out]; have HB7 := As.mk (below_step HB6.out hb); have HA7 := As.mk (HA6.out.below hb); have HO7 := As.mk (own_below HO6.out hb); clear hb; refine As.out ?_))
      refine As.mk ?_
      have hjn : j < i := HK.out.1
      have hjn' : (j : Int) < (i : Int) := by omega
      have hb3 := right_bd HR.out j (by rw [H.out.len]; exact hjn)
      obtain ⟨ad, ea, z0, z1, z2, z3, z4⟩ := cells_at HA7.out j hjn
      cases ea
      obtain ⟨t, ht⟩ : ∃ t, nthT ts j = t := ⟨_, rfl⟩
      have HT := As.mk ht
      rw [ht] at z0 z1 z2 z3 z4 hb3 HM
      clear ht
      obtain ⟨x, q, u, ck⟩ := t
      try simp only at z0 z1 z2 z3 z4 hb3
      have hw1 : IntKind.i64.wrap (q - u) = q - u := by rw [IntKind.wrap_i64]; omega
      have hw2 : wrap64 (q - u) = q - u := by unfold wrap64; omega
      have hw3 : wrap64 (-u) = -u := by unfold wrap64; omega
      have hw4 : IntKind.i64.wrap (-u) = -u := by rw [IntKind.wrap_i64]; omega
      have hmv := HM.out
      unfold moveE at hmv
      try simp only at hmv
      have h1 : q - u < by_ := by
        by_cases h1 : q - u < by_
        · exact h1
        · rw [if_neg h1] at hmv
          split at hmv <;> omega
      have d1 : decide (q - u < by_) = true := decide_eq_true h1
      clear h1 hb3 hmv
      go_wp2
      go_quiet (fail)
      go_wp2
      go_ret
      exact ⟨rfl, HB1.out.trans ((below_drewN HB7.out _).mono HB1.out.size)⟩

set_option maxHeartbeats 4000000 in
set_option maxRecDepth 100000 in
theorem moves_2 (ts : List Tn) (A : Option Addr) (n c : Nat) (id by_ : Int) (w : World) (hn : n ≤ 40) (h : RdT Tn.row 35 w A n c ts) (j : Nat) (hk : j < n ∧ firstI id ts j) (hr : rightB ts = true) (hm : moveE (nthT ts j) by_ = 2) :
    Calls Try.prog 5 #[.slice A n c, .int .i64 id, .int .i64 by_] w fun e w' => e = .returned (.bool true) ∧ Below w.heap.size w w' := by
  have d3 : decide (40 < (n : Int)) = false := decide_eq_false (by omega)
  have d3' : decide (40 < n) = false := decide_eq_false (by omega)
  have HN := As.mk hn
  have H := As.mk h
  have HK := As.mk hk
  have HR := As.mk hr
  have HM := As.mk hm
  clear hn h hk hr hm
  go_enter Try.func5, Try.ntmps5
  go_wp2_with (first
    | (go_at_call 26; (with_reducible refine (awake_true _).mono ?_); rintro e w1 ⟨rfl, hb⟩; have HB1 := As.mk hb; have H1 := As.mk (H.out.below hb); have HSRC := As.mk ((H1.out.below (below_alloc (Below.refl _ w1) (.cells #[] 49))).src row_len row_one); clear hb)
    | (at_builtin; refine wpList_app rfl _ _ 47 rfl w1.heap.size 49 (.agg zT) 35 56 Try.underlying47 infoC rfl (by decide) _ 0 [] rfl (World.ownsRow_lit w1 #[] 0 (Nat.le_refl _) (by decide) rfl) _ n (ts.flatMap Tn.row) rfl HSRC.out ?c1 ?c2 ?c3 (below_alloc (Below.refl _ w1) _) (Nat.le_refl _) ?_; (case c1 => have := HN.out; unfold maxLen; omega); (case c2 => have := HN.out; omega); (case c3 => simp); intro v2 w2 hown hg hat hb2; simp only [Nat.zero_add, List.nil_append] at hown; obtain ⟨B, d, rfl⟩ := own_slice hown; have HO2 := As.mk hown; have HB2 := As.mk hb2; clear hown hg hat hb2))
  go_loopg [8, 25] n (fun kq v8 v25 wr => ∃ i : Nat, i + kq = n ∧ v8 = .int .i64 (atN j i) ∧ v25 = .int .i64 i ∧ As (Below w1.heap.size w1 wr) ∧ As (wr.ownsRow w1.heap.size 49 35 (.slice B n d) n (ts.flatMap Tn.row)))
  case atStart => exact ⟨0, by omega, by rw [atN_lo (by omega)], rfl, HB2, HO2⟩
  case round =>
    obtain ⟨i, hi, rfl, rfl, HB, HO⟩ := hrel
    have HI := As.mk hi
    clear hi
    by_cases hlt : i < n
    · have c0 : decide ((i : Int) < (n : Int)) = true := decide_eq_true (by omega)
      have c1 : decide (i < n) = true := decide_eq_true hlt
      have lt' : (i : Int) < (n : Int) := by omega
      have hw : wrap64 ((i : Int) + 1) = ((i + 1 : Nat) : Int) := wrap_up (by have := HN.out; omega)
      obtain ⟨ad, ea, h1⟩ := (H1.out.below HB.out).at i hlt
      cases ea
      have HRW := As.mk (RowOf.of (nthT ts i))
      generalize hR : (nthT ts i).row = R at h1 HRW
      clear hR
      have HC1 := As.mk h1
      clear h1
      obtain ⟨x, hx⟩ : ∃ x, (nthT ts i).id = x := ⟨_, rfl⟩
      rw [hx] at HRW
      have HX := As.mk hx
      clear hx
      generalize (nthT ts i).q = q at HRW
      generalize (nthT ts i).u = u at HRW
      have HLT := As.mk hlt
      clear hlt
      rcases Nat.lt_trichotomy i j with hij | hij | hij
      · rw [atN_lo (by omega)]
        have hne : (x == id) = false := by
          have := HK.out.2.2 i hij
          rw [HX.out] at this
          simpa using this
        have HIJ := As.mk hij
        clear hij
        go_wp2_with (first
          | (refine wpList_load_at rfl 49 (.tmp 28) rfl (ad.add (i * 35)) rfl R _ HC1.out Try.underlying49 rfl HRW.out.info ?_)
          | (refine wpList_allocArr rfl 49 rfl zT zT_info ?_)
          | (refine wpList_storeNew rfl rfl 49 _ _ rfl rfl R.toArray rfl 49 zT HRW.out.info' HRW.out.zs HRW.out.one ?_; refine As.out ?_))
        refine As.mk ?_
        have hal := below_alloc (Below.refl wr.heap.size wr) (.cells R.toArray 49)
        have HB3 := As.mk (below_step HB.out hal)
        have HO3 := As.mk (own_below HO.out hal)
        have HW3 := As.mk (heap_alloc_new wr (.cells R.toArray 49))
        clear hal
        generalize wr.alloc (.cells R.toArray 49) = w3 at *
        generalize wr.heap.size = g3 at *
        obtain ⟨z0, z1, z2⟩ := HRW.out.cell HW3.out
        go_wp2
        go_roundg (n - (i + 1))
        case measure => have := HI.out; have := HLT.out; omega
        case rel => exact ⟨i + 1, by have := HI.out; have := HLT.out; omega, by rw [atN_lo (by have := HIJ.out; omega)], by go_num, HB3, HO3⟩
      · rw [atN_lo (by omega)]
        have hne : (x == id) = true := by
          have := HK.out.2.1
          rw [← hij, HX.out] at this
          simpa using this
        have HIJ := As.mk hij
        clear hij
        go_wp2_with (first
          | (refine wpList_load_at rfl 49 (.tmp 28) rfl (ad.add (i * 35)) rfl R _ HC1.out Try.underlying49 rfl HRW.out.info ?_)
          | (refine wpList_allocArr rfl 49 rfl zT zT_info ?_)
          | (refine wpList_storeNew rfl rfl 49 _ _ rfl rfl R.toArray rfl 49 zT HRW.out.info' HRW.out.zs HRW.out.one ?_; refine As.out ?_))
        refine As.mk ?_
        have hal := below_alloc (Below.refl wr.heap.size wr) (.cells R.toArray 49)
        have HB3 := As.mk (below_step HB.out hal)
        have HO3 := As.mk (own_below HO.out hal)
        have HW3 := As.mk (heap_alloc_new wr (.cells R.toArray 49))
        clear hal
        generalize wr.alloc (.cells R.toArray 49) = w3 at *
        generalize wr.heap.size = g3 at *
        obtain ⟨z0, z1, z2⟩ := HRW.out.cell HW3.out
        go_wp2
        go_roundg (n - (i + 1))
        case measure => have := HI.out; have := HLT.out; omega
        case rel => exact ⟨i + 1, by have := HI.out; have := HLT.out; omega, by rw [atN_hi (by have := HIJ.out; omega), HIJ.out], by go_num, HB3, HO3⟩
      · rw [atN_hi (by omega)]
        have hj0 : decide ((j : Int) < 0) = false := decide_eq_false (by omega)
        have HIJ := As.mk hij
        clear hij
        go_wp2_with (first
          | (refine wpList_load_at rfl 49 (.tmp 28) rfl (ad.add (i * 35)) rfl R _ HC1.out Try.underlying49 rfl HRW.out.info ?_)
          | (refine wpList_allocArr rfl 49 rfl zT zT_info ?_)
          | (refine wpList_storeNew rfl rfl 49 _ _ rfl rfl R.toArray rfl 49 zT HRW.out.info' HRW.out.zs HRW.out.one ?_; refine As.out ?_))
        refine As.mk ?_
        have hal := below_alloc (Below.refl wr.heap.size wr) (.cells R.toArray 49)
        have HB3 := As.mk (below_step HB.out hal)
        have HO3 := As.mk (own_below HO.out hal)
        have HW3 := As.mk (heap_alloc_new wr (.cells R.toArray 49))
        clear hal
        generalize wr.alloc (.cells R.toArray 49) = w3 at *
        generalize wr.heap.size = g3 at *
        obtain ⟨z0, z1, z2⟩ := HRW.out.cell HW3.out
        go_wp2
        go_roundg (n - (i + 1))
        case measure => have := HI.out; have := HLT.out; omega
        case rel => exact ⟨i + 1, by have := HI.out; have := HLT.out; omega, by rw [atN_hi (by have := HIJ.out; omega)], by go_num, HB3, HO3⟩
    · have c0 : decide ((i : Int) < (n : Int)) = false := decide_eq_false (by omega)
      have c1 : decide (i < n) = false := decide_eq_false hlt
      obtain rfl : i = n := by have := HI.out; omega
      clear hlt
      rw [atN_hi HK.out.1]
      have hj1 : decide ((0 : Int) ≤ (j : Int)) = true := decide_eq_true (by omega)
      have hj2 : ((j : Int) != (j : Int)) = false := by simp
      have hj3 : decide ((j : Int) < 0) = false := decide_eq_false (by omega)
      go_wp2_with (first
        | (go_at_call 27; (with_reducible refine (find_hit id ts A i c wr (by have := HN.out; omega) (H1.out.below HB.out) j HK.out).mono ?_); rintro e w4 ⟨rfl, hb⟩; have HB4 := As.mk (below_step HB.out hb); have HO4 := As.mk (own_below HO.out hb); clear hb)
        | (go_at_call 28; (with_reducible refine (move_bad ts id by_ A i c w4 (by have := HN.out; omega) (H1.out.below HB4.out) HR.out j HK.out 2 HM.out (by decide)).mono ?_); rintro e w5 ⟨rfl, hb⟩; have HB5 := As.mk (below_step HB4.out hb); have HO5 := As.mk (own_below HO4.out hb); clear hb; refine As.out ?_))
      refine As.mk ?_
      have HD5 : As (RdT Tn.row 35 w5 B i d ts) := ⟨by
        obtain ⟨A', c', e', h'⟩ := own_rdT row_len (by decide) HO5.out H.out.len
        cases e'
        exact h'⟩
      have HA5 := As.mk (H1.out.below HB5.out)
      go_wp2_with (first
        | (go_at_call 29; (with_reducible refine (same_true ts A B i c d w5 (by have := HN.out; omega) HA5.out HD5.out).mono ?_); rintro e w6 ⟨rfl, hb⟩; have HB6 := As.mk (below_step HB5.out hb); have HA6 := As.mk (HA5.out.below hb); have HO6 := As.mk (own_below HO5.out hb); clear hb)
        | (go_at_call 30; (with_reducible refine (rightL_any ts A i c w6 (by have := HN.out; omega) HA6.out).mono ?_); rintro e w7 ⟨rfl, hb⟩; rw [HR.out]; have HB7 := As.mk (below_step HB6.out hb); have HA7 := As.mk (HA6.out.below hb); have HO7 := As.mk (own_below HO6.out hb); clear hb; refine As.out ?_))
      refine As.mk ?_
      have hjn : j < i := HK.out.1
      have hjn' : (j : Int) < (i : Int) := by omega
      have hb3 := right_bd HR.out j (by rw [H.out.len]; exact hjn)
      obtain ⟨ad, ea, z0, z1, z2, z3, z4⟩ := cells_at HA7.out j hjn
      cases ea
      obtain ⟨t, ht⟩ : ∃ t, nthT ts j = t := ⟨_, rfl⟩
      have HT := As.mk ht
      rw [ht] at z0 z1 z2 z3 z4 hb3 HM
      clear ht
      obtain ⟨x, q, u, ck⟩ := t
      try simp only at z0 z1 z2 z3 z4 hb3
      have hw1 : IntKind.i64.wrap (q - u) = q - u := by rw [IntKind.wrap_i64]; omega
      have hw2 : wrap64 (q - u) = q - u := by unfold wrap64; omega
      have hw3 : wrap64 (-u) = -u := by unfold wrap64; omega
      have hw4 : IntKind.i64.wrap (-u) = -u := by rw [IntKind.wrap_i64]; omega
      have hmv := HM.out
      unfold moveE at hmv
      try simp only at hmv
      have h1 : ¬ q - u < by_ := by
        intro h1
        rw [if_pos h1] at hmv
        omega
      rw [if_neg h1] at hmv
      have d1 : decide (q - u < by_) = false := decide_eq_false h1
      have h2 : by_ < -u := by
        by_cases h2 : by_ < -u
        · exact h2
        · rw [if_neg h2] at hmv
          omega
      have d2 : decide (by_ < -u) = true := decide_eq_true h2
      clear h1 h2 hb3 hmv
      go_wp2
      go_quiet (fail)
      go_wp2
      go_ret
      exact ⟨rfl, HB1.out.trans ((below_drewN HB7.out _).mono HB1.out.size)⟩

set_option maxHeartbeats 4000000 in
set_option maxRecDepth 100000 in
theorem moves_ok (ts : List Tn) (A : Option Addr) (n c : Nat) (id by_ : Int) (w : World) (hn : n ≤ 40) (h : RdT Tn.row 35 w A n c ts) (j : Nat) (hk : j < n ∧ firstI id ts j) (hr : rightB ts = true) (hm : moveE (nthT ts j) by_ = 0) :
    Calls Try.prog 5 #[.slice A n c, .int .i64 id, .int .i64 by_] w fun e w' => e = .returned (.bool true) ∧ Below w.heap.size w w' := by
  have d3 : decide (40 < (n : Int)) = false := decide_eq_false (by omega)
  have d3' : decide (40 < n) = false := decide_eq_false (by omega)
  have HN := As.mk hn
  have H := As.mk h
  have HK := As.mk hk
  have HR := As.mk hr
  have HM := As.mk hm
  clear hn h hk hr hm
  go_enter Try.func5, Try.ntmps5
  go_wp2_with (first
    | (go_at_call 26; (with_reducible refine (awake_true _).mono ?_); rintro e w1 ⟨rfl, hb⟩; have HB1 := As.mk hb; have H1 := As.mk (H.out.below hb); have HSRC := As.mk ((H1.out.below (below_alloc (Below.refl _ w1) (.cells #[] 49))).src row_len row_one); clear hb)
    | (at_builtin; refine wpList_app rfl _ _ 47 rfl w1.heap.size 49 (.agg zT) 35 56 Try.underlying47 infoC rfl (by decide) _ 0 [] rfl (World.ownsRow_lit w1 #[] 0 (Nat.le_refl _) (by decide) rfl) _ n (ts.flatMap Tn.row) rfl HSRC.out ?c1 ?c2 ?c3 (below_alloc (Below.refl _ w1) _) (Nat.le_refl _) ?_; (case c1 => have := HN.out; unfold maxLen; omega); (case c2 => have := HN.out; omega); (case c3 => simp); intro v2 w2 hown hg hat hb2; simp only [Nat.zero_add, List.nil_append] at hown; obtain ⟨B, d, rfl⟩ := own_slice hown; have HO2 := As.mk hown; have HB2 := As.mk hb2; clear hown hg hat hb2))
  go_loopg [8, 25] n (fun kq v8 v25 wr => ∃ i : Nat, i + kq = n ∧ v8 = .int .i64 (atN j i) ∧ v25 = .int .i64 i ∧ As (Below w1.heap.size w1 wr) ∧ As (wr.ownsRow w1.heap.size 49 35 (.slice B n d) n (ts.flatMap Tn.row)))
  case atStart => exact ⟨0, by omega, by rw [atN_lo (by omega)], rfl, HB2, HO2⟩
  case round =>
    obtain ⟨i, hi, rfl, rfl, HB, HO⟩ := hrel
    have HI := As.mk hi
    clear hi
    by_cases hlt : i < n
    · have c0 : decide ((i : Int) < (n : Int)) = true := decide_eq_true (by omega)
      have c1 : decide (i < n) = true := decide_eq_true hlt
      have lt' : (i : Int) < (n : Int) := by omega
      have hw : wrap64 ((i : Int) + 1) = ((i + 1 : Nat) : Int) := wrap_up (by have := HN.out; omega)
      obtain ⟨ad, ea, h1⟩ := (H1.out.below HB.out).at i hlt
      cases ea
      have HRW := As.mk (RowOf.of (nthT ts i))
      generalize hR : (nthT ts i).row = R at h1 HRW
      clear hR
      have HC1 := As.mk h1
      clear h1
      obtain ⟨x, hx⟩ : ∃ x, (nthT ts i).id = x := ⟨_, rfl⟩
      rw [hx] at HRW
      have HX := As.mk hx
      clear hx
      generalize (nthT ts i).q = q at HRW
      generalize (nthT ts i).u = u at HRW
      have HLT := As.mk hlt
      clear hlt
      rcases Nat.lt_trichotomy i j with hij | hij | hij
      · rw [atN_lo (by omega)]
        have hne : (x == id) = false := by
          have := HK.out.2.2 i hij
          rw [HX.out] at this
          simpa using this
        have HIJ := As.mk hij
        clear hij
        go_wp2_with (first
          | (refine wpList_load_at rfl 49 (.tmp 28) rfl (ad.add (i * 35)) rfl R _ HC1.out Try.underlying49 rfl HRW.out.info ?_)
          | (refine wpList_allocArr rfl 49 rfl zT zT_info ?_)
          | (refine wpList_storeNew rfl rfl 49 _ _ rfl rfl R.toArray rfl 49 zT HRW.out.info' HRW.out.zs HRW.out.one ?_; refine As.out ?_))
        refine As.mk ?_
        have hal := below_alloc (Below.refl wr.heap.size wr) (.cells R.toArray 49)
        have HB3 := As.mk (below_step HB.out hal)
        have HO3 := As.mk (own_below HO.out hal)
        have HW3 := As.mk (heap_alloc_new wr (.cells R.toArray 49))
        clear hal
        generalize wr.alloc (.cells R.toArray 49) = w3 at *
        generalize wr.heap.size = g3 at *
        obtain ⟨z0, z1, z2⟩ := HRW.out.cell HW3.out
        go_wp2
        go_roundg (n - (i + 1))
        case measure => have := HI.out; have := HLT.out; omega
        case rel => exact ⟨i + 1, by have := HI.out; have := HLT.out; omega, by rw [atN_lo (by have := HIJ.out; omega)], by go_num, HB3, HO3⟩
      · rw [atN_lo (by omega)]
        have hne : (x == id) = true := by
          have := HK.out.2.1
          rw [← hij, HX.out] at this
          simpa using this
        have HIJ := As.mk hij
        clear hij
        go_wp2_with (first
          | (refine wpList_load_at rfl 49 (.tmp 28) rfl (ad.add (i * 35)) rfl R _ HC1.out Try.underlying49 rfl HRW.out.info ?_)
          | (refine wpList_allocArr rfl 49 rfl zT zT_info ?_)
          | (refine wpList_storeNew rfl rfl 49 _ _ rfl rfl R.toArray rfl 49 zT HRW.out.info' HRW.out.zs HRW.out.one ?_; refine As.out ?_))
        refine As.mk ?_
        have hal := below_alloc (Below.refl wr.heap.size wr) (.cells R.toArray 49)
        have HB3 := As.mk (below_step HB.out hal)
        have HO3 := As.mk (own_below HO.out hal)
        have HW3 := As.mk (heap_alloc_new wr (.cells R.toArray 49))
        clear hal
        generalize wr.alloc (.cells R.toArray 49) = w3 at *
        generalize wr.heap.size = g3 at *
        obtain ⟨z0, z1, z2⟩ := HRW.out.cell HW3.out
        go_wp2
        go_roundg (n - (i + 1))
        case measure => have := HI.out; have := HLT.out; omega
        case rel => exact ⟨i + 1, by have := HI.out; have := HLT.out; omega, by rw [atN_hi (by have := HIJ.out; omega), HIJ.out], by go_num, HB3, HO3⟩
      · rw [atN_hi (by omega)]
        have hj0 : decide ((j : Int) < 0) = false := decide_eq_false (by omega)
        have HIJ := As.mk hij
        clear hij
        go_wp2_with (first
          | (refine wpList_load_at rfl 49 (.tmp 28) rfl (ad.add (i * 35)) rfl R _ HC1.out Try.underlying49 rfl HRW.out.info ?_)
          | (refine wpList_allocArr rfl 49 rfl zT zT_info ?_)
          | (refine wpList_storeNew rfl rfl 49 _ _ rfl rfl R.toArray rfl 49 zT HRW.out.info' HRW.out.zs HRW.out.one ?_; refine As.out ?_))
        refine As.mk ?_
        have hal := below_alloc (Below.refl wr.heap.size wr) (.cells R.toArray 49)
        have HB3 := As.mk (below_step HB.out hal)
        have HO3 := As.mk (own_below HO.out hal)
        have HW3 := As.mk (heap_alloc_new wr (.cells R.toArray 49))
        clear hal
        generalize wr.alloc (.cells R.toArray 49) = w3 at *
        generalize wr.heap.size = g3 at *
        obtain ⟨z0, z1, z2⟩ := HRW.out.cell HW3.out
        go_wp2
        go_roundg (n - (i + 1))
        case measure => have := HI.out; have := HLT.out; omega
        case rel => exact ⟨i + 1, by have := HI.out; have := HLT.out; omega, by rw [atN_hi (by have := HIJ.out; omega)], by go_num, HB3, HO3⟩
    · have c0 : decide ((i : Int) < (n : Int)) = false := decide_eq_false (by omega)
      have c1 : decide (i < n) = false := decide_eq_false hlt
      obtain rfl : i = n := by have := HI.out; omega
      clear hlt
      rw [atN_hi HK.out.1]
      have hj1 : decide ((0 : Int) ≤ (j : Int)) = true := decide_eq_true (by omega)
      have hj2 : ((j : Int) != (j : Int)) = false := by simp
      have hj3 : decide ((j : Int) < 0) = false := decide_eq_false (by omega)
      go_wp2_with (first
        | (go_at_call 27; (with_reducible refine (find_hit id ts A i c wr (by have := HN.out; omega) (H1.out.below HB.out) j HK.out).mono ?_); rintro e w4 ⟨rfl, hb⟩; have HB4 := As.mk (below_step HB.out hb); have HO4 := As.mk (own_below HO.out hb); clear hb)
        | (go_at_call 28; refine As.out ?_))
      refine As.mk ?_
      refine (move_ok ts id by_ A i c w4 (by have := HN.out; omega) (H1.out.below HB4.out) HR.out j HK.out HM.out).mono ?_
      rintro e w5 ⟨v5, rfl, ho, hb⟩
      have HB5 := As.mk (below_step HB4.out hb)
      have HO5 := As.mk (own_below HO4.out hb)
      obtain ⟨g5, c5, rfl, hg5, _, _, _⟩ := own_head ho (by have := HK.out.1; omega)
      have HV5 := As.mk ho
      have HG5 := As.mk hg5
      have HHS := As.mk hb.size
      have HLT4 := As.mk (fun (k : Nat) (hk : (Value.slice B i d).ownBlock = some k) => (HO4.out.lt k hk).2)
      clear ho hb hg5
      refine As.out ?_
      refine As.mk ?_
      have HD5 : As (RdT Tn.row 35 w5 B i d ts) := ⟨by
        obtain ⟨A', c', e', h'⟩ := own_rdT row_len (by decide) HO5.out H.out.len
        cases e'
        exact h'⟩
      have HA5 := As.mk (H1.out.below HB5.out)
      go_wp2_with (first
        | (go_at_call 29; (with_reducible refine (same_true ts A B i c d w5 (by have := HN.out; omega) HA5.out HD5.out).mono ?_); rintro e w6 ⟨rfl, hb⟩; have HB6 := As.mk (below_step HB5.out hb); have HA6 := As.mk (HA5.out.below hb); have HO6 := As.mk (own_below HO5.out hb); have HV6 := As.mk (own_below HV5.out hb); clear hb)
        | (go_at_call 30; (with_reducible refine (rightL_any ts A i c w6 (by have := HN.out; omega) HA6.out).mono ?_); rintro e w7 ⟨rfl, hb⟩; rw [HR.out]; have HB7 := As.mk (below_step HB6.out hb); have HA7 := As.mk (HA6.out.below hb); have HO7 := As.mk (own_below HO6.out hb); have HV7 := As.mk (own_below HV6.out hb); clear hb; refine As.out ?_))
      refine As.mk ?_
      have hjn : j < i := HK.out.1
      have hjn' : (j : Int) < (i : Int) := by omega
      have hb3 := right_bd HR.out j (by rw [H.out.len]; exact hjn)
      obtain ⟨ad, ea, z0, z1, z2, z3, z4⟩ := cells_at HA7.out j hjn
      cases ea
      obtain ⟨t, ht⟩ : ∃ t, nthT ts j = t := ⟨_, rfl⟩
      have HT := As.mk ht
      rw [ht] at z0 z1 z2 z3 z4 hb3 HM
      clear ht
      obtain ⟨x, q, u, ck⟩ := t
      try simp only at z0 z1 z2 z3 z4 hb3
      have hw1 : IntKind.i64.wrap (q - u) = q - u := by rw [IntKind.wrap_i64]; omega
      have hw2 : wrap64 (q - u) = q - u := by unfold wrap64; omega
      have hw3 : wrap64 (-u) = -u := by unfold wrap64; omega
      have hw4 : IntKind.i64.wrap (-u) = -u := by rw [IntKind.wrap_i64]; omega
      have hmv := HM.out
      unfold moveE at hmv
      try simp only at hmv
      have h1 : ¬ q - u < by_ := by
        intro h1
        rw [if_pos h1] at hmv
        omega
      rw [if_neg h1] at hmv
      have d1 : decide (q - u < by_) = false := decide_eq_false h1
      have h2 : ¬ by_ < -u := by
        intro h2
        rw [if_pos h2] at hmv
        omega
      have d2 : decide (by_ < -u) = false := decide_eq_false h2
      have hws : wrap64 (u + by_) = u + by_ := by unfold wrap64; omega
      clear h1 h2 hb3 hmv
      obtain ⟨gw, dw, ew, hgw, hgl, _, _⟩ := own_head HO7.out (by omega)
      cases ew
      have y2 : w7.cell? ⟨gw, j * 35 + 2, none⟩ = some (.int .i64 u) := by
        rw [HO7.out.cellAt (j * 35 + 2) (by omega)]
        exact flat_of row_len ts j 2 _ (by rw [H.out.len]; exact hjn) (by rw [HT.out]; rfl)
      have f2 := HO7.out.frozenAt (j * 35 + 2)
      have HGW := As.mk hgw
      clear hgw hgl
      go_wp2
      go_quiet (fail)
      go_wp2_with (first
        | (go_at_call 29; refine As.out ?_))
      refine As.mk ?_
      have HLTW := HLT4.out gw rfl
      have hst := HO7.out.stored (j * 35 + 2) (.int .i64 (u + by_))
      have hV := HV7.out.kept hst.2 (.inr (by show some g5 ≠ some gw; have := HG5.out; intro e; cases e; omega))
      have hW := hst.1
      rw [flat_set row_len ⟨x, q, u + by_, ck⟩ 2 _ (by omega) ts j (by rw [H.out.len]; exact hjn) (by rw [HT.out]; rfl), show ts.set j ⟨x, q, u + by_, ck⟩ = moved ts j by_ by unfold moved; rw [HT.out]] at hW
      have hl : (moved ts j by_).length = i := by rw [moved_len]; exact H.out.len
      obtain ⟨A1, c1', e1', r1⟩ := own_rdT row_len (by decide) hV hl
      obtain ⟨A2, c2', e2', r2⟩ := own_rdT row_len (by decide) hW hl
      cases e1'
      cases e2'
      refine (same_true (moved ts j by_) _ _ i _ _ _ (by have := HN.out; omega) ?_ ?_).mono ?_
      · exact ⟨r1.len, r1.le, r1.cap, r1.cells⟩
      · exact ⟨r2.len, r2.le, r2.cap, r2.cells⟩
      rintro e w9 ⟨rfl, hb⟩
      have HB9 := As.mk hb
      clear hb hV hW hst r1 r2
      go_wp2
      go_ret
      refine ⟨rfl, HB1.out.trans ((((below_drewN HB7.out _).setCell (by have := HGW.out; simp; omega) _).trans (HB9.out.mono ?_)).mono HB1.out.size)⟩
      have := HB7.out.size
      simp
      omega

theorem moves_any (ts : List Tn) (A : Option Addr) (n c : Nat) (id by_ : Int) (w : World) (h : RdT Tn.row 35 w A n c ts) :
    Calls Try.prog 5 #[.slice A n c, .int .i64 id, .int .i64 by_] w fun e w' => e = .returned (.bool true) ∧ Below w.heap.size w w' := by
  by_cases hn : n ≤ 40
  · rcases first_or id ts with ⟨j, hj, hk⟩ | hk
    · rw [h.len] at hj
      cases hr : rightB ts with
      | false => exact moves_nr1 ts A n c id by_ w hn h j ⟨hj, hk⟩ hr
      | true =>
        by_cases h1 : (nthT ts j).q - (nthT ts j).u < by_
        · exact moves_33 ts A n c id by_ w hn h j ⟨hj, hk⟩ hr (by unfold moveE; rw [if_pos h1])
        · by_cases h2 : by_ < -(nthT ts j).u
          · exact moves_2 ts A n c id by_ w hn h j ⟨hj, hk⟩ hr (by unfold moveE; rw [if_neg h1, if_pos h2])
          · exact moves_ok ts A n c id by_ w hn h j ⟨hj, hk⟩ hr (by unfold moveE; rw [if_neg h1, if_neg h2])
    · rw [h.len] at hk
      cases hr : rightB ts with
      | false => exact moves_nr0 ts A n c id by_ w hn h hk hr
      | true => exact moves_none ts A n c id by_ w hn h hk hr
  · exact moves_far A n c id by_ w (by omega)
theorem moves_walk (A : Option Addr) (n c : Nat) (ts : List Tn) (id by_ : Int) (w : World) (h : RdT Tn.row 35 w A n c ts) (_ : (Lit.int .i64 id).wf = true) (_ : (Lit.int .i64 by_).wf = true) :
    Calls Try.prog 5 #[.slice A n c, .int .i64 id, .int .i64 by_] w fun e w' => e = .returned (.bool true) ∧ Below w.heap.size w w' :=
  moves_any ts A n c id by_ w h
end Go.Proofs.Ytcbfdofeedlajaa.QuotaW
