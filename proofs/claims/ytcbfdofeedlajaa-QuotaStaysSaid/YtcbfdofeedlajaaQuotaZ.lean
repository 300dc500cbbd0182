/- quota.Move; cmp.Compare; quota.Join's order. -/
import Derived.Test.YtcbfdofeedlajaaQuotaY
import Derived.Test.YtcbfdofeedlajaaFlatSort
import Derived.Test.YtcbfdofeedlajaaSortL
namespace Go.Proofs.Ytcbfdofeedlajaa.QuotaW
set_option linter.unusedVariables false
set_option linter.unusedSimpArgs false
open Go Go.RowKit Go.Proofs.Ytcbfdofeedlajaa.Mem Go.Proofs.Ytcbfdofeedlajaa.Flat Go.Proofs.Ytcbfdofeedlajaa.QuotaP

theorem own_head {w : World} {base : Nat} {e : TypeId} {size n : Nat} {v : Value} {xs : List Value} (h : w.ownsRow base e size v n xs) (hn : 0 < n) : ∃ g c, v = .slice (some ⟨g, 0, none⟩) n c ∧ base ≤ g ∧ g < w.heap.size ∧ n ≤ c ∧ c ≤ maxLen := by
  rcases h.2 with ⟨_, h0⟩ | ⟨g, cap, cur, rfl, hg, hh, hnc, hcm, _⟩
  · omega
  · exact ⟨g, cap, rfl, hg, (Array.getElem?_eq_some_iff.1 hh).1, hnc, hcm⟩
set_option maxHeartbeats 400000 in
theorem move_right (ts : List Tn) (id by_ : Int) (A : Option Addr) (n c : Nat) (w : World) (hn : n ≤ 1000000) (h : RdT Tn.row 35 w A n c ts) (hr : rightB ts = false) :
    Calls Try.prog 28 #[.slice A n c, .int .i64 id, .int .i64 by_] w fun e w' => e = .returned (.tuple #[.slice none 0 0, .int .i64 2]) ∧ Below w.heap.size w w' := by
  have HN := As.mk hn
  have H := As.mk h
  have HR := As.mk hr
  clear hn h hr
  go_enter Try.func28, Try.ntmps28
  go_wp2_with (go_at_call 31; (with_reducible refine (right_any ts A n c w HN.out H.out).mono ?_); rintro e w1 ⟨rfl, hb⟩; rw [HR.out]; have HB1 := As.mk hb; clear hb)
  go_ret2
  exact ⟨rfl, HB1.out⟩
set_option maxHeartbeats 400000 in
theorem move_none (ts : List Tn) (id by_ : Int) (A : Option Addr) (n c : Nat) (w : World) (hn : n ≤ 1000000) (h : RdT Tn.row 35 w A n c ts) (hr : rightB ts = true) (hk : ∀ k, k < n → (nthT ts k).id ≠ id) :
    Calls Try.prog 28 #[.slice A n c, .int .i64 id, .int .i64 by_] w fun e w' => e = .returned (.tuple #[.slice none 0 0, .int .i64 31]) ∧ Below w.heap.size w w' := by
  have HN := As.mk hn
  have H := As.mk h
  have HR := As.mk hr
  have HK := As.mk hk
  clear hn h hr hk
  go_enter Try.func28, Try.ntmps28
  go_wp2_with (first
    | (go_at_call 31; (with_reducible refine (right_any ts A n c w HN.out H.out).mono ?_); rintro e w1 ⟨rfl, hb⟩; rw [HR.out]; have HB1 := As.mk hb; clear hb)
    | (go_at_call 27; (with_reducible refine (find_none id ts A n c w1 HN.out (H.out.below HB1.out) HK.out).mono ?_); rintro e w2 ⟨rfl, hb⟩; have HB2 := As.mk (below_step HB1.out hb); clear hb))
  go_ret2
  exact ⟨rfl, HB2.out⟩
/-- what becomes of a move of the place j -/
def moveE (t : Tn) (b : Int) : Int := if t.q - t.u < b then 33 else if b < -t.u then 2 else 0
theorem cells_at {ts : List Tn} {w : World} {A : Option Addr} {n c : Nat} (h : RdT Tn.row 35 w A n c ts) (j : Nat) (hj : j < n) : ∃ ad, A = some ad ∧ w.cell? (ad.add (j * 35)) = some (.int .i64 (nthT ts j).id) ∧ w.cell? ((ad.add (j * 35)).add 1) = some (.int .i64 (nthT ts j).q) ∧ w.cell? ((ad.add (j * 35)).add 2) = some (.int .i64 (nthT ts j).u) ∧ w.cell? ⟨(ad.add (j * 35)).block, (ad.add (j * 35)).off + 1, none⟩ = some (.int .i64 (nthT ts j).q) ∧ w.cell? ⟨(ad.add (j * 35)).block, (ad.add (j * 35)).off + 2, none⟩ = some (.int .i64 (nthT ts j).u) := by
  obtain ⟨ad, e, h1⟩ := h.at j hj
  exact ⟨ad, e, h1 0 _ rfl, h1 1 _ rfl, h1 2 _ rfl, h1 1 _ rfl, h1 2 _ rfl⟩
theorem right_bd {ts : List Tn} (hr : rightB ts = true) (j : Nat) (hj : j < ts.length) : 0 ≤ (nthT ts j).u ∧ (nthT ts j).u ≤ (nthT ts j).q ∧ (nthT ts j).q ≤ 4096 := by
  have := (okAt_iff _ _).1 ((rightB_iff ts).1 hr j hj)
  omega
set_option maxHeartbeats 1000000 in
set_option maxRecDepth 100000 in
theorem move_bad (ts : List Tn) (id by_ : Int) (A : Option Addr) (n c : Nat) (w : World) (hn : n ≤ 1000000) (h : RdT Tn.row 35 w A n c ts) (hr : rightB ts = true) (j : Nat) (hk : j < n ∧ firstI id ts j) (k : Int) (hm : moveE (nthT ts j) by_ = k) (hk0 : k ≠ 0) :
    Calls Try.prog 28 #[.slice A n c, .int .i64 id, .int .i64 by_] w fun e w' => e = .returned (.tuple #[.slice none 0 0, .int .i64 k]) ∧ Below w.heap.size w w' := by
  have HN := As.mk hn
  have H := As.mk h
  have HR := As.mk hr
  have HK := As.mk hk
  have hb3 := right_bd hr j (by rw [h.len]; exact hk.1)
  have hj : j < n := hk.1
  have hj' : (j : Int) < (n : Int) := by omega
  have HM := As.mk hm
  have H0 := As.mk hk0
  clear hn h hr hk hm hk0
  go_enter Try.func28, Try.ntmps28
  go_wp2_with (first
    | (go_at_call 31; (with_reducible refine (right_any ts A n c w HN.out H.out).mono ?_); rintro e w1 ⟨rfl, hb⟩; rw [HR.out]; have HB1 := As.mk hb; clear hb)
    | (go_at_call 27; (with_reducible refine (find_hit id ts A n c w1 HN.out (H.out.below HB1.out) j HK.out).mono ?_); rintro e w2 ⟨rfl, hb⟩; have HB2 := As.mk (below_step HB1.out hb); clear hb; refine As.out ?_))
  refine As.mk ?_
  obtain ⟨ad, ea, z0, z1, z2, z3, z4⟩ := cells_at (H.out.below HB2.out) j hj
  cases ea
  generalize nthT ts j = t at *
  obtain ⟨x, q, u, ck⟩ := t
  simp only at z0 z1 z2 z3 z4 hb3
  have hw1 : IntKind.i64.wrap (q - u) = q - u := by rw [IntKind.wrap_i64]; omega
  have hw2 : wrap64 (q - u) = q - u := by unfold wrap64; omega
  have hw3 : wrap64 (-u) = -u := by unfold wrap64; omega
  have hw4 : IntKind.i64.wrap (-u) = -u := by rw [IntKind.wrap_i64]; omega
  by_cases h1 : q - u < by_
  · have d1 : decide (q - u < by_) = true := decide_eq_true h1
    have HKK : As (k = 33) := ⟨by rw [← HM.out]; unfold moveE; rw [if_pos h1]⟩
    clear h1 hb3
    go_wp2
    go_quiet (fail)
    go_wp2
    go_ret2
    exact ⟨by rw [HKK.out]; rfl, below_drewN HB2.out _⟩
  · have d1 : decide (q - u < by_) = false := decide_eq_false h1
    have h2 : by_ < -u := by
      rcases Int.lt_or_le by_ (-u) with h2 | h2
      · exact h2
      · exact absurd (by rw [← HM.out]; unfold moveE; rw [if_neg h1, if_neg (by simp only; omega)]) H0.out
    have d2 : decide (by_ < -u) = true := decide_eq_true h2
    have HKK : As (k = 2) := ⟨by rw [← HM.out]; unfold moveE; rw [if_neg h1, if_pos h2]⟩
    clear h1 hb3 h2
    go_wp2
    go_quiet (fail)
    go_wp2
    go_ret2
    exact ⟨by rw [HKK.out]; rfl, below_drewN HB2.out _⟩
set_option maxHeartbeats 1000000 in
set_option maxRecDepth 100000 in
theorem move_ok (ts : List Tn) (id by_ : Int) (A : Option Addr) (n c : Nat) (w : World) (hn : n ≤ 1000000) (h : RdT Tn.row 35 w A n c ts) (hr : rightB ts = true) (j : Nat) (hk : j < n ∧ firstI id ts j) (hm : moveE (nthT ts j) by_ = 0) :
    Calls Try.prog 28 #[.slice A n c, .int .i64 id, .int .i64 by_] w fun e w' => ∃ v, e = .returned (.tuple #[v, .int .i64 0]) ∧ w'.ownsRow w.heap.size 49 35 v n ((moved ts j by_).flatMap Tn.row) ∧ Below w.heap.size w w' := by
  have HN := As.mk hn
  have H := As.mk h
  have HR := As.mk hr
  have HK := As.mk hk
  have hb3 := right_bd hr j (by rw [h.len]; exact hk.1)
  have hj : j < n := hk.1
  have hj' : (j : Int) < (n : Int) := by omega
  have HM := As.mk hm
  clear hn h hr hk hm
  go_enter Try.func28, Try.ntmps28
  go_wp2_with (first
    | (go_at_call 31; (with_reducible refine (right_any ts A n c w HN.out H.out).mono ?_); rintro e w1 ⟨rfl, hb⟩; rw [HR.out]; have HB1 := As.mk hb; clear hb)
    | (go_at_call 27; (with_reducible refine (find_hit id ts A n c w1 HN.out (H.out.below HB1.out) j HK.out).mono ?_); rintro e w2 ⟨rfl, hb⟩; have HB2 := As.mk (below_step HB1.out hb); clear hb; refine As.out ?_))
  refine As.mk ?_
  obtain ⟨ad, ea, z0, z1, z2, z3, z4⟩ := cells_at (H.out.below HB2.out) j hj
  cases ea
  have HMV : As (moved ts j by_ = ts.set j { nthT ts j with u := (nthT ts j).u + by_ }) := ⟨rfl⟩
  have HRW : As (∀ v, ({ nthT ts j with u := v } : Tn).row = (nthT ts j).row.set 2 (.int .i64 v)) := ⟨fun v => rfl⟩
  obtain ⟨t, ht⟩ : ∃ t, nthT ts j = t := ⟨_, rfl⟩
  have HT := As.mk ht
  rw [ht] at z0 z1 z2 z3 z4 hb3 HM HMV HRW
  clear ht
  obtain ⟨x, q, u, ck⟩ := t
  simp only at z0 z1 z2 z3 z4 hb3
  have hw1 : IntKind.i64.wrap (q - u) = q - u := by rw [IntKind.wrap_i64]; omega
  have hw2 : wrap64 (q - u) = q - u := by unfold wrap64; omega
  have hw3 : wrap64 (-u) = -u := by unfold wrap64; omega
  have hw4 : IntKind.i64.wrap (-u) = -u := by rw [IntKind.wrap_i64]; omega
  have h12 : ¬ q - u < by_ ∧ ¬ by_ < -u := by
    have := HM.out
    unfold moveE at this
    simp only at this
    by_cases h1 : q - u < by_
    · rw [if_pos h1] at this; omega
    · by_cases h2 : by_ < -u
      · rw [if_neg h1, if_pos h2] at this; omega
      · exact ⟨h1, h2⟩
  obtain ⟨h1, h2⟩ := h12
  have d1 : decide (q - u < by_) = false := decide_eq_false h1
  have d2 : decide (by_ < -u) = false := decide_eq_false h2
  have hws : wrap64 (u + by_) = u + by_ := by unfold wrap64; omega
  clear h1 h2 hb3
  go_wp2
  go_quiet (fail)
  go_wp2_with (go_at_call 81; refine As.out ?_)
  refine As.mk ?_
  refine (clone_any ts (some ad) n c _ HN.out ((H.out.below HB2.out).drewN _)).mono ?_
  rintro e w3 ⟨v3, rfl, ho, hb⟩
  obtain ⟨g, c3, rfl, hg, hgl, hnc, hcm⟩ := own_head ho (by omega)
  have HO := As.mk ho
  have HB3 := As.mk (below_step (below_drewN HB2.out _) hb)
  have y2 : w3.cell? ⟨g, j * 35 + 2, none⟩ = some (.int .i64 u) := by
    rw [ho.cellAt (j * 35 + 2) (by omega)]
    exact flat_of row_len ts j 2 _ (by rw [H.out.len]; exact hj) (by rw [HT.out]; rfl)
  have f2 := ho.frozenAt (j * 35 + 2)
  have HG := As.mk hg
  clear ho hb hnc hcm z0 z1 z2 z3 z4
  go_wp2
  go_ret2
  refine ⟨_, rfl, ?_, ?_⟩
  · have h5 := (HO.out.stored (j * 35 + 2) (.int .i64 (u + by_))).1
    rw [flat_set row_len ⟨x, q, u + by_, ck⟩ 2 _ (by omega) ts j (by rw [H.out.len]; exact hj) (by rw [HT.out]; rfl), ← HMV.out] at h5
    exact own_weaken h5 HB2.out.size
  · exact HB3.out.setCell (by have := HG.out; have := HB2.out.size; simp at *; omega) _
end Go.Proofs.Ytcbfdofeedlajaa.QuotaW
