/- QuotaStays: who joins, or moves; each in one contract. -/
import Derived.Test.YtcbfdofeedlajaaStaysP
import Derived.Test.YtcbfdofeedlajaaQuotaN
import Derived.Test.YtcbfdofeedlajaaLiftS
namespace Go.Proofs.Ytcbfdofeedlajaa.QuotaW
set_option linter.unusedVariables false
set_option linter.unusedSimpArgs false
open Go Go.RowKit Go.Sort Go.Proofs.Ytcbfdofeedlajaa.Mem Go.Proofs.Ytcbfdofeedlajaa.Flat Go.Proofs.Ytcbfdofeedlajaa.QuotaP Go.Proofs.Ytcbfdofeedlajaa.LiftT

theorem join_or (ts : List Tn) (t : Tn) (d : Int) (A : Option Addr) (n c : Nat) (w : World) (hn : n ≤ 1000000) (h : RdT Tn.row 35 w A n c ts) (hr : rightB ts = true) :
    Calls Try.prog 34 #[.slice A n c, .agg t.row.toArray, .int .i64 d] w fun e w' =>
      (∃ k : Int, (k == 0) = false ∧ e = .returned (.tuple #[.slice none 0 0, .int .i64 k]) ∧ Below w.heap.size w w') ∨
      (∃ (g cc : Nat), e = .returned (.tuple #[.slice (some ⟨g, 0, none⟩) (n + 1) cc, .int .i64 0]) ∧ RdT Tn.row 35 w' (some ⟨g, 0, none⟩) (n + 1) cc (ins t ts) ∧ rightB (ins t ts) = true ∧ tot_q (ins t ts) ≤ d ∧ Below w.heap.size w w') := by
  obtain ⟨b1, e1⟩ : ∃ b, (decide (1 ≤ t.id) && decide (t.id ≤ 16)) = b := ⟨_, rfl⟩
  obtain ⟨b2, e2⟩ : ∃ b, (decide (0 ≤ t.q) && decide (t.q ≤ 4096)) = b := ⟨_, rfl⟩
  obtain ⟨b3, e3⟩ : ∃ b, (t.u == 0) = b := ⟨_, rfl⟩
  obtain ⟨b4, e4⟩ : ∃ b, (decide (0 ≤ d) && decide (d ≤ 4096)) = b := ⟨_, rfl⟩
  have hJ : JoinB ts t.id t.q t.u d true b1 b2 b3 b4 := ⟨hr, e1, e2, e3, e4⟩
  by_cases hb : (true && (b1 && (b2 && (b3 && b4)))) = false
  · exact (join_arg ts t.row t.id t.q t.u d (RowOf.of t) A n c w hn h _ _ _ _ _ hJ hb).mono fun _ _ ⟨h1, h2⟩ => .inl ⟨2, by decide, h1, h2⟩
  · have hb' : b1 = true ∧ b2 = true ∧ b3 = true ∧ b4 = true := by
      cases b1 <;> cases b2 <;> cases b3 <;> cases b4 <;> simp_all
    obtain ⟨rfl, rfl, rfl, rfl⟩ := hb'
    have f1 : 1 ≤ t.id ∧ t.id ≤ 16 := by simpa using e1
    have f2 : 0 ≤ t.q ∧ t.q ≤ 4096 := by simpa using e2
    have f3 : t.u = 0 := by simpa using e3
    have hbd := tot_bd hr
    rcases first_or t.id ts with ⟨j, hj, hfi⟩ | hno
    · rw [h.len] at hj
      exact (join_twice ts t.row t.id t.q t.u d (RowOf.of t) A n c w hn h hJ j ⟨hj, hfi⟩).mono fun _ _ ⟨h1, h2⟩ => .inl ⟨36, by decide, h1, h2⟩
    · have hno2 : ∀ k, k < n → (nthT ts k).id ≠ t.id := fun k hk => hno k (by rw [h.len]; exact hk)
      by_cases hf : d < tot_q ts + t.q
      · exact (join_full ts t.row t.id t.q t.u d (RowOf.of t) A n c w hn h hJ hno2 hf (by omega)).mono fun _ _ ⟨h1, h2⟩ => .inl ⟨34, by decide, h1, h2⟩
      · have hne : ∀ y ∈ ts, y.id ≠ t.id := fun y hy => by
          obtain ⟨k, hk, rfl⟩ := nth_mem hy
          exact hno k hk
        have hri := ins_right hr hne (by unfold fits; omega)
        refine (join_own ts t.row t.id t.q t.u d (RowOf.of t) A n c w hn h hJ hno2 (by omega) (by omega) t rfl rfl).mono ?_
        rintro e w' ⟨g, cc, l, rfl, hp, hs, hq, hb⟩
        obtain rfl := sorted_ins hr hne l hp hs
        exact .inr ⟨g, cc, rfl, hq, hri, by rw [tot_ins hr hri]; omega, hb⟩
/-- moved, and back again -/
theorem move_or (ts : List Tn) (id b : Int) (A : Option Addr) (n c : Nat) (w : World) (hn : n ≤ 1000000) (h : RdT Tn.row 35 w A n c ts) (hr : rightB ts = true) :
    Calls Try.prog 28 #[.slice A n c, .int .i64 id, .int .i64 b] w fun e w' =>
      (∃ k : Int, (k == 0) = false ∧ e = .returned (.tuple #[.slice none 0 0, .int .i64 k]) ∧ Below w.heap.size w w') ∨
      (∃ (g cc j : Nat), e = .returned (.tuple #[.slice (some ⟨g, 0, none⟩) n cc, .int .i64 0]) ∧ RdT Tn.row 35 w' (some ⟨g, 0, none⟩) n cc (moved ts j b) ∧ j < n ∧ firstI id ts j ∧ moveE (nthT ts j) b = 0 ∧ Below w.heap.size w w') := by
  rcases first_or id ts with ⟨j, hj, hfi⟩ | hno
  · have hj' := hj
    rw [h.len] at hj
    by_cases hm : moveE (nthT ts j) b = 0
    · refine (move_ok ts id b A n c w hn h hr j ⟨hj, hfi⟩ hm).mono ?_
      rintro e w' ⟨v, rfl, ho, hb⟩
      obtain ⟨g, cc, rfl, _, _, _, _⟩ := own_head ho (by omega)
      obtain ⟨A', c', e', h'⟩ := own_rdT row_len (by decide) ho (by rw [moved_len]; exact h.len)
      cases e'
      exact .inr ⟨g, cc, j, rfl, h', hj, hfi, hm, hb⟩
    · exact (move_bad ts id b A n c w hn h hr j ⟨hj, hfi⟩ _ rfl hm).mono fun _ _ ⟨h1, h2⟩ => .inl ⟨_, by simpa using hm, h1, h2⟩
  · exact (move_none ts id b A n c w hn h hr (fun k hk => hno k (by rw [h.len]; exact hk))).mono fun _ _ ⟨h1, h2⟩ => .inl ⟨31, by decide, h1, h2⟩
theorem move_back (ts : List Tn) (id b : Int) (j : Nat) (A : Option Addr) (n c : Nat) (w : World) (hn : n ≤ 1000000) (h : RdT Tn.row 35 w A n c (moved ts j b)) (hr : rightB ts = true) (hj : j < n) (hl : ts.length = n) (hfi : firstI id ts j) (hm : moveE (nthT ts j) b = 0) :
    Calls Try.prog 28 #[.slice A n c, .int .i64 id, .int .i64 (-b)] w fun e w' =>
      (∃ (g cc : Nat), e = .returned (.tuple #[.slice (some ⟨g, 0, none⟩) n cc, .int .i64 0]) ∧ RdT Tn.row 35 w' (some ⟨g, 0, none⟩) n cc ts ∧ Below w.heap.size w w') := by
  have hj' : j < ts.length := by omega
  have h2 := moved_back hr hj' hm
  refine (move_ok (moved ts j b) id (-b) A n c w hn h (moved_right hr hj' hm) j ⟨hj, moved_first b hj' hfi⟩ h2.1).mono ?_
  rintro e w' ⟨v, rfl, ho, hb⟩
  rw [h2.2] at ho
  obtain ⟨g, cc, rfl, _, _, _, _⟩ := own_head ho (by omega)
  obtain ⟨A', c', e', h'⟩ := own_rdT row_len (by decide) ho hl
  cases e'
  exact ⟨g, cc, rfl, h', hb⟩
end Go.Proofs.Ytcbfdofeedlajaa.QuotaW
