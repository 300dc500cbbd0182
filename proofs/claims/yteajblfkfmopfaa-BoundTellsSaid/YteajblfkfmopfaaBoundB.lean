/- bound: sum, meta, Change, Format, Mount; op; txn.Steps. -/
import Derived.Test.YteajblfkfmopfaaBoundA
import Derived.Test.YteajblfkfmopfaaMem5
namespace Go.Proofs.Yteajblfkfmopfaa.Bound
set_option linter.unusedVariables false
set_option linter.unusedSimpArgs false
open Go Go.RowKit Go.Proofs.Yteajblfkfmopfaa.Mem Go.Proofs.Yteajblfkfmopfaa.Geo Go.Proofs.Yteajblfkfmopfaa.LayA

set_option maxHeartbeats 1000000 in
set_option maxRecDepth 100000 in
theorem lay_bad2 (s t p d : Int) (h : rightB s t p d = false) (w : World) :
    Calls Try.prog 171 #[.agg #[.int .i64 s, .int .i64 t, .int .i64 p, .int .i64 d]] w fun e w' => e = .returned (.tuple #[.agg lay0, .bool false]) ∧ Below w.heap.size w w' := by
  have H := As.mk h
  have HL := As.mk (heap_alloc2_new w (.cells #[.int .i64 s, .int .i64 t, .int .i64 p, .int .i64 d] 23) (.cells lay0 30))
  have HB := As.mk (below_alloc (below_alloc (Below.refl w.heap.size w) (.cells #[.int .i64 s, .int .i64 t, .int .i64 p, .int .i64 d] 23)) (.cells lay0 30))
  clear h
  go_enter Try.func171, Try.ntmps171
  go_wp2_with (first
    | (go_at_call 103; (with_reducible refine (right_any s t p d _ H.out _).mono ?_); rintro e w1 ⟨rfl, hb⟩; have HB1 := As.mk (below_step HB.out hb); have HL1 := As.mk ((hb.block (w.heap.size + 1) (by simp)).trans HL.out); clear hb)
    | (refine wpList_storeArr rfl rfl 30 _ _ rfl (w.heap.size + 1) rfl lay0 rfl 30 lay0 HL1.out info_layout rfl (by simp [lay0, Value.oneCell']) ?_))
  refine bodyPost_ret (results_row_tmp Try.results171 _ _ (w.heap.size + 1) 30 lay0 (0, 0) _ (.bool false) rfl rfl (setRow_new _ _ lay0 _ _ HL1.out) Try.underlying30 rfl info_layout) rfl ⟨rfl, LayA.below_setRow HB1.out _ (by omega) _⟩
theorem plain_right : rightB (64 : Nat) (2 : Nat) (2 : Nat) (8 : Nat) = true := by decide
theorem plain_lay : layC (recN (secN 64 2 2 8 + 1) 64) (secN 64 2 2 8) 8 = #[.int .i64 0, .int .i64 2, .int .i64 2, .int .i64 29, .int .i64 31, .int .i64 25, .int .i64 56, .int .i64 8, .int .i64 64] := by kernel_rfl

/-! ### sums -/
def sumI : List Int → Int
  | [] => 0
  | x :: r => x + sumI r
theorem sumI_snoc (l : List Int) (x : Int) : sumI (l ++ [x]) = sumI l + x := by
  induction l with
  | nil => simp [sumI]
  | cons y r ih => simp only [List.cons_append, sumI, ih]; omega
theorem sumI_take (l : List Int) (i : Nat) (h : i < l.length) : sumI (l.take (i + 1)) = sumI (l.take i) + nth l i := by
  rw [List.take_succ_eq_append_getElem h, sumI_snoc, nth_getD, List.getD_eq_getElem?_getD, List.getElem?_eq_getElem h]
  rfl
set_option maxHeartbeats 400000 in
theorem sum_any (l : List Int) (S : Int) (hS : sumI l = S) (A : Option Addr) (n c : Nat) (w : World) (hn : n ≤ 1000) (h : Rd .i64 w A n c l) (hb : ∀ i, i ≤ n → -1000000000000 ≤ sumI (l.take i) ∧ sumI (l.take i) ≤ 1000000000000) :
    Calls Try.prog 93 #[.slice A n c] w fun e w' => e = .returned (.int .i64 S) ∧ w = w' := by
  have HN := As.mk hn
  have H := As.mk h
  have HB := As.mk hb
  have HS := As.mk hS
  clear hn h hb hS
  go_enter Try.func93, Try.ntmps93
  go_wp2
  go_loopg [3, 8] n (fun kq v3 v8 wr => ∃ i : Nat, i + kq = n ∧ v3 = .int .i64 (sumI (l.take i)) ∧ v8 = .int .i64 (i : Int) ∧ As (w = wr))
  case atStart => exact ⟨0, by omega, rfl, rfl, ⟨rfl⟩⟩
  case round =>
    obtain ⟨i, hi, rfl, rfl, HW⟩ := hrel
    have HI := As.mk hi
    obtain rfl := HW.out
    clear hi HW
    by_cases hlt : i < n
    · have c0 : decide ((i : Int) < (n : Int)) = true := decide_eq_true (by omega)
      have c1 : decide (i < n) = true := decide_eq_true hlt
      have lt' : (i : Int) < (n : Int) := by omega
      have hw : wrap64 ((i : Int) + 1) = ((i + 1 : Nat) : Int) := wrap_up (by have := HN.out; omega)
      obtain ⟨ad, ea, h1⟩ := H.out.at i hlt
      cases ea
      have HST := As.mk (sumI_take l i (by rw [H.out.len]; exact hlt))
      have b1 := HB.out (i + 1) (by omega)
      rw [HST.out] at b1
      obtain ⟨s, hs⟩ : ∃ s, sumI (l.take i) = s := ⟨_, rfl⟩
      obtain ⟨x, hx⟩ : ∃ x, nth l i = x := ⟨_, rfl⟩
      rw [hs, hx] at b1 HST
      rw [hx] at h1
      rw [hs]
      have hw2 : wrap64 (s + x) = s + x := wr _ (by omega)
      have HLT := As.mk hlt
      clear hlt hs hx b1
      go_wp2
      go_roundg (n - (i + 1))
      case measure => have := HI.out; have := HLT.out; omega
      case rel => exact ⟨i + 1, by have := HI.out; have := HLT.out; omega, by rw [HST.out]; first | rfl | rw [hw2], by go_num, ⟨rfl⟩⟩
    · have c0 : decide ((i : Int) < (n : Int)) = false := decide_eq_false (by omega)
      have c1 : decide (i < n) = false := decide_eq_false hlt
      have HF : As (sumI (l.take i) = S) := ⟨by rw [← HS.out, List.take_of_length_le (by rw [H.out.len]; omega)]⟩
      clear hlt
      rw [HF.out]
      go_wp2
      go_ret
      exact ⟨rfl, rfl⟩
/-- of two and of three numbers that the call itself lays down -/
theorem sum_two (a b S : Int) (hS : a + b = S) (ha : 0 ≤ a ∧ a ≤ 100000000000) (hb : 0 ≤ b ∧ b ≤ 100000000000) (w : World) :
    Calls Try.prog 93 #[.slice (some ⟨w.heap.size, 0, none⟩) 2 2] (w.alloc (.cells #[.int .i64 a, .int .i64 b] 3)) fun e w' => e = .returned (.int .i64 S) ∧ Below w.heap.size w w' :=
  (sum_any [a, b] S (by simp [sumI]; omega) _ 2 2 _ (by decide) (Rd.lit w .i64 3 [a, b] (by show 2 ≤ maxLen; decide)) (by
    intro i hi
    rcases (show i = 0 ∨ i = 1 ∨ i = 2 by omega) with rfl | rfl | rfl <;> simp [sumI] <;> omega)).mono fun _ _ ⟨h1, h2⟩ => ⟨h1, h2 ▸ below_alloc (Below.refl _ _) _⟩
theorem sum_three (a b c S : Int) (hS : a + b + c = S) (ha : 0 ≤ a ∧ a ≤ 100000000000) (hb : 0 ≤ b ∧ b ≤ 100000000000) (hc : 0 ≤ c ∧ c ≤ 100000000000) (w : World) :
    Calls Try.prog 93 #[.slice (some ⟨w.heap.size, 0, none⟩) 3 3] (w.alloc (.cells #[.int .i64 a, .int .i64 b, .int .i64 c] 3)) fun e w' => e = .returned (.int .i64 S) ∧ Below w.heap.size w w' :=
  (sum_any [a, b, c] S (by simp [sumI]; omega) _ 3 3 _ (by decide) (Rd.lit w .i64 3 [a, b, c] (by show 3 ≤ maxLen; decide)) (by
    intro i hi
    rcases (show i = 0 ∨ i = 1 ∨ i = 2 ∨ i = 3 by omega) with rfl | rfl | rfl | rfl <;> simp [sumI] <;> omega)).mono fun _ _ ⟨h1, h2⟩ => ⟨h1, h2 ▸ below_alloc (Below.refl _ _) _⟩
theorem sum_four (a b c d S : Int) (hS : a + b + c + d = S) (ha : 0 ≤ a ∧ a ≤ 100000000000) (hb : 0 ≤ b ∧ b ≤ 100000000000) (hc : 0 ≤ c ∧ c ≤ 100000000000) (hd : 0 ≤ d ∧ d ≤ 100000000000) (w : World) :
    Calls Try.prog 93 #[.slice (some ⟨w.heap.size, 0, none⟩) 4 4] (w.alloc (.cells #[.int .i64 a, .int .i64 b, .int .i64 c, .int .i64 d] 3)) fun e w' => e = .returned (.int .i64 S) ∧ Below w.heap.size w w' :=
  (sum_any [a, b, c, d] S (by simp [sumI]; omega) _ 4 4 _ (by decide) (Rd.lit w .i64 3 [a, b, c, d] (by show 4 ≤ maxLen; decide)) (by
    intro i hi
    rcases (show i = 0 ∨ i = 1 ∨ i = 2 ∨ i = 3 ∨ i = 4 by omega) with rfl | rfl | rfl | rfl | rfl <;> simp [sumI] <;> omega)).mono fun _ _ ⟨h1, h2⟩ => ⟨h1, h2 ▸ below_alloc (Below.refl _ _) _⟩
/-! ### meta's sectors -/
def secB (s t p d : Int) : Nat := if rightB s t p d = true then secN s.toNat t.toNat p.toNat d.toNat else 0
def geoA (s t p d : Int) : Array Value := #[.int .i64 s, .int .i64 t, .int .i64 p, .int .i64 d]
theorem lay0_zero : (Try.prog.info? 30).map (fun i => (i.zero, i.size)) = some (some (.agg lay0), lay0.size) := by kernel_rfl
theorem lay_one (r m d : Nat) : (layC r m d).all (·.oneCell') = true := by simp [layC, Value.oneCell']
set_option maxHeartbeats 1000000 in
set_option maxRecDepth 100000 in
theorem meta_any (s t p d : Int) (m : Nat) (hm : secB s t p d = m) (w : World) :
    Calls Try.prog 90 #[.agg #[.int .i64 s, .int .i64 t, .int .i64 p, .int .i64 d]] w fun e w' => e = .returned (.int .i64 (m : Int)) ∧ Below w.heap.size w w' := by
  have HB0 := As.mk (below_alloc (Below.refl w.heap.size w) (.cells #[.int .i64 s, .int .i64 t, .int .i64 p, .int .i64 d] 23))
  have HG0 := As.mk (heap_alloc_new w (.cells #[.int .i64 s, .int .i64 t, .int .i64 p, .int .i64 d] 23))
  rcases Bool.eq_false_or_eq_true (rightB s t p d) with hr | hr
  · obtain ⟨s, t, p, d, rfl, rfl, rfl, rfl, -⟩ := ((rightB_iff _ _ _ _).1 hr).nat
    have HR := As.mk hr
    have HM : As (secN s t p d = m) := ⟨by rw [← hm]; unfold secB; rw [if_pos hr]; rfl⟩
    obtain ⟨r, hrr⟩ : ∃ r, recN (secN s t p d + 1) s = r := ⟨_, rfl⟩
    have HRR := As.mk hrr
    have HONE := As.mk (lay_one r m d)
    clear hr hm hrr
    go_enter Try.func90, Try.ntmps90
    go_wp2_with (first
      | (refine wpList_boxArr rfl 23 _ rfl #[.int .i64 (s : Int), .int .i64 (t : Int), .int .i64 (p : Int), .int .i64 (d : Int)] rfl ?_; refine As.out ?_))
    refine As.mk ?_
    generalize w.alloc _ = w1 at *
    go_wp2_with (first
      | (refine wpList_load_row rfl 23 (.tmp 1) rfl w.heap.size rfl 23 #[.int .i64 (s : Int), .int .i64 (t : Int), .int .i64 (p : Int), .int .i64 (d : Int)] (0, 0) _ HG0.out Try.underlying23 rfl info_geom ?_)
      | (go_at_call 171; (with_reducible refine (lay_ok s t p d HR.out w1).mono ?_); rintro e w2 ⟨rfl, hb⟩; rw [HRR.out, HM.out]; have HB2 := As.mk (below_step HB0.out hb); clear hb)
      | (refine wpList_allocArr rfl 30 rfl lay0 lay0_zero ?_)
      | (refine wpList_storeNew rfl rfl 30 _ _ rfl rfl (layC r m d) rfl 30 lay0 info_layout rfl HONE.out ?_; refine As.out ?_))
    refine As.mk ?_
    have HB3 := As.mk (below_step HB2.out (below_alloc (Below.refl w2.heap.size w2) (.cells (layC r m d) 30)))
    have HL3 := As.mk (heap_alloc_new w2 (.cells (layC r m d) 30))
    generalize w2.alloc _ = w3 at *
    generalize w2.heap.size = g2 at *
    have c5 : w3.cell? ⟨g2, 5, none⟩ = some (.int .i64 (m : Int)) := cell_of_row w3 g2 5 _ _ _ HL3.out
    go_wp2
    go_ret
    exact ⟨rfl, HB3.out⟩
  · have HR := As.mk hr
    obtain rfl : m = 0 := by rw [← hm]; unfold secB; rw [if_neg (by rw [hr]; decide)]
    clear hr hm
    go_enter Try.func90, Try.ntmps90
    go_wp2_with (first
      | (refine wpList_boxArr rfl 23 _ rfl #[.int .i64 s, .int .i64 t, .int .i64 p, .int .i64 d] rfl ?_; refine As.out ?_))
    refine As.mk ?_
    generalize w.alloc _ = w1 at *
    go_wp2_with (first
      | (refine wpList_load_row rfl 23 (.tmp 1) rfl w.heap.size rfl 23 #[.int .i64 s, .int .i64 t, .int .i64 p, .int .i64 d] (0, 0) _ HG0.out Try.underlying23 rfl info_geom ?_)
      | (go_at_call 171; (with_reducible refine (lay_bad2 s t p d HR.out w1).mono ?_); rintro e w2 ⟨rfl, hb⟩; have HB2 := As.mk (below_step HB0.out hb); clear hb)
      | (refine wpList_allocArr rfl 30 rfl lay0 lay0_zero ?_)
      | (refine wpList_storeNew rfl rfl 30 _ _ rfl rfl lay0 rfl 30 lay0 info_layout rfl (by kernel_rfl) ?_; refine As.out ?_))
    refine As.mk ?_
    have HB3 := As.mk (below_step HB2.out (below_alloc (Below.refl w2.heap.size w2) (.cells lay0 30)))
    generalize w2.alloc _ = w3 at *
    go_wp2
    go_ret
    exact ⟨rfl, HB3.out⟩
end Go.Proofs.Yteajblfkfmopfaa.Bound
