/- bound.Draws. -/
import Derived.Test.YteajblfkfmopfaaBoundF
namespace Go.Proofs.Yteajblfkfmopfaa.Bound
set_option linter.unusedVariables false
set_option linter.unusedSimpArgs false
open Go Go.RowKit Go.Proofs.Yteajblfkfmopfaa.Mem Go.Proofs.Yteajblfkfmopfaa.Flat Go.Proofs.Yteajblfkfmopfaa.Geo Go.Proofs.Yteajblfkfmopfaa.LayA

/-- an op of a kind -/
def opRow (k : Int) : List Value := [.int .i64 k, .int .i64 0, .int .i64 0, .int .i64 0, .int .i64 0, .slice none 0 0, .slice none 0 0]
theorem op_len (k : Int) : (opRow k).length = 7 := rfl
theorem op_one (k : Int) : ∀ v ∈ opRow k, v.oneCell' = true := by
  intro v hv
  simp only [opRow, List.mem_cons, List.not_mem_nil, or_false] at hv
  rcases hv with rfl | rfl | rfl | rfl | rfl | rfl | rfl <;> rfl
def opZ : Array Value := (opRow 0).toArray
theorem opZ_info : (Try.prog.info? 39).map (fun i => (i.zero, i.size)) = some (some (.agg opZ), opZ.size) := by kernel_rfl
theorem op_info : (Try.prog.info? 39).map (·.size) = some 7 := by kernel_rfl
theorem op_info3 : (Try.prog.info? 39).map (fun i => (i.zero, i.size, i.bytes)) = some (some (.agg opZ), 7, 88) := by kernel_rfl
theorem op_all (k : Int) : (opRow k).toArray.all (·.oneCell') = true := by
  rw [Array.all_eq_true]
  intro i hi
  exact op_one k _ (by rw [List.getElem_toArray]; exact List.getElem_mem _)
/-- bytes that the first i ops draw -/
def drN (ks : List Int) : Nat → Nat
  | 0 => 0
  | i + 1 => drN ks i + if drB (nthT ks i) = true then 64 else 0
theorem dr_le (ks : List Int) : ∀ i, drN ks i ≤ 64 * i
  | 0 => by simp [drN]
  | i + 1 => by
    have := dr_le ks i
    rw [drN]
    split <;> omega
set_option maxHeartbeats 1000000 in
set_option maxRecDepth 100000 in
theorem draws_any (ks : List Int) (A : Option Addr) (n c V : Nat) (hn : n ≤ 1000) (hV : drN ks n = V) (w : World) (h : RdT opRow 7 w A n c ks) :
    Calls Try.prog 26 #[.slice A n c] w fun e w' => e = .returned (.int .i64 (V : Int)) ∧ Below w.heap.size w w' := by
  have HN := As.mk hn
  have H := As.mk h
  have HV := As.mk hV
  clear hn h hV
  go_enter Try.func26, Try.ntmps26
  go_wp2
  go_loopg [3, 8] n (fun kq v3 v8 wr => ∃ i a : Nat, i + kq = n ∧ v3 = .int .i64 (a : Int) ∧ v8 = .int .i64 (i : Int) ∧ As (a = drN ks i) ∧ As (Below w.heap.size w wr))
  case atStart => exact ⟨0, 0, by omega, rfl, rfl, ⟨rfl⟩, ⟨Below.refl _ _⟩⟩
  case round =>
    obtain ⟨i, a, hi, rfl, rfl, HA, HB⟩ := hrel
    have HI := As.mk hi
    clear hi
    by_cases hlt : i < n
    · have c0 : decide ((i : Int) < (n : Int)) = true := decide_eq_true (by omega)
      have c1 : decide (i < n) = true := decide_eq_true hlt
      have lt' : (i : Int) < (n : Int) := by omega
      have hw : wrap64 ((i : Int) + 1) = ((i + 1 : Nat) : Int) := wrap_up (by have := HN.out; omega)
      obtain ⟨ad, ea, h1⟩ := (H.out.below HB.out).at i hlt
      cases ea
      have H1 := As.mk h1
      have HLT := As.mk hlt
      have HS : As (drN ks (i + 1) = drN ks i + if drB (nthT ks i) = true then 64 else 0) := ⟨rfl⟩
      have hal := dr_le ks i
      have HAL := As.mk (show a ≤ 64000 by have := HA.out; have := HN.out; omega)
      obtain ⟨k, hk⟩ : ∃ k, nthT ks i = k := ⟨_, rfl⟩
      rw [hk] at H1 HS
      have HR7 : As ((Try.prog.info? 39).map (·.size) = some (opRow k).length) := ⟨op_info⟩
      have HR8 : As ((Try.prog.info? 39).map (·.size) = some (opRow k).toArray.size) := ⟨op_info⟩
      have HZS : As (opZ.size = (opRow k).toArray.size) := ⟨rfl⟩
      clear h1 hlt hal hk
      go_wp2_with (first
        | (refine wpList_load_at rfl 39 (.tmp 10) rfl (ad.add (i * 7)) rfl (opRow k) _ H1.out Try.underlying39 rfl HR7.out ?_)
        | (refine wpList_allocArr rfl 39 rfl opZ opZ_info ?_)
        | (refine wpList_storeNew rfl rfl 39 _ _ rfl rfl (opRow k).toArray rfl 39 opZ HR8.out HZS.out (op_all k) ?_; refine As.out ?_))
      refine As.mk ?_
      have HB2 := As.mk (below_step HB.out (below_alloc (Below.refl wr.heap.size wr) (.cells (opRow k).toArray 39)))
      have HW2 := As.mk (heap_alloc_new wr (.cells (opRow k).toArray 39))
      generalize wr.alloc _ = w2 at *
      generalize wr.heap.size = g2 at *
      have z0 : w2.cell? ⟨g2, 0, none⟩ = some (.int .i64 k) := by rw [cell_of_row w2 g2 0 _ _ _ HW2.out]; rfl
      rcases Bool.eq_false_or_eq_true (drB k) with hd | hd
      · have HD := As.mk hd
        rw [if_pos hd] at HS
        clear hd
        go_wp2_with (first
          | (go_at_call 96; (with_reducible refine (odraws_any k true HD.out w2).mono ?_); rintro e w3 ⟨rfl, rfl⟩)
          | (go_at_call 93; (refine (sum_two (a : Int) 64 ((a + 64 : Nat) : Int) (by omega) (by have := HAL.out; omega) (by omega) w2).mono ?_); rintro e w4 ⟨rfl, hb⟩; have HB4 := As.mk (below_step HB2.out hb); clear hb))
        go_roundg (n - (i + 1))
        case measure => have := HI.out; have := HLT.out; omega
        case rel => exact ⟨i + 1, a + 64, by have := HI.out; have := HLT.out; omega, rfl, by go_num, ⟨by rw [HS.out, HA.out]⟩, HB4⟩
      · have HD := As.mk hd
        rw [if_neg (by rw [hd]; decide)] at HS
        clear hd
        go_wp2_with (go_at_call 96; (with_reducible refine (odraws_any k false HD.out w2).mono ?_); rintro e w3 ⟨rfl, rfl⟩)
        go_roundg (n - (i + 1))
        case measure => have := HI.out; have := HLT.out; omega
        case rel => exact ⟨i + 1, a, by have := HI.out; have := HLT.out; omega, rfl, by go_num, ⟨by rw [HS.out, HA.out]; rfl⟩, HB2⟩
    · have c0 : decide ((i : Int) < (n : Int)) = false := decide_eq_false (by omega)
      have c1 : decide (i < n) = false := decide_eq_false hlt
      obtain rfl : i = n := by have := HI.out; omega
      have HVV := As.mk (HA.out.trans HV.out)
      clear hlt
      go_wp2
      go_ret
      exact ⟨by rw [HVV.out]; rfl, HB.out⟩
/-! ### the example -/
set_option maxHeartbeats 400000 in
theorem plain_any (w : World) : Calls Try.prog 88 #[] w fun e w' => e = .returned (.agg #[.int .i64 64, .int .i64 2, .int .i64 3, .int .i64 10]) ∧ Below w.heap.size w w' := by
  have HB0 := As.mk (below_alloc (Below.refl w.heap.size w) (.cells #[.int .i64 64, .int .i64 2, .int .i64 3, .int .i64 10] 23))
  have HG0 := As.mk (heap_alloc_new w (.cells #[.int .i64 64, .int .i64 2, .int .i64 3, .int .i64 10] 23))
  go_enter Try.func88, Try.ntmps88
  go_wp2
  refine bodyPost_ret (v := .agg #[.int .i64 64, .int .i64 2, .int .i64 3, .int .i64 10]) ?_ rfl ⟨rfl, HB0.out⟩
  exact results_cell_row Try.results88 _ _ w.heap.size 23 _ (0, 0) _ rfl HG0.out Try.underlying23 rfl info_geom
theorem plain_cost : ∃ V, chgN 64 2 3 10 9 = V ∧ 3 < V := ⟨_, rfl, by decide⟩
set_option maxHeartbeats 400000 in
theorem awake_true (w : World) : Calls Try.prog 17 #[] w fun e w' => e = .returned (.bool true) ∧ Below w.heap.size w w' := by
  obtain ⟨V, hV, h3⟩ := plain_cost
  have HV := As.mk hV
  have HD0 := As.mk (show drN [] 0 = 0 from rfl)
  have d0 : decide ((3 : Int) < (V : Int)) = true := decide_eq_true (by omega)
  have d1 : decide (3 < V) = true := decide_eq_true h3
  clear hV h3
  go_enter Try.func17, Try.ntmps17
  go_wp2_with (first
    | (go_at_call 26; (refine (draws_any [] none 0 0 0 (by decide) HD0.out w (RdT.nil _ _ _ _ _ (by decide))).mono ?_); rintro e w1 ⟨rfl, hb⟩; have HB1 := As.mk hb; clear hb)
    | (go_at_call 88; (with_reducible refine (plain_any w1).mono ?_); rintro e w2 ⟨rfl, hb⟩; have HB2 := As.mk (below_step HB1.out hb); clear hb)
    | (go_at_call 21; (with_reducible refine (change_any 64 2 3 10 9 V HV.out w2).mono ?_); rintro e w3 ⟨rfl, hb⟩; have HB3 := As.mk (below_step HB2.out hb); clear hb))
  go_ret
  exact ⟨rfl, HB3.out⟩
end Go.Proofs.Yteajblfkfmopfaa.Bound
