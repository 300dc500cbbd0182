/- path.levels, Total: a loop over a function. -/
import Derived.RangeFuncNested
import Derived.RangeFuncFrom
import Derived.RangeFuncBound
import Derived.RangeFuncCalls
import Derived.RangeFuncLeaves
import Derived.Shelf.Abstract
import Derived.Shelf.RegionOpen
import Derived.WalkKit
import Derived.OwnWalkIn
import Derived.TacticsInMore
import Derived.LoopNIn
import Derived.LoopIn
import Derived.Test.YteajblfkfmopfaaBoundA
namespace Go.Proofs.Yteajblfkfmopfaa.Bound
set_option linter.unusedVariables false
set_option linter.unusedSimpArgs false
open Go Go.RowKit Go.Shelf Go.Proofs.Yteajblfkfmopfaa.Mem Go.Proofs.Yteajblfkfmopfaa.Geo Go.Proofs.Yteajblfkfmopfaa.LayA

attribute [local go_sem] Oper.semAt_some

/-- a level, and its first place -/
abbrev Lv (n : Nat) : Type := { p : Nat × Nat // 1 ≤ p.1 ∧ p.1 ≤ depN n ∧ p.2 ≤ 24582 }
abbrev encL {n : Nat} (x : Lv n) : Array Value := #[.int .i64 (x.1.1 : Int), .int .i64 (x.1.2 : Int)]
theorem sumC_bd {n l : Nat} (hn : n ≤ 4096) (hl : l ≤ depN n) : sumC n l ≤ 24582 := by
  have h := sumC_le n l
  have h2 := (dep_bd n).2
  have h3 : l * (n + 1) ≤ 6 * (n + 1) := Nat.mul_le_mul_right _ (by omega)
  omega
def lvl (n j : Nat) (hn : n ≤ 4096) (h : j < depN n) : Lv n := ⟨(j + 1, sumC n j), by omega, by omega, sumC_bd hn (by omega)⟩
def lvls (n : Nat) (hn : n ≤ 4096) : (j : Nat) → j ≤ depN n → List (Lv n)
  | 0, _ => []
  | j + 1, h => lvls n hn j (by omega) ++ [lvl n j hn (by omega)]
theorem lvls_len (n : Nat) (hn : n ≤ 4096) : ∀ (j : Nat) (h : j ≤ depN n), (lvls n hn j h).length = j
  | 0, _ => rfl
  | j + 1, h => by rw [lvls, List.length_append, lvls_len n hn j (by omega)]; rfl
/-- the places told so far -/
def allV {n : Nat} (pre : List (Lv n)) : Nat := match pre.getLast? with | none => 0 | some x => x.1.2 + cN n (depN n - x.1.1)
theorem allV_snoc {n : Nat} (pre : List (Lv n)) (x : Lv n) : allV (pre ++ [x]) = x.1.2 + cN n (depN n - x.1.1) := by simp [allV]
theorem allV_lvls (n : Nat) (hn : n ≤ 4096) : allV (lvls n hn (depN n) (Nat.le_refl _)) = totN n := by
  have hb := dep_bd n
  obtain ⟨j, hj⟩ : ∃ j, depN n = j + 1 := ⟨depN n - 1, by omega⟩
  have key : ∀ (d : Nat) (h : d ≤ depN n), d = j + 1 → allV (lvls n hn d h) = sumC n d := by
    intro d h e
    subst e
    rw [lvls, allV_snoc]
    rfl
  exact key _ _ hj
def KpB (Bn : Nat) (W W' : World) : Prop := W'.heap[Bn]? = W.heap[Bn]?
set_option maxHeartbeats 400000 in
theorem levels_any (n : Nat) (w : World) :
    Calls Try.prog 173 #[.int .i64 (n : Int)] w fun e w' => e = .returned (.func (.func 212) #[] #[.pointer (some ⟨w.heap.size, 0, none⟩)]) ∧ w' = w.alloc (.cells #[.int .i64 (n : Int)] 3) := by
  go_enter Try.func173, Try.ntmps173
  go_wp2
  go_ret
  exact ⟨rfl, rfl⟩
set_option maxHeartbeats 2000000 in
set_option maxRecDepth 100000 in
theorem levels_stops (n : Nat) (hn : 1 ≤ n ∧ n ≤ 4096) (k : Nat) (Bn : Nat) (w : World) (hB : w.heap[Bn]? = some (.cells #[.int .i64 (n : Int)] 3 (0, 0))) :
    SeqStopsK Fence.wide (k + 2) Try.prog 212 #[.pointer (some ⟨Bn, 0, none⟩)] encL (KpB Bn) (fun xs => xs = lvls n hn.2 (depN n) (Nat.le_refl _)) (fun _ => True) (depN n) w := fun l J Jx W hW hJ hJx hY h0 => by
  have HN := As.mk hn
  have HW0 : As (W.heap[Bn]? = some (.cells #[.int .i64 (n : Int)] 3 (0, 0))) := ⟨(hW.block Bn (Array.getElem?_eq_some_iff.1 hB).1).trans hB⟩
  clear hB hW
  refine callsIn_of_wp Try.func212 rfl trivial ?_ rfl
  simp only [Try.ntmps212, List.size_toArray, List.length_cons, List.length_nil, Nat.reduceAdd, Nat.reduceSub, Array.replicate_succ, Array.replicate_zero, List.push_toArray, List.append_toArray, List.nil_append, List.cons_append]
  gi_wp2
  gi_loopw [3, 4] (fun first level wr => ∃ (j : Nat) (hj : j ≤ depN n) (d f : Nat), d = j + 1 ∧ f = sumC n j ∧ first = .int .i64 (f : Int) ∧ level = .int .i64 (d : Int) ∧ As (wr.heap[Bn]? = some (.cells #[.int .i64 (n : Int)] 3 (0, 0))) ∧ J (lvls n hn.2 j hj) wr) (fun _ level _ => 8 - (intOf level).toNat)
  case atStart => exact ⟨0, Nat.zero_le _, 1, 0, rfl, rfl, rfl, rfl, HW0, h0⟩
  case round =>
    obtain ⟨j, hj, d, f, hd, hf, rfl, rfl, HW, hJs⟩ := hrel
    have HD := As.mk hd
    have HF := As.mk hf
    have HJ := As.mk hJs
    have hb := dep_bd n
    obtain ⟨D, hD⟩ : ∃ D, depN n = D := ⟨_, rfl⟩
    have HDD := As.mk hD
    have HHJ := As.mk hj
    have hcn : wr.cell? ⟨Bn, 0, none⟩ = some (.int .i64 (n : Int)) := cell_of_row wr Bn 0 _ _ _ HW.out
    have hsb := As.mk (sumC_bd hn.2 hj)
    clear hd hf hJs
    by_cases hlt : j < D
    · have c0 : decide ((d : Int) ≤ (D : Int)) = true := decide_eq_true (by have := HD.out; omega)
      have c1 : decide (d ≤ D) = true := decide_eq_true (by have := HD.out; omega)
      have hj' : j < depN n := by rw [hD]; exact hlt
      obtain ⟨fn, tmps, assign, body, hy, hR⟩ := hY (lvls n hn.2 j hj) (lvl n j hn.2 hj') wr HJ.out (by rw [lvls_len]; exact hj')
      have hy2 : encL (lvl n j hn.2 hj') = #[.int .i64 (d : Int), .int .i64 (f : Int)] := by rw [HD.out, HF.out]; rfl
      rw [hy2] at hy
      clear hy2
      rw [show k + 2 - 1 = k + 1 from rfl] at hR
      have HLT := As.mk hlt
      clear hlt hb hD
      gi_wp2_with (refine ⟨trivial, ?_⟩; gi_at_call 213; refine (callsIn_wide.2 (depth_ok n D HN.out HDD.out _)).mono ?_; rintro e w' ⟨rfl, rfl⟩)
      refine hR.mono ?_
      rintro e W3 (⟨rfl, hJ3, hk3⟩ | ⟨rfl, hJx3⟩)
      · have HW3 : As (W3.heap[Bn]? = some (.cells #[.int .i64 (n : Int)] 3 (0, 0))) := ⟨Eq.trans hk3 HW.out⟩
        have HJ3 := As.mk hJ3
        have hcn3 : W3.cell? ⟨Bn, 0, none⟩ = some (.int .i64 (n : Int)) := cell_of_row W3 Bn 0 _ _ _ HW3.out
        obtain ⟨x, hx⟩ : ∃ x, cN n (depN n - d) = x := ⟨_, rfl⟩
        have HX := As.mk hx
        have HKD : As (d + (depN n - d) = depN n) := ⟨by have := HD.out; omega⟩
        have hxl := c_le n (depN n - d)
        rw [hx] at hxl
        have hs1 := hsb.out
        rw [← HF.out] at hs1
        have hd7 : d ≤ 7 := by have := HD.out; have := (dep_bd n).2; omega
        have hw : wrap64 ((d : Int) + 1) = ((d + 1 : Nat) : Int) := wn _ (by omega) (by omega)
        have hw2 : wrap64 ((f : Int) + (x : Int)) = ((f + x : Nat) : Int) := wn _ (by omega) (by have := HN.out; omega)
        have HS2 : As (f + x = sumC n (j + 1)) := ⟨by rw [sumC, HF.out, ← HX.out, HD.out]⟩
        clear hx hxl hs1 hk3 hJ3 hd7
        gi_wp2_with (refine ⟨trivial, ?_⟩; gi_at_call 174; refine (callsIn_wide.2 (count_ok n d (depN n - d) x HN.out HKD.out HX.out _)).mono ?_; rintro e w' ⟨rfl, rfl⟩)
        refine ⟨⟨j + 1, hj', d + 1, f + x, by have := HD.out; omega, HS2.out, by rw [hw2], by rw [hw], HW3, HJ3.out⟩, ?_⟩
        rw [hw]
        have h1 := HD.out
        have h2 := (dep_bd n).2
        simp only [intOf]
        omega
      · gi_wp2
        refine bodyPost_ret (results_none rfl _ _ _) rfl ?_
        exact ⟨⟨_, rfl⟩, .inr ⟨_, trivial, hJx3⟩⟩
    · have c0 : decide ((d : Int) ≤ (D : Int)) = false := decide_eq_false (by have := HD.out; omega)
      have c1 : decide (d ≤ D) = false := decide_eq_false (by have := HD.out; omega)
      have hjd : j = depN n := by omega
      have HJF : As (J (lvls n hn.2 (depN n) (Nat.le_refl _)) wr) := ⟨by
        have h := HJ.out
        subst hjd
        exact h⟩
      clear hlt hb hD hjd
      gi_wp2_with (refine ⟨trivial, ?_⟩; gi_at_call 213; refine (callsIn_wide.2 (depth_ok n D HN.out HDD.out _)).mono ?_; rintro e w' ⟨rfl, rfl⟩)
      go_end0
      exact ⟨⟨_, rfl⟩, .inl ⟨_, rfl, HJF.out⟩⟩
set_option maxHeartbeats 2000000 in
set_option maxRecDepth 100000 in
theorem total_ok (n T : Nat) (hn : 1 ≤ n ∧ n ≤ 4096) (hT : totN n = T) (w : World) :
    Calls Try.prog 95 #[.int .i64 (n : Int)] w fun e w' => e = .returned (.int .i64 (T : Int)) ∧ Below w.heap.size w w' := by
  have HN := As.mk hn
  have HT := As.mk hT
  clear hT
  refine (callsIn_wide (n := 6)).1 ?_
  refine callsIn_of_wp_marks Try.func95 rfl trivial ?_ rfl
  simp only [Try.ntmps95, List.size_toArray, List.length_cons, List.length_nil, Nat.reduceAdd, Nat.reduceSub, Array.replicate_succ, Array.replicate_zero, List.push_toArray, List.append_toArray, List.nil_append, List.cons_append]
  gi_wp2_with (refine ⟨trivial, ?_⟩; gi_at_call 173; refine (callsIn_wide.2 (levels_any n _)).mono ?_; rintro e w' ⟨rfl, rfl⟩)
  have A0 := alloc3_0 w (.cells #[.int .i64 (n : Int)] 3) (.cells #[.int .i64 0] 3) (.cells #[.int .i64 (n : Int)] 3)
  have A1 := alloc3_1 w (.cells #[.int .i64 (n : Int)] 3) (.cells #[.int .i64 0] 3) (.cells #[.int .i64 (n : Int)] 3)
  have A2 := alloc3_2 w (.cells #[.int .i64 (n : Int)] 3) (.cells #[.int .i64 0] 3) (.cells #[.int .i64 (n : Int)] 3)
  have hB0 : Below w.heap.size w (((w.alloc (.cells #[.int .i64 (n : Int)] 3)).alloc (.cells #[.int .i64 0] 3)).alloc (.cells #[.int .i64 (n : Int)] 3)) := below_alloc (below_alloc (below_alloc (Below.refl _ _) _) _) _
  have hsz := alloc3_size w (.cells #[.int .i64 (n : Int)] 3) (.cells #[.int .i64 0] 3) (.cells #[.int .i64 (n : Int)] 3)
  generalize ((w.alloc _).alloc _).alloc _ = w3 at *
  refine wpIn_rangeFunc_ownF rfl (by decide) (gf := 212) (lb := #[.pointer (some ⟨w.heap.size + 1 + 1, 0, none⟩)]) rfl trivial (enters_of Try.func212 (by kernel_rfl) rfl)
    (levels_stops n HN.out 3 (w.heap.size + 1 + 1) w3 A2) (fun {A B C} h k => Eq.trans k h) (fun W l o o' hl ho _ _ => (grownBy_putObj' W l o').block _ (by have := (Array.getElem?_eq_some_iff.1 ho).1; omega) (fun e => by have := Option.some.inj e; omega)) (Below.refl _ _) (fun _ => rfl)
    (fun pre W => (W.cell? ⟨w.heap.size, 0, none⟩ = some (.int .i64 (n : Int)) ∧ W.cell? ⟨w.heap.size + 1, 0, none⟩ = some (.int .i64 (allV pre : Nat)) ∧ W.frozen? ⟨w.heap.size + 1, 0, none⟩ = false) ∧ Below w.heap.size w W)
    (fun _ _ _ => False)
    (OwnFrom.and (Own.from (fun s A B row hs hg hr => ⟨cell_kept hs.1 hg hr, cell_kept hs.2.1 hg hr, (frozen_kept hs.2.1 hg hr).trans hs.2.2⟩) _) (ownFrom_below (Nat.le_refl _) (by omega)))
    (fun _ _ _ _ _ hs _ _ => hs)
    ⟨⟨cell_of_row _ _ 0 _ _ _ A0, cell_of_row _ _ 0 _ _ _ A1, frozen_of_row _ _ 0 _ _ A1⟩, hB0⟩
    (fun x => { tmps := #[.int .i64 (n : Int), .pointer (some ⟨w.heap.size, 0, none⟩), .int .i64 0, .pointer (some ⟨w.heap.size + 1, 0, none⟩), .int .i64 (x.1.1 : Int), .int .i64 (x.1.2 : Int), .int .i64 (n : Int), .func (.func 212) #[] #[.pointer (some ⟨w.heap.size + 1 + 1, 0, none⟩)], .int .i64 (x.1.1 : Int), .int .i64 (x.1.2 : Int), undef, undef, undef, undef, undef, undef], defers := [] }) ?assign ?body ?done ?stop
  case assign =>
    intro l x W K hK
    gi_wp2
    exact hK
  case body =>
    rintro l pre x W ⟨⟨hc, ha, hf⟩, hB⟩ _
    obtain ⟨⟨d, f⟩, h1, h2, h3⟩ := x
    simp only at h1 h2 h3 ⊢
    obtain ⟨y, hy⟩ : ∃ y, cN n (depN n - d) = y := ⟨_, rfl⟩
    have HY := As.mk hy
    have HK := As.mk (show d + (depN n - d) = depN n by omega)
    have hyl := c_le n (depN n - d)
    rw [hy] at hyl
    have hw2 : wrap64 ((f : Int) + (y : Int)) = ((f + y : Nat) : Int) := wn _ (by omega) (by have := HN.out; omega)
    have HAV : As (allV (pre ++ [(⟨(d, f), h1, h2, h3⟩ : Lv n)]) = f + y) := ⟨by rw [allV_snoc, ← HY.out]⟩
    have HB := As.mk hB
    clear hy hyl hB
    gi_wp2_with (refine ⟨trivial, ?_⟩; gi_at_call 174; refine (CallsIn.inRound l (callsIn_wide.2 (count_ok n d (depN n - d) y HN.out HK.out HY.out _))).mono ?_; rintro e w' ⟨rfl, rfl⟩)
    refine ⟨KeepsOthers.setCell _ _ _, heap_setCell_other W ⟨w.heap.size + 1, 0, none⟩ _ _ (by simp), ⟨⟨?_, ?_, ?_⟩, HB.out.setCell (p := ⟨w.heap.size + 1, 0, none⟩) (by simp) _⟩⟩
    · rw [World.cell?_setCell_other _ _ _ _ (by simp)]
      exact hc
    · rw [HAV.out]
      refine (World.cell?_setCell_same' _ _ _ (by rw [ha]; rfl)).trans ?_
      first | rfl | rw [hw2] | (rw [Int.natCast_add]; done)
    · rw [World.frozen?_setCell]
      exact hf
  case done =>
    rintro D ys W hD rfl ⟨⟨hc, ha, hf⟩, hB⟩ hK
    rw [allV_lvls, HT.out] at ha
    gi_wp2
    refine ⟨by simp, .inl ⟨_, _, rfl, run_takeDeferred hK, ?_⟩⟩
    exact ⟨_, results_tmp rfl _ _ _, rfl, hB.trans (belowK_b (w := w) (Nat.le_refl _) W D _ _ (by omega) hK rfl rfl)⟩
  case stop =>
    rintro D c pre W _ _ h _
    exact h.elim
end Go.Proofs.Yteajblfkfmopfaa.Bound
