/- slices.SortFunc at tenants, by their IDs. -/
import Derived.Test.YtcbfdofeedlajaaQuotaZ
namespace Go.Proofs.Ytcbfdofeedlajaa.QuotaW
set_option linter.unusedVariables false
set_option linter.unusedSimpArgs false
open Go Go.RowKit Go.Sort Go.Proofs.Ytcbfdofeedlajaa.Mem Go.Proofs.Ytcbfdofeedlajaa.Flat Go.Proofs.Ytcbfdofeedlajaa.QuotaP

set_option maxHeartbeats 400000 in
theorem nan_any (x : Int) (w : World) : Calls Try.prog 121 #[.int .i64 x] w fun e w' => e = .returned (.bool false) ∧ w = w' := by
  have h1 : (x != x) = false := by simp
  go_enter Try.func121, Try.ntmps121
  go_wp2
  go_ret
  exact ⟨rfl, rfl⟩
set_option maxHeartbeats 400000 in
theorem compare_any (x y : Int) (w : World) : Calls Try.prog 88 #[.int .i64 x, .int .i64 y] w fun e w' => e = .returned (.int .i64 (Lib.compareInt x y)) ∧ w = w' := by
  by_cases h1 : x < y
  · have d1 : decide (x < y) = true := decide_eq_true h1
    have HC : As (Lib.compareInt x y = -1) := ⟨by unfold Lib.compareInt; rw [if_pos h1]⟩
    clear h1
    go_enter Try.func88, Try.ntmps88
    go_wp2_with (go_at_call 121; (with_reducible refine (nan_any _ _).mono ?_); rintro e w1 ⟨rfl, rfl⟩)
    go_ret
    exact ⟨by rw [HC.out]; rfl, rfl⟩
  · have d1 : decide (x < y) = false := decide_eq_false h1
    by_cases h2 : y < x
    · have d2 : decide (y < x) = true := decide_eq_true h2
      have HC : As (Lib.compareInt x y = 1) := ⟨by unfold Lib.compareInt; rw [if_neg h1, if_pos h2]⟩
      clear h1 h2
      go_enter Try.func88, Try.ntmps88
      go_wp2_with (go_at_call 121; (with_reducible refine (nan_any _ _).mono ?_); rintro e w1 ⟨rfl, rfl⟩)
      go_ret
      exact ⟨by rw [HC.out]; rfl, rfl⟩
    · have d2 : decide (y < x) = false := decide_eq_false h2
      have HC : As (Lib.compareInt x y = 0) := ⟨by unfold Lib.compareInt; rw [if_neg h1, if_neg h2]⟩
      clear h1 h2
      go_enter Try.func88, Try.ntmps88
      go_wp2_with (go_at_call 121; (with_reducible refine (nan_any _ _).mono ?_); rintro e w1 ⟨rfl, rfl⟩)
      go_ret
      exact ⟨by rw [HC.out]; rfl, rfl⟩
theorem grow_two (w : World) (o1 o2 : Obj) : ∃ q os', (w.alloc o1).alloc o2 = grow (w.drewN q) os' := ⟨0, _, by rw [alloc_eq_grow, alloc_eq_grow, grow_grow]; rfl⟩
theorem grow_two_drew (w : World) (o1 o2 : Obj) (n : Nat) : ∃ q os', ((w.alloc o1).alloc o2).drewN n = grow (w.drewN q) os' := ⟨n, _, by rw [alloc_eq_grow, alloc_eq_grow, grow_grow]; rfl⟩
set_option maxHeartbeats 1000000 in
theorem clos_cmp (R R' : List Value) (x q u x' q' u' : Int) (h : RowOf R x q u) (h' : RowOf R' x' q' u') (w : World) :
    Calls Try.prog 87 #[.agg R.toArray, .agg R'.toArray] w fun e w' => e = .returned (.int .i64 (Lib.compareInt x x')) ∧ ∃ q os', w' = grow (w.drewN q) os' := by
  have H := As.mk h
  have H' := As.mk h'
  have HG := As.mk (grow_two w (.cells R.toArray 49) (.cells R'.toArray 49))
  have HGD := As.mk (fun n => grow_two_drew w (.cells R.toArray 49) (.cells R'.toArray 49) n)
  have HW1 := As.mk ((below_alloc (Below.refl _ (w.alloc (.cells R.toArray 49))) (.cells R'.toArray 49)).block _ (Array.getElem?_eq_some_iff.1 (heap_alloc_new w (.cells R.toArray 49))).1 |>.trans (heap_alloc_new w (.cells R.toArray 49)))
  have HW2 : As (((w.alloc (.cells R.toArray 49)).alloc (.cells R'.toArray 49)).heap[w.heap.size + 1]? = some (.cells R'.toArray 49 (0, 0))) := ⟨by rw [show w.heap.size + 1 = (w.alloc (.cells R.toArray 49)).heap.size by simp]; exact heap_alloc_new _ _⟩
  clear h h'
  go_enter Try.func87, Try.ntmps87
  go_wp2_with (first
    | (refine wpList_boxArr rfl 49 (.tmp 0) rfl R.toArray rfl ?_)
    | (refine wpList_boxArr rfl 49 (.tmp 1) rfl R'.toArray rfl ?_; refine As.out ?_))
  refine As.mk ?_
  generalize (w.alloc (.cells R.toArray 49)).alloc (.cells R'.toArray 49) = w2 at *
  generalize hg1 : w.heap.size = g1 at HW1 HW2 ⊢
  clear hg1
  obtain ⟨z0, z1, z2⟩ := H.out.cell HW1.out
  obtain ⟨y0, y1, y2⟩ := H'.out.cell HW2.out
  go_wp2_with (go_at_call 88; (with_reducible refine (compare_any _ _ _).mono ?_); rintro e w3 ⟨rfl, rfl⟩)
  go_ret
  exact ⟨rfl, by first | exact HG.out | exact HGD.out _⟩
def cmpT (a b : Tn) : Int := Lib.compareInt a.id b.id
theorem lays (blk off size : Nat) (w : World) : Go.Proofs.CmpLays Try.prog 87 #[] Tn.row 35 cmpT blk off size w :=
  fun _ _ _ _ x y => clos_cmp x.row y.row x.id x.q x.u y.id y.q y.u (RowOf.of x) (RowOf.of y) _
theorem ltT (x y : Tn) : Go.Proofs.ltOf cmpT x y = decide (x.id < y.id) := by
  unfold Go.Proofs.ltOf cmpT Lib.compareInt
  by_cases h1 : x.id < y.id
  · simp [h1]
  · by_cases h2 : y.id < x.id <;> simp [h1, h2]
theorem swoT : SWO (Go.Proofs.ltOf cmpT) where
  irrefl x := by rw [ltT]; simp
  trans x y z h1 h2 := by rw [ltT] at *; simp at *; omega
  ntrans x y z h1 h2 := by rw [ltT] at *; simp at *; omega
set_option maxHeartbeats 1000000 in
theorem sort_any (d : List Tn) (base g n c : Nat) (w : World) (hl : d.length = n) (hn : n ≤ 2000000) (ho : w.ownsRow base 49 35 (.slice (some ⟨g, 0, none⟩) n c) n (d.flatMap Tn.row)) (hnc : n ≤ c ∧ c ≤ maxLen) :
    Calls Try.prog 86 #[.slice (some ⟨g, 0, none⟩) n c, .func (.func 87) #[] #[]] w fun e w' => e = .returned (.tuple #[]) ∧ ∃ l : List Tn, l.Perm d ∧ l.Pairwise (fun a b => ¬ b.id < a.id) ∧ RdT Tn.row 35 w' (some ⟨g, 0, none⟩) n c l ∧ ∀ B, B ≤ g → Below B w w' := by
  have eg : ∀ args w, (callFunc 87 args).run Try.prog w = .ok (.enter 87 args) w := enters_of Try.func87 (by kernel_rfl) rfl
  have hH := own_holds row_len ho hl
  have hg : g < w.heap.size := (ho.lt g rfl).2
  have hs : d.toArray.size = n := by simpa using hl
  have hcon := AnyQ.slices_SortFunc Try.sortT 35 Try.isAgg49 Try.sizeOf49 Tn.row row_len row_one cmpT swoT 87 #[] g 0 c d.toArray w eg (lays g 0 d.toArray.size w) hH hg (by rw [hs]; omega)
  change Calls Try.prog 86 _ _ _ at hcon
  rw [hs] at hcon
  refine hcon.mono ?_
  rintro e w' ⟨rfl, d', q, os, hp, hso, rfl⟩
  have hds : d'.size = n := by rw [hp.1]; exact hs
  refine ⟨rfl, d'.toList, ?_, ?_, sorted_rd row_len hH hg (by rw [hds, hs]) hds hnc.1 hnc.2, fun B hB => sorted_below hB hg⟩
  · have h2 := hp.2.2
    rw [Array.extract_eq_self_of_le (by omega), Array.extract_eq_self_of_le (by omega)] at h2
    simpa using h2
  · rw [List.pairwise_iff_getElem]
    intro i j hi hj hij
    have h3 := hso i j (Nat.zero_le _) hij (by simp at hj; omega)
    rw [ltT] at h3
    rw [getElem!_pos d' i (by simp at hi; omega), getElem!_pos d' j (by simp at hj; omega)] at h3
    simpa using h3
end Go.Proofs.Ytcbfdofeedlajaa.QuotaW
