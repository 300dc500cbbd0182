/- quota.Join. -/
import Derived.Test.YtcbfdofeedlajaaQuotaZ
import Derived.Test.YtcbfdofeedlajaaFlatStep
import Derived.Deep.DeepCutAuto
namespace Go.Proofs.Ytcbfdofeedlajaa.QuotaW
set_option linter.unusedVariables false
set_option linter.unusedSimpArgs false
open Go Go.RowKit Go.Sort Go.Proofs.Ytcbfdofeedlajaa.Mem Go.Proofs.Ytcbfdofeedlajaa.Flat Go.Proofs.Ytcbfdofeedlajaa.QuotaP

/-- may one join? -/
structure JoinB (ts : List Tn) (x q u d : Int) (b0 b1 b2 b3 b4 : Bool) : Prop where
  r : rightB ts = b0
  i : (decide (1 ≤ x) && decide (x ≤ 16)) = b1
  q : (decide (0 ≤ q) && decide (q ≤ 4096)) = b2
  u : (u == 0) = b3
  d : (decide (0 ≤ d) && decide (d ≤ 4096)) = b4
set_option maxHeartbeats 2000000 in
set_option maxRecDepth 100000 in
theorem join_arg (ts : List Tn) (R : List Value) (x q u d : Int) (hR : RowOf R x q u) (A : Option Addr) (n c : Nat) (w : World) (hn : n ≤ 1000000) (h : RdT Tn.row 35 w A n c ts) (b0 b1 b2 b3 b4 : Bool) (hJ : JoinB ts x q u d b0 b1 b2 b3 b4) (hb : (b0 && (b1 && (b2 && (b3 && b4)))) = false) :
    Calls Try.prog 34 #[.slice A n c, .agg R.toArray, .int .i64 d] w fun e w' => e = .returned (.tuple #[.slice none 0 0, .int .i64 2]) ∧ Below w.heap.size w w' := by
  have HN := As.mk hn
  have HJ := As.mk hJ
  have HR := As.mk hR
  have HB0 := As.mk (below_alloc (Below.refl w.heap.size w) (.cells R.toArray 49))
  have H := As.mk (h.below HB0.out)
  have HW0 := As.mk (heap_alloc_new w (.cells R.toArray 49))
  have eu : (u == 0) = b3 := hJ.u
  have eu' : (u != 0) = !b3 := by rw [← hJ.u]; rfl
  clear hn h hJ hR
  rcases (by cases b0 <;> cases b1 <;> cases b2 <;> cases b3 <;> cases b4 <;> simp_all : b0 = false ∨ (b0 = true ∧ b1 = false) ∨ (b0 = true ∧ b1 = true ∧ b2 = false) ∨ (b0 = true ∧ b1 = true ∧ b2 = true ∧ b3 = false) ∨ (b0 = true ∧ b1 = true ∧ b2 = true ∧ b3 = true ∧ b4 = false)) with rfl | ⟨rfl, rfl⟩ | ⟨rfl, rfl, rfl⟩ | ⟨rfl, rfl, rfl, rfl⟩ | ⟨rfl, rfl, rfl, rfl, rfl⟩
  all_goals
    clear hb
    go_enter Try.func34, Try.ntmps34
    go_wp2_with (refine wpList_boxArr rfl 49 _ rfl R.toArray rfl ?_; refine As.out ?_)
    refine As.mk ?_
    generalize w.alloc (.cells R.toArray 49) = w0 at *
    generalize hgg : w.heap.size = g0 at HW0 ⊢
    clear hgg
    go_wp2_with (first
      | (go_at_call 31; (with_reducible refine (right_any ts A n c w0 HN.out H.out).mono ?_); rintro e w1 ⟨rfl, hb⟩; rw [HJ.out.r]; have HB1 := As.mk (below_step HB0.out hb); obtain ⟨z0, z1, z2⟩ := HR.out.cell ((hb.block _ (Array.getElem?_eq_some_iff.1 HW0.out).1).trans HW0.out); clear hb)
      | (go_at_call 82; (with_reducible refine (within_any _ _ _ _ (by first | (with_reducible exact HJ.out.i) | (with_reducible exact HJ.out.q) | (with_reducible exact HJ.out.d)) _).mono ?_); rintro e w2 ⟨rfl, rfl⟩))
    go_ret2
    exact ⟨rfl, HB1.out⟩
set_option maxHeartbeats 2000000 in
set_option maxRecDepth 100000 in
theorem join_twice (ts : List Tn) (R : List Value) (x q u d : Int) (hR : RowOf R x q u) (A : Option Addr) (n c : Nat) (w : World) (hn : n ≤ 1000000) (h : RdT Tn.row 35 w A n c ts) (hJ : JoinB ts x q u d true true true true true) (j : Nat) (hk : j < n ∧ firstI x ts j) :
    Calls Try.prog 34 #[.slice A n c, .agg R.toArray, .int .i64 d] w fun e w' => e = .returned (.tuple #[.slice none 0 0, .int .i64 36]) ∧ Below w.heap.size w w' := by
  have HN := As.mk hn
  have HJ := As.mk hJ
  have HR := As.mk hR
  have HB0 := As.mk (below_alloc (Below.refl w.heap.size w) (.cells R.toArray 49))
  have H := As.mk (h.below HB0.out)
  have HW0 := As.mk (heap_alloc_new w (.cells R.toArray 49))
  have eu : (u == 0) = true := hJ.u
  have eu' : (u != 0) = false := by rw [show (u != 0) = !(u == 0) from rfl, hJ.u]; rfl
  have HK := As.mk hk
  clear hk
  clear hn h hJ hR
  go_enter Try.func34, Try.ntmps34
  go_wp2_with (refine wpList_boxArr rfl 49 _ rfl R.toArray rfl ?_; refine As.out ?_)
  refine As.mk ?_
  generalize w.alloc (.cells R.toArray 49) = w0 at *
  generalize hgg : w.heap.size = g0 at HW0 ⊢
  have hgle := As.mk (show w.heap.size ≤ g0 by omega)
  clear hgg
  go_wp2_with (first
    | (go_at_call 31; (with_reducible refine (right_any ts A n c w0 HN.out H.out).mono ?_); rintro e w1 ⟨rfl, hb⟩; rw [HJ.out.r]; have HB1 := As.mk (below_step HB0.out hb); have HW1 := As.mk ((hb.block _ (Array.getElem?_eq_some_iff.1 HW0.out).1).trans HW0.out); have H1 := As.mk (H.out.below hb); obtain ⟨z0, z1, z2⟩ := HR.out.cell HW1.out; clear hb)
    | (go_at_call 82; (with_reducible refine (within_any _ _ _ _ (by first | (with_reducible exact HJ.out.i) | (with_reducible exact HJ.out.q) | (with_reducible exact HJ.out.d)) _).mono ?_); rintro e w2 ⟨rfl, rfl⟩)
    | (go_at_call 27; (with_reducible refine (find_hit x ts A n c w1 HN.out H1.out j HK.out).mono ?_); rintro e w3 ⟨rfl, hb⟩; have HB3 := As.mk (below_step HB1.out hb); clear hb))
  go_ret2
  exact ⟨rfl, HB3.out⟩
set_option maxHeartbeats 2000000 in
set_option maxRecDepth 100000 in
theorem join_full (ts : List Tn) (R : List Value) (x q u d : Int) (hR : RowOf R x q u) (A : Option Addr) (n c : Nat) (w : World) (hn : n ≤ 1000000) (h : RdT Tn.row 35 w A n c ts) (hJ : JoinB ts x q u d true true true true true) (hk : ∀ k, k < n → (nthT ts k).id ≠ x) (hf : d < tot_q ts + q) (hw : 0 ≤ tot_q ts ∧ tot_q ts ≤ 65536 ∧ 0 ≤ q ∧ q ≤ 4096) :
    Calls Try.prog 34 #[.slice A n c, .agg R.toArray, .int .i64 d] w fun e w' => e = .returned (.tuple #[.slice none 0 0, .int .i64 34]) ∧ Below w.heap.size w w' := by
  have HN := As.mk hn
  have HJ := As.mk hJ
  have HR := As.mk hR
  have HB0 := As.mk (below_alloc (Below.refl w.heap.size w) (.cells R.toArray 49))
  have H := As.mk (h.below HB0.out)
  have HW0 := As.mk (heap_alloc_new w (.cells R.toArray 49))
  have eu : (u == 0) = true := hJ.u
  have eu' : (u != 0) = false := by rw [show (u != 0) = !(u == 0) from rfl, hJ.u]; rfl
  have HK := As.mk hk
  obtain ⟨S, hS⟩ : ∃ S, tot_q ts = S := ⟨_, rfl⟩
  have HS := As.mk hS
  rw [hS] at hf hw
  have hw1 : wrap64 (S + q) = S + q := by unfold wrap64; omega
  have hw2 : IntKind.i64.wrap (S + q) = S + q := by rw [IntKind.wrap_i64]; omega
  have df : decide (d < S + q) = true := decide_eq_true hf
  clear hk hS hf hw
  clear hn h hJ hR
  go_enter Try.func34, Try.ntmps34
  go_wp2_with (refine wpList_boxArr rfl 49 _ rfl R.toArray rfl ?_; refine As.out ?_)
  refine As.mk ?_
  generalize w.alloc (.cells R.toArray 49) = w0 at *
  generalize hgg : w.heap.size = g0 at HW0 ⊢
  have hgle := As.mk (show w.heap.size ≤ g0 by omega)
  clear hgg
  go_wp2_with (first
    | (go_at_call 31; (with_reducible refine (right_any ts A n c w0 HN.out H.out).mono ?_); rintro e w1 ⟨rfl, hb⟩; rw [HJ.out.r]; have HB1 := As.mk (below_step HB0.out hb); have HW1 := As.mk ((hb.block _ (Array.getElem?_eq_some_iff.1 HW0.out).1).trans HW0.out); have H1 := As.mk (H.out.below hb); obtain ⟨z0, z1, z2⟩ := HR.out.cell HW1.out; clear hb)
    | (go_at_call 82; (with_reducible refine (within_any _ _ _ _ (by first | (with_reducible exact HJ.out.i) | (with_reducible exact HJ.out.q) | (with_reducible exact HJ.out.d)) _).mono ?_); rintro e w2 ⟨rfl, rfl⟩)
    | (go_at_call 27; (with_reducible refine (find_none x ts A n c w1 HN.out H1.out HK.out).mono ?_); rintro e w3 ⟨rfl, hb⟩; have HB3 := As.mk (below_step HB1.out hb); have HW3 := As.mk ((hb.block _ (Array.getElem?_eq_some_iff.1 HW1.out).1).trans HW1.out); have H3 := As.mk (H1.out.below hb); clear hb z0 z1 z2; refine As.out ?_))
  refine As.mk ?_
  obtain ⟨z0, z1, z2⟩ := HR.out.cell HW3.out
  have HZ3 := As.mk z1
  have H3D : As (RdT Tn.row 35 w3.drew A n c ts) := ⟨H3.out.drewN 1⟩
  go_wp2
  refine wp_region_held_drew (S := fun W : World => W.cell? ⟨g0, 1, none⟩ = some (.int .i64 q)) (by kernel_rfl) HZ3.out (fun hHeld => ?_)
  refine wpAnyH_take (i := 0) (v := .slice A n c) rfl (by kernel_rfl) (by kernel_rfl) (by kernel_rfl) (fun _ _ _ h => h) (Or.inl ⟨by rfl, fun W hW => by go_simp⟩) hHeld ?_
  try simp only [Act.put, List.setIfInBounds_toArray, List.set_cons_zero, List.set_cons_succ, List.getElem_toArray, List.getElem_cons_zero, List.getElem_cons_succ]
  refine wpAnyH_take (i := 2) (v := .pointer (some ⟨g0, 1, none⟩)) rfl (by kernel_rfl) (by kernel_rfl) (by kernel_rfl) (fun _ _ _ h => h) (Or.inl ⟨by rfl, fun W hW => by go_simp⟩) hHeld ?_
  try simp only [Act.put, List.setIfInBounds_toArray, List.set_cons_zero, List.set_cons_succ, List.getElem_toArray, List.getElem_cons_zero, List.getElem_cons_succ]
  refine wpAnyH_take (i := 3) (v := .int .i64 q) rfl (by kernel_rfl) (by kernel_rfl) (by kernel_rfl) (fun _ _ _ h => h) (Or.inl ⟨by rfl, fun W hW => by go_simp⟩) hHeld ?_
  try simp only [Act.put, List.setIfInBounds_toArray, List.set_cons_zero, List.set_cons_succ, List.getElem_toArray, List.getElem_cons_zero, List.getElem_cons_succ]
  refine wpAnyH_take (i := 5) (v := .int .i64 d) rfl (by kernel_rfl) (by kernel_rfl) (by kernel_rfl) (fun _ _ _ h => h) (Or.inl ⟨by rfl, fun W hW => by go_simp⟩) hHeld ?_
  try simp only [Act.put, List.setIfInBounds_toArray, List.set_cons_zero, List.set_cons_succ, List.getElem_toArray, List.getElem_cons_zero, List.getElem_cons_succ]
  refine wpAnyH_ready (rs := [1]) (by kernel_rfl) (by simp) (AllReadyH.cons rfl (fun K' hK => ?_) AllReadyH.nil)
  go_simp
  refine (total_q' ts A n c _ HN.out H3D.out).mono ?_
  rintro e w4 ⟨rfl, hb⟩
  rw [HS.out]
  have HZ4 := As.mk ((hb.cell (World.block_lt_of_cell? w3.drew _ HZ3.out)).trans HZ3.out)
  have HB4 := As.mk (below_step (below_drewN HB3.out 1) hb)
  clear hb
  refine hK.out _ _ HZ4.out (fun hHeld => ?_)
  clear hK
  try simp only [Act.put, List.setIfInBounds_toArray, List.set_cons_zero, List.set_cons_succ, List.getElem_toArray, List.getElem_cons_zero, List.getElem_cons_succ]
  refine wpAnyH_take (i := 4) (v := .int .i64 (S + q)) rfl (by kernel_rfl) (by kernel_rfl) (by kernel_rfl) (fun _ _ _ h => h) (Or.inl ⟨by rfl, fun W hW => by go_simp⟩) hHeld ?_
  try simp only [Act.put, List.setIfInBounds_toArray, List.set_cons_zero, List.set_cons_succ, List.getElem_toArray, List.getElem_cons_zero, List.getElem_cons_succ]
  refine wpAnyH_take (i := 6) (v := .bool true) rfl (by kernel_rfl) (by kernel_rfl) (by kernel_rfl) (fun _ _ _ h => h) (Or.inl ⟨by rfl, fun W hW => by go_simp⟩) hHeld ?_
  try simp only [Act.put, List.setIfInBounds_toArray, List.set_cons_zero, List.set_cons_succ, List.getElem_toArray, List.getElem_cons_zero, List.getElem_cons_succ]
  refine wpAnyH_done (by kernel_rfl) ?_ _
  go_wp2
  go_ret2
  exact ⟨rfl, HB4.out⟩
end Go.Proofs.Ytcbfdofeedlajaa.QuotaW
