/- quota.Join, the good case. -/
import Derived.Test.YtcbfdofeedlajaaQuotaJ
import Derived.Test.YtcbfdofeedlajaaQuotaS
namespace Go.Proofs.Ytcbfdofeedlajaa.QuotaW
set_option linter.unusedVariables false
set_option linter.unusedSimpArgs false
open Go Go.RowKit Go.Sort Go.Proofs.Ytcbfdofeedlajaa.Mem Go.Proofs.Ytcbfdofeedlajaa.Flat Go.Proofs.Ytcbfdofeedlajaa.QuotaP

theorem RowOf.one' {R : List Value} {x q u : Int} (h : RowOf R x q u) : ∀ v ∈ R, v.oneCell' = true := by
  intro v hv
  obtain ⟨i, hi, rfl⟩ := List.getElem_of_mem hv
  have h1 := (Array.all_eq_true.1 h.one) i (by simpa using hi)
  simpa using h1
set_option maxHeartbeats 4000000 in
set_option maxRecDepth 100000 in
theorem join_own (ts : List Tn) (R : List Value) (x q u d : Int) (hR : RowOf R x q u) (A : Option Addr) (n c : Nat) (w : World) (hn : n ≤ 1000000) (h : RdT Tn.row 35 w A n c ts) (hJ : JoinB ts x q u d true true true true true) (hk : ∀ k, k < n → (nthT ts k).id ≠ x) (hf : tot_q ts + q ≤ d) (hw : 0 ≤ tot_q ts ∧ tot_q ts ≤ 65536 ∧ 0 ≤ q ∧ q ≤ 4096) (t : Tn) (ht : t.row = R) (hti : t.id = x) :
    Calls Try.prog 34 #[.slice A n c, .agg R.toArray, .int .i64 d] w fun e w' => ∃ (g cc : Nat) (l : List Tn), e = .returned (.tuple #[.slice (some ⟨g, 0, none⟩) (n + 1) cc, .int .i64 0]) ∧ l.Perm (ts ++ [t]) ∧ l.Pairwise (fun a b => ¬ b.id < a.id) ∧ RdT Tn.row 35 w' (some ⟨g, 0, none⟩) (n + 1) cc l ∧ Below w.heap.size w w' := by
  have HTR := As.mk ht
  have HLN := As.mk h.len
  have HRS : As (R.toArray.size = 35) := ⟨by rw [List.size_toArray, hR.len]⟩
  clear ht hti
  have HN := As.mk hn
  have HJ := As.mk hJ
  have HR := As.mk hR
  have HB0 := As.mk (below_alloc (Below.refl w.heap.size w) (.cells R.toArray 49))
  have H := As.mk (h.below HB0.out)
  have HW0 := As.mk (heap_alloc_new w (.cells R.toArray 49))
  have eu : (u == 0) = true := hJ.u
  have eu' : (u != 0) = false := by rw [show (u != 0) = !(u == 0) from rfl, hJ.u]; rfl
  have HK := As.mk hk
  obtain ⟨S, hS⟩ : ∃ S, tot_q ts = S := ⟨_, rfl⟩
  have HS := As.mk hS
  rw [hS] at hf hw
  have hw1 : wrap64 (S + q) = S + q := by unfold wrap64; omega
  have hw2 : IntKind.i64.wrap (S + q) = S + q := by rw [IntKind.wrap_i64]; omega
  have df : decide (d < S + q) = false := decide_eq_false (by omega)
  clear hk hS hf hw
  clear hn h hJ hR
  go_enter Try.func34, Try.ntmps34
  go_wp2_with (refine wpList_boxArr rfl 49 _ rfl R.toArray rfl ?_; refine As.out ?_)
  refine As.mk ?_
  generalize w.alloc (.cells R.toArray 49) = w0 at *
  generalize hgg : w.heap.size = g0 at HW0 ⊢
  have hgle := As.mk (show w.heap.size ≤ g0 by omega)
  clear hgg
  go_wp2_with (first
    | (go_at_call 31; (with_reducible refine (right_any ts A n c w0 HN.out H.out).mono ?_); rintro e w1 ⟨rfl, hb⟩; rw [HJ.out.r]; have HB1 := As.mk (below_step HB0.out hb); have HW1 := As.mk ((hb.block _ (Array.getElem?_eq_some_iff.1 HW0.out).1).trans HW0.out); have H1 := As.mk (H.out.below hb); obtain ⟨z0, z1, z2⟩ := HR.out.cell HW1.out; clear hb)
    | (go_at_call 82; (with_reducible refine (within_any _ _ _ _ (by first | (with_reducible exact HJ.out.i) | (with_reducible exact HJ.out.q) | (with_reducible exact HJ.out.d)) _).mono ?_); rintro e w2 ⟨rfl, rfl⟩)
    | (go_at_call 27; (with_reducible refine (find_none x ts A n c w1 HN.out H1.out HK.out).mono ?_); rintro e w3 ⟨rfl, hb⟩; have HB3 := As.mk (below_step HB1.out hb); have HW3 := As.mk ((hb.block _ (Array.getElem?_eq_some_iff.1 HW1.out).1).trans HW1.out); have H3 := As.mk (H1.out.below hb); clear hb z0 z1 z2; refine As.out ?_))
  refine As.mk ?_
  obtain ⟨z0, z1, z2⟩ := HR.out.cell HW3.out
  have HZ3 := As.mk z1
  have H3D : As (RdT Tn.row 35 w3.drew A n c ts) := ⟨H3.out.drewN 1⟩
  go_wp2
  refine wp_region_held_drew (S := fun W : World => W.cell? ⟨g0, 1, none⟩ = some (.int .i64 q)) (by kernel_rfl) HZ3.out (fun hHeld => ?_)
  refine wpAnyH_take (i := 0) (v := .slice A n c) rfl (by kernel_rfl) (by kernel_rfl) (by kernel_rfl) (fun _ _ _ h => h) (Or.inl ⟨by rfl, fun W hW => by go_simp⟩) hHeld ?_
  try simp only [Act.put, List.setIfInBounds_toArray, List.set_cons_zero, List.set_cons_succ, List.getElem_toArray, List.getElem_cons_zero, List.getElem_cons_succ]
  refine wpAnyH_take (i := 2) (v := .pointer (some ⟨g0, 1, none⟩)) rfl (by kernel_rfl) (by kernel_rfl) (by kernel_rfl) (fun _ _ _ h => h) (Or.inl ⟨by rfl, fun W hW => by go_simp⟩) hHeld ?_
  try simp only [Act.put, List.setIfInBounds_toArray, List.set_cons_zero, List.set_cons_succ, List.getElem_toArray, List.getElem_cons_zero, List.getElem_cons_succ]
  refine wpAnyH_take (i := 3) (v := .int .i64 q) rfl (by kernel_rfl) (by kernel_rfl) (by kernel_rfl) (fun _ _ _ h => h) (Or.inl ⟨by rfl, fun W hW => by go_simp⟩) hHeld ?_
  try simp only [Act.put, List.setIfInBounds_toArray, List.set_cons_zero, List.set_cons_succ, List.getElem_toArray, List.getElem_cons_zero, List.getElem_cons_succ]
  refine wpAnyH_take (i := 5) (v := .int .i64 d) rfl (by kernel_rfl) (by kernel_rfl) (by kernel_rfl) (fun _ _ _ h => h) (Or.inl ⟨by rfl, fun W hW => by go_simp⟩) hHeld ?_
  try simp only [Act.put, List.setIfInBounds_toArray, List.set_cons_zero, List.set_cons_succ, List.getElem_toArray, List.getElem_cons_zero, List.getElem_cons_succ]
  refine wpAnyH_ready (rs := [1]) (by kernel_rfl) (by simp) (AllReadyH.cons rfl (fun K' hK => ?_) AllReadyH.nil)
  go_simp
  refine (total_q' ts A n c _ HN.out H3D.out).mono ?_
  rintro e w4 ⟨rfl, hb⟩
  rw [HS.out]
  have HZ4 := As.mk ((hb.cell (World.block_lt_of_cell? w3.drew _ HZ3.out)).trans HZ3.out)
  have HB4 := As.mk (below_step (below_drewN HB3.out 1) hb); have HW4 := As.mk ((hb.block g0 (Array.getElem?_eq_some_iff.1 HW3.out).1).trans HW3.out); have H4 := As.mk (H3D.out.below hb)
  clear hb
  refine hK.out _ _ HZ4.out (fun hHeld => ?_)
  clear hK
  try simp only [Act.put, List.setIfInBounds_toArray, List.set_cons_zero, List.set_cons_succ, List.getElem_toArray, List.getElem_cons_zero, List.getElem_cons_succ]
  refine wpAnyH_take (i := 4) (v := .int .i64 (S + q)) rfl (by kernel_rfl) (by kernel_rfl) (by kernel_rfl) (fun _ _ _ h => h) (Or.inl ⟨by rfl, fun W hW => by go_simp⟩) hHeld ?_
  try simp only [Act.put, List.setIfInBounds_toArray, List.set_cons_zero, List.set_cons_succ, List.getElem_toArray, List.getElem_cons_zero, List.getElem_cons_succ]
  refine wpAnyH_take (i := 6) (v := .bool false) rfl (by kernel_rfl) (by kernel_rfl) (by kernel_rfl) (fun _ _ _ h => h) (Or.inl ⟨by rfl, fun W hW => by go_simp⟩) hHeld ?_
  try simp only [Act.put, List.setIfInBounds_toArray, List.set_cons_zero, List.set_cons_succ, List.getElem_toArray, List.getElem_cons_zero, List.getElem_cons_succ]
  refine wpAnyH_done (by kernel_rfl) ?_ _
  have KT : As (∀ W, Below w4.heap.size w4 W → W.rangeAt g0 0 R) := ⟨fun W hW j v hv => by
    have hj : j < R.length := (List.getElem?_eq_some_iff.1 hv).1
    rw [Nat.zero_add, cell_of_row W g0 j _ _ _ ((hW.block g0 (Array.getElem?_eq_some_iff.1 HW4.out).1).trans HW4.out)]
    simpa using hv⟩
  have HG0 := As.mk (Array.getElem?_eq_some_iff.1 HW4.out).1
  go_wp2
  go_cut [10] (fun s10 wx => As (wx.ownsRow w4.heap.size 49 35 s10 (n + 1) (ts.flatMap Tn.row ++ R)) ∧ As (Below w.heap.size w wx))
  case first =>
    refine wp_region_held_drew (S := fun W : World => Below w4.heap.size w4 W) (by kernel_rfl) (below_drewN (Below.refl _ _) 1) (fun hHeld => ?_)
    refine wpAnyH_take (i := 0) (v := .slice A n c) rfl (by kernel_rfl) (by kernel_rfl) (by kernel_rfl) (fun _ _ _ h => h) (Or.inl ⟨by rfl, fun W hW => by go_simp⟩) hHeld ?_
    try simp only [Act.put, List.setIfInBounds_toArray, List.set_cons_zero, List.set_cons_succ, List.getElem_toArray, List.getElem_cons_zero, List.getElem_cons_succ]
    refine wpAnyH_take (i := 2) (v := .agg R.toArray) rfl (by kernel_rfl) (by kernel_rfl) (by kernel_rfl) (fun _ _ _ h => h) (yieldsIf_load_mid (by rfl) _ _ rfl _ _ rfl R _ (fun W h => KT.out W h) Try.underlying49 rfl HR.out.info) hHeld ?_
    try simp only [Act.put, List.setIfInBounds_toArray, List.set_cons_zero, List.set_cons_succ, List.getElem_toArray, List.getElem_cons_zero, List.getElem_cons_succ]
    refine wpAnyH_ready (rs := [1, 3]) (by kernel_rfl) (by simp) (AllReadyH.cons rfl (fun K' hK => ?_) (AllReadyH.cons rfl (fun K' hK => ?_) AllReadyH.nil))
    · go_simp
      refine (clone_any ts A n c _ HN.out (H4.out.below hHeld)).mono ?_
      rintro e w6 ⟨v6, rfl, ho, hb⟩
      have HO6 : As (w6.ownsRow w4.heap.size 49 35 v6 n (ts.flatMap Tn.row)) := ⟨own_weaken ho (hHeld.size)⟩
      have HB6 := As.mk (below_step hHeld hb)
      clear ho hb hHeld
      refine hK.out _ _ HB6.out (fun hHeld => ?_)
      clear hK
      try simp only [Act.put, List.setIfInBounds_toArray, List.set_cons_zero, List.set_cons_succ, List.getElem_toArray, List.getElem_cons_zero, List.getElem_cons_succ]
      refine wpAnyH_ready (rs := [3]) (by kernel_rfl) (by simp) (AllReadyH.cons rfl (fun K' hK => ?_) AllReadyH.nil)
      refine step_build_one rfl 47 49 _ rfl R.toArray 35 (.agg zT) 56 Try.underlying47 infoC (by decide) rfl HRS.out ?_
      refine hK.out _ _ (below_alloc HB6.out _) (fun hHeld => ?_)
      clear hK
      try simp only [Act.put, List.setIfInBounds_toArray, List.set_cons_zero, List.set_cons_succ, List.getElem_toArray, List.getElem_cons_zero, List.getElem_cons_succ]
      refine wpAnyH_ready (rs := [4]) (by kernel_rfl) (by simp) (AllReadyH.cons rfl (fun K' hK => ?_) AllReadyH.nil)
      refine step_app rfl _ _ 47 rfl w4.heap.size 49 (.agg zT) 35 56 Try.underlying47 infoC rfl (by decide) v6 n (ts.flatMap Tn.row) rfl (HO6.out.alloc _) _ 1 R rfl (src_one (heap_alloc_new w6 _) HR.out.one' HR.out.len) (by have := HN.out; unfold maxLen; omega) (by have := HN.out; omega) hHeld.size hHeld (Nat.le_refl _) ?_
      intro v7 w7 hown hg hat hb7
      have HO7 := As.mk hown
      have HB7 := As.mk (below_step HB4.out hb7)
      clear hown hg hat
      refine hK.out _ _ hb7 (fun hHeld => ?_)
      clear hK
      try simp only [Act.put, List.setIfInBounds_toArray, List.set_cons_zero, List.set_cons_succ, List.getElem_toArray, List.getElem_cons_zero, List.getElem_cons_succ]
      refine wpAnyH_take (i := 5) (v := v7) rfl (by kernel_rfl) (by kernel_rfl) (by kernel_rfl) (fun _ _ _ h => h) (Or.inl ⟨by rfl, fun W hW => by go_simp⟩) hHeld ?_
      try simp only [Act.put, List.setIfInBounds_toArray, List.set_cons_zero, List.set_cons_succ, List.getElem_toArray, List.getElem_cons_zero, List.getElem_cons_succ]
      refine wpAnyH_done (by kernel_rfl) ?_ _
      go_wp2
      go_meet
      exact ⟨HO7, HB7⟩
    · refine step_build_one rfl 47 49 _ rfl R.toArray 35 (.agg zT) 56 Try.underlying47 infoC (by decide) rfl HRS.out ?_
      have HBA := As.mk (below_alloc hHeld (.cells R.toArray 49))
      have HNA := As.mk (heap_alloc_new w4.drew (.cells R.toArray 49))
      refine hK.out _ _ HBA.out (fun hHeld => ?_)
      clear hK
      try simp only [Act.put, List.setIfInBounds_toArray, List.set_cons_zero, List.set_cons_succ, List.getElem_toArray, List.getElem_cons_zero, List.getElem_cons_succ]
      refine wpAnyH_ready (rs := [1]) (by kernel_rfl) (by simp) (AllReadyH.cons rfl (fun K' hK => ?_) AllReadyH.nil)
      go_simp
      refine (clone_any ts A n c _ HN.out (H4.out.below HBA.out)).mono ?_
      rintro e w6 ⟨v6, rfl, ho, hb⟩
      have HO6 : As (w6.ownsRow w4.heap.size 49 35 v6 n (ts.flatMap Tn.row)) := ⟨own_weaken ho HBA.out.size⟩
      have HB6 := As.mk (below_step HBA.out hb)
      have HN6 := As.mk ((hb.block _ (Array.getElem?_eq_some_iff.1 HNA.out).1).trans HNA.out)
      clear ho hb hHeld
      refine hK.out _ _ HB6.out (fun hHeld => ?_)
      clear hK
      try simp only [Act.put, List.setIfInBounds_toArray, List.set_cons_zero, List.set_cons_succ, List.getElem_toArray, List.getElem_cons_zero, List.getElem_cons_succ]
      refine wpAnyH_ready (rs := [4]) (by kernel_rfl) (by simp) (AllReadyH.cons rfl (fun K' hK => ?_) AllReadyH.nil)
      refine step_app rfl _ _ 47 rfl w4.heap.size 49 (.agg zT) 35 56 Try.underlying47 infoC rfl (by decide) v6 n (ts.flatMap Tn.row) rfl HO6.out _ 1 R rfl (src_one HN6.out HR.out.one' HR.out.len) (by have := HN.out; unfold maxLen; omega) (by have := HN.out; omega) hHeld.size hHeld (Nat.le_refl _) ?_
      intro v7 w7 hown hg hat hb7
      have HO7 := As.mk hown
      have HB7 := As.mk (below_step HB4.out hb7)
      clear hown hg hat
      refine hK.out _ _ hb7 (fun hHeld => ?_)
      clear hK
      try simp only [Act.put, List.setIfInBounds_toArray, List.set_cons_zero, List.set_cons_succ, List.getElem_toArray, List.getElem_cons_zero, List.getElem_cons_succ]
      refine wpAnyH_take (i := 5) (v := v7) rfl (by kernel_rfl) (by kernel_rfl) (by kernel_rfl) (fun _ _ _ h => h) (Or.inl ⟨by rfl, fun W hW => by go_simp⟩) hHeld ?_
      try simp only [Act.put, List.setIfInBounds_toArray, List.set_cons_zero, List.set_cons_succ, List.getElem_toArray, List.getElem_cons_zero, List.getElem_cons_succ]
      refine wpAnyH_done (by kernel_rfl) ?_ _
      go_wp2
      go_meet
      exact ⟨HO7, HB7⟩
  case rest =>
    obtain ⟨HO, HB⟩ := hcut
    obtain ⟨g, cc, rfl, hg, hgl, hnc, hcm⟩ := own_head HO.out (by omega)
    have HOF : As (wc.ownsRow w4.heap.size 49 35 (.slice (some ⟨g, 0, none⟩) (n + 1) cc) (n + 1) ((ts ++ [t]).flatMap Tn.row)) := ⟨by
      rw [List.flatMap_append, List.flatMap_cons, HTR.out, List.flatMap_nil, List.append_nil]; exact HO.out⟩
    have HG := As.mk (show w.heap.size ≤ g from Nat.le_trans HB4.out.size hg)
    have HCC := As.mk (And.intro hnc hcm)
    clear hg hgl hnc hcm HO
    go_wp2_with (go_at_call 86; refine As.out ?_)
    refine As.mk ?_
    refine (sort_any (ts ++ [t]) _ g (n + 1) cc wc (by rw [List.length_append, HLN.out]; rfl) (by have := HN.out; omega) HOF.out HCC.out).mono ?_
    rintro e w9 ⟨rfl, l, hp, hs, hr, hb⟩
    have HP := As.mk hp; have HS9 := As.mk hs; have HR9 := As.mk hr; have HB9 := As.mk (HB.out.trans (hb _ HG.out)); clear hp hs hr hb
    go_wp2
    go_ret2
    exact ⟨g, cc, rfl, l, HP.out, HS9.out, HR9.out, HB9.out⟩
end Go.Proofs.Ytcbfdofeedlajaa.QuotaW
