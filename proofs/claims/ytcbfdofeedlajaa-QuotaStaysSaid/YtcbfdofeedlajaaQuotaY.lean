/- quota: slices.IndexFunc and Clone at tenants, Find, Move. -/
import Derived.Test.YtcbfdofeedlajaaQuotaX
namespace Go.Proofs.Ytcbfdofeedlajaa.QuotaW
set_option linter.unusedVariables false
set_option linter.unusedSimpArgs false
open Go Go.RowKit Go.Proofs.Ytcbfdofeedlajaa.Mem Go.Proofs.Ytcbfdofeedlajaa.Flat Go.Proofs.Ytcbfdofeedlajaa.QuotaP

/-- the first place of an ID; none: minus one -/
def placeI (id : Int) (ts : List Tn) : Int := (match ts.findIdx? (fun t => t.id == id) with | some j => (j : Int) | none => -1)
theorem place_hit {id : Int} {ts : List Tn} {j : Nat} (hj : j < ts.length) (h : firstI id ts j) : placeI id ts = (j : Int) := by
  have : ts.findIdx? (fun t => t.id == id) = some j := by
    rw [List.findIdx?_eq_some_iff_getElem]
    refine ⟨hj, ?_, fun k hk => ?_⟩
    · rw [← nthT_get ts j hj]; simpa using h.1
    · rw [← nthT_get ts k (by omega)]; simpa using h.2 k hk
  unfold placeI
  rw [this]
theorem place_none {id : Int} {ts : List Tn} (h : ∀ k, k < ts.length → (nthT ts k).id ≠ id) : placeI id ts = -1 := by
  have : ts.findIdx? (fun t => t.id == id) = none := by
    rw [List.findIdx?_eq_none_iff]
    intro x hx
    obtain ⟨k, hk, rfl⟩ := nth_mem hx
    simpa using h k hk
  unfold placeI
  rw [this]
set_option maxHeartbeats 1000000 in
set_option maxRecDepth 100000 in
theorem index_any (id : Int) (ts : List Tn) (A : Option Addr) (n c g : Nat) (w : World) (hn : n ≤ 1000000) (h : RdT Tn.row 35 w A n c ts) (hg : w.cell? ⟨g, 0, none⟩ = some (.int .i64 id)) :
    Calls Try.prog 79 #[.slice A n c, .func (.func 80) #[] #[.pointer (some ⟨g, 0, none⟩)]] w fun e w' => e = .returned (.int .i64 (placeI id ts)) ∧ Below w.heap.size w w' := by
  have HN := As.mk hn
  have H := As.mk h
  have HG := As.mk hg
  clear hn h hg
  go_enter Try.func79, Try.ntmps79
  go_wp2
  go_loopg [8] n (fun kq v8 wr => ∃ i : Nat, i + kq = n ∧ v8 = .int .i64 i ∧ As (∀ k, k < i → (nthT ts k).id ≠ id) ∧ As (Below w.heap.size w wr))
  case atStart => exact ⟨0, by omega, rfl, ⟨fun k hk => by omega⟩, ⟨Below.refl _ _⟩⟩
  case round =>
    obtain ⟨i, hi, rfl, HK, HB⟩ := hrel
    have HI := As.mk hi
    clear hi
    by_cases hlt : i < n
    · have c0 : decide ((i : Int) < (n : Int)) = true := decide_eq_true (by omega)
      have c1 : decide (i < n) = true := decide_eq_true hlt
      have lt' : (i : Int) < (n : Int) := by omega
      have hw : wrap64 ((i : Int) + 1) = ((i + 1 : Nat) : Int) := wrap_up (by have := HN.out; omega)
      obtain ⟨ad, ea, h1⟩ := (H.out.below HB.out).at i hlt
      cases ea
      have HRW := As.mk (RowOf.of (nthT ts i))
      generalize hR : (nthT ts i).row = R at h1 HRW
      clear hR
      have H1 := As.mk h1
      clear h1
      obtain ⟨x, hx⟩ : ∃ x, (nthT ts i).id = x := ⟨_, rfl⟩
      rw [hx] at HRW
      have HX := As.mk hx
      clear hx
      generalize (nthT ts i).q = q at HRW
      generalize (nthT ts i).u = u at HRW
      have HGW := As.mk ((HB.out.cell (World.block_lt_of_cell? w _ HG.out)).trans HG.out)
      have HLT := As.mk hlt
      clear hlt
      go_wp2_with (first
        | (refine wpList_load_at rfl 49 (.tmp 14) rfl (ad.add (i * 35)) rfl R _ H1.out Try.underlying49 rfl HRW.out.info ?_)
        | (go_at_call 80; (with_reducible refine (clos_id R x q u id HRW.out g wr HGW.out).mono ?_); rintro e w2 ⟨rfl, hb⟩; have HB2 := As.mk (below_step HB.out hb); clear hb; refine As.out ?_))
      refine As.mk ?_
      cases hq : (x == id) with
      | true =>
        have HF := As.mk (place_hit (id := id) (ts := ts) (j := i) (by rw [H.out.len]; exact HLT.out) ⟨by rw [HX.out]; simpa using hq, HK.out⟩)
        clear hq
        go_wp2
        go_ret
        exact ⟨by rw [HF.out]; rfl, HB2.out⟩
      | false =>
        have HQF : As ((nthT ts i).id ≠ id) := ⟨by rw [HX.out]; simpa using hq⟩
        clear hq
        go_wp2
        go_roundg (n - (i + 1))
        case measure => have := HI.out; have := HLT.out; omega
        case rel =>
          refine ⟨i + 1, by have := HI.out; have := HLT.out; omega, by go_num, ⟨fun k hk => ?_⟩, HB2⟩
          rcases Nat.lt_succ_iff_lt_or_eq.1 hk with h | rfl
          · exact HK.out k h
          · exact HQF.out
    · have c0 : decide ((i : Int) < (n : Int)) = false := decide_eq_false (by omega)
      have c1 : decide (i < n) = false := decide_eq_false hlt
      have HF := As.mk (place_none (id := id) (ts := ts) (fun k hk => HK.out k (by have := H.out.len; omega)))
      clear hlt
      go_wp2
      go_ret
      exact ⟨by rw [HF.out]; rfl, HB.out⟩
set_option maxHeartbeats 1000000 in
theorem find_hit (id : Int) (ts : List Tn) (A : Option Addr) (n c : Nat) (w : World) (hn : n ≤ 1000000) (h : RdT Tn.row 35 w A n c ts) (j : Nat) (hk : j < n ∧ firstI id ts j) :
    Calls Try.prog 27 #[.slice A n c, .int .i64 id] w fun e w' => e = .returned (.tuple #[.int .i64 (j : Int), .bool true]) ∧ Below w.heap.size w w' := by
  have HN := As.mk hn
  have HB0 := As.mk (below_alloc (Below.refl w.heap.size w) (.cells #[.int .i64 id] 3))
  have H := As.mk (h.below HB0.out)
  have HK : As (placeI id ts = (j : Int)) := ⟨place_hit (by rw [h.len]; exact hk.1) hk.2⟩
  have HG : As ((w.alloc (.cells #[.int .i64 id] 3)).cell? ⟨w.heap.size, 0, none⟩ = some (.int .i64 id)) := ⟨by rw [cell_of_row _ _ 0 _ _ _ (heap_alloc_new w (.cells #[.int .i64 id] 3))]; rfl⟩
  clear hn h hk
  go_enter Try.func27, Try.ntmps27
  go_wp2_with (go_at_call 79; refine As.out ?_)
  refine As.mk ?_
  generalize w.alloc _ = w0 at *
  refine (index_any id ts A n c w.heap.size w0 HN.out H.out HG.out).mono ?_
  rintro e w2 ⟨rfl, hb⟩
  rw [HK.out]
  have HB2 := As.mk (below_step HB0.out hb)
  clear hb
  have m0 : max (j : Int) 0 = (j : Int) := by omega
  have m1 : decide ((j : Int) < 0) = false := decide_eq_false (by omega)
  have m2 : decide ((0 : Int) < (j : Int)) = decide (0 < j) := by simp
  have m3 : ¬ (j : Int) < 0 := by omega
  have m4 : (0 : Int) ≤ (j : Int) := by omega
  go_wp2
  go_ret2
  exact ⟨rfl, HB2.out⟩
set_option maxHeartbeats 1000000 in
theorem find_none (id : Int) (ts : List Tn) (A : Option Addr) (n c : Nat) (w : World) (hn : n ≤ 1000000) (h : RdT Tn.row 35 w A n c ts) (hk : ∀ k, k < n → (nthT ts k).id ≠ id) :
    Calls Try.prog 27 #[.slice A n c, .int .i64 id] w fun e w' => e = .returned (.tuple #[.int .i64 0, .bool false]) ∧ Below w.heap.size w w' := by
  have HN := As.mk hn
  have HB0 := As.mk (below_alloc (Below.refl w.heap.size w) (.cells #[.int .i64 id] 3))
  have H := As.mk (h.below HB0.out)
  have HK : As (placeI id ts = -1) := ⟨place_none (by rw [h.len]; exact hk)⟩
  have HG : As ((w.alloc (.cells #[.int .i64 id] 3)).cell? ⟨w.heap.size, 0, none⟩ = some (.int .i64 id)) := ⟨by rw [cell_of_row _ _ 0 _ _ _ (heap_alloc_new w (.cells #[.int .i64 id] 3))]; rfl⟩
  clear hn h hk
  go_enter Try.func27, Try.ntmps27
  go_wp2_with (go_at_call 79; refine As.out ?_)
  refine As.mk ?_
  generalize w.alloc _ = w0 at *
  refine (index_any id ts A n c w.heap.size w0 HN.out H.out HG.out).mono ?_
  rintro e w2 ⟨rfl, hb⟩
  rw [HK.out]
  have HB2 := As.mk (below_step HB0.out hb)
  clear hb
  go_wp2
  go_ret2
  exact ⟨rfl, HB2.out⟩
theorem infoC : (Try.prog.info? 49).map (fun i => (i.zero, i.size, i.bytes)) = some (some (.agg zT), 35, 56) := by kernel_rfl
set_option maxHeartbeats 1000000 in
set_option maxRecDepth 100000 in
theorem clone_any (ts : List Tn) (A : Option Addr) (n c : Nat) (w : World) (hn : n ≤ 1000000) (h : RdT Tn.row 35 w A n c ts) :
    Calls Try.prog 81 #[.slice A n c] w fun e w' => ∃ v, e = .returned v ∧ w'.ownsRow w.heap.size 49 35 v n (ts.flatMap Tn.row) ∧ Below w.heap.size w w' := by
  have HN := As.mk hn
  have H := As.mk h
  clear hn h
  rcases A with _ | ad
  · obtain rfl : n = 0 := by
      rcases Nat.eq_zero_or_pos n with h0 | h0
      · exact h0
      · obtain ⟨ad, e, _⟩ := H.out.cells h0; cases e
    obtain rfl : ts = [] := List.eq_nil_of_length_eq_zero H.out.len
    have hnil := Lib.run_eql_slice_nil (P := Try.prog) w 47 49 none 0 c 0 0 Try.underlying47
    go_enter Try.func81, Try.ntmps81
    go_wp2
    go_ret
    exact ⟨_, rfl, World.ownsRow_nil _ _ _ _, Below.refl _ _⟩
  · have hnil := Lib.run_eql_slice_nil (P := Try.prog) w 47 49 (some ad) n c 0 0 Try.underlying47
    have HSRC := As.mk ((H.out.below (below_alloc (Below.refl _ w) (.cells #[] 49))).src row_len row_one)
    go_enter Try.func81, Try.ntmps81
    go_wp2_with (at_builtin; refine wpList_app rfl _ _ 47 rfl w.heap.size 49 (.agg zT) 35 56 Try.underlying47 infoC rfl (by decide) _ 0 [] rfl (World.ownsRow_lit w #[] 0 (Nat.le_refl _) (by decide) rfl) _ n (ts.flatMap Tn.row) rfl HSRC.out ?c1 ?c2 ?c3 (below_alloc (Below.refl _ w) _) (Nat.le_refl _) ?_; (case c1 => have := HN.out; unfold maxLen; omega); (case c2 => have := HN.out; omega); (case c3 => simp); intro v3 w3 hown hg hat hb3; simp only [Nat.zero_add, List.nil_append] at hown; have HO := As.mk hown; have HB3 := As.mk hb3; clear hown hg hat hb3)
    go_ret
    exact ⟨_, rfl, HO.out, HB3.out⟩
end Go.Proofs.Ytcbfdofeedlajaa.QuotaW

