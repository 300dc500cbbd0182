/- quota.within, Right. -/
import Derived.Test.YtcbfdofeedlajaaQuotaP
import Derived.Test.YtcbfdofeedlajaaCloneB
import Derived.Deep.RegionHeld2
namespace Go.Proofs.Ytcbfdofeedlajaa.QuotaW
set_option linter.unusedVariables false
set_option linter.unusedSimpArgs false
open Go Go.RowKit Go.Proofs.Ytcbfdofeedlajaa.Mem Go.Proofs.Ytcbfdofeedlajaa.Flat Go.Proofs.Ytcbfdofeedlajaa.QuotaP

set_option maxHeartbeats 400000 in
theorem within_any (n lo hi : Int) (b : Bool) (h : (decide (lo ≤ n) && decide (n ≤ hi)) = b) (w : World) :
    Calls Try.prog 82 #[.int .i64 n, .int .i64 lo, .int .i64 hi] w fun e w' => e = .returned (.bool b) ∧ w = w' := by
  by_cases h1 : lo ≤ n
  · have d0 : decide (lo ≤ n) = true := decide_eq_true h1
    have HR := As.mk (show b = decide (n ≤ hi) by rw [← h]; simp [h1])
    clear h
    go_enter Try.func82, Try.ntmps82
    go_wp2
    go_ret
    exact ⟨by rw [HR.out]; rfl, rfl⟩
  · have d0 : decide (lo ≤ n) = false := decide_eq_false h1
    have HR := As.mk (show b = false by rw [← h]; simp [h1])
    clear h
    go_enter Try.func82, Try.ntmps82
    go_wp2
    go_ret
    exact ⟨by rw [HR.out]; rfl, rfl⟩
theorem within_q (n lo hi : Int) (b : Bool) (h : (decide (lo ≤ n) && decide (n ≤ hi)) = b) (w : World) :
    Calls Try.prog 82 #[.int .i64 n, .int .i64 lo, .int .i64 hi] w fun e w' => e = .returned (.bool b) ∧ w' = w :=
  (within_any n lo hi b h w).mono fun _ _ ⟨a, c⟩ => ⟨a, c.symm⟩
theorem infoT : (Try.prog.info? 49).map (·.size) = some 35 := by kernel_rfl
def zT : Array Value := (Value.int .i64 0 :: .int .i64 0 :: .int .i64 0 :: List.replicate 32 (.int .u8 0)).toArray
theorem zT_info : (Try.prog.info? 49).map (fun i => (i.zero, i.size)) = some (some (.agg zT), zT.size) := by kernel_rfl
/-- what is known of a struct's cells as one list -/
structure RowOf (R : List Value) (x q u : Int) : Prop where
  len : R.length = 35
  one : R.toArray.all (·.oneCell') = true
  a0 : R[0]? = some (.int .i64 x)
  a1 : R[1]? = some (.int .i64 q)
  a2 : R[2]? = some (.int .i64 u)
theorem RowOf.of (t : Tn) : RowOf t.row t.id t.q t.u :=
  ⟨row_len t, by rw [Array.all_eq_true]; intro i hi; exact row_one t _ (by rw [List.getElem_toArray]; exact List.getElem_mem _), rfl, rfl, rfl⟩
theorem RowOf.info {R : List Value} {x q u : Int} (h : RowOf R x q u) : (Try.prog.info? 49).map (·.size) = some R.length := by rw [h.len]; exact infoT
theorem RowOf.info' {R : List Value} {x q u : Int} (h : RowOf R x q u) : (Try.prog.info? 49).map (·.size) = some R.toArray.size := by rw [List.size_toArray, h.len]; exact infoT
theorem RowOf.zs {R : List Value} {x q u : Int} (h : RowOf R x q u) : zT.size = R.toArray.size := by rw [show R.toArray.size = 35 from by rw [List.size_toArray, h.len]]; rfl
theorem RowOf.cell {R : List Value} {x q u : Int} (h : RowOf R x q u) {w : World} {b : Nat} {T : TypeId} (hb : w.heap[b]? = some (.cells R.toArray T (0, 0))) :
    w.cell? ⟨b, 0, none⟩ = some (.int .i64 x) ∧ w.cell? ⟨b, 1, none⟩ = some (.int .i64 q) ∧ w.cell? ⟨b, 2, none⟩ = some (.int .i64 u) := by
  refine ⟨?_, ?_, ?_⟩
  · rw [cell_of_row w b 0 _ _ _ hb]; simpa using h.a0
  · rw [cell_of_row w b 1 _ _ _ hb]; simpa using h.a1
  · rw [cell_of_row w b 2 _ _ _ hb]; simpa using h.a2
set_option maxHeartbeats 1000000 in
set_option maxRecDepth 100000 in
theorem right_any (ts : List Tn) (A : Option Addr) (n c : Nat) (w : World) (hn : n ≤ 1000000) (h : RdT Tn.row 35 w A n c ts) :
    Calls Try.prog 31 #[.slice A n c] w fun e w' => e = .returned (.bool (rightB ts)) ∧ Below w.heap.size w w' := by
  have HN := As.mk hn
  have H := As.mk h
  clear hn h
  go_enter Try.func31, Try.ntmps31
  go_wp2
  go_loopg [7] n (fun kq v7 wr => ∃ i : Nat, i + kq = n ∧ v7 = .int .i64 i ∧ As (∀ k, k < i → okI ts k = true) ∧ As (Below w.heap.size w wr))
  case atStart => exact ⟨0, by omega, rfl, ⟨fun k hk => by omega⟩, ⟨Below.refl _ _⟩⟩
  case round =>
    obtain ⟨i, hi, rfl, HK, HB⟩ := hrel
    have HI := As.mk hi
    clear hi
    by_cases hlt : i < n
    · have c0 : decide ((i : Int) < (n : Int)) = true := decide_eq_true (by omega)
      have c1 : decide (i < n) = true := decide_eq_true hlt
      have lt' : (i : Int) < (n : Int) := by omega
      have hw : wrap64 ((i : Int) + 1) = ((i + 1 : Nat) : Int) := wrap_up (by have := HN.out; omega)
      obtain ⟨ad, ea, h1⟩ := (H.out.below HB.out).at i hlt
      cases ea
      have HOK : As (okI ts i = okAt (lastId ts i) (nthT ts i)) := ⟨rfl⟩
      have HRW := As.mk (RowOf.of (nthT ts i))
      generalize hR : (nthT ts i).row = R at h1 HRW
      clear hR
      have H1 := As.mk h1
      clear h1
      generalize nthT ts i = t at HOK HRW
      obtain ⟨x, q, u, ck⟩ := t
      obtain ⟨b1, e1⟩ : ∃ b, (decide (1 ≤ x) && decide (x ≤ 16)) = b := ⟨_, rfl⟩
      obtain ⟨b3, e3⟩ : ∃ b, (decide (0 ≤ q) && decide (q ≤ 4096)) = b := ⟨_, rfl⟩
      obtain ⟨b4, e4⟩ : ∃ b, (decide (0 ≤ u) && decide (u ≤ q)) = b := ⟨_, rfl⟩
      have E1 := As.mk e1
      have E3 := As.mk e3
      have E4 := As.mk e4
      clear e1 e3 e4
      have HLT := As.mk hlt
      go_wp2_with (first
        | (refine wpList_load_at rfl 49 (.tmp 10) rfl (ad.add (i * 35)) rfl R _ H1.out Try.underlying49 rfl HRW.out.info ?_)
        | (refine wpList_allocArr rfl 49 rfl zT zT_info ?_)
        | (refine wpList_storeNew rfl rfl 49 _ _ rfl rfl R.toArray rfl 49 zT HRW.out.info' HRW.out.zs HRW.out.one ?_; refine As.out ?_))
      refine As.mk ?_
      have HB1 := As.mk (below_step HB.out (below_alloc (Below.refl wr.heap.size wr) (.cells R.toArray 49)))
      have HW1 := As.mk (heap_alloc_new wr (.cells R.toArray 49))
      generalize wr.alloc (.cells R.toArray 49) = w1 at *
      generalize wr.heap.size = g1 at *
      obtain ⟨z0, z1, z2⟩ := HRW.out.cell HW1.out
      have HL := As.mk (last_nonneg i HK.out)
      cases b1 with
      | false =>
        go_wp2
        go_quiet ((go_at_call 82; exact Calls.quiet_of_same (within_q _ _ _ _ (by first | (with_reducible exact E1.out) | (with_reducible exact E3.out) | (with_reducible exact E4.out)) _)))
        go_wp2
        go_ret
        exact ⟨by rw [rightB_no (by rw [H.out.len]; exact HLT.out) (HOK.out.trans (okAt_no1 HL.out E1.out))]; rfl, below_drewN HB1.out _⟩
      | true =>
        by_cases hi0 : i = 0
        · have g0 : decide ((0 : Int) < (i : Int)) = false := decide_eq_false (by omega)
          have g1 : decide (0 < i) = false := decide_eq_false (by omega)
          have HLX : As (lastId ts i < x) := ⟨by
            have := E1.out
            rw [show lastId ts i = 0 by unfold lastId; rw [if_pos hi0]]
            simp at this
            omega⟩
          clear hi0
          cases b3 with
          | false =>
            go_wp2
            go_quiet ((go_at_call 82; exact Calls.quiet_of_same (within_q _ _ _ _ (by first | (with_reducible exact E1.out) | (with_reducible exact E3.out) | (with_reducible exact E4.out)) _)))
            go_wp2
            go_ret
            exact ⟨by rw [rightB_no (by rw [H.out.len]; exact HLT.out) (HOK.out.trans (okAt_no3 E3.out))]; rfl, below_drewN HB1.out _⟩
          | true =>
            cases b4 with
            | false =>
              go_wp2
              go_quiet ((go_at_call 82; exact Calls.quiet_of_same (within_q _ _ _ _ (by first | (with_reducible exact E1.out) | (with_reducible exact E3.out) | (with_reducible exact E4.out)) _)))
              go_wp2
              go_ret
              exact ⟨by rw [rightB_no (by rw [H.out.len]; exact HLT.out) (HOK.out.trans (okAt_no4 E4.out))]; rfl, below_drewN HB1.out _⟩
            | true =>
              have HY := As.mk (HOK.out.trans (okAt_yes E1.out HLX.out E3.out E4.out))
              go_wp2
              go_quiet ((go_at_call 82; exact Calls.quiet_of_same (within_q _ _ _ _ (by first | (with_reducible exact E1.out) | (with_reducible exact E3.out) | (with_reducible exact E4.out)) _)))
              go_wp2
              go_roundg (n - (i + 1))
              case measure => have := HI.out; have := HLT.out; omega
              case rel =>
                refine ⟨i + 1, by have := HI.out; have := HLT.out; omega, by go_num, ⟨fun k hk => ?_⟩, ⟨below_drewN HB1.out _⟩⟩
                rcases Nat.lt_succ_iff_lt_or_eq.1 hk with h | rfl
                · exact HK.out k h
                · exact HY.out
        · have g0 : decide ((0 : Int) < (i : Int)) = true := decide_eq_true (by omega)
          have g1 : decide (0 < i) = true := decide_eq_true (by omega)
          obtain ⟨p, hp⟩ : ∃ p : Nat, i = p + 1 := ⟨i - 1, by omega⟩
          have hpw : wrap64 ((i : Int) - 1) = (p : Int) := by unfold wrap64; have := HN.out; omega
          have hpi : IntKind.i64.wrap ((i : Int) - 1) = (p : Int) := by rw [IntKind.wrap_i64]; have := HN.out; omega
          have hpn : (p : Int) < (n : Int) := by omega
          have hp0 : (0 : Int) ≤ (p : Int) := by omega
          have hpl : p < n := by omega
          obtain ⟨ad', ea', h2⟩ := (H.out.below HB1.out).at p hpl
          cases ea'
          have v0 : w1.cell? ((ad.add (p * 35)).add 0) = some (.int .i64 (nthT ts p).id) := h2 0 _ rfl
          have v1 : w1.cell? (ad.add (p * 35)) = some (.int .i64 (nthT ts p).id) := v0
          clear h2
          have HLP : As (lastId ts i = (nthT ts p).id) := ⟨by rw [hp]; rfl⟩
          clear hp hi0
          obtain ⟨b2, e2⟩ : ∃ b, decide (x ≤ (nthT ts p).id) = b := ⟨_, rfl⟩
          generalize (nthT ts p).id = y at v0 v1 e2 HLP
          cases b2 with
          | true =>
            have HE2 : As (decide (x ≤ lastId ts i) = true) := ⟨by rw [HLP.out]; exact e2⟩
            go_wp2
            go_quiet ((go_at_call 82; exact Calls.quiet_of_same (within_q _ _ _ _ (by first | (with_reducible exact E1.out) | (with_reducible exact E3.out) | (with_reducible exact E4.out)) _)))
            go_wp2
            go_ret
            exact ⟨by rw [rightB_no (by rw [H.out.len]; exact HLT.out) (HOK.out.trans (okAt_no2 HE2.out))]; rfl, below_drewN HB1.out _⟩
          | false =>
            have HLX : As (lastId ts i < x) := ⟨by rw [HLP.out]; simpa using e2⟩
            cases b3 with
            | false =>
              go_wp2
              go_quiet ((go_at_call 82; exact Calls.quiet_of_same (within_q _ _ _ _ (by first | (with_reducible exact E1.out) | (with_reducible exact E3.out) | (with_reducible exact E4.out)) _)))
              go_wp2
              go_ret
              exact ⟨by rw [rightB_no (by rw [H.out.len]; exact HLT.out) (HOK.out.trans (okAt_no3 E3.out))]; rfl, below_drewN HB1.out _⟩
            | true =>
              cases b4 with
              | false =>
                go_wp2
                go_quiet ((go_at_call 82; exact Calls.quiet_of_same (within_q _ _ _ _ (by first | (with_reducible exact E1.out) | (with_reducible exact E3.out) | (with_reducible exact E4.out)) _)))
                go_wp2
                go_ret
                exact ⟨by rw [rightB_no (by rw [H.out.len]; exact HLT.out) (HOK.out.trans (okAt_no4 E4.out))]; rfl, below_drewN HB1.out _⟩
              | true =>
                have HY := As.mk (HOK.out.trans (okAt_yes E1.out HLX.out E3.out E4.out))
                go_wp2
                go_quiet ((go_at_call 82; exact Calls.quiet_of_same (within_q _ _ _ _ (by first | (with_reducible exact E1.out) | (with_reducible exact E3.out) | (with_reducible exact E4.out)) _)))
                go_wp2
                go_roundg (n - (i + 1))
                case measure => have := HI.out; have := HLT.out; omega
                case rel =>
                  refine ⟨i + 1, by have := HI.out; have := HLT.out; omega, by go_num, ⟨fun k hk => ?_⟩, ⟨below_drewN HB1.out _⟩⟩
                  rcases Nat.lt_succ_iff_lt_or_eq.1 hk with h | rfl
                  · exact HK.out k h
                  · exact HY.out
    · have c0 : decide ((i : Int) < (n : Int)) = false := decide_eq_false (by omega)
      have c1 : decide (i < n) = false := decide_eq_false hlt
      have HR := As.mk ((rightB_iff ts).2 fun k hk => HK.out k (by have := H.out.len; omega))
      clear hlt
      go_wp2
      go_ret
      exact ⟨by rw [HR.out]; rfl, HB.out⟩
end Go.Proofs.Ytcbfdofeedlajaa.QuotaW
