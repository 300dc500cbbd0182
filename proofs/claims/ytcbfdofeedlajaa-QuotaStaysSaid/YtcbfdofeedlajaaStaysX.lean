/- QuotaStays: the statement. -/
import Derived.Test.YtcbfdofeedlajaaStaysW
namespace Go.Proofs.Ytcbfdofeedlajaa.QuotaW
set_option linter.unusedVariables false
set_option linter.unusedSimpArgs false
open Go Go.RowKit Go.Sort Go.Proofs.Ytcbfdofeedlajaa.Mem Go.Proofs.Ytcbfdofeedlajaa.Flat Go.Proofs.Ytcbfdofeedlajaa.QuotaP Go.Proofs.Ytcbfdofeedlajaa.LiftT

def zS : Array Value := (Value.int .i64 0 :: .int .i64 0 :: .int .i64 0 :: .int .i64 0 :: .int .i64 0 :: .int .i64 0 :: List.replicate 32 (.int .u8 0)).toArray
theorem zS_info : (Try.prog.info? 63).map (fun i => (i.zero, i.size)) = some (some (.agg zS), zS.size) := by kernel_rfl
theorem infoS : (Try.prog.info? 63).map (·.size) = some 38 := by kernel_rfl
/-- what is known of a step's cells as one list -/
structure RowS (R : List Value) (k id b : Int) (t : Tn) : Prop where
  len : R.length = 38
  one : R.toArray.all (·.oneCell') = true
  a0 : R[0]? = some (.int .i64 k)
  a1 : R[1]? = some (.int .i64 id)
  a2 : R[2]? = some (.int .i64 b)
  at_ : ∀ i v, t.row[i]? = some v → R[3 + i]? = some v
theorem RowS.of (s : Sp) : RowS s.row s.kind s.id s.by_ s.t :=
  ⟨sp_len s, by rw [Array.all_eq_true]; intro i hi; exact sp_one s _ (by rw [List.getElem_toArray]; exact List.getElem_mem _), rfl, rfl, rfl, fun i v h => by
    show (Value.int .i64 s.kind :: .int .i64 s.id :: .int .i64 s.by_ :: s.t.row)[3 + i]? = some v
    rw [show 3 + i = i + 1 + 1 + 1 by omega, List.getElem?_cons_succ, List.getElem?_cons_succ, List.getElem?_cons_succ]
    exact h⟩
theorem RowS.info {R : List Value} {k id b : Int} {t : Tn} (h : RowS R k id b t) : (Try.prog.info? 63).map (·.size) = some R.length := by rw [h.len]; exact infoS
theorem RowS.info' {R : List Value} {k id b : Int} {t : Tn} (h : RowS R k id b t) : (Try.prog.info? 63).map (·.size) = some R.toArray.size := by rw [List.size_toArray, h.len]; exact infoS
theorem RowS.zs {R : List Value} {k id b : Int} {t : Tn} (h : RowS R k id b t) : zS.size = R.toArray.size := by rw [show R.toArray.size = 38 from by rw [List.size_toArray, h.len]]; rfl
theorem RowS.cell {R : List Value} {k id b : Int} {t : Tn} (h : RowS R k id b t) {w : World} {g : Nat} {T : TypeId} (hb : w.heap[g]? = some (.cells R.toArray T (0, 0))) :
    w.cell? ⟨g, 0, none⟩ = some (.int .i64 k) ∧ w.cell? ⟨g, 1, none⟩ = some (.int .i64 id) ∧ w.cell? ⟨g, 2, none⟩ = some (.int .i64 b) := by
  refine ⟨?_, ?_, ?_⟩
  · rw [cell_of_row w g 0 _ _ _ hb]; simpa using h.a0
  · rw [cell_of_row w g 1 _ _ _ hb]; simpa using h.a1
  · rw [cell_of_row w g 2 _ _ _ hb]; simpa using h.a2
theorem RowS.tn {R : List Value} {k id b : Int} {t : Tn} (h : RowS R k id b t) {w : World} {g : Nat} {T : TypeId} (hb : w.heap[g]? = some (.cells R.toArray T (0, 0))) :
    ∀ i v, t.row[i]? = some v → w.cell? ((⟨g, 3, none⟩ : Addr).add i) = some v := fun i v hv => by
  rw [Addr.add_lit, cell_of_row w g (3 + i) _ _ _ hb, List.getElem?_toArray]
  exact h.at_ i v hv
theorem stays_nil : rightB ([] : List Tn) = true := rfl
set_option maxHeartbeats 400000 in
set_option maxRecDepth 100000 in
theorem stays_far (A : Option Addr) (n c : Nat) (m : Int) (w : World) (h : 60 < n) :
    Calls Try.prog 7 #[.slice A n c, .int .u16 m] w fun e w' => e = .returned (.bool true) ∧ Below w.heap.size w w' := by
  have d3 : decide (60 < (n : Int)) = true := decide_eq_true (by omega)
  have d3' : decide (60 < n) = true := decide_eq_true (by omega)
  clear h
  go_enter Try.func7, Try.ntmps7
  go_wp2_with (go_at_call 26; refine (awake_true _).mono ?_; rintro e w1 ⟨rfl, hb⟩)
  go_ret
  exact ⟨rfl, hb⟩
set_option maxHeartbeats 4000000 in
set_option maxRecDepth 100000 in
theorem stays_near (ss : List Sp) (A : Option Addr) (n c : Nat) (m : Nat) (w : World) (hn : n ≤ 60) (h : RdT Sp.row 38 w A n c ss) (hm : m ≤ 65535) :
    Calls Try.prog 7 #[.slice A n c, .int .u16 (m : Int)] w fun e w' => e = .returned (.bool true) ∧ Below w.heap.size w w' := by
  have d3 : decide (60 < (n : Int)) = false := decide_eq_false (by omega)
  have d3' : decide (60 < n) = false := decide_eq_false (by omega)
  have hw0 : wrap64 (m : Int) = (m : Int) := by unfold wrap64; omega
  have HN := As.mk hn
  have H := As.mk h
  clear hn h
  go_enter Try.func7, Try.ntmps7
  go_wp2_with (go_at_call 26; (with_reducible refine (awake_true _).mono ?_); rintro e w1 ⟨rfl, hb⟩; have HB1 := As.mk hb; have H1 := As.mk (H.out.below hb); clear hb)
  obtain ⟨a, ha⟩ : ∃ a, (m : Int) % 4097 = a := ⟨_, rfl⟩
  rw [ha]
  have HA0 : As (0 ≤ a) := ⟨by omega⟩
  clear hw0 hm ha
  go_loopg [6, 25] n (fun kq v6 v25 wr => ∃ (i : Nat) (A' : Option Addr) (n' c' : Nat) (cur : List Tn), i + kq = n ∧ v6 = .slice A' n' c' ∧ v25 = .int .i64 i ∧ As (Below w.heap.size w wr) ∧ As (RdT Sp.row 38 wr A n c ss) ∧ As (RdT Tn.row 35 wr A' n' c' cur) ∧ As (rightB cur = true) ∧ As (tot_q cur ≤ a))
  case atStart => exact ⟨0, none, 0, 0, [], by omega, rfl, rfl, HB1, H1, ⟨RdT.nil _ _ _ _ _ (by decide)⟩, ⟨stays_nil⟩, ⟨HA0.out⟩⟩
  case round =>
    obtain ⟨i, A', n', c', cur, hi, rfl, rfl, HB, HS, HC, HR, HQ⟩ := hrel
    have HI := As.mk hi
    clear hi
    by_cases hlt : i < n
    · have c0 : decide ((i : Int) < (n : Int)) = true := decide_eq_true (by omega)
      have c1 : decide (i < n) = true := decide_eq_true hlt
      have lt' : (i : Int) < (n : Int) := by omega
      have hw : wrap64 ((i : Int) + 1) = ((i + 1 : Nat) : Int) := wrap_up (by have := HN.out; omega)
      obtain ⟨ad, ea, h1⟩ := HS.out.at i hlt
      cases ea
      have HRW := As.mk (RowS.of (nthT ss i))
      generalize (nthT ss i).row = R at h1 HRW
      have H2 := As.mk h1
      clear h1
      generalize (nthT ss i).kind = k at *
      generalize (nthT ss i).id = id at *
      generalize (nthT ss i).by_ = b at *
      generalize (nthT ss i).t = t at *
      have HLT := As.mk hlt
      have HNC : As (n' ≤ 1000000) := ⟨by have := ok_len cur.length ((rightB_iff cur).1 HR.out); have := HC.out.len; omega⟩
      clear hlt
      go_wp2_with (first
        | (refine wpList_load_at rfl 63 (.tmp 27) rfl (ad.add (i * 38)) rfl R _ H2.out Try.underlying63 rfl HRW.out.info ?_)
        | (refine wpList_allocArr rfl 63 rfl zS zS_info ?_)
        | (refine wpList_storeNew rfl rfl 63 _ _ rfl rfl R.toArray rfl 63 zS HRW.out.info' HRW.out.zs HRW.out.one ?_; refine As.out ?_))
      refine As.mk ?_
      have hal := below_alloc (Below.refl wr.heap.size wr) (.cells R.toArray 63)
      have HB2 := As.mk (below_step HB.out hal)
      have HS2 := As.mk (HS.out.below hal)
      have HC2 := As.mk (HC.out.below hal)
      have HW2 := As.mk (heap_alloc_new wr (.cells R.toArray 63))
      clear hal
      generalize wr.alloc (.cells R.toArray 63) = w2 at *
      generalize wr.heap.size = g2 at *
      obtain ⟨z0, z1, z2⟩ := HRW.out.cell HW2.out
      have HT2 := As.mk (HRW.out.tn HW2.out)
      by_cases hk : k = 1
      · have k1 : (k == 1) = true := beq_iff_eq.2 hk
        clear hk
        go_wp2_with (first
          | (refine wpList_load_at rfl 49 (.tmp 34) rfl ⟨g2, 3, none⟩ rfl t.row _ HT2.out Try.underlying49 rfl (RowOf.of t).info ?_)
          | (go_at_call 34; refine As.out ?_))
        refine As.mk ?_
        refine (join_or cur t a A' n' c' w2 HNC.out HC2.out HR.out).mono ?_
        rintro e w3 (⟨ke, hke, rfl, hb⟩ | ⟨g, cc, rfl, hrd, hri, htq, hb⟩)
        · have HB3 := As.mk (below_step HB2.out hb)
          have HS3 := As.mk (HS2.out.below hb)
          have HC3 := As.mk (HC2.out.below hb)
          clear hb
          have HN2 : As (n' ≤ 1000000) := ⟨by have := ok_len cur.length ((rightB_iff cur).1 HR.out); have := HC3.out.len; omega⟩
          obtain ⟨SQ, hSQ⟩ : ∃ S, tot_q cur = S := ⟨_, rfl⟩
          obtain ⟨SU, hSU⟩ : ∃ S, tot_u cur = S := ⟨_, rfl⟩
          have ESQ := As.mk hSQ
          have ESU := As.mk hSU
          have f1 : decide (SQ < SU) = false := decide_eq_false (by have := tot_le HR.out; omega)
          have f2 : decide (a < SQ) = false := decide_eq_false (by have := HQ.out; omega)
          clear hSQ hSU
          go_wp2_with (first
            | (go_at_call 30; (with_reducible refine (rightL_any cur _ n' c' w3 HN2.out HC3.out).mono ?_); rintro e x1 ⟨rfl, hb⟩; rw [HR.out]; have HY1 := As.mk (below_step HB3.out hb); have HC1 := As.mk (HC3.out.below hb); have HZ1 := As.mk (HS3.out.below hb); clear hb)
            | (go_at_call 33; (with_reducible refine (total_u' cur _ n' c' x1 HN2.out HC1.out).mono ?_); rintro e x2 ⟨rfl, hb⟩; rw [ESU.out]; have HY2 := As.mk (below_step HY1.out hb); have HC2 := As.mk (HC1.out.below hb); have HZ2 := As.mk (HZ1.out.below hb); clear hb)
            | (go_at_call 32; (with_reducible refine (total_q' cur _ n' c' x2 HN2.out HC2.out).mono ?_); rintro e x3 ⟨rfl, hb⟩; rw [ESQ.out]; have HY3 := As.mk (below_step HY2.out hb); have HC3 := As.mk (HC2.out.below hb); have HZ3 := As.mk (HZ2.out.below hb); clear hb)
            | (go_at_call 32; (with_reducible refine (total_q' cur _ n' c' x3 HN2.out HC3.out).mono ?_); rintro e x4 ⟨rfl, hb⟩; rw [ESQ.out]; have HY4 := As.mk (below_step HY3.out hb); have HC4 := As.mk (HC3.out.below hb); have HZ4 := As.mk (HZ3.out.below hb); clear hb))
          go_roundg (n - (i + 1))
          case measure => have := HI.out; have := HLT.out; omega
          case rel => exact ⟨i + 1, A', n', c', cur, by have := HI.out; have := HLT.out; omega, rfl, by go_num, HY4, HZ4, HC4, HR, HQ⟩
        · have HB3 := As.mk (below_step HB2.out hb)
          have HS3 := As.mk (HS2.out.below hb)
          have HC3 := As.mk hrd
          have HRI := As.mk hri
          have HTQ := As.mk htq
          clear hb hrd hri htq
          obtain ⟨nx, hnx⟩ : ∃ l, ins t cur = l := ⟨_, rfl⟩
          rw [hnx] at HC3 HRI HTQ
          clear hnx
          have HN2 : As ((n' + 1) ≤ 1000000) := ⟨by have := ok_len nx.length ((rightB_iff nx).1 HRI.out); have := HC3.out.len; omega⟩
          obtain ⟨SQ, hSQ⟩ : ∃ S, tot_q nx = S := ⟨_, rfl⟩
          obtain ⟨SU, hSU⟩ : ∃ S, tot_u nx = S := ⟨_, rfl⟩
          have ESQ := As.mk hSQ
          have ESU := As.mk hSU
          have f1 : decide (SQ < SU) = false := decide_eq_false (by have := tot_le HRI.out; omega)
          have f2 : decide (a < SQ) = false := decide_eq_false (by have := HTQ.out; omega)
          clear hSQ hSU
          go_wp2_with (first
            | (go_at_call 30; (with_reducible refine (rightL_any nx _ (n' + 1) cc w3 HN2.out HC3.out).mono ?_); rintro e x1 ⟨rfl, hb⟩; rw [HRI.out]; have HY1 := As.mk (below_step HB3.out hb); have HC1 := As.mk (HC3.out.below hb); have HZ1 := As.mk (HS3.out.below hb); clear hb)
            | (go_at_call 33; (with_reducible refine (total_u' nx _ (n' + 1) cc x1 HN2.out HC1.out).mono ?_); rintro e x2 ⟨rfl, hb⟩; rw [ESU.out]; have HY2 := As.mk (below_step HY1.out hb); have HC2 := As.mk (HC1.out.below hb); have HZ2 := As.mk (HZ1.out.below hb); clear hb)
            | (go_at_call 32; (with_reducible refine (total_q' nx _ (n' + 1) cc x2 HN2.out HC2.out).mono ?_); rintro e x3 ⟨rfl, hb⟩; rw [ESQ.out]; have HY3 := As.mk (below_step HY2.out hb); have HC3 := As.mk (HC2.out.below hb); have HZ3 := As.mk (HZ2.out.below hb); clear hb)
            | (go_at_call 32; (with_reducible refine (total_q' nx _ (n' + 1) cc x3 HN2.out HC3.out).mono ?_); rintro e x4 ⟨rfl, hb⟩; rw [ESQ.out]; have HY4 := As.mk (below_step HY3.out hb); have HC4 := As.mk (HC3.out.below hb); have HZ4 := As.mk (HZ3.out.below hb); clear hb))
          go_roundg (n - (i + 1))
          case measure => have := HI.out; have := HLT.out; omega
          case rel => exact ⟨i + 1, (some ⟨g, 0, none⟩), (n' + 1), cc, nx, by have := HI.out; have := HLT.out; omega, rfl, by go_num, HY4, HZ4, HC4, HRI, HTQ⟩
      · have k1 : (k == 1) = false := beq_eq_false_iff_ne.2 hk
        clear hk
        go_wp2_with (go_at_call 28; refine As.out ?_)
        refine As.mk ?_
        refine (move_or cur id b A' n' c' w2 HNC.out HC2.out HR.out).mono ?_
        rintro e w3 (⟨ke, hke, rfl, hb⟩ | ⟨g, cc, j, rfl, hrd, hj, hfi, hmv, hb⟩)
        · have HB3 := As.mk (below_step HB2.out hb)
          have HS3 := As.mk (HS2.out.below hb)
          have HC3 := As.mk (HC2.out.below hb)
          clear hb
          have HN2 : As (n' ≤ 1000000) := ⟨by have := ok_len cur.length ((rightB_iff cur).1 HR.out); have := HC3.out.len; omega⟩
          obtain ⟨SQ, hSQ⟩ : ∃ S, tot_q cur = S := ⟨_, rfl⟩
          obtain ⟨SU, hSU⟩ : ∃ S, tot_u cur = S := ⟨_, rfl⟩
          have ESQ := As.mk hSQ
          have ESU := As.mk hSU
          have f1 : decide (SQ < SU) = false := decide_eq_false (by have := tot_le HR.out; omega)
          have f2 : decide (a < SQ) = false := decide_eq_false (by have := HQ.out; omega)
          clear hSQ hSU
          go_wp2_with (first
            | (go_at_call 30; (with_reducible refine (rightL_any cur _ n' c' w3 HN2.out HC3.out).mono ?_); rintro e x1 ⟨rfl, hb⟩; rw [HR.out]; have HY1 := As.mk (below_step HB3.out hb); have HC1 := As.mk (HC3.out.below hb); have HZ1 := As.mk (HS3.out.below hb); clear hb)
            | (go_at_call 33; (with_reducible refine (total_u' cur _ n' c' x1 HN2.out HC1.out).mono ?_); rintro e x2 ⟨rfl, hb⟩; rw [ESU.out]; have HY2 := As.mk (below_step HY1.out hb); have HC2 := As.mk (HC1.out.below hb); have HZ2 := As.mk (HZ1.out.below hb); clear hb)
            | (go_at_call 32; (with_reducible refine (total_q' cur _ n' c' x2 HN2.out HC2.out).mono ?_); rintro e x3 ⟨rfl, hb⟩; rw [ESQ.out]; have HY3 := As.mk (below_step HY2.out hb); have HC3 := As.mk (HC2.out.below hb); have HZ3 := As.mk (HZ2.out.below hb); clear hb)
            | (go_at_call 32; (with_reducible refine (total_q' cur _ n' c' x3 HN2.out HC3.out).mono ?_); rintro e x4 ⟨rfl, hb⟩; rw [ESQ.out]; have HY4 := As.mk (below_step HY3.out hb); have HC4 := As.mk (HC3.out.below hb); have HZ4 := As.mk (HZ3.out.below hb); clear hb))
          go_roundg (n - (i + 1))
          case measure => have := HI.out; have := HLT.out; omega
          case rel => exact ⟨i + 1, A', n', c', cur, by have := HI.out; have := HLT.out; omega, rfl, by go_num, HY4, HZ4, HC4, HR, HQ⟩
        · have HB3 := As.mk (below_step HB2.out hb)
          have HS3 := As.mk (HS2.out.below hb)
          have HC3 := As.mk (HC2.out.below hb)
          have HM3 := As.mk hrd
          have hjc : j < cur.length := by rw [HC.out.len]; exact hj
          have HRI := As.mk (moved_right HR.out hjc hmv)
          have HTQ : As (tot_q (moved cur j b) ≤ a) := ⟨by rw [tot_moved HR.out hjc hmv]; exact HQ.out⟩
          have HJ := As.mk (And.intro hj (And.intro hfi hmv))
          have hbd := move_bd hmv
          have hrf := right_fits HR.out j hjc
          unfold fits at hrf
          have hneg : wrap64 (-b) = -b := by unfold wrap64; omega
          have z3 := ((hb.cell (World.block_lt_of_cell? w2 _ z1)).trans z1)
          have z4 := ((hb.cell (World.block_lt_of_cell? w2 _ z2)).trans z2)
          clear hb hrd hj hfi hmv hjc hbd hrf
          go_wp2_with (go_at_call 28; refine As.out ?_)
          refine As.mk ?_
          refine (move_back cur id b j (some ⟨g, 0, none⟩) n' cc w3 HNC.out HM3.out HR.out HJ.out.1 HC.out.len HJ.out.2.1 HJ.out.2.2).mono ?_
          rintro e w4 ⟨g4, c4, rfl, hrd, hb⟩
          have HB4 := As.mk (below_step HB3.out hb)
          have HS4 := As.mk (HS3.out.below hb)
          have HC4' := As.mk (HC3.out.below hb)
          have HM4 := As.mk (HM3.out.below hb)
          have HK4 := As.mk hrd
          clear hb hrd
          obtain ⟨nx, hnx⟩ : ∃ l, moved cur j b = l := ⟨_, rfl⟩
          rw [hnx] at HM4 HRI HTQ
          clear hnx hneg
          go_wp2_with (go_at_call 29; (with_reducible refine (same_true cur _ _ n' _ _ w4 HNC.out HK4.out HC4'.out).mono ?_); rintro e w5 ⟨rfl, hb⟩; have HB5 := As.mk (below_step HB4.out hb); have HS5 := As.mk (HS4.out.below hb); have HM5 := As.mk (HM4.out.below hb); clear hb; refine As.out ?_)
          refine As.mk ?_
          have HN2 : As (n' ≤ 1000000) := ⟨by have := ok_len nx.length ((rightB_iff nx).1 HRI.out); have := HM5.out.len; omega⟩
          obtain ⟨SQ, hSQ⟩ : ∃ S, tot_q nx = S := ⟨_, rfl⟩
          obtain ⟨SU, hSU⟩ : ∃ S, tot_u nx = S := ⟨_, rfl⟩
          have ESQ := As.mk hSQ
          have ESU := As.mk hSU
          have f1 : decide (SQ < SU) = false := decide_eq_false (by have := tot_le HRI.out; omega)
          have f2 : decide (a < SQ) = false := decide_eq_false (by have := HTQ.out; omega)
          clear hSQ hSU
          go_wp2_with (first
            | (go_at_call 30; (with_reducible refine (rightL_any nx _ n' cc w5 HN2.out HM5.out).mono ?_); rintro e x1 ⟨rfl, hb⟩; rw [HRI.out]; have HY1 := As.mk (below_step HB5.out hb); have HC1 := As.mk (HM5.out.below hb); have HZ1 := As.mk (HS5.out.below hb); clear hb)
            | (go_at_call 33; (with_reducible refine (total_u' nx _ n' cc x1 HN2.out HC1.out).mono ?_); rintro e x2 ⟨rfl, hb⟩; rw [ESU.out]; have HY2 := As.mk (below_step HY1.out hb); have HC2 := As.mk (HC1.out.below hb); have HZ2 := As.mk (HZ1.out.below hb); clear hb)
            | (go_at_call 32; (with_reducible refine (total_q' nx _ n' cc x2 HN2.out HC2.out).mono ?_); rintro e x3 ⟨rfl, hb⟩; rw [ESQ.out]; have HY3 := As.mk (below_step HY2.out hb); have HC3 := As.mk (HC2.out.below hb); have HZ3 := As.mk (HZ2.out.below hb); clear hb)
            | (go_at_call 32; (with_reducible refine (total_q' nx _ n' cc x3 HN2.out HC3.out).mono ?_); rintro e x4 ⟨rfl, hb⟩; rw [ESQ.out]; have HY4 := As.mk (below_step HY3.out hb); have HC4 := As.mk (HC3.out.below hb); have HZ4 := As.mk (HZ3.out.below hb); clear hb))
          go_roundg (n - (i + 1))
          case measure => have := HI.out; have := HLT.out; omega
          case rel => exact ⟨i + 1, (some ⟨g, 0, none⟩), n', cc, nx, by have := HI.out; have := HLT.out; omega, rfl, by go_num, HY4, HZ4, HC4, HRI, HTQ⟩
    · have c0 : decide ((i : Int) < (n : Int)) = false := decide_eq_false (by omega)
      have c1 : decide (i < n) = false := decide_eq_false hlt
      clear hlt
      go_wp2
      go_ret
      exact ⟨rfl, HB.out⟩
theorem stays_walk (A : Option Addr) (n c : Nat) (ss : List Sp) (m : Int) (w : World) (h : RdT Sp.row 38 w A n c ss) (hm : (Lit.int .u16 m).wf = true) :
    Calls Try.prog 7 #[.slice A n c, .int .u16 m] w fun e w' => e = .returned (.bool true) ∧ Below w.heap.size w w' := by
  by_cases hn : n ≤ 60
  · have h2 : 0 ≤ m ∧ m ≤ 65535 := by
      simp [Lit.wf, IntKind.min, IntKind.max, IntKind.signed, IntKind.bits] at hm
      omega
    obtain ⟨m', rfl⟩ := Int.eq_ofNat_of_zero_le h2.1
    exact stays_near ss A n c m' w hn h (by omega)
  · exact stays_far A n c m w (by omega)
end Go.Proofs.Ytcbfdofeedlajaa.QuotaW
