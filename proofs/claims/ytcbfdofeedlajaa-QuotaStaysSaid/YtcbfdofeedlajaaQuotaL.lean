/- Tenants, held against each other; the statement's own small functions. -/
import Derived.Test.YtcbfdofeedlajaaQuotaK
import Derived.DeepKeys
namespace Go.Proofs.Ytcbfdofeedlajaa.QuotaW
set_option linter.unusedVariables false
set_option linter.unusedSimpArgs false
open Go Go.RowKit Go.Sort Go.Proofs.Ytcbfdofeedlajaa.Mem Go.Proofs.Ytcbfdofeedlajaa.Flat Go.Proofs.Ytcbfdofeedlajaa.QuotaP

theorem int_self (d : Nat) (W : World) (a : Int) : (Op.equalIn (d + 1) 3 (.int .i64 a) (.int .i64 a)).run Try.prog W = .ok true W := by
  rw [run_equalIn_int W d 3 .i64 .i64 _ _ Try.underlying3]
  simp
theorem run_part_arr {P : Program} (w : World) {e x : TypeId} {n : Nat} (hu : P.underlying e = some (.array n x)) (xs : Array Value) (off : Nat) : (part e xs off).run P w = .ok (.agg (xs.extract off (off + P.cellsOf e))) w := by
  obtain ⟨i, hi⟩ := info_of_underlying hu
  simp [part, isAgg, run_underlying hu, run_sizeOf w hi]
theorem ck_get (f : Nat → Int) (i : Nat) (h : i < 32) : (ckV f).toArray[i]? = some (.int .u8 (f i)) := by
  simp [ckV, List.getElem?_range h]
theorem items_self (d : Nat) (f : Nat → Int) : ∀ (is : List Nat) (W : World), (∀ i ∈ is, i < 32) → (Op.eqItems (d + 1) 5 1 (ckV f).toArray (ckV f).toArray is).run Try.prog W = .ok true W
  | [], W, _ => by simp [Op.eqItems]
  | i :: is, W, h => by
    have hi : i < 32 := h i (by simp)
    have p : ∀ W, (part 5 (ckV f).toArray (i * 1)).run Try.prog W = .ok (.int .u8 (f i)) W := fun W => run_part_plain W (by kernel_rfl) (by rw [Nat.mul_one]; exact ck_get f i hi)
    have e : ∀ W, (Op.equalIn (d + 1) 5 (.int .u8 (f i)) (.int .u8 (f i))).run Try.prog W = .ok true W := fun W => by
      rw [run_equalIn_int W d 5 .u8 .u8 _ _ Try.underlying5]
      simp
    simp only [Op.eqItems, Sem.run_bind, p, Result.andThen_ok, e]
    simpa using items_self d f is W (fun j hj => h j (by simp [hj]))
theorem ck_self (d : Nat) (W : World) (f : Nat → Int) : (Op.equalIn (d + 2) 41 (.agg (ckV f).toArray) (.agg (ckV f).toArray)).run Try.prog W = .ok true W := by
  obtain ⟨i, hi, _⟩ := Option.map_eq_some_iff.1 (show (Try.prog.info? 5).map (fun i => (i.zero, i.size, i.bytes)) = some (some (.int .u8 0), 1, 1) by kernel_rfl)
  rw [run_equalIn_array W (d + 1) _ _ Try.underlying41 hi, show Try.prog.cellsOf 5 = 1 by kernel_rfl]
  exact items_self d f _ W (fun i h => by simpa using h)
theorem cut3 (a b c : Value) (L : List Value) (h : L.length = 32) : (a :: b :: c :: L).toArray.extract 3 (3 + 32) = L.toArray := by
  rw [List.extract_toArray, List.extract_eq_take_drop]
  simp only [List.drop_succ_cons, List.drop_zero]
  rw [List.take_of_length_le (by omega)]
theorem tn_self (W : World) (t : Tn) : (Op.equalIn 10000 49 (.agg t.row.toArray) (.agg t.row.toArray)).run Try.prog W = .ok true W := by
  rw [run_equalIn_struct W 9999 49 _ _ (by kernel_rfl) (by kernel_rfl)]
  rw [show Try.prog.fieldsOf 49 = _ from by unfold Program.fieldsOf; rw [Try.underlying49]]
  have p0 : ∀ W, (part 3 t.row.toArray 0).run Try.prog W = .ok (.int .i64 t.id) W := fun W => run_part_plain W (by kernel_rfl) rfl
  have p1 : ∀ W, (part 3 t.row.toArray 1).run Try.prog W = .ok (.int .i64 t.q) W := fun W => run_part_plain W (by kernel_rfl) rfl
  have p2 : ∀ W, (part 3 t.row.toArray 2).run Try.prog W = .ok (.int .i64 t.u) W := fun W => run_part_plain W (by kernel_rfl) rfl
  have p3 : ∀ W, (part 41 t.row.toArray 3).run Try.prog W = .ok (.agg (ckV t.ck).toArray) W := fun W => by
    rw [run_part_arr W Try.underlying41, show Try.prog.cellsOf 41 = 32 by kernel_rfl]
    rw [show t.row.toArray.extract 3 (3 + 32) = (ckV t.ck).toArray from cut3 _ _ _ _ (ckV_len _)]
  simp [Op.eqFields, p0, p1, p2, p3, int_self 9998, ck_self 9997]
/-- a struct out of any place, in a region that draws -/
theorem yieldsIf_load_at {P : Program} {ops : Array Oper} {S : World → Prop} {op : Oper} {a : Act} (hw : Region.wanted op (yielded ops a.tmps) = true) (ty : TypeId) (x : Operand) (ho : op.op = .load ty x)
    (ad : Addr) (hx : a.eval x = .pointer (some ad)) (cs : List Value) (d : TypeDesc) (hS : ∀ w, S w → ∀ i v, cs[i]? = some v → w.cell? (ad.add i) = some v)
    (hu : P.underlying ty = some d) (hd : d.isRow = true) (hi : (P.info? ty).map (·.size) = some cs.length) : YieldsIf P ops S op (.agg cs.toArray) a :=
  .inl ⟨hw, fun w hw' => by
    unfold execOp
    simp only [ho, hx, Sem.run_bind, Sem.run_pure, Result.andThen_ok, run_loadAt_at w ad ty cs d (hS w hw') hu hd hi]⟩
set_option maxHeartbeats 1000000 in
set_option maxRecDepth 100000 in
theorem same_true (ts : List Tn) (A B : Option Addr) (n c d : Nat) (w : World) (hn : n ≤ 1000000) (h : RdT Tn.row 35 w A n c ts) (h2 : RdT Tn.row 35 w B n d ts) :
    Calls Try.prog 29 #[.slice A n c, .slice B n d] w fun e w' => e = .returned (.bool true) ∧ Below w.heap.size w w' := by
  have HN := As.mk hn
  have H := As.mk h
  have HH := As.mk h2
  have e1 : ((n : Int) != (n : Int)) = false := by simp
  clear hn h h2
  go_enter Try.func29, Try.ntmps29
  go_wp2
  clear e1
  go_loopg [13] n (fun kq v13 wr => ∃ i : Nat, i + kq = n ∧ v13 = .int .i64 i ∧ As (Below w.heap.size w wr))
  case atStart => exact ⟨0, by omega, rfl, ⟨Below.refl _ _⟩⟩
  case round =>
    obtain ⟨i, hi, rfl, HB⟩ := hrel
    have HI := As.mk hi
    clear hi
    by_cases hlt : i < n
    · have c0 : decide ((i : Int) < (n : Int)) = true := decide_eq_true (by omega)
      have c1 : decide (i < n) = true := decide_eq_true hlt
      have lt' : (i : Int) < (n : Int) := by omega
      have hw : wrap64 ((i : Int) + 1) = ((i + 1 : Nat) : Int) := wrap_up (by have := HN.out; omega)
      obtain ⟨ad, ea, h1⟩ := (H.out.below HB.out).at i hlt
      obtain ⟨bd, eb, h3⟩ := (HH.out.below HB.out).at i hlt
      cases ea
      cases eb
      have HRW := As.mk (RowOf.of (nthT ts i))
      have hq := fun W => tn_self W (nthT ts i)
      have hlen := HRW.out.len
      generalize hR : (nthT ts i).row = R at h1 h3 HRW hq hlen
      clear hR
      have H1 : As (∀ W, Below wr.heap.size wr W → ∀ j v, R[j]? = some v → W.cell? ((ad.add (i * 35)).add j) = some v) := ⟨fun W hW j v hv => (hW.cell (World.block_lt_of_cell? wr _ (h1 j v hv))).trans (h1 j v hv)⟩
      have H2 : As (∀ W, Below wr.heap.size wr W → ∀ j v, R[j]? = some v → W.cell? ((bd.add (i * 35)).add j) = some v) := ⟨fun W hW j v hv => (hW.cell (World.block_lt_of_cell? wr _ (h3 j v hv))).trans (h3 j v hv)⟩
      clear h1 h3 hlen
      have HLT := As.mk hlt
      generalize (nthT ts i).id = x at *
      generalize (nthT ts i).q = q at *
      generalize (nthT ts i).u = u at *
      go_wp2
      refine wp_region_held_drew (S := fun W : World => Below wr.heap.size wr W) (by kernel_rfl) (below_drewN (Below.refl _ _) 1) (fun hHeld => ?_)
      refine wpAnyH_take (i := 0) (v := .slice (some ad) n c) rfl (by kernel_rfl) (by kernel_rfl) (by kernel_rfl) (fun _ _ _ h => h) (Or.inl ⟨by rfl, fun W hW => by go_simp⟩) hHeld ?_
      try simp only [Act.put, List.setIfInBounds_toArray, List.set_cons_zero, List.set_cons_succ, List.getElem_toArray, List.getElem_cons_zero, List.getElem_cons_succ]
      refine wpAnyH_take (i := 1) (v := .int .i64 (i : Int)) rfl (by kernel_rfl) (by kernel_rfl) (by kernel_rfl) (fun _ _ _ h => h) (Or.inl ⟨by rfl, fun W hW => by go_simp⟩) hHeld ?_
      try simp only [Act.put, List.setIfInBounds_toArray, List.set_cons_zero, List.set_cons_succ, List.getElem_toArray, List.getElem_cons_zero, List.getElem_cons_succ]
      refine wpAnyH_take (i := 2) (v := .pointer (some (ad.add (i * 35)))) rfl (by kernel_rfl) (by kernel_rfl) (by kernel_rfl) (fun _ _ _ h => h) (Or.inl ⟨by rfl, fun W hW => by go_simp⟩) hHeld ?_
      try simp only [Act.put, List.setIfInBounds_toArray, List.set_cons_zero, List.set_cons_succ, List.getElem_toArray, List.getElem_cons_zero, List.getElem_cons_succ]
      refine wpAnyH_take (i := 3) (v := .agg R.toArray) rfl (by kernel_rfl) (by kernel_rfl) (by kernel_rfl) (fun _ _ _ h => h) (yieldsIf_load_at (by rfl) _ _ rfl (ad.add (i * 35)) rfl R _ (fun W h => H1.out W h) Try.underlying49 rfl HRW.out.info) hHeld ?_
      try simp only [Act.put, List.setIfInBounds_toArray, List.set_cons_zero, List.set_cons_succ, List.getElem_toArray, List.getElem_cons_zero, List.getElem_cons_succ]
      refine wpAnyH_take (i := 4) (v := .slice (some bd) n d) rfl (by kernel_rfl) (by kernel_rfl) (by kernel_rfl) (fun _ _ _ h => h) (Or.inl ⟨by rfl, fun W hW => by go_simp⟩) hHeld ?_
      try simp only [Act.put, List.setIfInBounds_toArray, List.set_cons_zero, List.set_cons_succ, List.getElem_toArray, List.getElem_cons_zero, List.getElem_cons_succ]
      refine wpAnyH_take (i := 5) (v := .int .i64 (i : Int)) rfl (by kernel_rfl) (by kernel_rfl) (by kernel_rfl) (fun _ _ _ h => h) (Or.inl ⟨by rfl, fun W hW => by go_simp⟩) hHeld ?_
      try simp only [Act.put, List.setIfInBounds_toArray, List.set_cons_zero, List.set_cons_succ, List.getElem_toArray, List.getElem_cons_zero, List.getElem_cons_succ]
      refine wpAnyH_take (i := 6) (v := .pointer (some (bd.add (i * 35)))) rfl (by kernel_rfl) (by kernel_rfl) (by kernel_rfl) (fun _ _ _ h => h) (Or.inl ⟨by rfl, fun W hW => by go_simp⟩) hHeld ?_
      try simp only [Act.put, List.setIfInBounds_toArray, List.set_cons_zero, List.set_cons_succ, List.getElem_toArray, List.getElem_cons_zero, List.getElem_cons_succ]
      refine wpAnyH_take (i := 7) (v := .agg R.toArray) rfl (by kernel_rfl) (by kernel_rfl) (by kernel_rfl) (fun _ _ _ h => h) (yieldsIf_load_at (by rfl) _ _ rfl (bd.add (i * 35)) rfl R _ (fun W h => H2.out W h) Try.underlying49 rfl HRW.out.info) hHeld ?_
      try simp only [Act.put, List.setIfInBounds_toArray, List.set_cons_zero, List.set_cons_succ, List.getElem_toArray, List.getElem_cons_zero, List.getElem_cons_succ]
      refine wpAnyH_take (i := 8) (v := .bool false) rfl (by kernel_rfl) (by kernel_rfl) (by kernel_rfl) (fun _ _ _ h => h) (Or.inl ⟨by rfl, fun W hW => by go_simp⟩) hHeld ?_
      try simp only [Act.put, List.setIfInBounds_toArray, List.set_cons_zero, List.set_cons_succ, List.getElem_toArray, List.getElem_cons_zero, List.getElem_cons_succ]
      refine wpAnyH_done (by kernel_rfl) ?_ _
      go_wp2
      go_roundg (n - (i + 1))
      case measure => have := HI.out; have := HLT.out; omega
      case rel => exact ⟨i + 1, by have := HI.out; have := HLT.out; omega, by go_num, ⟨below_drewN HB.out 1⟩⟩
    · have c0 : decide ((i : Int) < (n : Int)) = false := decide_eq_false (by omega)
      have c1 : decide (i < n) = false := decide_eq_false hlt
      clear hlt
      go_wp2
      go_ret
      exact ⟨rfl, HB.out⟩
theorem last_succ (ts : List Tn) (i : Nat) : lastId ts (i + 1) = (nthT ts i).id := rfl
set_option maxHeartbeats 2000000 in
set_option maxRecDepth 100000 in
theorem rightL_any (ts : List Tn) (A : Option Addr) (n c : Nat) (w : World) (hn : n ≤ 1000000) (h : RdT Tn.row 35 w A n c ts) :
    Calls Try.prog 30 #[.slice A n c] w fun e w' => e = .returned (.bool (rightB ts)) ∧ Below w.heap.size w w' := by
  have HN := As.mk hn
  have H := As.mk h
  clear hn h
  go_enter Try.func30, Try.ntmps30
  go_wp2
  go_loopg [3, 8] n (fun kq v3 v8 wr => ∃ i : Nat, i + kq = n ∧ v3 = .int .i64 (lastId ts i) ∧ v8 = .int .i64 i ∧ As (∀ k, k < i → okI ts k = true) ∧ As (Below w.heap.size w wr))
  case atStart => exact ⟨0, by omega, rfl, rfl, ⟨fun k hk => by omega⟩, ⟨Below.refl _ _⟩⟩
  case round =>
    obtain ⟨i, hi, rfl, rfl, HK, HB⟩ := hrel
    have HI := As.mk hi
    clear hi
    by_cases hlt : i < n
    · have c0 : decide ((i : Int) < (n : Int)) = true := decide_eq_true (by omega)
      have c1 : decide (i < n) = true := decide_eq_true hlt
      have lt' : (i : Int) < (n : Int) := by omega
      have hw : wrap64 ((i : Int) + 1) = ((i + 1 : Nat) : Int) := wrap_up (by have := HN.out; omega)
      obtain ⟨ad, ea, h1⟩ := (H.out.below HB.out).at i hlt
      cases ea
      have HOK : As (okI ts i = okAt (lastId ts i) (nthT ts i)) := ⟨rfl⟩
      have HRW := As.mk (RowOf.of (nthT ts i))
      generalize hR : (nthT ts i).row = R at h1 HRW
      clear hR
      have H1 := As.mk h1
      clear h1
      have hx0 : (nthT ts i).id = (nthT ts i).id := rfl
      generalize hx : nthT ts i = t at HOK HRW
      have HX0 := As.mk hx
      clear hx hx0
      obtain ⟨x, q, u, ck⟩ := t
      have HX : As ((nthT ts i).id = x) := ⟨by rw [HX0.out]⟩
      clear HX0
      generalize lastId ts i = last at *
      have HLT := As.mk hlt
      clear hlt
      go_wp2_with (first
        | (refine wpList_load_at rfl 49 (.tmp 10) rfl (ad.add (i * 35)) rfl R _ H1.out Try.underlying49 rfl HRW.out.info ?_)
        | (refine wpList_allocArr rfl 49 rfl zT zT_info ?_)
        | (refine wpList_storeNew rfl rfl 49 _ _ rfl rfl R.toArray rfl 49 zT HRW.out.info' HRW.out.zs HRW.out.one ?_; refine As.out ?_))
      refine As.mk ?_
      have HB1 := As.mk (below_step HB.out (below_alloc (Below.refl wr.heap.size wr) (.cells R.toArray 49)))
      have HW1 := As.mk (heap_alloc_new wr (.cells R.toArray 49))
      generalize wr.alloc (.cells R.toArray 49) = w1 at *
      generalize wr.heap.size = g1 at *
      obtain ⟨z0, z1, z2⟩ := HRW.out.cell HW1.out
      try simp only at z0 z1 z2
      by_cases hc0 : x ≤ last
      · have d0 : decide (x ≤ last) = true := decide_eq_true hc0
        have HNO := As.mk (rightB_no (ts := ts) (i := i) (by rw [H.out.len]; exact HLT.out) (HOK.out.trans (okAt_no (fun h => by simp only at h; omega))))
        clear hc0
        go_wp2
        go_ret
        exact ⟨by rw [HNO.out]; rfl, HB1.out⟩
      · have d0 : decide (x ≤ last) = false := decide_eq_false hc0
        by_cases hc1 : 16 < x
        · have d1 : decide (16 < x) = true := decide_eq_true hc1
          have HNO := As.mk (rightB_no (ts := ts) (i := i) (by rw [H.out.len]; exact HLT.out) (HOK.out.trans (okAt_no (fun h => by simp only at h; omega))))
          clear hc0 hc1
          go_wp2
          go_ret
          exact ⟨by rw [HNO.out]; rfl, HB1.out⟩
        · have d1 : decide (16 < x) = false := decide_eq_false hc1
          by_cases hc2 : q < 0
          · have d2 : decide (q < 0) = true := decide_eq_true hc2
            have HNO := As.mk (rightB_no (ts := ts) (i := i) (by rw [H.out.len]; exact HLT.out) (HOK.out.trans (okAt_no (fun h => by simp only at h; omega))))
            clear hc0 hc1 hc2
            go_wp2
            go_ret
            exact ⟨by rw [HNO.out]; rfl, HB1.out⟩
          · have d2 : decide (q < 0) = false := decide_eq_false hc2
            by_cases hc3 : 4096 < q
            · have d3 : decide (4096 < q) = true := decide_eq_true hc3
              have HNO := As.mk (rightB_no (ts := ts) (i := i) (by rw [H.out.len]; exact HLT.out) (HOK.out.trans (okAt_no (fun h => by simp only at h; omega))))
              clear hc0 hc1 hc2 hc3
              go_wp2
              go_ret
              exact ⟨by rw [HNO.out]; rfl, HB1.out⟩
            · have d3 : decide (4096 < q) = false := decide_eq_false hc3
              by_cases hc4 : u < 0
              · have d4 : decide (u < 0) = true := decide_eq_true hc4
                have HNO := As.mk (rightB_no (ts := ts) (i := i) (by rw [H.out.len]; exact HLT.out) (HOK.out.trans (okAt_no (fun h => by simp only at h; omega))))
                clear hc0 hc1 hc2 hc3 hc4
                go_wp2
                go_ret
                exact ⟨by rw [HNO.out]; rfl, HB1.out⟩
              · have d4 : decide (u < 0) = false := decide_eq_false hc4
                by_cases hc5 : q < u
                · have d5 : decide (q < u) = true := decide_eq_true hc5
                  have HNO := As.mk (rightB_no (ts := ts) (i := i) (by rw [H.out.len]; exact HLT.out) (HOK.out.trans (okAt_no (fun h => by simp only at h; omega))))
                  clear hc0 hc1 hc2 hc3 hc4 hc5
                  go_wp2
                  go_ret
                  exact ⟨by rw [HNO.out]; rfl, HB1.out⟩
                · have d5 : decide (q < u) = false := decide_eq_false hc5
                  have HY := As.mk (HOK.out.trans ((okAt_iff _ _).2 (by simp only; omega)))
                  clear hc0 hc1 hc2 hc3 hc4 hc5
                  go_wp2
                  go_roundg (n - (i + 1))
                  case measure => have := HI.out; have := HLT.out; omega
                  case rel =>
                    refine ⟨i + 1, by have := HI.out; have := HLT.out; omega, by rw [last_succ, HX.out], by go_num, ⟨fun k hk => ?_⟩, HB1⟩
                    rcases Nat.lt_succ_iff_lt_or_eq.1 hk with h | rfl
                    · exact HK.out k h
                    · exact HY.out
    · have c0 : decide ((i : Int) < (n : Int)) = false := decide_eq_false (by omega)
      have c1 : decide (i < n) = false := decide_eq_false hlt
      have HR := As.mk ((rightB_iff ts).2 fun k hk => HK.out k (by have := H.out.len; omega))
      clear hlt
      go_wp2
      go_ret
      exact ⟨by rw [HR.out]; rfl, HB.out⟩
end Go.Proofs.Ytcbfdofeedlajaa.QuotaW
