/- AdminlogBinds: the statement. -/
import Derived.Test.YtjcofbjfolaoiaaAdminH
namespace Go.Proofs.Ytjcofbjfolaoiaa.Binds
set_option linter.unusedVariables false
set_option linter.unusedSimpArgs false
open Go Go.RowKit Go.Proofs.Ytjcofbjfolaoiaa.LayA Go.Proofs.Ytjcofbjfolaoiaa.Mem Go.Proofs.Ytjcofbjfolaoiaa.Pad Go.Proofs.Ytjcofbjfolaoiaa.Put Go.Proofs.Ytjcofbjfolaoiaa.Put32 Go.Proofs.Ytjcofbjfolaoiaa.Sum Go.Proofs.Ytjcofbjfolaoiaa.Hmac Go.Proofs.Ytjcofbjfolaoiaa.Parts Go.Proofs.Ytjcofbjfolaoiaa.Derive Go.Proofs.Ytjcofbjfolaoiaa.RefDerive Go.Proofs.Ytjcofbjfolaoiaa.Chain Go.Proofs.Ytjcofbjfolaoiaa.RefSum Go.Proofs.Ytjcofbjfolaoiaa.ShaSums Go.Proofs.Ytjcofbjfolaoiaa.HmacKeys Go.Proofs.Ytjcofbjfolaoiaa.Admin

section
variable {P : Program}
theorem quiet_load_at {a : Act} {o : Oper} {K : Act → Prop} {w0 : World} (ty : TypeId) (x : Operand) (ho : o.op = .load ty x)
    (ad : Addr) (hx : a.eval x = .pointer (some ad)) (cs : List Value) (d : TypeDesc) (hc : ∀ i v, cs[i]? = some v → w0.cell? (ad.add i) = some v)
    (hu : P.underlying ty = some d) (hd : d.isRow = true) (hi : (P.info? ty).map (·.size) = some cs.length) (C : Array Value) (hC : cs.toArray = C)
    (h : K (a.put o.dst (.agg C))) : o.quiet P a (fun w' => ∃ n, w' = w0.drewN n) K :=
  ⟨_, fun w hw => by
    subst hC
    obtain ⟨n, rfl⟩ := hw
    have hl := run_loadAt_at (P := P) (w0.drewN n) ad ty cs d (fun i v hv => hc i v hv) hu hd hi
    unfold Oper.quietAt execOp
    simp only [ho, hx, Sem.run_bind, hl, Result.andThen_ok, Sem.run_pure]
    exact ⟨rfl, rfl⟩, h⟩
theorem yieldsIf_load_at {ops : Array Oper} {S : World → Prop} {op : Oper} {a : Act} (hw : Region.wanted op (yielded ops a.tmps) = true) (ty : TypeId) (x : Operand) (ho : op.op = .load ty x)
    (ad : Addr) (hx : a.eval x = .pointer (some ad)) (cs : List Value) (d : TypeDesc) (hS : ∀ w, S w → ∀ i v, cs[i]? = some v → w.cell? (ad.add i) = some v)
    (hu : P.underlying ty = some d) (hd : d.isRow = true) (hi : (P.info? ty).map (·.size) = some cs.length) (C : Array Value) (hC : cs.toArray = C) : YieldsIf P ops S op (.agg C) a :=
  .inl ⟨hw, fun w hw' => by
    subst hC
    unfold execOp
    simp only [ho, hx, Sem.run_bind, run_loadAt_at w ad ty cs d (hS w hw') hu hd hi, Result.andThen_ok, Sem.run_pure]⟩
end
theorem row_cells {w : World} {g : Nat} {C : Array Value} {T : TypeId} (h : w.heap[g]? = some (.cells C T (0, 0))) : ∀ i v, C.toList[i]? = some v → w.cell? ((⟨g, 0, none⟩ : Addr).add i) = some v := fun i v hv => by
  rw [Addr.add_lit, Nat.zero_add, cell_of_row w g i _ _ _ h]
  simpa using hv
theorem cells_below {w W : World} {ad : Addr} {L : List Value} (h : ∀ i v, L[i]? = some v → w.cell? (ad.add i) = some v) (hb : Below w.heap.size w W) : ∀ i v, L[i]? = some v → W.cell? (ad.add i) = some v := fun i v hv =>
  (hb.cell (World.block_lt_of_cell? w _ (h i v hv))).trans (h i v hv)
theorem eq32 (x y : List Int) (hx : x.length = 32) (hy : y.length = 32) (bx : Byte x) (by_ : Byte y) (W : World) : (Op.equalIn 10000 102 (.agg (bytesA x)) (.agg (bytesA y))).run Try.prog W = .ok (decide (x = y)) W :=
  run_eq_ints (P := Try.prog) W 102 5 32 uArr32 Try.underlying5 info8 x y bx by_ hx hy
theorem byte_of {l : List Int} (hb : ∀ i ∈ l, (Lit.int .u8 i).wf = true) : Byte l := fun i hi => by
  have h := hb i hi
  simp [Lit.wf, IntKind.min, IntKind.max, IntKind.signed, IntKind.bits] at h
  omega
/-! ### the plain law -/
def eqL (X Y : Nat → List Int) (n : Nat) : Bool := (List.range n).all fun j => eqR (X j) (Y j)
theorem eqL_succ (X Y : Nat → List Int) (n : Nat) : eqL X Y (n + 1) = (eqL X Y n && eqR (X n) (Y n)) := by simp [eqL, List.range_succ, List.all_append]
theorem eqL_iff (X Y : Nat → List Int) (n : Nat) : eqL X Y n = true ↔ ∀ j, j < n → eqR (X j) (Y j) = true := by simp [eqL, List.all_eq_true]
theorem list6 (r : List Int) (h : r.length = 6) : r = [nth r 0, nth r 1, nth r 2, nth r 3, nth r 4, nth r 5] := by
  match r, h with
  | [a, b, c, d, e, f], _ => rfl
theorem eqR_eq {r s : List Int} (h1 : r.length = 6) (h2 : s.length = 6) (h : eqR r s = true) : r = s := by
  simp only [eqR, Bool.and_eq_true, beq_iff_eq] at h
  obtain ⟨e0, e1, e2, e3, e4, e5⟩ := h
  rw [list6 r h1, list6 s h2, e0, e1, e2, e3, e4, e5]
theorem heads_same (key : List Int) {X Y : Nat → List Int} {n : Nat} (h : ∀ j, j < n → X j = Y j) : headN key X n = headN key Y n := by
  unfold headN
  congr 1
  unfold itemsN
  refine List.map_congr_left fun j hj => ?_
  rw [h j (List.mem_range.1 hj)]
theorem heads_eqL (key : List Int) {X Y : Nat → List Int} {n : Nat} (h1 : ∀ j, j < n → (X j).length = 6) (h2 : ∀ j, j < n → (Y j).length = 6) (h : eqL X Y n = true) : headN key X n = headN key Y n :=
  heads_same key fun j hj => eqR_eq (h1 j hj) (h2 j hj) ((eqL_iff X Y n).1 h j hj)
def condB (key : List Int) (X Y : Nat → List Int) (j : Nat) : Bool := (!decide (headN key X j = headN key Y j) || !eqR (X j) (Y j)) && decide (headN key X (j + 1) = headN key Y (j + 1))
theorem no_cond (key : List Int) (X Y : Nat → List Int) : ∀ n, (∀ j, j < n → condB key X Y j = false) → headN key X n = headN key Y n → eqL X Y n = true
  | 0, _, _ => rfl
  | n + 1, h, he => by
    have h1 := h n (by omega)
    unfold condB at h1
    rw [decide_eq_true he, Bool.and_true, Bool.or_eq_false_iff] at h1
    obtain ⟨h2, h3⟩ := h1
    have h4 : headN key X n = headN key Y n := by simpa using h2
    rw [eqL_succ, no_cond key X Y n (fun j hj => h j (by omega)) h4]
    simpa using h3
/-! ### the walk -/
set_option maxHeartbeats 1000000 in
set_option maxRecDepth 100000 in
theorem bi_far (s c n d m f : Nat) (A B D : Option Addr) (h : 100 < s ∨ (s ≤ 100 ∧ n ≠ m) ∨ (s ≤ 100 ∧ n = m ∧ n = 0) ∨ (s ≤ 100 ∧ n = m ∧ 6 < n)) (w : World) :
    Calls Try.prog 11 #[.slice A s c, .slice B n d, .slice D m f] w fun e w' => e = .returned (.bool true) ∧ Below w.heap.size w w' := by
  rcases h with h | ⟨h, h2⟩ | ⟨h, rfl, rfl⟩ | ⟨h, rfl, h2⟩
  · have d0 : decide (100 < (s : Int)) = true := decide_eq_true (by omega)
    have d1 : decide (100 < s) = true := decide_eq_true h
    clear h
    go_enter Try.func11, Try.ntmps11
    go_wp2_with (go_at_call 57; (refine (awake_true _).mono ?_); rintro e w1 ⟨rfl, hb⟩; have HB1 := As.mk hb; clear hb)
    go_ret
    exact ⟨rfl, HB1.out⟩
  · have d0 : decide (100 < (s : Int)) = false := decide_eq_false (by omega)
    have d1 : decide (100 < s) = false := decide_eq_false (by omega)
    have d2 : ((n : Int) != (m : Int)) = true := by simp; omega
    have d3 : (n : Int) ≠ (m : Int) := by omega
    clear h
    go_enter Try.func11, Try.ntmps11
    go_wp2_with (go_at_call 57; (refine (awake_true _).mono ?_); rintro e w1 ⟨rfl, hb⟩; have HB1 := As.mk hb; clear hb)
    go_ret
    exact ⟨rfl, HB1.out⟩
  · have d0 : decide (100 < (s : Int)) = false := decide_eq_false (by omega)
    have d1 : decide (100 < s) = false := decide_eq_false (by omega)
    clear h
    go_enter Try.func11, Try.ntmps11
    go_wp2_with (go_at_call 57; (refine (awake_true _).mono ?_); rintro e w1 ⟨rfl, hb⟩; have HB1 := As.mk hb; clear hb)
    go_ret
    exact ⟨rfl, HB1.out⟩
  · have d0 : decide (100 < (s : Int)) = false := decide_eq_false (by omega)
    have d1 : decide (100 < s) = false := decide_eq_false (by omega)
    have d2 : ((n : Int) == 0) = false := by simp; omega
    have d3 : (n : Int) ≠ 0 := by omega
    have d5 : n ≠ 0 := by omega
    have d4 : decide (6 < (n : Int)) = true := decide_eq_true (by omega)
    have d6 : decide (6 < n) = true := decide_eq_true h2
    clear h h2
    go_enter Try.func11, Try.ntmps11
    go_wp2_with (go_at_call 57; (refine (awake_true _).mono ?_); rintro e w1 ⟨rfl, hb⟩; have HB1 := As.mk hb; clear hb)
    go_ret
    exact ⟨rfl, HB1.out⟩
set_option maxHeartbeats 8000000 in
set_option maxRecDepth 100000 in
theorem bi_ok (key : List Int) (hk : Byte key) (A : Option Addr) (s c : Nat) (X Y : Nat → List Int) (B D : Option Addr) (n d f : Nat) (hs : s ≤ 100) (hn : 1 ≤ n ∧ n ≤ 6) (w : World) (h0 : Rd .u8 w A s c key) (h1 : RdX w B n d X) (h2 : RdX w D n f Y) :
    Calls Try.prog 11 #[.slice A s c, .slice B n d, .slice D n f] w fun e w' => e = .returned (.bool true) ∧ Below w.heap.size w w' := by
  have HK := As.mk hk
  have HN := As.mk hn
  have d0 : decide (100 < (s : Int)) = false := decide_eq_false (by omega)
  have d1 : decide (100 < s) = false := decide_eq_false (by omega)
  have d2 : ((n : Int) == 0) = false := by simp; omega
  have d3 : (n : Int) ≠ 0 := by omega
  have d5 : n ≠ 0 := by omega
  have d4 : decide (6 < (n : Int)) = false := decide_eq_false (by omega)
  have d6 : decide (6 < n) = false := decide_eq_false (by omega)
  have H0 := As.mk h0
  have HX := As.mk h1
  have HY := As.mk h2
  clear hk hn hs h0 h1 h2
  go_enter Try.func11, Try.ntmps11
  go_wp2_with (first
    | (go_at_call 57; (with_reducible refine (awake_true w).mono ?_); rintro e w1 ⟨rfl, hb⟩; have HB1 := As.mk hb; have H1 := As.mk (H0.out.below hb); have HX1 := As.mk (HX.out.below hb); have HY1 := As.mk (HY.out.below hb); clear hb)
    | (go_at_call 58; refine As.out ?_))
  refine As.mk ?_
  refine (heads_any key HK.out A s c X B n d (by have := HN.out; omega) w1 H1.out HX1.out).mono ?_
  rintro e w2 hpost
  obtain ⟨k1, A1, n1, c1, hcase, he, hb⟩ : ∃ (k : Int) (Ah : Option Addr) (nh ch : Nat), ((k ≠ 0) ∨ (k = 0 ∧ nh = n ∧ credB s = true ∧ allR X n = true ∧ w2.ownsRow w1.heap.size 102 32 (.slice Ah nh ch) n (flat (headsL key X n)))) ∧ e = .returned (.tuple #[.slice Ah nh ch, .int .i64 k]) ∧ Below w1.heap.size w1 w2 := by
    rcases hpost with ⟨h2, h3, h4⟩ | ⟨h2, h2', h3, h4⟩ | ⟨h2, h2', A', c', h3, h5, h4⟩
    · exact ⟨30, none, 0, 0, .inl (by decide), h3, h4⟩
    · exact ⟨2, none, 0, 0, .inl (by decide), h3, h4⟩
    · exact ⟨0, A', n, c', .inr ⟨rfl, rfl, h2, h2', h5⟩, h3, h4⟩
  subst he
  have HCX := As.mk hcase
  have HB2 := As.mk (below_step HB1.out hb)
  have H2 := As.mk (H1.out.below hb)
  have HX2 := As.mk (HX1.out.below hb)
  have HY2 := As.mk (HY1.out.below hb)
  clear hpost hcase hb
  go_wp2_with (go_at_call 58; refine As.out ?_)
  refine As.mk ?_
  refine (heads_any key HK.out A s c Y D n f (by have := HN.out; omega) w2 H2.out HY2.out).mono ?_
  rintro e w3 hpost
  obtain ⟨k2, A2, n2, c2, hcase, he, hb⟩ : ∃ (k : Int) (Ah : Option Addr) (nh ch : Nat), ((k ≠ 0) ∨ (k = 0 ∧ nh = n ∧ allR Y n = true ∧ w3.ownsRow w2.heap.size 102 32 (.slice Ah nh ch) n (flat (headsL key Y n)))) ∧ e = .returned (.tuple #[.slice Ah nh ch, .int .i64 k]) ∧ Below w2.heap.size w2 w3 := by
    rcases hpost with ⟨h2, h3, h4⟩ | ⟨h2, h2', h3, h4⟩ | ⟨h2, h2', A', c', h3, h5, h4⟩
    · exact ⟨30, none, 0, 0, .inl (by decide), h3, h4⟩
    · exact ⟨2, none, 0, 0, .inl (by decide), h3, h4⟩
    · exact ⟨0, A', n, c', .inr ⟨rfl, rfl, h2', h5⟩, h3, h4⟩
  subst he
  have HCY := As.mk hcase
  have HW3 := As.mk hb
  have HB3 := As.mk (below_step HB2.out hb)
  have H3 := As.mk (H2.out.below hb)
  have HX3 := As.mk (HX2.out.below hb)
  have HY3 := As.mk (HY2.out.below hb)
  clear hpost hcase hb H0 HX HY H1 HX1 HY1 H2 HX2 HY2
  rcases HCX.out with hk1 | ⟨rfl, hn1, hcr, hax, hown1⟩
  · have e0 : (k1 != 0) = true := by simpa using hk1
    clear HCX HCY
    go_wp2
    go_ret
    exact ⟨rfl, HB3.out⟩
  rcases HCY.out with hk2 | ⟨rfl, hn2, hay, hown2⟩
  · have e0 : (k2 != 0) = true := by simpa using hk2
    clear HCX HCY hn1 hcr hax hown1
    go_wp2
    go_ret
    exact ⟨rfl, HB3.out⟩
  have HC := As.mk hcr
  have HSC := As.mk ((credB_iff s).1 hcr)
  have HAX := As.mk ((allR_iff X n).1 hax)
  have HAY := As.mk ((allR_iff Y n).1 hay)
  have e1 := hn1.symm
  subst e1
  have e2 := hn2.symm
  subst e2
  have hown1' := own_below hown1 HW3.out
  obtain ⟨g1, rfl, hg1, _, _⟩ := own_shape hown1' (by have := HN.out; omega)
  obtain ⟨g2, rfl, hg2, _, _⟩ := own_shape hown2 (by have := HN.out; omega)
  have HO1 := As.mk (fun j => chunk0 hown1' (heads_each key X n) j)
  have HO2 := As.mk (fun j => chunk0 hown2 (heads_each key Y n) j)
  clear HCX HCY hcr hax hay hown1 hown1' hown2 hg1 hg2 hn1 hn2
  go_wp2
  go_loopg [12, 71] n (fun kq v12 v71 wr => ∃ (i : Nat) (b : Bool), i + kq = n ∧ v12 = .bool b ∧ v71 = .int .i64 i ∧ As (eqL X Y i = b) ∧ As (Below w3.heap.size w3 wr))
  case atStart => exact ⟨0, true, by omega, rfl, rfl, ⟨rfl⟩, ⟨Below.refl _ _⟩⟩
  case round =>
    obtain ⟨i, b, hi, rfl, rfl, HEL, HBR⟩ := hrel
    have HI := As.mk hi
    clear hi
    by_cases hlt : i < n
    · have p0 : decide ((i : Int) < (n : Int)) = true := decide_eq_true (by omega)
      have p1 : decide (i < n) = true := decide_eq_true hlt
      have lt' : (i : Int) < (n : Int) := by omega
      have hw : wrap64 ((i : Int) + 1) = ((i + 1 : Nat) : Int) := wrap_up (by have := HN.out; omega)
      obtain ⟨ad, ea, h1⟩ := (HX3.out.below HBR.out).rows.at i hlt
      cases ea
      obtain ⟨ad2, eb, h2⟩ := (HY3.out.below HBR.out).rows.at i hlt
      cases eb
      have HXL := As.mk (HX3.out.len i hlt)
      have HYL := As.mk (HY3.out.len i hlt)
      have HES := As.mk (eqL_succ X Y i)
      obtain ⟨r, hr⟩ : ∃ r, X i = r := ⟨_, rfl⟩
      obtain ⟨r2, hr2⟩ : ∃ r, Y i = r := ⟨_, rfl⟩
      rw [hr] at h1 HXL HES
      rw [hr2] at h2 HYL HES
      have H1 := As.mk h1
      have H2 := As.mk h2
      have HLT := As.mk hlt
      have hq := fun W => rec_eq r r2 HXL.out HYL.out W
      obtain ⟨q, hqq⟩ : ∃ q, eqR r r2 = q := ⟨_, rfl⟩
      rw [hqq] at HES hq
      rw [HEL.out] at HES
      have VR : As ((r.map (Value.int .i64)).length = 6) := ⟨by rw [List.length_map, HXL.out]⟩
      have VR2 : As ((r2.map (Value.int .i64)).length = 6) := ⟨by rw [List.length_map, HYL.out]⟩
      clear hr hr2 h1 h2 hlt hqq
      cases b with
      | false =>
        go_wp2
        refine wp_region_quiet_lit (by kernel_rfl) (by kernel_rfl) ?_
        repeat (first | go_big_quiet_step (fail) | (go_big_quiet_want; (first | (fail)); (try simp only [Act.put, List.setIfInBounds_toArray, List.set_cons_zero, List.set_cons_succ, List.getElem_toArray, List.getElem_cons_zero, List.getElem_cons_succ]); go_big_quiet_on))
        refine wpQuiet_nil ?_
        intro _ hw'
        obtain ⟨nq, hw''⟩ := hw'
        subst hw''
        go_wp2
        go_roundg (n - (i + 1))
        case measure => have := HI.out; have := HLT.out; omega
        case rel => exact ⟨i + 1, false, by have := HI.out; have := HLT.out; omega, rfl, by go_num, ⟨HES.out⟩, ⟨below_drewN HBR.out _⟩⟩
      | true =>
        go_wp2
        refine wp_region_quiet_lit (by kernel_rfl) (by kernel_rfl) ?_
        repeat (first | go_big_quiet_step (fail) | (go_big_quiet_want; (first | (refine quiet_load_at 101 (.tmp 78) rfl (ad.add (i * 6)) rfl (r.map (Value.int .i64)) _ (fun i v hv => H1.out i v hv) Try.underlying101 rfl (by rw [VR.out]; exact info_rec) (recA r) rfl ?_) | (refine quiet_load_at 101 (.tmp 82) rfl (ad2.add (i * 6)) rfl (r2.map (Value.int .i64)) _ (fun i v hv => H2.out i v hv) Try.underlying101 rfl (by rw [VR2.out]; exact info_rec) (recA r2) rfl ?_)); (try simp only [Act.put, List.setIfInBounds_toArray, List.set_cons_zero, List.set_cons_succ, List.getElem_toArray, List.getElem_cons_zero, List.getElem_cons_succ]); go_big_quiet_on))
        refine wpQuiet_nil ?_
        intro _ hw'
        obtain ⟨nq, hw''⟩ := hw'
        subst hw''
        go_wp2
        go_roundg (n - (i + 1))
        case measure => have := HI.out; have := HLT.out; omega
        case rel => exact ⟨i + 1, q, by have := HI.out; have := HLT.out; omega, rfl, by go_num, ⟨by rw [HES.out]; simp⟩, ⟨below_drewN HBR.out _⟩⟩
    · have p0 : decide ((i : Int) < (n : Int)) = false := decide_eq_false (by omega)
      have p1 : decide (i < n) = false := decide_eq_false hlt
      obtain rfl : n = i := by have := HI.out; omega
      clear hlt
      obtain ⟨wx, rfl⟩ : ∃ wx, wx = wr := ⟨_, rfl⟩
      obtain ⟨m, hm⟩ : ∃ m, n = m + 1 := ⟨n - 1, by have := HN.out; omega⟩
      have HHE : As (eqL X Y n = true → headN key X n = headN key Y n) := ⟨heads_eqL key (fun j hj => HX3.out.len j hj) (fun j hj => HY3.out.len j hj)⟩
      have HNC := As.mk (no_cond key X Y n)
      have k1 : headN key X (m + 1) = headN key X n := by rw [hm]
      have k2 : headN key Y (m + 1) = headN key Y n := by rw [hm]
      have h5 := HO1.out m
      rw [heads_at key X n m (by omega), k1] at h5
      have h6 := HO2.out m
      rw [heads_at key Y n m (by omega), k2] at h6
      have HTL1 := As.mk (head_len key X n)
      have HTB1 := As.mk (head_byte key X n)
      have HTL2 := As.mk (head_len key Y n)
      have HTB2 := As.mk (head_byte key Y n)
      obtain ⟨T1, hT1⟩ : ∃ T, headN key X n = T := ⟨_, rfl⟩
      obtain ⟨T2, hT2⟩ : ∃ T, headN key Y n = T := ⟨_, rfl⟩
      rw [hT1] at h5 HTL1 HTB1 HHE HNC
      rw [hT2] at h6 HTL2 HTB2 HHE HNC
      rw [HEL.out] at HHE HNC
      have HC1 := As.mk (cells_below h5 HBR.out)
      have HC2 := As.mk (cells_below h6 HBR.out)
      have hq := fun W => eq32 T1 T2 HTL1.out HTL2.out HTB1.out HTB2.out W
      obtain ⟨p, hp⟩ : ∃ p, decide (T1 = T2) = p := ⟨_, rfl⟩
      have HPP := As.mk hp
      rw [hp] at hq
      have VT1 : As ((T1.map (Value.int .u8)).length = 32) := ⟨by rw [List.length_map]; exact HTL1.out⟩
      have VT2 : As ((T2.map (Value.int .u8)).length = 32) := ⟨by rw [List.length_map]; exact HTL2.out⟩
      have f1 : wrap64 ((n : Int) - 1) = (m : Int) := by unfold wrap64; have := HN.out; omega
      have f3 : IntKind.i64.wrap ((n : Int) - 1) = (m : Int) := by rw [IntKind.wrap_i64]; have := HN.out; omega
      have f2 : (m : Int) < (n : Int) := by omega
      have f4 : m < n := by omega
      have HM := As.mk hm
      clear k1 k2 h5 h6 hT1 hT2 hp hm
      cases b with
      | true =>
        obtain rfl : p = true := by rw [← HPP.out]; exact decide_eq_true (HHE.out rfl)
        go_wp2
        refine wp_region_quiet_lit (by kernel_rfl) (by kernel_rfl) ?_
        repeat (first | go_big_quiet_step (fail) | (go_big_quiet_want; (first | (fail)); (try simp only [Act.put, List.setIfInBounds_toArray, List.set_cons_zero, List.set_cons_succ, List.getElem_toArray, List.getElem_cons_zero, List.getElem_cons_succ]); go_big_quiet_on))
        refine wpQuiet_nil ?_
        intro _ hw'
        obtain ⟨nq, hw''⟩ := hw'
        subst hw''
        go_wp2
        refine wp_region_quiet_lit (by kernel_rfl) (by kernel_rfl) ?_
        repeat (first | go_big_quiet_step (fail) | (go_big_quiet_want; (first | (refine quiet_load_at 102 (.tmp 105) rfl ⟨g1, m * 32, none⟩ rfl (T1.map (Value.int .u8)) _ (fun i v hv => HC1.out i v hv) uArr32 rfl (by rw [VT1.out]; exact arr_info) (bytesA T1) rfl ?_) | (refine quiet_load_at 102 (.tmp 110) rfl ⟨g2, m * 32, none⟩ rfl (T2.map (Value.int .u8)) _ (fun i v hv => HC2.out i v hv) uArr32 rfl (by rw [VT2.out]; exact arr_info) (bytesA T2) rfl ?_)); (try simp only [Act.put, List.setIfInBounds_toArray, List.set_cons_zero, List.set_cons_succ, List.getElem_toArray, List.getElem_cons_zero, List.getElem_cons_succ]); go_big_quiet_on))
        refine wpQuiet_nil ?_
        intro _ hw'
        obtain ⟨nq, hw''⟩ := hw'
        subst hw''
        go_wp2
        go_ret
        exact ⟨rfl, below_drewN (below_drewN (below_step HB3.out HBR.out) _) _⟩
      | false =>
        cases p with
        | false =>
          go_wp2
          refine wp_region_quiet_lit (by kernel_rfl) (by kernel_rfl) ?_
          repeat (first | go_big_quiet_step (fail) | (go_big_quiet_want; (first | (refine quiet_load_at 102 (.tmp 92) rfl ⟨g1, m * 32, none⟩ rfl (T1.map (Value.int .u8)) _ (fun i v hv => HC1.out i v hv) uArr32 rfl (by rw [VT1.out]; exact arr_info) (bytesA T1) rfl ?_) | (refine quiet_load_at 102 (.tmp 97) rfl ⟨g2, m * 32, none⟩ rfl (T2.map (Value.int .u8)) _ (fun i v hv => HC2.out i v hv) uArr32 rfl (by rw [VT2.out]; exact arr_info) (bytesA T2) rfl ?_)); (try simp only [Act.put, List.setIfInBounds_toArray, List.set_cons_zero, List.set_cons_succ, List.getElem_toArray, List.getElem_cons_zero, List.getElem_cons_succ]); go_big_quiet_on))
          refine wpQuiet_nil ?_
          intro _ hw'
          obtain ⟨nq, hw''⟩ := hw'
          subst hw''
          go_wp2
          refine wp_region_quiet_lit (by kernel_rfl) (by kernel_rfl) ?_
          repeat (first | go_big_quiet_step (fail) | (go_big_quiet_want; (first | (refine quiet_load_at 102 (.tmp 105) rfl ⟨g1, m * 32, none⟩ rfl (T1.map (Value.int .u8)) _ (fun i v hv => HC1.out i v hv) uArr32 rfl (by rw [VT1.out]; exact arr_info) (bytesA T1) rfl ?_) | (refine quiet_load_at 102 (.tmp 110) rfl ⟨g2, m * 32, none⟩ rfl (T2.map (Value.int .u8)) _ (fun i v hv => HC2.out i v hv) uArr32 rfl (by rw [VT2.out]; exact arr_info) (bytesA T2) rfl ?_)); (try simp only [Act.put, List.setIfInBounds_toArray, List.set_cons_zero, List.set_cons_succ, List.getElem_toArray, List.getElem_cons_zero, List.getElem_cons_succ]); go_big_quiet_on))
          refine wpQuiet_nil ?_
          intro _ hw'
          obtain ⟨nq, hw''⟩ := hw'
          subst hw''
          go_wp2
          go_ret
          exact ⟨rfl, below_drewN (below_drewN (below_step HB3.out HBR.out) _) _⟩
        | true =>
          have HNO : As ((∀ j, j < n → condB key X Y j = false) → False) := ⟨fun h => by
            have hTT : T1 = T2 := by have := HPP.out; simpa using this
            have := HNC.out h hTT
            cases this⟩
          clear HPP HHE HNC
          go_wp2
          refine wp_region_quiet_lit (by kernel_rfl) (by kernel_rfl) ?_
          repeat (first | go_big_quiet_step (fail) | (go_big_quiet_want; (first | (refine quiet_load_at 102 (.tmp 92) rfl ⟨g1, m * 32, none⟩ rfl (T1.map (Value.int .u8)) _ (fun i v hv => HC1.out i v hv) uArr32 rfl (by rw [VT1.out]; exact arr_info) (bytesA T1) rfl ?_) | (refine quiet_load_at 102 (.tmp 97) rfl ⟨g2, m * 32, none⟩ rfl (T2.map (Value.int .u8)) _ (fun i v hv => HC2.out i v hv) uArr32 rfl (by rw [VT2.out]; exact arr_info) (bytesA T2) rfl ?_)); (try simp only [Act.put, List.setIfInBounds_toArray, List.set_cons_zero, List.set_cons_succ, List.getElem_toArray, List.getElem_cons_zero, List.getElem_cons_succ]); go_big_quiet_on))
          refine wpQuiet_nil ?_
          intro _ hw'
          obtain ⟨nq, hw''⟩ := hw'
          subst hw''
          go_wp2
          have HBX := As.mk (below_drewN HBR.out nq)
          clear HC1 HC2 VT1 VT2 HTL1 HTB1 HTL2 HTB2 f1 f2 f3 f4 hq HM
          go_loopg [116] n (fun kq v116 wr => ∃ (i : Nat), i + kq = n ∧ v116 = .int .i64 i ∧ As (∀ j, j < i → condB key X Y j = false) ∧ As (Below w3.heap.size w3 wr))
          case atStart => exact ⟨0, by omega, rfl, ⟨fun j hj => by omega⟩, HBX⟩
          case round =>
            obtain ⟨i, hi, rfl, HND, HBR2⟩ := hrel
            have HI := As.mk hi
            clear hi
            by_cases hlt : i < n
            · have p0 : decide ((i : Int) < (n : Int)) = true := decide_eq_true (by omega)
              have p1 : decide (i < n) = true := decide_eq_true hlt
              have lt' : (i : Int) < (n : Int) := by omega
              have hw : wrap64 ((i : Int) + 1) = ((i + 1 : Nat) : Int) := wrap_up (by have := HN.out; omega)
              obtain ⟨ad, ea, h1⟩ := HX3.out.rows.at i hlt
              cases ea
              obtain ⟨ad2, eb, h2⟩ := HY3.out.rows.at i hlt
              cases eb
              have HXL := As.mk (HX3.out.len i hlt)
              have HYL := As.mk (HY3.out.len i hlt)
              have HOK := As.mk ((rightR_iff _).1 (HAX.out i hlt))
              have HOK2 := As.mk ((rightR_iff _).1 (HAY.out i hlt))
              have HL1 := As.mk (head_succ key X i).symm
              have HL2 := As.mk (head_succ key Y i).symm
              have HPL := As.mk (head_len key X i)
              have HPB := As.mk (head_byte key X i)
              have HQL := As.mk (head_len key Y i)
              have HQB := As.mk (head_byte key Y i)
              have HLL1 := As.mk (head_len key X (i + 1))
              have HLB1 := As.mk (head_byte key X (i + 1))
              have HLL2 := As.mk (head_len key Y (i + 1))
              have HLB2 := As.mk (head_byte key Y (i + 1))
              have HCB : As (condB key X Y i = ((!decide (headN key X i = headN key Y i) || !eqR (X i) (Y i)) && decide (headN key X (i + 1) = headN key Y (i + 1)))) := ⟨rfl⟩
              obtain ⟨r, hr⟩ : ∃ r, X i = r := ⟨_, rfl⟩
              obtain ⟨r2, hr2⟩ : ∃ r, Y i = r := ⟨_, rfl⟩
              obtain ⟨p, hp⟩ : ∃ p, headN key X i = p := ⟨_, rfl⟩
              obtain ⟨q, hq⟩ : ∃ q, headN key Y i = q := ⟨_, rfl⟩
              obtain ⟨L1, hL1⟩ : ∃ p, headN key X (i + 1) = p := ⟨_, rfl⟩
              obtain ⟨L2, hL2⟩ : ∃ p, headN key Y (i + 1) = p := ⟨_, rfl⟩
              rw [hr] at h1 HXL HOK HL1 HCB
              rw [hr2] at h2 HYL HOK2 HL2 HCB
              rw [hp] at HL1 HPL HPB HCB
              rw [hq] at HL2 HQL HQB HCB
              rw [hL1] at HL1 HLL1 HLB1 HCB
              rw [hL2] at HL2 HLL2 HLB2 HCB
              have H1 := As.mk h1
              have H2 := As.mk h2
              have HLT := As.mk hlt
              have HPE := As.mk hp
              have HQE := As.mk hq
              have hqe := fun W => rec_eq r r2 HXL.out HYL.out W
              have hqp := fun W => eq32 p q HPL.out HQL.out HPB.out HQB.out W
              have hqL := fun W => eq32 L1 L2 HLL1.out HLL2.out HLB1.out HLB2.out W
              obtain ⟨e, he⟩ : ∃ e, eqR r r2 = e := ⟨_, rfl⟩
              obtain ⟨dp, hdp⟩ : ∃ e, decide (p = q) = e := ⟨_, rfl⟩
              obtain ⟨mm, hmm⟩ : ∃ e, decide (L1 = L2) = e := ⟨_, rfl⟩
              rw [he] at hqe HCB
              rw [hdp] at hqp HCB
              rw [hmm] at hqL HCB
              have VP : As ((p.map (Value.int .u8)).length = 32) := ⟨by rw [List.length_map]; exact HPL.out⟩
              have VQ : As ((q.map (Value.int .u8)).length = 32) := ⟨by rw [List.length_map]; exact HQL.out⟩
              have VP2 := As.mk (bytesA32 HPL.out)
              have VQ2 := As.mk (bytesA32 HQL.out)
              have VR : As ((r.map (Value.int .i64)).length = 6) := ⟨by rw [List.length_map, HXL.out]⟩
              have VR2 : As ((r2.map (Value.int .i64)).length = 6) := ⟨by rw [List.length_map, HYL.out]⟩
              clear hr hr2 hp hq hL1 hL2 h1 h2 hlt he hdp hmm
              go_wp2_with (refine wpList_allocArr rfl 102 rfl Z32 Go.Proofs.Ytjcofbjfolaoiaa.Sum.z32 ?_; refine As.out ?_)
              refine As.mk ?_
              have hb := below_alloc (Below.refl wr.heap.size wr) (.cells Z32 102)
              have HB4 := As.mk (below_step HBR2.out hb)
              have HA4 := As.mk (heap_alloc_new wr (.cells Z32 102))
              have HL4 := As.mk (show w3.heap.size ≤ wr.heap.size from HBR2.out.size)
              clear hb
              generalize wr.alloc (.cells Z32 102) = w4 at *
              generalize wr.heap.size = g15 at *
              go_wp2_with (refine wpList_allocArr rfl 102 rfl Z32 Go.Proofs.Ytjcofbjfolaoiaa.Sum.z32 ?_; refine As.out ?_)
              refine As.mk ?_
              have hb := below_alloc (Below.refl w4.heap.size w4) (.cells Z32 102)
              have HB5 := As.mk (below_step HB4.out hb)
              have HA5 := As.mk ((hb.block _ (Array.getElem?_eq_some_iff.1 HA4.out).1).trans HA4.out)
              have HG5 := As.mk (heap_alloc_new w4 (.cells Z32 102))
              have HL5 := As.mk (Array.getElem?_eq_some_iff.1 HA4.out).1
              clear hb HA4 HB4
              generalize w4.alloc (.cells Z32 102) = w5 at *
              generalize w4.heap.size = g16 at *
              by_cases hz : i = 0
              · have z0 : decide ((0 : Int) < (i : Int)) = false := decide_eq_false (by omega)
                have z1 : decide (0 < i) = false := decide_eq_false (by omega)
                have hpz : p = Go.Proofs.Ytjcofbjfolaoiaa.Admin.z32 := by rw [← HPE.out, hz]; rfl
                have hqz : q = Go.Proofs.Ytjcofbjfolaoiaa.Admin.z32 := by rw [← HQE.out, hz]; rfl
                have hA : w5.heap[g15]? = some (.cells (bytesA p) 102 (0, 0)) := by rw [hpz, z32_bytes]; exact HA5.out
                have hG : w5.heap[g16]? = some (.cells (bytesA q) 102 (0, 0)) := by rw [hqz, z32_bytes]; exact HG5.out
                have HCP : As (∀ i v, (p.map (Value.int .u8))[i]? = some v → w5.cell? ((⟨g15, 0, none⟩ : Addr).add i) = some v) := ⟨row_cells hA⟩
                have HCQ : As (∀ i v, (q.map (Value.int .u8))[i]? = some v → w5.cell? ((⟨g16, 0, none⟩ : Addr).add i) = some v) := ⟨row_cells hG⟩
                have HBz := HB5
                have HCR := As.mk (cells_below H1.out HB5.out)
                have HCS := As.mk (cells_below H2.out HB5.out)
                clear hz hpz hqz hA hG HPE HQE HL4 HL5 HA5 HG5 HB5 H1 H2
                obtain ⟨wz, rfl⟩ : ∃ wz, wz = w5 := ⟨_, rfl⟩
                cases dp with
                | true =>
                  cases e with
                  | true =>
                    go_wp2
                    refine wp_region_quiet_lit (by kernel_rfl) (by kernel_rfl) ?_
                    repeat (first | go_big_quiet_step (fail) | (go_big_quiet_want; (first | (refine quiet_load_at 102 (.tmp 15) rfl ⟨g15, 0, none⟩ rfl (p.map (Value.int .u8)) _ (fun i v hv => HCP.out i v hv) uArr32 rfl (by rw [VP.out]; exact arr_info) (bytesA p) rfl ?_) | (refine quiet_load_at 102 (.tmp 16) rfl ⟨g16, 0, none⟩ rfl (q.map (Value.int .u8)) _ (fun i v hv => HCQ.out i v hv) uArr32 rfl (by rw [VQ.out]; exact arr_info) (bytesA q) rfl ?_) | (refine quiet_load_at 101 (.tmp 137) rfl (ad.add (i * 6)) rfl (r.map (Value.int .i64)) _ (fun i v hv => HCR.out i v hv) Try.underlying101 rfl (by rw [VR.out]; exact info_rec) (recA r) rfl ?_) | (refine quiet_load_at 101 (.tmp 141) rfl (ad2.add (i * 6)) rfl (r2.map (Value.int .i64)) _ (fun i v hv => HCS.out i v hv) Try.underlying101 rfl (by rw [VR2.out]; exact info_rec) (recA r2) rfl ?_)); (try simp only [Act.put, List.setIfInBounds_toArray, List.set_cons_zero, List.set_cons_succ, List.getElem_toArray, List.getElem_cons_zero, List.getElem_cons_succ]); go_big_quiet_on))
                    refine wpQuiet_nil ?_
                    intro _ hw'
                    obtain ⟨nq, hw''⟩ := hw'
                    subst hw''
                    go_wp2
                    go_roundg (n - (i + 1))
                    case measure => have := HI.out; have := HLT.out; omega
                    case rel =>
                      refine ⟨i + 1, by have := HI.out; have := HLT.out; omega, by go_num, ⟨fun j hj => ?_⟩, ⟨(below_drewN HBz.out nq)⟩⟩
                      rcases Nat.lt_succ_iff_lt_or_eq.1 hj with h | rfl
                      · exact HND.out j h
                      · rw [HCB.out]; rfl
                  | false =>
                    cases mm with
                    | true =>
                      go_wp2
                      refine wp_region_held_drew (S := fun W : World => Below wz.heap.size wz W) (by kernel_rfl) (below_drewN (Below.refl wz.heap.size wz) 1) (fun hHeld => ?_)
                      refine wpAnyH_take (i := 0) (v := .agg (bytesA p)) rfl (by kernel_rfl) (by kernel_rfl) (by kernel_rfl) (fun _ _ _ h => h) (yieldsIf_load_at (by rfl) 102 _ rfl ⟨g15, 0, none⟩ rfl (p.map (Value.int .u8)) _ (fun W hW i v hv => cells_below HCP.out hW i v hv) uArr32 rfl (by rw [VP.out]; exact arr_info) (bytesA p) rfl) hHeld ?_
                      try simp only [Act.put, List.setIfInBounds_toArray, List.set_cons_zero, List.set_cons_succ, List.getElem_toArray, List.getElem_cons_zero, List.getElem_cons_succ]
                      refine wpAnyH_take (i := 1) (v := .agg (bytesA q)) rfl (by kernel_rfl) (by kernel_rfl) (by kernel_rfl) (fun _ _ _ h => h) (yieldsIf_load_at (by rfl) 102 _ rfl ⟨g16, 0, none⟩ rfl (q.map (Value.int .u8)) _ (fun W hW i v hv => cells_below HCQ.out hW i v hv) uArr32 rfl (by rw [VQ.out]; exact arr_info) (bytesA q) rfl) hHeld ?_
                      try simp only [Act.put, List.setIfInBounds_toArray, List.set_cons_zero, List.set_cons_succ, List.getElem_toArray, List.getElem_cons_zero, List.getElem_cons_succ]
                      refine wpAnyH_take (i := 2) (v := .bool false) rfl (by kernel_rfl) (by kernel_rfl) (by kernel_rfl) (fun _ _ _ h => h) (Or.inl ⟨by rfl, fun W hW => by go_simp⟩) hHeld ?_
                      try simp only [Act.put, List.setIfInBounds_toArray, List.set_cons_zero, List.set_cons_succ, List.getElem_toArray, List.getElem_cons_zero, List.getElem_cons_succ]
                      refine wpAnyH_take (i := 3) (v := .bool false) rfl (by kernel_rfl) (by kernel_rfl) (by kernel_rfl) (fun _ _ _ h => h) (Or.inl ⟨by rfl, fun W hW => by go_simp⟩) hHeld ?_
                      try simp only [Act.put, List.setIfInBounds_toArray, List.set_cons_zero, List.set_cons_succ, List.getElem_toArray, List.getElem_cons_zero, List.getElem_cons_succ]
                      refine wpAnyH_take (i := 4) (v := .slice (some ad) n d) rfl (by kernel_rfl) (by kernel_rfl) (by kernel_rfl) (fun _ _ _ h => h) (Or.inl ⟨by rfl, fun W hW => by go_simp⟩) hHeld ?_
                      try simp only [Act.put, List.setIfInBounds_toArray, List.set_cons_zero, List.set_cons_succ, List.getElem_toArray, List.getElem_cons_zero, List.getElem_cons_succ]
                      refine wpAnyH_take (i := 5) (v := .int .i64 (i : Int)) rfl (by kernel_rfl) (by kernel_rfl) (by kernel_rfl) (fun _ _ _ h => h) (Or.inl ⟨by rfl, fun W hW => by go_simp⟩) hHeld ?_
                      try simp only [Act.put, List.setIfInBounds_toArray, List.set_cons_zero, List.set_cons_succ, List.getElem_toArray, List.getElem_cons_zero, List.getElem_cons_succ]
                      refine wpAnyH_take (i := 6) (v := .pointer (some (ad.add (i * 6)))) rfl (by kernel_rfl) (by kernel_rfl) (by kernel_rfl) (fun _ _ _ h => h) (Or.inl ⟨by rfl, fun W hW => by go_simp⟩) hHeld ?_
                      try simp only [Act.put, List.setIfInBounds_toArray, List.set_cons_zero, List.set_cons_succ, List.getElem_toArray, List.getElem_cons_zero, List.getElem_cons_succ]
                      refine wpAnyH_take (i := 7) (v := .agg (recA r)) rfl (by kernel_rfl) (by kernel_rfl) (by kernel_rfl) (fun _ _ _ h => h) (yieldsIf_load_at (by rfl) 101 _ rfl (ad.add (i * 6)) rfl (r.map (Value.int .i64)) _ (fun W hW i v hv => cells_below HCR.out hW i v hv) Try.underlying101 rfl (by rw [VR.out]; exact info_rec) (recA r) rfl) hHeld ?_
                      try simp only [Act.put, List.setIfInBounds_toArray, List.set_cons_zero, List.set_cons_succ, List.getElem_toArray, List.getElem_cons_zero, List.getElem_cons_succ]
                      refine wpAnyH_take (i := 8) (v := .slice (some ad2) n f) rfl (by kernel_rfl) (by kernel_rfl) (by kernel_rfl) (fun _ _ _ h => h) (Or.inl ⟨by rfl, fun W hW => by go_simp⟩) hHeld ?_
                      try simp only [Act.put, List.setIfInBounds_toArray, List.set_cons_zero, List.set_cons_succ, List.getElem_toArray, List.getElem_cons_zero, List.getElem_cons_succ]
                      refine wpAnyH_take (i := 9) (v := .int .i64 (i : Int)) rfl (by kernel_rfl) (by kernel_rfl) (by kernel_rfl) (fun _ _ _ h => h) (Or.inl ⟨by rfl, fun W hW => by go_simp⟩) hHeld ?_
                      try simp only [Act.put, List.setIfInBounds_toArray, List.set_cons_zero, List.set_cons_succ, List.getElem_toArray, List.getElem_cons_zero, List.getElem_cons_succ]
                      refine wpAnyH_take (i := 10) (v := .pointer (some (ad2.add (i * 6)))) rfl (by kernel_rfl) (by kernel_rfl) (by kernel_rfl) (fun _ _ _ h => h) (Or.inl ⟨by rfl, fun W hW => by go_simp⟩) hHeld ?_
                      try simp only [Act.put, List.setIfInBounds_toArray, List.set_cons_zero, List.set_cons_succ, List.getElem_toArray, List.getElem_cons_zero, List.getElem_cons_succ]
                      refine wpAnyH_take (i := 11) (v := .agg (recA r2)) rfl (by kernel_rfl) (by kernel_rfl) (by kernel_rfl) (fun _ _ _ h => h) (yieldsIf_load_at (by rfl) 101 _ rfl (ad2.add (i * 6)) rfl (r2.map (Value.int .i64)) _ (fun W hW i v hv => cells_below HCS.out hW i v hv) Try.underlying101 rfl (by rw [VR2.out]; exact info_rec) (recA r2) rfl) hHeld ?_
                      try simp only [Act.put, List.setIfInBounds_toArray, List.set_cons_zero, List.set_cons_succ, List.getElem_toArray, List.getElem_cons_zero, List.getElem_cons_succ]
                      refine wpAnyH_take (i := 12) (v := .bool true) rfl (by kernel_rfl) (by kernel_rfl) (by kernel_rfl) (fun _ _ _ h => h) (Or.inl ⟨by rfl, fun W hW => by go_simp⟩) hHeld ?_
                      try simp only [Act.put, List.setIfInBounds_toArray, List.set_cons_zero, List.set_cons_succ, List.getElem_toArray, List.getElem_cons_zero, List.getElem_cons_succ]
                      refine wpAnyH_take (i := 13) (v := .bool true) rfl (by kernel_rfl) (by kernel_rfl) (by kernel_rfl) (fun _ _ _ h => h) (Or.inl ⟨by rfl, fun W hW => by go_simp⟩) hHeld ?_
                      try simp only [Act.put, List.setIfInBounds_toArray, List.set_cons_zero, List.set_cons_succ, List.getElem_toArray, List.getElem_cons_zero, List.getElem_cons_succ]
                      refine wpAnyH_take (i := 14) (v := .bool true) rfl (by kernel_rfl) (by kernel_rfl) (by kernel_rfl) (fun _ _ _ h => h) (Or.inl ⟨by rfl, fun W hW => by go_simp⟩) hHeld ?_
                      try simp only [Act.put, List.setIfInBounds_toArray, List.set_cons_zero, List.set_cons_succ, List.getElem_toArray, List.getElem_cons_zero, List.getElem_cons_succ]
                      refine wpAnyH_take (i := 15) (v := .slice A s c) rfl (by kernel_rfl) (by kernel_rfl) (by kernel_rfl) (fun _ _ _ h => h) (Or.inl ⟨by rfl, fun W hW => by go_simp⟩) hHeld ?_
                      try simp only [Act.put, List.setIfInBounds_toArray, List.set_cons_zero, List.set_cons_succ, List.getElem_toArray, List.getElem_cons_zero, List.getElem_cons_succ]
                      refine wpAnyH_take (i := 16) (v := .agg (bytesA p)) rfl (by kernel_rfl) (by kernel_rfl) (by kernel_rfl) (fun _ _ _ h => h) (yieldsIf_load_at (by rfl) 102 _ rfl ⟨g15, 0, none⟩ rfl (p.map (Value.int .u8)) _ (fun W hW i v hv => cells_below HCP.out hW i v hv) uArr32 rfl (by rw [VP.out]; exact arr_info) (bytesA p) rfl) hHeld ?_
                      try simp only [Act.put, List.setIfInBounds_toArray, List.set_cons_zero, List.set_cons_succ, List.getElem_toArray, List.getElem_cons_zero, List.getElem_cons_succ]
                      refine wpAnyH_take (i := 17) (v := .slice (some ad) n d) rfl (by kernel_rfl) (by kernel_rfl) (by kernel_rfl) (fun _ _ _ h => h) (Or.inl ⟨by rfl, fun W hW => by go_simp⟩) hHeld ?_
                      try simp only [Act.put, List.setIfInBounds_toArray, List.set_cons_zero, List.set_cons_succ, List.getElem_toArray, List.getElem_cons_zero, List.getElem_cons_succ]
                      refine wpAnyH_take (i := 18) (v := .int .i64 (i : Int)) rfl (by kernel_rfl) (by kernel_rfl) (by kernel_rfl) (fun _ _ _ h => h) (Or.inl ⟨by rfl, fun W hW => by go_simp⟩) hHeld ?_
                      try simp only [Act.put, List.setIfInBounds_toArray, List.set_cons_zero, List.set_cons_succ, List.getElem_toArray, List.getElem_cons_zero, List.getElem_cons_succ]
                      refine wpAnyH_take (i := 19) (v := .pointer (some (ad.add (i * 6)))) rfl (by kernel_rfl) (by kernel_rfl) (by kernel_rfl) (fun _ _ _ h => h) (Or.inl ⟨by rfl, fun W hW => by go_simp⟩) hHeld ?_
                      try simp only [Act.put, List.setIfInBounds_toArray, List.set_cons_zero, List.set_cons_succ, List.getElem_toArray, List.getElem_cons_zero, List.getElem_cons_succ]
                      refine wpAnyH_take (i := 20) (v := .agg (recA r)) rfl (by kernel_rfl) (by kernel_rfl) (by kernel_rfl) (fun _ _ _ h => h) (yieldsIf_load_at (by rfl) 101 _ rfl (ad.add (i * 6)) rfl (r.map (Value.int .i64)) _ (fun W hW i v hv => cells_below HCR.out hW i v hv) Try.underlying101 rfl (by rw [VR.out]; exact info_rec) (recA r) rfl) hHeld ?_
                      try simp only [Act.put, List.setIfInBounds_toArray, List.set_cons_zero, List.set_cons_succ, List.getElem_toArray, List.getElem_cons_zero, List.getElem_cons_succ]
                      refine wpAnyH_take (i := 22) (v := .slice A s c) rfl (by kernel_rfl) (by kernel_rfl) (by kernel_rfl) (fun _ _ _ h => h) (Or.inl ⟨by rfl, fun W hW => by go_simp⟩) hHeld ?_
                      try simp only [Act.put, List.setIfInBounds_toArray, List.set_cons_zero, List.set_cons_succ, List.getElem_toArray, List.getElem_cons_zero, List.getElem_cons_succ]
                      refine wpAnyH_take (i := 23) (v := .agg (bytesA q)) rfl (by kernel_rfl) (by kernel_rfl) (by kernel_rfl) (fun _ _ _ h => h) (yieldsIf_load_at (by rfl) 102 _ rfl ⟨g16, 0, none⟩ rfl (q.map (Value.int .u8)) _ (fun W hW i v hv => cells_below HCQ.out hW i v hv) uArr32 rfl (by rw [VQ.out]; exact arr_info) (bytesA q) rfl) hHeld ?_
                      try simp only [Act.put, List.setIfInBounds_toArray, List.set_cons_zero, List.set_cons_succ, List.getElem_toArray, List.getElem_cons_zero, List.getElem_cons_succ]
                      refine wpAnyH_take (i := 24) (v := .slice (some ad2) n f) rfl (by kernel_rfl) (by kernel_rfl) (by kernel_rfl) (fun _ _ _ h => h) (Or.inl ⟨by rfl, fun W hW => by go_simp⟩) hHeld ?_
                      try simp only [Act.put, List.setIfInBounds_toArray, List.set_cons_zero, List.set_cons_succ, List.getElem_toArray, List.getElem_cons_zero, List.getElem_cons_succ]
                      refine wpAnyH_take (i := 25) (v := .int .i64 (i : Int)) rfl (by kernel_rfl) (by kernel_rfl) (by kernel_rfl) (fun _ _ _ h => h) (Or.inl ⟨by rfl, fun W hW => by go_simp⟩) hHeld ?_
                      try simp only [Act.put, List.setIfInBounds_toArray, List.set_cons_zero, List.set_cons_succ, List.getElem_toArray, List.getElem_cons_zero, List.getElem_cons_succ]
                      refine wpAnyH_take (i := 26) (v := .pointer (some (ad2.add (i * 6)))) rfl (by kernel_rfl) (by kernel_rfl) (by kernel_rfl) (fun _ _ _ h => h) (Or.inl ⟨by rfl, fun W hW => by go_simp⟩) hHeld ?_
                      try simp only [Act.put, List.setIfInBounds_toArray, List.set_cons_zero, List.set_cons_succ, List.getElem_toArray, List.getElem_cons_zero, List.getElem_cons_succ]
                      refine wpAnyH_take (i := 27) (v := .agg (recA r2)) rfl (by kernel_rfl) (by kernel_rfl) (by kernel_rfl) (fun _ _ _ h => h) (yieldsIf_load_at (by rfl) 101 _ rfl (ad2.add (i * 6)) rfl (r2.map (Value.int .i64)) _ (fun W hW i v hv => cells_below HCS.out hW i v hv) Try.underlying101 rfl (by rw [VR2.out]; exact info_rec) (recA r2) rfl) hHeld ?_
                      try simp only [Act.put, List.setIfInBounds_toArray, List.set_cons_zero, List.set_cons_succ, List.getElem_toArray, List.getElem_cons_zero, List.getElem_cons_succ]
                      refine wpAnyH_ready (rs := [21]) (by kernel_rfl) (by simp) (AllReadyH.cons rfl (fun K' hK => ?_) AllReadyH.nil)
                      go_simp
                      refine (rnext_ok key HK.out A s c (by have := HSC.out; omega) p HPL.out HPB.out r HXL.out HOK.out _ (H3.out.below (below_drewN HBz.out 1)) L1 HL1.out).mono ?_
                      rintro e wu ⟨rfl, hbu⟩
                      have HBu := As.mk (below_step (below_drewN (Below.refl wz.heap.size wz) 1) hbu)
                      clear hbu
                      refine hK.out _ _ HBu.out (fun hHeld => ?_)
                      clear hK
                      try simp only [Act.put, List.setIfInBounds_toArray, List.set_cons_zero, List.set_cons_succ, List.getElem_toArray, List.getElem_cons_zero, List.getElem_cons_succ]
                      refine wpAnyH_ready (rs := [28]) (by kernel_rfl) (by simp) (AllReadyH.cons rfl (fun K' hK => ?_) AllReadyH.nil)
                      go_simp
                      refine (rnext_ok key HK.out A s c (by have := HSC.out; omega) q HQL.out HQB.out r2 HYL.out HOK2.out _ (H3.out.below (below_step HBz.out HBu.out)) L2 HL2.out).mono ?_
                      rintro e wv ⟨rfl, hbv⟩
                      have HBv := As.mk (below_step HBu.out hbv)
                      clear hbv
                      refine hK.out _ _ HBv.out (fun hHeld => ?_)
                      clear hK
                      try simp only [Act.put, List.setIfInBounds_toArray, List.set_cons_zero, List.set_cons_succ, List.getElem_toArray, List.getElem_cons_zero, List.getElem_cons_succ]
                      refine wpAnyH_take (i := 29) (v := .bool true) rfl (by kernel_rfl) (by kernel_rfl) (by kernel_rfl) (fun _ _ _ h => h) (Or.inl ⟨by rfl, fun W hW => by go_simp⟩) hHeld ?_
                      try simp only [Act.put, List.setIfInBounds_toArray, List.set_cons_zero, List.set_cons_succ, List.getElem_toArray, List.getElem_cons_zero, List.getElem_cons_succ]
                      refine wpAnyH_take (i := 30) (v := .bool true) rfl (by kernel_rfl) (by kernel_rfl) (by kernel_rfl) (fun _ _ _ h => h) (Or.inl ⟨by rfl, fun W hW => by go_simp⟩) hHeld ?_
                      try simp only [Act.put, List.setIfInBounds_toArray, List.set_cons_zero, List.set_cons_succ, List.getElem_toArray, List.getElem_cons_zero, List.getElem_cons_succ]
                      refine wpAnyH_done (by kernel_rfl) ?_ _
                      go_wp2
                      go_ret
                      exact ⟨rfl, below_step HB3.out (below_step HBz.out HBv.out)⟩
                    | false =>
                      go_wp2
                      refine wp_region_held_drew (S := fun W : World => Below wz.heap.size wz W) (by kernel_rfl) (below_drewN (Below.refl wz.heap.size wz) 1) (fun hHeld => ?_)
                      refine wpAnyH_take (i := 0) (v := .agg (bytesA p)) rfl (by kernel_rfl) (by kernel_rfl) (by kernel_rfl) (fun _ _ _ h => h) (yieldsIf_load_at (by rfl) 102 _ rfl ⟨g15, 0, none⟩ rfl (p.map (Value.int .u8)) _ (fun W hW i v hv => cells_below HCP.out hW i v hv) uArr32 rfl (by rw [VP.out]; exact arr_info) (bytesA p) rfl) hHeld ?_
                      try simp only [Act.put, List.setIfInBounds_toArray, List.set_cons_zero, List.set_cons_succ, List.getElem_toArray, List.getElem_cons_zero, List.getElem_cons_succ]
                      refine wpAnyH_take (i := 1) (v := .agg (bytesA q)) rfl (by kernel_rfl) (by kernel_rfl) (by kernel_rfl) (fun _ _ _ h => h) (yieldsIf_load_at (by rfl) 102 _ rfl ⟨g16, 0, none⟩ rfl (q.map (Value.int .u8)) _ (fun W hW i v hv => cells_below HCQ.out hW i v hv) uArr32 rfl (by rw [VQ.out]; exact arr_info) (bytesA q) rfl) hHeld ?_
                      try simp only [Act.put, List.setIfInBounds_toArray, List.set_cons_zero, List.set_cons_succ, List.getElem_toArray, List.getElem_cons_zero, List.getElem_cons_succ]
                      refine wpAnyH_take (i := 2) (v := .bool false) rfl (by kernel_rfl) (by kernel_rfl) (by kernel_rfl) (fun _ _ _ h => h) (Or.inl ⟨by rfl, fun W hW => by go_simp⟩) hHeld ?_
                      try simp only [Act.put, List.setIfInBounds_toArray, List.set_cons_zero, List.set_cons_succ, List.getElem_toArray, List.getElem_cons_zero, List.getElem_cons_succ]
                      refine wpAnyH_take (i := 3) (v := .bool false) rfl (by kernel_rfl) (by kernel_rfl) (by kernel_rfl) (fun _ _ _ h => h) (Or.inl ⟨by rfl, fun W hW => by go_simp⟩) hHeld ?_
                      try simp only [Act.put, List.setIfInBounds_toArray, List.set_cons_zero, List.set_cons_succ, List.getElem_toArray, List.getElem_cons_zero, List.getElem_cons_succ]
                      refine wpAnyH_take (i := 4) (v := .slice (some ad) n d) rfl (by kernel_rfl) (by kernel_rfl) (by kernel_rfl) (fun _ _ _ h => h) (Or.inl ⟨by rfl, fun W hW => by go_simp⟩) hHeld ?_
                      try simp only [Act.put, List.setIfInBounds_toArray, List.set_cons_zero, List.set_cons_succ, List.getElem_toArray, List.getElem_cons_zero, List.getElem_cons_succ]
                      refine wpAnyH_take (i := 5) (v := .int .i64 (i : Int)) rfl (by kernel_rfl) (by kernel_rfl) (by kernel_rfl) (fun _ _ _ h => h) (Or.inl ⟨by rfl, fun W hW => by go_simp⟩) hHeld ?_
                      try simp only [Act.put, List.setIfInBounds_toArray, List.set_cons_zero, List.set_cons_succ, List.getElem_toArray, List.getElem_cons_zero, List.getElem_cons_succ]
                      refine wpAnyH_take (i := 6) (v := .pointer (some (ad.add (i * 6)))) rfl (by kernel_rfl) (by kernel_rfl) (by kernel_rfl) (fun _ _ _ h => h) (Or.inl ⟨by rfl, fun W hW => by go_simp⟩) hHeld ?_
                      try simp only [Act.put, List.setIfInBounds_toArray, List.set_cons_zero, List.set_cons_succ, List.getElem_toArray, List.getElem_cons_zero, List.getElem_cons_succ]
                      refine wpAnyH_take (i := 7) (v := .agg (recA r)) rfl (by kernel_rfl) (by kernel_rfl) (by kernel_rfl) (fun _ _ _ h => h) (yieldsIf_load_at (by rfl) 101 _ rfl (ad.add (i * 6)) rfl (r.map (Value.int .i64)) _ (fun W hW i v hv => cells_below HCR.out hW i v hv) Try.underlying101 rfl (by rw [VR.out]; exact info_rec) (recA r) rfl) hHeld ?_
                      try simp only [Act.put, List.setIfInBounds_toArray, List.set_cons_zero, List.set_cons_succ, List.getElem_toArray, List.getElem_cons_zero, List.getElem_cons_succ]
                      refine wpAnyH_take (i := 8) (v := .slice (some ad2) n f) rfl (by kernel_rfl) (by kernel_rfl) (by kernel_rfl) (fun _ _ _ h => h) (Or.inl ⟨by rfl, fun W hW => by go_simp⟩) hHeld ?_
                      try simp only [Act.put, List.setIfInBounds_toArray, List.set_cons_zero, List.set_cons_succ, List.getElem_toArray, List.getElem_cons_zero, List.getElem_cons_succ]
                      refine wpAnyH_take (i := 9) (v := .int .i64 (i : Int)) rfl (by kernel_rfl) (by kernel_rfl) (by kernel_rfl) (fun _ _ _ h => h) (Or.inl ⟨by rfl, fun W hW => by go_simp⟩) hHeld ?_
                      try simp only [Act.put, List.setIfInBounds_toArray, List.set_cons_zero, List.set_cons_succ, List.getElem_toArray, List.getElem_cons_zero, List.getElem_cons_succ]
                      refine wpAnyH_take (i := 10) (v := .pointer (some (ad2.add (i * 6)))) rfl (by kernel_rfl) (by kernel_rfl) (by kernel_rfl) (fun _ _ _ h => h) (Or.inl ⟨by rfl, fun W hW => by go_simp⟩) hHeld ?_
                      try simp only [Act.put, List.setIfInBounds_toArray, List.set_cons_zero, List.set_cons_succ, List.getElem_toArray, List.getElem_cons_zero, List.getElem_cons_succ]
                      refine wpAnyH_take (i := 11) (v := .agg (recA r2)) rfl (by kernel_rfl) (by kernel_rfl) (by kernel_rfl) (fun _ _ _ h => h) (yieldsIf_load_at (by rfl) 101 _ rfl (ad2.add (i * 6)) rfl (r2.map (Value.int .i64)) _ (fun W hW i v hv => cells_below HCS.out hW i v hv) Try.underlying101 rfl (by rw [VR2.out]; exact info_rec) (recA r2) rfl) hHeld ?_
                      try simp only [Act.put, List.setIfInBounds_toArray, List.set_cons_zero, List.set_cons_succ, List.getElem_toArray, List.getElem_cons_zero, List.getElem_cons_succ]
                      refine wpAnyH_take (i := 12) (v := .bool true) rfl (by kernel_rfl) (by kernel_rfl) (by kernel_rfl) (fun _ _ _ h => h) (Or.inl ⟨by rfl, fun W hW => by go_simp⟩) hHeld ?_
                      try simp only [Act.put, List.setIfInBounds_toArray, List.set_cons_zero, List.set_cons_succ, List.getElem_toArray, List.getElem_cons_zero, List.getElem_cons_succ]
                      refine wpAnyH_take (i := 13) (v := .bool true) rfl (by kernel_rfl) (by kernel_rfl) (by kernel_rfl) (fun _ _ _ h => h) (Or.inl ⟨by rfl, fun W hW => by go_simp⟩) hHeld ?_
                      try simp only [Act.put, List.setIfInBounds_toArray, List.set_cons_zero, List.set_cons_succ, List.getElem_toArray, List.getElem_cons_zero, List.getElem_cons_succ]
                      refine wpAnyH_take (i := 14) (v := .bool true) rfl (by kernel_rfl) (by kernel_rfl) (by kernel_rfl) (fun _ _ _ h => h) (Or.inl ⟨by rfl, fun W hW => by go_simp⟩) hHeld ?_
                      try simp only [Act.put, List.setIfInBounds_toArray, List.set_cons_zero, List.set_cons_succ, List.getElem_toArray, List.getElem_cons_zero, List.getElem_cons_succ]
                      refine wpAnyH_take (i := 15) (v := .slice A s c) rfl (by kernel_rfl) (by kernel_rfl) (by kernel_rfl) (fun _ _ _ h => h) (Or.inl ⟨by rfl, fun W hW => by go_simp⟩) hHeld ?_
                      try simp only [Act.put, List.setIfInBounds_toArray, List.set_cons_zero, List.set_cons_succ, List.getElem_toArray, List.getElem_cons_zero, List.getElem_cons_succ]
                      refine wpAnyH_take (i := 16) (v := .agg (bytesA p)) rfl (by kernel_rfl) (by kernel_rfl) (by kernel_rfl) (fun _ _ _ h => h) (yieldsIf_load_at (by rfl) 102 _ rfl ⟨g15, 0, none⟩ rfl (p.map (Value.int .u8)) _ (fun W hW i v hv => cells_below HCP.out hW i v hv) uArr32 rfl (by rw [VP.out]; exact arr_info) (bytesA p) rfl) hHeld ?_
                      try simp only [Act.put, List.setIfInBounds_toArray, List.set_cons_zero, List.set_cons_succ, List.getElem_toArray, List.getElem_cons_zero, List.getElem_cons_succ]
                      refine wpAnyH_take (i := 17) (v := .slice (some ad) n d) rfl (by kernel_rfl) (by kernel_rfl) (by kernel_rfl) (fun _ _ _ h => h) (Or.inl ⟨by rfl, fun W hW => by go_simp⟩) hHeld ?_
                      try simp only [Act.put, List.setIfInBounds_toArray, List.set_cons_zero, List.set_cons_succ, List.getElem_toArray, List.getElem_cons_zero, List.getElem_cons_succ]
                      refine wpAnyH_take (i := 18) (v := .int .i64 (i : Int)) rfl (by kernel_rfl) (by kernel_rfl) (by kernel_rfl) (fun _ _ _ h => h) (Or.inl ⟨by rfl, fun W hW => by go_simp⟩) hHeld ?_
                      try simp only [Act.put, List.setIfInBounds_toArray, List.set_cons_zero, List.set_cons_succ, List.getElem_toArray, List.getElem_cons_zero, List.getElem_cons_succ]
                      refine wpAnyH_take (i := 19) (v := .pointer (some (ad.add (i * 6)))) rfl (by kernel_rfl) (by kernel_rfl) (by kernel_rfl) (fun _ _ _ h => h) (Or.inl ⟨by rfl, fun W hW => by go_simp⟩) hHeld ?_
                      try simp only [Act.put, List.setIfInBounds_toArray, List.set_cons_zero, List.set_cons_succ, List.getElem_toArray, List.getElem_cons_zero, List.getElem_cons_succ]
                      refine wpAnyH_take (i := 20) (v := .agg (recA r)) rfl (by kernel_rfl) (by kernel_rfl) (by kernel_rfl) (fun _ _ _ h => h) (yieldsIf_load_at (by rfl) 101 _ rfl (ad.add (i * 6)) rfl (r.map (Value.int .i64)) _ (fun W hW i v hv => cells_below HCR.out hW i v hv) Try.underlying101 rfl (by rw [VR.out]; exact info_rec) (recA r) rfl) hHeld ?_
                      try simp only [Act.put, List.setIfInBounds_toArray, List.set_cons_zero, List.set_cons_succ, List.getElem_toArray, List.getElem_cons_zero, List.getElem_cons_succ]
                      refine wpAnyH_take (i := 22) (v := .slice A s c) rfl (by kernel_rfl) (by kernel_rfl) (by kernel_rfl) (fun _ _ _ h => h) (Or.inl ⟨by rfl, fun W hW => by go_simp⟩) hHeld ?_
                      try simp only [Act.put, List.setIfInBounds_toArray, List.set_cons_zero, List.set_cons_succ, List.getElem_toArray, List.getElem_cons_zero, List.getElem_cons_succ]
                      refine wpAnyH_take (i := 23) (v := .agg (bytesA q)) rfl (by kernel_rfl) (by kernel_rfl) (by kernel_rfl) (fun _ _ _ h => h) (yieldsIf_load_at (by rfl) 102 _ rfl ⟨g16, 0, none⟩ rfl (q.map (Value.int .u8)) _ (fun W hW i v hv => cells_below HCQ.out hW i v hv) uArr32 rfl (by rw [VQ.out]; exact arr_info) (bytesA q) rfl) hHeld ?_
                      try simp only [Act.put, List.setIfInBounds_toArray, List.set_cons_zero, List.set_cons_succ, List.getElem_toArray, List.getElem_cons_zero, List.getElem_cons_succ]
                      refine wpAnyH_take (i := 24) (v := .slice (some ad2) n f) rfl (by kernel_rfl) (by kernel_rfl) (by kernel_rfl) (fun _ _ _ h => h) (Or.inl ⟨by rfl, fun W hW => by go_simp⟩) hHeld ?_
                      try simp only [Act.put, List.setIfInBounds_toArray, List.set_cons_zero, List.set_cons_succ, List.getElem_toArray, List.getElem_cons_zero, List.getElem_cons_succ]
                      refine wpAnyH_take (i := 25) (v := .int .i64 (i : Int)) rfl (by kernel_rfl) (by kernel_rfl) (by kernel_rfl) (fun _ _ _ h => h) (Or.inl ⟨by rfl, fun W hW => by go_simp⟩) hHeld ?_
                      try simp only [Act.put, List.setIfInBounds_toArray, List.set_cons_zero, List.set_cons_succ, List.getElem_toArray, List.getElem_cons_zero, List.getElem_cons_succ]
                      refine wpAnyH_take (i := 26) (v := .pointer (some (ad2.add (i * 6)))) rfl (by kernel_rfl) (by kernel_rfl) (by kernel_rfl) (fun _ _ _ h => h) (Or.inl ⟨by rfl, fun W hW => by go_simp⟩) hHeld ?_
                      try simp only [Act.put, List.setIfInBounds_toArray, List.set_cons_zero, List.set_cons_succ, List.getElem_toArray, List.getElem_cons_zero, List.getElem_cons_succ]
                      refine wpAnyH_take (i := 27) (v := .agg (recA r2)) rfl (by kernel_rfl) (by kernel_rfl) (by kernel_rfl) (fun _ _ _ h => h) (yieldsIf_load_at (by rfl) 101 _ rfl (ad2.add (i * 6)) rfl (r2.map (Value.int .i64)) _ (fun W hW i v hv => cells_below HCS.out hW i v hv) Try.underlying101 rfl (by rw [VR2.out]; exact info_rec) (recA r2) rfl) hHeld ?_
                      try simp only [Act.put, List.setIfInBounds_toArray, List.set_cons_zero, List.set_cons_succ, List.getElem_toArray, List.getElem_cons_zero, List.getElem_cons_succ]
                      refine wpAnyH_ready (rs := [21]) (by kernel_rfl) (by simp) (AllReadyH.cons rfl (fun K' hK => ?_) AllReadyH.nil)
                      go_simp
                      refine (rnext_ok key HK.out A s c (by have := HSC.out; omega) p HPL.out HPB.out r HXL.out HOK.out _ (H3.out.below (below_drewN HBz.out 1)) L1 HL1.out).mono ?_
                      rintro e wu ⟨rfl, hbu⟩
                      have HBu := As.mk (below_step (below_drewN (Below.refl wz.heap.size wz) 1) hbu)
                      clear hbu
                      refine hK.out _ _ HBu.out (fun hHeld => ?_)
                      clear hK
                      try simp only [Act.put, List.setIfInBounds_toArray, List.set_cons_zero, List.set_cons_succ, List.getElem_toArray, List.getElem_cons_zero, List.getElem_cons_succ]
                      refine wpAnyH_ready (rs := [28]) (by kernel_rfl) (by simp) (AllReadyH.cons rfl (fun K' hK => ?_) AllReadyH.nil)
                      go_simp
                      refine (rnext_ok key HK.out A s c (by have := HSC.out; omega) q HQL.out HQB.out r2 HYL.out HOK2.out _ (H3.out.below (below_step HBz.out HBu.out)) L2 HL2.out).mono ?_
                      rintro e wv ⟨rfl, hbv⟩
                      have HBv := As.mk (below_step HBu.out hbv)
                      clear hbv
                      refine hK.out _ _ HBv.out (fun hHeld => ?_)
                      clear hK
                      try simp only [Act.put, List.setIfInBounds_toArray, List.set_cons_zero, List.set_cons_succ, List.getElem_toArray, List.getElem_cons_zero, List.getElem_cons_succ]
                      refine wpAnyH_take (i := 29) (v := .bool false) rfl (by kernel_rfl) (by kernel_rfl) (by kernel_rfl) (fun _ _ _ h => h) (Or.inl ⟨by rfl, fun W hW => by go_simp⟩) hHeld ?_
                      try simp only [Act.put, List.setIfInBounds_toArray, List.set_cons_zero, List.set_cons_succ, List.getElem_toArray, List.getElem_cons_zero, List.getElem_cons_succ]
                      refine wpAnyH_take (i := 30) (v := .bool false) rfl (by kernel_rfl) (by kernel_rfl) (by kernel_rfl) (fun _ _ _ h => h) (Or.inl ⟨by rfl, fun W hW => by go_simp⟩) hHeld ?_
                      try simp only [Act.put, List.setIfInBounds_toArray, List.set_cons_zero, List.set_cons_succ, List.getElem_toArray, List.getElem_cons_zero, List.getElem_cons_succ]
                      refine wpAnyH_done (by kernel_rfl) ?_ _
                      go_wp2
                      go_roundg (n - (i + 1))
                      case measure => have := HI.out; have := HLT.out; omega
                      case rel =>
                        refine ⟨i + 1, by have := HI.out; have := HLT.out; omega, by go_num, ⟨fun j hj => ?_⟩, ⟨(below_step HBz.out HBv.out)⟩⟩
                        rcases Nat.lt_succ_iff_lt_or_eq.1 hj with h | rfl
                        · exact HND.out j h
                        · rw [HCB.out]; rfl
                | false =>
                  cases mm with
                  | true =>
                    go_wp2
                    refine wp_region_held_drew (S := fun W : World => Below wz.heap.size wz W) (by kernel_rfl) (below_drewN (Below.refl wz.heap.size wz) 1) (fun hHeld => ?_)
                    refine wpAnyH_take (i := 0) (v := .agg (bytesA p)) rfl (by kernel_rfl) (by kernel_rfl) (by kernel_rfl) (fun _ _ _ h => h) (yieldsIf_load_at (by rfl) 102 _ rfl ⟨g15, 0, none⟩ rfl (p.map (Value.int .u8)) _ (fun W hW i v hv => cells_below HCP.out hW i v hv) uArr32 rfl (by rw [VP.out]; exact arr_info) (bytesA p) rfl) hHeld ?_
                    try simp only [Act.put, List.setIfInBounds_toArray, List.set_cons_zero, List.set_cons_succ, List.getElem_toArray, List.getElem_cons_zero, List.getElem_cons_succ]
                    refine wpAnyH_take (i := 1) (v := .agg (bytesA q)) rfl (by kernel_rfl) (by kernel_rfl) (by kernel_rfl) (fun _ _ _ h => h) (yieldsIf_load_at (by rfl) 102 _ rfl ⟨g16, 0, none⟩ rfl (q.map (Value.int .u8)) _ (fun W hW i v hv => cells_below HCQ.out hW i v hv) uArr32 rfl (by rw [VQ.out]; exact arr_info) (bytesA q) rfl) hHeld ?_
                    try simp only [Act.put, List.setIfInBounds_toArray, List.set_cons_zero, List.set_cons_succ, List.getElem_toArray, List.getElem_cons_zero, List.getElem_cons_succ]
                    refine wpAnyH_take (i := 2) (v := .bool true) rfl (by kernel_rfl) (by kernel_rfl) (by kernel_rfl) (fun _ _ _ h => h) (Or.inl ⟨by rfl, fun W hW => by go_simp⟩) hHeld ?_
                    try simp only [Act.put, List.setIfInBounds_toArray, List.set_cons_zero, List.set_cons_succ, List.getElem_toArray, List.getElem_cons_zero, List.getElem_cons_succ]
                    refine wpAnyH_take (i := 3) (v := .bool true) rfl (by kernel_rfl) (by kernel_rfl) (by kernel_rfl) (fun _ _ _ h => h) (Or.inl ⟨by rfl, fun W hW => by go_simp⟩) hHeld ?_
                    try simp only [Act.put, List.setIfInBounds_toArray, List.set_cons_zero, List.set_cons_succ, List.getElem_toArray, List.getElem_cons_zero, List.getElem_cons_succ]
                    refine wpAnyH_take (i := 4) (v := undef) rfl (by kernel_rfl) (by kernel_rfl) (by kernel_rfl) (fun _ _ _ h => h) (Or.inr ⟨by rfl, rfl⟩) hHeld ?_
                    try simp only [Act.put, List.setIfInBounds_toArray, List.set_cons_zero, List.set_cons_succ, List.getElem_toArray, List.getElem_cons_zero, List.getElem_cons_succ]
                    refine wpAnyH_take (i := 5) (v := undef) rfl (by kernel_rfl) (by kernel_rfl) (by kernel_rfl) (fun _ _ _ h => h) (Or.inr ⟨by rfl, rfl⟩) hHeld ?_
                    try simp only [Act.put, List.setIfInBounds_toArray, List.set_cons_zero, List.set_cons_succ, List.getElem_toArray, List.getElem_cons_zero, List.getElem_cons_succ]
                    refine wpAnyH_take (i := 6) (v := undef) rfl (by kernel_rfl) (by kernel_rfl) (by kernel_rfl) (fun _ _ _ h => h) (Or.inr ⟨by rfl, rfl⟩) hHeld ?_
                    try simp only [Act.put, List.setIfInBounds_toArray, List.set_cons_zero, List.set_cons_succ, List.getElem_toArray, List.getElem_cons_zero, List.getElem_cons_succ]
                    refine wpAnyH_take (i := 7) (v := undef) rfl (by kernel_rfl) (by kernel_rfl) (by kernel_rfl) (fun _ _ _ h => h) (Or.inr ⟨by rfl, rfl⟩) hHeld ?_
                    try simp only [Act.put, List.setIfInBounds_toArray, List.set_cons_zero, List.set_cons_succ, List.getElem_toArray, List.getElem_cons_zero, List.getElem_cons_succ]
                    refine wpAnyH_take (i := 8) (v := undef) rfl (by kernel_rfl) (by kernel_rfl) (by kernel_rfl) (fun _ _ _ h => h) (Or.inr ⟨by rfl, rfl⟩) hHeld ?_
                    try simp only [Act.put, List.setIfInBounds_toArray, List.set_cons_zero, List.set_cons_succ, List.getElem_toArray, List.getElem_cons_zero, List.getElem_cons_succ]
                    refine wpAnyH_take (i := 9) (v := undef) rfl (by kernel_rfl) (by kernel_rfl) (by kernel_rfl) (fun _ _ _ h => h) (Or.inr ⟨by rfl, rfl⟩) hHeld ?_
                    try simp only [Act.put, List.setIfInBounds_toArray, List.set_cons_zero, List.set_cons_succ, List.getElem_toArray, List.getElem_cons_zero, List.getElem_cons_succ]
                    refine wpAnyH_take (i := 10) (v := undef) rfl (by kernel_rfl) (by kernel_rfl) (by kernel_rfl) (fun _ _ _ h => h) (Or.inr ⟨by rfl, rfl⟩) hHeld ?_
                    try simp only [Act.put, List.setIfInBounds_toArray, List.set_cons_zero, List.set_cons_succ, List.getElem_toArray, List.getElem_cons_zero, List.getElem_cons_succ]
                    refine wpAnyH_take (i := 11) (v := undef) rfl (by kernel_rfl) (by kernel_rfl) (by kernel_rfl) (fun _ _ _ h => h) (Or.inr ⟨by rfl, rfl⟩) hHeld ?_
                    try simp only [Act.put, List.setIfInBounds_toArray, List.set_cons_zero, List.set_cons_succ, List.getElem_toArray, List.getElem_cons_zero, List.getElem_cons_succ]
                    refine wpAnyH_take (i := 12) (v := undef) rfl (by kernel_rfl) (by kernel_rfl) (by kernel_rfl) (fun _ _ _ h => h) (Or.inr ⟨by rfl, rfl⟩) hHeld ?_
                    try simp only [Act.put, List.setIfInBounds_toArray, List.set_cons_zero, List.set_cons_succ, List.getElem_toArray, List.getElem_cons_zero, List.getElem_cons_succ]
                    refine wpAnyH_take (i := 13) (v := .bool true) rfl (by kernel_rfl) (by kernel_rfl) (by kernel_rfl) (fun _ _ _ h => h) (Or.inl ⟨by rfl, fun W hW => by go_simp⟩) hHeld ?_
                    try simp only [Act.put, List.setIfInBounds_toArray, List.set_cons_zero, List.set_cons_succ, List.getElem_toArray, List.getElem_cons_zero, List.getElem_cons_succ]
                    refine wpAnyH_take (i := 14) (v := .bool true) rfl (by kernel_rfl) (by kernel_rfl) (by kernel_rfl) (fun _ _ _ h => h) (Or.inl ⟨by rfl, fun W hW => by go_simp⟩) hHeld ?_
                    try simp only [Act.put, List.setIfInBounds_toArray, List.set_cons_zero, List.set_cons_succ, List.getElem_toArray, List.getElem_cons_zero, List.getElem_cons_succ]
                    refine wpAnyH_take (i := 15) (v := .slice A s c) rfl (by kernel_rfl) (by kernel_rfl) (by kernel_rfl) (fun _ _ _ h => h) (Or.inl ⟨by rfl, fun W hW => by go_simp⟩) hHeld ?_
                    try simp only [Act.put, List.setIfInBounds_toArray, List.set_cons_zero, List.set_cons_succ, List.getElem_toArray, List.getElem_cons_zero, List.getElem_cons_succ]
                    refine wpAnyH_take (i := 16) (v := .agg (bytesA p)) rfl (by kernel_rfl) (by kernel_rfl) (by kernel_rfl) (fun _ _ _ h => h) (yieldsIf_load_at (by rfl) 102 _ rfl ⟨g15, 0, none⟩ rfl (p.map (Value.int .u8)) _ (fun W hW i v hv => cells_below HCP.out hW i v hv) uArr32 rfl (by rw [VP.out]; exact arr_info) (bytesA p) rfl) hHeld ?_
                    try simp only [Act.put, List.setIfInBounds_toArray, List.set_cons_zero, List.set_cons_succ, List.getElem_toArray, List.getElem_cons_zero, List.getElem_cons_succ]
                    refine wpAnyH_take (i := 17) (v := .slice (some ad) n d) rfl (by kernel_rfl) (by kernel_rfl) (by kernel_rfl) (fun _ _ _ h => h) (Or.inl ⟨by rfl, fun W hW => by go_simp⟩) hHeld ?_
                    try simp only [Act.put, List.setIfInBounds_toArray, List.set_cons_zero, List.set_cons_succ, List.getElem_toArray, List.getElem_cons_zero, List.getElem_cons_succ]
                    refine wpAnyH_take (i := 18) (v := .int .i64 (i : Int)) rfl (by kernel_rfl) (by kernel_rfl) (by kernel_rfl) (fun _ _ _ h => h) (Or.inl ⟨by rfl, fun W hW => by go_simp⟩) hHeld ?_
                    try simp only [Act.put, List.setIfInBounds_toArray, List.set_cons_zero, List.set_cons_succ, List.getElem_toArray, List.getElem_cons_zero, List.getElem_cons_succ]
                    refine wpAnyH_take (i := 19) (v := .pointer (some (ad.add (i * 6)))) rfl (by kernel_rfl) (by kernel_rfl) (by kernel_rfl) (fun _ _ _ h => h) (Or.inl ⟨by rfl, fun W hW => by go_simp⟩) hHeld ?_
                    try simp only [Act.put, List.setIfInBounds_toArray, List.set_cons_zero, List.set_cons_succ, List.getElem_toArray, List.getElem_cons_zero, List.getElem_cons_succ]
                    refine wpAnyH_take (i := 20) (v := .agg (recA r)) rfl (by kernel_rfl) (by kernel_rfl) (by kernel_rfl) (fun _ _ _ h => h) (yieldsIf_load_at (by rfl) 101 _ rfl (ad.add (i * 6)) rfl (r.map (Value.int .i64)) _ (fun W hW i v hv => cells_below HCR.out hW i v hv) Try.underlying101 rfl (by rw [VR.out]; exact info_rec) (recA r) rfl) hHeld ?_
                    try simp only [Act.put, List.setIfInBounds_toArray, List.set_cons_zero, List.set_cons_succ, List.getElem_toArray, List.getElem_cons_zero, List.getElem_cons_succ]
                    refine wpAnyH_take (i := 22) (v := .slice A s c) rfl (by kernel_rfl) (by kernel_rfl) (by kernel_rfl) (fun _ _ _ h => h) (Or.inl ⟨by rfl, fun W hW => by go_simp⟩) hHeld ?_
                    try simp only [Act.put, List.setIfInBounds_toArray, List.set_cons_zero, List.set_cons_succ, List.getElem_toArray, List.getElem_cons_zero, List.getElem_cons_succ]
                    refine wpAnyH_take (i := 23) (v := .agg (bytesA q)) rfl (by kernel_rfl) (by kernel_rfl) (by kernel_rfl) (fun _ _ _ h => h) (yieldsIf_load_at (by rfl) 102 _ rfl ⟨g16, 0, none⟩ rfl (q.map (Value.int .u8)) _ (fun W hW i v hv => cells_below HCQ.out hW i v hv) uArr32 rfl (by rw [VQ.out]; exact arr_info) (bytesA q) rfl) hHeld ?_
                    try simp only [Act.put, List.setIfInBounds_toArray, List.set_cons_zero, List.set_cons_succ, List.getElem_toArray, List.getElem_cons_zero, List.getElem_cons_succ]
                    refine wpAnyH_take (i := 24) (v := .slice (some ad2) n f) rfl (by kernel_rfl) (by kernel_rfl) (by kernel_rfl) (fun _ _ _ h => h) (Or.inl ⟨by rfl, fun W hW => by go_simp⟩) hHeld ?_
                    try simp only [Act.put, List.setIfInBounds_toArray, List.set_cons_zero, List.set_cons_succ, List.getElem_toArray, List.getElem_cons_zero, List.getElem_cons_succ]
                    refine wpAnyH_take (i := 25) (v := .int .i64 (i : Int)) rfl (by kernel_rfl) (by kernel_rfl) (by kernel_rfl) (fun _ _ _ h => h) (Or.inl ⟨by rfl, fun W hW => by go_simp⟩) hHeld ?_
                    try simp only [Act.put, List.setIfInBounds_toArray, List.set_cons_zero, List.set_cons_succ, List.getElem_toArray, List.getElem_cons_zero, List.getElem_cons_succ]
                    refine wpAnyH_take (i := 26) (v := .pointer (some (ad2.add (i * 6)))) rfl (by kernel_rfl) (by kernel_rfl) (by kernel_rfl) (fun _ _ _ h => h) (Or.inl ⟨by rfl, fun W hW => by go_simp⟩) hHeld ?_
                    try simp only [Act.put, List.setIfInBounds_toArray, List.set_cons_zero, List.set_cons_succ, List.getElem_toArray, List.getElem_cons_zero, List.getElem_cons_succ]
                    refine wpAnyH_take (i := 27) (v := .agg (recA r2)) rfl (by kernel_rfl) (by kernel_rfl) (by kernel_rfl) (fun _ _ _ h => h) (yieldsIf_load_at (by rfl) 101 _ rfl (ad2.add (i * 6)) rfl (r2.map (Value.int .i64)) _ (fun W hW i v hv => cells_below HCS.out hW i v hv) Try.underlying101 rfl (by rw [VR2.out]; exact info_rec) (recA r2) rfl) hHeld ?_
                    try simp only [Act.put, List.setIfInBounds_toArray, List.set_cons_zero, List.set_cons_succ, List.getElem_toArray, List.getElem_cons_zero, List.getElem_cons_succ]
                    refine wpAnyH_ready (rs := [21]) (by kernel_rfl) (by simp) (AllReadyH.cons rfl (fun K' hK => ?_) AllReadyH.nil)
                    go_simp
                    refine (rnext_ok key HK.out A s c (by have := HSC.out; omega) p HPL.out HPB.out r HXL.out HOK.out _ (H3.out.below (below_drewN HBz.out 1)) L1 HL1.out).mono ?_
                    rintro e wu ⟨rfl, hbu⟩
                    have HBu := As.mk (below_step (below_drewN (Below.refl wz.heap.size wz) 1) hbu)
                    clear hbu
                    refine hK.out _ _ HBu.out (fun hHeld => ?_)
                    clear hK
                    try simp only [Act.put, List.setIfInBounds_toArray, List.set_cons_zero, List.set_cons_succ, List.getElem_toArray, List.getElem_cons_zero, List.getElem_cons_succ]
                    refine wpAnyH_ready (rs := [28]) (by kernel_rfl) (by simp) (AllReadyH.cons rfl (fun K' hK => ?_) AllReadyH.nil)
                    go_simp
                    refine (rnext_ok key HK.out A s c (by have := HSC.out; omega) q HQL.out HQB.out r2 HYL.out HOK2.out _ (H3.out.below (below_step HBz.out HBu.out)) L2 HL2.out).mono ?_
                    rintro e wv ⟨rfl, hbv⟩
                    have HBv := As.mk (below_step HBu.out hbv)
                    clear hbv
                    refine hK.out _ _ HBv.out (fun hHeld => ?_)
                    clear hK
                    try simp only [Act.put, List.setIfInBounds_toArray, List.set_cons_zero, List.set_cons_succ, List.getElem_toArray, List.getElem_cons_zero, List.getElem_cons_succ]
                    refine wpAnyH_take (i := 29) (v := .bool true) rfl (by kernel_rfl) (by kernel_rfl) (by kernel_rfl) (fun _ _ _ h => h) (Or.inl ⟨by rfl, fun W hW => by go_simp⟩) hHeld ?_
                    try simp only [Act.put, List.setIfInBounds_toArray, List.set_cons_zero, List.set_cons_succ, List.getElem_toArray, List.getElem_cons_zero, List.getElem_cons_succ]
                    refine wpAnyH_take (i := 30) (v := .bool true) rfl (by kernel_rfl) (by kernel_rfl) (by kernel_rfl) (fun _ _ _ h => h) (Or.inl ⟨by rfl, fun W hW => by go_simp⟩) hHeld ?_
                    try simp only [Act.put, List.setIfInBounds_toArray, List.set_cons_zero, List.set_cons_succ, List.getElem_toArray, List.getElem_cons_zero, List.getElem_cons_succ]
                    refine wpAnyH_done (by kernel_rfl) ?_ _
                    go_wp2
                    go_ret
                    exact ⟨rfl, below_step HB3.out (below_step HBz.out HBv.out)⟩
                  | false =>
                    go_wp2
                    refine wp_region_held_drew (S := fun W : World => Below wz.heap.size wz W) (by kernel_rfl) (below_drewN (Below.refl wz.heap.size wz) 1) (fun hHeld => ?_)
                    refine wpAnyH_take (i := 0) (v := .agg (bytesA p)) rfl (by kernel_rfl) (by kernel_rfl) (by kernel_rfl) (fun _ _ _ h => h) (yieldsIf_load_at (by rfl) 102 _ rfl ⟨g15, 0, none⟩ rfl (p.map (Value.int .u8)) _ (fun W hW i v hv => cells_below HCP.out hW i v hv) uArr32 rfl (by rw [VP.out]; exact arr_info) (bytesA p) rfl) hHeld ?_
                    try simp only [Act.put, List.setIfInBounds_toArray, List.set_cons_zero, List.set_cons_succ, List.getElem_toArray, List.getElem_cons_zero, List.getElem_cons_succ]
                    refine wpAnyH_take (i := 1) (v := .agg (bytesA q)) rfl (by kernel_rfl) (by kernel_rfl) (by kernel_rfl) (fun _ _ _ h => h) (yieldsIf_load_at (by rfl) 102 _ rfl ⟨g16, 0, none⟩ rfl (q.map (Value.int .u8)) _ (fun W hW i v hv => cells_below HCQ.out hW i v hv) uArr32 rfl (by rw [VQ.out]; exact arr_info) (bytesA q) rfl) hHeld ?_
                    try simp only [Act.put, List.setIfInBounds_toArray, List.set_cons_zero, List.set_cons_succ, List.getElem_toArray, List.getElem_cons_zero, List.getElem_cons_succ]
                    refine wpAnyH_take (i := 2) (v := .bool true) rfl (by kernel_rfl) (by kernel_rfl) (by kernel_rfl) (fun _ _ _ h => h) (Or.inl ⟨by rfl, fun W hW => by go_simp⟩) hHeld ?_
                    try simp only [Act.put, List.setIfInBounds_toArray, List.set_cons_zero, List.set_cons_succ, List.getElem_toArray, List.getElem_cons_zero, List.getElem_cons_succ]
                    refine wpAnyH_take (i := 3) (v := .bool true) rfl (by kernel_rfl) (by kernel_rfl) (by kernel_rfl) (fun _ _ _ h => h) (Or.inl ⟨by rfl, fun W hW => by go_simp⟩) hHeld ?_
                    try simp only [Act.put, List.setIfInBounds_toArray, List.set_cons_zero, List.set_cons_succ, List.getElem_toArray, List.getElem_cons_zero, List.getElem_cons_succ]
                    refine wpAnyH_take (i := 4) (v := undef) rfl (by kernel_rfl) (by kernel_rfl) (by kernel_rfl) (fun _ _ _ h => h) (Or.inr ⟨by rfl, rfl⟩) hHeld ?_
                    try simp only [Act.put, List.setIfInBounds_toArray, List.set_cons_zero, List.set_cons_succ, List.getElem_toArray, List.getElem_cons_zero, List.getElem_cons_succ]
                    refine wpAnyH_take (i := 5) (v := undef) rfl (by kernel_rfl) (by kernel_rfl) (by kernel_rfl) (fun _ _ _ h => h) (Or.inr ⟨by rfl, rfl⟩) hHeld ?_
                    try simp only [Act.put, List.setIfInBounds_toArray, List.set_cons_zero, List.set_cons_succ, List.getElem_toArray, List.getElem_cons_zero, List.getElem_cons_succ]
                    refine wpAnyH_take (i := 6) (v := undef) rfl (by kernel_rfl) (by kernel_rfl) (by kernel_rfl) (fun _ _ _ h => h) (Or.inr ⟨by rfl, rfl⟩) hHeld ?_
                    try simp only [Act.put, List.setIfInBounds_toArray, List.set_cons_zero, List.set_cons_succ, List.getElem_toArray, List.getElem_cons_zero, List.getElem_cons_succ]
                    refine wpAnyH_take (i := 7) (v := undef) rfl (by kernel_rfl) (by kernel_rfl) (by kernel_rfl) (fun _ _ _ h => h) (Or.inr ⟨by rfl, rfl⟩) hHeld ?_
                    try simp only [Act.put, List.setIfInBounds_toArray, List.set_cons_zero, List.set_cons_succ, List.getElem_toArray, List.getElem_cons_zero, List.getElem_cons_succ]
                    refine wpAnyH_take (i := 8) (v := undef) rfl (by kernel_rfl) (by kernel_rfl) (by kernel_rfl) (fun _ _ _ h => h) (Or.inr ⟨by rfl, rfl⟩) hHeld ?_
                    try simp only [Act.put, List.setIfInBounds_toArray, List.set_cons_zero, List.set_cons_succ, List.getElem_toArray, List.getElem_cons_zero, List.getElem_cons_succ]
                    refine wpAnyH_take (i := 9) (v := undef) rfl (by kernel_rfl) (by kernel_rfl) (by kernel_rfl) (fun _ _ _ h => h) (Or.inr ⟨by rfl, rfl⟩) hHeld ?_
                    try simp only [Act.put, List.setIfInBounds_toArray, List.set_cons_zero, List.set_cons_succ, List.getElem_toArray, List.getElem_cons_zero, List.getElem_cons_succ]
                    refine wpAnyH_take (i := 10) (v := undef) rfl (by kernel_rfl) (by kernel_rfl) (by kernel_rfl) (fun _ _ _ h => h) (Or.inr ⟨by rfl, rfl⟩) hHeld ?_
                    try simp only [Act.put, List.setIfInBounds_toArray, List.set_cons_zero, List.set_cons_succ, List.getElem_toArray, List.getElem_cons_zero, List.getElem_cons_succ]
                    refine wpAnyH_take (i := 11) (v := undef) rfl (by kernel_rfl) (by kernel_rfl) (by kernel_rfl) (fun _ _ _ h => h) (Or.inr ⟨by rfl, rfl⟩) hHeld ?_
                    try simp only [Act.put, List.setIfInBounds_toArray, List.set_cons_zero, List.set_cons_succ, List.getElem_toArray, List.getElem_cons_zero, List.getElem_cons_succ]
                    refine wpAnyH_take (i := 12) (v := undef) rfl (by kernel_rfl) (by kernel_rfl) (by kernel_rfl) (fun _ _ _ h => h) (Or.inr ⟨by rfl, rfl⟩) hHeld ?_
                    try simp only [Act.put, List.setIfInBounds_toArray, List.set_cons_zero, List.set_cons_succ, List.getElem_toArray, List.getElem_cons_zero, List.getElem_cons_succ]
                    refine wpAnyH_take (i := 13) (v := .bool true) rfl (by kernel_rfl) (by kernel_rfl) (by kernel_rfl) (fun _ _ _ h => h) (Or.inl ⟨by rfl, fun W hW => by go_simp⟩) hHeld ?_
                    try simp only [Act.put, List.setIfInBounds_toArray, List.set_cons_zero, List.set_cons_succ, List.getElem_toArray, List.getElem_cons_zero, List.getElem_cons_succ]
                    refine wpAnyH_take (i := 14) (v := .bool true) rfl (by kernel_rfl) (by kernel_rfl) (by kernel_rfl) (fun _ _ _ h => h) (Or.inl ⟨by rfl, fun W hW => by go_simp⟩) hHeld ?_
                    try simp only [Act.put, List.setIfInBounds_toArray, List.set_cons_zero, List.set_cons_succ, List.getElem_toArray, List.getElem_cons_zero, List.getElem_cons_succ]
                    refine wpAnyH_take (i := 15) (v := .slice A s c) rfl (by kernel_rfl) (by kernel_rfl) (by kernel_rfl) (fun _ _ _ h => h) (Or.inl ⟨by rfl, fun W hW => by go_simp⟩) hHeld ?_
                    try simp only [Act.put, List.setIfInBounds_toArray, List.set_cons_zero, List.set_cons_succ, List.getElem_toArray, List.getElem_cons_zero, List.getElem_cons_succ]
                    refine wpAnyH_take (i := 16) (v := .agg (bytesA p)) rfl (by kernel_rfl) (by kernel_rfl) (by kernel_rfl) (fun _ _ _ h => h) (yieldsIf_load_at (by rfl) 102 _ rfl ⟨g15, 0, none⟩ rfl (p.map (Value.int .u8)) _ (fun W hW i v hv => cells_below HCP.out hW i v hv) uArr32 rfl (by rw [VP.out]; exact arr_info) (bytesA p) rfl) hHeld ?_
                    try simp only [Act.put, List.setIfInBounds_toArray, List.set_cons_zero, List.set_cons_succ, List.getElem_toArray, List.getElem_cons_zero, List.getElem_cons_succ]
                    refine wpAnyH_take (i := 17) (v := .slice (some ad) n d) rfl (by kernel_rfl) (by kernel_rfl) (by kernel_rfl) (fun _ _ _ h => h) (Or.inl ⟨by rfl, fun W hW => by go_simp⟩) hHeld ?_
                    try simp only [Act.put, List.setIfInBounds_toArray, List.set_cons_zero, List.set_cons_succ, List.getElem_toArray, List.getElem_cons_zero, List.getElem_cons_succ]
                    refine wpAnyH_take (i := 18) (v := .int .i64 (i : Int)) rfl (by kernel_rfl) (by kernel_rfl) (by kernel_rfl) (fun _ _ _ h => h) (Or.inl ⟨by rfl, fun W hW => by go_simp⟩) hHeld ?_
                    try simp only [Act.put, List.setIfInBounds_toArray, List.set_cons_zero, List.set_cons_succ, List.getElem_toArray, List.getElem_cons_zero, List.getElem_cons_succ]
                    refine wpAnyH_take (i := 19) (v := .pointer (some (ad.add (i * 6)))) rfl (by kernel_rfl) (by kernel_rfl) (by kernel_rfl) (fun _ _ _ h => h) (Or.inl ⟨by rfl, fun W hW => by go_simp⟩) hHeld ?_
                    try simp only [Act.put, List.setIfInBounds_toArray, List.set_cons_zero, List.set_cons_succ, List.getElem_toArray, List.getElem_cons_zero, List.getElem_cons_succ]
                    refine wpAnyH_take (i := 20) (v := .agg (recA r)) rfl (by kernel_rfl) (by kernel_rfl) (by kernel_rfl) (fun _ _ _ h => h) (yieldsIf_load_at (by rfl) 101 _ rfl (ad.add (i * 6)) rfl (r.map (Value.int .i64)) _ (fun W hW i v hv => cells_below HCR.out hW i v hv) Try.underlying101 rfl (by rw [VR.out]; exact info_rec) (recA r) rfl) hHeld ?_
                    try simp only [Act.put, List.setIfInBounds_toArray, List.set_cons_zero, List.set_cons_succ, List.getElem_toArray, List.getElem_cons_zero, List.getElem_cons_succ]
                    refine wpAnyH_take (i := 22) (v := .slice A s c) rfl (by kernel_rfl) (by kernel_rfl) (by kernel_rfl) (fun _ _ _ h => h) (Or.inl ⟨by rfl, fun W hW => by go_simp⟩) hHeld ?_
                    try simp only [Act.put, List.setIfInBounds_toArray, List.set_cons_zero, List.set_cons_succ, List.getElem_toArray, List.getElem_cons_zero, List.getElem_cons_succ]
                    refine wpAnyH_take (i := 23) (v := .agg (bytesA q)) rfl (by kernel_rfl) (by kernel_rfl) (by kernel_rfl) (fun _ _ _ h => h) (yieldsIf_load_at (by rfl) 102 _ rfl ⟨g16, 0, none⟩ rfl (q.map (Value.int .u8)) _ (fun W hW i v hv => cells_below HCQ.out hW i v hv) uArr32 rfl (by rw [VQ.out]; exact arr_info) (bytesA q) rfl) hHeld ?_
                    try simp only [Act.put, List.setIfInBounds_toArray, List.set_cons_zero, List.set_cons_succ, List.getElem_toArray, List.getElem_cons_zero, List.getElem_cons_succ]
                    refine wpAnyH_take (i := 24) (v := .slice (some ad2) n f) rfl (by kernel_rfl) (by kernel_rfl) (by kernel_rfl) (fun _ _ _ h => h) (Or.inl ⟨by rfl, fun W hW => by go_simp⟩) hHeld ?_
                    try simp only [Act.put, List.setIfInBounds_toArray, List.set_cons_zero, List.set_cons_succ, List.getElem_toArray, List.getElem_cons_zero, List.getElem_cons_succ]
                    refine wpAnyH_take (i := 25) (v := .int .i64 (i : Int)) rfl (by kernel_rfl) (by kernel_rfl) (by kernel_rfl) (fun _ _ _ h => h) (Or.inl ⟨by rfl, fun W hW => by go_simp⟩) hHeld ?_
                    try simp only [Act.put, List.setIfInBounds_toArray, List.set_cons_zero, List.set_cons_succ, List.getElem_toArray, List.getElem_cons_zero, List.getElem_cons_succ]
                    refine wpAnyH_take (i := 26) (v := .pointer (some (ad2.add (i * 6)))) rfl (by kernel_rfl) (by kernel_rfl) (by kernel_rfl) (fun _ _ _ h => h) (Or.inl ⟨by rfl, fun W hW => by go_simp⟩) hHeld ?_
                    try simp only [Act.put, List.setIfInBounds_toArray, List.set_cons_zero, List.set_cons_succ, List.getElem_toArray, List.getElem_cons_zero, List.getElem_cons_succ]
                    refine wpAnyH_take (i := 27) (v := .agg (recA r2)) rfl (by kernel_rfl) (by kernel_rfl) (by kernel_rfl) (fun _ _ _ h => h) (yieldsIf_load_at (by rfl) 101 _ rfl (ad2.add (i * 6)) rfl (r2.map (Value.int .i64)) _ (fun W hW i v hv => cells_below HCS.out hW i v hv) Try.underlying101 rfl (by rw [VR2.out]; exact info_rec) (recA r2) rfl) hHeld ?_
                    try simp only [Act.put, List.setIfInBounds_toArray, List.set_cons_zero, List.set_cons_succ, List.getElem_toArray, List.getElem_cons_zero, List.getElem_cons_succ]
                    refine wpAnyH_ready (rs := [21]) (by kernel_rfl) (by simp) (AllReadyH.cons rfl (fun K' hK => ?_) AllReadyH.nil)
                    go_simp
                    refine (rnext_ok key HK.out A s c (by have := HSC.out; omega) p HPL.out HPB.out r HXL.out HOK.out _ (H3.out.below (below_drewN HBz.out 1)) L1 HL1.out).mono ?_
                    rintro e wu ⟨rfl, hbu⟩
                    have HBu := As.mk (below_step (below_drewN (Below.refl wz.heap.size wz) 1) hbu)
                    clear hbu
                    refine hK.out _ _ HBu.out (fun hHeld => ?_)
                    clear hK
                    try simp only [Act.put, List.setIfInBounds_toArray, List.set_cons_zero, List.set_cons_succ, List.getElem_toArray, List.getElem_cons_zero, List.getElem_cons_succ]
                    refine wpAnyH_ready (rs := [28]) (by kernel_rfl) (by simp) (AllReadyH.cons rfl (fun K' hK => ?_) AllReadyH.nil)
                    go_simp
                    refine (rnext_ok key HK.out A s c (by have := HSC.out; omega) q HQL.out HQB.out r2 HYL.out HOK2.out _ (H3.out.below (below_step HBz.out HBu.out)) L2 HL2.out).mono ?_
                    rintro e wv ⟨rfl, hbv⟩
                    have HBv := As.mk (below_step HBu.out hbv)
                    clear hbv
                    refine hK.out _ _ HBv.out (fun hHeld => ?_)
                    clear hK
                    try simp only [Act.put, List.setIfInBounds_toArray, List.set_cons_zero, List.set_cons_succ, List.getElem_toArray, List.getElem_cons_zero, List.getElem_cons_succ]
                    refine wpAnyH_take (i := 29) (v := .bool false) rfl (by kernel_rfl) (by kernel_rfl) (by kernel_rfl) (fun _ _ _ h => h) (Or.inl ⟨by rfl, fun W hW => by go_simp⟩) hHeld ?_
                    try simp only [Act.put, List.setIfInBounds_toArray, List.set_cons_zero, List.set_cons_succ, List.getElem_toArray, List.getElem_cons_zero, List.getElem_cons_succ]
                    refine wpAnyH_take (i := 30) (v := .bool false) rfl (by kernel_rfl) (by kernel_rfl) (by kernel_rfl) (fun _ _ _ h => h) (Or.inl ⟨by rfl, fun W hW => by go_simp⟩) hHeld ?_
                    try simp only [Act.put, List.setIfInBounds_toArray, List.set_cons_zero, List.set_cons_succ, List.getElem_toArray, List.getElem_cons_zero, List.getElem_cons_succ]
                    refine wpAnyH_done (by kernel_rfl) ?_ _
                    go_wp2
                    go_roundg (n - (i + 1))
                    case measure => have := HI.out; have := HLT.out; omega
                    case rel =>
                      refine ⟨i + 1, by have := HI.out; have := HLT.out; omega, by go_num, ⟨fun j hj => ?_⟩, ⟨(below_step HBz.out HBv.out)⟩⟩
                      rcases Nat.lt_succ_iff_lt_or_eq.1 hj with h | rfl
                      · exact HND.out j h
                      · rw [HCB.out]; rfl
              · have z0 : decide ((0 : Int) < (i : Int)) = true := decide_eq_true (by omega)
                have z1 : decide (0 < i) = true := decide_eq_true (by omega)
                obtain ⟨j, hj⟩ : ∃ j, i = j + 1 := ⟨i - 1, by omega⟩
                have h5 := HO1.out j
                rw [heads_at key X n j (by have := HLT.out; omega), ← hj, HPE.out] at h5
                have h6 := HO2.out j
                rw [heads_at key Y n j (by have := HLT.out; omega), ← hj, HQE.out] at h6
                have HP1 := As.mk h5
                have HP2 := As.mk h6
                have f1 : wrap64 ((i : Int) - 1) = (j : Int) := by unfold wrap64; have := HN.out; have := HLT.out; omega
                have f3 : IntKind.i64.wrap ((i : Int) - 1) = (j : Int) := by rw [IntKind.wrap_i64]; have := HN.out; have := HLT.out; omega
                have f2 : (j : Int) < (n : Int) := by omega
                have f4 : j < n := by have := HLT.out; omega
                have HA5D : As (w5.drew.heap[g15]? = some (.cells Z32 102 (0, 0))) := ⟨HA5.out⟩
                have HG5D : As (w5.drew.heap[g16]? = some (.cells Z32 102 (0, 0))) := ⟨HG5.out⟩
                clear hz hj h5 h6 HPE HQE
                go_wp2
                refine wp_region_held_drew (S := fun W : World => Below w3.heap.size w3 W) (by kernel_rfl) (below_drewN HB5.out 1) (fun hHeld => ?_)
                refine wpAnyH_take (i := 0) (v := .slice (some ⟨g1, 0, none⟩) n c1) rfl (by kernel_rfl) (by kernel_rfl) (by kernel_rfl) (fun _ _ _ h => h) (Or.inl ⟨by rfl, fun W hW => by go_simp⟩) hHeld ?_
                try simp only [Act.put, List.setIfInBounds_toArray, List.set_cons_zero, List.set_cons_succ, List.getElem_toArray, List.getElem_cons_zero, List.getElem_cons_succ]
                refine wpAnyH_take (i := 1) (v := .int .i64 (i : Int)) rfl (by kernel_rfl) (by kernel_rfl) (by kernel_rfl) (fun _ _ _ h => h) (Or.inl ⟨by rfl, fun W hW => by go_simp⟩) hHeld ?_
                try simp only [Act.put, List.setIfInBounds_toArray, List.set_cons_zero, List.set_cons_succ, List.getElem_toArray, List.getElem_cons_zero, List.getElem_cons_succ]
                refine wpAnyH_take (i := 2) (v := .int .i64 (j : Int)) rfl (by kernel_rfl) (by kernel_rfl) (by kernel_rfl) (fun _ _ _ h => h) (Or.inl ⟨by rfl, fun W hW => by go_simp⟩) hHeld ?_
                try simp only [Act.put, List.setIfInBounds_toArray, List.set_cons_zero, List.set_cons_succ, List.getElem_toArray, List.getElem_cons_zero, List.getElem_cons_succ]
                refine wpAnyH_take (i := 3) (v := .pointer (some ⟨g1, j * 32, none⟩)) rfl (by kernel_rfl) (by kernel_rfl) (by kernel_rfl) (fun _ _ _ h => h) (Or.inl ⟨by rfl, fun W hW => by go_simp⟩) hHeld ?_
                try simp only [Act.put, List.setIfInBounds_toArray, List.set_cons_zero, List.set_cons_succ, List.getElem_toArray, List.getElem_cons_zero, List.getElem_cons_succ]
                refine wpAnyH_take (i := 4) (v := .agg (bytesA p)) rfl (by kernel_rfl) (by kernel_rfl) (by kernel_rfl) (fun _ _ _ h => h) (yieldsIf_load_at (by rfl) 102 _ rfl ⟨g1, j * 32, none⟩ rfl (p.map (Value.int .u8)) _ (fun W hW i v hv => cells_below HP1.out hW i v hv) uArr32 rfl (by rw [VP.out]; exact arr_info) (bytesA p) rfl) hHeld ?_
                try simp only [Act.put, List.setIfInBounds_toArray, List.set_cons_zero, List.set_cons_succ, List.getElem_toArray, List.getElem_cons_zero, List.getElem_cons_succ]
                refine wpAnyH_take (i := 5) (v := .slice (some ⟨g2, 0, none⟩) n c2) rfl (by kernel_rfl) (by kernel_rfl) (by kernel_rfl) (fun _ _ _ h => h) (Or.inl ⟨by rfl, fun W hW => by go_simp⟩) hHeld ?_
                try simp only [Act.put, List.setIfInBounds_toArray, List.set_cons_zero, List.set_cons_succ, List.getElem_toArray, List.getElem_cons_zero, List.getElem_cons_succ]
                refine wpAnyH_take (i := 6) (v := .int .i64 (i : Int)) rfl (by kernel_rfl) (by kernel_rfl) (by kernel_rfl) (fun _ _ _ h => h) (Or.inl ⟨by rfl, fun W hW => by go_simp⟩) hHeld ?_
                try simp only [Act.put, List.setIfInBounds_toArray, List.set_cons_zero, List.set_cons_succ, List.getElem_toArray, List.getElem_cons_zero, List.getElem_cons_succ]
                refine wpAnyH_take (i := 7) (v := .int .i64 (j : Int)) rfl (by kernel_rfl) (by kernel_rfl) (by kernel_rfl) (fun _ _ _ h => h) (Or.inl ⟨by rfl, fun W hW => by go_simp⟩) hHeld ?_
                try simp only [Act.put, List.setIfInBounds_toArray, List.set_cons_zero, List.set_cons_succ, List.getElem_toArray, List.getElem_cons_zero, List.getElem_cons_succ]
                refine wpAnyH_take (i := 8) (v := .pointer (some ⟨g2, j * 32, none⟩)) rfl (by kernel_rfl) (by kernel_rfl) (by kernel_rfl) (fun _ _ _ h => h) (Or.inl ⟨by rfl, fun W hW => by go_simp⟩) hHeld ?_
                try simp only [Act.put, List.setIfInBounds_toArray, List.set_cons_zero, List.set_cons_succ, List.getElem_toArray, List.getElem_cons_zero, List.getElem_cons_succ]
                refine wpAnyH_take (i := 9) (v := .agg (bytesA q)) rfl (by kernel_rfl) (by kernel_rfl) (by kernel_rfl) (fun _ _ _ h => h) (yieldsIf_load_at (by rfl) 102 _ rfl ⟨g2, j * 32, none⟩ rfl (q.map (Value.int .u8)) _ (fun W hW i v hv => cells_below HP2.out hW i v hv) uArr32 rfl (by rw [VQ.out]; exact arr_info) (bytesA q) rfl) hHeld ?_
                try simp only [Act.put, List.setIfInBounds_toArray, List.set_cons_zero, List.set_cons_succ, List.getElem_toArray, List.getElem_cons_zero, List.getElem_cons_succ]
                refine wpAnyH_ready (rs := [10]) (by kernel_rfl) (by simp) (AllReadyH.cons rfl (fun K' hK => ?_) AllReadyH.nil)
                rw [if_pos (by rfl)]
                refine wp_storeArr rfl 102 _ _ rfl g15 rfl (bytesA p) rfl 102 Z32 HA5D.out (by rw [VP2.out]; exact arr_info) (by rw [VP2.out]; rfl) (bytesA_one p) ?_
                have HB6 : As (Below w3.heap.size w3 (w5.drew.setRow g15 (bytesA p))) := ⟨below_setRow (below_drewN HB5.out 1) (by have := HL4.out; omega) (bytesA p) (g := g15)⟩
                have HA6 := As.mk (setRow_new w5.drew g15 Z32 (bytesA p) _ HA5D.out)
                have HG6 := As.mk ((setRow_far w5.drew g15 g16 (bytesA p) (by have := HL5.out; omega)).trans HG5D.out)
                refine hK.out _ _ HB6.out (fun hHeld => ?_)
                clear hK
                generalize w5.drew.setRow g15 (bytesA p) = w6 at *
                refine wpAnyH_ready (rs := [11]) (by kernel_rfl) (by simp) (AllReadyH.cons rfl (fun K' hK => ?_) AllReadyH.nil)
                rw [if_pos (by rfl)]
                refine wp_storeArr rfl 102 _ _ rfl g16 rfl (bytesA q) rfl 102 Z32 HG6.out (by rw [VQ2.out]; exact arr_info) (by rw [VQ2.out]; rfl) (bytesA_one q) ?_
                have HB7 := As.mk (below_setRow HB6.out (by have := HL4.out; have := HL5.out; omega) (bytesA q) (g := g16))
                have HG7 := As.mk (setRow_new w6 g16 Z32 (bytesA q) _ HG6.out)
                have HA7 := As.mk ((setRow_far w6 g16 g15 (bytesA q) (by have := HL5.out; omega)).trans HA6.out)
                refine hK.out _ _ HB7.out (fun hHeld => ?_)
                clear hK
                generalize w6.setRow g16 (bytesA q) = wz at *
                refine wpAnyH_done (by kernel_rfl) ?_ _
                have HCP : As (∀ i v, (p.map (Value.int .u8))[i]? = some v → wz.cell? ((⟨g15, 0, none⟩ : Addr).add i) = some v) := ⟨row_cells HA7.out⟩
                have HCQ : As (∀ i v, (q.map (Value.int .u8))[i]? = some v → wz.cell? ((⟨g16, 0, none⟩ : Addr).add i) = some v) := ⟨row_cells HG7.out⟩
                have HBz := HB7
                have HCR := As.mk (cells_below H1.out HB7.out)
                have HCS := As.mk (cells_below H2.out HB7.out)
                clear hHeld HL4 HL5 HA5 HG5 HB5 H1 H2 HA5D HG5D HA6 HG6 HB6 HA7 HG7 HB7 HP1 HP2 f1 f2 f3 f4
                cases dp with
                | true =>
                  cases e with
                  | true =>
                    go_wp2
                    refine wp_region_quiet_lit (by kernel_rfl) (by kernel_rfl) ?_
                    repeat (first | go_big_quiet_step (fail) | (go_big_quiet_want; (first | (refine quiet_load_at 102 (.tmp 15) rfl ⟨g15, 0, none⟩ rfl (p.map (Value.int .u8)) _ (fun i v hv => HCP.out i v hv) uArr32 rfl (by rw [VP.out]; exact arr_info) (bytesA p) rfl ?_) | (refine quiet_load_at 102 (.tmp 16) rfl ⟨g16, 0, none⟩ rfl (q.map (Value.int .u8)) _ (fun i v hv => HCQ.out i v hv) uArr32 rfl (by rw [VQ.out]; exact arr_info) (bytesA q) rfl ?_) | (refine quiet_load_at 101 (.tmp 137) rfl (ad.add (i * 6)) rfl (r.map (Value.int .i64)) _ (fun i v hv => HCR.out i v hv) Try.underlying101 rfl (by rw [VR.out]; exact info_rec) (recA r) rfl ?_) | (refine quiet_load_at 101 (.tmp 141) rfl (ad2.add (i * 6)) rfl (r2.map (Value.int .i64)) _ (fun i v hv => HCS.out i v hv) Try.underlying101 rfl (by rw [VR2.out]; exact info_rec) (recA r2) rfl ?_)); (try simp only [Act.put, List.setIfInBounds_toArray, List.set_cons_zero, List.set_cons_succ, List.getElem_toArray, List.getElem_cons_zero, List.getElem_cons_succ]); go_big_quiet_on))
                    refine wpQuiet_nil ?_
                    intro _ hw'
                    obtain ⟨nq, hw''⟩ := hw'
                    subst hw''
                    go_wp2
                    go_roundg (n - (i + 1))
                    case measure => have := HI.out; have := HLT.out; omega
                    case rel =>
                      refine ⟨i + 1, by have := HI.out; have := HLT.out; omega, by go_num, ⟨fun j hj => ?_⟩, ⟨(below_drewN HBz.out nq)⟩⟩
                      rcases Nat.lt_succ_iff_lt_or_eq.1 hj with h | rfl
                      · exact HND.out j h
                      · rw [HCB.out]; rfl
                  | false =>
                    cases mm with
                    | true =>
                      go_wp2
                      refine wp_region_held_drew (S := fun W : World => Below wz.heap.size wz W) (by kernel_rfl) (below_drewN (Below.refl wz.heap.size wz) 1) (fun hHeld => ?_)
                      refine wpAnyH_take (i := 0) (v := .agg (bytesA p)) rfl (by kernel_rfl) (by kernel_rfl) (by kernel_rfl) (fun _ _ _ h => h) (yieldsIf_load_at (by rfl) 102 _ rfl ⟨g15, 0, none⟩ rfl (p.map (Value.int .u8)) _ (fun W hW i v hv => cells_below HCP.out hW i v hv) uArr32 rfl (by rw [VP.out]; exact arr_info) (bytesA p) rfl) hHeld ?_
                      try simp only [Act.put, List.setIfInBounds_toArray, List.set_cons_zero, List.set_cons_succ, List.getElem_toArray, List.getElem_cons_zero, List.getElem_cons_succ]
                      refine wpAnyH_take (i := 1) (v := .agg (bytesA q)) rfl (by kernel_rfl) (by kernel_rfl) (by kernel_rfl) (fun _ _ _ h => h) (yieldsIf_load_at (by rfl) 102 _ rfl ⟨g16, 0, none⟩ rfl (q.map (Value.int .u8)) _ (fun W hW i v hv => cells_below HCQ.out hW i v hv) uArr32 rfl (by rw [VQ.out]; exact arr_info) (bytesA q) rfl) hHeld ?_
                      try simp only [Act.put, List.setIfInBounds_toArray, List.set_cons_zero, List.set_cons_succ, List.getElem_toArray, List.getElem_cons_zero, List.getElem_cons_succ]
                      refine wpAnyH_take (i := 2) (v := .bool false) rfl (by kernel_rfl) (by kernel_rfl) (by kernel_rfl) (fun _ _ _ h => h) (Or.inl ⟨by rfl, fun W hW => by go_simp⟩) hHeld ?_
                      try simp only [Act.put, List.setIfInBounds_toArray, List.set_cons_zero, List.set_cons_succ, List.getElem_toArray, List.getElem_cons_zero, List.getElem_cons_succ]
                      refine wpAnyH_take (i := 3) (v := .bool false) rfl (by kernel_rfl) (by kernel_rfl) (by kernel_rfl) (fun _ _ _ h => h) (Or.inl ⟨by rfl, fun W hW => by go_simp⟩) hHeld ?_
                      try simp only [Act.put, List.setIfInBounds_toArray, List.set_cons_zero, List.set_cons_succ, List.getElem_toArray, List.getElem_cons_zero, List.getElem_cons_succ]
                      refine wpAnyH_take (i := 4) (v := .slice (some ad) n d) rfl (by kernel_rfl) (by kernel_rfl) (by kernel_rfl) (fun _ _ _ h => h) (Or.inl ⟨by rfl, fun W hW => by go_simp⟩) hHeld ?_
                      try simp only [Act.put, List.setIfInBounds_toArray, List.set_cons_zero, List.set_cons_succ, List.getElem_toArray, List.getElem_cons_zero, List.getElem_cons_succ]
                      refine wpAnyH_take (i := 5) (v := .int .i64 (i : Int)) rfl (by kernel_rfl) (by kernel_rfl) (by kernel_rfl) (fun _ _ _ h => h) (Or.inl ⟨by rfl, fun W hW => by go_simp⟩) hHeld ?_
                      try simp only [Act.put, List.setIfInBounds_toArray, List.set_cons_zero, List.set_cons_succ, List.getElem_toArray, List.getElem_cons_zero, List.getElem_cons_succ]
                      refine wpAnyH_take (i := 6) (v := .pointer (some (ad.add (i * 6)))) rfl (by kernel_rfl) (by kernel_rfl) (by kernel_rfl) (fun _ _ _ h => h) (Or.inl ⟨by rfl, fun W hW => by go_simp⟩) hHeld ?_
                      try simp only [Act.put, List.setIfInBounds_toArray, List.set_cons_zero, List.set_cons_succ, List.getElem_toArray, List.getElem_cons_zero, List.getElem_cons_succ]
                      refine wpAnyH_take (i := 7) (v := .agg (recA r)) rfl (by kernel_rfl) (by kernel_rfl) (by kernel_rfl) (fun _ _ _ h => h) (yieldsIf_load_at (by rfl) 101 _ rfl (ad.add (i * 6)) rfl (r.map (Value.int .i64)) _ (fun W hW i v hv => cells_below HCR.out hW i v hv) Try.underlying101 rfl (by rw [VR.out]; exact info_rec) (recA r) rfl) hHeld ?_
                      try simp only [Act.put, List.setIfInBounds_toArray, List.set_cons_zero, List.set_cons_succ, List.getElem_toArray, List.getElem_cons_zero, List.getElem_cons_succ]
                      refine wpAnyH_take (i := 8) (v := .slice (some ad2) n f) rfl (by kernel_rfl) (by kernel_rfl) (by kernel_rfl) (fun _ _ _ h => h) (Or.inl ⟨by rfl, fun W hW => by go_simp⟩) hHeld ?_
                      try simp only [Act.put, List.setIfInBounds_toArray, List.set_cons_zero, List.set_cons_succ, List.getElem_toArray, List.getElem_cons_zero, List.getElem_cons_succ]
                      refine wpAnyH_take (i := 9) (v := .int .i64 (i : Int)) rfl (by kernel_rfl) (by kernel_rfl) (by kernel_rfl) (fun _ _ _ h => h) (Or.inl ⟨by rfl, fun W hW => by go_simp⟩) hHeld ?_
                      try simp only [Act.put, List.setIfInBounds_toArray, List.set_cons_zero, List.set_cons_succ, List.getElem_toArray, List.getElem_cons_zero, List.getElem_cons_succ]
                      refine wpAnyH_take (i := 10) (v := .pointer (some (ad2.add (i * 6)))) rfl (by kernel_rfl) (by kernel_rfl) (by kernel_rfl) (fun _ _ _ h => h) (Or.inl ⟨by rfl, fun W hW => by go_simp⟩) hHeld ?_
                      try simp only [Act.put, List.setIfInBounds_toArray, List.set_cons_zero, List.set_cons_succ, List.getElem_toArray, List.getElem_cons_zero, List.getElem_cons_succ]
                      refine wpAnyH_take (i := 11) (v := .agg (recA r2)) rfl (by kernel_rfl) (by kernel_rfl) (by kernel_rfl) (fun _ _ _ h => h) (yieldsIf_load_at (by rfl) 101 _ rfl (ad2.add (i * 6)) rfl (r2.map (Value.int .i64)) _ (fun W hW i v hv => cells_below HCS.out hW i v hv) Try.underlying101 rfl (by rw [VR2.out]; exact info_rec) (recA r2) rfl) hHeld ?_
                      try simp only [Act.put, List.setIfInBounds_toArray, List.set_cons_zero, List.set_cons_succ, List.getElem_toArray, List.getElem_cons_zero, List.getElem_cons_succ]
                      refine wpAnyH_take (i := 12) (v := .bool true) rfl (by kernel_rfl) (by kernel_rfl) (by kernel_rfl) (fun _ _ _ h => h) (Or.inl ⟨by rfl, fun W hW => by go_simp⟩) hHeld ?_
                      try simp only [Act.put, List.setIfInBounds_toArray, List.set_cons_zero, List.set_cons_succ, List.getElem_toArray, List.getElem_cons_zero, List.getElem_cons_succ]
                      refine wpAnyH_take (i := 13) (v := .bool true) rfl (by kernel_rfl) (by kernel_rfl) (by kernel_rfl) (fun _ _ _ h => h) (Or.inl ⟨by rfl, fun W hW => by go_simp⟩) hHeld ?_
                      try simp only [Act.put, List.setIfInBounds_toArray, List.set_cons_zero, List.set_cons_succ, List.getElem_toArray, List.getElem_cons_zero, List.getElem_cons_succ]
                      refine wpAnyH_take (i := 14) (v := .bool true) rfl (by kernel_rfl) (by kernel_rfl) (by kernel_rfl) (fun _ _ _ h => h) (Or.inl ⟨by rfl, fun W hW => by go_simp⟩) hHeld ?_
                      try simp only [Act.put, List.setIfInBounds_toArray, List.set_cons_zero, List.set_cons_succ, List.getElem_toArray, List.getElem_cons_zero, List.getElem_cons_succ]
                      refine wpAnyH_take (i := 15) (v := .slice A s c) rfl (by kernel_rfl) (by kernel_rfl) (by kernel_rfl) (fun _ _ _ h => h) (Or.inl ⟨by rfl, fun W hW => by go_simp⟩) hHeld ?_
                      try simp only [Act.put, List.setIfInBounds_toArray, List.set_cons_zero, List.set_cons_succ, List.getElem_toArray, List.getElem_cons_zero, List.getElem_cons_succ]
                      refine wpAnyH_take (i := 16) (v := .agg (bytesA p)) rfl (by kernel_rfl) (by kernel_rfl) (by kernel_rfl) (fun _ _ _ h => h) (yieldsIf_load_at (by rfl) 102 _ rfl ⟨g15, 0, none⟩ rfl (p.map (Value.int .u8)) _ (fun W hW i v hv => cells_below HCP.out hW i v hv) uArr32 rfl (by rw [VP.out]; exact arr_info) (bytesA p) rfl) hHeld ?_
                      try simp only [Act.put, List.setIfInBounds_toArray, List.set_cons_zero, List.set_cons_succ, List.getElem_toArray, List.getElem_cons_zero, List.getElem_cons_succ]
                      refine wpAnyH_take (i := 17) (v := .slice (some ad) n d) rfl (by kernel_rfl) (by kernel_rfl) (by kernel_rfl) (fun _ _ _ h => h) (Or.inl ⟨by rfl, fun W hW => by go_simp⟩) hHeld ?_
                      try simp only [Act.put, List.setIfInBounds_toArray, List.set_cons_zero, List.set_cons_succ, List.getElem_toArray, List.getElem_cons_zero, List.getElem_cons_succ]
                      refine wpAnyH_take (i := 18) (v := .int .i64 (i : Int)) rfl (by kernel_rfl) (by kernel_rfl) (by kernel_rfl) (fun _ _ _ h => h) (Or.inl ⟨by rfl, fun W hW => by go_simp⟩) hHeld ?_
                      try simp only [Act.put, List.setIfInBounds_toArray, List.set_cons_zero, List.set_cons_succ, List.getElem_toArray, List.getElem_cons_zero, List.getElem_cons_succ]
                      refine wpAnyH_take (i := 19) (v := .pointer (some (ad.add (i * 6)))) rfl (by kernel_rfl) (by kernel_rfl) (by kernel_rfl) (fun _ _ _ h => h) (Or.inl ⟨by rfl, fun W hW => by go_simp⟩) hHeld ?_
                      try simp only [Act.put, List.setIfInBounds_toArray, List.set_cons_zero, List.set_cons_succ, List.getElem_toArray, List.getElem_cons_zero, List.getElem_cons_succ]
                      refine wpAnyH_take (i := 20) (v := .agg (recA r)) rfl (by kernel_rfl) (by kernel_rfl) (by kernel_rfl) (fun _ _ _ h => h) (yieldsIf_load_at (by rfl) 101 _ rfl (ad.add (i * 6)) rfl (r.map (Value.int .i64)) _ (fun W hW i v hv => cells_below HCR.out hW i v hv) Try.underlying101 rfl (by rw [VR.out]; exact info_rec) (recA r) rfl) hHeld ?_
                      try simp only [Act.put, List.setIfInBounds_toArray, List.set_cons_zero, List.set_cons_succ, List.getElem_toArray, List.getElem_cons_zero, List.getElem_cons_succ]
                      refine wpAnyH_take (i := 22) (v := .slice A s c) rfl (by kernel_rfl) (by kernel_rfl) (by kernel_rfl) (fun _ _ _ h => h) (Or.inl ⟨by rfl, fun W hW => by go_simp⟩) hHeld ?_
                      try simp only [Act.put, List.setIfInBounds_toArray, List.set_cons_zero, List.set_cons_succ, List.getElem_toArray, List.getElem_cons_zero, List.getElem_cons_succ]
                      refine wpAnyH_take (i := 23) (v := .agg (bytesA q)) rfl (by kernel_rfl) (by kernel_rfl) (by kernel_rfl) (fun _ _ _ h => h) (yieldsIf_load_at (by rfl) 102 _ rfl ⟨g16, 0, none⟩ rfl (q.map (Value.int .u8)) _ (fun W hW i v hv => cells_below HCQ.out hW i v hv) uArr32 rfl (by rw [VQ.out]; exact arr_info) (bytesA q) rfl) hHeld ?_
                      try simp only [Act.put, List.setIfInBounds_toArray, List.set_cons_zero, List.set_cons_succ, List.getElem_toArray, List.getElem_cons_zero, List.getElem_cons_succ]
                      refine wpAnyH_take (i := 24) (v := .slice (some ad2) n f) rfl (by kernel_rfl) (by kernel_rfl) (by kernel_rfl) (fun _ _ _ h => h) (Or.inl ⟨by rfl, fun W hW => by go_simp⟩) hHeld ?_
                      try simp only [Act.put, List.setIfInBounds_toArray, List.set_cons_zero, List.set_cons_succ, List.getElem_toArray, List.getElem_cons_zero, List.getElem_cons_succ]
                      refine wpAnyH_take (i := 25) (v := .int .i64 (i : Int)) rfl (by kernel_rfl) (by kernel_rfl) (by kernel_rfl) (fun _ _ _ h => h) (Or.inl ⟨by rfl, fun W hW => by go_simp⟩) hHeld ?_
                      try simp only [Act.put, List.setIfInBounds_toArray, List.set_cons_zero, List.set_cons_succ, List.getElem_toArray, List.getElem_cons_zero, List.getElem_cons_succ]
                      refine wpAnyH_take (i := 26) (v := .pointer (some (ad2.add (i * 6)))) rfl (by kernel_rfl) (by kernel_rfl) (by kernel_rfl) (fun _ _ _ h => h) (Or.inl ⟨by rfl, fun W hW => by go_simp⟩) hHeld ?_
                      try simp only [Act.put, List.setIfInBounds_toArray, List.set_cons_zero, List.set_cons_succ, List.getElem_toArray, List.getElem_cons_zero, List.getElem_cons_succ]
                      refine wpAnyH_take (i := 27) (v := .agg (recA r2)) rfl (by kernel_rfl) (by kernel_rfl) (by kernel_rfl) (fun _ _ _ h => h) (yieldsIf_load_at (by rfl) 101 _ rfl (ad2.add (i * 6)) rfl (r2.map (Value.int .i64)) _ (fun W hW i v hv => cells_below HCS.out hW i v hv) Try.underlying101 rfl (by rw [VR2.out]; exact info_rec) (recA r2) rfl) hHeld ?_
                      try simp only [Act.put, List.setIfInBounds_toArray, List.set_cons_zero, List.set_cons_succ, List.getElem_toArray, List.getElem_cons_zero, List.getElem_cons_succ]
                      refine wpAnyH_ready (rs := [21]) (by kernel_rfl) (by simp) (AllReadyH.cons rfl (fun K' hK => ?_) AllReadyH.nil)
                      go_simp
                      refine (rnext_ok key HK.out A s c (by have := HSC.out; omega) p HPL.out HPB.out r HXL.out HOK.out _ (H3.out.below (below_drewN HBz.out 1)) L1 HL1.out).mono ?_
                      rintro e wu ⟨rfl, hbu⟩
                      have HBu := As.mk (below_step (below_drewN (Below.refl wz.heap.size wz) 1) hbu)
                      clear hbu
                      refine hK.out _ _ HBu.out (fun hHeld => ?_)
                      clear hK
                      try simp only [Act.put, List.setIfInBounds_toArray, List.set_cons_zero, List.set_cons_succ, List.getElem_toArray, List.getElem_cons_zero, List.getElem_cons_succ]
                      refine wpAnyH_ready (rs := [28]) (by kernel_rfl) (by simp) (AllReadyH.cons rfl (fun K' hK => ?_) AllReadyH.nil)
                      go_simp
                      refine (rnext_ok key HK.out A s c (by have := HSC.out; omega) q HQL.out HQB.out r2 HYL.out HOK2.out _ (H3.out.below (below_step HBz.out HBu.out)) L2 HL2.out).mono ?_
                      rintro e wv ⟨rfl, hbv⟩
                      have HBv := As.mk (below_step HBu.out hbv)
                      clear hbv
                      refine hK.out _ _ HBv.out (fun hHeld => ?_)
                      clear hK
                      try simp only [Act.put, List.setIfInBounds_toArray, List.set_cons_zero, List.set_cons_succ, List.getElem_toArray, List.getElem_cons_zero, List.getElem_cons_succ]
                      refine wpAnyH_take (i := 29) (v := .bool true) rfl (by kernel_rfl) (by kernel_rfl) (by kernel_rfl) (fun _ _ _ h => h) (Or.inl ⟨by rfl, fun W hW => by go_simp⟩) hHeld ?_
                      try simp only [Act.put, List.setIfInBounds_toArray, List.set_cons_zero, List.set_cons_succ, List.getElem_toArray, List.getElem_cons_zero, List.getElem_cons_succ]
                      refine wpAnyH_take (i := 30) (v := .bool true) rfl (by kernel_rfl) (by kernel_rfl) (by kernel_rfl) (fun _ _ _ h => h) (Or.inl ⟨by rfl, fun W hW => by go_simp⟩) hHeld ?_
                      try simp only [Act.put, List.setIfInBounds_toArray, List.set_cons_zero, List.set_cons_succ, List.getElem_toArray, List.getElem_cons_zero, List.getElem_cons_succ]
                      refine wpAnyH_done (by kernel_rfl) ?_ _
                      go_wp2
                      go_ret
                      exact ⟨rfl, below_step HB3.out (below_step HBz.out HBv.out)⟩
                    | false =>
                      go_wp2
                      refine wp_region_held_drew (S := fun W : World => Below wz.heap.size wz W) (by kernel_rfl) (below_drewN (Below.refl wz.heap.size wz) 1) (fun hHeld => ?_)
                      refine wpAnyH_take (i := 0) (v := .agg (bytesA p)) rfl (by kernel_rfl) (by kernel_rfl) (by kernel_rfl) (fun _ _ _ h => h) (yieldsIf_load_at (by rfl) 102 _ rfl ⟨g15, 0, none⟩ rfl (p.map (Value.int .u8)) _ (fun W hW i v hv => cells_below HCP.out hW i v hv) uArr32 rfl (by rw [VP.out]; exact arr_info) (bytesA p) rfl) hHeld ?_
                      try simp only [Act.put, List.setIfInBounds_toArray, List.set_cons_zero, List.set_cons_succ, List.getElem_toArray, List.getElem_cons_zero, List.getElem_cons_succ]
                      refine wpAnyH_take (i := 1) (v := .agg (bytesA q)) rfl (by kernel_rfl) (by kernel_rfl) (by kernel_rfl) (fun _ _ _ h => h) (yieldsIf_load_at (by rfl) 102 _ rfl ⟨g16, 0, none⟩ rfl (q.map (Value.int .u8)) _ (fun W hW i v hv => cells_below HCQ.out hW i v hv) uArr32 rfl (by rw [VQ.out]; exact arr_info) (bytesA q) rfl) hHeld ?_
                      try simp only [Act.put, List.setIfInBounds_toArray, List.set_cons_zero, List.set_cons_succ, List.getElem_toArray, List.getElem_cons_zero, List.getElem_cons_succ]
                      refine wpAnyH_take (i := 2) (v := .bool false) rfl (by kernel_rfl) (by kernel_rfl) (by kernel_rfl) (fun _ _ _ h => h) (Or.inl ⟨by rfl, fun W hW => by go_simp⟩) hHeld ?_
                      try simp only [Act.put, List.setIfInBounds_toArray, List.set_cons_zero, List.set_cons_succ, List.getElem_toArray, List.getElem_cons_zero, List.getElem_cons_succ]
                      refine wpAnyH_take (i := 3) (v := .bool false) rfl (by kernel_rfl) (by kernel_rfl) (by kernel_rfl) (fun _ _ _ h => h) (Or.inl ⟨by rfl, fun W hW => by go_simp⟩) hHeld ?_
                      try simp only [Act.put, List.setIfInBounds_toArray, List.set_cons_zero, List.set_cons_succ, List.getElem_toArray, List.getElem_cons_zero, List.getElem_cons_succ]
                      refine wpAnyH_take (i := 4) (v := .slice (some ad) n d) rfl (by kernel_rfl) (by kernel_rfl) (by kernel_rfl) (fun _ _ _ h => h) (Or.inl ⟨by rfl, fun W hW => by go_simp⟩) hHeld ?_
                      try simp only [Act.put, List.setIfInBounds_toArray, List.set_cons_zero, List.set_cons_succ, List.getElem_toArray, List.getElem_cons_zero, List.getElem_cons_succ]
                      refine wpAnyH_take (i := 5) (v := .int .i64 (i : Int)) rfl (by kernel_rfl) (by kernel_rfl) (by kernel_rfl) (fun _ _ _ h => h) (Or.inl ⟨by rfl, fun W hW => by go_simp⟩) hHeld ?_
                      try simp only [Act.put, List.setIfInBounds_toArray, List.set_cons_zero, List.set_cons_succ, List.getElem_toArray, List.getElem_cons_zero, List.getElem_cons_succ]
                      refine wpAnyH_take (i := 6) (v := .pointer (some (ad.add (i * 6)))) rfl (by kernel_rfl) (by kernel_rfl) (by kernel_rfl) (fun _ _ _ h => h) (Or.inl ⟨by rfl, fun W hW => by go_simp⟩) hHeld ?_
                      try simp only [Act.put, List.setIfInBounds_toArray, List.set_cons_zero, List.set_cons_succ, List.getElem_toArray, List.getElem_cons_zero, List.getElem_cons_succ]
                      refine wpAnyH_take (i := 7) (v := .agg (recA r)) rfl (by kernel_rfl) (by kernel_rfl) (by kernel_rfl) (fun _ _ _ h => h) (yieldsIf_load_at (by rfl) 101 _ rfl (ad.add (i * 6)) rfl (r.map (Value.int .i64)) _ (fun W hW i v hv => cells_below HCR.out hW i v hv) Try.underlying101 rfl (by rw [VR.out]; exact info_rec) (recA r) rfl) hHeld ?_
                      try simp only [Act.put, List.setIfInBounds_toArray, List.set_cons_zero, List.set_cons_succ, List.getElem_toArray, List.getElem_cons_zero, List.getElem_cons_succ]
                      refine wpAnyH_take (i := 8) (v := .slice (some ad2) n f) rfl (by kernel_rfl) (by kernel_rfl) (by kernel_rfl) (fun _ _ _ h => h) (Or.inl ⟨by rfl, fun W hW => by go_simp⟩) hHeld ?_
                      try simp only [Act.put, List.setIfInBounds_toArray, List.set_cons_zero, List.set_cons_succ, List.getElem_toArray, List.getElem_cons_zero, List.getElem_cons_succ]
                      refine wpAnyH_take (i := 9) (v := .int .i64 (i : Int)) rfl (by kernel_rfl) (by kernel_rfl) (by kernel_rfl) (fun _ _ _ h => h) (Or.inl ⟨by rfl, fun W hW => by go_simp⟩) hHeld ?_
                      try simp only [Act.put, List.setIfInBounds_toArray, List.set_cons_zero, List.set_cons_succ, List.getElem_toArray, List.getElem_cons_zero, List.getElem_cons_succ]
                      refine wpAnyH_take (i := 10) (v := .pointer (some (ad2.add (i * 6)))) rfl (by kernel_rfl) (by kernel_rfl) (by kernel_rfl) (fun _ _ _ h => h) (Or.inl ⟨by rfl, fun W hW => by go_simp⟩) hHeld ?_
                      try simp only [Act.put, List.setIfInBounds_toArray, List.set_cons_zero, List.set_cons_succ, List.getElem_toArray, List.getElem_cons_zero, List.getElem_cons_succ]
                      refine wpAnyH_take (i := 11) (v := .agg (recA r2)) rfl (by kernel_rfl) (by kernel_rfl) (by kernel_rfl) (fun _ _ _ h => h) (yieldsIf_load_at (by rfl) 101 _ rfl (ad2.add (i * 6)) rfl (r2.map (Value.int .i64)) _ (fun W hW i v hv => cells_below HCS.out hW i v hv) Try.underlying101 rfl (by rw [VR2.out]; exact info_rec) (recA r2) rfl) hHeld ?_
                      try simp only [Act.put, List.setIfInBounds_toArray, List.set_cons_zero, List.set_cons_succ, List.getElem_toArray, List.getElem_cons_zero, List.getElem_cons_succ]
                      refine wpAnyH_take (i := 12) (v := .bool true) rfl (by kernel_rfl) (by kernel_rfl) (by kernel_rfl) (fun _ _ _ h => h) (Or.inl ⟨by rfl, fun W hW => by go_simp⟩) hHeld ?_
                      try simp only [Act.put, List.setIfInBounds_toArray, List.set_cons_zero, List.set_cons_succ, List.getElem_toArray, List.getElem_cons_zero, List.getElem_cons_succ]
                      refine wpAnyH_take (i := 13) (v := .bool true) rfl (by kernel_rfl) (by kernel_rfl) (by kernel_rfl) (fun _ _ _ h => h) (Or.inl ⟨by rfl, fun W hW => by go_simp⟩) hHeld ?_
                      try simp only [Act.put, List.setIfInBounds_toArray, List.set_cons_zero, List.set_cons_succ, List.getElem_toArray, List.getElem_cons_zero, List.getElem_cons_succ]
                      refine wpAnyH_take (i := 14) (v := .bool true) rfl (by kernel_rfl) (by kernel_rfl) (by kernel_rfl) (fun _ _ _ h => h) (Or.inl ⟨by rfl, fun W hW => by go_simp⟩) hHeld ?_
                      try simp only [Act.put, List.setIfInBounds_toArray, List.set_cons_zero, List.set_cons_succ, List.getElem_toArray, List.getElem_cons_zero, List.getElem_cons_succ]
                      refine wpAnyH_take (i := 15) (v := .slice A s c) rfl (by kernel_rfl) (by kernel_rfl) (by kernel_rfl) (fun _ _ _ h => h) (Or.inl ⟨by rfl, fun W hW => by go_simp⟩) hHeld ?_
                      try simp only [Act.put, List.setIfInBounds_toArray, List.set_cons_zero, List.set_cons_succ, List.getElem_toArray, List.getElem_cons_zero, List.getElem_cons_succ]
                      refine wpAnyH_take (i := 16) (v := .agg (bytesA p)) rfl (by kernel_rfl) (by kernel_rfl) (by kernel_rfl) (fun _ _ _ h => h) (yieldsIf_load_at (by rfl) 102 _ rfl ⟨g15, 0, none⟩ rfl (p.map (Value.int .u8)) _ (fun W hW i v hv => cells_below HCP.out hW i v hv) uArr32 rfl (by rw [VP.out]; exact arr_info) (bytesA p) rfl) hHeld ?_
                      try simp only [Act.put, List.setIfInBounds_toArray, List.set_cons_zero, List.set_cons_succ, List.getElem_toArray, List.getElem_cons_zero, List.getElem_cons_succ]
                      refine wpAnyH_take (i := 17) (v := .slice (some ad) n d) rfl (by kernel_rfl) (by kernel_rfl) (by kernel_rfl) (fun _ _ _ h => h) (Or.inl ⟨by rfl, fun W hW => by go_simp⟩) hHeld ?_
                      try simp only [Act.put, List.setIfInBounds_toArray, List.set_cons_zero, List.set_cons_succ, List.getElem_toArray, List.getElem_cons_zero, List.getElem_cons_succ]
                      refine wpAnyH_take (i := 18) (v := .int .i64 (i : Int)) rfl (by kernel_rfl) (by kernel_rfl) (by kernel_rfl) (fun _ _ _ h => h) (Or.inl ⟨by rfl, fun W hW => by go_simp⟩) hHeld ?_
                      try simp only [Act.put, List.setIfInBounds_toArray, List.set_cons_zero, List.set_cons_succ, List.getElem_toArray, List.getElem_cons_zero, List.getElem_cons_succ]
                      refine wpAnyH_take (i := 19) (v := .pointer (some (ad.add (i * 6)))) rfl (by kernel_rfl) (by kernel_rfl) (by kernel_rfl) (fun _ _ _ h => h) (Or.inl ⟨by rfl, fun W hW => by go_simp⟩) hHeld ?_
                      try simp only [Act.put, List.setIfInBounds_toArray, List.set_cons_zero, List.set_cons_succ, List.getElem_toArray, List.getElem_cons_zero, List.getElem_cons_succ]
                      refine wpAnyH_take (i := 20) (v := .agg (recA r)) rfl (by kernel_rfl) (by kernel_rfl) (by kernel_rfl) (fun _ _ _ h => h) (yieldsIf_load_at (by rfl) 101 _ rfl (ad.add (i * 6)) rfl (r.map (Value.int .i64)) _ (fun W hW i v hv => cells_below HCR.out hW i v hv) Try.underlying101 rfl (by rw [VR.out]; exact info_rec) (recA r) rfl) hHeld ?_
                      try simp only [Act.put, List.setIfInBounds_toArray, List.set_cons_zero, List.set_cons_succ, List.getElem_toArray, List.getElem_cons_zero, List.getElem_cons_succ]
                      refine wpAnyH_take (i := 22) (v := .slice A s c) rfl (by kernel_rfl) (by kernel_rfl) (by kernel_rfl) (fun _ _ _ h => h) (Or.inl ⟨by rfl, fun W hW => by go_simp⟩) hHeld ?_
                      try simp only [Act.put, List.setIfInBounds_toArray, List.set_cons_zero, List.set_cons_succ, List.getElem_toArray, List.getElem_cons_zero, List.getElem_cons_succ]
                      refine wpAnyH_take (i := 23) (v := .agg (bytesA q)) rfl (by kernel_rfl) (by kernel_rfl) (by kernel_rfl) (fun _ _ _ h => h) (yieldsIf_load_at (by rfl) 102 _ rfl ⟨g16, 0, none⟩ rfl (q.map (Value.int .u8)) _ (fun W hW i v hv => cells_below HCQ.out hW i v hv) uArr32 rfl (by rw [VQ.out]; exact arr_info) (bytesA q) rfl) hHeld ?_
                      try simp only [Act.put, List.setIfInBounds_toArray, List.set_cons_zero, List.set_cons_succ, List.getElem_toArray, List.getElem_cons_zero, List.getElem_cons_succ]
                      refine wpAnyH_take (i := 24) (v := .slice (some ad2) n f) rfl (by kernel_rfl) (by kernel_rfl) (by kernel_rfl) (fun _ _ _ h => h) (Or.inl ⟨by rfl, fun W hW => by go_simp⟩) hHeld ?_
                      try simp only [Act.put, List.setIfInBounds_toArray, List.set_cons_zero, List.set_cons_succ, List.getElem_toArray, List.getElem_cons_zero, List.getElem_cons_succ]
                      refine wpAnyH_take (i := 25) (v := .int .i64 (i : Int)) rfl (by kernel_rfl) (by kernel_rfl) (by kernel_rfl) (fun _ _ _ h => h) (Or.inl ⟨by rfl, fun W hW => by go_simp⟩) hHeld ?_
                      try simp only [Act.put, List.setIfInBounds_toArray, List.set_cons_zero, List.set_cons_succ, List.getElem_toArray, List.getElem_cons_zero, List.getElem_cons_succ]
                      refine wpAnyH_take (i := 26) (v := .pointer (some (ad2.add (i * 6)))) rfl (by kernel_rfl) (by kernel_rfl) (by kernel_rfl) (fun _ _ _ h => h) (Or.inl ⟨by rfl, fun W hW => by go_simp⟩) hHeld ?_
                      try simp only [Act.put, List.setIfInBounds_toArray, List.set_cons_zero, List.set_cons_succ, List.getElem_toArray, List.getElem_cons_zero, List.getElem_cons_succ]
                      refine wpAnyH_take (i := 27) (v := .agg (recA r2)) rfl (by kernel_rfl) (by kernel_rfl) (by kernel_rfl) (fun _ _ _ h => h) (yieldsIf_load_at (by rfl) 101 _ rfl (ad2.add (i * 6)) rfl (r2.map (Value.int .i64)) _ (fun W hW i v hv => cells_below HCS.out hW i v hv) Try.underlying101 rfl (by rw [VR2.out]; exact info_rec) (recA r2) rfl) hHeld ?_
                      try simp only [Act.put, List.setIfInBounds_toArray, List.set_cons_zero, List.set_cons_succ, List.getElem_toArray, List.getElem_cons_zero, List.getElem_cons_succ]
                      refine wpAnyH_ready (rs := [21]) (by kernel_rfl) (by simp) (AllReadyH.cons rfl (fun K' hK => ?_) AllReadyH.nil)
                      go_simp
                      refine (rnext_ok key HK.out A s c (by have := HSC.out; omega) p HPL.out HPB.out r HXL.out HOK.out _ (H3.out.below (below_drewN HBz.out 1)) L1 HL1.out).mono ?_
                      rintro e wu ⟨rfl, hbu⟩
                      have HBu := As.mk (below_step (below_drewN (Below.refl wz.heap.size wz) 1) hbu)
                      clear hbu
                      refine hK.out _ _ HBu.out (fun hHeld => ?_)
                      clear hK
                      try simp only [Act.put, List.setIfInBounds_toArray, List.set_cons_zero, List.set_cons_succ, List.getElem_toArray, List.getElem_cons_zero, List.getElem_cons_succ]
                      refine wpAnyH_ready (rs := [28]) (by kernel_rfl) (by simp) (AllReadyH.cons rfl (fun K' hK => ?_) AllReadyH.nil)
                      go_simp
                      refine (rnext_ok key HK.out A s c (by have := HSC.out; omega) q HQL.out HQB.out r2 HYL.out HOK2.out _ (H3.out.below (below_step HBz.out HBu.out)) L2 HL2.out).mono ?_
                      rintro e wv ⟨rfl, hbv⟩
                      have HBv := As.mk (below_step HBu.out hbv)
                      clear hbv
                      refine hK.out _ _ HBv.out (fun hHeld => ?_)
                      clear hK
                      try simp only [Act.put, List.setIfInBounds_toArray, List.set_cons_zero, List.set_cons_succ, List.getElem_toArray, List.getElem_cons_zero, List.getElem_cons_succ]
                      refine wpAnyH_take (i := 29) (v := .bool false) rfl (by kernel_rfl) (by kernel_rfl) (by kernel_rfl) (fun _ _ _ h => h) (Or.inl ⟨by rfl, fun W hW => by go_simp⟩) hHeld ?_
                      try simp only [Act.put, List.setIfInBounds_toArray, List.set_cons_zero, List.set_cons_succ, List.getElem_toArray, List.getElem_cons_zero, List.getElem_cons_succ]
                      refine wpAnyH_take (i := 30) (v := .bool false) rfl (by kernel_rfl) (by kernel_rfl) (by kernel_rfl) (fun _ _ _ h => h) (Or.inl ⟨by rfl, fun W hW => by go_simp⟩) hHeld ?_
                      try simp only [Act.put, List.setIfInBounds_toArray, List.set_cons_zero, List.set_cons_succ, List.getElem_toArray, List.getElem_cons_zero, List.getElem_cons_succ]
                      refine wpAnyH_done (by kernel_rfl) ?_ _
                      go_wp2
                      go_roundg (n - (i + 1))
                      case measure => have := HI.out; have := HLT.out; omega
                      case rel =>
                        refine ⟨i + 1, by have := HI.out; have := HLT.out; omega, by go_num, ⟨fun j hj => ?_⟩, ⟨(below_step HBz.out HBv.out)⟩⟩
                        rcases Nat.lt_succ_iff_lt_or_eq.1 hj with h | rfl
                        · exact HND.out j h
                        · rw [HCB.out]; rfl
                | false =>
                  cases mm with
                  | true =>
                    go_wp2
                    refine wp_region_held_drew (S := fun W : World => Below wz.heap.size wz W) (by kernel_rfl) (below_drewN (Below.refl wz.heap.size wz) 1) (fun hHeld => ?_)
                    refine wpAnyH_take (i := 0) (v := .agg (bytesA p)) rfl (by kernel_rfl) (by kernel_rfl) (by kernel_rfl) (fun _ _ _ h => h) (yieldsIf_load_at (by rfl) 102 _ rfl ⟨g15, 0, none⟩ rfl (p.map (Value.int .u8)) _ (fun W hW i v hv => cells_below HCP.out hW i v hv) uArr32 rfl (by rw [VP.out]; exact arr_info) (bytesA p) rfl) hHeld ?_
                    try simp only [Act.put, List.setIfInBounds_toArray, List.set_cons_zero, List.set_cons_succ, List.getElem_toArray, List.getElem_cons_zero, List.getElem_cons_succ]
                    refine wpAnyH_take (i := 1) (v := .agg (bytesA q)) rfl (by kernel_rfl) (by kernel_rfl) (by kernel_rfl) (fun _ _ _ h => h) (yieldsIf_load_at (by rfl) 102 _ rfl ⟨g16, 0, none⟩ rfl (q.map (Value.int .u8)) _ (fun W hW i v hv => cells_below HCQ.out hW i v hv) uArr32 rfl (by rw [VQ.out]; exact arr_info) (bytesA q) rfl) hHeld ?_
                    try simp only [Act.put, List.setIfInBounds_toArray, List.set_cons_zero, List.set_cons_succ, List.getElem_toArray, List.getElem_cons_zero, List.getElem_cons_succ]
                    refine wpAnyH_take (i := 2) (v := .bool true) rfl (by kernel_rfl) (by kernel_rfl) (by kernel_rfl) (fun _ _ _ h => h) (Or.inl ⟨by rfl, fun W hW => by go_simp⟩) hHeld ?_
                    try simp only [Act.put, List.setIfInBounds_toArray, List.set_cons_zero, List.set_cons_succ, List.getElem_toArray, List.getElem_cons_zero, List.getElem_cons_succ]
                    refine wpAnyH_take (i := 3) (v := .bool true) rfl (by kernel_rfl) (by kernel_rfl) (by kernel_rfl) (fun _ _ _ h => h) (Or.inl ⟨by rfl, fun W hW => by go_simp⟩) hHeld ?_
                    try simp only [Act.put, List.setIfInBounds_toArray, List.set_cons_zero, List.set_cons_succ, List.getElem_toArray, List.getElem_cons_zero, List.getElem_cons_succ]
                    refine wpAnyH_take (i := 4) (v := undef) rfl (by kernel_rfl) (by kernel_rfl) (by kernel_rfl) (fun _ _ _ h => h) (Or.inr ⟨by rfl, rfl⟩) hHeld ?_
                    try simp only [Act.put, List.setIfInBounds_toArray, List.set_cons_zero, List.set_cons_succ, List.getElem_toArray, List.getElem_cons_zero, List.getElem_cons_succ]
                    refine wpAnyH_take (i := 5) (v := undef) rfl (by kernel_rfl) (by kernel_rfl) (by kernel_rfl) (fun _ _ _ h => h) (Or.inr ⟨by rfl, rfl⟩) hHeld ?_
                    try simp only [Act.put, List.setIfInBounds_toArray, List.set_cons_zero, List.set_cons_succ, List.getElem_toArray, List.getElem_cons_zero, List.getElem_cons_succ]
                    refine wpAnyH_take (i := 6) (v := undef) rfl (by kernel_rfl) (by kernel_rfl) (by kernel_rfl) (fun _ _ _ h => h) (Or.inr ⟨by rfl, rfl⟩) hHeld ?_
                    try simp only [Act.put, List.setIfInBounds_toArray, List.set_cons_zero, List.set_cons_succ, List.getElem_toArray, List.getElem_cons_zero, List.getElem_cons_succ]
                    refine wpAnyH_take (i := 7) (v := undef) rfl (by kernel_rfl) (by kernel_rfl) (by kernel_rfl) (fun _ _ _ h => h) (Or.inr ⟨by rfl, rfl⟩) hHeld ?_
                    try simp only [Act.put, List.setIfInBounds_toArray, List.set_cons_zero, List.set_cons_succ, List.getElem_toArray, List.getElem_cons_zero, List.getElem_cons_succ]
                    refine wpAnyH_take (i := 8) (v := undef) rfl (by kernel_rfl) (by kernel_rfl) (by kernel_rfl) (fun _ _ _ h => h) (Or.inr ⟨by rfl, rfl⟩) hHeld ?_
                    try simp only [Act.put, List.setIfInBounds_toArray, List.set_cons_zero, List.set_cons_succ, List.getElem_toArray, List.getElem_cons_zero, List.getElem_cons_succ]
                    refine wpAnyH_take (i := 9) (v := undef) rfl (by kernel_rfl) (by kernel_rfl) (by kernel_rfl) (fun _ _ _ h => h) (Or.inr ⟨by rfl, rfl⟩) hHeld ?_
                    try simp only [Act.put, List.setIfInBounds_toArray, List.set_cons_zero, List.set_cons_succ, List.getElem_toArray, List.getElem_cons_zero, List.getElem_cons_succ]
                    refine wpAnyH_take (i := 10) (v := undef) rfl (by kernel_rfl) (by kernel_rfl) (by kernel_rfl) (fun _ _ _ h => h) (Or.inr ⟨by rfl, rfl⟩) hHeld ?_
                    try simp only [Act.put, List.setIfInBounds_toArray, List.set_cons_zero, List.set_cons_succ, List.getElem_toArray, List.getElem_cons_zero, List.getElem_cons_succ]
                    refine wpAnyH_take (i := 11) (v := undef) rfl (by kernel_rfl) (by kernel_rfl) (by kernel_rfl) (fun _ _ _ h => h) (Or.inr ⟨by rfl, rfl⟩) hHeld ?_
                    try simp only [Act.put, List.setIfInBounds_toArray, List.set_cons_zero, List.set_cons_succ, List.getElem_toArray, List.getElem_cons_zero, List.getElem_cons_succ]
                    refine wpAnyH_take (i := 12) (v := undef) rfl (by kernel_rfl) (by kernel_rfl) (by kernel_rfl) (fun _ _ _ h => h) (Or.inr ⟨by rfl, rfl⟩) hHeld ?_
                    try simp only [Act.put, List.setIfInBounds_toArray, List.set_cons_zero, List.set_cons_succ, List.getElem_toArray, List.getElem_cons_zero, List.getElem_cons_succ]
                    refine wpAnyH_take (i := 13) (v := .bool true) rfl (by kernel_rfl) (by kernel_rfl) (by kernel_rfl) (fun _ _ _ h => h) (Or.inl ⟨by rfl, fun W hW => by go_simp⟩) hHeld ?_
                    try simp only [Act.put, List.setIfInBounds_toArray, List.set_cons_zero, List.set_cons_succ, List.getElem_toArray, List.getElem_cons_zero, List.getElem_cons_succ]
                    refine wpAnyH_take (i := 14) (v := .bool true) rfl (by kernel_rfl) (by kernel_rfl) (by kernel_rfl) (fun _ _ _ h => h) (Or.inl ⟨by rfl, fun W hW => by go_simp⟩) hHeld ?_
                    try simp only [Act.put, List.setIfInBounds_toArray, List.set_cons_zero, List.set_cons_succ, List.getElem_toArray, List.getElem_cons_zero, List.getElem_cons_succ]
                    refine wpAnyH_take (i := 15) (v := .slice A s c) rfl (by kernel_rfl) (by kernel_rfl) (by kernel_rfl) (fun _ _ _ h => h) (Or.inl ⟨by rfl, fun W hW => by go_simp⟩) hHeld ?_
                    try simp only [Act.put, List.setIfInBounds_toArray, List.set_cons_zero, List.set_cons_succ, List.getElem_toArray, List.getElem_cons_zero, List.getElem_cons_succ]
                    refine wpAnyH_take (i := 16) (v := .agg (bytesA p)) rfl (by kernel_rfl) (by kernel_rfl) (by kernel_rfl) (fun _ _ _ h => h) (yieldsIf_load_at (by rfl) 102 _ rfl ⟨g15, 0, none⟩ rfl (p.map (Value.int .u8)) _ (fun W hW i v hv => cells_below HCP.out hW i v hv) uArr32 rfl (by rw [VP.out]; exact arr_info) (bytesA p) rfl) hHeld ?_
                    try simp only [Act.put, List.setIfInBounds_toArray, List.set_cons_zero, List.set_cons_succ, List.getElem_toArray, List.getElem_cons_zero, List.getElem_cons_succ]
                    refine wpAnyH_take (i := 17) (v := .slice (some ad) n d) rfl (by kernel_rfl) (by kernel_rfl) (by kernel_rfl) (fun _ _ _ h => h) (Or.inl ⟨by rfl, fun W hW => by go_simp⟩) hHeld ?_
                    try simp only [Act.put, List.setIfInBounds_toArray, List.set_cons_zero, List.set_cons_succ, List.getElem_toArray, List.getElem_cons_zero, List.getElem_cons_succ]
                    refine wpAnyH_take (i := 18) (v := .int .i64 (i : Int)) rfl (by kernel_rfl) (by kernel_rfl) (by kernel_rfl) (fun _ _ _ h => h) (Or.inl ⟨by rfl, fun W hW => by go_simp⟩) hHeld ?_
                    try simp only [Act.put, List.setIfInBounds_toArray, List.set_cons_zero, List.set_cons_succ, List.getElem_toArray, List.getElem_cons_zero, List.getElem_cons_succ]
                    refine wpAnyH_take (i := 19) (v := .pointer (some (ad.add (i * 6)))) rfl (by kernel_rfl) (by kernel_rfl) (by kernel_rfl) (fun _ _ _ h => h) (Or.inl ⟨by rfl, fun W hW => by go_simp⟩) hHeld ?_
                    try simp only [Act.put, List.setIfInBounds_toArray, List.set_cons_zero, List.set_cons_succ, List.getElem_toArray, List.getElem_cons_zero, List.getElem_cons_succ]
                    refine wpAnyH_take (i := 20) (v := .agg (recA r)) rfl (by kernel_rfl) (by kernel_rfl) (by kernel_rfl) (fun _ _ _ h => h) (yieldsIf_load_at (by rfl) 101 _ rfl (ad.add (i * 6)) rfl (r.map (Value.int .i64)) _ (fun W hW i v hv => cells_below HCR.out hW i v hv) Try.underlying101 rfl (by rw [VR.out]; exact info_rec) (recA r) rfl) hHeld ?_
                    try simp only [Act.put, List.setIfInBounds_toArray, List.set_cons_zero, List.set_cons_succ, List.getElem_toArray, List.getElem_cons_zero, List.getElem_cons_succ]
                    refine wpAnyH_take (i := 22) (v := .slice A s c) rfl (by kernel_rfl) (by kernel_rfl) (by kernel_rfl) (fun _ _ _ h => h) (Or.inl ⟨by rfl, fun W hW => by go_simp⟩) hHeld ?_
                    try simp only [Act.put, List.setIfInBounds_toArray, List.set_cons_zero, List.set_cons_succ, List.getElem_toArray, List.getElem_cons_zero, List.getElem_cons_succ]
                    refine wpAnyH_take (i := 23) (v := .agg (bytesA q)) rfl (by kernel_rfl) (by kernel_rfl) (by kernel_rfl) (fun _ _ _ h => h) (yieldsIf_load_at (by rfl) 102 _ rfl ⟨g16, 0, none⟩ rfl (q.map (Value.int .u8)) _ (fun W hW i v hv => cells_below HCQ.out hW i v hv) uArr32 rfl (by rw [VQ.out]; exact arr_info) (bytesA q) rfl) hHeld ?_
                    try simp only [Act.put, List.setIfInBounds_toArray, List.set_cons_zero, List.set_cons_succ, List.getElem_toArray, List.getElem_cons_zero, List.getElem_cons_succ]
                    refine wpAnyH_take (i := 24) (v := .slice (some ad2) n f) rfl (by kernel_rfl) (by kernel_rfl) (by kernel_rfl) (fun _ _ _ h => h) (Or.inl ⟨by rfl, fun W hW => by go_simp⟩) hHeld ?_
                    try simp only [Act.put, List.setIfInBounds_toArray, List.set_cons_zero, List.set_cons_succ, List.getElem_toArray, List.getElem_cons_zero, List.getElem_cons_succ]
                    refine wpAnyH_take (i := 25) (v := .int .i64 (i : Int)) rfl (by kernel_rfl) (by kernel_rfl) (by kernel_rfl) (fun _ _ _ h => h) (Or.inl ⟨by rfl, fun W hW => by go_simp⟩) hHeld ?_
                    try simp only [Act.put, List.setIfInBounds_toArray, List.set_cons_zero, List.set_cons_succ, List.getElem_toArray, List.getElem_cons_zero, List.getElem_cons_succ]
                    refine wpAnyH_take (i := 26) (v := .pointer (some (ad2.add (i * 6)))) rfl (by kernel_rfl) (by kernel_rfl) (by kernel_rfl) (fun _ _ _ h => h) (Or.inl ⟨by rfl, fun W hW => by go_simp⟩) hHeld ?_
                    try simp only [Act.put, List.setIfInBounds_toArray, List.set_cons_zero, List.set_cons_succ, List.getElem_toArray, List.getElem_cons_zero, List.getElem_cons_succ]
                    refine wpAnyH_take (i := 27) (v := .agg (recA r2)) rfl (by kernel_rfl) (by kernel_rfl) (by kernel_rfl) (fun _ _ _ h => h) (yieldsIf_load_at (by rfl) 101 _ rfl (ad2.add (i * 6)) rfl (r2.map (Value.int .i64)) _ (fun W hW i v hv => cells_below HCS.out hW i v hv) Try.underlying101 rfl (by rw [VR2.out]; exact info_rec) (recA r2) rfl) hHeld ?_
                    try simp only [Act.put, List.setIfInBounds_toArray, List.set_cons_zero, List.set_cons_succ, List.getElem_toArray, List.getElem_cons_zero, List.getElem_cons_succ]
                    refine wpAnyH_ready (rs := [21]) (by kernel_rfl) (by simp) (AllReadyH.cons rfl (fun K' hK => ?_) AllReadyH.nil)
                    go_simp
                    refine (rnext_ok key HK.out A s c (by have := HSC.out; omega) p HPL.out HPB.out r HXL.out HOK.out _ (H3.out.below (below_drewN HBz.out 1)) L1 HL1.out).mono ?_
                    rintro e wu ⟨rfl, hbu⟩
                    have HBu := As.mk (below_step (below_drewN (Below.refl wz.heap.size wz) 1) hbu)
                    clear hbu
                    refine hK.out _ _ HBu.out (fun hHeld => ?_)
                    clear hK
                    try simp only [Act.put, List.setIfInBounds_toArray, List.set_cons_zero, List.set_cons_succ, List.getElem_toArray, List.getElem_cons_zero, List.getElem_cons_succ]
                    refine wpAnyH_ready (rs := [28]) (by kernel_rfl) (by simp) (AllReadyH.cons rfl (fun K' hK => ?_) AllReadyH.nil)
                    go_simp
                    refine (rnext_ok key HK.out A s c (by have := HSC.out; omega) q HQL.out HQB.out r2 HYL.out HOK2.out _ (H3.out.below (below_step HBz.out HBu.out)) L2 HL2.out).mono ?_
                    rintro e wv ⟨rfl, hbv⟩
                    have HBv := As.mk (below_step HBu.out hbv)
                    clear hbv
                    refine hK.out _ _ HBv.out (fun hHeld => ?_)
                    clear hK
                    try simp only [Act.put, List.setIfInBounds_toArray, List.set_cons_zero, List.set_cons_succ, List.getElem_toArray, List.getElem_cons_zero, List.getElem_cons_succ]
                    refine wpAnyH_take (i := 29) (v := .bool true) rfl (by kernel_rfl) (by kernel_rfl) (by kernel_rfl) (fun _ _ _ h => h) (Or.inl ⟨by rfl, fun W hW => by go_simp⟩) hHeld ?_
                    try simp only [Act.put, List.setIfInBounds_toArray, List.set_cons_zero, List.set_cons_succ, List.getElem_toArray, List.getElem_cons_zero, List.getElem_cons_succ]
                    refine wpAnyH_take (i := 30) (v := .bool true) rfl (by kernel_rfl) (by kernel_rfl) (by kernel_rfl) (fun _ _ _ h => h) (Or.inl ⟨by rfl, fun W hW => by go_simp⟩) hHeld ?_
                    try simp only [Act.put, List.setIfInBounds_toArray, List.set_cons_zero, List.set_cons_succ, List.getElem_toArray, List.getElem_cons_zero, List.getElem_cons_succ]
                    refine wpAnyH_done (by kernel_rfl) ?_ _
                    go_wp2
                    go_ret
                    exact ⟨rfl, below_step HB3.out (below_step HBz.out HBv.out)⟩
                  | false =>
                    go_wp2
                    refine wp_region_held_drew (S := fun W : World => Below wz.heap.size wz W) (by kernel_rfl) (below_drewN (Below.refl wz.heap.size wz) 1) (fun hHeld => ?_)
                    refine wpAnyH_take (i := 0) (v := .agg (bytesA p)) rfl (by kernel_rfl) (by kernel_rfl) (by kernel_rfl) (fun _ _ _ h => h) (yieldsIf_load_at (by rfl) 102 _ rfl ⟨g15, 0, none⟩ rfl (p.map (Value.int .u8)) _ (fun W hW i v hv => cells_below HCP.out hW i v hv) uArr32 rfl (by rw [VP.out]; exact arr_info) (bytesA p) rfl) hHeld ?_
                    try simp only [Act.put, List.setIfInBounds_toArray, List.set_cons_zero, List.set_cons_succ, List.getElem_toArray, List.getElem_cons_zero, List.getElem_cons_succ]
                    refine wpAnyH_take (i := 1) (v := .agg (bytesA q)) rfl (by kernel_rfl) (by kernel_rfl) (by kernel_rfl) (fun _ _ _ h => h) (yieldsIf_load_at (by rfl) 102 _ rfl ⟨g16, 0, none⟩ rfl (q.map (Value.int .u8)) _ (fun W hW i v hv => cells_below HCQ.out hW i v hv) uArr32 rfl (by rw [VQ.out]; exact arr_info) (bytesA q) rfl) hHeld ?_
                    try simp only [Act.put, List.setIfInBounds_toArray, List.set_cons_zero, List.set_cons_succ, List.getElem_toArray, List.getElem_cons_zero, List.getElem_cons_succ]
                    refine wpAnyH_take (i := 2) (v := .bool true) rfl (by kernel_rfl) (by kernel_rfl) (by kernel_rfl) (fun _ _ _ h => h) (Or.inl ⟨by rfl, fun W hW => by go_simp⟩) hHeld ?_
                    try simp only [Act.put, List.setIfInBounds_toArray, List.set_cons_zero, List.set_cons_succ, List.getElem_toArray, List.getElem_cons_zero, List.getElem_cons_succ]
                    refine wpAnyH_take (i := 3) (v := .bool true) rfl (by kernel_rfl) (by kernel_rfl) (by kernel_rfl) (fun _ _ _ h => h) (Or.inl ⟨by rfl, fun W hW => by go_simp⟩) hHeld ?_
                    try simp only [Act.put, List.setIfInBounds_toArray, List.set_cons_zero, List.set_cons_succ, List.getElem_toArray, List.getElem_cons_zero, List.getElem_cons_succ]
                    refine wpAnyH_take (i := 4) (v := undef) rfl (by kernel_rfl) (by kernel_rfl) (by kernel_rfl) (fun _ _ _ h => h) (Or.inr ⟨by rfl, rfl⟩) hHeld ?_
                    try simp only [Act.put, List.setIfInBounds_toArray, List.set_cons_zero, List.set_cons_succ, List.getElem_toArray, List.getElem_cons_zero, List.getElem_cons_succ]
                    refine wpAnyH_take (i := 5) (v := undef) rfl (by kernel_rfl) (by kernel_rfl) (by kernel_rfl) (fun _ _ _ h => h) (Or.inr ⟨by rfl, rfl⟩) hHeld ?_
                    try simp only [Act.put, List.setIfInBounds_toArray, List.set_cons_zero, List.set_cons_succ, List.getElem_toArray, List.getElem_cons_zero, List.getElem_cons_succ]
                    refine wpAnyH_take (i := 6) (v := undef) rfl (by kernel_rfl) (by kernel_rfl) (by kernel_rfl) (fun _ _ _ h => h) (Or.inr ⟨by rfl, rfl⟩) hHeld ?_
                    try simp only [Act.put, List.setIfInBounds_toArray, List.set_cons_zero, List.set_cons_succ, List.getElem_toArray, List.getElem_cons_zero, List.getElem_cons_succ]
                    refine wpAnyH_take (i := 7) (v := undef) rfl (by kernel_rfl) (by kernel_rfl) (by kernel_rfl) (fun _ _ _ h => h) (Or.inr ⟨by rfl, rfl⟩) hHeld ?_
                    try simp only [Act.put, List.setIfInBounds_toArray, List.set_cons_zero, List.set_cons_succ, List.getElem_toArray, List.getElem_cons_zero, List.getElem_cons_succ]
                    refine wpAnyH_take (i := 8) (v := undef) rfl (by kernel_rfl) (by kernel_rfl) (by kernel_rfl) (fun _ _ _ h => h) (Or.inr ⟨by rfl, rfl⟩) hHeld ?_
                    try simp only [Act.put, List.setIfInBounds_toArray, List.set_cons_zero, List.set_cons_succ, List.getElem_toArray, List.getElem_cons_zero, List.getElem_cons_succ]
                    refine wpAnyH_take (i := 9) (v := undef) rfl (by kernel_rfl) (by kernel_rfl) (by kernel_rfl) (fun _ _ _ h => h) (Or.inr ⟨by rfl, rfl⟩) hHeld ?_
                    try simp only [Act.put, List.setIfInBounds_toArray, List.set_cons_zero, List.set_cons_succ, List.getElem_toArray, List.getElem_cons_zero, List.getElem_cons_succ]
                    refine wpAnyH_take (i := 10) (v := undef) rfl (by kernel_rfl) (by kernel_rfl) (by kernel_rfl) (fun _ _ _ h => h) (Or.inr ⟨by rfl, rfl⟩) hHeld ?_
                    try simp only [Act.put, List.setIfInBounds_toArray, List.set_cons_zero, List.set_cons_succ, List.getElem_toArray, List.getElem_cons_zero, List.getElem_cons_succ]
                    refine wpAnyH_take (i := 11) (v := undef) rfl (by kernel_rfl) (by kernel_rfl) (by kernel_rfl) (fun _ _ _ h => h) (Or.inr ⟨by rfl, rfl⟩) hHeld ?_
                    try simp only [Act.put, List.setIfInBounds_toArray, List.set_cons_zero, List.set_cons_succ, List.getElem_toArray, List.getElem_cons_zero, List.getElem_cons_succ]
                    refine wpAnyH_take (i := 12) (v := undef) rfl (by kernel_rfl) (by kernel_rfl) (by kernel_rfl) (fun _ _ _ h => h) (Or.inr ⟨by rfl, rfl⟩) hHeld ?_
                    try simp only [Act.put, List.setIfInBounds_toArray, List.set_cons_zero, List.set_cons_succ, List.getElem_toArray, List.getElem_cons_zero, List.getElem_cons_succ]
                    refine wpAnyH_take (i := 13) (v := .bool true) rfl (by kernel_rfl) (by kernel_rfl) (by kernel_rfl) (fun _ _ _ h => h) (Or.inl ⟨by rfl, fun W hW => by go_simp⟩) hHeld ?_
                    try simp only [Act.put, List.setIfInBounds_toArray, List.set_cons_zero, List.set_cons_succ, List.getElem_toArray, List.getElem_cons_zero, List.getElem_cons_succ]
                    refine wpAnyH_take (i := 14) (v := .bool true) rfl (by kernel_rfl) (by kernel_rfl) (by kernel_rfl) (fun _ _ _ h => h) (Or.inl ⟨by rfl, fun W hW => by go_simp⟩) hHeld ?_
                    try simp only [Act.put, List.setIfInBounds_toArray, List.set_cons_zero, List.set_cons_succ, List.getElem_toArray, List.getElem_cons_zero, List.getElem_cons_succ]
                    refine wpAnyH_take (i := 15) (v := .slice A s c) rfl (by kernel_rfl) (by kernel_rfl) (by kernel_rfl) (fun _ _ _ h => h) (Or.inl ⟨by rfl, fun W hW => by go_simp⟩) hHeld ?_
                    try simp only [Act.put, List.setIfInBounds_toArray, List.set_cons_zero, List.set_cons_succ, List.getElem_toArray, List.getElem_cons_zero, List.getElem_cons_succ]
                    refine wpAnyH_take (i := 16) (v := .agg (bytesA p)) rfl (by kernel_rfl) (by kernel_rfl) (by kernel_rfl) (fun _ _ _ h => h) (yieldsIf_load_at (by rfl) 102 _ rfl ⟨g15, 0, none⟩ rfl (p.map (Value.int .u8)) _ (fun W hW i v hv => cells_below HCP.out hW i v hv) uArr32 rfl (by rw [VP.out]; exact arr_info) (bytesA p) rfl) hHeld ?_
                    try simp only [Act.put, List.setIfInBounds_toArray, List.set_cons_zero, List.set_cons_succ, List.getElem_toArray, List.getElem_cons_zero, List.getElem_cons_succ]
                    refine wpAnyH_take (i := 17) (v := .slice (some ad) n d) rfl (by kernel_rfl) (by kernel_rfl) (by kernel_rfl) (fun _ _ _ h => h) (Or.inl ⟨by rfl, fun W hW => by go_simp⟩) hHeld ?_
                    try simp only [Act.put, List.setIfInBounds_toArray, List.set_cons_zero, List.set_cons_succ, List.getElem_toArray, List.getElem_cons_zero, List.getElem_cons_succ]
                    refine wpAnyH_take (i := 18) (v := .int .i64 (i : Int)) rfl (by kernel_rfl) (by kernel_rfl) (by kernel_rfl) (fun _ _ _ h => h) (Or.inl ⟨by rfl, fun W hW => by go_simp⟩) hHeld ?_
                    try simp only [Act.put, List.setIfInBounds_toArray, List.set_cons_zero, List.set_cons_succ, List.getElem_toArray, List.getElem_cons_zero, List.getElem_cons_succ]
                    refine wpAnyH_take (i := 19) (v := .pointer (some (ad.add (i * 6)))) rfl (by kernel_rfl) (by kernel_rfl) (by kernel_rfl) (fun _ _ _ h => h) (Or.inl ⟨by rfl, fun W hW => by go_simp⟩) hHeld ?_
                    try simp only [Act.put, List.setIfInBounds_toArray, List.set_cons_zero, List.set_cons_succ, List.getElem_toArray, List.getElem_cons_zero, List.getElem_cons_succ]
                    refine wpAnyH_take (i := 20) (v := .agg (recA r)) rfl (by kernel_rfl) (by kernel_rfl) (by kernel_rfl) (fun _ _ _ h => h) (yieldsIf_load_at (by rfl) 101 _ rfl (ad.add (i * 6)) rfl (r.map (Value.int .i64)) _ (fun W hW i v hv => cells_below HCR.out hW i v hv) Try.underlying101 rfl (by rw [VR.out]; exact info_rec) (recA r) rfl) hHeld ?_
                    try simp only [Act.put, List.setIfInBounds_toArray, List.set_cons_zero, List.set_cons_succ, List.getElem_toArray, List.getElem_cons_zero, List.getElem_cons_succ]
                    refine wpAnyH_take (i := 22) (v := .slice A s c) rfl (by kernel_rfl) (by kernel_rfl) (by kernel_rfl) (fun _ _ _ h => h) (Or.inl ⟨by rfl, fun W hW => by go_simp⟩) hHeld ?_
                    try simp only [Act.put, List.setIfInBounds_toArray, List.set_cons_zero, List.set_cons_succ, List.getElem_toArray, List.getElem_cons_zero, List.getElem_cons_succ]
                    refine wpAnyH_take (i := 23) (v := .agg (bytesA q)) rfl (by kernel_rfl) (by kernel_rfl) (by kernel_rfl) (fun _ _ _ h => h) (yieldsIf_load_at (by rfl) 102 _ rfl ⟨g16, 0, none⟩ rfl (q.map (Value.int .u8)) _ (fun W hW i v hv => cells_below HCQ.out hW i v hv) uArr32 rfl (by rw [VQ.out]; exact arr_info) (bytesA q) rfl) hHeld ?_
                    try simp only [Act.put, List.setIfInBounds_toArray, List.set_cons_zero, List.set_cons_succ, List.getElem_toArray, List.getElem_cons_zero, List.getElem_cons_succ]
                    refine wpAnyH_take (i := 24) (v := .slice (some ad2) n f) rfl (by kernel_rfl) (by kernel_rfl) (by kernel_rfl) (fun _ _ _ h => h) (Or.inl ⟨by rfl, fun W hW => by go_simp⟩) hHeld ?_
                    try simp only [Act.put, List.setIfInBounds_toArray, List.set_cons_zero, List.set_cons_succ, List.getElem_toArray, List.getElem_cons_zero, List.getElem_cons_succ]
                    refine wpAnyH_take (i := 25) (v := .int .i64 (i : Int)) rfl (by kernel_rfl) (by kernel_rfl) (by kernel_rfl) (fun _ _ _ h => h) (Or.inl ⟨by rfl, fun W hW => by go_simp⟩) hHeld ?_
                    try simp only [Act.put, List.setIfInBounds_toArray, List.set_cons_zero, List.set_cons_succ, List.getElem_toArray, List.getElem_cons_zero, List.getElem_cons_succ]
                    refine wpAnyH_take (i := 26) (v := .pointer (some (ad2.add (i * 6)))) rfl (by kernel_rfl) (by kernel_rfl) (by kernel_rfl) (fun _ _ _ h => h) (Or.inl ⟨by rfl, fun W hW => by go_simp⟩) hHeld ?_
                    try simp only [Act.put, List.setIfInBounds_toArray, List.set_cons_zero, List.set_cons_succ, List.getElem_toArray, List.getElem_cons_zero, List.getElem_cons_succ]
                    refine wpAnyH_take (i := 27) (v := .agg (recA r2)) rfl (by kernel_rfl) (by kernel_rfl) (by kernel_rfl) (fun _ _ _ h => h) (yieldsIf_load_at (by rfl) 101 _ rfl (ad2.add (i * 6)) rfl (r2.map (Value.int .i64)) _ (fun W hW i v hv => cells_below HCS.out hW i v hv) Try.underlying101 rfl (by rw [VR2.out]; exact info_rec) (recA r2) rfl) hHeld ?_
                    try simp only [Act.put, List.setIfInBounds_toArray, List.set_cons_zero, List.set_cons_succ, List.getElem_toArray, List.getElem_cons_zero, List.getElem_cons_succ]
                    refine wpAnyH_ready (rs := [21]) (by kernel_rfl) (by simp) (AllReadyH.cons rfl (fun K' hK => ?_) AllReadyH.nil)
                    go_simp
                    refine (rnext_ok key HK.out A s c (by have := HSC.out; omega) p HPL.out HPB.out r HXL.out HOK.out _ (H3.out.below (below_drewN HBz.out 1)) L1 HL1.out).mono ?_
                    rintro e wu ⟨rfl, hbu⟩
                    have HBu := As.mk (below_step (below_drewN (Below.refl wz.heap.size wz) 1) hbu)
                    clear hbu
                    refine hK.out _ _ HBu.out (fun hHeld => ?_)
                    clear hK
                    try simp only [Act.put, List.setIfInBounds_toArray, List.set_cons_zero, List.set_cons_succ, List.getElem_toArray, List.getElem_cons_zero, List.getElem_cons_succ]
                    refine wpAnyH_ready (rs := [28]) (by kernel_rfl) (by simp) (AllReadyH.cons rfl (fun K' hK => ?_) AllReadyH.nil)
                    go_simp
                    refine (rnext_ok key HK.out A s c (by have := HSC.out; omega) q HQL.out HQB.out r2 HYL.out HOK2.out _ (H3.out.below (below_step HBz.out HBu.out)) L2 HL2.out).mono ?_
                    rintro e wv ⟨rfl, hbv⟩
                    have HBv := As.mk (below_step HBu.out hbv)
                    clear hbv
                    refine hK.out _ _ HBv.out (fun hHeld => ?_)
                    clear hK
                    try simp only [Act.put, List.setIfInBounds_toArray, List.set_cons_zero, List.set_cons_succ, List.getElem_toArray, List.getElem_cons_zero, List.getElem_cons_succ]
                    refine wpAnyH_take (i := 29) (v := .bool false) rfl (by kernel_rfl) (by kernel_rfl) (by kernel_rfl) (fun _ _ _ h => h) (Or.inl ⟨by rfl, fun W hW => by go_simp⟩) hHeld ?_
                    try simp only [Act.put, List.setIfInBounds_toArray, List.set_cons_zero, List.set_cons_succ, List.getElem_toArray, List.getElem_cons_zero, List.getElem_cons_succ]
                    refine wpAnyH_take (i := 30) (v := .bool false) rfl (by kernel_rfl) (by kernel_rfl) (by kernel_rfl) (fun _ _ _ h => h) (Or.inl ⟨by rfl, fun W hW => by go_simp⟩) hHeld ?_
                    try simp only [Act.put, List.setIfInBounds_toArray, List.set_cons_zero, List.set_cons_succ, List.getElem_toArray, List.getElem_cons_zero, List.getElem_cons_succ]
                    refine wpAnyH_done (by kernel_rfl) ?_ _
                    go_wp2
                    go_roundg (n - (i + 1))
                    case measure => have := HI.out; have := HLT.out; omega
                    case rel =>
                      refine ⟨i + 1, by have := HI.out; have := HLT.out; omega, by go_num, ⟨fun j hj => ?_⟩, ⟨(below_step HBz.out HBv.out)⟩⟩
                      rcases Nat.lt_succ_iff_lt_or_eq.1 hj with h | rfl
                      · exact HND.out j h
                      · rw [HCB.out]; rfl
            · obtain rfl : n = i := by have := HI.out; omega
              exact (HNO.out HND.out).elim
theorem binds_walk (A : Option Addr) (s c : Nat) (key : List Int) (B : Option Addr) (n d : Nat) (X : Nat → List Int) (D : Option Addr) (m f : Nat) (Y : Nat → List Int) (w : World) (h0 : Rd .u8 w A s c key) (hk : ∀ i ∈ key, (Lit.int .u8 i).wf = true) (_ : s * 1 ≤ 140737488351232)
    (h1 : RdRows 6 w B n d (fun j => (X j).map (Value.int .i64))) (h1' : ∀ j, j < n → (X j).length = 6 ∧ ∀ i ∈ X j, (Lit.int .i64 i).wf = true)
    (h2 : RdRows 6 w D m f (fun j => (Y j).map (Value.int .i64))) (h2' : ∀ j, j < m → (Y j).length = 6 ∧ ∀ i ∈ Y j, (Lit.int .i64 i).wf = true) :
    Calls Try.prog 11 #[.slice A s c, .slice B n d, .slice D m f] w fun e w' => e = .returned (.bool true) ∧ Below w.heap.size w w' := by
  by_cases c1 : 100 < s
  · exact bi_far s c n d m f A B D (.inl c1) w
  · by_cases c2 : n = m
    · by_cases c3 : n = 0
      · exact bi_far s c n d m f A B D (.inr (.inr (.inl ⟨by omega, c2, c3⟩))) w
      · by_cases c4 : 6 < n
        · exact bi_far s c n d m f A B D (.inr (.inr (.inr ⟨by omega, c2, c4⟩))) w
        · subst c2
          exact bi_ok key (byte_of hk) A s c X Y B D n d f (by omega) ⟨by omega, by omega⟩ w h0 ⟨h1, fun j hj => (h1' j hj).1⟩ ⟨h2, fun j hj => (h2' j hj).1⟩
    · exact bi_far s c n d m f A B D (.inr (.inl ⟨by omega, c2⟩)) w
end Go.Proofs.Ytjcofbjfolaoiaa.Binds
