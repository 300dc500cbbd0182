/- UsageBars: the law's walk. -/
import Derived.Test.YtlfomomgkjknhaaBars
namespace Go.Proofs.Ytlfomomgkjknhaa.UsageBars
set_option linter.unusedVariables false
set_option linter.unusedSimpArgs false
open Go Go.RowKit Go.Proofs.Ytlfomomgkjknhaa.Mem Go.Proofs.Ytlfomomgkjknhaa.Bars

set_option maxHeartbeats 1000000 in
set_option maxRecDepth 100000 in
theorem awake_true (w : World) : Calls Try.prog 34 #[] w fun e w' => e = .returned (.bool true) ∧ Below w.heap.size w w' := by
  have HR : As (RdRows 6 (w.alloc (.cells #[.int .i64 0, .int .i64 4, .int .i64 0, .int .i64 1, .int .i64 0, .int .i64 0] 61)) (some ⟨w.heap.size, 0, none⟩) 1 1 (fun j => ((fun _ => (⟨0, 4, 0, 1, 0, 0⟩ : U)) j).row)) :=
    ⟨⟨Nat.le_refl _, by decide, fun j _ => rfl, fun _ => ⟨_, rfl, fun j hj i v hv => by
      obtain rfl : j = 0 := by omega
      have h := RdRows.lit (m := 6) w 61 [[.int .i64 0, .int .i64 4, .int .i64 0, .int .i64 1, .int .i64 0, .int .i64 0]] (by simp) (by decide)
      obtain ⟨ad, e, hc⟩ := h.cells (by decide)
      cases e
      exact hc 0 (by decide) i v hv⟩⟩⟩
  have HB := As.mk (below_alloc (Below.refl w.heap.size w) (.cells #[.int .i64 0, .int .i64 4, .int .i64 0, .int .i64 1, .int .i64 0, .int .i64 0] 61))
  go_enter Try.func34, Try.ntmps34
  go_wp2_with (go_at_call 35; refine As.out ?_)
  refine As.mk ?_
  refine (bars_any (fun _ => ⟨0, 4, 0, 1, 0, 0⟩) _ 1 1 8 _ (by decide) (by decide) HR.out).mono ?_
  rintro e w1 h
  rcases h with ⟨_, A, c, rfl, ho, hb⟩ | ⟨hn, _⟩
  · have hcell := ho.cell 0 (.string (bar ⟨0, 4, 0, 1, 0, 0⟩ 8)) rfl
    obtain ⟨ad, ea, hc⟩ := hcell
    cases ea
    have hs : bar ⟨0, 4, 0, 1, 0, 0⟩ 8 = { data := #[35, 35, 46, 46, 46, 46, 46, 46] } := by decide
    rw [hs, show ad.add 0 = ad from rfl] at hc
    have HB1 := As.mk (below_step HB.out hb)
    clear hs ho hb
    go_wp2
    go_ret
    exact ⟨rfl, HB1.out⟩
  · exact absurd (fun j _ => by simp [okU]) hn
def okB (x : U) : Bool := decide (0 ≤ x.q ∧ x.q ≤ 1099511627776 ∧ 0 ≤ x.l ∧ x.l ≤ x.q)
theorem okB_iff (x : U) : okB x = true ↔ okU x := by unfold okB okU; exact decide_eq_true_iff
def mayB (w0 : Bool) (us : Nat → U) : Nat → Bool
  | 0 => w0
  | i + 1 => mayB w0 us i && okB (us i)
theorem mayB_iff (w0 : Bool) (us : Nat → U) : ∀ n, mayB w0 us n = true ↔ w0 = true ∧ ∀ j, j < n → okU (us j)
  | 0 => ⟨fun h => ⟨h, fun j hj => by omega⟩, fun h => h.1⟩
  | n + 1 => by
    rw [mayB, Bool.and_eq_true, mayB_iff w0 us n, okB_iff]
    exact ⟨fun ⟨⟨h1, h2⟩, h3⟩ => ⟨h1, all_succ h2 h3⟩, fun ⟨h1, h2⟩ => ⟨⟨h1, fun j hj => h2 j (by omega)⟩, h2 n (by omega)⟩⟩
set_option maxHeartbeats 400000 in
set_option maxRecDepth 100000 in
theorem far (A : Option Addr) (n c : Nat) (width : Int) (w : World) (h : 40 < n) :
    Calls Try.prog 7 #[.slice A n c, .int .i64 width] w fun e w' => e = .returned (.bool true) ∧ Below w.heap.size w w' := by
  have d3 : decide (40 < (n : Int)) = true := decide_eq_true (by omega)
  have d3' : decide (40 < n) = true := decide_eq_true (by omega)
  clear h
  go_enter Try.func7, Try.ntmps7
  go_wp2_with (go_at_call 34; refine (awake_true _).mono ?_; rintro e w1 ⟨rfl, hb⟩)
  go_ret
  exact ⟨rfl, hb⟩
set_option maxHeartbeats 2000000 in
set_option maxRecDepth 100000 in
theorem wide_no' (us : Nat → U) (A : Option Addr) (n c : Nat) (width : Int) (w : World) (hn : n ≤ 40) (h0 : RdRows 6 w A n c (fun j => (us j).row)) (hw : width < 1 ∨ 200 < width) :
    Calls Try.prog 7 #[.slice A n c, .int .i64 width] w fun e w' => e = .returned (.bool true) ∧ Below w.heap.size w w' := by
  have d3 : decide (40 < (n : Int)) = false := decide_eq_false (by omega)
  have d3' : decide (40 < n) = false := decide_eq_false (by omega)
  have HW := As.mk hw
  have HN := As.mk hn
  have H0 := As.mk h0
  clear hn h0
  have dw : decide (width ≥ 1) = false ∨ (decide (width ≥ 1) = true ∧ decide (width ≤ 200) = false) := by
    rcases hw with hw | hw
    · exact .inl (decide_eq_false (by omega))
    · exact .inr ⟨decide_eq_true (by omega), decide_eq_false (by omega)⟩
  clear hw
  rcases dw with d1 | ⟨d1, d2⟩
  all_goals
    go_enter Try.func7, Try.ntmps7
    go_wp2_with (first
      | (go_at_call 34; (with_reducible refine (awake_true _).mono ?_); rintro e w1 ⟨rfl, hb⟩; have HB1 := As.mk hb; clear hb)
      | (go_at_call 35; (with_reducible refine (wide_no _ _ _ _ _ HW.out).mono ?_); rintro e w' ⟨rfl, rfl⟩))
    go_loopg [7, 33] n (fun kq v7 v33 wr => ∃ i : Nat, i + kq = n ∧ v7 = .bool false ∧ v33 = .int .i64 i ∧ As (Below w.heap.size w wr))
    case atStart => exact ⟨0, by omega, rfl, rfl, HB1⟩
    case round =>
      obtain ⟨i, hi, rfl, rfl, HB⟩ := hrel
      have HI := As.mk hi
      clear hi
      by_cases hlt : i < n
      · have hwi : wrap64 ((i : Int) + 1) = ((i + 1 : Nat) : Int) := wrap_up _ (by have := HN.out; omega)
        have e0 : decide ((i : Int) < (n : Int)) = true := decide_eq_true (by omega)
        obtain ⟨ad, ea, hc⟩ := (H0.out.below HB.out).at i hlt
        generalize us i = x at hc
        obtain ⟨a, q, u, l, s, b⟩ := x
        have HCell : ∀ k v, ([.int .i64 a, .int .i64 q, .int .i64 u, .int .i64 l, .int .i64 s, .int .i64 b] : List Value)[k]? = some v → wr.cell? ((ad.add (i * 6)).add k) = some v := hc
        have HCC := As.mk HCell
        have HLT := As.mk hlt
        clear HCell hc
        cases ea
        go_wp2_with (refine wpList_load_at rfl 61 _ rfl (ad.add (i * 6)) (by rfl) [.int .i64 a, .int .i64 q, .int .i64 u, .int .i64 l, .int .i64 s, .int .i64 b] _ HCC.out Try.underlying61 rfl (by kernel_rfl) ?_)
        go_roundg (n - (i + 1))
        case measure => have := HI.out; have := HLT.out; omega
        case rel => exact ⟨i + 1, by have := HI.out; have := HLT.out; omega, rfl, by go_num, ⟨below_alloc HB.out _⟩⟩
      · have e0 : decide ((i : Int) < (n : Int)) = false := decide_eq_false (by omega)
        have e1 : decide (i < n) = false := decide_eq_false hlt
        go_wp2
        go_ret
        exact ⟨rfl, HB.out⟩
theorem full_iff (l width q k : Nat) : (0 < q ∧ (k + 1) * q ≤ l * width) ↔ k < l * width / q := by
  rcases Nat.eq_zero_or_pos q with h | h
  · subst h; simp
  · constructor
    · intro h2; exact (Nat.le_div_iff_mul_le h).2 h2.2
    · intro h2; exact ⟨h, (Nat.le_div_iff_mul_le h).1 h2⟩
theorem bar_size (x : U) (width : Nat) (h : okU x) : (bar x width).size = width := by
  unfold bar
  rw [ByteArray.size_append, rep_size, rep_size]
  have := full_le x width h
  omega
theorem rep_at (b : UInt8) (n k : Nat) (hk : k < (rep b n).size) : ((rep b n)[k]'hk) = b := by
  have h : ∀ n k (h : k < (Lib.repeatL [b] n).length), (Lib.repeatL [b] n)[k]'h = b := by
    intro n
    induction n with
    | zero => intro k h; simp [Lib.repeatL] at h
    | succ n ih =>
      intro k h
      cases k with
      | zero => rfl
      | succ k => exact ih k (by simpa [Lib.repeatL] using h)
  exact h n k (by rw [repeatL_len]; rw [rep_size] at hk; exact hk)
theorem bar_at (x : U) (width : Nat) (h : okU x) : ∀ k (hk : k < (bar x width).size), ((bar x width)[k]'hk).toNat = if k < full x width then 35 else 46 := by
  intro k hk
  have hf := full_le x width h
  have hs := bar_size x width h
  unfold bar at hk ⊢
  by_cases h1 : k < full x width
  · rw [if_pos h1, ByteArray.getElem_append_left (by rw [rep_size]; exact h1), rep_at]; rfl
  · rw [if_neg h1, ByteArray.getElem_append_right (by rw [rep_size]; omega), rep_at]; rfl
set_option maxHeartbeats 4000000 in
set_option maxRecDepth 100000 in
theorem near_bad (us : Nat → U) (A : Option Addr) (n c width : Nat) (w : World) (hn : n ≤ 40) (h0 : RdRows 6 w A n c (fun j => (us j).row)) (hw : 1 ≤ width ∧ width ≤ 200) (hno : ¬ ∀ j, j < n → okU (us j)) :
    Calls Try.prog 7 #[.slice A n c, .int .i64 (width : Int)] w fun e w' => e = .returned (.bool true) ∧ Below w.heap.size w w' := by
  have d3 : decide (40 < (n : Int)) = false := decide_eq_false (by omega)
  have d3' : decide (40 < n) = false := decide_eq_false (by omega)
  have d1 : decide ((width : Int) ≥ 1) = true := decide_eq_true (by omega)
  have d2 : decide ((width : Int) ≤ 200) = true := decide_eq_true (by omega)
  have HW := As.mk hw
  have HNO := As.mk hno
  clear hno
  have HN := As.mk hn
  have H0 := As.mk h0
  clear hn h0 hw
  go_enter Try.func7, Try.ntmps7
  go_wp2_with (first
    | (go_at_call 34; (with_reducible refine (awake_true _).mono ?_); rintro e w1 ⟨rfl, hb⟩; have HB1 := As.mk hb; have H1 := As.mk (H0.out.below hb); clear hb)
    | (go_at_call 35; refine As.out ?_))
  refine As.mk ?_
  refine (bars_any us A n c width w1 HW.out (by have := HN.out; omega) H1.out).mono ?_
  rintro e w2 h
  rcases h with ⟨hall, _⟩ | ⟨hall, rfl, hb⟩
  case inl => exact absurd hall HNO.out
  case inr =>
    have HA := As.mk hall
    have HB2 := As.mk (below_step HB1.out hb)
    clear hall hb
    go_wp2
    go_loopg [7, 33] n (fun kq v7 v33 wr => ∃ i : Nat, i + kq = n ∧ v7 = .bool (mayB true us i) ∧ v33 = .int .i64 i ∧ As (Below w.heap.size w wr))
    case atStart => exact ⟨0, by omega, rfl, rfl, HB2⟩
    case round =>
      obtain ⟨i, hi, rfl, rfl, HB⟩ := hrel
      have HI := As.mk hi
      clear hi
      by_cases hlt : i < n
      · have hwi : wrap64 ((i : Int) + 1) = ((i + 1 : Nat) : Int) := wrap_up _ (by have := HN.out; omega)
        have e0 : decide ((i : Int) < (n : Int)) = true := decide_eq_true (by omega)
        obtain ⟨ad, ea, hc⟩ := (H0.out.below HB.out).at i hlt
        generalize hM : mayB true us i = m0
        have HM0 := As.mk hM
        clear hM
        generalize hx : us i = x at hc
        obtain ⟨a, q, u, l, s, b⟩ := x
        have HXU := As.mk hx
        clear hx
        have HCell : ∀ k v, ([.int .i64 a, .int .i64 q, .int .i64 u, .int .i64 l, .int .i64 s, .int .i64 b] : List Value)[k]? = some v → wr.cell? ((ad.add (i * 6)).add k) = some v := hc
        have HCC := As.mk HCell
        have HLT := As.mk hlt
        clear HCell hc
        cases ea
        cases m0 with
        | false =>
          go_wp2_with (refine wpList_load_at rfl 61 _ rfl (ad.add (i * 6)) (by rfl) [.int .i64 a, .int .i64 q, .int .i64 u, .int .i64 l, .int .i64 s, .int .i64 b] _ HCC.out Try.underlying61 rfl (by kernel_rfl) ?_)
          go_roundg (n - (i + 1))
          case measure => have := HI.out; have := HLT.out; omega
          case rel => exact ⟨i + 1, by have := HI.out; have := HLT.out; omega, by rw [mayB, HM0.out]; rfl, by go_num, ⟨below_alloc HB.out _⟩⟩
        | true =>
          have hoks : (0 ≤ q ∧ q ≤ 1099511627776 ∧ 0 ≤ l ∧ l ≤ q) ∨ okB ⟨a, q, u, l, s, b⟩ = false := by
            by_cases h : (0 ≤ q ∧ q ≤ 1099511627776 ∧ 0 ≤ l ∧ l ≤ q)
            · exact .inl h
            · exact .inr (decide_eq_false h)
          have hcases : (q < 0 ∧ okB ⟨a, q, u, l, s, b⟩ = false) ∨ (0 ≤ q ∧ 1099511627776 < q ∧ okB ⟨a, q, u, l, s, b⟩ = false) ∨ (0 ≤ q ∧ q ≤ 1099511627776 ∧ l < 0 ∧ okB ⟨a, q, u, l, s, b⟩ = false) ∨ (0 ≤ q ∧ q ≤ 1099511627776 ∧ 0 ≤ l ∧ q < l ∧ okB ⟨a, q, u, l, s, b⟩ = false) ∨ (0 ≤ q ∧ q ≤ 1099511627776 ∧ 0 ≤ l ∧ l ≤ q ∧ okB ⟨a, q, u, l, s, b⟩ = true) := by
            rcases hoks with h | h
            · exact .inr (.inr (.inr (.inr ⟨h.1, h.2.1, h.2.2.1, h.2.2.2, decide_eq_true h⟩)))
            · have h2 : ¬ (0 ≤ q ∧ q ≤ 1099511627776 ∧ 0 ≤ l ∧ l ≤ q) := of_decide_eq_false h
              simp only [h, and_true]
              omega
          rcases hcases with ⟨k1, hb0⟩ | ⟨k1, k2, hb0⟩ | ⟨k1, k2, k3, hb0⟩ | ⟨k1, k2, k3, k4, hb0⟩ | ⟨k1, k2, k3, k4, hb0⟩
          all_goals
            have HBo := As.mk hb0
            clear hb0 hoks
            go_wp2_with (refine wpList_load_at rfl 61 _ rfl (ad.add (i * 6)) (by rfl) [.int .i64 a, .int .i64 q, .int .i64 u, .int .i64 l, .int .i64 s, .int .i64 b] _ HCC.out Try.underlying61 rfl (by kernel_rfl) ?_)
            go_roundg (n - (i + 1))
            case measure => have := HI.out; have := HLT.out; omega
            case rel =>
              refine ⟨i + 1, by have := HI.out; have := HLT.out; omega, ?_, by go_num, ⟨below_alloc HB.out _⟩⟩
              rw [mayB, HM0.out, HXU.out, HBo.out]
              first | rfl | exact congrArg Value.bool (decide_eq_false (by omega))
      · have e0 : decide ((i : Int) < (n : Int)) = false := decide_eq_false (by omega)
        have e1 : decide (i < n) = false := decide_eq_false hlt
        obtain rfl : i = n := by have := HI.out; omega
        have hf : mayB true us i = false := Bool.eq_false_iff.2 fun h => HA.out ((mayB_iff true us i).1 h).2
        rw [hf]
        clear hf hlt
        go_wp2
        go_ret
        exact ⟨rfl, HB.out⟩
set_option maxHeartbeats 4000000 in
set_option maxRecDepth 100000 in
theorem near_ok (us : Nat → U) (A : Option Addr) (n c width : Nat) (w : World) (hn : n ≤ 40) (h0 : RdRows 6 w A n c (fun j => (us j).row)) (hw : 1 ≤ width ∧ width ≤ 200) (hyes : ∀ j, j < n → okU (us j)) :
    Calls Try.prog 7 #[.slice A n c, .int .i64 (width : Int)] w fun e w' => e = .returned (.bool true) ∧ Below w.heap.size w w' := by
  have d3 : decide (40 < (n : Int)) = false := decide_eq_false (by omega)
  have d3' : decide (40 < n) = false := decide_eq_false (by omega)
  have d1 : decide ((width : Int) ≥ 1) = true := decide_eq_true (by omega)
  have d2 : decide ((width : Int) ≤ 200) = true := decide_eq_true (by omega)
  have HW := As.mk hw
  have HYES := As.mk hyes
  clear hyes
  have HN := As.mk hn
  have H0 := As.mk h0
  clear hn h0 hw
  go_enter Try.func7, Try.ntmps7
  go_wp2_with (first
    | (go_at_call 34; (with_reducible refine (awake_true _).mono ?_); rintro e w1 ⟨rfl, hb⟩; have HB1 := As.mk hb; have H1 := As.mk (H0.out.below hb); clear hb)
    | (go_at_call 35; refine As.out ?_))
  refine As.mk ?_
  refine (bars_any us A n c width w1 HW.out (by have := HN.out; omega) H1.out).mono ?_
  rintro e w2 h
  rcases h with ⟨hall, A', c', rfl, ho, hb⟩ | ⟨hall, _⟩
  case inr => exact absurd HYES.out hall
  case inl =>
    have HA := As.mk hall
    have HB2 := As.mk (below_step HB1.out hb)
    have HO := As.mk ho
    clear hall hb ho
    go_wp2
    go_loopg [7, 33] n (fun kq v7 v33 wr => ∃ i : Nat, i + kq = n ∧ v7 = .bool true ∧ v33 = .int .i64 i ∧ As (Below w.heap.size w wr) ∧ As (Below w2.heap.size w2 wr))
    case atStart => exact ⟨0, by omega, rfl, rfl, HB2, ⟨Below.refl _ _⟩⟩
    case round =>
      obtain ⟨i, hi, rfl, rfl, HB, HBo⟩ := hrel
      have HI := As.mk hi
      clear hi
      by_cases hlt : i < n
      · have hwi : wrap64 ((i : Int) + 1) = ((i + 1 : Nat) : Int) := wrap_up _ (by have := HN.out; omega)
        have e0 : decide ((i : Int) < (n : Int)) = true := decide_eq_true (by omega)
        obtain ⟨ad, ea, hc⟩ := (H0.out.below HB.out).at i hlt
        have hok := HA.out i hlt
        generalize hx : us i = x at hc hok
        obtain ⟨a, q, u, l, s, b⟩ := x
        obtain ⟨k1, k2, k3, k4⟩ := hok
        simp only at k1 k2 k3 k4
        have HCell : ∀ k v, ([.int .i64 a, .int .i64 q, .int .i64 u, .int .i64 l, .int .i64 s, .int .i64 b] : List Value)[k]? = some v → wr.cell? ((ad.add (i * 6)).add k) = some v := hc
        have HCC := As.mk HCell
        have HLT := As.mk hlt
        clear HCell hc hx
        cases ea
        go_wp2_with (refine wpList_load_at rfl 61 _ rfl (ad.add (i * 6)) (by rfl) [.int .i64 a, .int .i64 q, .int .i64 u, .int .i64 l, .int .i64 s, .int .i64 b] _ HCC.out Try.underlying61 rfl (by kernel_rfl) ?_)
        go_roundg (n - (i + 1))
        case measure => have := HI.out; have := HLT.out; omega
        case rel => exact ⟨i + 1, by have := HI.out; have := HLT.out; omega, rfl, by go_num, ⟨below_alloc HB.out _⟩, ⟨below_alloc HBo.out _⟩⟩
      · have e0 : decide ((i : Int) < (n : Int)) = false := decide_eq_false (by omega)
        have e1 : decide (i < n) = false := decide_eq_false hlt
        have ho2 := HO.out.below HBo.out
        have HO2 := As.mk ho2
        have n0 : ((n : Int) != (n : Int)) = false := bne_eq_false_iff_eq.2 rfl
        have n1 : (n != n) = false := bne_eq_false_iff_eq.2 rfl
        clear ho2 HO hlt HI
        go_wp2
        obtain ⟨wo, rfl⟩ : ∃ wo : World, wo = wr := ⟨_, rfl⟩
        go_loopg [81] n (fun kq v81 wq => ∃ i : Nat, i + kq = n ∧ v81 = .int .i64 i ∧ As (Below w.heap.size w wq) ∧ As (Below wo.heap.size wo wq))
        case atStart => exact ⟨0, by omega, rfl, HB, ⟨Below.refl _ _⟩⟩
        case round =>
          clear HB HBo HB1 HB2
          obtain ⟨i, hi, rfl, HB, HBo⟩ := hrel
          have HI := As.mk hi
          clear hi
          by_cases hlt : i < n
          · have hwi : wrap64 ((i : Int) + 1) = ((i + 1 : Nat) : Int) := wrap_up _ (by have := HN.out; omega)
            have e0 : decide ((i : Int) < (n : Int)) = true := decide_eq_true (by omega)
            obtain ⟨ad, ea, hc⟩ := (H0.out.below HB.out).at i hlt
            have hok := HA.out i hlt
            obtain ⟨s', hs'⟩ : ∃ s', s' = bar (us i) width := ⟨_, rfl⟩
            have HSS := As.mk (show s'.size = width by rw [hs']; exact bar_size _ _ hok)
            have HBY := As.mk (show ∀ k (hk : k < s'.size), (s'[k]'hk).toNat = if k < full (us i) width then 35 else 46 by subst hs'; exact bar_at _ _ hok)
            obtain ⟨ad', ea', hc'⟩ := (HO2.out.below HBo.out).cell i (.string s') (by rw [List.getElem?_map, List.getElem?_range hlt, hs']; rfl)
            generalize hx : us i = x at hc hok HBY
            obtain ⟨a, q, u, l, s, b⟩ := x
            obtain ⟨k1, k2, k3, k4⟩ := hok
            simp only at k1 k2 k3 k4
            have HCell : ∀ k v, ([.int .i64 a, .int .i64 q, .int .i64 u, .int .i64 l, .int .i64 s, .int .i64 b] : List Value)[k]? = some v → wr.cell? ((ad.add (i * 6)).add k) = some v := hc
            have HCC := As.mk HCell
            have HLT := As.mk hlt
            have g0 : (wr.alloc (.cells #[.int .i64 a, .int .i64 q, .int .i64 u, .int .i64 l, .int .i64 s, .int .i64 b] 61)).cell? (ad'.add i) = some (.string s') := ((below_alloc (Below.refl _ _) _).cell (World.block_lt_of_cell? wr _ hc')).trans hc'
            have n2 : ((s'.size : Int) != (width : Int)) = false := bne_eq_false_iff_eq.2 (by rw [HSS.out])
            have n3 : (s'.size != width) = false := bne_eq_false_iff_eq.2 HSS.out
            clear HCell hc hx hs'
            cases ea
            cases ea'
            go_wp2_with (refine wpList_load_at rfl 61 _ rfl (ad.add (i * 6)) (by rfl) [.int .i64 a, .int .i64 q, .int .i64 u, .int .i64 l, .int .i64 s, .int .i64 b] _ HCC.out Try.underlying61 rfl (by kernel_rfl) ?_)
            have g1 : (wr.alloc (.cells #[.int .i64 a, .int .i64 q, .int .i64 u, .int .i64 l, .int .i64 s, .int .i64 b] 61)).cell? ⟨wr.heap.size, 1, none⟩ = some (.int .i64 q) := by rw [cell_of_row _ _ 1 _ _ _ (heap_alloc_new wr _)]; rfl
            have g3 : (wr.alloc (.cells #[.int .i64 a, .int .i64 q, .int .i64 u, .int .i64 l, .int .i64 s, .int .i64 b] 61)).cell? ⟨wr.heap.size, 3, none⟩ = some (.int .i64 l) := by rw [cell_of_row _ _ 3 _ _ _ (heap_alloc_new wr _)]; rfl
            have HB3 := As.mk (below_alloc HB.out (.cells #[.int .i64 a, .int .i64 q, .int .i64 u, .int .i64 l, .int .i64 s, .int .i64 b] 61))
            have HBo3 := As.mk (below_alloc HBo.out (.cells #[.int .i64 a, .int .i64 q, .int .i64 u, .int .i64 l, .int .i64 s, .int .i64 b] 61))
            clear HB HBo HCC hwi
            generalize wr.alloc _ = w3 at *
            generalize wr.heap.size = b0 at *
            go_loopg [94] width (fun kq v94 wx => ∃ k : Nat, k + kq = width ∧ v94 = .int .i64 k ∧ wx = w3)
            case atStart => exact ⟨0, by omega, rfl, rfl⟩
            case round =>
              obtain ⟨k, hk, rfl, rfl⟩ := hrel
              have HK := As.mk hk
              clear hk
              by_cases hkl : k < width
              · have z0 : decide ((k : Int) < (width : Int)) = true := decide_eq_true (by omega)
                have hww : width ≤ 200 := HW.out.2
                obtain ⟨q, rfl⟩ := Int.eq_ofNat_of_zero_le k1
                obtain ⟨l, rfl⟩ := Int.eq_ofNat_of_zero_le k3
                have hsz : k < s'.size := by rw [HSS.out]; exact hkl
                have hby := HBY.out k hsz
                obtain ⟨p1, hp1⟩ : ∃ p : Nat, p = (k + 1) * q := ⟨_, rfl⟩
                obtain ⟨p2, hp2⟩ : ∃ p : Nat, p = l * width := ⟨_, rfl⟩
                have hq1 : p1 ≤ 200 * 1099511627776 := by rw [hp1]; exact Nat.mul_le_mul (by omega) (by omega)
                have hq2 : p2 ≤ 1099511627776 * 200 := by rw [hp2]; exact Nat.mul_le_mul (by omega) (by omega)
                have f1 : IntKind.i64.wrap (((k : Int) + 1) * (q : Int)) = (p1 : Int) := by rw [hp1]; exact mul_fit (k + 1) q (by omega)
                have f2 : IntKind.i64.wrap ((l : Int) * (width : Int)) = (p2 : Int) := by rw [hp2]; exact mul_fit l width (by omega)
                have HKL := As.mk hkl
                have hfull : (0 < q ∧ p1 ≤ p2) ↔ k < full ⟨a, (q : Int), u, (l : Int), s, b⟩ width := by rw [hp1, hp2]; exact full_iff l width q k
                clear hp1 hp2
                by_cases hf : k < full ⟨a, (q : Int), u, (l : Int), s, b⟩ width
                · rw [if_pos hf] at hby
                  obtain ⟨h1, h2⟩ := hfull.2 hf
                  clear hfull hf
                  go_wp2
                  go_roundg (width - (k + 1))
                  case measure => have := HK.out; have := HKL.out; omega
                  case rel => exact ⟨k + 1, by have := HK.out; have := HKL.out; omega, by go_num, rfl⟩
                · rw [if_neg hf] at hby
                  have h12 : ¬ (0 < q ∧ p1 ≤ p2) := fun h => hf (hfull.1 h)
                  clear hfull hf
                  by_cases h1 : 0 < q
                  · have h2 : p2 < p1 := by omega
                    clear h12
                    go_wp2
                    go_roundg (width - (k + 1))
                    case measure => have := HK.out; have := HKL.out; omega
                    case rel => exact ⟨k + 1, by have := HK.out; have := HKL.out; omega, by go_num, rfl⟩
                  · clear h12
                    go_wp2
                    go_roundg (width - (k + 1))
                    case measure => have := HK.out; have := HKL.out; omega
                    case rel => exact ⟨k + 1, by have := HK.out; have := HKL.out; omega, by go_num, rfl⟩
              · have z0 : decide ((k : Int) < (width : Int)) = false := decide_eq_false (by omega)
                have hn40 : n ≤ 40 := HN.out
                have hwi : wrap64 ((i : Int) + 1) = ((i + 1 : Nat) : Int) := wrap_up _ (by omega)
                have z1 : decide (k < width) = false := decide_eq_false hkl
                clear hkl
                go_wp2
                go_roundg (n - (i + 1))
                case measure => have := HI.out; have := HLT.out; omega
                case rel => exact ⟨i + 1, by have := HI.out; have := HLT.out; omega, by go_num, HB3, HBo3⟩
          · have e0 : decide ((i : Int) < (n : Int)) = false := decide_eq_false (by omega)
            have e1 : decide (i < n) = false := decide_eq_false hlt
            go_wp2
            go_ret
            exact ⟨rfl, HB.out⟩
/-- six numbers as a usage -/
def toU (x : List Int) : U := ⟨nth x 0, nth x 1, nth x 2, nth x 3, nth x 4, nth x 5⟩
theorem toU_row (x : List Int) (h : x.length = 6) : (toU x).row = x.map (Value.int .i64) := by
  match x, h with
  | [a, q, u, l, s, b], _ => rfl
theorem walk (A : Option Addr) (n c : Nat) (X : Nat → List Int) (width : Int) (w : World) (h0 : RdRows 6 w A n c (fun j => (X j).map (Value.int .i64))) (hX : ∀ j, j < n → (X j).length = 6 ∧ ∀ i ∈ X j, (Lit.int .i64 i).wf = true) (_ : (Lit.int .i64 width).wf = true) :
    Calls Try.prog 7 #[.slice A n c, .int .i64 width] w fun e w' => e = .returned (.bool true) ∧ Below w.heap.size w w' := by
  by_cases hn : 40 < n
  · exact far A n c width w hn
  · have h1 : RdRows 6 w A n c (fun j => (toU (X j)).row) := ⟨h0.le, h0.cap, fun j _ => rfl, fun hp => by
      obtain ⟨ad, e, hc⟩ := h0.cells hp
      exact ⟨ad, e, fun j hj i v hv => hc j hj i v (by rw [← toU_row (X j) (hX j hj).1]; exact hv)⟩⟩
    by_cases hw : width < 1 ∨ 200 < width
    · exact wide_no' _ A n c width w (by omega) h1 hw
    · obtain ⟨width, rfl⟩ := Int.eq_ofNat_of_zero_le (show 0 ≤ width by omega)
      by_cases hall : ∀ j, j < n → okU (toU (X j))
      · exact near_ok _ A n c width w (by omega) h1 (by omega) hall
      · exact near_bad _ A n c width w (by omega) h1 (by omega) hall
end Go.Proofs.Ytlfomomgkjknhaa.UsageBars
