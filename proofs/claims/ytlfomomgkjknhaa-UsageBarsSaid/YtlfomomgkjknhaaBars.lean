/- usage.Bars: usages as bars. -/
import Derived.Test.YtlfomomgkjknhaaLift3
import Derived.Test.YtlfomomgkjknhaaMem4
import Derived.Test.YtlfomomgkjknhaaShelf
namespace Go.Proofs.Ytlfomomgkjknhaa.Bars
set_option linter.unusedVariables false
set_option linter.unusedSimpArgs false
open Go Go.RowKit Go.Proofs.Ytlfomomgkjknhaa.Mem

/-- a usage: six numbers -/
structure U where
  a : Int
  q : Int
  u : Int
  l : Int
  s : Int
  b : Int
def U.row (x : U) : List Value := [.int .i64 x.a, .int .i64 x.q, .int .i64 x.u, .int .i64 x.l, .int .i64 x.s, .int .i64 x.b]
def okU (x : U) : Prop := 0 ≤ x.q ∧ x.q ≤ 1099511627776 ∧ 0 ≤ x.l ∧ x.l ≤ x.q
def full (x : U) (width : Nat) : Nat := x.l.toNat * width / x.q.toNat
def rep (b : UInt8) (n : Nat) : ByteArray := ⟨(Lib.repeatL [b] n).toArray⟩
theorem repeatL_len (b : UInt8) (n : Nat) : (Lib.repeatL [b] n).length = n := by
  induction n with
  | zero => rfl
  | succ n ih => simp [Lib.repeatL, ih]; try omega
theorem rep_size (b : UInt8) (n : Nat) : (rep b n).size = n := by
  show (Lib.repeatL [b] n).toArray.size = n
  rw [List.size_toArray, repeatL_len]
def bar (x : U) (width : Nat) : ByteArray := rep 35 (full x width) ++ rep 46 (width - full x width)
theorem full_le (x : U) (width : Nat) (h : okU x) : full x width ≤ width := by
  obtain ⟨h0, h1, h2, h3⟩ := h
  unfold full
  rcases Nat.eq_zero_or_pos x.q.toNat with e | e
  · rw [e, Nat.div_zero]; exact Nat.zero_le _
  · refine Nat.div_le_of_le_mul ?_
    exact Nat.mul_le_mul_right _ (by omega)
theorem infoStr : (Try.prog.info? 9).map (fun i => (i.zero, i.size, i.bytes)) = some (some (.string ByteArray.empty), 1, 16) := by kernel_rfl
theorem uUsage : ∃ fs, Try.prog.underlying 61 = some (.struct fs) := ⟨_, Try.underlying61⟩

set_option maxHeartbeats 400000 in
theorem within_yes (n a b : Int) (w : World) (h : a ≤ n ∧ n ≤ b) : Calls Try.prog 89 #[.int .i64 n, .int .i64 a, .int .i64 b] w fun e w' => e = .returned (.bool true) ∧ w = w' := by
  obtain ⟨h1, h2⟩ := h
  have d1 : decide (n ≥ a) = true := decide_eq_true h1
  have d2 : decide (n ≤ b) = true := decide_eq_true h2
  go_enter Try.func89, Try.ntmps89
  go_wp2
  go_ret
  exact ⟨rfl, rfl⟩
set_option maxHeartbeats 400000 in
theorem within_no (n a b : Int) (w : World) (h : n < a ∨ b < n) : Calls Try.prog 89 #[.int .i64 n, .int .i64 a, .int .i64 b] w fun e w' => e = .returned (.bool false) ∧ w = w' := by
  by_cases h1 : a ≤ n
  · have d1 : decide (n ≥ a) = true := decide_eq_true h1
    have d2 : decide (n ≤ b) = false := decide_eq_false (by omega)
    go_enter Try.func89, Try.ntmps89
    go_wp2
    go_ret
    exact ⟨rfl, rfl⟩
  · have d1 : decide (n ≥ a) = false := decide_eq_false h1
    go_enter Try.func89, Try.ntmps89
    go_wp2
    go_ret
    exact ⟨rfl, rfl⟩
/-- within what bounds a width may be -/
theorem wide_no (A : Option Addr) (n c : Nat) (width : Int) (w : World) (h : width < 1 ∨ 200 < width) :
    Calls Try.prog 35 #[.slice A n c, .int .i64 width] w fun e w' => e = .returned (.tuple #[.slice none 0 0, .int .i64 2]) ∧ w = w' := by
  have H := As.mk h
  clear h
  go_enter Try.func35, Try.ntmps35
  go_wp2_with (go_at_call 89; refine (within_no _ _ _ _ H.out).mono ?_; rintro e w' ⟨rfl, rfl⟩)
  go_ret2
  exact ⟨rfl, rfl⟩
theorem zU : (Try.prog.info? 61).map (fun i => (i.zero, i.size)) = some (some (.agg #[.int .i64 0, .int .i64 0, .int .i64 0, .int .i64 0, .int .i64 0, .int .i64 0]), (#[.int .i64 0, .int .i64 0, .int .i64 0, .int .i64 0, .int .i64 0, .int .i64 0] : Array Value).size) := by kernel_rfl
theorem iU : (Try.prog.info? 61).map (fun i => (i.zero, i.size, i.bytes)) = some (some (.agg #[.int .i64 0, .int .i64 0, .int .i64 0, .int .i64 0, .int .i64 0, .int .i64 0]), 6, 48) := by kernel_rfl
theorem mul_fit (l k : Nat) (h : l * k ≤ 219902325555200) : IntKind.i64.wrap ((l : Int) * (k : Int)) = ((l * k : Nat) : Int) := by
  rw [show (l : Int) * (k : Int) = ((l * k : Nat) : Int) from (Int.natCast_mul l k).symm]
  generalize l * k = p at *
  rw [IntKind.wrap_i64]; omega
theorem mul_fit' (l k : Nat) (h : l * k ≤ 219902325555200) : wrap64 ((l : Int) * (k : Int)) = ((l * k : Nat) : Int) := by
  rw [show (l : Int) * (k : Int) = ((l * k : Nat) : Int) from (Int.natCast_mul l k).symm]
  generalize l * k = p at *
  unfold wrap64; omega
theorem wid (f : Nat) (h : f ≤ 1000000) : wrap64 (f : Int) = (f : Int) := by unfold wrap64; omega
theorem all_succ {P : Nat → Prop} {i : Nat} (h : ∀ j, j < i → P j) (h2 : P i) : ∀ j, j < i + 1 → P j := fun j hj => by
  rcases (show j < i ∨ j = i by omega) with h1 | h1
  · exact h j h1
  · rw [h1]; exact h2
theorem wrap_up (i : Nat) (h : i ≤ 1000000) : wrap64 ((i : Int) + 1) = ((i + 1 : Nat) : Int) := by unfold wrap64; omega
def BarsPost (us : Nat → U) (n width : Nat) (w : World) (e : Ending) (w' : World) : Prop :=
  ((∀ j, j < n → okU (us j)) ∧ ∃ A' c', e = .returned (.tuple #[.slice A' n c', .int .i64 0]) ∧ OwnAt w' w.heap.size (.slice A' n c') n ((List.range n).map fun j => .string (bar (us j) width)) ∧ Below w.heap.size w w') ∨
  (¬ (∀ j, j < n → okU (us j)) ∧ e = .returned (.tuple #[.slice none 0 0, .int .i64 2]) ∧ Below w.heap.size w w')
set_option maxHeartbeats 2000000 in
set_option maxRecDepth 100000 in
theorem bars_any (us : Nat → U) (A : Option Addr) (n c width : Nat) (w : World) (hw : 1 ≤ width ∧ width ≤ 200) (hn : n ≤ 1000000) (h0 : RdRows 6 w A n c (fun j => (us j).row)) :
    Calls Try.prog 35 #[.slice A n c, .int .i64 (width : Int)] w (BarsPost us n width w) := by
  have HW := As.mk hw
  have HN := As.mk hn
  have H0 := As.mk h0
  clear hw hn h0
  go_enter Try.func35, Try.ntmps35
  go_wp2_with (go_at_call 89; refine (within_yes _ _ _ _ ?h).mono ?_; (case h => have := HW.out; omega); rintro e w' ⟨rfl, rfl⟩)
  go_loopg [6, 15] n (fun kq v6 v15 wr => ∃ (i : Nat) (A' : Option Addr) (c' : Nat), i + kq = n ∧ v6 = .slice A' i c' ∧ v15 = .int .i64 i ∧ As (OwnAt wr w.heap.size (.slice A' i c') i ((List.range i).map fun j => .string (bar (us j) width))) ∧ As (Below w.heap.size w wr) ∧ As (∀ j, j < i → okU (us j)))
  case atStart => exact ⟨0, none, 0, by omega, rfl, rfl, ⟨OwnAt.nil _ _⟩, ⟨Below.refl _ _⟩, ⟨fun j hj => by omega⟩⟩
  case round =>
    obtain ⟨i, A', c', hi, rfl, rfl, HO, HB, HP⟩ := hrel
    have HI := As.mk hi
    clear hi
    by_cases hlt : i < n
    · have e0 : decide ((i : Int) < (n : Int)) = true := decide_eq_true (by omega)
      have e1 : decide (i < n) = true := decide_eq_true hlt
      have hwi : wrap64 ((i : Int) + 1) = ((i + 1 : Nat) : Int) := wrap_up _ (by have := HN.out; omega)
      obtain ⟨ad, ea, hc⟩ := (H0.out.below HB.out).at i hlt
      by_cases hok : okU (us i)
      case neg =>
        have HNO := As.mk (show ¬ ∀ j, j < n → okU (us j) from fun h => hok (h i hlt))
        generalize us i = x at hc hok
        obtain ⟨a, q, u, l, s, b⟩ := x
        have HC := As.mk hc
        have HBad := As.mk hok
        clear hc hok
        cases ea
        have HCell : ∀ k v, ([.int .i64 a, .int .i64 q, .int .i64 u, .int .i64 l, .int .i64 s, .int .i64 b] : List Value)[k]? = some v → wr.cell? ((ad.add (i * 6)).add k) = some v := HC.out
        have HCC := As.mk HCell
        clear HCell
        go_wp2_with (first
          | (refine wpList_load_at rfl 61 _ rfl (ad.add (i * 6)) (by rfl) [.int .i64 a, .int .i64 q, .int .i64 u, .int .i64 l, .int .i64 s, .int .i64 b] _ HCC.out Try.underlying61 rfl (by kernel_rfl) ?_)
          | (go_at_call 89; refine As.out ?_))
        refine As.mk ?_
        obtain ⟨w0, hw0⟩ : ∃ w0, w0 = wr.alloc (.cells #[.int .i64 a, .int .i64 q, .int .i64 u, .int .i64 l, .int .i64 s, .int .i64 b] 61) := ⟨_, rfl⟩
        have g1 : w0.cell? ⟨wr.heap.size, 1, none⟩ = some (.int .i64 q) := by rw [hw0, cell_of_row _ _ 1 _ _ _ (heap_alloc_new wr _)]; rfl
        have g3 : w0.cell? ⟨wr.heap.size, 3, none⟩ = some (.int .i64 l) := by rw [hw0, cell_of_row _ _ 3 _ _ _ (heap_alloc_new wr _)]; rfl
        have HB0 := As.mk (show Below w.heap.size w w0 by rw [hw0]; exact below_alloc HB.out _)
        rw [← hw0]
        clear hw0 HCC
        by_cases hq : 0 ≤ q ∧ q ≤ 1099511627776
        · have HQ := As.mk hq
          have HL := As.mk (show l < 0 ∨ q < l by
            rcases (show l < 0 ∨ 0 ≤ l by omega) with h | h
            · exact .inl h
            · rcases (show q < l ∨ l ≤ q by omega) with h2 | h2
              · exact .inr h2
              · exact absurd ⟨hq.1, hq.2, h, h2⟩ HBad.out)
          clear hq
          refine (within_yes _ _ _ _ HQ.out).mono ?_
          rintro e w' ⟨rfl, rfl⟩
          go_wp2_with (go_at_call 89; (with_reducible refine (within_no _ _ _ _ HL.out).mono ?_); rintro e w' ⟨rfl, rfl⟩)
          go_ret2
          exact .inr ⟨HNO.out, rfl, HB0.out⟩
        · have HQ := As.mk (show q < 0 ∨ 1099511627776 < q by omega)
          clear hq
          refine (within_no _ _ _ _ HQ.out).mono ?_
          rintro e w' ⟨rfl, rfl⟩
          go_wp2
          go_ret2
          exact .inr ⟨HNO.out, rfl, HB0.out⟩
      have HOK := As.mk hok
      generalize hx : us i = x at hc hok
      obtain ⟨a, q, u, l, s, b⟩ := x
      have HXE := As.mk hx
      obtain ⟨k0, k1, k2, k3⟩ := hok
      simp only at k0 k1 k2 k3
      obtain ⟨q, rfl⟩ := Int.eq_ofNat_of_zero_le k0
      obtain ⟨l, rfl⟩ := Int.eq_ofNat_of_zero_le k2
      have HC := As.mk hc
      have HQ : As (q ≤ 1099511627776 ∧ l ≤ q) := ⟨by omega⟩
      have HLT := As.mk hlt
      clear hx hc k0 k1 k2 k3
      cases ea
      have hB2 : ∀ o : Obj, As (Below wr.heap.size wr (wr.alloc o)) := fun o => ⟨below_alloc (Below.refl _ _) o⟩
      have HCell : ∀ k v, ([.int .i64 a, .int .i64 (q : Int), .int .i64 u, .int .i64 (l : Int), .int .i64 s, .int .i64 b] : List Value)[k]? = some v → wr.cell? ((ad.add (i * 6)).add k) = some v := HC.out
      have HCC := As.mk HCell
      clear HCell
      go_wp2_with (first
        | (refine wpList_load_at rfl 61 _ rfl (ad.add (i * 6)) (by rfl) [.int .i64 a, .int .i64 (q : Int), .int .i64 u, .int .i64 (l : Int), .int .i64 s, .int .i64 b] _ HCC.out Try.underlying61 rfl (by kernel_rfl) ?_)
        | (go_at_call 89; refine As.out ?_))
      refine As.mk ?_
      obtain ⟨w0, hw0⟩ : ∃ w0, w0 = wr.alloc (.cells #[.int .i64 a, .int .i64 (q : Int), .int .i64 u, .int .i64 (l : Int), .int .i64 s, .int .i64 b] 61) := ⟨_, rfl⟩
      have g1 : w0.cell? ⟨wr.heap.size, 1, none⟩ = some (.int .i64 (q : Int)) := by rw [hw0, cell_of_row _ _ 1 _ _ _ (heap_alloc_new wr _)]; rfl
      have g3 : w0.cell? ⟨wr.heap.size, 3, none⟩ = some (.int .i64 (l : Int)) := by rw [hw0, cell_of_row _ _ 3 _ _ _ (heap_alloc_new wr _)]; rfl
      have HB0 := As.mk (show Below wr.heap.size wr w0 by rw [hw0]; exact below_alloc (Below.refl _ _) _)
      rw [← hw0]
      clear hw0 HCC hB2
      by_cases hq : 0 < q
      · have c0 : decide ((q : Int) > 0) = true := decide_eq_true (by omega)
        obtain ⟨p, hp⟩ : ∃ p : Nat, p = l * width := ⟨_, rfl⟩
        obtain ⟨f, hf⟩ : ∃ f : Nat, f = p / q := ⟨_, rfl⟩
        obtain ⟨r, hr⟩ : ∃ r : Nat, r = width - f := ⟨_, rfl⟩
        have hfw : f ≤ width := by
          rw [hf]
          refine Nat.div_le_of_le_mul ?_
          rw [hp]
          exact Nat.mul_le_mul_right _ HQ.out.2
        have hpb : p ≤ 1099511627776 * 200 := by rw [hp]; exact Nat.mul_le_mul (by have := HQ.out; omega) HW.out.2
        have f1 : IntKind.i64.wrap ((l : Int) * (width : Int)) = (p : Int) := by rw [hp]; exact mul_fit l width (by omega)
        have f1' : wrap64 ((l : Int) * (width : Int)) = (p : Int) := by rw [hp]; exact mul_fit' l width (by omega)
        have f2 : (p : Int) / (q : Int) = (f : Int) := by rw [hf]; rfl
        have f3 : (width : Int) - (f : Int) = (r : Int) := by omega
        have HF := As.mk (show f = full ⟨a, q, u, l, s, b⟩ width by rw [hf, hp]; rfl)
        have HR := As.mk hr
        have HFW := As.mk hfw
        have HF4 := As.mk (wid f (by have := HW.out; omega))
        have hl1 : (⟨#[35]⟩ : ByteArray).size * f ≤ 140737488355328 := by show 1 * f ≤ _; have := HW.out; omega
        have hl2 : (⟨#[46]⟩ : ByteArray).size * r ≤ 140737488355328 := by show 1 * r ≤ _; have := HW.out; omega
        obtain ⟨s1, hs1⟩ : ∃ s1, s1 = rep 35 f := ⟨_, rfl⟩
        obtain ⟨s2, hs2⟩ : ∃ s2, s2 = rep 46 r := ⟨_, rfl⟩
        have z1 : s1.size ≤ 200 := by rw [hs1, rep_size]; have := HW.out; omega
        have z2 : s2.size ≤ 200 := by rw [hs2, rep_size]; have := HW.out; omega
        have HS1 := As.mk hs1
        have HS2 := As.mk hs2
        clear hs1 hs2
        have HL1 := As.mk hl1
        have HL2 := As.mk hl2
        have HM1 := As.mk (show f ≤ 9223372036854775807 by have := HW.out; omega)
        have HM2 := As.mk (show r ≤ 9223372036854775807 by have := HW.out; omega)
        have hww : width ≤ 200 := HW.out.2
        have hf0 : 0 ≤ (f : Int) := by omega
        clear hf hp hr hl1 hl2
        go_wp2_with (first
          | (go_at_call 89; (with_reducible refine (within_yes _ _ _ _ ?h).mono ?_); (case h => have := HQ.out; omega); rintro e w' ⟨rfl, rfl⟩)
          | (go_at_call 90; refine As.out ?_))
        clear f1 f1' f2
        refine As.mk ?_
        refine (Try.strings_Repeat ⟨#[35]⟩ f _ HM1.out HL1.out).mono ?_
        rintro e w1 ⟨rfl, hb1⟩
        have HB1 := As.mk (below_step HB0.out hb1)
        rw [show (⟨(Lib.repeatL (⟨#[35]⟩ : ByteArray).data.toList f).toArray⟩ : ByteArray) = s1 from HS1.out.symm]
        clear hb1
        go_wp2_with (first
          | (go_at_call 90; (with_reducible refine (Try.strings_Repeat ⟨#[46]⟩ r _ HM2.out HL2.out).mono ?_); rintro e w2 ⟨rfl, hb2⟩; rw [show (⟨(Lib.repeatL (⟨#[46]⟩ : ByteArray).data.toList r).toArray⟩ : ByteArray) = s2 from HS2.out.symm]; have HB2 := As.mk (below_step HB1.out hb2); have HO2 := As.mk (HO.out.below HB2.out); clear hb2)
          | (at_builtin; refine wpList_app_one rfl _ _ 57 rfl w.heap.size 9 (.string ByteArray.empty) 16 Try.underlying57 infoStr rfl _ i _ rfl HO2.out _ _ rfl rfl ?c1 ?c2 ?c3 (below_step HB.out HB2.out) (Nat.le_refl _) ?_; (case c1 => have := HLT.out; have := HN.out; unfold maxLen; omega); (case c2 => have := HLT.out; have := HN.out; omega); (case c3 => exact (below_step HB.out HB2.out).size); intro A1 c1 w3 hown hg hat hb; have HO3 := As.mk hown; have HB3 := As.mk hb; clear hown hg hat hb))
        go_roundg (n - (i + 1))
        case measure => have := HI.out; have := HLT.out; omega
        case rel =>
          refine ⟨i + 1, A1, c1, by have := HI.out; have := HLT.out; omega, rfl, by go_num, ⟨?_⟩, HB3, ⟨all_succ HP.out HOK.out⟩⟩
          have h := HO3.out
          rw [List.range_succ, List.map_append, List.map_cons, List.map_nil, HXE.out]
          rw [show bar ⟨a, q, u, l, s, b⟩ width = s1 ++ s2 by rw [HS1.out, HS2.out, HR.out, HF.out]; rfl]
          exact h
      · obtain rfl : q = 0 := by omega
        have c0 : decide (((0 : Nat) : Int) > 0) = false := rfl
        have hww : width ≤ 200 := HW.out.2
        have hl2 : (⟨#[46]⟩ : ByteArray).size * width ≤ 140737488355328 := by show 1 * width ≤ _; omega
        obtain ⟨s2, hs2⟩ : ∃ s2, s2 = rep 46 width := ⟨_, rfl⟩
        have z2 : s2.size ≤ 200 := by rw [hs2, rep_size]; omega
        have z1 : (⟨#[]⟩ : ByteArray).size ≤ 200 := by show 0 ≤ 200; omega
        have HS2 := As.mk hs2
        have HL2 := As.mk hl2
        have HM2 := As.mk (show width ≤ 9223372036854775807 by omega)
        clear hs2 hl2 hq
        go_wp2_with (first
          | (go_at_call 89; (with_reducible refine (within_yes _ _ _ _ ?h).mono ?_); (case h => have := HQ.out; omega); rintro e w' ⟨rfl, rfl⟩)
          | (go_at_call 90; refine As.out ?_))
        refine As.mk ?_
        refine (Try.strings_Repeat_zero ⟨#[35]⟩ _).mono ?_
        rintro e w1 ⟨rfl, rfl⟩
        go_wp2_with (first
          | (go_at_call 90; (with_reducible refine (Try.strings_Repeat ⟨#[46]⟩ width _ HM2.out HL2.out).mono ?_); rintro e w2 ⟨rfl, hb2⟩; rw [show (⟨(Lib.repeatL (⟨#[46]⟩ : ByteArray).data.toList width).toArray⟩ : ByteArray) = s2 from HS2.out.symm]; have HB2 := As.mk (below_step HB0.out hb2); have HO2 := As.mk (HO.out.below HB2.out); clear hb2)
          | (at_builtin; refine wpList_app_one rfl _ _ 57 rfl w.heap.size 9 (.string ByteArray.empty) 16 Try.underlying57 infoStr rfl _ i _ rfl HO2.out _ _ rfl rfl ?c1 ?c2 ?c3 (below_step HB.out HB2.out) (Nat.le_refl _) ?_; (case c1 => have := HLT.out; have := HN.out; unfold maxLen; omega); (case c2 => have := HLT.out; have := HN.out; omega); (case c3 => exact (below_step HB.out HB2.out).size); intro A1 c1 w3 hown hg hat hb; have HO3 := As.mk hown; have HB3 := As.mk hb; clear hown hg hat hb))
        go_roundg (n - (i + 1))
        case measure => have := HI.out; have := HLT.out; omega
        case rel =>
          refine ⟨i + 1, A1, c1, by have := HI.out; have := HLT.out; omega, rfl, by go_num, ⟨?_⟩, HB3, ⟨all_succ HP.out HOK.out⟩⟩
          have h := HO3.out
          rw [List.range_succ, List.map_append, List.map_cons, List.map_nil, HXE.out]
          have hfz : full ⟨a, ((0 : Nat) : Int), u, l, s, b⟩ width = 0 := Nat.div_zero _
          rw [show bar ⟨a, ((0 : Nat) : Int), u, l, s, b⟩ width = (⟨#[]⟩ : ByteArray) ++ s2 by rw [HS2.out]; unfold bar; rw [hfz]; rfl]
          exact h
    · have e0 : decide ((i : Int) < (n : Int)) = false := decide_eq_false (by omega)
      have e1 : decide (i < n) = false := decide_eq_false hlt
      obtain rfl : i = n := by have := HI.out; omega
      go_wp2
      go_ret2
      exact .inl ⟨HP.out, A', c', rfl, HO.out, HB.out⟩
end Go.Proofs.Ytlfomomgkjknhaa.Bars
