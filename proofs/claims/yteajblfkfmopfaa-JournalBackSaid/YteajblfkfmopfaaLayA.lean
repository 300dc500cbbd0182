/- super.Right, super.Meta, journal.Size. super.Lay. chatelaineref17.Wide, Size; chatelaineref18.Right, Meta, Lay. -/
import Derived.Test.YteajblfkfmopfaaZeros
import Derived.Test.YteajblfkfmopfaaMem4
import Derived.Test.YteajblfkfmopfaaGeo
import Derived.Laws.ResultCell
import Derived.Deep.RegionHeld2
namespace Go.Proofs.Yteajblfkfmopfaa.LayA
set_option linter.unusedVariables false
set_option linter.unusedSimpArgs false
open Go Go.RowKit Go.Proofs.Yteajblfkfmopfaa.Mem Go.Proofs.Yteajblfkfmopfaa.Geo

set_option maxHeartbeats 400000 in
theorem within_any (n lo hi : Int) (b : Bool) (h : (decide (lo ≤ n) && decide (n ≤ hi)) = b) (w : World) :
    Calls Try.prog 179 #[.int .i64 n, .int .i64 lo, .int .i64 hi] w fun e w' => e = .returned (.bool b) ∧ w = w' := by
  by_cases h1 : lo ≤ n
  · have d0 : decide (lo ≤ n) = true := decide_eq_true h1
    have HR := As.mk (show b = decide (n ≤ hi) by rw [← h]; simp [h1])
    clear h
    go_enter Try.func179, Try.ntmps179
    go_wp2
    go_ret
    exact ⟨by rw [HR.out]; rfl, rfl⟩
  · have d0 : decide (lo ≤ n) = false := decide_eq_false h1
    have HR := As.mk (show b = false by rw [← h]; simp [h1])
    clear h
    go_enter Try.func179, Try.ntmps179
    go_wp2
    go_ret
    exact ⟨by rw [HR.out]; rfl, rfl⟩
set_option maxHeartbeats 2000000 in
set_option maxRecDepth 100000 in
theorem right_any (s t p d : Int) (b : Bool) (h : rightB s t p d = b) (w : World) :
    Calls Try.prog 103 #[.agg #[.int .i64 s, .int .i64 t, .int .i64 p, .int .i64 d]] w fun e w' => e = .returned (.bool b) ∧ Below w.heap.size w w' := by
  have HB := As.mk (below_alloc (Below.refl w.heap.size w) (.cells #[.int .i64 s, .int .i64 t, .int .i64 p, .int .i64 d] 23))
  obtain ⟨b1, h1⟩ : ∃ b, (decide (64 ≤ s) && decide (s ≤ 256)) = b := ⟨_, rfl⟩
  obtain ⟨b2, h2⟩ : ∃ b, decide (s % 16 = 0) = b := ⟨_, rfl⟩
  obtain ⟨b3, h3⟩ : ∃ b, (decide (1 ≤ t) && decide (t ≤ 16)) = b := ⟨_, rfl⟩
  obtain ⟨b4, h4⟩ : ∃ b, (decide (1 ≤ p) && decide (p ≤ 64)) = b := ⟨_, rfl⟩
  obtain ⟨b5, h5⟩ : ∃ b, (decide (1 ≤ d) && decide (d ≤ 4096)) = b := ⟨_, rfl⟩
  have HR : As (b = (b1 && (b2 && (b3 && (b4 && b5))))) := ⟨by
    rw [← h, ← h1, ← h2, ← h3, ← h4, ← h5]
    unfold rightB
    simp only [Bool.and_assoc]⟩
  have H1 := As.mk h1
  have H3 := As.mk h3
  have H4 := As.mk h4
  have H5 := As.mk h5
  have hm : b1 = true → (s.tmod 16 == 0) = b2 := fun e => by
    rw [e] at h1
    simp only [Bool.and_eq_true, decide_eq_true_eq] at h1
    rw [Int.tmod_eq_emod_of_nonneg (by omega), ← h2]
    rfl
  clear h h1 h2 h3 h4 h5
  rcases (by cases b1 <;> cases b2 <;> cases b3 <;> cases b4 <;> simp : b1 = false ∨ (b1 = true ∧ b2 = false) ∨ (b1 = true ∧ b2 = true ∧ b3 = false) ∨ (b1 = true ∧ b2 = true ∧ b3 = true ∧ b4 = false) ∨ (b1 = true ∧ b2 = true ∧ b3 = true ∧ b4 = true)) with rfl | ⟨rfl, rfl⟩ | ⟨rfl, rfl, rfl⟩ | ⟨rfl, rfl, rfl, rfl⟩ | ⟨rfl, rfl, rfl, rfl⟩
  all_goals
    try have hmm := hm rfl
    clear hm
    go_enter Try.func103, Try.ntmps103
    go_wp2_with (first
      | (go_at_call 179; (with_reducible refine (within_any s 64 256 _ H1.out _).mono ?_); rintro e w1 ⟨rfl, rfl⟩)
      | (go_at_call 179; (with_reducible refine (within_any t 1 16 _ H3.out _).mono ?_); rintro e w1 ⟨rfl, rfl⟩)
      | (go_at_call 179; (with_reducible refine (within_any p 1 64 _ H4.out _).mono ?_); rintro e w1 ⟨rfl, rfl⟩)
      | (go_at_call 179; (with_reducible refine (within_any d 1 4096 _ H5.out _).mono ?_); rintro e w1 ⟨rfl, rfl⟩))
    go_ret
    exact ⟨by rw [HR.out]; rfl, HB.out⟩
/-- a boxed geometry -/
def geoC (s t p d : Int) : Array Value := #[.int .i64 s, .int .i64 t, .int .i64 p, .int .i64 d]
set_option maxHeartbeats 1000000 in
set_option maxRecDepth 100000 in
theorem meta_bad (s t p d : Int) (h : rightB s t p d = false) (w : World) :
    Calls Try.prog 211 #[.agg #[.int .i64 s, .int .i64 t, .int .i64 p, .int .i64 d]] w fun e w' => e = .returned (.int .i64 0) ∧ Below w.heap.size w w' := by
  have HB := As.mk (below_alloc (Below.refl w.heap.size w) (.cells #[.int .i64 s, .int .i64 t, .int .i64 p, .int .i64 d] 23))
  have H := As.mk h
  clear h
  go_enter Try.func211, Try.ntmps211
  go_wp2_with (go_at_call 103; (with_reducible refine (right_any s t p d _ H.out _).mono ?_); rintro e w1 ⟨rfl, hb⟩; have HB1 := As.mk (below_step HB.out hb); clear hb)
  go_ret
  exact ⟨rfl, HB1.out⟩
set_option maxHeartbeats 1000000 in
set_option maxRecDepth 100000 in
theorem meta_ok (s : Int) (t p d : Nat) (h : rightB s t p d = true) (w : World) :
    Calls Try.prog 211 #[.agg #[.int .i64 s, .int .i64 (t : Int), .int .i64 (p : Int), .int .i64 (d : Int)]] w fun e w' => e = .returned (.int .i64 (metaN t p d : Nat)) ∧ Below w.heap.size w w' := by
  have HR := (rightB_iff _ _ _ _).1 h
  have HB := As.mk (below_alloc (Below.refl w.heap.size w) (.cells #[.int .i64 s, .int .i64 (t : Int), .int .i64 (p : Int), .int .i64 (d : Int)] 23))
  have HG := As.mk (heap_alloc_new w (.cells #[.int .i64 s, .int .i64 (t : Int), .int .i64 (p : Int), .int .i64 (d : Int)] 23))
  have HT := As.mk (show t ≤ 16 by have := HR.t1; omega)
  have HP := As.mk (show p ≤ 64 by have := HR.p1; omega)
  have HD := As.mk (show d ≤ 4096 by have := HR.d1; omega)
  have H := As.mk h
  clear h HR
  go_enter Try.func211, Try.ntmps211
  go_wp2_with (go_at_call 103; (with_reducible refine (right_any s t p d _ H.out _).mono ?_); rintro e w1 ⟨rfl, hb⟩; have HB1 := As.mk (below_step HB.out hb); have HG1 := As.mk ((hb.block _ (by simp)).trans HG.out); clear hb; refine As.out ?_)
  refine As.mk ?_
  have c1 : w1.cell? ⟨w.heap.size, 1, none⟩ = some (.int .i64 (t : Int)) := cell_of_row w1 _ 1 _ _ _ HG1.out
  have c2 : w1.cell? ⟨w.heap.size, 2, none⟩ = some (.int .i64 (p : Int)) := cell_of_row w1 _ 2 _ _ _ HG1.out
  have c3 : w1.cell? ⟨w.heap.size, 3, none⟩ = some (.int .i64 (d : Int)) := cell_of_row w1 _ 3 _ _ _ HG1.out
  go_wp2
  go_ret
  refine ⟨ret_int ?_, HB1.out⟩
  have := HT.out
  have := HP.out
  have := HD.out
  unfold metaN
  rw [wr (48 * _) (by omega), wr (320 * _) (by omega), wr (96 * _) (by omega), wr (64 + _) (by omega), wr (_ + 320 * _) (by omega), wr _ (by omega)]
  omega
set_option maxHeartbeats 400000 in
theorem wide_any (n : Int) (b : Bool) (h : (decide (64 ≤ n) && (decide (n ≤ 256) && decide (n % 16 = 0))) = b) (w : World) :
    Calls Try.prog 142 #[.int .i64 n] w fun e w' => e = .returned (.bool b) ∧ w = w' := by
  have H := As.mk h
  by_cases h1 : 64 ≤ n
  · have d0 : decide (64 ≤ n) = true := decide_eq_true h1
    by_cases h2 : n ≤ 256
    · have d1 : decide (n ≤ 256) = true := decide_eq_true h2
      obtain ⟨b2, h3⟩ : ∃ b2, decide (n % 16 = 0) = b2 := ⟨_, rfl⟩
      have h4 : (n.tmod 16 == 0) = b2 := by rw [Int.tmod_eq_emod_of_nonneg (by omega), ← h3]; rfl
      have HR := As.mk (show b = b2 by rw [← h, d0, d1, h3]; rfl)
      clear h h3 h1 h2
      go_enter Try.func142, Try.ntmps142
      go_wp2
      go_ret
      exact ⟨by rw [HR.out]; rfl, rfl⟩
    · have d1 : decide (n ≤ 256) = false := decide_eq_false h2
      have HR := As.mk (show b = false by rw [← h, d0, d1]; rfl)
      clear h h1 h2
      go_enter Try.func142, Try.ntmps142
      go_wp2
      go_ret
      exact ⟨by rw [HR.out]; rfl, rfl⟩
  · have d0 : decide (64 ≤ n) = false := decide_eq_false h1
    have HR := As.mk (show b = false by rw [← h, d0]; rfl)
    clear h h1
    go_enter Try.func142, Try.ntmps142
    go_wp2
    go_ret
    exact ⟨by rw [HR.out]; rfl, rfl⟩
set_option maxHeartbeats 400000 in
theorem index_any (n s : Nat) (hn : n ≤ 65536) (hs : 64 ≤ s) (h2 : s ≤ 256) (w : World) :
    Calls Try.prog 143 #[.int .i64 (n : Int), .int .i64 (s : Int)] w fun e w' => e = .returned (.int .i64 (ceil (4 * n) s : Nat)) ∧ w = w' := by
  have e0 : ¬ (s : Int) = 0 := by omega
  have e1 : ¬ s = 0 := by omega
  obtain ⟨x, hx⟩ : ∃ x : Nat, x = 4 * n + s - 1 := ⟨_, rfl⟩
  have HX := As.mk hx
  have HQ := As.mk (show ceil (4 * n) s = x / s by rw [hx]; rfl)
  have f0 : wrap64 (4 * (n : Int)) = ((4 * n : Nat) : Int) := wn _ (by omega) (by omega)
  have f1 : wrap64 (((4 * n : Nat) : Int) + (s : Int)) = ((4 * n + s : Nat) : Int) := wn _ (by omega) (by omega)
  have f2 : wrap64 (((4 * n + s : Nat) : Int) - 1) = (x : Int) := wn _ (by omega) (by omega)
  have f3 : Int.tdiv (x : Int) (s : Int) = ((x / s : Nat) : Int) := rfl
  have f4 : wrap64 ((x / s : Nat) : Int) = ((x / s : Nat) : Int) := by
    have := Nat.div_le_self x s
    exact wn _ rfl (by omega)
  have f5 : wrap64 (4 * (n : Int) + (s : Int) - 1) = (x : Int) := wn _ (by omega) (by omega)
  have HS6 : As (wrap64 (4 * (n : Int) + (s : Int)) = 4 * (n : Int) + (s : Int)) := ⟨wr _ (by omega)⟩
  clear hx hn hs h2
  go_enter Try.func143, Try.ntmps143
  go_wp2
  go_ret
  refine ⟨ret_int ?_, rfl⟩
  rw [HQ.out, HS6.out, f5, f3, f4]
theorem wide_of {s : Nat} (h : 64 ≤ s ∧ s ≤ 256 ∧ s % 16 = 0) : (decide (64 ≤ (s : Int)) && (decide ((s : Int) ≤ 256) && decide ((s : Int) % 16 = 0))) = true := by
  have h3 : (s : Int) % 16 = 0 := by omega
  simp only [Bool.and_eq_true, decide_eq_true_eq]
  exact ⟨by omega, by omega, h3⟩
set_option maxHeartbeats 400000 in
theorem size_ok (n s r : Nat) (hn : n ≤ 65536) (hs : 64 ≤ s ∧ s ≤ 256 ∧ s % 16 = 0) (hr : recN n s = r) (w : World) :
    Calls Try.prog 75 #[.int .i64 (n : Int), .int .i64 (s : Int)] w fun e w' => e = .returned (.tuple #[.int .i64 (r : Int), .bool true]) ∧ w = w' := by
  have hle := index_le (n := n) hs.1
  obtain ⟨x, hx⟩ : ∃ x, ceil (4 * n) s = x := ⟨_, rfl⟩
  rw [hx] at hle
  have HX := As.mk hx
  have HW := As.mk (wide_of hs)
  have HS := As.mk hs
  have HN := As.mk hn
  have HR : As (r = 1 + x + n) := ⟨by rw [← hr, ← hx]; rfl⟩
  clear hr hx
  have d0 : decide ((n : Int) < 0) = false := decide_eq_false (by omega)
  have d1 : decide (65536 < (n : Int)) = false := decide_eq_false (by omega)
  have d2 : decide (65536 < n) = false := decide_eq_false (by omega)
  have F1 := As.mk (wn (x := 1 + (x : Int)) (1 + x) (by omega) (by omega))
  have F2 := As.mk (wn (x := ((1 + x : Nat) : Int) + (n : Int)) (1 + x + n) (by omega) (by omega))
  have F3 := As.mk (wn (x := 1 + (x : Int) + (n : Int)) (1 + x + n) (by omega) (by omega))
  clear hs hle
  go_enter Try.func75, Try.ntmps75
  go_wp2_with (first
    | (go_at_call 142; (with_reducible refine (wide_any s _ HW.out _).mono ?_); rintro e w1 ⟨rfl, rfl⟩)
    | (go_at_call 143; (with_reducible refine (index_any n s HN.out HS.out.1 HS.out.2.1 _).mono ?_); rintro e w1 ⟨rfl, rfl⟩; rw [HX.out]))
  go_ret2
  refine ⟨?_, rfl⟩
  have e : ∀ y z : Int, y = z → Ending.returned (.tuple #[.int .i64 y, .bool true]) = Ending.returned (.tuple #[.int .i64 z, .bool true]) := fun y z h => by rw [h]
  refine e _ _ ?_
  rw [HR.out]
  first | exact F3.out | (rw [F1.out]; exact F2.out)
end Go.Proofs.Yteajblfkfmopfaa.LayA
namespace Go.Proofs.Yteajblfkfmopfaa.LayA
set_option linter.unusedVariables false
set_option linter.unusedSimpArgs false
open Go Go.RowKit Go.Proofs.Yteajblfkfmopfaa.Mem Go.Proofs.Yteajblfkfmopfaa.Geo

theorem info_extent : (Try.prog.info? 28).map (·.size) = some 2 := by kernel_rfl
set_option maxHeartbeats 400000 in
set_option maxRecDepth 100000 in
theorem part_any (a n x : Int) (P : Nat) (T : TypeId) (w : World) (h : w.heap[P]? = some (.cells #[.int .i64 a] T (0, 0))) (hx : wrap64 (a + n) = x) :
    Calls Try.prog 210 #[.int .i64 n, .pointer (some ⟨P, 0, none⟩)] w fun e w' => e = .returned (.agg #[.int .i64 a, .int .i64 n]) ∧ w'.heap[P]? = some (.cells #[.int .i64 x] T (0, 0)) ∧ w.grownBy w' (some P) := by
  have H := As.mk h
  have hl := (Array.getElem?_eq_some_iff.1 h).1
  have HL := As.mk hl
  have HX := As.mk hx
  clear h hx
  have H0 : As ((((w.alloc (.cells #[.int .i64 0, .int .i64 0] 28)).alloc (.cells #[.int .i64 a, .int .i64 n] 28)).heap[P]?) = some (.cells #[.int .i64 a] T (0, 0))) := ⟨(heap_alloc_old _ _ (by simp; omega)).trans ((heap_alloc_old w _ hl).trans H.out)⟩
  have H1 : As ((((w.alloc (.cells #[.int .i64 0, .int .i64 0] 28)).alloc (.cells #[.int .i64 a, .int .i64 n] 28)).heap[w.heap.size]?) = some (.cells #[.int .i64 0, .int .i64 0] 28 (0, 0))) := ⟨(heap_alloc_old _ _ (by simp)).trans (heap_alloc_new w _)⟩
  have H2 : As ((((w.alloc (.cells #[.int .i64 0, .int .i64 0] 28)).alloc (.cells #[.int .i64 a, .int .i64 n] 28)).heap[w.heap.size + 1]?) = some (.cells #[.int .i64 a, .int .i64 n] 28 (0, 0))) := ⟨heap_alloc2_new w _ _⟩
  have HB : As (Below w.heap.size w ((w.alloc (.cells #[.int .i64 0, .int .i64 0] 28)).alloc (.cells #[.int .i64 a, .int .i64 n] 28))) := ⟨below_alloc (below_alloc (Below.refl _ _) _) _⟩
  clear hl
  have h1 := (World.cell?_alloc_lt w (.cells #[.int .i64 0, .int .i64 0] 28) ⟨P, 0, none⟩ HL.out).trans (cell_of_row w _ 0 _ _ _ H.out)
  have h2 := cell_of_row _ _ 0 _ _ _ H0.out
  have h3 := frozen_of_row _ _ 0 _ _ H0.out
  go_enter Try.func210, Try.ntmps210
  go_wp2_with (first
    | (refine wpList_load_row rfl 28 (.tmp 4) rfl (w.heap.size + 1) rfl 28 #[.int .i64 a, .int .i64 n] (0, 0) _ ((heap_setCell_other _ ⟨P, 0, none⟩ _ _ (show w.heap.size + 1 ≠ P by have := HL.out; omega)).trans H2.out) Try.underlying28 rfl info_extent ?_)
    | (refine wpList_storeArr rfl rfl 28 (.tmp 3) (.tmp 11) rfl w.heap.size rfl #[.int .i64 a, .int .i64 n] rfl 28 #[.int .i64 0, .int .i64 0] ((heap_setCell_other _ ⟨P, 0, none⟩ _ _ (show w.heap.size ≠ P by have := HL.out; omega)).trans H1.out) info_extent rfl (by simp; exact ⟨rfl, rfl⟩) ?_))

  refine bodyPost_ret (results_cell_row Try.results210 _ _ w.heap.size 28 #[.int .i64 a, .int .i64 n] (0, 0) _ rfl (setRow_new _ _ #[.int .i64 0, .int .i64 0] _ _ ((heap_setCell_other _ ⟨P, 0, none⟩ _ _ (show w.heap.size ≠ P by have := HL.out; omega)).trans H1.out)) Try.underlying28 rfl info_extent) rfl ⟨rfl, ?_, ?_⟩
  · refine (setRow_far _ _ _ _ (show P ≠ w.heap.size by have := HL.out; omega)).trans ?_
    rw [HX.out]
    exact heap_setCell_same _ _ _ _ _ _ H0.out
  · have hb := HB.out
    exact ⟨hb.os, hb.tape, hb.output, by have := hb.size; simpa using this, fun k hk hp => (setRow_far _ _ _ _ (show k ≠ w.heap.size by omega)).trans ((heap_setCell_other _ ⟨P, 0, none⟩ _ _ (show k ≠ P from fun e => hp (by rw [e]))).trans (hb.block k hk))⟩
section
variable {P : Program}
/-- two cells into a block that is there -/
theorem wpList_store2 {ops : Array Oper} {rest : List Oper} {op : Oper} {a : Act} {w : World} {Q : Exit → Act → World → Prop} (hgd : op.guard = none) (hd : op.dst = none) (ty : TypeId) (x y : Operand) (ho : op.op = .store ty x y)
    (L o : Nat) (u v : Value) (hx : a.eval x = .pointer (some ⟨L, o, none⟩)) (hy : a.eval y = .agg #[u, v]) (T : TypeId) (C : Array Value) (hC : w.heap[L]? = some (.cells C T (0, 0))) (hsz : o + 2 ≤ C.size)
    (hi : (P.info? ty).map (·.size) = some 2) (h1 : u.oneCell' = true) (h2 : v.oneCell' = true)
    (h : ∀ w', w'.heap[L]? = some (.cells ((C.setIfInBounds o u).setIfInBounds (o + 1) v) T (0, 0)) → w.grownBy w' (some L) → w'.heap.size = w.heap.size → wpList P ops Q rest a w') : wpList P ops Q (op :: rest) a w := by
  refine wpList_store_mid hgd ty x y ho L o #[u, v] hx hy (fun j hj => ?_) hi (by simp [h1, h2]) ?_
  · have hj2 : o + j < C.size := by simp at hj; omega
    exact ⟨by rw [cell_of_row _ _ _ _ _ _ hC]; simp [hj2], frozen_of_row _ _ _ _ _ hC⟩
  · have e1 := heap_setCell_same w L o C T u hC
    have e2 := heap_setCell_same _ L (o + 1) _ T v e1
    rw [show a.put op.dst undef = a by rw [hd]; rfl]
    refine h _ e2 ⟨rfl, rfl, rfl, by simp [World.setCells], fun k hk hp => ?_⟩ (by simp [World.setCells])
    have hk2 : k ≠ L := fun e => hp (by rw [e])
    exact (heap_setCell_other _ ⟨L, o + 1, none⟩ _ _ hk2).trans (heap_setCell_other _ ⟨L, o, none⟩ _ _ hk2)
end
theorem results_row_tmp {P : Program} {fn : Func} {p u : Tmp} {ty : TypeId} (h : fn.results = #[.cell p ty, .tmp u]) (tmps : Array Value) (w : World) (g : Nat) (t : TypeId) (cs : Array Value) (fr : Nat × Nat) (d : TypeDesc) (v : Value)
    (hp : tmps.getD p undef = .pointer (some ⟨g, 0, none⟩)) (hv : tmps.getD u undef = v) (hg : w.heap[g]? = some (.cells cs t fr))
    (hu : P.underlying ty = some d) (hd : (match d with | .struct _ | .array _ _ => true | _ => false) = true) (hi : (P.info? ty).map (·.size) = some cs.size) :
    (results fn tmps).run P w = .ok (.tuple #[.agg cs, v]) w := by
  rw [results_cell_tmp h, hp, hv]
  simp [asAddr, run_loadVar_row w g t ty cs fr d hg hu hd hi]
theorem below_setRow {B : Nat} {w w1 : World} (h : Below B w w1) (g : Nat) (hg : B ≤ g) (c : Array Value) : Below B w (w1.setRow g c) :=
  ⟨h.os, h.tape, h.output, by have := h.size; simpa using this, fun k hk => (setRow_far _ _ _ _ (show k ≠ g by omega)).trans (h.block k hk)⟩
/-- a layout -/
def layC (r m d : Nat) : Array Value := #[.int .i64 0, .int .i64 2, .int .i64 2, .int .i64 (r : Int), .int .i64 (2 + r : Nat), .int .i64 (m : Int), .int .i64 (2 + r + m : Nat), .int .i64 (d : Int), .int .i64 (2 + r + m + d : Nat)]
def lay0 : Array Value := #[.int .i64 0, .int .i64 0, .int .i64 0, .int .i64 0, .int .i64 0, .int .i64 0, .int .i64 0, .int .i64 0, .int .i64 0]
theorem info_geom : (Try.prog.info? 23).map (·.size) = some 4 := by kernel_rfl
theorem info_layout : (Try.prog.info? 30).map (·.size) = some 9 := by kernel_rfl
theorem meta_okM (s : Int) (t p d M : Nat) (hM : metaN t p d = M) (h : rightB s t p d = true) (w : World) :
    Calls Try.prog 211 #[.agg #[.int .i64 s, .int .i64 (t : Int), .int .i64 (p : Int), .int .i64 (d : Int)]] w fun e w' => e = .returned (.int .i64 (M : Int)) ∧ Below w.heap.size w w' := hM ▸ meta_ok s t p d h w
theorem size_okI (n' : Int) (n s r : Nat) (e : n' = (n : Int)) (hn : n ≤ 65536) (hs : 64 ≤ s ∧ s ≤ 256 ∧ s % 16 = 0) (hr : recN n s = r) (w : World) :
    Calls Try.prog 75 #[.int .i64 n', .int .i64 (s : Int)] w fun e w' => e = .returned (.tuple #[.int .i64 (r : Int), .bool true]) ∧ w = w' := e ▸ size_ok n s r hn hs hr w
set_option maxHeartbeats 1000000 in
set_option maxRecDepth 100000 in
theorem lay_ok (s t p d : Nat) (h : rightB s t p d = true) (w : World) :
    Calls Try.prog 171 #[.agg #[.int .i64 (s : Int), .int .i64 (t : Int), .int .i64 (p : Int), .int .i64 (d : Int)]] w fun e w' => e = .returned (.tuple #[.agg (layC (recN (secN s t p d + 1) s) (secN s t p d) d), .bool true]) ∧ Below w.heap.size w w' := by
  have hR := (rightB_iff _ _ _ _).1 h
  have hs := hR.s0
  have hs1 := hR.s1
  have ht := hR.t1
  have hp := hR.p1
  have hd := hR.d1
  obtain ⟨m, hm⟩ : ∃ m, secN s t p d = m := ⟨_, rfl⟩
  obtain ⟨r, hr⟩ : ∃ r, recN (m + 1) s = r := ⟨_, rfl⟩
  obtain ⟨M, hM⟩ : ∃ M, metaN t p d = M := ⟨_, rfl⟩
  have hm1 : m < 6480 := by rw [← hm]; exact secN_lt (by omega) (by omega) (by omega) (by omega)
  have hM1 : M ≤ 414528 := by rw [← hM]; exact metaN_le (by omega) (by omega) (by omega)
  rw [hm, hr]
  have H := As.mk h
  have Hm := As.mk hm
  have Hr := As.mk hr
  have HM := As.mk hM
  have HB0 := As.mk (below_alloc (Below.refl w.heap.size w) (.cells #[.int .i64 (s : Int), .int .i64 (t : Int), .int .i64 (p : Int), .int .i64 (d : Int)] 23))
  have HG0 := As.mk (heap_alloc_new w (.cells #[.int .i64 (s : Int), .int .i64 (t : Int), .int .i64 (p : Int), .int .i64 (d : Int)] 23))
  clear hm hr hM h hR
  have e0 : ¬ (s : Int) = 0 := by omega
  have e1 : ¬ s = 0 := by omega
  have F1 := As.mk (wr ((M : Int) + 4) (by omega))
  have F2 := As.mk (wr ((M : Int) + 4 + (s : Int)) (by omega))
  have F3 := As.mk (wn (x := (M : Int) + 4 + (s : Int) - 1) (M + 4 + s - 1) (by omega) (by omega))
  have F5 := As.mk (wr (m : Int) (by omega))
  have G1 := As.mk (iw ((M : Int) + 4) (by omega))
  have G2 := As.mk (iw ((M : Int) + 4 + (s : Int)) (by omega))
  have G3 := As.mk (iwn (x := (M : Int) + 4 + (s : Int) - 1) (M + 4 + s - 1) (by omega) (by omega))
  have G5 := As.mk (iw (m : Int) (by omega))
  have F4 : As (Int.tdiv ((M + 4 + s - 1 : Nat) : Int) (s : Int) = (m : Int)) := ⟨by
    rw [← Hm.out, ← Int.ofNat_tdiv]
    unfold secN ceil
    rw [HM.out]⟩
  have f1 := F1.out
  have f2 := F2.out
  have f3 := F3.out
  have f4 := F4.out
  have f5 := F5.out
  clear hs hs1 ht hp hd
  have HG2 := As.mk ((heap_alloc_old (w.alloc (.cells #[.int .i64 (s : Int), .int .i64 (t : Int), .int .i64 (p : Int), .int .i64 (d : Int)] 23)) (.cells lay0 30) (show w.heap.size < _ by simp)).trans HG0.out)
  have HL2 := As.mk (heap_alloc2_new w (.cells #[.int .i64 (s : Int), .int .i64 (t : Int), .int .i64 (p : Int), .int .i64 (d : Int)] 23) (.cells lay0 30))
  have HB2 := As.mk (below_alloc HB0.out (.cells lay0 30))
  go_enter Try.func171, Try.ntmps171
  go_wp2_with (first
    | (go_at_call 103; (with_reducible refine (right_any s t p d _ H.out _).mono ?_); rintro e w1 ⟨rfl, hb⟩; have HB3 := As.mk (below_step HB2.out hb); have HG3 := As.mk ((hb.block _ (by simp; omega)).trans HG2.out); have HL3 := As.mk ((hb.block _ (by simp)).trans HL2.out); have HS3 := As.mk (show w.heap.size + 2 ≤ w1.heap.size by have := hb.size; simp at this; omega); clear hb HB2 HG2 HL2 HB0 HG0; refine As.out ?_))
  refine As.mk ?_
  have HGp := As.mk ((heap_alloc_old w1 (.cells #[.int .i64 0] 3) (show w.heap.size < _ by have := HS3.out; omega)).trans HG3.out)
  have HLp := As.mk ((heap_alloc_old w1 (.cells #[.int .i64 0] 3) (show w.heap.size + 1 < _ by have := HS3.out; omega)).trans HL3.out)
  have HPp := As.mk (heap_alloc_new w1 (.cells #[.int .i64 0] 3))
  have HBp := As.mk (below_alloc HB3.out (.cells #[.int .i64 0] 3))
  have HSp := As.mk (show (w1.alloc (.cells #[.int .i64 0] 3)).heap.size = w1.heap.size + 1 by simp)
  obtain ⟨P, hP⟩ : ∃ P, P = w1.heap.size := ⟨_, rfl⟩
  go_wp2
  generalize w1.alloc (.cells #[.int .i64 0] 3) = wp at *
  rw [← hP] at HPp HSp ⊢
  have HPP := As.mk (show w.heap.size + 2 ≤ P by have := HS3.out; omega)
  clear hP HG3 HL3 HB3 HS3
  have c0 : wp.cell? ⟨w.heap.size, 0, none⟩ = some (.int .i64 (s : Int)) := cell_of_row _ _ 0 _ _ _ HGp.out
  have c1 : wp.cell? ⟨w.heap.size, 1, none⟩ = some (.int .i64 (t : Int)) := cell_of_row _ _ 1 _ _ _ HGp.out
  have c2 : wp.cell? ⟨w.heap.size, 2, none⟩ = some (.int .i64 (p : Int)) := cell_of_row _ _ 2 _ _ _ HGp.out
  have c3 : wp.cell? ⟨w.heap.size, 3, none⟩ = some (.int .i64 (d : Int)) := cell_of_row _ _ 3 _ _ _ HGp.out
  go_region_held2 (fun W : World => W.cell? ⟨w.heap.size, 0, none⟩ = some (.int .i64 (s : Int)) ∧ W.cell? ⟨w.heap.size, 1, none⟩ = some (.int .i64 (t : Int)) ∧ W.cell? ⟨w.heap.size, 2, none⟩ = some (.int .i64 (p : Int)) ∧ W.cell? ⟨w.heap.size, 3, none⟩ = some (.int .i64 (d : Int)))
    (first | exact ⟨c0, c1, c2, c3⟩ | exact HS5.out)
    (first | (go_at_call 211; ((with_reducible refine (meta_okM (s : Int) t p d M HM.out H.out _).mono ?_); rintro e w5 ⟨rfl, hb⟩; have HB5 := As.mk hb; have HS5 := As.mk (And.intro ((hb.cell (World.block_lt_of_cell? wp _ c0)).trans c0) (And.intro ((hb.cell (World.block_lt_of_cell? wp _ c1)).trans c1) (And.intro ((hb.cell (World.block_lt_of_cell? wp _ c2)).trans c2) ((hb.cell (World.block_lt_of_cell? wp _ c3)).trans c3)))); clear hb)))
  have g1 : IntKind.i64.wrap ((M : Int) + 4) = (M : Int) + 4 := G1.out
  have g2 : IntKind.i64.wrap ((M : Int) + 4 + (s : Int)) = (M : Int) + 4 + (s : Int) := G2.out
  have g3 : IntKind.i64.wrap ((M : Int) + 4 + (s : Int) - 1) = ((M + 4 + s - 1 : Nat) : Int) := G3.out
  have g5 : IntKind.i64.wrap (m : Int) = (m : Int) := G5.out
  rw [g1, g2, g3, f4, g5]
  clear g1 g2 g3 g5 f1 f2 f3 f4 f5 F1 F2 F3 F4 F5 G1 G2 G3 G5 c0 c1 c2 c3
  have HB5 : As (Below wp.heap.size wp w5) := ⟨below_undrewN (n := 1) HB5.out⟩
  have HG5 := As.mk ((HB5.out.block w.heap.size (by have := HPP.out; have := HSp.out; omega)).trans HGp.out)
  have HL5 := As.mk ((HB5.out.block (w.heap.size + 1) (by have := HPP.out; have := HSp.out; omega)).trans HLp.out)
  have HP5 := As.mk ((HB5.out.block P (by have := HSp.out; omega)).trans HPp.out)
  have HB6 := As.mk (below_step HBp.out HB5.out)
  have HZ5 := As.mk (show P < w5.heap.size by have := HB5.out.size; have := HSp.out; omega)
  clear HGp HLp HPp HBp HB5 HSp
  have hm2 : m + 1 ≤ 65536 := by omega
  have HM2 := As.mk hm2
  have hR := (rightB_iff _ _ _ _).1 H.out
  have HW := As.mk (show 64 ≤ s ∧ s ≤ 256 ∧ s % 16 = 0 by have := hR.s0; have := hR.s1; have := hR.sm; omega)
  clear hR
  have c0 : w5.cell? ⟨w.heap.size, 0, none⟩ = some (.int .i64 (s : Int)) := cell_of_row _ _ 0 _ _ _ HG5.out
  have k1 : wrap64 ((m : Int) + 1) = ((m + 1 : Nat) : Int) := wn _ (by omega) (by omega)
  go_wp2_with (first
    | (go_at_call 75; (with_reducible refine (size_okI ((m : Int) + 1) (m + 1) s r rfl HM2.out HW.out Hr.out _).mono ?_); rintro e w6 ⟨rfl, rfl⟩; refine As.out ?_))
  refine As.mk ?_
  clear c0 k1
  have HT : As (w.heap.size + 1 < P) := ⟨by have := HPP.out; omega⟩
  have hr1 : r ≤ 2 * 6481 := by rw [← Hr.out]; have := index_le (n := m + 1) HW.out.1; unfold recN; omega
  have hd1 : d ≤ 4096 := by have := ((rightB_iff _ _ _ _).1 H.out).d1; omega
  have K0 := As.mk (show wrap64 ((0 : Int) + 2) = 2 by rw [wr _ (by decide)]; rfl)
  obtain ⟨x1, hx1⟩ : ∃ x1, x1 = 2 + r := ⟨_, rfl⟩
  obtain ⟨x2, hx2⟩ : ∃ x2, x2 = 2 + r + m := ⟨_, rfl⟩
  obtain ⟨x3, hx3⟩ : ∃ x3, x3 = 2 + r + m + d := ⟨_, rfl⟩
  have HLAY : As (layC r m d = #[.int .i64 0, .int .i64 2, .int .i64 2, .int .i64 (r : Int), .int .i64 (x1 : Int), .int .i64 (m : Int), .int .i64 (x2 : Int), .int .i64 (d : Int), .int .i64 (x3 : Int)]) := ⟨by unfold layC; subst hx1 hx2 hx3; rfl⟩
  have K1 := As.mk (wn (x := 2 + (r : Int)) x1 (by omega) (by omega))
  have K2 := As.mk (wn (x := (x1 : Int) + (m : Int)) x2 (by omega) (by omega))
  have K3 := As.mk (wn (x := (x2 : Int) + (d : Int)) x3 (by omega) (by omega))
  clear hx1 hx2 hx3
  clear hm1 hM1 e0 e1 hm2 hr1 hd1 Hm Hr HM HM2 HW HPP
  go_wp2_with (first
    | (go_at_call 210; (with_reducible refine (part_any 0 2 2 P _ w5 HP5.out K0.out).mono ?_); rintro e w6 ⟨rfl, hp, hg⟩; have HP6 := As.mk hp; have HG := As.mk hg; clear hp hg; refine As.out ?_))
  refine As.mk ?_
  have HG6 := As.mk ((HG.out.block w.heap.size (by have := HT.out; have := HZ5.out; omega) (by intro e; cases e; have := HT.out; omega)).trans HG5.out)
  have HL6 := As.mk ((HG.out.block (w.heap.size + 1) (by have := HT.out; have := HZ5.out; omega) (by intro e; cases e; have := HT.out; omega)).trans HL5.out)
  have HB7 := As.mk (below_some HB6.out HG.out (by have := HT.out; have := HZ5.out; omega) (by have := HT.out; omega))
  have HZ6 := As.mk (show P < w6.heap.size by have := HG.out.size; have := HZ5.out; omega)
  clear HP5 HG5 HL5 HB6 HG HZ5 HB5 HS5
  have HL7 := As.mk (heap_alloc_new w6 (.cells #[.int .i64 0, .int .i64 2, .int .i64 0, .int .i64 0, .int .i64 0, .int .i64 0, .int .i64 0, .int .i64 0, .int .i64 0] 30))
  have HP7 := As.mk ((heap_alloc_old w6 (.cells #[.int .i64 0, .int .i64 2, .int .i64 0, .int .i64 0, .int .i64 0, .int .i64 0, .int .i64 0, .int .i64 0, .int .i64 0] 30) HZ6.out).trans HP6.out)
  have HG7 := As.mk ((heap_alloc_old w6 (.cells #[.int .i64 0, .int .i64 2, .int .i64 0, .int .i64 0, .int .i64 0, .int .i64 0, .int .i64 0, .int .i64 0, .int .i64 0] 30) (show w.heap.size < _ by have := HT.out; have := HZ6.out; omega)).trans HG6.out)
  have HL27 := As.mk ((heap_alloc_old w6 (.cells #[.int .i64 0, .int .i64 2, .int .i64 0, .int .i64 0, .int .i64 0, .int .i64 0, .int .i64 0, .int .i64 0, .int .i64 0] 30) (show w.heap.size + 1 < _ by have := HT.out; have := HZ6.out; omega)).trans HL6.out)
  have HB71 := As.mk (below_alloc HB7.out (.cells #[.int .i64 0, .int .i64 2, .int .i64 0, .int .i64 0, .int .i64 0, .int .i64 0, .int .i64 0, .int .i64 0, .int .i64 0] 30))
  have HZ7 := As.mk (show w6.heap.size < (w6.alloc (.cells #[.int .i64 0, .int .i64 2, .int .i64 0, .int .i64 0, .int .i64 0, .int .i64 0, .int .i64 0, .int .i64 0, .int .i64 0] 30)).heap.size by simp)
  have HPL := As.mk (show P < w6.heap.size from HZ6.out)
  clear HP6 HG6 HL6 HB7 HZ6
  go_wp2_with (first
    | (go_at_call 210; (with_reducible refine (part_any 2 (r : Int) (x1 : Int) P _ (w6.alloc (.cells #[.int .i64 0, .int .i64 2, .int .i64 0, .int .i64 0, .int .i64 0, .int .i64 0, .int .i64 0, .int .i64 0, .int .i64 0] 30)) HP7.out K1.out).mono ?_); rintro e w8 ⟨rfl, hp, hg⟩; have HP8 := As.mk hp; have HG := As.mk hg; clear hp hg; refine As.out ?_))
  refine As.mk ?_
  have HG8 := As.mk ((HG.out.block w.heap.size (by have := HT.out; have := HZ7.out; have := HPL.out; omega) (by intro e; have := Option.some.inj e; have := HT.out; omega)).trans HG7.out)
  have HL28 := As.mk ((HG.out.block (w.heap.size + 1) (by have := HT.out; have := HZ7.out; have := HPL.out; omega) (by intro e; have := Option.some.inj e; have := HT.out; omega)).trans HL27.out)
  have HL8 := As.mk ((HG.out.block w6.heap.size (by have := HZ7.out; omega) (by intro e; have := Option.some.inj e; have := HPL.out; omega)).trans HL7.out)
  have HB8 := As.mk (below_some HB71.out HG.out (by have := HT.out; have := HZ7.out; have := HPL.out; omega) (by have := HT.out; omega))
  have HZ8 := As.mk (show w6.heap.size < w8.heap.size by have := HG.out.size; have := HZ7.out; omega)
  clear HG HP7 HG7 HL27 HL7 HB71 HZ7
  go_wp2_with (first
    | (refine wpList_store2 rfl rfl 28 _ _ rfl w6.heap.size 2 _ _ rfl rfl 30 _ HL8.out (by simp) info_extent rfl rfl ?_; intro w9 hl hg hs; have HL9 := As.mk hl; have HG := As.mk hg; have HS := As.mk hs; clear hl hg hs; refine As.out ?_))
  refine As.mk ?_
  have HL9 : As (w9.heap[w6.heap.size]? = some (.cells #[.int .i64 0, .int .i64 2, .int .i64 2, .int .i64 (r : Int), .int .i64 0, .int .i64 0, .int .i64 0, .int .i64 0, .int .i64 0] 30 (0, 0))) := ⟨by simpa using HL9.out⟩
  have HG9 := As.mk ((HG.out.block w.heap.size (by have := HT.out; have := HZ8.out; have := HPL.out; omega) (by intro e; have := Option.some.inj e; have := HT.out; have := HPL.out; omega)).trans HG8.out)
  have HL29 := As.mk ((HG.out.block (w.heap.size + 1) (by have := HT.out; have := HZ8.out; have := HPL.out; omega) (by intro e; have := Option.some.inj e; have := HT.out; have := HPL.out; omega)).trans HL28.out)
  have HP9 := As.mk ((HG.out.block P (by have := HZ8.out; have := HPL.out; omega) (by intro e; have := Option.some.inj e; have := HPL.out; omega)).trans HP8.out)
  have HB9 := As.mk (below_some HB8.out HG.out (by have := HT.out; have := HZ8.out; have := HPL.out; omega) (by have := HT.out; have := HPL.out; omega))
  have HZ9 := As.mk (show w6.heap.size < w9.heap.size by have := HS.out; have := HZ8.out; omega)
  clear HG HS HP8 HG8 HL28 HL8 HB8 HZ8
  go_wp2_with (first
    | (go_at_call 210; (with_reducible refine (part_any (x1 : Int) (m : Int) (x2 : Int) P _ w9 HP9.out K2.out).mono ?_); rintro e w10 ⟨rfl, hp, hg⟩; have HP10 := As.mk hp; have HG := As.mk hg; clear hp hg; refine As.out ?_))
  refine As.mk ?_
  have HG10 := As.mk ((HG.out.block w.heap.size (by have := HT.out; have := HZ9.out; have := HPL.out; omega) (by intro e; have := Option.some.inj e; have := HT.out; omega)).trans HG9.out)
  have HL210 := As.mk ((HG.out.block (w.heap.size + 1) (by have := HT.out; have := HZ9.out; have := HPL.out; omega) (by intro e; have := Option.some.inj e; have := HT.out; omega)).trans HL29.out)
  have HL10 := As.mk ((HG.out.block w6.heap.size (by have := HZ9.out; omega) (by intro e; have := Option.some.inj e; have := HPL.out; omega)).trans HL9.out)
  have HB10 := As.mk (below_some HB9.out HG.out (by have := HT.out; have := HZ9.out; have := HPL.out; omega) (by have := HT.out; omega))
  have HZ10 := As.mk (show w6.heap.size < w10.heap.size by have := HG.out.size; have := HZ9.out; omega)
  clear HG HP9 HG9 HL29 HL9 HB9 HZ9
  go_wp2_with (first
    | (refine wpList_store2 rfl rfl 28 _ _ rfl w6.heap.size 4 _ _ rfl rfl 30 _ HL10.out (by simp) info_extent rfl rfl ?_; intro w11 hl hg hs; have HL11 := As.mk hl; have HG := As.mk hg; have HS := As.mk hs; clear hl hg hs; refine As.out ?_))
  refine As.mk ?_
  have HL11 : As (w11.heap[w6.heap.size]? = some (.cells #[.int .i64 0, .int .i64 2, .int .i64 2, .int .i64 (r : Int), .int .i64 (x1 : Int), .int .i64 (m : Int), .int .i64 0, .int .i64 0, .int .i64 0] 30 (0, 0))) := ⟨by simpa using HL11.out⟩
  have HG11 := As.mk ((HG.out.block w.heap.size (by have := HT.out; have := HZ10.out; have := HPL.out; omega) (by intro e; have := Option.some.inj e; have := HT.out; have := HPL.out; omega)).trans HG10.out)
  have HL211 := As.mk ((HG.out.block (w.heap.size + 1) (by have := HT.out; have := HZ10.out; have := HPL.out; omega) (by intro e; have := Option.some.inj e; have := HT.out; have := HPL.out; omega)).trans HL210.out)
  have HP11 := As.mk ((HG.out.block P (by have := HZ10.out; have := HPL.out; omega) (by intro e; have := Option.some.inj e; have := HPL.out; omega)).trans HP10.out)
  have HB11 := As.mk (below_some HB10.out HG.out (by have := HT.out; have := HZ10.out; have := HPL.out; omega) (by have := HT.out; have := HPL.out; omega))
  have HZ11 := As.mk (show w6.heap.size < w11.heap.size by have := HS.out; have := HZ10.out; omega)
  clear HG HS HP10 HG10 HL210 HL10 HB10 HZ10
  have c3 := cell_of_row _ _ 3 _ _ _ HG11.out
  go_wp2_with (first
    | (go_at_call 210; (with_reducible refine (part_any (x2 : Int) (d : Int) (x3 : Int) P _ w11 HP11.out K3.out).mono ?_); rintro e w12 ⟨rfl, hp, hg⟩; have HP12 := As.mk hp; have HG := As.mk hg; clear hp hg; refine As.out ?_))
  refine As.mk ?_
  clear c3
  have HG12 := As.mk ((HG.out.block w.heap.size (by have := HT.out; have := HZ11.out; have := HPL.out; omega) (by intro e; have := Option.some.inj e; have := HT.out; omega)).trans HG11.out)
  have HL212 := As.mk ((HG.out.block (w.heap.size + 1) (by have := HT.out; have := HZ11.out; have := HPL.out; omega) (by intro e; have := Option.some.inj e; have := HT.out; omega)).trans HL211.out)
  have HL12 := As.mk ((HG.out.block w6.heap.size (by have := HZ11.out; omega) (by intro e; have := Option.some.inj e; have := HPL.out; omega)).trans HL11.out)
  have HB12 := As.mk (below_some HB11.out HG.out (by have := HT.out; have := HZ11.out; have := HPL.out; omega) (by have := HT.out; omega))
  have HZ12 := As.mk (show w6.heap.size < w12.heap.size by have := HG.out.size; have := HZ11.out; omega)
  clear HG HP11 HG11 HL211 HL11 HB11 HZ11
  go_wp2_with (first
    | (refine wpList_store2 rfl rfl 28 _ _ rfl w6.heap.size 6 _ _ rfl rfl 30 _ HL12.out (by simp) info_extent rfl rfl ?_; intro w13 hl hg hs; have HL13 := As.mk hl; have HG := As.mk hg; have HS := As.mk hs; clear hl hg hs; refine As.out ?_))
  refine As.mk ?_
  have HL13 : As (w13.heap[w6.heap.size]? = some (.cells #[.int .i64 0, .int .i64 2, .int .i64 2, .int .i64 (r : Int), .int .i64 (x1 : Int), .int .i64 (m : Int), .int .i64 (x2 : Int), .int .i64 (d : Int), .int .i64 0] 30 (0, 0))) := ⟨by simpa using HL13.out⟩
  have HG13 := As.mk ((HG.out.block w.heap.size (by have := HT.out; have := HZ12.out; have := HPL.out; omega) (by intro e; have := Option.some.inj e; have := HT.out; have := HPL.out; omega)).trans HG12.out)
  have HL213 := As.mk ((HG.out.block (w.heap.size + 1) (by have := HT.out; have := HZ12.out; have := HPL.out; omega) (by intro e; have := Option.some.inj e; have := HT.out; have := HPL.out; omega)).trans HL212.out)
  have HP13 := As.mk ((HG.out.block P (by have := HZ12.out; have := HPL.out; omega) (by intro e; have := Option.some.inj e; have := HPL.out; omega)).trans HP12.out)
  have HB13 := As.mk (below_some HB12.out HG.out (by have := HT.out; have := HZ12.out; have := HPL.out; omega) (by have := HT.out; have := HPL.out; omega))
  have HZ13 := As.mk (show w6.heap.size < w13.heap.size by have := HS.out; have := HZ12.out; omega)
  clear HG HS HP12 HG12 HL212 HL12 HB12 HZ12
  have cP := cell_of_row _ _ 0 _ _ _ HP13.out
  have cL := cell_of_row _ _ 8 _ _ _ HL13.out
  have fL := frozen_of_row _ _ 8 _ _ HL13.out
  have HF : As ((w13.setCell ⟨w6.heap.size, 8, none⟩ (.int .i64 (x3 : Int))).heap[w6.heap.size]? = some (.cells (layC r m d) 30 (0, 0))) := ⟨by
    rw [heap_setCell_same w13 w6.heap.size 8 _ _ _ HL13.out, HLAY.out]
    simp⟩
  have HR : As ((w13.setCell ⟨w6.heap.size, 8, none⟩ (.int .i64 (x3 : Int))).heap[w.heap.size + 1]? = some (.cells lay0 30 (0, 0))) := ⟨(heap_setCell_other _ ⟨w6.heap.size, 8, none⟩ _ _ (show w.heap.size + 1 ≠ w6.heap.size by have := HT.out; have := HPL.out; omega)).trans HL213.out⟩
  have HBF := As.mk (HB13.out.setCell (p := ⟨w6.heap.size, 8, none⟩) (show w.heap.size ≤ w6.heap.size by have := HT.out; have := HPL.out; omega) (.int .i64 (x3 : Int)))
  have hone : (layC r m d).all (·.oneCell') = true := by
    rw [HLAY.out]
    simp [Value.oneCell']
  have HONE := As.mk hone
  clear hone
  go_wp2_with (first
    | (refine wpList_load_row rfl 30 _ rfl w6.heap.size rfl 30 (layC r m d) (0, 0) _ HF.out Try.underlying30 rfl info_layout ?_)
    | (refine wpList_storeArr rfl rfl 30 _ _ rfl (w.heap.size + 1) rfl (layC r m d) rfl 30 lay0 HR.out info_layout rfl HONE.out ?_))
  refine bodyPost_ret (results_row_tmp Try.results171 _ _ (w.heap.size + 1) 30 (layC r m d) (0, 0) _ (.bool true) rfl rfl (setRow_new _ _ lay0 _ _ HR.out) Try.underlying30 rfl info_layout) rfl ⟨rfl, below_setRow HBF.out _ (by omega) _⟩
end Go.Proofs.Yteajblfkfmopfaa.LayA
namespace Go.Proofs.Yteajblfkfmopfaa.LayA
set_option linter.unusedVariables false
set_option linter.unusedSimpArgs false
open Go Go.RowKit Go.Proofs.Yteajblfkfmopfaa.Mem Go.Proofs.Yteajblfkfmopfaa.Geo

theorem lt_ceil {n s i : Nat} (hs : 0 < s) : i < ceil n s ↔ i * s < n := by
  constructor
  · intro h
    rcases Nat.lt_or_ge (i * s) n with h1 | h1
    · exact h1
    · have := ceil_lt (n := n) (s := s) (k := i + 1) hs (by rw [Nat.add_mul i 1 s]; omega)
      omega
  · exact fun h => ceil_gt hs h
set_option maxHeartbeats 400000 in
theorem wideR_any (n : Int) (b : Bool) (h : (decide (64 ≤ n) && (decide (n ≤ 256) && decide (n % 16 = 0))) = b) (w : World) :
    Calls Try.prog 76 #[.int .i64 n] w fun e w' => e = .returned (.bool b) ∧ w = w' := by
  by_cases h1 : 64 ≤ n
  · have d0 : decide (64 ≤ n) = true := decide_eq_true h1
    by_cases h2 : n ≤ 256
    · have d1 : decide (n ≤ 256) = true := decide_eq_true h2
      obtain ⟨b2, h3⟩ : ∃ b2, decide (n % 16 = 0) = b2 := ⟨_, rfl⟩
      have h4 : (n.tmod 16 == 0) = b2 := by rw [Int.tmod_eq_emod_of_nonneg (by omega), ← h3]; rfl
      have HR := As.mk (show b = b2 by rw [← h, d0, d1, h3]; rfl)
      clear h h3 h1 h2
      go_enter Try.func76, Try.ntmps76
      go_wp2
      go_ret
      exact ⟨by rw [HR.out]; rfl, rfl⟩
    · have d1 : decide (n ≤ 256) = false := decide_eq_false h2
      have HR := As.mk (show b = false by rw [← h, d0, d1]; rfl)
      clear h h1 h2
      go_enter Try.func76, Try.ntmps76
      go_wp2
      go_ret
      exact ⟨by rw [HR.out]; rfl, rfl⟩
  · have d0 : decide (64 ≤ n) = false := decide_eq_false h1
    have HR := As.mk (show b = false by rw [← h, d0]; rfl)
    clear h h1
    go_enter Try.func76, Try.ntmps76
    go_wp2
    go_ret
    exact ⟨by rw [HR.out]; rfl, rfl⟩
theorem right_eight {b1 b2 b3 b4 b5 b6 b7 : Bool} : b1 = false ∨ (b1 = true ∧ b2 = false) ∨ (b1 = true ∧ b2 = true ∧ b3 = false) ∨ (b1 = true ∧ b2 = true ∧ b3 = true ∧ b4 = false) ∨ (b1 = true ∧ b2 = true ∧ b3 = true ∧ b4 = true ∧ b5 = false) ∨ (b1 = true ∧ b2 = true ∧ b3 = true ∧ b4 = true ∧ b5 = true ∧ b6 = false) ∨ (b1 = true ∧ b2 = true ∧ b3 = true ∧ b4 = true ∧ b5 = true ∧ b6 = true) := by
  cases b1 <;> cases b2 <;> cases b3 <;> cases b4 <;> cases b5 <;> cases b6 <;> simp
set_option maxHeartbeats 4000000 in
set_option maxRecDepth 100000 in
theorem rightR_any (s t p d : Int) (b : Bool) (h : rightB s t p d = b) (w : World) :
    Calls Try.prog 18 #[.agg #[.int .i64 s, .int .i64 t, .int .i64 p, .int .i64 d]] w fun e w' => e = .returned (.bool b) ∧ Below w.heap.size w w' := by
  have HB := As.mk (below_alloc (Below.refl w.heap.size w) (.cells #[.int .i64 s, .int .i64 t, .int .i64 p, .int .i64 d] 23))
  obtain ⟨b1, h1⟩ : ∃ b, (decide (64 ≤ s) && (decide (s ≤ 256) && decide (s % 16 = 0))) = b := ⟨_, rfl⟩
  obtain ⟨b2, h2⟩ : ∃ b, decide (1 ≤ t) = b := ⟨_, rfl⟩
  obtain ⟨b3, h3⟩ : ∃ b, decide (t ≤ 16) = b := ⟨_, rfl⟩
  obtain ⟨b4, h4⟩ : ∃ b, decide (1 ≤ p) = b := ⟨_, rfl⟩
  obtain ⟨b5, h5⟩ : ∃ b, decide (p ≤ 64) = b := ⟨_, rfl⟩
  obtain ⟨b6, h6⟩ : ∃ b, decide (1 ≤ d) = b := ⟨_, rfl⟩
  obtain ⟨b7, h7⟩ : ∃ b, decide (d ≤ 4096) = b := ⟨_, rfl⟩
  have HR : As (b = (b1 && (b2 && (b3 && (b4 && (b5 && (b6 && b7))))))) := ⟨by
    rw [← h, ← h1, ← h2, ← h3, ← h4, ← h5, ← h6, ← h7]
    unfold rightB
    simp only [Bool.and_assoc]⟩
  have H1 := As.mk h1
  clear h h1
  rcases right_eight (b1 := b1) (b2 := b2) (b3 := b3) (b4 := b4) (b5 := b5) (b6 := b6) (b7 := b7) with rfl | ⟨rfl, rfl⟩ | ⟨rfl, rfl, rfl⟩ | ⟨rfl, rfl, rfl, rfl⟩ | ⟨rfl, rfl, rfl, rfl, rfl⟩ | ⟨rfl, rfl, rfl, rfl, rfl, rfl⟩ | ⟨rfl, rfl, rfl, rfl, rfl, rfl⟩
  all_goals
    go_enter Try.func18, Try.ntmps18
    go_wp2_with (go_at_call 76; (with_reducible refine (wideR_any s _ H1.out _).mono ?_); rintro e w1 ⟨rfl, rfl⟩)
    go_ret
    exact ⟨by rw [HR.out]; rfl, by first | exact HB.out | exact below_drewN HB.out 1⟩
set_option maxHeartbeats 1000000 in
set_option maxRecDepth 100000 in
theorem sizeR_ok (n s r : Nat) (hn : n ≤ 65536) (hs : 64 ≤ s ∧ s ≤ 256) (hr : recN n s = r) (w : World) :
    Calls Try.prog 77 #[.int .i64 (n : Int), .int .i64 (s : Int)] w fun e w' => e = .returned (.int .i64 (r : Int)) ∧ w = w' := by
  obtain ⟨x, hx⟩ : ∃ x, ceil (4 * n) s = x := ⟨_, rfl⟩
  have hxn : x ≤ n := by rw [← hx]; exact index_le hs.1
  have HX := As.mk hx
  have HXN := As.mk hxn
  have HS := As.mk hs
  have HN := As.mk hn
  have HR : As (r = 1 + x + n) := ⟨by rw [← hr, ← hx]; rfl⟩
  obtain ⟨z, hz⟩ : ∃ z, z = 4 * n := ⟨_, rfl⟩
  have HZ := As.mk hz
  have z4 : wrap64 (4 * (n : Int)) = (z : Int) := wn _ (by omega) (by omega)
  clear hx hr hxn hs hn hz
  go_enter Try.func77, Try.ntmps77
  go_wp2
  go_loopg [5] x (fun kq v5 wr => ∃ i : Nat, i + kq = x ∧ v5 = .int .i64 i ∧ wr = w)
  case atStart => exact ⟨0, by omega, rfl, rfl⟩
  case round =>
    obtain ⟨i, hi, rfl, rfl⟩ := hrel
    have HI := As.mk hi
    obtain ⟨y, hy⟩ : ∃ y : Nat, y = i * s := ⟨_, rfl⟩
    have hyb : y ≤ 65536 * 256 := by
      rw [hy]
      exact Nat.mul_le_mul (by have := HXN.out; have := HN.out; omega) HS.out.2
    have q0 : wrap64 ((i : Int) * (s : Int)) = (y : Int) := wn _ (by rw [hy, Int.natCast_mul]) (by omega)
    have hlc := lt_ceil (n := 4 * n) (i := i) (show 0 < s by have := HS.out.1; omega)
    rw [HX.out, ← hy, ← HZ.out] at hlc
    clear hi hy hyb
    by_cases hlt : i < x
    · have e0 : decide ((y : Int) < (z : Int)) = true := decide_eq_true (by have := hlc.1 hlt; omega)
      have e1 : decide (y < z) = true := decide_eq_true (hlc.1 hlt)
      have hw : wrap64 ((i : Int) + 1) = ((i + 1 : Nat) : Int) := wrap_up (by have := HXN.out; have := HN.out; omega)
      have HLT := As.mk hlt
      clear hlc hlt
      go_wp2
      go_roundg (x - (i + 1))
      case measure => have := HI.out; have := HLT.out; omega
      case rel => exact ⟨i + 1, by have := HI.out; have := HLT.out; omega, by go_num, rfl⟩
    · have e0 : decide ((y : Int) < (z : Int)) = false := decide_eq_false (fun h => hlt (hlc.2 (by omega)))
      have e1 : decide (y < z) = false := decide_eq_false (fun h => hlt (hlc.2 h))
      obtain rfl : i = x := by have := HI.out; omega
      have F1 := As.mk (Geo.wr (1 + (i : Int)) (by have := HXN.out; have := HN.out; omega))
      have F2 := As.mk (wn (x := 1 + (i : Int) + (n : Int)) r (by have := HR.out; omega) (by have := HXN.out; have := HN.out; have := HR.out; omega))
      clear hlc hlt
      go_wp2
      go_ret
      refine ⟨ret_int ?_, rfl⟩
      first | exact F2.out | (rw [F1.out]; exact F2.out)
set_option maxHeartbeats 1000000 in
set_option maxRecDepth 100000 in
theorem metaR_ok (s t p d m M : Nat) (h : rightB s t p d = true) (hm : secN s t p d = m) (hM : metaN t p d = M) (w : World) :
    Calls Try.prog 89 #[.agg #[.int .i64 (s : Int), .int .i64 (t : Int), .int .i64 (p : Int), .int .i64 (d : Int)]] w fun e w' => e = .returned (.tuple #[.int .i64 (M : Int), .int .i64 (m : Int)]) ∧ Below w.heap.size w w' := by
  have hR := (rightB_iff _ _ _ _).1 h
  have HS := As.mk (show 64 ≤ s ∧ s ≤ 256 by have := hR.s0; have := hR.s1; omega)
  have ht : t ≤ 16 := by have := hR.t1; omega
  have hp : p ≤ 64 := by have := hR.p1; omega
  have hd : d ≤ 4096 := by have := hR.d1; omega
  have hm1 : m < 6480 := by rw [← hm]; exact secN_lt HS.out.1 ht hp hd
  obtain ⟨n4, hn4⟩ : ∃ n4, n4 = M + 4 := ⟨_, rfl⟩
  have HX : As (ceil n4 s = m) := ⟨by rw [← hm, hn4, ← hM]; rfl⟩
  have HMM : As (M = 64 + 48 * t + 320 * p + 96 * d) := ⟨by rw [← hM]; rfl⟩
  have HM1 := As.mk hm1
  have hM1 : M ≤ 414528 := by rw [← hM]; exact metaN_le ht hp hd
  clear hm hM h hR
  obtain ⟨a1, h1⟩ : ∃ a, a = 48 * t := ⟨_, rfl⟩
  obtain ⟨a2, h2⟩ : ∃ a, a = 64 + a1 := ⟨_, rfl⟩
  obtain ⟨a3, h3⟩ : ∃ a, a = 320 * p := ⟨_, rfl⟩
  obtain ⟨a4, h4⟩ : ∃ a, a = a2 + a3 := ⟨_, rfl⟩
  obtain ⟨a5, h5⟩ : ∃ a, a = 96 * d := ⟨_, rfl⟩
  have F0 := As.mk (wn (x := 48 * (t : Int)) a1 (by omega) (by omega))
  have F1 := As.mk (wn (x := 64 + (a1 : Int)) a2 (by omega) (by omega))
  have F2 := As.mk (wn (x := 320 * (p : Int)) a3 (by omega) (by omega))
  have F3 := As.mk (wn (x := (a2 : Int) + (a3 : Int)) a4 (by omega) (by omega))
  have F4 := As.mk (wn (x := 96 * (d : Int)) a5 (by omega) (by omega))
  have F5 := As.mk (wn (x := (a4 : Int) + (a5 : Int)) M (by have := HMM.out; omega) (by omega))
  have F6 := As.mk (wn (x := (M : Int) + 4) n4 (by omega) (by omega))
  have f0 := F0.out
  have f1 := F1.out
  have f2 := F2.out
  have f3 := F3.out
  have f4 := F4.out
  have f5 := F5.out
  have HB := As.mk (below_alloc (Below.refl w.heap.size w) (.cells #[.int .i64 (s : Int), .int .i64 (t : Int), .int .i64 (p : Int), .int .i64 (d : Int)] 23))
  have HG := As.mk (heap_alloc_new w (.cells #[.int .i64 (s : Int), .int .i64 (t : Int), .int .i64 (p : Int), .int .i64 (d : Int)] 23))
  clear h1 h2 h3 h4 h5 hn4 ht hp hd hm1 hM1 HMM
  go_enter Try.func89, Try.ntmps89
  go_wp2
  rw [F5.out]
  generalize w.alloc _ = w0 at *
  clear f0 f1 f2 f3 f4 f5 F0 F1 F2 F3 F4 F5
  go_loopg [5] m (fun kq v5 wr => ∃ i : Nat, i + kq = m ∧ v5 = .int .i64 i ∧ wr = w0)
  case atStart => exact ⟨0, by omega, rfl, rfl⟩
  case round =>
    obtain ⟨i, hi, rfl, rfl⟩ := hrel
    have HI := As.mk hi
    obtain ⟨y, hy⟩ : ∃ y : Nat, y = i * s := ⟨_, rfl⟩
    have hyb : y ≤ 6480 * 256 := by
      rw [hy]
      exact Nat.mul_le_mul (by have := HM1.out; omega) HS.out.2
    have q0 : wrap64 ((i : Int) * (s : Int)) = (y : Int) := wn _ (by rw [hy, Int.natCast_mul]) (by omega)
    have hlc := lt_ceil (n := n4) (i := i) (show 0 < s by have := HS.out.1; omega)
    rw [HX.out, ← hy] at hlc
    have c0 := cell_of_row _ _ 0 _ _ _ HG.out
    have f6 := F6.out
    clear hi hy hyb
    by_cases hlt : i < m
    · have e0 : decide ((y : Int) < (n4 : Int)) = true := decide_eq_true (by have := hlc.1 hlt; omega)
      have e1 : decide (y < n4) = true := decide_eq_true (hlc.1 hlt)
      have hw : wrap64 ((i : Int) + 1) = ((i + 1 : Nat) : Int) := wrap_up (by have := HM1.out; omega)
      have HLT := As.mk hlt
      clear hlc hlt
      go_wp2
      go_roundg (m - (i + 1))
      case measure => have := HI.out; have := HLT.out; omega
      case rel => exact ⟨i + 1, by have := HI.out; have := HLT.out; omega, by go_num, rfl⟩
    · have e0 : decide ((y : Int) < (n4 : Int)) = false := decide_eq_false (fun h => hlt (hlc.2 (by omega)))
      have e1 : decide (y < n4) = false := decide_eq_false (fun h => hlt (hlc.2 h))
      obtain rfl : i = m := by have := HI.out; omega
      clear hlc hlt
      go_wp2
      go_ret2
      exact ⟨rfl, HB.out⟩
set_option maxHeartbeats 1000000 in
set_option maxRecDepth 100000 in
theorem layR_ok (s t p d : Nat) (h : rightB s t p d = true) (L : Array Value) (hL : layC (recN (secN s t p d + 1) s) (secN s t p d) d = L) (w : World) :
    Calls Try.prog 19 #[.agg #[.int .i64 (s : Int), .int .i64 (t : Int), .int .i64 (p : Int), .int .i64 (d : Int)]] w fun e w' => e = .returned (.agg L) ∧ Below w.heap.size w w' := by
  have hR := (rightB_iff _ _ _ _).1 h
  have hs := hR.s0
  have hs1 := hR.s1
  have ht := hR.t1
  have hp := hR.p1
  have hd := hR.d1
  obtain ⟨m, hm⟩ : ∃ m, secN s t p d = m := ⟨_, rfl⟩
  obtain ⟨r, hr⟩ : ∃ r, recN (m + 1) s = r := ⟨_, rfl⟩
  obtain ⟨M, hM⟩ : ∃ M, metaN t p d = M := ⟨_, rfl⟩
  have hm1 : m < 6480 := by rw [← hm]; exact secN_lt (by omega) (by omega) (by omega) (by omega)
  rw [hm, hr] at hL
  have H := As.mk h
  have Hm := As.mk hm
  have Hr := As.mk hr
  have HM := As.mk hM
  have HLL := As.mk hL
  have HS := As.mk (show 64 ≤ s ∧ s ≤ 256 by omega)
  have hr1 : r ≤ 2 * 6481 := by rw [← hr]; have := index_le (n := m + 1) HS.out.1; unfold recN; omega
  clear h hm hr hM hL hR
  obtain ⟨m1, hm2⟩ : ∃ m1, m1 = m + 1 := ⟨_, rfl⟩
  have Hr1 : As (recN m1 s = r) := ⟨by rw [hm2]; exact Hr.out⟩
  obtain ⟨x1, hx1⟩ : ∃ x1, x1 = 2 + r := ⟨_, rfl⟩
  obtain ⟨x2, hx2⟩ : ∃ x2, x2 = 2 + r + m := ⟨_, rfl⟩
  obtain ⟨x3, hx3⟩ : ∃ x3, x3 = 2 + r + m + d := ⟨_, rfl⟩
  have HLAY : As (L = #[.int .i64 0, .int .i64 2, .int .i64 2, .int .i64 (r : Int), .int .i64 (x1 : Int), .int .i64 (m : Int), .int .i64 (x2 : Int), .int .i64 (d : Int), .int .i64 (x3 : Int)]) := ⟨by rw [← HLL.out]; unfold layC; subst hx1 hx2 hx3; rfl⟩
  have HM1 := As.mk (show m1 ≤ 65536 by omega)
  have K0 := As.mk (wn (x := (m : Int) + 1) m1 (by omega) (by omega))
  have K1 := As.mk (wn (x := 2 + (r : Int)) x1 (by omega) (by omega))
  have K2 := As.mk (wn (x := (x1 : Int) + (m : Int)) x2 (by omega) (by omega))
  have K3 := As.mk (wn (x := (x2 : Int) + (d : Int)) x3 (by omega) (by omega))
  have HB := As.mk (below_alloc (below_alloc (Below.refl w.heap.size w) (.cells #[.int .i64 (s : Int), .int .i64 (t : Int), .int .i64 (p : Int), .int .i64 (d : Int)] 23)) (.cells lay0 30))
  have HG := As.mk ((heap_alloc_old (w.alloc (.cells #[.int .i64 (s : Int), .int .i64 (t : Int), .int .i64 (p : Int), .int .i64 (d : Int)] 23)) (.cells lay0 30) (show w.heap.size < _ by simp)).trans (heap_alloc_new w _))
  have HL := As.mk (heap_alloc2_new w (.cells #[.int .i64 (s : Int), .int .i64 (t : Int), .int .i64 (p : Int), .int .i64 (d : Int)] 23) (.cells lay0 30))
  clear hs hs1 ht hp hd hm1 hr1 hm2 hx1 hx2 hx3
  go_enter Try.func19, Try.ntmps19
  go_wp2_with (first
    | (go_at_call 89; (with_reducible refine (metaR_ok s t p d m M H.out Hm.out HM.out _).mono ?_); rintro e w1 ⟨rfl, hb⟩; have HB1 := As.mk (below_step HB.out hb); have HG1 := As.mk ((hb.block w.heap.size (by simp; omega)).trans HG.out); have HL1 := As.mk ((hb.block (w.heap.size + 1) (by simp)).trans HL.out); clear hb; refine As.out ?_))
  refine As.mk ?_
  have c0 : w1.cell? ⟨w.heap.size, 0, none⟩ = some (.int .i64 (s : Int)) := cell_of_row _ _ 0 _ _ _ HG1.out
  have c3 : w1.cell? ⟨w.heap.size, 3, none⟩ = some (.int .i64 (d : Int)) := cell_of_row _ _ 3 _ _ _ HG1.out
  have k0 := K0.out
  have k1 := K1.out
  have k2 := K2.out
  have k3 := K3.out
  clear HG HL HB
  have hone : L.all (·.oneCell') = true := by
    rw [HLAY.out]
    simp [Value.oneCell']
  have HONE := As.mk hone
  have LSZ := As.mk (show L.size = 9 by rw [HLAY.out]; rfl)
  clear hone
  go_wp2_with (first
    | (go_at_call 77; (with_reducible refine (sizeR_ok m1 s r HM1.out HS.out Hr1.out _).mono ?_); rintro e w2 ⟨rfl, rfl⟩)
    | (refine wpList_storeArr rfl rfl 30 _ _ rfl (w.heap.size + 1) rfl L (by rw [HLAY.out]; rfl) 30 lay0 HL1.out (by rw [LSZ.out]; exact info_layout) (by rw [LSZ.out]; rfl) HONE.out ?_))
  refine bodyPost_ret (results_cell_row Try.results19 _ _ (w.heap.size + 1) 30 L (0, 0) _ rfl (setRow_new _ _ lay0 _ _ HL1.out) Try.underlying30 rfl (by rw [LSZ.out]; exact info_layout)) rfl ⟨rfl, below_setRow HB1.out _ (by omega) _⟩
end Go.Proofs.Yteajblfkfmopfaa.LayA
