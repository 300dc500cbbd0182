/- structs of numbers, compared; chatelainelaw18.awake tells true. SuperLays: a geometry that is not right. SuperLays: a right geometry. SuperLays: a right geometry. SuperLays, for every geometry and version. A slot that is put is taken: plain reckoning. -/
import Derived.Test.YtjcofbjfolaoiaaSlotP
import Derived.Test.YtjcofbjfolaoiaaLayA
import Derived.DeepKeys
import Derived.Test.YtjcofbjfolaoiaaRefSame
import Derived.Test.YtjcofbjfolaoiaaTakeP
namespace Go.Proofs.Ytjcofbjfolaoiaa.SlotP
set_option linter.unusedVariables false
set_option linter.unusedSimpArgs false
open Go Go.RowKit Go.Proofs.Ytjcofbjfolaoiaa.Mem Go.Proofs.Ytjcofbjfolaoiaa.Geo Go.Proofs.Ytjcofbjfolaoiaa.LayA

theorem plain_any (w : World) : Calls Try.prog 94 #[] w fun e w' => e = .returned (.agg #[.int .i64 64, .int .i64 2, .int .i64 2, .int .i64 8]) ∧ Below w.heap.size w w' := by
  go_enter Try.func94, Try.ntmps94
  go_wp2
  refine bodyPost_ret (results_cell_row Try.results94 _ _ w.heap.size 53 #[.int .i64 64, .int .i64 2, .int .i64 2, .int .i64 8] (0, 0) _ rfl (heap_alloc_new w _) Try.underlying53 rfl info_geom) rfl ⟨rfl, below_alloc (Below.refl _ _) _⟩
theorem run_part_agg {P : Program} (w : World) {e : TypeId} {fs : Array Field} (hu : P.underlying e = some (.struct fs)) (xs : Array Value) (off : Nat) : (part e xs off).run P w = .ok (.agg (xs.extract off (off + P.cellsOf e))) w := by
  obtain ⟨i, hi⟩ := info_of_underlying hu
  simp [part, isAgg, run_underlying hu, run_sizeOf w hi]
theorem int_self (d : Nat) (W : World) (a : Int) : (Op.equalIn (d + 1) 3 (.int .i64 a) (.int .i64 a)).run Try.prog W = .ok true W := by
  rw [run_equalIn_int W d 3 .i64 .i64 _ _ Try.underlying3]
  simp
/-- structs of numbers: each is the same as itself -/
theorem geom_self (W : World) (s t p d : Int) : (Op.equalIn 10000 53 (.agg #[.int .i64 s, .int .i64 t, .int .i64 p, .int .i64 d]) (.agg #[.int .i64 s, .int .i64 t, .int .i64 p, .int .i64 d])).run Try.prog W = .ok true W := by
  rw [run_equalIn_struct W 9999 53 _ _ (by kernel_rfl) (by kernel_rfl)]
  rw [show Try.prog.fieldsOf 53 = _ from by unfold Program.fieldsOf; rw [Try.underlying53]]
  have p0 : ∀ W, (part 3 #[.int .i64 s, .int .i64 t, .int .i64 p, .int .i64 d] 0).run Try.prog W = .ok (.int .i64 s) W := fun W => run_part_plain W (by kernel_rfl) rfl
  have p1 : ∀ W, (part 3 #[.int .i64 s, .int .i64 t, .int .i64 p, .int .i64 d] 1).run Try.prog W = .ok (.int .i64 t) W := fun W => run_part_plain W (by kernel_rfl) rfl
  have p2 : ∀ W, (part 3 #[.int .i64 s, .int .i64 t, .int .i64 p, .int .i64 d] 2).run Try.prog W = .ok (.int .i64 p) W := fun W => run_part_plain W (by kernel_rfl) rfl
  have p3 : ∀ W, (part 3 #[.int .i64 s, .int .i64 t, .int .i64 p, .int .i64 d] 3).run Try.prog W = .ok (.int .i64 d) W := fun W => run_part_plain W (by kernel_rfl) rfl
  simp [Op.eqFields, p0, p1, p2, p3, int_self 9998]
theorem extent_self (d : Nat) (W : World) (x y : Int) : (Op.equalIn (d + 2) 55 (.agg #[.int .i64 x, .int .i64 y]) (.agg #[.int .i64 x, .int .i64 y])).run Try.prog W = .ok true W := by
  rw [run_equalIn_struct W (d + 1) 55 _ _ (by kernel_rfl) (by kernel_rfl)]
  rw [show Try.prog.fieldsOf 55 = _ from by unfold Program.fieldsOf; rw [Try.underlying55]]
  have p0 : ∀ W, (part 3 #[.int .i64 x, .int .i64 y] 0).run Try.prog W = .ok (.int .i64 x) W := fun W => run_part_plain W (by kernel_rfl) rfl
  have p1 : ∀ W, (part 3 #[.int .i64 x, .int .i64 y] 1).run Try.prog W = .ok (.int .i64 y) W := fun W => run_part_plain W (by kernel_rfl) rfl
  simp [Op.eqFields, p0, p1, int_self d]
theorem layout_self (W : World) (a0 a1 a2 a3 a4 a5 a6 a7 a8 : Int) : (Op.equalIn 10000 57 (.agg #[.int .i64 a0, .int .i64 a1, .int .i64 a2, .int .i64 a3, .int .i64 a4, .int .i64 a5, .int .i64 a6, .int .i64 a7, .int .i64 a8]) (.agg #[.int .i64 a0, .int .i64 a1, .int .i64 a2, .int .i64 a3, .int .i64 a4, .int .i64 a5, .int .i64 a6, .int .i64 a7, .int .i64 a8])).run Try.prog W = .ok true W := by
  rw [run_equalIn_struct W 9999 57 _ _ (by kernel_rfl) (by kernel_rfl)]
  rw [show Try.prog.fieldsOf 57 = _ from by unfold Program.fieldsOf; rw [Try.underlying57]]
  have q0 : ∀ W, (part 55 #[.int .i64 a0, .int .i64 a1, .int .i64 a2, .int .i64 a3, .int .i64 a4, .int .i64 a5, .int .i64 a6, .int .i64 a7, .int .i64 a8] 0).run Try.prog W = .ok (.agg #[.int .i64 a0, .int .i64 a1]) W := fun W => (run_part_agg W Try.underlying55 _ _).trans (by rw [show Try.prog.cellsOf 55 = 2 from by kernel_rfl]; rfl)
  have q1 : ∀ W, (part 55 #[.int .i64 a0, .int .i64 a1, .int .i64 a2, .int .i64 a3, .int .i64 a4, .int .i64 a5, .int .i64 a6, .int .i64 a7, .int .i64 a8] 2).run Try.prog W = .ok (.agg #[.int .i64 a2, .int .i64 a3]) W := fun W => (run_part_agg W Try.underlying55 _ _).trans (by rw [show Try.prog.cellsOf 55 = 2 from by kernel_rfl]; rfl)
  have q2 : ∀ W, (part 55 #[.int .i64 a0, .int .i64 a1, .int .i64 a2, .int .i64 a3, .int .i64 a4, .int .i64 a5, .int .i64 a6, .int .i64 a7, .int .i64 a8] 4).run Try.prog W = .ok (.agg #[.int .i64 a4, .int .i64 a5]) W := fun W => (run_part_agg W Try.underlying55 _ _).trans (by rw [show Try.prog.cellsOf 55 = 2 from by kernel_rfl]; rfl)
  have q3 : ∀ W, (part 55 #[.int .i64 a0, .int .i64 a1, .int .i64 a2, .int .i64 a3, .int .i64 a4, .int .i64 a5, .int .i64 a6, .int .i64 a7, .int .i64 a8] 6).run Try.prog W = .ok (.agg #[.int .i64 a6, .int .i64 a7]) W := fun W => (run_part_agg W Try.underlying55 _ _).trans (by rw [show Try.prog.cellsOf 55 = 2 from by kernel_rfl]; rfl)
  have p8 : ∀ W, (part 3 #[.int .i64 a0, .int .i64 a1, .int .i64 a2, .int .i64 a3, .int .i64 a4, .int .i64 a5, .int .i64 a6, .int .i64 a7, .int .i64 a8] 8).run Try.prog W = .ok (.int .i64 a8) W := fun W => run_part_plain W (by kernel_rfl) rfl
  simp [Op.eqFields, q0, q1, q2, q3, p8, int_self 9998, extent_self 9997]
set_option maxHeartbeats 1000000 in
set_option maxRecDepth 100000 in
theorem lay_bad (s t p d : Int) (h : rightB s t p d = false) (w : World) :
    Calls Try.prog 34 #[.agg #[.int .i64 s, .int .i64 t, .int .i64 p, .int .i64 d]] w fun e w' => e = .returned (.tuple #[.agg lay0, .bool false]) ∧ Below w.heap.size w w' := by
  have H := As.mk h
  have HL := As.mk (heap_alloc2_new w (.cells #[.int .i64 s, .int .i64 t, .int .i64 p, .int .i64 d] 53) (.cells lay0 57))
  have HB := As.mk (below_alloc (below_alloc (Below.refl w.heap.size w) (.cells #[.int .i64 s, .int .i64 t, .int .i64 p, .int .i64 d] 53)) (.cells lay0 57))
  clear h
  go_enter Try.func34, Try.ntmps34
  go_wp2_with (first
    | (go_at_call 36; (with_reducible refine (right_any s t p d _ H.out _).mono ?_); rintro e w1 ⟨rfl, hb⟩; have HB1 := As.mk (below_step HB.out hb); have HL1 := As.mk ((hb.block (w.heap.size + 1) (by simp)).trans HL.out); clear hb)
    | (refine wpList_storeArr rfl rfl 57 _ _ rfl (w.heap.size + 1) rfl lay0 rfl 57 lay0 HL1.out info_layout rfl (by simp [lay0, Value.oneCell']) ?_))
  refine bodyPost_ret (results_row_tmp Try.results34 _ _ (w.heap.size + 1) 57 lay0 (0, 0) _ (.bool false) rfl rfl (setRow_new _ _ lay0 _ _ HL1.out) Try.underlying57 rfl info_layout) rfl ⟨rfl, LayA.below_setRow HB1.out _ (by omega) _⟩
theorem plain_right : rightB (64 : Nat) (2 : Nat) (2 : Nat) (8 : Nat) = true := by decide
theorem plain_lay : layC (recN (secN 64 2 2 8 + 1) 64) (secN 64 2 2 8) 8 = #[.int .i64 0, .int .i64 2, .int .i64 2, .int .i64 29, .int .i64 31, .int .i64 25, .int .i64 56, .int .i64 8, .int .i64 64] := by kernel_rfl
theorem lay_plain (w : World) : Calls Try.prog 34 #[.agg #[.int .i64 64, .int .i64 2, .int .i64 2, .int .i64 8]] w fun e w' => e = .returned (.tuple #[.agg #[.int .i64 0, .int .i64 2, .int .i64 2, .int .i64 29, .int .i64 31, .int .i64 25, .int .i64 56, .int .i64 8, .int .i64 64], .bool true]) ∧ Below w.heap.size w w' := by
  have h := lay_ok 64 2 2 8 plain_right w
  rw [plain_lay] at h
  exact h
set_option maxHeartbeats 1000000 in
set_option maxRecDepth 100000 in
theorem awake_true (w : World) : Calls Try.prog 33 #[] w fun e w' => e = .returned (.bool true) ∧ Below w.heap.size w w' := by
  have hq := fun W => extent_self 9998 W 0 2
  go_enter Try.func33, Try.ntmps33
  go_wp2_with (first
    | (go_at_call 94; (with_reducible refine (plain_any _).mono ?_); rintro e w1 ⟨rfl, hb⟩; have HB1 := As.mk hb; clear hb)
    | (go_at_call 34; (with_reducible refine (lay_plain _).mono ?_); rintro e w2 ⟨rfl, hb⟩; have HB2 := As.mk (below_step HB1.out hb); clear hb))
  go_ret
  exact ⟨rfl, below_alloc HB2.out _⟩
end Go.Proofs.Ytjcofbjfolaoiaa.SlotP
namespace Go.Proofs.Ytjcofbjfolaoiaa.SlotP
set_option linter.unusedVariables false
set_option linter.unusedSimpArgs false
open Go Go.RowKit Go.Proofs.Ytjcofbjfolaoiaa.Mem Go.Proofs.Ytjcofbjfolaoiaa.Geo Go.Proofs.Ytjcofbjfolaoiaa.LayA

theorem g4_below {W W' : World} {g : Nat} {a b c d : Value} (hb : Below W.heap.size W W') (h : W.cell? ⟨g, 0, none⟩ = some a ∧ W.cell? ⟨g, 1, none⟩ = some b ∧ W.cell? ⟨g, 2, none⟩ = some c ∧ W.cell? ⟨g, 3, none⟩ = some d) :
    W'.cell? ⟨g, 0, none⟩ = some a ∧ W'.cell? ⟨g, 1, none⟩ = some b ∧ W'.cell? ⟨g, 2, none⟩ = some c ∧ W'.cell? ⟨g, 3, none⟩ = some d :=
  ⟨(hb.cell (World.block_lt_of_cell? W _ h.1)).trans h.1, (hb.cell (World.block_lt_of_cell? W _ h.2.1)).trans h.2.1, (hb.cell (World.block_lt_of_cell? W _ h.2.2.1)).trans h.2.2.1, (hb.cell (World.block_lt_of_cell? W _ h.2.2.2)).trans h.2.2.2⟩
set_option maxHeartbeats 1000000 in
set_option maxRecDepth 100000 in
theorem lays_wrong (s t p d v : Int) (h : rightB s t p d = false) (w : World) :
    Calls Try.prog 5 #[.agg #[.int .i64 s, .int .i64 t, .int .i64 p, .int .i64 d], .int .i64 v] w fun e w' => e = .returned (.bool true) ∧ Below w.heap.size w w' := by
  have H := As.mk h
  have H2 := As.mk (Or.inl (b := (decide (0 ≤ v) && decide (v ≤ 1099511627776)) = false) h)
  have HB0 := As.mk (below_alloc (Below.refl w.heap.size w) (.cells #[.int .i64 s, .int .i64 t, .int .i64 p, .int .i64 d] 53))
  have HG0 := As.mk (heap_alloc_new w (.cells #[.int .i64 s, .int .i64 t, .int .i64 p, .int .i64 d] 53))
  have HZ0 := As.mk (show w.heap.size < (w.alloc (.cells #[.int .i64 s, .int .i64 t, .int .i64 p, .int .i64 d] 53)).heap.size by simp)
  clear h
  go_enter Try.func5, Try.ntmps5
  go_wp2_with (first
    | (go_at_call 33; (with_reducible refine (awake_true _).mono ?_); rintro e w1 ⟨rfl, hb⟩; have HB1 := As.mk hb; clear hb; refine As.out ?_))
  refine As.mk ?_
  have HBA := As.mk (HB0.out.trans (HB1.out.mono (Nat.le_of_lt HZ0.out)))
  have HG1 := As.mk ((HB1.out.block _ HZ0.out).trans HG0.out)
  have HZ1 := As.mk (Nat.lt_of_lt_of_le HZ0.out HB1.out.size)
  clear HB1 HB0 HG0 HZ0
  have c0 : w1.cell? ⟨w.heap.size, 0, none⟩ = some (.int .i64 s) := cell_of_row _ _ 0 _ _ _ HG1.out
  have c1 : w1.cell? ⟨w.heap.size, 1, none⟩ = some (.int .i64 t) := cell_of_row _ _ 1 _ _ _ HG1.out
  have c2 : w1.cell? ⟨w.heap.size, 2, none⟩ = some (.int .i64 p) := cell_of_row _ _ 2 _ _ _ HG1.out
  have c3 : w1.cell? ⟨w.heap.size, 3, none⟩ = some (.int .i64 d) := cell_of_row _ _ 3 _ _ _ HG1.out
  go_wp2_with (first
    | (go_at_call 34; (with_reducible refine (lay_bad s t p d H.out _).mono ?_); rintro e w2 ⟨rfl, hb⟩; have HB2 := As.mk hb; clear hb)
    | (refine wpList_allocArr rfl 57 rfl lay0 (by kernel_rfl) ?_)
    | (refine wpList_storeNew rfl rfl 57 _ _ rfl rfl lay0 rfl 57 lay0 info_layout rfl (by simp [lay0, Value.oneCell']) ?_; refine As.out ?_))
  refine As.mk ?_
  have HG4 := As.mk (And.intro c0 (And.intro c1 (And.intro c2 c3)))
  have HL3 := As.mk (heap_alloc_new w2 (.cells lay0 57))
  have HB3 : As (Below w1.heap.size w1 (w2.alloc (.cells lay0 57))) := ⟨below_alloc HB2.out _⟩
  have HG3 := As.mk (g4_below HB3.out HG4.out)
  have HZ3 := As.mk (show w2.heap.size < (w2.alloc (.cells lay0 57)).heap.size by simp)
  clear HB2 c0 c1 c2 c3
  generalize w2.alloc (.cells lay0 57) = w3 at *
  generalize w2.heap.size = l3 at *
  obtain ⟨c0, c1, c2, c3⟩ := HG3.out
  go_wp2_with (first
    | (go_at_call 35; (with_reducible refine (slot_bad s t p d v H2.out _).mono ?_); rintro e w4 ⟨rfl, hb⟩; have HB4 := As.mk hb; clear hb; refine As.out ?_))
  refine As.mk ?_
  have HG5 := As.mk (g4_below HB4.out HG3.out)
  have HL4 := As.mk ((HB4.out.block _ HZ3.out).trans HL3.out)
  have HB5 := As.mk (below_step HB3.out HB4.out)
  have HZ4 := As.mk (Nat.lt_of_lt_of_le HZ3.out HB4.out.size)
  clear c0 c1 c2 c3 HB4 HB3 HL3 HZ3 HG3 HG4
  go_wp2
  go_region_held2 (fun W : World => W.cell? ⟨w.heap.size, 0, none⟩ = some (.int .i64 s) ∧ W.cell? ⟨w.heap.size, 1, none⟩ = some (.int .i64 t) ∧ W.cell? ⟨w.heap.size, 2, none⟩ = some (.int .i64 p) ∧ W.cell? ⟨w.heap.size, 3, none⟩ = some (.int .i64 d))
    (first | exact HG5.out | exact HG6.out | exact HG7.out | exact HG8.out)
    (first
      | (go_at_call 36; ((with_reducible refine (right_any s t p d _ H.out w4.drew).mono ?_); rintro e w6 ⟨rfl, hb⟩; have HB6 := As.mk hb; have HG6 := As.mk (g4_below hb HG5.out); clear hb))
      | (go_at_call 37; ((with_reducible refine (rightR_any s t p d _ H.out w6).mono ?_); rintro e w7 ⟨rfl, hb⟩; have HB7 := As.mk hb; have HG7 := As.mk (g4_below hb HG6.out); clear hb))
      | (go_at_call 37; ((with_reducible refine (rightR_any s t p d _ H.out w7).mono ?_); rintro e w8 ⟨rfl, hb⟩; have HB8 := As.mk hb; have HG8 := As.mk (g4_below hb HG7.out); clear hb)))
  have HB6' : As (Below w4.heap.size w4 w6) := ⟨below_undrewN (n := 1) HB6.out⟩
  have HB78 := As.mk (below_step HB6'.out (below_step HB7.out HB8.out))
  have HL8 : As (w8.heap[l3]? = some (.cells #[.int .i64 0, .int .i64 0, .int .i64 0, .int .i64 0, .int .i64 0, .int .i64 0, .int .i64 0, .int .i64 0, .int .i64 0] 57 (0, 0))) := ⟨(HB78.out.block _ HZ4.out).trans HL4.out⟩
  have HBX := As.mk (below_step HB5.out HB78.out)
  have hq := fun W => layout_self W 0 0 0 0 0 0 0 0 0
  clear HG5 HG6 HG7 HB6 HB7 HB8 HB6' HB78 HB5 HL4 HZ4
  obtain ⟨c0, c1, c2, c3⟩ := HG8.out
  go_wp2_with (first
    | (refine wpList_load_row rfl 57 (.tmp 5) rfl l3 rfl 57 #[.int .i64 0, .int .i64 0, .int .i64 0, .int .i64 0, .int .i64 0, .int .i64 0, .int .i64 0, .int .i64 0, .int .i64 0] (0, 0) _ HL8.out Try.underlying57 rfl info_layout ?_)
    | (go_at_call 38; (with_reducible refine (meta_bad s t p d H.out _).mono ?_); rintro e w9 ⟨rfl, hb⟩; have HB9 := As.mk (below_step HBX.out hb); clear hb))
  go_ret
  exact ⟨rfl, HBA.out.trans (HB9.out.mono (Nat.le_of_lt HZ1.out))⟩
end Go.Proofs.Ytjcofbjfolaoiaa.SlotP
namespace Go.Proofs.Ytjcofbjfolaoiaa.SlotP
set_option linter.unusedVariables false
set_option linter.unusedSimpArgs false
open Go Go.RowKit Go.Proofs.Ytjcofbjfolaoiaa.Mem Go.Proofs.Ytjcofbjfolaoiaa.Geo Go.Proofs.Ytjcofbjfolaoiaa.LayA Go.Proofs.Ytjcofbjfolaoiaa.Put

/-- a layout, its numbers named -/
theorem lay_named (s t p d : Nat) (h : rightB s t p d = true) : ∃ r x1 m x2 x3 : Nat, layC (recN (secN s t p d + 1) s) (secN s t p d) d = #[.int .i64 0, .int .i64 2, .int .i64 2, .int .i64 (r : Int), .int .i64 (x1 : Int), .int .i64 (m : Int), .int .i64 (x2 : Int), .int .i64 (d : Int), .int .i64 (x3 : Int)] ∧ m = secN s t p d ∧ r = recN (secN s t p d + 1) s ∧ x1 = 2 + r ∧ x2 = 2 + r + m ∧ x3 = 2 + r + m + d :=
  ⟨_, _, _, _, _, rfl, rfl, rfl, rfl, rfl, rfl⟩
theorem lay_okL (s t p d : Nat) (h : rightB s t p d = true) (L : Array Value) (hL : layC (recN (secN s t p d + 1) s) (secN s t p d) d = L) (w : World) :
    Calls Try.prog 34 #[.agg #[.int .i64 (s : Int), .int .i64 (t : Int), .int .i64 (p : Int), .int .i64 (d : Int)]] w fun e w' => e = .returned (.tuple #[.agg L, .bool true]) ∧ Below w.heap.size w w' := hL ▸ lay_ok s t p d h w
theorem g9_below {W W' : World} {g : Nat} {C : Array Value} {T : TypeId} (hb : Below W.heap.size W W') (h : W.heap[g]? = some (.cells C T (0, 0))) : W'.heap[g]? = some (.cells C T (0, 0)) :=
  (hb.block _ (Array.getElem?_eq_some_iff.1 h).1).trans h
theorem l9 {W : World} {l3 : Nat} {T : TypeId} {r x1 m x2 d x3 : Nat} (h : W.heap[l3]? = some (.cells #[.int .i64 0, .int .i64 2, .int .i64 2, .int .i64 (r : Int), .int .i64 (x1 : Int), .int .i64 (m : Int), .int .i64 (x2 : Int), .int .i64 (d : Int), .int .i64 (x3 : Int)] T (0, 0))) : W.cell? ⟨l3, 0, none⟩ = some (.int .i64 0) ∧ W.cell? ⟨l3, 1, none⟩ = some (.int .i64 2) ∧ W.cell? ⟨l3, 2, none⟩ = some (.int .i64 2) ∧ W.cell? ⟨l3, 3, none⟩ = some (.int .i64 (r : Int)) ∧ W.cell? ⟨l3, 4, none⟩ = some (.int .i64 (x1 : Int)) ∧ W.cell? ⟨l3, 5, none⟩ = some (.int .i64 (m : Int)) ∧ W.cell? ⟨l3, 6, none⟩ = some (.int .i64 (x2 : Int)) ∧ W.cell? ⟨l3, 7, none⟩ = some (.int .i64 (d : Int)) ∧ W.cell? ⟨l3, 8, none⟩ = some (.int .i64 (x3 : Int)) :=
  ⟨cell_of_row _ _ 0 _ _ _ h, cell_of_row _ _ 1 _ _ _ h, cell_of_row _ _ 2 _ _ _ h, cell_of_row _ _ 3 _ _ _ h, cell_of_row _ _ 4 _ _ _ h, cell_of_row _ _ 5 _ _ _ h, cell_of_row _ _ 6 _ _ _ h, cell_of_row _ _ 7 _ _ _ h, cell_of_row _ _ 8 _ _ _ h⟩
set_option maxHeartbeats 2000000 in
set_option maxRecDepth 100000 in
theorem lays_rightO (s t p d : Nat) (v : Int) (h : rightB s t p d = true) (hv : v < 0 ∨ 1099511627776 < v) (w : World) :
    Calls Try.prog 5 #[.agg #[.int .i64 (s : Int), .int .i64 (t : Int), .int .i64 (p : Int), .int .i64 (d : Int)], .int .i64 (v : Int)] w fun e w' => e = .returned (.bool true) ∧ Below w.heap.size w w' := by
  obtain ⟨r, x1, m, x2, x3, hL, hm, -, -, -, -⟩ := lay_named s t p d h
  obtain ⟨M, hM⟩ : ∃ M, metaN t p d = M := ⟨_, rfl⟩
  have hR := (rightB_iff _ _ _ _).1 h
  have H := As.mk h
  have HLY := As.mk hL
  have HMM := As.mk hM
  have Hm := As.mk hm.symm
  have BS := As.mk (show (64 ≤ s ∧ s ≤ 256) ∧ t ≤ 16 ∧ p ≤ 64 ∧ d ≤ 4096 by have := hR.s0; have := hR.s1; have := hR.t1; have := hR.p1; have := hR.d1; omega)
  have HV := As.mk hv
  have HW := As.mk (Or.inr (a := rightB s t p d = false) (show (decide (0 ≤ v) && decide (v ≤ 1099511627776)) = false by
    rcases hv with h1 | h1
    · rw [decide_eq_false (show ¬ 0 ≤ v by omega)]; rfl
    · rw [decide_eq_false (show ¬ v ≤ 1099511627776 by omega), Bool.and_false]))
  have HB0 := As.mk (below_alloc (Below.refl w.heap.size w) (.cells #[.int .i64 (s : Int), .int .i64 (t : Int), .int .i64 (p : Int), .int .i64 (d : Int)] 53))
  have HG0 := As.mk (heap_alloc_new w (.cells #[.int .i64 (s : Int), .int .i64 (t : Int), .int .i64 (p : Int), .int .i64 (d : Int)] 53))
  have HZ0 := As.mk (show w.heap.size < (w.alloc (.cells #[.int .i64 (s : Int), .int .i64 (t : Int), .int .i64 (p : Int), .int .i64 (d : Int)] 53)).heap.size by simp)
  clear h hL hM hm hR hv
  go_enter Try.func5, Try.ntmps5
  go_wp2_with (first
    | (go_at_call 33; (with_reducible refine (awake_true _).mono ?_); rintro e w1 ⟨rfl, hb⟩; have HB1 := As.mk hb; clear hb; refine As.out ?_))
  refine As.mk ?_
  have HBA := As.mk (HB0.out.trans (HB1.out.mono (Nat.le_of_lt HZ0.out)))
  have HG1 := As.mk ((HB1.out.block _ HZ0.out).trans HG0.out)
  have HZ1 := As.mk (Nat.lt_of_lt_of_le HZ0.out HB1.out.size)
  clear HB1 HB0 HG0 HZ0
  have c0 : w1.cell? ⟨w.heap.size, 0, none⟩ = some (.int .i64 (s : Int)) := cell_of_row _ _ 0 _ _ _ HG1.out
  have c1 : w1.cell? ⟨w.heap.size, 1, none⟩ = some (.int .i64 (t : Int)) := cell_of_row _ _ 1 _ _ _ HG1.out
  have c2 : w1.cell? ⟨w.heap.size, 2, none⟩ = some (.int .i64 (p : Int)) := cell_of_row _ _ 2 _ _ _ HG1.out
  have c3 : w1.cell? ⟨w.heap.size, 3, none⟩ = some (.int .i64 (d : Int)) := cell_of_row _ _ 3 _ _ _ HG1.out
  have hone : (#[.int .i64 0, .int .i64 2, .int .i64 2, .int .i64 (r : Int), .int .i64 (x1 : Int), .int .i64 (m : Int), .int .i64 (x2 : Int), .int .i64 (d : Int), .int .i64 (x3 : Int)] : Array Value).all (·.oneCell') = true := by simp [Value.oneCell']
  have HONE := As.mk hone
  clear hone
  go_wp2_with (first
    | (go_at_call 34; (with_reducible refine (lay_okL s t p d H.out _ HLY.out _).mono ?_); rintro e w2 ⟨rfl, hb⟩; have HB2 := As.mk hb; clear hb)
    | (refine wpList_allocArr rfl 57 rfl lay0 (by kernel_rfl) ?_)
    | (refine wpList_storeNew rfl rfl 57 _ _ rfl rfl #[.int .i64 0, .int .i64 2, .int .i64 2, .int .i64 (r : Int), .int .i64 (x1 : Int), .int .i64 (m : Int), .int .i64 (x2 : Int), .int .i64 (d : Int), .int .i64 (x3 : Int)] rfl 57 lay0 info_layout rfl HONE.out ?_; refine As.out ?_))
  refine As.mk ?_
  have HG4 := As.mk (And.intro c0 (And.intro c1 (And.intro c2 c3)))
  have HL3 := As.mk (heap_alloc_new w2 (.cells #[.int .i64 0, .int .i64 2, .int .i64 2, .int .i64 (r : Int), .int .i64 (x1 : Int), .int .i64 (m : Int), .int .i64 (x2 : Int), .int .i64 (d : Int), .int .i64 (x3 : Int)] 57))
  have HB3 : As (Below w1.heap.size w1 (w2.alloc (.cells #[.int .i64 0, .int .i64 2, .int .i64 2, .int .i64 (r : Int), .int .i64 (x1 : Int), .int .i64 (m : Int), .int .i64 (x2 : Int), .int .i64 (d : Int), .int .i64 (x3 : Int)] 57))) := ⟨below_alloc HB2.out _⟩
  have HG3 := As.mk (g4_below HB3.out HG4.out)
  clear HB2 c0 c1 c2 c3
  generalize w2.alloc (.cells #[.int .i64 0, .int .i64 2, .int .i64 2, .int .i64 (r : Int), .int .i64 (x1 : Int), .int .i64 (m : Int), .int .i64 (x2 : Int), .int .i64 (d : Int), .int .i64 (x3 : Int)] 57) = w3 at *
  generalize w2.heap.size = l3 at *
  obtain ⟨c0, c1, c2, c3⟩ := HG3.out
  go_wp2_with (first
    | (go_at_call 35; (with_reducible refine (slot_bad s t p d v HW.out _).mono ?_); rintro e w4 ⟨rfl, hb⟩; have HB4 := As.mk hb;  clear hb; refine As.out ?_))
  refine As.mk ?_
  have HG5 := As.mk (g4_below HB4.out HG3.out)
  have HL4 := As.mk (g9_below HB4.out HL3.out)
  have HB5 := As.mk (below_step HB3.out HB4.out)
  clear c0 c1 c2 c3 HB4 HB3 HL3 HG3 HG4
  go_wp2
  go_region_held2 (fun W : World => W.cell? ⟨w.heap.size, 0, none⟩ = some (.int .i64 (s : Int)) ∧ W.cell? ⟨w.heap.size, 1, none⟩ = some (.int .i64 (t : Int)) ∧ W.cell? ⟨w.heap.size, 2, none⟩ = some (.int .i64 (p : Int)) ∧ W.cell? ⟨w.heap.size, 3, none⟩ = some (.int .i64 (d : Int)))
    (first | exact HG5.out | exact HG6.out | exact HG7.out | exact HG8.out)
    (first
      | (go_at_call 36; ((with_reducible refine (right_any s t p d _ H.out w4.drew).mono ?_); rintro e w6 ⟨rfl, hb⟩; have HB6 := As.mk hb; have HG6 := As.mk (g4_below hb HG5.out); clear hb))
      | (go_at_call 37; ((with_reducible refine (rightR_any s t p d _ H.out w6).mono ?_); rintro e w7 ⟨rfl, hb⟩; have HB7 := As.mk hb; have HG7 := As.mk (g4_below hb HG6.out); clear hb))
      | (go_at_call 37; ((with_reducible refine (rightR_any s t p d _ H.out w7).mono ?_); rintro e w8 ⟨rfl, hb⟩; have HB8 := As.mk hb; have HG8 := As.mk (g4_below hb HG7.out); clear hb)))
  have HB6' : As (Below w4.heap.size w4 w6) := ⟨below_undrewN (n := 1) HB6.out⟩
  have HB48 := As.mk (below_step HB6'.out (below_step HB7.out HB8.out))
  have HL8 := As.mk (g9_below HB48.out HL4.out)
  have HBX := As.mk (below_step HB5.out HB48.out)
  clear HG5 HG6 HG7 HB6 HB7 HB8 HB6' HB5 HL4
  obtain ⟨c0, c1, c2, c3⟩ := HG8.out
  go_wp2_with (first
    | (go_at_call 39; (with_reducible refine (metaR_ok s t p d m M H.out Hm.out HMM.out _).mono ?_); rintro e w9 ⟨rfl, hb⟩; have HB9 := As.mk hb; clear hb; refine As.out ?_))
  refine As.mk ?_
  have HG9 := As.mk (g4_below HB9.out HG8.out)
  have HL9 := As.mk (g9_below HB9.out HL8.out)
  have HBY := As.mk (below_step HBX.out HB9.out)
  have HB49 := As.mk (below_step HB48.out HB9.out)
  have hq := fun W => layout_self W 0 2 2 (r : Int) (x1 : Int) (m : Int) (x2 : Int) (d : Int) (x3 : Int)
  clear c0 c1 c2 c3 HG8 HL8 HBX HB48 HB9
  have HGL9 := As.mk (And.intro HG9.out (l9 HL9.out))
  go_wp2
  go_region_held2 (fun W : World => (W.cell? ⟨w.heap.size, 0, none⟩ = some (.int .i64 (s : Int)) ∧ W.cell? ⟨w.heap.size, 1, none⟩ = some (.int .i64 (t : Int)) ∧ W.cell? ⟨w.heap.size, 2, none⟩ = some (.int .i64 (p : Int)) ∧ W.cell? ⟨w.heap.size, 3, none⟩ = some (.int .i64 (d : Int))) ∧ W.cell? ⟨l3, 0, none⟩ = some (.int .i64 0) ∧ W.cell? ⟨l3, 1, none⟩ = some (.int .i64 2) ∧ W.cell? ⟨l3, 2, none⟩ = some (.int .i64 2) ∧ W.cell? ⟨l3, 3, none⟩ = some (.int .i64 (r : Int)) ∧ W.cell? ⟨l3, 4, none⟩ = some (.int .i64 (x1 : Int)) ∧ W.cell? ⟨l3, 5, none⟩ = some (.int .i64 (m : Int)) ∧ W.cell? ⟨l3, 6, none⟩ = some (.int .i64 (x2 : Int)) ∧ W.cell? ⟨l3, 7, none⟩ = some (.int .i64 (d : Int)) ∧ W.cell? ⟨l3, 8, none⟩ = some (.int .i64 (x3 : Int)))
    (first | exact HGL9.out | exact HGL10.out | exact HGL11.out)
    (first
      | (go_at_call 38; ((with_reducible refine (meta_okM (s : Int) t p d M HMM.out H.out w9.drew).mono ?_); rintro e w10 ⟨rfl, hb⟩; have HB10 := As.mk hb; have HG10 := As.mk (g4_below hb HG9.out); have HL10 := As.mk (g9_below hb HL9.out); have HGL10 := As.mk (And.intro HG10.out (l9 HL10.out)); clear hb))
      | (go_at_call 40; ((with_reducible refine (layR_ok s t p d H.out _ HLY.out w10).mono ?_); rintro e w11 ⟨rfl, hb⟩; have HB11 := As.mk hb; have HG11 := As.mk (g4_below hb HG10.out); have HL11 := As.mk (g9_below hb HL10.out); have HGL11 := As.mk (And.intro HG11.out (l9 HL11.out)); clear hb)))
  have HB10' : As (Below w9.heap.size w9 w10) := ⟨below_undrewN (n := 1) HB10.out⟩
  have HBZ := As.mk (below_step HBY.out (below_step HB10'.out HB11.out))
  clear HGL9 HGL10 HGL11 HG9 HG10 HL9 HL10 HB10 HB10' HBY hq HL11
  rcases HV.out with hv | hv
  · have d0 : decide (v < 0) = true := decide_eq_true hv
    clear hv
    go_wp2
    go_ret
    exact ⟨rfl, HBA.out.trans (HBZ.out.mono (Nat.le_of_lt HZ1.out))⟩
  · have d0 : decide (v < 0) = false := decide_eq_false (by omega)
    have d1 : decide (1099511627776 < v) = true := decide_eq_true hv
    clear hv
    go_wp2
    go_ret
    exact ⟨rfl, HBA.out.trans (HBZ.out.mono (Nat.le_of_lt HZ1.out))⟩
end Go.Proofs.Ytjcofbjfolaoiaa.SlotP
namespace Go.Proofs.Ytjcofbjfolaoiaa.SlotP
set_option linter.unusedVariables false
set_option linter.unusedSimpArgs false
open Go Go.RowKit Go.Proofs.Ytjcofbjfolaoiaa.Mem Go.Proofs.Ytjcofbjfolaoiaa.Geo Go.Proofs.Ytjcofbjfolaoiaa.LayA Go.Proofs.Ytjcofbjfolaoiaa.Put

set_option maxHeartbeats 2000000 in
set_option maxRecDepth 100000 in
theorem lays_rightI (s t p d : Nat) (v : Nat) (h : rightB s t p d = true) (hv : v ≤ 1099511627776) (w : World) :
    Calls Try.prog 5 #[.agg #[.int .i64 (s : Int), .int .i64 (t : Int), .int .i64 (p : Int), .int .i64 (d : Int)], .int .i64 (v : Int)] w fun e w' => e = .returned (.bool true) ∧ Below w.heap.size w w' := by
  obtain ⟨r, x1, m, x2, x3, hL, hm, -, -, -, -⟩ := lay_named s t p d h
  obtain ⟨M, hM⟩ : ∃ M, metaN t p d = M := ⟨_, rfl⟩
  have hR := (rightB_iff _ _ _ _).1 h
  have H := As.mk h
  have HLY := As.mk hL
  have HMM := As.mk hM
  have Hm := As.mk hm.symm
  have BS := As.mk (show (64 ≤ s ∧ s ≤ 256) ∧ t ≤ 16 ∧ p ≤ 64 ∧ d ≤ 4096 by have := hR.s0; have := hR.s1; have := hR.t1; have := hR.p1; have := hR.d1; omega)
  have HV := As.mk hv

  have HB0 := As.mk (below_alloc (Below.refl w.heap.size w) (.cells #[.int .i64 (s : Int), .int .i64 (t : Int), .int .i64 (p : Int), .int .i64 (d : Int)] 53))
  have HG0 := As.mk (heap_alloc_new w (.cells #[.int .i64 (s : Int), .int .i64 (t : Int), .int .i64 (p : Int), .int .i64 (d : Int)] 53))
  have HZ0 := As.mk (show w.heap.size < (w.alloc (.cells #[.int .i64 (s : Int), .int .i64 (t : Int), .int .i64 (p : Int), .int .i64 (d : Int)] 53)).heap.size by simp)
  clear h hL hM hm hR hv
  go_enter Try.func5, Try.ntmps5
  go_wp2_with (first
    | (go_at_call 33; (with_reducible refine (awake_true _).mono ?_); rintro e w1 ⟨rfl, hb⟩; have HB1 := As.mk hb; clear hb; refine As.out ?_))
  refine As.mk ?_
  have HBA := As.mk (HB0.out.trans (HB1.out.mono (Nat.le_of_lt HZ0.out)))
  have HG1 := As.mk ((HB1.out.block _ HZ0.out).trans HG0.out)
  have HZ1 := As.mk (Nat.lt_of_lt_of_le HZ0.out HB1.out.size)
  clear HB1 HB0 HG0 HZ0
  have c0 : w1.cell? ⟨w.heap.size, 0, none⟩ = some (.int .i64 (s : Int)) := cell_of_row _ _ 0 _ _ _ HG1.out
  have c1 : w1.cell? ⟨w.heap.size, 1, none⟩ = some (.int .i64 (t : Int)) := cell_of_row _ _ 1 _ _ _ HG1.out
  have c2 : w1.cell? ⟨w.heap.size, 2, none⟩ = some (.int .i64 (p : Int)) := cell_of_row _ _ 2 _ _ _ HG1.out
  have c3 : w1.cell? ⟨w.heap.size, 3, none⟩ = some (.int .i64 (d : Int)) := cell_of_row _ _ 3 _ _ _ HG1.out
  have hone : (#[.int .i64 0, .int .i64 2, .int .i64 2, .int .i64 (r : Int), .int .i64 (x1 : Int), .int .i64 (m : Int), .int .i64 (x2 : Int), .int .i64 (d : Int), .int .i64 (x3 : Int)] : Array Value).all (·.oneCell') = true := by simp [Value.oneCell']
  have HONE := As.mk hone
  clear hone
  go_wp2_with (first
    | (go_at_call 34; (with_reducible refine (lay_okL s t p d H.out _ HLY.out _).mono ?_); rintro e w2 ⟨rfl, hb⟩; have HB2 := As.mk hb; clear hb)
    | (refine wpList_allocArr rfl 57 rfl lay0 (by kernel_rfl) ?_)
    | (refine wpList_storeNew rfl rfl 57 _ _ rfl rfl #[.int .i64 0, .int .i64 2, .int .i64 2, .int .i64 (r : Int), .int .i64 (x1 : Int), .int .i64 (m : Int), .int .i64 (x2 : Int), .int .i64 (d : Int), .int .i64 (x3 : Int)] rfl 57 lay0 info_layout rfl HONE.out ?_; refine As.out ?_))
  refine As.mk ?_
  have HG4 := As.mk (And.intro c0 (And.intro c1 (And.intro c2 c3)))
  have HL3 := As.mk (heap_alloc_new w2 (.cells #[.int .i64 0, .int .i64 2, .int .i64 2, .int .i64 (r : Int), .int .i64 (x1 : Int), .int .i64 (m : Int), .int .i64 (x2 : Int), .int .i64 (d : Int), .int .i64 (x3 : Int)] 57))
  have HB3 : As (Below w1.heap.size w1 (w2.alloc (.cells #[.int .i64 0, .int .i64 2, .int .i64 2, .int .i64 (r : Int), .int .i64 (x1 : Int), .int .i64 (m : Int), .int .i64 (x2 : Int), .int .i64 (d : Int), .int .i64 (x3 : Int)] 57))) := ⟨below_alloc HB2.out _⟩
  have HG3 := As.mk (g4_below HB3.out HG4.out)
  clear HB2 c0 c1 c2 c3
  generalize w2.alloc (.cells #[.int .i64 0, .int .i64 2, .int .i64 2, .int .i64 (r : Int), .int .i64 (x1 : Int), .int .i64 (m : Int), .int .i64 (x2 : Int), .int .i64 (d : Int), .int .i64 (x3 : Int)] 57) = w3 at *
  generalize w2.heap.size = l3 at *
  obtain ⟨c0, c1, c2, c3⟩ := HG3.out
  go_wp2_with (first
    | (go_at_call 35; (with_reducible refine (slot_ok s t p d v H.out HV.out _).mono ?_); rintro e w4 ⟨A4, c4, rfl, ho, hb⟩; have HB4 := As.mk hb; obtain ⟨A4', c4', e4, hrd⟩ := ho.rd; cases e4; have HRD := As.mk hrd; clear ho hrd; clear hb; refine As.out ?_))
  refine As.mk ?_
  have HG5 := As.mk (g4_below HB4.out HG3.out)
  have HL4 := As.mk (g9_below HB4.out HL3.out)
  have HB5 := As.mk (below_step HB3.out HB4.out)
  clear c0 c1 c2 c3 HB4 HB3 HL3 HG3 HG4
  go_wp2
  go_region_held2 (fun W : World => W.cell? ⟨w.heap.size, 0, none⟩ = some (.int .i64 (s : Int)) ∧ W.cell? ⟨w.heap.size, 1, none⟩ = some (.int .i64 (t : Int)) ∧ W.cell? ⟨w.heap.size, 2, none⟩ = some (.int .i64 (p : Int)) ∧ W.cell? ⟨w.heap.size, 3, none⟩ = some (.int .i64 (d : Int)))
    (first | exact HG5.out | exact HG6.out | exact HG7.out | exact HG8.out)
    (first
      | (go_at_call 36; ((with_reducible refine (right_any s t p d _ H.out w4.drew).mono ?_); rintro e w6 ⟨rfl, hb⟩; have HB6 := As.mk hb; have HG6 := As.mk (g4_below hb HG5.out); clear hb))
      | (go_at_call 37; ((with_reducible refine (rightR_any s t p d _ H.out w6).mono ?_); rintro e w7 ⟨rfl, hb⟩; have HB7 := As.mk hb; have HG7 := As.mk (g4_below hb HG6.out); clear hb))
      | (go_at_call 37; ((with_reducible refine (rightR_any s t p d _ H.out w7).mono ?_); rintro e w8 ⟨rfl, hb⟩; have HB8 := As.mk hb; have HG8 := As.mk (g4_below hb HG7.out); clear hb)))
  have HB6' : As (Below w4.heap.size w4 w6) := ⟨below_undrewN (n := 1) HB6.out⟩
  have HB48 := As.mk (below_step HB6'.out (below_step HB7.out HB8.out))
  have HL8 := As.mk (g9_below HB48.out HL4.out)
  have HBX := As.mk (below_step HB5.out HB48.out)
  clear HG5 HG6 HG7 HB6 HB7 HB8 HB6' HB5 HL4
  obtain ⟨c0, c1, c2, c3⟩ := HG8.out
  go_wp2_with (first
    | (go_at_call 39; (with_reducible refine (metaR_ok s t p d m M H.out Hm.out HMM.out _).mono ?_); rintro e w9 ⟨rfl, hb⟩; have HB9 := As.mk hb; clear hb; refine As.out ?_))
  refine As.mk ?_
  have HG9 := As.mk (g4_below HB9.out HG8.out)
  have HL9 := As.mk (g9_below HB9.out HL8.out)
  have HBY := As.mk (below_step HBX.out HB9.out)
  have HB49 := As.mk (below_step HB48.out HB9.out)
  have hq := fun W => layout_self W 0 2 2 (r : Int) (x1 : Int) (m : Int) (x2 : Int) (d : Int) (x3 : Int)
  clear c0 c1 c2 c3 HG8 HL8 HBX HB48 HB9
  have HGL9 := As.mk (And.intro HG9.out (l9 HL9.out))
  go_wp2
  go_region_held2 (fun W : World => (W.cell? ⟨w.heap.size, 0, none⟩ = some (.int .i64 (s : Int)) ∧ W.cell? ⟨w.heap.size, 1, none⟩ = some (.int .i64 (t : Int)) ∧ W.cell? ⟨w.heap.size, 2, none⟩ = some (.int .i64 (p : Int)) ∧ W.cell? ⟨w.heap.size, 3, none⟩ = some (.int .i64 (d : Int))) ∧ W.cell? ⟨l3, 0, none⟩ = some (.int .i64 0) ∧ W.cell? ⟨l3, 1, none⟩ = some (.int .i64 2) ∧ W.cell? ⟨l3, 2, none⟩ = some (.int .i64 2) ∧ W.cell? ⟨l3, 3, none⟩ = some (.int .i64 (r : Int)) ∧ W.cell? ⟨l3, 4, none⟩ = some (.int .i64 (x1 : Int)) ∧ W.cell? ⟨l3, 5, none⟩ = some (.int .i64 (m : Int)) ∧ W.cell? ⟨l3, 6, none⟩ = some (.int .i64 (x2 : Int)) ∧ W.cell? ⟨l3, 7, none⟩ = some (.int .i64 (d : Int)) ∧ W.cell? ⟨l3, 8, none⟩ = some (.int .i64 (x3 : Int)))
    (first | exact HGL9.out | exact HGL10.out | exact HGL11.out)
    (first
      | (go_at_call 38; ((with_reducible refine (meta_okM (s : Int) t p d M HMM.out H.out w9.drew).mono ?_); rintro e w10 ⟨rfl, hb⟩; have HB10 := As.mk hb; have HG10 := As.mk (g4_below hb HG9.out); have HL10 := As.mk (g9_below hb HL9.out); have HGL10 := As.mk (And.intro HG10.out (l9 HL10.out)); clear hb))
      | (go_at_call 40; ((with_reducible refine (layR_ok s t p d H.out _ HLY.out w10).mono ?_); rintro e w11 ⟨rfl, hb⟩; have HB11 := As.mk hb; have HG11 := As.mk (g4_below hb HG10.out); have HL11 := As.mk (g9_below hb HL10.out); have HGL11 := As.mk (And.intro HG11.out (l9 HL11.out)); clear hb)))
  have HB10' : As (Below w9.heap.size w9 w10) := ⟨below_undrewN (n := 1) HB10.out⟩
  have HBZ := As.mk (below_step HBY.out (below_step HB10'.out HB11.out))
  have HRE := As.mk (HRD.out.below (below_step HB49.out (below_step HB10'.out HB11.out)))
  clear HGL9 HGL10 HGL11 HG9 HG10 HL9 HL10 HB10 HB10' HBY hq HL11 HRD HB49
  have hv := HV.out
  have d0 : decide ((v : Int) < 0) = false := decide_eq_false (by omega)
  have d1 : decide (1099511627776 < (v : Int)) = false := decide_eq_false (by omega)
  have d2 : decide (1099511627776 < v) = false := decide_eq_false (by omega)
  clear hv
  obtain ⟨c0, c1, c2, c3⟩ := HG11.out
  go_wp2_with (first
    | (go_at_call 41; (with_reducible refine (slotR_any s t p d v BS.out.1 BS.out.2.1 BS.out.2.2.1 BS.out.2.2.2 HV.out _).mono ?_); rintro e w12 ⟨A12, c12, rfl, hb, ho⟩; obtain ⟨A12', c12', e12, hrd⟩ := ho.rd; cases e12; have HRR := As.mk hrd; have HRE2 := As.mk (HRE.out.below hb); have HBV := As.mk (below_step HBZ.out hb); clear hb ho hrd)
    | (go_at_call 24; (with_reducible refine (RefSame.same_any _ _ _ _ s s _ _ w12 true ?c2 (by simp) HRE2.out HRR.out).mono ?_); (case c2 => have := BS.out; omega); rintro e w13 ⟨rfl, nd, rfl⟩))
  go_ret
  exact ⟨rfl, below_drewN (HBA.out.trans (HBV.out.mono (Nat.le_of_lt HZ1.out))) nd⟩
end Go.Proofs.Ytjcofbjfolaoiaa.SlotP
namespace Go.Proofs.Ytjcofbjfolaoiaa.SlotP
set_option linter.unusedVariables false
set_option linter.unusedSimpArgs false
open Go Go.RowKit Go.Proofs.Ytjcofbjfolaoiaa.Mem Go.Proofs.Ytjcofbjfolaoiaa.Geo Go.Proofs.Ytjcofbjfolaoiaa.LayA

theorem lays_any (s t p d v : Int) (w : World) :
    Calls Try.prog 5 #[.agg #[.int .i64 s, .int .i64 t, .int .i64 p, .int .i64 d], .int .i64 v] w fun e w' => e = .returned (.bool true) ∧ Below w.heap.size w w' := by
  rcases Bool.eq_false_or_eq_true (rightB s t p d) with h | h
  · obtain ⟨s, t, p, d, rfl, rfl, rfl, rfl, -⟩ := ((rightB_iff _ _ _ _).1 h).nat
    by_cases hv : v < 0 ∨ 1099511627776 < v
    · exact lays_rightO s t p d v h hv w
    · obtain ⟨v, rfl⟩ := Int.eq_ofNat_of_zero_le (show 0 ≤ v by omega)
      exact lays_rightI s t p d v h (by omega) w
  · exact lays_wrong s t p d v h w
theorem lays_walk (s t p d v : Int) (w : World) (_ : (Lit.int .i64 v).wf = true) :
    Calls Try.prog 5 #[.agg #[.int .i64 s, .int .i64 t, .int .i64 p, .int .i64 d], .int .i64 v] w fun e w' => e = .returned (.bool true) ∧ Below w.heap.size w w' := lays_any s t p d v w
end Go.Proofs.Ytjcofbjfolaoiaa.SlotP
namespace Go.Proofs.Ytjcofbjfolaoiaa.SlotP
set_option linter.unusedVariables false
set_option linter.unusedSimpArgs false
open Go Go.RowKit Go.Proofs.Ytjcofbjfolaoiaa.Mem Go.Proofs.Ytjcofbjfolaoiaa.Put Go.Proofs.Ytjcofbjfolaoiaa.Geo Go.Proofs.Ytjcofbjfolaoiaa.RefPutN Go.Proofs.Ytjcofbjfolaoiaa.Val Go.Proofs.Ytjcofbjfolaoiaa.Reader Go.Proofs.Ytjcofbjfolaoiaa.LayA Go.Proofs.Ytjcofbjfolaoiaa.Sum

theorem cut_mid (X Y Z : List Int) (i k : Nat) (hx : X.length = i) (hy : Y.length = k) : ((X ++ (Y ++ Z)).drop i).take k = Y := by
  rw [List.drop_append_of_le_length (by omega), List.drop_of_length_le (by omega), List.nil_append, List.take_append_of_le_length (by omega), List.take_of_length_le (by omega)]
theorem slot_raw (s t p d v : Nat) (h : rightB s t p d = true) (hv : v ≤ 1099511627776) :
    raw (slotB s t p d v) 4 8 = v ∧ raw (slotB s t p d v) 12 2 = s ∧ raw (slotB s t p d v) 14 2 = t ∧ raw (slotB s t p d v) 16 2 = p ∧ raw (slotB s t p d v) 18 4 = d := by
  have r := (rightB_iff _ _ _ _).1 h
  have := r.s1
  have := r.t1
  have := r.p1
  have := r.d1
  obtain ⟨Z, hZ⟩ : ∃ Z, Z = sumB (frontB s t p d v) ++ List.replicate (s - 54) 0 := ⟨_, rfl⟩
  have e : slotB s t p d v = mark ++ beB 8 v ++ beB 2 s ++ beB 2 t ++ beB 2 p ++ beB 4 d ++ Z := by
    unfold slotB
    rw [hZ, List.append_assoc]
    rfl
  unfold raw
  rw [e]
  refine ⟨?_, ?_, ?_, ?_, ?_⟩
  · rw [show mark ++ beB 8 v ++ beB 2 s ++ beB 2 t ++ beB 2 p ++ beB 4 d ++ Z = mark ++ (beB 8 v ++ (beB 2 s ++ beB 2 t ++ beB 2 p ++ beB 4 d ++ Z)) by simp only [List.append_assoc], cut_mid _ _ _ 4 8 rfl (beB_len _ _)]
    exact valB_beB 8 v (by omega)
  · rw [show mark ++ beB 8 v ++ beB 2 s ++ beB 2 t ++ beB 2 p ++ beB 4 d ++ Z = (mark ++ beB 8 v) ++ (beB 2 s ++ (beB 2 t ++ beB 2 p ++ beB 4 d ++ Z)) by simp only [List.append_assoc], cut_mid _ _ _ 12 2 (by simp [beB_len, mark]) (beB_len _ _)]
    exact valB_beB 2 s (by omega)
  · rw [show mark ++ beB 8 v ++ beB 2 s ++ beB 2 t ++ beB 2 p ++ beB 4 d ++ Z = (mark ++ beB 8 v ++ beB 2 s) ++ (beB 2 t ++ (beB 2 p ++ beB 4 d ++ Z)) by simp only [List.append_assoc], cut_mid _ _ _ 14 2 (by simp [beB_len, mark]) (beB_len _ _)]
    exact valB_beB 2 t (by omega)
  · rw [show mark ++ beB 8 v ++ beB 2 s ++ beB 2 t ++ beB 2 p ++ beB 4 d ++ Z = (mark ++ beB 8 v ++ beB 2 s ++ beB 2 t) ++ (beB 2 p ++ (beB 4 d ++ Z)) by simp only [List.append_assoc], cut_mid _ _ _ 16 2 (by simp [beB_len, mark]) (beB_len _ _)]
    exact valB_beB 2 p (by omega)
  · rw [show mark ++ beB 8 v ++ beB 2 s ++ beB 2 t ++ beB 2 p ++ beB 4 d ++ Z = (mark ++ beB 8 v ++ beB 2 s ++ beB 2 t ++ beB 2 p) ++ (beB 4 d ++ Z) by simp only [List.append_assoc], cut_mid _ _ _ 18 4 (by simp [beB_len, mark]) (beB_len _ _)]
    exact valB_beB 4 d (by omega)
/-- what is put is taken -/
theorem take_slot (s t p d v : Nat) (h : rightB s t p d = true) (hv : v ≤ 1099511627776) :
    takeE (slotB s t p d v) = 0 ∧ tookA (slotB s t p d v) = #[.int .i64 (s : Int), .int .i64 (t : Int), .int .i64 (p : Int), .int .i64 (d : Int)] ∧ okI (slotB s t p d v) (raw (slotB s t p d v) 4 8) = (v : Int) := by
  obtain ⟨e0, e1, e2, e3, e4⟩ := slot_raw s t p d v h hv
  have r := (rightB_iff _ _ _ _).1 h
  have hs := r.s0
  have hl := slotB_len s t p d v (by omega)
  have hf : fitB (slotB s t p d v) = true := by
    unfold fitB
    rw [e0, e1, e2, e3, e4, h, hl, decide_eq_true hv, decide_eq_true rfl]
    rfl
  have hw : wantB (slotB s t p d v) = slotB s t p d v := by
    unfold wantB
    rw [e0, e1, e2, e3, e4]
  have hE : takeE (slotB s t p d v) = 0 := by
    unfold takeE
    rw [if_neg (by rw [hl]; omega), if_neg (by rw [hf]; decide), hw, if_pos ⟨rfl, rfl⟩, if_pos rfl]
  obtain ⟨a, b⟩ := tookA_ok hE
  rw [e1, e2, e3, e4] at a
  exact ⟨hE, a, by rw [b, e0]⟩
end Go.Proofs.Ytjcofbjfolaoiaa.SlotP
