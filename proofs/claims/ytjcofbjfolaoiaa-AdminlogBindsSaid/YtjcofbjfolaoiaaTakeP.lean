/- What bytes of a slot say: plain reckoning; field.Read; three results. super.Take. -/
import Derived.Test.YtjcofbjfolaoiaaReader
import Derived.Test.YtjcofbjfolaoiaaSlotP
import Derived.Test.YtjcofbjfolaoiaaSameB
import Derived.Test.YtjcofbjfolaoiaaParts
namespace Go.Proofs.Ytjcofbjfolaoiaa.SlotP
set_option linter.unusedVariables false
set_option linter.unusedSimpArgs false
open Go Go.RowKit Go.Proofs.Ytjcofbjfolaoiaa.Mem Go.Proofs.Ytjcofbjfolaoiaa.Put Go.Proofs.Ytjcofbjfolaoiaa.Geo Go.Proofs.Ytjcofbjfolaoiaa.RefPutN Go.Proofs.Ytjcofbjfolaoiaa.Val Go.Proofs.Ytjcofbjfolaoiaa.Reader Go.Proofs.Ytjcofbjfolaoiaa.LayA

def raw (b : List Int) (i k : Nat) : Nat := valB ((b.drop i).take k)
def fitB (b : List Int) : Bool := (decide (raw b 4 8 ≤ 1099511627776) && rightB (raw b 12 2) (raw b 14 2) (raw b 16 2) (raw b 18 4)) && decide (b.length = raw b 12 2)
def wantB (b : List Int) : List Int := slotB (raw b 12 2) (raw b 14 2) (raw b 16 2) (raw b 18 4) (raw b 4 8)
def takeE (b : List Int) : Int := if b.length < 54 then 10 else if fitB b = false then 11 else if (wantB b).take 22 = b.take 22 ∧ (wantB b).drop 54 = b.drop 54 then (if wantB b = b then 0 else 21) else 11
def okI (b : List Int) (n : Nat) : Int := if takeE b = 0 then (n : Int) else 0
def tookA (b : List Int) : Array Value := #[.int .i64 (okI b (raw b 12 2)), .int .i64 (okI b (raw b 14 2)), .int .i64 (okI b (raw b 16 2)), .int .i64 (okI b (raw b 18 4))]
theorem tookA_bad {b : List Int} (h : takeE b ≠ 0) : tookA b = #[.int .i64 0, .int .i64 0, .int .i64 0, .int .i64 0] ∧ okI b (raw b 4 8) = 0 := by
  unfold tookA okI
  simp [h]
theorem tookA_ok {b : List Int} (h : takeE b = 0) : tookA b = #[.int .i64 (raw b 12 2 : Nat), .int .i64 (raw b 14 2 : Nat), .int .i64 (raw b 16 2 : Nat), .int .i64 (raw b 18 4 : Nat)] ∧ okI b (raw b 4 8) = (raw b 4 8 : Nat) := by
  unfold tookA okI
  simp [h]
theorem raw_cut (b : List Int) (i k : Nat) (h : i + k ≤ 22) : ((b.take 22).drop i).take k = (b.drop i).take k := by
  rw [List.drop_take, List.take_take, Nat.min_eq_left (by omega)]
theorem num_ok {e : Int} {size : Nat} {most : Int} {x : List Int} (he : e = 0) (h : (valB (x.take size) : Int) ≤ most) (hm : most ≤ 4611686018427387904) : numV e size most x = valB (x.take size) ∧ numE e size most x = 0 ∧ numX e size x = x.drop size := by
  subst he
  have h2 : valB (x.take size) ≤ 4611686018427387904 := by omega
  unfold numV numE numX
  simp [h, h2]
theorem num_bad {e : Int} {size : Nat} {most : Int} {x : List Int} (he : e = 0) (h : most < (valB (x.take size) : Int)) : numV e size most x = 0 ∧ numE e size most x = 11 := by
  subst he
  have h2 : ¬ (valB (x.take size) : Int) ≤ most := by omega
  unfold numV numE
  simp [h2]
theorem num_dead {e : Int} {size : Nat} {most : Int} {x : List Int} (he : e ≠ 0) : numV e size most x = 0 ∧ numE e size most x = e ∧ numX e size x = x := by
  unfold numV numE numX
  simp [he]
theorem numN_ge (e : Int) (size n : Nat) : n - size ≤ numN e size n := by
  unfold numN
  split <;> omega
/-- the numbers of a slot, as a reader reads them -/
structure Reads (b : List Int) (v s t p d e1 e2 e3 e4 e5 : Int) (x1 x2 x3 x4 : List Int) : Prop where
  v0 : v = numV 0 8 1099511627776 ((b.take 22).drop 4)
  he1 : e1 = numE 0 8 1099511627776 ((b.take 22).drop 4)
  hx1 : x1 = numX 0 8 ((b.take 22).drop 4)
  s0 : s = numV e1 2 256 x1
  he2 : e2 = numE e1 2 256 x1
  hx2 : x2 = numX e1 2 x1
  t0 : t = numV e2 2 16 x2
  he3 : e3 = numE e2 2 16 x2
  hx3 : x3 = numX e2 2 x2
  p0 : p = numV e3 2 64 x3
  he4 : e4 = numE e3 2 64 x3
  hx4 : x4 = numX e3 2 x3
  d0 : d = numV e4 4 4096 x4
  he5 : e5 = numE e4 4 4096 x4
def InB (b : List Int) : Prop := raw b 4 8 ≤ 1099511627776 ∧ raw b 12 2 ≤ 256 ∧ raw b 14 2 ≤ 16 ∧ raw b 16 2 ≤ 64 ∧ raw b 18 4 ≤ 4096
theorem not_right_s (t p d : Int) : rightB 0 t p d = false := by unfold rightB; simp
theorem not_right_t (s p d : Int) : rightB s 0 p d = false := by unfold rightB; simp
theorem not_right_p (s t d : Int) : rightB s t 0 d = false := by unfold rightB; simp
theorem not_right_d (s t p : Int) : rightB s t p 0 = false := by unfold rightB; simp
theorem reads_in {b : List Int} {v s t p d e1 e2 e3 e4 e5 : Int} {x1 x2 x3 x4 : List Int} (h : Reads b v s t p d e1 e2 e3 e4 e5 x1 x2 x3 x4) (hi : InB b) :
    v = (raw b 4 8 : Nat) ∧ s = (raw b 12 2 : Nat) ∧ t = (raw b 14 2 : Nat) ∧ p = (raw b 16 2 : Nat) ∧ d = (raw b 18 4 : Nat) ∧ e1 = 0 ∧ e2 = 0 ∧ e3 = 0 ∧ e4 = 0 ∧ e5 = 0 := by
  obtain ⟨i0, i1, i2, i3, i4⟩ := hi
  have y0 : ((b.take 22).drop 4).take 8 = (b.drop 4).take 8 := raw_cut b 4 8 (by omega)
  have y1 : ((b.take 22).drop 12).take 2 = (b.drop 12).take 2 := raw_cut b 12 2 (by omega)
  have y2 : ((b.take 22).drop 14).take 2 = (b.drop 14).take 2 := raw_cut b 14 2 (by omega)
  have y3 : ((b.take 22).drop 16).take 2 = (b.drop 16).take 2 := raw_cut b 16 2 (by omega)
  have y4 : ((b.take 22).drop 18).take 4 = (b.drop 18).take 4 := raw_cut b 18 4 (by omega)
  unfold raw at *
  obtain ⟨a1, a2, a3⟩ := num_ok (e := 0) (size := 8) (most := 1099511627776) (x := (b.take 22).drop 4) rfl (by rw [y0]; omega) (by omega)
  have q1 : x1 = (b.take 22).drop 12 := by rw [h.hx1, a3, List.drop_drop]
  have r1 : e1 = 0 := by rw [h.he1, a2]
  obtain ⟨b1, b2, b3⟩ := num_ok (e := e1) (size := 2) (most := 256) (x := x1) r1 (by rw [q1, y1]; omega) (by omega)
  have q2 : x2 = (b.take 22).drop 14 := by rw [h.hx2, b3, q1, List.drop_drop]
  have r2 : e2 = 0 := by rw [h.he2, b2]
  obtain ⟨c1, c2, c3⟩ := num_ok (e := e2) (size := 2) (most := 16) (x := x2) r2 (by rw [q2, y2]; omega) (by omega)
  have q3 : x3 = (b.take 22).drop 16 := by rw [h.hx3, c3, q2, List.drop_drop]
  have r3 : e3 = 0 := by rw [h.he3, c2]
  obtain ⟨d1, d2, d3⟩ := num_ok (e := e3) (size := 2) (most := 64) (x := x3) r3 (by rw [q3, y3]; omega) (by omega)
  have q4 : x4 = (b.take 22).drop 18 := by rw [h.hx4, d3, q3, List.drop_drop]
  have r4 : e4 = 0 := by rw [h.he4, d2]
  obtain ⟨f1, f2, _⟩ := num_ok (e := e4) (size := 4) (most := 4096) (x := x4) r4 (by rw [q4, y4]; omega) (by omega)
  exact ⟨by rw [h.v0, a1, y0], by rw [h.s0, b1, q1, y1], by rw [h.t0, c1, q2, y2], by rw [h.p0, d1, q3, y3], by rw [h.d0, f1, q4, y4], r1, r2, r3, r4, by rw [h.he5, f2]⟩
theorem reads_out {b : List Int} {v s t p d e1 e2 e3 e4 e5 : Int} {x1 x2 x3 x4 : List Int} (h : Reads b v s t p d e1 e2 e3 e4 e5 x1 x2 x3 x4) (hi : ¬ InB b) :
    rightB s t p d = false := by
  have y0 : ((b.take 22).drop 4).take 8 = (b.drop 4).take 8 := raw_cut b 4 8 (by omega)
  have y1 : ((b.take 22).drop 12).take 2 = (b.drop 12).take 2 := raw_cut b 12 2 (by omega)
  have y2 : ((b.take 22).drop 14).take 2 = (b.drop 14).take 2 := raw_cut b 14 2 (by omega)
  have y3 : ((b.take 22).drop 16).take 2 = (b.drop 16).take 2 := raw_cut b 16 2 (by omega)
  have y4 : ((b.take 22).drop 18).take 4 = (b.drop 18).take 4 := raw_cut b 18 4 (by omega)
  by_cases i0 : raw b 4 8 ≤ 1099511627776
  · obtain ⟨a1, a2, a3⟩ := num_ok (e := 0) (size := 8) (most := 1099511627776) (x := (b.take 22).drop 4) rfl (by rw [y0]; unfold raw at i0; omega) (by omega)
    have q1 : x1 = (b.take 22).drop 12 := by rw [h.hx1, a3, List.drop_drop]
    have r1 : e1 = 0 := by rw [h.he1, a2]
    by_cases i1 : raw b 12 2 ≤ 256
    · obtain ⟨b1, b2, b3⟩ := num_ok (e := e1) (size := 2) (most := 256) (x := x1) r1 (by rw [q1, y1]; unfold raw at i1; omega) (by omega)
      have q2 : x2 = (b.take 22).drop 14 := by rw [h.hx2, b3, q1, List.drop_drop]
      have r2 : e2 = 0 := by rw [h.he2, b2]
      by_cases i2 : raw b 14 2 ≤ 16
      · obtain ⟨c1, c2, c3⟩ := num_ok (e := e2) (size := 2) (most := 16) (x := x2) r2 (by rw [q2, y2]; unfold raw at i2; omega) (by omega)
        have q3 : x3 = (b.take 22).drop 16 := by rw [h.hx3, c3, q2, List.drop_drop]
        have r3 : e3 = 0 := by rw [h.he3, c2]
        by_cases i3 : raw b 16 2 ≤ 64
        · obtain ⟨d1, d2, d3⟩ := num_ok (e := e3) (size := 2) (most := 64) (x := x3) r3 (by rw [q3, y3]; unfold raw at i3; omega) (by omega)
          have q4 : x4 = (b.take 22).drop 18 := by rw [h.hx4, d3, q3, List.drop_drop]
          have r4 : e4 = 0 := by rw [h.he4, d2]
          have i4 : ¬ raw b 18 4 ≤ 4096 := fun i4 => hi ⟨i0, i1, i2, i3, i4⟩
          have f := (num_bad (e := e4) (size := 4) (most := 4096) (x := x4) r4 (by rw [q4, y4]; unfold raw at i4; omega)).1
          rw [h.d0, f]
          exact not_right_d _ _ _
        · have f := (num_bad (e := e3) (size := 2) (most := 64) (x := x3) r3 (by rw [q3, y3]; unfold raw at i3; omega)).1
          rw [h.p0, f]
          exact not_right_p _ _ _
      · have f := (num_bad (e := e2) (size := 2) (most := 16) (x := x2) r2 (by rw [q2, y2]; unfold raw at i2; omega)).1
        rw [h.t0, f]
        exact not_right_t _ _ _
    · have f := (num_bad (e := e1) (size := 2) (most := 256) (x := x1) r1 (by rw [q1, y1]; unfold raw at i1; omega)).1
      rw [h.s0, f]
      exact not_right_s _ _ _
  · have f := (num_bad (e := 0) (size := 8) (most := 1099511627776) (x := (b.take 22).drop 4) rfl (by rw [y0]; unfold raw at i0; omega)).2
    have f2 := (num_dead (e := e1) (size := 2) (most := 256) (x := x1) (by rw [h.he1, f]; decide)).1
    rw [h.s0, f2]
    exact not_right_s _ _ _
/-- what does not fit within the bounds is no slot -/
theorem fit_in {b : List Int} (h : fitB b = true) : InB b ∧ rightB (raw b 12 2) (raw b 14 2) (raw b 16 2) (raw b 18 4) = true ∧ b.length = raw b 12 2 := by
  unfold fitB at h
  simp only [Bool.and_eq_true, decide_eq_true_eq] at h
  obtain ⟨⟨h1, h2⟩, h3⟩ := h
  have r := (rightB_iff _ _ _ _).1 h2
  have := r.s1
  have := r.t1
  have := r.p1
  have := r.d1
  exact ⟨⟨h1, by omega, by omega, by omega, by omega⟩, h2, h3⟩
set_option maxHeartbeats 400000 in
theorem read_any (x : List Int) (A : Option Addr) (n c : Nat) (w : World) (h0 : Rd .u8 w A n c x) (hn : 0 < n) :
    Calls Try.prog 105 #[.slice A n c] w fun e w' => e = .returned (.pointer (some ⟨w.heap.size, 0, none⟩)) ∧ Rr w.heap.size w' 0 A n c x ∧ Below w.heap.size w w' := by
  have H := As.mk h0
  have HN := As.mk hn
  clear h0 hn
  go_enter Try.func105, Try.ntmps105
  go_wp2
  go_ret
  have hb : Below w.heap.size w (w.alloc (.cells #[.int .i64 0, .slice A n c, .bool true] 192)) := below_alloc (Below.refl _ _) _
  refine ⟨rfl, ⟨heap_alloc_new w _, H.out.below hb, fun ad e => ?_⟩, hb⟩
  obtain ⟨a0, e0, hc⟩ := H.out.cells HN.out
  rw [e0] at e
  obtain rfl := Option.some.inj e
  have := World.block_lt_of_cell? w _ (hc 0 HN.out)
  have h2 : (a0.add 0).block = a0.block := by unfold Addr.add; split <;> rfl
  omega
theorem results_row_tmp2 {P : Program} {fn : Func} {p u u2 : Tmp} {ty : TypeId} (h : fn.results = #[.cell p ty, .tmp u, .tmp u2]) (tmps : Array Value) (w : World) (g : Nat) (t : TypeId) (cs : Array Value) (fr : Nat × Nat) (d : TypeDesc) (v v2 : Value)
    (hp : tmps.getD p undef = .pointer (some ⟨g, 0, none⟩)) (hv : tmps.getD u undef = v) (hv2 : tmps.getD u2 undef = v2) (hg : w.heap[g]? = some (.cells cs t fr))
    (hu : P.underlying ty = some d) (hd : (match d with | .struct _ | .array _ _ => true | _ => false) = true) (hi : (P.info? ty).map (·.size) = some cs.size) :
    (results fn tmps).run P w = .ok (.tuple #[.agg cs, v, v2]) w := by
  have hp' : tmps[p]?.getD undef = .pointer (some ⟨g, 0, none⟩) := by simpa using hp
  have hv' : tmps[u]?.getD undef = v := by simpa using hv
  have hv2' : tmps[u2]?.getD undef = v2 := by simpa using hv2
  simp only [results, h]
  simp [Sem.run_bind, hp', hv', hv2', asAddr, run_loadVar_row w g t ty cs fr d hg hu hd hi]
end Go.Proofs.Ytjcofbjfolaoiaa.SlotP
namespace Go.Proofs.Ytjcofbjfolaoiaa.SlotP
set_option linter.unusedVariables false
set_option linter.unusedSimpArgs false
open Go Go.RowKit Go.Proofs.Ytjcofbjfolaoiaa.Mem Go.Proofs.Ytjcofbjfolaoiaa.Put Go.Proofs.Ytjcofbjfolaoiaa.Geo Go.Proofs.Ytjcofbjfolaoiaa.RefPutN Go.Proofs.Ytjcofbjfolaoiaa.Val Go.Proofs.Ytjcofbjfolaoiaa.Reader Go.Proofs.Ytjcofbjfolaoiaa.LayA

theorem one4 (a b c d : Int) : (#[.int .i64 a, .int .i64 b, .int .i64 c, .int .i64 d] : Array Value).all (·.oneCell') = true := by simp [Value.oneCell']
theorem g9b {W W' : World} {g : Nat} {C : Array Value} {T : TypeId} (hb : Below W.heap.size W W') (h : W.heap[g]? = some (.cells C T (0, 0))) : W'.heap[g]? = some (.cells C T (0, 0)) :=
  (hb.block _ (Array.getElem?_eq_some_iff.1 h).1).trans h
theorem g_grown {w w' : World} {R g : Nat} {C : Array Value} {T : TypeId} (hg : w.grownBy w' (some R)) (hn : g ≠ R) (h : w.heap[g]? = some (.cells C T (0, 0))) : w'.heap[g]? = some (.cells C T (0, 0)) :=
  (hg.block _ (Array.getElem?_eq_some_iff.1 h).1 (fun e => hn (Option.some.inj e))).trans h
set_option maxHeartbeats 1000000 in
set_option maxRecDepth 100000 in
theorem take_short' (b : List Int) (A : Option Addr) (n c : Nat) (w : World) (h0 : Rd .u8 w A n c b) (hn : n < 54) :
    Calls Try.prog 42 #[.slice A n c] w fun e w' => e = .returned (.tuple #[.agg (tookA b), .int .i64 (okI b (raw b 4 8)), .int .i64 (takeE b)]) ∧ Below w.heap.size w w' := by
  have hE : takeE b = 10 := by unfold takeE; rw [h0.len, if_pos hn]
  obtain ⟨hA, hV⟩ := tookA_bad (b := b) (by rw [hE]; decide)
  have HR := As.mk (And.intro hA (And.intro hV hE))
  have e0 : decide ((n : Int) < 54) = true := decide_eq_true (by omega)
  have e1 : decide (n < 54) = true := decide_eq_true hn
  have HG := As.mk (heap_alloc_new w (.cells #[.int .i64 0, .int .i64 0, .int .i64 0, .int .i64 0] 53))
  have HB := As.mk (below_alloc (Below.refl w.heap.size w) (.cells #[.int .i64 0, .int .i64 0, .int .i64 0, .int .i64 0] 53))
  clear h0 hn hE hA hV
  go_enter Try.func42, Try.ntmps42
  go_wp2_with (first
    | (refine wpList_storeArr rfl rfl 53 (.tmp 2) _ rfl w.heap.size rfl #[.int .i64 0, .int .i64 0, .int .i64 0, .int .i64 0] rfl 53 #[.int .i64 0, .int .i64 0, .int .i64 0, .int .i64 0] HG.out info_geom rfl (one4 _ _ _ _) ?_))
  refine bodyPost_ret (results_row_tmp2 Try.results42 _ _ w.heap.size 53 #[.int .i64 0, .int .i64 0, .int .i64 0, .int .i64 0] (0, 0) _ (.int .i64 0) (.int .i64 10) rfl rfl rfl (setRow_new _ _ #[.int .i64 0, .int .i64 0, .int .i64 0, .int .i64 0] _ _ HG.out) Try.underlying53 rfl info_geom) rfl ⟨by rw [HR.out.1, HR.out.2.1, HR.out.2.2], LayA.below_setRow HB.out _ (Nat.le_refl _) _⟩
set_option maxHeartbeats 400000 in
theorem made_at (R : Nat) (w : World) (e : Int) (A : Option Addr) (n c : Nat) (h : w.heap[R]? = some (.cells #[.int .i64 e, .slice A n c, .bool true] 192 (0, 0))) :
    Calls Try.prog 153 #[.pointer (some ⟨R, 0, none⟩)] w fun e' w' => e' = .returned (.bool true) ∧ w = w' := by
  have h2 := (cell_of_row w _ 2 _ _ _ h : w.cell? ⟨R, 2, none⟩ = some (.bool true))
  clear h
  go_enter Try.func153, Try.ntmps153
  go_wp2
  go_ret
  exact ⟨rfl, rfl⟩
set_option maxHeartbeats 400000 in
theorem rgood_at (R : Nat) (w : World) (e : Int) (A : Option Addr) (n c : Nat) (h : w.heap[R]? = some (.cells #[.int .i64 e, .slice A n c, .bool true] 192 (0, 0))) (b : Bool) (hb : (e == 0) = b) :
    Calls Try.prog 142 #[.pointer (some ⟨R, 0, none⟩)] w fun e' w' => e' = .returned (.bool b) ∧ w = w' := by
  have h0 := (cell_of_row w _ 0 _ _ _ h : w.cell? ⟨R, 0, none⟩ = some (.int .i64 e))
  clear h
  go_enter Try.func142, Try.ntmps142
  go_wp2
  go_ret
  exact ⟨rfl, rfl⟩
set_option maxHeartbeats 1000000 in
theorem done_at (R : Nat) (w : World) (e : Int) (A : Option Addr) (n c : Nat) (h : w.heap[R]? = some (.cells #[.int .i64 e, .slice A n c, .bool true] 192 (0, 0))) :
    Calls Try.prog 109 #[.pointer (some ⟨R, 0, none⟩)] w fun e' w' => e' = .returned (.int .i64 (doneE e n)) ∧ w = w' := by
  have H := As.mk h
  have h0 := (cell_of_row w _ 0 _ _ _ h : w.cell? ⟨R, 0, none⟩ = some (.int .i64 e))
  have h1 := (cell_of_row w _ 1 _ _ _ h : w.cell? ⟨R, 1, none⟩ = some (.slice A n c))
  clear h
  by_cases he : e = 0
  · subst he
    by_cases hn : 0 < n
    · have t0 : decide ((0 : Int) < (n : Int)) = true := decide_eq_true (by omega)
      have t1 : decide (0 < n) = true := decide_eq_true hn
      have HA := As.mk (show doneE 0 n = 13 by unfold doneE; rw [if_pos rfl, if_pos hn])
      clear hn
      go_enter Try.func109, Try.ntmps109
      go_wp2_with (first
        | (go_at_call 153; (with_reducible refine (made_at R w 0 A n c H.out).mono ?_); rintro e1 w1 ⟨rfl, rfl⟩)
        | (go_at_call 142; (with_reducible refine (rgood_at R w 0 A n c H.out true rfl).mono ?_); rintro e1 w2 ⟨rfl, rfl⟩))
      go_ret
      exact ⟨by rw [HA.out]; rfl, rfl⟩
    · obtain rfl : n = 0 := by omega
      have HA := As.mk (show doneE 0 0 = 0 by unfold doneE; rw [if_pos rfl, if_neg hn])
      clear hn
      go_enter Try.func109, Try.ntmps109
      go_wp2_with (first
        | (go_at_call 153; (with_reducible refine (made_at R w 0 A 0 c H.out).mono ?_); rintro e1 w1 ⟨rfl, rfl⟩)
        | (go_at_call 142; (with_reducible refine (rgood_at R w 0 A 0 c H.out true rfl).mono ?_); rintro e1 w2 ⟨rfl, rfl⟩))
      go_ret
      exact ⟨by rw [HA.out]; rfl, rfl⟩
  · have hb := As.mk (show (e == 0) = false from beq_eq_false_iff_ne.2 he)
    have HA := As.mk (show doneE e n = e by unfold doneE; rw [if_neg he])
    clear he
    go_enter Try.func109, Try.ntmps109
    go_wp2_with (first
      | (go_at_call 153; (with_reducible refine (made_at R w e A n c H.out).mono ?_); rintro e1 w1 ⟨rfl, rfl⟩)
      | (go_at_call 142; (with_reducible refine (rgood_at R w e A n c H.out false hb.out).mono ?_); rintro e1 w2 ⟨rfl, rfl⟩))
    go_ret
    exact ⟨by rw [HA.out]; rfl, rfl⟩
theorem done_anyK (R : Nat) (w : World) (e : Int) (A : Option Addr) (n c : Nat) (k : Int) (hk : doneE e n = k) (h : w.heap[R]? = some (.cells #[.int .i64 e, .slice A n c, .bool true] 192 (0, 0))) :
    Calls Try.prog 109 #[.pointer (some ⟨R, 0, none⟩)] w fun e' w' => e' = .returned (.int .i64 k) ∧ w = w' := hk ▸ done_at R w e A n c h
theorem equalK (x y : List Int) (hx : Byte x) (hy : Byte y) (A B : Option Addr) (n c m d : Nat) (w : World) (k : Bool) (hk : decide (x = y) = k) (h0 : Rd .u8 w A n c x) (h1 : Rd .u8 w B m d y) :
    Calls Try.prog 110 #[.slice A n c, .slice B m d] w fun e w' => e = .returned (.bool k) ∧ Below w.heap.size w w' := hk ▸ BytesEq.any x y hx hy A B n c m d w h0 h1
/-- where the geometry is not right there is no slot -/
theorem takeE_wrong {b : List Int} (hl : 54 ≤ b.length) {v s t p d e1 e2 e3 e4 e5 : Int} {x1 x2 x3 x4 : List Int} (h : Reads b v s t p d e1 e2 e3 e4 e5 x1 x2 x3 x4) (hr : rightB s t p d = false) : takeE b = 11 := by
  unfold takeE
  rw [if_neg (by omega)]
  by_cases hf : fitB b = true
  · obtain ⟨hi, h2, _⟩ := fit_in hf
    obtain ⟨_, es, et, ep, ed, _⟩ := reads_in h hi
    rw [es, et, ep, ed, h2] at hr
    cases hr
  · rw [if_pos (by simpa using hf)]
theorem takeE_len {b : List Int} (hl : 54 ≤ b.length) (h : b.length ≠ raw b 12 2) : takeE b = 11 := by
  unfold takeE
  rw [if_neg (by omega), if_pos]
  unfold fitB
  simp [h]
theorem takeE_fit {b : List Int} (hl : 54 ≤ b.length) (hi : raw b 4 8 ≤ 1099511627776) (hr : rightB (raw b 12 2) (raw b 14 2) (raw b 16 2) (raw b 18 4) = true) (h : b.length = raw b 12 2) :
    takeE b = if (wantB b).take 22 = b.take 22 ∧ (wantB b).drop 54 = b.drop 54 then (if wantB b = b then 0 else 21) else 11 := by
  have hf : fitB b = true := by unfold fitB; rw [hr, decide_eq_true hi, decide_eq_true h]; rfl
  unfold takeE
  rw [if_neg (by omega), if_neg (by rw [hf]; decide)]
theorem want_take {b : List Int} : (wantB b).take 22 = frontB (raw b 12 2) (raw b 14 2) (raw b 16 2) (raw b 18 4) (raw b 4 8) := by
  unfold wantB slotB
  rw [List.append_assoc, List.take_append_of_le_length (by rw [frontB_len]; exact Nat.le_refl _), List.take_of_length_le (by rw [frontB_len]; exact Nat.le_refl _)]
theorem want_mark {b : List Int} : ((wantB b).take 22).take 4 = mark := by
  rw [want_take]
  unfold frontB
  rw [List.append_assoc, List.append_assoc, List.append_assoc, List.append_assoc]
  rfl
/-- whatever its length is, without the mark it is no slot -/
theorem takeE_mark {b : List Int} (hl : 54 ≤ b.length) (h : (b.take 22).take 4 ≠ mark) : takeE b = 11 := by
  unfold takeE
  rw [if_neg (by omega)]
  split
  · rfl
  · rw [if_neg]
    rintro ⟨h1, _⟩
    exact h (by rw [← h1]; exact want_mark)
end Go.Proofs.Ytjcofbjfolaoiaa.SlotP
