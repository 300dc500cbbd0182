/- From a row's data to what a walk reads: entries; a struct of bytes and three numbers. From a row's data to what a walk reads: a slice of truth values. -/
import Derived.Test.YteajblfkfmopfaaLift5
import Derived.Test.YteajblfkfmopfaaEntries
import Derived.Test.YteajblfkfmopfaaLift
import Derived.Test.YteajblfkfmopfaaCrashApply
import Derived.Deep.Grids
namespace Go.Proofs.Yteajblfkfmopfaa.LiftJ
set_option linter.unusedVariables false
set_option linter.unusedSimpArgs false
open Go Go.RowKit Go.ChangeShapes Go.WideShapes Go.ChangeAt Go.Deep Go.Joins Go.Proofs.Yteajblfkfmopfaa.Mem Go.Proofs.Yteajblfkfmopfaa.Sum Go.Proofs.Yteajblfkfmopfaa.Entries Go.Proofs.Yteajblfkfmopfaa.Lift
section
variable {H : Type} {enc : TypeId × Value → H} {P : Program} {W : World} {base : Nat} {spare : Nat → Bool} {held : Bool}
theorem ents {t e b : TypeId} {f0 f1 : Field} {a : Option Addr} {len cap : Nat} {d : DataW H} {ps : List MemPlace}
    (ht : P.underlying t = some (.slice e)) (he : P.underlying e = some (.struct #[f0, f1])) (hone : oneCellFields P #[f0, f1] = true) (hC : P.cellsOf e = 2)
    (h0 : P.underlying f0.type = some (.int .i64)) (h1 : P.underlying f1.type = some (.slice b)) (hb : P.underlying b = some (.int .u8)) (hcb : P.cellsOf b = 1)
    (h : DataW.Trod enc P W base spare held t (.slice a len cap) d ps) :
    ∃ es, RdE W a len cap es ∧ ∀ e ∈ es, ∀ i ∈ e.2, (Lit.int .u8 i).wf = true := by
  obtain ⟨V, hV, hF⟩ := rows ht he hone hC h
  have each : ∀ j, j < len → ∃ (x : Int) (y : List Int) (Aj : Option Addr) (cj : Nat), V j = [.int .i64 x, .slice Aj y.length cj] ∧ Rd .u8 W Aj y.length cj y ∧ ∀ i ∈ y, (Lit.int .u8 i).wf = true := fun j hj => by
    have hl : (V j).length = 2 := hV.len j hj
    obtain ⟨v0, n0, y0, hv0, hy0⟩ := hF j hj 0 f0 rfl
    obtain ⟨v1, n1, y1, hv1, hy1⟩ := hF j hj 1 f1 rfl
    obtain ⟨x, e0, _, _⟩ := DataW.trod_int h0 hy0
    obtain ⟨Aj, lj, cj, y, e1, hr, hw⟩ := ints1 h1 hb hcb hy1
    injection e0 with e0
    injection e1 with e1
    subst e0 e1
    have hly := hr.len
    subst hly
    refine ⟨x, y, Aj, cj, ?_, hr, hw⟩
    match hq : V j, hl with
    | [p, q], _ =>
      rw [hq] at hv0 hv1
      simp at hv0 hv1
      rw [hv0, hv1]
  refine ⟨(List.range len).map fun j => if hj : j < len then ((each j hj).choose, (each j hj).choose_spec.choose) else (0, []), ⟨by simp, hV.le, hV.cap, fun hn => ?_⟩, fun e he i hi => ?_⟩
  · obtain ⟨ad, ea, hc⟩ := hV.cells hn
    refine ⟨ad, ea, fun j hj => ?_⟩
    have hnE : nthE ((List.range len).map fun j => if hj : j < len then ((each j hj).choose, (each j hj).choose_spec.choose) else (0, [])) j = ((each j hj).choose, (each j hj).choose_spec.choose) := by
      simp [nthE, List.getD_eq_getElem?_getD, hj]
    rw [hnE]
    obtain ⟨Aj, cj, e1, hr, _⟩ := (each j hj).choose_spec.choose_spec
    exact ⟨Aj, cj, hc j hj 0 _ (congrArg (fun l : List Value => l[0]?) e1), hc j hj 1 _ (congrArg (fun l : List Value => l[1]?) e1), hr⟩
  · obtain ⟨j, hj, rfl⟩ := List.mem_map.1 he
    have hj' : j < len := by simpa using hj
    rw [dif_pos hj'] at hi
    obtain ⟨Aj, cj, _, _, hw⟩ := (each j hj').choose_spec.choose_spec
    exact hw i hi
/-- a slice of bytes, three numbers -/
theorem askj {r : Reach} {b0 : Nat} {t e1 : TypeId} {f0 f1 f2 f3 : Field} {v : Value} {d : DataW H} {p : List MemPlace} (hs : P.underlying t = some (.struct #[f0, f1, f2, f3])) (hone : oneCellFields P #[f0, f1, f2, f3] = true) (hC : P.cellsOf t = 4)
    (h0 : P.underlying f0.type = some (.slice e1)) (hb : P.underlying e1 = some (.int .u8)) (hc : P.cellsOf e1 = 1) (h1 : P.underlying f1.type = some (.int .i64)) (h2 : P.underlying f2.type = some (.int .i64)) (h3 : P.underlying f3.type = some (.int .i64))
    (hv : Value.okWide P W r b0 t v) (h : DataW.Trod enc P W base spare held t v d p) :
    ∃ A s c key x y z, v = .agg #[.slice A s c, .int .i64 x, .int .i64 y, .int .i64 z] ∧ Rd .u8 W A s c key ∧ ∀ i ∈ key, (Lit.int .u8 i).wf = true := by
  obtain ⟨v0, v1, v2, v3, y0, y1, y2, y3, n, rfl, _, _, k0, k1, k2, k3⟩ := open_agg4 hs hone hC hv h
  obtain ⟨A, s, c, key, q0, r0, g0⟩ := ints1 h0 hb hc k0
  obtain ⟨m1, q1, _, _⟩ := DataW.trod_int h1 k1
  obtain ⟨m2, q2, _, _⟩ := DataW.trod_int h2 k2
  obtain ⟨m3, q3, _, _⟩ := DataW.trod_int h3 k3
  injection q0 with q0
  injection q1 with q1
  injection q2 with q2
  injection q3 with q3
  subst q0 q1 q2 q3
  exact ⟨A, s, c, key, m1, m2, m3, rfl, r0, g0⟩
end
end Go.Proofs.Yteajblfkfmopfaa.LiftJ
namespace Go.Proofs.Yteajblfkfmopfaa.LiftB
set_option linter.unusedVariables false
set_option linter.unusedSimpArgs false
open Go Go.RowKit Go.ChangeShapes Go.WideShapes Go.ChangeAt Go.Deep Go.Proofs.Yteajblfkfmopfaa.Mem Go.Proofs.Yteajblfkfmopfaa.CrashApply

theorem bools {H : Type} {enc : TypeId × Value → H} {P : Program} {W : World} {base : Nat} {held : Bool} {t e : TypeId} {a : Option Addr} {len cap : Nat} {d : DataW H} {ps : List MemPlace}
    (hu : P.underlying t = some (.slice e)) (he : P.underlying e = some .bool) (hc : P.cellsOf e = 1)
    (h : DataW.Trod enc P W base (fun _ => true) held t (.slice a len cap) d ps) : ∃ x, RdB W a len cap x ∧ True := by
  obtain ⟨fuel, hf⟩ := h
  rcases open_bools hu he hc hf with ⟨hcs, _⟩ | ⟨x, l, c, B, hcs, _, hl, hm, _, hcell⟩
  · simp [Value.cells] at hcs
    obtain ⟨rfl, rfl, rfl⟩ := hcs
    exact ⟨[], ⟨rfl, Nat.le_refl _, by simp [maxLen], fun h => by omega⟩, trivial⟩
  · simp [Value.cells] at hcs
    obtain ⟨rfl, rfl, rfl⟩ := hcs
    refine ⟨(List.range len).map B, ⟨by simp, hl, hm, fun h0 => ⟨x, rfl, fun j hj => ?_⟩⟩, trivial⟩
    rw [hcell j (by omega), List.getD_eq_getElem?_getD, List.getElem?_map, List.getElem?_range hj]
    rfl
end Go.Proofs.Yteajblfkfmopfaa.LiftB
