/- From a row's data to what a walk reads: structs of numbers. -/
import Derived.Test.YtjcofbjfolaoiaaLift4
namespace Go.Proofs.Ytjcofbjfolaoiaa.Lift
set_option linter.unusedVariables false
set_option linter.unusedSimpArgs false
open Go Go.RowKit Go.ChangeShapes Go.WideShapes Go.ChangeAt Go.Deep Go.Joins Go.Proofs.Ytjcofbjfolaoiaa.Mem Go.Proofs.Ytjcofbjfolaoiaa.Sum
section
variable {H : Type} {enc : TypeId × Value → H} {P : Program} {W : World} {base : Nat} {spare : Nat → Bool} {held : Bool}
/-- four numbers -/
theorem geom {r : Reach} {b0 : Nat} {t : TypeId} {f0 f1 f2 f3 : Field} {v : Value} {d : DataW H} {p : List MemPlace} (hs : P.underlying t = some (.struct #[f0, f1, f2, f3])) (hone : oneCellFields P #[f0, f1, f2, f3] = true) (hC : P.cellsOf t = 4)
    (h0 : P.underlying f0.type = some (.int .i64)) (h1 : P.underlying f1.type = some (.int .i64)) (h2 : P.underlying f2.type = some (.int .i64)) (h3 : P.underlying f3.type = some (.int .i64))
    (hv : Value.okWide P W r b0 t v) (h : DataW.Trod enc P W base spare held t v d p) :
    ∃ a b c e : Int, v = .agg #[.int .i64 a, .int .i64 b, .int .i64 c, .int .i64 e] := by
  obtain ⟨v0, v1, v2, v3, y0, y1, y2, y3, n, rfl, _, _, k0, k1, k2, k3⟩ := open_agg4 hs hone hC hv h
  obtain ⟨m0, q0, _, _⟩ := DataW.trod_int h0 k0
  obtain ⟨m1, q1, _, _⟩ := DataW.trod_int h1 k1
  obtain ⟨m2, q2, _, _⟩ := DataW.trod_int h2 k2
  obtain ⟨m3, q3, _, _⟩ := DataW.trod_int h3 k3
  injection q0 with q0
  injection q1 with q1
  injection q2 with q2
  injection q3 with q3
  subst q0 q1 q2 q3
  exact ⟨m0, m1, m2, m3, rfl⟩
end
end Go.Proofs.Ytjcofbjfolaoiaa.Lift
