/- From a row's data to what a walk reads: slices of slices; a struct of a slice, a string, a number and a slice of slices. -/
import Derived.Test.YtjcofbjfolaoiaaLift3
import Derived.Test.YtjcofbjfolaoiaaSum
import Derived.Lib.SmallJoins
namespace Go.Proofs.Ytjcofbjfolaoiaa.Lift
set_option linter.unusedVariables false
set_option linter.unusedSimpArgs false
open Go Go.RowKit Go.ChangeShapes Go.WideShapes Go.ChangeAt Go.Deep Go.Joins Go.Proofs.Ytjcofbjfolaoiaa.Mem Go.Proofs.Ytjcofbjfolaoiaa.Sum
section
variable {H : Type} {enc : TypeId × Value → H} {P : Program} {W : World} {base : Nat} {spare : Nat → Bool} {held : Bool}
theorem ints1 {t e : TypeId} {k : IntKind} {fuel : Nat} {cs : List Value} {x : DataW H × List MemPlace}
    (hu : P.underlying t = some (.slice e)) (he : P.underlying e = some (.int k)) (hc : P.cellsOf e = 1) (h : DataW.trod enc P W base spare held fuel t cs = some x) :
    ∃ a len cap y, cs = [.slice a len cap] ∧ Rd k W a len cap y ∧ ∀ n ∈ y, (Lit.int k n).wf = true := by
  rcases open_ints hu he hc h with ⟨hcs, _⟩ | ⟨x, l, c, zs, hcs, _, hl, hm, hz, _, hcell, hwz⟩
  · exact ⟨none, 0, 0, [], hcs, Rd.nil _ _ _ _ (by simp [maxLen]), by simp⟩
  · have hz : l ≤ zs.length := by rw [hz]; split <;> omega
    refine ⟨some x, l, c, zs.take l, hcs, ⟨by rw [List.length_take]; omega, hl, hm, fun hn => ⟨x, rfl, fun j hj => ?_⟩⟩, fun n hn => hwz n (List.mem_of_mem_take hn)⟩
    rw [hcell j (by omega)]
    congr 2
    simp only [nth, List.getD_eq_getElem?_getD]
    rw [List.getElem?_take_of_lt hj]
theorem parts1 {t e b : TypeId} {fuel : Nat} {cs : List Value} {x : DataW H × List MemPlace}
    (ht : P.underlying t = some (.slice e)) (he : P.underlying e = some (.slice b)) (hb : P.underlying b = some (.int .u8)) (hc : P.cellsOf b = 1) (hce : P.cellsOf e = 1) (h : DataW.trod enc P W base spare held fuel t cs = some x) :
    ∃ A n c ctx, cs = [.slice A n c] ∧ RdP W A n c ctx ∧ ∀ p ∈ ctx, ∀ i ∈ p, (Lit.int .u8 i).wf = true := by
  rcases open_slice ht h with ⟨hcs, _⟩ | ⟨a', len, cap, m, n, D, Pl, hcs, hbl, hl, hm, hmm, hx, hi⟩
  · exact ⟨none, 0, 0, [], hcs, ⟨rfl, Nat.le_refl _, by simp [maxLen], fun h => by omega⟩, by simp⟩
  · have hz : len ≤ m := by rw [hmm]; split <;> omega
    have each : ∀ j, j < len → ∃ y : List Int, (∃ Aj cj, W.cell? (a'.add j) = some (.slice Aj y.length cj) ∧ Rd .u8 W Aj y.length cj y) ∧ ∀ n ∈ y, (Lit.int .u8 n).wf = true := fun j hj => by
      obtain ⟨cs', hc', ht'⟩ := hi j (by omega)
      rw [hce, Nat.mul_one] at hc'
      obtain ⟨Aj, lj, cj, y, e1, hr, hw⟩ := ints1 he hb hc ht'
      obtain ⟨_, hcl, hat⟩ := World.cells?_some hc'
      have h0 := hat 0 (by omega)
      rw [e1, Go.Deep.add_add] at h0
      have hl := hr.len
      subst hl
      exact ⟨y, ⟨Aj, cj, by simpa using h0, hr⟩, hw⟩
    refine ⟨some a', len, cap, (List.range len).map fun j => if hj : j < len then (each j hj).choose else [], hcs, ⟨by simp, hl, hm, fun h0 => ⟨a', rfl, fun j hj => ?_⟩⟩, fun p hp i hip => ?_⟩
    · have hn : nthP ((List.range len).map fun j => if hj : j < len then (each j hj).choose else []) j = (each j hj).choose := by
        simp [nthP, List.getD_eq_getElem?_getD, hj]
      rw [hn]
      exact (each j hj).choose_spec.1
    · obtain ⟨j, hj, rfl⟩ := List.mem_map.1 hp
      have hj' : j < len := by simpa using hj
      rw [dif_pos hj'] at hip
      exact (each j hj').choose_spec.2 i hip
/-- a parameter: a slice of slices of bytes -/
theorem parts {t e b : TypeId} {a : Option Addr} {len cap : Nat} {d : DataW H} {ps : List MemPlace}
    (ht : P.underlying t = some (.slice e)) (he : P.underlying e = some (.slice b)) (hb : P.underlying b = some (.int .u8)) (hc : P.cellsOf b = 1) (hce : P.cellsOf e = 1) (h : DataW.Trod enc P W base spare held t (.slice a len cap) d ps) :
    ∃ ctx, RdP W a len cap ctx ∧ ∀ p ∈ ctx, ∀ i ∈ p, (Lit.int .u8 i).wf = true := by
  obtain ⟨fuel, hf⟩ := h
  obtain ⟨A, n, c, ctx, e1, r, g⟩ := parts1 ht he hb hc hce hf
  have e2 : (Value.slice a len cap) = .slice A n c := by
    have : (Value.slice a len cap).cells.toList = [Value.slice a len cap] := rfl
    rw [this] at e1
    injection e1
  cases e2
  exact ⟨ctx, r, g⟩
/-- a slice of bytes, a string, a number, a slice of slices of bytes -/
theorem ask {r : Reach} {b0 : Nat} {t e1 e2 e3 : TypeId} {f0 f1 f2 f3 : Field} {v : Value} {d : DataW H} {p : List MemPlace} (hs : P.underlying t = some (.struct #[f0, f1, f2, f3])) (hone : oneCellFields P #[f0, f1, f2, f3] = true) (hC : P.cellsOf t = 4)
    (h0 : P.underlying f0.type = some (.slice e1)) (hb : P.underlying e1 = some (.int .u8)) (hc : P.cellsOf e1 = 1) (h1 : P.underlying f1.type = some .string) (h2 : P.underlying f2.type = some (.int .i64))
    (h3 : P.underlying f3.type = some (.slice e2)) (h4 : P.underlying e2 = some (.slice e3)) (h5 : P.underlying e3 = some (.int .u8)) (h6 : P.cellsOf e3 = 1) (h7 : P.cellsOf e2 = 1)
    (hv : Value.okWide P W r b0 t v) (h : DataW.Trod enc P W base spare held t v d p) :
    ∃ A s c key nm n Pp np cp ctx, v = .agg #[.slice A s c, .string nm, .int .i64 n, .slice Pp np cp] ∧ Rd .u8 W A s c key ∧ (∀ i ∈ key, (Lit.int .u8 i).wf = true) ∧ RdP W Pp np cp ctx ∧ ∀ q ∈ ctx, ∀ i ∈ q, (Lit.int .u8 i).wf = true := by
  obtain ⟨v0, v1, v2, v3, y0, y1, y2, y3, n, rfl, _, _, k0, k1, k2, k3⟩ := open_agg4 hs hone hC hv h
  obtain ⟨A, s, c, key, q0, r0, g0⟩ := ints1 h0 hb hc k0
  obtain ⟨nm, q1, _, _⟩ := DataW.trod_string h1 k1
  obtain ⟨m, q2, _, _⟩ := DataW.trod_int h2 k2
  obtain ⟨Pp, np, cp, ctx, q3, r3, g3⟩ := parts1 h3 h4 h5 h6 h7 k3
  injection q0 with q0
  injection q1 with q1
  injection q2 with q2
  injection q3 with q3
  subst q0 q1 q2 q3
  exact ⟨A, s, c, key, nm, m, Pp, np, cp, ctx, rfl, r0, g0, r3, g3⟩
end
end Go.Proofs.Ytjcofbjfolaoiaa.Lift
