/- From a row's data to what a walk reads: an array of whole numbers, by value. -/
import Derived.Test.YtjcofbjfolaoiaaLift
namespace Go.Proofs.Ytjcofbjfolaoiaa.Lift
set_option linter.unusedVariables false
set_option linter.unusedSimpArgs false
open Go Go.RowKit Go.ChangeShapes Go.WideShapes Go.ChangeAt Go.Proofs.Ytjcofbjfolaoiaa.Mem

theorem okWide_array {P : Program} {w : World} {r : Reach} {base : Nat} {t e : TypeId} {n : Nat} {v : Value} (ht : P.underlying t = some (.array n e)) (h : Value.okWide P w r base t v) : ∃ cs, v = .agg cs := by
  simp only [Value.okWide, ht] at h
  obtain ⟨cs, h1, _⟩ := h
  exact ⟨cs, h1⟩
theorem arr {H : Type} {enc : TypeId × Value → H} {P : Program} {W : World} {base : Nat} {spare : Nat → Bool} {held : Bool} {t e : TypeId} {n : Nat} {k : IntKind} {cs : Array Value} {d : DataW H} {ps : List MemPlace}
    (hu : P.underlying t = some (.array n e)) (he : P.underlying e = some (.int k)) (hc : P.cellsOf e = 1) (hn : P.cellsOf t = n)
    (h : DataW.Trod enc P W base spare held t (.agg cs) d ps) : ∃ x : List Int, cs = (x.map (Value.int k)).toArray ∧ x.length = n ∧ ∀ i ∈ x, (Lit.int k i).wf = true := by
  obtain ⟨fuel, hf⟩ := h
  obtain ⟨xs, m, rfl, _, hl, hx, hi⟩ := DataW.trod_array hu hf
  have hl : cs.size = n := by
    have : cs.toList.length = n := by rw [← hn]; exact hl
    simpa using this
  have each : ∀ j (hj : j < cs.size), ∃ i, cs[j] = .int k i ∧ (Lit.int k i).wf = true := fun j hj => by
    have h1 := hi j (by omega)
    rw [hc, Nat.mul_one] at h1
    have hjx : j < xs.length := by omega
    rw [List.getElem?_eq_getElem hjx] at h1
    obtain ⟨i, h2, _, h3⟩ := DataW.trod_int he h1
    refine ⟨i, ?_, h3⟩
    have h4 : ((cs.toList.drop j).take 1)[0]? = some (.int k i) := by
      have : (Value.agg cs).cells.toList = cs.toList := rfl
      rw [← this, h2]; rfl
    rw [List.getElem?_take, if_pos (by omega), List.getElem?_drop] at h4
    simpa [hj] using h4
  refine ⟨cs.toList.map fun v => match v with | .int _ i => i | _ => 0, ?_, by simpa using hl, fun i hi => ?_⟩
  · apply Array.ext
    · simp
    · intro j h1 h2
      obtain ⟨i, h3, _⟩ := each j h1
      simp [h3]
  · obtain ⟨v, hv, rfl⟩ := List.mem_map.1 hi
    obtain ⟨j, hj, rfl⟩ := List.mem_iff_getElem.1 hv
    obtain ⟨i, h3, h4⟩ := each j (by simpa using hj)
    have h5 : cs.toList[j] = .int k i := by simpa using h3
    rw [h5]
    exact h4
end Go.Proofs.Ytjcofbjfolaoiaa.Lift
