/- From a row's data to what a walk reads: slices of structs whose fields are one cell each. -/
import Derived.Test.YtjcofbjfolaoiaaLift2
import Derived.Test.YtjcofbjfolaoiaaMem5
import Derived.Deep.Slices
import Derived.Deep.Fields
import Derived.ChangeSame
namespace Go.Proofs.Ytjcofbjfolaoiaa.Lift
set_option linter.unusedVariables false
set_option linter.unusedSimpArgs false
open Go Go.RowKit Go.ChangeShapes Go.WideShapes Go.ChangeAt Go.Deep Go.Proofs.Ytjcofbjfolaoiaa.Mem
section
variable {H : Type} {enc : TypeId × Value → H} {P : Program} {W : World} {base : Nat} {spare : Nat → Bool} {held : Bool}
/-- each element's cells, and how each field reads -/
theorem rows {t e : TypeId} {fs : Array Field} {a : Option Addr} {len cap : Nat} {d : DataW H} {ps : List MemPlace}
    (ht : P.underlying t = some (.slice e)) (he : P.underlying e = some (.struct fs)) (hone : oneCellFields P fs = true) (hC : P.cellsOf e = fs.size)
    (h : DataW.Trod enc P W base spare held t (.slice a len cap) d ps) :
    ∃ V : Nat → List Value, RdRows fs.size W a len cap V ∧ ∀ j, j < len → ∀ (i : Nat) (f : Field), fs[i]? = some f → ∃ v n y, (V j)[i]? = some v ∧ DataW.trod enc P W base spare held n f.type [v] = some y := by
  obtain ⟨fuel, hf⟩ := h
  rcases open_slice ht hf with ⟨hcs, _⟩ | ⟨a', l', c', m, n, D, Pl, hcs, hb, hl, hm, hmm, hx, hi⟩
  · simp [Value.cells] at hcs
    obtain ⟨rfl, rfl, rfl⟩ := hcs
    exact ⟨fun _ => [], ⟨Nat.le_refl _, by simp [maxLen], fun j hj => by omega, fun hn => by omega⟩, fun j hj => by omega⟩
  · simp [Value.cells] at hcs
    obtain ⟨rfl, rfl, rfl⟩ := hcs
    have hz : len ≤ m := by rw [hmm]; split <;> omega
    have each : ∀ j, j < len → ∃ cs : List Value, cs.length = fs.size ∧ (∀ i v, cs[i]? = some v → W.cell? (a'.add (j * fs.size + i)) = some v) ∧
        ∀ (i : Nat) (f : Field), fs[i]? = some f → ∃ v n y, cs[i]? = some v ∧ DataW.trod enc P W base spare held n f.type [v] = some y := fun j hj => by
      obtain ⟨cs', hc, ht'⟩ := hi j (by omega)
      rw [hC] at hc
      obtain ⟨ys, n', hn', hy, hlen, hyl, hff⟩ := DataW.trod_struct he ht'
      obtain ⟨_, hcl, hat⟩ := World.cells?_some hc
      refine ⟨cs', by omega, fun i v hv => ?_, fun i f hif => ?_⟩
      · have hil : i < fs.size := by
          have := (List.getElem?_eq_some_iff.1 hv).1
          omega
        have := hat i hil
        rw [← Go.Deep.add_add, this, hv]
      · obtain ⟨ho, hk⟩ := hone_of hone i f hif
        have hjl : i < fs.size := (Array.getElem?_eq_some_iff.1 hif).1
        have hv : cs'[i]? = some (cs'[i]'(by omega)) := List.getElem?_eq_getElem (by omega)
        have h1 := hff i f hif
        rw [ho, hk] at h1
        have hone' : (cs'.drop i).take 1 = [cs'[i]'(by omega)] := by
          rw [List.drop_eq_getElem_cons (by omega)]
          rfl
        rw [hone'] at h1
        have hys : ys[i]? = some (ys[i]'(by omega)) := List.getElem?_eq_getElem (by omega)
        exact ⟨_, _, _, hv, h1.trans hys⟩
    refine ⟨fun j => if hj : j < len then (each j hj).choose else [], ⟨hl, hm, fun j hj => ?_, fun hn => ⟨a', rfl, fun j hj i v hv => ?_⟩⟩, fun j hj i f hif => ?_⟩
    · rw [dif_pos hj]; exact (each j hj).choose_spec.1
    · rw [dif_pos hj] at hv; exact (each j hj).choose_spec.2.1 i v hv
    · simp only [dif_pos hj]; exact (each j hj).choose_spec.2.2 i f hif
/-- all fields are ints -/
theorem rows_ints {t e : TypeId} {fs : Array Field} {a : Option Addr} {len cap : Nat} {d : DataW H} {ps : List MemPlace}
    (ht : P.underlying t = some (.slice e)) (he : P.underlying e = some (.struct fs)) (hone : oneCellFields P fs = true) (hC : P.cellsOf e = fs.size) (hk : ∀ (i : Nat) (f : Field), fs[i]? = some f → P.underlying f.type = some (.int .i64))
    (h : DataW.Trod enc P W base spare held t (.slice a len cap) d ps) :
    ∃ X : Nat → List Int, RdRows fs.size W a len cap (fun j => (X j).map (Value.int .i64)) ∧ ∀ j, j < len → (X j).length = fs.size ∧ ∀ i ∈ X j, (Lit.int .i64 i).wf = true := by
  obtain ⟨V, hV, hF⟩ := rows ht he hone hC h
  have each : ∀ j, j < len → ∀ i (hi : i < (V j).length), ∃ x, (V j)[i] = .int .i64 x ∧ (Lit.int .i64 x).wf = true := fun j hj i hi => by
    have hl := hV.len j hj
    obtain ⟨v, n, y, hv, hy⟩ := hF j hj i (fs[i]'(by omega)) (Array.getElem?_eq_getElem (by omega))
    obtain ⟨x, h2, _, h3⟩ := DataW.trod_int (hk i _ (Array.getElem?_eq_getElem (by omega))) hy
    rw [List.getElem?_eq_getElem hi] at hv
    cases hv
    exact ⟨x, by simpa using h2, h3⟩
  have hmap : ∀ j, j < len → V j = ((V j).map fun v => match v with | .int _ x => x | _ => 0).map (Value.int .i64) := fun j hj => by
    rw [List.map_map]
    refine List.ext_getElem (by simp) fun i h1 h2 => ?_
    obtain ⟨x, hx, _⟩ := each j hj i h1
    simp [hx]
  refine ⟨fun j => (V j).map fun v => match v with | .int _ x => x | _ => 0, ⟨hV.le, hV.cap, fun j hj => by simp only [List.length_map]; exact hV.len j hj, fun hn => ?_⟩, fun j hj => ⟨by simp only [List.length_map]; exact hV.len j hj, fun x hx => ?_⟩⟩
  · obtain ⟨ad, e, hc⟩ := hV.cells hn
    refine ⟨ad, e, fun j hj i v hv => hc j hj i v ?_⟩
    rw [hmap j hj]
    exact hv
  · obtain ⟨v, hv, rfl⟩ := List.mem_map.1 hx
    obtain ⟨i, hi, rfl⟩ := List.mem_iff_getElem.1 hv
    obtain ⟨x, h3, h4⟩ := each j hj i hi
    rw [h3]
    exact h4
end
end Go.Proofs.Ytjcofbjfolaoiaa.Lift
