/- From a row's data to what a walk reads: an array of whole numbers, by value. From a row's data to what a walk reads: slices of structs whose fields are one cell each. From a row's data to what a walk reads: slices of slices; a struct of a slice, a string, a number and a slice of slices. From a row's data to what a walk reads: structs of numbers. -/
import Derived.Test.YteajblfkfmopfaaLift
import Derived.Test.YteajblfkfmopfaaMem5
import Derived.Deep.Slices
import Derived.Deep.Fields
import Derived.ChangeSame
import Derived.Test.YteajblfkfmopfaaSum
import Derived.Lib.SmallJoins
namespace Go.Proofs.Yteajblfkfmopfaa.Lift
set_option linter.unusedVariables false
set_option linter.unusedSimpArgs false
open Go Go.RowKit Go.ChangeShapes Go.WideShapes Go.ChangeAt Go.Proofs.Yteajblfkfmopfaa.Mem

theorem okWide_array {P : Program} {w : World} {r : Reach} {base : Nat} {t e : TypeId} {n : Nat} {v : Value} (ht : P.underlying t = some (.array n e)) (h : Value.okWide P w r base t v) : ∃ cs, v = .agg cs := by
  simp only [Value.okWide, ht] at h
  obtain ⟨cs, h1, _⟩ := h
  exact ⟨cs, h1⟩
theorem arr {H : Type} {enc : TypeId × Value → H} {P : Program} {W : World} {base : Nat} {spare : Nat → Bool} {held : Bool} {t e : TypeId} {n : Nat} {k : IntKind} {cs : Array Value} {d : DataW H} {ps : List MemPlace}
    (hu : P.underlying t = some (.array n e)) (he : P.underlying e = some (.int k)) (hc : P.cellsOf e = 1) (hn : P.cellsOf t = n)
    (h : DataW.Trod enc P W base spare held t (.agg cs) d ps) : ∃ x : List Int, cs = (x.map (Value.int k)).toArray ∧ x.length = n ∧ ∀ i ∈ x, (Lit.int k i).wf = true := by
  obtain ⟨fuel, hf⟩ := h
  obtain ⟨xs, m, rfl, _, hl, hx, hi⟩ := DataW.trod_array hu hf
  have hl : cs.size = n := by
    have : cs.toList.length = n := by rw [← hn]; exact hl
    simpa using this
  have each : ∀ j (hj : j < cs.size), ∃ i, cs[j] = .int k i ∧ (Lit.int k i).wf = true := fun j hj => by
    have h1 := hi j (by omega)
    rw [hc, Nat.mul_one] at h1
    have hjx : j < xs.length := by omega
    rw [List.getElem?_eq_getElem hjx] at h1
    obtain ⟨i, h2, _, h3⟩ := DataW.trod_int he h1
    refine ⟨i, ?_, h3⟩
    have h4 : ((cs.toList.drop j).take 1)[0]? = some (.int k i) := by
      have : (Value.agg cs).cells.toList = cs.toList := rfl
      rw [← this, h2]; rfl
    rw [List.getElem?_take, if_pos (by omega), List.getElem?_drop] at h4
    simpa [hj] using h4
  refine ⟨cs.toList.map fun v => match v with | .int _ i => i | _ => 0, ?_, by simpa using hl, fun i hi => ?_⟩
  · apply Array.ext
    · simp
    · intro j h1 h2
      obtain ⟨i, h3, _⟩ := each j h1
      simp [h3]
  · obtain ⟨v, hv, rfl⟩ := List.mem_map.1 hi
    obtain ⟨j, hj, rfl⟩ := List.mem_iff_getElem.1 hv
    obtain ⟨i, h3, h4⟩ := each j (by simpa using hj)
    have h5 : cs.toList[j] = .int k i := by simpa using h3
    rw [h5]
    exact h4
end Go.Proofs.Yteajblfkfmopfaa.Lift
namespace Go.Proofs.Yteajblfkfmopfaa.Lift
set_option linter.unusedVariables false
set_option linter.unusedSimpArgs false
open Go Go.RowKit Go.ChangeShapes Go.WideShapes Go.ChangeAt Go.Deep Go.Proofs.Yteajblfkfmopfaa.Mem
section
variable {H : Type} {enc : TypeId × Value → H} {P : Program} {W : World} {base : Nat} {spare : Nat → Bool} {held : Bool}
/-- each element's cells, and how each field reads -/
theorem rows {t e : TypeId} {fs : Array Field} {a : Option Addr} {len cap : Nat} {d : DataW H} {ps : List MemPlace}
    (ht : P.underlying t = some (.slice e)) (he : P.underlying e = some (.struct fs)) (hone : oneCellFields P fs = true) (hC : P.cellsOf e = fs.size)
    (h : DataW.Trod enc P W base spare held t (.slice a len cap) d ps) :
    ∃ V : Nat → List Value, RdRows fs.size W a len cap V ∧ ∀ j, j < len → ∀ (i : Nat) (f : Field), fs[i]? = some f → ∃ v n y, (V j)[i]? = some v ∧ DataW.trod enc P W base spare held n f.type [v] = some y := by
  obtain ⟨fuel, hf⟩ := h
  rcases open_slice ht hf with ⟨hcs, _⟩ | ⟨a', l', c', m, n, D, Pl, hcs, hb, hl, hm, hmm, hx, hi⟩
  · simp [Value.cells] at hcs
    obtain ⟨rfl, rfl, rfl⟩ := hcs
    exact ⟨fun _ => [], ⟨Nat.le_refl _, by simp [maxLen], fun j hj => by omega, fun hn => by omega⟩, fun j hj => by omega⟩
  · simp [Value.cells] at hcs
    obtain ⟨rfl, rfl, rfl⟩ := hcs
    have hz : len ≤ m := by rw [hmm]; split <;> omega
    have each : ∀ j, j < len → ∃ cs : List Value, cs.length = fs.size ∧ (∀ i v, cs[i]? = some v → W.cell? (a'.add (j * fs.size + i)) = some v) ∧
        ∀ (i : Nat) (f : Field), fs[i]? = some f → ∃ v n y, cs[i]? = some v ∧ DataW.trod enc P W base spare held n f.type [v] = some y := fun j hj => by
      obtain ⟨cs', hc, ht'⟩ := hi j (by omega)
      rw [hC] at hc
      obtain ⟨ys, n', hn', hy, hlen, hyl, hff⟩ := DataW.trod_struct he ht'
      obtain ⟨_, hcl, hat⟩ := World.cells?_some hc
      refine ⟨cs', by omega, fun i v hv => ?_, fun i f hif => ?_⟩
      · have hil : i < fs.size := by
          have := (List.getElem?_eq_some_iff.1 hv).1
          omega
        have := hat i hil
        rw [← Go.Deep.add_add, this, hv]
      · obtain ⟨ho, hk⟩ := hone_of hone i f hif
        have hjl : i < fs.size := (Array.getElem?_eq_some_iff.1 hif).1
        have hv : cs'[i]? = some (cs'[i]'(by omega)) := List.getElem?_eq_getElem (by omega)
        have h1 := hff i f hif
        rw [ho, hk] at h1
        have hone' : (cs'.drop i).take 1 = [cs'[i]'(by omega)] := by
          rw [List.drop_eq_getElem_cons (by omega)]
          rfl
        rw [hone'] at h1
        have hys : ys[i]? = some (ys[i]'(by omega)) := List.getElem?_eq_getElem (by omega)
        exact ⟨_, _, _, hv, h1.trans hys⟩
    refine ⟨fun j => if hj : j < len then (each j hj).choose else [], ⟨hl, hm, fun j hj => ?_, fun hn => ⟨a', rfl, fun j hj i v hv => ?_⟩⟩, fun j hj i f hif => ?_⟩
    · rw [dif_pos hj]; exact (each j hj).choose_spec.1
    · rw [dif_pos hj] at hv; exact (each j hj).choose_spec.2.1 i v hv
    · simp only [dif_pos hj]; exact (each j hj).choose_spec.2.2 i f hif
/-- all fields are ints -/
theorem rows_ints {t e : TypeId} {fs : Array Field} {a : Option Addr} {len cap : Nat} {d : DataW H} {ps : List MemPlace}
    (ht : P.underlying t = some (.slice e)) (he : P.underlying e = some (.struct fs)) (hone : oneCellFields P fs = true) (hC : P.cellsOf e = fs.size) (hk : ∀ (i : Nat) (f : Field), fs[i]? = some f → P.underlying f.type = some (.int .i64))
    (h : DataW.Trod enc P W base spare held t (.slice a len cap) d ps) :
    ∃ X : Nat → List Int, RdRows fs.size W a len cap (fun j => (X j).map (Value.int .i64)) ∧ ∀ j, j < len → (X j).length = fs.size ∧ ∀ i ∈ X j, (Lit.int .i64 i).wf = true := by
  obtain ⟨V, hV, hF⟩ := rows ht he hone hC h
  have each : ∀ j, j < len → ∀ i (hi : i < (V j).length), ∃ x, (V j)[i] = .int .i64 x ∧ (Lit.int .i64 x).wf = true := fun j hj i hi => by
    have hl := hV.len j hj
    obtain ⟨v, n, y, hv, hy⟩ := hF j hj i (fs[i]'(by omega)) (Array.getElem?_eq_getElem (by omega))
    obtain ⟨x, h2, _, h3⟩ := DataW.trod_int (hk i _ (Array.getElem?_eq_getElem (by omega))) hy
    rw [List.getElem?_eq_getElem hi] at hv
    cases hv
    exact ⟨x, by simpa using h2, h3⟩
  have hmap : ∀ j, j < len → V j = ((V j).map fun v => match v with | .int _ x => x | _ => 0).map (Value.int .i64) := fun j hj => by
    rw [List.map_map]
    refine List.ext_getElem (by simp) fun i h1 h2 => ?_
    obtain ⟨x, hx, _⟩ := each j hj i h1
    simp [hx]
  refine ⟨fun j => (V j).map fun v => match v with | .int _ x => x | _ => 0, ⟨hV.le, hV.cap, fun j hj => by simp only [List.length_map]; exact hV.len j hj, fun hn => ?_⟩, fun j hj => ⟨by simp only [List.length_map]; exact hV.len j hj, fun x hx => ?_⟩⟩
  · obtain ⟨ad, e, hc⟩ := hV.cells hn
    refine ⟨ad, e, fun j hj i v hv => hc j hj i v ?_⟩
    rw [hmap j hj]
    exact hv
  · obtain ⟨v, hv, rfl⟩ := List.mem_map.1 hx
    obtain ⟨i, hi, rfl⟩ := List.mem_iff_getElem.1 hv
    obtain ⟨x, h3, h4⟩ := each j hj i hi
    rw [h3]
    exact h4
end
end Go.Proofs.Yteajblfkfmopfaa.Lift
namespace Go.Proofs.Yteajblfkfmopfaa.Lift
set_option linter.unusedVariables false
set_option linter.unusedSimpArgs false
open Go Go.RowKit Go.ChangeShapes Go.WideShapes Go.ChangeAt Go.Deep Go.Joins Go.Proofs.Yteajblfkfmopfaa.Mem Go.Proofs.Yteajblfkfmopfaa.Sum
section
variable {H : Type} {enc : TypeId × Value → H} {P : Program} {W : World} {base : Nat} {spare : Nat → Bool} {held : Bool}
theorem ints1 {t e : TypeId} {k : IntKind} {fuel : Nat} {cs : List Value} {x : DataW H × List MemPlace}
    (hu : P.underlying t = some (.slice e)) (he : P.underlying e = some (.int k)) (hc : P.cellsOf e = 1) (h : DataW.trod enc P W base spare held fuel t cs = some x) :
    ∃ a len cap y, cs = [.slice a len cap] ∧ Rd k W a len cap y ∧ ∀ n ∈ y, (Lit.int k n).wf = true := by
  rcases open_ints hu he hc h with ⟨hcs, _⟩ | ⟨x, l, c, zs, hcs, _, hl, hm, hz, _, hcell, hwz⟩
  · exact ⟨none, 0, 0, [], hcs, Rd.nil _ _ _ _ (by simp [maxLen]), by simp⟩
  · have hz : l ≤ zs.length := by rw [hz]; split <;> omega
    refine ⟨some x, l, c, zs.take l, hcs, ⟨by rw [List.length_take]; omega, hl, hm, fun hn => ⟨x, rfl, fun j hj => ?_⟩⟩, fun n hn => hwz n (List.mem_of_mem_take hn)⟩
    rw [hcell j (by omega)]
    congr 2
    simp only [nth, List.getD_eq_getElem?_getD]
    rw [List.getElem?_take_of_lt hj]
theorem parts1 {t e b : TypeId} {fuel : Nat} {cs : List Value} {x : DataW H × List MemPlace}
    (ht : P.underlying t = some (.slice e)) (he : P.underlying e = some (.slice b)) (hb : P.underlying b = some (.int .u8)) (hc : P.cellsOf b = 1) (hce : P.cellsOf e = 1) (h : DataW.trod enc P W base spare held fuel t cs = some x) :
    ∃ A n c ctx, cs = [.slice A n c] ∧ RdP W A n c ctx ∧ ∀ p ∈ ctx, ∀ i ∈ p, (Lit.int .u8 i).wf = true := by
  rcases open_slice ht h with ⟨hcs, _⟩ | ⟨a', len, cap, m, n, D, Pl, hcs, hbl, hl, hm, hmm, hx, hi⟩
  · exact ⟨none, 0, 0, [], hcs, ⟨rfl, Nat.le_refl _, by simp [maxLen], fun h => by omega⟩, by simp⟩
  · have hz : len ≤ m := by rw [hmm]; split <;> omega
    have each : ∀ j, j < len → ∃ y : List Int, (∃ Aj cj, W.cell? (a'.add j) = some (.slice Aj y.length cj) ∧ Rd .u8 W Aj y.length cj y) ∧ ∀ n ∈ y, (Lit.int .u8 n).wf = true := fun j hj => by
      obtain ⟨cs', hc', ht'⟩ := hi j (by omega)
      rw [hce, Nat.mul_one] at hc'
      obtain ⟨Aj, lj, cj, y, e1, hr, hw⟩ := ints1 he hb hc ht'
      obtain ⟨_, hcl, hat⟩ := World.cells?_some hc'
      have h0 := hat 0 (by omega)
      rw [e1, Go.Deep.add_add] at h0
      have hl := hr.len
      subst hl
      exact ⟨y, ⟨Aj, cj, by simpa using h0, hr⟩, hw⟩
    refine ⟨some a', len, cap, (List.range len).map fun j => if hj : j < len then (each j hj).choose else [], hcs, ⟨by simp, hl, hm, fun h0 => ⟨a', rfl, fun j hj => ?_⟩⟩, fun p hp i hip => ?_⟩
    · have hn : nthP ((List.range len).map fun j => if hj : j < len then (each j hj).choose else []) j = (each j hj).choose := by
        simp [nthP, List.getD_eq_getElem?_getD, hj]
      rw [hn]
      exact (each j hj).choose_spec.1
    · obtain ⟨j, hj, rfl⟩ := List.mem_map.1 hp
      have hj' : j < len := by simpa using hj
      rw [dif_pos hj'] at hip
      exact (each j hj').choose_spec.2 i hip
/-- a parameter: a slice of slices of bytes -/
theorem parts {t e b : TypeId} {a : Option Addr} {len cap : Nat} {d : DataW H} {ps : List MemPlace}
    (ht : P.underlying t = some (.slice e)) (he : P.underlying e = some (.slice b)) (hb : P.underlying b = some (.int .u8)) (hc : P.cellsOf b = 1) (hce : P.cellsOf e = 1) (h : DataW.Trod enc P W base spare held t (.slice a len cap) d ps) :
    ∃ ctx, RdP W a len cap ctx ∧ ∀ p ∈ ctx, ∀ i ∈ p, (Lit.int .u8 i).wf = true := by
  obtain ⟨fuel, hf⟩ := h
  obtain ⟨A, n, c, ctx, e1, r, g⟩ := parts1 ht he hb hc hce hf
  have e2 : (Value.slice a len cap) = .slice A n c := by
    have : (Value.slice a len cap).cells.toList = [Value.slice a len cap] := rfl
    rw [this] at e1
    injection e1
  cases e2
  exact ⟨ctx, r, g⟩
/-- a slice of bytes, a string, a number, a slice of slices of bytes -/
theorem ask {r : Reach} {b0 : Nat} {t e1 e2 e3 : TypeId} {f0 f1 f2 f3 : Field} {v : Value} {d : DataW H} {p : List MemPlace} (hs : P.underlying t = some (.struct #[f0, f1, f2, f3])) (hone : oneCellFields P #[f0, f1, f2, f3] = true) (hC : P.cellsOf t = 4)
    (h0 : P.underlying f0.type = some (.slice e1)) (hb : P.underlying e1 = some (.int .u8)) (hc : P.cellsOf e1 = 1) (h1 : P.underlying f1.type = some .string) (h2 : P.underlying f2.type = some (.int .i64))
    (h3 : P.underlying f3.type = some (.slice e2)) (h4 : P.underlying e2 = some (.slice e3)) (h5 : P.underlying e3 = some (.int .u8)) (h6 : P.cellsOf e3 = 1) (h7 : P.cellsOf e2 = 1)
    (hv : Value.okWide P W r b0 t v) (h : DataW.Trod enc P W base spare held t v d p) :
    ∃ A s c key nm n Pp np cp ctx, v = .agg #[.slice A s c, .string nm, .int .i64 n, .slice Pp np cp] ∧ Rd .u8 W A s c key ∧ (∀ i ∈ key, (Lit.int .u8 i).wf = true) ∧ RdP W Pp np cp ctx ∧ ∀ q ∈ ctx, ∀ i ∈ q, (Lit.int .u8 i).wf = true := by
  obtain ⟨v0, v1, v2, v3, y0, y1, y2, y3, n, rfl, _, _, k0, k1, k2, k3⟩ := open_agg4 hs hone hC hv h
  obtain ⟨A, s, c, key, q0, r0, g0⟩ := ints1 h0 hb hc k0
  obtain ⟨nm, q1, _, _⟩ := DataW.trod_string h1 k1
  obtain ⟨m, q2, _, _⟩ := DataW.trod_int h2 k2
  obtain ⟨Pp, np, cp, ctx, q3, r3, g3⟩ := parts1 h3 h4 h5 h6 h7 k3
  injection q0 with q0
  injection q1 with q1
  injection q2 with q2
  injection q3 with q3
  subst q0 q1 q2 q3
  exact ⟨A, s, c, key, nm, m, Pp, np, cp, ctx, rfl, r0, g0, r3, g3⟩
end
end Go.Proofs.Yteajblfkfmopfaa.Lift
namespace Go.Proofs.Yteajblfkfmopfaa.Lift
set_option linter.unusedVariables false
set_option linter.unusedSimpArgs false
open Go Go.RowKit Go.ChangeShapes Go.WideShapes Go.ChangeAt Go.Deep Go.Joins Go.Proofs.Yteajblfkfmopfaa.Mem Go.Proofs.Yteajblfkfmopfaa.Sum
section
variable {H : Type} {enc : TypeId × Value → H} {P : Program} {W : World} {base : Nat} {spare : Nat → Bool} {held : Bool}
/-- four numbers -/
theorem geom {r : Reach} {b0 : Nat} {t : TypeId} {f0 f1 f2 f3 : Field} {v : Value} {d : DataW H} {p : List MemPlace} (hs : P.underlying t = some (.struct #[f0, f1, f2, f3])) (hone : oneCellFields P #[f0, f1, f2, f3] = true) (hC : P.cellsOf t = 4)
    (h0 : P.underlying f0.type = some (.int .i64)) (h1 : P.underlying f1.type = some (.int .i64)) (h2 : P.underlying f2.type = some (.int .i64)) (h3 : P.underlying f3.type = some (.int .i64))
    (hv : Value.okWide P W r b0 t v) (h : DataW.Trod enc P W base spare held t v d p) :
    ∃ a b c e : Int, v = .agg #[.int .i64 a, .int .i64 b, .int .i64 c, .int .i64 e] := by
  obtain ⟨v0, v1, v2, v3, y0, y1, y2, y3, n, rfl, _, _, k0, k1, k2, k3⟩ := open_agg4 hs hone hC hv h
  obtain ⟨m0, q0, _, _⟩ := DataW.trod_int h0 k0
  obtain ⟨m1, q1, _, _⟩ := DataW.trod_int h1 k1
  obtain ⟨m2, q2, _, _⟩ := DataW.trod_int h2 k2
  obtain ⟨m3, q3, _, _⟩ := DataW.trod_int h3 k3
  injection q0 with q0
  injection q1 with q1
  injection q2 with q2
  injection q3 with q3
  subst q0 q1 q2 q3
  exact ⟨m0, m1, m2, m3, rfl⟩
end
end Go.Proofs.Yteajblfkfmopfaa.Lift
