/- From a row's data to what a walk reads: tenants. -/
import Derived.Test.YtcbfdofeedlajaaLift
import Derived.Deep.Slices
import Derived.Deep.Fields
import Derived.ChangeSame
import Derived.Lib.SmallJoins
import Derived.Test.YtcbfdofeedlajaaQuotaP
namespace Go.Proofs.Ytcbfdofeedlajaa.LiftT
set_option linter.unusedVariables false
set_option linter.unusedSimpArgs false
open Go Go.RowKit Go.ChangeShapes Go.WideShapes Go.ChangeAt Go.Deep Go.Joins Go.Proofs.Ytcbfdofeedlajaa.Mem Go.Proofs.Ytcbfdofeedlajaa.Flat Go.Proofs.Ytcbfdofeedlajaa.QuotaP
section
variable {H : Type} {enc : TypeId × Value → H} {P : Program} {W : World} {base : Nat} {spare : Nat → Bool} {held : Bool}
theorem one_at {cs : List Value} {o : Nat} {m : Int} (h : (cs.drop o).take 1 = [.int .i64 m]) : cs[o]? = some (.int .i64 m) := by
  have : ((cs.drop o).take 1)[0]? = some (.int .i64 m) := by rw [h]; rfl
  rw [List.getElem?_take, if_pos (by omega), List.getElem?_drop] at this
  simpa using this
theorem bytes_at {t e : TypeId} {n fuel : Nat} {cs : List Value} {x : DataW H × List MemPlace} (hu : P.underlying t = some (.array n e)) (he : P.underlying e = some (.int .u8)) (hc : P.cellsOf e = 1)
    (hl : cs.length = n) (h : DataW.trod enc P W base spare held fuel t cs = some x) : ∀ j, j < n → ∃ i, cs[j]? = some (.int .u8 i) := by
  obtain ⟨xs, m, _, _, hlx, hx, hi⟩ := DataW.trod_array hu h
  intro j hj
  have h1 := hi j (by omega)
  rw [hc, Nat.mul_one] at h1
  have hjx : j < xs.length := by omega
  rw [List.getElem?_eq_getElem hjx] at h1
  obtain ⟨i, h2, _, _⟩ := DataW.trod_int he h1
  refine ⟨i, ?_⟩
  have h4 : ((cs.drop j).take 1)[0]? = some (.int .u8 i) := by rw [h2]; rfl
  rw [List.getElem?_take, if_pos (by omega), List.getElem?_drop] at h4
  simpa using h4
theorem ten_cells {e b : TypeId} {f0 f1 f2 f3 : Field} {fuel : Nat} {cs : List Value} {x : DataW H × List MemPlace} (he : P.underlying e = some (.struct #[f0, f1, f2, f3]))
    (o0 : f0.offset = 0) (o1 : f1.offset = 1) (o2 : f2.offset = 2) (o3 : f3.offset = 3) (c0 : P.cellsOf f0.type = 1) (c1 : P.cellsOf f1.type = 1) (c2 : P.cellsOf f2.type = 1) (c3 : P.cellsOf f3.type = 32)
    (h0 : P.underlying f0.type = some (.int .i64)) (h1 : P.underlying f1.type = some (.int .i64)) (h2 : P.underlying f2.type = some (.int .i64)) (h3 : P.underlying f3.type = some (.array 32 b)) (hb : P.underlying b = some (.int .u8)) (hcb : P.cellsOf b = 1)
    (hl : cs.length = 35) (h : DataW.trod enc P W base spare held fuel e cs = some x) : ∃ t : Tn, cs = t.row := by
  obtain ⟨ys, n', hn', hy, hlen, hyl, hff⟩ := DataW.trod_struct he h
  have get : ∀ (i : Nat) (f : Field), (#[f0, f1, f2, f3] : Array Field)[i]? = some f → ∃ y, DataW.trod enc P W base spare held n' f.type ((cs.drop f.offset).take (P.cellsOf f.type)) = some y := fun i f hif => by
    have h4 := hff i f hif
    have hi : i < ys.length := by
      have := (Array.getElem?_eq_some_iff.1 hif).1
      omega
    rw [List.getElem?_eq_getElem hi] at h4
    exact ⟨_, h4⟩
  obtain ⟨y0, k0⟩ := get 0 f0 rfl
  obtain ⟨y1, k1⟩ := get 1 f1 rfl
  obtain ⟨y2, k2⟩ := get 2 f2 rfl
  obtain ⟨y3, k3⟩ := get 3 f3 rfl
  rw [o0, c0] at k0
  rw [o1, c1] at k1
  rw [o2, c2] at k2
  rw [o3, c3] at k3
  obtain ⟨m0, q0, _, _⟩ := DataW.trod_int h0 k0
  obtain ⟨m1, q1, _, _⟩ := DataW.trod_int h1 k1
  obtain ⟨m2, q2, _, _⟩ := DataW.trod_int h2 k2
  have q3 := bytes_at h3 hb hcb (by rw [List.length_take, List.length_drop]; omega) k3
  have r0 := one_at q0
  have r1 := one_at q1
  have r2 := one_at q2
  have r3 : ∀ j, j < 32 → ∃ i, cs[3 + j]? = some (.int .u8 i) := fun j hj => by
    obtain ⟨i, h5⟩ := q3 j hj
    rw [List.getElem?_take, if_pos hj, List.getElem?_drop] at h5
    exact ⟨i, h5⟩
  refine ⟨⟨m0, m1, m2, fun j => match cs[3 + j]? with | some (.int _ v) => v | _ => 0⟩, ?_⟩
  refine List.ext_getElem? fun i => ?_
  match i with
  | 0 => rw [r0]; rfl
  | 1 => rw [r1]; rfl
  | 2 => rw [r2]; rfl
  | i + 3 =>
    show _ = (ckV _)[i]?
    by_cases hi : i < 32
    · obtain ⟨v, h5⟩ := r3 i hi
      rw [show i + 3 = 3 + i by omega, h5]
      unfold ckV
      rw [List.getElem?_map, List.getElem?_range hi]
      simp only [Option.map_some, h5]
    · rw [List.getElem?_eq_none (by omega), List.getElem?_eq_none (by rw [ckV_len]; omega)]
theorem tens {t e b : TypeId} {f0 f1 f2 f3 : Field} {a : Option Addr} {len cap : Nat} {d : DataW H} {ps : List MemPlace}
    (ht : P.underlying t = some (.slice e)) (hC : P.cellsOf e = 35) (he : P.underlying e = some (.struct #[f0, f1, f2, f3]))
    (o0 : f0.offset = 0) (o1 : f1.offset = 1) (o2 : f2.offset = 2) (o3 : f3.offset = 3) (c0 : P.cellsOf f0.type = 1) (c1 : P.cellsOf f1.type = 1) (c2 : P.cellsOf f2.type = 1) (c3 : P.cellsOf f3.type = 32)
    (h0 : P.underlying f0.type = some (.int .i64)) (h1 : P.underlying f1.type = some (.int .i64)) (h2 : P.underlying f2.type = some (.int .i64)) (h3 : P.underlying f3.type = some (.array 32 b)) (hb : P.underlying b = some (.int .u8)) (hcb : P.cellsOf b = 1)
    (h : DataW.Trod enc P W base spare held t (.slice a len cap) d ps) : ∃ ts : List Tn, RdT Tn.row 35 W a len cap ts := by
  obtain ⟨fuel, hf⟩ := h
  rcases open_slice ht hf with ⟨hcs, _⟩ | ⟨a', l', c', m, n, D, Pl, hcs, hbl, hl, hm, hmm, hx, hi⟩
  · simp [Value.cells] at hcs
    obtain ⟨rfl, rfl, rfl⟩ := hcs
    exact ⟨[], RdT.nil _ _ _ _ _ (by decide)⟩
  · simp [Value.cells] at hcs
    obtain ⟨rfl, rfl, rfl⟩ := hcs
    have hz : len ≤ m := by rw [hmm]; split <;> omega
    have each : ∀ j, j < len → ∃ t : Tn, ∀ i v, t.row[i]? = some v → W.cell? (a'.add (j * 35 + i)) = some v := fun j hj => by
      obtain ⟨cs', hc, ht'⟩ := hi j (by omega)
      rw [hC] at hc
      obtain ⟨_, hcl, hat⟩ := World.cells?_some hc
      obtain ⟨t, rfl⟩ := ten_cells he o0 o1 o2 o3 c0 c1 c2 c3 h0 h1 h2 h3 hb hcb (by omega) ht'
      refine ⟨t, fun i v hv => ?_⟩
      have hil : i < 35 := by
        have := (List.getElem?_eq_some_iff.1 hv).1
        rw [row_len] at this
        exact this
      have := hat i hil
      rw [← Go.Deep.add_add, this, hv]
    refine ⟨(List.range len).map fun j => if hj : j < len then (each j hj).choose else default, by simp, hl, hm, fun hn => ⟨a', rfl, fun j hj i v hv => ?_⟩⟩
    have hn : nthT ((List.range len).map fun j => if hj : j < len then (each j hj).choose else default) j = (each j hj).choose := by
      simp [nthT, List.getD_eq_getElem?_getD, hj]
    rw [hn] at hv
    exact (each j hj).choose_spec i v hv
end
end Go.Proofs.Ytcbfdofeedlajaa.LiftT
