/- From a row's data to what a walk reads: steps (numbers, and a tenant). -/
import Derived.Test.YtcbfdofeedlajaaLiftT
namespace Go.Proofs.Ytcbfdofeedlajaa.LiftT
set_option linter.unusedVariables false
set_option linter.unusedSimpArgs false
open Go Go.RowKit Go.ChangeShapes Go.WideShapes Go.ChangeAt Go.Deep Go.Joins Go.Proofs.Ytcbfdofeedlajaa.Mem Go.Proofs.Ytcbfdofeedlajaa.Flat Go.Proofs.Ytcbfdofeedlajaa.QuotaP

structure Sp where
  kind : Int
  id : Int
  by_ : Int
  t : Tn
instance : Inhabited Sp := ⟨⟨0, 0, 0, default⟩⟩
def Sp.row (s : Sp) : List Value := .int .i64 s.kind :: .int .i64 s.id :: .int .i64 s.by_ :: s.t.row
theorem sp_len (s : Sp) : s.row.length = 38 := by simp [Sp.row, row_len]
theorem sp_one (s : Sp) : ∀ v ∈ s.row, v.oneCell' = true := by
  intro v hv
  simp only [Sp.row, List.mem_cons] at hv
  rcases hv with rfl | rfl | rfl | hv
  · rfl
  · rfl
  · rfl
  · exact row_one _ v hv
section
variable {H : Type} {enc : TypeId × Value → H} {P : Program} {W : World} {base : Nat} {spare : Nat → Bool} {held : Bool}
/-- a slice of flat structs: each element by its own lemma -/
theorem flats {α : Type} [Inhabited α] {row : α → List Value} {m : Nat} (hm : ∀ x, (row x).length = m) {t e : TypeId} {a : Option Addr} {len cap : Nat} {d : DataW H} {ps : List MemPlace}
    (ht : P.underlying t = some (.slice e)) (hC : P.cellsOf e = m)
    (each0 : ∀ (fuel : Nat) (cs : List Value) (x : DataW H × List MemPlace), cs.length = m → DataW.trod enc P W base spare held fuel e cs = some x → ∃ t : α, cs = row t)
    (h : DataW.Trod enc P W base spare held t (.slice a len cap) d ps) : ∃ ts : List α, RdT row m W a len cap ts := by
  obtain ⟨fuel, hf⟩ := h
  rcases open_slice ht hf with ⟨hcs, _⟩ | ⟨a', l', c', m', n, D, Pl, hcs, hbl, hl, hm1, hmm, hx, hi⟩
  · simp [Value.cells] at hcs
    obtain ⟨rfl, rfl, rfl⟩ := hcs
    exact ⟨[], RdT.nil _ _ _ _ _ (by decide)⟩
  · simp [Value.cells] at hcs
    obtain ⟨rfl, rfl, rfl⟩ := hcs
    have hz : len ≤ m' := by rw [hmm]; split <;> omega
    have each : ∀ j, j < len → ∃ t : α, ∀ i v, (row t)[i]? = some v → W.cell? (a'.add (j * m + i)) = some v := fun j hj => by
      obtain ⟨cs', hc, ht'⟩ := hi j (by omega)
      rw [hC] at hc
      obtain ⟨_, hcl, hat⟩ := World.cells?_some hc
      obtain ⟨t, rfl⟩ := each0 _ cs' _ (by omega) ht'
      refine ⟨t, fun i v hv => ?_⟩
      have hil : i < m := by
        have := (List.getElem?_eq_some_iff.1 hv).1
        rw [hm] at this
        exact this
      have := hat i hil
      rw [← Go.Deep.add_add, this, hv]
    refine ⟨(List.range len).map fun j => if hj : j < len then (each j hj).choose else default, by simp, hl, hm1, fun hn => ⟨a', rfl, fun j hj i v hv => ?_⟩⟩
    have hn : nthT ((List.range len).map fun j => if hj : j < len then (each j hj).choose else default) j = (each j hj).choose := by
      simp [nthT, List.getD_eq_getElem?_getD, hj]
    rw [hn] at hv
    exact (each j hj).choose_spec i v hv
theorem step_cells {e : TypeId} {g0 g1 g2 g3 : Field} {b : TypeId} {f0 f1 f2 f3 : Field} {fuel : Nat} {cs : List Value} {x : DataW H × List MemPlace} (he : P.underlying e = some (.struct #[g0, g1, g2, g3]))
    (p0 : g0.offset = 0) (p1 : g1.offset = 1) (p2 : g2.offset = 2) (p3 : g3.offset = 3) (k0 : P.cellsOf g0.type = 1) (k1 : P.cellsOf g1.type = 1) (k2 : P.cellsOf g2.type = 1) (k3 : P.cellsOf g3.type = 35)
    (i0 : P.underlying g0.type = some (.int .i64)) (i1 : P.underlying g1.type = some (.int .i64)) (i2 : P.underlying g2.type = some (.int .i64)) (he3 : P.underlying g3.type = some (.struct #[f0, f1, f2, f3]))
    (o0 : f0.offset = 0) (o1 : f1.offset = 1) (o2 : f2.offset = 2) (o3 : f3.offset = 3) (c0 : P.cellsOf f0.type = 1) (c1 : P.cellsOf f1.type = 1) (c2 : P.cellsOf f2.type = 1) (c3 : P.cellsOf f3.type = 32)
    (h0 : P.underlying f0.type = some (.int .i64)) (h1 : P.underlying f1.type = some (.int .i64)) (h2 : P.underlying f2.type = some (.int .i64)) (h3 : P.underlying f3.type = some (.array 32 b)) (hb : P.underlying b = some (.int .u8)) (hcb : P.cellsOf b = 1)
    (hl : cs.length = 38) (h : DataW.trod enc P W base spare held fuel e cs = some x) : ∃ s : Sp, cs = s.row := by
  obtain ⟨ys, n', hn', hy, hlen, hyl, hff⟩ := DataW.trod_struct he h
  have get : ∀ (i : Nat) (f : Field), (#[g0, g1, g2, g3] : Array Field)[i]? = some f → ∃ y, DataW.trod enc P W base spare held n' f.type ((cs.drop f.offset).take (P.cellsOf f.type)) = some y := fun i f hif => by
    have h4 := hff i f hif
    have hi : i < ys.length := by
      have := (Array.getElem?_eq_some_iff.1 hif).1
      omega
    rw [List.getElem?_eq_getElem hi] at h4
    exact ⟨_, h4⟩
  obtain ⟨y0, j0⟩ := get 0 g0 rfl
  obtain ⟨y1, j1⟩ := get 1 g1 rfl
  obtain ⟨y2, j2⟩ := get 2 g2 rfl
  obtain ⟨y3, j3⟩ := get 3 g3 rfl
  rw [p0, k0] at j0
  rw [p1, k1] at j1
  rw [p2, k2] at j2
  rw [p3, k3] at j3
  obtain ⟨m0, q0, _, _⟩ := DataW.trod_int i0 j0
  obtain ⟨m1, q1, _, _⟩ := DataW.trod_int i1 j1
  obtain ⟨m2, q2, _, _⟩ := DataW.trod_int i2 j2
  obtain ⟨t, ht⟩ := ten_cells he3 o0 o1 o2 o3 c0 c1 c2 c3 h0 h1 h2 h3 hb hcb (by rw [List.length_take, List.length_drop]; omega) j3
  have r0 := one_at q0
  have r1 := one_at q1
  have r2 := one_at q2
  refine ⟨⟨m0, m1, m2, t⟩, ?_⟩
  have hd : cs.drop 3 = t.row := by
    rw [← ht, List.take_of_length_le (by rw [List.length_drop]; omega)]
  match cs, hl with
  | a :: b :: c :: r, _ =>
    simp at r0 r1 r2 hd
    rw [r0, r1, r2, hd]
    rfl
theorem ten1 {r : Reach} {b0 : Nat} {e b : TypeId} {f0 f1 f2 f3 : Field} {v : Value} {d : DataW H} {p : List MemPlace} (he : P.underlying e = some (.struct #[f0, f1, f2, f3])) (hC : P.cellsOf e = 35)
    (o0 : f0.offset = 0) (o1 : f1.offset = 1) (o2 : f2.offset = 2) (o3 : f3.offset = 3) (c0 : P.cellsOf f0.type = 1) (c1 : P.cellsOf f1.type = 1) (c2 : P.cellsOf f2.type = 1) (c3 : P.cellsOf f3.type = 32)
    (h0 : P.underlying f0.type = some (.int .i64)) (h1 : P.underlying f1.type = some (.int .i64)) (h2 : P.underlying f2.type = some (.int .i64)) (h3 : P.underlying f3.type = some (.array 32 b)) (hb : P.underlying b = some (.int .u8)) (hcb : P.cellsOf b = 1)
    (hv : Value.okWide P W r b0 e v) (h : DataW.Trod enc P W base spare held e v d p) : ∃ t : Tn, v = .agg t.row.toArray := by
  simp only [Value.okWide, he] at hv
  obtain ⟨cs, rfl, _⟩ := hv
  obtain ⟨fuel, hf⟩ := h
  have hf2 : DataW.trod enc P W base spare held fuel e cs.toList = some (d, p) := hf
  obtain ⟨_, _, _, _, hlen, _, _⟩ := DataW.trod_struct he hf2
  obtain ⟨t, ht⟩ := ten_cells he o0 o1 o2 o3 c0 c1 c2 c3 h0 h1 h2 h3 hb hcb (by rw [hlen, hC]) hf2
  exact ⟨t, by rw [← ht]⟩
end
end Go.Proofs.Ytcbfdofeedlajaa.LiftT
