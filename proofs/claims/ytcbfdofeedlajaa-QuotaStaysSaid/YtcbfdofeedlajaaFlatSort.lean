/- Slices of flat structs, sorted. -/
import Derived.Test.YtcbfdofeedlajaaFlat
import Derived.Shelf.SlSortCmp.WholeK
namespace Go.Proofs.Ytcbfdofeedlajaa.Flat
set_option linter.unusedVariables false
set_option linter.unusedSimpArgs false
open Go Go.RowKit Go.Sort Go.Proofs.Ytcbfdofeedlajaa.Mem
variable {α : Type} [Inhabited α] {row : α → List Value} {m : Nat}
/-! ### sorted -/
theorem toArray_get (ts : List α) (i : Nat) : ts.toArray[i]! = nthT ts i := by
  by_cases h : i < ts.length
  · rw [getElem!_pos ts.toArray i (by simpa using h), nthT_get _ _ h]; simp
  · rw [getElem!_neg ts.toArray i (by simpa using h)]
    unfold nthT
    rw [List.getD_eq_getElem?_getD, List.getElem?_eq_none (by omega)]
    rfl
theorem own_holds (hm : ∀ x, (row x).length = m) {w : World} {base n g c : Nat} {e : TypeId} {ts : List α} (h : w.ownsRow base e m (.slice (some ⟨g, 0, none⟩) n c) n (ts.flatMap row)) (hl : ts.length = n) : HoldsK row m w g 0 ts.toArray := by
  intro t ht
  have ht' : t < n * m := by rw [size_flatK] at ht; simpa [hl] using ht
  rw [Nat.zero_add]
  refine ⟨?_, h.frozenAt t⟩
  rw [h.cellAt t ht', get_flatK _ _ _ _ (by simpa [hl] using ht'), toArray_get]
  have hm0 : 0 < m := by
    rcases Nat.eq_zero_or_pos m with h0 | h0
    · subst h0; omega
    · exact h0
  have hi : t % m < (row (nthT ts (t / m))).length := by rw [hm]; exact Nat.mod_lt _ hm0
  have hj : t / m < ts.length := by rw [hl]; exact Nat.div_lt_of_lt_mul (by rwa [Nat.mul_comm])
  have := flat_of hm ts (t / m) (t % m) _ hj (List.getElem?_eq_getElem hi)
  rw [show t / m * m + t % m = t by rw [Nat.mul_comm]; exact Nat.div_add_mod t m] at this
  rw [this, getElem!_pos (row (nthT ts (t / m))) _ hi]
  rfl
theorem sorted_below {w : World} {g q : Nat} {d' : Array α} {os : Array Obj} {B : Nat} (hB : B ≤ g) (hg : g < w.heap.size) : Below B w (sortWorldK row m w g 0 q d' os) := by
  refine ⟨rfl, rfl, rfl, ?_, fun k hk => ?_⟩
  · unfold sortWorldK putRowK
    rw [size_grow, size_putRow]
    show w.heap.size ≤ w.heap.size + _
    omega
  · unfold sortWorldK
    rw [heap_grow_old _ _ (by unfold putRowK; rw [size_putRow]; show k < w.heap.size; omega)]
    unfold putRowK putRow mapBlock
    simp only [Array.getElem?_modify]
    rw [if_neg (by omega)]
    rfl
theorem sorted_rd (hm : ∀ x, (row x).length = m) {w : World} {g q n c : Nat} {d d' : Array α} {os : Array Obj} (hH : HoldsK row m w g 0 d) (hg : g < w.heap.size) (hs : d'.size = d.size) (hn : d'.size = n) (hc : n ≤ c) (hcm : c ≤ maxLen) :
    RdT row m (sortWorldK row m w g 0 q d' os) (some ⟨g, 0, none⟩) n c d'.toList := by
  have h2 : HoldsK row m (sortWorldK row m w g 0 q d' os) g 0 d' := by
    unfold sortWorldK
    refine holdsK_grow row m _ os g 0 d' (by unfold putRowK; rw [size_putRow]; exact hg) ?_
    exact holdsK_putRowK row m _ g 0 d d' (holdsK_ahead row m w q g 0 d hH) hs
  refine ⟨by simpa using hn, hc, hcm, fun _ => ⟨_, rfl, fun j hj i v hv => ?_⟩⟩
  have hi : i < m := by rw [← hm (nthT d'.toList j)]; exact (List.getElem?_eq_some_iff.1 hv).1
  have h3 := (h2.cell (i := j) (c := i) (by omega) hi).1
  rw [add0]
  rw [Nat.zero_add] at h3
  rw [h3, ← toArray_get d'.toList j] at *
  rw [show d'.toList.toArray = d' by simp] at hv
  rw [getElem!_pos (row d'[j]!) i (by rw [hm]; exact hi)]
  rw [List.getElem?_eq_getElem (by rw [hm]; exact hi)] at hv
  exact hv
end Go.Proofs.Ytcbfdofeedlajaa.Flat
