/- arrays of bytes that are filled from the left. -/
import Derived.Test.YtjcofbjfolaoiaaEqArr
namespace Go.Proofs.Ytjcofbjfolaoiaa.Mem
set_option linter.unusedVariables false
set_option linter.unusedSimpArgs false
open Go Go.RowKit
/-- bytes as an array's cells -/
def bytesA (L : List Int) : Array Value := (L.map (Value.int .u8)).toArray
theorem bytesA_size (L : List Int) : (bytesA L).size = L.length := by simp [bytesA]
theorem bytesA_one (L : List Int) : (bytesA L).all (·.oneCell') = true := by
  unfold bytesA
  rw [List.all_toArray, List.all_eq_true]
  intro v hv
  obtain ⟨i, _, rfl⟩ := List.mem_map.1 hv
  rfl
theorem bytesA_at (L : List Int) (j : Nat) (h : j < L.length) : (bytesA L)[j]? = some (.int .u8 (nth L j)) := by
  simp [bytesA, nth_getD, List.getD_eq_getElem?_getD, h]
/-- the first i of L, noughts behind -/
def fill (L : List Int) (n i : Nat) : List Int := L.take i ++ List.replicate (n - i) 0
theorem fill_len (L : List Int) (n i : Nat) (hl : L.length = n) (h : i ≤ n) : (fill L n i).length = n := by
  unfold fill
  rw [List.length_append, List.length_take, List.length_replicate]; omega
theorem fill_zero (L : List Int) (n : Nat) : fill L n 0 = List.replicate n 0 := by simp [fill]
theorem fill_all (L : List Int) (n : Nat) (hl : L.length = n) : fill L n n = L := by
  unfold fill
  rw [← hl, List.take_length, Nat.sub_self]; simp
theorem fill_set (L : List Int) (n i : Nat) (hl : L.length = n) (h : i < n) : (bytesA (fill L n i)).setIfInBounds i (.int .u8 (nth L i)) = bytesA (fill L n (i + 1)) := by
  unfold bytesA
  rw [List.setIfInBounds_toArray, ← List.map_set]
  congr 2
  unfold fill
  rw [List.set_append_right _ _ (by rw [List.length_take]; omega), List.length_take, show i - min i L.length = 0 by omega, show n - i = (n - (i + 1)) + 1 by omega, List.replicate_succ, List.set_cons_zero, List.take_add_one, List.append_assoc]
  congr 1
  have : L[i]? = some (nth L i) := by simp [nth_getD, List.getD_eq_getElem?_getD, show i < L.length by omega]
  rw [this]
  rfl
theorem run_eq_bytes {P : Program} (w : World) (t e : TypeId) (n : Nat) (ht : P.underlying t = some (.array n e)) (he : P.underlying e = some (.int .u8)) (hsz : (P.info? e).map (·.size) = some 1)
    (x : List Int) (hx : ∀ i ∈ x, 0 ≤ i ∧ i < 256) (lx : x.length = n) : (Op.equalIn 10000 t (.agg (bytesA x)) (.agg (bytesA x))).run P w = .ok true w := by
  have h := run_eq_ints (P := P) w t e n ht he hsz x x hx hx lx lx
  rw [decide_eq_true rfl] at h
  exact h
end Go.Proofs.Ytjcofbjfolaoiaa.Mem
