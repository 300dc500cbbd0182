/- two arrays of bytes, compared. arrays of bytes that are filled from the left. -/
import Derived.Test.YteajblfkfmopfaaMem3
import Derived.Stop.BytesEq
namespace Go.Proofs.Yteajblfkfmopfaa.Mem
set_option linter.unusedVariables false
set_option linter.unusedSimpArgs false
open Go Go.RowKit
def toU (i : Int) : UInt8 := UInt8.ofNat i.toNat
theorem toU_nat (i : Int) (h : 0 ≤ i ∧ i < 256) : ((toU i).toNat : Int) = i := by
  unfold toU
  rw [UInt8.toNat_ofNat']
  omega
theorem cells_toU (x : List Int) (hx : ∀ y ∈ x, 0 ≤ y ∧ y < 256) : x.map (Value.int .u8) = (x.map toU).map Extern.Stop.cell := by
  rw [List.map_map]
  refine List.map_congr_left fun i hi => ?_
  show Value.int .u8 i = Value.int .u8 ((toU i).toNat : Int)
  rw [toU_nat i (hx i hi)]
theorem toU_inj : ∀ (x y : List Int), (∀ i ∈ x, 0 ≤ i ∧ i < 256) → (∀ i ∈ y, 0 ≤ i ∧ i < 256) → (x.map toU == y.map toU) = decide (x = y)
  | [], [], _, _ => by simp
  | [], _ :: _, _, _ => by simp
  | _ :: _, [], _, _ => by simp
  | a :: x, b :: y, hx, hy => by
    have ih := toU_inj x y (fun i hi => hx i (List.mem_cons_of_mem _ hi)) (fun i hi => hy i (List.mem_cons_of_mem _ hi))
    have ha := toU_nat a (hx a List.mem_cons_self)
    have hb := toU_nat b (hy b List.mem_cons_self)
    rw [List.map_cons, List.map_cons, List.cons_beq_cons, ih]
    by_cases e : a = b
    · subst e; simp
    · have e' : ¬ toU a = toU b := fun h => e (by rw [← ha, ← hb, h])
      simp [e, e']
theorem run_eq_ints {P : Program} (w : World) (t e : TypeId) (n : Nat) (ht : P.underlying t = some (.array n e)) (he : P.underlying e = some (.int .u8)) (hsz : (P.info? e).map (·.size) = some 1)
    (x y : List Int) (hx : ∀ i ∈ x, 0 ≤ i ∧ i < 256) (hy : ∀ i ∈ y, 0 ≤ i ∧ i < 256) (lx : x.length = n) (ly : y.length = n) :
    (Op.equalIn 10000 t (.agg (x.map (Value.int .u8)).toArray) (.agg (y.map (Value.int .u8)).toArray)).run P w = .ok (decide (x = y)) w := by
  obtain ⟨i, hi, h1⟩ := Option.map_eq_some_iff.1 hsz
  rw [cells_toU x hx, cells_toU y hy, ← toU_inj x y hx hy]
  exact run_equalIn_bytes w 9998 t e n ht he (fun w => by simp [sizeOf, typeInfo, hi, h1]) _ _ (by simpa using lx) (by simpa using ly)
end Go.Proofs.Yteajblfkfmopfaa.Mem
namespace Go.Proofs.Yteajblfkfmopfaa.Mem
set_option linter.unusedVariables false
set_option linter.unusedSimpArgs false
open Go Go.RowKit
/-- bytes as an array's cells -/
def bytesA (L : List Int) : Array Value := (L.map (Value.int .u8)).toArray
theorem bytesA_size (L : List Int) : (bytesA L).size = L.length := by simp [bytesA]
theorem bytesA_one (L : List Int) : (bytesA L).all (·.oneCell') = true := by
  unfold bytesA
  rw [List.all_toArray, List.all_eq_true]
  intro v hv
  obtain ⟨i, _, rfl⟩ := List.mem_map.1 hv
  rfl
theorem bytesA_at (L : List Int) (j : Nat) (h : j < L.length) : (bytesA L)[j]? = some (.int .u8 (nth L j)) := by
  simp [bytesA, nth_getD, List.getD_eq_getElem?_getD, h]
/-- the first i of L, noughts behind -/
def fill (L : List Int) (n i : Nat) : List Int := L.take i ++ List.replicate (n - i) 0
theorem fill_len (L : List Int) (n i : Nat) (hl : L.length = n) (h : i ≤ n) : (fill L n i).length = n := by
  unfold fill
  rw [List.length_append, List.length_take, List.length_replicate]; omega
theorem fill_zero (L : List Int) (n : Nat) : fill L n 0 = List.replicate n 0 := by simp [fill]
theorem fill_all (L : List Int) (n : Nat) (hl : L.length = n) : fill L n n = L := by
  unfold fill
  rw [← hl, List.take_length, Nat.sub_self]; simp
theorem fill_set (L : List Int) (n i : Nat) (hl : L.length = n) (h : i < n) : (bytesA (fill L n i)).setIfInBounds i (.int .u8 (nth L i)) = bytesA (fill L n (i + 1)) := by
  unfold bytesA
  rw [List.setIfInBounds_toArray, ← List.map_set]
  congr 2
  unfold fill
  rw [List.set_append_right _ _ (by rw [List.length_take]; omega), List.length_take, show i - min i L.length = 0 by omega, show n - i = (n - (i + 1)) + 1 by omega, List.replicate_succ, List.set_cons_zero, List.take_add_one, List.append_assoc]
  congr 1
  have : L[i]? = some (nth L i) := by simp [nth_getD, List.getD_eq_getElem?_getD, show i < L.length by omega]
  rw [this]
  rfl
theorem run_eq_bytes {P : Program} (w : World) (t e : TypeId) (n : Nat) (ht : P.underlying t = some (.array n e)) (he : P.underlying e = some (.int .u8)) (hsz : (P.info? e).map (·.size) = some 1)
    (x : List Int) (hx : ∀ i ∈ x, 0 ≤ i ∧ i < 256) (lx : x.length = n) : (Op.equalIn 10000 t (.agg (bytesA x)) (.agg (bytesA x))).run P w = .ok true w := by
  have h := run_eq_ints (P := P) w t e n ht he hsz x x hx hx lx lx
  rw [decide_eq_true rfl] at h
  exact h
end Go.Proofs.Yteajblfkfmopfaa.Mem
