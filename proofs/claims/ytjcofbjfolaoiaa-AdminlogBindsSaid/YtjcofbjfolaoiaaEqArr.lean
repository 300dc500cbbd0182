/- two arrays of bytes, compared. -/
import Derived.Test.YtjcofbjfolaoiaaMem3
import Derived.Stop.BytesEq
namespace Go.Proofs.Ytjcofbjfolaoiaa.Mem
set_option linter.unusedVariables false
set_option linter.unusedSimpArgs false
open Go Go.RowKit
def toU (i : Int) : UInt8 := UInt8.ofNat i.toNat
theorem toU_nat (i : Int) (h : 0 ≤ i ∧ i < 256) : ((toU i).toNat : Int) = i := by
  unfold toU
  rw [UInt8.toNat_ofNat']
  omega
theorem cells_toU (x : List Int) (hx : ∀ y ∈ x, 0 ≤ y ∧ y < 256) : x.map (Value.int .u8) = (x.map toU).map Extern.Stop.cell := by
  rw [List.map_map]
  refine List.map_congr_left fun i hi => ?_
  show Value.int .u8 i = Value.int .u8 ((toU i).toNat : Int)
  rw [toU_nat i (hx i hi)]
theorem toU_inj : ∀ (x y : List Int), (∀ i ∈ x, 0 ≤ i ∧ i < 256) → (∀ i ∈ y, 0 ≤ i ∧ i < 256) → (x.map toU == y.map toU) = decide (x = y)
  | [], [], _, _ => by simp
  | [], _ :: _, _, _ => by simp
  | _ :: _, [], _, _ => by simp
  | a :: x, b :: y, hx, hy => by
    have ih := toU_inj x y (fun i hi => hx i (List.mem_cons_of_mem _ hi)) (fun i hi => hy i (List.mem_cons_of_mem _ hi))
    have ha := toU_nat a (hx a List.mem_cons_self)
    have hb := toU_nat b (hy b List.mem_cons_self)
    rw [List.map_cons, List.map_cons, List.cons_beq_cons, ih]
    by_cases e : a = b
    · subst e; simp
    · have e' : ¬ toU a = toU b := fun h => e (by rw [← ha, ← hb, h])
      simp [e, e']
theorem run_eq_ints {P : Program} (w : World) (t e : TypeId) (n : Nat) (ht : P.underlying t = some (.array n e)) (he : P.underlying e = some (.int .u8)) (hsz : (P.info? e).map (·.size) = some 1)
    (x y : List Int) (hx : ∀ i ∈ x, 0 ≤ i ∧ i < 256) (hy : ∀ i ∈ y, 0 ≤ i ∧ i < 256) (lx : x.length = n) (ly : y.length = n) :
    (Op.equalIn 10000 t (.agg (x.map (Value.int .u8)).toArray) (.agg (y.map (Value.int .u8)).toArray)).run P w = .ok (decide (x = y)) w := by
  obtain ⟨i, hi, h1⟩ := Option.map_eq_some_iff.1 hsz
  rw [cells_toU x hx, cells_toU y hy, ← toU_inj x y hx hy]
  exact run_equalIn_bytes w 9998 t e n ht he (fun w => by simp [sizeOf, typeInfo, hi, h1]) _ _ (by simpa using lx) (by simpa using ly)
end Go.Proofs.Ytjcofbjfolaoiaa.Mem
