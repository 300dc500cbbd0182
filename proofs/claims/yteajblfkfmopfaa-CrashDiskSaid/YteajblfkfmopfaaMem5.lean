/- My own words on memory: slices of structs that are read; a struct out of any place. -/
import Derived.Test.YteajblfkfmopfaaMem3
import Derived.Deep.MidRow
namespace Go.Proofs.Yteajblfkfmopfaa.Mem
set_option linter.unusedVariables false
set_option linter.unusedSimpArgs false
open Go Go.RowKit

/-- A slice of n rows of m cells that is read. -/
structure RdRows (m : Nat) (w : World) (A : Option Addr) (n c : Nat) (V : Nat → List Value) : Prop where
  le : n ≤ c
  cap : c ≤ maxLen
  len : ∀ j, j < n → (V j).length = m
  cells : 0 < n → ∃ ad, A = some ad ∧ ∀ j, j < n → ∀ i v, (V j)[i]? = some v → w.cell? (ad.add (j * m + i)) = some v
theorem RdRows.at {m : Nat} {w : World} {A : Option Addr} {n c : Nat} {V : Nat → List Value} (h : RdRows m w A n c V) (j : Nat) (hj : j < n) :
    ∃ ad, A = some ad ∧ ∀ i v, (V j)[i]? = some v → w.cell? ((ad.add (j * m)).add i) = some v := by
  obtain ⟨ad, e, hc⟩ := h.cells (by omega)
  exact ⟨ad, e, fun i v hv => by rw [add_add]; exact hc j hj i v hv⟩
theorem RdRows.below {m : Nat} {w w' : World} {A : Option Addr} {n c : Nat} {V : Nat → List Value} (h : RdRows m w A n c V) (hb : Below w.heap.size w w') : RdRows m w' A n c V :=
  ⟨h.le, h.cap, h.len, fun hn => by
    obtain ⟨ad, e, hc⟩ := h.cells hn
    exact ⟨ad, e, fun j hj i v hv => (hb.cell (World.block_lt_of_cell? w _ (hc j hj i v hv))).trans (hc j hj i v hv)⟩⟩
theorem RdRows.drewN {m : Nat} {w : World} {A : Option Addr} {n c : Nat} {V : Nat → List Value} (h : RdRows m w A n c V) (k : Nat) : RdRows m (w.drewN k) A n c V := ⟨h.le, h.cap, h.len, h.cells⟩
theorem RdRows.drew {m : Nat} {w : World} {A : Option Addr} {n c : Nat} {V : Nat → List Value} (h : RdRows m w A n c V) : RdRows m w.drew A n c V := ⟨h.le, h.cap, h.len, h.cells⟩
theorem RdRows.lit {m : Nat} (w : World) (T : TypeId) (rows : List (List Value)) (hm : ∀ r ∈ rows, r.length = m) (hl : rows.length ≤ maxLen) :
    RdRows m (w.alloc (.cells rows.flatten.toArray T)) (some ⟨w.heap.size, 0, none⟩) rows.length rows.length (fun j => rows.getD j []) := by
  refine ⟨Nat.le_refl _, hl, fun j hj => ?_, fun _ => ⟨_, rfl, fun j hj i v hv => ?_⟩⟩
  · rw [List.getD_eq_getElem?_getD, List.getElem?_eq_getElem hj]
    exact hm _ (List.getElem_mem _)
  · rw [add0]
    have hx : (w.alloc (.cells rows.flatten.toArray T)).heap[w.heap.size]? = some (.cells rows.flatten.toArray T) := heap_alloc_new w _
    unfold World.cell?
    simp only [hx]
    have flat : ∀ (rows : List (List Value)), (∀ r ∈ rows, r.length = m) → ∀ j i v, (rows.getD j [])[i]? = some v → rows.flatten[j * m + i]? = some v := by
      intro rows
      induction rows with
      | nil => intro _ j i v h; simp at h
      | cons r rows ih =>
        intro hr j i v h
        have hr0 := hr r (by simp)
        cases j with
        | zero =>
          have hi : i < r.length := (List.getElem?_eq_some_iff.1 h).1
          simp only [Nat.zero_mul, Nat.zero_add, List.flatten_cons]
          rw [List.getElem?_append_left hi]
          simpa using h
        | succ j =>
          rw [List.flatten_cons, List.getElem?_append_right (by rw [hr0, Nat.add_mul]; omega), hr0, show (j + 1) * m + i - m = j * m + i by rw [Nat.add_mul]; omega]
          exact ih (fun r h => hr r (by simp [h])) j i v (by simpa using h)
    simpa using flat rows hm j i v hv

section
variable {P : Program}
/-- a struct (or an array) out of any place -/
theorem run_loadVar_at (w : World) (a : Addr) (ty : TypeId) (cs : List Value) (d : TypeDesc) (hc : ∀ i v, cs[i]? = some v → w.cell? (a.add i) = some v)
    (hu : P.underlying ty = some d) (hd : d.isRow = true) (hi : (P.info? ty).map (·.size) = some cs.length) : (loadVar ty a).run P w = .ok (.agg cs.toArray) w := by
  have hl : (loadCells a cs.length).run P w = .ok cs.toArray w := run_loadCells_list (P := P) w a cs hc
  cases hq : P.info? ty with
  | none => simp [hq] at hi
  | some i =>
    have hs : i.size = cs.length := by simpa [hq] using hi
    have hagg : (isAgg ty).run P w = .ok true w := by
      unfold isAgg
      rw [Sem.run_bind, run_underlying hu w]
      cases d <;> simp_all
    simp [loadVar, Sem.run_bind, hagg, sizeOf, typeInfo, hq, hs, hl]
theorem run_loadAt_at (w : World) (a : Addr) (ty : TypeId) (cs : List Value) (d : TypeDesc) (hc : ∀ i v, cs[i]? = some v → w.cell? (a.add i) = some v)
    (hu : P.underlying ty = some d) (hd : d.isRow = true) (hi : (P.info? ty).map (·.size) = some cs.length) : (Instr.loadAt ty (.pointer (some a))).run P w = .ok (.agg cs.toArray) w := by
  simp only [Instr.loadAt, Instr.sureAddr, Sem.run_bind, Sem.run_pure, Result.andThen_ok, run_loadVar_at w a ty cs d hc hu hd hi]
theorem wpList_load_at {ops : Array Oper} {rest : List Oper} {op : Oper} {a : Act} {w : World} {Q : Exit → Act → World → Prop} (hgd : op.guard = none) (ty : TypeId) (x : Operand) (ho : op.op = .load ty x)
    (ad : Addr) (hx : a.eval x = .pointer (some ad)) (cs : List Value) (d : TypeDesc) (hc : ∀ i v, cs[i]? = some v → w.cell? (ad.add i) = some v)
    (hu : P.underlying ty = some d) (hd : d.isRow = true) (hi : (P.info? ty).map (·.size) = some cs.length)
    (h : wpList P ops Q rest (a.put op.dst (.agg cs.toArray)) w) : wpList P ops Q (op :: rest) a w := by
  refine wpList_run hgd (.agg cs.toArray) ?_ h
  unfold execOp
  simp only [ho, hx, Sem.run_bind, run_loadAt_at w ad ty cs d hc hu hd hi, Result.andThen_ok, Sem.run_pure]
end
end Go.Proofs.Yteajblfkfmopfaa.Mem
