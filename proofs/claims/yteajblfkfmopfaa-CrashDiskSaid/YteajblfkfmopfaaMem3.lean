/- My own words on memory: whole arrays, by value, into and out of blocks. The cells are whatever. -/
import Derived.Test.YteajblfkfmopfaaMem2
import Derived.Deep.WholeRow
import Derived.Laws.CopyOwn
namespace Go.Proofs.Yteajblfkfmopfaa.Mem
set_option linter.unusedVariables false
set_option linter.unusedSimpArgs false
open Go Go.RowKit

section
variable {P : Program}
theorem setRow_new (w : World) (g : Nat) (old c : Array Value) (t : TypeId) (hg : w.heap[g]? = some (.cells old t (0, 0))) : (w.setRow g c).heap[g]? = some (.cells c t (0, 0)) := by
  simp [World.setRow, Array.getElem?_modify, hg]
theorem alloc3_0 (w : World) (a b c : Obj) : (((w.alloc a).alloc b).alloc c).heap[w.heap.size]? = some a := by
  rw [Below.heap_alloc _ _ _ (by simp; omega)]; exact heap_alloc2_old w _ _
theorem alloc3_1 (w : World) (a b c : Obj) : (((w.alloc a).alloc b).alloc c).heap[w.heap.size + 1]? = some b := by
  rw [Below.heap_alloc _ _ _ (by simp)]; exact heap_alloc2_new w _ _
theorem alloc3_2 (w : World) (a b c : Obj) : (((w.alloc a).alloc b).alloc c).heap[w.heap.size + 1 + 1]? = some c := by
  have := heap_alloc2_new (w.alloc a) b c
  simpa using this
theorem alloc3_size (w : World) (a b c : Obj) : (((w.alloc a).alloc b).alloc c).heap.size = w.heap.size + 3 := by simp
theorem setRow_far (w : World) (g k : Nat) (c : Array Value) (h : k ≠ g) : (w.setRow g c).heap[k]? = w.heap[k]? := by
  simp only [World.setRow, Array.getElem?_modify]
  rw [if_neg (fun e => h e.symm)]

/-- 'arr[l:]' of an array that lies in a block, elements of one cell -/
theorem run_arr_from {P : Program} (w : World) (t e : TypeId) (n : Nat) (z : Option Value) (bytes : Nat) (ht : P.underlying t = some (.array n e)) (hinfo : (P.info? e).map (fun i => (i.zero, i.size, i.bytes)) = some (z, 1, bytes)) (g l : Nat) (k : IntKind) (hl : l < n) :
    (Instr.sliceAt t (.pointer (some ⟨g, 0, none⟩)) (some (.int k (l : Int))) none none).run P w = .ok (.slice (some ⟨g, l, none⟩) (n - l) (n - l)) w := by
  obtain ⟨inf, hif, hzz⟩ := Option.map_eq_some_iff.1 hinfo
  simp only [Prod.mk.injEq] at hzz
  obtain ⟨_, h1, _⟩ := hzz
  have hne : ¬ n = l := by omega
  have hadd : (⟨g, 0, none⟩ : Addr).add l = ⟨g, l, none⟩ := add0 g l
  have hln : l ≤ n := by omega
  simp [Instr.sliceAt, run_underlying ht, Instr.sureAddr, Instr.sliceBounds, Instr.sliceBound, asIntOf, sizeOf, typeInfo, hif, h1, hne, hadd, hln]

/-- a callee that draws nothing, called where something has been drawn -/
theorem quietAdd {P : Program} {f : FuncId} {args : Array Value} {w : World} {a n : Nat} {v : Value} (c : Calls P f args (w.drewN (a + n)) fun e w' => e = .returned v ∧ w' = w.drewN (a + n)) :
    Calls P f args (w.drewN (a + n)) fun e w'' => e = .returned v ∧ ∃ m, w'' = w.drewN (a + m) := c.mono fun _ _ ⟨h1, h2⟩ => ⟨h1, n, h2⟩

/-- an array's element, elements of one cell that are whole numbers -/
theorem run_index_arr {P : Program} (w : World) (t e : TypeId) (n : Nat) (k : IntKind) (z : Option Value) (bytes : Nat) (ht : P.underlying t = some (.array n e)) (he : P.underlying e = some (.int k)) (hinfo : (P.info? e).map (fun i => (i.zero, i.size, i.bytes)) = some (z, 1, bytes))
    (C : Array Value) (i : Nat) (hi : i < n) (v : Value) (hv : C[i]? = some v) (kk : IntKind) : (Instr.index t (.agg C) (.int kk (i : Int))).run P w = .ok v w := by
  obtain ⟨inf, hif, hzz⟩ := Option.map_eq_some_iff.1 hinfo
  simp only [Prod.mk.injEq] at hzz
  obtain ⟨_, h1, _⟩ := hzz
  have ha : (isAgg e).run P w = .ok false w := by simp [isAgg, run_underlying he]
  simp [Instr.index, asIntOf, run_underlying ht, sizeOf, typeInfo, hif, h1, part, ha, hv]
  omega

/-- an operation whose run is known -/
theorem wp_run {w w' : World} {o : Oper} {a : Act} {K : Act → World → Prop} {Q : Exit → Act → World → Prop} (v : Value) (hr : (execOp a.eval o).run P w = .ok (.value v) w') (h : K (a.put o.dst v) w') : o.wp P a w K Q := by
  unfold Oper.wp
  rw [hr]
  exact h
theorem wpList_run {w w' : World} {ops : Array Oper} {rest : List Oper} {o : Oper} {a : Act} {Q : Exit → Act → World → Prop} (hgd : o.guard = none) (v : Value) (hr : (execOp a.eval o).run P w = .ok (.value v) w')
    (h : wpList P ops Q rest (a.put o.dst v) w') : wpList P ops Q (o :: rest) a w :=
  wpList_plain hgd fun _ hK => wp_run v hr (hK _ _ h)
theorem wp_run_skip {w w' : World} {o : Oper} {a : Act} {K : Act → World → Prop} {Q : Exit → Act → World → Prop} (hd : o.dst = none) (hr : (execOp a.eval o).run P w = .ok .skip w') (h : K a w') : o.wp P a w K Q := by
  unfold Oper.wp
  rw [hr]
  simp only [Oper.upon, hd, Act.put]
  exact h
theorem wpList_run_skip {w w' : World} {ops : Array Oper} {rest : List Oper} {o : Oper} {a : Act} {Q : Exit → Act → World → Prop} (hgd : o.guard = none) (hd : o.dst = none) (hr : (execOp a.eval o).run P w = .ok .skip w')
    (h : wpList P ops Q rest a w') : wpList P ops Q (o :: rest) a w :=
  wpList_plain hgd fun _ hK => wp_run_skip hd hr (hK _ _ h)

/-- a new variable of an array's type -/
theorem wpList_allocArr {w : World} {ops : Array Oper} {rest : List Oper} {o : Oper} {a : Act} {Q : Exit → Act → World → Prop} (hgd : o.guard = none) (t : TypeId) (ho : o.op = .alloc t) (Z : Array Value)
    (hz : (P.info? t).map (fun i => (i.zero, i.size)) = some (some (.agg Z), Z.size))
    (h : wpList P ops Q rest (a.put o.dst (.pointer (some ⟨w.heap.size, 0, none⟩))) (w.alloc (.cells Z t))) : wpList P ops Q (o :: rest) a w := by
  obtain ⟨hz1, _⟩ := zero_of_info hz
  refine wpList_run hgd _ ?_ h
  unfold execOp
  simp [ho, Instr.alloc, hz1, newVar, newRow, Value.cells]
/-- a value of an array's type into a variable of its own -/
theorem wpList_boxArr {w : World} {ops : Array Oper} {rest : List Oper} {o : Oper} {a : Act} {Q : Exit → Act → World → Prop} (hgd : o.guard = none) (t : TypeId) (x : Operand) (ho : o.op = .box t x) (c : Array Value) (hx : a.eval x = .agg c)
    (h : wpList P ops Q rest (a.put o.dst (.pointer (some ⟨w.heap.size, 0, none⟩))) (w.alloc (.cells c t))) : wpList P ops Q (o :: rest) a w := by
  refine wpList_run hgd _ ?_ h
  unfold execOp
  simp [ho, Instr.box, hx, newVar, newRow, Value.cells]
/-- a whole array into a block that is there -/
theorem wpList_storeArr {w : World} {ops : Array Oper} {rest : List Oper} {o : Oper} {a : Act} {Q : Exit → Act → World → Prop} (hgd : o.guard = none) (hd : o.dst = none) (ty : TypeId) (p x : Operand) (ho : o.op = .store ty p x)
    (g : Nat) (hp : a.eval p = .pointer (some ⟨g, 0, none⟩)) (c : Array Value) (hx : a.eval x = .agg c) (t : TypeId) (old : Array Value) (hg : w.heap[g]? = some (.cells old t (0, 0))) (hi : (P.info? ty).map (·.size) = some c.size) (hs : old.size = c.size) (h1 : c.all (·.oneCell') = true)
    (h : wpList P ops Q rest a (w.setRow g c)) : wpList P ops Q (o :: rest) a w := by
  refine wpList_run_skip hgd hd ?_ h
  unfold execOp
  simp only [ho, hp, hx, Instr.storeAt, Instr.sureAddr, Sem.run_bind, Sem.run_pure, Result.andThen_ok, run_storeVar_row w g t ty old c hg hi hs h1]
/-- into the block that was made last -/
theorem wpList_storeNew {w : World} {ops : Array Oper} {rest : List Oper} {o : Oper} {a : Act} {Q : Exit → Act → World → Prop} (hgd : o.guard = none) (hd : o.dst = none) (ty : TypeId) (p x : Operand) (ho : o.op = .store ty p x)
    (hp : a.eval p = .pointer (some ⟨w.heap.size, 0, none⟩)) (c : Array Value) (hx : a.eval x = .agg c) (t : TypeId) (old : Array Value) (hi : (P.info? ty).map (·.size) = some c.size) (hs : old.size = c.size) (h1 : c.all (·.oneCell') = true)
    (h : wpList P ops Q rest a (w.alloc (.cells c t))) : wpList P ops Q (o :: rest) a (w.alloc (.cells old t)) := by
  refine wpList_storeArr hgd hd ty p x ho w.heap.size hp c hx t old (heap_alloc_last w _) hi hs h1 ?_
  rw [World.setRow_alloc_new]
  exact h
end
end Go.Proofs.Yteajblfkfmopfaa.Mem
