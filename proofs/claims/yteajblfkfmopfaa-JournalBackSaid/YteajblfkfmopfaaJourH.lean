/- chatelainelaw17.awake. -/
import Derived.Test.YteajblfkfmopfaaJourF
import Derived.Test.YteajblfkfmopfaaFlatStep
namespace Go.Proofs.Yteajblfkfmopfaa.Jour
set_option linter.unusedVariables false
set_option linter.unusedSimpArgs false
open Go Go.RowKit Go.Proofs.Yteajblfkfmopfaa.Mem Go.Proofs.Yteajblfkfmopfaa.Put Go.Proofs.Yteajblfkfmopfaa.Entries Go.Proofs.Yteajblfkfmopfaa.Geo Go.Proofs.Yteajblfkfmopfaa.LayA Go.Proofs.Yteajblfkfmopfaa.Sum Go.Proofs.Yteajblfkfmopfaa.Hmac Go.Proofs.Yteajblfkfmopfaa.Parts Go.Proofs.Yteajblfkfmopfaa.Pad Go.Proofs.Yteajblfkfmopfaa.Flat

theorem infoEn3 : (Try.prog.info? 90).map (fun i => (i.zero, i.size, i.bytes)) = some (some (.agg #[.int .i64 0, .slice none 0 0]), 2, 32) := by kernel_rfl
theorem wpList_buildEn {ops : Array Oper} {rest : List Oper} {o : Oper} {a : Act} {w : World} {Q : Exit → Act → World → Prop} (hgd : o.guard = none) (x y : Operand) (ho : o.op = .build 90 #[(0, x), (1, y)]) (k : Int) (A : Option Addr) (n c : Nat) (hx : a.eval x = .int .i64 k) (hy : a.eval y = .slice A n c)
    (h : wpList Try.prog ops Q rest (a.put o.dst (.agg #[.int .i64 k, .slice A n c])) w) : wpList Try.prog ops Q (o :: rest) a w := by
  refine wpList_run hgd _ ?_ h
  unfold execOp
  simp only [ho, List.map_toArray, List.map_cons, List.map_nil, hx, hy]
  kernel_rfl
def Z64L : List Int := List.replicate 64 0
theorem run_make64 (w : World) : (Instr.makeSlice 37 (.int .i64 64) (.int .i64 64)).run Try.prog w = .ok (.slice (some ⟨w.heap.size, 0, none⟩) 64 64) (w.alloc (.cells (Z64L.map (Value.int .u8)).toArray 5)) := by kernel_rfl
theorem wpList_make64 {ops : Array Oper} {rest : List Oper} {o : Oper} {a : Act} {w : World} {Q : Exit → Act → World → Prop} (hgd : o.guard = none) (x y : Operand) (ho : o.op = .makeSlice 37 x y) (hx : a.eval x = .int .i64 64) (hy : a.eval y = .int .i64 64)
    (h : wpList Try.prog ops Q rest (a.put o.dst (.slice (some ⟨w.heap.size, 0, none⟩) 64 64)) (w.alloc (.cells (Z64L.map (Value.int .u8)).toArray 5))) : wpList Try.prog ops Q (o :: rest) a w := by
  refine wpList_run hgd _ ?_ h
  unfold execOp
  simp only [ho, hx, hy, Sem.run_bind, run_make64, Result.andThen_ok, Sem.run_pure]
/-- one entry, laid by a statement itself -/
theorem rde_one {W : World} {b : Nat} {T : TypeId} {k : Int} {x : List Int} {A : Option Addr} {n c : Nat} (hg : W.heap[b]? = some (.cells #[.int .i64 k, .slice A n c] T (0, 0))) (h : Rd .u8 W A n c x) : RdE W (some ⟨b, 0, none⟩) 1 1 [(k, x)] :=
  ⟨rfl, Nat.le_refl _, by decide, fun _ => ⟨_, rfl, fun j hj => by
    obtain rfl : j = 0 := by omega
    have hl := h.len
    subst hl
    refine ⟨A, c, ?_, ?_, h⟩
    · rw [Addr.add_lit, cell_of_row W b 0 _ _ _ hg]; rfl
    · rw [Addr.add_lit, cell_of_row W b 1 _ _ _ hg]; rfl⟩⟩
set_option maxHeartbeats 1000000 in
set_option maxRecDepth 100000 in
theorem awake_true (w : World) : Calls Try.prog 73 #[] w fun e w' => e = .returned (.bool true) ∧ Below w.heap.size w w' := by
  go_enter Try.func73, Try.ntmps73
  have HBa := As.mk (below_alloc (Below.refl w.heap.size w) (.cells #[.int .u8 1] 5))
  have HK := As.mk (show Rd .u8 (w.alloc (.cells #[.int .u8 1] 5)) (some ⟨w.heap.size, 0, none⟩) 1 1 [1] from Rd.lit w .u8 5 [1] (by decide))
  go_wp2_with (first
    | (refine wpList_make64 rfl _ _ rfl rfl rfl ?_)
    | (refine wpList_buildEn rfl _ _ rfl 7 _ _ _ rfl rfl ?_))
  generalize hwa : w.alloc _ = wa at *
  have hsz : wa.heap.size = w.heap.size + 1 := by rw [← hwa]; simp
  have HB1 := As.mk (below_alloc (Below.refl wa.heap.size wa) (.cells (Z64L.map (Value.int .u8)).toArray 5))
  have HD := As.mk (show Rd .u8 (wa.alloc (.cells (Z64L.map (Value.int .u8)).toArray 5)) (some ⟨w.heap.size + 1, 0, none⟩) 64 64 Z64L from by
    have := Rd.lit wa .u8 5 Z64L (by decide)
    rw [hsz] at this
    exact this)
  have HBb := As.mk (below_step HBa.out HB1.out)
  have HK1 := As.mk (HK.out.below HB1.out)
  generalize hwb : wa.alloc _ = wb at *
  have hsb : wb.heap.size = w.heap.size + 1 + 1 := by rw [← hwb]; simp [hsz]
  have hb2 := below_alloc (Below.refl wb.heap.size wb) (.cells #[.int .i64 7, .slice (some ⟨w.heap.size + 1, 0, none⟩) 64 64] 90)
  have HBc := As.mk (below_step HBb.out hb2)
  have HK2 := As.mk (HK1.out.below hb2)
  have HE := As.mk (rde_one (heap_alloc_new wb (.cells #[.int .i64 7, .slice (some ⟨w.heap.size + 1, 0, none⟩) 64 64] 90)) (HD.out.below hb2))
  rw [hsb] at HE
  clear hwa hsz hwb hsb hb2
  generalize wb.alloc _ = wc at *
  have HBY := As.mk (show Byte [1] from fun y hy => by simp at hy; omega)
  have HES := As.mk (show ∀ e ∈ [((7 : Int), Z64L)], Byte e.2 from fun e he => by simp at he; subst he; exact rep_byte 64)
  have HMY := As.mk (show mayB [((7 : Int), Z64L)] 64 = true by decide)
  have HRN := As.mk (show recN 1 64 = 1 + 2 by decide)
  have HZ5 := As.mk (show (1099511627776 : Nat) = 1099511627776 from rfl)
  refine (pack_ok [1] HBY.out _ 1 1 5 (by decide) _ 1 1 [(7, Z64L)] HES.out 64 (by decide) HMY.out 3 (by decide) 2 HRN.out (by decide) wc HK2.out HE.out (by decide)).mono ?_
  rintro e wd ⟨P, cp, L, rfl, hp, hb⟩
  have HBd := As.mk (below_step HBc.out hb)
  clear hp hb
  go_wp2
  go_ret
  exact ⟨rfl, HBd.out⟩
end Go.Proofs.Yteajblfkfmopfaa.Jour
