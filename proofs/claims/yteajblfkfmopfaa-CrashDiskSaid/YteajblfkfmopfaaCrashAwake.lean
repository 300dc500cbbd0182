/- crash.all$1: the iterator over the images. crash.Outcomes. crash.Outcomes where there are none; the chapter's example. -/
import Derived.Shelf.Abstract
import Derived.Shelf.RegionOpen
import Derived.WalkKit
import Derived.OwnWalkIn
import Derived.TacticsInMore
import Derived.LoopNIn
import Derived.LoopIn
import Derived.Test.YteajblfkfmopfaaRangeP
import Derived.Test.YteajblfkfmopfaaCrashAll
import Derived.Test.YteajblfkfmopfaaCrashImg
namespace Go.Proofs.Yteajblfkfmopfaa.LawCrash
set_option linter.unusedVariables false
set_option linter.unusedSimpArgs false
open Go Go.RowKit Go.Shelf Go.Proofs.Yteajblfkfmopfaa.Mem Go.Proofs.Yteajblfkfmopfaa.Put32 Go.Proofs.Yteajblfkfmopfaa.Sum Go.Proofs.Yteajblfkfmopfaa.Hmac Go.Proofs.Yteajblfkfmopfaa.Parts Go.Proofs.Yteajblfkfmopfaa.Entries Go.Proofs.Yteajblfkfmopfaa.CrashApply Go.Proofs.Yteajblfkfmopfaa.RangeP

attribute [local go_sem] Oper.semAt_some

theorem calls_at {P : Program} {f : Nat} {args : Array Value} {w w' : World} {Q : Ending → World → Prop} (h : w = w') (k : Calls P f args w' Q) : Calls P f args w Q := h ▸ k
theorem shl_plain (m N : Nat) (hm : m ≤ 12) (h : 2 ^ m = N) : wrap64 ((2 : Int) ^ min m 64) = (N : Int) := by
  subst h
  obtain rfl | rfl | rfl | rfl | rfl | rfl | rfl | rfl | rfl | rfl | rfl | rfl | rfl : m = 0 ∨ m = 1 ∨ m = 2 ∨ m = 3 ∨ m = 4 ∨ m = 5 ∨ m = 6 ∨ m = 7 ∨ m = 8 ∨ m = 9 ∨ m = 10 ∨ m = 11 ∨ m = 12 := by omega
  all_goals decide +kernel
theorem two_le (m N : Nat) (hm : m ≤ 12) (h : 2 ^ m = N) : N ≤ 4096 := by
  rw [← h]
  exact Nat.le_trans (Nat.pow_le_pow_right (by decide) hm) (by decide)
/-- what is handed out: where it lies, its room, its number -/
abbrev Yd := Option Addr × Nat × Nat
abbrev encY (n : Nat) (x : Yd) : Array Value := #[.slice x.1 n x.2.1]
def PxY (ps : List (List Int)) (es : List (Int × List Int)) (n : Nat) (x : Yd) (W0 W1 : World) : Prop :=
  ∃ L, Parts W1 W0.heap.size (.slice x.1 n x.2.1) n L (outN ps es x.2.2) ∧ Below W0.heap.size W0 W1 ∧ Fresh W1 W0.heap.size (.slice x.1 n x.2.1) L (outN ps es x.2.2) n
def KpY (n0 b1 b2 : Nat) (W W' : World) : Prop := Below n0 W W' ∧ W'.heap[b1]? = W.heap[b1]? ∧ W'.heap[b2]? = W.heap[b2]?
def SY (N : Nat) (xs : List Yd) : Prop := xs.map (fun x => x.2.2) = List.range N
set_option maxHeartbeats 2000000 in
set_option maxRecDepth 100000 in
theorem all1_stops (w00 w : World) (ps : List (List Int)) (es : List (Int × List Int)) (A E : Option Addr) (n c m d N : Nat) (hn : n ≤ 1000000) (hm : m ≤ 12) (hN : 2 ^ m = N) (h0 : RdP w00 A n c ps) (h1 : RdE w00 E m d es) (hlp : ∀ p ∈ ps, p.length ≤ 1000000) (hle : ∀ e ∈ es, e.2.length ≤ 1000000) (hin : ∀ j, j < m → 0 ≤ (nthE es j).1 ∧ (nthE es j).1 < n)
    (hb00 : Below w00.heap.size w00 w) (bi be : Nat) (hbi : w.heap[bi]? = some (.cells #[.slice A n c] 50 (0, 0))) (hbe : w.heap[be]? = some (.cells #[.slice E m d] 73 (0, 0))) (k : Nat) :
    SeqP Fence.wide (k + 2) Try.prog 187 #[.pointer (some ⟨be, 0, none⟩), .pointer (some ⟨bi, 0, none⟩)] (encY n) (PxY ps es n) (KpY w00.heap.size bi be) (SY N) N w := fun l J W hW hJ hY hj0 => by
  have HBI0 : As (W.heap[bi]? = some (.cells #[.slice A n c] 50 (0, 0))) := ⟨(hW.block bi (Array.getElem?_eq_some_iff.1 hbi).1).trans hbi⟩
  have HBE0 : As (W.heap[be]? = some (.cells #[.slice E m d] 73 (0, 0))) := ⟨(hW.block be (Array.getElem?_eq_some_iff.1 hbe).1).trans hbe⟩
  have HB00 : As (Below w00.heap.size w00 W) := ⟨hb00.trans (hW.mono hb00.size)⟩
  have hcE : W.cell? ⟨be, 0, none⟩ = some (.slice E m d) := cell_of_row W be 0 _ _ _ HBE0.out
  have HN := As.mk hn
  have HM := As.mk hm
  have HNN := As.mk hN
  have H0 := As.mk h0
  have H1 := As.mk h1
  have HLP := As.mk hlp
  have HLE := As.mk hle
  have HIN := As.mk hin
  have HJ := As.mk hJ
  have HY := As.mk hY
  have HJ0 := As.mk hj0
  clear hn hm hN h0 h1 hlp hle hin hb00 hbi hbe hW hJ hY hj0
  refine callsIn_of_wp Try.func187 rfl trivial ?_ rfl
  simp only [Try.ntmps187, List.size_toArray, List.length_cons, List.length_nil, Nat.reduceAdd, Nat.reduceSub, Array.replicate_succ, Array.replicate_zero, List.push_toArray, List.append_toArray, List.nil_append, List.cons_append]
  have hs : wrap64 ((2 : Int) ^ min m 64) = (N : Int) := shl_plain m N HM.out HNN.out
  gi_wp2
  rw [hs]
  clear hs hcE
  gi_loopw [8] (fun v8 wr => ∃ (i : Nat) (pre : List Yd), v8 = .int .i64 (i : Int) ∧ As (i ≤ N) ∧ As (pre.map (fun x => x.2.2) = List.range i) ∧ As (wr.heap[bi]? = some (.cells #[.slice A n c] 50 (0, 0))) ∧ As (wr.heap[be]? = some (.cells #[.slice E m d] 73 (0, 0))) ∧ As (Below w00.heap.size w00 wr) ∧ As (Below W.heap.size W wr → True) ∧ As (J pre wr) ∧ As (W.heap.size ≤ wr.heap.size)) (fun v8 _ => N - (intOf v8).toNat)
  case atStart => exact ⟨0, [], rfl, ⟨Nat.zero_le _⟩, ⟨rfl⟩, HBI0, HBE0, HB00, ⟨fun _ => trivial⟩, HJ0, ⟨Nat.le_refl _⟩⟩
  case round =>
    clear HBI0 HBE0 HB00 HJ0
    obtain ⟨i, pre, rfl, HI, HPR, HBI, HBE, HB, _, HJP, HSZ⟩ := hrel
    have hN4 := two_le m N HM.out HNN.out
    by_cases hlt : i < N
    · have c0 : decide ((i : Int) < (N : Int)) = true := decide_eq_true (by omega)
      have c1 : decide (i < N) = true := decide_eq_true hlt
      have lt' : (i : Int) < (N : Int) := by omega
      have hw : wrap64 ((i : Int) + 1) = ((i + 1 : Nat) : Int) := wrap_up (by omega)
      have HLT := As.mk hlt
      have HN4 := As.mk hN4
      obtain ⟨w1, hw1⟩ : ∃ w1, wr.alloc (.cells #[.int .i64 (i : Int)] 3) = w1 := ⟨_, rfl⟩
      have hnew := heap_alloc_new wr (.cells #[.int .i64 (i : Int)] 3)
      have hba := below_alloc (Below.refl wr.heap.size wr) (.cells #[.int .i64 (i : Int)] 3)
      have HJ1 := As.mk (HJ.out pre wr _ none HJP.out (World.grownBy_alloc wr (.cells #[.int .i64 (i : Int)] 3) none) (fun r e => by cases e))
      rw [hw1] at hnew hba HJ1
      have HW1 := As.mk hw1
      have HNEW := As.mk hnew
      have HBA := As.mk hba
      have HS1 := As.mk (show w1.heap.size = wr.heap.size + 1 by rw [← hw1]; simp)
      have cE : (wr.alloc (.cells #[.int .i64 (i : Int)] 3)).cell? ⟨be, 0, none⟩ = some (.slice E m d) := by
        rw [hw1]
        exact cell_of_row w1 be 0 _ _ _ ((hba.block be (Array.getElem?_eq_some_iff.1 HBE.out).1).trans HBE.out)
      have cI : (wr.alloc (.cells #[.int .i64 (i : Int)] 3)).cell? ⟨bi, 0, none⟩ = some (.slice A n c) := by
        rw [hw1]
        exact cell_of_row w1 bi 0 _ _ _ ((hba.block bi (Array.getElem?_eq_some_iff.1 HBI.out).1).trans HBI.out)
      have HB1 := As.mk (HB.out.trans (hba.mono HB.out.size))
      have hD := calls_at hw1 (doneK_any w1 ps es i A E n c m d wr.heap.size HN.out (by have := HM.out; omega) (by omega) (H0.out.below HB1.out) (H1.out.below HB1.out) (cell_of_row w1 _ 0 _ _ _ HNEW.out) HLP.out HLE.out HIN.out)
      have HDD := As.mk hD
      have HPL := As.mk (show pre.length < N by have := congrArg List.length HPR.out; rw [List.length_map, List.length_range] at this; omega)
      clear hD hnew hba hlt hN4 lt' hw1
      gi_wp2_with (refine ⟨trivial, ?_⟩; gi_at_call 117; refine (callsIn_wide.2 HDD.out).mono ?_; rintro e w2 ⟨A', c', L, rfl, hp, hb, hf⟩; have HX := As.mk (show PxY ps es n (A', c', i) w1 w2 from ⟨L, hp, hb, hf⟩); have HJ2 := As.mk (HJ.out pre w1 w2 none HJ1.out (below_grownBy hb (grown_refl w2 none)) (fun r e => by cases e)); have HB2 := As.mk (HB1.out.trans (hb.mono HB1.out.size)); have HBB := As.mk hb; clear hp hb hf; obtain ⟨fn, tmps, assign, body, hy, hR⟩ := HY.out pre (A', c', i) w1 w2 HJ1.out HJ2.out HX.out HPL.out; dsimp only [encY] at hy; rw [show k + 2 - 1 = k + 1 from rfl] at hR)
      have hbi2 := (HBB.out.block bi (Array.getElem?_eq_some_iff.1 ((HBA.out.block bi (Array.getElem?_eq_some_iff.1 HBI.out).1).trans HBI.out)).1).trans ((HBA.out.block bi (Array.getElem?_eq_some_iff.1 HBI.out).1).trans HBI.out)
      have hbe2 := (HBB.out.block be (Array.getElem?_eq_some_iff.1 ((HBA.out.block be (Array.getElem?_eq_some_iff.1 HBE.out).1).trans HBE.out)).1).trans ((HBA.out.block be (Array.getElem?_eq_some_iff.1 HBE.out).1).trans HBE.out)
      refine hR.mono ?_
      rintro e W3 ⟨rfl, hJ3, hk1, hk2, hk3⟩
      have HBI3 := As.mk (hk2.trans hbi2)
      have HBE3 := As.mk (hk3.trans hbe2)
      have HB3 := As.mk (HB2.out.trans hk1)
      have HSZ3 := As.mk (show W.heap.size ≤ W3.heap.size by have h1 := hk1.size; have h2 := HBB.out.size; have h3 := HS1.out; have h4 := HSZ.out; omega)
      have HJ3 := As.mk hJ3
      have HPR3 := As.mk (show (pre ++ [((A', c', i) : Yd)]).map (fun x => x.2.2) = List.range (i + 1) by rw [List.map_append, HPR.out, List.range_succ]; rfl)
      clear hJ3 hk1 hk2 hk3 hbi2 hbe2 hy hR
      gi_wp2
      refine ⟨⟨i + 1, pre ++ [(A', c', i)], by rw [hw], ⟨by have := HLT.out; omega⟩, HPR3, HBI3, HBE3, HB3, ⟨fun _ => trivial⟩, HJ3, HSZ3⟩, ?_⟩
      rw [hw]
      have := HLT.out
      simp only [intOf]
      omega
    · have c0 : decide ((i : Int) < (N : Int)) = false := decide_eq_false (by omega)
      have c1 : decide (i < N) = false := decide_eq_false hlt
      have HE := As.mk (show SY N pre by
        have h1 := HI.out
        obtain rfl : i = N := by omega
        exact HPR.out)
      clear hlt hN4
      gi_wp2
      go_end0
      exact ⟨⟨_, rfl⟩, pre, HE.out, HJP.out⟩
end Go.Proofs.Yteajblfkfmopfaa.LawCrash
namespace Go.Proofs.Yteajblfkfmopfaa.LawCrash
set_option linter.unusedVariables false
set_option linter.unusedSimpArgs false
open Go Go.RowKit Go.Shelf Go.Proofs.Yteajblfkfmopfaa.Mem Go.Proofs.Yteajblfkfmopfaa.Put32 Go.Proofs.Yteajblfkfmopfaa.Sum Go.Proofs.Yteajblfkfmopfaa.Hmac Go.Proofs.Yteajblfkfmopfaa.Parts Go.Proofs.Yteajblfkfmopfaa.Entries Go.Proofs.Yteajblfkfmopfaa.CrashApply Go.Proofs.Yteajblfkfmopfaa.RangeP

attribute [local go_sem] Oper.semAt_some

def uq (ps : List (List Int)) (es : List (Int × List Int)) (pre : List Yd) : List Img := uniqF [] (pre.map fun x => outN ps es x.2.2)
theorem uq_snoc (ps : List (List Int)) (es : List (Int × List Int)) (pre : List Yd) (x : Yd) : uq ps es (pre ++ [x]) = if ((uq ps es pre).any fun y => decide (outN ps es x.2.2 = y)) = true then uq ps es pre else uq ps es pre ++ [outN ps es x.2.2] := by
  unfold uq
  rw [List.map_append]
  exact uniqF_snoc _ _ _
theorem uq_le (ps : List (List Int)) (es : List (Int × List Int)) (pre : List Yd) : (uq ps es pre).length ≤ pre.length := by
  unfold uq
  have := uniqF_le (pre.map fun x => outN ps es x.2.2) []
  simpa using this
theorem uq_done {ps : List (List Int)} {es : List (Int × List Int)} {xs : List Yd} {N : Nat} (h : SY N xs) : uq ps es xs = outF ps es N := by
  unfold uq outF
  rw [show (xs.map fun x => outN ps es x.2.2) = (xs.map fun x => x.2.2).map (outN ps es) by rw [List.map_map]; rfl, h]
theorem byte_outN {ps : List (List Int)} {es : List (Int × List Int)} (bp : ∀ p ∈ ps, Byte p) (be : ∀ e ∈ es, Byte e.2) (k : Nat) : ∀ p ∈ outN ps es k, Byte p := doneF_all _ Byte es 0 ps bp be
theorem byte_uq {ps : List (List Int)} {es : List (Int × List Int)} (bp : ∀ p ∈ ps, Byte p) (be : ∀ e ∈ es, Byte e.2) (pre : List Yd) : ∀ y ∈ uq ps es pre, ∀ p ∈ y, Byte p := fun y hy => by
  unfold uq at hy
  rw [uniqF_mem, List.mem_map] at hy
  rcases hy with h | ⟨x, _, rfl⟩
  · cases h
  · exact byte_outN bp be _
/-- blocks that the loop writes -/
def mutX (Bo : Nat) (v : Value) (b : Nat) : Prop := b = Bo ∨ v.ownBlock = some b
/-- between two rounds -/
def IY (ps : List (List Int)) (es : List (Int × List Int)) (n n0 Bo : Nat) (pre : List Yd) (W : World) : Prop :=
  (∃ v L, Boxed W Bo 83 v ∧ Imgs W n0 v (mutX Bo v) (uq ps es pre).length n L (uq ps es pre)) ∧ n0 ≤ W.heap.size
theorem imgs_kept {W W' : World} {row : Option Nat} {base : Nat} {v : Value} {X : Nat → Prop} {k n : Nat} {L : List Value} {is : List Img} (h : Imgs W base v X k n L is) (hg : W.grownBy W' row) (hrow : ∀ r, row = some r → ∃ o : Obj, W.heap[r]? = some o ∧ o.isCells = false) : Imgs W' base v X k n L is := by
  refine h.step (h.own.kept hg ?_) (keepsX_kept hg hrow)
  rcases h.own.2 with ⟨rfl, _⟩ | ⟨g, cap, cur, rfl, _, hgb, _⟩
  · exact .inl rfl
  · refine .inr fun e' => ?_
    obtain ⟨o, ho, hc⟩ := hrow g e'.symm
    rw [hgb] at ho
    cases ho
    cases hc
theorem boxed_kept {W W' : World} {row : Option Nat} {B : Nat} {t : TypeId} {v : Value} (h : Boxed W B t v) (hg : W.grownBy W' row) (hrow : ∀ r, row = some r → ∃ o : Obj, W.heap[r]? = some o ∧ o.isCells = false) : Boxed W' B t v := h.kept hg fun e => by
  obtain ⟨o, ho, hc⟩ := hrow B e.symm
  rw [show W.heap[B]? = _ from h] at ho
  cases ho
  cases hc
theorem iy_own (ps : List (List Int)) (es : List (Int × List Int)) (n n0 Bo : Nat) : Own (IY ps es n n0 Bo) := by
  rintro s W W' row ⟨⟨v, L, hb, hi⟩, hz⟩ hg hrow
  exact ⟨⟨v, L, boxed_kept hb hg hrow, imgs_kept hi hg hrow⟩, Nat.le_trans hz hg.size⟩
theorem boxed_one {W : World} {B : Nat} {t : TypeId} {v v' : Value} (h : Boxed W B t v) (k : Boxed W B t v') : v = v' := by
  unfold Boxed at h k
  rw [h] at k
  injection k with k
  injection k with k
  have := congrArg (fun a : Array Value => a[0]?) k
  simpa using this
/-- what stands when a round begins -/
def RY (ps : List (List Int)) (es : List (Int × List Int)) (n n0 Bo : Nat) (w : World) (tm : Nat → Yd → Array Value) (s : List Yd × Yd × Act) (W : World) : Prop :=
  (∃ v L Bx, Boxed W Bo 83 v ∧ Imgs W n0 v (mutX Bo v) (uq ps es s.1).length n L (uq ps es s.1) ∧ Boxed W Bx 50 (.slice s.2.1.1 n s.2.1.2.1) ∧ ¬ mutX Bo v Bx ∧ ElemI W (mutX Bo v) n (.slice s.2.1.1 n s.2.1.2.1) (outN ps es s.2.1.2.2) ∧ s.2.2 = { tmps := tm Bx s.2.1, defers := [] }) ∧ Below w.heap.size w W ∧ n0 ≤ W.heap.size
theorem ry_own (ps : List (List Int)) (es : List (Int × List Int)) (n n0 Bo B : Nat) (w : World) (tm : Nat → Yd → Array Value) (hB : w.heap.size ≤ B) : OwnFrom B (RY ps es n n0 Bo w tm) := by
  rintro s W W' row ⟨⟨v, L, Bx, h1, h2, h3, h4, h5, h6⟩, hb, hz⟩ hg hrow
  have hrow' : ∀ r, row = some r → ∃ o : Obj, W.heap[r]? = some o ∧ o.isCells = false := fun r e => (hrow r e).2
  exact ⟨⟨v, L, Bx, boxed_kept h1 hg hrow', imgs_kept h2 hg hrow', boxed_kept h3 hg hrow', h4, h5.step (keepsX_kept hg hrow') (fun b hb => .inl hb), h6⟩, hb.grown hg hb.size (fun k e => Nat.le_trans hB (hrow k e).1), Nat.le_trans hz hg.size⟩
theorem own_row_cells {w : World} {base n : Nat} {e : TypeId} {v : Value} {xs : List Value} (h : w.ownsRow base e 1 v n xs) (j : Nat) (o : Obj) (ej : v.ownBlock = some j) (hj : w.heap[j]? = some o) : o.isCells = true := by
  rcases h.2 with ⟨rfl, _⟩ | ⟨g, cap, cur, rfl, _, hgb, _⟩
  · simp [Value.ownBlock] at ej
  · simp only [Value.ownBlock, Option.some.injEq] at ej
    subst ej
    rw [hgb] at hj
    cases hj
    rfl
theorem iy_app {W2 w5 : World} {B3 Bo n k : Nat} {T : TypeId} {v v' u : Value} {x : Img} {L : List Value} {is : List Img} {tmp : Obj} (hbo : Boxed W2 Bo T v) (hi : Imgs W2 B3 v (mutX Bo v) k n L is) (hel : ElemI W2 (mutX Bo v) n u x) (hlt : Bo < B3) (hB3 : B3 ≤ W2.heap.size)
    (hown : w5.ownsRow B3 50 1 v' (k + 1) (L ++ [u])) (hg : (W2.alloc tmp).grownBy w5 v.ownBlock) (hat : v'.ownBlock = v.ownBlock ∨ v'.ownBlock = some (W2.alloc tmp).heap.size) :
    Boxed w5 Bo T v ∧ Boxed (w5.setCell ⟨Bo, 0, none⟩ v') Bo T v' ∧ Imgs (w5.setCell ⟨Bo, 0, none⟩ v') B3 v' (mutX Bo v') (k + 1) n (L ++ [u]) (is ++ [x]) ∧ KeepsOthers W2 (w5.setCell ⟨Bo, 0, none⟩ v') ∧ (∀ b, b < B3 → b ≠ Bo → (w5.setCell ⟨Bo, 0, none⟩ v').heap[b]? = W2.heap[b]?) ∧ Below Bo W2 (w5.setCell ⟨Bo, 0, none⟩ v') := by
  have hlv : ∀ b, v.ownBlock = some b → B3 ≤ b := fun b e => (hi.own.lt b e).1
  have hlv' : ∀ b, v'.ownBlock = some b → B3 ≤ b := fun b e => (hown.lt b e).1
  have h1 : Boxed w5 Bo T v := (hbo.alloc tmp).kept hg fun e => by have := hlv Bo e.symm; omega
  have hblk : ∀ b, b < B3 → b ≠ Bo → (w5.setCell ⟨Bo, 0, none⟩ v').heap[b]? = W2.heap[b]? := fun b hb hne => by
    rw [heap_setCell_other _ _ _ _ (by simpa using hne)]
    rw [hg.block b (by simp; omega) (fun e => by have := hlv b e.symm; omega)]
    exact Below.heap_alloc W2 tmp b (by omega)
  have hb2 : Below W2.heap.size W2 (W2.alloc tmp) := below_alloc (Below.refl _ _) tmp
  have hia := hi.below hb2
  have hea := hel.step (X' := mutX Bo v) (keepsX_below hb2) fun b h => .inl h
  have hset : Below Bo w5 (w5.setCell ⟨Bo, 0, none⟩ v') := (Below.refl _ _).setCell (p := ⟨Bo, 0, none⟩) (Nat.le_refl _) _
  refine ⟨h1, h1.set v', ?_, ?_, hblk, ?_⟩
  · refine hia.app hea (hown.kept (grownBy_setCell' w5 Bo v') (.inr fun e => by have := hlv' Bo e; omega)) ((keepsX_grown (X := mutX Bo v) hg fun b e => .inr e).trans (keepsX_set (X := mutX Bo v) (.inl rfl)) fun b h => .inl h) ?_
    rintro b (h | h)
    · exact .inl (.inl h)
    · rcases hat with e | e
      · exact .inl (.inr (e ▸ h))
      · rw [e] at h
        injection h with h
        exact .inr (by omega)
  · exact ((KeepsOthers.alloc W2 tmp).trans (KeepsOthers.of_grownBy hg (own_row_cells hia.own))).trans (KeepsOthers.setCell _ _ _)
  · exact ((hb2.mono (by omega)).grown hg (by simp; omega) (fun b e => by have := hlv b e; omega)).trans hset
theorem infoPP : (Try.prog.info? 50).map (fun i => (i.zero, i.size, i.bytes)) = some (some (.slice none 0 0), 1, 24) := by kernel_rfl
set_option maxHeartbeats 2000000 in
set_option maxRecDepth 100000 in
theorem outcomes_ok (w : World) (ps : List (List Int)) (es : List (Int × List Int)) (A E : Option Addr) (n c m d N : Nat) (hn : n ≤ 1000000) (hm : m ≤ 10) (hN : 2 ^ m = N) (h0 : RdP w A n c ps) (h1 : RdE w E m d es) (hlp : ∀ p ∈ ps, p.length ≤ 1000000) (hle : ∀ e ∈ es, e.2.length ≤ 1000000) (bp : ∀ p ∈ ps, Byte p) (be : ∀ e ∈ es, Byte e.2) (hr : mayF n m es = 0) :
    Calls Try.prog 51 #[.slice A n c, .slice E m d] w fun e w' => ∃ A' c' k, e = .returned (.tuple #[.slice A' k c', .int .i64 0]) ∧ RdI w' A' k c' n (outF ps es N) ∧ Below w.heap.size w w' := by
  have HN := As.mk hn
  have HM := As.mk hm
  have HNN := As.mk hN
  have H0 := As.mk h0
  have H1 := As.mk h1
  have HLP := As.mk hlp
  have HLE := As.mk hle
  have HBP := As.mk bp
  have HBE := As.mk be
  have HR := As.mk hr
  have hm' : (m : Int) ≤ 10 := by omega
  have c0 : decide ((10 : Int) < (m : Int)) = false := decide_eq_false (by omega)
  have c1 : decide (10 < m) = false := decide_eq_false (by omega)
  clear hn hm hN h0 h1 hlp hle bp be hr
  refine (callsIn_wide (n := 6)).1 ?_
  refine callsIn_of_wp_marks Try.func51 rfl trivial ?_ rfl
  simp only [Try.ntmps51, List.size_toArray, List.length_cons, List.length_nil, Nat.reduceAdd, Nat.reduceSub, Array.replicate_succ, Array.replicate_zero, List.push_toArray, List.append_toArray, List.nil_append, List.cons_append]
  gi_wp2_with (first
    | (refine ⟨trivial, ?_⟩; gi_at_call 116; refine (callsIn_wide.2 (may_any w n E m d es (by have := HM.out; omega) H1.out)).mono ?_; rw [HR.out]; rintro e w1 ⟨rfl, hb⟩; have HB1 := As.mk hb; clear hb)
    | (refine ⟨trivial, ?_⟩; gi_at_call 121; refine (callsIn_wide.2 (all_any A E n c m d _)).mono ?_; rintro e w' ⟨rfl, rfl⟩))
  have A0 := alloc3_0 w1 (.cells #[.slice none 0 0] 83) (.cells #[.slice A n c] 50) (.cells #[.slice E m d] 73)
  have A1 := alloc3_1 w1 (.cells #[.slice none 0 0] 83) (.cells #[.slice A n c] 50) (.cells #[.slice E m d] 73)
  have A2 := alloc3_2 w1 (.cells #[.slice none 0 0] 83) (.cells #[.slice A n c] 50) (.cells #[.slice E m d] 73)
  have hB0 : Below w.heap.size w (((w1.alloc (.cells #[.slice none 0 0] 83)).alloc (.cells #[.slice A n c] 50)).alloc (.cells #[.slice E m d] 73)) := below_alloc (below_alloc (below_alloc HB1.out _) _) _
  have hsz := alloc3_size w1 (.cells #[.slice none 0 0] 83) (.cells #[.slice A n c] 50) (.cells #[.slice E m d] 73)
  generalize ((w1.alloc _).alloc _).alloc _ = w3 at *
  have hs1 := HB1.out.size
  have hin := in_of_may HR.out H1.out.len
  have hn4 := two_le m N (by have := HM.out; omega) HNN.out
  refine range_with rfl (by decide) (gf := 187) (lb := #[.pointer (some ⟨w1.heap.size + 1 + 1, 0, none⟩), .pointer (some ⟨w1.heap.size + 1, 0, none⟩)]) rfl trivial (enters_of Try.func187 (by kernel_rfl) rfl)
    (all1_stops w w3 ps es A E n c m d N HN.out (by have := HM.out; omega) HNN.out H0.out H1.out HLP.out HLE.out hin hB0 (w1.heap.size + 1) (w1.heap.size + 1 + 1) A1 A2 3)
    (fun {A B C} h k => ⟨h.1.trans k.1, k.2.1.trans h.2.1, k.2.2.trans h.2.2⟩)
    (fun W l o o' hl ho h1 h2 => ⟨belowK_b (w := w3) hB0.size W l o o' hl ho h1 h2, World.putObj_heap_other (by omega), World.putObj_heap_other (by omega)⟩)
    (Below.refl _ _) (fun _ => rfl)
    (fun pre W => IY ps es n (w1.heap.size + 3) w1.heap.size pre W ∧ Below w.heap.size w W)
    (OwnFrom.and ((iy_own ps es n (w1.heap.size + 3) w1.heap.size).from _) (ownFrom_below (Nat.le_refl _) (by omega)))
    ⟨⟨⟨_, [], A0, Imgs.nil _ _ _ _⟩, by omega⟩, hB0⟩
    (RY ps es n (w1.heap.size + 3) w1.heap.size w (fun Bx x => #[.slice A n c, .slice E m d, undef, undef, .slice none 0 0, .int .i64 0, .int .i64 0, .pointer (some ⟨w1.heap.size, 0, none⟩), .pointer (some ⟨Bx, 0, none⟩), .slice A n c, .int .i64 (n : Int), .slice E m d, .int .i64 0, .int .i64 0, .bool false, undef, .slice E m d, .int .i64 (m : Int), .bool false, .slice A n c, .slice E m d, .func (.func 187) #[] #[.pointer (some ⟨w1.heap.size + 1 + 1, 0, none⟩), .pointer (some ⟨w1.heap.size + 1, 0, none⟩)], .slice x.1 n x.2.1, undef, undef, undef, undef, undef, undef, undef, undef, undef]))
    (ry_own _ _ _ _ _ _ _ _ (by omega)) ?assign ?body ?done
  case assign =>
    rintro l pre x W0 W K hw0 ⟨⟨⟨v0, L0, hb0, hi0⟩, hz0⟩, hB0'⟩ ⟨⟨⟨v, L, hbo, hi⟩, hz⟩, hB⟩ ⟨Lx, hp, hbw, hf⟩ hlen hK
    have ev : v = v0 := boxed_one hbo ((hbw.block _ hb0.lt).trans hb0)
    subst ev
    have hel := elem_fresh (X := mutX w1.heap.size v) hp hf (fun b hb => by
      rcases hb with rfl | hb
      · exact hb0.lt
      · exact (hi0.own.lt b hb).2)
    gi_wp2
    have hba := below_alloc (Below.refl W.heap.size W) (.cells #[.slice x.1 n x.2.1] 50)
    refine hK _ _ ((KeepsOthers.alloc W _).from _) ⟨hba.mono hB.size, hba.block _ ?_, hba.block _ ?_⟩ ⟨⟨v, L, W.heap.size, hbo.alloc _, hi.below hba, World.alloc_heap_new W _, ?_, hel.step (keepsX_below hba) fun b hb => .inl hb, rfl⟩, hB.trans (hba.mono hB.size), by simp; omega⟩
    · have := hbw.size; omega
    · have := hbw.size; omega
    · rintro (h | h)
      · have := hbo.lt; omega
      · have := (hi.own.lt _ h).2; omega
  case body =>
    rintro l pre ⟨ax, cx, kx⟩ a' W ⟨⟨v, L, Bx, hbo, hi, hbx, hne, hel, ha⟩, hB, hz⟩ hlen
    dsimp only at ha hbx hel
    subst ha
    obtain ⟨Av, cv, rfl⟩ := own_slice hi.own
    have HX : As (RdP W ax n cx (outN ps es kx)) := by
      obtain ⟨A1, c1, e1, hr⟩ := hel.rd
      cases e1
      exact ⟨hr⟩
    have hul := uq_le ps es pre
    have HRI := As.mk hi.rdi
    have HUB := As.mk (show (uq ps es pre).length ≤ 4096 by omega)
    have HC := As.mk (contains_out W (outN ps es kx) ax cx Bx (uq ps es pre) Av n (uq ps es pre).length cv HN.out (by omega) HX.out HRI.out (byte_outN HBP.out HBE.out kx) (byte_uq HBP.out HBE.out pre) hbx.cell)
    have cb0 := hbo.cell
    have HBO := As.mk hbo
    have HII := As.mk hi
    have HBX := As.mk hbx
    have HEL := As.mk hel
    have HB := As.mk hB
    have HNE := As.mk hne
    have HUS := As.mk (uq_snoc ps es pre (ax, cx, kx))
    have HSZ := As.mk hsz
    have HS1 := As.mk hs1
    have HBS := As.mk (show w1.heap.size + 3 ≤ W.heap.size from hz)
    obtain ⟨us, hus⟩ : ∃ us, us = uq ps es pre := ⟨_, rfl⟩
    obtain ⟨ku, hku⟩ : ∃ ku, ku = us.length := ⟨_, rfl⟩
    rw [← hus, ← hku] at HRI HC HII HBO HEL cb0
    rw [← hus] at HUB HUS
    rw [← hku] at HUB
    have HUE := As.mk hus
    have HKE := As.mk hku
    clear hz hus hku hbo hi hbx hne hel hB hul hlen hin hn4 hsz hs1 A0 A1 A2 hB0
    cases hq : us.any fun y => decide (outN ps es kx = y) with
    | true =>
      rw [hq] at HC HUS
      clear hq
      gi_wp2_with (refine ⟨trivial, ?_⟩; gi_at_call 122; refine (CallsIn.inRound l (callsIn_wide.2 HC.out)).mono ?_; rintro e w' ⟨rfl, hb⟩; have HB2 := As.mk hb; clear hb)
      gi_wp2
      show _ ∧ _ ∧ _
      refine ⟨(KeepsOthers.of_grownBy (below_grownBy HB2.out (grown_refl w' none)) (fun j o e => by cases e)).from _, ⟨HB2.out.mono HB.out.size, HB2.out.block _ (by have := HBS.out; omega), HB2.out.block _ (by have := HBS.out; omega)⟩, ⟨⟨_, L, HBO.out.kept (below_grownBy HB2.out (grown_refl w' none)) (by simp), ?_⟩, Nat.le_trans HBS.out HB2.out.size⟩, HB.out.trans (HB2.out.mono HB.out.size)⟩
      rw [HUS.out, if_pos trivial, ← HKE.out]
      exact HII.out.below HB2.out
    | false =>
      rw [hq] at HC HUS
      clear hq
      gi_wp2_with (first
        | (refine ⟨trivial, ?_⟩; gi_at_call 122; refine (CallsIn.inRound l (callsIn_wide.2 HC.out)).mono ?_; rintro e w2 ⟨rfl, hb⟩; have HB2 := As.mk hb; have HBO2 := As.mk (HBO.out.kept (below_grownBy hb (grown_refl w2 none)) (by simp)); have hb0' := HBO2.out.cell; have hbx' := (HBX.out.kept (below_grownBy hb (grown_refl w2 none)) (by simp)).cell; have HI2 := As.mk (HII.out.below hb); have HEL2 := As.mk (HEL.out.step (keepsX_below hb) (X' := mutX w1.heap.size (.slice Av ku cv)) (fun b h => .inl h)); have HBS2 := As.mk (Nat.le_trans HBS.out hb.size); clear hb cb0)
        | (gi_at_builtin; refine As.out ?_))
      refine As.mk ?_
      refine wpListIn_app rfl (.tmp 27) (.tmp 29) 83 rfl (w1.heap.size + 3) 50 (.slice none 0 0) 1 24 Try.underlying83 infoPP (by rfl) (by decide) _ ku L rfl (own_below HI2.out.own (below_alloc (Below.refl _ _) _)) _ 1 [.slice ax n cx] rfl (Src.cell (heap_alloc_new _ _) (by simp [Value.oneCell'])) ?b1 ?b2 ?b3 ?_
      (case b1 => have := HUB.out; unfold maxLen; omega)
      (case b2 => have := HUB.out; omega)
      (case b3 => have := HBS2.out; simp; omega)
      intro v' w5 hown hg hat
      obtain ⟨g', cap', rfl⟩ := ownsRow_succ hown
      have HY5 := As.mk (iy_app HBO2.out HI2.out HEL2.out (by omega) HBS2.out hown hg hat)
      have hb5 := HY5.out.1.cell
      have hf5 := HY5.out.1.frozen
      clear hown hg hat hb0' hbx'
      gi_wp2
      show _ ∧ _ ∧ _
      obtain ⟨-, y1, y2, y3, y4, y5⟩ := HY5.out
      refine ⟨((KeepsOthers.of_grownBy (below_grownBy HB2.out (grown_refl w2 none)) (fun j o e => by cases e)).trans y3).from _, ⟨(HB2.out.mono HB.out.size).trans (y5.mono HS1.out), (y4 _ (by omega) (by omega)).trans (HB2.out.block _ (by have := HBS.out; omega)), (y4 _ (by omega) (by omega)).trans (HB2.out.block _ (by have := HBS.out; omega))⟩, ⟨⟨_, L ++ [.slice ax n cx], y1, ?_⟩, by have := y5.size; have := HBS2.out; omega⟩, HB.out.trans ((HB2.out.mono HB.out.size).trans (y5.mono HS1.out))⟩
      rw [HUS.out, if_neg (by decide), List.length_append, ← HKE.out]
      exact y2
  case done =>
    rintro D xs W hD hS ⟨⟨⟨v, L, hbo, hi⟩, hz⟩, hB⟩ hK
    obtain ⟨Av, cv, rfl⟩ := own_slice hi.own
    rw [uq_done hS] at hi
    have cb0 := hbo.cell
    have HI := As.mk hi
    have HB := As.mk hB
    rw [uq_done hS] at cb0
    clear hi hbo hB hS
    gi_wp2
    refine ⟨by simp, .inl ⟨_, _, rfl, run_takeDeferred hK, ?_⟩⟩
    exact ⟨_, results_tmp2 rfl _ _ _, Av, cv, _, rfl, (imgs_kept HI.out (grownBy_putObj' W D _) (fun r e => by cases e; exact ⟨_, hK, rfl⟩)).rdi, HB.out.trans (belowK_b (w := w) (Nat.le_refl _) W D _ _ (by omega) hK rfl rfl)⟩
end Go.Proofs.Yteajblfkfmopfaa.LawCrash
namespace Go.Proofs.Yteajblfkfmopfaa.LawCrash
set_option linter.unusedVariables false
set_option linter.unusedSimpArgs false
open Go Go.RowKit Go.Proofs.Yteajblfkfmopfaa.Mem Go.Proofs.Yteajblfkfmopfaa.Put32 Go.Proofs.Yteajblfkfmopfaa.Sum Go.Proofs.Yteajblfkfmopfaa.Hmac Go.Proofs.Yteajblfkfmopfaa.Parts Go.Proofs.Yteajblfkfmopfaa.Entries Go.Proofs.Yteajblfkfmopfaa.CrashApply

set_option maxHeartbeats 2000000 in
set_option maxRecDepth 100000 in
theorem outcomes_bad (w : World) (es : List (Int × List Int)) (A E : Option Addr) (n c m d : Nat) (hm : m ≤ 1000000) (h1 : RdE w E m d es) (r : Int) (hr : mayF n m es = r) (hne : ¬ r = 0) :
    Calls Try.prog 51 #[.slice A n c, .slice E m d] w fun e w' => e = .returned (.tuple #[.slice none 0 0, .int .i64 r]) ∧ Below w.heap.size w w' := by
  have HM := As.mk hm
  have HR := As.mk hr
  have H1 := As.mk h1
  have d0 : decide (r = 0) = false := decide_eq_false hne
  have d1 : (r == 0) = false := beq_eq_false_iff_ne.2 hne
  have d2 : (r != 0) = true := by rw [bne, d1]; rfl
  clear hm h1 hr hne
  go_enter Try.func51, Try.ntmps51
  go_wp2_with (go_at_call 116; refine (may_any w n E m d es HM.out H1.out).mono ?_; rintro e w2 ⟨rfl, hb⟩; rw [HR.out]; have HB2 := As.mk hb; clear hb)
  go_ret2
  exact ⟨rfl, HB2.out⟩
set_option maxHeartbeats 2000000 in
set_option maxRecDepth 100000 in
theorem outcomes_many (w : World) (es : List (Int × List Int)) (A E : Option Addr) (n c m d : Nat) (hm : m ≤ 1000000) (h10 : 10 < m) (h1 : RdE w E m d es) (hr : mayF n m es = 0) :
    Calls Try.prog 51 #[.slice A n c, .slice E m d] w fun e w' => e = .returned (.tuple #[.slice none 0 0, .int .i64 3]) ∧ Below w.heap.size w w' := by
  have HM := As.mk hm
  have HR := As.mk hr
  have H1 := As.mk h1
  have hm' : (10 : Int) < (m : Int) := by omega
  have c0 : decide ((10 : Int) < (m : Int)) = true := decide_eq_true hm'
  have c1 : decide (10 < m) = true := decide_eq_true h10
  clear hm h1 hr
  go_enter Try.func51, Try.ntmps51
  go_wp2_with (go_at_call 116; refine (may_any w n E m d es HM.out H1.out).mono ?_; rintro e w2 ⟨rfl, hb⟩; rw [HR.out]; have HB2 := As.mk hb; clear hb)
  go_ret2
  exact ⟨rfl, HB2.out⟩
theorem lit_rdp {w : World} {a b v : Nat} {T1 T2 : TypeId} (h1 : w.heap[a]? = some (.cells #[.int .u8 (v : Int)] T1 (0, 0))) (h2 : w.heap[b]? = some (.cells #[.slice (some ⟨a, 0, none⟩) 1 1] T2 (0, 0))) : RdP w (some ⟨b, 0, none⟩) 1 1 [[(v : Int)]] :=
  ⟨rfl, Nat.le_refl _, by decide, fun _ => ⟨_, rfl, fun j hj => by
    obtain rfl : j = 0 := by omega
    refine ⟨some ⟨a, 0, none⟩, 1, cell_of_row w b 0 _ _ _ h2, rfl, Nat.le_refl _, by decide, fun _ => ⟨_, rfl, fun j hj => ?_⟩⟩
    obtain rfl : j = 0 := by have : j < 1 := hj; omega
    exact cell_of_row w a 0 _ _ _ h1⟩⟩
theorem lit_rde {w : World} {a b v : Nat} {T1 T2 : TypeId} (h1 : w.heap[a]? = some (.cells #[.int .u8 (v : Int)] T1 (0, 0))) (h2 : w.heap[b]? = some (.cells #[.int .i64 0, .slice (some ⟨a, 0, none⟩) 1 1] T2 (0, 0))) : RdE w (some ⟨b, 0, none⟩) 1 1 [(0, [(v : Int)])] :=
  ⟨rfl, Nat.le_refl _, by decide, fun _ => ⟨_, rfl, fun j hj => by
    obtain rfl : j = 0 := by omega
    refine ⟨some ⟨a, 0, none⟩, 1, cell_of_row w b 0 _ _ _ h2, cell_of_row w b 1 _ _ _ h2, rfl, Nat.le_refl _, by decide, fun _ => ⟨_, rfl, fun j hj => ?_⟩⟩
    obtain rfl : j = 0 := by have : j < 1 := hj; omega
    exact cell_of_row w a 0 _ _ _ h1⟩⟩
theorem outcomes_lit (w : World) (v k : Nat) (hv : v ≤ 255) (hk : (outF [[1]] [(0, [(v : Int)])] 2).length = k) (T1 T2 T3 T4 : TypeId) :
    Calls Try.prog 51 #[.slice (some ⟨w.heap.size + 1, 0, none⟩) 1 1, .slice (some ⟨w.heap.size + 1 + 1 + 1, 0, none⟩) 1 1] ((((w.alloc (.cells #[.int .u8 1] T1)).alloc (.cells #[.slice (some ⟨w.heap.size, 0, none⟩) 1 1] T2)).alloc (.cells #[.int .u8 (v : Int)] T3)).alloc (.cells #[.int .i64 0, .slice (some ⟨w.heap.size + 1 + 1, 0, none⟩) 1 1] T4)) fun e w' => ∃ A c, e = .returned (.tuple #[.slice A k c, .int .i64 0]) ∧ Below w.heap.size w w' := by
  have hb : Below w.heap.size w ((((w.alloc (.cells #[.int .u8 1] T1)).alloc (.cells #[.slice (some ⟨w.heap.size, 0, none⟩) 1 1] T2)).alloc (.cells #[.int .u8 (v : Int)] T3)).alloc (.cells #[.int .i64 0, .slice (some ⟨w.heap.size + 1 + 1, 0, none⟩) 1 1] T4)) := below_alloc (below_alloc (below_alloc (below_alloc (Below.refl _ _) _) _) _) _
  have g1 := alloc3_0 w (.cells #[.int .u8 1] T1) (.cells #[.slice (some ⟨w.heap.size, 0, none⟩) 1 1] T2) (.cells #[.int .u8 (v : Int)] T3)
  have g2 := alloc3_1 w (.cells #[.int .u8 1] T1) (.cells #[.slice (some ⟨w.heap.size, 0, none⟩) 1 1] T2) (.cells #[.int .u8 (v : Int)] T3)
  have g3 := alloc3_2 w (.cells #[.int .u8 1] T1) (.cells #[.slice (some ⟨w.heap.size, 0, none⟩) 1 1] T2) (.cells #[.int .u8 (v : Int)] T3)
  have gs := alloc3_size w (.cells #[.int .u8 1] T1) (.cells #[.slice (some ⟨w.heap.size, 0, none⟩) 1 1] T2) (.cells #[.int .u8 (v : Int)] T3)
  generalize ((w.alloc _).alloc _).alloc _ = w3 at *
  have hba := below_alloc (Below.refl w3.heap.size w3) (.cells #[.int .i64 0, .slice (some ⟨w.heap.size + 1 + 1, 0, none⟩) 1 1] T4)
  have g4 := heap_alloc_new w3 (.cells #[.int .i64 0, .slice (some ⟨w.heap.size + 1 + 1, 0, none⟩) 1 1] T4)
  rw [gs] at g4
  have g1 := (hba.block _ (by omega)).trans g1
  have g2 := (hba.block _ (by omega)).trans g2
  have g3 := (hba.block _ (by omega)).trans g3
  generalize w3.alloc _ = w4 at *
  refine (outcomes_ok w4 [[1]] [(0, [(v : Int)])] _ _ 1 1 1 1 2 (by decide) (by decide) rfl (lit_rdp (v := 1) g1 g2) (lit_rde g3 g4) ?_ ?_ ?_ ?_ ?_).mono ?_
  · intro p hp; simp at hp; subst hp; decide
  · intro p hp; simp at hp; subst hp; simp
  · intro p hp; simp at hp; subst hp; intro x hx; simp at hx; subst hx; decide
  · intro p hp; simp at hp; subst hp; intro x hx; simp at hx; subst hx; constructor <;> omega
  · rfl
  · rintro e w' ⟨A', c', k', rfl, hr, hb2⟩
    have := hr.len
    obtain rfl : k = k' := by omega
    exact ⟨A', c', rfl, hb.trans (hb2.mono hb.size)⟩
set_option maxHeartbeats 2000000 in
set_option maxRecDepth 100000 in
theorem awake_true (w : World) : Calls Try.prog 43 #[] w fun e w' => e = .returned (.bool true) ∧ Below w.heap.size w w' := by
  have HA := As.mk fun w => outcomes_lit w 2 2 (by decide) (by decide)
  have HB := As.mk fun w => outcomes_lit w 1 1 (by decide) (by decide)
  go_enter Try.func43, Try.ntmps43
  go_wp2_with (go_at_call 51; refine As.out ?_)
  refine As.mk ?_
  refine (HA.out w _ _ _ _).mono ?_
  rintro e w1 ⟨A1, c1, rfl, hb⟩
  have HB1 := As.mk hb
  clear hb
  go_wp2_with (go_at_call 51; refine As.out ?_)
  refine As.mk ?_
  refine (HB.out w1 _ _ _ _).mono ?_
  rintro e w2 ⟨A2, c2, rfl, hb⟩
  have HB2 := As.mk (below_step HB1.out hb)
  clear hb
  go_wp2
  go_ret
  exact ⟨rfl, HB2.out⟩
end Go.Proofs.Yteajblfkfmopfaa.LawCrash
