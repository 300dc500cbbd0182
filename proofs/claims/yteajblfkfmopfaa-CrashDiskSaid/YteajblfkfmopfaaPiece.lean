/- sha.piece: the numbers behind a piece. -/
import Derived.Test.YteajblfkfmopfaaSchedule
namespace Go.Proofs.Yteajblfkfmopfaa.Piece
set_option linter.unusedVariables false
set_option linter.unusedSimpArgs false
open Go Go.RowKit Go.Proofs.Yteajblfkfmopfaa.Mem Go.Proofs.Yteajblfkfmopfaa.W32 Go.Proofs.Yteajblfkfmopfaa.Turns Go.Proofs.Yteajblfkfmopfaa.Kinds Go.Proofs.Yteajblfkfmopfaa.Schedule

/-- the first n words of s, as an array -/
def arr (s : Nat → W) (n : Nat) : Array Value := ((List.range n).map fun j => Value.int .u32 ((s j).toNat : Int)).toArray
theorem arr_size (s : Nat → W) (n : Nat) : (arr s n).size = n := by simp [arr]
theorem arr_at (s : Nat → W) (n j : Nat) (h : j < n) : (arr s n)[j]? = some (.int .u32 ((s j).toNat : Int)) := by simp [arr, h]
theorem arr_one (s : Nat → W) (n : Nat) : (arr s n).all (·.oneCell') = true := by
  rw [Array.all_eq_true]
  intro j hj
  simp [arr, Value.oneCell']
theorem arr_congr (s t : Nat → W) (n : Nat) (h : ∀ j, j < n → s j = t j) : arr s n = arr t n := by
  unfold arr
  congr 1
  refine List.map_congr_left fun j hj => ?_
  rw [h j (by simpa using hj)]
theorem arr_of (C : Array Value) (s : Nat → W) (n : Nat) (hs : C.size = n) (h : ∀ j, j < n → C[j]? = some (.int .u32 ((s j).toNat : Int))) : C = arr s n := by
  apply Array.ext
  · rw [hs, arr_size]
  · intro j h1 h2
    have a := h j (by omega)
    have b := arr_at s n j (by omega)
    rw [Array.getElem?_eq_getElem h1] at a
    rw [Array.getElem?_eq_getElem h2] at b
    injection a with a
    injection b with b
    rw [a, b]

def one (k w : W) (s : Nat → W) : W := s 7 + turns (s 4) 6 11 25 + (s 4 &&& s 5 ||| ~~~(s 4) &&& s 6) + k + w
def two (s : Nat → W) : W := turns (s 0) 2 13 22 + (s 0 &&& s 1 ||| s 0 &&& s 2 ||| s 1 &&& s 2)
/-- one step -/
def step (k w : W) (s : Nat → W) : Nat → W
  | 0 => one k w s + two s
  | 1 => s 0
  | 2 => s 1
  | 3 => s 2
  | 4 => s 3 + one k w s
  | 5 => s 4
  | 6 => s 5
  | 7 => s 6
  | _ => 0
def rounds (K : Nat → W) (p : List Int) (s : Nat → W) : Nat → (Nat → W)
  | 0 => s
  | t + 1 => step (K t) (sched p t) (rounds K p s t)
/-- the numbers behind a piece -/
def piece (K : Nat → W) (p : List Int) (s : Nat → W) : Nat → W := fun j => s j + rounds K p s 64 j

theorem eq8 (t : Nat → W) (a0 a1 a2 a3 a4 a5 a6 a7 : Int) (h0 : a0 = ((t 0).toNat : Int)) (h1 : a1 = ((t 1).toNat : Int)) (h2 : a2 = ((t 2).toNat : Int)) (h3 : a3 = ((t 3).toNat : Int)) (h4 : a4 = ((t 4).toNat : Int)) (h5 : a5 = ((t 5).toNat : Int)) (h6 : a6 = ((t 6).toNat : Int)) (h7 : a7 = ((t 7).toNat : Int)) :
    #[Value.int .u32 a0, .int .u32 a1, .int .u32 a2, .int .u32 a3, .int .u32 a4, .int .u32 a5, .int .u32 a6, .int .u32 a7] = arr t 8 := by
  rw [h0, h1, h2, h3, h4, h5, h6, h7]; rfl
theorem w_notx (x : W) : bits .xor .u32 IntKind.u32.max (x.toNat : Int) = ((~~~x).toNat : Int) := by
  have h : IntKind.u32.max = (((-1 : W)).toNat : Int) := by decide
  rw [h, w_xor]
  congr 2
theorem arr_set (f : Nat → W) (n i : Nat) (x : W) : (arr f n).setIfInBounds i (.int .u32 (x.toNat : Int)) = arr (fun j => if j = i then x else f j) n := by
  apply Array.ext
  · simp [arr]
  · intro j h1 h2
    have hj : j < n := by simpa [arr] using h2
    rw [Array.getElem_setIfInBounds (by rw [arr_size]; exact hj)]
    by_cases e : i = j
    · subst e; simp [arr]
    · have e' : ¬ j = i := fun h => e h.symm
      simp [arr, e, e']
theorem z8 : (Try.prog.info? 252).map (fun i => (i.zero, i.size)) = some (some (.agg (arr (fun _ => 0) 8)), (arr (fun _ => 0) 8).size) := by kernel_rfl
theorem uArr8 : Try.prog.underlying 252 = some (.array 8 240) := by kernel_rfl
theorem n8 (s : Nat → W) : (Try.prog.info? 252).map (·.size) = some (arr s 8).size := by rw [arr_size]; kernel_rfl

theorem turns_quiet (x : W) (w : World) (a b c : Nat) (i j k : Int) (hi : (a : Int) = i) (hj : (b : Int) = j) (hk : (c : Int) = k) (ha : a ∈ [2, 6, 7, 11, 13, 17, 18, 19, 22, 25]) (hb : b ∈ [2, 6, 7, 11, 13, 17, 18, 19, 22, 25]) (hc : c ∈ [2, 6, 7, 11, 13, 17, 18, 19, 22, 25]) :
    Calls Try.prog 237 #[.int .u32 (x.toNat : Int), .int .i64 i, .int .i64 j, .int .i64 k] w fun e w' => e = .returned (.int .u32 ((turns x a b c).toNat : Int)) ∧ w' = w := by
  subst hi; subst hj; subst hk
  exact (Turns.any x w a b c ha hb hc).mono fun _ _ ⟨h, e⟩ => ⟨h, e.symm⟩

set_option maxHeartbeats 2000000 in
set_option maxRecDepth 100000 in
theorem piece_any (K s : Nat → W) (p : List Int) (hp : Byte p) (A : Option Addr) (c kb : Nat) (w : World) (h0 : Rd .u8 w A 64 c p) (hkb : kb < w.heap.size) (hK : ∀ j, j < 64 → w.cell? ⟨kb, j, none⟩ = some (.int .u32 ((K j).toNat : Int))) :
    Calls Try.prog 220 #[.agg (arr s 8), .pointer (some ⟨kb, 0, none⟩), .slice A 64 c] w fun e w' => e = .returned (.agg (arr (piece K p s) 8)) ∧ Below w.heap.size w w' := by
  have HP := As.mk hp
  have HK := As.mk hK
  clear hp hK
  go_enter Try.func220, Try.ntmps220
  go_wp2_with (first
    | (refine wpList_boxArr rfl 252 _ rfl (arr s 8) rfl ?_)
    | (refine wpList_allocArr rfl 252 rfl (arr (fun _ => 0) 8) z8 ?_)
    | (refine wpList_load_row rfl 252 _ rfl w.heap.size rfl 252 (arr s 8) (0, 0) _ (heap_alloc2_old w _ _) uArr8 rfl (n8 s) ?_)
    | (refine wpList_storeNew rfl rfl 252 _ _ rfl rfl (arr s 8) rfl 252 (arr (fun _ => 0) 8) (n8 s) rfl (arr_one s 8) ?_)
    | (go_at_call 236; (with_reducible refine (sched_any p HP.out A c _ (h0.below (below_alloc (below_alloc (below_alloc (Below.refl _ w) _) _) _))).mono ?_); rintro e w1 ⟨C, rfl, hb, hs, hc⟩; have HB := As.mk hb; have HC := As.mk (arr_of C (sched p) 64 hs hc); clear hb hs hc))
  have HS1 := As.mk ((HB.out.block w.heap.size (by rw [alloc3_size]; omega)).trans (alloc3_0 w _ _ _))
  have HR1 := As.mk ((HB.out.block (w.heap.size + 1) (by rw [alloc3_size]; omega)).trans (alloc3_1 w _ _ _))
  have HV1 := As.mk ((HB.out.block (w.heap.size + 1 + 1) (by rw [alloc3_size]; omega)).trans (alloc3_2 w _ _ _))
  have HB1 := As.mk (below_step (below_alloc (below_alloc (below_alloc (Below.refl _ w) _) _) _) HB.out)
  clear HB
  go_loopg [18] 64 (fun kq v18 wr => ∃ i : Nat, i + kq = 64 ∧ v18 = .int .i64 i ∧ As (Below w.heap.size w wr) ∧ As (wr.heap[w.heap.size]? = some (.cells (arr s 8) 252 (0, 0))) ∧
    As (wr.heap[w.heap.size + 1]? = some (.cells (arr (fun _ => 0) 8) 252 (0, 0))) ∧ As (wr.heap[w.heap.size + 1 + 1]? = some (.cells (arr (rounds K p s i) 8) 252 (0, 0))))
  case atStart => exact ⟨0, by omega, rfl, HB1, HS1, HR1, HV1⟩
  case round =>
    clear HS1 HR1 HV1 HB1
    obtain ⟨i, hi, rfl, HB, HS, HR, HV⟩ := hrel
    have HI := As.mk hi
    clear hi
    by_cases hlt : i < 64
    · have c0 : decide ((i : Int) < 64) = true := decide_eq_true (by omega)
      have c1 : decide (i < 64) = true := decide_eq_true hlt
      have Li : (i : Int) < 64 := by omega
      have hw : wrap64 ((i : Int) + 1) = ((i + 1 : Nat) : Int) := wrap_up (by omega)
      obtain ⟨r, hr⟩ : ∃ r, r = rounds K p s i := ⟨_, rfl⟩
      have HRR := As.mk hr
      rw [← hr] at HV
      clear hr
      obtain ⟨q, hq⟩ : ∃ q, q = sched p i := ⟨_, rfl⟩
      have HQ := As.mk hq
      have hix := fun w => run_index_arr (P := Try.prog) w 250 240 64 .u32 _ _ Kinds.uArr64 Try.underlying240 (rfl : (Try.prog.info? 240).map (fun i => (i.zero, i.size, i.bytes)) = some (some (.int .u32 0), 1, 4)) C i hlt (.int .u32 ((q).toNat : Int)) (by rw [HC.out, hq]; exact arr_at _ _ _ hlt) .i64
      clear hq
      have hki : wr.cell? ⟨kb, i, none⟩ = some (.int .u32 ((K i).toNat : Int)) := (HB.out.cell (p := ⟨kb, i, none⟩) hkb).trans (HK.out i hlt)
      obtain ⟨ki, hki0⟩ : ∃ ki, ki = K i := ⟨_, rfl⟩
      rw [← hki0] at hki
      have HKI := As.mk hki0
      clear hki0
      have cv : ∀ j, j < 8 → wr.cell? ⟨w.heap.size + 1 + 1, j, none⟩ = some (.int .u32 ((r j).toNat : Int)) := fun j hj => by rw [cell_of_row wr _ j _ _ _ HV.out]; exact arr_at _ _ _ hj
      have v0 := cv 0 (by omega)
      have v1 := cv 1 (by omega)
      have v2 := cv 2 (by omega)
      have v3 := cv 3 (by omega)
      have v4 := cv 4 (by omega)
      have v5 := cv 5 (by omega)
      have v6 := cv 6 (by omega)
      have v7 := cv 7 (by omega)
      clear cv
      go_wp2
      go_quiet (fail)
      go_wp2
      go_quiet ((go_at_call 237; exact quietAdd (turns_quiet (r 4) _ 6 11 25 6 11 25 rfl rfl rfl (by decide) (by decide) (by decide))))
      go_wp2
      go_quiet ((go_at_call 237; exact quietAdd (turns_quiet (r 0) _ 2 13 22 2 13 22 rfl rfl rfl (by decide) (by decide) (by decide))))
      go_wp2_with (refine wpList_storeArr rfl rfl 252 (.tmp 7) (.tmp 87) rfl (w.heap.size + 1 + 1) rfl _ rfl 252 (arr r 8) HV.out (by kernel_rfl) (by rw [arr_size]; kernel_rfl) (by kernel_rfl) ?_)
      clear hw
      have hw : wrap64 ((i : Int) + 1) = ((i + 1 : Nat) : Int) := wrap_up (by omega)
      go_roundg (64 - (i + 1))
      case measure => have := HI.out; omega
      case rel =>
        refine ⟨i + 1, by have := HI.out; omega, by go_num, ⟨below_setRow (below_drewN HB.out _) (by omega) _⟩, ⟨(setRow_far _ _ _ _ (by omega)).trans HS.out⟩, ⟨(setRow_far _ _ _ _ (by omega)).trans HR.out⟩, ⟨(setRow_new _ _ (arr r 8) _ _ HV.out).trans ?_⟩⟩
        refine congrArg (fun c => some (Obj.cells c 252 (0, 0))) ?_
        show _ = arr (step (K i) (sched p i) (rounds K p s i)) 8
        rw [← HRR.out, ← HQ.out, ← HKI.out]
        refine eq8 _ _ _ _ _ _ _ _ _ ?_ rfl rfl rfl ?_ rfl rfl rfl
        · simp only [w_notx, w_and, w_or]
          show _ = ((one ki q r + two r).toNat : Int)
          unfold one two
          simp only [BitVec.toNat_add]
          omega
        · simp only [w_notx, w_and, w_or]
          show _ = ((r 3 + one ki q r).toNat : Int)
          unfold one
          simp only [BitVec.toNat_add]
          omega
    · have c0 : decide ((i : Int) < 64) = false := decide_eq_false (by omega)
      have c1 : decide (i < 64) = false := decide_eq_false hlt
      obtain rfl : i = 64 := by have := HI.out; omega
      clear HI HC
      obtain ⟨v, hv⟩ : ∃ v, v = rounds K p s 64 := ⟨_, rfl⟩
      have HVV := As.mk hv
      rw [← hv] at HV
      clear hv
      go_wp2
      go_loopg [89] 8 (fun kq v89 wq => ∃ i : Nat, i + kq = 8 ∧ v89 = .int .i64 i ∧ As (Below w.heap.size w wq) ∧ As (wq.heap[w.heap.size]? = some (.cells (arr (fun j => if j < i then s j + v j else s j) 8) 252 (0, 0))) ∧
        As (wq.heap[w.heap.size + 1]? = some (.cells (arr (fun _ => 0) 8) 252 (0, 0))) ∧ As (wq.heap[w.heap.size + 1 + 1]? = some (.cells (arr v 8) 252 (0, 0))))
      case atStart => exact ⟨0, by omega, rfl, HB, ⟨by rw [HS.out]; rfl⟩, HR, HV⟩
      case round =>
        clear HS HR HV HB
        obtain ⟨i, hi, rfl, HB, HS, HR, HV⟩ := hrel
        have HI := As.mk hi
        clear hi
        by_cases hlt : i < 8
        · have c0 : decide ((i : Int) < 8) = true := decide_eq_true (by omega)
          have c1 : decide (i < 8) = true := decide_eq_true hlt
          have Li : (i : Int) < 8 := by omega
          have hw : wrap64 ((i : Int) + 1) = ((i + 1 : Nat) : Int) := wrap_up (by omega)
          have x0 : wr.cell? ⟨w.heap.size, i, none⟩ = some (.int .u32 ((s i).toNat : Int)) := by
            rw [cell_of_row wr _ i _ _ _ HS.out, arr_at _ _ _ hlt, if_neg (by omega)]
          have x1 : wr.frozen? ⟨w.heap.size, i, none⟩ = false := frozen_of_row wr _ i _ _ HS.out
          have x2 : wr.cell? ⟨w.heap.size + 1 + 1, i, none⟩ = some (.int .u32 ((v i).toNat : Int)) := by
            rw [cell_of_row wr _ i _ _ _ HV.out, arr_at _ _ _ hlt]
          go_wp2
          refine still_tail 8 (by kernel_rfl) (by kernel_rfl) ?_
          simp only [List.take_succ_cons, List.take_zero, List.drop_succ_cons, List.drop_zero]
          repeat still_step
          refine wpStill_nil ?_
          go_wp2
          go_roundg (8 - (i + 1))
          case measure => have := HI.out; omega
          case rel =>
            refine ⟨i + 1, by have := HI.out; omega, by go_num, ⟨(below_drewN HB.out _).setCell (Nat.le_refl _) _⟩, ⟨(heap_setCell_same _ _ _ _ _ _ HS.out).trans ?_⟩, ⟨(Below.heap_setCell _ _ _ _ (by show w.heap.size + 1 ≠ w.heap.size; omega)).trans HR.out⟩, ⟨(Below.heap_setCell _ _ _ _ (by show w.heap.size + 1 + 1 ≠ w.heap.size; omega)).trans HV.out⟩⟩
            refine congrArg (fun c => some (Obj.cells c 252 (0, 0))) ?_
            have e : Value.int .u32 ((((s i).toNat : Int) + ((v i).toNat : Int)) % 4294967296) = .int .u32 ((s i + v i).toNat : Int) :=
              congrArg (Value.int .u32) (by rw [BitVec.toNat_add]; omega)
            rw [e, arr_set]
            refine arr_congr _ _ _ fun j _ => ?_
            by_cases h : j = i
            · subst h; simp
            · simp only [if_neg h]
              by_cases h2 : j < i
              · rw [if_pos h2, if_pos (by omega)]
              · rw [if_neg h2, if_neg (by omega)]
        · have c0 : decide ((i : Int) < 8) = false := decide_eq_false (by omega)
          have c1 : decide (i < 8) = false := decide_eq_false hlt
          obtain rfl : i = 8 := by have := HI.out; omega
          have HF : As (wr.heap[w.heap.size]? = some (.cells (arr (piece K p s) 8) 252 (0, 0))) := ⟨HS.out.trans (congrArg (fun c => some (Obj.cells c 252 (0, 0))) (arr_congr _ _ _ fun j hj => by
            rw [if_pos hj, HVV.out]; rfl))⟩
          clear HI HS
          go_wp2_with (first
            | (refine wpList_load_row rfl 252 (.tmp 3) rfl w.heap.size rfl 252 (arr (piece K p s) 8) (0, 0) _ HF.out uArr8 rfl (n8 _) ?_)
            | (refine wpList_storeArr rfl rfl 252 (.tmp 6) (.tmp 101) rfl (w.heap.size + 1) rfl (arr (piece K p s) 8) rfl 252 (arr (fun _ => 0) 8) HR.out (n8 _) (by rw [arr_size, arr_size]) (arr_one _ _) ?_))
          refine bodyPost_ret (v := .agg (arr (piece K p s) 8)) ?_ rfl ⟨rfl, below_setRow HB.out (by omega) _⟩
          exact results_cell_row Try.results220 _ _ (w.heap.size + 1) 252 (arr (piece K p s) 8) (0, 0) _ rfl (setRow_new wr (w.heap.size + 1) (arr (fun _ => 0) 8) _ _ HR.out) uArr8 rfl (n8 _)

end Go.Proofs.Yteajblfkfmopfaa.Piece
