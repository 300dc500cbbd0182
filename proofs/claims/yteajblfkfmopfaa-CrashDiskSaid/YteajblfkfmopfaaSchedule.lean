/- sha.schedule: a piece's words. -/
import Derived.Test.YteajblfkfmopfaaKinds
import Derived.StillTactics
namespace Go.Proofs.Yteajblfkfmopfaa.Schedule
set_option linter.unusedVariables false
set_option linter.unusedSimpArgs false
open Go Go.RowKit Go.Proofs.Yteajblfkfmopfaa.Mem Go.Proofs.Yteajblfkfmopfaa.W32 Go.Proofs.Yteajblfkfmopfaa.Turns Go.Proofs.Yteajblfkfmopfaa.Kinds

def s0 (x : W) : W := rot x 7 ^^^ rot x 18 ^^^ x >>> 3
def s1 (x : W) : W := rot x 17 ^^^ rot x 19 ^^^ x >>> 10
/-- the words of a piece -/
def sched (p : List Int) (t : Nat) : W :=
  if h : t < 16 then word p (4 * t) else sched p (t - 16) + s0 (sched p (t - 15)) + sched p (t - 7) + s1 (sched p (t - 2))
termination_by t
decreasing_by all_goals omega
theorem sched_lo (p : List Int) (t : Nat) (h : t < 16) : sched p t = word p (4 * t) := by rw [sched, dif_pos h]
theorem sched_hi (p : List Int) (t : Nat) (h : ¬ t < 16) : sched p t = sched p (t - 16) + s0 (sched p (t - 15)) + sched p (t - 7) + s1 (sched p (t - 2)) := by rw [sched, dif_neg h]

theorem expr (a b c d : W) : ((a.toNat : Int) + bits .xor .u32 (bits .xor .u32 ((rot b 7).toNat : Int) ((rot b 18).toNat : Int)) ((b.toNat : Int) / (8 : Int)) + (c.toNat : Int) +
      bits .xor .u32 (bits .xor .u32 ((rot d 17).toNat : Int) ((rot d 19).toNat : Int)) ((d.toNat : Int) / (1024 : Int))) % 4294967296 = ((a + s0 b + c + s1 d).toNat : Int) := by
  have e8 : (b.toNat : Int) / (8 : Int) = ((b >>> 3).toNat : Int) := w_shr b 3
  have e10 : (d.toNat : Int) / (1024 : Int) = ((d >>> 10).toNat : Int) := w_shr d 10
  rw [e8, e10, w_xor, w_xor, w_xor, w_xor]
  show ((a.toNat : Int) + ((s0 b).toNat : Int) + (c.toNat : Int) + ((s1 d).toNat : Int)) % 4294967296 = _
  rw [BitVec.toNat_add, BitVec.toNat_add, BitVec.toNat_add]
  omega

theorem rot_still (x : W) (w : World) (n : Nat) (k : Int) (hk : (n : Int) = k) (hn : n ∈ [2, 6, 7, 11, 13, 17, 18, 19, 22, 25]) :
    Calls Try.prog 250 #[.int .u32 (x.toNat : Int), .int .i64 k] w fun e w' => e = .returned (.int .u32 ((rot x n).toNat : Int)) ∧ w' = w := by
  subst hk
  exact (Rotate.any x w n hn).mono fun _ _ ⟨h, e⟩ => ⟨h, e.symm⟩

theorem nth_sub (x : List Int) (l d j : Nat) (h : j < d) : nth ((x.drop l).take d) j = nth x (l + j) := by
  simp only [nth, List.getD_eq_getElem?_getD]
  rw [List.getElem?_take_of_lt h, List.getElem?_drop]
theorem word_sub (x : List Int) (l : Nat) : word ((x.drop l).take 4) 0 = word x l := by
  unfold word
  rw [nth_sub _ _ _ _ (by omega), nth_sub _ _ _ _ (by omega), nth_sub _ _ _ _ (by omega), nth_sub _ _ _ _ (by omega)]
  rfl
theorem byte_sub {x : List Int} (h : Byte x) (l d : Nat) : Byte ((x.drop l).take d) := fun y hy => h y (List.mem_of_mem_drop (List.mem_of_mem_take hy))

set_option maxHeartbeats 1000000 in
set_option maxRecDepth 100000 in
theorem sched_any (p : List Int) (hp : Byte p) (A : Option Addr) (c : Nat) (w : World) (h0 : Rd .u8 w A 64 c p) :
    Calls Try.prog 236 #[.slice A 64 c] w fun e w' => ∃ C : Array Value, e = .returned (.agg C) ∧ Below w.heap.size w w' ∧ C.size = 64 ∧ ∀ j, j < 64 → C[j]? = some (.int .u32 ((sched p j).toNat : Int)) := by
  have HP := As.mk hp
  clear hp
  go_enter Try.func236, Try.ntmps236
  go_wp2_with (refine wpList_allocArr rfl 250 rfl Z64 z64 ?_)
  go_loopg [7] 64 (fun kq v7 wr => ∃ i : Nat, i + kq = 64 ∧ v7 = .int .i64 i ∧ As (Below w.heap.size w wr) ∧ As (wr.heap[w.heap.size]? = some (.cells Z64 250 (0, 0))) ∧ As (wr.rowIs (w.heap.size + 1) 250 64 (fun j => if j < i then .int .u32 ((sched p j).toNat : Int) else .int .u32 0)))
  case atStart =>
    refine ⟨0, by omega, rfl, ⟨below_alloc (below_alloc (Below.refl _ _) _) _⟩, ⟨heap_alloc2_old w _ _⟩, ⟨_, heap_alloc2_new w _ _, rfl, fun i hi => ?_⟩⟩
    show Z64[i]? = some (if i < 0 then _ else _)
    rw [if_neg (by omega)]
    simp only [Z64, vals, List.map_replicate, List.getElem?_toArray, List.getElem?_replicate, if_pos hi]
  case round =>
    obtain ⟨i, hi, rfl, HB, HZ, HR⟩ := hrel
    have HK := As.mk hi
    clear hi
    by_cases hlt : i < 64
    · have c0 : decide ((i : Int) < 64) = true := decide_eq_true (by omega)
      have c1 : decide (i < 64) = true := decide_eq_true hlt
      have HLT := As.mk hlt
      have hw : wrap64 ((i : Int) + 1) = ((i + 1 : Nat) : Int) := wrap_up (by omega)
      have t1 : wr.cell? ⟨w.heap.size + 1, i, none⟩ = some (.int .u32 0) := by
        have := HR.out.cell hlt
        rwa [if_neg (by omega)] at this
      have t2 : wr.frozen? ⟨w.heap.size + 1, i, none⟩ = false := HR.out.frozen i
      have hbz : w.heap.size + 1 < wr.heap.size := HR.out.lt
      by_cases h16 : i < 16
      · have d0 : decide ((i : Int) < 16) = true := decide_eq_true (by omega)
        obtain ⟨l, hl⟩ : ∃ l : Nat, l = 4 * i := ⟨_, rfl⟩
        obtain ⟨h, hh⟩ : ∃ h : Nat, h = l + 4 := ⟨_, rfl⟩
        have hsl := run_cut_named (P := Try.prog) 37 5 Try.underlying37 CloneB.info A 64 c l h 4 .i64 .i64 hh (by have := h0.le; omega)
        have HG := As.mk ((h0.below HB.out).cutn l h 4 hh (by omega))
        have HL := As.mk hl
        have m1 : IntKind.i64.wrap ((4 : Int) * i) = (l : Int) := by rw [IntKind.wrap_i64]; omega
        have m2 : IntKind.i64.wrap ((l : Int) + 4) = (h : Int) := by rw [IntKind.wrap_i64]; omega
        have m3 : (4 : Int) * i = (l : Int) := by omega
        have m4 : (l : Int) + 4 = (h : Int) := by omega
        clear hl hh
        have HV : As (word ((p.drop l).take 4) 0 = sched p i) := ⟨by rw [word_sub, sched_lo p i h16, HL.out]⟩
        have HB4 := As.mk (byte_sub HP.out l 4)
        go_wp2_with (go_at_call 249; (with_reducible refine (get32 _ HB4.out _ _ _ HG.out).mono ?_); rintro e w3 ⟨rfl, n3, rfl⟩; rw [HV.out])
        clear m1 m2 m3 m4 hsl
        go_roundg (64 - (i + 1))
        case measure => have := HK.out; omega
        case rel => exact ⟨i + 1, by have := HK.out; omega, by go_num, ⟨(below_drewN HB.out _).setCell (by show w.heap.size ≤ w.heap.size + 1; omega) _⟩, ⟨by
            rw [Below.heap_setCell _ _ _ _ (by show w.heap.size ≠ w.heap.size + 1; omega)]; exact HZ.out⟩, ⟨(World.rowIs.set (rowIs_drewN HR.out _) i _).congr (fun j _ => by
          by_cases e : j = i
          · subst e; rw [if_pos rfl, if_pos (by omega)]
          · rw [if_neg e]
            by_cases hlt : j < i
            · rw [if_pos hlt, if_pos (by omega)]
            · rw [if_neg hlt, if_neg (by omega)])⟩⟩
      · have d0 : decide ((i : Int) < 16) = false := decide_eq_false (by omega)
        have cell : ∀ d : Nat, d ≤ i → 0 < d → wr.cell? ⟨w.heap.size + 1, i - d, none⟩ = some (.int .u32 ((sched p (i - d)).toNat : Int)) := fun d hd h0 => by
          have := HR.out.cell (i := i - d) (by omega)
          rwa [if_pos (by omega)] at this
        obtain ⟨a15, e15⟩ : ∃ a : Nat, a = i - 15 := ⟨_, rfl⟩
        obtain ⟨a2, e2⟩ : ∃ a : Nat, a = i - 2 := ⟨_, rfl⟩
        obtain ⟨a16, e16⟩ : ∃ a : Nat, a = i - 16 := ⟨_, rfl⟩
        obtain ⟨a7, e7⟩ : ∃ a : Nat, a = i - 7 := ⟨_, rfl⟩
        have c15 : wr.cell? ⟨w.heap.size + 1, a15, none⟩ = some (.int .u32 ((sched p a15).toNat : Int)) := by rw [e15]; exact cell 15 (by omega) (by omega)
        have c2 : wr.cell? ⟨w.heap.size + 1, a2, none⟩ = some (.int .u32 ((sched p a2).toNat : Int)) := by rw [e2]; exact cell 2 (by omega) (by omega)
        have c16 : wr.cell? ⟨w.heap.size + 1, a16, none⟩ = some (.int .u32 ((sched p a16).toNat : Int)) := by rw [e16]; exact cell 16 (by omega) (by omega)
        have c7 : wr.cell? ⟨w.heap.size + 1, a7, none⟩ = some (.int .u32 ((sched p a7).toNat : Int)) := by rw [e7]; exact cell 7 (by omega) (by omega)
        have HV : As (sched p a16 + s0 (sched p a15) + sched p a7 + s1 (sched p a2) = sched p i) := ⟨by rw [sched_hi p i h16, e15, e2, e16, e7]⟩
        have l15 : a15 < 64 := by omega
        have l2 : a2 < 64 := by omega
        have l16 : a16 < 64 := by omega
        have l7 : a7 < 64 := by omega
        have q15 : (i : Int) - 15 = (a15 : Int) := by omega
        have q2 : (i : Int) - 2 = (a2 : Int) := by omega
        have q16 : (i : Int) - 16 = (a16 : Int) := by omega
        have q7 : (i : Int) - 7 = (a7 : Int) := by omega
        have r15 : IntKind.i64.wrap ((i : Int) - 15) = (a15 : Int) := by rw [IntKind.wrap_i64]; omega
        have r2 : IntKind.i64.wrap ((i : Int) - 2) = (a2 : Int) := by rw [IntKind.wrap_i64]; omega
        have r16 : IntKind.i64.wrap ((i : Int) - 16) = (a16 : Int) := by rw [IntKind.wrap_i64]; omega
        have r7 : IntKind.i64.wrap ((i : Int) - 7) = (a7 : Int) := by rw [IntKind.wrap_i64]; omega
        have x16 : IntKind.i64.wrap (a16 : Int) = (a16 : Int) := by rw [IntKind.wrap_i64]; omega
        have x7 : IntKind.i64.wrap (a7 : Int) = (a7 : Int) := by rw [IntKind.wrap_i64]; omega
        have L16 : (a16 : Int) < 64 := by omega
        have L7 : (a7 : Int) < 64 := by omega
        have Li : (i : Int) < 64 := by omega
        clear e15 e2 e16 e7 cell
        go_wp2
        go_quiet (fail)
        go_wp2_with fail
        refine still_tail 29 (by kernel_rfl) (by kernel_rfl) ?_
        simp only [List.take_succ_cons, List.take_zero, List.drop_succ_cons, List.drop_zero]
        repeat still_step
        still_call (rot_still (sched p a15) _ 7 7 rfl (by decide))
        repeat still_step
        still_call (rot_still (sched p a15) _ 18 18 rfl (by decide))
        repeat still_step
        still_call (rot_still (sched p a2) _ 17 17 rfl (by decide))
        repeat still_step
        still_call (rot_still (sched p a2) _ 19 19 rfl (by decide))
        repeat still_step
        refine wpStill_nil ?_
        simp only [World.drewN_drewN]
        go_wp2
        clear q15 q2 q16 q7 r15 r2 r16 r7 x16 x7
        go_roundg (64 - (i + 1))
        case measure => have := HK.out; omega
        case rel =>
          refine ⟨i + 1, by have := HK.out; omega, by go_num, ⟨(below_drewN HB.out _).setCell (by show w.heap.size ≤ w.heap.size + 1; omega) _⟩, ⟨by
            rw [Below.heap_setCell _ _ _ _ (by show w.heap.size ≠ w.heap.size + 1; omega)]; exact HZ.out⟩, ⟨(World.rowIs.set (rowIs_drewN HR.out _) i _).congr (fun j _ => ?_)⟩⟩
          by_cases e : j = i
          · subst e
            rw [if_pos rfl, if_pos (by omega), ← HV.out]
            exact congrArg (Value.int .u32) (expr _ _ _ _)
          · rw [if_neg e]
            by_cases hlt : j < i
            · rw [if_pos hlt, if_pos (by omega)]
            · rw [if_neg hlt, if_neg (by omega)]
    · have c0 : decide ((i : Int) < 64) = false := decide_eq_false (by omega)
      have c1 : decide (i < 64) = false := decide_eq_false hlt
      obtain rfl : i = 64 := by have := HK.out; omega
      obtain ⟨C, hC, hsz, hcell⟩ := HR.out
      have hcell : ∀ j, j < 64 → C[j]? = some (.int .u32 ((sched p j).toNat : Int)) := fun j hj => by
        have := hcell j hj
        simp only [if_pos hj] at this
        exact this
      have HC := As.mk hcell
      have HS := As.mk hsz
      have HH := As.mk hC
      clear HR hcell hsz hC
      have H1 : As (C.all (·.oneCell') = true) := ⟨by
        rw [Array.all_eq_true]
        intro j hj
        have := HC.out j (by have := HS.out; omega)
        rw [Array.getElem?_eq_getElem hj] at this
        injection this with this
        rw [this]; rfl⟩
      go_wp2_with (first
        | (refine wpList_load_row rfl 250 _ rfl (w.heap.size + 1) rfl 250 C (0, 0) _ HH.out uArr64 rfl (by rw [HS.out]; kernel_rfl) ?_)
        | (refine wpList_storeArr rfl rfl 250 _ _ rfl w.heap.size rfl C rfl 250 Z64 HZ.out (by rw [HS.out]; kernel_rfl) (by rw [HS.out]; kernel_rfl) H1.out ?_))
      refine bodyPost_ret (v := .agg C) ?_ rfl ⟨C, rfl, below_setRow HB.out (Nat.le_refl _) C, HS.out, HC.out⟩
      exact results_cell_row Try.results236 _ _ w.heap.size 250 C (0, 0) _ rfl (setRow_new wr w.heap.size Z64 C _ HZ.out) uArr64 rfl (by rw [HS.out]; kernel_rfl)

end Go.Proofs.Yteajblfkfmopfaa.Schedule
