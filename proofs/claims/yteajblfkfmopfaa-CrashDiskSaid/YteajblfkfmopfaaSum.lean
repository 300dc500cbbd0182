/- sha.Sum: the sum of parts. -/
import Derived.Test.YteajblfkfmopfaaTake
namespace Go.Proofs.Yteajblfkfmopfaa.Sum
set_option linter.unusedVariables false
set_option linter.unusedSimpArgs false
open Go Go.RowKit Go.Proofs.Yteajblfkfmopfaa.Mem Go.Proofs.Yteajblfkfmopfaa.W32 Go.Proofs.Yteajblfkfmopfaa.Piece Go.Proofs.Yteajblfkfmopfaa.Take Go.Proofs.Yteajblfkfmopfaa.Kinds Go.Proofs.Yteajblfkfmopfaa.Put32 Go.Proofs.Yteajblfkfmopfaa.Pad

def Kc (j : Nat) : W := BitVec.ofNat 32 (kindsL.getD j 0).toNat
def H0 (j : Nat) : W := BitVec.ofNat 32 (beginL.getD j 0).toNat
theorem kinds_arr : kindsA = arr Kc 64 := by kernel_rfl
theorem begin_arr : (vals beginL).toArray = arr H0 8 := by kernel_rfl

def nthP (ps : List (List Int)) (j : Nat) : List Int := ps.getD j []
/-- Slices of bytes, in a slice, that are read. -/
structure RdP (w : World) (A : Option Addr) (n c : Nat) (ps : List (List Int)) : Prop where
  len : ps.length = n
  le : n ≤ c
  cap : c ≤ maxLen
  cells : 0 < n → ∃ ad, A = some ad ∧ ∀ j, j < n → ∃ Aj cj, w.cell? (ad.add j) = some (.slice Aj (nthP ps j).length cj) ∧ Rd .u8 w Aj (nthP ps j).length cj (nthP ps j)
theorem RdP.below {w w' : World} {A : Option Addr} {n c : Nat} {ps : List (List Int)} (h : RdP w A n c ps) (hb : Below w.heap.size w w') : RdP w' A n c ps :=
  ⟨h.len, h.le, h.cap, fun hn => by
    obtain ⟨ad, e, hc⟩ := h.cells hn
    refine ⟨ad, e, fun j hj => ?_⟩
    obtain ⟨Aj, cj, h1, h2⟩ := hc j hj
    exact ⟨Aj, cj, (hb.cell (World.block_lt_of_cell? w _ h1)).trans h1, h2.below hb⟩⟩
theorem RdP.at {w : World} {A : Option Addr} {n c : Nat} {ps : List (List Int)} (h : RdP w A n c ps) (j : Nat) (hj : j < n) :
    ∃ ad Aj cj, A = some ad ∧ w.cell? (ad.add j) = some (.slice Aj (nthP ps j).length cj) ∧ Rd .u8 w Aj (nthP ps j).length cj (nthP ps j) := by
  obtain ⟨ad, e, hc⟩ := h.cells (by omega)
  obtain ⟨Aj, cj, h1, h2⟩ := hc j hj
  exact ⟨ad, Aj, cj, e, h1, h2⟩

theorem flat_snoc (ps : List (List Int)) (i : Nat) (h : i < ps.length) : (ps.take (i + 1)).flatten = (ps.take i).flatten ++ nthP ps i := by
  rw [List.take_succ_eq_append_getElem h, List.flatten_append]
  simp [nthP, List.getD_eq_getElem?_getD, List.getElem?_eq_getElem h]
theorem flat_le (ps : List (List Int)) (i : Nat) : (ps.take i).flatten.length ≤ ps.flatten.length := by
  have : ps.flatten = (ps.take i).flatten ++ (ps.drop i).flatten := by rw [← List.flatten_append, List.take_append_drop]
  rw [this, List.length_append]; omega

/-- the numbers behind all bytes -/
def sumS (b : List Int) : Nat → W := (feed Kc H0 (b ++ pad b.length)).1
def sumB (b : List Int) : List Int := (List.range 8).flatMap fun j => bytes4 (sumS b j).toNat
def sumA (b : List Int) : Array Value := ((sumB b).map (Value.int .u8)).toArray
def Z32 : Array Value := (List.replicate 32 (Value.int .u8 0)).toArray
theorem z32 : (Try.prog.info? 43).map (fun i => (i.zero, i.size)) = some (some (.agg Z32), Z32.size) := by kernel_rfl
theorem uArr32 : Try.prog.underlying 43 = some (.array 32 5) := by kernel_rfl

/-- the row that is filled, i words done -/
def outL (f : Nat → W) (i : Nat) : List Value := ((List.range i).flatMap fun j => bytes4 (f j).toNat).map (Value.int .u8) ++ List.replicate (32 - 4 * i) (.int .u8 0)
theorem flat4_len (f : Nat → W) (i : Nat) : ((List.range i).flatMap fun j => bytes4 (f j).toNat).length = 4 * i := by
  induction i with
  | zero => rfl
  | succ i ih => rw [List.range_succ, List.flatMap_append, List.length_append, ih]; simp [bytes4]; omega
theorem outL_len (f : Nat → W) (i : Nat) (h : i ≤ 8) : (outL f i).length = 32 := by
  unfold outL
  rw [List.length_append, List.length_map, flat4_len, List.length_replicate]; omega
theorem outL_succ (f : Nat → W) (i : Nat) (h : i < 8) : splice (outL f i) (4 * i) ((bytes4 (f i).toNat).map (Value.int .u8)) = outL f (i + 1) := by
  unfold splice
  have e1 : (outL f i).take (4 * i) = ((List.range i).flatMap fun j => bytes4 (f j).toNat).map (Value.int .u8) := by
    unfold outL
    exact List.take_left' (by rw [List.length_map, flat4_len])
  have e2 : (outL f i).drop (4 * i + ((bytes4 (f i).toNat).map (Value.int .u8)).length) = List.replicate (32 - 4 * (i + 1)) (.int .u8 0) := by
    have hl : ((bytes4 (f i).toNat).map (Value.int .u8)).length = 4 := by simp [bytes4]
    rw [hl, ← List.drop_drop]
    have : (outL f i).drop (4 * i) = List.replicate (32 - 4 * i) (.int .u8 0) := by
      unfold outL
      exact List.drop_left' (by rw [List.length_map, flat4_len])
    rw [this, List.drop_replicate]
    congr 1
  rw [e1, e2]
  unfold outL
  rw [List.range_succ, List.flatMap_append]
  simp
theorem outL_8 (f : Nat → W) : outL f 8 = ((List.range 8).flatMap fun j => bytes4 (f j).toNat).map (Value.int .u8) := by
  unfold outL; simp
theorem info8 : (Try.prog.info? 5).map (·.size) = some 1 := by kernel_rfl

theorem below_step' {B : Nat} {w W W' : World} (hs : B ≤ W.heap.size) (h : Below B w W) (k : Below W.heap.size W W') : Below B w W' := ⟨k.os.trans h.os, k.tape.trans h.tape, k.output.trans h.output, Nat.le_trans h.size k.size, fun i hi => (k.block i (by omega)).trans (h.block i hi)⟩
set_option maxHeartbeats 2000000 in
set_option maxRecDepth 100000 in
theorem sum_any (ps : List (List Int)) (A : Option Addr) (n c : Nat) (w : World) (hb : ∀ p ∈ ps, Byte p) (hl : ps.flatten.length ≤ 1099511627776) (hn : n ≤ 140737488351232) (h0 : RdP w A n c ps) :
    Calls Try.prog 198 #[.slice A n c] w fun e w' => e = .returned (.agg (sumA ps.flatten)) ∧ Below w.heap.size w w' := by
  have HBY := As.mk hb
  have HLN := As.mk hl
  have HNN := As.mk hn
  clear hb hl
  go_enter Try.func198, Try.ntmps198
  go_wp2_with (first
    | (refine wpList_allocArr rfl 43 rfl Z32 z32 ?_)
    | (refine wpList_allocArr rfl 250 rfl Z64 z64 ?_)
    | (refine wpList_allocArr rfl 252 rfl (arr (fun _ => 0) 8) z8 ?_)
    | (go_at_call 217; refine (kinds_any _).mono ?_; rintro e w1 ⟨rfl, hb1⟩; have HB1 := As.mk hb1; clear hb1)
    | (go_at_call 218; refine (begin_any _).mono ?_; rintro e w2 ⟨rfl, hb2⟩; have HB2 := As.mk hb2; clear hb2)
    | (refine wpList_storeNew rfl rfl 250 _ _ rfl rfl kindsA rfl 250 Z64 (by kernel_rfl) (by kernel_rfl) (by kernel_rfl) ?_)
    | (refine wpList_storeNew rfl rfl 252 _ _ rfl rfl (vals beginL).toArray rfl 252 (arr (fun _ => 0) 8) (by kernel_rfl) (by kernel_rfl) (by kernel_rfl) ?_))
  have hs0 : w.heap.size + 1 ≤ w1.heap.size := by have := HB1.out.size; simpa using this
  have hs1 : w1.heap.size + 1 ≤ w2.heap.size := by have := HB2.out.size; simpa using this
  obtain ⟨W0, hW0⟩ : ∃ W0, W0 = (w2.alloc (.cells (vals beginL).toArray 252)).alloc (.cells #[.slice none 0 0] 37) := ⟨_, rfl⟩
  have hsz0 : W0.heap.size = w2.heap.size + 2 := by rw [hW0]; simp
  have HST : As (Held W0 (w2.heap.size + 2) (w2.heap.size + 1) w2.heap.size w1.heap.size Kc H0 [] none 0) := ⟨by
    rw [hW0]
    refine ⟨heap_alloc2_new w2 _ _, ?_, ?_, OwnAt.nil _ _, (by intro x hx; cases hx), by omega, by omega, by omega, by omega, by omega, by omega, by simp⟩
    · rw [← begin_arr]; exact heap_alloc2_old w2 _ _
    · rw [Below.heap_alloc _ _ _ (by simp; omega), Below.heap_alloc _ _ _ (by omega), HB2.out.block _ (by simp), ← kinds_arr]
      exact heap_alloc_new w1 _⟩
  have HBW : As (Below w.heap.size w W0) := ⟨by
    rw [hW0]
    exact below_alloc (below_alloc (below_step (below_alloc (below_step (below_alloc (Below.refl _ _) _) HB1.out) _) HB2.out) _) _⟩
  have HZ : As (W0.heap[w.heap.size]? = some (.cells Z32 43 (0, 0))) := ⟨by
    rw [hW0, Below.heap_alloc _ _ _ (by simp; omega), Below.heap_alloc _ _ _ (by omega), HB2.out.block _ (by simp; omega), Below.heap_alloc _ _ _ (by omega), HB1.out.block _ (by simp)]
    exact heap_alloc_new w _⟩
  rw [← hW0]
  clear hW0 HB1 HB2
  have HS0 := As.mk hs0
  have HS1 := As.mk hs1
  have HSZ := As.mk hsz0
  clear hs0 hs1 hsz0
  go_loopg [6, 18] n (fun kq v6 v18 wr => ∃ (i : Nat) (s : Nat → W) (left : List Int) (A' : Option Addr) (c' : Nat), i + kq = n ∧ v6 = .int .i64 ((ps.take i).flatten.length : Int) ∧ v18 = .int .i64 i ∧
    As (Held wr (w2.heap.size + 2) (w2.heap.size + 1) w2.heap.size w1.heap.size Kc s left A' c') ∧ As (feed Kc H0 (ps.take i).flatten = (s, left)) ∧ As (But2 (w2.heap.size + 2) (w2.heap.size + 1) w2.heap.size W0 wr))
  case atStart => exact ⟨0, H0, [], none, 0, by omega, rfl, rfl, HST, ⟨feed_lo _ _ _ (by simp)⟩, ⟨But2.refl _ _ _ _⟩⟩
  case round =>
    clear HST
    obtain ⟨i, s, left, A', c', hi, rfl, rfl, H, HF, HT⟩ := hrel
    have HI := As.mk hi
    clear hi
    have hbw : Below w.heap.size w wr := ⟨HT.out.os.trans HBW.out.os, HT.out.tape.trans HBW.out.tape, HT.out.output.trans HBW.out.output, Nat.le_trans HBW.out.size HT.out.size, fun k hk => by
      have := HS0.out
      have := HS1.out
      exact (HT.out.block k (by omega) (by omega) (by omega)).trans (HBW.out.block k hk)⟩
    have HBR := As.mk hbw
    clear hbw
    by_cases hlt : i < n
    · have c0 : decide ((i : Int) < (n : Int)) = true := decide_eq_true (by omega)
      have c1 : decide (i < n) = true := decide_eq_true hlt
      have hw : wrap64 ((i : Int) + 1) = ((i + 1 : Nat) : Int) := wrap_up (by have := HNN.out; omega)
      obtain ⟨ad, Aj, cj, ea, hx, hr⟩ := (h0.below HBR.out).at i hlt
      cases ea
      have hpl := h0.len
      have e1 := flat_snoc ps i (by omega)
      have e2 := flat_le ps (i + 1)
      have e3 : ((ps.take (i + 1)).flatten).length = (ps.take i).flatten.length + (nthP ps i).length := by rw [e1, List.length_append]
      obtain ⟨l, hl⟩ : ∃ l, l = (ps.take i).flatten.length := ⟨_, rfl⟩
      obtain ⟨m, hm⟩ : ∃ m, m = (nthP ps i).length := ⟨_, rfl⟩
      rw [← hm] at hx hr e3
      rw [← hl] at e3
      have HRD := As.mk hr
      have HE1 := As.mk e1
      have HLM := As.mk (show l + m ≤ 1099511627776 by have := HLN.out; omega)
      have hls : left.length < 64 := by
        have := feed_len Kc _ H0 (ps.take i).flatten (Nat.le_refl _)
        rw [HF.out] at this; exact this
      have HLF := As.mk (show left.length + m ≤ 70368744177664 by have := HLM.out; omega)
      have HPB : As (Byte (nthP ps i)) := ⟨HBY.out _ (by
        rw [nthP, List.getD_eq_getElem?_getD, List.getElem?_eq_getElem (by omega)]; exact List.getElem_mem _)⟩
      have HE3 := As.mk e3
      have HL := As.mk hl
      clear e1 e2 e3 hls hr hpl
      obtain ⟨t, ht, q1, q2⟩ := sum_named l m (by have := HLM.out; omega)
      have HTT := As.mk ht
      clear ht hm
      rw [← hl]
      clear hl
      go_wp2_with (go_at_call 219; refine (take_any _ _ _ _ _ Kc s left (nthP ps i) A' Aj c' m cj H.out HRD.out HPB.out HLF.out).mono ?_; rintro e w3 ⟨rfl, A3, c3, h3, hb3⟩; have H3 := As.mk h3; have HB3 := As.mk hb3; clear h3 hb3)
      clear q1 q2
      go_roundg (n - (i + 1))
      case measure => have := HI.out; omega
      case rel =>
        refine ⟨i + 1, _, _, A3, c3, by have := HI.out; omega, ?_, by go_num, H3, ⟨?_⟩, ⟨HT.out.trans HB3.out⟩⟩
        · rw [HE3.out, HTT.out]
        · rw [HE1.out, feed_app Kc _ _ H0 _ (Nat.le_refl _), HF.out]
    · have c0 : decide ((i : Int) < (n : Int)) = false := decide_eq_false (by omega)
      have c1 : decide (i < n) = false := decide_eq_false hlt
      obtain rfl : i = n := by have := HI.out; omega
      have hpl := h0.len
      have hall : ps.take i = ps := by rw [← hpl, List.take_length]
      rw [hall] at HF ⊢
      obtain ⟨l, hl⟩ : ∃ l, l = ps.flatten.length := ⟨_, rfl⟩
      have HL := As.mk hl
      have HLE := As.mk (show l ≤ 1099511627776 by have := HLN.out; omega)
      have hls : left.length < 64 := by
        have := feed_len Kc _ H0 ps.flatten (Nat.le_refl _)
        rw [HF.out] at this; exact this
      have HLF := As.mk (show left.length + (padZ l + 9) ≤ 70368744177664 by have := padZ_le l; omega)
      rw [← hl]
      clear hl hls hall hpl HI
      go_wp2_with (first
        | (go_at_call 221; (with_reducible refine (Pad.ok l _ HLE.out).mono ?_); rintro e w4 ⟨A4, c4, rfl, hb4, ho4⟩; obtain ⟨A5, c5, e5, hr5⟩ := ho4.rd; cases e5; have HB4 := As.mk hb4; have HR5 := As.mk hr5; have H4 := As.mk (H.out.below hb4); clear hb4 ho4 hr5)
        | (go_at_call 219; refine (take_any _ _ _ _ _ Kc s left (pad l) A' A4 c' (padZ l + 9) c4 H4.out HR5.out (pad_byte l) HLF.out).mono ?_; rintro e w5 ⟨rfl, A6, c6, h6, hb6⟩; have H6 := As.mk h6; have HB6 := As.mk hb6; clear h6 hb6)
        | (refine wpList_allocArr rfl 43 rfl Z32 z32 ?_)
        | (refine wpList_load_row rfl 252 (.tmp 4) rfl w2.heap.size rfl 252 (arr (feed Kc s (left ++ pad l)).1 8) (0, 0) _ ((Below.heap_alloc _ _ _ (Nat.lt_of_lt_of_le H6.out.sb H6.out.bw)).trans H6.out.s) uArr8 rfl (n8 _) ?_))
      obtain ⟨f, hf⟩ : ∃ f, f = (feed Kc s (left ++ pad l)).1 := ⟨_, rfl⟩
      have HFF : As (f = sumS ps.flatten) := ⟨by
        unfold sumS
        rw [hf, feed_app Kc _ _ H0 ps.flatten (Nat.le_refl _), HF.out, HL.out]⟩
      rw [← hf]
      have HB5 : As (Below w.heap.size w w5) := ⟨by
        have t := (HT.out.trans (But2.of_below ((HB4.out).mono H.out.bw))).trans HB6.out
        exact ⟨t.os.trans HBW.out.os, t.tape.trans HBW.out.tape, t.output.trans HBW.out.output, Nat.le_trans HBW.out.size t.size, fun k hk => by
          have := HS0.out
          have := HS1.out
          exact (t.block k (by omega) (by omega) (by omega)).trans (HBW.out.block k hk)⟩⟩
      have HZ5 : As (w5.heap[w.heap.size]? = some (.cells Z32 43 (0, 0))) := ⟨by
        have t := (HT.out.trans (But2.of_below ((HB4.out).mono H.out.bw))).trans HB6.out
        have := HS0.out
        have := HS1.out
        exact (t.block _ (by omega) (by omega) (by omega)).trans HZ.out⟩
      have HSZ5 : As (w.heap.size < w5.heap.size) := ⟨by
        have a1 := H6.out.bw
        have := HS0.out
        have := HS1.out
        omega⟩
      clear HF hf H HR5 H4 HB4 H6 HB6 HT HBR
      go_loopg [35] 8 (fun kq v35 wr => ∃ j : Nat, j + kq = 8 ∧ v35 = .int .i64 j ∧ As (wr.heap[w5.heap.size]? = some (.cells (outL f j).toArray 43 (0, 0))) ∧ As (Below w5.heap.size w5 wr))
      case atStart => exact ⟨0, by omega, rfl, ⟨heap_alloc_new w5 _⟩, ⟨below_alloc (Below.refl _ _) _⟩⟩
      case round =>
        obtain ⟨j, hj, rfl, HO, HBO⟩ := hrel
        have HJ := As.mk hj
        clear hj
        by_cases hlt : j < 8
        · have d0 : decide ((j : Int) < 8) = true := decide_eq_true (by omega)
          have d1 : decide (j < 8) = true := decide_eq_true hlt
          have hw : wrap64 ((j : Int) + 1) = ((j + 1 : Nat) : Int) := wrap_up (by omega)
          have hix := fun w => run_index_arr (P := Try.prog) w 252 240 8 .u32 _ _ uArr8 Try.underlying240 (rfl : (Try.prog.info? 240).map (fun i => (i.zero, i.size, i.bytes)) = some (some (.int .u32 0), 1, 4)) (arr f 8) j hlt (.int .u32 ((f j).toNat : Int)) (arr_at _ _ _ hlt) .i64
          obtain ⟨m, hm⟩ : ∃ m : Nat, m = 4 * j := ⟨_, rfl⟩
          have HM := As.mk hm
          have hsl := fun W => run_arr_from (P := Try.prog) W 43 5 32 _ _ uArr32 CloneB.info w5.heap.size m .i64 (by omega)
          have m1 : IntKind.i64.wrap (m : Int) = (m : Int) := by rw [IntKind.wrap_i64]; omega
          have m2 : (4 : Int) * j = (m : Int) := by omega
          have HV := As.mk (lt (f j))
          have HOL := As.mk (outL_len f j (by omega))
          have HM2 := As.mk (show m + 4 ≤ 32 by omega)
          clear hm
          go_wp2
          have HJJ := As.mk (show w5.heap.size < wr.heap.size from (Array.getElem?_eq_some_iff.1 HO.out).1)
          go_region_law (first
            | (refine step_copy_splice rfl (.tmp 41) (.tmp 43) 37 37 rfl 5 Try.underlying37 info8 (some ⟨w5.heap.size, m, none⟩) _ (32 - m) (32 - m) 4 4 rfl rfl w5.heap.size m (outL f j) 43 HO7.out ((bytes4 (f j).toNat).map (Value.int .u8)) (by rw [show ((bytes4 (f j).toNat).map (Value.int .u8)).length = 4 by simp [bytes4]]; exact (Nat.min_eq_left (by have := HM2.out; omega)).symm) (fun _ => ⟨rfl, _, rfl, fun i v hv => by obtain ⟨ad, e, hc⟩ := HO6.out.cell i v hv; cases e; exact hc⟩) (by have := HM2.out; rw [HOL.out]; simp [bytes4]; omega) (ints_oneCell .u8 _) w5.heap.size w5 HB7.out (Nat.le_refl _) ?_; intro w8 hg8 hb8)
            | (go_simp; go_at_call 222; refine (put32 (f j).toNat HV.out _).mono ?_; rintro e w7 ⟨rfl, hb7, ho7⟩; have HO6 := As.mk ho7; have HB7 := As.mk (below_step HBO.out (show Below wr.heap.size wr w7 from ⟨hb7.os, hb7.tape, hb7.output, hb7.size, hb7.block⟩)); have HO7 := As.mk ((hb7.block _ HJJ.out).trans HO.out); clear hb7 ho7))
          go_wp2
          go_roundg (8 - (j + 1))
          case measure => have := HJ.out; omega
          case rel =>
            refine ⟨j + 1, by have := HJ.out; omega, by go_num, ⟨?_⟩, ⟨hb8⟩⟩
            have hg := hg8.out
            rw [HM.out, outL_succ f j (by omega)] at hg
            exact hg
        · have d0 : decide ((j : Int) < 8) = false := decide_eq_false (by omega)
          have d1 : decide (j < 8) = false := decide_eq_false hlt
          obtain rfl : j = 8 := by have := HJ.out; omega
          go_wp2_with (first
            | (refine wpList_load_row rfl 43 (.tmp 10) rfl w5.heap.size rfl 43 (outL f 8).toArray (0, 0) _ HO.out uArr32 rfl (by kernel_rfl) ?_)
            | (refine wpList_storeArr rfl rfl 43 (.tmp 2) (.tmp 46) rfl w.heap.size rfl (outL f 8).toArray rfl 43 Z32 ((HBO.out.block _ HSZ5.out).trans HZ5.out) (by kernel_rfl) (by kernel_rfl) (by kernel_rfl) ?_))
          have hr : outL f 8 = (sumB ps.flatten).map (Value.int .u8) := by rw [outL_8, HFF.out]; rfl
          rw [show (Value.agg (sumA ps.flatten)) = .agg (outL f 8).toArray by rw [hr]; rfl]
          refine bodyPost_ret (v := .agg (outL f 8).toArray) ?_ rfl ⟨rfl, below_setRow (below_step' (Nat.le_of_lt HSZ5.out) HB5.out HBO.out) (Nat.le_refl _) _⟩
          exact results_cell_row Try.results198 _ _ w.heap.size 43 (outL f 8).toArray (0, 0) _ rfl (setRow_new wr w.heap.size Z32 (outL f 8).toArray _ ((HBO.out.block _ HSZ5.out).trans HZ5.out)) uArr32 rfl (by kernel_rfl)

theorem sum_spec (b : List Int) : (sumB b).length = 32 := by simp [sumB, bytes4]; rfl

end Go.Proofs.Yteajblfkfmopfaa.Sum
