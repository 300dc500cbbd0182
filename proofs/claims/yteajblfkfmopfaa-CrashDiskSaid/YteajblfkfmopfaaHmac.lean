/- hmac.Pads, hmac.Tag. -/
import Derived.Test.YteajblfkfmopfaaStretch
import Derived.Deep.RegionHeld2
import Derived.Deep.MidRow
namespace Go.Proofs.Yteajblfkfmopfaa.Hmac
set_option linter.unusedVariables false
set_option linter.unusedSimpArgs false
open Go Go.RowKit Go.Proofs.Yteajblfkfmopfaa.Mem Go.Proofs.Yteajblfkfmopfaa.Put32 Go.Proofs.Yteajblfkfmopfaa.Pad Go.Proofs.Yteajblfkfmopfaa.Sum Go.Proofs.Yteajblfkfmopfaa.RefWith Go.Proofs.Yteajblfkfmopfaa.RefSum Go.Proofs.Yteajblfkfmopfaa.ShaAwake Go.Proofs.Yteajblfkfmopfaa.ShaSums Go.Proofs.Yteajblfkfmopfaa.ShaParts Go.Proofs.Yteajblfkfmopfaa.Stretch

def flip (b : Nat) (l : List Int) : List Int := l.map fun c => ((c.toNat ^^^ b : Nat) : Int)
/-- a key's 64 bytes -/
def padKey (key : List Int) : List Int := if 64 < key.length then sumB key ++ List.replicate 32 0 else key ++ List.replicate (64 - key.length) 0
theorem padKey_len (key : List Int) : (padKey key).length = 64 := by
  unfold padKey
  split
  · simp [sumB_len]
  · simp; omega
def Z64 : Array Value := (List.replicate 64 (Value.int .u8 0)).toArray
theorem z64 : (Try.prog.info? 232).map (fun i => (i.zero, i.size)) = some (some (.agg Z64), Z64.size) := by kernel_rfl

theorem uArr64 : Try.prog.underlying 232 = some (.array 64 5) := by kernel_rfl
theorem flip_len (b : Nat) (l : List Int) : (flip b l).length = l.length := by simp [flip]
theorem flip_at (b : Nat) (l : List Int) (i : Nat) (h : i < l.length) (a : Nat) (ha : nth l i = (a : Int)) : nth (flip b l) i = ((a ^^^ b : Nat) : Int) := by
  have h1 : l[i]? = some (a : Int) := by
    rw [← ha, nth_getD, List.getD_eq_getElem?_getD]
    simp [h]
  simp [flip, nth_getD, List.getD_eq_getElem?_getD, h1]
theorem padKey_byte (key : List Int) (h : Byte key) : Byte (padKey key) := by
  unfold padKey
  split
  · intro y hy
    rcases List.mem_append.1 hy with h1 | h1
    · exact sumB_byte _ y h1
    · rw [List.eq_of_mem_replicate h1]; omega
  · intro y hy
    rcases List.mem_append.1 hy with h1 | h1
    · exact h y h1
    · rw [List.eq_of_mem_replicate h1]; omega
theorem z64_list : Z64 = bytesA (List.replicate 64 0) := by simp [Z64, bytesA]
theorem rd_src {w : World} {A : Option Addr} {n c : Nat} {x : List Int} (h : Rd .u8 w A n c x) (h0 : 0 < (x.map (Value.int .u8)).length) :
    ∃ ad, A = some ad ∧ ∀ j v, (x.map (Value.int .u8))[j]? = some v → w.cell? (ad.add j) = some v := by
  rw [List.length_map, h.len] at h0
  obtain ⟨ad, e, hc⟩ := h.cells h0
  refine ⟨ad, e, fun j v hv => ?_⟩
  have hj : j < x.length := by simpa using (List.getElem?_eq_some_iff.1 hv).1
  rw [hc j (by rw [← h.len]; exact hj), ← hv, List.getElem?_map, nth_getD, List.getD_eq_getElem?_getD]
  simp [hj]
theorem splice_small (key : List Int) (h : ¬ 64 < key.length) : splice ((List.replicate 64 0).map (Value.int .u8)) 0 (key.map (Value.int .u8)) = (padKey key).map (Value.int .u8) := by
  unfold padKey splice
  rw [if_neg h, List.take_zero, List.nil_append, List.map_append, List.map_replicate, List.map_replicate, List.drop_replicate, List.length_map, Nat.zero_add]
theorem splice_big (key : List Int) (h : 64 < key.length) : splice ((List.replicate 64 0).map (Value.int .u8)) 0 ((sumB key).map (Value.int .u8)) = (padKey key).map (Value.int .u8) := by
  unfold padKey splice
  rw [if_pos h, List.take_zero, List.nil_append, List.map_append, List.map_replicate, List.map_replicate, List.drop_replicate, List.length_map, sumB_len]

theorem range_block {w : World} {b : Nat} {C : Array Value} {t : TypeId} (h : w.heap[b]? = some (.cells C t (0, 0))) (L : List Value) (hL : C = L.toArray) : w.rangeAt b 0 L := fun j v hv => by
  rw [Nat.zero_add, cell_of_row w b j _ _ _ h, hL, List.getElem?_toArray]; exact hv
theorem there_block {w : World} {b : Nat} {C : Array Value} {t : TypeId} {L : List Value} {n : Nat} (r : w.rangeAt b 0 L) (hl : L.length = n) (h : w.heap[b]? = some (.cells C t (0, 0))) : w.there b 0 n := fun j hj =>
  ⟨r.isSome j (by rw [hl]; exact hj), by rw [Nat.zero_add]; exact frozen_of_row w b j _ _ h⟩
theorem below_setCells {B : Nat} {w W : World} (h : Below B w W) {b : Nat} (hb : B ≤ b) (o : Nat) (vs : List Value) : Below B w (W.setCells b o vs) := by
  obtain ⟨h1, h2, h3, h4⟩ := setCells_rest b vs o W
  exact ⟨h1.trans h.os, h2.trans h.tape, h3.trans h.output, by rw [h4]; exact h.size, fun i hi => (setCells_other b vs o W i (by omega)).trans (h.block i hi)⟩
theorem results_two {P : Program} {fn : Func} {p q : Tmp} {ty : TypeId} (h : fn.results = #[.cell p ty, .cell q ty]) (tmps : Array Value) (w : World) (b0 b1 : Nat) (L0 L1 : List Value) {d : TypeDesc}
    (hp : tmps.getD p undef = .pointer (some ⟨b0, 0, none⟩)) (hq : tmps.getD q undef = .pointer (some ⟨b1, 0, none⟩)) (r0 : w.rangeAt b0 0 L0) (r1 : w.rangeAt b1 0 L1)
    (hu : P.underlying ty = some d) (hd : d.isRow = true) (i0 : (P.info? ty).map (·.size) = some L0.length) (i1 : (P.info? ty).map (·.size) = some L1.length) :
    (results fn tmps).run P w = .ok (.tuple #[.agg L0.toArray, .agg L1.toArray]) w := by
  have hp' : tmps[p]?.getD undef = .pointer (some ⟨b0, 0, none⟩) := by simpa using hp
  have hq' : tmps[q]?.getD undef = .pointer (some ⟨b1, 0, none⟩) := by simpa using hq
  simp [results, h, hp', hq', asAddr, run_loadVar_mid w b0 0 ty L0 d r0 hu hd i0, run_loadVar_mid w b1 0 ty L1 d r1 hu hd i1]
theorem sum_oneS (x S : List Int) (hS : sumB x = S) (hx : Byte x) (A : Option Addr) (n c : Nat) (T : TypeId) (w : World) (hn : n ≤ 1099511627776) (h0 : Rd .u8 w A n c x) :
    Calls Try.prog 198 #[.slice (some ⟨w.heap.size, 0, none⟩) 1 1] (w.alloc (.cells #[.slice A n c] T)) fun e w' => e = .returned (.agg (S.map (Value.int .u8)).toArray) ∧ Below w.heap.size w w' := by
  have h := sum_one x hx A n c T w hn h0
  rw [show sumA x = (S.map (Value.int .u8)).toArray by rw [← hS]; rfl] at h
  exact h
set_option maxHeartbeats 2000000 in
set_option maxRecDepth 100000 in
theorem pads_any (key : List Int) (hk : Byte key) (A : Option Addr) (n c : Nat) (w : World) (hn : n ≤ 1099511627776) (h0 : Rd .u8 w A n c key) :
    Calls Try.prog 197 #[.slice A n c] w fun e w' => e = .returned (.tuple #[.agg (bytesA (flip 54 (padKey key))), .agg (bytesA (flip 92 (padKey key)))]) ∧ Below w.heap.size w w' := by
  obtain ⟨K, hK⟩ : ∃ K, K = padKey key := ⟨_, rfl⟩
  rw [← hK]
  have KL := As.mk (show K.length = 64 by rw [hK]; exact padKey_len key)
  have KB := As.mk (show Byte K by rw [hK]; exact padKey_byte key hk)
  have HX := As.mk hk
  have HN := As.mk hn
  have HKK := As.mk hK
  have hlen := h0.len
  have A0 := As.mk (alloc3_0 w (.cells Z64 232) (.cells Z64 232) (.cells Z64 232))
  have A1 := As.mk (alloc3_1 w (.cells Z64 232) (.cells Z64 232) (.cells Z64 232))
  have A2 := As.mk (alloc3_2 w (.cells Z64 232) (.cells Z64 232) (.cells Z64 232))
  have HBB := As.mk (below_alloc (below_alloc (below_alloc (Below.refl w.heap.size w) (.cells Z64 232)) (.cells Z64 232)) (.cells Z64 232))
  have HSZ := As.mk (alloc3_size w (.cells Z64 232) (.cells Z64 232) (.cells Z64 232))
  have H3 := As.mk (h0.below HBB.out)
  clear hk hn hK h0
  by_cases hbig : 64 < n
  · have d0 : decide (64 < (n : Int)) = true := decide_eq_true (by omega)
    have d1 : decide (64 < n) = true := decide_eq_true hbig
    have HB := As.mk hbig
    have HL := As.mk hlen
    obtain ⟨S, hS⟩ : ∃ S, sumB key = S := ⟨_, rfl⟩
    have LS := As.mk (show S.length = 32 by rw [← hS]; exact sumB_len _)
    have VS := As.mk (show ((S.map (Value.int .u8)).toArray).size = 32 by simp [LS.out])
    have HSS := As.mk hS
    clear hbig hlen hS
    go_enter Try.func197, Try.ntmps197
    go_wp2_with (refine wpList_allocArr rfl 232 rfl Z64 z64 ?_; refine As.out ?_)
    refine As.mk ?_
    go_wp2_with (refine wpList_allocArr rfl 232 rfl Z64 z64 ?_; refine As.out ?_)
    refine As.mk ?_
    go_wp2_with (refine wpList_allocArr rfl 232 rfl Z64 z64 ?_; refine As.out ?_)
    refine As.mk ?_
    generalize ((w.alloc (.cells Z64 232)).alloc (.cells Z64 232)).alloc (.cells Z64 232) = w3 at *
    obtain ⟨b1, hb1⟩ : ∃ b, b = w.heap.size + 1 := ⟨_, rfl⟩
    obtain ⟨b2, hb2⟩ : ∃ b, b = w.heap.size + 1 + 1 := ⟨_, rfl⟩
    rw [← hb2] at A2 ⊢
    rw [← hb1] at A1 ⊢
    have HO := As.mk (show w.heap.size < b1 ∧ b1 < b2 ∧ b2 < w3.heap.size from ⟨by omega, by omega, by rw [HSZ.out]; omega⟩)
    clear hb1 hb2
    go_wp2_with (first
      | (go_at_call 198; (with_reducible refine (sum_oneS key S HSS.out HX.out A n c 37 w3 HN.out H3.out).mono ?_); rintro e w5 ⟨rfl, hb⟩; have HB5 := As.mk hb; clear hb)
      | (refine wpList_allocArr rfl 43 rfl Z32 z32 ?_)
      | (refine wpList_storeNew rfl rfl 43 _ _ rfl rfl (S.map (Value.int .u8)).toArray rfl 43 Z32 (by rw [VS.out]; kernel_rfl) (by rw [VS.out]; kernel_rfl) (bytesA_one S) ?_; refine As.out ?_))
    refine As.mk ?_
    have L6 : As (Rd .u8 (w5.alloc (.cells (S.map (Value.int .u8)).toArray 43)) (some ⟨w5.heap.size, 0, none⟩) 32 32 S) := ⟨by have := Rd.lit w5 .u8 43 S (by rw [LS.out]; decide); rw [LS.out] at this; exact this⟩
    have HB6a := As.mk (below_alloc HB5.out (.cells (S.map (Value.int .u8)).toArray 43))
    have A26 := As.mk ((HB6a.out.block b2 HO.out.2.2).trans A2.out)
    have HB6 := As.mk (HB6a.out.mono (Nat.le_of_lt HO.out.2.2))
    clear HB6a
    generalize w5.alloc _ = w6 at *
    generalize w5.heap.size = b5 at *
    have A27 : w6.drew.heap[b2]? = some (.cells ((List.replicate 64 0).map (Value.int .u8)).toArray 232 (0, 0)) := by have := A26.out; rw [z64_list] at this; exact this
    have L7 := (L6.out.drewN 1)
    have HB7 : Below b2 w3 w6.drew := below_drewN HB6.out 1
    go_wp2
    go_region_law (refine step_copy_splice rfl (.tmp 14) (.tmp 15) 37 37 rfl 5 Try.underlying37 info8 _ _ 64 64 32 32 rfl rfl b2 0 ((List.replicate 64 0).map (Value.int .u8)) 232 A27 (S.map (Value.int .u8)) (by rw [List.length_map, LS.out]; rfl) (fun h => ⟨rfl, rd_src L7 h⟩) (by rw [List.length_map, List.length_map, List.length_replicate, LS.out]; decide) (ints_oneCell .u8 _) b2 w3 HB7 (Nat.le_refl _) ?_; intro w4 hc4 hb4)
    clear A27 L7 HB7
    rw [← HSS.out, splice_big key (by rw [HL.out]; exact HB.out), ← HKK.out] at hc4
    have HKC := As.mk hc4
    have HB4 := As.mk hb4
    clear hc4 hb4 A2

    have HK1 := As.mk HKC.out.out
    go_wp2_with (first
      | (refine wpList_load_row rfl 232 _ rfl b2 rfl 232 (bytesA K) (0, 0) _ HK1.out uArr64 rfl (by rw [bytesA_size, KL.out]; kernel_rfl) ?_))
    have G0 : As (w4.heap[w.heap.size]? = some (.cells (bytesA (fill (flip 54 K) 64 0)) 232 (0, 0))) := ⟨by rw [fill_zero, ← z64_list]; exact (HB4.out.block _ (by have := HO.out; omega)).trans A0.out⟩
    have G1 : As (w4.heap[b1]? = some (.cells (bytesA (fill (flip 92 K) 64 0)) 232 (0, 0))) := ⟨by rw [fill_zero, ← z64_list]; exact (HB4.out.block _ (by have := HO.out; omega)).trans A1.out⟩
    have HBW := As.mk (Below.trans HBB.out (HB4.out.mono (by have := HO.out; omega)))
    clear A0 A1 HB4 HBB HSZ HKC
    go_loopg [21] 64 (fun kq v21 wr => ∃ i : Nat, i + kq = 64 ∧ v21 = .int .i64 i ∧ As (wr.heap[w.heap.size]? = some (.cells (bytesA (fill (flip 54 K) 64 i)) 232 (0, 0))) ∧ As (wr.heap[b1]? = some (.cells (bytesA (fill (flip 92 K) 64 i)) 232 (0, 0))) ∧ As (Below w.heap.size w wr))
    case atStart => exact ⟨0, by omega, rfl, G0, G1, HBW⟩
    case round =>
      clear G0 G1 HBW
      obtain ⟨i, hi, rfl, G0, G1, HBW⟩ := hrel
      have HI := As.mk hi
      clear hi
      by_cases hlt : i < 64
      · have e0 : decide ((i : Int) < 64) = true := decide_eq_true (by omega)
        have e1 : decide (i < 64) = true := decide_eq_true hlt
        have Li : (i : Int) < 64 := by omega
        have hw : wrap64 ((i : Int) + 1) = ((i + 1 : Nat) : Int) := wrap_up (by omega)
        obtain ⟨a, ha, a1⟩ := RefGet.byte_lt KB.out i (by rw [KL.out]; exact hlt)
        have hix : ∀ W, (Instr.index 232 (.agg (bytesA K)) (.int .i64 (i : Int))).run Try.prog W = .ok (.int .u8 (a : Int)) W := fun W => run_index_arr (P := Try.prog) W 232 5 64 .u8 _ _ uArr64 Try.underlying5 CloneB.info (bytesA K) i hlt _ (by rw [bytesA_at _ _ (by rw [KL.out]; exact hlt), ha]) .i64
        have x1 : bits .xor .u8 (a : Int) 54 = ((a ^^^ 54 : Nat) : Int) := Go.Proofs.Yteajblfkfmopfaa.Bits.nu8_xor a 54 a1 (by omega)
        have x2 : bits .xor .u8 (a : Int) 92 = ((a ^^^ 92 : Nat) : Int) := Go.Proofs.Yteajblfkfmopfaa.Bits.nu8_xor a 92 a1 (by omega)
        have F1 := As.mk (flip_at 54 K i (by rw [KL.out]; exact hlt) a ha)
        have F2 := As.mk (flip_at 92 K i (by rw [KL.out]; exact hlt) a ha)
        obtain ⟨p, hp⟩ : ∃ p : Nat, p = a ^^^ 54 := ⟨_, rfl⟩
        obtain ⟨q, hq⟩ : ∃ q : Nat, q = a ^^^ 92 := ⟨_, rfl⟩
        rw [← hp] at x1 F1
        rw [← hq] at x2 F2
        have L1 : ∀ b, (fill (flip b K) 64 i).length = 64 := fun b => fill_len _ _ _ (by rw [flip_len, KL.out]) (by omega)
        have g0 : wr.cell? ⟨w.heap.size, i, none⟩ = some (.int .u8 (nth (fill (flip 54 K) 64 i) i)) := by rw [cell_of_row wr _ i _ _ _ G0.out, bytesA_at _ _ (by rw [L1]; exact hlt)]
        have g1 : wr.frozen? ⟨w.heap.size, i, none⟩ = false := frozen_of_row wr _ i _ _ G0.out
        have g2 : wr.cell? ⟨b1, i, none⟩ = some (.int .u8 (nth (fill (flip 92 K) 64 i) i)) := by rw [cell_of_row wr _ i _ _ _ G1.out, bytesA_at _ _ (by rw [L1]; exact hlt)]
        have g3 : wr.frozen? ⟨b1, i, none⟩ = false := frozen_of_row wr _ i _ _ G1.out
        have hne : ¬ w.heap.size = b1 := by have := HO.out; omega
        have hne' : ¬ b1 = w.heap.size := by have := HO.out; omega
        have HLT := As.mk hlt
        clear hp hq ha a1 L1 hlt
        go_wp2
        go_roundg (64 - (i + 1))
        case measure => have := HI.out; have := HLT.out; omega
        case rel =>
          refine ⟨i + 1, by have := HI.out; have := HLT.out; omega, by go_num, ⟨?_⟩, ⟨?_⟩, ⟨(HBW.out.setCell (Nat.le_refl _) _).setCell (Nat.le_of_lt HO.out.1) _⟩⟩
          · rw [heap_setCell_other _ _ _ _ (show w.heap.size ≠ b1 from hne), ← fill_set (flip 54 K) 64 i (by rw [flip_len, KL.out]) HLT.out, F1.out]
            exact heap_setCell_same _ _ _ _ _ _ G0.out
          · rw [← fill_set (flip 92 K) 64 i (by rw [flip_len, KL.out]) HLT.out, F2.out]
            exact heap_setCell_same _ _ _ _ _ _ ((heap_setCell_other _ _ _ _ (show b1 ≠ w.heap.size from hne')).trans G1.out)
      · have e0 : decide ((i : Int) < 64) = false := decide_eq_false (by omega)
        have e1 : decide (i < 64) = false := decide_eq_false hlt
        obtain rfl : i = 64 := by have := HI.out; omega
        go_wp2
        obtain ⟨L0, hL0⟩ : ∃ L : List Value, L = (flip 54 K).map (Value.int .u8) := ⟨_, rfl⟩
        obtain ⟨L1, hL1⟩ : ∃ L : List Value, L = (flip 92 K).map (Value.int .u8) := ⟨_, rfl⟩
        have r0 : wr.rangeAt w.heap.size 0 L0 := range_block G0.out L0 (by rw [fill_all _ _ (by rw [flip_len, KL.out]), hL0]; rfl)
        have r1 : wr.rangeAt b1 0 L1 := range_block G1.out L1 (by rw [fill_all _ _ (by rw [flip_len, KL.out]), hL1]; rfl)
        have l0 : L0.length = 64 := by rw [hL0, List.length_map, flip_len, KL.out]
        have l1 : L1.length = 64 := by rw [hL1, List.length_map, flip_len, KL.out]
        have t0 : wr.there w.heap.size 0 64 := there_block r0 l0 G0.out
        have t1 : wr.there b1 0 64 := there_block r1 l1 G1.out
        have i0 : (Try.prog.info? 232).map (·.size) = some L0.length := by rw [l0]; kernel_rfl
        have i1 : (Try.prog.info? 232).map (·.size) = some L1.length := by rw [l1]; kernel_rfl
        have o0 : ∀ v ∈ L0, v.oneCell' = true := by rw [hL0]; exact ints_oneCell .u8 _
        have o1 : ∀ v ∈ L1, v.oneCell' = true := by rw [hL1]; exact ints_oneCell .u8 _
        have z0 : L0.toArray.size = 64 := by simpa using l0
        have z1 : L1.toArray.size = 64 := by simpa using l1
        have hne : w.heap.size ≠ b1 := by have := HO.out; omega
        have E0 := As.mk hL0
        have E1 := As.mk hL1
        clear hL0 hL1 hlt
        refine wp_region_held_drew (S := fun W : World => W.rangeAt w.heap.size 0 L0 ∧ W.rangeAt b1 0 L1 ∧ W.there w.heap.size 0 64 ∧ W.there b1 0 64) (by kernel_rfl) ⟨by simpa using r0, by simpa using r1, by simpa using t0, by simpa using t1⟩ (fun hHeld => ?_)
        refine wpAnyH_take (i := 0) (v := .agg L0.toArray) rfl (by kernel_rfl) (by kernel_rfl) (by kernel_rfl) (fun _ _ _ h => h) (yieldsIf_load_mid (by rfl) _ _ rfl _ _ rfl L0 _ (fun W h => h.1) uArr64 rfl i0) hHeld ?_
        refine wpAnyH_take (i := 1) (v := .agg L1.toArray) rfl (by kernel_rfl) (by kernel_rfl) (by kernel_rfl) (fun _ _ _ h => h) (yieldsIf_load_mid (by rfl) _ _ rfl _ _ rfl L1 _ (fun W h => h.2.1) uArr64 rfl i1) hHeld ?_
        refine wpAnyH_ready (rs := [2]) (by kernel_rfl) (by simp) (AllReadyH.cons rfl (fun K' hK => ?_) AllReadyH.nil)
        rw [if_pos (by rfl)]
        refine wp_store_mid _ _ _ rfl _ _ L0.toArray rfl rfl (by rw [z0]; exact hHeld.2.2.1) (by rw [List.size_toArray]; exact i0) (all_oneCell_toArray o0) ?_
        have h2 := hHeld.2.2.1
        rw [← l0] at h2
        refine hK.out _ _ ⟨World.rangeAt_setCells_same _ _ _ _ h2, World.rangeAt_setCells_apart hHeld.2.1 _ _ _ (.inl (Ne.symm hne)), World.there_setCells hHeld.2.2.1 _ _ _, World.there_setCells hHeld.2.2.2 _ _ _⟩ (fun hHeld2 => ?_)
        clear hK
        refine wpAnyH_ready (rs := [3]) (by kernel_rfl) (by simp) (AllReadyH.cons rfl (fun K' hK => ?_) AllReadyH.nil)
        rw [if_pos (by rfl)]
        refine wp_store_mid _ _ _ rfl _ _ L1.toArray rfl rfl (by rw [z1]; exact hHeld2.2.2.2) (by rw [List.size_toArray]; exact i1) (all_oneCell_toArray o1) ?_
        have h3 := hHeld2.2.2.2
        rw [← l1] at h3
        refine hK.out _ _ ⟨World.rangeAt_setCells_apart hHeld2.1 _ _ _ (.inl hne), World.rangeAt_setCells_same _ _ _ _ h3, World.there_setCells hHeld2.2.2.1 _ _ _, World.there_setCells hHeld2.2.2.2 _ _ _⟩ (fun hHeld3 => ?_)
        refine wpAnyH_done (by kernel_rfl) ?_ _
        have HZ := As.mk hHeld3
        have HBZ : As (Below w.heap.size w ((wr.drew.setCells w.heap.size 0 L0.toArray.toList).setCells b1 0 L1.toArray.toList)) := ⟨below_setCells (below_setCells (below_drewN HBW.out 1) (Nat.le_refl _) 0 L0) (Nat.le_of_lt HO.out.1) 0 L1⟩
        clear hHeld3 hHeld2 hHeld h2 h3 hK HBW G0 G1 r0 r1 t0 t1
        generalize (wr.drew.setCells w.heap.size 0 L0.toArray.toList).setCells b1 0 L1.toArray.toList = wz at *
        go_wp2
        refine bodyPost_ret (v := .tuple #[.agg L0.toArray, .agg L1.toArray]) ?_ rfl ⟨by rw [E0.out, E1.out]; rfl, HBZ.out⟩
        exact results_two Try.results197 _ wz _ _ L0 L1 rfl rfl HZ.out.1 HZ.out.2.1 uArr64 rfl i0 i1
  · have d0 : decide (64 < (n : Int)) = false := decide_eq_false (by omega)
    have d1 : decide (64 < n) = false := decide_eq_false hbig
    have HB := As.mk hbig
    have HL := As.mk hlen
    clear hbig hlen
    go_enter Try.func197, Try.ntmps197
    go_wp2_with (refine wpList_allocArr rfl 232 rfl Z64 z64 ?_; refine As.out ?_)
    refine As.mk ?_
    go_wp2_with (refine wpList_allocArr rfl 232 rfl Z64 z64 ?_; refine As.out ?_)
    refine As.mk ?_
    go_wp2_with (refine wpList_allocArr rfl 232 rfl Z64 z64 ?_; refine As.out ?_)
    refine As.mk ?_
    generalize ((w.alloc (.cells Z64 232)).alloc (.cells Z64 232)).alloc (.cells Z64 232) = w3 at *
    obtain ⟨b1, hb1⟩ : ∃ b, b = w.heap.size + 1 := ⟨_, rfl⟩
    obtain ⟨b2, hb2⟩ : ∃ b, b = w.heap.size + 1 + 1 := ⟨_, rfl⟩
    rw [← hb2] at A2 ⊢
    rw [← hb1] at A1 ⊢
    have HO := As.mk (show w.heap.size < b1 ∧ b1 < b2 ∧ b2 < w3.heap.size from ⟨by omega, by omega, by rw [HSZ.out]; omega⟩)
    clear hb1 hb2
    go_wp2_with (refine wpList_copy_splice rfl _ _ 37 37 rfl 5 Try.underlying37 info8 _ _ 64 64 n c rfl rfl b2 0 ((List.replicate 64 0).map (Value.int .u8)) 232 (by have := A2.out; rw [z64_list] at this; exact this) (key.map (Value.int .u8)) (by rw [List.length_map, HL.out]; exact (Nat.min_eq_left (Nat.le_of_not_lt HB.out)).symm) (fun h => ⟨rfl, rd_src H3.out h⟩) (by rw [List.length_map, List.length_map, List.length_replicate, HL.out, Nat.zero_add]; exact Nat.le_of_not_lt HB.out) (ints_oneCell .u8 _) b2 w3 (Below.refl _ _) (Nat.le_refl _) ?_; intro w4 hc4 hb4; refine As.out ?_)
    refine As.mk ?_
    rw [splice_small key (by rw [HL.out]; exact HB.out), ← HKK.out] at hc4
    have HKC := As.mk hc4
    have HB4 := As.mk hb4
    clear hc4 hb4 A2

    have HK1 := As.mk HKC.out.out
    go_wp2_with (first
      | (refine wpList_load_row rfl 232 _ rfl b2 rfl 232 (bytesA K) (0, 0) _ HK1.out uArr64 rfl (by rw [bytesA_size, KL.out]; kernel_rfl) ?_))
    have G0 : As (w4.heap[w.heap.size]? = some (.cells (bytesA (fill (flip 54 K) 64 0)) 232 (0, 0))) := ⟨by rw [fill_zero, ← z64_list]; exact (HB4.out.block _ (by have := HO.out; omega)).trans A0.out⟩
    have G1 : As (w4.heap[b1]? = some (.cells (bytesA (fill (flip 92 K) 64 0)) 232 (0, 0))) := ⟨by rw [fill_zero, ← z64_list]; exact (HB4.out.block _ (by have := HO.out; omega)).trans A1.out⟩
    have HBW := As.mk (Below.trans HBB.out (HB4.out.mono (by have := HO.out; omega)))
    clear A0 A1 HB4 HBB HSZ HKC
    go_loopg [21] 64 (fun kq v21 wr => ∃ i : Nat, i + kq = 64 ∧ v21 = .int .i64 i ∧ As (wr.heap[w.heap.size]? = some (.cells (bytesA (fill (flip 54 K) 64 i)) 232 (0, 0))) ∧ As (wr.heap[b1]? = some (.cells (bytesA (fill (flip 92 K) 64 i)) 232 (0, 0))) ∧ As (Below w.heap.size w wr))
    case atStart => exact ⟨0, by omega, rfl, G0, G1, HBW⟩
    case round =>
      clear G0 G1 HBW
      obtain ⟨i, hi, rfl, G0, G1, HBW⟩ := hrel
      have HI := As.mk hi
      clear hi
      by_cases hlt : i < 64
      · have e0 : decide ((i : Int) < 64) = true := decide_eq_true (by omega)
        have e1 : decide (i < 64) = true := decide_eq_true hlt
        have Li : (i : Int) < 64 := by omega
        have hw : wrap64 ((i : Int) + 1) = ((i + 1 : Nat) : Int) := wrap_up (by omega)
        obtain ⟨a, ha, a1⟩ := RefGet.byte_lt KB.out i (by rw [KL.out]; exact hlt)
        have hix : ∀ W, (Instr.index 232 (.agg (bytesA K)) (.int .i64 (i : Int))).run Try.prog W = .ok (.int .u8 (a : Int)) W := fun W => run_index_arr (P := Try.prog) W 232 5 64 .u8 _ _ uArr64 Try.underlying5 CloneB.info (bytesA K) i hlt _ (by rw [bytesA_at _ _ (by rw [KL.out]; exact hlt), ha]) .i64
        have x1 : bits .xor .u8 (a : Int) 54 = ((a ^^^ 54 : Nat) : Int) := Go.Proofs.Yteajblfkfmopfaa.Bits.nu8_xor a 54 a1 (by omega)
        have x2 : bits .xor .u8 (a : Int) 92 = ((a ^^^ 92 : Nat) : Int) := Go.Proofs.Yteajblfkfmopfaa.Bits.nu8_xor a 92 a1 (by omega)
        have F1 := As.mk (flip_at 54 K i (by rw [KL.out]; exact hlt) a ha)
        have F2 := As.mk (flip_at 92 K i (by rw [KL.out]; exact hlt) a ha)
        obtain ⟨p, hp⟩ : ∃ p : Nat, p = a ^^^ 54 := ⟨_, rfl⟩
        obtain ⟨q, hq⟩ : ∃ q : Nat, q = a ^^^ 92 := ⟨_, rfl⟩
        rw [← hp] at x1 F1
        rw [← hq] at x2 F2
        have L1 : ∀ b, (fill (flip b K) 64 i).length = 64 := fun b => fill_len _ _ _ (by rw [flip_len, KL.out]) (by omega)
        have g0 : wr.cell? ⟨w.heap.size, i, none⟩ = some (.int .u8 (nth (fill (flip 54 K) 64 i) i)) := by rw [cell_of_row wr _ i _ _ _ G0.out, bytesA_at _ _ (by rw [L1]; exact hlt)]
        have g1 : wr.frozen? ⟨w.heap.size, i, none⟩ = false := frozen_of_row wr _ i _ _ G0.out
        have g2 : wr.cell? ⟨b1, i, none⟩ = some (.int .u8 (nth (fill (flip 92 K) 64 i) i)) := by rw [cell_of_row wr _ i _ _ _ G1.out, bytesA_at _ _ (by rw [L1]; exact hlt)]
        have g3 : wr.frozen? ⟨b1, i, none⟩ = false := frozen_of_row wr _ i _ _ G1.out
        have hne : ¬ w.heap.size = b1 := by have := HO.out; omega
        have hne' : ¬ b1 = w.heap.size := by have := HO.out; omega
        have HLT := As.mk hlt
        clear hp hq ha a1 L1 hlt
        go_wp2
        go_roundg (64 - (i + 1))
        case measure => have := HI.out; have := HLT.out; omega
        case rel =>
          refine ⟨i + 1, by have := HI.out; have := HLT.out; omega, by go_num, ⟨?_⟩, ⟨?_⟩, ⟨(HBW.out.setCell (Nat.le_refl _) _).setCell (Nat.le_of_lt HO.out.1) _⟩⟩
          · rw [heap_setCell_other _ _ _ _ (show w.heap.size ≠ b1 from hne), ← fill_set (flip 54 K) 64 i (by rw [flip_len, KL.out]) HLT.out, F1.out]
            exact heap_setCell_same _ _ _ _ _ _ G0.out
          · rw [← fill_set (flip 92 K) 64 i (by rw [flip_len, KL.out]) HLT.out, F2.out]
            exact heap_setCell_same _ _ _ _ _ _ ((heap_setCell_other _ _ _ _ (show b1 ≠ w.heap.size from hne')).trans G1.out)
      · have e0 : decide ((i : Int) < 64) = false := decide_eq_false (by omega)
        have e1 : decide (i < 64) = false := decide_eq_false hlt
        obtain rfl : i = 64 := by have := HI.out; omega
        go_wp2
        obtain ⟨L0, hL0⟩ : ∃ L : List Value, L = (flip 54 K).map (Value.int .u8) := ⟨_, rfl⟩
        obtain ⟨L1, hL1⟩ : ∃ L : List Value, L = (flip 92 K).map (Value.int .u8) := ⟨_, rfl⟩
        have r0 : wr.rangeAt w.heap.size 0 L0 := range_block G0.out L0 (by rw [fill_all _ _ (by rw [flip_len, KL.out]), hL0]; rfl)
        have r1 : wr.rangeAt b1 0 L1 := range_block G1.out L1 (by rw [fill_all _ _ (by rw [flip_len, KL.out]), hL1]; rfl)
        have l0 : L0.length = 64 := by rw [hL0, List.length_map, flip_len, KL.out]
        have l1 : L1.length = 64 := by rw [hL1, List.length_map, flip_len, KL.out]
        have t0 : wr.there w.heap.size 0 64 := there_block r0 l0 G0.out
        have t1 : wr.there b1 0 64 := there_block r1 l1 G1.out
        have i0 : (Try.prog.info? 232).map (·.size) = some L0.length := by rw [l0]; kernel_rfl
        have i1 : (Try.prog.info? 232).map (·.size) = some L1.length := by rw [l1]; kernel_rfl
        have o0 : ∀ v ∈ L0, v.oneCell' = true := by rw [hL0]; exact ints_oneCell .u8 _
        have o1 : ∀ v ∈ L1, v.oneCell' = true := by rw [hL1]; exact ints_oneCell .u8 _
        have z0 : L0.toArray.size = 64 := by simpa using l0
        have z1 : L1.toArray.size = 64 := by simpa using l1
        have hne : w.heap.size ≠ b1 := by have := HO.out; omega
        have E0 := As.mk hL0
        have E1 := As.mk hL1
        clear hL0 hL1 hlt
        refine wp_region_held_drew (S := fun W : World => W.rangeAt w.heap.size 0 L0 ∧ W.rangeAt b1 0 L1 ∧ W.there w.heap.size 0 64 ∧ W.there b1 0 64) (by kernel_rfl) ⟨by simpa using r0, by simpa using r1, by simpa using t0, by simpa using t1⟩ (fun hHeld => ?_)
        refine wpAnyH_take (i := 0) (v := .agg L0.toArray) rfl (by kernel_rfl) (by kernel_rfl) (by kernel_rfl) (fun _ _ _ h => h) (yieldsIf_load_mid (by rfl) _ _ rfl _ _ rfl L0 _ (fun W h => h.1) uArr64 rfl i0) hHeld ?_
        refine wpAnyH_take (i := 1) (v := .agg L1.toArray) rfl (by kernel_rfl) (by kernel_rfl) (by kernel_rfl) (fun _ _ _ h => h) (yieldsIf_load_mid (by rfl) _ _ rfl _ _ rfl L1 _ (fun W h => h.2.1) uArr64 rfl i1) hHeld ?_
        refine wpAnyH_ready (rs := [2]) (by kernel_rfl) (by simp) (AllReadyH.cons rfl (fun K' hK => ?_) AllReadyH.nil)
        rw [if_pos (by rfl)]
        refine wp_store_mid _ _ _ rfl _ _ L0.toArray rfl rfl (by rw [z0]; exact hHeld.2.2.1) (by rw [List.size_toArray]; exact i0) (all_oneCell_toArray o0) ?_
        have h2 := hHeld.2.2.1
        rw [← l0] at h2
        refine hK.out _ _ ⟨World.rangeAt_setCells_same _ _ _ _ h2, World.rangeAt_setCells_apart hHeld.2.1 _ _ _ (.inl (Ne.symm hne)), World.there_setCells hHeld.2.2.1 _ _ _, World.there_setCells hHeld.2.2.2 _ _ _⟩ (fun hHeld2 => ?_)
        clear hK
        refine wpAnyH_ready (rs := [3]) (by kernel_rfl) (by simp) (AllReadyH.cons rfl (fun K' hK => ?_) AllReadyH.nil)
        rw [if_pos (by rfl)]
        refine wp_store_mid _ _ _ rfl _ _ L1.toArray rfl rfl (by rw [z1]; exact hHeld2.2.2.2) (by rw [List.size_toArray]; exact i1) (all_oneCell_toArray o1) ?_
        have h3 := hHeld2.2.2.2
        rw [← l1] at h3
        refine hK.out _ _ ⟨World.rangeAt_setCells_apart hHeld2.1 _ _ _ (.inl hne), World.rangeAt_setCells_same _ _ _ _ h3, World.there_setCells hHeld2.2.2.1 _ _ _, World.there_setCells hHeld2.2.2.2 _ _ _⟩ (fun hHeld3 => ?_)
        refine wpAnyH_done (by kernel_rfl) ?_ _
        have HZ := As.mk hHeld3
        have HBZ : As (Below w.heap.size w ((wr.drew.setCells w.heap.size 0 L0.toArray.toList).setCells b1 0 L1.toArray.toList)) := ⟨below_setCells (below_setCells (below_drewN HBW.out 1) (Nat.le_refl _) 0 L0) (Nat.le_of_lt HO.out.1) 0 L1⟩
        clear hHeld3 hHeld2 hHeld h2 h3 hK HBW G0 G1 r0 r1 t0 t1
        generalize (wr.drew.setCells w.heap.size 0 L0.toArray.toList).setCells b1 0 L1.toArray.toList = wz at *
        go_wp2
        refine bodyPost_ret (v := .tuple #[.agg L0.toArray, .agg L1.toArray]) ?_ rfl ⟨by rw [E0.out, E1.out]; rfl, HBZ.out⟩
        exact results_two Try.results197 _ wz _ _ L0 L1 rfl rfl HZ.out.1 HZ.out.2.1 uArr64 rfl i0 i1
end Go.Proofs.Yteajblfkfmopfaa.Hmac
