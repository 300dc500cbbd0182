/- chatelaineref06.Tag. -/
import Derived.Test.YtpijkibhjklkoaaRefHmac
import Derived.Test.YtpijkibhjklkoaaParts
namespace Go.Proofs.Ytpijkibhjklkoaa.RefHmac
set_option linter.unusedVariables false
set_option linter.unusedSimpArgs false
open Go Go.RowKit Go.Proofs.Ytpijkibhjklkoaa.Mem Go.Proofs.Ytpijkibhjklkoaa.Put32 Go.Proofs.Ytpijkibhjklkoaa.Pad Go.Proofs.Ytpijkibhjklkoaa.Sum Go.Proofs.Ytpijkibhjklkoaa.RefWith Go.Proofs.Ytpijkibhjklkoaa.RefSum Go.Proofs.Ytpijkibhjklkoaa.ShaAwake Go.Proofs.Ytpijkibhjklkoaa.ShaSums Go.Proofs.Ytpijkibhjklkoaa.ShaParts Go.Proofs.Ytpijkibhjklkoaa.Stretch Go.Proofs.Ytpijkibhjklkoaa.Hmac Go.Proofs.Ytpijkibhjklkoaa.Parts

theorem sumA_bytesA (x S : List Int) (h : sumB x = S) : sumA x = bytesA S := by rw [← h]; rfl
theorem byte_app' {x y : List Int} (hx : Byte x) (hy : Byte y) : Byte (x ++ y) := fun v h => (List.mem_append.1 h).elim (hx v) (hy v)
theorem src_at {w : World} {A : Option Addr} {n c : Nat} {x : List Int} (h : Rd .u8 w A n c x) : Go.Proofs.Ytpijkibhjklkoaa.Mem.Src w (.slice A n c) n 1 (x.map (Value.int .u8)) := Src.rd h
theorem key_54 (key : List Int) (hk : Byte key) (A : Option Addr) (n c : Nat) (w : World) (hn : n ≤ 1099511627776) (h0 : Rd .u8 w A n c key) :
    Calls Try.prog 44 #[.slice A n c, .int .u8 54] w fun e w' => ∃ A' c', e = .returned (.slice A' 64 c') ∧ Below w.heap.size w w' ∧ OwnAt w' w.heap.size (.slice A' 64 c') 64 ((flip 54 (padKey key)).map (Value.int .u8)) :=
  key_any key hk A n c 54 (by decide) w hn h0
theorem key_92 (key : List Int) (hk : Byte key) (A : Option Addr) (n c : Nat) (w : World) (hn : n ≤ 1099511627776) (h0 : Rd .u8 w A n c key) :
    Calls Try.prog 44 #[.slice A n c, .int .u8 92] w fun e w' => ∃ A' c', e = .returned (.slice A' 64 c') ∧ Below w.heap.size w w' ∧ OwnAt w' w.heap.size (.slice A' 64 c') 64 ((flip 92 (padKey key)).map (Value.int .u8)) :=
  key_any key hk A n c 92 (by decide) w hn h0
set_option maxHeartbeats 2000000 in
set_option maxRecDepth 100000 in
theorem tag_ref (key b : List Int) (hk : Byte key) (hbb : Byte b) (A B : Option Addr) (n c m d : Nat) (w : World) (hn : n ≤ 1099511627776) (hm : m ≤ 1000000000) (h0 : Rd .u8 w A n c key) (h1 : Rd .u8 w B m d b) (T : List Int) (hT : tagB key b = T) :
    Calls Try.prog 42 #[.slice A n c, .slice B m d] w fun e w' => e = .returned (.agg (bytesA T)) ∧ Below w.heap.size w w' := by
  have HK := As.mk hk
  have HBB := As.mk hbb
  have HN := As.mk hn
  have HMM := As.mk hm
  have HT := As.mk hT
  have HTL := As.mk (show T.length = 32 by rw [← hT]; exact tagB_len _ _)
  have VT := As.mk (show (bytesA T).size = 32 by rw [bytesA_size]; exact HTL.out)
  have HB0 := As.mk (below_alloc (Below.refl w.heap.size w) (.cells Z32 44))
  have HZ0 := As.mk (heap_alloc_new w (.cells Z32 44))
  have HS0 := As.mk (show w.heap.size < (w.alloc (.cells Z32 44)).heap.size by simp)
  have H0 := As.mk (h0.below HB0.out)
  have H1 := As.mk (h1.below HB0.out)
  obtain ⟨I, hI⟩ : ∃ I, I = flip 54 (padKey key) := ⟨_, rfl⟩
  obtain ⟨O, hO⟩ : ∃ O, O = flip 92 (padKey key) := ⟨_, rfl⟩
  obtain ⟨S, hS⟩ : ∃ S, sumB (I ++ b) = S := ⟨_, rfl⟩
  have HI := As.mk hI
  have HO := As.mk hO
  have HS := As.mk hS
  have HSL := As.mk (show S.length = 32 by rw [← hS]; exact sumB_len _)
  have HIB := As.mk (show Byte I by rw [hI]; exact flip_byte 54 _ (padKey_byte _ hk) (by omega))
  have HOB := As.mk (show Byte O by rw [hO]; exact flip_byte 92 _ (padKey_byte _ hk) (by omega))
  have HSB := As.mk (show Byte S by rw [← hS]; exact sumB_byte _)
  have HTT := As.mk (show sumB (O ++ S) = T by rw [← hT, hO, ← hS, hI]; rfl)
  clear hk hbb hn hm hT h0 h1 hI hO hS
  go_enter Try.func42, Try.ntmps42
  go_wp2_with (refine wpList_allocArr rfl 44 rfl Z32 z32 ?_; refine As.out ?_)
  refine As.mk ?_
  generalize w.alloc _ = w0 at *
  go_wp2_with (first
    | (go_at_call 44; (with_reducible refine (key_54 key HK.out A n c w0 HN.out H0.out).mono ?_); rintro e w1 ⟨A1, c1, rfl, hb, ho⟩; rw [← HI.out] at ho; have HO1 := As.mk ho; have HB1 := As.mk hb; have H11 := As.mk (H1.out.below hb); have H01 := As.mk (H0.out.below hb); clear hb ho)
    | (at_builtin; refine wpList_app2 rfl (.tmp 9) (.tmp 10) 22 rfl w0.heap.size 5 (.int .u8 0) 1 Try.underlying22 CloneB.info rfl _ 64 _ rfl HO1.out _ m _ rfl (src_at H11.out) ?c1 ?c2 HB1.out.size HB1.out (Nat.le_refl _) ?_; (case c1 => have := HMM.out; unfold maxLen; omega); (case c2 => have := HMM.out; omega); intro v2 w2 hown hg hat hb; obtain ⟨A2, c2, rfl⟩ := hown.slice; rw [← List.map_append] at hown; have HO2 := As.mk hown; have HB2 := As.mk hb; have H02 := As.mk (H0.out.below hb); clear hown hg hat hb)
    | (go_at_call 44; refine As.out ?_))
  refine As.mk ?_
  refine (key_92 key HK.out A n c w2 HN.out H02.out).mono ?_
  rintro e w3 ⟨A3, c3, rfl, hb, ho⟩
  rw [← HO.out] at ho
  have HO3 := As.mk ho
  have HR3 := As.mk (own_rd_at (HO2.out.below hb))
  have HB3 := As.mk hb
  clear hb ho
  go_wp2_with (first
    | (go_at_call 31; (with_reducible refine (RefSum.sum_ref (I ++ b) (byte_app' HIB.out HBB.out) A2 (64 + m) c2 w3 ?c3 HR3.out).mono ?_); (case c3 => have := HMM.out; omega); rintro e w4 ⟨rfl, hb⟩; rw [sumA_bytesA _ S HS.out]; have HB4 := As.mk (below_step HB3.out hb); have HO4 := As.mk (HO3.out.below hb); clear hb)
    | (go_at_call 64; (with_reducible refine (list_any S HSL.out w4).mono ?_); rintro e w5 ⟨A5, c5, rfl, hb, ho⟩; have HB5 := As.mk (below_step HB4.out hb); have HO5 := As.mk (HO4.out.below hb); have HL5 := As.mk (own_rd_at ho); clear hb ho)
    | (at_builtin; refine wpList_app2 rfl (.tmp 14) (.tmp 17) 22 rfl w2.heap.size 5 (.int .u8 0) 1 Try.underlying22 CloneB.info rfl _ 64 _ rfl HO5.out _ 32 _ rfl (src_at HL5.out) ?c4 ?c5 HB5.out.size HB5.out (Nat.le_refl _) ?_; (case c4 => unfold maxLen; omega); (case c5 => omega); intro v6 w6 hown hg hat hb; obtain ⟨A6, c6, rfl⟩ := hown.slice; rw [← List.map_append] at hown; have HO6 := As.mk (own_rd_at hown); have HB6 := As.mk hb; clear hown hg hat hb; refine As.out ?_))
  refine As.mk ?_
  have HBW := As.mk (below_step HB2.out HB6.out)
  clear HB3 HB4 HB5 HO3 HO4 HO5 HR3 HL5
  go_wp2_with (first
    | (go_at_call 31; (refine (RefSum.sum_ref (O ++ S) (byte_app' HOB.out HSB.out) A6 (64 + 32) c6 w6 (by decide) HO6.out).mono ?_); rintro e w7 ⟨rfl, hb⟩; rw [sumA_bytesA _ T HTT.out]; have HB7 := As.mk (below_step HBW.out hb); clear hb)
    | (refine wpList_storeArr rfl rfl 44 _ _ rfl w.heap.size rfl (bytesA T) rfl 44 Z32 ?c6 (by rw [VT.out]; kernel_rfl) (by rw [VT.out]; kernel_rfl) (bytesA_one T) ?_; (case c6 => exact (HB7.out.block _ HS0.out).trans HZ0.out); refine As.out ?_))
  refine As.mk ?_
  go_wp2
  refine bodyPost_ret (v := .agg (bytesA T)) ?_ rfl ⟨rfl, below_setRow (below_step' (Nat.le_of_lt HS0.out) HB0.out HB7.out) (Nat.le_refl _) _⟩
  exact results_cell_row Try.results42 _ _ w.heap.size 44 (bytesA T) (0, 0) _ rfl (setRow_new w7 w.heap.size Z32 (bytesA T) _ ((HB7.out.block _ HS0.out).trans HZ0.out)) uArr32 rfl (by rw [VT.out]; kernel_rfl)
end Go.Proofs.Ytpijkibhjklkoaa.RefHmac
