/- chatelaineref05.Told, chatelaineref05.Sum: the reference's sum is the program's sum. -/
import Derived.Test.YtjcofbjfolaoiaaRefWith
import Derived.Test.YtjcofbjfolaoiaaEval
namespace Go.Proofs.Ytjcofbjfolaoiaa.RefSum
set_option linter.unusedVariables false
set_option linter.unusedSimpArgs false
open Go Go.RowKit Go.Proofs.Ytjcofbjfolaoiaa.Mem Go.Proofs.Ytjcofbjfolaoiaa.W32 Go.Proofs.Ytjcofbjfolaoiaa.Turns Go.Proofs.Ytjcofbjfolaoiaa.Put32 Go.Proofs.Ytjcofbjfolaoiaa.Pad Go.Proofs.Ytjcofbjfolaoiaa.Piece Go.Proofs.Ytjcofbjfolaoiaa.Schedule Go.Proofs.Ytjcofbjfolaoiaa.Take Go.Proofs.Ytjcofbjfolaoiaa.Sum Go.Proofs.Ytjcofbjfolaoiaa.RefWith Go.Proofs.Ytjcofbjfolaoiaa.Kinds

theorem sumB_len (x : List Int) : (sumB x).length = 32 := sum_spec x
theorem sumA_size (x : List Int) : (sumA x).size = 32 := by simp [sumA, sumB_len]
theorem sumA_one (x : List Int) : (sumA x).all (·.oneCell') = true := by
  unfold sumA
  rw [List.all_toArray, List.all_eq_true]
  intro v hv
  obtain ⟨i, _, rfl⟩ := List.mem_map.1 hv
  rfl
theorem wlK : wl Kc 64 = kindsL := by kernel_rfl
theorem wlH : wl H0 8 = beginL := by kernel_rfl
set_option maxHeartbeats 1000000 in
set_option maxRecDepth 100000 in
theorem told_any (w : World) : Calls Try.prog 150 #[] w fun e w' => e = .returned (.slice (some ⟨w.heap.size, 0, none⟩) 64 64) ∧ Rd .u32 w' (some ⟨w.heap.size, 0, none⟩) 64 64 (wl Kc 64) ∧ Below w.heap.size w w' := by
  have HL := As.mk (Rd.lit w .u32 180 kindsL (by decide))
  go_enter Try.func150, Try.ntmps150
  go_wp2
  go_ret
  refine ⟨rfl, ?_, below_alloc (Below.refl _ _) _⟩
  rw [wlK]
  exact HL.out

theorem with_sum (x : List Int) (hx : Byte x) (A B C : Option Addr) (n c ck cb : Nat) (w : World) (hn : n ≤ 1099511627776)
    (hK : Rd .u32 w A 64 ck (wl Kc 64)) (hH : Rd .u32 w B 8 cb (wl H0 8)) (h0 : Rd .u8 w C n c x) (V : Array Value) (hV : sumA x = V) :
    Calls Try.prog 149 #[.slice A 64 ck, .slice B 8 cb, .slice C n c] w fun e w' => e = .returned (.agg V) ∧ Below w.heap.size w w' := by
  have h := with_any Kc H0 x hx A B C n c ck cb w hn hK hH h0
  have e : (((List.range 8).flatMap fun j => bytes4 ((feed Kc H0 (x ++ pad n)).1 j).toNat).map (Value.int .u8)).toArray = V := by
    rw [← hV, ← h0.len]
    unfold sumA sumB sumS
    exact rfl
  rw [e] at h
  exact h

set_option maxHeartbeats 1000000 in
set_option maxRecDepth 100000 in
theorem sum_ref0 (x : List Int) (hx : Byte x) (C : Option Addr) (n c : Nat) (w : World) (hn : n ≤ 1099511627776) (h0 : Rd .u8 w C n c x) (V : Array Value) (hV : sumA x = V) (h1 : V.size = 32) (h2 : V.all (·.oneCell') = true) :
    Calls Try.prog 104 #[.slice C n c] w fun e w' => e = .returned (.agg V) ∧ Below w.heap.size w w' := by
  have HX := As.mk hx
  have HN := As.mk hn
  have HV := As.mk hV
  have HB0 := As.mk (below_alloc (Below.refl w.heap.size w) (.cells Z32 102))
  have HZ0 := As.mk (heap_alloc_new w (.cells Z32 102))
  have HS0 := As.mk (show w.heap.size < (w.alloc (.cells Z32 102)).heap.size by simp)
  have HC := As.mk (h0.below HB0.out)
  clear hx hn h0 hV
  go_enter Try.func104, Try.ntmps104
  go_wp2_with (refine wpList_allocArr rfl 102 rfl Z32 z32 ?_; generalize w.alloc (.cells Z32 102) = w0 at *; refine stop_here ?_)
  unfold StopHere
  have HL : As (Rd .u32 (w0.alloc (.cells #[.int .u32 1779033703, .int .u32 3144134277, .int .u32 1013904242, .int .u32 2773480762, .int .u32 1359893119, .int .u32 2600822924, .int .u32 528734635, .int .u32 1541459225] 180)) (some ⟨w0.heap.size, 0, none⟩) 8 8 beginL) := ⟨Rd.lit w0 .u32 180 beginL (by decide)⟩
  have HB := As.mk (below_alloc (Below.refl w0.heap.size w0) (.cells #[.int .u32 1779033703, .int .u32 3144134277, .int .u32 1013904242, .int .u32 2773480762, .int .u32 1359893119, .int .u32 2600822924, .int .u32 528734635, .int .u32 1541459225] 180))
  have H0c := As.mk (HC.out.below HB.out)
  go_wp2_with (go_at_call 150; refine stop_here ?_)
  unfold StopHere
  generalize w0.alloc _ = wb at *
  refine (told_any wb).mono ?_
  rintro e w1 ⟨rfl, hk, hb⟩
  have HK := As.mk hk
  have HB1 := As.mk (Below.trans HB.out (hb.mono HB.out.size))
  have HL1 : As (Rd .u32 w1 (some ⟨w0.heap.size, 0, none⟩) 8 8 (wl H0 8)) := ⟨by rw [wlH]; exact HL.out.below hb⟩
  have HC1 := As.mk (H0c.out.below hb)
  clear hk hb HL HB H0c
  go_wp2_with (go_at_call 149; refine stop_here ?_)
  unfold StopHere
  refine (with_sum x HX.out _ _ C n c _ _ _ HN.out HK.out HL1.out HC1.out V HV.out).mono ?_
  rintro e w2 ⟨rfl, hb⟩
  have HB2 := As.mk (Below.trans HB1.out (hb.mono HB1.out.size))
  clear hb HK HL1 HC1
  go_wp2_with (refine wpList_storeArr rfl rfl 102 (.tmp 2) (.tmp 8) rfl w.heap.size rfl V rfl 102 Z32 ((HB2.out.block _ HS0.out).trans HZ0.out) (by rw [h1]; kernel_rfl) (by rw [h1]; kernel_rfl) h2 ?_)
  refine bodyPost_ret (v := .agg V) ?_ rfl ⟨rfl, below_setRow (below_step' (Nat.le_of_lt HS0.out) HB0.out HB2.out) (Nat.le_refl _) _⟩
  exact results_cell_row Try.results104 _ _ w.heap.size 102 V (0, 0) _ rfl (setRow_new w2 w.heap.size Z32 V _ ((HB2.out.block _ HS0.out).trans HZ0.out)) uArr32 rfl (by rw [h1]; kernel_rfl)

theorem sum_ref (x : List Int) (hx : Byte x) (C : Option Addr) (n c : Nat) (w : World) (hn : n ≤ 1099511627776) (h0 : Rd .u8 w C n c x) :
    Calls Try.prog 104 #[.slice C n c] w fun e w' => e = .returned (.agg (sumA x)) ∧ Below w.heap.size w w' :=
  sum_ref0 x hx C n c w hn h0 (sumA x) rfl (sumA_size x) (sumA_one x)
end Go.Proofs.Ytjcofbjfolaoiaa.RefSum
