/- the sum's numbers, reckoned by the kernel. Plain. chatelaineref05.Told, chatelaineref05.Sum: the reference's sum is the program's sum. -/
import Derived.Test.YteajblfkfmopfaaSum
import Derived.Test.YteajblfkfmopfaaRefWith
namespace Go.Proofs.Yteajblfkfmopfaa.Eval
set_option linter.unusedVariables false
set_option linter.unusedSimpArgs false
open Go Go.Proofs.Yteajblfkfmopfaa.Mem Go.Proofs.Yteajblfkfmopfaa.W32 Go.Proofs.Yteajblfkfmopfaa.Piece Go.Proofs.Yteajblfkfmopfaa.Take Go.Proofs.Yteajblfkfmopfaa.Kinds Go.Proofs.Yteajblfkfmopfaa.Schedule Go.Proofs.Yteajblfkfmopfaa.Pad Go.Proofs.Yteajblfkfmopfaa.Sum Go.Proofs.Yteajblfkfmopfaa.Turns Go.Proofs.Yteajblfkfmopfaa.Put32

/-- the words, the newest ahead -/
def words (p : List Int) : Nat → List W
  | 0 => []
  | t + 1 => (if t < 16 then word p (4 * t) else (words p t).getD 15 0 + s0 ((words p t).getD 14 0) + (words p t).getD 6 0 + s1 ((words p t).getD 1 0)) :: words p t
theorem words_at (p : List Int) : ∀ t j, j < t → (words p t).getD (t - 1 - j) 0 = sched p j := by
  intro t
  induction t with
  | zero => intro j h; omega
  | succ t ih =>
    intro j h
    by_cases e : j = t
    · subst e
      have : j + 1 - 1 - j = 0 := by omega
      rw [this, words]
      by_cases h16 : j < 16
      · rw [if_pos h16, sched_lo p j h16]; rfl
      · rw [if_neg h16, sched_hi p j h16]
        have a := ih (j - 16) (by omega)
        have b := ih (j - 15) (by omega)
        have c := ih (j - 7) (by omega)
        have d := ih (j - 2) (by omega)
        rw [show j - 1 - (j - 16) = 15 by omega] at a
        rw [show j - 1 - (j - 15) = 14 by omega] at b
        rw [show j - 1 - (j - 7) = 6 by omega] at c
        rw [show j - 1 - (j - 2) = 1 by omega] at d
        rw [a, b, c, d]; rfl
    · have a := ih j (by omega)
      rw [words, show t + 1 - 1 - j = (t - 1 - j) + 1 by omega, List.getD_cons_succ, a]
def rnd (K : Nat → W) (w : List W) (s : Nat → W) : Nat → (Nat → W)
  | 0 => s
  | t + 1 => Piece.step (K t) (w.getD (63 - t) 0) (rnd K w s t)
theorem rnd_eq (K : Nat → W) (p : List Int) (s : Nat → W) : ∀ t, t ≤ 64 → rounds K p s t = rnd K (words p 64) s t := by
  intro t
  induction t with
  | zero => intro _; rfl
  | succ t ih =>
    intro h
    rw [rounds, rnd, ih (by omega), ← words_at p 64 t (by omega)]
def pieceF (K : Nat → W) (p : List Int) (s : Nat → W) : Nat → W := fun j => s j + rnd K (words p 64) s 64 j
theorem pieceF_eq (K : Nat → W) (p : List Int) (s : Nat → W) : piece K p s = pieceF K p s := by
  funext j
  unfold piece pieceF
  rw [rnd_eq K p s 64 (Nat.le_refl _)]
def pieces (K : Nat → W) : Nat → (Nat → W) → List Int → (Nat → W)
  | 0, s, _ => s
  | n + 1, s, b => pieces K n (pieceF K (b.take 64) s) (b.drop 64)
theorem feed_pieces (K : Nat → W) : ∀ n s b, b.length = 64 * n → (feed K s b).1 = pieces K n s b := by
  intro n
  induction n with
  | zero => intro s b h; rw [feed_lo _ _ _ (by omega)]; rfl
  | succ n ih =>
    intro s b h
    rw [feed_hi _ _ _ (by omega), ih _ _ (by rw [List.length_drop]; omega), pieceF_eq]; rfl
def sumF (n : Nat) (b : List Int) : List Int := (List.range 8).flatMap fun j => bytes4 (pieces Kc n H0 (b ++ pad b.length) j).toNat
theorem sum_eq (n : Nat) (b : List Int) (h : (b ++ pad b.length).length = 64 * n) : sumB b = sumF n b := by
  unfold sumB sumF sumS
  rw [feed_pieces Kc n H0 _ h]
theorem abc : sumB [97, 98, 99] = sumF 1 [97, 98, 99] := sum_eq 1 _ (by kernel_rfl)
theorem abc4 : (sumF 1 [97, 98, 99]).take 4 = [0xba, 0x78, 0x16, 0xbf] := by kernel_rfl
end Go.Proofs.Yteajblfkfmopfaa.Eval
namespace Go.Proofs.Yteajblfkfmopfaa.RefSum
set_option linter.unusedVariables false
set_option linter.unusedSimpArgs false
open Go Go.RowKit Go.Proofs.Yteajblfkfmopfaa.Mem Go.Proofs.Yteajblfkfmopfaa.W32 Go.Proofs.Yteajblfkfmopfaa.Turns Go.Proofs.Yteajblfkfmopfaa.Put32 Go.Proofs.Yteajblfkfmopfaa.Pad Go.Proofs.Yteajblfkfmopfaa.Piece Go.Proofs.Yteajblfkfmopfaa.Schedule Go.Proofs.Yteajblfkfmopfaa.Take Go.Proofs.Yteajblfkfmopfaa.Sum Go.Proofs.Yteajblfkfmopfaa.RefWith Go.Proofs.Yteajblfkfmopfaa.Kinds

theorem sumB_len (x : List Int) : (sumB x).length = 32 := sum_spec x
theorem sumA_size (x : List Int) : (sumA x).size = 32 := by simp [sumA, sumB_len]
theorem sumA_one (x : List Int) : (sumA x).all (·.oneCell') = true := by
  unfold sumA
  rw [List.all_toArray, List.all_eq_true]
  intro v hv
  obtain ⟨i, _, rfl⟩ := List.mem_map.1 hv
  rfl
theorem wlK : wl Kc 64 = kindsL := by kernel_rfl
theorem wlH : wl H0 8 = beginL := by kernel_rfl
set_option maxHeartbeats 1000000 in
set_option maxRecDepth 100000 in
theorem told_any (w : World) : Calls Try.prog 225 #[] w fun e w' => e = .returned (.slice (some ⟨w.heap.size, 0, none⟩) 64 64) ∧ Rd .u32 w' (some ⟨w.heap.size, 0, none⟩) 64 64 (wl Kc 64) ∧ Below w.heap.size w w' := by
  have HL := As.mk (Rd.lit w .u32 240 kindsL (by decide))
  go_enter Try.func225, Try.ntmps225
  go_wp2
  go_ret
  refine ⟨rfl, ?_, below_alloc (Below.refl _ _) _⟩
  rw [wlK]
  exact HL.out

theorem with_sum (x : List Int) (hx : Byte x) (A B C : Option Addr) (n c ck cb : Nat) (w : World) (hn : n ≤ 1099511627776)
    (hK : Rd .u32 w A 64 ck (wl Kc 64)) (hH : Rd .u32 w B 8 cb (wl H0 8)) (h0 : Rd .u8 w C n c x) (V : Array Value) (hV : sumA x = V) :
    Calls Try.prog 224 #[.slice A 64 ck, .slice B 8 cb, .slice C n c] w fun e w' => e = .returned (.agg V) ∧ Below w.heap.size w w' := by
  have h := with_any Kc H0 x hx A B C n c ck cb w hn hK hH h0
  have e : (((List.range 8).flatMap fun j => bytes4 ((feed Kc H0 (x ++ pad n)).1 j).toNat).map (Value.int .u8)).toArray = V := by
    rw [← hV, ← h0.len]
    unfold sumA sumB sumS
    exact rfl
  rw [e] at h
  exact h

set_option maxHeartbeats 1000000 in
set_option maxRecDepth 100000 in
theorem sum_ref0 (x : List Int) (hx : Byte x) (C : Option Addr) (n c : Nat) (w : World) (hn : n ≤ 1099511627776) (h0 : Rd .u8 w C n c x) (V : Array Value) (hV : sumA x = V) (h1 : V.size = 32) (h2 : V.all (·.oneCell') = true) :
    Calls Try.prog 200 #[.slice C n c] w fun e w' => e = .returned (.agg V) ∧ Below w.heap.size w w' := by
  have HX := As.mk hx
  have HN := As.mk hn
  have HV := As.mk hV
  have HB0 := As.mk (below_alloc (Below.refl w.heap.size w) (.cells Z32 43))
  have HZ0 := As.mk (heap_alloc_new w (.cells Z32 43))
  have HS0 := As.mk (show w.heap.size < (w.alloc (.cells Z32 43)).heap.size by simp)
  have HC := As.mk (h0.below HB0.out)
  clear hx hn h0 hV
  go_enter Try.func200, Try.ntmps200
  go_wp2_with (refine wpList_allocArr rfl 43 rfl Z32 z32 ?_; generalize w.alloc (.cells Z32 43) = w0 at *; refine stop_here ?_)
  unfold StopHere
  have HL : As (Rd .u32 (w0.alloc (.cells #[.int .u32 1779033703, .int .u32 3144134277, .int .u32 1013904242, .int .u32 2773480762, .int .u32 1359893119, .int .u32 2600822924, .int .u32 528734635, .int .u32 1541459225] 240)) (some ⟨w0.heap.size, 0, none⟩) 8 8 beginL) := ⟨Rd.lit w0 .u32 240 beginL (by decide)⟩
  have HB := As.mk (below_alloc (Below.refl w0.heap.size w0) (.cells #[.int .u32 1779033703, .int .u32 3144134277, .int .u32 1013904242, .int .u32 2773480762, .int .u32 1359893119, .int .u32 2600822924, .int .u32 528734635, .int .u32 1541459225] 240))
  have H0c := As.mk (HC.out.below HB.out)
  go_wp2_with (go_at_call 225; refine stop_here ?_)
  unfold StopHere
  generalize w0.alloc _ = wb at *
  refine (told_any wb).mono ?_
  rintro e w1 ⟨rfl, hk, hb⟩
  have HK := As.mk hk
  have HB1 := As.mk (Below.trans HB.out (hb.mono HB.out.size))
  have HL1 : As (Rd .u32 w1 (some ⟨w0.heap.size, 0, none⟩) 8 8 (wl H0 8)) := ⟨by rw [wlH]; exact HL.out.below hb⟩
  have HC1 := As.mk (H0c.out.below hb)
  clear hk hb HL HB H0c
  go_wp2_with (go_at_call 224; refine stop_here ?_)
  unfold StopHere
  refine (with_sum x HX.out _ _ C n c _ _ _ HN.out HK.out HL1.out HC1.out V HV.out).mono ?_
  rintro e w2 ⟨rfl, hb⟩
  have HB2 := As.mk (Below.trans HB1.out (hb.mono HB1.out.size))
  clear hb HK HL1 HC1
  go_wp2_with (refine wpList_storeArr rfl rfl 43 (.tmp 2) (.tmp 8) rfl w.heap.size rfl V rfl 43 Z32 ((HB2.out.block _ HS0.out).trans HZ0.out) (by rw [h1]; kernel_rfl) (by rw [h1]; kernel_rfl) h2 ?_)
  refine bodyPost_ret (v := .agg V) ?_ rfl ⟨rfl, below_setRow (below_step' (Nat.le_of_lt HS0.out) HB0.out HB2.out) (Nat.le_refl _) _⟩
  exact results_cell_row Try.results200 _ _ w.heap.size 43 V (0, 0) _ rfl (setRow_new w2 w.heap.size Z32 V _ ((HB2.out.block _ HS0.out).trans HZ0.out)) uArr32 rfl (by rw [h1]; kernel_rfl)

theorem sum_ref (x : List Int) (hx : Byte x) (C : Option Addr) (n c : Nat) (w : World) (hn : n ≤ 1099511627776) (h0 : Rd .u8 w C n c x) :
    Calls Try.prog 200 #[.slice C n c] w fun e w' => e = .returned (.agg (sumA x)) ∧ Below w.heap.size w w' :=
  sum_ref0 x hx C n c w hn h0 (sumA x) rfl (sumA_size x) (sumA_one x)
end Go.Proofs.Yteajblfkfmopfaa.RefSum
