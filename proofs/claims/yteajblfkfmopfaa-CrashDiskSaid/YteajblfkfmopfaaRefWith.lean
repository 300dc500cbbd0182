/- chatelaineref05.With: the sum, with the numbers that were reckoned. -/
import Derived.Test.YteajblfkfmopfaaRefGet
import Derived.Test.YteajblfkfmopfaaSum
import Derived.Deep.RegionHeld2
namespace Go.Proofs.Yteajblfkfmopfaa.RefWith
set_option linter.unusedVariables false
set_option linter.unusedSimpArgs false
open Go Go.RowKit Go.Proofs.Yteajblfkfmopfaa.Mem Go.Proofs.Yteajblfkfmopfaa.W32 Go.Proofs.Yteajblfkfmopfaa.Turns Go.Proofs.Yteajblfkfmopfaa.Put32 Go.Proofs.Yteajblfkfmopfaa.Pad Go.Proofs.Yteajblfkfmopfaa.Piece Go.Proofs.Yteajblfkfmopfaa.Schedule Go.Proofs.Yteajblfkfmopfaa.Take Go.Proofs.Yteajblfkfmopfaa.Sum

/-- words as numbers -/
def wl (f : Nat → W) (n : Nat) : List Int := (List.range n).map fun j => ((f j).toNat : Int)
theorem wl_len (f : Nat → W) (n : Nat) : (wl f n).length = n := by simp [wl]
theorem wl_nth (f : Nat → W) (n j : Nat) (h : j < n) : nth (wl f n) j = ((f j).toNat : Int) := by
  simp [nth_getD, wl, List.getD_eq_getElem?_getD, h]
theorem wl_at (f : Nat → W) (n j : Nat) (h : j < n) : ((wl f n).map (Value.int .u32))[j]? = some (.int .u32 ((f j).toNat : Int)) := by
  simp [wl, h]
theorem wl_succ (f : Nat → W) (n : Nat) : (wl f (n + 1)).map (Value.int .u32) = (wl f n).map (Value.int .u32) ++ [.int .u32 ((f n).toNat : Int)] := by
  simp [wl, List.range_succ]

/-- the numbers behind i pieces -/
def st (K H : Nat → W) (M : List Int) : Nat → (Nat → W)
  | 0 => H
  | i + 1 => piece K ((M.drop (64 * i)).take 64) (st K H M i)
theorem st_feed (K H : Nat → W) (M : List Int) : ∀ i, 64 * i ≤ M.length → feed K (st K H M i) (M.drop (64 * i)) = feed K H M := by
  intro i
  induction i with
  | zero => intro _; rfl
  | succ i ih =>
    intro h
    rw [← ih (by omega), feed_hi K (st K H M i) (M.drop (64 * i)) (by rw [List.length_drop]; omega), List.drop_drop]
    rfl
theorem st_all (K H : Nat → W) (M : List Int) (n : Nat) (h : M.length = 64 * n) : st K H M n = (feed K H M).1 := by
  rw [← st_feed K H M n (by omega), feed_lo _ _ _ (by rw [List.length_drop]; omega)]

theorem ch (e f g : W) : (e &&& f) ^^^ ((~~~e) &&& g) = (e &&& f ||| ~~~e &&& g) := by
  refine BitVec.eq_of_getLsbD_eq fun i hi => ?_
  simp only [BitVec.getLsbD_xor, BitVec.getLsbD_and, BitVec.getLsbD_or, BitVec.getLsbD_not, hi]
  cases e.getLsbD i <;> cases f.getLsbD i <;> cases g.getLsbD i <;> rfl
theorem maj (a b c : W) : (a &&& b) ^^^ (a &&& c) ^^^ (b &&& c) = (a &&& b ||| a &&& c ||| b &&& c) := by
  refine BitVec.eq_of_getLsbD_eq fun i _ => ?_
  simp only [BitVec.getLsbD_xor, BitVec.getLsbD_and, BitVec.getLsbD_or]
  cases a.getLsbD i <;> cases b.getLsbD i <;> cases c.getLsbD i <;> rfl

theorem turn_still (x : W) (w : World) (n : Nat) (k : Int) (hk : (n : Int) = k) (hn : n < 32) :
    Calls Try.prog 241 #[.int .u32 (x.toNat : Int), .int .i64 k] w fun e w' => e = .returned (.int .u32 ((rot x n).toNat : Int)) ∧ w' = w := by
  subst hk
  exact RefWord.turn x n hn w
theorem turn_int (x : W) (w : World) (k : Int) (h0 : 0 ≤ k) (h : k < 32) :
    Calls Try.prog 241 #[.int .u32 (x.toNat : Int), .int .i64 k] w fun e w' => e = .returned (.int .u32 ((rot x k.toNat).toNat : Int)) ∧ w' = w :=
  turn_still x w k.toNat k (by omega) (by omega)
def shr (x : W) (n : Nat) : W := x >>> n
theorem shift_still (x : W) (w : World) (n : Nat) (k : Int) (hk : (n : Int) = k) (hn : n < 32) :
    Calls Try.prog 242 #[.int .u32 (x.toNat : Int), .int .i64 k] w fun e w' => e = .returned (.int .u32 ((shr x n).toNat : Int)) ∧ w' = w := by
  subst hk
  exact RefWord.shift x n hn w
theorem info32 : (Try.prog.info? 240).map (fun i => (i.zero, i.size, i.bytes)) = some (some (.int .u32 0), 1, 4) := by kernel_rfl

theorem two_cells {w : World} {base : Nat} {ad : Addr} {t cw : Nat} {f : Nat → W} (h : OwnAt w base (.slice (some ad) t cw) t ((wl f t).map (Value.int .u32))) (i j : Nat) (hi : i < t) (hj : j < t) :
    w.cell? (ad.add i) = some (.int .u32 ((f i).toNat : Int)) ∧ w.cell? (ad.add j) = some (.int .u32 ((f j).toNat : Int)) := by
  obtain ⟨_, e, h1⟩ := h.cell _ _ (wl_at f t i hi)
  cases e
  obtain ⟨_, e, h2⟩ := h.cell _ _ (wl_at f t j hj)
  cases e
  exact ⟨h1, h2⟩
theorem exprS (a b c d : W) : IntKind.u32.wrap (IntKind.u32.wrap (IntKind.u32.wrap ((a.toNat : Int) + bits .xor .u32 (bits .xor .u32 ((rot b 7).toNat : Int) ((rot b 18).toNat : Int)) ((shr b 3).toNat : Int)) + (c.toNat : Int)) +
      bits .xor .u32 (bits .xor .u32 ((rot d 17).toNat : Int) ((rot d 19).toNat : Int)) ((shr d 10).toNat : Int)) = ((a + s0 b + c + s1 d).toNat : Int) := by
  simp only [w_xor, w_wrap_add]
  rfl
theorem set4 {α : Type} (L : List α) (m : Nat) (a b c d : α) (h : m + 4 ≤ L.length) : (((L.set m a).set (m + 1) b).set (m + 2) c).set (m + 3) d = splice L m [a, b, c, d] := by
  refine List.ext_getElem? fun j => ?_
  unfold splice
  simp only [List.getElem?_set, List.getElem?_append, List.length_take, List.length_set, List.length_cons, List.length_nil, List.getElem?_take, List.getElem?_drop]
  by_cases h0 : j < m
  · rw [if_neg (by omega), if_neg (by omega), if_neg (by omega), if_neg (by omega), if_pos (by omega), if_pos h0]
  · rw [if_neg (show ¬ j < min m L.length by omega)]
    obtain ⟨k, rfl⟩ : ∃ k, j = m + k := ⟨j - m, by omega⟩
    have e : m + k - min m L.length = k := by omega
    rw [e]
    rcases k with _ | _ | _ | _ | k
    · simp; omega
    · simp; omega
    · simp; omega
    · simp; omega
    · rw [if_neg (by omega), if_neg (by omega), if_neg (by omega), if_neg (by omega), if_neg (by omega)]
      congr 1
      omega
theorem set4A (L : List Value) (m : Nat) (a b c d : Value) (h : m + 4 ≤ L.length) : (((L.toArray.setIfInBounds m a).setIfInBounds (m + 1) b).setIfInBounds (m + 2) c).setIfInBounds (m + 3) d = (splice L m [a, b, c, d]).toArray := by
  rw [← set4 L m a b c d h]
  simp only [List.setIfInBounds_toArray]
theorem outL_set (f : Nat → W) (i m : Nat) (a b c d : Int) (hm : m = 4 * i) (h : i < 8) (ha : a = (((f i).toNat / 16777216 % 256 : Nat) : Int)) (hb : b = (((f i).toNat / 65536 % 256 : Nat) : Int)) (hc : c = (((f i).toNat / 256 % 256 : Nat) : Int)) (hd : d = (((f i).toNat % 256 : Nat) : Int)) :
    ((((outL f i).toArray.setIfInBounds m (.int .u8 a)).setIfInBounds (m + 1) (.int .u8 b)).setIfInBounds (m + 2) (.int .u8 c)).setIfInBounds (m + 3) (.int .u8 d) = (outL f (i + 1)).toArray := by
  rw [set4A _ _ _ _ _ _ (by rw [outL_len f i (by omega)]; omega), ← outL_succ f i h, hm, ha, hb, hc, hd]
  rfl
def StopHere (p : Prop) : Prop := p
theorem stop_here {p : Prop} (h : StopHere p) : p := h
theorem word_in (M : List Int) (a d f : Nat) (h : f + 4 ≤ d) : word ((M.drop a).take d) f = word M (a + f) := by
  unfold word
  rw [nth_sub _ _ _ _ (by omega), nth_sub _ _ _ _ (by omega), nth_sub _ _ _ _ (by omega), nth_sub _ _ _ _ (by omega)]
  rfl
set_option maxHeartbeats 4000000 in
set_option maxRecDepth 100000 in
theorem with_any (K H : Nat → W) (x : List Int) (hx : Byte x) (A B C : Option Addr) (n c ck cb : Nat) (w : World) (hn : n ≤ 1099511627776)
    (hK : Rd .u32 w A 64 ck (wl K 64)) (hH : Rd .u32 w B 8 cb (wl H 8)) (h0 : Rd .u8 w C n c x) :
    Calls Try.prog 224 #[.slice A 64 ck, .slice B 8 cb, .slice C n c] w fun e w' =>
      e = .returned (.agg (((List.range 8).flatMap fun j => bytes4 ((feed K H (x ++ pad n)).1 j).toNat).map (Value.int .u8)).toArray) ∧ Below w.heap.size w w' := by
  have HX := As.mk hx
  have HN := As.mk hn
  have HB0 := As.mk (below_alloc (Below.refl w.heap.size w) (.cells Z32 43))
  have HZ0 := As.mk (heap_alloc_new w (.cells Z32 43))
  have HS0 := As.mk (show w.heap.size < (w.alloc (.cells Z32 43)).heap.size by simp)
  have HK := As.mk (hK.below HB0.out)
  have HH := As.mk (hH.below HB0.out)
  have HC := As.mk (h0.below HB0.out)
  clear hx hn hK hH h0
  go_enter Try.func224, Try.ntmps224
  go_wp2_with (refine wpList_allocArr rfl 43 rfl Z32 z32 ?_; generalize w.alloc (.cells Z32 43) = w0 at *; refine stop_here ?_)
  unfold StopHere
  go_wp2_with (first
    | (at_builtin; refine wpList_app2 rfl _ _ 37 rfl w0.heap.size 5 (.int .u8 0) 1 Try.underlying37 CloneB.info rfl _ 0 [] rfl (OwnAt.nil _ _) _ n _ rfl (Src.rd HC.out) ?c1 ?c2 (Nat.le_refl _) (Below.refl _ w0) (Nat.le_refl _) ?_; (case c1 => have := HN.out; unfold maxLen; omega); (case c2 => have := HN.out; omega); intro v1 w1 hown hg hat hb1; simp only [Nat.zero_add, List.nil_append] at hown; obtain ⟨A1, c1, rfl⟩ := hown.slice; have HB1 := As.mk hb1; have HO1 := As.mk hown; clear hown hg hat hb1)
    | (go_at_call 239; (with_reducible refine (RefPad.pad_any n _ HN.out).mono ?_); rintro e w2 ⟨A2, c2, rfl, hb, ho⟩; have HB2 := As.mk (below_step HB1.out hb); have HO1b := As.mk (HO1.out.below hb); have HO2 := As.mk ho; have HS2 := As.mk hb.size; clear hb ho)
    | (at_builtin; refine wpList_app2 rfl _ _ 37 rfl w0.heap.size 5 (.int .u8 0) 1 Try.underlying37 CloneB.info rfl _ n _ rfl HO1b.out _ (padZ n + 9) _ rfl (Src.own HO2.out (ints_oneCell .u8 _)) ?c4 ?c5 HB2.out.size HB2.out (Nat.le_refl _) ?_; (case c4 => have := padZ_le n; have := HN.out; unfold maxLen; omega); (case c5 => have := padZ_le n; have := HN.out; omega); intro v3 w3 hown hg hat hb3; obtain ⟨A3, c3, rfl⟩ := hown.slice; have HB3 := As.mk hb3; have HO3 := As.mk hown; clear hown hg hat hb3)
    | (at_builtin; refine wpList_app2 rfl _ _ 258 rfl w3.heap.size 240 (.int .u32 0) 4 Try.underlying258 info32 rfl _ 0 [] rfl (OwnAt.nil _ _) _ 8 _ rfl (Src.rd (HH.out.below HB3.out)) (by decide) (by decide) (Nat.le_refl _) (Below.refl _ w3) (Nat.le_refl _) ?_; intro v4 w4 hown hg hat hb4; obtain ⟨A4, c4, rfl⟩ := hown.slice; have HB4 := As.mk hb4; have HO4 := As.mk hown; clear hown hg hat hb4))
  obtain ⟨A5, c5, e5, hrM⟩ := OwnAt.rd (k := .u8) (x := x ++ pad n) (n := n + (padZ n + 9)) (by rw [List.map_append]; exact HO3.out)
  cases e5
  obtain ⟨A6, c6, e6, hrS⟩ := OwnAt.rd (k := .u32) (x := wl H 8) (n := 8) (by exact HO4.out)
  cases e6
  have hbm : Byte (x ++ pad n) := fun y hy => (List.mem_append.1 hy).elim (HX.out y) (pad_byte n y)
  have hlen : (x ++ pad n).length = n + (padZ n + 9) := hrM.len
  obtain ⟨np, hnp⟩ : ∃ np, n + (padZ n + 9) = 64 * np := ⟨(n + (padZ n + 9)) / 64, by have := pad_mod n; rw [pad_len] at this; omega⟩
  have hN : n + (padZ n + 9) ≤ 1099511628000 := by have := padZ_le n; have := HN.out; omega
  generalize hMM : x ++ pad n = M at *
  have HMM := As.mk hMM
  clear hMM
  generalize n + (padZ n + 9) = N at *
  have HM := As.mk (hrM.below HB4.out)
  have HST := As.mk hrS
  have HBM := As.mk hbm
  have HNP := As.mk hnp
  have HNL := As.mk hN
  have HML := As.mk hlen
  have HK4 := As.mk ((HK.out.below HB3.out).below HB4.out)
  have HB04 := As.mk (Below.trans HB3.out (HB4.out.mono HB3.out.size))
  clear hrM hrS hbm hlen hnp hN HB1 HB2 HS2 HB3 HB4 HO1 HO1b HO2 HO3 HO4 HK HH HC
  go_loopg [8, 9] np (fun kq v8 v9 wr => ∃ (i : Nat) (S : Option Addr) (cs : Nat), i + kq = np ∧ v8 = .slice S 8 cs ∧ v9 = .int .i64 (64 * i : Nat) ∧ As (Rd .u32 wr S 8 cs (wl (st K H M i) 8)) ∧ As (Below w4.heap.size w4 wr))
  case atStart => exact ⟨0, _, _, by omega, rfl, rfl, HST, ⟨Below.refl _ _⟩⟩
  case round =>
    clear HST
    obtain ⟨i, S, cs, hi, rfl, rfl, HS, HB⟩ := hrel
    obtain ⟨wo, rfl⟩ : ∃ wo, wo = wr := ⟨_, rfl⟩
    have HI := As.mk hi
    clear hi
    by_cases hlt : i < np
    · have hn := HNP.out
      have hnl := HNL.out
      obtain ⟨a, ha⟩ : ∃ a, a = 64 * i := ⟨_, rfl⟩
      have HA := As.mk ha
      rw [← ha]
      have c0 : decide ((a : Int) < (N : Int)) = true := decide_eq_true (by omega)
      have c1 : decide (a < N) = true := decide_eq_true (by omega)
      have HAL := As.mk (show a + 64 ≤ N by omega)
      have HLT := As.mk hlt
      clear hn ha hlt hnl
      obtain ⟨p, hp⟩ : ∃ p, p = (M.drop (64 * i)).take 64 := ⟨_, rfl⟩
      have HP := As.mk hp
      clear hp
      go_wp2
      go_loopg [10, 11] 64 (fun kq v10 v11 wr => ∃ (t : Nat) (Aw : Option Addr) (cw : Nat), t + kq = 64 ∧ v10 = .slice Aw t cw ∧ v11 = .int .i64 t ∧ As (OwnAt wr wo.heap.size (.slice Aw t cw) t ((wl (sched p) t).map (Value.int .u32))) ∧ As (Below wo.heap.size wo wr))
      case atStart => exact ⟨0, none, 0, by omega, rfl, rfl, ⟨OwnAt.nil _ _⟩, ⟨Below.refl _ _⟩⟩
      case round =>
        obtain ⟨t, Aw, cw, ht, rfl, rfl, HO, HBT⟩ := hrel
        have HT := As.mk ht
        clear ht
        by_cases hlt : t < 64
        · have d0 : decide ((t : Int) < 64) = true := decide_eq_true (by omega)
          have hw : wrap64 ((t : Int) + 1) = ((t + 1 : Nat) : Int) := wrap_up (by omega)
          have HLT2 := As.mk hlt
          by_cases h16 : t < 16
          · have d1 : decide ((t : Int) < 16) = true := decide_eq_true (by omega)
            obtain ⟨f, hf⟩ : ∃ f : Nat, f = 4 * t := ⟨_, rfl⟩
            obtain ⟨lo, hlo⟩ : ∃ lo : Nat, lo = a + f := ⟨_, rfl⟩
            obtain ⟨hi, hhi⟩ : ∃ hi : Nat, hi = lo + 4 := ⟨_, rfl⟩
            have hal := HAL.out
            have hnl := HNL.out
            have hsl := run_cut_named (P := Try.prog) 37 5 Try.underlying37 CloneB.info A3 N c3 lo hi 4 .i64 .i64 hhi (by have := HM.out.le; omega)
            have HG := As.mk (((HM.out.below HB.out).below HBT.out).cutn lo hi 4 hhi (by omega))
            have HBG := As.mk (byte_sub HBM.out lo 4)
            have HV : As (word ((M.drop lo).take 4) 0 = sched p t) := ⟨by rw [word_sub, sched_lo p t h16, HP.out, ← HA.out, word_in _ _ _ _ (by omega), hlo, hf]⟩
            have M1 := As.mk (show wrap64 ((4 : Int) * t) = (f : Int) by unfold wrap64; omega)
            have M2 := As.mk (show wrap64 ((a : Int) + f) = (lo : Int) by unfold wrap64; omega)
            have M3 := As.mk (show wrap64 ((lo : Int) + 4) = (hi : Int) by unfold wrap64; omega)
            have M4 := As.mk (show wrap64 (f : Int) = (f : Int) by unfold wrap64; omega)
            have M5 := As.mk (show wrap64 (lo : Int) = (lo : Int) by unfold wrap64; omega)
            have M6 := As.mk (show wrap64 (hi : Int) = (hi : Int) by unfold wrap64; omega)
            have M7 := As.mk (show (4 : Int) * t = (f : Int) by omega)
            have M8 := As.mk (show (a : Int) + f = (lo : Int) by omega)
            have M9 := As.mk (show (lo : Int) + 4 = (hi : Int) by omega)
            have k1 : IntKind.u32.wrap ((sched p t).toNat : Int) = ((sched p t).toNat : Int) := Go.Proofs.Yteajblfkfmopfaa.Bits.wrap_u .u32 rfl _ (lt _)
            clear hf hlo hhi hal hnl h16 hlt
            have m1 := M1.out
            have m2 := M2.out
            have m3 := M3.out
            have m4 := M4.out
            have m5 := M5.out
            have m6 := M6.out
            have m7 := M7.out
            have m8 := M8.out
            have m9 := M9.out
            go_wp2_with (first
              | (go_at_call 240; (with_reducible refine (RefGet.get64 _ HBG.out _ _ _ HG.out).mono ?_); rintro e w5 ⟨rfl, rfl⟩; rw [HV.out])
              | (at_builtin; clear m1 m2 m3 m4 m5 m6 m7 m8 m9; refine wpList_app_one rfl _ _ 258 rfl wo.heap.size 240 (.int .u32 0) 4 Try.underlying258 info32 rfl _ t _ rfl HO.out _ _ rfl rfl ?c1 ?c2 HBT.out.size HBT.out (Nat.le_refl _) ?_; (case c1 => have := HT.out; unfold maxLen; omega); (case c2 => have := HT.out; omega); intro A1 c1 w6 hown hg hat hb; have HO1 := As.mk hown; have HB1 := As.mk hb; clear hown hg hat hb))
            go_roundg (64 - (t + 1))
            case measure => have := HT.out; have := HLT2.out; omega
            case rel => exact ⟨t + 1, A1, c1, by have := HT.out; have := HLT2.out; omega, rfl, by go_num, ⟨by rw [wl_succ]; exact HO1.out⟩, HB1⟩
          · have d1 : decide ((t : Int) < 16) = false := decide_eq_false (by omega)
            have cell : ∀ d : Nat, d ≤ t → 0 < d → ∃ ad, Aw = some ad ∧ wr.cell? (ad.add (t - d)) = some (.int .u32 ((sched p (t - d)).toNat : Int)) := fun d hd h0 => HO.out.cell _ _ (wl_at _ _ _ (by omega))
            obtain ⟨ad, ea, _⟩ := cell 15 (by omega) (by omega)
            subst ea
            have cell : ∀ d : Nat, d ≤ t → 0 < d → wr.cell? (ad.add (t - d)) = some (.int .u32 ((sched p (t - d)).toNat : Int)) := fun d hd h0 => by
              obtain ⟨ad', e, h⟩ := cell d hd h0
              cases e; exact h
            obtain ⟨a15, e15⟩ : ∃ a : Nat, a = t - 15 := ⟨_, rfl⟩
            obtain ⟨a2, e2⟩ : ∃ a : Nat, a = t - 2 := ⟨_, rfl⟩
            obtain ⟨a16, e16⟩ : ∃ a : Nat, a = t - 16 := ⟨_, rfl⟩
            obtain ⟨a7, e7⟩ : ∃ a : Nat, a = t - 7 := ⟨_, rfl⟩
            have c15 := cell 15 (by omega) (by omega)
            have c2 := cell 2 (by omega) (by omega)
            have c16 := cell 16 (by omega) (by omega)
            have c7 := cell 7 (by omega) (by omega)
            rw [← e15] at c15
            rw [← e2] at c2
            rw [← e16] at c16
            rw [← e7] at c7
            have HV : As (sched p a16 + s0 (sched p a15) + sched p a7 + s1 (sched p a2) = sched p t) := ⟨by rw [sched_hi p t h16, e15, e2, e16, e7]⟩
            have l15 : a15 < t := by omega
            have l2 : a2 < t := by omega
            have l16 : a16 < t := by omega
            have l7 : a7 < t := by omega
            have L15 : (a15 : Int) < t := by omega
            have L2 : (a2 : Int) < t := by omega
            have L16 : (a16 : Int) < t := by omega
            have L7 : (a7 : Int) < t := by omega
            have Q15 := As.mk (show (t : Int) - 15 = (a15 : Int) by omega)
            have Q2 := As.mk (show (t : Int) - 2 = (a2 : Int) by omega)
            have Q16 := As.mk (show (t : Int) - 16 = (a16 : Int) by omega)
            have Q7 := As.mk (show (t : Int) - 7 = (a7 : Int) by omega)
            have X15 := As.mk (show wrap64 (a15 : Int) = (a15 : Int) by unfold wrap64; omega)
            have X2 := As.mk (show wrap64 (a2 : Int) = (a2 : Int) by unfold wrap64; omega)
            have X16 := As.mk (show IntKind.i64.wrap (a16 : Int) = (a16 : Int) by rw [IntKind.wrap_i64]; omega)
            have X7 := As.mk (show IntKind.i64.wrap (a7 : Int) = (a7 : Int) by rw [IntKind.wrap_i64]; omega)
            clear e15 e2 e16 e7 cell h16 hlt
            have q15 := Q15.out
            have q2 := Q2.out
            have q16 := Q16.out
            have q7 := Q7.out
            have x15 := X15.out
            have x2 := X2.out
            have x16 := X16.out
            have x7 := X7.out
            go_wp2
            have HO2 : As (OwnAt wr wo.heap.size (.slice (some ad) t cw) t ((wl (sched p) t).map (Value.int .u32))) := HO
            go_region_held2 (fun w' : World => w'.cell? (ad.add a16) = some (.int .u32 ((sched p a16).toNat : Int)) ∧ w'.cell? (ad.add a7) = some (.int .u32 ((sched p a7).toNat : Int)))
              (first | exact two_cells (HO.out.drewN 1) _ _ l16 l7 | exact two_cells ((HO.out.below (below_alloc (Below.refl _ wr) _)).drewN 1) _ _ l16 l7 | exact two_cells HO3.out _ _ l16 l7)
              (first
              | (go_at_call 241; first
                  | ((with_reducible refine (turn_still (sched p a15) _ 7 7 rfl (by decide)).mono ?_); rintro e w5 ⟨rfl, rfl⟩)
                  | ((with_reducible refine (turn_still (sched p a15) _ 18 18 rfl (by decide)).mono ?_); rintro e w5 ⟨rfl, rfl⟩)
                  | ((with_reducible refine (turn_still (sched p a2) _ 17 17 rfl (by decide)).mono ?_); rintro e w5 ⟨rfl, rfl⟩)
                  | ((with_reducible refine (turn_still (sched p a2) _ 19 19 rfl (by decide)).mono ?_); rintro e w5 ⟨rfl, rfl⟩))
              | (go_at_call 242; first
                  | ((with_reducible refine (shift_still (sched p a15) _ 3 3 rfl (by decide)).mono ?_); rintro e w5 ⟨rfl, rfl⟩)
                  | ((with_reducible refine (shift_still (sched p a2) _ 10 10 rfl (by decide)).mono ?_); rintro e w5 ⟨rfl, rfl⟩))
              | (refine step_app_one_keep (w := wr) rfl _ _ 258 rfl wo.heap.size 240 (.int .u32 0) 4 Try.underlying258 info32 rfl (.slice (some ad) t cw) t _ (by rfl) HO.out _ _ rfl (by rfl) ?c1 ?c2 HBT.out.size HBT.out (Nat.le_refl _) ?_; (case c1 => have := HT.out; unfold maxLen; omega); (case c2 => have := HT.out; omega); intro A1 c1 w6 hown hkeep hb; have HO1 := As.mk hown; have HO3 := As.mk hkeep; have HB1 := As.mk hb; clear hown hkeep hb))
            clear q15 q2 q16 q7 x15 x2 x16 x7
            go_wp2
            go_roundg (64 - (t + 1))
            case measure => have := HT.out; have := HLT2.out; omega
            case rel => exact ⟨t + 1, A1, c1, by have := HT.out; have := HLT2.out; omega, rfl, by go_num, ⟨by rw [wl_succ, ← HV.out, ← exprS]; exact HO1.out⟩, HB1⟩
        · have d0 : decide ((t : Int) < 64) = false := decide_eq_false (by omega)
          obtain rfl : t = 64 := by have := HT.out; omega
          have HSt := As.mk (HS.out.below HBT.out)
          clear HT hlt
          obtain ⟨sv, hsv⟩ : ∃ sv, sv = st K H M i := ⟨_, rfl⟩
          have HSV := As.mk hsv
          rw [← hsv] at HSt
          clear hsv
          obtain ⟨sd, es, hsc⟩ := HSt.out.cells (by omega)
          subst es
          have HSC := As.mk hsc
          clear hsc
          have cs : ∀ k, k < 8 → wr.cell? (sd.add k) = some (.int .u32 ((sv k).toNat : Int)) := fun k hk => by rw [← wl_nth sv 8 k hk]; exact HSC.out k hk
          have s0 : wr.cell? sd = some (.int .u32 ((sv 0).toNat : Int)) := cs 0 (by omega)
          have s1 : wr.cell? ⟨sd.block, sd.off + 1, none⟩ = some (.int .u32 ((sv 1).toNat : Int)) := cs 1 (by omega)
          have s2 : wr.cell? ⟨sd.block, sd.off + 2, none⟩ = some (.int .u32 ((sv 2).toNat : Int)) := cs 2 (by omega)
          have s3 : wr.cell? ⟨sd.block, sd.off + 3, none⟩ = some (.int .u32 ((sv 3).toNat : Int)) := cs 3 (by omega)
          have s4 : wr.cell? ⟨sd.block, sd.off + 4, none⟩ = some (.int .u32 ((sv 4).toNat : Int)) := cs 4 (by omega)
          have s5 : wr.cell? ⟨sd.block, sd.off + 5, none⟩ = some (.int .u32 ((sv 5).toNat : Int)) := cs 5 (by omega)
          have s6 : wr.cell? ⟨sd.block, sd.off + 6, none⟩ = some (.int .u32 ((sv 6).toNat : Int)) := cs 6 (by omega)
          have s7 : wr.cell? ⟨sd.block, sd.off + 7, none⟩ = some (.int .u32 ((sv 7).toNat : Int)) := cs 7 (by omega)
          clear cs
          go_wp2
          clear s0 s1 s2 s3 s4 s5 s6 s7
          obtain ⟨wq, rfl⟩ : ∃ wq, wq = wr := ⟨_, rfl⟩
          go_loopg [14, 15, 16, 17, 18, 19, 20, 21, 22] 64 (fun kq v14 v15 v16 v17 v18 v19 v20 v21 v22 wr2 => ∃ (t : Nat) (q : Nat → W), t + kq = 64 ∧ As (q = rounds K p sv t) ∧ v14 = .int .u32 ((q 0).toNat : Int) ∧ v15 = .int .u32 ((q 1).toNat : Int) ∧ v16 = .int .u32 ((q 2).toNat : Int) ∧ v17 = .int .u32 ((q 3).toNat : Int) ∧ v18 = .int .u32 ((q 4).toNat : Int) ∧ v19 = .int .u32 ((q 5).toNat : Int) ∧ v20 = .int .u32 ((q 6).toNat : Int) ∧ v21 = .int .u32 ((q 7).toNat : Int) ∧ v22 = .int .i64 t ∧ ∃ m, wr2 = wq.drewN m)
          case atStart => exact ⟨0, sv, by omega, ⟨rfl⟩, rfl, rfl, rfl, rfl, rfl, rfl, rfl, rfl, rfl, 0, rfl⟩
          case round =>
            obtain ⟨t, q, ht, HQ, rfl, rfl, rfl, rfl, rfl, rfl, rfl, rfl, rfl, mq, rfl⟩ := hrel
            have HT := As.mk ht
            clear ht
            by_cases hlt : t < 64
            · have e0 : decide ((t : Int) < 64) = true := decide_eq_true (by omega)
              have hw : wrap64 ((t : Int) + 1) = ((t + 1 : Nat) : Int) := wrap_up (by omega)
              have Lt : (t : Int) < 64 := by omega
              have HLT2 := As.mk hlt
              obtain ⟨kd, ek, hkc⟩ := ((HK4.out.below HB.out).below HBT.out).at t hlt
              subst ek
              rw [wl_nth K 64 t hlt] at hkc
              obtain ⟨kt, hkt⟩ : ∃ kt, kt = K t := ⟨_, rfl⟩
              rw [← hkt] at hkc
              have HKT := As.mk hkt
              clear hkt
              obtain ⟨wd, ew, hwc⟩ := HO.out.cell _ _ (wl_at (sched p) 64 t hlt)
              subst ew
              obtain ⟨wt, hwt⟩ : ∃ wt, wt = sched p t := ⟨_, rfl⟩
              rw [← hwt] at hwc
              have HWT := As.mk hwt
              clear hwt
              go_wp2
              go_quiet ((go_at_call 241; exact quietAdd (turn_int _ _ _ (by decide) (by decide))))
              go_wp2_with (go_at_call 241; (refine (turn_int _ _ _ (by decide) (by decide)).mono ?_); rintro e w5 ⟨rfl, rfl⟩)
              go_roundg (64 - (t + 1))
              case measure => have := HT.out; have := HLT2.out; omega
              case rel =>
                refine ⟨t + 1, Piece.step kt wt q, by have := HT.out; have := HLT2.out; omega, ⟨by rw [HKT.out, HWT.out, HQ.out]; rfl⟩, ?_, rfl, rfl, rfl, ?_, rfl, rfl, rfl, by go_num, _, rfl⟩
                · refine congrArg (Value.int .u32) ?_
                  simp only [w_not, w_and, w_xor, ch, maj]
                  show _ = ((one kt wt q + two q).toNat : Int)
                  unfold one two turns
                  simp only [BitVec.toNat_add]
                  omega
                · refine congrArg (Value.int .u32) ?_
                  simp only [w_not, w_and, w_xor, ch]
                  show _ = ((q 3 + one kt wt q).toNat : Int)
                  unfold one turns
                  simp only [BitVec.toNat_add]
                  omega
            · have e0 : decide ((t : Int) < 64) = false := decide_eq_false (by omega)
              obtain rfl : t = 64 := by have := HT.out; omega
              have HSz := As.mk (HSt.out.drewN mq)
              have HBz := As.mk (below_drewN (Below.trans HB.out (HBT.out.mono HB.out.size)) mq)
              have HMV : As (wrap64 ((a : Int) + 64) = ((64 * (i + 1) : Nat) : Int)) := ⟨by have := HA.out; have := HAL.out; have := HNL.out; unfold wrap64; omega⟩
              clear HSt HO hlt HT
              generalize wq.drewN mq = wz at *
              obtain ⟨sd, es, hsc⟩ := HSz.out.cells (by omega)
              cases es
              have HSC := As.mk hsc
              clear hsc
              have cs : ∀ k, k < 8 → wz.cell? (sd.add k) = some (.int .u32 ((sv k).toNat : Int)) := fun k hk => by rw [← wl_nth sv 8 k hk]; exact HSC.out k hk
              have s0 : wz.cell? sd = some (.int .u32 ((sv 0).toNat : Int)) := cs 0 (by omega)
              have s1 : wz.cell? ⟨sd.block, sd.off + 1, none⟩ = some (.int .u32 ((sv 1).toNat : Int)) := cs 1 (by omega)
              have s2 : wz.cell? ⟨sd.block, sd.off + 2, none⟩ = some (.int .u32 ((sv 2).toNat : Int)) := cs 2 (by omega)
              have s3 : wz.cell? ⟨sd.block, sd.off + 3, none⟩ = some (.int .u32 ((sv 3).toNat : Int)) := cs 3 (by omega)
              have s4 : wz.cell? ⟨sd.block, sd.off + 4, none⟩ = some (.int .u32 ((sv 4).toNat : Int)) := cs 4 (by omega)
              have s5 : wz.cell? ⟨sd.block, sd.off + 5, none⟩ = some (.int .u32 ((sv 5).toNat : Int)) := cs 5 (by omega)
              have s6 : wz.cell? ⟨sd.block, sd.off + 6, none⟩ = some (.int .u32 ((sv 6).toNat : Int)) := cs 6 (by omega)
              have s7 : wz.cell? ⟨sd.block, sd.off + 7, none⟩ = some (.int .u32 ((sv 7).toNat : Int)) := cs 7 (by omega)
              clear cs
              go_wp2
              refine still_tail 40 (by kernel_rfl) (by kernel_rfl) ?_
              simp only [List.take_succ_cons, List.take_zero, List.drop_succ_cons, List.drop_zero]
              repeat still_step
              refine wpStill_nil ?_
              have hmv := HMV.out
              go_wp2
              clear hmv
              go_roundg (np - (i + 1))
              case measure => have := HI.out; have := HLT.out; omega
              case rel =>
                refine ⟨i + 1, _, 8, by have := HI.out; have := HLT.out; omega, rfl, congrArg (Value.int .i64) HMV.out, ?_, ⟨below_alloc (below_drewN HBz.out 1) _⟩⟩
                have e : st K H M (i + 1) = fun j => sv j + q j := by rw [HQ.out, HSV.out, HP.out]; rfl
                rw [e, eq8 (fun j => sv j + q j) _ _ _ _ _ _ _ _ (w_add _ _) (w_add _ _) (w_add _ _) (w_add _ _) (w_add _ _) (w_add _ _) (w_add _ _) (w_add _ _)]
                exact ⟨Rd.lit _ .u32 240 (wl (fun j => sv j + q j) 8) (by rw [wl_len]; decide)⟩
    · have hie : i = np := by have := HI.out; omega
      obtain ⟨a, ha⟩ : ∃ a, a = 64 * i := ⟨_, rfl⟩
      rw [← ha]
      have c0 : decide ((a : Int) < (N : Int)) = false := decide_eq_false (by have := HNP.out; omega)
      have c1 : decide (a < N) = false := decide_eq_false (by have := HNP.out; omega)
      obtain ⟨sv, hsv⟩ : ∃ sv, sv = (feed K H M).1 := ⟨_, rfl⟩
      have hst : st K H M i = sv := by rw [hsv, hie]; exact st_all K H M np (by rw [HML.out, HNP.out])
      rw [hst] at HS
      have HSV := As.mk hsv
      clear ha hst hsv hlt hie HI
      go_wp2_with (refine wpList_allocArr rfl 43 rfl Z32 z32 ?_)
      have HS8 := As.mk (HS.out.below (below_alloc (Below.refl _ wo) (.cells Z32 43)))
      have HSL := As.mk (fun ad (e : S = some ad) (j : Nat) (hj : j < 8) => World.block_lt_of_cell? wo (ad.add j) (by obtain ⟨ad', e', h⟩ := HS.out.at j hj; rw [e] at e'; cases e'; exact h))
      obtain ⟨ob, hob⟩ : ∃ ob, ob = wo.heap.size := ⟨_, rfl⟩
      rw [← hob]
      have HOB := As.mk hob
      have HO0 : As ((wo.alloc (.cells Z32 43)).heap[ob]? = some (.cells (outL sv 0).toArray 43 (0, 0))) := ⟨by rw [hob]; exact heap_alloc_new wo _⟩
      have HBO := As.mk (below_alloc (Below.trans HB04.out (HB.out.mono HB04.out.size)) (.cells Z32 43))
      have HBA := As.mk (show Below ob (wo.alloc (.cells Z32 43)) (wo.alloc (.cells Z32 43)) from Below.refl _ _)
      have HOBw := As.mk (show w.heap.size < ob by rw [hob]; exact Nat.lt_of_lt_of_le HS0.out (Nat.le_trans HB04.out.size HB.out.size))
      clear hob
      obtain ⟨wa, hwa⟩ : ∃ wa, wa = wo.alloc (.cells Z32 43) := ⟨_, rfl⟩
      rw [← hwa] at HO0 HBO HBA HS8 ⊢
      clear hwa
      go_loopg [26] 8 (fun kq v26 wr => ∃ j : Nat, j + kq = 8 ∧ v26 = .int .i64 j ∧ As (wr.heap[ob]? = some (.cells (outL sv j).toArray 43 (0, 0))) ∧ As (Below ob wa wr))
      case atStart => exact ⟨0, by omega, rfl, HO0, HBA⟩
      case round =>
        obtain ⟨j, hj, rfl, HOj, HBj⟩ := hrel
        have HJ := As.mk hj
        clear hj
        by_cases hlt : j < 8
        · have d0 : decide ((j : Int) < 8) = true := decide_eq_true (by omega)
          have hw : wrap64 ((j : Int) + 1) = ((j + 1 : Nat) : Int) := wrap_up (by omega)
          have LJ : (j : Int) < 8 := by omega
          have HLT := As.mk hlt
          obtain ⟨ad, es, hc⟩ := HS8.out.at j hlt
          have had : (ad.add j).block < ob := by rw [HOB.out]; exact HSL.out ad es j hlt
          subst es
          rw [wl_nth sv 8 j hlt] at hc
          have hx : wr.cell? (ad.add j) = some (.int .u32 ((sv j).toNat : Int)) := (HBj.out.cell had).trans hc
          obtain ⟨v, hv⟩ : ∃ v : Nat, v = (sv j).toNat := ⟨_, rfl⟩
          rw [← hv] at hx
          have HV := As.mk hv
          have HVL := As.mk (show v < 4294967296 by rw [hv]; exact lt _)
          have hfar : ∀ (W : World) (k : Nat) (u : Value), (W.setCell ⟨ob, k, none⟩ u).cell? (ad.add j) = W.cell? (ad.add j) := fun W k u => World.cell?_setCell_far W _ _ _ (by show ob ≠ (ad.add j).block; omega)
          obtain ⟨l0, e0⟩ : ∃ l : Nat, l = 4 * j := ⟨_, rfl⟩
          obtain ⟨l1, e1⟩ : ∃ l : Nat, l = l0 + 1 := ⟨_, rfl⟩
          obtain ⟨l2, e2⟩ : ∃ l : Nat, l = l0 + 2 := ⟨_, rfl⟩
          obtain ⟨l3, e3⟩ : ∃ l : Nat, l = l0 + 3 := ⟨_, rfl⟩
          have hsz : (outL sv j).toArray.size = 32 := by simp [outL_len sv j (by omega)]
          have own : ∀ k, k < 32 → ∃ u, wr.cell? ⟨ob, k, none⟩ = some u := fun k hk => ⟨(outL sv j).toArray[k]'(by rw [hsz]; exact hk), by rw [cell_of_row wr ob k _ _ _ HOj.out]; simp⟩
          obtain ⟨y0, o0⟩ := own l0 (by omega)
          obtain ⟨y1, o1⟩ := own l1 (by omega)
          obtain ⟨y2, o2⟩ := own l2 (by omega)
          obtain ⟨y3, o3⟩ := own l3 (by omega)
          have fr : ∀ k, wr.frozen? ⟨ob, k, none⟩ = false := fun k => frozen_of_row wr _ k _ _ HOj.out
          have z0 := fr l0
          have z1 := fr l1
          have z2 := fr l2
          have z3 := fr l3
          have oth : ∀ (a b : Nat), a ≠ b → ∀ (W : World) (u : Value), (W.setCell ⟨ob, a, none⟩ u).cell? ⟨ob, b, none⟩ = W.cell? ⟨ob, b, none⟩ := fun a b h W u => World.cell?_setCell_other W _ _ u (by intro e; injection e with e1 e2 e3; exact h e2)
          have h01 := oth l0 l1 (by omega)
          have h02 := oth l0 l2 (by omega)
          have h03 := oth l0 l3 (by omega)
          have h12 := oth l1 l2 (by omega)
          have h13 := oth l1 l3 (by omega)
          have h23 := oth l2 l3 (by omega)
          have b0 : (l0 : Int) < 32 := by omega
          have b1 : (l1 : Int) < 32 := by omega
          have b2 : (l2 : Int) < 32 := by omega
          have b3 : (l3 : Int) < 32 := by omega
          have n0 : l0 < 32 := by omega
          have n1 : l1 < 32 := by omega
          have n2 : l2 < 32 := by omega
          have n3 : l3 < 32 := by omega
          have HE : As (l0 = 4 * j ∧ l1 = l0 + 1 ∧ l2 = l0 + 2 ∧ l3 = l0 + 3) := ⟨e0, e1, e2, e3⟩
          have i0 : (4 : Int) * j = (l0 : Int) := by omega
          have i1 : (l0 : Int) + 1 = (l1 : Int) := by omega
          have i2 : (l0 : Int) + 2 = (l2 : Int) := by omega
          have i3 : (l0 : Int) + 3 = (l3 : Int) := by omega
          have q0 : wrap64 (l0 : Int) = (l0 : Int) := by unfold wrap64; omega
          have q1 : wrap64 (l1 : Int) = (l1 : Int) := by unfold wrap64; omega
          have q2 : wrap64 (l2 : Int) = (l2 : Int) := by unfold wrap64; omega
          have q3 : wrap64 (l3 : Int) = (l3 : Int) := by unfold wrap64; omega
          clear hv hc had own fr oth e0 e1 e2 e3 hlt
          go_wp2
          go_roundg (8 - (j + 1))
          case measure => have := HJ.out; have := HLT.out; omega
          case rel =>
            refine ⟨j + 1, by have := HJ.out; have := HLT.out; omega, by go_num, ⟨?_⟩, ⟨(((HBj.out.setCell (Nat.le_refl _) _).setCell (Nat.le_refl _) _).setCell (Nat.le_refl _) _).setCell (Nat.le_refl _) _⟩⟩
            obtain ⟨e0, e1, e2, e3⟩ := HE.out
            refine (heap_setCell_same _ ob l3 _ _ _ (heap_setCell_same _ ob l2 _ _ _ (heap_setCell_same _ ob l1 _ _ _ (heap_setCell_same wr ob l0 _ _ _ HOj.out)))).trans ?_
            refine congrArg (fun c => some (Obj.cells c 43 (0, 0))) ?_
            rw [e1, e2, e3]
            have hv := HV.out
            exact outL_set sv j l0 _ _ _ _ e0 HLT.out (by rw [← hv]; omega) (by rw [← hv]; omega) (by rw [← hv]; omega) (by rw [← hv]; omega)
        · have d0 : decide ((j : Int) < 8) = false := decide_eq_false (by omega)
          obtain rfl : j = 8 := by have := HJ.out; omega
          go_wp2_with (first
            | (refine wpList_load_row rfl 43 _ rfl ob rfl 43 (outL sv 8).toArray (0, 0) _ HOj.out uArr32 rfl (by kernel_rfl) ?_)
            | (refine wpList_storeArr rfl rfl 43 (.tmp 6) _ rfl w.heap.size rfl (outL sv 8).toArray rfl 43 Z32 ((HBj.out.block _ HOBw.out).trans ((HBO.out.block _ HS0.out).trans HZ0.out)) (by kernel_rfl) (by kernel_rfl) (by kernel_rfl) ?_))
          have hr : outL sv 8 = (((List.range 8).flatMap fun j => bytes4 (sv j).toNat).map (Value.int .u8)) := outL_8 sv
          rw [HMM.out, ← HSV.out, ← hr]
          refine bodyPost_ret (v := .agg (outL sv 8).toArray) ?_ rfl ⟨rfl, ?_⟩
          · exact results_cell_row Try.results224 _ _ w.heap.size 43 (outL sv 8).toArray (0, 0) _ rfl (setRow_new wr w.heap.size Z32 (outL sv 8).toArray _ ((HBj.out.block _ HOBw.out).trans ((HBO.out.block _ HS0.out).trans HZ0.out))) uArr32 rfl (by kernel_rfl)
          · exact below_setRow (Below.trans (below_step' (Nat.le_of_lt HS0.out) HB0.out HBO.out) (HBj.out.mono (Nat.le_of_lt HOBw.out))) (Nat.le_refl _) _
end Go.Proofs.Yteajblfkfmopfaa.RefWith
