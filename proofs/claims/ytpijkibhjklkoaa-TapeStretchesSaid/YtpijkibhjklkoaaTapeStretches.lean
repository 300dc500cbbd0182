/- TapeStretches: the law's walk. -/
import Derived.Test.YtpijkibhjklkoaaStretch
import Derived.Test.YtpijkibhjklkoaaTapeAwake
namespace Go.Proofs.Ytpijkibhjklkoaa.TapeStretches
open Go Go.RowKit Go.Proofs.Ytpijkibhjklkoaa.Mem Go.Proofs.Ytpijkibhjklkoaa.Put32 Go.Proofs.Ytpijkibhjklkoaa.Pad Go.Proofs.Ytpijkibhjklkoaa.Sum Go.Proofs.Ytpijkibhjklkoaa.RefWith Go.Proofs.Ytpijkibhjklkoaa.RefSum Go.Proofs.Ytpijkibhjklkoaa.ShaAwake Go.Proofs.Ytpijkibhjklkoaa.ShaSums Go.Proofs.Ytpijkibhjklkoaa.ShaParts Go.Proofs.Ytpijkibhjklkoaa.Stretch

theorem str_take (x : List Int) (m k : Nat) (hk : k ≤ 32 * m) : ∀ d, (str x (m + d)).take k = (str x m).take k := by
  intro d
  induction d with
  | zero => rfl
  | succ d ih =>
    rw [← Nat.add_assoc, str_succ, List.take_append_of_le_length (by rw [str_len]; omega), ih]
theorem str_less (x : List Int) (k n : Nat) (h : k ≤ n) : ((str x ((n + 31) / 32)).take n).take k = (str x ((k + 31) / 32)).take k := by
  rw [List.take_take, Nat.min_eq_left h]
  have := str_take x ((k + 31) / 32) k (by omega) ((n + 31) / 32 - (k + 31) / 32)
  rw [show (k + 31) / 32 + ((n + 31) / 32 - (k + 31) / 32) = (n + 31) / 32 by omega] at this
  exact this

theorem byte_app {x y : List Int} (hx : Byte x) (hy : Byte y) : Byte (x ++ y) := fun v h => (List.mem_append.1 h).elim (hx v) (hy v)
theorem sum_refS (y S : List Int) (hS : sumB y = S) (hy : Byte y) (A : Option Addr) (n c : Nat) (w : World) (hn : n ≤ 1099511627776) (h0 : Rd .u8 w A n c y) :
    Calls Try.prog 31 #[.slice A n c] w fun e w' => e = .returned (.agg (S.map (Value.int .u8)).toArray) ∧ Below w.heap.size w w' := by
  have h := sum_ref y hy A n c w hn h0
  rw [show sumA y = (S.map (Value.int .u8)).toArray by rw [← hS]; rfl] at h
  exact h
set_option maxHeartbeats 400000 in
set_option maxRecDepth 100000 in
theorem far (A : Option Addr) (s c : Nat) (n k : Int) (w : World) (h : 100 < s ∨ (300 < n ∧ n ≤ 1048576)) :
    Calls Try.prog 14 #[.slice A s c, .int .i64 n, .int .i64 k] w fun e w' => e = .returned (.bool true) ∧ Below w.heap.size w w' := by
  by_cases h1 : 100 < s
  · have d3 : decide (100 < (s : Int)) = true := decide_eq_true (by omega)
    have d3' : decide (100 < s) = true := decide_eq_true (by omega)
    clear h h1
    go_enter Try.func14, Try.ntmps14
    go_wp2_with (go_at_call 21; refine (TapeAwake.awake_true _).mono ?_; rintro e w1 ⟨rfl, hb⟩)
    go_ret
    exact ⟨rfl, hb⟩
  · have d3 : decide (100 < (s : Int)) = false := decide_eq_false (by omega)
    have d3' : decide (100 < s) = false := decide_eq_false (by omega)
    have d4 : decide (300 < n) = true := decide_eq_true (by omega)
    have d5 : decide (n ≤ 1048576) = true := decide_eq_true (by omega)
    clear h h1
    go_enter Try.func14, Try.ntmps14
    go_wp2_with (go_at_call 21; refine (TapeAwake.awake_true _).mono ?_; rintro e w1 ⟨rfl, hb⟩)
    go_ret
    exact ⟨rfl, hb⟩

set_option maxHeartbeats 400000 in
set_option maxRecDepth 100000 in
theorem bad (A : Option Addr) (s c : Nat) (n k : Int) (w : World) (hs : s ≤ 100) (h : n < 0 ∨ 1048576 < n) :
    Calls Try.prog 14 #[.slice A s c, .int .i64 n, .int .i64 k] w fun e w' => e = .returned (.bool true) ∧ Below w.heap.size w w' := by
  have d3 : decide (100 < (s : Int)) = false := decide_eq_false (by omega)
  have d3' : decide (100 < s) = false := decide_eq_false (by omega)
  have H := As.mk h
  by_cases h0 : n < 0
  · have d4 : decide (300 < n) = false := decide_eq_false (by omega)
    have d6 : decide (n < 0) = true := decide_eq_true h0
    clear h h0 hs
    go_enter Try.func14, Try.ntmps14
    go_wp2_with (first
      | (go_at_call 21; refine (TapeAwake.awake_true _).mono ?_; rintro e w1 ⟨rfl, hb⟩)
      | (go_at_call 47; refine (Stretch.bad A s c n _ H.out).mono ?_; rintro e w2 ⟨rfl, rfl⟩))
    go_ret
    exact ⟨rfl, hb⟩
  · have d4 : decide (300 < n) = true := decide_eq_true (by omega)
    have d5 : decide (n ≤ 1048576) = false := decide_eq_false (by omega)
    have d6 : decide (n < 0) = false := decide_eq_false h0
    have d7 : decide (1048576 < n) = true := decide_eq_true (by omega)
    clear h h0 hs
    go_enter Try.func14, Try.ntmps14
    go_wp2_with (first
      | (go_at_call 21; refine (TapeAwake.awake_true _).mono ?_; rintro e w1 ⟨rfl, hb⟩)
      | (go_at_call 47; refine (Stretch.bad A s c n _ H.out).mono ?_; rintro e w2 ⟨rfl, rfl⟩))
    go_ret
    exact ⟨rfl, hb⟩

set_option maxHeartbeats 1000000 in
set_option maxRecDepth 100000 in
theorem near (x : List Int) (hx : Byte x) (A : Option Addr) (s c n : Nat) (k : Int) (w : World) (hs : s ≤ 100) (hn : n ≤ 300) (h0 : Rd .u8 w A s c x) :
    Calls Try.prog 14 #[.slice A s c, .int .i64 n, .int .i64 k] w fun e w' => e = .returned (.bool true) ∧ Below w.heap.size w w' := by
  have d3 : decide (100 < (s : Int)) = false := decide_eq_false (by omega)
  have d3' : decide (100 < s) = false := decide_eq_false (by omega)
  have d4 : decide (300 < (n : Int)) = false := decide_eq_false (by omega)
  have d5 : decide ((n : Int) ≤ 1048576) = true := decide_eq_true (by omega)
  have d6 : decide ((n : Int) < 0) = false := decide_eq_false (by omega)
  have d7 : decide (1048576 < (n : Int)) = false := decide_eq_false (by omega)
  have HX := As.mk hx
  have HS := As.mk hs
  have HN := As.mk hn
  have H0 := As.mk h0
  clear hx hs hn h0
  go_enter Try.func14, Try.ntmps14
  go_wp2_with (first
    | (go_at_call 21; refine (TapeAwake.awake_true _).mono ?_; rintro e w1 ⟨rfl, hb⟩; have HB1 := As.mk hb; have H1 := As.mk (H0.out.below hb); clear hb)
    | (go_at_call 47; refine (Stretch.ok x HX.out A s c n _ (Nat.le_trans HS.out (by decide)) (Nat.le_trans HN.out (by decide)) H1.out).mono ?_; rintro e w2 ⟨B, d, rfl, hb, hr⟩; have HB2 := As.mk (below_step HB1.out hb); have H2 := As.mk (H1.out.below hb); have HR := As.mk hr; clear hb hr))
  obtain ⟨m, hm⟩ : ∃ m, m = (n + 31) / 32 := ⟨_, rfl⟩
  have HMM := As.mk hm
  clear hm
  go_loopg [9, 10] m (fun kq v9 v10 wr => ∃ (i : Nat) (C : Option Addr) (g : Nat), i + kq = m ∧ v9 = .slice C (32 * i) g ∧ v10 = .int .u64 i ∧ As (OwnAt wr w2.heap.size (.slice C (32 * i) g) (32 * i) ((str x i).map (Value.int .u8))) ∧ As (Below w2.heap.size w2 wr))
  case atStart => exact ⟨0, none, 0, by omega, rfl, rfl, ⟨OwnAt.nil _ _⟩, ⟨Below.refl _ _⟩⟩
  case round =>
    obtain ⟨i, C, g, hi, rfl, rfl, HO, HB⟩ := hrel
    have HI := As.mk hi
    clear hi
    obtain ⟨q, hq⟩ : ∃ q, q = 32 * i := ⟨_, rfl⟩
    have HQ := As.mk hq
    rw [← hq] at HO ⊢
    by_cases hlt : i < m
    · have hm := HMM.out
      have hnn := HN.out
      have e0 : decide ((q : Int) < (n : Int)) = true := decide_eq_true (by omega)
      have e1 : decide (q < n) = true := decide_eq_true (by omega)
      have hw : IntKind.u64.wrap ((i : Int) + 1) = ((i + 1 : Nat) : Int) := Go.Proofs.Ytpijkibhjklkoaa.Bits.wrap_u .u64 rfl (i + 1) (by show i + 1 < 18446744073709551616; omega)
      have HV := As.mk (show i < 18446744073709551616 by omega)
      have HQ2 := As.mk (show q + 32 ≤ 1048640 by omega)
      have HLT := As.mk hlt
      obtain ⟨S, hS⟩ : ∃ S, sumB (x ++ bytes8 i) = S := ⟨_, rfl⟩
      have lS : S.length = 32 := by rw [← hS]; exact sumB_len _
      have HSS := As.mk hS
      have LS := As.mk lS
      have VS := As.mk (show ((S.map (Value.int .u8)).toArray).size = 32 by simp [lS])
      clear hq hm hnn hS lS hlt
      go_wp2_with (at_builtin; refine stop_here ?_)
      unfold StopHere
      have HE0 : As (OwnAt (wr.alloc (.cells #[] 5)) wr.heap.size (.slice (some ⟨wr.heap.size, 0, none⟩) 0 0) 0 []) := ⟨OwnAt.lit wr 5 [] (by decide)⟩
      have HBe := As.mk (below_alloc (Below.refl wr.heap.size wr) (.cells #[] 5))
      have H3 := As.mk ((H2.out.below HB.out).below HBe.out)
      have HO3 := As.mk (HO.out.below HBe.out)
      generalize wr.alloc _ = w3 at *
      go_wp2_with (first
        | (at_builtin; refine wpList_app2 rfl _ _ 22 rfl wr.heap.size 5 (.int .u8 0) 1 Try.underlying22 CloneB.info rfl _ 0 [] rfl HE0.out _ s _ rfl (Src.rd H3.out) ?c1 ?c2 HBe.out.size HBe.out (Nat.le_refl _) ?_; (case c1 => have := HS.out; unfold maxLen; omega); (case c2 => have := HS.out; omega); intro v4 w4 hown hg hat hb4; simp only [Nat.zero_add, List.nil_append] at hown; obtain ⟨A4, c4, rfl⟩ := hown.slice; have HB4 := As.mk hb4; have HO4 := As.mk hown; clear hown hg hat hb4)
        | (go_at_call 48; (with_reducible refine (RefPad.put64 i HV.out _).mono ?_); rintro e w5 ⟨A5, c5, rfl, hb, ho⟩; have HB5 := As.mk (below_step HB4.out hb); have HO4b := As.mk (HO4.out.below hb); have HO5 := As.mk ho; clear hb ho)
        | (at_builtin; refine wpList_app2 rfl _ _ 22 rfl wr.heap.size 5 (.int .u8 0) 1 Try.underlying22 CloneB.info rfl _ s _ rfl HO4b.out _ 8 _ rfl (Src.own HO5.out (ints_oneCell .u8 _)) ?c1 ?c2 HB5.out.size HB5.out (Nat.le_refl _) ?_; (case c1 => have := HS.out; unfold maxLen; omega); (case c2 => have := HS.out; omega); intro v6 w6 hown hg hat hb6; rw [← List.map_append] at hown; obtain ⟨A6, c6, rfl, hr⟩ := OwnAt.rd hown; have HR6 := As.mk hr; have HB6 := As.mk hb6; clear hown hg hat hb6 hr)
        | (go_at_call 31; (with_reducible refine (sum_refS (x ++ bytes8 i) S HSS.out (byte_app HX.out (bytes8_byte i)) A6 (s + 8) c6 _ (by have := HS.out; omega) HR6.out).mono ?_); rintro e w7 ⟨rfl, hb⟩; have HB7 := As.mk (below_step HB6.out hb); clear hb)
        | (refine wpList_allocArr rfl 44 rfl Z32 z32 ?_)
        | (refine wpList_storeNew rfl rfl 44 _ _ rfl rfl (S.map (Value.int .u8)).toArray rfl 44 Z32 (by rw [VS.out]; kernel_rfl) (by rw [VS.out]; kernel_rfl) (bytesA_one S) ?_; refine stop_here ?_))
      unfold StopHere
      have L8 : As (Rd .u8 (w7.alloc (.cells (S.map (Value.int .u8)).toArray 44)) (some ⟨w7.heap.size, 0, none⟩) 32 32 S) := ⟨by have := Rd.lit w7 .u8 44 S (by rw [LS.out]; decide); rw [LS.out] at this; exact this⟩
      have HBr := As.mk (below_alloc HB7.out (.cells (S.map (Value.int .u8)).toArray 44))
      have HB8 := As.mk (below_step HB.out HBr.out)
      have HO8 := As.mk (HO.out.below HBr.out)
      generalize w7.alloc _ = w8 at *
      generalize w7.heap.size = b7 at *
      clear HB7 HB6 HR6 HB5 HO5 HO4 HO4b HB4 HO3 H3 HBe HE0 HBr
      go_wp2_with (at_builtin; refine wpList_app2 rfl _ _ 22 rfl w2.heap.size 5 (.int .u8 0) 1 Try.underlying22 CloneB.info rfl _ q _ rfl HO8.out _ 32 _ rfl (Src.rd L8.out) ?c4 ?c5 HB8.out.size HB8.out (Nat.le_refl _) ?_; (case c4 => have := HQ2.out; unfold maxLen; omega); (case c5 => have := HQ2.out; omega); intro v9 w9 hown hg hat hb9; obtain ⟨A9, c9, rfl⟩ := hown.slice; have HO9 := As.mk hown; have HB9 := As.mk hb9; clear hown hg hat hb9)
      go_roundg (m - (i + 1))
      case measure => have := HI.out; have := HLT.out; omega
      case rel =>
        refine ⟨i + 1, A9, c9, by have := HI.out; have := HLT.out; omega, by rw [HQ.out, Nat.mul_add], by go_num, ⟨?_⟩, HB9⟩
        have h := HO9.out
        rw [← List.map_append, ← HSS.out, ← str_succ, HQ.out] at h
        exact h
    · have hm := HMM.out
      have him : i = m := by have := HI.out; omega
      have hqn : n ≤ q := by have := HQ.out; omega
      have e0 : decide ((q : Int) < (n : Int)) = false := decide_eq_false (by omega)
      have e1 : decide (q < n) = false := decide_eq_false (by omega)
      obtain ⟨C', g', eC, hr⟩ := OwnAt.rd HO.out
      cases eC
      have HE : As (str x i = str x ((n + 31) / 32)) := ⟨by rw [him, hm]⟩
      have HW := As.mk (hr.to n (by omega))
      rw [HE.out] at HW
      have HRw := As.mk (HR.out.below HB.out)
      have H1w := As.mk (H2.out.below HB.out)
      have hsl : ∀ W, (Instr.slice 22 (.slice C q g) none (some (.int .i64 (n : Int))) none).run Try.prog W = .ok (.slice (cutA C g 0 1) n g) W := fun W => run_cut_to (P := Try.prog) W 22 5 Try.underlying22 CloneB.info C q g n .i64 (by have := hr.le; omega)
      clear hm him hqn hq hlt hr
      by_cases hk0 : k < 0
      · have f0 : decide (k < 0) = true := decide_eq_true hk0
        clear hk0
        go_wp2_with (go_at_call 18; refine (RefSame.same_any ((str x ((n + 31) / 32)).take n) ((str x ((n + 31) / 32)).take n) _ _ n n _ _ _ true (by have := HN.out; omega) (by simp) HRw.out HW.out).mono ?_; rintro e w9 ⟨rfl, n9, rfl⟩; have HBZ := As.mk (below_drewN (below_step HB2.out HB.out) n9); have HRz := As.mk (HRw.out.drewN n9); have H1z := As.mk (H1w.out.drewN n9); generalize wr.drewN n9 = wz at *)
        go_ret
        exact ⟨rfl, HBZ.out⟩
      · have f0 : decide (k < 0) = false := decide_eq_false hk0
        by_cases hk1 : (n : Int) < k
        · have f1 : decide ((n : Int) < k) = true := decide_eq_true hk1
          clear hk0 hk1
          go_wp2_with (go_at_call 18; refine (RefSame.same_any ((str x ((n + 31) / 32)).take n) ((str x ((n + 31) / 32)).take n) _ _ n n _ _ _ true (by have := HN.out; omega) (by simp) HRw.out HW.out).mono ?_; rintro e w9 ⟨rfl, n9, rfl⟩; have HBZ := As.mk (below_drewN (below_step HB2.out HB.out) n9); have HRz := As.mk (HRw.out.drewN n9); have H1z := As.mk (H1w.out.drewN n9); generalize wr.drewN n9 = wz at *)
          go_ret
          exact ⟨rfl, HBZ.out⟩
        · have f1 : decide ((n : Int) < k) = false := decide_eq_false hk1
          obtain ⟨kk, rfl⟩ := Int.eq_ofNat_of_zero_le (a := k) (by omega)
          have f2 : decide (n < kk) = false := decide_eq_false (by omega)
          have HK := As.mk (show kk ≤ n by omega)
          have hsl2 : ∀ W, (Instr.slice 22 (.slice B n d) none (some (.int .i64 (kk : Int))) none).run Try.prog W = .ok (.slice (cutA B d 0 1) kk d) W := fun W => run_cut_to (P := Try.prog) W 22 5 Try.underlying22 CloneB.info B n d kk .i64 (by have := HR.out.le; omega)
          clear hk0 hk1
          go_wp2_with (first
            | (go_at_call 47; (with_reducible refine (Stretch.ok x HX.out A s c kk _ (Nat.le_trans HS.out (by decide)) (Nat.le_trans (Nat.le_trans HK.out HN.out) (by decide)) H1z.out).mono ?_); rintro e w10 ⟨D, f, rfl, hb, hr⟩; have HD := As.mk hr; have HBY := As.mk (below_step HBZ.out hb); have HRy := As.mk ((HRz.out.below hb).to kk HK.out); clear hb hr)
            | (go_at_call 18; (with_reducible refine (RefSame.same_any ((str x ((kk + 31) / 32)).take kk) (((str x ((n + 31) / 32)).take n).take kk) _ _ kk kk _ _ _ true (by have := HN.out; have := HK.out; omega) (by simp [str_less x kk n HK.out]) HD.out HRy.out).mono ?_); rintro e w11 ⟨rfl, n11, rfl⟩)
            | (go_at_call 18; refine (RefSame.same_any ((str x ((n + 31) / 32)).take n) ((str x ((n + 31) / 32)).take n) _ _ n n _ _ _ true (by have := HN.out; omega) (by simp) HRw.out HW.out).mono ?_; rintro e w9 ⟨rfl, n9, rfl⟩; have HBZ := As.mk (below_drewN (below_step HB2.out HB.out) n9); have HRz := As.mk (HRw.out.drewN n9); have H1z := As.mk (H1w.out.drewN n9); generalize wr.drewN n9 = wz at *))
          go_ret
          exact ⟨rfl, below_drewN HBY.out _⟩

theorem walk (A : Option Addr) (s c : Nat) (x : List Int) (n k : Int) (w : World) (h0 : Rd .u8 w A s c x) (hx : ∀ v ∈ x, (Lit.int .u8 v).wf = true) (_ : s * 1 ≤ 140737488351232) (_ : (Lit.int .i64 n).wf = true) (_ : (Lit.int .i64 k).wf = true) :
    Calls Try.prog 14 #[.slice A s c, .int .i64 n, .int .i64 k] w fun e w' => e = .returned (.bool true) ∧ Below w.heap.size w w' := by
  by_cases h1 : 100 < s ∨ (300 < n ∧ n ≤ 1048576)
  · exact far A s c n k w h1
  · by_cases h2 : n < 0 ∨ 1048576 < n
    · exact bad A s c n k w (by omega) h2
    · obtain ⟨n, rfl⟩ := Int.eq_ofNat_of_zero_le (a := n) (by omega)
      exact near x (byte_of hx) A s c n k w (by omega) (by omega) h0
end Go.Proofs.Ytpijkibhjklkoaa.TapeStretches
