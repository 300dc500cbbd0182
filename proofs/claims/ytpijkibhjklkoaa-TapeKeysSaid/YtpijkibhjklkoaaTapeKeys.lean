/- TapeKeys: the law's walk. -/
import Derived.Test.YtpijkibhjklkoaaTapeAwake
import Derived.Test.YtpijkibhjklkoaaTapeMany
namespace Go.Proofs.Ytpijkibhjklkoaa.TapeKeys
open Go Go.RowKit Go.Proofs.Ytpijkibhjklkoaa.Mem Go.Proofs.Ytpijkibhjklkoaa.Tape Go.Proofs.Ytpijkibhjklkoaa.TapeMany

set_option maxHeartbeats 800000 in
set_option maxRecDepth 100000 in
theorem far_one (A : Option Addr) (n c : Nat) (kk ss : Int) (w : World) (h : 300 < n) :
    Calls Try.prog 7 #[.slice A n c, .int .i64 kk, .int .i64 ss] w fun e w' => e = .returned (.bool true) ∧ Below w.heap.size w w' := by
  have d3 : decide (300 < (n : Int)) = true := decide_eq_true (by omega)
  have d3' : decide (300 < n) = true := decide_eq_true (by omega)
  clear h
  go_enter Try.func7, Try.ntmps7
  go_wp2_with (first
    | (go_at_call 21; refine (TapeAwake.awake_true _).mono ?_; rintro e w1 ⟨rfl, hb⟩)
    | (go_at_call 24; (with_reducible refine (draw_nil _ 0).mono ?_); rintro e w2 ⟨rfl, rfl⟩)
    | (go_at_call 23; (with_reducible refine (can_nil _ 0).mono ?_); rintro e w2 ⟨rfl, rfl⟩)
    | (go_at_call 25; (with_reducible refine (place_nil _).mono ?_); rintro e w2 ⟨rfl, rfl⟩)
    | (go_at_call 26; (with_reducible refine (left_nil _).mono ?_); rintro e w2 ⟨rfl, rfl⟩)
    | (go_at_call 28; (with_reducible refine (keys_nil _ 0 1).mono ?_); rintro e w2 ⟨rfl, rfl⟩))
  go_ret
  exact ⟨rfl, hb⟩

set_option maxHeartbeats 800000 in
set_option maxRecDepth 100000 in
theorem bad_one (b : List Int) (A : Option Addr) (n c : Nat) (kk ss : Int) (w : World) (hn : n ≤ 300) (hbad : bad kk ss) (h0 : Rd .u8 w A n c b) :
    Calls Try.prog 7 #[.slice A n c, .int .i64 kk, .int .i64 ss] w fun e w' => e = .returned (.bool true) ∧ Below w.heap.size w w' := by
  have d3 : decide (300 < (n : Int)) = false := decide_eq_false (by omega)
  have HN := As.mk (show n ≤ 140737488351232 by omega)
  have HBAD := As.mk hbad
  have fin : ∀ d0 d1 d2 d3 : Bool, (d0 = decide (kk < 0)) → (d1 = decide (4096 < kk)) → (d2 = decide (ss < 1)) → (d3 = decide (64 < ss)) → (d0 || d1 || d2 || d3) = true := by
    rintro _ _ _ _ rfl rfl rfl rfl
    unfold bad at hbad
    simp only [Bool.or_eq_true, decide_eq_true_eq]
    omega
  clear hbad
  have key : ∀ d0 d1 d2 d3 : Bool, decide (kk < 0) = d0 → decide (4096 < kk) = d1 → decide (ss < 1) = d2 → decide (64 < ss) = d3 →
      Calls Try.prog 7 #[.slice A n c, .int .i64 kk, .int .i64 ss] w fun e w' => e = .returned (.bool true) ∧ Below w.heap.size w w' := by
    intro d0 d1 d2 d4 e0 e1 e2 e4
    have hf := fin d0 d1 d2 d4 e0.symm e1.symm e2.symm e4.symm
    have hf : (d0 = true) ∨ (d0 = false ∧ d1 = true) ∨ (d0 = false ∧ d1 = false ∧ d2 = true) ∨ (d0 = false ∧ d1 = false ∧ d2 = false ∧ d4 = true) := by
      revert hf
      cases d0 <;> cases d1 <;> cases d2 <;> cases d4 <;> simp
    clear fin
    rcases hf with rfl | ⟨rfl, rfl⟩ | ⟨rfl, rfl, rfl⟩ | ⟨rfl, rfl, rfl, rfl⟩
    all_goals
      go_enter Try.func7, Try.ntmps7
      go_wp2_with (first
        | (go_at_call 21; refine (TapeAwake.awake_true _).mono ?_; rintro e w1 ⟨rfl, hb⟩; have H0 := As.mk (h0.below hb); have HB1 := As.mk hb; clear hb h0)
        | (go_at_call 24; (with_reducible refine (draw_nil _ 0).mono ?_); rintro e w2 ⟨rfl, rfl⟩)
        | (go_at_call 23; (with_reducible refine (can_nil _ 0).mono ?_); rintro e w2 ⟨rfl, rfl⟩)
        | (go_at_call 25; (with_reducible refine (place_nil _).mono ?_); rintro e w2 ⟨rfl, rfl⟩)
        | (go_at_call 26; (with_reducible refine (left_nil _).mono ?_); rintro e w2 ⟨rfl, rfl⟩)
        | (go_at_call 28; (with_reducible refine (keys_nil _ 0 1).mono ?_); rintro e w2 ⟨rfl, rfl⟩)
        | (go_at_call 22; (with_reducible refine (new_any b A n c _ HN.out H0.out).mono ?_); rintro e w2 ⟨p1, A1, k1, rfl, hp1, ht1, ha1, hb2⟩; have HT1 := As.mk ht1; have HB2 := As.mk (below_step HB1.out hb2); have K0 := As.mk (H0.out.below hb2); clear ht1 hb2 ha1 hp1 H0)
        | (go_at_call 22; (with_reducible refine (new_any b A n c _ HN.out K0.out).mono ?_); rintro e w3 ⟨p2, A2, c2, rfl, hp2, ht2, ha2, hb3⟩; have HT3 := As.mk (HT1.out.below hb3); have HB3 := As.mk (below_step HB2.out hb3); clear ht2 hb3 ha2 hp2)
        | (go_at_call 28; (with_reducible refine (keys_arg _ kk ss HT3.out HBAD.out).mono ?_); rintro e w4 ⟨rfl, rfl⟩)
        | (go_at_call 25; (with_reducible refine (place_any _ HT3.out).mono ?_); rintro e w4 ⟨rfl, rfl⟩))
      go_ret
      exact ⟨rfl, HB3.out⟩
  exact key _ _ _ _ rfl rfl rfl rfl

set_option maxHeartbeats 800000 in
set_option maxRecDepth 100000 in
theorem dry_one (b : List Int) (A : Option Addr) (n c : Nat) (k sz : Nat) (w : World) (hn : n ≤ 300) (h1 : k ≤ 4096) (h2 : 1 ≤ sz) (h3 : sz ≤ 64) (hd : n < k * sz) (h0 : Rd .u8 w A n c b) :
    Calls Try.prog 7 #[.slice A n c, .int .i64 k, .int .i64 sz] w fun e w' => e = .returned (.bool true) ∧ Below w.heap.size w w' := by
  obtain ⟨m, hm, hs', hs⟩ := mul_named k sz (by have := small k sz h1 h3; omega)
  have d3 : decide (300 < (n : Int)) = false := decide_eq_false (by clear hs hs'; omega)
  have d4 : decide ((k : Int) < 0) = false := decide_eq_false (by clear hs hs'; omega)
  have d5 : decide (4096 < (k : Int)) = false := decide_eq_false (by clear hs hs'; omega)
  have d6 : decide ((sz : Int) < 1) = false := decide_eq_false (by clear hs hs'; omega)
  have d7 : decide (64 < (sz : Int)) = false := decide_eq_false (by clear hs hs'; omega)
  have d8 : decide ((n : Int) < (m : Int)) = true := decide_eq_true (by clear hs hs'; omega)
  have d9 : decide (n < m) = true := decide_eq_true (by clear hs hs'; omega)
  have HN := As.mk (show n ≤ 140737488351232 by clear hs hs'; omega)
  have HD := As.mk (show n < 0 + k * sz by clear hs hs'; omega)
  have H1 := As.mk h1
  have H2 := As.mk h2
  have H3 := As.mk h3
  clear h1 h2 h3 hd hm hn
  go_enter Try.func7, Try.ntmps7
  go_wp2_with (first
    | (go_at_call 21; refine (TapeAwake.awake_true _).mono ?_; rintro e w1 ⟨rfl, hb⟩; have H0 := As.mk (h0.below hb); have HB1 := As.mk hb; clear hb h0)
    | (go_at_call 24; (with_reducible refine (draw_nil _ 0).mono ?_); rintro e w2 ⟨rfl, rfl⟩)
    | (go_at_call 23; (with_reducible refine (can_nil _ 0).mono ?_); rintro e w2 ⟨rfl, rfl⟩)
    | (go_at_call 25; (with_reducible refine (place_nil _).mono ?_); rintro e w2 ⟨rfl, rfl⟩)
    | (go_at_call 26; (with_reducible refine (left_nil _).mono ?_); rintro e w2 ⟨rfl, rfl⟩)
    | (go_at_call 28; (with_reducible refine (keys_nil _ 0 1).mono ?_); rintro e w2 ⟨rfl, rfl⟩)
    | (go_at_call 22; (with_reducible refine (new_any b A n c _ HN.out H0.out).mono ?_); rintro e w2 ⟨p1, A1, k1, rfl, hp1, ht1, ha1, hb2⟩; have HT1 := As.mk ht1; have HB2 := As.mk (below_step HB1.out hb2); have K0 := As.mk (H0.out.below hb2); clear ht1 hb2 ha1 hp1 H0)
    | (go_at_call 22; (with_reducible refine (new_any b A n c _ HN.out K0.out).mono ?_); rintro e w3 ⟨p2, A2, c2, rfl, hp2, ht2, ha2, hb3⟩; have HT3 := As.mk (HT1.out.below hb3); have HB3 := As.mk (below_step HB2.out hb3); clear ht2 hb3 ha2 hp2)
    | (go_at_call 28; (with_reducible refine (keys_dry _ k sz HT3.out H1.out H2.out H3.out HD.out).mono ?_); rintro e w4 ⟨rfl, n4, rfl⟩)
    | (go_at_call 25; (with_reducible refine (place_any _ (HT3.out.drewN _)).mono ?_); rintro e w4 ⟨rfl, rfl⟩))
  go_ret
  exact ⟨rfl, below_drewN HB3.out _⟩

set_option maxHeartbeats 1600000 in
set_option maxRecDepth 100000 in
theorem ok_one (b : List Int) (A : Option Addr) (n c : Nat) (k sz : Nat) (w : World) (hn : n ≤ 300) (h1 : k ≤ 4096) (h2 : 1 ≤ sz) (h3 : sz ≤ 64) (hd : k * sz ≤ n) (h0 : Rd .u8 w A n c b) :
    Calls Try.prog 7 #[.slice A n c, .int .i64 k, .int .i64 sz] w fun e w' => e = .returned (.bool true) ∧ Below w.heap.size w w' := by
  obtain ⟨m, hm, hs', hs⟩ := mul_named k sz (by have := small k sz h1 h3; omega)
  have d3 : decide (300 < (n : Int)) = false := decide_eq_false (by clear hs hs'; omega)
  have d4 : decide ((k : Int) < 0) = false := decide_eq_false (by clear hs hs'; omega)
  have d5 : decide (4096 < (k : Int)) = false := decide_eq_false (by clear hs hs'; omega)
  have d6 : decide ((sz : Int) < 1) = false := decide_eq_false (by clear hs hs'; omega)
  have d7 : decide (64 < (sz : Int)) = false := decide_eq_false (by clear hs hs'; omega)
  have d8 : decide ((n : Int) < (m : Int)) = false := decide_eq_false (by clear hs hs'; omega)
  have d9 : decide (n < m) = false := decide_eq_false (by clear hs hs'; omega)
  have HN := As.mk (show n ≤ 140737488351232 by clear hs hs'; omega)
  have HD := As.mk (show 0 + k * sz ≤ n by clear hs hs'; omega)
  have HM := As.mk hm
  have H1 := As.mk h1
  have H2 := As.mk h2
  have H3 := As.mk h3
  have HK1 := As.mk (show k ≤ 140737488351232 by clear hs hs'; omega)
  clear h1 h2 h3 hd hm hn
  go_enter Try.func7, Try.ntmps7
  go_wp2_with (first
    | (go_at_call 21; refine (TapeAwake.awake_true _).mono ?_; rintro e w1 ⟨rfl, hb⟩; have H0 := As.mk (h0.below hb); have HB1 := As.mk hb; clear hb h0)
    | (go_at_call 24; (with_reducible refine (draw_nil _ 0).mono ?_); rintro e w2 ⟨rfl, rfl⟩)
    | (go_at_call 23; (with_reducible refine (can_nil _ 0).mono ?_); rintro e w2 ⟨rfl, rfl⟩)
    | (go_at_call 25; (with_reducible refine (place_nil _).mono ?_); rintro e w2 ⟨rfl, rfl⟩)
    | (go_at_call 26; (with_reducible refine (left_nil _).mono ?_); rintro e w2 ⟨rfl, rfl⟩)
    | (go_at_call 28; (with_reducible refine (keys_nil _ 0 1).mono ?_); rintro e w2 ⟨rfl, rfl⟩)
    | (go_at_call 22; (with_reducible refine (new_any b A n c _ HN.out H0.out).mono ?_); rintro e w2 ⟨p1, A1, k1, rfl, hp1, ht1, ha1, hb2⟩; have HT1 := As.mk ht1; have HB2 := As.mk (below_step HB1.out hb2); have K0 := As.mk (H0.out.below hb2); have HP1 := As.mk hp1; clear ht1 hb2 ha1 hp1 H0)
    | (go_at_call 22; (with_reducible refine (new_any b A n c _ HN.out K0.out).mono ?_); rintro e w3 ⟨p2, A2, c2, rfl, hp2, ht2, ha2, hb3⟩; have HT3 := As.mk (HT1.out.below hb3); have HB3 := As.mk (below_step HB2.out hb3); have HU3 := As.mk ht2; have HP2 := As.mk (And.intro hp2 (And.intro ha2 HT1.out.lt)); clear ht2 hb3 ha2 hp2)
    | (go_at_call 28; (with_reducible refine (keys_ok _ k sz HT3.out H1.out H2.out H3.out HD.out).mono ?_); rintro e w4 ⟨A4, c4, cells, rfl, hg, ht4, ho, hpc⟩; have HG4 := As.mk hg; have HT4 := As.mk ht4; have HO4 := As.mk ho; have HP4 := As.mk hpc; clear hg ht4 ho hpc))
  have HU4 : As (TapeAt w4 p2 b 0 A2 n c2) := ⟨HU3.out.grown HG4.out (fun q hq => by
    cases hq
    obtain ⟨a1, a2, a3⟩ := HP2.out
    exact ⟨by omega, fun ad ha => by have := a2 ad ha; omega⟩)⟩
  have HPL : As (p2 < w3.heap.size) := ⟨HU3.out.lt⟩
  go_loopg [110] k (fun kq v110 wr => ∃ i : Nat, i + kq = k ∧ v110 = .int .i64 i ∧ As (TapeAt wr p2 b (i * sz) A2 n c2) ∧ As (w4.grownBy wr (some p2)))
  case atStart => exact ⟨0, by clear hs hs'; omega, rfl, ⟨by simpa using HU4.out⟩, ⟨grown_refl _ _⟩⟩
  case round =>
    obtain ⟨i, hi, rfl, HUr, HGr⟩ := hrel
    have HI := As.mk hi
    clear hi
    by_cases hlt : i < k
    · have c0 : decide ((i : Int) < (k : Int)) = true := decide_eq_true (by clear hs hs'; omega)
      have c1 : decide (i < k) = true := decide_eq_true hlt
      have hroom : i * sz + sz ≤ n := by
        clear hs hs'
        have : i * sz + sz ≤ k * sz := by rw [← Nat.succ_mul]; exact Nat.mul_le_mul_right _ (by omega)
        have := HD.out
        omega
      have HRM := As.mk hroom
      have HSZ := As.mk (show sz ≤ 140737488351232 by have := H3.out; clear hs hs'; omega)
      clear hroom
      have HOr := As.mk (own_grown_some HO4.out HGr.out HPL.out)
      have HPr := As.mk (HP4.out.grown_some HGr.out HPL.out)
      obtain ⟨Aj, cj, ej, oj⟩ := HPr.out i hlt
      obtain ⟨ad, ea, hx⟩ := own_at HOr.out i _ ej
      cases ea
      have HJ := As.mk oj
      clear oj ej
      have hw : wrap64 ((i : Int) + 1) = ((i + 1 : Nat) : Int) := wrap_up (by clear hs hs'; have := HK1.out; omega)
      go_wp2_with (first
        | (go_at_call 24; (with_reducible refine (draw_ok _ sz HUr.out HRM.out).mono ?_); rintro e w5 ⟨A5, c5, rfl, hg, ht5, ho5⟩; obtain ⟨A6, c6, e6, hr6⟩ := own_rd ho5; cases e6; obtain ⟨A7, c7, e7, hr7⟩ := own_rd (own_grown_some HJ.out hg HPL.out); cases e7; have HR6 := As.mk hr6; have HR7 := As.mk hr7; have HG5 := As.mk hg; have HU5 := As.mk ht5; clear hg ht5 ho5 hr6 hr7)
        | (go_at_call 18; (with_reducible refine (RefSame.same_any _ _ _ _ sz sz _ _ _ true HSZ.out (by simp [piece]) HR7.out HR6.out).mono ?_); rintro e w6 ⟨rfl, n6, rfl⟩))
      clear hs hs'
      go_roundg (k - (i + 1))
      case measure => have := HI.out; omega
      case rel => exact ⟨i + 1, by have := HI.out; omega, by go_num, ⟨by rw [Nat.succ_mul]; exact HU5.out.drewN _⟩, ⟨grownBy_drewN (grownBy_trans HGr.out HG5.out) _⟩⟩
    · have c0 : decide ((i : Int) < (k : Int)) = false := decide_eq_false (by clear hs hs'; omega)
      have c1 : decide (i < k) = false := decide_eq_false hlt
      obtain rfl : i = k := by have := HI.out; clear hs hs'; omega
      have HTr : As (TapeAt wr p1 b m A1 n k1) := ⟨by
        have h := HT4.out
        rw [show 0 + i * sz = m by rw [HM.out]; omega] at h
        exact h.grown HGr.out (fun q hq => by
          cases hq
          obtain ⟨a1, a2, a3⟩ := HP2.out
          exact ⟨by omega, fun ad ha => by have := h.apart ad ha; omega⟩)⟩
      have HUr' : As (TapeAt wr p2 b m A2 n c2) := ⟨by rw [HM.out]; exact HUr.out⟩
      clear HI HUr
      go_wp2_with (first
        | (go_at_call 25; (with_reducible refine (place_any _ HTr.out).mono ?_); rintro e w7 ⟨rfl, rfl⟩)
        | (go_at_call 25; (with_reducible refine (place_any _ HUr'.out).mono ?_); rintro e w7 ⟨rfl, rfl⟩))
      go_ret
      refine ⟨by first | rfl | simp, ?_⟩
      have s1 := HB1.out.size
      have s2 := HB2.out.size
      have s3 := HB3.out.size
      obtain ⟨a1, a2, a3⟩ := HP2.out
      have := HP1.out
      clear hs hs'
      exact below_some (below_some HB3.out HG4.out (by omega) (by omega)) HGr.out (by have := HG4.out.size; omega) (by omega)

/-- the walk, as the row wants it -/
theorem walk (a0 : Option Addr) (len0 cap0 : Nat) (x0 : List Int) (kk ss : Int) (w : World) (f0 : Rd .u8 w a0 len0 cap0 x0) (_ : ∀ n ∈ x0, (Lit.int .u8 n).wf = true) (_ : len0 * 1 ≤ 140737488351232)
    (_ : (Lit.int .i64 kk).wf = true) (_ : (Lit.int .i64 ss).wf = true) :
    Calls Try.prog 7 #[.slice a0 len0 cap0, .int .i64 kk, .int .i64 ss] w fun e w' => e = .returned (.bool true) ∧ Below w.heap.size w w' := by
  by_cases h : 300 < len0
  · exact far_one a0 len0 cap0 kk ss w h
  · by_cases hb : bad kk ss
    · exact bad_one x0 a0 len0 cap0 kk ss w (by omega) hb f0
    · unfold bad at hb
      obtain ⟨k, rfl⟩ := Int.eq_ofNat_of_zero_le (a := kk) (by omega)
      obtain ⟨sz, rfl⟩ := Int.eq_ofNat_of_zero_le (a := ss) (by omega)
      by_cases hd : k * sz ≤ len0
      · exact ok_one x0 a0 len0 cap0 k sz w (by omega) (by omega) (by omega) (by omega) hd f0
      · exact dry_one x0 a0 len0 cap0 k sz w (by omega) (by omega) (by omega) (by omega) (by omega) f0

end Go.Proofs.Ytpijkibhjklkoaa.TapeKeys
