/- TapeDraws: the law's walk. -/
import Derived.Test.YtpijkibhjklkoaaTapeAwake
namespace Go.Proofs.Ytpijkibhjklkoaa.TapeDraws
open Go Go.RowKit Go.Proofs.Ytpijkibhjklkoaa.Mem Go.Proofs.Ytpijkibhjklkoaa.Tape

set_option maxHeartbeats 400000 in
set_option maxRecDepth 100000 in
theorem far_one (A B : Option Addr) (n m c d : Nat) (w : World) (h : 300 < n ∨ 60 < m) :
    Calls Try.prog 5 #[.slice A n c, .slice B m d] w fun e w' => e = .returned (.bool true) ∧ Below w.heap.size w w' := by
  by_cases h3 : 300 < n
  · have d3 : decide (300 < (n : Int)) = true := decide_eq_true (by omega)
    have d3' : decide (300 < n) = true := decide_eq_true (by omega)
    clear h
    go_enter Try.func5, Try.ntmps5
    go_wp2_with (go_at_call 21; refine (TapeAwake.awake_true _).mono ?_; rintro e w1 ⟨rfl, hb⟩)
    go_ret
    exact ⟨rfl, hb⟩
  · have d3 : decide (300 < (n : Int)) = false := decide_eq_false (by omega)
    have d3' : decide (300 < n) = false := decide_eq_false (by omega)
    have d4 : decide (60 < (m : Int)) = true := decide_eq_true (by omega)
    have d4' : decide (60 < m) = true := decide_eq_true (by omega)
    clear h
    go_enter Try.func5, Try.ntmps5
    go_wp2_with (go_at_call 21; refine (TapeAwake.awake_true _).mono ?_; rintro e w1 ⟨rfl, hb⟩)
    go_ret
    exact ⟨rfl, hb⟩

set_option maxHeartbeats 1000000 in
set_option maxRecDepth 100000 in
theorem near (b l : List Int) (A B : Option Addr) (n m c d : Nat) (w : World) (hn : n ≤ 300) (hm : m ≤ 60) (h0 : Rd .u8 w A n c b) (h1 : Rd .i64 w B m d l) :
    Calls Try.prog 5 #[.slice A n c, .slice B m d] w fun e w' => e = .returned (.bool true) ∧ Below w.heap.size w w' := by
  have d3 : decide (300 < (n : Int)) = false := decide_eq_false (by omega)
  have d3' : decide (300 < n) = false := decide_eq_false (by omega)
  have d4 : decide (60 < (m : Int)) = false := decide_eq_false (by omega)
  go_enter Try.func5, Try.ntmps5
  go_wp2_with (first
    | (go_at_call 21; refine (TapeAwake.awake_true _).mono ?_; rintro e w1 ⟨rfl, hb⟩; have HB1 := As.mk hb; have H0 := As.mk (h0.below hb); have H1 := As.mk (h1.below hb); clear hb h0 h1)
    | (go_at_call 22; (with_reducible refine (new_any b A n c _ (Nat.le_trans hn (by decide)) H0.out).mono ?_); rintro e w2 ⟨p, A1, c1, rfl, hp, ht, hb⟩; have HP := As.mk hp; have HT := As.mk ht; have HB2 := As.mk hb; clear ht hb hp))
  go_loopg [6, 27] m (fun kq v6 v27 wr => ∃ (i t : Nat), i + kq = m ∧ v27 = .int .i64 i ∧ v6 = .int .i64 t ∧ As (TapeAt wr p b t A1 n c1) ∧ As (Below w1.heap.size w1 wr))
  case atStart => exact ⟨0, 0, by omega, rfl, rfl, HT, HB2⟩
  case round =>
    obtain ⟨i, t, hi, rfl, rfl, HTr, HBr⟩ := hrel
    have HK := As.mk hi
    clear hi
    have hsz : w1.heap.size ≤ wr.heap.size := HBr.out.size
    by_cases hlt : i < m
    · have c0 : decide ((i : Int) < (m : Int)) = true := decide_eq_true (by omega)
      have c1 : decide (i < m) = true := decide_eq_true hlt
      obtain ⟨ad, e0, hx0⟩ := (H1.out.below HBr.out).at i hlt
      cases e0
      have hw : wrap64 ((i : Int) + 1) = ((i + 1 : Nat) : Int) := wrap_up (by omega)
      have ht := HTr.out.le
      by_cases hneg : nth l i < 0
      · have cc : can (nth l i) n t = false := by unfold can; rw [decide_eq_false (p := 0 ≤ nth l i) (by omega)]; rfl
        go_wp2_with (first
          | (go_at_call 23; (with_reducible refine (can_any _ (nth l i) HTr.out).mono ?_); rintro e w3 ⟨rfl, n1, rfl⟩; rw [cc])
          | (go_at_call 24; (with_reducible refine (draw_arg _ (nth l i) (HTr.out.drewN _) hneg).mono ?_); rintro e w3 ⟨rfl, rfl⟩)
          | (go_at_call 25; (with_reducible refine (place_any _ (HTr.out.drewN _)).mono ?_); rintro e w3 ⟨rfl, rfl⟩)
          | (go_at_call 26; (with_reducible refine (left_any _ (HTr.out.drewN _)).mono ?_); rintro e w3 ⟨rfl, n2, rfl⟩))
        go_roundg (m - (i + 1))
        case measure => have := HK.out; omega
        case rel => exact ⟨i + 1, t, by omega, by go_num, rfl, ⟨HTr.out.drewN _⟩, ⟨below_drewN HBr.out _⟩⟩
      · by_cases hdry : (n : Int) - t < nth l i
        · have cc : can (nth l i) n t = false := by unfold can; rw [decide_eq_false (p := nth l i ≤ (n : Int) - t) (by omega)]; simp
          go_wp2_with (first
            | (go_at_call 23; (with_reducible refine (can_any _ (nth l i) HTr.out).mono ?_); rintro e w3 ⟨rfl, n1, rfl⟩; rw [cc])
            | (go_at_call 24; (with_reducible refine (draw_dry _ (nth l i) (HTr.out.drewN _) (by omega) hdry).mono ?_); rintro e w3 ⟨rfl, n3, rfl⟩)
            | (go_at_call 25; (with_reducible refine (place_any _ (HTr.out.drewN _)).mono ?_); rintro e w3 ⟨rfl, rfl⟩)
            | (go_at_call 26; (with_reducible refine (left_any _ (HTr.out.drewN _)).mono ?_); rintro e w3 ⟨rfl, n2, rfl⟩))
          go_roundg (m - (i + 1))
          case measure => have := HK.out; omega
          case rel => exact ⟨i + 1, t, by omega, by go_num, rfl, ⟨HTr.out.drewN _⟩, ⟨below_drewN HBr.out _⟩⟩
        · obtain ⟨k, hk⟩ : ∃ k : Nat, nth l i = k := ⟨(nth l i).toNat, by omega⟩
          rw [hk] at hx0
          have cc : can (k : Int) n t = true := by unfold can; rw [decide_eq_true (p := (k : Int) ≤ (n : Int) - t) (by omega), decide_eq_true (by omega)]; rfl
          have dk0 : decide ((k : Int) < 0) = false := decide_eq_false (by omega)
          have dk1 : decide ((n : Int) - t < (k : Int)) = false := decide_eq_false (by omega)
          have HD := As.mk (show t + k ≤ n by omega)
          have HM := As.mk (show k ≤ 140737488351232 by omega)
          have HC := As.mk (show t + k ≤ 140737488351232 ∧ t + k ≤ c by have := H0.out.le; omega)
          have HKK := As.mk hk
          have HZ := As.mk hsz
          clear hk hneg hdry hsz
          obtain ⟨hi, hhi, hs', hs⟩ := sum_named t k HC.out.1
          have hsl := run_cut_named (P := Try.prog) 22 5 Try.underlying22 CloneB.info A n c t hi k .i64 .i64 hhi (hhi ▸ HC.out.2)
          have HR := As.mk (H0.out.cutn t hi k hhi (hhi ▸ HD.out))
          have HI := As.mk hhi
          have hle : hi ≤ n := hhi ▸ HD.out
          clear hhi
          go_wp2_with (first
            | (go_at_call 23; (with_reducible refine (can_any _ (k : Int) HTr.out).mono ?_); rintro e w3 ⟨rfl, n1, rfl⟩; rw [cc])
            | (go_at_call 24; (with_reducible refine (draw_ok _ k (HTr.out.drewN _) HD.out).mono ?_); rintro e w3 ⟨A2, c2, rfl, hg, ht2, ho⟩; obtain ⟨A3, c3, e3, hr⟩ := own_rd ho; cases e3; have HR3 := As.mk hr; have HG := As.mk hg; rw [← HI.out] at ht2; have HT3 := As.mk ht2; have HB3 := As.mk (below_some (below_drewN HBr.out _) hg HZ.out HP.out); clear hg ht2 ho hr)
            | (go_at_call 18; (with_reducible refine (RefSame.same_any _ _ _ _ k k _ _ _ true HM.out (by simp) HR3.out (HR.out.below HB3.out)).mono ?_); rintro e w4 ⟨rfl, n4, rfl⟩)
            | (go_at_call 25; (with_reducible refine (place_any _ (HT3.out.drewN _)).mono ?_); rintro e w5 ⟨rfl, rfl⟩)
            | (go_at_call 26; (with_reducible refine (left_any _ (HT3.out.drewN _)).mono ?_); rintro e w6 ⟨rfl, n6, rfl⟩))
          clear hs hs' hsl
          go_roundg (m - (i + 1))
          case measure => have := HK.out; omega
          case rel => exact ⟨i + 1, hi, by have := HK.out; omega, by go_num, rfl, ⟨HT3.out.drewN _⟩, ⟨below_drewN HB3.out _⟩⟩
    · have c0 : decide ((i : Int) < (m : Int)) = false := decide_eq_false (by omega)
      have c1 : decide (i < m) = false := decide_eq_false hlt
      go_wp2
      go_ret
      exact ⟨rfl, below_step HB1.out HBr.out⟩

/-- the walk, as the row wants it -/
theorem walk (a0 : Option Addr) (len0 cap0 : Nat) (x0 : List Int) (a1 : Option Addr) (len1 cap1 : Nat) (x1 : List Int) (w : World) (f0 : Rd .u8 w a0 len0 cap0 x0) (_ : ∀ n ∈ x0, (Lit.int .u8 n).wf = true) (_ : len0 * 1 ≤ 140737488351232)
    (f1 : Rd .i64 w a1 len1 cap1 x1) (_ : ∀ n ∈ x1, (Lit.int .i64 n).wf = true) (_ : len1 * 8 ≤ 140737488351232) :
    Calls Try.prog 5 #[.slice a0 len0 cap0, .slice a1 len1 cap1] w fun e w' => e = .returned (.bool true) ∧ Below w.heap.size w w' := by
  by_cases h : 300 < len0 ∨ 60 < len1
  · exact far_one a0 a1 len0 len1 cap0 cap1 w h
  · exact near x0 x1 a0 a1 len0 len1 cap0 cap1 w (by omega) (by omega) f0 f1

end Go.Proofs.Ytpijkibhjklkoaa.TapeDraws
