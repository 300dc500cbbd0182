/- SameLess: the law's own walk over the contracts of its callees. -/
import Derived.Test.YtpijkibhjklkoaaSameLessPure
import Derived.Outline
namespace Go.Proofs.Ytpijkibhjklkoaa.SameLessWalk
open Go.RowKit Go.Proofs.Ytpijkibhjklkoaa.PSameLess Go.Proofs.YtpijkibhjklkoaaW.PrintWords Go.Proofs.YtpijkibhjklkoaaW.PrintLast Go.Proofs.YtpijkibhjklkoaaW.PrintMore
open Go.Proofs.Ytpijkibhjklkoaa.LessPure

theorem awake_true (w : World) : Calls Try.prog 15 #[] w fun e w' => e = .returned (.bool true) ∧ Below w.heap.size w w' :=
  chatelainelaw07_awake.calls 10 true w awake_spec

/-- a slice of bytes that came in -/
def Rd (w : World) (A : Option Addr) (c : Nat) (x : List Int) : Prop := Kd.C (Kd.int .u8) w A x.length x ∧ x.length ≤ c

theorem less_like (x y : List Int) (A B : Option Addr) (c d : Nat) (w : World) (l : Bool) (hx : Byte x) (hy : Byte y) (hl : x.length = y.length) (hm : x.length ≤ 140737488351232) (hl0 : l = true ↔ L x y 0) (h0 : Rd w A c x) (h1 : Rd w B d y) :
    Calls Try.prog 16 #[.slice A x.length c, .slice B y.length d] w fun e w' => e = .returned (.tuple #[.bool l, .int .i64 0]) ∧ ∃ n, w' = w.drewN n := by
  obtain ⟨r, hr, hr2⟩ := less_spec x y hx hy hl hm (x.length + 1) (by omega)
  have : r = l := by rw [Bool.eq_iff_iff, hr2, hl0]
  subst this
  refine (same_Less.calls (x.length + 1) A c x B d y r 0 w h0.1 h0.2 h1.1 h1.2 hr).mono ?_
  rintro e w' ⟨rfl, ⟨n, rfl⟩⟩
  exact ⟨rfl, n, rfl⟩
theorem less_unl (x y : List Int) (A B : Option Addr) (c d : Nat) (w : World) (hl : x.length ≠ y.length) (h0 : Rd w A c x) (h1 : Rd w B d y) :
    Calls Try.prog 16 #[.slice A x.length c, .slice B y.length d] w fun e w' => e = .returned (.tuple #[.bool false, .int .i64 2]) ∧ ∃ n, w' = w.drewN n := by
  refine (same_Less.calls 0 A c x B d y false 2 w h0.1 h0.2 h1.1 h1.2 (less_unlike x y hl 0)).mono ?_
  rintro e w' ⟨rfl, ⟨n, rfl⟩⟩
  exact ⟨rfl, n, rfl⟩
theorem bytes_any (x y : List Int) (A B : Option Addr) (c d : Nat) (w : World) (q : Bool) (hx : Byte x) (hy : Byte y) (hm : x.length ≤ 140737488351232) (hq : q = true ↔ x = y) (h0 : Rd w A c x) (h1 : Rd w B d y) :
    Calls Try.prog 17 #[.slice A x.length c, .slice B y.length d] w fun e w' => e = .returned (.bool q) ∧ ∃ n, w' = w.drewN n := by
  have : same_Bytes.f (x.length + 1) x y = some q := by
    rw [bytes_spec x y hx hy hm _ (by omega)]
    congr 1
    rw [Bool.eq_iff_iff, hq, decide_eq_true_iff]
  refine (same_Bytes.calls (x.length + 1) A c x B d y q w h0.1 h0.2 h1.1 h1.2 this).mono ?_
  rintro e w' ⟨rfl, ⟨n, rfl⟩⟩
  exact ⟨rfl, n, rfl⟩

theorem Rd.below {w w' : World} {A : Option Addr} {c : Nat} {x : List Int} (h : Rd w A c x) (hb : Below w.heap.size w w') : Rd w' A c x := ⟨Kd.C_below h.1 hb, h.2⟩
theorem Rd.at {w : World} {A : Option Addr} {c : Nat} {x : List Int} (h : Rd w A c x) (i : Nat) (hi : i < x.length) : ∃ ad, A = some ad ∧ w.cell? (ad.add i) = some (.int .u8 (rd x i)) := by
  obtain ⟨ad, e, hx⟩ := Kd.at_int h.1 (i : Int) (by omega) (by omega)
  rw [Int.toNat_natCast] at hx
  exact ⟨ad, e, hx⟩
theorem Rd.drewN {w : World} {A : Option Addr} {c : Nat} {x : List Int} (h : Rd w A c x) (n : Nat) : Rd (w.drewN n) A c x := ⟨Kd.C_drewN h.1 n, h.2⟩

set_option maxHeartbeats 400000 in
set_option maxRecDepth 100000 in
theorem far_one (x y : List Int) (A B : Option Addr) (c d : Nat) (w : World) (hm : x.length ≤ 140737488351232) (hm' : y.length ≤ 140737488351232) (h : 300 < x.length ∨ 300 < y.length) :
    Calls Try.prog 3 #[.slice A x.length c, .slice B y.length d] w fun e w' => e = .returned (.bool true) ∧ Below w.heap.size w w' := by
  by_cases h3 : 300 < x.length
  · have d3 : decide (300 < (x.length : Int)) = true := decide_eq_true (by omega)
    have d3' : decide (300 < x.length) = true := decide_eq_true (by omega)
    clear h
    go_enter Try.func3, Try.ntmps3
    go_wp2_with (go_at_call 15; refine (awake_true _).mono ?_; rintro e w1 ⟨rfl, hb⟩)
    go_ret
    exact ⟨rfl, hb⟩
  · have d3 : decide (300 < (x.length : Int)) = false := decide_eq_false (by omega)
    have d3' : decide (300 < x.length) = false := decide_eq_false (by omega)
    have d4 : decide (300 < (y.length : Int)) = true := decide_eq_true (by omega)
    have d4' : decide (300 < y.length) = true := decide_eq_true (by omega)
    clear h
    go_enter Try.func3, Try.ntmps3
    go_wp2_with (go_at_call 15; refine (awake_true _).mono ?_; rintro e w1 ⟨rfl, hb⟩)
    go_ret
    exact ⟨rfl, hb⟩

set_option maxHeartbeats 400000 in
set_option maxRecDepth 100000 in
theorem unlike_one (x y : List Int) (A B : Option Addr) (c d : Nat) (w : World) (h3 : x.length ≤ 300) (h4 : y.length ≤ 300) (hl : x.length ≠ y.length) (h0 : Rd w A c x) (h1 : Rd w B d y) :
    Calls Try.prog 3 #[.slice A x.length c, .slice B y.length d] w fun e w' => e = .returned (.bool true) ∧ Below w.heap.size w w' := by
  have c3b0 : ((x.length : Int) == (y.length : Int)) = false := beq_eq_false_iff_ne.mpr (by omega)
  have c3b1 : ((x.length : Int) != (y.length : Int)) = true := bne_iff_ne.mpr (by omega)
  have c3b2 : (x.length == y.length) = false := beq_eq_false_iff_ne.mpr (by omega)
  have HL : Hid (x.length ≠ y.length) := hl
  clear hl
  go_enter Try.func3, Try.ntmps3
  go_wp2_with (first
    | (go_at_call 15; refine (awake_true _).mono ?_; rintro e w1 ⟨rfl, hb⟩; have H0 := Aside0.mk (h0.below hb); have H1 := Aside0.mk (h1.below hb); clear h0 h1)
    | (go_at_call 16; (with_reducible refine (less_unl x y A B c d _ HL.out H0.out H1.out).mono ?_); rintro e w2 ⟨rfl, n1, rfl⟩)
    | (go_at_call 16; (with_reducible refine (less_unl y x B A d c _ HL.out.symm (H1.out.drewN _) (H0.out.drewN _)).mono ?_); rintro e w2 ⟨rfl, n2, rfl⟩))
  go_ret
  exact ⟨rfl, pw_below_drewN hb _⟩

/-- the loop's word: all before i are the same -/
def Pre (x y : List Int) (i : Nat) : Prop := ∀ j : Nat, j < i → rd x j = rd y j

set_option maxHeartbeats 800000 in
set_option maxRecDepth 100000 in
theorem like_one (x y : List Int) (A B : Option Addr) (c d : Nat) (w : World) (l m q : Bool) (h3 : x.length ≤ 300) (hl : x.length = y.length) (hx : Byte x) (hy : Byte y)
    (hL : l = true ↔ L x y 0) (hM : m = true ↔ L y x 0) (hq : q = true ↔ x = y) (h0 : Rd w A c x) (h1 : Rd w B d y) :
    Calls Try.prog 3 #[.slice A x.length c, .slice B y.length d] w fun e w' => e = .returned (.bool true) ∧ Below w.heap.size w w' := by
  have HT := Aside0.mk (told x y hl l m hL hM)
  have hyl : y.length ≤ 300 := by omega
  have c3b0 : ((x.length : Int) == (y.length : Int)) = true := beq_iff_eq.mpr (by omega)
  have c3b1 : ((x.length : Int) != (y.length : Int)) = false := bne_eq_false_iff_eq.mpr (by omega)
  have c3b2 : (x.length == y.length) = true := beq_iff_eq.mpr (by omega)
  have HE := Aside0.mk hl
  have HLL := Aside0.mk hL
  have HMM := Aside0.mk hM
  have HQ := Aside0.mk hq
  have HX := Aside0.mk hx
  have HY := Aside0.mk hy
  clear hl hL hM hq hx hy
  go_enter Try.func3, Try.ntmps3
  go_wp2_with (first
    | (go_at_call 15; refine (awake_true _).mono ?_; rintro e w1 ⟨rfl, hb⟩; have H0 := Aside0.mk (h0.below hb); have H1 := Aside0.mk (h1.below hb); clear h0 h1)
    | (go_at_call 16; (with_reducible refine (less_like x y A B c d _ l HX.out HY.out HE.out (by omega) HLL.out H0.out H1.out).mono ?_); rintro e w2 ⟨rfl, n1, rfl⟩)
    | (go_at_call 16; (with_reducible refine (less_like y x B A d c _ m HY.out HX.out HE.out.symm (by omega) HMM.out (H1.out.drewN _) (H0.out.drewN _)).mono ?_); rintro e w2 ⟨rfl, n2, rfl⟩))
  go_loopg [9, 54] (x.length) (fun kq v9 v54 w' => ∃ i : Nat, i + kq = x.length ∧ v9 = .bool false ∧ v54 = .int .i64 i ∧ Aside0 (Pre x y i) ∧ ∃ n, w' = w1.drewN n)
  case atStart => exact ⟨0, by omega, rfl, rfl, ⟨fun j hj => by omega⟩, _, rfl⟩
  case round =>
    obtain ⟨i, hi, rfl, rfl, HP, n, rfl⟩ := hrel
    have R0 := Aside0.mk (H0.out.drewN n)
    have R1 := Aside0.mk (H1.out.drewN n)
    have HK := Aside0.mk hi
    clear hi
    by_cases hlt : i < x.length
    · have b0 : decide ((i : Int) < (x.length : Int)) = true := decide_eq_true (by omega)
      have b1 : decide (i < x.length) = true := decide_eq_true hlt
      have b2 : decide ((i : Int) < (y.length : Int)) = true := decide_eq_true (by have := HE.out; omega)
      have b3 : decide (0 ≤ (i : Int)) = true := decide_eq_true (by omega)
      obtain ⟨ad0, e0, hx0⟩ := H0.out.at i hlt
      cases e0
      obtain ⟨ad1, e1, hx1⟩ := H1.out.at i (by have := HE.out; omega)
      cases e1
      have hw : wrap64 ((i : Int) + 1) = ((i + 1 : Nat) : Int) := wrap_up (by omega)
      have hle : i < y.length := by have := HE.out; omega
      by_cases e : rd x i = rd y i
      · have q0 : (rd x (i : Int) == rd y (i : Int)) = true := beq_iff_eq.mpr e
        have q1 : (rd x (i : Int) != rd y (i : Int)) = false := bne_eq_false_iff_eq.mpr e
        have E := Aside0.mk e
        clear e
        go_wp2
        go_quiet (fail)
        go_wp2
        go_roundg (x.length - (i + 1))
        case measure => have := HK.out; omega
        case rel => exact ⟨i + 1, by omega, rfl, by go_num, ⟨fun j hj => by
          by_cases e : j = i
          · subst e; exact E.out
          · exact HP.out j (by omega)⟩, _, rfl⟩
      · have q0 : (rd x (i : Int) == rd y (i : Int)) = false := beq_eq_false_iff_ne.mpr e
        have q1 : (rd x (i : Int) != rd y (i : Int)) = true := bne_iff_ne.mpr e
        have HW : Hid (decide (rd x (i : Int) < rd y (i : Int)) = l) := by
          show _ = _
          rw [Bool.eq_iff_iff, decide_eq_true_iff, HLL.out, L_prefix x y i HP.out, L_ne x y i hlt e]
        have F := Aside0.mk e
        clear e
        rcases HT.out with ⟨hE, rfl, rfl⟩ | ⟨hE, rfl, rfl⟩ | ⟨hE, rfl, rfl⟩
        · exact absurd (by rw [hE]) F.out
        all_goals
          obtain rfl : q = false := by
            cases q
            · rfl
            · exact absurd (HQ.out.mp rfl) hE
          have W0 : decide (rd x (i : Int) < rd y (i : Int)) = _ := HW
          clear HW hE
          go_wp2
          go_quiet (fail)
          go_wp2
          go_quiet (fail)
          go_wp2_with (go_at_call 17; (with_reducible refine (bytes_any x y _ _ c d _ false HX.out HY.out (by omega) HQ.out (H0.out.drewN _) (H1.out.drewN _)).mono ?_); rintro e w2 ⟨rfl, n2, rfl⟩)
          go_ret
          exact ⟨by first | rfl | simp, pw_below_drewN hb _⟩
    · have b0 : decide ((i : Int) < (x.length : Int)) = false := decide_eq_false (by omega)
      have b1 : decide (i < x.length) = false := decide_eq_false hlt
      have HXY : x = y := eq_of_rd HE.out fun j hj => HP.out j (by omega)
      rcases HT.out with ⟨hE, rfl, rfl⟩ | ⟨hE, rfl, rfl⟩ | ⟨hE, rfl, rfl⟩
      · obtain rfl : q = true := HQ.out.mpr hE
        clear HXY hE
        go_wp2_with (go_at_call 17; (with_reducible refine (bytes_any x y _ _ c d _ true HX.out HY.out (by omega) HQ.out (H0.out.drewN _) (H1.out.drewN _)).mono ?_); rintro e w2 ⟨rfl, n2, rfl⟩)
        go_ret
        exact ⟨by first | rfl | simp, pw_below_drewN hb _⟩
      · exact absurd HXY hE
      · exact absurd HXY hE

theorem law_any (x y : List Int) (A B : Option Addr) (c d : Nat) (w : World) (hm : x.length ≤ 140737488351232) (hm' : y.length ≤ 140737488351232) (hx : Byte x) (hy : Byte y) (h0 : Rd w A c x) (h1 : Rd w B d y) :
    Calls Try.prog 3 #[.slice A x.length c, .slice B y.length d] w fun e w' => e = .returned (.bool true) ∧ Below w.heap.size w w' := by
  by_cases h : 300 < x.length ∨ 300 < y.length
  · exact far_one x y A B c d w hm hm' h
  · by_cases hl : x.length = y.length
    · obtain ⟨l, _, hl0⟩ := less_spec x y hx hy hl hm (x.length + 1) (by omega)
      obtain ⟨m, _, hm0⟩ := less_spec y x hy hx hl.symm hm' (y.length + 1) (by omega)
      exact like_one x y A B c d w l m (decide (x = y)) (by omega) hl hx hy hl0 hm0 decide_eq_true_iff h0 h1
    · exact unlike_one x y A B c d w (by omega) (by omega) hl h0 h1

/-- the walk, as the row wants it -/
theorem walk (a0 : Option Addr) (len0 cap0 : Nat) (z0 : List Int) (a1 : Option Addr) (len1 cap1 : Nat) (z1 : List Int) (w : World) (w0 : (a0 = none ∧ len0 = 0 ∧ cap0 = 0 ∧ z0 = []) ∨ ∃ x, a0 = some x ∧ len0 ≤ cap0 ∧ cap0 ≤ maxLen ∧ z0.length = cap0 ∧ (∀ i, i < z0.length → w.cell? (x.add i) = some (.int .u8 (z0.getD i 0))) ∧ ∀ n ∈ z0, (Lit.int .u8 n).wf = true) (y0 : len0 * 1 ≤ 140737488351232) (w1 : (a1 = none ∧ len1 = 0 ∧ cap1 = 0 ∧ z1 = []) ∨ ∃ x, a1 = some x ∧ len1 ≤ cap1 ∧ cap1 ≤ maxLen ∧ z1.length = cap1 ∧ (∀ i, i < z1.length → w.cell? (x.add i) = some (.int .u8 (z1.getD i 0))) ∧ ∀ n ∈ z1, (Lit.int .u8 n).wf = true) (y1 : len1 * 1 ≤ 140737488351232) :
    Calls Try.prog 3 #[.slice a0 len0 cap0, .slice a1 len1 cap1] w fun e w' => e = .returned (.bool true) ∧ Below w.heap.size w w' := by
  obtain ⟨l0, rfl, hr0, hm0, hw0, hc0⟩ := ReadsInt.ofRowC w0
  obtain ⟨l1, rfl, hr1, hm1, hw1, hc1⟩ := ReadsInt.ofRowC w1
  exact law_any l0 l1 a0 a1 cap0 cap1 w (by omega) (by omega) (byte_of hw0) (byte_of hw1) ⟨Kd.C_of_reads (d := (0 : Int)) (h1 := fun _ => rfl) hr0, hc0⟩ ⟨Kd.C_of_reads (d := (0 : Int)) (h1 := fun _ => rfl) hr1, hc1⟩

end Go.Proofs.Ytpijkibhjklkoaa.SameLessWalk
