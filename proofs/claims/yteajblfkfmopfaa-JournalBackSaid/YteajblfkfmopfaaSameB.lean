/- same.Bytes, same.Zero. -/
import Derived.Test.YteajblfkfmopfaaPut
import Derived.Test.YteajblfkfmopfaaRefSame
import Derived.Test.YteajblfkfmopfaaBits
namespace Go.Proofs.Yteajblfkfmopfaa.SameB
set_option linter.unusedVariables false
set_option linter.unusedSimpArgs false
open Go Go.RowKit Go.Proofs.Yteajblfkfmopfaa.Mem Go.Proofs.Yteajblfkfmopfaa.Put Go.Proofs.Yteajblfkfmopfaa.Bits Go.Proofs.Yteajblfkfmopfaa.Put32 Go.Proofs.Yteajblfkfmopfaa.Pad

theorem top_or (n : Nat) (h0 : 0 < n) (h : n < 256) : (n ||| (4294967296 - n)) / 2147483648 = 1 := by
  have h1 : 4294967296 - n ≤ n ||| (4294967296 - n) := Nat.right_le_or
  have h2 : n ||| (4294967296 - n) < 2 ^ 32 := Nat.or_lt_two_pow (by omega) (by omega)
  have h3 : (2 : Nat) ^ 32 = 4294967296 := rfl
  omega
def nb (n : Nat) : Int := if n = 0 then 1 else 0
set_option maxHeartbeats 400000 in
theorem none_any0 (n : Nat) (h : n < 256) (b : Int) (hb : b = if n = 0 then 1 else 0) (w : World) :
    Calls Try.prog 201 #[.int .u32 (n : Int)] w fun e w' => e = .returned (.int .u32 b) ∧ w = w' := by
  rcases Nat.eq_zero_or_pos n with rfl | h0
  · rw [if_pos rfl] at hb
    subst hb
    have k0 : IntKind.u32.wrap (-0) = 0 := by decide
    have k1 : bits .or .u32 0 0 = 0 := by decide
    have k2 : bits .xor .u32 0 1 = 1 := by decide
    go_enter Try.func201, Try.ntmps201
    go_wp2
    go_ret
    exact ⟨rfl, rfl⟩
  · rw [if_neg (by omega)] at hb
    subst hb
    obtain ⟨m, hm⟩ : ∃ m, m = 4294967296 - n := ⟨_, rfl⟩
    obtain ⟨o, ho⟩ : ∃ o, o = n ||| m := ⟨_, rfl⟩
    have ho1 : o / 2147483648 = 1 := by rw [ho, hm]; exact top_or n h0 h
    have k0 : IntKind.u32.wrap (-(n : Int)) = (m : Int) := by
      have : IntKind.u32.wrap (-(n : Int)) = (-(n : Int)) % 4294967296 := rfl
      rw [this]; omega
    have k1 : bits .or .u32 (n : Int) (m : Int) = (o : Int) := by
      rw [bits_or .u32 rfl n m (by show n < 4294967296; omega) (by show m < 4294967296; omega), ho]
    have k2 : (o : Int) / 2 ^ 31 = 1 := by
      have : (2 : Int) ^ 31 = 2147483648 := rfl
      omega
    have k2' : (o : Int) / 2147483648 = 1 := by omega
    have k3 : bits .xor .u32 1 1 = 0 := by decide
    have k4 : IntKind.u32.wrap 1 = 1 := by decide
    clear ho ho1 hm h h0
    go_enter Try.func201, Try.ntmps201
    go_wp2
    go_ret
    exact ⟨rfl, rfl⟩
theorem none_any (n : Nat) (h : n < 256) (w : World) : Calls Try.prog 201 #[.int .u32 (n : Int)] w fun e w' => e = .returned (.int .u32 (nb n)) ∧ w = w' := none_any0 n h (nb n) rfl w
set_option maxHeartbeats 1000000 in
set_option maxRecDepth 100000 in
theorem differs_any (x y : List Int) (hx : Byte x) (hy : Byte y) (A B : Option Addr) (n c d : Nat) (w : World) (h0 : Rd .u8 w A n c x) (h1 : Rd .u8 w B n d y) (hn : n ≤ 140737488351232) :
    Calls Try.prog 202 #[.slice A n c, .slice B n d] w fun e w' => ∃ o : Nat, e = .returned (.int .u32 (o : Int)) ∧ o < 256 ∧ (o = 0 ↔ x = y) ∧ ∃ nd, w' = w.drewN nd := by
  have HX := As.mk hx
  have HY := As.mk hy
  have HN := As.mk hn
  have HL := As.mk (show x.length = n from h0.len)
  have HL2 := As.mk (show y.length = n from h1.len)
  clear hx hy hn
  go_enter Try.func202, Try.ntmps202
  go_wp2
  go_loopg [5, 9] n (fun kq v5 v9 wr => ∃ i o : Nat, i + kq = n ∧ o < 256 ∧ As (o = 0 ↔ ∀ j, j < i → nth x j = nth y j) ∧ v5 = .int .u32 (o : Int) ∧ v9 = .int .i64 i ∧ ∃ nd, wr = w.drewN nd)
  case atStart => exact ⟨0, 0, by omega, by omega, ⟨⟨fun _ j hj => by omega, fun _ => rfl⟩⟩, rfl, rfl, 0, rfl⟩
  case round =>
    obtain ⟨i, o, hi, ho, HP, rfl, rfl, nd, rfl⟩ := hrel
    have HI := As.mk hi
    have HO := As.mk ho
    clear hi
    by_cases hlt : i < n
    · have e0 : decide ((i : Int) < (n : Int)) = true := decide_eq_true (by omega)
      have e1 : decide (i < n) = true := decide_eq_true hlt
      have Li : (i : Int) < (n : Int) := by omega
      have hw : wrap64 ((i : Int) + 1) = ((i + 1 : Nat) : Int) := wrap_up (by have := HN.out; omega)
      obtain ⟨ad0, e2, hx0⟩ := h0.at i hlt
      cases e2
      obtain ⟨ad1, e3, hx1⟩ := h1.at i hlt
      cases e3
      obtain ⟨a, ha, ea⟩ := HX.out.nat i
      obtain ⟨b, hb, eb⟩ := HY.out.nat i
      rw [ea] at hx0
      rw [eb] at hx1
      obtain ⟨q, hq⟩ : ∃ q, q = a ^^^ b := ⟨_, rfl⟩
      have hq2 : q < 2 ^ 8 := by rw [hq]; exact Nat.xor_lt_two_pow (by omega) (by omega)
      have hq3 : q < 256 := hq2
      obtain ⟨r, hr⟩ : ∃ r, r = o ||| q := ⟨_, rfl⟩
      have hr2 : r < 2 ^ 8 := by rw [hr]; exact Nat.or_lt_two_pow (by omega) hq2
      have x1 : bits .xor .u8 (a : Int) (b : Int) = (q : Int) := by rw [nu8_xor a b ha hb, hq]
      have x2 : IntKind.u32.wrap (q : Int) = (q : Int) := wrap_u .u32 rfl q (by show q < 4294967296; omega)
      have x3 : bits .or .u32 (o : Int) (q : Int) = (r : Int) := by rw [nu32_or o q (by omega) (by omega), hr]
      have HR2 := As.mk (show r < 256 from hr2)
      have HRZ : As (r = 0 ↔ (o = 0 ∧ a = b)) := ⟨by rw [hr, or_zero, hq, xor_zero]⟩
      have HAB : As (a = b ↔ nth x i = nth y i) := ⟨by rw [ea, eb]; omega⟩
      have HLT := As.mk hlt
      clear hq hq2 hq3 hr hr2 ha hb ea eb ho
      go_wp2
      go_quiet (fail)
      go_wp2
      go_roundg (n - (i + 1))
      case measure => have := HI.out; have := HLT.out; omega
      case rel =>
        refine ⟨i + 1, r, by have := HI.out; have := HLT.out; omega, HR2.out, ⟨?_⟩, rfl, by go_num, _, rfl⟩
        rw [HRZ.out, HP.out, HAB.out]
        constructor
        · rintro ⟨h2, h3⟩ j hj
          by_cases e : j = i
          · subst e; exact h3
          · exact h2 j (by omega)
        · exact fun h2 => ⟨fun j hj => h2 j (by omega), h2 i (by omega)⟩
    · have e0 : decide ((i : Int) < (n : Int)) = false := decide_eq_false (by omega)
      have e1 : decide (i < n) = false := decide_eq_false hlt
      obtain rfl : i = n := by have := HI.out; omega
      clear hlt ho
      go_wp2
      go_ret
      refine ⟨o, rfl, HO.out, ?_, _, rfl⟩
      rw [HP.out]
      constructor
      · exact fun h2 => eq_of_getD (by rw [HL.out, HL2.out]) fun j hj => h2 j (by rw [HL.out] at hj; exact hj)
      · rintro rfl j hj
        rfl
set_option maxHeartbeats 1000000 in
set_option maxRecDepth 100000 in
theorem bytes_any (x y : List Int) (hx : Byte x) (hy : Byte y) (A B : Option Addr) (n m c d : Nat) (w : World) (q : Bool) (hq : q = true ↔ x = y) (h0 : Rd .u8 w A n c x) (h1 : Rd .u8 w B m d y) (hn : n ≤ 140737488351232) :
    Calls Try.prog 156 #[.slice A n c, .slice B m d] w fun e w' => e = .returned (.bool q) ∧ ∃ nd, w' = w.drewN nd := by
  by_cases hl : n = m
  · subst hl
    have HX := As.mk hx
    have HY := As.mk hy
    have HN := As.mk hn
    have H0 := As.mk h0
    have H1 := As.mk h1
    have HQ := As.mk hq
    clear hx hy hn h0 h1 hq
    go_enter Try.func156, Try.ntmps156
    go_wp2_with (first
      | (go_at_call 202; (with_reducible refine (differs_any x y HX.out HY.out A B n c d w H0.out H1.out HN.out).mono ?_); rintro e w1 ⟨o, rfl, ho, hz, nd, rfl⟩; have HO := As.mk ho; have HZ := As.mk hz; clear ho hz)
      | (go_at_call 201; (with_reducible refine (none_any o HO.out _).mono ?_); rintro e w1 ⟨rfl, rfl⟩; refine As.out ?_))
    refine As.mk ?_
    by_cases h : o = 0
    · have hh : nb o = 1 := if_pos h
      have hf : q = true := HQ.out.2 (HZ.out.1 h)
      subst hf
      rw [hh]
      clear hh h
      go_wp2
      go_ret
      exact ⟨rfl, nd, rfl⟩
    · have hh : nb o = 0 := if_neg h
      have hf : q = false := by
        cases q
        · rfl
        · exact absurd (HZ.out.2 (HQ.out.1 rfl)) h
      subst hf
      rw [hh]
      clear hh h
      go_wp2
      go_ret
      exact ⟨rfl, nd, rfl⟩
  · have b0 : ((n : Int) == (m : Int)) = false := beq_eq_false_iff_ne.mpr (by omega)
    have b2 : (n == m) = false := beq_eq_false_iff_ne.mpr (by omega)
    have hf : q = false := by
      cases q
      · rfl
      · exact absurd (by rw [← h0.len, ← h1.len, hq.mp rfl]) hl
    clear hl hq
    subst hf
    go_enter Try.func156, Try.ntmps156
    go_wp2
    go_ret
    exact ⟨rfl, 0, rfl⟩
end Go.Proofs.Yteajblfkfmopfaa.SameB
