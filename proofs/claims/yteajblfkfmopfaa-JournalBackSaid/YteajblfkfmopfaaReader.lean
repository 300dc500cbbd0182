/- Bytes as numbers. word.Get, chatelaineref01.Get. chatelaineref01.Get. word.Cut; field.Reader. -/
import Derived.Test.YteajblfkfmopfaaSlotP
import Derived.Test.YteajblfkfmopfaaField
import Derived.Deep.RegionHeld2
namespace Go.Proofs.Yteajblfkfmopfaa.Val
set_option linter.unusedVariables false
set_option linter.unusedSimpArgs false
open Go Go.RowKit Go.Proofs.Yteajblfkfmopfaa.Mem Go.Proofs.Yteajblfkfmopfaa.Put Go.Proofs.Yteajblfkfmopfaa.Geo Go.Proofs.Yteajblfkfmopfaa.RefPutN

/-- the number of bytes, the highest first -/
def valB (l : List Int) : Nat := l.foldl (fun a c => a * 256 + c.toNat) 0
theorem valB_snoc (l : List Int) (c : Int) : valB (l ++ [c]) = valB l * 256 + c.toNat := by
  unfold valB
  rw [List.foldl_append]
  rfl
theorem valB_take (l : List Int) (i : Nat) (h : i < l.length) : valB (l.take (i + 1)) = valB (l.take i) * 256 + (nth l i).toNat := by
  rw [List.take_succ_eq_append_getElem h, valB_snoc, nth_getD, List.getD_eq_getElem?_getD, List.getElem?_eq_getElem h]
  rfl
theorem valB_lt (l : List Int) (hb : Byte l) : ∀ i, i ≤ l.length → valB (l.take i) < 256 ^ i
  | 0, _ => by simp [valB]
  | i + 1, h => by
    have ih := valB_lt l hb i (by omega)
    rw [valB_take l i (by omega), Nat.pow_succ]
    have := hb.at i
    have h2 : (nth l i).toNat < 256 := by omega
    have h3 : (valB (l.take i) + 1) * 256 ≤ 256 ^ i * 256 := Nat.mul_le_mul_right 256 ih
    rw [Nat.add_mul] at h3
    omega
theorem valB_all (l : List Int) (hb : Byte l) : valB l < 256 ^ l.length := by
  have h := valB_lt l hb l.length (Nat.le_refl _)
  rwa [List.take_length] at h
theorem pow_le8 {n : Nat} (h : n ≤ 8) : 256 ^ n ≤ 18446744073709551616 := by
  have := Nat.pow_le_pow_right (show 0 < 256 by decide) h
  exact Nat.le_trans this (by decide)
theorem valB_mono (l : List Int) (i : Nat) (h : i ≤ l.length) : valB (l.take i) ≤ valB l := by
  obtain ⟨d, hd⟩ : ∃ d, d = l.length - i := ⟨_, rfl⟩
  induction d generalizing i with
  | zero => rw [List.take_of_length_le (by omega)]; exact Nat.le_refl _
  | succ d ih =>
    have h1 := ih (i + 1) (by omega) (by omega)
    rw [valB_take l i (by omega)] at h1
    omega
/-- put and read back -/
theorem valB_beB (size n : Nat) (h : n < 256 ^ size) : valB (beB size n) = n := by
  have key : ∀ i, i ≤ size → valB ((beB size n).take i) = n / 256 ^ (size - i) := by
    intro i
    induction i with
    | zero => intro _; rw [Nat.sub_zero, Nat.div_eq_of_lt h]; rfl
    | succ i ih =>
      intro hi
      rw [valB_take _ i (by rw [beB_len]; omega), ih (by omega), beB_nth _ _ _ (by omega), Int.toNat_natCast, show size - 1 - i = size - (i + 1) by omega, show size - i = size - (i + 1) + 1 by omega, Nat.pow_succ, ← Nat.div_div_eq_div_mul]
      have := Nat.div_add_mod (n / 256 ^ (size - (i + 1))) 256
      omega
  have h1 := key size (Nat.le_refl _)
  rw [List.take_of_length_le (by rw [beB_len]; exact Nat.le_refl _), Nat.sub_self, Nat.pow_zero, Nat.div_one] at h1
  exact h1
theorem or_byte (a c : Nat) (hc : c < 256) : a * 256 ||| c = a * 256 + c := by
  have h := Nat.shiftLeft_add_eq_or_of_lt (show c < 2 ^ 8 by omega) a
  rw [Nat.shiftLeft_eq] at h
  exact h.symm
end Go.Proofs.Yteajblfkfmopfaa.Val
namespace Go.Proofs.Yteajblfkfmopfaa.Val
set_option linter.unusedVariables false
set_option linter.unusedSimpArgs false
open Go Go.RowKit Go.Proofs.Yteajblfkfmopfaa.Mem Go.Proofs.Yteajblfkfmopfaa.Put Go.Proofs.Yteajblfkfmopfaa.Geo Go.Proofs.Yteajblfkfmopfaa.RefPutN

/-- what is read, and what went wrong -/
def getV (l : List Int) : Int := if l.length = 0 ∨ 8 < l.length ∨ 4611686018427387904 < valB l then 0 else valB l
def getE (l : List Int) : Int := if l.length = 0 then 10 else if 8 < l.length then 13 else if 4611686018427387904 < valB l then 11 else 0
set_option maxHeartbeats 1000000 in
set_option maxRecDepth 100000 in
theorem get_any (x : List Int) (hx : Byte x) (A : Option Addr) (n c : Nat) (w : World) (h0 : Rd .u8 w A n c x) :
    Calls Try.prog 206 #[.slice A n c] w fun e w' => e = .returned (.tuple #[.int .i64 (getV x), .int .i64 (getE x)]) ∧ w = w' := by
  have H0 := As.mk h0
  have HX := As.mk hx
  have hl := h0.len
  by_cases z0 : n = 0
  · subst z0
    have HR := As.mk (show getV x = 0 ∧ getE x = 10 by unfold getV getE; simp [hl])
    clear h0 hx hl
    go_enter Try.func206, Try.ntmps206
    go_wp2
    go_ret2
    exact ⟨by rw [HR.out.1, HR.out.2]; rfl, rfl⟩
  · have e0 : ((n : Int) == 0) = false := beq_eq_false_iff_ne.2 (by omega)
    have e0' : (n == 0) = false := beq_eq_false_iff_ne.2 z0
    by_cases z8 : 8 < n
    · have e1 : decide (8 < (n : Int)) = true := decide_eq_true (by omega)
      have e1' : decide (8 < n) = true := decide_eq_true z8
      have HR := As.mk (show getV x = 0 ∧ getE x = 13 by unfold getV getE; rw [hl, if_neg z0, if_pos z8, if_pos (.inr (.inl z8))]; exact ⟨rfl, rfl⟩)
      clear h0 hx hl
      go_enter Try.func206, Try.ntmps206
      go_wp2
      go_ret2
      exact ⟨by rw [HR.out.1, HR.out.2]; rfl, rfl⟩
    · have e1 : decide (8 < (n : Int)) = false := decide_eq_false (by omega)
      have e1' : decide (8 < n) = false := decide_eq_false z8
      have HN := As.mk (show n ≤ 8 by omega)
      have HL := As.mk hl
      obtain ⟨v, hv⟩ : ∃ v, valB x = v := ⟨_, rfl⟩
      have HV := As.mk hv
      have HRV := As.mk (show getV x = (if 4611686018427387904 < v then 0 else (v : Int)) ∧ getE x = (if 4611686018427387904 < v then 11 else 0) by
        unfold getV getE
        rw [hl, hv, if_neg z0, if_neg z8]
        refine ⟨?_, rfl⟩
        by_cases h : 4611686018427387904 < v
        · rw [if_pos (.inr (.inr h)), if_pos h]
        · rw [if_neg (by rintro (h1 | h1 | h1) <;> omega), if_neg h])
      clear h0 hx hl hv
      go_enter Try.func206, Try.ntmps206
      go_wp2
      go_loopg [4, 17] n (fun kq v4 v17 wr => ∃ i m : Nat, i + kq = n ∧ m = valB (x.take i) ∧ v4 = .int .u64 (m : Int) ∧ v17 = .int .i64 i ∧ wr = w)
      case atStart => exact ⟨0, 0, by omega, rfl, rfl, rfl, rfl⟩
      case round =>
        obtain ⟨i, m, hi, hm, rfl, rfl, rfl⟩ := hrel
        have HI := As.mk hi
        have HM := As.mk hm
        clear hi hm
        by_cases hlt : i < n
        · have d0 : decide ((i : Int) < (n : Int)) = true := decide_eq_true (by omega)
          have d1 : decide (i < n) = true := decide_eq_true hlt
          have hw : wrap64 ((i : Int) + 1) = ((i + 1 : Nat) : Int) := wrap_up (by have := HN.out; omega)
          obtain ⟨ad, hA, hcell⟩ := H0.out.at i hlt
          subst hA
          obtain ⟨b, hb2, hb⟩ := HX.out.nat i
          rw [hb] at hcell
          have HLT := As.mk hlt
          have hm8 : m < 256 ^ i := by rw [HM.out]; exact valB_lt x HX.out i (by have := HL.out; omega)
          have hm7 : m * 256 < 18446744073709551616 := by
            have h1 := pow_le8 (n := i + 1) (by have := HN.out; omega)
            rw [Nat.pow_succ] at h1
            omega
          obtain ⟨m2, h2⟩ : ∃ m2, m2 = m * 256 := ⟨_, rfl⟩
          obtain ⟨m3, h3⟩ : ∃ m3, m3 = m2 + b := ⟨_, rfl⟩
          have k1 : IntKind.u64.wrap ((m : Int) * 2 ^ 8) = (m2 : Int) := by
            rw [show (m : Int) * 2 ^ 8 = (m2 : Int) by rw [h2]; omega]
            exact Go.Proofs.Yteajblfkfmopfaa.Bits.wrap_u .u64 rfl m2 (by show m2 < 18446744073709551616; omega)
          have k1' : IntKind.u64.wrap ((m : Int) * 256) = (m2 : Int) := by
            rw [show (m : Int) * 256 = (m2 : Int) by rw [h2]; omega]
            exact Go.Proofs.Yteajblfkfmopfaa.Bits.wrap_u .u64 rfl m2 (by show m2 < 18446744073709551616; omega)
          have k2 : IntKind.u64.wrap (b : Int) = (b : Int) := Go.Proofs.Yteajblfkfmopfaa.Bits.wrap_u .u64 rfl b (by show b < 18446744073709551616; omega)
          have k3 : bits .or .u64 (m2 : Int) (b : Int) = (m3 : Int) := by
            rw [Go.Proofs.Yteajblfkfmopfaa.Bits.bits_or .u64 rfl m2 b (by show m2 < 18446744073709551616; omega) (by show b < 18446744073709551616; omega), h2, or_byte m b hb2, h3, h2]
          have HM3 := As.mk (show m3 = m * 256 + b by omega)
          have HBT := As.mk hb
          clear hm8 hm7 h2 h3 hb
          go_wp2
          go_roundg (n - (i + 1))
          case measure => have := HI.out; have := HLT.out; omega
          case rel =>
            refine ⟨i + 1, m3, by have := HI.out; have := HLT.out; omega, ?_, rfl, by go_num, rfl⟩
            rw [valB_take x i (by have := HL.out; have := HLT.out; omega), ← HM.out, HBT.out, HM3.out]
            rfl
        · have d0 : decide ((i : Int) < (n : Int)) = false := decide_eq_false (by omega)
          have d1 : decide (i < n) = false := decide_eq_false hlt
          obtain rfl : i = n := by have := HI.out; omega
          obtain rfl : m = v := by rw [HM.out, List.take_of_length_le (by have := HL.out; omega), HV.out]
          have hv8 : m < 18446744073709551616 := by
            have := valB_all x HX.out
            rw [HV.out, HL.out] at this
            exact Nat.lt_of_lt_of_le this (pow_le8 HN.out)
          by_cases ht : 4611686018427387904 < m
          · have t0 : decide (4611686018427387904 < (m : Int)) = true := decide_eq_true (by omega)
            have t1 : decide (4611686018427387904 < m) = true := decide_eq_true ht
            have HR := HRV.out
            rw [if_pos ht, if_pos ht] at HR
            have HRR := As.mk HR
            clear HR HRV ht hlt
            go_wp2
            go_ret2
            exact ⟨by rw [HRR.out.1, HRR.out.2]; rfl, rfl⟩
          · have t0 : decide (4611686018427387904 < (m : Int)) = false := decide_eq_false (by omega)
            have t1 : decide (4611686018427387904 < m) = false := decide_eq_false ht
            have HR := HRV.out
            rw [if_neg ht, if_neg ht] at HR
            have HRR := As.mk HR
            have k4 : IntKind.i64.wrap (m : Int) = (m : Int) := by rw [IntKind.wrap_i64]; omega
            have k5 : wrap64 (m : Int) = (m : Int) := by unfold wrap64; omega
            clear HR HRV ht hlt
            go_wp2
            go_ret2
            exact ⟨by rw [HRR.out.1, HRR.out.2]; rfl, rfl⟩
end Go.Proofs.Yteajblfkfmopfaa.Val
namespace Go.Proofs.Yteajblfkfmopfaa.Val
set_option linter.unusedVariables false
set_option linter.unusedSimpArgs false
open Go Go.RowKit Go.Proofs.Yteajblfkfmopfaa.Mem Go.Proofs.Yteajblfkfmopfaa.Put Go.Proofs.Yteajblfkfmopfaa.Geo Go.Proofs.Yteajblfkfmopfaa.RefPutN
theorem wbig {x : Int} (n : Nat) (e : x = (n : Int)) (h : n ≤ 4611686018427387904) : wrap64 x = (n : Int) := by
  rw [e]; unfold wrap64; omega
set_option maxHeartbeats 1000000 in
set_option maxRecDepth 100000 in
theorem getR_any (x : List Int) (hx : Byte x) (A : Option Addr) (n c : Nat) (w : World) (h0 : Rd .u8 w A n c x) :
    Calls Try.prog 161 #[.slice A n c] w fun e w' => e = .returned (.tuple #[.int .i64 (getV x), .int .i64 (getE x)]) ∧ w = w' := by
  have H0 := As.mk h0
  have HX := As.mk hx
  have hl := h0.len
  by_cases z0 : n = 0
  · subst z0
    have HR := As.mk (show getV x = 0 ∧ getE x = 10 by unfold getV getE; simp [hl])
    clear h0 hx hl
    go_enter Try.func161, Try.ntmps161
    go_wp2
    go_ret2
    exact ⟨by rw [HR.out.1, HR.out.2]; rfl, rfl⟩
  · have e0 : ((n : Int) == 0) = false := beq_eq_false_iff_ne.2 (by omega)
    have e0' : (n == 0) = false := beq_eq_false_iff_ne.2 z0
    by_cases z8 : 8 < n
    · have e1 : decide (8 < (n : Int)) = true := decide_eq_true (by omega)
      have e1' : decide (8 < n) = true := decide_eq_true z8
      have HR := As.mk (show getV x = 0 ∧ getE x = 13 by unfold getV getE; rw [hl, if_neg z0, if_pos z8, if_pos (.inr (.inl z8))]; exact ⟨rfl, rfl⟩)
      clear h0 hx hl
      go_enter Try.func161, Try.ntmps161
      go_wp2
      go_ret2
      exact ⟨by rw [HR.out.1, HR.out.2]; rfl, rfl⟩
    · have e1 : decide (8 < (n : Int)) = false := decide_eq_false (by omega)
      have e1' : decide (8 < n) = false := decide_eq_false z8
      have HN := As.mk (show n ≤ 8 by omega)
      have HL := As.mk hl
      obtain ⟨v, hv⟩ : ∃ v, valB x = v := ⟨_, rfl⟩
      have HV := As.mk hv
      have HRV := As.mk (show getV x = (if 4611686018427387904 < v then 0 else (v : Int)) ∧ getE x = (if 4611686018427387904 < v then 11 else 0) by
        unfold getV getE
        rw [hl, hv, if_neg z0, if_neg z8]
        refine ⟨?_, rfl⟩
        by_cases h : 4611686018427387904 < v
        · rw [if_pos (.inr (.inr h)), if_pos h]
        · rw [if_neg (by rintro (h1 | h1 | h1) <;> omega), if_neg h])
      clear h0 hx hl hv
      go_enter Try.func161, Try.ntmps161
      go_wp2
      go_loopg [4, 5] n (fun kq v4 v5 wr => ∃ i m : Nat, i + kq = n ∧ m = valB (x.take i) ∧ m ≤ 4611686018427387904 ∧ v4 = .int .i64 (m : Int) ∧ v5 = .int .i64 i ∧ wr = w)
      case atStart => exact ⟨0, 0, by omega, rfl, by omega, rfl, rfl, rfl⟩
      case round =>
        obtain ⟨i, m, hi, hm, hmt, rfl, rfl, rfl⟩ := hrel
        have HI := As.mk hi
        have HM := As.mk hm
        have HMT := As.mk hmt
        clear hi hm
        by_cases hlt : i < n
        · have d0 : decide ((i : Int) < (n : Int)) = true := decide_eq_true (by omega)
          have d1 : decide (i < n) = true := decide_eq_true hlt
          have hw : wrap64 ((i : Int) + 1) = ((i + 1 : Nat) : Int) := wrap_up (by have := HN.out; omega)
          obtain ⟨ad, hA, hcell⟩ := H0.out.at i hlt
          subst hA
          obtain ⟨b, hb2, hb⟩ := HX.out.nat i
          rw [hb] at hcell
          have HLT := As.mk hlt
          have K2 := As.mk (iw (b : Int) (by omega))
          have K2' := As.mk (Geo.wr (b : Int) (by omega))
          have HBT := As.mk hb
          have HB2 := As.mk hb2
          have hnext : valB (x.take (i + 1)) = m * 256 + b := by
            rw [valB_take x i (by have := HL.out; omega), ← HM.out, hb]; rfl
          have hmono := valB_mono x (i + 1) (by have := HL.out; omega)
          rw [hnext, HV.out] at hmono
          have HNX := As.mk hnext
          have HMO := As.mk hmono
          have HW := As.mk hw
          clear hnext hw
          by_cases ht : 4611686018427387904 < m * 256 + b
          · have HR := HRV.out
            rw [if_pos (by omega), if_pos (by omega)] at HR
            have HRR := As.mk HR
            by_cases h54 : 18014398509481984 < m
            · have t0 : decide (18014398509481984 < (m : Int)) = true := decide_eq_true (by omega)
              have t1 : decide (18014398509481984 < m) = true := decide_eq_true h54
              clear HR HRV ht hb hb2 hmono h54 hmt
              have k2 := K2.out
              have k2' := K2'.out
              go_wp2
              go_ret2
              exact ⟨by rw [HRR.out.1, HRR.out.2]; rfl, rfl⟩
            · have t0 : decide (0 < (b : Int)) = true := decide_eq_true (by omega)
              have t1 : decide (0 < b) = true := decide_eq_true (by omega)
              have t2 : ((m : Int) == 18014398509481984) = true := beq_iff_eq.2 (by omega)
              have t3 : (m == 18014398509481984) = true := beq_iff_eq.2 (by omega)
              have t4 : decide (18014398509481984 < (m : Int)) = false := decide_eq_false (by omega)
              have t5 : decide (18014398509481984 < m) = false := decide_eq_false h54
              clear HR HRV ht hb hb2 hmono h54 hmt
              have k2 := K2.out
              have k2' := K2'.out
              go_wp2
              go_ret2
              exact ⟨by rw [HRR.out.1, HRR.out.2]; rfl, rfl⟩
          · obtain ⟨m2, h2⟩ : ∃ m2, m2 = 256 * m := ⟨_, rfl⟩
            obtain ⟨m3, h3⟩ : ∃ m3, m3 = m2 + b := ⟨_, rfl⟩
            have H2 := As.mk h2
            have HM3 := As.mk (show m3 = m * 256 + b by omega)
            have HM4 := As.mk (show m3 ≤ 4611686018427387904 by omega)
            have K3 := As.mk (wbig (x := 256 * (m : Int)) m2 (by omega) (by omega))
            have K4 := As.mk (wbig (x := (m2 : Int) + (b : Int)) m3 (by omega) (by omega))
            have t0 : decide (18014398509481984 < (m : Int)) = false := decide_eq_false (by omega)
            have t1 : decide (18014398509481984 < m) = false := decide_eq_false (by omega)
            by_cases h55 : m = 18014398509481984
            · obtain rfl : b = 0 := by omega
              have t2 : ((m : Int) == 18014398509481984) = true := beq_iff_eq.2 (by omega)
              have t3 : (m == 18014398509481984) = true := beq_iff_eq.2 h55
              clear h55
              clear ht hb hmono hmt h2 h3 hb2
              have k3 := K3.out
              have k4 := K4.out
              have k2 := K2.out
              have k2' := K2'.out
              have hw := HW.out
              go_wp2
              go_roundg (n - (i + 1))
              case measure => have := HI.out; have := HLT.out; omega
              case rel => exact ⟨i + 1, m3, by have := HI.out; have := HLT.out; omega, by rw [HNX.out, HM3.out], HM4.out, by first | rfl | rw [k4] | rw [wbig (x := (m2 : Int)) m3 (by have := HM3.out; have := H2.out; omega) (by have := HM4.out; omega)], by go_num, rfl⟩
            · have t2 : ((m : Int) == 18014398509481984) = false := beq_eq_false_iff_ne.2 (by omega)
              have t3 : (m == 18014398509481984) = false := beq_eq_false_iff_ne.2 h55
              clear ht hb hmono hmt h2 h3 hb2
              have k3 := K3.out
              have k4 := K4.out
              have k2 := K2.out
              have k2' := K2'.out
              have hw := HW.out
              go_wp2
              go_roundg (n - (i + 1))
              case measure => have := HI.out; have := HLT.out; omega
              case rel => exact ⟨i + 1, m3, by have := HI.out; have := HLT.out; omega, by rw [HNX.out, HM3.out], HM4.out, by first | rfl | rw [k4] | rw [wbig (x := (m2 : Int)) m3 (by have := HM3.out; have := H2.out; omega) (by have := HM4.out; omega)], by go_num, rfl⟩
        · have d0 : decide ((i : Int) < (n : Int)) = false := decide_eq_false (by omega)
          have d1 : decide (i < n) = false := decide_eq_false hlt
          obtain rfl : i = n := by have := HI.out; omega
          obtain rfl : m = v := by rw [HM.out, List.take_of_length_le (by have := HL.out; omega), HV.out]
          have HR := HRV.out
          rw [if_neg (by omega), if_neg (by omega)] at HR
          have HRR := As.mk HR
          clear HR HRV hlt hmt
          go_wp2
          go_ret2
          exact ⟨by rw [HRR.out.1, HRR.out.2]; rfl, rfl⟩
end Go.Proofs.Yteajblfkfmopfaa.Val
namespace Go.Proofs.Yteajblfkfmopfaa.Reader
set_option linter.unusedVariables false
set_option linter.unusedSimpArgs false
open Go Go.RowKit Go.Proofs.Yteajblfkfmopfaa.Mem Go.Proofs.Yteajblfkfmopfaa.Put Go.Proofs.Yteajblfkfmopfaa.Geo Go.Proofs.Yteajblfkfmopfaa.RefPutN Go.Proofs.Yteajblfkfmopfaa.Val

section
variable {P : Program}
theorem run_cut3 (W : World) (t e : TypeId) {z : Option Value} {size bytes : Nat} (ht : P.underlying t = some (.slice e)) (hinfo : (P.info? e).map (fun i => (i.zero, i.size, i.bytes)) = some (z, size, bytes)) (A : Option Addr) (n c h : Nat) (k2 k3 : IntKind) (hh : h ≤ c) :
    (Instr.slice t (.slice A n c) none (some (.int k2 (h : Int))) (some (.int k3 (h : Int)))).run P W = .ok (.slice (cutA A h 0 size) h h) W := by
  obtain ⟨i, hi, _⟩ := Option.map_eq_some_iff.1 hinfo
  simp [Instr.slice, run_underlying ht, Instr.sliceBounds, Instr.sliceBound, asIntOf, sizeOf, typeInfo, hi, cutA, hh]
end
theorem rd_head {k : IntKind} {w : World} {A : Option Addr} {n c : Nat} {x : List Int} (r : Rd k w A n c x) (h : Nat) (hh : h ≤ n) : Rd k w (cutA A h 0 1) h h (x.take h) := by
  have hl := r.len
  have hc := r.cap
  have hle := r.le
  refine ⟨by rw [List.length_take]; omega, Nat.le_refl _, by omega, fun hp => ?_⟩
  obtain ⟨ad, rfl, hcc⟩ := r.cells (by omega)
  refine ⟨ad.add 0, by unfold cutA; rw [if_neg (by omega), Nat.zero_mul]; rfl, fun j hj => ?_⟩
  rw [add_add, Nat.zero_add, hcc j (by omega)]
  congr 2
  simp only [nth, List.getD_eq_getElem?_getD]
  rw [List.getElem?_take_of_lt hj]
theorem rd_tail {k : IntKind} {w : World} {A : Option Addr} {n c : Nat} {x : List Int} (r : Rd k w A n c x) (l : Nat) (hl : l ≤ n) : Rd k w (cutA A c l 1) (n - l) (c - l) (x.drop l) := by
  have h := r.cut l n hl (Nat.le_refl _)
  rwa [List.take_of_length_le (by rw [List.length_drop, r.len]; exact Nat.le_refl _)] at h
set_option maxHeartbeats 400000 in
set_option maxRecDepth 100000 in
theorem cut_ok (x : List Int) (A : Option Addr) (n c k : Nat) (w : World) (h0 : Rd .u8 w A n c x) (hk : k ≤ n) :
    Calls Try.prog 226 #[.slice A n c, .int .i64 (k : Int)] w fun e w' => e = .returned (.tuple #[.slice (cutA A k 0 1) k k, .slice (cutA A c k 1) (n - k) (c - k), .bool true]) ∧ ∃ nd, w' = w.drewN nd := by
  have hle := h0.le
  have d0 : decide ((k : Int) < 0) = false := decide_eq_false (by omega)
  have d1 : decide ((n : Int) < (k : Int)) = false := decide_eq_false (by omega)
  have d2 : decide (n < k) = false := decide_eq_false (by omega)
  have s1 : ∀ W, (Instr.slice 37 (.slice A n c) none (some (.int .i64 (k : Int))) (some (.int .i64 (k : Int)))).run Try.prog W = .ok (.slice (cutA A k 0 1) k k) W := fun W => run_cut3 W 37 5 Try.underlying37 CloneB.info A n c k .i64 .i64 (by omega)
  have s2 : ∀ W, (Instr.slice 37 (.slice A n c) (some (.int .i64 (k : Int))) none none).run Try.prog W = .ok (.slice (cutA A c k 1) (n - k) (c - k)) W := fun W => run_cut_from (P := Try.prog) W 37 5 Try.underlying37 CloneB.info A n c k .i64 hk
  clear h0 hle
  go_enter Try.func226, Try.ntmps226
  go_wp2
  go_quiet (fail)
  go_wp2
  go_ret3
  exact ⟨rfl, _, rfl⟩
set_option maxHeartbeats 400000 in
set_option maxRecDepth 100000 in
theorem cut_short (A : Option Addr) (n c : Nat) (k : Int) (w : World) (hk : k < 0 ∨ (n : Int) < k) :
    Calls Try.prog 226 #[.slice A n c, .int .i64 k] w fun e w' => e = .returned (.tuple #[.slice none 0 0, .slice none 0 0, .bool false]) ∧ w' = w := by
  by_cases h : k < 0
  · have d0 : decide (k < 0) = true := decide_eq_true h
    clear hk h
    go_enter Try.func226, Try.ntmps226
    go_wp2
    go_ret3
    exact ⟨rfl, rfl⟩
  · have d0 : decide (k < 0) = false := decide_eq_false h
    have d1 : decide ((n : Int) < k) = true := decide_eq_true (by omega)
    clear hk h
    go_enter Try.func226, Try.ntmps226
    go_wp2
    go_ret3
    exact ⟨rfl, rfl⟩
/-- a reader: what went wrong, what is left -/
structure Rr (R : Nat) (w : World) (e : Int) (A : Option Addr) (n c : Nat) (x : List Int) : Prop where
  at_ : w.heap[R]? = some (.cells #[.int .i64 e, .slice A n c, .bool true] 239 (0, 0))
  rd : Rd .u8 w A n c x
  apart : 0 < n → ∀ ad, A = some ad → ad.block ≠ R
theorem Rr.lt {R : Nat} {w : World} {e : Int} {A : Option Addr} {n c : Nat} {x : List Int} (h : Rr R w e A n c x) : R < w.heap.size := (Array.getElem?_eq_some_iff.1 h.at_).1
theorem Rr.below {R : Nat} {w w' : World} {e : Int} {A : Option Addr} {n c : Nat} {x : List Int} (h : Rr R w e A n c x) (hb : Below w.heap.size w w') : Rr R w' e A n c x :=
  ⟨(hb.block _ h.lt).trans h.at_, h.rd.below hb, h.apart⟩
theorem Rr.c0 {R : Nat} {w : World} {e : Int} {A : Option Addr} {n c : Nat} {x : List Int} (h : Rr R w e A n c x) : w.cell? ⟨R, 0, none⟩ = some (.int .i64 e) := cell_of_row w _ 0 _ _ _ h.at_
theorem Rr.c1 {R : Nat} {w : World} {e : Int} {A : Option Addr} {n c : Nat} {x : List Int} (h : Rr R w e A n c x) : w.cell? ⟨R, 1, none⟩ = some (.slice A n c) := cell_of_row w _ 1 _ _ _ h.at_
theorem Rr.c2 {R : Nat} {w : World} {e : Int} {A : Option Addr} {n c : Nat} {x : List Int} (h : Rr R w e A n c x) : w.cell? ⟨R, 2, none⟩ = some (.bool true) := cell_of_row w _ 2 _ _ _ h.at_
theorem Rr.f (j : Nat) {R : Nat} {w : World} {e : Int} {A : Option Addr} {n c : Nat} {x : List Int} (h : Rr R w e A n c x) : w.frozen? ⟨R, j, none⟩ = false := frozen_of_row w _ j _ _ h.at_
theorem cutA_apart {A : Option Addr} {R c l : Nat} (h : ∀ ad, A = some ad → ad.block ≠ R) : ∀ ad, cutA A c l 1 = some ad → ad.block ≠ R := fun ad e => by
  obtain ⟨a0, e0, hb⟩ := cutA_block e
  rw [← hb]
  exact h a0 e0
theorem rd_grown0 {k : IntKind} {w w' : World} {A : Option Addr} {n c : Nat} {x : List Int} {row : Option Nat} (h : Rd k w A n c x) (hg : w.grownBy w' row) (hne : 0 < n → ∀ ad, A = some ad → some ad.block ≠ row) : Rd k w' A n c x := by
  rcases Nat.eq_zero_or_pos n with h0 | h0
  · exact ⟨h.len, h.le, h.cap, fun h1 => by omega⟩
  · exact h.grown hg (hne h0)
set_option maxHeartbeats 400000 in
theorem made_any (R : Nat) (w : World) (e : Int) (A : Option Addr) (n c : Nat) (x : List Int) (h : Rr R w e A n c x) :
    Calls Try.prog 203 #[.pointer (some ⟨R, 0, none⟩)] w fun e' w' => e' = .returned (.bool true) ∧ w = w' := by
  have h2 := h.c2
  clear h
  go_enter Try.func203, Try.ntmps203
  go_wp2
  go_ret
  exact ⟨rfl, rfl⟩
set_option maxHeartbeats 400000 in
theorem rgood_any (R : Nat) (w : World) (e : Int) (A : Option Addr) (n c : Nat) (x : List Int) (h : Rr R w e A n c x) (b : Bool) (hb : (e == 0) = b) :
    Calls Try.prog 196 #[.pointer (some ⟨R, 0, none⟩)] w fun e' w' => e' = .returned (.bool b) ∧ w = w' := by
  have h0 := h.c0
  clear h
  go_enter Try.func196, Try.ntmps196
  go_wp2
  go_ret
  exact ⟨rfl, rfl⟩
/-- what goes wrong first stays -/
def failE (e k : Int) : Int := if e = 0 then k else e
set_option maxHeartbeats 400000 in
theorem rfail_any (R : Nat) (w : World) (e : Int) (A : Option Addr) (n c : Nat) (x : List Int) (h : Rr R w e A n c x) (k : Int) :
    Calls Try.prog 204 #[.pointer (some ⟨R, 0, none⟩), .int .i64 k] w fun e' w' => e' = .returned (.tuple #[]) ∧ Rr R w' (failE e k) A n c x ∧ w.grownBy w' (some R) := by
  have H := As.mk h
  have h0 := h.c0
  have f0 := h.f 0
  clear h
  by_cases he : e = 0
  · subst he
    go_enter Try.func204, Try.ntmps204
    go_wp2
    go_end0
    have hg : w.grownBy (w.setCell ⟨R, 0, none⟩ (.int .i64 k)) (some R) := grown_of_set (Below.refl _ _) R 0 _
    exact ⟨rfl, ⟨heap_setCell_same _ _ _ _ _ _ H.out.at_, rd_grown0 H.out.rd hg (fun h0 ad e1 e2 => H.out.apart h0 ad e1 (Option.some.inj e2)), H.out.apart⟩, hg⟩
  · have e0 : (e == 0) = false := beq_eq_false_iff_ne.2 he
    have HE := As.mk he
    clear he
    go_enter Try.func204, Try.ntmps204
    go_wp2
    go_end0
    exact ⟨rfl, by unfold failE; rw [if_neg HE.out]; exact H.out, World.grownBy.refl _ _⟩
set_option maxHeartbeats 1000000 in
set_option maxRecDepth 100000 in
theorem take_okS (R : Nat) (w : World) (A : Option Addr) (n c : Nat) (x : List Int) (h : Rr R w 0 A n c x) (k : Nat) (hk : k ≤ n) :
    Calls Try.prog 205 #[.pointer (some ⟨R, 0, none⟩), .int .i64 (k : Int)] w fun e' w' => ∃ A1 A2 c2, e' = .returned (.slice A1 k k) ∧ Rd .u8 w' A1 k k (x.take k) ∧ (0 < n → ∀ ad, A1 = some ad → ad.block ≠ R) ∧ Rr R w' 0 A2 (n - k) c2 (x.drop k) ∧ w.grownBy w' (some R) ∧ (∀ ad, A2 = some ad → ∃ a0, A = some a0 ∧ a0.block = ad.block) := by
  have H := As.mk h
  have HK := As.mk hk
  have h1 := h.c1
  clear h hk
  go_enter Try.func205, Try.ntmps205
  go_wp2_with (first
    | (go_at_call 226; (with_reducible refine (cut_ok x A n c k w H.out.rd HK.out).mono ?_); rintro e w1 ⟨rfl, nd, rfl⟩; refine As.out ?_))
  refine As.mk ?_
  have H2 : As (Rr R (w.drewN nd) 0 A n c x) := ⟨H.out.below (below_drewN (Below.refl _ _) nd)⟩
  have f1 := H2.out.f 1
  have g1 := H2.out.c1
  go_wp2_with (first
    | (go_at_call 196; (with_reducible refine (rgood_any R (w.drewN nd) 0 A n c x H2.out true rfl).mono ?_); rintro e w1 ⟨rfl, rfl⟩))
  go_ret
  have hg : w.grownBy ((w.drewN nd).setCell ⟨R, 1, none⟩ (.slice (cutA A c k 1) (n - k) (c - k))) (some R) := grown_of_set (below_drewN (Below.refl _ _) nd) R 1 _
  have hne : 0 < n → ∀ ad, A = some ad → some ad.block ≠ some R := fun h0 ad e1 e2 => H.out.apart h0 ad e1 (Option.some.inj e2)
  have hr := rd_grown0 H.out.rd hg hne
  refine ⟨_, _, _, rfl, rd_head hr k HK.out, fun h0 => cutA_apart (H.out.apart h0), ⟨?_, rd_tail hr k HK.out, fun h0 => cutA_apart (H.out.apart (by omega))⟩, hg, fun ad e => cutA_block e⟩
  exact heap_setCell_same _ _ _ _ _ _ H2.out.at_
theorem take_ok (R : Nat) (w : World) (A : Option Addr) (n c : Nat) (x : List Int) (h : Rr R w 0 A n c x) (k : Nat) (hk : k ≤ n) :
    Calls Try.prog 205 #[.pointer (some ⟨R, 0, none⟩), .int .i64 (k : Int)] w fun e' w' => ∃ A1 A2 c2, e' = .returned (.slice A1 k k) ∧ Rd .u8 w' A1 k k (x.take k) ∧ (0 < n → ∀ ad, A1 = some ad → ad.block ≠ R) ∧ Rr R w' 0 A2 (n - k) c2 (x.drop k) ∧ w.grownBy w' (some R) :=
  (take_okS R w A n c x h k hk).mono fun _ _ ⟨A1, A2, c2, a, b, d, e, f, _⟩ => ⟨A1, A2, c2, a, b, d, e, f⟩
set_option maxHeartbeats 1000000 in
set_option maxRecDepth 100000 in
theorem take_dead (R : Nat) (w : World) (e : Int) (A : Option Addr) (n c : Nat) (x : List Int) (h : Rr R w e A n c x) (he : e ≠ 0) (k : Int) :
    Calls Try.prog 205 #[.pointer (some ⟨R, 0, none⟩), .int .i64 k] w fun e' w' => e' = .returned (.slice none 0 0) ∧ Rr R w' e A n c x ∧ w.grownBy w' (some R) := by
  have H := As.mk h
  have h1 := h.c1
  have hb := As.mk (show (e == 0) = false from beq_eq_false_iff_ne.2 he)
  have HE := As.mk he
  have hf := As.mk (show failE e 10 = e by unfold failE; rw [if_neg he])
  clear h he
  by_cases hk : k < 0 ∨ (n : Int) < k
  · have HK := As.mk hk
    clear hk
    go_enter Try.func205, Try.ntmps205
    go_wp2_with (first
      | (go_at_call 226; (with_reducible refine (cut_short A n c k w HK.out).mono ?_); rintro e1 w1 ⟨rfl, rfl⟩)
      | (go_at_call 204; (with_reducible refine (rfail_any R _ e A n c x H.out 10).mono ?_); rintro e1 w1 ⟨rfl, hr, hg⟩; rw [hf.out] at hr; have HR := As.mk hr; have HG := As.mk hg; clear hr hg)
      | (go_at_call 196; (with_reducible refine (rgood_any R _ e A n c x HR.out false hb.out).mono ?_); rintro e1 w2 ⟨rfl, rfl⟩))
    go_ret
    exact ⟨rfl, HR.out, HG.out⟩
  · obtain ⟨k, rfl⟩ := Int.eq_ofNat_of_zero_le (show 0 ≤ k by omega)
    have HK := As.mk (show k ≤ n by omega)
    clear hk
    go_enter Try.func205, Try.ntmps205
    go_wp2_with (first
      | (go_at_call 226; (with_reducible refine (cut_ok x A n c k w H.out.rd HK.out).mono ?_); rintro e1 w1 ⟨rfl, nd, rfl⟩; have H2 : As (Rr R (w.drewN nd) e A n c x) := ⟨H.out.below (below_drewN (Below.refl _ _) nd)⟩)
      | (go_at_call 196; (with_reducible refine (rgood_any R (w.drewN nd) e A n c x H2.out false hb.out).mono ?_); rintro e1 w2 ⟨rfl, rfl⟩))
    go_ret
    exact ⟨rfl, H2.out, grownBy_drewN (World.grownBy.refl _ _) nd⟩
set_option maxHeartbeats 1000000 in
set_option maxRecDepth 100000 in
theorem take_short (R : Nat) (w : World) (A : Option Addr) (n c : Nat) (x : List Int) (h : Rr R w 0 A n c x) (k : Int) (hk : k < 0 ∨ (n : Int) < k) :
    Calls Try.prog 205 #[.pointer (some ⟨R, 0, none⟩), .int .i64 k] w fun e' w' => e' = .returned (.slice none 0 0) ∧ Rr R w' 10 A n c x ∧ w.grownBy w' (some R) := by
  have H := As.mk h
  have h1 := h.c1
  have HK := As.mk hk
  have hf := As.mk (show failE 0 10 = 10 from rfl)
  clear h hk
  go_enter Try.func205, Try.ntmps205
  go_wp2_with (first
    | (go_at_call 226; (with_reducible refine (cut_short A n c k w HK.out).mono ?_); rintro e1 w1 ⟨rfl, rfl⟩)
    | (go_at_call 204; (with_reducible refine (rfail_any R _ 0 A n c x H.out 10).mono ?_); rintro e1 w1 ⟨rfl, hr, hg⟩; rw [hf.out] at hr; have HR := As.mk hr; have HG := As.mk hg; clear hr hg)
    | (go_at_call 196; (with_reducible refine (rgood_any R _ 10 A n c x HR.out false rfl).mono ?_); rintro e1 w2 ⟨rfl, rfl⟩))
  go_ret
  exact ⟨rfl, HR.out, HG.out⟩
/-- a number that is read: itself, what is wrong behind it, what is left -/
def numV (e : Int) (size : Nat) (most : Int) (x : List Int) : Int := if e = 0 ∧ (valB (x.take size) : Int) ≤ most ∧ valB (x.take size) ≤ 4611686018427387904 then valB (x.take size) else 0
def numE (e : Int) (size : Nat) (most : Int) (x : List Int) : Int := if e = 0 then (if (valB (x.take size) : Int) ≤ most ∧ valB (x.take size) ≤ 4611686018427387904 then 0 else 11) else e
def numX (e : Int) (size : Nat) (x : List Int) : List Int := if e = 0 then x.drop size else x
/-- the length of what is left -/
def numN (e : Int) (size n : Nat) : Nat := if e = 0 then n - size else n
theorem take_len {x : List Int} {n : Nat} (h : x.length = n) (k : Nat) (hk : k ≤ n) : (x.take k).length = k := by
  rw [List.length_take, h]; omega
theorem byte_take {x : List Int} (h : Byte x) (k : Nat) : Byte (x.take k) := fun v hv => h v (List.mem_of_mem_take hv)
theorem byte_drop {x : List Int} (h : Byte x) (k : Nat) : Byte (x.drop k) := fun v hv => h v (List.mem_of_mem_drop hv)
theorem get_of {x : List Int} {k n : Nat} (hx : x.length = n) (hk : k ≤ n) (h1 : 1 ≤ k) (h8 : k ≤ 8) :
    getV (x.take k) = (if valB (x.take k) ≤ 4611686018427387904 then ((valB (x.take k) : Nat) : Int) else 0) ∧ getE (x.take k) = (if valB (x.take k) ≤ 4611686018427387904 then 0 else 11) := by
  have hl := take_len hx k hk
  have k0 : ¬ k = 0 := by omega
  have k8 : ¬ 8 < k := by omega
  unfold getV getE
  rw [hl]
  by_cases h : valB (x.take k) ≤ 4611686018427387904
  · have h' : ¬ 4611686018427387904 < valB (x.take k) := by omega
    simp [k0, k8, h, h']
  · have h' : 4611686018427387904 < valB (x.take k) := by omega
    simp [k0, k8, h, h']
set_option maxHeartbeats 2000000 in
set_option maxRecDepth 100000 in
theorem number_anyS (R : Nat) (w : World) (e : Int) (A : Option Addr) (n c : Nat) (x : List Int) (hx : Byte x) (h : Rr R w e A n c x) (size : Nat) (z : Int) (hz : z = (size : Int)) (h1 : 1 ≤ size ∧ size ≤ 8) (hk : size ≤ n ∨ e ≠ 0) (most : Int) :
    Calls Try.prog 158 #[.pointer (some ⟨R, 0, none⟩), .int .i64 z, .int .i64 most] w fun e' w' => e' = .returned (.int .i64 (numV e size most x)) ∧ w.grownBy w' (some R) ∧ ∃ A' c', Rr R w' (numE e size most x) A' (numN e size n) c' (numX e size x) ∧ (∀ ad, A' = some ad → ∃ a0, A = some a0 ∧ a0.block = ad.block) := by
  subst hz
  have H := As.mk h
  have HX := As.mk hx
  have H1 := As.mk h1
  have d0 : decide ((size : Int) < 1) = false := decide_eq_false (by omega)
  have d1 : decide (8 < (size : Int)) = false := decide_eq_false (by omega)
  have d0' : decide (size < 1) = false := decide_eq_false (by omega)
  have d1' : decide (8 < size) = false := decide_eq_false (by omega)
  by_cases he : e = 0
  · subst he
    have HK := As.mk (show size ≤ n by rcases hk with a | a; exact a; exact absurd rfl a)
    clear h hx h1 hk
    go_enter Try.func158, Try.ntmps158
    go_wp2_with (first
      | (go_at_call 203; (with_reducible refine (made_any R w 0 A n c x H.out).mono ?_); rintro e1 w1 ⟨rfl, rfl⟩)
      | (go_at_call 205; (with_reducible refine (take_okS R w A n c x H.out size HK.out).mono ?_); rintro e1 w1 ⟨A1, A2, c2, rfl, hr, ha, hq, hg, hsb⟩; have HSB := As.mk hsb; have HRD := As.mk hr; have HRQ := As.mk hq; have HG := As.mk hg; clear hr ha hq hg hsb)
      | (go_at_call 196; (with_reducible refine (rgood_any R w1 0 A2 (n - size) c2 (x.drop size) HRQ.out true rfl).mono ?_); rintro e1 w2 ⟨rfl, rfl⟩)
      | (go_at_call 206; (with_reducible refine (get_any (x.take size) (byte_take HX.out size) A1 size size w1 HRD.out).mono ?_); rintro e1 w2 ⟨rfl, rfl⟩; refine As.out ?_))
    refine As.mk ?_
    have hgt := get_of H.out.rd.len HK.out H1.out.1 H1.out.2
    obtain ⟨v, hv⟩ : ∃ v, valB (x.take size) = v := ⟨_, rfl⟩
    rw [hv] at hgt
    have HV := As.mk hv
    by_cases h62 : v ≤ 4611686018427387904
    · rw [if_pos h62, if_pos h62] at hgt
      rw [hgt.1, hgt.2]
      by_cases hmo : (v : Int) ≤ most
      · have t0 : decide (most < (v : Int)) = false := decide_eq_false (by omega)
        have HA := As.mk (show numV 0 size most x = (v : Int) ∧ numE 0 size most x = 0 by unfold numV numE; rw [hv, if_pos ⟨rfl, hmo, h62⟩, if_pos rfl, if_pos ⟨hmo, h62⟩]; exact ⟨rfl, rfl⟩)
        clear hgt hv h62 hmo
        go_wp2
        go_ret
        exact ⟨by rw [HA.out.1]; rfl, HG.out, A2, c2, by rw [HA.out.2]; exact HRQ.out, HSB.out⟩
      · have t0 : decide (most < (v : Int)) = true := decide_eq_true (by omega)
        have HA := As.mk (show numV 0 size most x = 0 ∧ numE 0 size most x = 11 by unfold numV numE; rw [hv, if_neg (by rintro ⟨_, a, _⟩; exact hmo a), if_pos rfl, if_neg (by rintro ⟨a, _⟩; exact hmo a)]; exact ⟨rfl, rfl⟩)
        clear hgt hv h62 hmo
        go_wp2_with (first
          | (go_at_call 204; (with_reducible refine (rfail_any R w1 0 A2 (n - size) c2 (x.drop size) HRQ.out 11).mono ?_); rintro e1 w2 ⟨rfl, hr, hg⟩; have HRF := As.mk hr; have HGF := As.mk hg; clear hr hg))
        go_ret
        exact ⟨by rw [HA.out.1]; rfl, grownBy_trans HG.out HGF.out, A2, c2, by rw [HA.out.2]; exact HRF.out, HSB.out⟩
    · rw [if_neg h62, if_neg h62] at hgt
      rw [hgt.1, hgt.2]
      have HA := As.mk (show numV 0 size most x = 0 ∧ numE 0 size most x = 11 by unfold numV numE; rw [hv, if_neg (by rintro ⟨_, _, a⟩; exact h62 a), if_pos rfl, if_neg (by rintro ⟨_, a⟩; exact h62 a)]; exact ⟨rfl, rfl⟩)
      clear hgt hv h62
      go_wp2_with (first
        | (go_at_call 204; (with_reducible refine (rfail_any R w1 0 A2 (n - size) c2 (x.drop size) HRQ.out 11).mono ?_); rintro e1 w2 ⟨rfl, hr, hg⟩; have HRF := As.mk hr; have HGF := As.mk hg; clear hr hg))
      go_ret
      exact ⟨by rw [HA.out.1]; rfl, grownBy_trans HG.out HGF.out, A2, c2, by rw [HA.out.2]; exact HRF.out, HSB.out⟩
  · have HE := As.mk he
    have HA := As.mk (show numV e size most x = 0 ∧ numE e size most x = e ∧ numN e size n = n ∧ numX e size x = x by unfold numV numE numN numX; rw [if_neg (by rintro ⟨a, _⟩; exact he a), if_neg he, if_neg he, if_neg he]; exact ⟨rfl, rfl, rfl, rfl⟩)
    have hb := As.mk (show (e == 0) = false from beq_eq_false_iff_ne.2 he)
    clear h hx h1 hk he
    go_enter Try.func158, Try.ntmps158
    go_wp2_with (first
      | (go_at_call 203; (with_reducible refine (made_any R w e A n c x H.out).mono ?_); rintro e1 w1 ⟨rfl, rfl⟩)
      | (go_at_call 205; (with_reducible refine (take_dead R w e A n c x H.out HE.out size).mono ?_); rintro e1 w1 ⟨rfl, hr, hg⟩; have HRQ := As.mk hr; have HG := As.mk hg; clear hr hg)
      | (go_at_call 196; (with_reducible refine (rgood_any R w1 e A n c x HRQ.out false hb.out).mono ?_); rintro e1 w2 ⟨rfl, rfl⟩))
    go_ret
    exact ⟨by rw [HA.out.1]; rfl, HG.out, A, c, by rw [HA.out.2.1, HA.out.2.2.1, HA.out.2.2.2]; exact HRQ.out, fun ad e => ⟨ad, e, rfl⟩⟩
theorem number_any (R : Nat) (w : World) (e : Int) (A : Option Addr) (n c : Nat) (x : List Int) (hx : Byte x) (h : Rr R w e A n c x) (size : Nat) (z : Int) (hz : z = (size : Int)) (h1 : 1 ≤ size ∧ size ≤ 8) (hk : size ≤ n ∨ e ≠ 0) (most : Int) :
    Calls Try.prog 158 #[.pointer (some ⟨R, 0, none⟩), .int .i64 z, .int .i64 most] w fun e' w' => e' = .returned (.int .i64 (numV e size most x)) ∧ w.grownBy w' (some R) ∧ ∃ A' c', Rr R w' (numE e size most x) A' (numN e size n) c' (numX e size x) :=
  (number_anyS R w e A n c x hx h size z hz h1 hk most).mono fun _ _ ⟨a, b, A', c', d, _⟩ => ⟨a, b, A', c', d⟩
set_option maxHeartbeats 1000000 in
set_option maxRecDepth 100000 in
theorem fixed_ok (R : Nat) (w : World) (A : Option Addr) (n c : Nat) (x : List Int) (h : Rr R w 0 A n c x) (k : Nat) (z : Int) (hz : z = (k : Int)) (hk : k ≤ n) (hm : k ≤ 140737488351232) :
    Calls Try.prog 157 #[.pointer (some ⟨R, 0, none⟩), .int .i64 z] w fun e' w' => ∃ A1 c1, e' = .returned (.slice A1 k c1) ∧ Rd .u8 w' A1 k c1 (x.take k) ∧ w.grownBy w' (some R) ∧ ∃ A2 c2, Rr R w' 0 A2 (n - k) c2 (x.drop k) := by
  subst hz
  have H := As.mk h
  have HK := As.mk hk
  have HM := As.mk hm
  have d0 : decide ((k : Int) < 0) = false := decide_eq_false (by omega)
  clear h hk hm
  go_enter Try.func157, Try.ntmps157
  go_wp2_with (first
    | (go_at_call 203; (with_reducible refine (made_any R w 0 A n c x H.out).mono ?_); rintro e1 w1 ⟨rfl, rfl⟩)
    | (go_at_call 205; (with_reducible refine (take_ok R w A n c x H.out k HK.out).mono ?_); rintro e1 w1 ⟨A1, A2, c2, rfl, hr, ha, hq, hg⟩; have HRD := As.mk hr; have HRQ := As.mk hq; have HG := As.mk hg; clear hr ha hq hg)
    | (go_at_call 128; (with_reducible refine (CloneB.any (x.take k) A1 k k w1 HM.out HRD.out).mono ?_); rintro e1 w2 ⟨A3, c3, rfl, ho, hb⟩; have HO := As.mk ho; have HB := As.mk hb; clear ho hb))
  go_ret
  obtain ⟨A4, c4, e4, hrd⟩ := (OwnAt.of_own HO.out).rd
  cases e4
  exact ⟨_, _, rfl, hrd, grownBy_below HG.out HB.out, A2, c2, HRQ.out.below HB.out⟩
/-- what is told at the end -/
def doneE (e : Int) (n : Nat) : Int := if e = 0 then (if 0 < n then 13 else 0) else e
set_option maxHeartbeats 1000000 in
theorem done_any (R : Nat) (w : World) (e : Int) (A : Option Addr) (n c : Nat) (x : List Int) (h : Rr R w e A n c x) :
    Calls Try.prog 159 #[.pointer (some ⟨R, 0, none⟩)] w fun e' w' => e' = .returned (.int .i64 (doneE e n)) ∧ w = w' := by
  have H := As.mk h
  have h0 := h.c0
  have h1 := h.c1
  clear h
  by_cases he : e = 0
  · subst he
    by_cases hn : 0 < n
    · have t0 : decide ((0 : Int) < (n : Int)) = true := decide_eq_true (by omega)
      have t1 : decide (0 < n) = true := decide_eq_true hn
      have HA := As.mk (show doneE 0 n = 13 by unfold doneE; rw [if_pos rfl, if_pos hn])
      clear hn
      go_enter Try.func159, Try.ntmps159
      go_wp2_with (first
        | (go_at_call 203; (with_reducible refine (made_any R w 0 A n c x H.out).mono ?_); rintro e1 w1 ⟨rfl, rfl⟩)
        | (go_at_call 196; (with_reducible refine (rgood_any R w 0 A n c x H.out true rfl).mono ?_); rintro e1 w2 ⟨rfl, rfl⟩))
      go_ret
      exact ⟨by rw [HA.out]; rfl, rfl⟩
    · obtain rfl : n = 0 := by omega
      have HA := As.mk (show doneE 0 0 = 0 by unfold doneE; rw [if_pos rfl, if_neg hn])
      clear hn
      go_enter Try.func159, Try.ntmps159
      go_wp2_with (first
        | (go_at_call 203; (with_reducible refine (made_any R w 0 A 0 c x H.out).mono ?_); rintro e1 w1 ⟨rfl, rfl⟩)
        | (go_at_call 196; (with_reducible refine (rgood_any R w 0 A 0 c x H.out true rfl).mono ?_); rintro e1 w2 ⟨rfl, rfl⟩))
      go_ret
      exact ⟨by rw [HA.out]; rfl, rfl⟩
  · have hb := As.mk (show (e == 0) = false from beq_eq_false_iff_ne.2 he)
    have HA := As.mk (show doneE e n = e by unfold doneE; rw [if_neg he])
    clear he
    go_enter Try.func159, Try.ntmps159
    go_wp2_with (first
      | (go_at_call 203; (with_reducible refine (made_any R w e A n c x H.out).mono ?_); rintro e1 w1 ⟨rfl, rfl⟩)
      | (go_at_call 196; (with_reducible refine (rgood_any R w e A n c x H.out false hb.out).mono ?_); rintro e1 w2 ⟨rfl, rfl⟩))
    go_ret
    exact ⟨by rw [HA.out]; rfl, rfl⟩
end Go.Proofs.Yteajblfkfmopfaa.Reader
