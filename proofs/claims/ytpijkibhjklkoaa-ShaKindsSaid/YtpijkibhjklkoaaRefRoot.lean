/- chatelaineref05.root. -/
import Derived.Test.YtpijkibhjklkoaaRefAbove
namespace Go.Proofs.Ytpijkibhjklkoaa.Roots
set_option linter.unusedVariables false
set_option linter.unusedSimpArgs false
open Go Go.RowKit Go.Proofs.Ytpijkibhjklkoaa.Mem Go.Proofs.Ytpijkibhjklkoaa.Put32 Go.Proofs.Ytpijkibhjklkoaa.Pad Go.Proofs.Ytpijkibhjklkoaa.Sum Go.Proofs.Ytpijkibhjklkoaa.RefWith Go.Proofs.Ytpijkibhjklkoaa.ShaParts

def digs (m : Nat) : List Int := [((m % 65536 : Nat) : Int), ((m / 65536 % 65536 : Nat) : Int), ((m / 4294967296 : Nat) : Int)]
def powF (d : List Int) : Nat → List Int
  | 0 => d
  | i + 1 => timesF (powF d i) d
def bitN (j : Nat) : Nat := 68719476736 / 2 ^ j
def rootS (p : Int) (k : Nat) : Nat → Nat
  | 0 => 0
  | j + 1 => if aboveF (powF (digs (rootS p k j + bitN j)) (k - 1)) p (2 * k) = true then rootS p k j else rootS p k j + bitN j
def rootF (p : Int) (k : Nat) : Nat := rootS p k 37 % 4294967296
/-- these numbers have these roots -/
def rootsAre (k : Nat) : List Nat → List Nat → Bool
  | p :: ps, v :: vs => rootF (p : Int) k == v && rootsAre k ps vs
  | _, _ => true
theorem powF_len (d : List Int) (hd : d.length = 3) : ∀ i, (powF d i).length = 3 * (i + 1)
  | 0 => hd
  | i + 1 => by rw [powF, timesF_len, powF_len d hd i, hd]; omega
theorem bitN_half (j : Nat) : bitN j / 2 = bitN (j + 1) := by rw [bitN, bitN, Nat.div_div_eq_div_mul, Nat.pow_succ]
theorem bitN_pos (j : Nat) (h : j < 37) : 0 < bitN j := Nat.div_pos (Nat.le_trans (Nat.pow_le_pow_right (by decide) (show j ≤ 36 by omega)) (by decide)) (Nat.two_pow_pos j)
theorem bitN_two (j : Nat) : 2 * bitN (j + 1) ≤ bitN j := by rw [← bitN_half]; omega
theorem bitN_le (j : Nat) : bitN j ≤ 68719476736 := Nat.div_le_self _ _
theorem rootS_le (p : Int) (k : Nat) : ∀ j, rootS p k j + 2 * bitN j ≤ 137438953472
  | 0 => by show 0 + 2 * bitN 0 ≤ _; decide
  | j + 1 => by
    have h1 := rootS_le p k j
    have h2 := bitN_two j
    unfold rootS
    split <;> omega

set_option maxHeartbeats 2000000 in
set_option maxRecDepth 100000 in
theorem root_any (p : Int) (k : Nat) (hk : 1 ≤ k ∧ k ≤ 3) (w : World) :
    Calls Try.prog 60 #[.int .i64 p, .int .i64 k] w fun r w' => r = .returned (.int .u32 (rootF p k : Nat)) ∧ Below w.heap.size w w' := by
  have HK := As.mk hk
  clear hk
  go_enter Try.func60, Try.ntmps60
  go_wp2
  go_loopg [5, 6] 37 (fun kq v5 v6 wr => ∃ j : Nat, j + kq = 37 ∧ v5 = .int .i64 (rootS p k j : Nat) ∧ v6 = .int .i64 (bitN j : Nat) ∧ As (Below w.heap.size w wr))
  case atStart => exact ⟨0, by omega, rfl, rfl, ⟨Below.refl _ _⟩⟩
  case round =>
    obtain ⟨j, hj, rfl, rfl, HB⟩ := hrel
    have HJ := As.mk hj
    clear hj
    obtain ⟨n, hn⟩ : ∃ n, n = rootS p k j := ⟨_, rfl⟩
    obtain ⟨b, hb⟩ : ∃ b, b = bitN j := ⟨_, rfl⟩
    have hbd : n + 2 * b ≤ 137438953472 := by rw [hn, hb]; exact rootS_le p k j
    rw [← hn, ← hb]
    by_cases hlt : j < 37
    · have hp : 0 < b := by rw [hb]; exact bitN_pos j hlt
      have c0 : decide (0 < (b : Int)) = true := decide_eq_true (by omega)
      have c1 : decide (0 < b) = true := decide_eq_true hp
      obtain ⟨m, hm⟩ : ∃ m, m = n + b := ⟨_, rfl⟩
      have hmb : m ≤ 137438953472 := by omega
      have hbb : b ≤ 137438953472 := by omega
      obtain ⟨d0, hd0⟩ : ∃ d0, d0 = m % 65536 := ⟨_, rfl⟩
      obtain ⟨q1, hq1⟩ : ∃ q1, q1 = m / 65536 := ⟨_, rfl⟩
      obtain ⟨d1, hd1⟩ : ∃ d1, d1 = q1 % 65536 := ⟨_, rfl⟩
      obtain ⟨d2, hd2⟩ : ∃ d2, d2 = m / 4294967296 := ⟨_, rfl⟩
      obtain ⟨h, hh⟩ : ∃ h, h = b / 2 := ⟨_, rfl⟩
      have w1 : wrap64 (q1 : Int) = (q1 : Int) := wid _ (by rw [hq1]; exact Nat.le_trans (Nat.div_le_self _ _) (Nat.le_trans hmb (by decide)))
      have w2 : wrap64 (d2 : Int) = (d2 : Int) := wid _ (by rw [hd2]; exact Nat.le_trans (Nat.div_le_self _ _) (Nat.le_trans hmb (by decide)))
      have w3 : wrap64 (h : Int) = (h : Int) := wid _ (by rw [hh]; exact Nat.le_trans (Nat.div_le_self _ _) (Nat.le_trans hbb (by decide)))
      have em : wrap64 ((n : Int) + (b : Int)) = (m : Int) := by rw [hm, Int.natCast_add] ; exact wid (n + b) (by rw [← hm]; exact Nat.le_trans hmb (by decide))
      have e0 : (m : Int).tmod 65536 = (d0 : Int) := by rw [hd0, Int.ofNat_tmod]; rfl
      have e1 : (m : Int).tdiv 65536 = (q1 : Int) := by rw [hq1, Int.ofNat_tdiv]; rfl
      have e2 : (q1 : Int).tmod 65536 = (d1 : Int) := by rw [hd1, Int.ofNat_tmod]; rfl
      have e3 : (m : Int).tdiv 4294967296 = (d2 : Int) := by rw [hd2, Int.ofNat_tdiv]; rfl
      have e4 : (b : Int).tdiv 2 = (h : Int) := by rw [hh, Int.ofNat_tdiv]; rfl
      have HD := As.mk (show [(d0 : Int), (d1 : Int), (d2 : Int)] = digs m by rw [digs, hd0, hd1, hq1, hd2])
      have HH := As.mk (show h = bitN (j + 1) by rw [hh, hb, bitN_half])
      have HLT := As.mk hlt
      have HN := As.mk hn
      have HBB := As.mk hb
      have HM := As.mk hm
      clear hn hb hm hd0 hq1 hd1 hd2 hh hlt hbd
      go_wp2
      rw [em, w1, w2]
      obtain ⟨wo, rfl⟩ : ∃ wo : World, wo = wr := ⟨_, rfl⟩
      have hrd := Rd.lit wo .i64 3 [(d0 : Int), (d1 : Int), (d2 : Int)] (by show 3 ≤ maxLen; decide)
      have hbl := below_alloc HB.out (.cells #[.int .i64 (d0 : Int), .int .i64 (d1 : Int), .int .i64 (d2 : Int)] 3)
      have HR0 : As (Rd .i64 (wo.alloc (.cells #[.int .i64 (d0 : Int), .int .i64 (d1 : Int), .int .i64 (d2 : Int)] 3)) (some ⟨wo.heap.size, 0, none⟩) 3 3 (digs m)) := ⟨by rw [← HD.out]; exact hrd⟩
      have HB0 := As.mk hbl
      clear hrd hbl HB
      generalize wo.alloc _ = w4 at *
      generalize wo.heap.size = b4 at *
      have ek : ((k - 1 : Nat) : Int) + 1 = (k : Int) := by have := HK.out; omega
      go_loopg [9, 10] (k - 1) (fun kq v9 v10 wr => ∃ (i l : Nat) (X : Addr), i + kq = k - 1 ∧ l = 3 * (i + 1) ∧ v9 = .slice (some X) l l ∧ v10 = .int .i64 ((i + 1 : Nat) : Int) ∧ As (Rd .i64 wr (some X) l l (powF (digs m) i)) ∧ As (Below w4.heap.size w4 wr))
      case atStart => exact ⟨0, 3, _, by omega, rfl, rfl, rfl, HR0, ⟨Below.refl _ _⟩⟩
      case round =>
        obtain ⟨i, l, X, hi, hl, rfl, rfl, HX, HB⟩ := hrel
        have HI := As.mk hi
        have HL := As.mk hl
        clear hi hl
        obtain ⟨i', hi'⟩ : ∃ i', i' = i + 1 := ⟨_, rfl⟩
        rw [← hi']
        by_cases hlt : i' < k
        · have f0 : decide ((i' : Int) < (k : Int)) = true := decide_eq_true (by omega)
          have f1 : decide (i' < k) = true := decide_eq_true hlt
          have hw : wrap64 ((i' : Int) + 1) = ((i' + 1 : Nat) : Int) := wrap_up (by have := HK.out; omega)
          have HII := As.mk hi'
          have HLT := As.mk hlt
          clear hi' hlt
          go_wp2_with (go_at_call 68; (with_reducible refine (times_any (powF (digs m) i) (digs m) (some X) (some ⟨b4, 0, none⟩) l l 3 3 wr ?c1 ?c2 HX.out (HR0.out.below HB.out)).mono ?_); (case c1 => have := HL.out; have := HII.out; have := HLT.out; have := HK.out; omega); (case c2 => decide); rintro e w5 ⟨rfl, hb, hz⟩; have HB5 := As.mk (below_step HB.out hb); have HZ5 := As.mk hz; clear hb hz)
          go_roundg (k - 1 - i')
          case measure => have := HI.out; have := HII.out; have := HLT.out; omega
          case rel =>
            refine ⟨i', l + 3, ⟨wr.heap.size, 0, none⟩, by have := HI.out; have := HII.out; have := HLT.out; omega, by have := HL.out; have := HII.out; omega, rfl, by go_num, ⟨?_⟩, HB5⟩
            have := intsA_rd HZ5.out (n := l + 3) (by rw [timesF_len, powF_len (digs m) rfl i, HL.out]; rfl) (by have := HL.out; have := HII.out; have := HLT.out; have := HK.out; unfold maxLen; omega)
            rw [HII.out]
            exact this
        · have f0 : decide ((i' : Int) < (k : Int)) = false := decide_eq_false (by omega)
          have f1 : decide (i' < k) = false := decide_eq_false hlt
          have HIK := As.mk (show i = k - 1 by have := HI.out; omega)
          rw [HIK.out] at HX
          have HL2 := As.mk (show l = 3 * k by have := HL.out; have := HIK.out; have := HK.out; omega)
          obtain ⟨e2k, he2k⟩ : ∃ e, e = 2 * k := ⟨_, rfl⟩
          have ee : wrap64 (2 * (k : Int)) = (e2k : Int) := by rw [show (2 : Int) * (k : Int) = (e2k : Int) by omega]; exact wid _ (by have := HK.out; omega)
          have HE := As.mk he2k
          clear hi' hlt he2k
          obtain ⟨q, hq⟩ : ∃ q, q = aboveF (powF (digs m) (k - 1)) p e2k := ⟨_, rfl⟩
          have HQ := As.mk hq
          have HBW := As.mk (below_step HB0.out HB.out)
          clear hq
          go_wp2_with (go_at_call 69; (refine (above_any (powF (digs m) (k - 1)) p e2k (some X) l l wr ?c1 ?c2 HX.out).mono ?_); (case c1 => have := HL2.out; have := HK.out; omega); (case c2 => have := HL2.out; have := HE.out; have := HK.out; omega); rintro e w6 ⟨rfl, nd, rfl⟩; rw [← HQ.out]; refine As.out ?_)
          refine As.mk ?_
          have HB6 := As.mk (below_drewN HBW.out nd)
          generalize wr.drewN nd = w6 at *
          have HST := As.mk (show rootS p k (j + 1) = if q = true then n else m by rw [rootS, ← HN.out, ← HBB.out, ← HM.out, HQ.out, HE.out])
          cases q with
          | true =>
            go_wp2
            go_roundg (37 - (j + 1))
            case measure => have := HJ.out; have := HLT.out; omega
            case rel => exact ⟨j + 1, by have := HJ.out; have := HLT.out; omega, by rw [HST.out]; first | rfl | simp, by rw [← HH.out], HB6⟩
          | false =>
            go_wp2
            go_roundg (37 - (j + 1))
            case measure => have := HJ.out; have := HLT.out; omega
            case rel => exact ⟨j + 1, by have := HJ.out; have := HLT.out; omega, by rw [HST.out]; first | rfl | simp, by rw [← HH.out, w3], HB6⟩
    · have hb0 : b = 0 := by
        obtain rfl : j = 37 := by have := HJ.out; omega
        rw [hb]; rfl
      have hj : j = 37 := by have := HJ.out; omega
      subst hb0
      have HF := As.mk (show rootF p k = n % 4294967296 by rw [rootF, hn, hj])
      obtain ⟨r, hr⟩ : ∃ r, r = n % 4294967296 := ⟨_, rfl⟩
      have e5 : (n : Int).tmod 4294967296 = (r : Int) := by rw [hr, Int.ofNat_tmod]; rfl
      have HR := As.mk hr
      have e6 : (r : Int) % 4294967296 = (r : Int) := by rw [hr]; omega
      clear hn hb hr hj hbd
      go_wp2
      go_ret
      exact ⟨by rw [HF.out, HR.out]; rfl, HB.out⟩
end Go.Proofs.Ytpijkibhjklkoaa.Roots
