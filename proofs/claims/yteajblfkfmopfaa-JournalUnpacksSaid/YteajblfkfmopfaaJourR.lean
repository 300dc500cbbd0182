/- JournalUnpacks: the statement. -/
import Derived.Test.YteajblfkfmopfaaJourZ
import Derived.Test.YteajblfkfmopfaaJourG
import Derived.Test.YteajblfkfmopfaaJourB
namespace Go.Proofs.Yteajblfkfmopfaa.Jour
set_option linter.unusedVariables false
set_option linter.unusedSimpArgs false
open Go Go.RowKit Go.Proofs.Yteajblfkfmopfaa.Entries Go.Proofs.Yteajblfkfmopfaa.Mem Go.Proofs.Yteajblfkfmopfaa.Pad Go.Proofs.Yteajblfkfmopfaa.Put Go.Proofs.Yteajblfkfmopfaa.Geo Go.Proofs.Yteajblfkfmopfaa.Val Go.Proofs.Yteajblfkfmopfaa.Reader Go.Proofs.Yteajblfkfmopfaa.Sum Go.Proofs.Yteajblfkfmopfaa.Hmac Go.Proofs.Yteajblfkfmopfaa.Parts Go.Proofs.Yteajblfkfmopfaa.LayA

def likeI (rs : List (List Int)) (i : Nat) : Bool := (List.range i).all fun j => decide ((nthP rs j).length = (nthP rs 0).length)
theorem likeI_succ (rs : List (List Int)) (i : Nat) : likeI rs (i + 1) = (likeI rs i && decide ((nthP rs i).length = (nthP rs 0).length)) := by
  unfold likeI
  rw [List.range_succ, List.all_append]
  simp
theorem sizeR2 (n s r : Nat) (y z : Int) (hy : y = (n : Int)) (hz : z = (s : Int)) (hn : n ≤ 65536) (hs : 64 ≤ s ∧ s ≤ 256) (hr : recN n s = r) (w : World) :
    Calls Try.prog 77 #[.int .i64 y, .int .i64 z] w fun e w' => e = .returned (.int .i64 (r : Int)) ∧ w = w' := hy ▸ hz ▸ sizeR_ok n s r hn hs hr w
set_option maxHeartbeats 1000000 in
set_option maxRecDepth 100000 in
theorem unpacks_far (K : Option Addr) (kn kc : Nat) (A : Option Addr) (n c : Nat) (w : World) (h : 40 < n ∨ (n ≤ 40 ∧ 100 < kn)) :
    Calls Try.prog 14 #[.slice K kn kc, .slice A n c] w fun e w' => e = .returned (.bool true) ∧ Below w.heap.size w w' := by
  rcases h with h | ⟨h, h2⟩
  · have d0 : decide (40 < (n : Int)) = true := decide_eq_true (by omega)
    have d1 : decide (40 < n) = true := decide_eq_true h
    clear h
    go_enter Try.func14, Try.ntmps14
    go_wp2_with (go_at_call 73; (with_reducible refine (awake_true _).mono ?_); rintro e w1 ⟨rfl, hb⟩; have HB1 := As.mk hb; clear hb)
    go_ret
    exact ⟨rfl, HB1.out⟩
  · have d0 : decide (40 < (n : Int)) = false := decide_eq_false (by omega)
    have d1 : decide (40 < n) = false := decide_eq_false (by omega)
    have d2 : decide (100 < (kn : Int)) = true := decide_eq_true (by omega)
    have d3 : decide (100 < kn) = true := decide_eq_true h2
    clear h h2
    go_enter Try.func14, Try.ntmps14
    go_wp2_with (go_at_call 73; (with_reducible refine (awake_true _).mono ?_); rintro e w1 ⟨rfl, hb⟩; have HB1 := As.mk hb; clear hb)
    go_ret
    exact ⟨rfl, HB1.out⟩
set_option maxHeartbeats 4000000 in
set_option maxRecDepth 100000 in
theorem unpacks_near (key : List Int) (hk : Byte key) (K : Option Addr) (kn kc : Nat) (hkn : kn ≤ 100) (rs : List (List Int)) (hrs : ∀ p ∈ rs, Byte p) (A : Option Addr) (n c : Nat) (hn : n ≤ 40) (w : World) (h0 : Rd .u8 w K kn kc key) (h : RdP w A n c rs) :
    Calls Try.prog 14 #[.slice K kn kc, .slice A n c] w fun e w' => e = .returned (.bool true) ∧ Below w.heap.size w w' := by
  have HX := As.mk hk
  have HKN := As.mk hkn
  have HRS := As.mk hrs
  have HN := As.mk hn
  have H0 := As.mk h0
  have H := As.mk h
  have HL := As.mk h.len
  have d0 : decide (40 < (n : Int)) = false := decide_eq_false (by omega)
  have d1 : decide (40 < n) = false := decide_eq_false (by omega)
  have d2 : decide (100 < (kn : Int)) = false := decide_eq_false (by omega)
  have d3 : decide (100 < kn) = false := decide_eq_false (by omega)
  clear hk hkn hrs hn h0 h
  go_enter Try.func14, Try.ntmps14
  go_wp2_with (go_at_call 73; (with_reducible refine (awake_true _).mono ?_); rintro e w1 ⟨rfl, hb⟩; have HB1 := As.mk hb; have H01 := As.mk (H0.out.below hb); have H1 := As.mk (H.out.below hb); clear hb)
  go_loopg [5, 6, 34] n (fun kq v5 v6 v34 wr => ∃ (i nb co : Nat) (R : Option Addr) (on : Bool), i + kq = n ∧ v5 = .slice R nb co ∧ v6 = .bool on ∧ v34 = .int .i64 (i : Int) ∧ As (on = likeI rs i) ∧ As (∀ j, j < i → (nthP rs j).length ≤ 300) ∧ As (nb ≤ 300 * i) ∧ As (OwnAt wr w1.heap.size (.slice R nb co) nb ((rs.take i).flatten.map (Value.int .u8))) ∧ As (Below w1.heap.size w1 wr))
  case atStart => exact ⟨0, 0, 0, none, true, by omega, rfl, rfl, rfl, ⟨rfl⟩, ⟨fun j hj => by omega⟩, ⟨by simp⟩, ⟨OwnAt.nil _ _⟩, ⟨Below.refl _ _⟩⟩
  case round =>
    obtain ⟨i, nb, co, R, on, hi, rfl, rfl, rfl, HON, HJ, HNB, HO, HB⟩ := hrel
    have HI := As.mk hi
    clear hi
    by_cases hlt : i < n
    · have e0 : decide ((i : Int) < (n : Int)) = true := decide_eq_true (by omega)
      have e1 : decide (i < n) = true := decide_eq_true hlt
      have lt' : (i : Int) < (n : Int) := by omega
      have p0 : (0 : Int) < (n : Int) := by omega
      have p0' : 0 < n := by omega
      have hw : wrap64 ((i : Int) + 1) = ((i + 1 : Nat) : Int) := wrap_up (by have := HN.out; omega)
      obtain ⟨ad, Aj, cj, ea, h1, h2⟩ := H1.out.at i hlt
      cases ea
      obtain ⟨ad', Ak, ck, ea, h3, h4⟩ := H1.out.at 0 p0'
      cases ea
      rw [add_zero'] at h3
      replace h1 := cell_keep h1 HB.out
      replace h3 := cell_keep h3 HB.out
      have HFS := As.mk (Go.Proofs.Yteajblfkfmopfaa.Sum.flat_snoc rs i (by rw [HL.out]; exact hlt))
      have HBB := As.mk (HRS.out _ (nthP_mem (rs := rs) (j := i) (by rw [HL.out]; exact hlt)))
      have HLS := As.mk (likeI_succ rs i)
      have HLT := As.mk hlt
      have HNB2 := As.mk (show nb ≤ 12000 by have := HNB.out; have := HN.out; omega)
      obtain ⟨b, hb⟩ : ∃ b, nthP rs i = b := ⟨_, rfl⟩
      obtain ⟨m0, hm0⟩ : ∃ m, (nthP rs 0).length = m := ⟨_, rfl⟩
      have HJS := As.mk (show b.length ≤ 300 → ∀ j, j < i + 1 → (nthP rs j).length ≤ 300 from fun hh j hj => by
        rcases Nat.lt_succ_iff_lt_or_eq.1 hj with h | rfl
        · exact HJ.out j h
        · rw [hb]; exact hh)
      rw [hb] at h1 h2 HFS HBB HLS
      rw [hm0] at h3 HLS
      obtain ⟨m, hm⟩ : ∃ m, b.length = m := ⟨_, rfl⟩
      rw [hm] at h1 h2 HLS HJS
      have HR := As.mk h2
      have HS5 := As.mk (Src.rd (h2.below HB.out))
      have hm63 : (m : Int) ≤ 9223372036854775807 := by have := h2.le; have := h2.cap; unfold maxLen at this; omega
      clear h2 h4 hlt hb hm0 hm
      by_cases k3 : m ≤ 300
      · have k0 : decide (300 < (m : Int)) = false := decide_eq_false (by omega)
        have k1 : decide (300 < m) = false := decide_eq_false (by omega)
        have HJ2 := As.mk (HJS.out k3)
        have HM3 := As.mk k3
        obtain ⟨on2, hon2⟩ : ∃ o, likeI rs (i + 1) = o := ⟨_, rfl⟩
        have HON2 := As.mk hon2
        obtain ⟨hc, hhc⟩ : ∃ v : Int, (headC b : Int) = v := ⟨_, rfl⟩
        obtain ⟨hv, hhv⟩ : ∃ v : Int, (headN b : Int) = v := ⟨_, rfl⟩
        obtain ⟨ok, hok⟩ : ∃ o, headOk b = o := ⟨_, rfl⟩
        have HHC := As.mk hhc
        have HHV := As.mk hhv
        have HOK := As.mk hok
        rw [hon2, ← HON.out] at HLS
        have hways : (on = true ∧ m = m0 ∧ on2 = true) ∨ (on = true ∧ m ≠ m0 ∧ on2 = false) ∨ (on = false ∧ on2 = false) := by
          have := HLS.out
          cases on
          · exact .inr (.inr ⟨rfl, by rw [this]; rfl⟩)
          · by_cases e : m = m0
            · exact .inl ⟨rfl, e, by rw [this, decide_eq_true e]; rfl⟩
            · exact .inr (.inl ⟨rfl, e, by rw [this, decide_eq_false e]; rfl⟩)
        clear k3 hon2 hhc hhv hok HLS HON HJ HJS
        rcases hways with ⟨rfl, rfl, rfl⟩ | ⟨rfl, hne, rfl⟩ | ⟨rfl, rfl⟩
        case' inr.inl =>
          have q0 : ((m : Int) == (m0 : Int)) = false := beq_eq_false_iff_ne.2 (by omega)
          have q1 : (m == m0) = false := beq_eq_false_iff_ne.2 hne
          clear hne
        all_goals
          go_wp2_with (first
            | (at_builtin; refine wpList_app2 rfl (.tmp 51) (.tmp 52) 37 rfl w1.heap.size 5 (.int .u8 0) 1 Try.underlying37 CloneB.info rfl _ nb _ rfl HO.out _ m _ rfl HS5.out ?_ ?_ HB.out.size HB.out (Nat.le_refl _) ?_; (have := HNB2.out; have := HM3.out; unfold maxLen; omega); (have := HNB2.out; have := HM3.out; omega); intro v6 w6 hown hg hat hb; rw [← List.map_append, ← HFS.out] at hown; obtain ⟨A6, c6, rfl⟩ := hown.slice; have HO6 := As.mk hown; have HB6 := As.mk hb; have HR6 := As.mk (HR.out.below hb); clear hown hg hat hb)
            | (go_at_call 81; (with_reducible refine (head_any b HBB.out Aj m cj w6 (by have := HM3.out; omega) HR6.out hc hv ok HOK.out HHC.out HHV.out).mono ?_); rintro e w7 ⟨rfl, hb⟩; have HO7 := As.mk (HO6.out.below hb); have HR7 := As.mk (HR6.out.below hb); have HB7 := As.mk (below_step HB6.out hb); clear hb)
            | (go_at_call 82; (with_reducible refine (headR_any b HBB.out Aj m cj w7 (by have := HM3.out; omega) HR7.out hc hv ok HOK.out HHC.out HHV.out).mono ?_); rintro e w8 ⟨rfl, rfl⟩))
          go_roundg (n - (i + 1))
          case measure => have := HI.out; have := HLT.out; omega
          case rel => exact ⟨i + 1, nb + m, c6, A6, _, by have := HI.out; have := HLT.out; omega, rfl, rfl, by go_num, ⟨HON2.out.symm⟩, HJ2, ⟨by have := HNB.out; have := HM3.out; omega⟩, HO7, HB7⟩
      · have k0 : decide (300 < (m : Int)) = true := decide_eq_true (by omega)
        have k1 : decide (300 < m) = true := decide_eq_true (by omega)
        have HBW := As.mk (below_step HB1.out HB.out)
        clear k3
        go_wp2
        go_ret
        exact ⟨rfl, HBW.out⟩
    · have e0 : decide ((i : Int) < (n : Int)) = false := decide_eq_false (by omega)
      have e1 : decide (i < n) = false := decide_eq_false hlt
      obtain rfl : n = i := by have := HI.out; omega
      have hall : rs.take n = rs := by rw [← HL.out, List.take_length]
      rw [hall] at HO
      have HLK := As.mk (show likeB rs = on by rw [HON.out]; unfold likeB likeI; rw [HL.out])
      have HRA := As.mk (own_rd_at HO.out)
      have HR2 := As.mk (H1.out.below HB.out)
      have HK2 := As.mk (H01.out.below HB.out)
      have HBW := As.mk (below_step HB1.out HB.out)
      have HNBB := As.mk (show nb ≤ 12000 by have := HNB.out; have := HN.out; omega)
      clear hall hlt HO HON
      obtain ⟨w2, rfl⟩ : ∃ wo : World, wo = wr := ⟨_, rfl⟩
      rcases Bool.eq_false_or_eq_true (wholeB rs) with hwh | hwh
      · obtain ⟨s, s1, s2, s3, s4, s5⟩ := whole_facts hwh
        have HWH := As.mk hwh
        have hp : 0 < n := by have := HL.out; omega
        have hon : on = true := by
          have hw2 := hwh
          unfold wholeB at hw2
          rw [HLK.out, Bool.and_eq_true] at hw2
          exact hw2.1
        subst hon
        have h0s := s5 0 (by have := HL.out; omega)
        obtain ⟨ad, A0, c0, rfl, q0, q1⟩ := row0 HR2.out hp h0s
        have HR0 := As.mk q1
        have HBY := As.mk (show Byte (nthP rs 0) from HRS.out _ (nthP_mem (rs := rs) (by have := HL.out; omega)))
        have HWI := As.mk (show wideE ((s : Nat) : Int) = true from (wideE_iff _).2 ⟨by omega, by omega, by omega⟩)
        have HS := As.mk (show 64 ≤ s ∧ s ≤ 256 ∧ s % 16 = 0 from ⟨s1, s2, s3⟩)
        have HS2 := As.mk (show 64 ≤ s ∧ s ≤ 256 from ⟨s1, s2⟩)
        have HSL := As.mk (show ∀ j, j < rs.length → (nthP rs j).length = s from s5)
        have z0 : ((n : Int) == 0) = false := beq_eq_false_iff_ne.2 (by omega)
        have z1 : (n == 0) = false := beq_eq_false_iff_ne.2 (by omega)
        have z2 : (0 : Int) < (n : Int) := by omega
        have z3 : 0 < n := hp
        rcases Bool.eq_false_or_eq_true (headOk (nthP rs 0)) with hf | hf
        · have HF := As.mk hf
          obtain ⟨hc, hhc⟩ : ∃ v : Nat, headC (nthP rs 0) = v := ⟨_, rfl⟩
          obtain ⟨m, hm⟩ : ∃ v : Nat, headN (nthP rs 0) = v := ⟨_, rfl⟩
          have hfi := (headOk_iff _).1 hf
          have hm2 : m ≤ 65536 := by rw [← hm]; unfold headN; rw [if_pos hf]; exact hfi.2.2.2.1
          have hc2 : hc ≤ 1099511627776 := by rw [← hhc]; unfold headC; rw [if_pos hf]; exact hfi.2.2.1
          obtain ⟨r, hr⟩ : ∃ r, recN m s = r := ⟨_, rfl⟩
          have HC := As.mk (show (headC (nthP rs 0) : Int) = (hc : Int) by rw [hhc])
          have HM := As.mk (show (headN (nthP rs 0) : Int) = (m : Int) by rw [hm])
          have HHC := As.mk hhc
          have HHM := As.mk hm
          have HR := As.mk hr
          have HM2 := As.mk hm2
          have HC2 := As.mk hc2
          by_cases hlr : n < r
          · have HUF := As.mk (unpack_form K kn kc rs HRS.out (some ad) n c w2 (by have := HN.out; omega) HR2.out HWH.out (.inr ⟨hf, by rw [hm, h0s, hr]; exact hlr⟩))
            have y0 : decide ((n : Int) < (r : Int)) = true := decide_eq_true (by omega)
            have y1 : decide (n < r) = true := decide_eq_true hlr
            by_cases h1000 : 1000 < m
            · have x0 : decide (1000 < (m : Int)) = true := decide_eq_true (by omega)
              have x1 : decide (1000 < m) = true := decide_eq_true h1000
              clear hwh s1 s2 s3 s4 s5 h0s q1 hf hhc hm hfi hm2 hc2 hr hlr h1000
              go_wp2_with (first
                | (go_at_call 83; (with_reducible refine HUF.out.mono ?_); rintro e w3 ⟨rfl, hb⟩; have HB3 := As.mk (below_step HBW.out hb); have q03 := cell_keep q0 hb; have HR3 := As.mk (HR0.out.below hb); clear hb)
                | (go_at_call 76; (with_reducible refine (wideR_e _ true HWI.out _).mono ?_); rintro e w4 ⟨rfl, rfl⟩)
                | (go_at_call 82; (with_reducible refine (headR_any (nthP rs 0) HBY.out A0 s c0 w3 (by have := HS.out; omega) HR3.out hc m true HF.out HC.out HM.out).mono ?_); rintro e w5 ⟨rfl, rfl⟩))
              go_ret
              exact ⟨rfl, HB3.out⟩
            · have x0 : decide (1000 < (m : Int)) = false := decide_eq_false (by omega)
              have x1 : decide (1000 < m) = false := decide_eq_false h1000
              clear hwh s1 s2 s3 s4 s5 h0s q1 hf hhc hm hfi hm2 hc2 hr hlr h1000
              go_wp2_with (first
                | (go_at_call 83; (with_reducible refine HUF.out.mono ?_); rintro e w3 ⟨rfl, hb⟩; have HB3 := As.mk (below_step HBW.out hb); have q03 := cell_keep q0 hb; have HR3 := As.mk (HR0.out.below hb); clear hb)
                | (go_at_call 76; (with_reducible refine (wideR_e _ true HWI.out _).mono ?_); rintro e w4 ⟨rfl, rfl⟩)
                | (go_at_call 82; (with_reducible refine (headR_any (nthP rs 0) HBY.out A0 s c0 w3 (by have := HS.out; omega) HR3.out hc m true HF.out HC.out HM.out).mono ?_); rintro e w5 ⟨rfl, rfl⟩)
                | (go_at_call 77; (with_reducible refine (sizeR2 m s r _ _ rfl rfl HM2.out HS2.out HR.out _).mono ?_); rintro e w6 ⟨rfl, rfl⟩))
              go_ret
              exact ⟨rfl, HB3.out⟩
          · have HLR := As.mk (show r ≤ n by omega)
            have hmr : m ≤ 40 := by have : recN m s = 1 + ceil (4 * m) s + m := rfl; have := HN.out; omega
            have HM40 := As.mk hmr
            obtain ⟨x, hx⟩ : ∃ x, ceil (4 * m) s = x := ⟨_, rfl⟩
            have HXC := As.mk hx
            have HUA := As.mk (unpack_any key HX.out K kn kc (by have := HKN.out; omega) rs HRS.out (some ad) n c w2 (by have := HN.out; omega) HK2.out HR2.out HWH.out hf (by rw [hm, h0s, hr]; omega))
            rw [hm, h0s, hr, hx, hhc] at HUA
            have y0 : decide ((n : Int) < (r : Int)) = false := decide_eq_false (by omega)
            have y1 : decide (n < r) = false := decide_eq_false hlr
            have x0 : decide (1000 < (m : Int)) = false := decide_eq_false (by omega)
            have x1 : decide (1000 < m) = false := decide_eq_false (by omega)
            obtain ⟨M, hM⟩ : ∃ M, M = r * s := ⟨_, rfl⟩
            have HMM := As.mk hM
            have hnb : nb = n * s := by
              rw [← HRA.out.len, flat_eq (B := s) (fun p hp => by obtain ⟨j, hj, rfl⟩ := mem_nthP hp; exact s5 j hj), HL.out]
            have HMN := As.mk (show M ≤ nb by rw [hM, hnb]; exact Nat.mul_le_mul_right s (by omega))
            have HPU := As.mk (fun (ht : tagOk key rs (r - 1) = true) (hpl : plOk (placesB rs x) m = true) => (show packB key hc (esN rs x (placesB rs x) m) s = rs.flatten.take M by
              have h1 := pack_of_unpack (key := key) (rs := rs) (s := s) (m := m) HRS.out s5 (by omega) hf hm (by rw [hr, HL.out]; omega) (by rw [hr]; exact ht) (by rw [hx]; exact hpl)
              rw [hx, hhc, hr] at h1
              rw [h1, hM]
              have h2 : rs.flatten = (rs.take r).flatten ++ (rs.drop r).flatten := by rw [← List.flatten_append, List.take_append_drop]
              have h3 : (rs.take r).flatten.length = r * s := by
                rw [flat_eq (B := s) (fun p hp => by obtain ⟨j, hj, rfl⟩ := mem_nthP (List.mem_of_mem_take hp); exact s5 j hj), List.length_take]
                congr 1
                have := HL.out
                omega
              have h4 : ((rs.take r).flatten ++ (rs.drop r).flatten).take (r * s) = (rs.take r).flatten := by rw [List.take_append_of_le_length (Nat.le_of_eq h3.symm), List.take_of_length_le (Nat.le_of_eq h3)]
              rw [← h2] at h4
              exact h4.symm))
            have HMY := As.mk (fun (hpl : plOk (placesB rs x) m = true) => may_esN (rs := rs) (x := x) (m := m) (s := s) hpl (by have : recN m s = 1 + ceil (4 * m) s + m := rfl; have := HL.out; omega) s5)
            have HBE := As.mk (byte_esN (rs := rs) (x := x) (m := m) (pl := placesB rs x) HRS.out (by have : recN m s = 1 + ceil (4 * m) s + m := rfl; have := HL.out; omega))
            have HREC := As.mk (show recN m s = 1 + (r - 1) by have : recN m s = 1 + ceil (4 * m) s + m := rfl; omega)
            have HMM2 := As.mk (show M = (1 + (r - 1)) * s by rw [hM]; congr 1; have : recN m s = 1 + ceil (4 * m) s + m := rfl; omega)
            have hcM : ∀ W, (Instr.slice 37 (.slice R nb co) none (some (.int .i64 (M : Int))) none).run Try.prog W = .ok (.slice (cutA R co 0 1) M co) W := fun W => run_cut_to (P := Try.prog) W 37 5 Try.underlying37 CloneB.info R nb co M .i64 (by have := HRA.out.le; have := HMN.out; omega)
            have m0 : decide ((M : Int) ≤ (nb : Int)) = true := decide_eq_true (by have := HMN.out; omega)
            have m1 : decide (M ≤ nb) = true := decide_eq_true HMN.out
            clear hwh s1 s2 s3 s4 s5 h0s q1 hf hhc hm hfi hm2 hc2 hr hlr hmr hx hM hnb
            go_wp2_with fail
            refine HUA.out.mono ?_
            rintro e w3 ⟨B, cb, hb, hpost⟩
            have HB3 := As.mk (below_step HBW.out hb)
            have q03 := cell_keep q0 hb
            have HR3 := As.mk (HR0.out.below hb)
            have HRA3 := As.mk (HRA.out.below hb)
            have HK3 := As.mk (HK2.out.below hb)
            rcases hpost with ⟨ht, hpl, rfl, hre⟩ | ⟨_, rfl⟩
            · have HEQ := As.mk (HPU.out ht hpl)
              have HMY2 := As.mk (HMY.out hpl)
              have HRE := As.mk hre
              have hct0 : (0 : Int) ≤ (hc : Int) := by omega
              clear hb ht hpl hre HUA
              generalize esN rs x (placesB rs x) m = es at *
              go_wp2_with (first
                | (go_at_call 76; (with_reducible refine (wideR_e _ true HWI.out _).mono ?_); rintro e w4 ⟨rfl, rfl⟩)
                | (go_at_call 82; (with_reducible refine (headR_any (nthP rs 0) HBY.out A0 s c0 w3 (by have := HS.out; omega) HR3.out hc m true HF.out HC.out HM.out).mono ?_); rintro e w5 ⟨rfl, rfl⟩)
                | (go_at_call 77; (with_reducible refine (sizeR2 m s r _ _ rfl rfl HM2.out HS2.out HR.out _).mono ?_); rintro e w6 ⟨rfl, rfl⟩)
                | (go_at_call 80; (with_reducible refine (packR_ok key HX.out K kn kc hc HC2.out B m cb es HBE.out s HS.out HMY2.out (by have := HM40.out; omega) (r - 1) HREC.out M HMM2.out w3 HK3.out HRE.out (by have := HKN.out; omega)).mono ?_); rintro e w7 ⟨P7, c7, rfl, hr, hb⟩; have HR7 := As.mk hr; have HRA7 := As.mk ((HRA3.out.below hb).to M HMN.out); have HB7 := As.mk (below_step HB3.out hb); clear hr hb)
                | (go_at_call 61; (with_reducible refine (Go.Proofs.Yteajblfkfmopfaa.RefSame.same_any (packB key hc es s) (rs.flatten.take M) P7 (cutA R co 0 1) M M c7 co w7 true (by have := HMN.out; have := HNBB.out; omega) (iff_of_true rfl HEQ.out) HR7.out HRA7.out).mono ?_); rintro e w8 ⟨rfl, nd, rfl⟩))
              go_ret
              exact ⟨rfl, below_drewN HB7.out _⟩
            · clear hb HUA
              go_wp2_with (first
                | (go_at_call 76; (with_reducible refine (wideR_e _ true HWI.out _).mono ?_); rintro e w4 ⟨rfl, rfl⟩)
                | (go_at_call 82; (with_reducible refine (headR_any (nthP rs 0) HBY.out A0 s c0 w3 (by have := HS.out; omega) HR3.out hc m true HF.out HC.out HM.out).mono ?_); rintro e w5 ⟨rfl, rfl⟩)
                | (go_at_call 77; (with_reducible refine (sizeR2 m s r _ _ rfl rfl HM2.out HS2.out HR.out _).mono ?_); rintro e w6 ⟨rfl, rfl⟩))
              go_ret
              exact ⟨rfl, HB3.out⟩
        · have HF := As.mk hf
          have HV := As.mk (no_vals hf)
          have HUF := As.mk (unpack_form K kn kc rs HRS.out (some ad) n c w2 (by have := HN.out; omega) HR2.out HWH.out (.inl hf))
          clear hwh s1 s2 s3 s4 s5 h0s q1 hf
          go_wp2_with (first
            | (go_at_call 83; (with_reducible refine HUF.out.mono ?_); rintro e w3 ⟨rfl, hb⟩; have HB3 := As.mk (below_step HBW.out hb); have q03 := cell_keep q0 hb; have HR3 := As.mk (HR0.out.below hb); clear hb)
            | (go_at_call 76; (with_reducible refine (wideR_e _ true HWI.out _).mono ?_); rintro e w4 ⟨rfl, rfl⟩)
            | (go_at_call 82; (with_reducible refine (headR_any (nthP rs 0) HBY.out A0 s c0 w3 (by have := HS.out; omega) HR3.out 0 0 false HF.out HV.out.1 HV.out.2).mono ?_); rintro e w5 ⟨rfl, rfl⟩))
          go_ret
          exact ⟨rfl, HB3.out⟩
      · have HWH := As.mk hwh
        have hw2 := hwh
        unfold wholeB at hw2
        rw [HLK.out, HL.out] at hw2
        rcases Nat.eq_zero_or_pos n with rfl | hp
        · clear hwh hw2
          go_wp2_with (go_at_call 83; (with_reducible refine (unpack_arg K kn kc rs A 0 c w2 (by decide) HR2.out HWH.out).mono ?_); rintro e w3 ⟨rfl, rfl⟩)
          go_ret
          exact ⟨rfl, HBW.out⟩
        · have z0 : ((n : Int) == 0) = false := beq_eq_false_iff_ne.2 (by omega)
          have z1 : (n == 0) = false := beq_eq_false_iff_ne.2 (by omega)
          have z2 : (0 : Int) < (n : Int) := by omega
          have z3 : 0 < n := hp
          rw [decide_eq_true hp, Bool.true_and] at hw2
          cases on with
          | false =>
            clear hwh hw2
            go_wp2_with (go_at_call 83; (with_reducible refine (unpack_arg K kn kc rs A n c w2 (by have := HN.out; omega) HR2.out HWH.out).mono ?_); rintro e w3 ⟨rfl, rfl⟩)
            go_ret
            exact ⟨rfl, HBW.out⟩
          | true =>
            have HWI := As.mk (show wideE ((nthP rs 0).length : Nat) = false by rw [Bool.true_and] at hw2; exact hw2)
            obtain ⟨ad, Ak, ck, ea, h3, h4⟩ := HR2.out.at 0 hp
            cases ea
            rw [add_zero'] at h3
            have hcap := h4.le
            clear hwh hw2 h4
            go_wp2_with (first
              | (go_at_call 83; (with_reducible refine (unpack_arg K kn kc rs (some ad) n c w2 (by have := HN.out; omega) HR2.out HWH.out).mono ?_); rintro e w3 ⟨rfl, rfl⟩)
              | (go_at_call 76; (with_reducible refine (wideR_e _ false HWI.out _).mono ?_); rintro e w4 ⟨rfl, rfl⟩))
            go_ret
            exact ⟨rfl, HBW.out⟩
theorem unpacks_walk (K : Option Addr) (kn kc : Nat) (key : List Int) (A : Option Addr) (n c : Nat) (rs : List (List Int)) (w : World) (h0 : Rd .u8 w K kn kc key) (hk : ∀ i ∈ key, (Lit.int .u8 i).wf = true) (_ : kn * 1 ≤ 140737488351232) (h : RdP w A n c rs) (hrs : ∀ p ∈ rs, ∀ i ∈ p, (Lit.int .u8 i).wf = true) :
    Calls Try.prog 14 #[.slice K kn kc, .slice A n c] w fun e w' => e = .returned (.bool true) ∧ Below w.heap.size w w' := by
  by_cases h1 : 40 < n
  · exact unpacks_far K kn kc A n c w (.inl h1)
  · by_cases h2 : 100 < kn
    · exact unpacks_far K kn kc A n c w (.inr ⟨by omega, h2⟩)
    · exact unpacks_near key (Go.Proofs.Yteajblfkfmopfaa.Mem.byte_of hk) K kn kc (by omega) rs (fun p hp => Go.Proofs.Yteajblfkfmopfaa.Mem.byte_of (hrs p hp)) A n c (by omega) w h0 h
end Go.Proofs.Yteajblfkfmopfaa.Jour
