/- chatelaineref20.Counts; bound.Bytes. -/
import Derived.Test.YteajblfkfmopfaaBoundD
import Derived.Test.YteajblfkfmopfaaBoundI
import Derived.Test.YteajblfkfmopfaaMem2
namespace Go.Proofs.Yteajblfkfmopfaa.Bound
set_option linter.unusedVariables false
set_option linter.unusedSimpArgs false
open Go Go.RowKit Go.Proofs.Yteajblfkfmopfaa.Mem Go.Proofs.Yteajblfkfmopfaa.Geo Go.Proofs.Yteajblfkfmopfaa.LayA

theorem infoInt : (Try.prog.info? 3).map (fun i => (i.zero, i.size, i.bytes)) = some (some (.int .i64 0), 1, 8) := by kernel_rfl
theorem ups_map (n k : Nat) : (upsL n (k + 1)).map (Value.int .i64) = (upsL n k).map (Value.int .i64) ++ [.int .i64 (cN n k : Nat)] := by rw [ups_succ, List.map_append]; rfl
theorem back_map (n k : Nat) : (backL n (k + 1)).map (Value.int .i64) = (backL n k).map (Value.int .i64) ++ [.int .i64 (cN n (depN n - k) : Nat)] := by rw [back_succ, List.map_append]; rfl
theorem ups_nth (n k i : Nat) (h : i < k) : nth (upsL n k) i = (cN n i : Nat) := by
  unfold upsL
  rw [nth_getD, List.getD_eq_getElem?_getD, List.getElem?_map, List.getElem?_range h]
  rfl
theorem cell_src {w : World} {T : TypeId} {u : Value} (hu : u.oneCell' = true) : Go.Proofs.Yteajblfkfmopfaa.Mem.Src (w.alloc (.cells #[u] T)) (.slice (some ⟨w.heap.size, 0, none⟩) 1 1) 1 1 [u] := Src.cell (heap_alloc_new w _) hu
set_option maxHeartbeats 2000000 in
set_option maxRecDepth 100000 in
theorem counts_ok (n : Nat) (hn : 1 ≤ n ∧ n ≤ 4096) (w : World) :
    Calls Try.prog 24 #[.int .i64 (n : Int)] w fun e w' => ∃ A c, e = .returned (.slice A (depN n + 1) c) ∧ Rd .i64 w' A (depN n + 1) c (countsL n) ∧ Below w.heap.size w w' := by
  have HN := As.mk hn
  have HD6 := As.mk (dep_bd n)
  obtain ⟨D, hD⟩ : ∃ D, depN n = D := ⟨_, rfl⟩
  have HD := As.mk hD
  rw [hD] at HD6
  have HC0 := As.mk (c_zero n)
  clear hn hD
  go_enter Try.func24, Try.ntmps24
  go_wp2
  go_loopg [3, 4] 9 (fun kq v3 v4 wr => ∃ (i x : Nat) (A : Option Addr) (c : Nat), i + kq = 9 ∧ v3 = .slice A i c ∧ v4 = .int .i64 (x : Int) ∧ As (i ≤ D ∧ cN n i = x) ∧ As (OwnAt wr w.heap.size (.slice A i c) i ((upsL n i).map (Value.int .i64))) ∧ As (Below w.heap.size w wr))
  case atStart => exact ⟨0, n, none, 0, by omega, rfl, rfl, ⟨Nat.zero_le _, HC0.out⟩, ⟨OwnAt.nil _ _⟩, ⟨Below.refl _ _⟩⟩
  case round =>
    obtain ⟨i, x, A, c, hi, rfl, rfl, HX, HO, HB⟩ := hrel
    have HI := As.mk hi
    have hxl := c_le n i
    rw [HX.out.2] at hxl
    have HXL := As.mk (show x ≤ 4097 by have := HN.out; omega)
    clear hi hxl
    have HU : As ((upsL n (i + 1)).map (Value.int .i64) = (upsL n i).map (Value.int .i64) ++ [.int .i64 (x : Int)]) := ⟨by rw [ups_map, HX.out.2]⟩
    have HB1 := As.mk (below_alloc HB.out (.cells #[.int .i64 (x : Int)] 3))
    have HO1 := As.mk (HO.out.below (below_alloc (Below.refl wr.heap.size wr) (.cells #[.int .i64 (x : Int)] 3)))
    have HS1 : As (Go.Proofs.Yteajblfkfmopfaa.Mem.Src (wr.alloc (.cells #[.int .i64 (x : Int)] 3)) (.slice (some ⟨wr.heap.size, 0, none⟩) 1 1) 1 1 [.int .i64 (x : Int)]) := ⟨cell_src rfl⟩
    by_cases hx1 : x = 1 ∧ 1 ≤ i
    · have e0 : ((x : Int) == 1) = true := by simp [hx1.1]
      have e0' : (x == 1) = true := by simp [hx1.1]
      have HID : As (i = D) := ⟨by
        rcases Nat.lt_or_ge i D with h | h
        · have := c_more (n := n) (k := i) (by rw [HD.out]; exact h) hx1.2
          rw [HX.out.2] at this
          omega
        · have := HX.out.1; omega⟩
      have e1 : decide ((1 : Int) < ((i + 1 : Nat) : Int)) = true := decide_eq_true (by omega)
      have e1' : decide (1 < i + 1) = true := decide_eq_true (by omega)
      have e1'' : decide (0 < i) = true := decide_eq_true (by omega)
      have e13 : decide ((1 : Int) < (i : Int) + 1) = true := decide_eq_true (by omega)
      have e2 : decide ((0 : Int) < (i : Int)) = true := decide_eq_true (by omega)
      clear hx1
      go_wp2_with (at_builtin; refine wpList_app2 rfl _ _ 24 rfl w.heap.size 3 (.int .i64 0) 8 Try.underlying24 infoInt rfl _ i _ rfl HO1.out _ 1 _ rfl HS1.out ?c1 ?c2 HB1.out.size HB1.out (Nat.le_refl _) ?_; (case c1 => have := HX.out.1; have := HD6.out; unfold maxLen; omega); (case c2 => have := HX.out.1; have := HD6.out; omega); intro va wa hown hg hat hb; obtain ⟨Aa, ca, rfl⟩ := hown.slice; rw [← HU.out] at hown; have HOa := As.mk hown; have HBa := As.mk hb; clear hown hg hat hb; refine As.out ?_)
      refine As.mk ?_
      obtain rfl := HID.out
      obtain ⟨A0, c0', e0r, hr0⟩ := HOa.out.rd
      cases e0r
      have HR0 := As.mk hr0
      have hw0 : wrap64 (((i + 1 : Nat) : Int) - 1) = (i : Int) := wn _ (by omega) (by have := HD6.out; omega)
      have hw1 : wrap64 ((i : Int) + 1 - 1) = (i : Int) := wn _ (by omega) (by have := HD6.out; omega)
      clear hr0 HO HB HU HB1 HO1 HS1 HI HX HXL HOa
      go_wp2
      clear hw0 hw1 e0 e0' e1 e1' e1'' e2 e13
      obtain ⟨wo, rfl⟩ : ∃ wo : World, wo = wr := ⟨_, rfl⟩
      go_loopg [5, 6] (i + 1) (fun kq v5 v6 wr => ∃ (j : Nat) (z : Int) (B : Option Addr) (d : Nat), j + kq = i + 1 ∧ v5 = .slice B j d ∧ v6 = .int .i64 z ∧ As (z = (i : Int) - (j : Int)) ∧ As (OwnAt wr wa.heap.size (.slice B j d) j ((backL n j).map (Value.int .i64))) ∧ As (Below wa.heap.size wa wr))
      case atStart => exact ⟨0, i, none, 0, by omega, rfl, by first | rfl | rw [Geo.wr (i : Int) (by have := HD6.out; omega)], ⟨by omega⟩, ⟨OwnAt.nil _ _⟩, ⟨Below.refl _ _⟩⟩
      case round =>
        obtain ⟨j, z, B, d, hj, rfl, rfl, HZ, HO, HB⟩ := hrel
        have HJ := As.mk hj
        clear hj
        by_cases hlt : j ≤ i
        · obtain ⟨t, ht⟩ := Int.eq_ofNat_of_zero_le (show 0 ≤ z by have := HZ.out; omega)
          subst ht
          have HT : As (t + j = i) := ⟨by have := HZ.out; omega⟩
          have f0 : decide ((0 : Int) ≤ (t : Int)) = true := decide_eq_true (by omega)
          have htl : (t : Int) < ((i + 1 : Nat) : Int) := by have := HT.out; omega
          have htl' : t < i + 1 := by have := HT.out; omega
          have htl2 : (t : Int) < (i : Int) + 1 := by have := HT.out; omega
          have hw : wrap64 ((t : Int) - 1) = (t : Int) - 1 := Geo.wr _ (by have := HT.out; have := HD6.out; omega)
          obtain ⟨ad, ea, cc⟩ := (HR0.out.below HB.out).at t htl'
          cases ea
          rw [ups_nth n (i + 1) t htl'] at cc
          have HBM : As ((backL n (j + 1)).map (Value.int .i64) = (backL n j).map (Value.int .i64) ++ [.int .i64 (cN n t : Nat)]) := ⟨by rw [back_map, HD.out, show i - j = t by have := HT.out; omega]⟩
          have HB1 := As.mk (below_alloc HB.out (.cells #[.int .i64 (cN n t : Nat)] 3))
          have HO1 := As.mk (HO.out.below (below_alloc (Below.refl wr.heap.size wr) (.cells #[.int .i64 (cN n t : Nat)] 3)))
          have HS1 : As (Go.Proofs.Yteajblfkfmopfaa.Mem.Src (wr.alloc (.cells #[.int .i64 (cN n t : Nat)] 3)) (.slice (some ⟨wr.heap.size, 0, none⟩) 1 1) 1 1 [.int .i64 (cN n t : Nat)]) := ⟨cell_src rfl⟩
          generalize cN n t = y at *
          clear hlt
          go_wp2_with (at_builtin; refine wpList_app2 rfl _ _ 24 rfl wa.heap.size 3 (.int .i64 0) 8 Try.underlying24 infoInt rfl _ j _ rfl HO1.out _ 1 _ rfl HS1.out ?c3 ?c4 HB1.out.size HB1.out (Nat.le_refl _) ?_; (case c3 => have := HT.out; have := HD6.out; unfold maxLen; omega); (case c4 => have := HT.out; have := HD6.out; omega); intro vb wb hown hg hat hb; obtain ⟨Ab, cb, rfl⟩ := hown.slice; rw [← HBM.out] at hown; have HOb := As.mk hown; have HBb := As.mk hb; clear hown hg hat hb)
          go_roundg (i + 1 - (j + 1))
          case measure => have := HJ.out; have := HT.out; omega
          case rel => exact ⟨j + 1, (t : Int) - 1, Ab, cb, by have := HJ.out; have := HT.out; omega, rfl, by first | rfl | rw [hw], ⟨by have := HT.out; omega⟩, HOb, HBb⟩
        · have f0 : decide ((0 : Int) ≤ z) = false := decide_eq_false (by have := HZ.out; omega)
          obtain rfl : j = i + 1 := by have := HJ.out; omega
          obtain ⟨B1, d1, e1r, hr1⟩ := HO.out.rd
          cases e1r
          have HR1 : As (Rd .i64 wr B (i + 1) d (countsL n)) := ⟨by rw [← back_all, HD.out]; exact hr1⟩
          have HBF := As.mk (below_step HBa.out HB.out)
          clear hlt hr1
          go_wp2
          go_ret
          exact ⟨B, d, by rw [HD.out]; rfl, by rw [HD.out]; exact HR1.out, HBF.out⟩
    · have HSC := As.mk (c_succ n i)
      have hstep : i < D := by
        rcases Nat.lt_or_ge i D with h | h
        · exact h
        · exfalso
          have h2 := HX.out.1
          have h3 : i = D := by omega
          have h4 := c_top HN.out.1 HN.out.2
          rw [HD.out, ← h3, HX.out.2] at h4
          have h5 := HD6.out
          exact hx1 ⟨h4, by omega⟩
      have HLD := As.mk hstep
      have hx3 : (0 : Int) ≤ (x : Int) := by omega
      have hx4 : (x : Int) ≤ 4097 := by have := HXL.out; omega
      have hsucc : ((x : Int) + 3) / 4 = ((cN n (i + 1) : Nat) : Int) := by
        rw [← HSC.out, HX.out.2]
        omega
      have HSU := As.mk hsucc
      rcases (show x ≠ 1 ∨ i = 0 by by_cases h : x = 1; exact .inr (by rcases Nat.eq_zero_or_pos i with h0 | h0; exact h0; exact absurd ⟨h, h0⟩ hx1); exact .inl h) with hne | hi0
      · have e0 : ((x : Int) == 1) = false := beq_eq_false_iff_ne.2 (by omega)
        have e0' : (x == 1) = false := beq_eq_false_iff_ne.2 hne
        clear hx1 hne hstep hsucc
        go_wp2_with (at_builtin; refine wpList_app2 rfl _ _ 24 rfl w.heap.size 3 (.int .i64 0) 8 Try.underlying24 infoInt rfl _ i _ rfl HO1.out _ 1 _ rfl HS1.out ?c5 ?c6 HB1.out.size HB1.out (Nat.le_refl _) ?_; (case c5 => have := HX.out.1; have := HD6.out; unfold maxLen; omega); (case c6 => have := HX.out.1; have := HD6.out; omega); intro va wa hown hg hat hb; obtain ⟨Aa, ca, rfl⟩ := hown.slice; rw [← HU.out] at hown; have HOa := As.mk hown; have HBa := As.mk hb; clear hown hg hat hb; refine As.out ?_)
        refine As.mk ?_
        go_wp2
        go_roundg (9 - (i + 1))
        case measure => have := HI.out; have := HLD.out; have := HD6.out; omega
        case rel => exact ⟨i + 1, cN n (i + 1), Aa, ca, by have := HI.out; have := HLD.out; have := HD6.out; omega, rfl, by rw [HSU.out], ⟨by have := HLD.out; omega, rfl⟩, HOa, HBa⟩
      · subst hi0
        have e1 : decide ((1 : Int) < ((0 + 1 : Nat) : Int)) = false := by decide
        have e1' : decide (1 < 0 + 1) = false := by decide
        clear hx1 hstep hsucc
        rcases Bool.eq_false_or_eq_true ((x : Int) == 1) with e0 | e0
        · have e0' : (x == 1) = true := beq_iff_eq.2 (by have := beq_iff_eq.1 e0; omega)
          go_wp2_with (at_builtin; refine wpList_app2 rfl _ _ 24 rfl w.heap.size 3 (.int .i64 0) 8 Try.underlying24 infoInt rfl _ 0 _ rfl HO1.out _ 1 _ rfl HS1.out ?c7 ?c8 HB1.out.size HB1.out (Nat.le_refl _) ?_; (case c7 => have := HX.out.1; have := HD6.out; unfold maxLen; omega); (case c8 => have := HX.out.1; have := HD6.out; omega); intro va wa hown hg hat hb; obtain ⟨Aa, ca, rfl⟩ := hown.slice; rw [← HU.out] at hown; have HOa := As.mk hown; have HBa := As.mk hb; clear hown hg hat hb; refine As.out ?_)
          refine As.mk ?_
          go_wp2
          go_roundg (9 - (0 + 1))
          case measure => have := HI.out; omega
          case rel => exact ⟨0 + 1, cN n (0 + 1), Aa, ca, by have := HI.out; omega, rfl, by rw [HSU.out], ⟨by have := HLD.out; omega, rfl⟩, HOa, HBa⟩
        · have e0' : (x == 1) = false := beq_eq_false_iff_ne.2 (by have := beq_eq_false_iff_ne.1 e0; omega)
          go_wp2_with (at_builtin; refine wpList_app2 rfl _ _ 24 rfl w.heap.size 3 (.int .i64 0) 8 Try.underlying24 infoInt rfl _ 0 _ rfl HO1.out _ 1 _ rfl HS1.out ?c9 ?d9 HB1.out.size HB1.out (Nat.le_refl _) ?_; (case c9 => have := HX.out.1; have := HD6.out; unfold maxLen; omega); (case d9 => have := HX.out.1; have := HD6.out; omega); intro va wa hown hg hat hb; obtain ⟨Aa, ca, rfl⟩ := hown.slice; rw [← HU.out] at hown; have HOa := As.mk hown; have HBa := As.mk hb; clear hown hg hat hb; refine As.out ?_)
          refine As.mk ?_
          go_wp2
          go_roundg (9 - (0 + 1))
          case measure => have := HI.out; omega
          case rel => exact ⟨0 + 1, cN n (0 + 1), Aa, ca, by have := HI.out; omega, rfl, by rw [HSU.out], ⟨by have := HLD.out; omega, rfl⟩, HOa, HBa⟩
end Go.Proofs.Yteajblfkfmopfaa.Bound
