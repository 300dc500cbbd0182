/- The statement CrashDisk. -/
import Derived.Test.YteajblfkfmopfaaDiskJ
namespace Go.Proofs.Yteajblfkfmopfaa.Disk
set_option linter.unusedVariables false
set_option linter.unusedSimpArgs false
open Go Go.RowKit Go.Proofs.Yteajblfkfmopfaa.Mem Go.Proofs.Yteajblfkfmopfaa.Put32 Go.Proofs.Yteajblfkfmopfaa.Sum Go.Proofs.Yteajblfkfmopfaa.Hmac Go.Proofs.Yteajblfkfmopfaa.Parts Go.Proofs.Yteajblfkfmopfaa.Entries Go.Proofs.Yteajblfkfmopfaa.CrashApply Go.Proofs.Yteajblfkfmopfaa.LawCrash

set_option maxHeartbeats 2000000 in
set_option maxRecDepth 100000 in
theorem disk_far (w : World) (E F K : Option Addr) (m d n c kn kc : Nat) (h : 14 < m ∨ 14 < n ∨ 40 < kn) :
    Calls Try.prog 10 #[.slice E m d, .slice F n c, .slice K kn kc] w fun e w' => e = .returned (.bool true) ∧ Below w.heap.size w w' := by
  by_cases h1 : 14 < m
  · have i1 : (14 : Int) < (m : Int) := by omega
    have c1 : decide ((14 : Int) < (m : Int)) = true := decide_eq_true i1
    have c2 : decide (14 < m) = true := decide_eq_true h1
    clear h h1
    go_enter Try.func10, Try.ntmps10
    go_wp2_with (go_at_call 43; (with_reducible refine (awake_true _).mono ?_); rintro e w1 ⟨rfl, hb⟩; have HB1 := As.mk hb; clear hb)
    go_ret
    exact ⟨rfl, HB1.out⟩
  · have i1 : ¬ (14 : Int) < (m : Int) := by omega
    have c1 : decide ((14 : Int) < (m : Int)) = false := decide_eq_false i1
    have c2 : decide (14 < m) = false := decide_eq_false h1
    by_cases h2 : 14 < n
    · have i2 : (14 : Int) < (n : Int) := by omega
      have c3 : decide ((14 : Int) < (n : Int)) = true := decide_eq_true i2
      have c4 : decide (14 < n) = true := decide_eq_true h2
      clear h h1 h2
      go_enter Try.func10, Try.ntmps10
      go_wp2_with (go_at_call 43; (with_reducible refine (awake_true _).mono ?_); rintro e w1 ⟨rfl, hb⟩; have HB1 := As.mk hb; clear hb)
      go_ret
      exact ⟨rfl, HB1.out⟩
    · have i2 : ¬ (14 : Int) < (n : Int) := by omega
      have c3 : decide ((14 : Int) < (n : Int)) = false := decide_eq_false i2
      have c4 : decide (14 < n) = false := decide_eq_false h2
      have h3 : 40 < kn := by omega
      have i3 : (40 : Int) < (kn : Int) := by omega
      have c5 : decide ((40 : Int) < (kn : Int)) = true := decide_eq_true i3
      have c6 : decide (40 < kn) = true := decide_eq_true h3
      clear h h1 h2 h3
      go_enter Try.func10, Try.ntmps10
      go_wp2_with (go_at_call 43; (with_reducible refine (awake_true _).mono ?_); rintro e w1 ⟨rfl, hb⟩; have HB1 := As.mk hb; clear hb)
      go_ret
      exact ⟨rfl, HB1.out⟩
theorem new_6 (w : World) : Calls Try.prog 55 #[.int .i64 6, .int .i64 32] w fun e w' => ∃ M P, e = .returned (.tuple #[.pointer (some ⟨P, 0, none⟩), .int .i64 0]) ∧ DAt w' M P (newS 6 32) ∧ Below w.heap.size w w' ∧ ∀ b, M b → w.heap.size ≤ b :=
  new_ok w 6 32 (by decide) (by decide) (by decide)
/-- what stands while writes are tried -/
structure Inv (S : DS) (i : Nat) : Prop where
  n : S.n = 6
  size : S.size = 32
  off : S.off = false
  fuse : S.fuse = 0
  steps : S.steps ≤ i
  waits : S.waits.length ≤ i
  well : Well S
theorem Inv.j {S S' : DS} {i : Nat} {s r : Int} {q : List Int} (h : Inv S i) (hj : WJ S s q r S') (hq : Byte q) : Inv S' (i + 1) := by
  rcases hj with ⟨_, _, _, hl, rfl⟩ | ⟨_, rfl⟩
  · exact ⟨h.n, h.size, h.off, by show S.fuse - 1 = 0; rw [h.fuse], Nat.succ_le_succ h.steps, by simp [writeS, stepS]; exact h.waits, h.well.step.write hq hl⟩
  · exact ⟨h.n, h.size, h.off, h.fuse, Nat.le_succ_of_le h.steps, Nat.le_succ_of_le h.waits, h.well⟩
theorem rd_none (S : DS) (s : Nat) (h : S.waits = []) : rdS S s = nthP S.kept s := by
  unfold rdS
  rw [h]
  rfl
theorem takeP (ps : List (List Int)) (i : Nat) (h : i < ps.length) : ps.take (i + 1) = ps.take i ++ [nthP ps i] := by
  rw [List.take_succ_eq_append_getElem h, nthP, List.getD_eq_getElem?_getD, List.getElem?_eq_getElem h]
  rfl
theorem may_free {S : DS} {s : Nat} (h0 : S.off = false) (hs : s < S.n) : mayD S (s : Int) = 0 := by
  unfold mayD
  rw [if_neg (by rw [h0]; decide), if_neg (by omega), if_neg (by omega)]
set_option maxHeartbeats 4000000 in
set_option maxRecDepth 100000 in
theorem disk_near (w : World) (E F K : Option Addr) (m d n c kn kc : Nat) (es fs : List (Int × List Int)) (bs : List Bool) (hm : m ≤ 14) (hn : n ≤ 14) (hk : kn ≤ 40) (h1 : RdE w E m d es) (h2 : RdE w F n c fs) (h3 : RdB w K kn kc bs) (be : ∀ e ∈ es, Byte e.2) (bf : ∀ e ∈ fs, Byte e.2) :
    Calls Try.prog 10 #[.slice E m d, .slice F n c, .slice K kn kc] w fun e w' => e = .returned (.bool true) ∧ Below w.heap.size w w' := by
  have HM := As.mk hm
  have HN := As.mk hn
  have HK := As.mk hk
  have H1 := As.mk h1
  have H2 := As.mk h2
  have H3 := As.mk h3
  have HBE := As.mk be
  have HBF := As.mk bf
  have i1 : ¬ (14 : Int) < (m : Int) := by omega
  have c1 : decide ((14 : Int) < (m : Int)) = false := decide_eq_false i1
  have c2 : decide (14 < m) = false := decide_eq_false (by omega)
  have i2 : ¬ (14 : Int) < (n : Int) := by omega
  have c3 : decide ((14 : Int) < (n : Int)) = false := decide_eq_false i2
  have c4 : decide (14 < n) = false := decide_eq_false (by omega)
  have i3 : ¬ (40 : Int) < (kn : Int) := by omega
  have c5 : decide ((40 : Int) < (kn : Int)) = false := decide_eq_false i3
  have c6 : decide (40 < kn) = false := decide_eq_false (by omega)
  clear hm hn hk h1 h2 h3 be bf
  go_enter Try.func10, Try.ntmps10
  go_wp2_with (first
    | (go_at_call 43; (with_reducible refine (awake_true _).mono ?_); rintro e w0 ⟨rfl, hb⟩; have HB0 := As.mk hb; have H10 := As.mk (H1.out.below hb); have H20 := As.mk (H2.out.below hb); have H30 := As.mk (H3.out.below hb); clear hb)
    | (go_at_call 55; (with_reducible refine (new_6 w0).mono ?_); rintro e w1 ⟨M1, P, rfl, hd, hb, hM⟩; have HD1 := As.mk hd; have HB1 := As.mk hb; have HM1 := As.mk hM; clear hd hb hM))
  clear i1 i2 i3 c1 c2 c3 c4 c5 c6
  go_loopg [45] m (fun kq v45 wr => ∃ (i : Nat) (M : Nat → Prop) (S : DS), i + kq = m ∧ v45 = .int .i64 (i : Int) ∧ As (DAt wr M P S) ∧ As (∀ b, M b → w0.heap.size ≤ b) ∧ As (Below w0.heap.size w0 wr) ∧ As (Inv S i))
  case atStart => exact ⟨0, M1, newS 6 32, by omega, rfl, HD1, HM1, HB1, ⟨⟨rfl, rfl, rfl, rfl, Nat.le_refl _, Nat.le_refl _, Well.new 6 32⟩⟩⟩
  case round =>
    clear HD1 HM1 HB1
    obtain ⟨i, M, S, hi, rfl, HD, HMB, HB, HI⟩ := hrel
    have HII := As.mk hi
    clear hi
    by_cases hlt : i < m
    · have c0 : decide ((i : Int) < (m : Int)) = true := decide_eq_true (by omega)
      have c1 : decide (i < m) = true := decide_eq_true hlt
      have lt' : (i : Int) < (m : Int) := by omega
      have HWU := As.mk (show wrap64 ((i : Int) + 1) = ((i + 1 : Nat) : Int) from wrap_up (by have := HM.out; omega))
      obtain ⟨ad, Aj, cj, ea, q1, q2, q3⟩ := H10.out.at i hlt
      cases ea
      have q1r := cell_keep q1 HB.out
      have q2r := cell_keep q2 HB.out
      have HBQ := As.mk (HBE.out _ (nthE_mem (es := es) (t := i) (by rw [H10.out.len]; exact hlt)))
      obtain ⟨s, hs⟩ : ∃ s, s = (nthE es i).1 := ⟨_, rfl⟩
      obtain ⟨q, hq⟩ : ∃ q, q = (nthE es i).2 := ⟨_, rfl⟩
      obtain ⟨ll, hll⟩ : ∃ ll, ll = q.length := ⟨_, rfl⟩
      rw [← hs] at q1r
      rw [← hq] at q2r q3 HBQ
      rw [← hll] at q2r q3
      have Q1 := As.mk q1r
      have Q2 := As.mk q2r
      have Q3 := As.mk q3
      have HLT := As.mk hlt
      have hba := below_alloc (Below.refl wr.heap.size wr) (.cells #[.int .i64 s, .slice Aj ll cj] 90)
      have hvw := heap_alloc_new wr (.cells #[.int .i64 s, .slice Aj ll cj] 90)
      obtain ⟨wb, hwb⟩ : ∃ wb, wr.alloc (.cells #[.int .i64 s, .slice Aj ll cj] 90) = wb := ⟨_, rfl⟩
      obtain ⟨g, hg⟩ : ∃ g, wr.heap.size = g := ⟨_, rfl⟩
      rw [hwb] at hba hvw
      rw [hg] at hvw
      have HWB := As.mk hwb
      have HG := As.mk hg
      have HDb := As.mk (HD.out.below hba)
      have HBb := As.mk (HB.out.trans (hba.mono HB.out.size))
      have p0 : wb.cell? ⟨g, 0, none⟩ = some (.int .i64 s) := by rw [cell_of_row _ _ 0 _ _ _ hvw]; rfl
      have p1 : wb.cell? ⟨g, 1, none⟩ = some (.slice Aj ll cj) := by rw [cell_of_row _ _ 1 _ _ _ hvw]; rfl
      clear q1 q2 q3 q1r q2r hs hq hll hlt hba hvw hwb hg HD HB
      go_upto_region 11 with (refine wpList_load_at rfl 90 (.tmp 47) rfl (ad.add (i * 2)) rfl [.int .i64 s, .slice Aj ll cj] _ (fun j v hv => by rcases j with _ | _ | j <;> simp at hv <;> subst hv <;> rw [add_add] <;> first | exact Q1.out | exact Q2.out) Try.underlying90 rfl infoEn ?_)
      rw [HWB.out, HG.out]
      have hw := HWU.out
      go_wp2_with (go_at_call 56; (with_reducible refine (write_j wb M P S HDb.out HI.out.off HI.out.fuse (by have := HI.out.steps; have := HLT.out; have := HM.out; omega) (by have := HI.out.waits; have := HLT.out; have := HM.out; omega) s Aj ll cj q (StR.old Q3.out HBb.out HMB.out)).mono ?_); rintro e w5 ⟨M5, r5, S5, rfl, hd, hj⟩; have HD5 := As.mk hd; have HJ5 := As.mk hj; clear hd hj p0 p1)
      go_roundg (m - (i + 1))
      case measure => have := HII.out; have := HLT.out; omega
      case rel =>
        refine ⟨i + 1, M5, S5, by have := HII.out; have := HLT.out; omega, by go_num, ⟨HD5.out.d⟩, ⟨fun b hb => ?_⟩, ⟨HBb.out.trans (HD5.out.g.below HMB.out HBb.out.size)⟩, ⟨HI.out.j HJ5.out HBQ.out⟩⟩
        rcases HD5.out.m b hb with h | h
        · exact HMB.out b h
        · exact Nat.le_trans HBb.out.size h
    · have c0 : decide ((i : Int) < (m : Int)) = false := decide_eq_false (by omega)
      have c1 : decide (i < m) = false := decide_eq_false hlt
      obtain rfl : m = i := by have := HII.out; omega
      clear hlt HII
      go_wp2_with (go_at_call 57; (with_reducible refine (flush_ok wr M P S HD.out HI.out.off (by rw [HI.out.fuse]; decide) (by have := HI.out.steps; have := HM.out; omega)).mono ?_); rintro e w2 ⟨rfl, hd⟩; have HD2 := As.mk hd.d; have HB2 := As.mk (HB.out.trans (hd.g.below HMB.out HB.out.size)); clear hd)
      have HI1 := As.mk (show Inv (flushS (stepS S)) 20 from ⟨HI.out.n, HI.out.size, HI.out.off, by show S.fuse - 1 = 0; rw [HI.out.fuse], by have := HI.out.steps; have := HM.out; show S.steps + 1 ≤ 20; omega, Nat.zero_le _, HI.out.well.step.flush⟩)
      have HW1 := As.mk (show (flushS (stepS S)).waits = [] from rfl)
      obtain ⟨S1, hS1⟩ : ∃ S1, S1 = flushS (stepS S) := ⟨_, rfl⟩
      rw [← hS1] at HD2 HI1 HW1
      clear hS1 HD HB HI
      have HKL := As.mk (show S1.kept.length = 6 by obtain ⟨_, _, _, _, _, _, _, _, D⟩ := HD2.out; rw [D.kl, HI1.out.n])
      obtain ⟨K1, hK1⟩ : ∃ K1, K1 = S1.kept := ⟨_, rfl⟩
      rw [← hK1] at HKL
      have HK1 := As.mk hK1
      clear hK1
      go_loopg [11, 58] 6 (fun kq v11 v58 wr => ∃ (i cv : Nat) (Av : Option Addr) (L : List Value), i + kq = 6 ∧ v58 = .int .i64 (i : Int) ∧ v11 = .slice Av i cv ∧ As (Parts wr w2.heap.size (.slice Av i cv) i L (K1.take i)) ∧ As (Fresh wr w2.heap.size (.slice Av i cv) L (K1.take i) i) ∧ As (Below w2.heap.size w2 wr))
      case atStart => exact ⟨0, 0, none, [], by omega, rfl, rfl, ⟨Parts.nil _ _⟩, ⟨fun j hj => by omega⟩, ⟨Below.refl _ _⟩⟩
      case round =>
        obtain ⟨i, cv, Av, L, hi, rfl, rfl, HP, HF, HBr⟩ := hrel
        have HII := As.mk hi
        clear hi
        by_cases hlt : i < 6
        · have c0 : decide ((i : Int) < 6) = true := decide_eq_true (by omega)
          have c1 : decide (i < 6) = true := decide_eq_true hlt
          have lt' : (i : Int) < 6 := by omega
          have HWU := As.mk (show wrap64 ((i : Int) + 1) = ((i + 1 : Nat) : Int) from wrap_up (by omega))
          have HLT := As.mk hlt
          have HTK := As.mk (takeP K1 i (by rw [HKL.out]; exact hlt))
          have HRV := As.mk (show rdS S1 i = nthP K1 i by rw [rd_none S1 i HW1.out, HK1.out])
          have HMY := As.mk (may_free (S := S1) (s := i) HI1.out.off (by rw [HI1.out.n]; exact hlt))
          clear hlt
          have hw := HWU.out
          go_wp2_with (first
            | (go_at_call 58; (with_reducible refine (read_ok wr M P S1 (HD2.out.below HBr.out) i HMY.out).mono ?_); rintro e w5 ⟨A5, c5, rfl, ho, hb⟩; rw [HRV.out] at ho; have HO5 := As.mk ho; have HB5 := As.mk (HBr.out.trans (hb.mono HBr.out.size)); have HP5 := As.mk (HP.out.below hb); have HF5 := As.mk (HF.out.below hb); have HSZ5 := As.mk (show w2.heap.size ≤ wr.heap.size from HBr.out.size); clear ho hb)
            | (at_builtin; refine wpList_app2 rfl (.tmp 67) (.tmp 69) 50 rfl w2.heap.size 37 (.slice none 0 0) 24 Try.underlying50 infoP rfl _ i L rfl (HP5.out.own.below (below_alloc (Below.refl _ _) _)) _ 1 [.slice A5 S1.size c5] rfl (Src.cell (heap_alloc_new _ _) rfl) ?b1 ?b2 ?b3 (HB := HB5.out.alloc HB5.out.size _) (Nat.le_refl _) ?_; (case b1 => have := HLT.out; unfold maxLen; omega); (case b2 => have := HLT.out; omega); (case b3 => have := HB5.out.size; simp; omega); intro v' w6 hown hg hat hb; obtain ⟨A6, c6, rfl⟩ := hown.slice; have HPF := As.mk (fresh_app HP5.out HF5.out (by have := (own_rd_at HO5.out).len; omega) (HO5.out.weaken HSZ5.out) (fun b hb e => by have h1 := (HO5.out.lt b hb).1; have h2 := (HP.out.own.lt b e.symm).2; omega) hown hg hat); have HB6 := As.mk hb; clear hown hg hat hb))
          go_roundg (6 - (i + 1))
          case measure => have := HII.out; have := HLT.out; omega
          case rel => exact ⟨i + 1, c6, A6, _, by have := HII.out; have := HLT.out; omega, by go_num, rfl, ⟨by rw [HTK.out]; exact HPF.out.1⟩, ⟨by rw [HTK.out]; exact HPF.out.2⟩, HB6⟩
        · have c0 : decide ((i : Int) < 6) = false := decide_eq_false (by omega)
          have c1 : decide (i < 6) = false := decide_eq_false hlt
          obtain rfl : i = 6 := by have := HII.out; omega
          have htk : K1.take 6 = K1 := by rw [← HKL.out, List.take_length]
          rw [htk] at HP HF
          have HEL := As.mk (elem_fresh (X := M) HP.out HF.out fun b hb => by
            obtain ⟨_, _, _, _, _, _, _, _, D⟩ := HD2.out
            exact D.ml b hb)
          have HDr := As.mk (HD2.out.below HBr.out)
          have HB0r := As.mk (HB2.out.trans (HBr.out.mono HB2.out.size))
          have HK6 := As.mk (show S1.kept = K1 from HK1.out.symm)
          clear hlt htk HP HF HBr HD2 HB2 HII HK1
          go_wp2
          go_loopg [74] n (fun kq v74 wr => ∃ (i : Nat) (M : Nat → Prop) (S : DS), i + kq = n ∧ v74 = .int .i64 (i : Int) ∧ As (DAt wr M P S) ∧ As (∀ b, M b → w0.heap.size ≤ b) ∧ As (Below w0.heap.size w0 wr) ∧ As (Inv S (20 + i)) ∧ As (S.kept = K1) ∧ As (S.waits = fs.take i) ∧ As (∀ t, t < i → 0 ≤ (nthE fs t).1 ∧ (nthE fs t).1 < 6 ∧ (nthE fs t).2.length = 32) ∧ As (ElemI wr M 6 (.slice Av 6 cv) K1))
          case atStart => exact ⟨0, M, S1, by omega, rfl, HDr, HMB, HB0r, HI1, HK6, HW1, ⟨fun t ht => by omega⟩, HEL⟩
          case round =>
            clear HDr HMB HB0r HI1 HK6 HW1 HEL
            obtain ⟨i, M, S, hi, rfl, HD, HMB, HB, HI, HKK, HWW, HOK, HEL⟩ := hrel
            have HII := As.mk hi
            clear hi
            by_cases hlt : i < n
            · have c0 : decide ((i : Int) < (n : Int)) = true := decide_eq_true (by omega)
              have c1 : decide (i < n) = true := decide_eq_true hlt
              have lt' : (i : Int) < (n : Int) := by omega
              have HWU := As.mk (show wrap64 ((i : Int) + 1) = ((i + 1 : Nat) : Int) from wrap_up (by have := HN.out; omega))
              obtain ⟨ad, Aj, cj, ea, q1, q2, q3⟩ := H20.out.at i hlt
              cases ea
              have q1r := cell_keep q1 HB.out
              have q2r := cell_keep q2 HB.out
              have HBQ := As.mk (HBF.out _ (nthE_mem (es := fs) (t := i) (by rw [H20.out.len]; exact hlt)))
              have HTE := As.mk (takeE fs i (by rw [H20.out.len]; exact hlt))
              obtain ⟨e, he⟩ : ∃ e, e = nthE fs i := ⟨_, rfl⟩
              obtain ⟨s, hs⟩ : ∃ s, s = e.1 := ⟨_, rfl⟩
              obtain ⟨q, hq⟩ : ∃ q, q = e.2 := ⟨_, rfl⟩
              obtain ⟨ll, hll⟩ : ∃ ll, ll = q.length := ⟨_, rfl⟩
              have hee : e = (s, q) := by rw [hs, hq]
              rw [← he, hee] at q1r q2r q3 HBQ HTE
              simp only [← hll] at q1r q2r q3
              have HE := As.mk (he.symm.trans hee)
              have Q1 := As.mk q1r
              have Q2 := As.mk q2r
              have Q3 := As.mk q3
              have HLT := As.mk hlt
              have hba := below_alloc (Below.refl wr.heap.size wr) (.cells #[.int .i64 s, .slice Aj ll cj] 90)
              have hvw := heap_alloc_new wr (.cells #[.int .i64 s, .slice Aj ll cj] 90)
              obtain ⟨wb, hwb⟩ : ∃ wb, wr.alloc (.cells #[.int .i64 s, .slice Aj ll cj] 90) = wb := ⟨_, rfl⟩
              obtain ⟨g, hg⟩ : ∃ g, wr.heap.size = g := ⟨_, rfl⟩
              rw [hwb] at hba hvw
              rw [hg] at hvw
              have HWB := As.mk hwb
              have HG := As.mk hg
              have HDb := As.mk (HD.out.below hba)
              have HBb := As.mk (HB.out.trans (hba.mono HB.out.size))
              have HELb := As.mk (HEL.out.step (X' := M) (keepsX_below hba) fun b hb => .inl hb)
              have p0 : wb.cell? ⟨g, 0, none⟩ = some (.int .i64 s) := by rw [cell_of_row _ _ 0 _ _ _ hvw]; rfl
              have p1 : wb.cell? ⟨g, 1, none⟩ = some (.slice Aj ll cj) := by rw [cell_of_row _ _ 1 _ _ _ hvw]; rfl
              clear q1 q2 q3 q1r q2r hs hq hll hlt hba hvw hwb hg HD HB HEL hee he
              go_upto_region 24 with (refine wpList_load_at rfl 90 (.tmp 76) rfl (ad.add (i * 2)) rfl [.int .i64 s, .slice Aj ll cj] _ (fun j v hv => by rcases j with _ | _ | j <;> simp at hv <;> subst hv <;> rw [add_add] <;> first | exact Q1.out | exact Q2.out) Try.underlying90 rfl infoEn ?_)
              rw [HWB.out, HG.out]
              have hw := HWU.out
              go_wp2_with (go_at_call 56; (with_reducible refine (write_j wb M P S HDb.out HI.out.off HI.out.fuse (by have := HI.out.steps; have := HLT.out; have := HN.out; omega) (by have := HI.out.waits; have := HLT.out; have := HN.out; omega) s Aj ll cj q (StR.old Q3.out HBb.out HMB.out)).mono ?_); rintro e w5 ⟨M5, r5, S5, rfl, hd, hj⟩; have HD5 := As.mk hd; have HJ5 := As.mk hj; clear hd hj p0 p1; refine As.out ?_)
              refine As.mk ?_
              have HB5 := As.mk (HBb.out.trans (HD5.out.g.below HMB.out HBb.out.size))
              have HI5 := As.mk (HI.out.j HJ5.out HBQ.out)
              rcases HJ5.out with ⟨e1, hs0, hs1, hql, e2⟩ | ⟨hne, _⟩
              · subst e1
                have HK5 := As.mk (show S5.kept = K1 by rw [e2]; exact HKK.out)
                have HW5 := As.mk (show S5.waits = fs.take (i + 1) by rw [e2, HTE.out]; show S.waits ++ [(s, q)] = _; rw [HWW.out])
                have HOK5 := As.mk (show ∀ t, t < i + 1 → 0 ≤ (nthE fs t).1 ∧ (nthE fs t).1 < 6 ∧ (nthE fs t).2.length = 32 from fun t ht => by
                  rcases Nat.lt_succ_iff_lt_or_eq.1 ht with h | rfl
                  · exact HOK.out t h
                  · rw [HE.out]
                    have h1 := HI.out.n
                    have h2 := HI.out.size
                    exact ⟨hs0, by show s < 6; omega, by show q.length = 32; omega⟩)
                have HEL5 := As.mk (HELb.out.step (X' := M5) HD5.out.g.keeps HD5.out.m)
                clear e2 hs0 hs1 hql
                go_wp2
                go_roundg (n - (i + 1))
                case measure => have := HII.out; have := HLT.out; omega
                case rel =>
                  refine ⟨i + 1, M5, S5, by have := HII.out; have := HLT.out; omega, by go_num, ⟨HD5.out.d⟩, ⟨fun b hb => ?_⟩, HB5, HI5, HK5, HW5, HOK5, HEL5⟩
                  rcases HD5.out.m b hb with h | h
                  · exact HMB.out b h
                  · exact Nat.le_trans HBb.out.size h
              · have d1 : (r5 == 0) = false := beq_eq_false_iff_ne.2 hne
                have d2 : (r5 != 0) = true := by rw [bne, d1]; rfl
                clear hne
                go_wp2
                go_ret
                exact ⟨rfl, below_step HB0.out HB5.out⟩
            · have c0 : decide ((i : Int) < (n : Int)) = false := decide_eq_false (by omega)
              have c1 : decide (i < n) = false := decide_eq_false hlt
              obtain rfl : n = i := by have := HII.out; omega
              rw [show fs.take n = fs by rw [← H20.out.len, List.take_length]] at HWW
              have HIN := As.mk (show ∀ e ∈ fs, 0 ≤ e.1 ∧ e.1 < 6 ∧ e.2.length = 32 from fun e he => by
                obtain ⟨t, ht, rfl⟩ := mem_nthE he
                exact HOK.out t (by rw [← H20.out.len]; exact ht))
              have HMY := As.mk (show mayF (6 : Nat) n fs = 0 by
                rw [mayF, if_neg, if_neg (by decide), if_neg (by have := HN.out; omega)]
                rw [Bool.not_eq_true, List.any_eq_false]
                intro e he
                have := HIN.out e he
                unfold outE
                rw [Bool.or_eq_true, decide_eq_true_eq, decide_eq_true_eq]
                omega)
              have HSB := As.mk (StB.old H30.out HB.out HMB.out)
              have HKB := As.mk (show ∀ p ∈ K1, Byte p ∧ p.length = 32 by rw [← HKK.out, ← HI.out.size]; exact HI.out.well.1)
              clear hlt HII HOK
              go_wp2_with (first
                | (go_at_call 59; (with_reducible refine (crash_on wr M P S HD.out HI.out.off K kn kc bs HSB.out).mono ?_); rintro e w5 ⟨rfl, hd⟩; have HD5 := As.mk hd; clear hd)
                | (go_at_call 60; (with_reducible refine (power_ok w5 M P (crashS S bs) HD5.out.d).mono ?_); rintro e w6 ⟨rfl, hd⟩; have HD6 := As.mk (HD5.out.andThen hd); have HB6 := As.mk (HB.out.trans ((HD5.out.andThen hd).g.below HMB.out HB.out.size)); clear hd))
              have HR6 : As (RdP w6 Av 6 cv K1) := by
                obtain ⟨A1, c1, e1, hr⟩ := (HEL.out.step (X' := M) HD6.out.g.keeps HD6.out.m).rd
                cases e1
                exact ⟨hr⟩
              obtain ⟨S4, hS4⟩ : ∃ S4, S4 = { (crashS S bs) with off := false, fuse := 0 } := ⟨_, rfl⟩
              have HDD := As.mk HD6.out.d
              rw [← hS4] at HDD
              have HS4k := As.mk (show S4.kept = doneF (keptF bs) 0 K1 fs by rw [hS4]; show doneF (keptF bs) 0 S.kept S.waits = _; rw [HKK.out, HWW.out])
              have HS4w := As.mk (show S4.waits = [] by rw [hS4]; rfl)
              have HS4o := As.mk (show S4.off = false by rw [hS4])
              have HS4n := As.mk (show S4.n = 6 by rw [hS4]; exact HI.out.n)
              have HS4s := As.mk (show S4.size = 32 by rw [hS4]; exact HI.out.size)
              obtain ⟨X, hX⟩ : ∃ X, X = doneF (keptF bs) 0 K1 fs := ⟨_, rfl⟩
              rw [← hX] at HS4k
              have HX := As.mk hX
              have HXB := As.mk (show ∀ p ∈ X, Byte p ∧ p.length = 32 by
                rw [hX]
                exact doneF_all _ (fun p => Byte p ∧ p.length = 32) fs 0 K1 HKB.out fun e he => ⟨HBF.out e he, (HIN.out e he).2.2⟩)
              have HLX := As.mk (show leftF fs K1 X 6 = true by
                rw [hX]
                exact leftF_done _ fs K1 6 HR6.out.len fun e he => (HIN.out e he).1)
              have HLP := As.mk (show ∀ p ∈ K1, p.length ≤ 1000000 from fun p hp => by rw [(HKB.out p hp).2]; decide)
              have HLF := As.mk (show ∀ e ∈ fs, e.2.length ≤ 1000000 from fun e he => by rw [(HIN.out e he).2.2]; decide)
              clear hS4 hX HD5 HD6 HD HB HEL HI HKK HWW HSB
              go_wp2_with (go_at_call 45; (with_reducible refine (apply_ok w6 K1 fs bs Av F K 6 cv n c kn kc (by decide) (by have := HN.out; omega) HR6.out (H20.out.below HB6.out) (H30.out.below HB6.out) HLP.out HLF.out HMY.out).mono ?_); rintro e w7 ⟨A7, c7, L7, B7, rfl, _, hp, hb, _⟩; rw [← HX.out] at hp; have HR7 := As.mk hp.rdp; have HD7 := As.mk (HDD.out.below hb); have HB7 := As.mk (HB6.out.trans (hb.mono HB6.out.size)); have HR67 := As.mk (HR6.out.below hb); clear hp hb)
              clear HR6 HDD HB6
              go_loopg [107] 6 (fun kq v107 wr => ∃ i : Nat, i + kq = 6 ∧ v107 = .int .i64 (i : Int) ∧ As (Below w7.heap.size w7 wr))
              case atStart => exact ⟨0, by omega, rfl, ⟨Below.refl _ _⟩⟩
              case round =>
                obtain ⟨i, hi, rfl, HBr⟩ := hrel
                have HII := As.mk hi
                clear hi
                by_cases hlt : i < 6
                · have c0 : decide ((i : Int) < 6) = true := decide_eq_true (by omega)
                  have c1 : decide (i < 6) = true := decide_eq_true hlt
                  have lt' : (i : Int) < 6 := by omega
                  have HWU := As.mk (show wrap64 ((i : Int) + 1) = ((i + 1 : Nat) : Int) from wrap_up (by omega))
                  have HRV := As.mk (show rdS S4 i = nthP X i by rw [rd_none S4 i HS4w.out, HS4k.out])
                  have HMYR := As.mk (may_free (S := S4) (s := i) HS4o.out (by rw [HS4n.out]; exact hlt))
                  obtain ⟨ad, Aj, cj, ea, g1, g2⟩ := HR7.out.at i hlt
                  cases ea
                  have hl32 : (nthP X i).length = 32 := (HXB.out _ (nthP_mem (by rw [HR7.out.len]; exact hlt))).2
                  rw [hl32] at g1 g2
                  have G1 := As.mk g1
                  have G2 := As.mk g2
                  have HLT := As.mk hlt
                  clear hlt g1 g2 hl32
                  have hw := HWU.out
                  go_wp2_with (first
                    | (go_at_call 58; (with_reducible refine (read_ok wr M P S4 (HD7.out.below HBr.out) i HMYR.out).mono ?_); rintro e w8 ⟨A8, c8, rfl, ho, hb⟩; rw [HRV.out] at ho; have HO8 := As.mk (own_rd_at ho); have HB8 := As.mk (HBr.out.trans (hb.mono HBr.out.size)); have g1 := cell_keep G1.out (HBr.out.trans (hb.mono HBr.out.size)); clear ho hb)
                    | (go_at_call 61; (with_reducible refine (Go.Proofs.Yteajblfkfmopfaa.RefSame.same_any (nthP X i) (nthP X i) A8 Aj S4.size 32 c8 cj w8 true (by rw [HS4s.out]; decide) (iff_of_true rfl rfl) HO8.out (G2.out.below HB8.out)).mono ?_); rintro e w9 ⟨rfl, nd, rfl⟩))
                  go_roundg (6 - (i + 1))
                  case measure => have := HII.out; have := HLT.out; omega
                  case rel => exact ⟨i + 1, by have := HII.out; have := HLT.out; omega, by go_num, ⟨below_drewN HB8.out _⟩⟩
                · have c0 : decide ((i : Int) < 6) = false := decide_eq_false (by omega)
                  have c1 : decide (i < 6) = false := decide_eq_false hlt
                  clear hlt
                  go_wp2_with (go_at_call 47; (with_reducible refine (mayL_any wr K1 X fs Av F A7 6 cv n c 6 c7 (by decide) (by have := HN.out; omega) (HR67.out.below HBr.out) (H20.out.below (HB7.out.trans (HBr.out.mono HB7.out.size))) (HR7.out.below HBr.out) HMY.out (fun p hp => (HKB.out p hp).1) (fun p hp => (HXB.out p hp).1) HBF.out).mono ?_); rintro e w8 ⟨rfl, hb⟩; rw [HLX.out]; have HB8 := As.mk ((HB7.out.trans (HBr.out.mono HB7.out.size)).trans (hb.mono (by have := HB7.out.size; have := HBr.out.size; omega))); clear hb)
                  go_ret
                  exact ⟨rfl, below_step HB0.out HB8.out⟩
theorem disk_walk (E : Option Addr) (m d : Nat) (es : List (Int × List Int)) (F : Option Addr) (n c : Nat) (fs : List (Int × List Int)) (K : Option Addr) (kn kc : Nat) (bs : List Bool) (w : World) (h1 : RdE w E m d es) (be : ∀ e ∈ es, ∀ i ∈ e.2, (Lit.int .u8 i).wf = true) (h2 : RdE w F n c fs) (bf : ∀ e ∈ fs, ∀ i ∈ e.2, (Lit.int .u8 i).wf = true) (h3 : RdB w K kn kc bs) (_ : True) :
    Calls Try.prog 10 #[.slice E m d, .slice F n c, .slice K kn kc] w fun e w' => e = .returned (.bool true) ∧ Below w.heap.size w w' := by
  by_cases h : 14 < m ∨ 14 < n ∨ 40 < kn
  · exact disk_far w E F K m d n c kn kc h
  · exact disk_near w E F K m d n c kn kc es fs bs (by omega) (by omega) (by omega) h1 h2 h3 (fun e he => Go.Proofs.Yteajblfkfmopfaa.Mem.byte_of (be e he)) (fun e he => Go.Proofs.Yteajblfkfmopfaa.Mem.byte_of (bf e he))
end Go.Proofs.Yteajblfkfmopfaa.Disk
