/- chatelaineref17.Pack. -/
import Derived.Test.YteajblfkfmopfaaJourF
import Derived.Test.YteajblfkfmopfaaJourB
import Derived.Test.YteajblfkfmopfaaRefHmac
import Derived.Test.YteajblfkfmopfaaSlotP
import Derived.Test.YteajblfkfmopfaaChain
namespace Go.Proofs.Yteajblfkfmopfaa.Jour
set_option linter.unusedVariables false
set_option linter.unusedSimpArgs false
open Go Go.RowKit Go.Proofs.Yteajblfkfmopfaa.Mem Go.Proofs.Yteajblfkfmopfaa.Put Go.Proofs.Yteajblfkfmopfaa.Entries Go.Proofs.Yteajblfkfmopfaa.Geo Go.Proofs.Yteajblfkfmopfaa.LayA Go.Proofs.Yteajblfkfmopfaa.Sum Go.Proofs.Yteajblfkfmopfaa.Hmac Go.Proofs.Yteajblfkfmopfaa.Parts Go.Proofs.Yteajblfkfmopfaa.Pad Go.Proofs.Yteajblfkfmopfaa.Put32

theorem pad_step {n s j : Nat} (hs : 0 < s) (hj : j ≤ padN n s) : ((n + j) % s = 0) ↔ j = padN n s := by
  have hp : padN n s < s := Nat.mod_lt _ hs
  have hz : (n + padN n s) % s = 0 := by rw [padN_ceil hs]; exact Nat.mul_mod_left _ _
  constructor
  · intro h
    have h1 : (n + padN n s) = (n + j) + (padN n s - j) := by omega
    rw [h1, Nat.add_mod, h, Nat.zero_add, Nat.mod_mod] at hz
    rw [Nat.mod_eq_of_lt (by omega)] at hz
    omega
  · rintro rfl; exact hz
theorem putRI (size n : Nat) (y z : Int) (hy : y = (n : Int)) (hz : z = (size : Int)) (hs : 1 ≤ size ∧ size ≤ 8) (hn : n ≤ 4611686018427387904) (hf : n < 256 ^ size) (w : World) :
    Calls Try.prog 152 #[.int .i64 y, .int .i64 z] w fun e w' => ∃ A c, e = .returned (.tuple #[.slice A size c, .int .i64 0]) ∧ Below w.heap.size w w' ∧ OwnAt w' w.heap.size (.slice A size c) size ((beB size n).map (Value.int .u8)) :=
  hy ▸ hz ▸ Go.Proofs.Yteajblfkfmopfaa.RefPutN.putR_ok size n hs hn hf w
theorem zero_src {w : World} {b : Nat} {T : TypeId} (h : w.heap[b]? = some (.cells #[.int .u8 0] T (0, 0))) : Go.Proofs.Yteajblfkfmopfaa.Mem.Src w (.slice (some ⟨b, 0, none⟩) 1 1) 1 1 [.int .u8 0] := Src.cell h rfl
theorem rep_snoc (x : List Int) (j : Nat) : (x ++ List.replicate (j + 1) 0).map (Value.int .u8) = (x ++ List.replicate j 0).map (Value.int .u8) ++ [.int .u8 0] := by
  rw [List.replicate_succ', ← List.append_assoc, List.map_append]; rfl
theorem ap_grow {w : World} {vb v v' : Value} {base n : Nat} {xs : List Value} (hb : OwnAt w base vb n xs) (h : ∀ k, vb.ownBlock = some k → v.ownBlock ≠ some k) (hat : v'.ownBlock = v.ownBlock ∨ v'.ownBlock = some w.heap.size) : ∀ k, vb.ownBlock = some k → v'.ownBlock ≠ some k := fun k e1 e2 => by
  rcases hat with h1 | h1
  · exact h k e1 (h1.symm.trans e2)
  · have h3 := h1.symm.trans e2
    injection h3 with h3
    have h4 := (hb.lt k e1).2
    omega
set_option maxHeartbeats 4000000 in
set_option maxRecDepth 100000 in
theorem packR_ok (key : List Int) (hk : Byte key) (K : Option Addr) (kn kc : Nat) (count : Nat) (hc : count ≤ 1099511627776) (A : Option Addr) (n c : Nat) (es : List (Int × List Int)) (hes : ∀ e ∈ es, Byte e.2) (s : Nat) (hs : 64 ≤ s ∧ s ≤ 256 ∧ s % 16 = 0) (hm : mayB es s = true) (hn : n ≤ 1000) (q : Nat) (hr : recN n s = 1 + q) (m : Nat) (hmq : m = (1 + q) * s) (w : World) (h0 : Rd .u8 w K kn kc key) (h1 : RdE w A n c es) (hkn : kn ≤ 1099511627776) :
    Calls Try.prog 80 #[.slice K kn kc, .int .i64 (count : Int), .slice A n c, .int .i64 (s : Int)] w fun e w' => ∃ P cp, e = .returned (.slice P m cp) ∧ Rd .u8 w' P m cp (packB key count es s) ∧ Below w.heap.size w w' := by
  have HX := As.mk hk
  have HC := As.mk hc
  have HES := As.mk hes
  have HSW := As.mk (show 64 ≤ s ∧ s ≤ 256 from ⟨hs.1, hs.2.1⟩)
  have HM := As.mk hm
  have HN := As.mk hn
  have HKN := As.mk hkn
  have HEL := As.mk h1.len
  have HQ : As (q = ceil (4 * n) s + n) := ⟨by have : recN n s = 1 + ceil (4 * n) s + n := rfl; omega⟩
  have HQL := As.mk (show q ≤ 2000 by have := HQ.out; have := index_le (n := n) hs.1; omega)
  have HMQ := As.mk hmq
  have hl := below_alloc (Below.refl w.heap.size w) (.cells #[.int .u8 74, .int .u8 82, .int .u8 78, .int .u8 76] 5)
  have HBW := As.mk hl
  have H0W := As.mk h0
  have H1W := As.mk h1
  have HF0 := As.mk (show OwnAt (w.alloc (.cells #[.int .u8 74, .int .u8 82, .int .u8 78, .int .u8 76] 5)) w.heap.size (.slice (some ⟨w.heap.size, 0, none⟩) 4 4) 4 (markB.map (Value.int .u8)) from OwnAt.lit w 5 [.int .u8 74, .int .u8 82, .int .u8 78, .int .u8 76] (by decide))
  have HZ4 := As.mk (show (4 : Int) = ((4 : Nat) : Int) from rfl)
  have HZ8 := As.mk (show (8 : Int) = ((8 : Nat) : Int) from rfl)
  clear hk hc hes hs hm hn hr hkn h0 h1 hmq hl
  go_enter Try.func80, Try.ntmps80
  go_wp2_with (first
    | (go_at_call 152; (with_reducible refine (putRI 8 count _ 8 rfl HZ8.out (by decide) (by have := HC.out; omega) (Nat.lt_of_le_of_lt HC.out (by decide)) _).mono ?_); rintro e w1 ⟨A1, c1, rfl, hb, ho⟩; have HO1 := As.mk ho; have HB1 := As.mk hb; have HF1 := As.mk (HF0.out.below hb); have HBW1 := As.mk (below_step HBW.out hb); clear ho hb)
    | (go_at_call 152; (with_reducible refine (putRI 4 n _ 4 rfl HZ4.out (by decide) (by have := HN.out; omega) (Nat.lt_of_le_of_lt HN.out (by decide)) w1).mono ?_); rintro e w2 ⟨A2, c2, rfl, hb, ho⟩; have HO2 := As.mk ho; have HB2 := As.mk hb; have HF2 := As.mk (HF1.out.below hb); have HO12 := As.mk (HO1.out.below hb); have HS12 := As.mk (Src.rd (own_rd_at HO12.out)); have HBW2 := As.mk (below_step HBW1.out hb); clear ho hb; refine As.out ?_))
  refine As.mk ?_
  have HBase := As.mk (show w.heap.size ≤ w2.heap.size from HBW2.out.size)
  have HBX := As.mk (show w.heap.size < w1.heap.size from by have := HB1.out.size; simp at this; omega)
  have HF2L := As.mk (fun k (e : (Value.slice (some ⟨w.heap.size, 0, none⟩) 4 4).ownBlock = some k) => (show k = w.heap.size by simp [Value.ownBlock] at e; omega))
  clear HF0 HF1 HO1
  go_wp2_with (first
    | (at_builtin; refine wpList_app2 rfl (.tmp 33) (.tmp 34) 37 rfl w.heap.size 5 (.int .u8 0) 1 Try.underlying37 CloneB.info rfl _ 4 _ rfl HF2.out _ 8 _ rfl HS12.out ?b1 ?b2 HBase.out (Below.refl _ w2) (Nat.zero_le _) ?_; (case b1 => unfold maxLen; decide); (case b2 => decide); intro v3 w3 hown hg hat hb; rw [← List.map_append] at hown; obtain ⟨A3, c3, rfl⟩ := hown.slice; have HF3 := As.mk (show OwnAt w3 w.heap.size (.slice A3 12 c3) 12 ((markB ++ beB 8 count).map (Value.int .u8)) from hown); have HG3 := As.mk hg; have HAT3 := As.mk hat; have HO23 := As.mk (own_grown HO2.out hg (fun k e1 e2 => by have h1 := (HO2.out.lt k e1).1; have h2 := HF2L.out k e2; have h3 := HBX.out; have h4 := HB2.out.size; omega)); have HB3 := As.mk (HBW2.out.grown hg HBase.out (fun k hk => Nat.le_of_eq (HF2L.out k hk).symm)); have HS23 := As.mk (Src.rd (own_rd_at HO23.out)); clear hown hg hat hb)
    | (at_builtin; refine wpList_app2 rfl (.tmp 36) (.tmp 37) 37 rfl w.heap.size 5 (.int .u8 0) 1 Try.underlying37 CloneB.info rfl _ 12 _ rfl HF3.out _ 4 _ rfl HS23.out ?b3 ?b4 (Nat.le_trans HBase.out HG3.out.size) (Below.refl _ w3) (Nat.zero_le _) ?_; (case b3 => unfold maxLen; decide); (case b4 => decide); intro v4 w4 hown hg hat hb; rw [← List.map_append] at hown; obtain ⟨A4, c4, rfl⟩ := hown.slice; have HF4 := As.mk (show OwnAt w4 w.heap.size (.slice A4 16 c4) 16 ((frontB count n).map (Value.int .u8)) from hown); have HB4 := As.mk (HB3.out.grown hg HB3.out.size (fun k hk => (HF3.out.lt k hk).1)); clear hown hg hat hb; refine As.out ?_))
  refine As.mk ?_
  clear HF2 HO2 HO12 HS12 HF3 HG3 HAT3 HO23 HS23 HF2L HBX HBW HBW1 HBW2 HB1 HB2 HB3
  have H14 := As.mk (H1W.out.below HB4.out)
  have H04 := As.mk (H0W.out.below HB4.out)
  have hn0 : (0 : Int) ≤ (n : Int) := by omega
  clear H0W H1W
  go_wp2
  go_loopg [14, 15] n (fun kq v14 v15 wr => ∃ (i nb cp : Nat) (P : Option Addr), i + kq = n ∧ v14 = .slice P nb cp ∧ v15 = .int .i64 (i : Int) ∧ As (nb = 4 * i) ∧ As (OwnAt wr w4.heap.size (.slice P nb cp) nb ((secs (es.take i)).map (Value.int .u8))) ∧ As (Below w4.heap.size w4 wr))
  case atStart => exact ⟨0, 0, 0, none, by omega, rfl, rfl, ⟨by simp⟩, ⟨OwnAt.nil _ _⟩, ⟨Below.refl _ _⟩⟩
  case round =>
    obtain ⟨i, nb, cp, P, hi, rfl, rfl, HNB, HO, HB⟩ := hrel
    have HI := As.mk hi
    clear hi
    by_cases hlt : i < n
    · have e0 : decide ((i : Int) < (n : Int)) = true := decide_eq_true (by omega)
      have e1 : decide (i < n) = true := decide_eq_true hlt
      have lt' : (i : Int) < (n : Int) := by omega
      have hw : wrap64 ((i : Int) + 1) = ((i + 1 : Nat) : Int) := wrap_up (by have := HN.out; omega)
      obtain ⟨ad, Aj, cj, ea, h1, h2, h3⟩ := H14.out.at i hlt
      cases ea
      have hil : i < es.length := by rw [HEL.out]; exact hlt
      have hmy := may_at HM.out i hil
      obtain ⟨v, hv⟩ := Int.eq_ofNat_of_zero_le hmy.1
      have HSE : As (secs (es.take (i + 1)) = secs (es.take i) ++ beB 4 v) := ⟨by rw [secs_take es i hil, hv]; rfl⟩
      have HVB := As.mk (show v ≤ 1048575 by omega)
      rw [hv] at h1
      have h1' := cell_keep h1 HB.out
      have HBN := As.mk (show nb ≤ 4000 by have := HNB.out; have := HN.out; omega)
      have HLT := As.mk hlt
      have hv0 : (0 : Int) ≤ (v : Int) := by omega
      clear h1 h2 h3 hlt hil hmy hv
      go_wp2_with (first
        | (go_at_call 152; (with_reducible refine (putRI 4 v _ 4 rfl HZ4.out (by decide) (by have := HVB.out; omega) (Nat.lt_of_le_of_lt HVB.out (by decide)) wr).mono ?_); rintro e w5 ⟨A5, c5, rfl, hb, ho⟩; have HS5 := As.mk (Src.rd (own_rd_at ho)); have HB5 := As.mk (below_step HB.out hb); have HOb := As.mk (HO.out.below hb); clear ho hb)
        | (at_builtin; refine wpList_app2 rfl (.tmp 54) (.tmp 55) 37 rfl w4.heap.size 5 (.int .u8 0) 1 Try.underlying37 CloneB.info rfl _ nb _ rfl HOb.out _ 4 _ rfl HS5.out ?b5 ?b6 HB5.out.size HB5.out (Nat.le_refl _) ?_; (case b5 => have := HBN.out; unfold maxLen; omega); (case b6 => have := HBN.out; omega); intro v6 w6 hown hg hat hb; rw [← List.map_append, ← HSE.out] at hown; obtain ⟨A6, c6, rfl⟩ := hown.slice; have HO6 := As.mk hown; have HB6 := As.mk hb; clear hown hg hat hb))
      go_roundg (n - (i + 1))
      case measure => have := HI.out; have := HLT.out; omega
      case rel => exact ⟨i + 1, nb + 4, c6, A6, by have := HI.out; have := HLT.out; omega, rfl, by go_num, ⟨by have := HNB.out; omega⟩, HO6, HB6⟩
    · have e0 : decide ((i : Int) < (n : Int)) = false := decide_eq_false (by omega)
      have e1 : decide (i < n) = false := decide_eq_false hlt
      obtain rfl : n = i := by have := HI.out; omega
      have hall : es.take n = es := by rw [← HEL.out, List.take_length]
      rw [hall] at HO
      obtain ⟨p, hp⟩ : ∃ p, padN (4 * n) s = p := ⟨_, rfl⟩
      have HP := As.mk hp
      have HPL := As.mk (show p ≤ 256 by rw [← hp]; unfold padN; have := Nat.mod_lt (s - 4 * n % s) (show 0 < s by have := HSW.out; omega); have := HSW.out; omega)
      have z0 : ¬ (s : Int) = 0 := by have := HSW.out; omega
      have z1 : ¬ s = 0 := by have := HSW.out; omega
      have hs0 : (0 : Int) < (s : Int) := by have := HSW.out; omega
      clear hall hlt hp
      go_wp2
      obtain ⟨wo, rfl⟩ : ∃ wo : World, wo = wr := ⟨_, rfl⟩
      go_loopg [14] p (fun kq v14 wr => ∃ (j nb cp : Nat) (P : Option Addr), j + kq = p ∧ v14 = .slice P nb cp ∧ As (nb = 4 * n + j) ∧ As (OwnAt wr w4.heap.size (.slice P nb cp) nb ((secs es ++ List.replicate j 0).map (Value.int .u8))) ∧ As (Below w4.heap.size w4 wr))
      case atStart => exact ⟨0, nb, cp, P, by omega, rfl, ⟨by have := HNB.out; omega⟩, ⟨by rw [List.replicate_zero, List.append_nil]; exact HO.out⟩, HB⟩
      case round =>
        clear HO HB HNB
        obtain ⟨j, nb, cp, P, hj, rfl, HNB, HO, HB⟩ := hrel
        have HJ := As.mk hj
        have hst := pad_step (n := 4 * n) (s := s) (j := j) (by have := HSW.out; omega) (by rw [HP.out]; omega)
        rw [HP.out, ← HNB.out] at hst
        have HBN := As.mk (show nb ≤ 5000 by have := HNB.out; have := HN.out; have := HPL.out; omega)
        obtain ⟨r, hr⟩ : ∃ r, nb % s = r := ⟨_, rfl⟩
        rw [hr] at hst
        have t1 : (nb : Int).tmod (s : Int) = (r : Int) := by rw [← hr]; rfl
        have t2 : (nb : Int) % (s : Int) = (r : Int) := by rw [← hr]; rfl
        clear hj hr
        by_cases hjt : j < p
        · have d0 : ((r : Int) != 0) = true := by simp; omega
          have d1 : ((r : Int) == 0) = false := beq_eq_false_iff_ne.2 (by omega)
          have d2 : (r == 0) = false := beq_eq_false_iff_ne.2 (by omega)
          have HLT := As.mk hjt
          have hal := below_alloc (Below.refl wr.heap.size wr) (.cells #[.int .u8 0] 5)
          have HB5 := As.mk (below_step HB.out hal)
          have HOb := As.mk (HO.out.below hal)
          have HS5 := As.mk (zero_src (heap_alloc_new wr (.cells #[.int .u8 0] 5)))
          have HRS := As.mk (rep_snoc (secs es) j)
          clear hst hjt hal
          go_wp2_with (at_builtin; refine wpList_app2 rfl (.tmp 62) (.tmp 63) 37 rfl w4.heap.size 5 (.int .u8 0) 1 Try.underlying37 CloneB.info rfl _ nb _ rfl HOb.out _ 1 _ rfl HS5.out ?b7 ?b8 HB5.out.size HB5.out (Nat.le_refl _) ?_; (case b7 => have := HBN.out; unfold maxLen; omega); (case b8 => have := HBN.out; omega); intro v6 w6 hown hg hat hb; rw [← HRS.out] at hown; obtain ⟨A6, c6, rfl⟩ := hown.slice; have HO6 := As.mk hown; have HB6 := As.mk hb; clear hown hg hat hb)
          go_roundg (p - (j + 1))
          case measure => have := HJ.out; have := HLT.out; omega
          case rel => exact ⟨j + 1, nb + 1, c6, A6, by have := HJ.out; have := HLT.out; omega, rfl, ⟨by have := HNB.out; omega⟩, HO6, HB6⟩
        · obtain rfl : p = j := by have := HJ.out; omega
          obtain rfl : r = 0 := hst.2 rfl
          have HPB := As.mk (show padB (secs es) s = secs es ++ List.replicate p 0 by unfold padB; rw [secs_len, HEL.out, HP.out])
          rw [← HPB.out] at HO
          clear hst hjt
          go_wp2
          clear t1 t2
          obtain ⟨wo2, rfl⟩ : ∃ wo : World, wo = wr := ⟨_, rfl⟩
          go_loopg [14, 18] n (fun kq v14 v18 wr => ∃ (i nb cp : Nat) (P : Option Addr), i + kq = n ∧ v14 = .slice P nb cp ∧ v18 = .int .i64 (i : Int) ∧ As (nb = 4 * n + p + i * s) ∧ As (OwnAt wr w4.heap.size (.slice P nb cp) nb ((padB (secs es) s ++ datas (es.take i)).map (Value.int .u8))) ∧ As (Below w4.heap.size w4 wr))
          case atStart => exact ⟨0, nb, cp, P, by omega, rfl, rfl, ⟨by have := HNB.out; omega⟩, ⟨by rw [List.take_zero]; show OwnAt _ _ _ _ ((padB (secs es) s ++ []).map _); rw [List.append_nil]; exact HO.out⟩, HB⟩
          case round =>
            clear HO HB HNB HBN HI HJ
            obtain ⟨i, nb, cp, P, hi, rfl, rfl, HNB, HO, HB⟩ := hrel
            have HI := As.mk hi
            clear hi
            have HBN := As.mk (show nb ≤ 300000 by
              have h1 := HNB.out
              have h2 := HN.out
              have h3 := HPL.out
              have h4 : i * s ≤ 1000 * 256 := Nat.mul_le_mul (by have := HI.out; omega) HSW.out.2
              omega)
            by_cases hlt : i < n
            · have e0 : decide ((i : Int) < (n : Int)) = true := decide_eq_true (by omega)
              have e1 : decide (i < n) = true := decide_eq_true hlt
              have lt' : (i : Int) < (n : Int) := by omega
              have hw : wrap64 ((i : Int) + 1) = ((i + 1 : Nat) : Int) := wrap_up (by have := HN.out; omega)
              obtain ⟨ad, Aj, cj, ea, h1, h2, h3⟩ := H14.out.at i hlt
              cases ea
              have hil : i < es.length := by rw [HEL.out]; exact hlt
              have hmy := (may_at HM.out i hil).2.2
              have HDA : As (padB (secs es) s ++ datas (es.take (i + 1)) = padB (secs es) s ++ datas (es.take i) ++ (nthE es i).2) := ⟨by rw [datas_take es i hil, List.append_assoc]⟩
              rw [hmy] at h2 h3
              have h4 : wr.cell? ⟨(ad.add (i * 2)).block, (ad.add (i * 2)).off + 1, none⟩ = some (.slice Aj s cj) := by rw [← add_one, add_add]; exact cell_keep h2 HB.out
              generalize (nthE es i).2 = dat at *
              have HS5 := As.mk (Src.rd (h3.below HB.out))
              have HLT := As.mk hlt
              clear h1 h2 h3 hlt hil hmy
              go_wp2_with (at_builtin; refine wpList_app2 rfl (.tmp 71) (.tmp 76) 37 rfl w4.heap.size 5 (.int .u8 0) 1 Try.underlying37 CloneB.info rfl _ nb _ rfl HO.out _ s _ rfl HS5.out ?b9 ?d1 HB.out.size HB.out (Nat.le_refl _) ?_; (case b9 => have := HBN.out; have := HSW.out; unfold maxLen; omega); (case d1 => have := HBN.out; have := HSW.out; omega); intro v6 w6 hown hg hat hb; rw [← List.map_append, ← HDA.out] at hown; obtain ⟨A6, c6, rfl⟩ := hown.slice; have HO6 := As.mk hown; have HB6 := As.mk hb; clear hown hg hat hb)
              go_roundg (n - (i + 1))
              case measure => have := HI.out; have := HLT.out; omega
              case rel => exact ⟨i + 1, nb + s, c6, A6, by have := HI.out; have := HLT.out; omega, rfl, by go_num, ⟨by have := HNB.out; rw [Nat.add_mul]; omega⟩, HO6, HB6⟩
            · have e0 : decide ((i : Int) < (n : Int)) = false := decide_eq_false (by omega)
              have e1 : decide (i < n) = false := decide_eq_false hlt
              obtain rfl : n = i := by have := HI.out; omega
              have hall : es.take n = es := by rw [← HEL.out, List.take_length]
              rw [hall] at HO
              have HO7 := As.mk (show OwnAt wr w4.heap.size (.slice P nb cp) nb ((bodyB es s).map (Value.int .u8)) from HO.out)
              have HMQ2 := As.mk (show nb = q * s by
                have h1 := padN_ceil (n := 4 * n) (show 0 < s by have := HSW.out; omega)
                rw [HP.out] at h1
                rw [HNB.out, HQ.out, Nat.add_mul, h1])
              clear hall hlt HO
              obtain ⟨w7, rfl⟩ : ∃ wo : World, wo = wr := ⟨_, rfl⟩
              have HF7 := As.mk (HF4.out.below HB.out)
              have HSF := As.mk (Src.rd (own_rd_at HF7.out))
              have HBB := As.mk (show nb ≤ 300000 from HBN.out)
              obtain ⟨T, hT⟩ : ∃ T, tagB key (frontB count n ++ bodyB es s) = T := ⟨_, rfl⟩
              have HTT := As.mk hT
              have HTL : As (T.length = 32) := ⟨by rw [← hT]; exact tagB_len _ _⟩
              have HBY := As.mk (show Byte (frontB count n ++ bodyB es s) from byteA (front_byte _ _) (body_byte HES.out s))
              have HWB := As.mk (below_step HB4.out HB.out)
              have HNEb := As.mk (fun k (e1 : (Value.slice P nb cp).ownBlock = some k) (e2 : k < w4.heap.size) => (by have h1 := (HO7.out.lt k e1).1; omega : False))
              clear hT
              go_wp2_with (first
                | (at_builtin; refine wpList_app2 rfl (.tmp 78) (.tmp 79) 37 rfl w7.heap.size 5 (.int .u8 0) 1 Try.underlying37 CloneB.info rfl _ 0 _ rfl (OwnAt.nil w7 w7.heap.size) _ 16 _ rfl HSF.out ?e1 ?e2 (Nat.le_refl _) (Below.refl _ w7) (Nat.le_refl _) ?_; (case e1 => unfold maxLen; decide); (case e2 => decide); intro v8 w8 hown hg hat hb; obtain ⟨A8, c8, rfl⟩ := hown.slice; have HA8 := As.mk (show OwnAt w8 w7.heap.size (.slice A8 16 c8) 16 ((frontB count n).map (Value.int .u8)) from hown); have HB78 := As.mk hb; have HS78 := As.mk (Src.rd (own_rd_at (HO7.out.below hb))); clear hown hg hat hb)
                | (at_builtin; refine wpList_app2 rfl (.tmp 81) (.tmp 82) 37 rfl w7.heap.size 5 (.int .u8 0) 1 Try.underlying37 CloneB.info rfl _ 16 _ rfl HA8.out _ nb _ rfl HS78.out ?e3 ?e4 HB78.out.size HB78.out (Nat.le_refl _) ?_; (case e3 => have := HBB.out; unfold maxLen; omega); (case e4 => have := HBB.out; omega); intro v9 w9 hown hg hat hb; rw [← List.map_append] at hown; obtain ⟨A9, c9, rfl⟩ := hown.slice; have HA9 := As.mk (own_rd_at hown); have HB79 := As.mk hb; clear hown hg hat hb)
                | (go_at_call 154; (with_reducible refine (Go.Proofs.Yteajblfkfmopfaa.RefHmac.tag_ref key (frontB count n ++ bodyB es s) HX.out HBY.out K A9 kn kc (16 + nb) c9 w9 HKN.out (by have := HBB.out; omega) (H04.out.below (below_step HB.out HB79.out)) HA9.out T HTT.out).mono ?_); rintro e w10 ⟨rfl, hb⟩; have HB710 := As.mk (below_step HB79.out hb); clear hb)
                | (go_at_call 153; (with_reducible refine (Go.Proofs.Yteajblfkfmopfaa.RefHmac.list_any T HTL.out w10).mono ?_); rintro e w11 ⟨A11, c11, rfl, hb, ho⟩; have HS11 := As.mk (Src.rd (own_rd_at ho)); have HB711 := As.mk (below_step HB710.out hb); have HF11 := As.mk (HF7.out.below (below_step HB710.out hb)); have HO11 := As.mk (HO7.out.below (below_step HB710.out hb)); have HBW11 := As.mk (below_step HWB.out (below_step HB710.out hb)); clear ho hb)
                | (at_builtin; refine wpList_app2 rfl (.tmp 84) (.tmp 88) 37 rfl w.heap.size 5 (.int .u8 0) 1 Try.underlying37 CloneB.info rfl _ 16 _ rfl HF11.out _ 32 _ rfl HS11.out ?e5 ?e6 HBW11.out.size (Below.refl _ w11) (Nat.zero_le _) ?_; (case e5 => unfold maxLen; decide); (case e6 => decide); intro v12 w12 hown hg hat hb; rw [← List.map_append] at hown; obtain ⟨A12, c12, rfl⟩ := hown.slice; have HO12 := As.mk (show OwnAt w12 w.heap.size (.slice A12 48 c12) 48 ((frontB count n ++ T).map (Value.int .u8)) from hown); have HB12 := As.mk (HBW11.out.grown hg HBW11.out.size (fun k hk => (HF11.out.lt k hk).1)); have HP12 := As.mk (own_grown HO11.out hg (fun k e1 e2 => HNEb.out k e1 (HF4.out.lt k e2).2)); have HAP := As.mk (ap_grow HO11.out (fun k e1 e2 => HNEb.out k e1 (HF4.out.lt k e2).2) hat); clear hown hg hat hb; refine As.out ?_))
              refine As.mk ?_
              clear HF7 HSF HNEb HA8 HB78 HS78 HA9 HB79 HB710 HS11 HB711 HF11 HO11 HBW11 HB HO7 HI HNB HWB
              have hss : (s : Int) ≤ 256 := by have := HSW.out; omega
              go_wp2
              go_loopg [20] (s - 48) (fun kq v20 wr => ∃ (j no co : Nat) (R : Option Addr), j + kq = s - 48 ∧ v20 = .slice R no co ∧ As (no = 48 + j) ∧ As (OwnAt wr w.heap.size (.slice R no co) no ((frontB count n ++ T ++ List.replicate j 0).map (Value.int .u8))) ∧ As (OwnAt wr w4.heap.size (.slice P nb cp) nb ((bodyB es s).map (Value.int .u8))) ∧ As (∀ k, (Value.slice P nb cp).ownBlock = some k → (Value.slice R no co).ownBlock ≠ some k) ∧ As (Below w.heap.size w wr))
              case atStart => exact ⟨0, 48, c12, A12, by omega, rfl, ⟨rfl⟩, ⟨by rw [List.replicate_zero, List.append_nil]; exact HO12.out⟩, HP12, HAP, HB12⟩
              case round =>
                clear HO12 HP12 HAP HB12
                obtain ⟨j, no, co, R, hj, rfl, HNO, HO, HP2, HAP, HB⟩ := hrel
                have HJ := As.mk hj
                clear hj
                have HNB2 := As.mk (show no ≤ 400 by have := HNO.out; have := HJ.out; have := HSW.out; omega)
                by_cases hjt : no < s
                · have d0 : decide ((no : Int) < (s : Int)) = true := decide_eq_true (by omega)
                  have d1 : decide (no < s) = true := decide_eq_true hjt
                  have HLT := As.mk hjt
                  have hal := below_alloc (Below.refl wr.heap.size wr) (.cells #[.int .u8 0] 5)
                  have HBa := As.mk (below_step HB.out hal)
                  have HOa := As.mk (HO.out.below hal)
                  have HPa := As.mk (HP2.out.below hal)
                  have HS5 := As.mk (zero_src (heap_alloc_new wr (.cells #[.int .u8 0] 5)))
                  have HRS := As.mk (rep_snoc (frontB count n ++ T) j)
                  clear hjt hal
                  go_wp2_with (at_builtin; refine wpList_app2 rfl (.tmp 94) (.tmp 95) 37 rfl w.heap.size 5 (.int .u8 0) 1 Try.underlying37 CloneB.info rfl _ no _ rfl HOa.out _ 1 _ rfl HS5.out ?f1 ?f2 HBa.out.size HBa.out (Nat.le_refl _) ?_; (case f1 => have := HNB2.out; unfold maxLen; omega); (case f2 => have := HNB2.out; omega); intro v6 w6 hown hg hat hb; rw [← HRS.out] at hown; obtain ⟨A6, c6, rfl⟩ := hown.slice; have HO6 := As.mk hown; have HB6 := As.mk hb; have HP6 := As.mk (own_grown HPa.out hg (fun k e1 e2 => HAP.out k e1 e2)); have HAP6 := As.mk (ap_grow HPa.out HAP.out hat); clear hown hg hat hb)
                  go_roundg (s - 48 - (j + 1))
                  case measure => have := HJ.out; have := HLT.out; have := HNO.out; omega
                  case rel => exact ⟨j + 1, no + 1, c6, A6, by have := HJ.out; have := HLT.out; have := HNO.out; omega, rfl, ⟨by have := HNO.out; omega⟩, HO6, HP6, HAP6, HB6⟩
                · have d0 : decide ((no : Int) < (s : Int)) = false := decide_eq_false (by omega)
                  have d1 : decide (no < s) = false := decide_eq_false hjt
                  obtain rfl : s - 48 = j := by have := HJ.out; have := HNO.out; have := HSW.out; omega
                  have hns : no = s := by have := HNO.out; have := HSW.out; omega
                  subst hns
                  have HSP := As.mk (Src.rd (own_rd_at HP2.out))
                  have HMM := As.mk (show no + nb = m by rw [HMQ.out, HMQ2.out, Nat.add_mul, Nat.one_mul])
                  have HEQ := As.mk (show packB key count es no = (frontB count n ++ T ++ List.replicate (no - 48) 0) ++ bodyB es no by
                    unfold packB
                    rw [head_eq key count es HSW.out.1, HEL.out, ← HTT.out]
                    unfold tagJ
                    rw [HEL.out])
                  clear hjt
                  go_wp2_with (at_builtin; refine wpList_app2 rfl (.tmp 97) (.tmp 98) 37 rfl w.heap.size 5 (.int .u8 0) 1 Try.underlying37 CloneB.info rfl _ no _ rfl HO.out _ nb _ rfl HSP.out ?f3 ?f4 HB.out.size HB.out (Nat.le_refl _) ?_; (case f3 => have := HNB2.out; have := HBB.out; unfold maxLen; omega); (case f4 => have := HNB2.out; have := HBB.out; omega); intro v6 w6 hown hg hat hb; rw [← List.map_append, ← HEQ.out, HMM.out] at hown; obtain ⟨A6, c6, rfl⟩ := hown.slice; have HO6 := As.mk (own_rd_at hown); have HB6 := As.mk hb; clear hown hg hat hb)
                  go_ret
                  exact ⟨A6, c6, rfl, HO6.out, HB6.out⟩
end Go.Proofs.Yteajblfkfmopfaa.Jour
