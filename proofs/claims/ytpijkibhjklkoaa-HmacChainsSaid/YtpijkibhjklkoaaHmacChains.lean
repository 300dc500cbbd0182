/- HmacChains: the law's walk. -/
import Derived.Test.YtpijkibhjklkoaaRefNext
import Derived.Test.YtpijkibhjklkoaaChain2
import Derived.Test.YtpijkibhjklkoaaHmacAwake
import Derived.Test.YtpijkibhjklkoaaMem5
namespace Go.Proofs.Ytpijkibhjklkoaa.HmacChains
set_option linter.unusedVariables false
set_option linter.unusedSimpArgs false
open Go Go.RowKit Go.Proofs.Ytpijkibhjklkoaa.Mem Go.Proofs.Ytpijkibhjklkoaa.Put32 Go.Proofs.Ytpijkibhjklkoaa.Pad Go.Proofs.Ytpijkibhjklkoaa.Sum Go.Proofs.Ytpijkibhjklkoaa.RefWith Go.Proofs.Ytpijkibhjklkoaa.RefSum Go.Proofs.Ytpijkibhjklkoaa.ShaAwake Go.Proofs.Ytpijkibhjklkoaa.ShaSums Go.Proofs.Ytpijkibhjklkoaa.ShaParts Go.Proofs.Ytpijkibhjklkoaa.Stretch Go.Proofs.Ytpijkibhjklkoaa.Hmac Go.Proofs.Ytpijkibhjklkoaa.HmacKeys Go.Proofs.Ytpijkibhjklkoaa.Parts Go.Proofs.Ytpijkibhjklkoaa.RefHmac Go.Proofs.Ytpijkibhjklkoaa.Chain

set_option maxHeartbeats 400000 in
set_option maxRecDepth 100000 in
theorem far (A B : Option Addr) (s c np d : Nat) (t : List Int) (ht : t.length = 32) (w : World) (h : 200 < s ∨ 8 < np) :
    Calls Try.prog 13 #[.slice A s c, .agg (bytesA t), .slice B np d] w fun e w' => e = .returned (.bool true) ∧ Below w.heap.size w w' := by
  by_cases h3 : 200 < s
  · have d3 : decide (200 < (s : Int)) = true := decide_eq_true (by omega)
    have d3' : decide (200 < s) = true := decide_eq_true (by omega)
    clear h h3
    go_enter Try.func13, Try.ntmps13
    go_wp2_with (go_at_call 40; refine (HmacAwake.awake_true _).mono ?_; rintro e w1 ⟨rfl, hb⟩)
    go_ret
    exact ⟨rfl, below_step (below_alloc (Below.refl _ _) _) hb⟩
  · have d3 : decide (200 < (s : Int)) = false := decide_eq_false (by omega)
    have d3' : decide (200 < s) = false := decide_eq_false (by omega)
    have d4 : decide (8 < (np : Int)) = true := decide_eq_true (by omega)
    have d4' : decide (8 < np) = true := decide_eq_true (by omega)
    clear h h3
    go_enter Try.func13, Try.ntmps13
    go_wp2_with (go_at_call 40; refine (HmacAwake.awake_true _).mono ?_; rintro e w1 ⟨rfl, hb⟩)
    go_ret
    exact ⟨rfl, below_step (below_alloc (Below.refl _ _) _) hb⟩

set_option maxHeartbeats 4000000 in
set_option maxRecDepth 100000 in
theorem near (key t : List Int) (hk : Byte key) (hbt : Byte t) (ht : t.length = 32) (ps : List (List Int)) (hps : ∀ p ∈ ps, Byte p) (A B : Option Addr) (s c np d : Nat) (w : World) (hs : s ≤ 200) (hnp : np ≤ 8) (h0 : Rd .u8 w A s c key) (h1 : RdP w B np d ps) :
    Calls Try.prog 13 #[.slice A s c, .agg (bytesA t), .slice B np d] w fun e w' => e = .returned (.bool true) ∧ Below w.heap.size w w' := by
  have d3 : decide (200 < (s : Int)) = false := decide_eq_false (by omega)
  have d3' : decide (200 < s) = false := decide_eq_false (by omega)
  have d4 : decide (8 < (np : Int)) = false := decide_eq_false (by omega)
  have d4' : decide (8 < np) = false := decide_eq_false (by omega)
  have HB0 := As.mk (below_alloc (Below.refl w.heap.size w) (.cells (bytesA t) 44))
  have HZ0 := As.mk (heap_alloc_new w (.cells (bytesA t) 44))
  have HS0 := As.mk (Array.getElem?_eq_some_iff.1 HZ0.out).1
  have HK := As.mk hk
  have HBT := As.mk hbt
  have HLT := As.mk ht
  have HPS := As.mk hps
  have HN := As.mk hs
  have HNP := As.mk hnp
  have H0 := As.mk h0
  have H1 := As.mk h1
  clear hk hbt ht hps hs hnp h0 h1
  go_enter Try.func13, Try.ntmps13
  go_wp2_with (go_at_call 40; refine As.out ?_)
  refine As.mk ?_
  generalize w.alloc _ = w0 at *
  refine (HmacAwake.awake_true w0).mono ?_
  rintro e w1 ⟨rfl, hb⟩
  have HB1 := As.mk (below_step HB0.out hb)
  have HZ1 := As.mk ((hb.block _ HS0.out).trans HZ0.out)
  have HS1 := As.mk (Nat.lt_of_lt_of_le HS0.out hb.size)
  clear hb HB0 HZ0 HS0
  go_wp2
  have H11 := As.mk (H1.out.below HB1.out)
  go_loopg [31] np (fun kq v31 wr => ∃ i : Nat, i + kq = np ∧ v31 = .int .i64 i ∧ As (∀ j, j < i → (nthP ps j).length ≤ 100) ∧ As (wr = w1))
  case atStart => exact ⟨0, by omega, rfl, ⟨fun j hj => by omega⟩, ⟨rfl⟩⟩
  case round =>
    obtain ⟨i, hi, rfl, HSM, HEQ⟩ := hrel
    obtain rfl : w1 = wr := HEQ.out.symm
    have HI := As.mk hi
    clear hi
    by_cases hlt : i < np
    · have c0 : decide ((i : Int) < (np : Int)) = true := decide_eq_true (by omega)
      have c1 : decide (i < np) = true := decide_eq_true hlt
      have hw : wrap64 ((i : Int) + 1) = ((i + 1 : Nat) : Int) := wrap_up (by have := HNP.out; omega)
      obtain ⟨ad, Aj, cj, ea, hx, hr⟩ := H11.out.at i hlt
      cases ea
      obtain ⟨m, hm⟩ : ∃ m, m = (nthP ps i).length := ⟨_, rfl⟩
      rw [← hm] at hx hr
      by_cases hbig : 100 < m
      · have c2 : decide (100 < (m : Int)) = true := decide_eq_true (by omega)
        have c3 : decide (100 < m) = true := decide_eq_true hbig
        clear hr hm hbig
        go_wp2
        go_ret
        exact ⟨rfl, HB1.out⟩
      · have c2 : decide (100 < (m : Int)) = false := decide_eq_false (by omega)
        have c3 : decide (100 < m) = false := decide_eq_false hbig
        have HMM := As.mk (show (nthP ps i).length ≤ 100 by omega)
        clear hr hm hbig
        go_wp2
        go_roundg (np - (i + 1))
        case measure => have := HI.out; omega
        case rel =>
          refine ⟨i + 1, by have := HI.out; omega, by go_num, ⟨fun j hj => ?_⟩, ⟨rfl⟩⟩
          rcases Nat.lt_succ_iff_lt_or_eq.1 hj with h | rfl
          · exact HSM.out j h
          · exact HMM.out
    · have c0 : decide ((i : Int) < (np : Int)) = false := decide_eq_false (by omega)
      have c1 : decide (i < np) = false := decide_eq_false hlt
      obtain rfl : np = i := by have := HI.out; omega
      have HALL : As (∀ p ∈ ps, p.length ≤ 100) := ⟨fun p hp => by
        obtain ⟨j, hj, rfl⟩ := List.mem_iff_getElem.1 hp
        have := HSM.out j (by have := H1.out.len; omega)
        rw [nthP, List.getD_eq_getElem?_getD, List.getElem?_eq_getElem hj] at this
        exact this⟩
      clear HI HSM HEQ
      have KL := As.mk (show (bytesA t).size = 32 by rw [bytesA_size]; exact HLT.out)
      have e0 : decide ((np : Int) = (np : Int)) = true := decide_eq_true rfl
      go_wp2_with (first
        | (refine wpList_load_row rfl 44 (.tmp 4) rfl w.heap.size rfl 44 (bytesA t) (0, 0) _ HZ1.out uArr32 rfl (by rw [KL.out]; kernel_rfl) ?_)
        | (go_at_call 45; (with_reducible refine (chain_any key HK.out t HLT.out HBT.out ps HPS.out ?c1 A s c B np d w1 ?c2 ?c3 (H0.out.below HB1.out) H11.out).mono ?_); (case c1 => intro p hp; have := HALL.out p hp; omega); (case c2 => have := HN.out; omega); (case c3 => have := HNP.out; omega); rintro e w2 ⟨A2, c2, rfl, hb, ho⟩; have HB2 := As.mk hb; have HO2 := As.mk ho; have HZ2 := As.mk ((hb.block _ HS1.out).trans HZ1.out); clear hb ho; refine As.out ?_))
      refine As.mk ?_
      go_wp2_with (first
        | (refine wpList_load_row rfl 44 (.tmp 4) rfl w.heap.size rfl 44 (bytesA t) (0, 0) _ HZ2.out uArr32 rfl (by rw [KL.out]; kernel_rfl) ?_)
        | (refine wpList_allocArr rfl 44 rfl Z32 z32 ?_)
        | (refine wpList_storeNew rfl rfl 44 _ _ rfl rfl (bytesA t) rfl 44 Z32 (by rw [KL.out]; kernel_rfl) (by rw [KL.out]; kernel_rfl) (bytesA_one t) ?_))
      have hl3 := heap_alloc_new w2 (.cells (bytesA t) 44)
      have hb3 := below_alloc (Below.refl w2.heap.size w2) (.cells (bytesA t) 44)
      have HL3 := As.mk hl3
      have HB3 := As.mk (below_step (below_step HB1.out HB2.out) hb3)
      have HO3 := As.mk (own_below HO2.out hb3)
      have HZ3 := As.mk ((hb3.block w.heap.size (Nat.lt_of_lt_of_le HS1.out HB2.out.size)).trans HZ2.out)
      have HSB := As.mk (show w.heap.size < w2.heap.size from Nat.lt_of_lt_of_le HS1.out HB2.out.size)
      have HSB1 := As.mk (show w1.heap.size ≤ w2.heap.size from HB2.out.size)
      have HG : As (0 < np → ∃ g, A2 = some ⟨g, 0, none⟩ ∧ w1.heap.size ≤ g ∧ g < w2.heap.size ∧ np ≤ c2) := ⟨fun hp => own_shape HO2.out hp⟩
      clear hl3 hb3 HB2 HO2 HZ2 H11
      generalize w2.alloc _ = w3 at *
      obtain ⟨bl, hbl⟩ : ∃ bl, bl = w2.heap.size := ⟨_, rfl⟩
      rw [← hbl] at HL3 HSB HSB1 HG ⊢
      clear hbl
      go_loopg [51] np (fun kq v51 wr => ∃ i : Nat, i + kq = np ∧ v51 = .int .i64 i ∧ As (wr.heap[bl]? = some (.cells (bytesA (lastB key t (ps.take i))) 44 (0, 0))) ∧ As (wr.ownsRow w1.heap.size 44 32 (.slice A2 np c2) np (flat (chainB key t ps))) ∧ As (wr.heap[w.heap.size]? = some (.cells (bytesA t) 44 (0, 0))) ∧ As (Below w.heap.size w wr))
      case atStart => exact ⟨0, by omega, rfl, HL3, HO3, HZ3, HB3⟩
      case round =>
        clear HL3 HO3 HZ3 HB3
        obtain ⟨i, hi, rfl, HL, HO, HZ, HB⟩ := hrel
        have HI := As.mk hi
        clear hi
        by_cases hlt : i < np
        · have c0 : decide ((i : Int) < (np : Int)) = true := decide_eq_true (by omega)
          have c1 : decide (i < np) = true := decide_eq_true hlt
          have hw : wrap64 ((i : Int) + 1) = ((i + 1 : Nat) : Int) := wrap_up (by have := HNP.out; omega)
          obtain ⟨g, ea, hg1, hg2, hg3⟩ := HG.out (by omega)
          cases ea
          obtain ⟨ad, Aj, cj, ea, hx, hr⟩ := (H1.out.below HB.out).at i hlt
          cases ea
          have hpl := H1.out.len
          obtain ⟨t', ht'⟩ : ∃ t', t' = lastB key t (ps.take i) := ⟨_, rfl⟩
          obtain ⟨p, hp⟩ : ∃ p, p = nthP ps i := ⟨_, rfl⟩
          obtain ⟨m, hm⟩ : ∃ m, m = p.length := ⟨_, rfl⟩
          have hmem : p ∈ ps := by rw [hp, nthP, List.getD_eq_getElem?_getD, List.getElem?_eq_getElem (by omega)]; exact List.getElem_mem _
          have HMM := As.mk (show m ≤ 100 by rw [hm]; exact HALL.out _ hmem)
          have HPB := As.mk (HPS.out _ hmem)
          rw [← hp, ← hm] at hx hr
          rw [← ht'] at HL
          have HRX := As.mk hr
          have LT := As.mk (show t'.length = 32 by rw [ht']; exact lastB_len _ _ _ HLT.out)
          have BT := As.mk (show Byte t' by rw [ht']; exact lastB_byte _ _ _ HBT.out)
          obtain ⟨T, hT⟩ : ∃ T, link key t' p = T := ⟨_, rfl⟩
          have lT : T.length = 32 := by rw [← hT]; exact link_len _ _ _
          have bT : Byte T := by rw [← hT]; exact link_byte _ _ _
          have HS2 := As.mk (show lastB key t (ps.take (i + 1)) = T by rw [take_snoc ps i (by omega), lastB_snoc, ← ht', ← hp, hT])
          have HCA := As.mk (show nthP (chainB key t ps) i = T by rw [chainB_at key ps t i (by omega), ← ht', ← hp, hT])
          have VT := As.mk (show (bytesA T).size = 32 by rw [bytesA_size]; exact lT)
          have VT' := As.mk (show (bytesA t').size = 32 by rw [bytesA_size]; exact LT.out)
          have heq := fun W => run_eq_bytes (P := Try.prog) W 44 5 32 uArr32 Try.underlying5 info8 T bT lT
          have HT := As.mk hT
          have HLT2 := As.mk lT
          have HBT2 := As.mk bT
          have HRK := As.mk (H0.out.below HB.out)
          have HNG := As.mk (show g ≠ bl ∧ w.heap.size ≠ bl by have := HSB.out; omega)
          have HGW := As.mk (show w.heap.size < bl ∧ bl < wr.heap.size from ⟨HSB.out, (Array.getElem?_eq_some_iff.1 HL.out).1⟩)
          clear hr hpl ht' hp hm hmem hT lT bT hg1 hg2
          go_wp2_with (first
            | (refine wpList_load_row rfl 44 (.tmp 10) rfl bl rfl 44 (bytesA t') (0, 0) _ HL.out uArr32 rfl (by rw [VT'.out]; kernel_rfl) ?_)
            | (go_at_call 46; (with_reducible refine (next_any key t' p HK.out BT.out HPB.out LT.out A Aj s c m cj wr ?c1 ?c2 HRK.out HRX.out T HT.out).mono ?_); (case c1 => have := HN.out; omega); (case c2 => have := HMM.out; omega); rintro e w4 ⟨rfl, hb⟩; have HB4 := As.mk hb; clear hb)
            | (refine wpList_storeArr rfl rfl 44 _ _ rfl bl rfl (bytesA T) rfl 44 (bytesA t') ?c6 (by rw [VT.out]; kernel_rfl) (by rw [VT.out, VT'.out]) (bytesA_one T) ?_; (case c6 => exact (HB4.out.block _ HGW.out.2).trans HL.out); refine As.out ?_))
          refine As.mk ?_
          have hl5 := setRow_new w4 bl (bytesA t') (bytesA T) 44 ((HB4.out.block _ HGW.out.2).trans HL.out)
          have HB5 := As.mk (below_setRow (below_step HB.out HB4.out) (Nat.le_of_lt HGW.out.1) (bytesA T))
          have ho4 := own_below HO.out HB4.out
          have HO5 : As ((w4.setRow bl (bytesA T)).ownsRow w1.heap.size 44 32 (.slice (some ⟨g, 0, none⟩) np c2) np (flat (chainB key t ps))) := ⟨own_kept ho4 (fun k hk => by cases hk; exact setRow_far w4 bl g (bytesA T) HNG.out.1)⟩
          have HZ5 := As.mk ((setRow_far w4 bl w.heap.size (bytesA T) HNG.out.2).trans ((HB4.out.block _ (Nat.lt_trans HGW.out.1 HGW.out.2)).trans HZ.out))
          have HL5 := As.mk hl5
          generalize w4.setRow bl (bytesA T) = w5 at *
          obtain ⟨L, hL⟩ : ∃ L : List Value, L = T.map (Value.int .u8) := ⟨_, rfl⟩
          have hr1 : w5.rangeAt g (i * 32) L := by rw [hL, ← HCA.out]; exact own_row_at HO5.out (fun u hu => (chainB_all key ps t u hu).1) i
          have hr2 : w5.rangeAt bl 0 L := range_block hl5 L (by rw [hL]; rfl)
          have IL : As ((Try.prog.info? 44).map (·.size) = some L.length) := ⟨by rw [hL, List.length_map, HLT2.out]; kernel_rfl⟩
          have EL : As (L.toArray = bytesA T) := ⟨by rw [hL]; rfl⟩
          have hgi : (i : Int) < (np : Int) := by omega
          clear hl5 ho4 hL HB HO HL HZ HB4
          go_wp2
          refine wp_region_held_drew (S := fun W : World => W.rangeAt g (i * 32) L ∧ W.rangeAt bl 0 L) (by kernel_rfl) ⟨by simpa using hr1, by simpa using hr2⟩ (fun hHeld => ?_)
          refine wpAnyH_take (i := 0) (v := .slice (some ⟨g, 0, none⟩) np c2) rfl (by kernel_rfl) (by kernel_rfl) (by kernel_rfl) (fun _ _ _ h => h) (Or.inl ⟨by rfl, fun W hW => by go_simp⟩) hHeld ?_
          try simp only [Act.put, List.setIfInBounds_toArray, List.set_cons_zero, List.set_cons_succ, List.getElem_toArray, List.getElem_cons_zero, List.getElem_cons_succ]
          refine wpAnyH_take (i := 1) (v := .int .i64 (i : Int)) rfl (by kernel_rfl) (by kernel_rfl) (by kernel_rfl) (fun _ _ _ h => h) (Or.inl ⟨by rfl, fun W hW => by go_simp⟩) hHeld ?_
          try simp only [Act.put, List.setIfInBounds_toArray, List.set_cons_zero, List.set_cons_succ, List.getElem_toArray, List.getElem_cons_zero, List.getElem_cons_succ]
          refine wpAnyH_take (i := 2) (v := .pointer (some ⟨g, i * 32, none⟩)) rfl (by kernel_rfl) (by kernel_rfl) (by kernel_rfl) (fun _ _ _ h => h) (Or.inl ⟨by rfl, fun W hW => by go_simp⟩) hHeld ?_
          try simp only [Act.put, List.setIfInBounds_toArray, List.set_cons_zero, List.set_cons_succ, List.getElem_toArray, List.getElem_cons_zero, List.getElem_cons_succ]
          refine wpAnyH_take (i := 3) (v := .agg L.toArray) rfl (by kernel_rfl) (by kernel_rfl) (by kernel_rfl) (fun _ _ _ h => h) (yieldsIf_load_mid (by rfl) _ _ rfl _ _ rfl L _ (fun W h => h.1) uArr32 rfl IL.out) hHeld ?_
          try simp only [Act.put, List.setIfInBounds_toArray, List.set_cons_zero, List.set_cons_succ, List.getElem_toArray, List.getElem_cons_zero, List.getElem_cons_succ]
          refine wpAnyH_take (i := 4) (v := .agg L.toArray) rfl (by kernel_rfl) (by kernel_rfl) (by kernel_rfl) (fun _ _ _ h => h) (yieldsIf_load_mid (by rfl) _ _ rfl _ _ rfl L _ (fun W h => h.2) uArr32 rfl IL.out) hHeld ?_
          rw [EL.out]
          try simp only [Act.put, List.setIfInBounds_toArray, List.set_cons_zero, List.set_cons_succ, List.getElem_toArray, List.getElem_cons_zero, List.getElem_cons_succ]
          refine wpAnyH_take (i := 5) (v := .bool false) rfl (by kernel_rfl) (by kernel_rfl) (by kernel_rfl) (fun _ _ _ h => h) (Or.inl ⟨by rfl, fun W hW => by go_simp⟩) hHeld ?_
          try simp only [Act.put, List.setIfInBounds_toArray, List.set_cons_zero, List.set_cons_succ, List.getElem_toArray, List.getElem_cons_zero, List.getElem_cons_succ]
          refine wpAnyH_done (by kernel_rfl) ?_ _
          go_wp2
          go_roundg (np - (i + 1))
          case measure => have := HI.out; omega
          case rel =>
            refine ⟨i + 1, by have := HI.out; omega, by go_num, ?_, HO5, HZ5, ⟨below_drewN HB5.out 1⟩⟩
            rw [HS2.out]; exact HL5
        · have c0 : decide ((i : Int) < (np : Int)) = false := decide_eq_false (by omega)
          have c1 : decide (i < np) = false := decide_eq_false hlt
          have HSBL := As.mk (Array.getElem?_eq_some_iff.1 HL.out).1
          have HLB := As.mk (fun kk h => (HO.out.lt kk h).2)
          clear HI hlt HL
          obtain ⟨k, hk⟩ : ∃ k : Nat, k = np / 2 := ⟨_, rfl⟩
          have ek : ((np : Int)).tdiv 2 = (k : Int) := by rw [hk]; rfl
          have ek2 : (np : Int) / 2 = (k : Int) := by rw [hk]; rfl
          have ek3 : wrap64 (k : Int) = (k : Int) := wid k (by have := HNP.out; omega)
          have HKN := As.mk (show k ≤ np ∧ (0 < np → k < np) by omega)
          have HR1 := As.mk (H1.out.below HB.out)
          have HRK := As.mk (H0.out.below HB.out)
          have HSW := As.mk (Array.getElem?_eq_some_iff.1 HZ.out).1
          have s1 : ∀ W, (Instr.slice 40 (.slice B np d) none (some (.int .i64 (k : Int))) none).run Try.prog W = .ok (.slice (cutA B d 0 1) k d) W := fun W => run_cut_to (P := Try.prog) W 40 22 Try.underlying40 infoS B np d k .i64 (by have := HR1.out.le; omega)
          have s3 : ∀ W, (Instr.slice 40 (.slice B np d) (some (.int .i64 (k : Int))) none none).run Try.prog W = .ok (.slice (cutA B d k 1) (np - k) (d - k)) W := fun W => run_cut_from (P := Try.prog) W 40 22 Try.underlying40 infoS B np d k .i64 HKN.out.1
          clear hk
          obtain ⟨L, hL⟩ : ∃ L : List Value, L = t.map (Value.int .u8) := ⟨_, rfl⟩
          have hr0 : wr.rangeAt w.heap.size 0 L := range_block HZ.out L (by rw [hL]; rfl)
          have hrz6 : ∀ {w6 : World}, Below wr.drew.heap.size wr.drew w6 → w6.rangeAt w.heap.size 0 L := fun hb => range_block ((hb.block _ HSW.out).trans HZ.out) L (by rw [hL]; rfl)
          have IL : As ((Try.prog.info? 44).map (·.size) = some L.length) := ⟨by rw [hL, List.length_map, HLT.out]; kernel_rfl⟩
          have EL : As (L.toArray = bytesA t) := ⟨by rw [hL]; rfl⟩
          have HLL := As.mk hL
          clear hL
          go_wp2
          refine wp_region_held_drew (S := fun W : World => W.rangeAt w.heap.size 0 L) (by kernel_rfl) (by simpa using hr0) (fun hHeld => ?_)
          refine wpAnyH_take (i := 0) (v := .slice A s c) rfl (by kernel_rfl) (by kernel_rfl) (by kernel_rfl) (fun _ _ _ h => h) (Or.inl ⟨by rfl, fun W hW => by go_simp⟩) hHeld ?_
          try simp only [Act.put, List.setIfInBounds_toArray, List.set_cons_zero, List.set_cons_succ, List.getElem_toArray, List.getElem_cons_zero, List.getElem_cons_succ]
          refine wpAnyH_take (i := 1) (v := .agg L.toArray) rfl (by kernel_rfl) (by kernel_rfl) (by kernel_rfl) (fun _ _ _ h => h) (yieldsIf_load_mid (by rfl) _ _ rfl _ _ rfl L _ (fun W h => h) uArr32 rfl IL.out) hHeld ?_
          rw [EL.out]
          try simp only [Act.put, List.setIfInBounds_toArray, List.set_cons_zero, List.set_cons_succ, List.getElem_toArray, List.getElem_cons_zero, List.getElem_cons_succ]
          refine wpAnyH_take (i := 2) (v := .slice B np d) rfl (by kernel_rfl) (by kernel_rfl) (by kernel_rfl) (fun _ _ _ h => h) (Or.inl ⟨by rfl, fun W hW => by go_simp⟩) hHeld ?_
          try simp only [Act.put, List.setIfInBounds_toArray, List.set_cons_zero, List.set_cons_succ, List.getElem_toArray, List.getElem_cons_zero, List.getElem_cons_succ]
          refine wpAnyH_take (i := 3) (v := .int .i64 (k : Int)) rfl (by kernel_rfl) (by kernel_rfl) (by kernel_rfl) (fun _ _ _ h => h) (Or.inl ⟨by rfl, fun W hW => by go_simp⟩) hHeld ?_
          try simp only [Act.put, List.setIfInBounds_toArray, List.set_cons_zero, List.set_cons_succ, List.getElem_toArray, List.getElem_cons_zero, List.getElem_cons_succ]
          refine wpAnyH_take (i := 4) (v := .slice (cutA B d 0 1) k d) rfl (by kernel_rfl) (by kernel_rfl) (by kernel_rfl) (fun _ _ _ h => h) (Or.inl ⟨by rfl, fun W hW => by go_simp⟩) hHeld ?_
          try simp only [Act.put, List.setIfInBounds_toArray, List.set_cons_zero, List.set_cons_succ, List.getElem_toArray, List.getElem_cons_zero, List.getElem_cons_succ]
          refine wpAnyH_ready (rs := [5]) (by kernel_rfl) (by simp) (AllReadyH.cons rfl (fun K' hK => ?_) AllReadyH.nil)
          go_simp
          refine (chain_any key HK.out t HLT.out HBT.out (ps.take k) (fun p hp => HPS.out p (List.mem_of_mem_take hp)) (fun p hp => by have := HALL.out p (List.mem_of_mem_take hp); omega) A s c (cutA B d 0 1) k d wr.drew (by have := HN.out; omega) (by have := HNP.out; have := HKN.out; omega) (HRK.out.drewN 1) ((RdP.to HR1.out k HKN.out.1).below (below_drewN (Below.refl _ _) 1))).mono ?_
          rintro e w6 ⟨A6, c6, rfl, hb6, ho6⟩
          refine hK.out _ _ (hrz6 hb6) (fun hHeld => ?_)
          clear hK
          try simp only [Act.put, List.setIfInBounds_toArray, List.set_cons_zero, List.set_cons_succ, List.getElem_toArray, List.getElem_cons_zero, List.getElem_cons_succ]
          refine wpAnyH_take (i := 6) (v := .slice A6 k c6) rfl (by kernel_rfl) (by kernel_rfl) (by kernel_rfl) (fun _ _ _ h => h) (Or.inl ⟨by rfl, fun W hW => by go_simp⟩) hHeld ?_
          try simp only [Act.put, List.setIfInBounds_toArray, List.set_cons_zero, List.set_cons_succ, List.getElem_toArray, List.getElem_cons_zero, List.getElem_cons_succ]
          refine wpAnyH_done (by kernel_rfl) ?_ _
          have HB6 := As.mk (below_step (below_drewN HB.out 1) hb6)
          have HO6 := As.mk ho6
          have HOl := As.mk (own_below HO.out (below_step (below_drewN (Below.refl _ _) 1) hb6))
          have HZ6 := As.mk ((hb6.block _ HSW.out).trans HZ.out)
          have HBB := As.mk (show Below wr.heap.size wr w6 from below_step (below_drewN (Below.refl _ _) 1) hb6)
          clear hb6 ho6 hHeld hrz6 hr0 HB HO HZ
          go_wp2_with (first
            | (refine wpList_load_row rfl 44 (.tmp 4) rfl w.heap.size rfl 44 (bytesA t) (0, 0) _ HZ6.out uArr32 rfl (by rw [KL.out]; kernel_rfl) ?_)
            | (refine wpList_allocArr rfl 44 rfl Z32 z32 ?_)
            | (refine wpList_storeNew rfl rfl 44 _ _ rfl rfl (bytesA t) rfl 44 Z32 (by rw [KL.out]; kernel_rfl) (by rw [KL.out]; kernel_rfl) (bytesA_one t) ?_; refine As.out ?_))
          refine As.mk ?_
          have hl7 := heap_alloc_new w6 (.cells (bytesA t) 44)
          have hb7 := below_alloc (Below.refl w6.heap.size w6) (.cells (bytesA t) 44)
          have HL7 := As.mk hl7
          have HB7 := As.mk (below_step HB6.out hb7)
          have HO7 := As.mk (own_below HO6.out hb7)
          have HOl7 := As.mk (own_below HOl.out hb7)
          have HZ7 := As.mk ((hb7.block w.heap.size (Nat.lt_of_lt_of_le HSW.out HBB.out.size)).trans HZ6.out)
          have HSF := As.mk (show wr.heap.size ≤ w6.heap.size from HBB.out.size)
          have HGa : As (0 < k → ∃ g, A6 = some ⟨g, 0, none⟩ ∧ wr.heap.size ≤ g ∧ g < w6.heap.size ∧ k ≤ c6) := ⟨fun hp => own_shape HO6.out hp⟩
          have HGl : As (0 < np → ∃ g, A2 = some ⟨g, 0, none⟩ ∧ w1.heap.size ≤ g ∧ g < wr.heap.size ∧ np ≤ c2) := ⟨fun hp => by
            obtain ⟨g, h1, h2, h3, h4⟩ := HG.out hp
            exact ⟨g, h1, h2, Nat.lt_trans h3 HSBL.out, h4⟩⟩
          clear hl7 hb7 HB6 HO6 HOl HZ6 HG
          generalize w6.alloc _ = w7 at *
          generalize w6.heap.size = bf at *
          have HSWF := As.mk (show w.heap.size < bf from Nat.lt_of_lt_of_le HSW.out HSF.out)
          go_upto_region 25 with (fail)
          go_cut [84] (fun v84 wx => v84 = .bool (decide (0 < k)) ∧ As (wx = w7))
          case first =>
            have e1 : decide ((k : Int) = (k : Int)) = true := decide_eq_true rfl
            by_cases hk0 : 0 < k
            · have d5 : decide (0 < (k : Int)) = true := decide_eq_true (by omega)
              have d6 : decide (0 < k) = true := decide_eq_true hk0
              go_wp2
              go_meet
              exact ⟨by rw [d6], ⟨rfl⟩⟩
            · have d5 : decide (0 < (k : Int)) = false := decide_eq_false (by omega)
              have d6 : decide (0 < k) = false := decide_eq_false hk0
              go_wp2
              go_meet
              exact ⟨by rw [d6], ⟨rfl⟩⟩
          case rest =>
            obtain ⟨rfl, HEQ⟩ := hcut
            obtain rfl : w7 = wc := HEQ.out.symm
            go_upto_if 84 with (fail)
            go_cut [15] (fun s15 wx => s15 = .pointer (some ⟨bf, 0, none⟩) ∧ As (wx.heap[bf]? = some (.cells (bytesA (lastB key t (ps.take k))) 44 (0, 0))) ∧ As (wx.ownsRow wr.drew.heap.size 44 32 (.slice A6 k c6) k (flat (chainB key t (ps.take k)))) ∧ As (wx.ownsRow w1.heap.size 44 32 (.slice A2 np c2) np (flat (chainB key t ps))) ∧ As (wx.heap[w.heap.size]? = some (.cells (bytesA t) 44 (0, 0))) ∧ As (Below w.heap.size w wx))
            case first =>
              by_cases hk0 : 0 < k
              · have d5 : decide (0 < (k : Int)) = true := decide_eq_true (by omega)
                have d6 : decide (0 < k) = true := decide_eq_true hk0
                rw [d6]
                obtain ⟨q, hq⟩ : ∃ q : Nat, k = q + 1 := ⟨k - 1, by omega⟩
                have eq1 : wrap64 ((k : Int) - 1) = (q : Int) := by rw [show (k : Int) - 1 = (q : Int) by omega]; exact wid q (by have := HNP.out; omega)
                have lq : (q : Int) < (k : Int) := by omega
                have lq' : q < k := by omega
                obtain ⟨ga, ea, hga1, hga2, hga3⟩ := HGa.out hk0
                cases ea
                obtain ⟨T, hT⟩ : ∃ T, T = lastB key t (ps.take k) := ⟨_, rfl⟩
                have HLA := As.mk (show nthP (chainB key t (ps.take k)) q = T by rw [hT, hq]; exact chainB_last key ps t q (by have := H1.out.len; omega))
                have LT := As.mk (show T.length = 32 by rw [hT]; exact lastB_len _ _ _ HLT.out)
                have VT := As.mk (show (bytesA T).size = 32 by rw [bytesA_size]; exact LT.out)
                have HTT := As.mk hT
                have HGN := As.mk (show ga ≠ bf ∧ w.heap.size ≠ bf by have := HSWF.out; omega)
                have hnl : 0 < np := by have := HKN.out; omega
                obtain ⟨gl, eb, hgl1, hgl2, hgl3⟩ := HGl.out hnl
                cases eb
                have HGL := As.mk (show gl ≠ bf by have := HSF.out; omega)
                clear hgl1 hgl2 hnl
                clear hT hga1 hga2 hk0 hq
                obtain ⟨L, hL⟩ : ∃ L : List Value, L = T.map (Value.int .u8) := ⟨_, rfl⟩
                have IL : As ((Try.prog.info? 44).map (·.size) = some L.length) := ⟨by rw [hL, List.length_map, LT.out]; kernel_rfl⟩
                have EL : As (L.toArray = bytesA T) := ⟨by rw [hL]; rfl⟩
                have hr1 : w7.rangeAt ga (q * 32) L := by rw [hL, ← HLA.out]; exact own_row_at HO7.out (fun u hu => (chainB_all key _ t u hu).1) q
                have HR1' := As.mk hr1
                clear hr1 hL
                go_wp2_with (first
                  | (refine wpList_load_at rfl 44 (.tmp 88) rfl ⟨ga, q * 32, none⟩ rfl L _ (fun i v hv => by rw [Addr.add_mid]; exact HR1'.out i v hv) uArr32 rfl IL.out ?_; rw [EL.out])
                  | (refine wpList_storeArr rfl rfl 44 _ _ rfl bf rfl (bytesA T) rfl 44 (bytesA t) HL7.out (by rw [VT.out]; kernel_rfl) (by rw [VT.out, KL.out]) (bytesA_one T) ?_; refine As.out ?_))
                refine As.mk ?_
                have hl8 := setRow_new w7 bf (bytesA t) (bytesA T) 44 HL7.out
                rw [HTT.out] at hl8
                have HB8 := As.mk (below_setRow HB7.out (Nat.le_of_lt HSWF.out) (bytesA T))
                have HO8 : As ((w7.setRow bf (bytesA T)).ownsRow wr.drew.heap.size 44 32 (.slice (some ⟨ga, 0, none⟩) k c6) k (flat (chainB key t (ps.take k)))) := ⟨own_kept HO7.out (fun k hk => by cases hk; exact setRow_far w7 bf ga (bytesA T) HGN.out.1)⟩
                have HOl8 : As ((w7.setRow bf (bytesA T)).ownsRow w1.heap.size 44 32 (.slice (some ⟨gl, 0, none⟩) np c2) np (flat (chainB key t ps))) := ⟨own_kept HOl7.out (fun k hk => by cases hk; exact setRow_far w7 bf gl (bytesA T) HGL.out)⟩
                have HZ8 := As.mk ((setRow_far w7 bf w.heap.size (bytesA T) HGN.out.2).trans HZ7.out)
                rw [← HTT.out] at hl8
                have HL8 := As.mk hl8
                rw [HTT.out] at HL8
                clear hl8
                rw [HTT.out] at HB8 HO8 HOl8 HZ8 ⊢
                go_wp2
                go_meet
                exact ⟨rfl, HL8, HO8, HOl8, HZ8, HB8⟩
              · have d5 : decide (0 < (k : Int)) = false := decide_eq_false (by omega)
                have d6 : decide (0 < k) = false := decide_eq_false hk0
                obtain rfl : k = 0 := by omega
                rw [d6]
                go_wp2
                go_meet
                exact ⟨rfl, HL7, HO7, HOl7, HZ7, HB7⟩
            case rest =>
              clear HL7 HO7 HOl7 HZ7 HB7 HEQ s1 s3
              obtain ⟨rfl, HL8, HO8, HOl8, HZ8, HB8⟩ := hcut
              obtain ⟨F, hF⟩ : ∃ F, F = lastB key t (ps.take k) := ⟨_, rfl⟩
              rw [← hF] at HL8
              have LF := As.mk (show F.length = 32 by rw [hF]; exact lastB_len _ _ _ HLT.out)
              have BF := As.mk (show Byte F by rw [hF]; exact lastB_byte _ _ _ HBT.out)
              have HF := As.mk hF
              clear hF
              have HRK := As.mk (H0.out.below HB8.out)
              have HR1 := As.mk (H1.out.below HB8.out)
              have HSW8 := As.mk (Array.getElem?_eq_some_iff.1 HL8.out).1
              obtain ⟨r, hr⟩ : ∃ r : Nat, r = np - k := ⟨_, rfl⟩
              have er : wrap64 ((np : Int) - (k : Int)) = (r : Int) := by rw [show (np : Int) - (k : Int) = (r : Int) by have := HKN.out; omega]; exact wid r (by have := HNP.out; omega)
              have er1 : decide ((r : Int) = (r : Int)) = true := decide_eq_true rfl
              have ek1 : decide ((k : Int) = (k : Int)) = true := decide_eq_true rfl
              have HRD := As.mk (show RdP wc (cutA B d k 1) r (d - k) (ps.drop k) by rw [hr]; exact RdP.from HR1.out k HKN.out.1)
              have HRN := As.mk (show k + r = np by have := HKN.out; omega)
              have s3 : ∀ W, (Instr.slice 40 (.slice B np d) (some (.int .i64 (k : Int))) none none).run Try.prog W = .ok (.slice (cutA B d k 1) r (d - k)) W := fun W => by rw [hr]; exact run_cut_from (P := Try.prog) W 40 22 Try.underlying40 infoS B np d k .i64 HKN.out.1
              clear hr
              obtain ⟨L, hL⟩ : ∃ L : List Value, L = F.map (Value.int .u8) := ⟨_, rfl⟩
              have hr0 : wc.rangeAt bf 0 L := range_block HL8.out L (by rw [hL]; rfl)
              have hrz9 : ∀ {w9 : World}, Below wc.drew.heap.size wc.drew w9 → w9.rangeAt bf 0 L := fun hb => range_block ((hb.block _ HSW8.out).trans HL8.out) L (by rw [hL]; rfl)
              have IL : As ((Try.prog.info? 44).map (·.size) = some L.length) := ⟨by rw [hL, List.length_map, LF.out]; kernel_rfl⟩
              have EL : As (L.toArray = bytesA F) := ⟨by rw [hL]; rfl⟩
              clear hL
              go_upto_region 27 with (fail)
              refine wp_region_held_drew (S := fun W : World => W.rangeAt bf 0 L) (by kernel_rfl) (by simpa using hr0) (fun hHeld => ?_)
              refine wpAnyH_take (i := 0) (v := .slice A s c) rfl (by kernel_rfl) (by kernel_rfl) (by kernel_rfl) (fun _ _ _ h => h) (Or.inl ⟨by rfl, fun W hW => by go_simp⟩) hHeld ?_
              try simp only [Act.put, List.setIfInBounds_toArray, List.set_cons_zero, List.set_cons_succ, List.getElem_toArray, List.getElem_cons_zero, List.getElem_cons_succ]
              refine wpAnyH_take (i := 1) (v := .agg L.toArray) rfl (by kernel_rfl) (by kernel_rfl) (by kernel_rfl) (fun _ _ _ h => h) (yieldsIf_load_mid (by rfl) _ _ rfl _ _ rfl L _ (fun W h => h) uArr32 rfl IL.out) hHeld ?_
              rw [EL.out]
              try simp only [Act.put, List.setIfInBounds_toArray, List.set_cons_zero, List.set_cons_succ, List.getElem_toArray, List.getElem_cons_zero, List.getElem_cons_succ]
              refine wpAnyH_take (i := 2) (v := .slice B np d) rfl (by kernel_rfl) (by kernel_rfl) (by kernel_rfl) (fun _ _ _ h => h) (Or.inl ⟨by rfl, fun W hW => by go_simp⟩) hHeld ?_
              try simp only [Act.put, List.setIfInBounds_toArray, List.set_cons_zero, List.set_cons_succ, List.getElem_toArray, List.getElem_cons_zero, List.getElem_cons_succ]
              refine wpAnyH_take (i := 3) (v := .int .i64 (k : Int)) rfl (by kernel_rfl) (by kernel_rfl) (by kernel_rfl) (fun _ _ _ h => h) (Or.inl ⟨by rfl, fun W hW => by go_simp⟩) hHeld ?_
              try simp only [Act.put, List.setIfInBounds_toArray, List.set_cons_zero, List.set_cons_succ, List.getElem_toArray, List.getElem_cons_zero, List.getElem_cons_succ]
              refine wpAnyH_take (i := 4) (v := .slice (cutA B d k 1) r (d - k)) rfl (by kernel_rfl) (by kernel_rfl) (by kernel_rfl) (fun _ _ _ h => h) (Or.inl ⟨by rfl, fun W hW => by go_simp⟩) hHeld ?_
              try simp only [Act.put, List.setIfInBounds_toArray, List.set_cons_zero, List.set_cons_succ, List.getElem_toArray, List.getElem_cons_zero, List.getElem_cons_succ]
              refine wpAnyH_ready (rs := [5]) (by kernel_rfl) (by simp) (AllReadyH.cons rfl (fun K' hK => ?_) AllReadyH.nil)
              go_simp
              refine (chain_any key HK.out F LF.out BF.out (ps.drop k) (fun p hp => HPS.out p (List.mem_of_mem_drop hp)) (fun p hp => by have := HALL.out p (List.mem_of_mem_drop hp); omega) A s c (cutA B d k 1) r (d - k) wc.drew (by have := HN.out; omega) (by have := HNP.out; have := HRN.out; omega) (HRK.out.drewN 1) (HRD.out.below (below_drewN (Below.refl _ _) 1))).mono ?_
              rintro e w9 ⟨A9, c9, rfl, hb9, ho9⟩
              refine hK.out _ _ (hrz9 hb9) (fun hHeld => ?_)
              clear hK
              try simp only [Act.put, List.setIfInBounds_toArray, List.set_cons_zero, List.set_cons_succ, List.getElem_toArray, List.getElem_cons_zero, List.getElem_cons_succ]
              refine wpAnyH_take (i := 6) (v := .slice A9 r c9) rfl (by kernel_rfl) (by kernel_rfl) (by kernel_rfl) (fun _ _ _ h => h) (Or.inl ⟨by rfl, fun W hW => by go_simp⟩) hHeld ?_
              try simp only [Act.put, List.setIfInBounds_toArray, List.set_cons_zero, List.set_cons_succ, List.getElem_toArray, List.getElem_cons_zero, List.getElem_cons_succ]
              refine wpAnyH_done (by kernel_rfl) ?_ _
              have HBX := As.mk (show Below wc.heap.size wc w9 from below_step (below_drewN (Below.refl _ _) 1) hb9)
              have HB9 := As.mk (below_step HB8.out HBX.out)
              have HO9 := As.mk ho9
              have HOa := As.mk (own_below HO8.out HBX.out)
              have HOl := As.mk (own_below HOl8.out HBX.out)
              clear hb9 ho9 hHeld hrz9 hr0 HO8 HOl8 HZ8 HL8
              have HSRC := As.mk (own_src HO9.out (flat_one _))
              have HALLc : As (flat (chainB key t (ps.take k)) ++ flat (chainB key F (ps.drop k)) = flat (chainB key t ps)) := ⟨by rw [← flat_app, HF.out, ← chainB_app, List.take_append_drop]⟩
              have HWB := As.mk (show wr.drew.heap.size ≤ w9.heap.size from Nat.le_trans (show wr.heap.size ≤ wc.heap.size by have := HSF.out; have := HSW8.out; omega) HBX.out.size)
              go_wp2_with (at_builtin; refine wpList_app rfl (.tmp 109) (.tmp 110) 67 rfl wr.drew.heap.size 44 (.agg Z32) 32 32 Try.underlying67 infoA z32_cells (by decide) _ k _ rfl HOa.out _ r _ rfl HSRC.out ?c1 ?c2 HWB.out (B := w.heap.size) (w0 := w) HB9.out (Nat.le_of_lt HSW.out) ?_; (case c1 => have := HRN.out; have := HNP.out; unfold maxLen; omega); (case c2 => have := HRN.out; have := HNP.out; omega); intro v10 w10 hown hg hat hb; rw [HALLc.out, HRN.out] at hown; obtain ⟨A10, c10, rfl⟩ := own_slice hown; have HO10 := As.mk hown; have HB10 := As.mk hb; have HG10 := As.mk hg; clear hown hat hb hg)
              have HOl10 := As.mk (own_kept HOl.out (fun kk hkk => HG10.out.block kk (Nat.lt_of_lt_of_le (HLB.out kk hkk) HWB.out) (fun e => by have h1 := (HOa.out.lt kk e.symm).1; have h2 := HLB.out kk hkk; exact Nat.lt_irrefl _ (Nat.lt_of_lt_of_le h2 h1))))
              clear HG10 HOa HOl HO9 HSRC
              obtain ⟨wo, rfl⟩ : ∃ wo : World, wo = wr := ⟨_, rfl⟩
              go_loopg [113] np (fun kq v113 wr => ∃ i : Nat, i + kq = np ∧ v113 = .int .i64 i ∧ As (wr.ownsRow wo.drew.heap.size 44 32 (.slice A10 np c10) np (flat (chainB key t ps))) ∧ As (wr.ownsRow w1.heap.size 44 32 (.slice A2 np c2) np (flat (chainB key t ps))) ∧ As (Below w.heap.size w wr))
              case atStart => exact ⟨0, by omega, rfl, HO10, HOl10, HB10⟩
              case round =>
                clear HO10 HOl10 HB10
                obtain ⟨i, hi, rfl, HO, HOl, HB⟩ := hrel
                have HI := As.mk hi
                clear hi
                by_cases hlt : i < np
                · have c0 : decide ((i : Int) < (np : Int)) = true := decide_eq_true (by omega)
                  have c1 : decide (i < np) = true := decide_eq_true hlt
                  have hw : wrap64 ((i : Int) + 1) = ((i + 1 : Nat) : Int) := wrap_up (by have := HNP.out; omega)
                  have hgi : (i : Int) < (np : Int) := by omega
                  obtain ⟨g, ea, hg1, hg2, hg3⟩ := own_shape HO.out (by omega)
                  cases ea
                  obtain ⟨gl, eb, hgl1, hgl2, hgl3⟩ := own_shape HOl.out (by omega)
                  cases eb
                  obtain ⟨T, hT⟩ : ∃ T, T = nthP (chainB key t ps) i := ⟨_, rfl⟩
                  have hmem : T ∈ chainB key t ps := by rw [hT, nthP, List.getD_eq_getElem?_getD, List.getElem?_eq_getElem (by rw [chainB_len, H1.out.len]; omega)]; exact List.getElem_mem _
                  have lT := (chainB_all key ps t T hmem).1
                  have bT := (chainB_all key ps t T hmem).2
                  have VT := As.mk (show (bytesA T).size = 32 by rw [bytesA_size]; exact lT)
                  have heq := fun W => run_eq_bytes (P := Try.prog) W 44 5 32 uArr32 Try.underlying5 info8 T bT lT
                  obtain ⟨L, hL⟩ : ∃ L : List Value, L = T.map (Value.int .u8) := ⟨_, rfl⟩
                  have IL : As ((Try.prog.info? 44).map (·.size) = some L.length) := ⟨by rw [hL, List.length_map, lT]; kernel_rfl⟩
                  have EL : As (L.toArray = bytesA T) := ⟨by rw [hL]; rfl⟩
                  have HR0 : As (wr.rangeAt g (i * 32) L) := ⟨by rw [hL, hT]; exact own_row_at HO.out (fun u hu => (chainB_all key ps t u hu).1) i⟩
                  have HRl : As (∀ W : World, W.ownsRow w1.heap.size 44 32 (.slice (some ⟨gl, 0, none⟩) np c2) np (flat (chainB key t ps)) → W.rangeAt gl (i * 32) L) := ⟨fun W h => by rw [hL, hT]; exact own_row_at h (fun u hu => (chainB_all key ps t u hu).1) i⟩
                  have HLE : As (bytesA T = L.toArray) := ⟨EL.out.symm⟩
                  clear hmem lT bT hT hL hg1 hg2 hgl1 hgl2
                  go_wp2_with (first
                    | (refine wpList_load_at rfl 44 (.tmp 116) rfl ⟨g, i * 32, none⟩ rfl L _ (fun j v hv => by rw [Addr.add_mid]; exact HR0.out j v hv) uArr32 rfl IL.out ?_; rw [EL.out])
                    | (refine wpList_allocArr rfl 44 rfl Z32 z32 ?_)
                    | (refine wpList_storeNew rfl rfl 44 _ _ rfl rfl (bytesA T) rfl 44 Z32 (by rw [VT.out]; kernel_rfl) (by rw [VT.out]; kernel_rfl) (bytesA_one T) ?_; refine As.out ?_))
                  refine As.mk ?_
                  have hl5 := heap_alloc_new wr (.cells (bytesA T) 44)
                  have hb5 := below_alloc (Below.refl wr.heap.size wr) (.cells (bytesA T) 44)
                  have HO5 := As.mk (own_below HO.out hb5)
                  have HOl5 := As.mk (own_below HOl.out hb5)
                  have HB5 := As.mk (below_step HB.out hb5)
                  generalize wr.alloc _ = w11 at *
                  generalize wr.heap.size = bt at *
                  have hr1 := HRl.out w11 HOl5.out
                  have hr2 : w11.rangeAt bt 0 L := range_block hl5 L EL.out.symm
                  clear hl5 hb5 HO HOl HB HR0
                  go_wp2
                  refine wp_region_held_drew (S := fun W : World => W.rangeAt gl (i * 32) L ∧ W.rangeAt bt 0 L) (by kernel_rfl) ⟨by simpa using hr1, by simpa using hr2⟩ (fun hHeld => ?_)
                  refine wpAnyH_take (i := 0) (v := .agg L.toArray) rfl (by kernel_rfl) (by kernel_rfl) (by kernel_rfl) (fun _ _ _ h => h) (yieldsIf_load_mid (by rfl) _ _ rfl _ _ rfl L _ (fun W h => h.2) uArr32 rfl IL.out) hHeld ?_
                  rw [EL.out]
                  try simp only [Act.put, List.setIfInBounds_toArray, List.set_cons_zero, List.set_cons_succ, List.getElem_toArray, List.getElem_cons_zero, List.getElem_cons_succ]
                  refine wpAnyH_take (i := 1) (v := .slice (some ⟨gl, 0, none⟩) np c2) rfl (by kernel_rfl) (by kernel_rfl) (by kernel_rfl) (fun _ _ _ h => h) (Or.inl ⟨by rfl, fun W hW => by go_simp⟩) hHeld ?_
                  try simp only [Act.put, List.setIfInBounds_toArray, List.set_cons_zero, List.set_cons_succ, List.getElem_toArray, List.getElem_cons_zero, List.getElem_cons_succ]
                  refine wpAnyH_take (i := 2) (v := .int .i64 (i : Int)) rfl (by kernel_rfl) (by kernel_rfl) (by kernel_rfl) (fun _ _ _ h => h) (Or.inl ⟨by rfl, fun W hW => by go_simp⟩) hHeld ?_
                  try simp only [Act.put, List.setIfInBounds_toArray, List.set_cons_zero, List.set_cons_succ, List.getElem_toArray, List.getElem_cons_zero, List.getElem_cons_succ]
                  refine wpAnyH_take (i := 3) (v := .pointer (some ⟨gl, i * 32, none⟩)) rfl (by kernel_rfl) (by kernel_rfl) (by kernel_rfl) (fun _ _ _ h => h) (Or.inl ⟨by rfl, fun W hW => by go_simp⟩) hHeld ?_
                  try simp only [Act.put, List.setIfInBounds_toArray, List.set_cons_zero, List.set_cons_succ, List.getElem_toArray, List.getElem_cons_zero, List.getElem_cons_succ]
                  refine wpAnyH_take (i := 4) (v := .agg L.toArray) rfl (by kernel_rfl) (by kernel_rfl) (by kernel_rfl) (fun _ _ _ h => h) (yieldsIf_load_mid (by rfl) _ _ rfl _ _ rfl L _ (fun W h => h.1) uArr32 rfl IL.out) hHeld ?_
                  rw [EL.out]
                  try simp only [Act.put, List.setIfInBounds_toArray, List.set_cons_zero, List.set_cons_succ, List.getElem_toArray, List.getElem_cons_zero, List.getElem_cons_succ]
                  refine wpAnyH_take (i := 5) (v := .bool false) rfl (by kernel_rfl) (by kernel_rfl) (by kernel_rfl) (fun _ _ _ h => h) (Or.inl ⟨by rfl, fun W hW => by go_simp⟩) hHeld ?_
                  try simp only [Act.put, List.setIfInBounds_toArray, List.set_cons_zero, List.set_cons_succ, List.getElem_toArray, List.getElem_cons_zero, List.getElem_cons_succ]
                  refine wpAnyH_done (by kernel_rfl) ?_ _
                  go_wp2
                  go_roundg (np - (i + 1))
                  case measure => have := HI.out; omega
                  case rel =>
                    exact ⟨i + 1, by have := HI.out; omega, by go_num, HO5, HOl5, ⟨below_drewN HB5.out 1⟩⟩
                · have c0 : decide ((i : Int) < (np : Int)) = false := decide_eq_false (by omega)
                  have c1 : decide (i < np) = false := decide_eq_false hlt
                  go_wp2
                  go_ret
                  exact ⟨rfl, HB.out⟩
theorem walk (A : Option Addr) (s c : Nat) (key t : List Int) (B : Option Addr) (np d : Nat) (ps : List (List Int)) (w : World) (h0 : Rd .u8 w A s c key) (hk : ∀ v ∈ key, (Lit.int .u8 v).wf = true) (_ : s * 1 ≤ 140737488351232)
    (ht : t.length = 32) (hbt : ∀ v ∈ t, (Lit.int .u8 v).wf = true) (h1 : RdP w B np d ps) (hps : ∀ p ∈ ps, ∀ v ∈ p, (Lit.int .u8 v).wf = true) :
    Calls Try.prog 13 #[.slice A s c, .agg (bytesA t), .slice B np d] w fun e w' => e = .returned (.bool true) ∧ Below w.heap.size w w' := by
  by_cases h : 200 < s ∨ 8 < np
  · exact far A B s c np d t ht w h
  · exact near key t (Go.Proofs.Ytpijkibhjklkoaa.Mem.byte_of hk) (Go.Proofs.Ytpijkibhjklkoaa.Mem.byte_of hbt) ht ps (fun p hp => Go.Proofs.Ytpijkibhjklkoaa.Mem.byte_of (hps p hp)) A B s c np d w (by omega) (by omega) h0 h1
end Go.Proofs.Ytpijkibhjklkoaa.HmacChains
