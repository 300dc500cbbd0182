/- chatelainelaw34.done. -/
import Derived.Test.YteajblfkfmopfaaCrashLawS
namespace Go.Proofs.Yteajblfkfmopfaa.LawCrash
set_option linter.unusedVariables false
set_option linter.unusedSimpArgs false
open Go Go.RowKit Go.Proofs.Yteajblfkfmopfaa.Mem Go.Proofs.Yteajblfkfmopfaa.Put32 Go.Proofs.Yteajblfkfmopfaa.Sum Go.Proofs.Yteajblfkfmopfaa.Hmac Go.Proofs.Yteajblfkfmopfaa.Parts Go.Proofs.Yteajblfkfmopfaa.Entries Go.Proofs.Yteajblfkfmopfaa.CrashApply

set_option maxHeartbeats 2000000 in
set_option maxRecDepth 100000 in
theorem done34_any (w : World) (ps : List (List Int)) (es : List (Int × List Int)) (bs : List Bool) (A E K : Option Addr) (n c m d kn kc : Nat) (hn : n ≤ 1000000) (hm : m ≤ 1000000) (h0 : RdP w A n c ps) (h1 : RdE w E m d es) (hk : RdB w K kn kc bs) (hin : ∀ j, j < m → 0 ≤ (nthE es j).1 ∧ (nthE es j).1 < n) :
    Calls Try.prog 48 #[.slice A n c, .slice E m d, .slice K kn kc] w fun e w' => ∃ A' c' L, e = .returned (.slice A' n c') ∧ Parts w' w.heap.size (.slice A' n c') n L (doneF (keptF bs) 0 ps es) ∧ Below w.heap.size w w' := by
  have HN := As.mk hn
  have HM := As.mk hm
  have H0 := As.mk h0
  have H1 := As.mk h1
  have HK := As.mk hk
  have HI := As.mk hin
  have HB0 := As.mk (below_alloc (Below.refl w.heap.size w) (.cells #[] 37))
  have HE : As (OwnAt (w.alloc (.cells #[] 37)) w.heap.size (.slice (some ⟨w.heap.size, 0, none⟩) 0 0) 0 []) := ⟨OwnAt.lit w 37 [] (by decide)⟩
  obtain ⟨L1, lL, sL, eL⟩ := rdp_list h0
  have LL := As.mk lL
  have SL := As.mk (src_below sL HB0.out)
  have EL := As.mk eL
  clear hn hm h0 h1 hk hin lL sL eL
  go_enter Try.func48, Try.ntmps48
  go_wp2_with (at_builtin; refine wpList_app2 rfl _ _ 50 rfl w.heap.size 37 (.slice none 0 0) 24 Try.underlying50 infoP rfl _ 0 [] rfl HE.out _ n L1 rfl SL.out ?c1 ?c2 HB0.out.size HB0.out (Nat.le_refl _) ?_; (case c1 => have := HN.out; unfold maxLen; omega); (case c2 => have := HN.out; omega); rw [Nat.zero_add, List.nil_append]; intro v3 w1 hown hg hat hb; obtain ⟨A1, c1, rfl⟩ := hown.slice; have HO3 := As.mk hown; have HB1 := As.mk hb; clear hown hg hat hb)
  have HP1 : As (Parts w1 w.heap.size (.slice A1 n c1) n L1 ps) := ⟨⟨H0.out.len, HO3.out, fun j hj => by
    obtain ⟨Aj, cj, e1, e2⟩ := EL.out j hj
    exact ⟨_, e1, Elem.mk' (e2.below HB1.out) (old_apart e2 fun k hk => (HO3.out.lt k hk).1)⟩⟩⟩
  clear HO3 EL SL LL HE
  go_loopg [15] m (fun kq v15 wr => ∃ (i : Nat) (L : List Value), i + kq = m ∧ v15 = .int .i64 i ∧ As (Parts wr w.heap.size (.slice A1 n c1) n L (doneF (keptF bs) 0 ps (es.take i))) ∧ As (Below w.heap.size w wr))
  case atStart => exact ⟨0, L1, by omega, rfl, HP1, HB1⟩
  case round =>
    clear HP1 HB1
    obtain ⟨i, L, hi, rfl, HP, HB⟩ := hrel
    have HII := As.mk hi
    clear hi
    by_cases hlt : i < m
    · have b0 : decide ((i : Int) < (m : Int)) = true := decide_eq_true (by omega)
      have b1 : decide (i < m) = true := decide_eq_true hlt
      have lt' : (i : Int) < (m : Int) := by omega
      have hw : wrap64 ((i : Int) + 1) = ((i + 1 : Nat) : Int) := wrap_up (by have := HM.out; omega)
      obtain ⟨ad, Aj, cj, ea, h1w, h2w, h3w⟩ := H1.out.at i hlt
      cases ea
      have h1 := (HB.out.cell (World.block_lt_of_cell? w _ h1w)).trans h1w
      have h2 := (HB.out.cell (World.block_lt_of_cell? w _ h2w)).trans h2w
      have h3 := h3w.below HB.out
      obtain ⟨hs0, hs1⟩ := HI.out i hlt
      obtain ⟨s, hs⟩ : ∃ s : Nat, (nthE es i).1 = (s : Int) := ⟨(nthE es i).1.toNat, by omega⟩
      obtain ⟨q, hq⟩ : ∃ q, q = (nthE es i).2 := ⟨_, rfl⟩
      obtain ⟨l, hl⟩ : ∃ l, l = q.length := ⟨_, rfl⟩
      rw [← hq] at h2 h3 h3w
      rw [← hl] at h2 h3 h3w
      rw [hs] at h1 hs1
      have lsn : s < n := by omega
      obtain ⟨g1, off, ea, hg1, hg2⟩ := own_shape HP.out.own (by omega)
      cases ea
      have H1c := As.mk h1
      have H2c := As.mk h2
      have HRD := As.mk h3
      have HOB := As.mk (old_apart (row := some g1) h3w (fun k hk => by cases hk; exact hg1))
      have HSN := As.mk lsn
      have HLT := As.mk hlt
      have lsn' : (s : Int) < (n : Int) := by omega
      have HG1 := As.mk (show w.heap.size ≤ g1 ∧ g1 < wr.heap.size from ⟨hg1, hg2⟩)
      have HDS := As.mk (show doneF (keptF bs) 0 ps (es.take (i + 1)) = if keptF bs i = true then (doneF (keptF bs) 0 ps (es.take i)).set s q else doneF (keptF bs) 0 ps (es.take i) by
        rw [takeE es i (by rw [H1.out.len]; exact hlt), doneF_snoc, List.length_take, Nat.min_eq_left (by rw [H1.out.len]; omega), Nat.zero_add, hs, ← hq]; rfl)
      clear h1 h2 h3 h1w h2w h3w hs0 hs1 hs hq hl hlt hg1 hg2
      have hba := below_alloc (Below.refl wr.heap.size wr) (.cells #[.int .i64 (s : Int), .slice Aj l cj] 90)
      have hvw := heap_alloc_new wr (.cells #[.int .i64 (s : Int), .slice Aj l cj] 90)
      have HBa := As.mk (below_step HB.out hba)
      have HP3 := As.mk (HP.out.below hba)
      have HRD3 := As.mk (HRD.out.below hba)
      have HVB := As.mk (show g1 ≠ wr.heap.size by have := HG1.out; omega)
      have v0 : (wr.alloc (.cells #[.int .i64 (s : Int), .slice Aj l cj] 90)).cell? ⟨wr.heap.size, 0, none⟩ = some (.int .i64 (s : Int)) := by rw [cell_of_row _ _ 0 _ _ _ hvw]; rfl
      have v1 : (wr.alloc (.cells #[.int .i64 (s : Int), .slice Aj l cj] 90)).cell? ⟨wr.heap.size, 1, none⟩ = some (.slice Aj l cj) := by rw [cell_of_row _ _ 1 _ _ _ hvw]; rfl
      have HKK := As.mk (HK.out.below HBa.out)
      obtain ⟨w3, hw3⟩ : ∃ w3, wr.alloc (.cells #[.int .i64 (s : Int), .slice Aj l cj] 90) = w3 := ⟨_, rfl⟩
      obtain ⟨bv, hbv⟩ : ∃ bv, wr.heap.size = bv := ⟨_, rfl⟩
      have HW3 := As.mk hw3
      have HBV := As.mk hbv
      rw [hw3] at v0 v1 hba hvw HBa HP3 HRD3 HKK
      rw [hbv] at v0 v1
      clear hba hvw hw3 hbv HB HP
      go_upto_region 5 with (refine wpList_load_at rfl 90 (.tmp 18) rfl (ad.add (i * 2)) rfl [.int .i64 (s : Int), .slice Aj l cj] _ (fun j v hv => by rcases j with _ | _ | j <;> simp at hv <;> subst hv <;> rw [add_add] <;> first | exact H1c.out | exact H2c.out) Try.underlying90 rfl infoEn ?_)
      rw [HW3.out, HBV.out]
      have hyes : keptF bs i = true → ∃ kd, K = some kd ∧ (i < kn) ∧ w3.cell? (kd.add i) = some (.bool true) := fun h => by
        have hlk : i < kn := by
          rcases Nat.lt_or_ge i kn with h2 | h2
          · exact h2
          · rw [keptF, List.getD_eq_getElem?_getD, List.getElem?_eq_none (by rw [HK.out.len]; omega)] at h; exact absurd h (by decide)
        obtain ⟨kd, e, hc⟩ := HKK.out.at i hlk
        exact ⟨kd, e, hlk, by rw [hc]; unfold keptF at h; rw [h]⟩
      cases hkq : keptF bs i with
      | true =>
        obtain ⟨kd, rfl, hlk, hkc⟩ := hyes hkq
        have k0 : decide ((i : Int) < (kn : Int)) = true := decide_eq_true (by omega)
        have k1 : decide (i < kn) = true := decide_eq_true hlk
        have k2 : (i : Int) < (kn : Int) := by omega
        have HD := As.mk (HDS.out.trans (if_pos hkq))
        obtain ⟨u, eu, hu⟩ := HP3.out.each s HSN.out
        obtain ⟨ad1, e1, hc1⟩ := HP3.out.own.cell s u eu
        cases e1
        have hfz : w3.frozen? ⟨g1, off + s, none⟩ = false := OwnAt.frozen HP3.out.own _
        have hcs : w3.cell? ⟨g1, off + s, none⟩ = some u := by have := hc1; rwa [Addr.add_mid] at this
        clear hkq hu eu hc1 hyes
        go_wp2
        go_roundg (m - (i + 1))
        case measure => have := HII.out; have := HLT.out; omega
        case rel =>
          refine ⟨i + 1, L.set s (.slice Aj l cj), by have := HII.out; have := HLT.out; omega, by go_num, ⟨?_⟩, ⟨HBa.out.setCell HG1.out.1 _⟩⟩
          rw [HD.out]
          exact Parts.set HP3.out s HSN.out _ _ (Elem.mk' HRD3.out HOB.out)
      | false =>
        have HD := As.mk (HDS.out.trans (if_neg (by rw [hkq]; decide)))
        by_cases hlk : i < kn
        · have k0 : decide ((i : Int) < (kn : Int)) = true := decide_eq_true (by omega)
          have k1 : decide (i < kn) = true := decide_eq_true hlk
          have k2 : (i : Int) < (kn : Int) := by omega
          obtain ⟨kd, e, hc⟩ := HKK.out.at i hlk
          cases e
          have hkc : w3.cell? (kd.add i) = some (.bool false) := by rw [hc]; unfold keptF at hkq; rw [hkq]
          clear hkq hyes hc hlk
          go_wp2
          go_roundg (m - (i + 1))
          case measure => have := HII.out; have := HLT.out; omega
          case rel => exact ⟨i + 1, L, by have := HII.out; have := HLT.out; omega, by go_num, ⟨by rw [HD.out]; exact HP3.out⟩, HBa⟩
        · have k0 : decide ((i : Int) < (kn : Int)) = false := decide_eq_false (by omega)
          have k1 : decide (i < kn) = false := decide_eq_false hlk
          clear hkq hyes hlk
          go_wp2
          go_roundg (m - (i + 1))
          case measure => have := HII.out; have := HLT.out; omega
          case rel => exact ⟨i + 1, L, by have := HII.out; have := HLT.out; omega, by go_num, ⟨by rw [HD.out]; exact HP3.out⟩, HBa⟩
    · have b0 : decide ((i : Int) < (m : Int)) = false := decide_eq_false (by omega)
      have b1 : decide (i < m) = false := decide_eq_false hlt
      obtain rfl : m = i := by have := HII.out; omega
      have hall : es.take m = es := by rw [← H1.out.len, List.take_length]
      rw [hall] at HP
      clear hall hlt HII
      go_wp2
      go_ret
      exact ⟨A1, c1, L, rfl, HP.out, HB.out⟩
set_option maxHeartbeats 1000000 in
set_option maxRecDepth 100000 in
theorem may_bad (w : World) (es : List (Int × List Int)) (A E K : Option Addr) (n c m d k kc : Nat) (hm : m ≤ 1000000) (h1 : RdE w E m d es) (h : mayF n m es ≠ 0 ∨ (mayF n m es = 0 ∧ k ≠ n)) :
    Calls Try.prog 47 #[.slice A n c, .slice E m d, .slice K k kc] w fun e w' => e = .returned (.bool false) ∧ Below w.heap.size w w' := by
  have HM := As.mk hm
  have H1 := As.mk h1
  clear hm h1
  rcases h with h | ⟨h, hk⟩
  · obtain ⟨r, hr⟩ : ∃ r, mayF n m es = r := ⟨_, rfl⟩
    have HR := As.mk hr
    rw [hr] at h
    have d0 : decide (r = 0) = false := decide_eq_false h
    have d1 : (r == 0) = false := beq_eq_false_iff_ne.2 h
    have d2 : (r != 0) = true := by rw [bne, d1]; rfl
    clear hr h
    go_enter Try.func47, Try.ntmps47
    go_wp2_with (go_at_call 116; refine (may_any w n E m d es HM.out H1.out).mono ?_; rintro e w2 ⟨rfl, hb⟩; rw [HR.out]; have HB2 := As.mk hb; clear hb)
    go_ret
    exact ⟨rfl, HB2.out⟩
  · have HR := As.mk h
    have d1 : ((k : Int) == (n : Int)) = false := beq_eq_false_iff_ne.2 (by omega)
    have d2 : ((k : Int) != (n : Int)) = true := by rw [bne, d1]; rfl
    have d3 : (k == n) = false := beq_eq_false_iff_ne.2 hk
    have d4 : decide ((k : Int) = (n : Int)) = false := decide_eq_false (by omega)
    have d5 : decide (k = n) = false := decide_eq_false hk
    clear h
    go_enter Try.func47, Try.ntmps47
    go_wp2_with (go_at_call 116; refine (may_any w n E m d es HM.out H1.out).mono ?_; rintro e w2 ⟨rfl, hb⟩; rw [HR.out]; have HB2 := As.mk hb; clear hb)
    go_ret
    exact ⟨rfl, HB2.out⟩
theorem mayF_few {n m : Nat} {es : List (Int × List Int)} (hn : n ≤ 4096) (hm : m ≤ 4096) : mayF n m es = 0 ∨ mayF n m es = 41 := by
  unfold mayF
  split
  · exact .inr rfl
  · rw [if_neg (by omega), if_neg (by omega)]; exact .inl rfl
theorem mayF_within {n m : Nat} {es : List (Int × List Int)} (hn : n ≤ 4096) (hm : m ≤ 4096) : (!(es.any (outE n))) = decide (mayF n m es = 0) := by
  unfold mayF
  cases es.any (outE n) with
  | true => rfl
  | false => rw [if_neg (by decide), if_neg (by omega), if_neg (by omega)]; rfl
theorem okF_own (j : Nat) (b : List Int) (es : List (Int × List Int)) : okF j b b es = true := by unfold okF; simp
theorem leftF_own (es : List (Int × List Int)) (ps : List (List Int)) (n : Nat) : leftF es ps ps n = true := leftF_all es ps ps n fun j _ => okF_own j _ es
theorem doneF_row (keep : Nat → Bool) : ∀ (es : List (Int × List Int)) (i : Nat) (ps : List (List Int)) (j : Nat), j < ps.length → (∀ e ∈ es, 0 ≤ e.1) → nthP (doneF keep i ps es) j = nthP ps j ∨ ∃ e ∈ es, e.1 = (j : Int) ∧ e.2 = nthP (doneF keep i ps es) j
  | [], i, ps, j, _, _ => .inl rfl
  | e :: r, i, ps, j, hj, hp => by
    show nthP (doneF keep (i + 1) (if keep i = true then ps.set e.1.toNat e.2 else ps) r) j = _ ∨ _
    have hr : ∀ x ∈ r, 0 ≤ x.1 := fun x hx => hp x (List.mem_cons_of_mem _ hx)
    by_cases hk : keep i = true
    · rw [if_pos hk]
      have hl : j < (ps.set e.1.toNat e.2).length := by rw [List.length_set]; exact hj
      rcases doneF_row keep r (i + 1) (ps.set e.1.toNat e.2) j hl hr with h | ⟨x, hx, h1, h2⟩
      · by_cases ej : e.1.toNat = j
        · refine .inr ⟨e, List.mem_cons_self, by have := hp e List.mem_cons_self; omega, ?_⟩
          rw [show doneF keep i ps (e :: r) = doneF keep (i + 1) (if keep i = true then ps.set e.1.toNat e.2 else ps) r from rfl, if_pos hk, h, nthP_set _ _ _ _ (by omega), if_pos ej]
        · left
          rw [h]
          unfold nthP
          rw [List.getD_eq_getElem?_getD, List.getElem?_set, if_neg ej, List.getD_eq_getElem?_getD]
      · refine .inr ⟨x, List.mem_cons_of_mem _ hx, h1, ?_⟩
        rw [show doneF keep i ps (e :: r) = doneF keep (i + 1) (if keep i = true then ps.set e.1.toNat e.2 else ps) r from rfl, if_pos hk]
        exact h2
    · rw [if_neg hk]
      rcases doneF_row keep r (i + 1) ps j hj hr with h | ⟨x, hx, h1, h2⟩
      · exact .inl h
      · refine .inr ⟨x, List.mem_cons_of_mem _ hx, h1, ?_⟩
        rw [show doneF keep i ps (e :: r) = doneF keep (i + 1) (if keep i = true then ps.set e.1.toNat e.2 else ps) r from rfl, if_neg hk]
        exact h2
theorem leftF_done (keep : Nat → Bool) (es : List (Int × List Int)) (ps : List (List Int)) (n : Nat) (hl : ps.length = n) (hp : ∀ e ∈ es, 0 ≤ e.1) : leftF es ps (doneF keep 0 ps es) n = true :=
  leftF_all es ps _ n fun j hj => by
    unfold okF
    rw [Bool.or_eq_true, decide_eq_true_eq, List.any_eq_true]
    rcases doneF_row keep es 0 ps j (by omega) hp with h | ⟨e, he, h1, h2⟩
    · exact .inl h
    · exact .inr ⟨e, he, by rw [Bool.and_eq_true, decide_eq_true_eq, decide_eq_true_eq]; exact ⟨h1, h2.symm⟩⟩
end Go.Proofs.Yteajblfkfmopfaa.LawCrash
