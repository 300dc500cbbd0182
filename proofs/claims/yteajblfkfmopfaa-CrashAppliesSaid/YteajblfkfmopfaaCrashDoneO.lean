/- chatelainelaw34.done, whose rows are rows of what was handed in. -/
import Derived.Test.YteajblfkfmopfaaCrashLawD
namespace Go.Proofs.Yteajblfkfmopfaa.LawCrash
set_option linter.unusedVariables false
set_option linter.unusedSimpArgs false
open Go Go.RowKit Go.Proofs.Yteajblfkfmopfaa.Mem Go.Proofs.Yteajblfkfmopfaa.Put32 Go.Proofs.Yteajblfkfmopfaa.Sum Go.Proofs.Yteajblfkfmopfaa.Hmac Go.Proofs.Yteajblfkfmopfaa.Parts Go.Proofs.Yteajblfkfmopfaa.Entries Go.Proofs.Yteajblfkfmopfaa.CrashApply

/-- each row lay there before -/
def OldP (w : World) (L : List Value) (n : Nat) (ps : List (List Int)) : Prop := ∀ j, j < n → ∃ Aj cj, L[j]? = some (.slice Aj (nthP ps j).length cj) ∧ Rd .u8 w Aj (nthP ps j).length cj (nthP ps j)
theorem OldP.set {w : World} {L : List Value} {n : Nat} {ps : List (List Int)} (h : OldP w L n ps) (s : Nat) (hs : s < n) (hl : ps.length = n) (hL : L.length = n) {q : List Int} {l : Nat} (hq : l = q.length) {Aj : Option Addr} {cj : Nat} (hr : Rd .u8 w Aj l cj q) : OldP w (L.set s (.slice Aj l cj)) n (ps.set s q) := fun j hj => by
  subst hq
  rw [nthP_set _ _ _ _ (by omega), List.getElem?_set]
  by_cases e : s = j
  · subst e
    rw [if_pos rfl, if_pos rfl, if_pos (by omega)]
    exact ⟨Aj, cj, rfl, hr⟩
  · rw [if_neg e, if_neg e]
    exact h j hj
theorem rdp_over {w0 w : World} {A : Option Addr} {n c : Nat} {ps : List (List Int)} (h : RdP w0 A n c ps) (hb : Below w0.heap.size w0 w) : RdP w A n c ps := h.below hb
theorem rde_over {w0 w : World} {A : Option Addr} {n c : Nat} {es : List (Int × List Int)} (h : RdE w0 A n c es) (hb : Below w0.heap.size w0 w) : RdE w A n c es := h.below hb

set_option maxHeartbeats 2000000 in
set_option maxRecDepth 100000 in
theorem done34_old (w0 w : World) (ps : List (List Int)) (es : List (Int × List Int)) (bs : List Bool) (A E K : Option Addr) (n c m d kn kc : Nat) (hn : n ≤ 1000000) (hm : m ≤ 1000000) (hb0 : Below w0.heap.size w0 w) (z0 : RdP w0 A n c ps) (z1 : RdE w0 E m d es) (hk : RdB w K kn kc bs) (hin : ∀ j, j < m → 0 ≤ (nthE es j).1 ∧ (nthE es j).1 < n) :
    Calls Try.prog 48 #[.slice A n c, .slice E m d, .slice K kn kc] w fun e w' => ∃ A' c' L, e = .returned (.slice A' n c') ∧ Parts w' w.heap.size (.slice A' n c') n L (doneF (keptF bs) 0 ps es) ∧ Below w.heap.size w w' ∧ OldP w0 L n (doneF (keptF bs) 0 ps es) := by
  have h0 := rdp_over z0 hb0
  have h1 := rde_over z1 hb0
  have Z1 := As.mk z1
  have HN := As.mk hn
  have HM := As.mk hm
  have H0 := As.mk h0
  have H1 := As.mk h1
  have HK := As.mk hk
  have HI := As.mk hin
  have HB0 := As.mk (below_alloc (Below.refl w.heap.size w) (.cells #[] 37))
  have HE : As (OwnAt (w.alloc (.cells #[] 37)) w.heap.size (.slice (some ⟨w.heap.size, 0, none⟩) 0 0) 0 []) := ⟨OwnAt.lit w 37 [] (by decide)⟩
  obtain ⟨L1, lL, sL, eL⟩ := rdp_list z0
  have LL := As.mk lL
  have SL := As.mk (src_below sL (hb0.trans (HB0.out.mono hb0.size)))
  have EL := As.mk eL
  have HBO := As.mk hb0
  clear hn hm h0 h1 z0 z1 hb0 hk hin lL sL eL
  go_enter Try.func48, Try.ntmps48
  go_wp2_with (at_builtin; refine wpList_app2 rfl _ _ 50 rfl w.heap.size 37 (.slice none 0 0) 24 Try.underlying50 infoP rfl _ 0 [] rfl HE.out _ n L1 rfl SL.out ?c1 ?c2 HB0.out.size HB0.out (Nat.le_refl _) ?_; (case c1 => have := HN.out; unfold maxLen; omega); (case c2 => have := HN.out; omega); rw [Nat.zero_add, List.nil_append]; intro v3 w1 hown hg hat hb; obtain ⟨A1, c1, rfl⟩ := hown.slice; have HO3 := As.mk hown; have HB1 := As.mk hb; clear hown hg hat hb)
  have HP1 : As (Parts w1 w.heap.size (.slice A1 n c1) n L1 ps) := ⟨⟨H0.out.len, HO3.out, fun j hj => by
    obtain ⟨Aj, cj, e1, e2⟩ := EL.out j hj
    exact ⟨_, e1, Elem.mk' (e2.below (HBO.out.trans (HB1.out.mono HBO.out.size))) (old_apart e2 fun k hk => Nat.le_trans HBO.out.size (HO3.out.lt k hk).1)⟩⟩⟩
  have HZ1 : As (OldP w0 L1 n ps) := ⟨fun j hj => by
    obtain ⟨Aj, cj, e1, e2⟩ := EL.out j hj
    exact ⟨Aj, cj, e1, e2⟩⟩
  clear HO3 EL SL LL HE
  go_loopg [15] m (fun kq v15 wr => ∃ (i : Nat) (L : List Value), i + kq = m ∧ v15 = .int .i64 i ∧ As (Parts wr w.heap.size (.slice A1 n c1) n L (doneF (keptF bs) 0 ps (es.take i))) ∧ As (Below w.heap.size w wr) ∧ As (OldP w0 L n (doneF (keptF bs) 0 ps (es.take i))))
  case atStart => exact ⟨0, L1, by omega, rfl, HP1, HB1, HZ1⟩
  case round =>
    clear HP1 HB1 HZ1
    obtain ⟨i, L, hi, rfl, HP, HB, HZ⟩ := hrel
    have HII := As.mk hi
    clear hi
    by_cases hlt : i < m
    · have b0 : decide ((i : Int) < (m : Int)) = true := decide_eq_true (by omega)
      have b1 : decide (i < m) = true := decide_eq_true hlt
      have lt' : (i : Int) < (m : Int) := by omega
      have hw : wrap64 ((i : Int) + 1) = ((i + 1 : Nat) : Int) := wrap_up (by have := HM.out; omega)
      have HB0r := As.mk (HBO.out.trans (HB.out.mono HBO.out.size))
      obtain ⟨ad, Aj, cj, ea, h1w, h2w, h3w⟩ := Z1.out.at i hlt
      cases ea
      have h1 := (HB0r.out.cell (World.block_lt_of_cell? w0 _ h1w)).trans h1w
      have h2 := (HB0r.out.cell (World.block_lt_of_cell? w0 _ h2w)).trans h2w
      have h3 := h3w.below HB0r.out
      obtain ⟨hs0, hs1⟩ := HI.out i hlt
      obtain ⟨s, hs⟩ : ∃ s : Nat, (nthE es i).1 = (s : Int) := ⟨(nthE es i).1.toNat, by omega⟩
      obtain ⟨q, hq⟩ : ∃ q, q = (nthE es i).2 := ⟨_, rfl⟩
      obtain ⟨l, hl⟩ : ∃ l, l = q.length := ⟨_, rfl⟩
      rw [← hq] at h2 h3 h3w
      rw [← hl] at h2 h3 h3w
      rw [hs] at h1 hs1
      have lsn : s < n := by omega
      obtain ⟨g1, off, ea, hg1, hg2⟩ := own_shape HP.out.own (by omega)
      cases ea
      have H1c := As.mk h1
      have H2c := As.mk h2
      have HRD := As.mk h3
      have HOB := As.mk (old_apart (row := some g1) h3w (fun k hk => by cases hk; exact Nat.le_trans HBO.out.size hg1))
      have HZR := As.mk h3w
      have HQL := As.mk hl
      have HSN := As.mk lsn
      have HLT := As.mk hlt
      have lsn' : (s : Int) < (n : Int) := by omega
      have HG1 := As.mk (show w.heap.size ≤ g1 ∧ g1 < wr.heap.size from ⟨hg1, hg2⟩)
      have HDS := As.mk (show doneF (keptF bs) 0 ps (es.take (i + 1)) = if keptF bs i = true then (doneF (keptF bs) 0 ps (es.take i)).set s q else doneF (keptF bs) 0 ps (es.take i) by
        rw [takeE es i (by rw [H1.out.len]; exact hlt), doneF_snoc, List.length_take, Nat.min_eq_left (by rw [H1.out.len]; omega), Nat.zero_add, hs, ← hq]; rfl)
      clear h1 h2 h3 h1w h2w h3w hs0 hs1 hs hq hl hlt hg1 hg2
      have hba := below_alloc (Below.refl wr.heap.size wr) (.cells #[.int .i64 (s : Int), .slice Aj l cj] 90)
      have hvw := heap_alloc_new wr (.cells #[.int .i64 (s : Int), .slice Aj l cj] 90)
      have HBa := As.mk (below_step HB.out hba)
      have HP3 := As.mk (HP.out.below hba)
      have HRD3 := As.mk (HRD.out.below hba)
      have HVB := As.mk (show g1 ≠ wr.heap.size by have := HG1.out; omega)
      have v0 : (wr.alloc (.cells #[.int .i64 (s : Int), .slice Aj l cj] 90)).cell? ⟨wr.heap.size, 0, none⟩ = some (.int .i64 (s : Int)) := by rw [cell_of_row _ _ 0 _ _ _ hvw]; rfl
      have v1 : (wr.alloc (.cells #[.int .i64 (s : Int), .slice Aj l cj] 90)).cell? ⟨wr.heap.size, 1, none⟩ = some (.slice Aj l cj) := by rw [cell_of_row _ _ 1 _ _ _ hvw]; rfl
      have HKK := As.mk (HK.out.below HBa.out)
      obtain ⟨w3, hw3⟩ : ∃ w3, wr.alloc (.cells #[.int .i64 (s : Int), .slice Aj l cj] 90) = w3 := ⟨_, rfl⟩
      obtain ⟨bv, hbv⟩ : ∃ bv, wr.heap.size = bv := ⟨_, rfl⟩
      have HW3 := As.mk hw3
      have HBV := As.mk hbv
      rw [hw3] at v0 v1 hba hvw HBa HP3 HRD3 HKK
      rw [hbv] at v0 v1
      clear hba hvw hw3 hbv HB HP
      go_upto_region 5 with (refine wpList_load_at rfl 90 (.tmp 18) rfl (ad.add (i * 2)) rfl [.int .i64 (s : Int), .slice Aj l cj] _ (fun j v hv => by rcases j with _ | _ | j <;> simp at hv <;> subst hv <;> rw [add_add] <;> first | exact H1c.out | exact H2c.out) Try.underlying90 rfl infoEn ?_)
      rw [HW3.out, HBV.out]
      have hyes : keptF bs i = true → ∃ kd, K = some kd ∧ (i < kn) ∧ w3.cell? (kd.add i) = some (.bool true) := fun h => by
        have hlk : i < kn := by
          rcases Nat.lt_or_ge i kn with h2 | h2
          · exact h2
          · rw [keptF, List.getD_eq_getElem?_getD, List.getElem?_eq_none (by rw [HK.out.len]; omega)] at h; exact absurd h (by decide)
        obtain ⟨kd, e, hc⟩ := HKK.out.at i hlk
        exact ⟨kd, e, hlk, by rw [hc]; unfold keptF at h; rw [h]⟩
      cases hkq : keptF bs i with
      | true =>
        obtain ⟨kd, rfl, hlk, hkc⟩ := hyes hkq
        have k0 : decide ((i : Int) < (kn : Int)) = true := decide_eq_true (by omega)
        have k1 : decide (i < kn) = true := decide_eq_true hlk
        have k2 : (i : Int) < (kn : Int) := by omega
        have HD := As.mk (HDS.out.trans (if_pos hkq))
        obtain ⟨u, eu, hu⟩ := HP3.out.each s HSN.out
        obtain ⟨ad1, e1, hc1⟩ := HP3.out.own.cell s u eu
        cases e1
        have hfz : w3.frozen? ⟨g1, off + s, none⟩ = false := OwnAt.frozen HP3.out.own _
        have hcs : w3.cell? ⟨g1, off + s, none⟩ = some u := by have := hc1; rwa [Addr.add_mid] at this
        clear hkq hu eu hc1 hyes
        go_wp2
        go_roundg (m - (i + 1))
        case measure => have := HII.out; have := HLT.out; omega
        case rel =>
          refine ⟨i + 1, L.set s (.slice Aj l cj), by have := HII.out; have := HLT.out; omega, by go_num, ⟨?_⟩, ⟨HBa.out.setCell HG1.out.1 _⟩, ⟨?_⟩⟩
          · rw [HD.out]
            exact Parts.set HP3.out s HSN.out _ _ (Elem.mk' HRD3.out HOB.out)
          · rw [HD.out]
            exact OldP.set HZ.out s HSN.out HP3.out.len HP3.out.own.1 HQL.out HZR.out
      | false =>
        have HD := As.mk (HDS.out.trans (if_neg (by rw [hkq]; decide)))
        by_cases hlk : i < kn
        · have k0 : decide ((i : Int) < (kn : Int)) = true := decide_eq_true (by omega)
          have k1 : decide (i < kn) = true := decide_eq_true hlk
          have k2 : (i : Int) < (kn : Int) := by omega
          obtain ⟨kd, e, hc⟩ := HKK.out.at i hlk
          cases e
          have hkc : w3.cell? (kd.add i) = some (.bool false) := by rw [hc]; unfold keptF at hkq; rw [hkq]
          clear hkq hyes hc hlk
          go_wp2
          go_roundg (m - (i + 1))
          case measure => have := HII.out; have := HLT.out; omega
          case rel => exact ⟨i + 1, L, by have := HII.out; have := HLT.out; omega, by go_num, ⟨by rw [HD.out]; exact HP3.out⟩, HBa, ⟨by rw [HD.out]; exact HZ.out⟩⟩
        · have k0 : decide ((i : Int) < (kn : Int)) = false := decide_eq_false (by omega)
          have k1 : decide (i < kn) = false := decide_eq_false hlk
          clear hkq hyes hlk
          go_wp2
          go_roundg (m - (i + 1))
          case measure => have := HII.out; have := HLT.out; omega
          case rel => exact ⟨i + 1, L, by have := HII.out; have := HLT.out; omega, by go_num, ⟨by rw [HD.out]; exact HP3.out⟩, HBa, ⟨by rw [HD.out]; exact HZ.out⟩⟩
    · have b0 : decide ((i : Int) < (m : Int)) = false := decide_eq_false (by omega)
      have b1 : decide (i < m) = false := decide_eq_false hlt
      obtain rfl : m = i := by have := HII.out; omega
      have hall : es.take m = es := by rw [← H1.out.len, List.take_length]
      rw [hall] at HP HZ
      clear hall hlt HII
      go_wp2
      go_ret
      exact ⟨A1, c1, L, rfl, HP.out, HB.out, HZ.out⟩
end Go.Proofs.Yteajblfkfmopfaa.LawCrash
