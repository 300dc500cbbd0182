/- JournalPacks: the statement. -/
import Derived.Test.YteajblfkfmopfaaJourG
import Derived.Test.YteajblfkfmopfaaJourH
import Derived.Test.YteajblfkfmopfaaJourB
import Derived.Test.YteajblfkfmopfaaGuard
import Derived.Test.YteajblfkfmopfaaRefSame
import Derived.Deep.DeepCutAuto
import Derived.Deep.CutBlock
import Derived.Deep.QuietTactic
import Derived.BigQuiet
namespace Go.Proofs.Yteajblfkfmopfaa.Jour
set_option linter.unusedVariables false
set_option linter.unusedSimpArgs false
open Go Go.RowKit Go.Proofs.Yteajblfkfmopfaa.Mem Go.Proofs.Yteajblfkfmopfaa.Put Go.Proofs.Yteajblfkfmopfaa.Entries Go.Proofs.Yteajblfkfmopfaa.Geo Go.Proofs.Yteajblfkfmopfaa.LayA Go.Proofs.Yteajblfkfmopfaa.Sum Go.Proofs.Yteajblfkfmopfaa.Hmac Go.Proofs.Yteajblfkfmopfaa.Parts Go.Proofs.Yteajblfkfmopfaa.Pad

def sizeB (n z : Int) : Bool := decide (0 ≤ n) && (decide (n ≤ 65536) && wideE z)
def sizeV (n z : Int) : Int := if sizeB n z = true then ((recN n.toNat z.toNat : Nat) : Int) else 0
theorem size_tot (n z v : Int) (b : Bool) (hv : sizeV n z = v) (hb : sizeB n z = b) (w : World) :
    Calls Try.prog 75 #[.int .i64 n, .int .i64 z] w fun e w' => e = .returned (.tuple #[.int .i64 v, .bool b]) ∧ w = w' := by
  cases b with
  | true =>
    have h := hb
    unfold sizeB at h
    simp only [Bool.and_eq_true, decide_eq_true_eq] at h
    obtain ⟨s, rfl, hs⟩ := wideE_nat h.2.2
    obtain ⟨m, rfl⟩ := Int.eq_ofNat_of_zero_le h.1
    unfold sizeV at hv
    rw [if_pos hb] at hv
    subst hv
    exact size_ok m s _ (by omega) hs rfl w
  | false =>
    have hv0 : v = 0 := by rw [← hv]; unfold sizeV; rw [if_neg (by rw [hb]; decide)]
    subst hv0
    refine size_bad n z (wideE z) rfl ?_ w
    unfold sizeB at hb
    by_cases h1 : n < 0
    · exact .inl h1
    · by_cases h2 : 65536 < n
      · exact .inr (.inl h2)
      · rw [decide_eq_true (show 0 ≤ n by omega), decide_eq_true (show n ≤ 65536 by omega)] at hb
        exact .inr (.inr hb)
theorem sizeRI (n s r : Nat) (y z : Int) (hy : y = (n : Int)) (hz : z = (s : Int)) (hn : n ≤ 65536) (hs : 64 ≤ s ∧ s ≤ 256) (hr : recN n s = r) (w : World) :
    Calls Try.prog 77 #[.int .i64 y, .int .i64 z] w fun e w' => e = .returned (.int .i64 (r : Int)) ∧ w = w' := hy ▸ hz ▸ sizeR_ok n s r hn hs hr w
def askA (K : Option Addr) (kn kc : Nat) (count z room : Int) : Array Value := #[.slice K kn kc, .int .i64 count, .int .i64 z, .int .i64 room]
set_option maxHeartbeats 4000000 in
set_option maxRecDepth 100000 in
theorem packs_far (count z room nn : Int) (K : Option Addr) (kn kc : Nat) (es : List (Int × List Int)) (A : Option Addr) (n c : Nat) (w : World) (hn : n ≤ 9223372036854775807) (h : fewB es = false ∨ (fewB es = true ∧ 100 < kn)) (h1 : RdE w A n c es) :
    Calls Try.prog 13 #[.agg #[.slice K kn kc, .int .i64 count, .int .i64 z, .int .i64 room], .slice A n c, .int .i64 nn] w fun e w' => e = .returned (.bool true) ∧ Below w.heap.size w w' := by
  have HN := As.mk hn
  have HB0 := As.mk (below_alloc (Below.refl w.heap.size w) (.cells #[.slice K kn kc, .int .i64 count, .int .i64 z, .int .i64 room] 119))
  have HG0 := As.mk (heap_alloc_new w (.cells #[.slice K kn kc, .int .i64 count, .int .i64 z, .int .i64 room] 119))
  have H10 := As.mk (h1.below HB0.out)
  clear hn h1
  rcases h with h | ⟨h, hk⟩
  · have HF := As.mk h
    clear h
    go_enter Try.func13, Try.ntmps13
    go_wp2_with (first
      | (refine wpList_boxArr rfl 119 _ rfl #[.slice K kn kc, .int .i64 count, .int .i64 z, .int .i64 room] rfl ?_)
      | (go_at_call 73; (with_reducible refine (awake_true _).mono ?_); rintro e w1 ⟨rfl, hb⟩; have HB1 := As.mk (below_step HB0.out hb); have H11 := As.mk (H10.out.below hb); clear hb)
      | (go_at_call 74; (with_reducible refine (few_any w1 A n c es HN.out H11.out false HF.out).mono ?_); rintro e w2 ⟨rfl, hb⟩; have HB2 := As.mk (below_step HB1.out hb); clear hb))
    go_ret
    exact ⟨rfl, HB2.out⟩
  · have HF := As.mk h
    have d0 : decide (100 < (kn : Int)) = true := decide_eq_true (by omega)
    have d1 : decide (100 < kn) = true := decide_eq_true hk
    clear h hk
    go_enter Try.func13, Try.ntmps13
    go_wp2_with (first
      | (refine wpList_boxArr rfl 119 _ rfl #[.slice K kn kc, .int .i64 count, .int .i64 z, .int .i64 room] rfl ?_)
      | (go_at_call 73; (with_reducible refine (awake_true _).mono ?_); rintro e w1 ⟨rfl, hb⟩; have HB1 := As.mk (below_step HB0.out hb); have HG1 := As.mk ((hb.block _ (Array.getElem?_eq_some_iff.1 HG0.out).1).trans HG0.out); have H11 := As.mk (H10.out.below hb); clear hb)
      | (go_at_call 74; (with_reducible refine (few_any w1 A n c es HN.out H11.out true HF.out).mono ?_); rintro e w2 ⟨rfl, hb⟩; have HB2 := As.mk (below_step HB1.out hb); have HG2 := As.mk ((hb.block _ (Array.getElem?_eq_some_iff.1 HG1.out).1).trans HG1.out); have cz0 : w2.cell? ⟨w.heap.size, 0, none⟩ = some (.slice K kn kc) := cell_of_row w2 _ 0 _ _ _ HG2.out; clear hb))
    go_ret
    exact ⟨rfl, HB2.out⟩
set_option maxHeartbeats 4000000 in
set_option maxRecDepth 100000 in
theorem packs_near (count z room nn : Int) (key : List Int) (hk : Byte key) (K : Option Addr) (kn kc : Nat) (hkn : kn ≤ 100) (es : List (Int × List Int)) (hes : ∀ e ∈ es, Byte e.2) (A : Option Addr) (n c : Nat) (w : World) (hf : fewB es = true) (h0 : Rd .u8 w K kn kc key) (h1 : RdE w A n c es) :
    Calls Try.prog 13 #[.agg #[.slice K kn kc, .int .i64 count, .int .i64 z, .int .i64 room], .slice A n c, .int .i64 nn] w fun e w' => e = .returned (.bool true) ∧ Below w.heap.size w w' := by
  have HX := As.mk hk
  have HKN := As.mk hkn
  have HES := As.mk hes
  have HF := As.mk hf
  have HEL := As.mk h1.len
  have HN := As.mk (show n ≤ 20 by rw [← h1.len]; exact ((few_iff es).1 hf).2)
  have HB0 := As.mk (below_alloc (Below.refl w.heap.size w) (.cells #[.slice K kn kc, .int .i64 count, .int .i64 z, .int .i64 room] 119))
  have HG0 := As.mk (heap_alloc_new w (.cells #[.slice K kn kc, .int .i64 count, .int .i64 z, .int .i64 room] 119))
  have H00 := As.mk (h0.below HB0.out)
  have H10 := As.mk (h1.below HB0.out)
  have d0 : decide (100 < (kn : Int)) = false := decide_eq_false (by omega)
  have d1 : decide (100 < kn) = false := decide_eq_false (by omega)
  obtain ⟨v, hv⟩ : ∃ v, sizeV nn z = v := ⟨_, rfl⟩
  obtain ⟨b, hb⟩ : ∃ b, sizeB nn z = b := ⟨_, rfl⟩
  have HV := As.mk hv
  have HSB := As.mk hb
  clear hk hkn hes hf h0 h1 hv hb
  go_enter Try.func13, Try.ntmps13
  go_upto_region 6 with (first
    | (refine wpList_boxArr rfl 119 _ rfl #[.slice K kn kc, .int .i64 count, .int .i64 z, .int .i64 room] rfl ?_)
    | (go_at_call 73; (with_reducible refine (awake_true _).mono ?_); rintro e w1 ⟨rfl, hb⟩; have HB1 := As.mk (below_step HB0.out hb); have HG1 := As.mk ((hb.block _ (Array.getElem?_eq_some_iff.1 HG0.out).1).trans HG0.out); have H01 := As.mk (H00.out.below hb); have H11 := As.mk (H10.out.below hb); clear hb)
    | (go_at_call 74; (with_reducible refine (few_any w1 A n c es (by have := HN.out; omega) H11.out true HF.out).mono ?_); rintro e w2 ⟨rfl, hb⟩; have HB2 := As.mk (below_step HB1.out hb); have HG2 := As.mk ((hb.block _ (Array.getElem?_eq_some_iff.1 HG1.out).1).trans HG1.out); have H02 := As.mk (H01.out.below hb); have H12 := As.mk (H11.out.below hb); have cz0 : w2.cell? ⟨w.heap.size, 0, none⟩ = some (.slice K kn kc) := cell_of_row w2 _ 0 _ _ _ HG2.out; have cz1 : w2.cell? ⟨w.heap.size, 1, none⟩ = some (.int .i64 count) := cell_of_row w2 _ 1 _ _ _ HG2.out; have cz2 : w2.cell? ⟨w.heap.size, 2, none⟩ = some (.int .i64 z) := cell_of_row w2 _ 2 _ _ _ HG2.out; have cz3 : w2.cell? ⟨w.heap.size, 3, none⟩ = some (.int .i64 room) := cell_of_row w2 _ 3 _ _ _ HG2.out; clear hb)
    | (go_at_call 75; (with_reducible refine (size_tot nn z v b HV.out HSB.out w2).mono ?_); rintro e w3 ⟨rfl, rfl⟩))
  go_cut [9] (fun s9 wx => s9 = .bool b ∧ w2 = wx)
  case first =>
    by_cases g1 : 0 ≤ nn
    · have k1 : decide (0 ≤ nn) = true := decide_eq_true g1
      by_cases g2 : nn ≤ 65536
      · have k2 : decide (nn ≤ 65536) = true := decide_eq_true g2
        have HW := As.mk (show wideE z = b by rw [← HSB.out]; unfold sizeB; rw [k1, k2]; rfl)
        clear g1 g2
        go_wp2_with (go_at_call 76; (with_reducible refine (wideR_e z b HW.out _).mono ?_); rintro e w3 ⟨rfl, rfl⟩)
        go_meet
        exact ⟨rfl, rfl⟩
      · have k2 : decide (nn ≤ 65536) = false := decide_eq_false g2
        have HW := As.mk (show b = false by rw [← HSB.out]; unfold sizeB; rw [k1, k2]; rfl)
        clear g1 g2
        go_wp2
        go_meet
        exact ⟨by rw [HW.out], rfl⟩
    · have k1 : decide (0 ≤ nn) = false := decide_eq_false g1
      have HW := As.mk (show b = false by rw [← HSB.out]; unfold sizeB; rw [k1]; rfl)
      clear g1
      go_wp2
      go_meet
      exact ⟨by rw [HW.out], rfl⟩
  case rest =>
    obtain ⟨rfl, rfl⟩ := hcut
    go_upto_region 7 with fail
    go_cut [69] (fun s69 wx => s69 = .bool false ∧ w2 = wx)
    case first =>
      cases b with
      | true =>
        have hh := HSB.out
        unfold sizeB at hh
        simp only [Bool.and_eq_true, decide_eq_true_eq] at hh
        obtain ⟨s, rfl, hs⟩ := wideE_nat hh.2.2
        obtain ⟨m, rfl⟩ := Int.eq_ofNat_of_zero_le hh.1
        have hm : m ≤ 65536 := by omega
        obtain ⟨r, hr⟩ : ∃ r, recN m s = r := ⟨_, rfl⟩
        have hvr : v = (r : Int) := by rw [← HV.out]; unfold sizeV; rw [if_pos HSB.out, ← hr]; rfl
        subst hvr
        have HR := As.mk hr
        have HM := As.mk hm
        have HS2 := As.mk (show 64 ≤ s ∧ s ≤ 256 by omega)
        by_cases g : m ≤ 1000
        · have k1 : decide ((m : Int) ≤ 1000) = true := decide_eq_true (by omega)
          have k2 : decide (m ≤ 1000) = true := decide_eq_true g
          clear hh hs hm hr g
          go_wp2_with (go_at_call 77; (with_reducible refine (sizeRI m s r _ _ rfl rfl HM.out HS2.out HR.out _).mono ?_); rintro e w3 ⟨rfl, rfl⟩)
          go_meet
          exact ⟨rfl, rfl⟩
        · have k1 : decide ((m : Int) ≤ 1000) = false := decide_eq_false (by omega)
          have k2 : decide (m ≤ 1000) = false := decide_eq_false g
          clear hh hs hm hr g
          go_wp2
          go_meet
          exact ⟨rfl, rfl⟩
      | false =>
        have hv0 : v = 0 := by rw [← HV.out]; unfold sizeV; rw [if_neg (by rw [HSB.out]; decide)]
        subst hv0
        go_wp2
        go_meet
        exact ⟨rfl, rfl⟩
    case rest =>
      obtain ⟨rfl, rfl⟩ := hcut
      clear HSB HV
      rcases Bool.eq_false_or_eq_true (wideE z) with hw | hw
      · obtain ⟨s, rfl, hs⟩ := wideE_nat hw
        have HW := As.mk hw
        have HS := As.mk hs
        by_cases g1 : count < 0
        · have k1 : decide (count < 0) = true := decide_eq_true g1
          have HPA := As.mk (fun W (hW : RdE W A n c es) => pack_arg K kn kc count A n c es (s : Int) room (by have := HN.out; omega) true HW.out (.inr (.inl ⟨rfl, .inl g1⟩)) W hW)
          clear g1 hw hs
          go_wp2_with (first
            | (go_at_call 78; (with_reducible refine (HPA.out w2 H12.out).mono ?_); rintro e w3 ⟨rfl, hb⟩; have HB3 := As.mk (below_step HB2.out hb); have HG3 := As.mk ((hb.block _ (Array.getElem?_eq_some_iff.1 HG2.out).1).trans HG2.out); have H13 := As.mk (H12.out.below hb); have cy0 : w3.cell? ⟨w.heap.size, 0, none⟩ = some (.slice K kn kc) := cell_of_row w3 _ 0 _ _ _ HG3.out; have cy1 : w3.cell? ⟨w.heap.size, 1, none⟩ = some (.int .i64 count) := cell_of_row w3 _ 1 _ _ _ HG3.out; have cy2 : w3.cell? ⟨w.heap.size, 2, none⟩ = some (.int .i64 (s : Int)) := cell_of_row w3 _ 2 _ _ _ HG3.out; have cy3 : w3.cell? ⟨w.heap.size, 3, none⟩ = some (.int .i64 room) := cell_of_row w3 _ 3 _ _ _ HG3.out; clear hb)
            | (go_at_call 76; (with_reducible refine (wideR_e _ true HW.out _).mono ?_); rintro e w4 ⟨rfl, rfl⟩))
          go_ret
          exact ⟨rfl, HB3.out⟩
        · have k1 : decide (count < 0) = false := decide_eq_false g1
          by_cases g2 : 1099511627776 < count
          · have k2 : decide (1099511627776 < count) = true := decide_eq_true g2
            have HPA := As.mk (fun W (hW : RdE W A n c es) => pack_arg K kn kc count A n c es (s : Int) room (by have := HN.out; omega) true HW.out (.inr (.inl ⟨rfl, .inr g2⟩)) W hW)
            clear g1 g2 hw hs
            go_wp2_with (first
              | (go_at_call 78; (with_reducible refine (HPA.out w2 H12.out).mono ?_); rintro e w3 ⟨rfl, hb⟩; have HB3 := As.mk (below_step HB2.out hb); have HG3 := As.mk ((hb.block _ (Array.getElem?_eq_some_iff.1 HG2.out).1).trans HG2.out); have H13 := As.mk (H12.out.below hb); have cy0 : w3.cell? ⟨w.heap.size, 0, none⟩ = some (.slice K kn kc) := cell_of_row w3 _ 0 _ _ _ HG3.out; have cy1 : w3.cell? ⟨w.heap.size, 1, none⟩ = some (.int .i64 count) := cell_of_row w3 _ 1 _ _ _ HG3.out; have cy2 : w3.cell? ⟨w.heap.size, 2, none⟩ = some (.int .i64 (s : Int)) := cell_of_row w3 _ 2 _ _ _ HG3.out; have cy3 : w3.cell? ⟨w.heap.size, 3, none⟩ = some (.int .i64 room) := cell_of_row w3 _ 3 _ _ _ HG3.out; clear hb)
              | (go_at_call 76; (with_reducible refine (wideR_e _ true HW.out _).mono ?_); rintro e w4 ⟨rfl, rfl⟩))
            go_ret
            exact ⟨rfl, HB3.out⟩
          · have k2 : decide (1099511627776 < count) = false := decide_eq_false g2
            rcases Bool.eq_false_or_eq_true (mayB es s) with hm | hm
            · obtain ⟨ct, rfl⟩ := Int.eq_ofNat_of_zero_le (show 0 ≤ count by omega)
              have HM := As.mk hm
              have HC := As.mk (show ct ≤ 1099511627776 by omega)
              obtain ⟨q, hq⟩ : ∃ q, recN n s = 1 + q := ⟨recN n s - 1, by have : recN n s = 1 + ceil (4 * n) s + n := rfl; omega⟩
              have HQ := As.mk hq
              have HQL := As.mk (show q ≤ 40 by have h1 : recN n s = 1 + ceil (4 * n) s + n := rfl; have h2 := index_le (n := n) hs.1; have := HN.out; omega)
              have HN4 := As.mk (show n ≤ 65536 by have := HN.out; omega)
              have HN3 := As.mk (show n ≤ 1000 by have := HN.out; omega)
              have HSW := As.mk (show 64 ≤ s ∧ s ≤ 256 by omega)
              have hct : (0 : Int) ≤ (ct : Int) := by omega
              have hct2 : (ct : Int) ≤ 1099511627776 := by omega
              by_cases g3 : room < ((1 + q : Nat) : Int)
              · have k3 : decide (room < ((1 + q : Nat) : Int)) = true := decide_eq_true g3
                have HPA := As.mk (fun W (hW : RdE W A n c es) => pack_lim K kn kc ct HC.out A n c es s HS.out HM.out room HN3.out (1 + q) HQ.out g3 W hW)
                obtain ⟨q1, hq1⟩ : ∃ q1, q1 = 1 + q := ⟨_, rfl⟩
                rw [← hq1] at k3 HQ
                clear g1 g2 g3 hw hs hm hq hq1
                go_upto_region 12 with (first
                  | (go_at_call 78; (with_reducible refine (HPA.out w2 H12.out).mono ?_); rintro e w3 ⟨rfl, hb⟩; have HB3 := As.mk (below_step HB2.out hb); have HG3 := As.mk ((hb.block _ (Array.getElem?_eq_some_iff.1 HG2.out).1).trans HG2.out); have H13 := As.mk (H12.out.below hb); have cy0 : w3.cell? ⟨w.heap.size, 0, none⟩ = some (.slice K kn kc) := cell_of_row w3 _ 0 _ _ _ HG3.out; have cy1 : w3.cell? ⟨w.heap.size, 1, none⟩ = some (.int .i64 (ct : Int)) := cell_of_row w3 _ 1 _ _ _ HG3.out; have cy2 : w3.cell? ⟨w.heap.size, 2, none⟩ = some (.int .i64 (s : Int)) := cell_of_row w3 _ 2 _ _ _ HG3.out; have cy3 : w3.cell? ⟨w.heap.size, 3, none⟩ = some (.int .i64 room) := cell_of_row w3 _ 3 _ _ _ HG3.out; clear hb)
                  | (go_at_call 76; (with_reducible refine (wideR_e _ true HW.out _).mono ?_); rintro e w4 ⟨rfl, rfl⟩)
                  | (go_at_call 79; (with_reducible refine (mayR_any w3 A n c es s (by have := HN.out; omega) H13.out true HM.out).mono ?_); rintro e w4 ⟨rfl, hb⟩; have HB4 := As.mk (below_step HB3.out hb); have HG4 := As.mk ((hb.block _ (Array.getElem?_eq_some_iff.1 HG3.out).1).trans HG3.out); have cx2 : w4.cell? ⟨w.heap.size, 2, none⟩ = some (.int .i64 (s : Int)) := cell_of_row w4 _ 2 _ _ _ HG4.out; have cx3 : w4.cell? ⟨w.heap.size, 3, none⟩ = some (.int .i64 room) := cell_of_row w4 _ 3 _ _ _ HG4.out; clear hb))
                go_quiet ((go_at_call 77; exact Calls.quiet_of_same ((sizeRI n s q1 _ _ rfl rfl HN4.out HSW.out HQ.out _).mono fun _ _ ⟨a, b⟩ => ⟨a, b.symm⟩)))
                go_wp2
                go_ret
                exact ⟨rfl, below_drewN HB4.out _⟩
              · have k3 : decide (room < ((1 + q : Nat) : Int)) = false := decide_eq_false g3
                obtain ⟨q1, hq1⟩ : ∃ q1, q1 = 1 + q := ⟨_, rfl⟩
                have HQ1 := As.mk hq1
                obtain ⟨rows, hrows⟩ : ∃ rows, headB key ct es s :: cutB (bodyB es s) s q = rows := ⟨_, rfl⟩
                have HPA : As (∀ W, Rd .u8 W K kn kc key → RdE W A n c es → Calls Try.prog 78 #[.slice K kn kc, .int .i64 (ct : Int), .slice A n c, .int .i64 (s : Int), .int .i64 room] W fun e w' => ∃ P cp L, e = .returned (.tuple #[.slice P q1 cp, .int .i64 0]) ∧ Parts w' W.heap.size (.slice P q1 cp) q1 L rows ∧ Below W.heap.size W w') := ⟨fun W hK hW => by
                  rw [hq1, ← hrows]
                  exact pack_ok key HX.out K kn kc ct HC.out A n c es HES.out s HS.out HM.out room HN3.out q HQ.out (by omega) W hK hW (by have := HKN.out; omega)⟩
                have hbl : (bodyB es s).length = q * s := by
                  rw [body_len es (by omega) hm, HEL.out]
                  have : recN n s = 1 + ceil (4 * n) s + n := rfl
                  rw [show ceil (4 * n) s + n = q by omega]
                have HRL := As.mk (show ∀ j, j < q1 → (nthP rows j).length = s from fun j hj => by
                  rw [← hrows]
                  rcases j with _ | j
                  · exact head_len key ct es hs.1
                  · rw [nthP_cons]
                    exact cut_row _ s q j (by omega) hbl)
                have HFL := As.mk (show rows.flatten = packB key ct es s by rw [← hrows, List.flatten_cons, cut_all _ s q hbl]; rfl)
                have HRN := As.mk (show rows.length = q1 by rw [← hrows, List.length_cons, cut_len]; omega)
                rw [← hq1] at k3 HQ
                clear g1 g2 g3 hw hs hm hq hq1 hrows hbl
                go_upto_region 12 with (first
                  | (go_at_call 78; (with_reducible refine (HPA.out w2 H02.out H12.out).mono ?_); rintro e w3 ⟨P, cp, L, rfl, hp, hb⟩; have HRP3 := As.mk hp.rdp; have HB3 := As.mk (below_step HB2.out hb); have HG3 := As.mk ((hb.block _ (Array.getElem?_eq_some_iff.1 HG2.out).1).trans HG2.out); have H13 := As.mk (H12.out.below hb); have H03 := As.mk (H02.out.below hb); have cy0 : w3.cell? ⟨w.heap.size, 0, none⟩ = some (.slice K kn kc) := cell_of_row w3 _ 0 _ _ _ HG3.out; have cy1 : w3.cell? ⟨w.heap.size, 1, none⟩ = some (.int .i64 (ct : Int)) := cell_of_row w3 _ 1 _ _ _ HG3.out; have cy2 : w3.cell? ⟨w.heap.size, 2, none⟩ = some (.int .i64 (s : Int)) := cell_of_row w3 _ 2 _ _ _ HG3.out; have cy3 : w3.cell? ⟨w.heap.size, 3, none⟩ = some (.int .i64 room) := cell_of_row w3 _ 3 _ _ _ HG3.out; clear hp hb)
                  | (go_at_call 76; (with_reducible refine (wideR_e _ true HW.out _).mono ?_); rintro e w4 ⟨rfl, rfl⟩)
                  | (go_at_call 79; (with_reducible refine (mayR_any w3 A n c es s (by have := HN.out; omega) H13.out true HM.out).mono ?_); rintro e w4 ⟨rfl, hb⟩; have HRP4 := As.mk (HRP3.out.below hb); have H04 := As.mk (H03.out.below hb); have H14 := As.mk (H13.out.below hb); have HB4 := As.mk (below_step HB3.out hb); have HG4 := As.mk ((hb.block _ (Array.getElem?_eq_some_iff.1 HG3.out).1).trans HG3.out); have cx2 : w4.cell? ⟨w.heap.size, 2, none⟩ = some (.int .i64 (s : Int)) := cell_of_row w4 _ 2 _ _ _ HG4.out; have cx3 : w4.cell? ⟨w.heap.size, 3, none⟩ = some (.int .i64 room) := cell_of_row w4 _ 3 _ _ _ HG4.out; clear hb))
                go_cut [118] (fun s118 wx => s118 = .bool false ∧ As (Below w4.heap.size w4 wx))
                case first =>
                  go_quiet ((go_at_call 77; exact Calls.quiet_of_same ((sizeRI n s q1 _ _ rfl rfl HN4.out HSW.out HQ.out _).mono fun _ _ ⟨a, b⟩ => ⟨a, b.symm⟩)))
                  go_wp2
                  go_meet
                  exact ⟨rfl, ⟨below_drewN (Below.refl _ _) _⟩⟩
                case rest =>
                  obtain ⟨rfl, HBC⟩ := hcut
                  have HR5 := As.mk (HRP4.out.below HBC.out)
                  have H05 := As.mk (H04.out.below HBC.out)
                  have H15 := As.mk (H14.out.below HBC.out)
                  have HB5 := As.mk (below_step HB4.out HBC.out)
                  have HG5 := As.mk ((HBC.out.block _ (Array.getElem?_eq_some_iff.1 HG4.out).1).trans HG4.out)
                  have HSL5 := As.mk (Array.getElem?_eq_some_iff.1 HG5.out).1
                  clear cz0 cz1 cz2 cz3 cy0 cy1 cy2 cy3 cx2 cx3 HRP3 HRP4
                  go_wp2
                  go_loopg [12, 128] q1 (fun kq v12 v128 wr => ∃ (i nb co : Nat) (R : Option Addr), i + kq = q1 ∧ v12 = .slice R nb co ∧ v128 = .int .i64 (i : Int) ∧ As (nb = i * s) ∧ As (OwnAt wr wc.heap.size (.slice R nb co) nb ((rows.take i).flatten.map (Value.int .u8))) ∧ As (Below wc.heap.size wc wr))
                  case atStart => exact ⟨0, 0, 0, none, by omega, rfl, rfl, ⟨by simp⟩, ⟨OwnAt.nil _ _⟩, ⟨Below.refl _ _⟩⟩
                  case round =>
                    obtain ⟨i, nb, co, R, hi, rfl, rfl, HNB, HO, HB⟩ := hrel
                    have HI := As.mk hi
                    clear hi
                    have HBN := As.mk (show nb ≤ 20000 by
                      have h1 := HNB.out
                      have h4 : i * s ≤ 41 * 256 := Nat.mul_le_mul (by have := HI.out; have := HQ1.out; have := HQL.out; omega) HSW.out.2
                      omega)
                    have HGw := As.mk ((HB.out.block _ HSL5.out).trans HG5.out)
                    have cv2 : wr.cell? ⟨w.heap.size, 2, none⟩ = some (.int .i64 (s : Int)) := cell_of_row wr _ 2 _ _ _ HGw.out
                    by_cases hlt : i < q1
                    · have e0 : decide ((i : Int) < (q1 : Int)) = true := decide_eq_true (by omega)
                      have e1 : decide (i < q1) = true := decide_eq_true hlt
                      have lt' : (i : Int) < (q1 : Int) := by omega
                      have hw : wrap64 ((i : Int) + 1) = ((i + 1 : Nat) : Int) := wrap_up (by have := HQ1.out; have := HQL.out; omega)
                      obtain ⟨ad, Aj, cj, ea, h2, h3⟩ := HR5.out.at i hlt
                      cases ea
                      rw [HRL.out i hlt] at h2 h3
                      have h2' := cell_keep h2 HB.out
                      have HS5 := As.mk (Src.rd (h3.below HB.out))
                      have HFS := As.mk (Go.Proofs.Yteajblfkfmopfaa.Sum.flat_snoc rows i (by rw [HRN.out]; exact hlt))
                      have d3 : ((s : Int) != (s : Int)) = false := by simp
                      have HLT := As.mk hlt
                      clear h2 h3 hlt
                      go_wp2_with (at_builtin; refine wpList_app2 rfl (.tmp 137) (.tmp 138) 37 rfl wc.heap.size 5 (.int .u8 0) 1 Try.underlying37 CloneB.info rfl _ nb _ rfl HO.out _ s _ rfl HS5.out ?b1 ?b2 HB.out.size HB.out (Nat.le_refl _) ?_; (case b1 => have := HBN.out; have := HSW.out; unfold maxLen; omega); (case b2 => have := HBN.out; have := HSW.out; omega); intro v6 w6 hown hg hat hb; rw [← List.map_append, ← HFS.out] at hown; obtain ⟨A6, c6, rfl⟩ := hown.slice; have HO6 := As.mk hown; have HB6 := As.mk hb; clear hown hg hat hb)
                      go_roundg (q1 - (i + 1))
                      case measure => have := HI.out; have := HLT.out; omega
                      case rel => exact ⟨i + 1, nb + s, c6, A6, by have := HI.out; have := HLT.out; omega, rfl, by go_num, ⟨by have := HNB.out; rw [Nat.add_mul]; omega⟩, HO6, HB6⟩
                    · have e0 : decide ((i : Int) < (q1 : Int)) = false := decide_eq_false (by omega)
                      have e1 : decide (i < q1) = false := decide_eq_false hlt
                      obtain rfl : q1 = i := by have := HI.out; omega
                      have hall : rows.take q1 = rows := by rw [← HRN.out, List.take_length]
                      rw [hall, HFL.out] at HO
                      have HRA := As.mk (own_rd_at HO.out)
                      have cv0 : wr.cell? ⟨w.heap.size, 0, none⟩ = some (.slice K kn kc) := cell_of_row wr _ 0 _ _ _ HGw.out
                      have cv1 : wr.cell? ⟨w.heap.size, 1, none⟩ = some (.int .i64 (ct : Int)) := cell_of_row wr _ 1 _ _ _ HGw.out
                      have HMM := As.mk (show nb = (1 + q) * s by rw [HNB.out, HQ1.out])
                      have HQQ := As.mk (HQ.out.trans HQ1.out)
                      have HBW := As.mk (below_step HB5.out HB.out)
                      clear hall hlt
                      go_wp2_with (first
                        | (go_at_call 80; (with_reducible refine (packR_ok key HX.out K kn kc ct HC.out A n c es HES.out s HS.out HM.out HN3.out q HQQ.out nb HMM.out wr (H05.out.below HB.out) (H15.out.below HB.out) (by have := HKN.out; omega)).mono ?_); rintro e w7 ⟨P7, c7, rfl, hr, hb⟩; have HR7 := As.mk hr; have HRA7 := As.mk (HRA.out.below hb); have HB7 := As.mk (below_step HBW.out hb); clear hr hb)
                        | (go_at_call 61; (with_reducible refine (Go.Proofs.Yteajblfkfmopfaa.RefSame.same_any (packB key ct es s) (packB key ct es s) R P7 nb nb co c7 w7 true (by have := HBN.out; omega) (by simp) HRA7.out HR7.out).mono ?_); rintro e w8 ⟨rfl, nd, rfl⟩))
                      go_ret
                      exact ⟨rfl, below_drewN HB7.out _⟩
            · have HM := As.mk hm
              have HPA := As.mk (fun W (hW : RdE W A n c es) => pack_arg K kn kc count A n c es (s : Int) room (by have := HN.out; omega) true HW.out (.inr (.inr ⟨rfl, by omega, by omega, s, rfl, hm⟩)) W hW)
              clear g1 g2 hw hs hm
              go_wp2_with (first
                | (go_at_call 78; (with_reducible refine (HPA.out w2 H12.out).mono ?_); rintro e w3 ⟨rfl, hb⟩; have HB3 := As.mk (below_step HB2.out hb); have HG3 := As.mk ((hb.block _ (Array.getElem?_eq_some_iff.1 HG2.out).1).trans HG2.out); have H13 := As.mk (H12.out.below hb); have cy0 : w3.cell? ⟨w.heap.size, 0, none⟩ = some (.slice K kn kc) := cell_of_row w3 _ 0 _ _ _ HG3.out; have cy1 : w3.cell? ⟨w.heap.size, 1, none⟩ = some (.int .i64 count) := cell_of_row w3 _ 1 _ _ _ HG3.out; have cy2 : w3.cell? ⟨w.heap.size, 2, none⟩ = some (.int .i64 (s : Int)) := cell_of_row w3 _ 2 _ _ _ HG3.out; have cy3 : w3.cell? ⟨w.heap.size, 3, none⟩ = some (.int .i64 room) := cell_of_row w3 _ 3 _ _ _ HG3.out; clear hb)
                | (go_at_call 76; (with_reducible refine (wideR_e _ true HW.out _).mono ?_); rintro e w4 ⟨rfl, rfl⟩)
                | (go_at_call 79; (with_reducible refine (mayR_any w3 A n c es s (by have := HN.out; omega) H13.out false HM.out).mono ?_); rintro e w4 ⟨rfl, hb⟩; have HB4 := As.mk (below_step HB3.out hb); clear hb))
              go_ret
              exact ⟨rfl, HB4.out⟩
      · have HW := As.mk hw
        have HPA := As.mk (fun W (hW : RdE W A n c es) => pack_arg K kn kc count A n c es z room (by have := HN.out; omega) false HW.out (.inl rfl) W hW)
        clear hw
        go_wp2_with (first
          | (go_at_call 78; (with_reducible refine (HPA.out w2 H12.out).mono ?_); rintro e w3 ⟨rfl, hb⟩; have HB3 := As.mk (below_step HB2.out hb); have HG3 := As.mk ((hb.block _ (Array.getElem?_eq_some_iff.1 HG2.out).1).trans HG2.out); have H13 := As.mk (H12.out.below hb); have cy0 : w3.cell? ⟨w.heap.size, 0, none⟩ = some (.slice K kn kc) := cell_of_row w3 _ 0 _ _ _ HG3.out; have cy1 : w3.cell? ⟨w.heap.size, 1, none⟩ = some (.int .i64 count) := cell_of_row w3 _ 1 _ _ _ HG3.out; have cy2 : w3.cell? ⟨w.heap.size, 2, none⟩ = some (.int .i64 z) := cell_of_row w3 _ 2 _ _ _ HG3.out; have cy3 : w3.cell? ⟨w.heap.size, 3, none⟩ = some (.int .i64 room) := cell_of_row w3 _ 3 _ _ _ HG3.out; clear hb)
          | (go_at_call 76; (with_reducible refine (wideR_e _ false HW.out _).mono ?_); rintro e w4 ⟨rfl, rfl⟩))
        go_ret
        exact ⟨rfl, HB3.out⟩
theorem packs_walk (K : Option Addr) (kn kc : Nat) (key : List Int) (count z room : Int) (A : Option Addr) (n c : Nat) (es : List (Int × List Int)) (nn : Int) (w : World) (h0 : Rd .u8 w K kn kc key) (hk : ∀ i ∈ key, (Lit.int .u8 i).wf = true) (h1 : RdE w A n c es) (hes : ∀ e ∈ es, ∀ i ∈ e.2, (Lit.int .u8 i).wf = true) (_ : (Lit.int .i64 nn).wf = true) :
    Calls Try.prog 13 #[.agg #[.slice K kn kc, .int .i64 count, .int .i64 z, .int .i64 room], .slice A n c, .int .i64 nn] w fun e w' => e = .returned (.bool true) ∧ Below w.heap.size w w' := by
  have hn : n ≤ 9223372036854775807 := by have h1 := h1.le; have h2 := (RdE.cap ‹RdE w A n c es›); unfold maxLen at h2; omega
  rcases Bool.eq_false_or_eq_true (fewB es) with hf | hf
  · by_cases hkn : kn ≤ 100
    · exact packs_near count z room nn key (Go.Proofs.Yteajblfkfmopfaa.Mem.byte_of hk) K kn kc hkn es (fun e he => Go.Proofs.Yteajblfkfmopfaa.Mem.byte_of (hes e he)) A n c w hf h0 h1
    · exact packs_far count z room nn K kn kc es A n c w hn (.inr ⟨hf, by omega⟩) h1
  · exact packs_far count z room nn K kn kc es A n c w hn (.inl hf) h1
end Go.Proofs.Yteajblfkfmopfaa.Jour
