/- super.Take, case by case (TakeZ). -/
import Derived.Test.YtjcofbjfolaoiaaTakeP
namespace Go.Proofs.Ytjcofbjfolaoiaa.SlotP
set_option linter.unusedVariables false
set_option linter.unusedSimpArgs false
open Go Go.RowKit Go.Proofs.Ytjcofbjfolaoiaa.Mem Go.Proofs.Ytjcofbjfolaoiaa.Put Go.Proofs.Ytjcofbjfolaoiaa.Geo Go.Proofs.Ytjcofbjfolaoiaa.RefPutN Go.Proofs.Ytjcofbjfolaoiaa.Val Go.Proofs.Ytjcofbjfolaoiaa.Reader Go.Proofs.Ytjcofbjfolaoiaa.LayA

set_option maxHeartbeats 4000000 in
set_option maxRecDepth 100000 in
theorem take_y3 (b : List Int) (hbb : Byte b) (A : Option Addr) (n c : Nat) (w : World) (h0 : Rd .u8 w A n c b) (hn : 54 ≤ n) (hm : n ≤ 140737488351232) (hh : InB b ∧ rightB (raw b 12 2) (raw b 14 2) (raw b 16 2) (raw b 18 4) = true) (m1 : (b.take 22).take 4 = mark) (l1 : n = raw b 12 2) (a1 : b.take 22 ≠ (wantB b).take 22) :
    Calls Try.prog 42 #[.slice A n c] w fun e w' => e = .returned (.tuple #[.agg (tookA b), .int .i64 (okI b (raw b 4 8)), .int .i64 (takeE b)]) ∧ Below w.heap.size w w' := by
  have hcap := h0.le
  have HH := As.mk hh
  clear hh
  have HM1 := As.mk m1
  clear m1
  have HLc := As.mk l1
  clear l1
  have H22c := As.mk a1
  clear a1
  have e0 : decide ((n : Int) < 54) = false := decide_eq_false (by omega)
  have e1 : decide (n < 54) = false := decide_eq_false (by omega)
  have s22 : ∀ W, (Instr.slice 32 (.slice A n c) none (some (.int .i64 22)) none).run Try.prog W = .ok (.slice (cutA A c 0 1) 22 c) W := fun W => run_cut_to (P := Try.prog) W 32 5 Try.underlying32 CloneB.info A n c 22 .i64 (by omega)
  have HB1 := As.mk (below_alloc (Below.refl w.heap.size w) (.cells #[.int .i64 0, .int .i64 0, .int .i64 0, .int .i64 0] 53))
  have HG1 := As.mk (heap_alloc_new w (.cells #[.int .i64 0, .int .i64 0, .int .i64 0, .int .i64 0] 53))
  have HZ1 := As.mk (show (w.alloc (.cells #[.int .i64 0, .int .i64 0, .int .i64 0, .int .i64 0] 53)).heap.size = w.heap.size + 1 by simp)
  have H0 := As.mk h0
  have HC := As.mk ((h0.below HB1.out).to 22 (by omega))
  have HBB := As.mk hbb
  have HN := As.mk hn
  have HM := As.mk hm
  clear h0 hn hm hbb hcap
  go_enter Try.func42, Try.ntmps42
  go_wp2_with (first
    | (go_at_call 105; (with_reducible refine (read_any (b.take 22) (cutA A c 0 1) 22 c _ HC.out (by decide)).mono ?_); rintro e w2 ⟨rfl, hr, hb⟩; have HR2 := As.mk hr; have HB2 := As.mk (below_step HB1.out hb); have HG2 := As.mk (g9b hb HG1.out); have HZ2 := As.mk hb.size; clear hr hb; refine As.out ?_))
  refine As.mk ?_
  clear s22
  obtain ⟨R, hR⟩ : ∃ R, R = w.heap.size + 1 := ⟨_, rfl⟩
  rw [HZ1.out, ← hR] at HR2
  rw [← hR]
  have HRG := As.mk (show w.heap.size ≠ R by omega)
  have HRW := As.mk (show w.heap.size ≤ R by omega)
  clear hR HC HB1 HG1 HZ1 HZ2
  have E8 := As.mk (show (8 : Int) = ((8 : Nat) : Int) from rfl)
  have E2 := As.mk (show (2 : Int) = ((2 : Nat) : Int) from rfl)
  have E4 := As.mk (show (4 : Int) = ((4 : Nat) : Int) from rfl)
  have HL0 := As.mk (show 18 ≤ 22 - 4 by decide)
  have HR2w := As.mk (show w.heap.size ≤ w2.heap.size from HB2.out.size)
  obtain ⟨q, hq⟩ : ∃ q, decide (((b.take 22).take 4) = mark) = q := ⟨_, rfl⟩
  have HQ : As (q = true ↔ ((b.take 22).take 4) = mark) := ⟨by rw [← hq]; simp⟩
  clear hq
  go_wp2_with (first
    | (go_at_call 107; (with_reducible refine (fixed_ok R w2 _ 22 c (b.take 22) HR2.out 4 4 E4.out (by decide) (by decide)).mono ?_); rintro e w3 ⟨A3, c3, rfl, hr, hg, A4, c4, hq⟩; have HF3 := As.mk hr; have HR3 := As.mk hq; have HG3 := As.mk (g_grown hg HRG.out HG2.out); have HB3 := As.mk (below_some HB2.out hg HR2w.out HRW.out); clear hr hq hg)
    | (go_at_call 98; (with_reducible refine (mark_any _).mono ?_); rintro e w4 ⟨A5, c5, rfl, hrd, hb⟩; have HM4 := As.mk hrd; have HF4 := As.mk (HF3.out.below hb); have HR4 := As.mk (HR3.out.below hb); have HG4 := As.mk (g9b hb HG3.out); have HB4 := As.mk (below_step HB3.out hb); clear hrd hb)
    | (go_at_call 106; (with_reducible refine (SameB.bytes_any _ mark (byte_take (byte_take HBB.out 22) 4) mark_byte A3 A5 4 4 c3 c5 w4 q HQ.out HF4.out HM4.out (by decide)).mono ?_); rintro e w5 ⟨rfl, nd, rfl⟩; refine As.out ?_))
  refine As.mk ?_
  have HR5 := As.mk (HR4.out.below (below_drewN (Below.refl w4.heap.size w4) nd))
  have HG5 : As ((w4.drewN nd).heap[w.heap.size]? = some (.cells #[.int .i64 0, .int .i64 0, .int .i64 0, .int .i64 0] 53 (0, 0))) := ⟨HG4.out⟩
  have HB5 := As.mk (below_drewN HB4.out nd)
  generalize w4.drewN nd = w5 at *
  clear HF3 HR3 HG3 HB3 HM4 HF4 HR4 HG4 HB4 HB2 HG2 HR2
  have HN0 := As.mk (show 8 ≤ (22 - 4) by decide)
  have HX0 := As.mk (show Byte ((b.take 22).drop 4) by exact byte_drop (byte_take HBB.out 22) 4)
  go_wp2_with (first
    | (go_at_call 108; (with_reducible refine (Reader.number_any R w5 0 A4 (22 - 4) c4 ((b.take 22).drop 4) HX0.out HR5.out 8 8 E8.out (by decide) (.inl HN0.out) 1099511627776).mono ?_); rintro e w6 ⟨rfl, hg, A6, c6, hq⟩; have HQ6 := As.mk hq; have HGG := As.mk hg; clear hg hq; refine As.out ?_))
  refine As.mk ?_
  have HG6 := As.mk (g_grown HGG.out HRG.out HG5.out)
  have HB6 := As.mk (below_some HB5.out HGG.out HB5.out.size HRW.out)
  obtain ⟨v, hv6⟩ : ∃ y, y = numV 0 8 1099511627776 ((b.take 22).drop 4) := ⟨_, rfl⟩
  obtain ⟨f6, he6⟩ : ∃ y, y = numE 0 8 1099511627776 ((b.take 22).drop 4) := ⟨_, rfl⟩
  obtain ⟨x6, hx6⟩ : ∃ y, y = numX 0 8 ((b.take 22).drop 4) := ⟨_, rfl⟩
  obtain ⟨n6, hn6⟩ : ∃ y, y = numN 0 8 (22 - 4) := ⟨_, rfl⟩
  rw [← he6, ← hx6, ← hn6] at HQ6
  rw [← hv6]
  have PV0 := As.mk hv6
  have PE0 := As.mk he6
  have PX0 := As.mk hx6
  have PN0 := As.mk hn6
  clear hv6 he6 hx6 hn6 HGG HR5 HG5 HB5
  have hge1 : 2 ≤ n6 := by
    have h1 := numN_ge 0 8 (22 - 4)
    rw [← PN0.out] at h1
    have h2 := HL0.out
    omega
  have HL1 := As.mk (show 10 ≤ n6 by have h1 := numN_ge 0 8 (22 - 4); rw [← PN0.out] at h1; have h2 := HL0.out; omega)
  have HN1 := As.mk (show 2 ≤ n6 by exact hge1)
  have HX1 := As.mk (show Byte x6 by (rw [PX0.out]; unfold numX; split; exact byte_drop HX0.out _; exact HX0.out))
  go_wp2_with (first
    | (go_at_call 108; (with_reducible refine (Reader.number_any R w6 f6 A6 n6 c6 x6 HX1.out HQ6.out 2 2 E2.out (by decide) (.inl HN1.out) 256).mono ?_); rintro e w7 ⟨rfl, hg, A7, c7, hq⟩; have HQ7 := As.mk hq; have HGG := As.mk hg; clear hg hq; refine As.out ?_))
  refine As.mk ?_
  have HG7 := As.mk (g_grown HGG.out HRG.out HG6.out)
  have HB7 := As.mk (below_some HB6.out HGG.out HB6.out.size HRW.out)
  obtain ⟨s, hv7⟩ : ∃ y, y = numV f6 2 256 x6 := ⟨_, rfl⟩
  obtain ⟨f7, he7⟩ : ∃ y, y = numE f6 2 256 x6 := ⟨_, rfl⟩
  obtain ⟨x7, hx7⟩ : ∃ y, y = numX f6 2 x6 := ⟨_, rfl⟩
  obtain ⟨n7, hn7⟩ : ∃ y, y = numN f6 2 n6 := ⟨_, rfl⟩
  rw [← he7, ← hx7, ← hn7] at HQ7
  rw [← hv7]
  have PV1 := As.mk hv7
  have PE1 := As.mk he7
  have PX1 := As.mk hx7
  have PN1 := As.mk hn7
  clear hv7 he7 hx7 hn7 HGG HQ6 HG6 HB6
  have hge2 : 2 ≤ n7 := by
    have h1 := numN_ge f6 2 n6
    rw [← PN1.out] at h1
    have h2 := HL1.out
    omega
  have HL2 := As.mk (show 8 ≤ n7 by have h1 := numN_ge f6 2 n6; rw [← PN1.out] at h1; have h2 := HL1.out; omega)
  have HN2 := As.mk (show 2 ≤ n7 by exact hge2)
  have HX2 := As.mk (show Byte x7 by (rw [PX1.out]; unfold numX; split; exact byte_drop HX1.out _; exact HX1.out))
  go_wp2_with (first
    | (go_at_call 108; (with_reducible refine (Reader.number_any R w7 f7 A7 n7 c7 x7 HX2.out HQ7.out 2 2 E2.out (by decide) (.inl HN2.out) 16).mono ?_); rintro e w8 ⟨rfl, hg, A8, c8, hq⟩; have HQ8 := As.mk hq; have HGG := As.mk hg; clear hg hq; refine As.out ?_))
  refine As.mk ?_
  have HG8 := As.mk (g_grown HGG.out HRG.out HG7.out)
  have HB8 := As.mk (below_some HB7.out HGG.out HB7.out.size HRW.out)
  obtain ⟨t, hv8⟩ : ∃ y, y = numV f7 2 16 x7 := ⟨_, rfl⟩
  obtain ⟨f8, he8⟩ : ∃ y, y = numE f7 2 16 x7 := ⟨_, rfl⟩
  obtain ⟨x8, hx8⟩ : ∃ y, y = numX f7 2 x7 := ⟨_, rfl⟩
  obtain ⟨n8, hn8⟩ : ∃ y, y = numN f7 2 n7 := ⟨_, rfl⟩
  rw [← he8, ← hx8, ← hn8] at HQ8
  rw [← hv8]
  have PV2 := As.mk hv8
  have PE2 := As.mk he8
  have PX2 := As.mk hx8
  have PN2 := As.mk hn8
  clear hv8 he8 hx8 hn8 HGG HQ7 HG7 HB7
  have hge3 : 2 ≤ n8 := by
    have h1 := numN_ge f7 2 n7
    rw [← PN2.out] at h1
    have h2 := HL2.out
    omega
  have HL3 := As.mk (show 6 ≤ n8 by have h1 := numN_ge f7 2 n7; rw [← PN2.out] at h1; have h2 := HL2.out; omega)
  have HN3 := As.mk (show 2 ≤ n8 by exact hge3)
  have HX3 := As.mk (show Byte x8 by (rw [PX2.out]; unfold numX; split; exact byte_drop HX2.out _; exact HX2.out))
  go_wp2_with (first
    | (go_at_call 108; (with_reducible refine (Reader.number_any R w8 f8 A8 n8 c8 x8 HX3.out HQ8.out 2 2 E2.out (by decide) (.inl HN3.out) 64).mono ?_); rintro e w9 ⟨rfl, hg, A9, c9, hq⟩; have HQ9 := As.mk hq; have HGG := As.mk hg; clear hg hq; refine As.out ?_))
  refine As.mk ?_
  have HG9 := As.mk (g_grown HGG.out HRG.out HG8.out)
  have HB9 := As.mk (below_some HB8.out HGG.out HB8.out.size HRW.out)
  obtain ⟨p, hv9⟩ : ∃ y, y = numV f8 2 64 x8 := ⟨_, rfl⟩
  obtain ⟨f9, he9⟩ : ∃ y, y = numE f8 2 64 x8 := ⟨_, rfl⟩
  obtain ⟨x9, hx9⟩ : ∃ y, y = numX f8 2 x8 := ⟨_, rfl⟩
  obtain ⟨n9, hn9⟩ : ∃ y, y = numN f8 2 n8 := ⟨_, rfl⟩
  rw [← he9, ← hx9, ← hn9] at HQ9
  rw [← hv9]
  have PV3 := As.mk hv9
  have PE3 := As.mk he9
  have PX3 := As.mk hx9
  have PN3 := As.mk hn9
  clear hv9 he9 hx9 hn9 HGG HQ8 HG8 HB8
  have hge4 : 4 ≤ n9 := by
    have h1 := numN_ge f8 2 n8
    rw [← PN3.out] at h1
    have h2 := HL3.out
    omega
  have HL4 := As.mk (show 4 ≤ n9 by have h1 := numN_ge f8 2 n8; rw [← PN3.out] at h1; have h2 := HL3.out; omega)
  have HN4 := As.mk (show 4 ≤ n9 by exact hge4)
  have HX4 := As.mk (show Byte x9 by (rw [PX3.out]; unfold numX; split; exact byte_drop HX3.out _; exact HX3.out))
  go_wp2_with (first
    | (go_at_call 108; (with_reducible refine (Reader.number_any R w9 f9 A9 n9 c9 x9 HX4.out HQ9.out 4 4 E4.out (by decide) (.inl HN4.out) 4096).mono ?_); rintro e w10 ⟨rfl, hg, A10, c10, hq⟩; have HQ10 := As.mk hq; have HGG := As.mk hg; clear hg hq; refine As.out ?_))
  refine As.mk ?_
  have HG10 := As.mk (g_grown HGG.out HRG.out HG9.out)
  have HB10 := As.mk (below_some HB9.out HGG.out HB9.out.size HRW.out)
  obtain ⟨d, hv10⟩ : ∃ y, y = numV f9 4 4096 x9 := ⟨_, rfl⟩
  obtain ⟨f10, he10⟩ : ∃ y, y = numE f9 4 4096 x9 := ⟨_, rfl⟩
  obtain ⟨x10, hx10⟩ : ∃ y, y = numX f9 4 x9 := ⟨_, rfl⟩
  obtain ⟨n10, hn10⟩ : ∃ y, y = numN f9 4 n9 := ⟨_, rfl⟩
  rw [← he10, ← hx10, ← hn10] at HQ10
  rw [← hv10]
  have PV4 := As.mk hv10
  have PE4 := As.mk he10
  have PX4 := As.mk hx10
  have PN4 := As.mk hn10
  clear hv10 he10 hx10 hn10 HGG HQ9 HG9 HB9
  have RD : As (Reads b v s t p d f6 f7 f8 f9 f10 x6 x7 x8 x9) := ⟨⟨PV0.out, PE0.out, PX0.out, PV1.out, PE1.out, PX1.out, PV2.out, PE2.out, PX2.out, PV3.out, PE3.out, PX3.out, PV4.out, PE4.out⟩⟩
  clear PV0 PE0 PX0 PV1 PE1 PX1 PV2 PE2 PX2 PV3 PE3 PX3 PV4 PE4 PX4
  go_wp2_with (first
    | (refine wpList_storeArr rfl rfl 53 (.tmp 2) _ rfl w.heap.size rfl #[.int .i64 s, .int .i64 t, .int .i64 p, .int .i64 d] rfl 53 #[.int .i64 0, .int .i64 0, .int .i64 0, .int .i64 0] HG10.out info_geom rfl (one4 _ _ _ _) ?_; refine As.out ?_))
  refine As.mk ?_
  have HG11 := As.mk (setRow_new w10 w.heap.size #[.int .i64 0, .int .i64 0, .int .i64 0, .int .i64 0] #[.int .i64 s, .int .i64 t, .int .i64 p, .int .i64 d] _ HG10.out)
  have HB11 := As.mk (LayA.below_setRow HB10.out w.heap.size (Nat.le_refl _) #[.int .i64 s, .int .i64 t, .int .i64 p, .int .i64 d])
  have HZ11 := As.mk (show (w10.setRow w.heap.size #[.int .i64 s, .int .i64 t, .int .i64 p, .int .i64 d]).heap.size = w10.heap.size by simp)
  have HR11 : As ((w10.setRow w.heap.size #[.int .i64 s, .int .i64 t, .int .i64 p, .int .i64 d]).heap[R]? = some (.cells #[.int .i64 f10, .slice A10 n10 c10, .bool true] 192 (0, 0))) := ⟨(setRow_far _ _ _ _ (fun e => HRG.out e.symm)).trans HQ10.out.at_⟩
  generalize w10.setRow w.heap.size #[.int .i64 s, .int .i64 t, .int .i64 p, .int .i64 d] = w11 at *
  obtain ⟨bR, hbR⟩ : ∃ y, rightB s t p d = y := ⟨_, rfl⟩
  cases bR
  · obtain ⟨_, es, et, ep, ed, _⟩ := reads_in RD.out HH.out.1
    rw [es, et, ep, ed, HH.out.2] at hbR
    cases hbR
  · have hi : InB b := by
      by_cases hi : InB b
      · exact hi
      · have := reads_out RD.out hi
        rw [hbR] at this
        cases this
    obtain ⟨ev, es, et, ep, ed, g6, g7, g8, g9, g10⟩ := reads_in RD.out hi
    have hn6 := PN0.out
    have hn7 := PN1.out
    have hn8 := PN2.out
    have hn9 := PN3.out
    have hn10 := PN4.out
    rw [g6] at hn7
    rw [g7] at hn8
    rw [g8] at hn9
    rw [g9] at hn10
    have hz : n10 = 0 := by
      unfold numN at hn6 hn7 hn8 hn9 hn10
      simp only [if_true] at hn6 hn7 hn8 hn9 hn10
      omega
    have hbV := hi.1
    clear RD hi PN0 PN1 PN2 PN3 PN4 HX0 HX1 HX2 HX3 HX4 HL0 HL1 HL2 HL3 HL4 hn6 hn7 hn8 hn9 hn10 HQ10 HG10 HB10 HZ11 hge1 hge2 hge3 hge4 HN0 HN1 HN2 HN3 HN4
    subst ev es et ep ed
    subst g10 hz
    obtain ⟨S, hS⟩ : ∃ y, raw b 12 2 = y := ⟨_, rfl⟩
    obtain ⟨T, hT⟩ : ∃ y, raw b 14 2 = y := ⟨_, rfl⟩
    obtain ⟨P, hP⟩ : ∃ y, raw b 16 2 = y := ⟨_, rfl⟩
    obtain ⟨D, hD⟩ : ∃ y, raw b 18 4 = y := ⟨_, rfl⟩
    obtain ⟨V, hV⟩ : ∃ y, raw b 4 8 = y := ⟨_, rfl⟩
    obtain ⟨Wn, hWn⟩ : ∃ y, wantB b = y := ⟨_, rfl⟩
    have hWn2 : slotB S T P D V = Wn := by rw [← hWn, ← hS, ← hT, ← hP, ← hD, ← hV]; rfl
    rw [hV] at hbV
    have HFIT := As.mk (fun hl => takeE_fit (b := b) (by rw [H0.out.len]; exact HN.out) (by rw [hV]; exact hbV) hbR hl)
    rw [hS, hT, hP, hD] at hbR
    rw [hS, hT, hP, hD] at HG11
    have HKS := As.mk (And.intro hS (And.intro hT (And.intro hP (And.intro hD hV))))
    have HKW := As.mk hWn
    have HKR := As.mk hbR
    have HKV := As.mk hbV
    have hRR := (rightB_iff _ _ _ _).1 hbR
    have hS64 : 64 ≤ S ∧ S ≤ 256 := by have := hRR.s0; have := hRR.s1; omega
    have HS64 := As.mk hS64
    have HWB := As.mk (show Byte Wn by rw [← hWn2]; exact slotB_byte _ _ _ _ _)
    have HWL := As.mk (show Wn.length = S by rw [← hWn2]; exact slotB_len _ _ _ _ _ (by omega))
    have HW2 := As.mk hWn2
    rw [hS, hT, hP, hD, hV]
    clear hRR hbR hbV hWn hWn2 hS hT hP hD hV
    have c0 : w11.cell? ⟨w.heap.size, 0, none⟩ = some (.int .i64 (S : Int)) := cell_of_row _ _ 0 _ _ _ HG11.out
    have c1 : w11.cell? ⟨w.heap.size, 1, none⟩ = some (.int .i64 (T : Int)) := cell_of_row _ _ 1 _ _ _ HG11.out
    have c2 : w11.cell? ⟨w.heap.size, 2, none⟩ = some (.int .i64 (P : Int)) := cell_of_row _ _ 2 _ _ _ HG11.out
    have c3 : w11.cell? ⟨w.heap.size, 3, none⟩ = some (.int .i64 (D : Int)) := cell_of_row _ _ 3 _ _ _ HG11.out
    go_wp2_with (first
      | (go_at_call 35; (with_reducible refine (slot_ok S T P D V HKR.out HKV.out _).mono ?_); rintro e w12 ⟨A12, c12, rfl, ho, hb⟩; have HO12 := As.mk ho; have HR12 := As.mk (g9b hb HR11.out); have HG12 := As.mk (g9b hb HG11.out); have HB12 := As.mk (below_step HB11.out hb); clear hb ho; refine As.out ?_))
    refine As.mk ?_
    have ho := HO12.out
    rw [HW2.out] at ho
    obtain ⟨A12', c12', e12, hrd⟩ := ho.rd
    cases e12
    have HWR := As.mk hrd
    have hcw := hrd.le
    have hcb := H0.out.le
    have hn54 := HN.out
    have HBR := As.mk (H0.out.below HB12.out)
    have HB22 := As.mk (HBR.out.to 22 (by omega))
    have HW22 := As.mk (HWR.out.to 22 (by omega))
    have HB54 := As.mk (rd_tail HBR.out 54 (by omega))
    have HW54 := As.mk (rd_tail HWR.out 54 (by omega))
    have s1 : ∀ W, (Instr.slice 32 (.slice A n c) none (some (.int .i64 22)) none).run Try.prog W = .ok (.slice (cutA A c 0 1) 22 c) W := fun W => run_cut_to (P := Try.prog) W 32 5 Try.underlying32 CloneB.info A n c 22 .i64 (by omega)
    have s2 : ∀ W, (Instr.slice 32 (.slice A12 S c12) none (some (.int .i64 22)) none).run Try.prog W = .ok (.slice (cutA A12 c12 0 1) 22 c12) W := fun W => run_cut_to (P := Try.prog) W 32 5 Try.underlying32 CloneB.info A12 S c12 22 .i64 (by omega)
    have s3 : ∀ W, (Instr.slice 32 (.slice A n c) (some (.int .i64 54)) none none).run Try.prog W = .ok (.slice (cutA A c 54 1) (n - 54) (c - 54)) W := fun W => run_cut_from (P := Try.prog) W 32 5 Try.underlying32 CloneB.info A n c 54 .i64 (by omega)
    have s4 : ∀ W, (Instr.slice 32 (.slice A12 S c12) (some (.int .i64 54)) none none).run Try.prog W = .ok (.slice (cutA A12 c12 54 1) (S - 54) (c12 - 54)) W := fun W => run_cut_from (P := Try.prog) W 32 5 Try.underlying32 CloneB.info A12 S c12 54 .i64 (by omega)
    clear c0 c1 c2 c3 HG11 HR11 HB11 HO12 ho hrd hcw hcb hn54 hS64
    go_wp2
    cases q
    · have := HQ.out.2 HM1.out
      cases this
    · by_cases hlen : n = S
      · have l0 : ((n : Int) != (S : Int)) = false := bne_eq_false_iff_eq.2 (by omega)
        have l1 : (n != S) = false := bne_eq_false_iff_eq.2 hlen
        have l2 : (n == S) = true := beq_iff_eq.2 hlen
        have l3 : ((n : Int) == (S : Int)) = true := beq_iff_eq.2 (by omega)
        have hTE := HFIT.out (by rw [H0.out.len, HKS.out.1]; exact hlen)
        rw [HKW.out] at hTE
        have HTE0 := As.mk hTE
        have HLEN := As.mk hlen
        clear hlen hTE HFIT
        by_cases h22 : b.take 22 = Wn.take 22
        · exact absurd (by rw [HKW.out]; exact h22) H22c.out
        · have H22 := As.mk (decide_eq_false h22)
          have HTE : As (takeE b = 11) := ⟨by rw [HTE0.out, if_neg (fun h => h22 h.1.symm)]⟩
          have HRE := As.mk (And.intro (tookA_bad (b := b) (by rw [HTE.out]; decide)).1 (And.intro (tookA_bad (b := b) (by rw [HTE.out]; decide)).2 HTE.out))
          clear h22 HTE0
          refine wp_region_held_drew (S := fun W : World => Below w12.heap.size w12 W) (by kernel_rfl) (below_drewN (Below.refl _ _) 1) (fun hHeld => ?_)
          refine wpAnyH_take (i := 0) (v := .bool true) rfl (by kernel_rfl) (by kernel_rfl) (by kernel_rfl) (fun _ _ _ h => h) (Or.inl ⟨by rfl, fun W hW => by go_simp⟩) hHeld ?_
          try simp only [Act.put, List.setIfInBounds_toArray, List.set_cons_zero, List.set_cons_succ, List.getElem_toArray, List.getElem_cons_zero, List.getElem_cons_succ]
          refine wpAnyH_take (i := 1) (v := .bool false) rfl (by kernel_rfl) (by kernel_rfl) (by kernel_rfl) (fun _ _ _ h => h) (Or.inl ⟨by rfl, fun W hW => by go_simp⟩) hHeld ?_
          try simp only [Act.put, List.setIfInBounds_toArray, List.set_cons_zero, List.set_cons_succ, List.getElem_toArray, List.getElem_cons_zero, List.getElem_cons_succ]
          refine wpAnyH_take (i := 2) (v := .bool false) rfl (by kernel_rfl) (by kernel_rfl) (by kernel_rfl) (fun _ _ _ h => h) (Or.inl ⟨by rfl, fun W hW => by go_simp⟩) hHeld ?_
          try simp only [Act.put, List.setIfInBounds_toArray, List.set_cons_zero, List.set_cons_succ, List.getElem_toArray, List.getElem_cons_zero, List.getElem_cons_succ]
          refine wpAnyH_take (i := 3) (v := .pointer (some ⟨R, 0, none⟩)) rfl (by kernel_rfl) (by kernel_rfl) (by kernel_rfl) (fun _ _ _ h => h) (Or.inl ⟨by rfl, fun W hW => by go_simp⟩) hHeld ?_
          try simp only [Act.put, List.setIfInBounds_toArray, List.set_cons_zero, List.set_cons_succ, List.getElem_toArray, List.getElem_cons_zero, List.getElem_cons_succ]
          refine wpAnyH_ready (rs := [4]) (by kernel_rfl) (by simp) (AllReadyH.cons rfl (fun K' hK => ?_) AllReadyH.nil)
          go_simp
          refine (done_anyK R _ 0 A10 0 c10 0 rfl (g9b hHeld HR12.out)).mono ?_
          rintro e wd ⟨rfl, rfl⟩
          refine hK.out _ _ hHeld (fun hHeld => ?_)
          clear hK
          try simp only [Act.put, List.setIfInBounds_toArray, List.set_cons_zero, List.set_cons_succ, List.getElem_toArray, List.getElem_cons_zero, List.getElem_cons_succ]
          refine wpAnyH_take (i := 5) (v := .bool false) rfl (by kernel_rfl) (by kernel_rfl) (by kernel_rfl) (fun _ _ _ h => h) (Or.inl ⟨by rfl, fun W hW => by go_simp⟩) hHeld ?_
          try simp only [Act.put, List.setIfInBounds_toArray, List.set_cons_zero, List.set_cons_succ, List.getElem_toArray, List.getElem_cons_zero, List.getElem_cons_succ]
          refine wpAnyH_take (i := 6) (v := .bool false) rfl (by kernel_rfl) (by kernel_rfl) (by kernel_rfl) (fun _ _ _ h => h) (Or.inl ⟨by rfl, fun W hW => by go_simp⟩) hHeld ?_
          try simp only [Act.put, List.setIfInBounds_toArray, List.set_cons_zero, List.set_cons_succ, List.getElem_toArray, List.getElem_cons_zero, List.getElem_cons_succ]
          refine wpAnyH_take (i := 7) (v := .bool false) rfl (by kernel_rfl) (by kernel_rfl) (by kernel_rfl) (fun _ _ _ h => h) (Or.inl ⟨by rfl, fun W hW => by go_simp⟩) hHeld ?_
          try simp only [Act.put, List.setIfInBounds_toArray, List.set_cons_zero, List.set_cons_succ, List.getElem_toArray, List.getElem_cons_zero, List.getElem_cons_succ]
          refine wpAnyH_take (i := 8) (v := .int .i64 0) rfl (by kernel_rfl) (by kernel_rfl) (by kernel_rfl) (fun _ _ _ h => h) (Or.inl ⟨by rfl, fun W hW => by go_simp⟩) hHeld ?_
          try simp only [Act.put, List.setIfInBounds_toArray, List.set_cons_zero, List.set_cons_succ, List.getElem_toArray, List.getElem_cons_zero, List.getElem_cons_succ]
          refine wpAnyH_take (i := 9) (v := .bool false) rfl (by kernel_rfl) (by kernel_rfl) (by kernel_rfl) (fun _ _ _ h => h) (Or.inl ⟨by rfl, fun W hW => by go_simp⟩) hHeld ?_
          try simp only [Act.put, List.setIfInBounds_toArray, List.set_cons_zero, List.set_cons_succ, List.getElem_toArray, List.getElem_cons_zero, List.getElem_cons_succ]
          refine wpAnyH_take (i := 10) (v := .bool false) rfl (by kernel_rfl) (by kernel_rfl) (by kernel_rfl) (fun _ _ _ h => h) (Or.inl ⟨by rfl, fun W hW => by go_simp⟩) hHeld ?_
          try simp only [Act.put, List.setIfInBounds_toArray, List.set_cons_zero, List.set_cons_succ, List.getElem_toArray, List.getElem_cons_zero, List.getElem_cons_succ]
          refine wpAnyH_take (i := 11) (v := .bool false) rfl (by kernel_rfl) (by kernel_rfl) (by kernel_rfl) (fun _ _ _ h => h) (Or.inl ⟨by rfl, fun W hW => by go_simp⟩) hHeld ?_
          try simp only [Act.put, List.setIfInBounds_toArray, List.set_cons_zero, List.set_cons_succ, List.getElem_toArray, List.getElem_cons_zero, List.getElem_cons_succ]
          refine wpAnyH_take (i := 12) (v := .slice A n c) rfl (by kernel_rfl) (by kernel_rfl) (by kernel_rfl) (fun _ _ _ h => h) (Or.inl ⟨by rfl, fun W hW => by go_simp⟩) hHeld ?_
          try simp only [Act.put, List.setIfInBounds_toArray, List.set_cons_zero, List.set_cons_succ, List.getElem_toArray, List.getElem_cons_zero, List.getElem_cons_succ]
          refine wpAnyH_take (i := 13) (v := .int .i64 (n : Int)) rfl (by kernel_rfl) (by kernel_rfl) (by kernel_rfl) (fun _ _ _ h => h) (Or.inl ⟨by rfl, fun W hW => by go_simp⟩) hHeld ?_
          try simp only [Act.put, List.setIfInBounds_toArray, List.set_cons_zero, List.set_cons_succ, List.getElem_toArray, List.getElem_cons_zero, List.getElem_cons_succ]
          refine wpAnyH_take (i := 14) (v := .slice A12 S c12) rfl (by kernel_rfl) (by kernel_rfl) (by kernel_rfl) (fun _ _ _ h => h) (Or.inl ⟨by rfl, fun W hW => by go_simp⟩) hHeld ?_
          try simp only [Act.put, List.setIfInBounds_toArray, List.set_cons_zero, List.set_cons_succ, List.getElem_toArray, List.getElem_cons_zero, List.getElem_cons_succ]
          refine wpAnyH_take (i := 15) (v := .int .i64 (S : Int)) rfl (by kernel_rfl) (by kernel_rfl) (by kernel_rfl) (fun _ _ _ h => h) (Or.inl ⟨by rfl, fun W hW => by go_simp⟩) hHeld ?_
          try simp only [Act.put, List.setIfInBounds_toArray, List.set_cons_zero, List.set_cons_succ, List.getElem_toArray, List.getElem_cons_zero, List.getElem_cons_succ]
          refine wpAnyH_take (i := 16) (v := .bool false) rfl (by kernel_rfl) (by kernel_rfl) (by kernel_rfl) (fun _ _ _ h => h) (Or.inl ⟨by rfl, fun W hW => by go_simp⟩) hHeld ?_
          try simp only [Act.put, List.setIfInBounds_toArray, List.set_cons_zero, List.set_cons_succ, List.getElem_toArray, List.getElem_cons_zero, List.getElem_cons_succ]
          refine wpAnyH_take (i := 17) (v := .bool false) rfl (by kernel_rfl) (by kernel_rfl) (by kernel_rfl) (fun _ _ _ h => h) (Or.inl ⟨by rfl, fun W hW => by go_simp⟩) hHeld ?_
          try simp only [Act.put, List.setIfInBounds_toArray, List.set_cons_zero, List.set_cons_succ, List.getElem_toArray, List.getElem_cons_zero, List.getElem_cons_succ]
          refine wpAnyH_take (i := 18) (v := .bool false) rfl (by kernel_rfl) (by kernel_rfl) (by kernel_rfl) (fun _ _ _ h => h) (Or.inl ⟨by rfl, fun W hW => by go_simp⟩) hHeld ?_
          try simp only [Act.put, List.setIfInBounds_toArray, List.set_cons_zero, List.set_cons_succ, List.getElem_toArray, List.getElem_cons_zero, List.getElem_cons_succ]
          refine wpAnyH_take (i := 19) (v := .slice A n c) rfl (by kernel_rfl) (by kernel_rfl) (by kernel_rfl) (fun _ _ _ h => h) (Or.inl ⟨by rfl, fun W hW => by go_simp⟩) hHeld ?_
          try simp only [Act.put, List.setIfInBounds_toArray, List.set_cons_zero, List.set_cons_succ, List.getElem_toArray, List.getElem_cons_zero, List.getElem_cons_succ]
          refine wpAnyH_take (i := 20) (v := .slice (cutA A c 0 1) 22 c) rfl (by kernel_rfl) (by kernel_rfl) (by kernel_rfl) (fun _ _ _ h => h) (Or.inl ⟨by rfl, fun W hW => by go_simp⟩) hHeld ?_
          try simp only [Act.put, List.setIfInBounds_toArray, List.set_cons_zero, List.set_cons_succ, List.getElem_toArray, List.getElem_cons_zero, List.getElem_cons_succ]
          refine wpAnyH_take (i := 21) (v := .slice A12 S c12) rfl (by kernel_rfl) (by kernel_rfl) (by kernel_rfl) (fun _ _ _ h => h) (Or.inl ⟨by rfl, fun W hW => by go_simp⟩) hHeld ?_
          try simp only [Act.put, List.setIfInBounds_toArray, List.set_cons_zero, List.set_cons_succ, List.getElem_toArray, List.getElem_cons_zero, List.getElem_cons_succ]
          refine wpAnyH_take (i := 22) (v := .slice (cutA A12 c12 0 1) 22 c12) rfl (by kernel_rfl) (by kernel_rfl) (by kernel_rfl) (fun _ _ _ h => h) (Or.inl ⟨by rfl, fun W hW => by go_simp⟩) hHeld ?_
          try simp only [Act.put, List.setIfInBounds_toArray, List.set_cons_zero, List.set_cons_succ, List.getElem_toArray, List.getElem_cons_zero, List.getElem_cons_succ]
          refine wpAnyH_ready (rs := [23]) (by kernel_rfl) (by simp) (AllReadyH.cons rfl (fun K' hK => ?_) AllReadyH.nil)
          go_simp
          refine (equalK (b.take 22) (Wn.take 22) (byte_take HBB.out 22) (byte_take HWB.out 22) (cutA A c 0 1) (cutA A12 c12 0 1) 22 c 22 c12 _ _ H22.out (HB22.out.below hHeld) (HW22.out.below hHeld)).mono ?_
          rintro e wq ⟨rfl, hb⟩
          refine hK.out _ _ (below_step hHeld hb) (fun hHeld => ?_)
          clear hK
          try simp only [Act.put, List.setIfInBounds_toArray, List.set_cons_zero, List.set_cons_succ, List.getElem_toArray, List.getElem_cons_zero, List.getElem_cons_succ]
          refine wpAnyH_take (i := 24) (v := .bool true) rfl (by kernel_rfl) (by kernel_rfl) (by kernel_rfl) (fun _ _ _ h => h) (Or.inl ⟨by rfl, fun W hW => by go_simp⟩) hHeld ?_
          try simp only [Act.put, List.setIfInBounds_toArray, List.set_cons_zero, List.set_cons_succ, List.getElem_toArray, List.getElem_cons_zero, List.getElem_cons_succ]
          refine wpAnyH_take (i := 25) (v := .bool true) rfl (by kernel_rfl) (by kernel_rfl) (by kernel_rfl) (fun _ _ _ h => h) (Or.inl ⟨by rfl, fun W hW => by go_simp⟩) hHeld ?_
          try simp only [Act.put, List.setIfInBounds_toArray, List.set_cons_zero, List.set_cons_succ, List.getElem_toArray, List.getElem_cons_zero, List.getElem_cons_succ]
          refine wpAnyH_take (i := 26) (v := .bool true) rfl (by kernel_rfl) (by kernel_rfl) (by kernel_rfl) (fun _ _ _ h => h) (Or.inl ⟨by rfl, fun W hW => by go_simp⟩) hHeld ?_
          try simp only [Act.put, List.setIfInBounds_toArray, List.set_cons_zero, List.set_cons_succ, List.getElem_toArray, List.getElem_cons_zero, List.getElem_cons_succ]
          refine wpAnyH_take (i := 27) (v := undef) rfl (by kernel_rfl) (by kernel_rfl) (by kernel_rfl) (fun _ _ _ h => h) (Or.inr ⟨by rfl, rfl⟩) hHeld ?_
          try simp only [Act.put, List.setIfInBounds_toArray, List.set_cons_zero, List.set_cons_succ, List.getElem_toArray, List.getElem_cons_zero, List.getElem_cons_succ]
          refine wpAnyH_take (i := 28) (v := undef) rfl (by kernel_rfl) (by kernel_rfl) (by kernel_rfl) (fun _ _ _ h => h) (Or.inr ⟨by rfl, rfl⟩) hHeld ?_
          try simp only [Act.put, List.setIfInBounds_toArray, List.set_cons_zero, List.set_cons_succ, List.getElem_toArray, List.getElem_cons_zero, List.getElem_cons_succ]
          refine wpAnyH_take (i := 29) (v := undef) rfl (by kernel_rfl) (by kernel_rfl) (by kernel_rfl) (fun _ _ _ h => h) (Or.inr ⟨by rfl, rfl⟩) hHeld ?_
          try simp only [Act.put, List.setIfInBounds_toArray, List.set_cons_zero, List.set_cons_succ, List.getElem_toArray, List.getElem_cons_zero, List.getElem_cons_succ]
          refine wpAnyH_take (i := 30) (v := undef) rfl (by kernel_rfl) (by kernel_rfl) (by kernel_rfl) (fun _ _ _ h => h) (Or.inr ⟨by rfl, rfl⟩) hHeld ?_
          try simp only [Act.put, List.setIfInBounds_toArray, List.set_cons_zero, List.set_cons_succ, List.getElem_toArray, List.getElem_cons_zero, List.getElem_cons_succ]
          refine wpAnyH_take (i := 31) (v := undef) rfl (by kernel_rfl) (by kernel_rfl) (by kernel_rfl) (fun _ _ _ h => h) (Or.inr ⟨by rfl, rfl⟩) hHeld ?_
          try simp only [Act.put, List.setIfInBounds_toArray, List.set_cons_zero, List.set_cons_succ, List.getElem_toArray, List.getElem_cons_zero, List.getElem_cons_succ]
          refine wpAnyH_take (i := 32) (v := undef) rfl (by kernel_rfl) (by kernel_rfl) (by kernel_rfl) (fun _ _ _ h => h) (Or.inr ⟨by rfl, rfl⟩) hHeld ?_
          try simp only [Act.put, List.setIfInBounds_toArray, List.set_cons_zero, List.set_cons_succ, List.getElem_toArray, List.getElem_cons_zero, List.getElem_cons_succ]
          refine wpAnyH_take (i := 33) (v := .bool true) rfl (by kernel_rfl) (by kernel_rfl) (by kernel_rfl) (fun _ _ _ h => h) (Or.inl ⟨by rfl, fun W hW => by go_simp⟩) hHeld ?_
          try simp only [Act.put, List.setIfInBounds_toArray, List.set_cons_zero, List.set_cons_succ, List.getElem_toArray, List.getElem_cons_zero, List.getElem_cons_succ]
          refine wpAnyH_done (by kernel_rfl) ?_ _
          have HGW := As.mk (g9b hHeld HG12.out)
          have HBW := As.mk (below_step HB12.out hHeld)
          clear hHeld
          go_wp2_with (first
            | (refine wpList_storeArr rfl rfl 53 (.tmp 2) _ rfl w.heap.size rfl #[.int .i64 0, .int .i64 0, .int .i64 0, .int .i64 0] rfl 53 #[.int .i64 (S : Int), .int .i64 (T : Int), .int .i64 (P : Int), .int .i64 (D : Int)] HGW.out info_geom rfl (one4 _ _ _ _) ?_))
          refine bodyPost_ret (results_row_tmp2 Try.results42 _ _ w.heap.size 53 #[.int .i64 0, .int .i64 0, .int .i64 0, .int .i64 0] (0, 0) _ (.int .i64 0) (.int .i64 11) rfl rfl rfl (setRow_new _ _ #[.int .i64 (S : Int), .int .i64 (T : Int), .int .i64 (P : Int), .int .i64 (D : Int)] _ _ HGW.out) Try.underlying53 rfl info_geom) rfl ⟨by rw [HRE.out.1, HRE.out.2.1, HRE.out.2.2], LayA.below_setRow HBW.out _ (Nat.le_refl _) _⟩
      · exact absurd (HLc.out.trans HKS.out.1) hlen
set_option maxHeartbeats 4000000 in
set_option maxRecDepth 100000 in
theorem take_y4 (b : List Int) (hbb : Byte b) (A : Option Addr) (n c : Nat) (w : World) (h0 : Rd .u8 w A n c b) (hn : 54 ≤ n) (hm : n ≤ 140737488351232) (hh : InB b ∧ rightB (raw b 12 2) (raw b 14 2) (raw b 16 2) (raw b 18 4) = true) (m1 : (b.take 22).take 4 = mark) (l1 : n = raw b 12 2) (a1 : b.take 22 = (wantB b).take 22) (b1 : b.drop 54 ≠ (wantB b).drop 54) :
    Calls Try.prog 42 #[.slice A n c] w fun e w' => e = .returned (.tuple #[.agg (tookA b), .int .i64 (okI b (raw b 4 8)), .int .i64 (takeE b)]) ∧ Below w.heap.size w w' := by
  have hcap := h0.le
  have HH := As.mk hh
  clear hh
  have HM1 := As.mk m1
  clear m1
  have HLc := As.mk l1
  clear l1
  have H22c := As.mk a1
  clear a1
  have H54c := As.mk b1
  clear b1
  have e0 : decide ((n : Int) < 54) = false := decide_eq_false (by omega)
  have e1 : decide (n < 54) = false := decide_eq_false (by omega)
  have s22 : ∀ W, (Instr.slice 32 (.slice A n c) none (some (.int .i64 22)) none).run Try.prog W = .ok (.slice (cutA A c 0 1) 22 c) W := fun W => run_cut_to (P := Try.prog) W 32 5 Try.underlying32 CloneB.info A n c 22 .i64 (by omega)
  have HB1 := As.mk (below_alloc (Below.refl w.heap.size w) (.cells #[.int .i64 0, .int .i64 0, .int .i64 0, .int .i64 0] 53))
  have HG1 := As.mk (heap_alloc_new w (.cells #[.int .i64 0, .int .i64 0, .int .i64 0, .int .i64 0] 53))
  have HZ1 := As.mk (show (w.alloc (.cells #[.int .i64 0, .int .i64 0, .int .i64 0, .int .i64 0] 53)).heap.size = w.heap.size + 1 by simp)
  have H0 := As.mk h0
  have HC := As.mk ((h0.below HB1.out).to 22 (by omega))
  have HBB := As.mk hbb
  have HN := As.mk hn
  have HM := As.mk hm
  clear h0 hn hm hbb hcap
  go_enter Try.func42, Try.ntmps42
  go_wp2_with (first
    | (go_at_call 105; (with_reducible refine (read_any (b.take 22) (cutA A c 0 1) 22 c _ HC.out (by decide)).mono ?_); rintro e w2 ⟨rfl, hr, hb⟩; have HR2 := As.mk hr; have HB2 := As.mk (below_step HB1.out hb); have HG2 := As.mk (g9b hb HG1.out); have HZ2 := As.mk hb.size; clear hr hb; refine As.out ?_))
  refine As.mk ?_
  clear s22
  obtain ⟨R, hR⟩ : ∃ R, R = w.heap.size + 1 := ⟨_, rfl⟩
  rw [HZ1.out, ← hR] at HR2
  rw [← hR]
  have HRG := As.mk (show w.heap.size ≠ R by omega)
  have HRW := As.mk (show w.heap.size ≤ R by omega)
  clear hR HC HB1 HG1 HZ1 HZ2
  have E8 := As.mk (show (8 : Int) = ((8 : Nat) : Int) from rfl)
  have E2 := As.mk (show (2 : Int) = ((2 : Nat) : Int) from rfl)
  have E4 := As.mk (show (4 : Int) = ((4 : Nat) : Int) from rfl)
  have HL0 := As.mk (show 18 ≤ 22 - 4 by decide)
  have HR2w := As.mk (show w.heap.size ≤ w2.heap.size from HB2.out.size)
  obtain ⟨q, hq⟩ : ∃ q, decide (((b.take 22).take 4) = mark) = q := ⟨_, rfl⟩
  have HQ : As (q = true ↔ ((b.take 22).take 4) = mark) := ⟨by rw [← hq]; simp⟩
  clear hq
  go_wp2_with (first
    | (go_at_call 107; (with_reducible refine (fixed_ok R w2 _ 22 c (b.take 22) HR2.out 4 4 E4.out (by decide) (by decide)).mono ?_); rintro e w3 ⟨A3, c3, rfl, hr, hg, A4, c4, hq⟩; have HF3 := As.mk hr; have HR3 := As.mk hq; have HG3 := As.mk (g_grown hg HRG.out HG2.out); have HB3 := As.mk (below_some HB2.out hg HR2w.out HRW.out); clear hr hq hg)
    | (go_at_call 98; (with_reducible refine (mark_any _).mono ?_); rintro e w4 ⟨A5, c5, rfl, hrd, hb⟩; have HM4 := As.mk hrd; have HF4 := As.mk (HF3.out.below hb); have HR4 := As.mk (HR3.out.below hb); have HG4 := As.mk (g9b hb HG3.out); have HB4 := As.mk (below_step HB3.out hb); clear hrd hb)
    | (go_at_call 106; (with_reducible refine (SameB.bytes_any _ mark (byte_take (byte_take HBB.out 22) 4) mark_byte A3 A5 4 4 c3 c5 w4 q HQ.out HF4.out HM4.out (by decide)).mono ?_); rintro e w5 ⟨rfl, nd, rfl⟩; refine As.out ?_))
  refine As.mk ?_
  have HR5 := As.mk (HR4.out.below (below_drewN (Below.refl w4.heap.size w4) nd))
  have HG5 : As ((w4.drewN nd).heap[w.heap.size]? = some (.cells #[.int .i64 0, .int .i64 0, .int .i64 0, .int .i64 0] 53 (0, 0))) := ⟨HG4.out⟩
  have HB5 := As.mk (below_drewN HB4.out nd)
  generalize w4.drewN nd = w5 at *
  clear HF3 HR3 HG3 HB3 HM4 HF4 HR4 HG4 HB4 HB2 HG2 HR2
  have HN0 := As.mk (show 8 ≤ (22 - 4) by decide)
  have HX0 := As.mk (show Byte ((b.take 22).drop 4) by exact byte_drop (byte_take HBB.out 22) 4)
  go_wp2_with (first
    | (go_at_call 108; (with_reducible refine (Reader.number_any R w5 0 A4 (22 - 4) c4 ((b.take 22).drop 4) HX0.out HR5.out 8 8 E8.out (by decide) (.inl HN0.out) 1099511627776).mono ?_); rintro e w6 ⟨rfl, hg, A6, c6, hq⟩; have HQ6 := As.mk hq; have HGG := As.mk hg; clear hg hq; refine As.out ?_))
  refine As.mk ?_
  have HG6 := As.mk (g_grown HGG.out HRG.out HG5.out)
  have HB6 := As.mk (below_some HB5.out HGG.out HB5.out.size HRW.out)
  obtain ⟨v, hv6⟩ : ∃ y, y = numV 0 8 1099511627776 ((b.take 22).drop 4) := ⟨_, rfl⟩
  obtain ⟨f6, he6⟩ : ∃ y, y = numE 0 8 1099511627776 ((b.take 22).drop 4) := ⟨_, rfl⟩
  obtain ⟨x6, hx6⟩ : ∃ y, y = numX 0 8 ((b.take 22).drop 4) := ⟨_, rfl⟩
  obtain ⟨n6, hn6⟩ : ∃ y, y = numN 0 8 (22 - 4) := ⟨_, rfl⟩
  rw [← he6, ← hx6, ← hn6] at HQ6
  rw [← hv6]
  have PV0 := As.mk hv6
  have PE0 := As.mk he6
  have PX0 := As.mk hx6
  have PN0 := As.mk hn6
  clear hv6 he6 hx6 hn6 HGG HR5 HG5 HB5
  have hge1 : 2 ≤ n6 := by
    have h1 := numN_ge 0 8 (22 - 4)
    rw [← PN0.out] at h1
    have h2 := HL0.out
    omega
  have HL1 := As.mk (show 10 ≤ n6 by have h1 := numN_ge 0 8 (22 - 4); rw [← PN0.out] at h1; have h2 := HL0.out; omega)
  have HN1 := As.mk (show 2 ≤ n6 by exact hge1)
  have HX1 := As.mk (show Byte x6 by (rw [PX0.out]; unfold numX; split; exact byte_drop HX0.out _; exact HX0.out))
  go_wp2_with (first
    | (go_at_call 108; (with_reducible refine (Reader.number_any R w6 f6 A6 n6 c6 x6 HX1.out HQ6.out 2 2 E2.out (by decide) (.inl HN1.out) 256).mono ?_); rintro e w7 ⟨rfl, hg, A7, c7, hq⟩; have HQ7 := As.mk hq; have HGG := As.mk hg; clear hg hq; refine As.out ?_))
  refine As.mk ?_
  have HG7 := As.mk (g_grown HGG.out HRG.out HG6.out)
  have HB7 := As.mk (below_some HB6.out HGG.out HB6.out.size HRW.out)
  obtain ⟨s, hv7⟩ : ∃ y, y = numV f6 2 256 x6 := ⟨_, rfl⟩
  obtain ⟨f7, he7⟩ : ∃ y, y = numE f6 2 256 x6 := ⟨_, rfl⟩
  obtain ⟨x7, hx7⟩ : ∃ y, y = numX f6 2 x6 := ⟨_, rfl⟩
  obtain ⟨n7, hn7⟩ : ∃ y, y = numN f6 2 n6 := ⟨_, rfl⟩
  rw [← he7, ← hx7, ← hn7] at HQ7
  rw [← hv7]
  have PV1 := As.mk hv7
  have PE1 := As.mk he7
  have PX1 := As.mk hx7
  have PN1 := As.mk hn7
  clear hv7 he7 hx7 hn7 HGG HQ6 HG6 HB6
  have hge2 : 2 ≤ n7 := by
    have h1 := numN_ge f6 2 n6
    rw [← PN1.out] at h1
    have h2 := HL1.out
    omega
  have HL2 := As.mk (show 8 ≤ n7 by have h1 := numN_ge f6 2 n6; rw [← PN1.out] at h1; have h2 := HL1.out; omega)
  have HN2 := As.mk (show 2 ≤ n7 by exact hge2)
  have HX2 := As.mk (show Byte x7 by (rw [PX1.out]; unfold numX; split; exact byte_drop HX1.out _; exact HX1.out))
  go_wp2_with (first
    | (go_at_call 108; (with_reducible refine (Reader.number_any R w7 f7 A7 n7 c7 x7 HX2.out HQ7.out 2 2 E2.out (by decide) (.inl HN2.out) 16).mono ?_); rintro e w8 ⟨rfl, hg, A8, c8, hq⟩; have HQ8 := As.mk hq; have HGG := As.mk hg; clear hg hq; refine As.out ?_))
  refine As.mk ?_
  have HG8 := As.mk (g_grown HGG.out HRG.out HG7.out)
  have HB8 := As.mk (below_some HB7.out HGG.out HB7.out.size HRW.out)
  obtain ⟨t, hv8⟩ : ∃ y, y = numV f7 2 16 x7 := ⟨_, rfl⟩
  obtain ⟨f8, he8⟩ : ∃ y, y = numE f7 2 16 x7 := ⟨_, rfl⟩
  obtain ⟨x8, hx8⟩ : ∃ y, y = numX f7 2 x7 := ⟨_, rfl⟩
  obtain ⟨n8, hn8⟩ : ∃ y, y = numN f7 2 n7 := ⟨_, rfl⟩
  rw [← he8, ← hx8, ← hn8] at HQ8
  rw [← hv8]
  have PV2 := As.mk hv8
  have PE2 := As.mk he8
  have PX2 := As.mk hx8
  have PN2 := As.mk hn8
  clear hv8 he8 hx8 hn8 HGG HQ7 HG7 HB7
  have hge3 : 2 ≤ n8 := by
    have h1 := numN_ge f7 2 n7
    rw [← PN2.out] at h1
    have h2 := HL2.out
    omega
  have HL3 := As.mk (show 6 ≤ n8 by have h1 := numN_ge f7 2 n7; rw [← PN2.out] at h1; have h2 := HL2.out; omega)
  have HN3 := As.mk (show 2 ≤ n8 by exact hge3)
  have HX3 := As.mk (show Byte x8 by (rw [PX2.out]; unfold numX; split; exact byte_drop HX2.out _; exact HX2.out))
  go_wp2_with (first
    | (go_at_call 108; (with_reducible refine (Reader.number_any R w8 f8 A8 n8 c8 x8 HX3.out HQ8.out 2 2 E2.out (by decide) (.inl HN3.out) 64).mono ?_); rintro e w9 ⟨rfl, hg, A9, c9, hq⟩; have HQ9 := As.mk hq; have HGG := As.mk hg; clear hg hq; refine As.out ?_))
  refine As.mk ?_
  have HG9 := As.mk (g_grown HGG.out HRG.out HG8.out)
  have HB9 := As.mk (below_some HB8.out HGG.out HB8.out.size HRW.out)
  obtain ⟨p, hv9⟩ : ∃ y, y = numV f8 2 64 x8 := ⟨_, rfl⟩
  obtain ⟨f9, he9⟩ : ∃ y, y = numE f8 2 64 x8 := ⟨_, rfl⟩
  obtain ⟨x9, hx9⟩ : ∃ y, y = numX f8 2 x8 := ⟨_, rfl⟩
  obtain ⟨n9, hn9⟩ : ∃ y, y = numN f8 2 n8 := ⟨_, rfl⟩
  rw [← he9, ← hx9, ← hn9] at HQ9
  rw [← hv9]
  have PV3 := As.mk hv9
  have PE3 := As.mk he9
  have PX3 := As.mk hx9
  have PN3 := As.mk hn9
  clear hv9 he9 hx9 hn9 HGG HQ8 HG8 HB8
  have hge4 : 4 ≤ n9 := by
    have h1 := numN_ge f8 2 n8
    rw [← PN3.out] at h1
    have h2 := HL3.out
    omega
  have HL4 := As.mk (show 4 ≤ n9 by have h1 := numN_ge f8 2 n8; rw [← PN3.out] at h1; have h2 := HL3.out; omega)
  have HN4 := As.mk (show 4 ≤ n9 by exact hge4)
  have HX4 := As.mk (show Byte x9 by (rw [PX3.out]; unfold numX; split; exact byte_drop HX3.out _; exact HX3.out))
  go_wp2_with (first
    | (go_at_call 108; (with_reducible refine (Reader.number_any R w9 f9 A9 n9 c9 x9 HX4.out HQ9.out 4 4 E4.out (by decide) (.inl HN4.out) 4096).mono ?_); rintro e w10 ⟨rfl, hg, A10, c10, hq⟩; have HQ10 := As.mk hq; have HGG := As.mk hg; clear hg hq; refine As.out ?_))
  refine As.mk ?_
  have HG10 := As.mk (g_grown HGG.out HRG.out HG9.out)
  have HB10 := As.mk (below_some HB9.out HGG.out HB9.out.size HRW.out)
  obtain ⟨d, hv10⟩ : ∃ y, y = numV f9 4 4096 x9 := ⟨_, rfl⟩
  obtain ⟨f10, he10⟩ : ∃ y, y = numE f9 4 4096 x9 := ⟨_, rfl⟩
  obtain ⟨x10, hx10⟩ : ∃ y, y = numX f9 4 x9 := ⟨_, rfl⟩
  obtain ⟨n10, hn10⟩ : ∃ y, y = numN f9 4 n9 := ⟨_, rfl⟩
  rw [← he10, ← hx10, ← hn10] at HQ10
  rw [← hv10]
  have PV4 := As.mk hv10
  have PE4 := As.mk he10
  have PX4 := As.mk hx10
  have PN4 := As.mk hn10
  clear hv10 he10 hx10 hn10 HGG HQ9 HG9 HB9
  have RD : As (Reads b v s t p d f6 f7 f8 f9 f10 x6 x7 x8 x9) := ⟨⟨PV0.out, PE0.out, PX0.out, PV1.out, PE1.out, PX1.out, PV2.out, PE2.out, PX2.out, PV3.out, PE3.out, PX3.out, PV4.out, PE4.out⟩⟩
  clear PV0 PE0 PX0 PV1 PE1 PX1 PV2 PE2 PX2 PV3 PE3 PX3 PV4 PE4 PX4
  go_wp2_with (first
    | (refine wpList_storeArr rfl rfl 53 (.tmp 2) _ rfl w.heap.size rfl #[.int .i64 s, .int .i64 t, .int .i64 p, .int .i64 d] rfl 53 #[.int .i64 0, .int .i64 0, .int .i64 0, .int .i64 0] HG10.out info_geom rfl (one4 _ _ _ _) ?_; refine As.out ?_))
  refine As.mk ?_
  have HG11 := As.mk (setRow_new w10 w.heap.size #[.int .i64 0, .int .i64 0, .int .i64 0, .int .i64 0] #[.int .i64 s, .int .i64 t, .int .i64 p, .int .i64 d] _ HG10.out)
  have HB11 := As.mk (LayA.below_setRow HB10.out w.heap.size (Nat.le_refl _) #[.int .i64 s, .int .i64 t, .int .i64 p, .int .i64 d])
  have HZ11 := As.mk (show (w10.setRow w.heap.size #[.int .i64 s, .int .i64 t, .int .i64 p, .int .i64 d]).heap.size = w10.heap.size by simp)
  have HR11 : As ((w10.setRow w.heap.size #[.int .i64 s, .int .i64 t, .int .i64 p, .int .i64 d]).heap[R]? = some (.cells #[.int .i64 f10, .slice A10 n10 c10, .bool true] 192 (0, 0))) := ⟨(setRow_far _ _ _ _ (fun e => HRG.out e.symm)).trans HQ10.out.at_⟩
  generalize w10.setRow w.heap.size #[.int .i64 s, .int .i64 t, .int .i64 p, .int .i64 d] = w11 at *
  obtain ⟨bR, hbR⟩ : ∃ y, rightB s t p d = y := ⟨_, rfl⟩
  cases bR
  · obtain ⟨_, es, et, ep, ed, _⟩ := reads_in RD.out HH.out.1
    rw [es, et, ep, ed, HH.out.2] at hbR
    cases hbR
  · have hi : InB b := by
      by_cases hi : InB b
      · exact hi
      · have := reads_out RD.out hi
        rw [hbR] at this
        cases this
    obtain ⟨ev, es, et, ep, ed, g6, g7, g8, g9, g10⟩ := reads_in RD.out hi
    have hn6 := PN0.out
    have hn7 := PN1.out
    have hn8 := PN2.out
    have hn9 := PN3.out
    have hn10 := PN4.out
    rw [g6] at hn7
    rw [g7] at hn8
    rw [g8] at hn9
    rw [g9] at hn10
    have hz : n10 = 0 := by
      unfold numN at hn6 hn7 hn8 hn9 hn10
      simp only [if_true] at hn6 hn7 hn8 hn9 hn10
      omega
    have hbV := hi.1
    clear RD hi PN0 PN1 PN2 PN3 PN4 HX0 HX1 HX2 HX3 HX4 HL0 HL1 HL2 HL3 HL4 hn6 hn7 hn8 hn9 hn10 HQ10 HG10 HB10 HZ11 hge1 hge2 hge3 hge4 HN0 HN1 HN2 HN3 HN4
    subst ev es et ep ed
    subst g10 hz
    obtain ⟨S, hS⟩ : ∃ y, raw b 12 2 = y := ⟨_, rfl⟩
    obtain ⟨T, hT⟩ : ∃ y, raw b 14 2 = y := ⟨_, rfl⟩
    obtain ⟨P, hP⟩ : ∃ y, raw b 16 2 = y := ⟨_, rfl⟩
    obtain ⟨D, hD⟩ : ∃ y, raw b 18 4 = y := ⟨_, rfl⟩
    obtain ⟨V, hV⟩ : ∃ y, raw b 4 8 = y := ⟨_, rfl⟩
    obtain ⟨Wn, hWn⟩ : ∃ y, wantB b = y := ⟨_, rfl⟩
    have hWn2 : slotB S T P D V = Wn := by rw [← hWn, ← hS, ← hT, ← hP, ← hD, ← hV]; rfl
    rw [hV] at hbV
    have HFIT := As.mk (fun hl => takeE_fit (b := b) (by rw [H0.out.len]; exact HN.out) (by rw [hV]; exact hbV) hbR hl)
    rw [hS, hT, hP, hD] at hbR
    rw [hS, hT, hP, hD] at HG11
    have HKS := As.mk (And.intro hS (And.intro hT (And.intro hP (And.intro hD hV))))
    have HKW := As.mk hWn
    have HKR := As.mk hbR
    have HKV := As.mk hbV
    have hRR := (rightB_iff _ _ _ _).1 hbR
    have hS64 : 64 ≤ S ∧ S ≤ 256 := by have := hRR.s0; have := hRR.s1; omega
    have HS64 := As.mk hS64
    have HWB := As.mk (show Byte Wn by rw [← hWn2]; exact slotB_byte _ _ _ _ _)
    have HWL := As.mk (show Wn.length = S by rw [← hWn2]; exact slotB_len _ _ _ _ _ (by omega))
    have HW2 := As.mk hWn2
    rw [hS, hT, hP, hD, hV]
    clear hRR hbR hbV hWn hWn2 hS hT hP hD hV
    have c0 : w11.cell? ⟨w.heap.size, 0, none⟩ = some (.int .i64 (S : Int)) := cell_of_row _ _ 0 _ _ _ HG11.out
    have c1 : w11.cell? ⟨w.heap.size, 1, none⟩ = some (.int .i64 (T : Int)) := cell_of_row _ _ 1 _ _ _ HG11.out
    have c2 : w11.cell? ⟨w.heap.size, 2, none⟩ = some (.int .i64 (P : Int)) := cell_of_row _ _ 2 _ _ _ HG11.out
    have c3 : w11.cell? ⟨w.heap.size, 3, none⟩ = some (.int .i64 (D : Int)) := cell_of_row _ _ 3 _ _ _ HG11.out
    go_wp2_with (first
      | (go_at_call 35; (with_reducible refine (slot_ok S T P D V HKR.out HKV.out _).mono ?_); rintro e w12 ⟨A12, c12, rfl, ho, hb⟩; have HO12 := As.mk ho; have HR12 := As.mk (g9b hb HR11.out); have HG12 := As.mk (g9b hb HG11.out); have HB12 := As.mk (below_step HB11.out hb); clear hb ho; refine As.out ?_))
    refine As.mk ?_
    have ho := HO12.out
    rw [HW2.out] at ho
    obtain ⟨A12', c12', e12, hrd⟩ := ho.rd
    cases e12
    have HWR := As.mk hrd
    have hcw := hrd.le
    have hcb := H0.out.le
    have hn54 := HN.out
    have HBR := As.mk (H0.out.below HB12.out)
    have HB22 := As.mk (HBR.out.to 22 (by omega))
    have HW22 := As.mk (HWR.out.to 22 (by omega))
    have HB54 := As.mk (rd_tail HBR.out 54 (by omega))
    have HW54 := As.mk (rd_tail HWR.out 54 (by omega))
    have s1 : ∀ W, (Instr.slice 32 (.slice A n c) none (some (.int .i64 22)) none).run Try.prog W = .ok (.slice (cutA A c 0 1) 22 c) W := fun W => run_cut_to (P := Try.prog) W 32 5 Try.underlying32 CloneB.info A n c 22 .i64 (by omega)
    have s2 : ∀ W, (Instr.slice 32 (.slice A12 S c12) none (some (.int .i64 22)) none).run Try.prog W = .ok (.slice (cutA A12 c12 0 1) 22 c12) W := fun W => run_cut_to (P := Try.prog) W 32 5 Try.underlying32 CloneB.info A12 S c12 22 .i64 (by omega)
    have s3 : ∀ W, (Instr.slice 32 (.slice A n c) (some (.int .i64 54)) none none).run Try.prog W = .ok (.slice (cutA A c 54 1) (n - 54) (c - 54)) W := fun W => run_cut_from (P := Try.prog) W 32 5 Try.underlying32 CloneB.info A n c 54 .i64 (by omega)
    have s4 : ∀ W, (Instr.slice 32 (.slice A12 S c12) (some (.int .i64 54)) none none).run Try.prog W = .ok (.slice (cutA A12 c12 54 1) (S - 54) (c12 - 54)) W := fun W => run_cut_from (P := Try.prog) W 32 5 Try.underlying32 CloneB.info A12 S c12 54 .i64 (by omega)
    clear c0 c1 c2 c3 HG11 HR11 HB11 HO12 ho hrd hcw hcb hn54 hS64
    go_wp2
    cases q
    · have := HQ.out.2 HM1.out
      cases this
    · by_cases hlen : n = S
      · have l0 : ((n : Int) != (S : Int)) = false := bne_eq_false_iff_eq.2 (by omega)
        have l1 : (n != S) = false := bne_eq_false_iff_eq.2 hlen
        have l2 : (n == S) = true := beq_iff_eq.2 hlen
        have l3 : ((n : Int) == (S : Int)) = true := beq_iff_eq.2 (by omega)
        have hTE := HFIT.out (by rw [H0.out.len, HKS.out.1]; exact hlen)
        rw [HKW.out] at hTE
        have HTE0 := As.mk hTE
        have HLEN := As.mk hlen
        clear hlen hTE HFIT
        by_cases h22 : b.take 22 = Wn.take 22
        · have H22 := As.mk (decide_eq_true h22)
          have K22 := As.mk h22
          clear h22
          by_cases h54 : b.drop 54 = Wn.drop 54
          · exact absurd (by rw [HKW.out]; exact h54) H54c.out
          · have H54 := As.mk (decide_eq_false h54)
            have HTE : As (takeE b = 11) := ⟨by rw [HTE0.out, if_neg (fun h => h54 h.2.symm)]⟩
            have HRE := As.mk (And.intro (tookA_bad (b := b) (by rw [HTE.out]; decide)).1 (And.intro (tookA_bad (b := b) (by rw [HTE.out]; decide)).2 HTE.out))
            clear h54 HTE0 K22
            refine wp_region_held_drew (S := fun W : World => Below w12.heap.size w12 W) (by kernel_rfl) (below_drewN (Below.refl _ _) 1) (fun hHeld => ?_)
            refine wpAnyH_take (i := 0) (v := .bool true) rfl (by kernel_rfl) (by kernel_rfl) (by kernel_rfl) (fun _ _ _ h => h) (Or.inl ⟨by rfl, fun W hW => by go_simp⟩) hHeld ?_
            try simp only [Act.put, List.setIfInBounds_toArray, List.set_cons_zero, List.set_cons_succ, List.getElem_toArray, List.getElem_cons_zero, List.getElem_cons_succ]
            refine wpAnyH_take (i := 1) (v := .bool false) rfl (by kernel_rfl) (by kernel_rfl) (by kernel_rfl) (fun _ _ _ h => h) (Or.inl ⟨by rfl, fun W hW => by go_simp⟩) hHeld ?_
            try simp only [Act.put, List.setIfInBounds_toArray, List.set_cons_zero, List.set_cons_succ, List.getElem_toArray, List.getElem_cons_zero, List.getElem_cons_succ]
            refine wpAnyH_take (i := 2) (v := .bool false) rfl (by kernel_rfl) (by kernel_rfl) (by kernel_rfl) (fun _ _ _ h => h) (Or.inl ⟨by rfl, fun W hW => by go_simp⟩) hHeld ?_
            try simp only [Act.put, List.setIfInBounds_toArray, List.set_cons_zero, List.set_cons_succ, List.getElem_toArray, List.getElem_cons_zero, List.getElem_cons_succ]
            refine wpAnyH_take (i := 3) (v := .pointer (some ⟨R, 0, none⟩)) rfl (by kernel_rfl) (by kernel_rfl) (by kernel_rfl) (fun _ _ _ h => h) (Or.inl ⟨by rfl, fun W hW => by go_simp⟩) hHeld ?_
            try simp only [Act.put, List.setIfInBounds_toArray, List.set_cons_zero, List.set_cons_succ, List.getElem_toArray, List.getElem_cons_zero, List.getElem_cons_succ]
            refine wpAnyH_ready (rs := [4]) (by kernel_rfl) (by simp) (AllReadyH.cons rfl (fun K' hK => ?_) AllReadyH.nil)
            go_simp
            refine (done_anyK R _ 0 A10 0 c10 0 rfl (g9b hHeld HR12.out)).mono ?_
            rintro e wd ⟨rfl, rfl⟩
            refine hK.out _ _ hHeld (fun hHeld => ?_)
            clear hK
            try simp only [Act.put, List.setIfInBounds_toArray, List.set_cons_zero, List.set_cons_succ, List.getElem_toArray, List.getElem_cons_zero, List.getElem_cons_succ]
            refine wpAnyH_take (i := 5) (v := .bool false) rfl (by kernel_rfl) (by kernel_rfl) (by kernel_rfl) (fun _ _ _ h => h) (Or.inl ⟨by rfl, fun W hW => by go_simp⟩) hHeld ?_
            try simp only [Act.put, List.setIfInBounds_toArray, List.set_cons_zero, List.set_cons_succ, List.getElem_toArray, List.getElem_cons_zero, List.getElem_cons_succ]
            refine wpAnyH_take (i := 6) (v := .bool false) rfl (by kernel_rfl) (by kernel_rfl) (by kernel_rfl) (fun _ _ _ h => h) (Or.inl ⟨by rfl, fun W hW => by go_simp⟩) hHeld ?_
            try simp only [Act.put, List.setIfInBounds_toArray, List.set_cons_zero, List.set_cons_succ, List.getElem_toArray, List.getElem_cons_zero, List.getElem_cons_succ]
            refine wpAnyH_take (i := 7) (v := .bool false) rfl (by kernel_rfl) (by kernel_rfl) (by kernel_rfl) (fun _ _ _ h => h) (Or.inl ⟨by rfl, fun W hW => by go_simp⟩) hHeld ?_
            try simp only [Act.put, List.setIfInBounds_toArray, List.set_cons_zero, List.set_cons_succ, List.getElem_toArray, List.getElem_cons_zero, List.getElem_cons_succ]
            refine wpAnyH_take (i := 8) (v := .int .i64 0) rfl (by kernel_rfl) (by kernel_rfl) (by kernel_rfl) (fun _ _ _ h => h) (Or.inl ⟨by rfl, fun W hW => by go_simp⟩) hHeld ?_
            try simp only [Act.put, List.setIfInBounds_toArray, List.set_cons_zero, List.set_cons_succ, List.getElem_toArray, List.getElem_cons_zero, List.getElem_cons_succ]
            refine wpAnyH_take (i := 9) (v := .bool false) rfl (by kernel_rfl) (by kernel_rfl) (by kernel_rfl) (fun _ _ _ h => h) (Or.inl ⟨by rfl, fun W hW => by go_simp⟩) hHeld ?_
            try simp only [Act.put, List.setIfInBounds_toArray, List.set_cons_zero, List.set_cons_succ, List.getElem_toArray, List.getElem_cons_zero, List.getElem_cons_succ]
            refine wpAnyH_take (i := 10) (v := .bool false) rfl (by kernel_rfl) (by kernel_rfl) (by kernel_rfl) (fun _ _ _ h => h) (Or.inl ⟨by rfl, fun W hW => by go_simp⟩) hHeld ?_
            try simp only [Act.put, List.setIfInBounds_toArray, List.set_cons_zero, List.set_cons_succ, List.getElem_toArray, List.getElem_cons_zero, List.getElem_cons_succ]
            refine wpAnyH_take (i := 11) (v := .bool false) rfl (by kernel_rfl) (by kernel_rfl) (by kernel_rfl) (fun _ _ _ h => h) (Or.inl ⟨by rfl, fun W hW => by go_simp⟩) hHeld ?_
            try simp only [Act.put, List.setIfInBounds_toArray, List.set_cons_zero, List.set_cons_succ, List.getElem_toArray, List.getElem_cons_zero, List.getElem_cons_succ]
            refine wpAnyH_take (i := 12) (v := .slice A n c) rfl (by kernel_rfl) (by kernel_rfl) (by kernel_rfl) (fun _ _ _ h => h) (Or.inl ⟨by rfl, fun W hW => by go_simp⟩) hHeld ?_
            try simp only [Act.put, List.setIfInBounds_toArray, List.set_cons_zero, List.set_cons_succ, List.getElem_toArray, List.getElem_cons_zero, List.getElem_cons_succ]
            refine wpAnyH_take (i := 13) (v := .int .i64 (n : Int)) rfl (by kernel_rfl) (by kernel_rfl) (by kernel_rfl) (fun _ _ _ h => h) (Or.inl ⟨by rfl, fun W hW => by go_simp⟩) hHeld ?_
            try simp only [Act.put, List.setIfInBounds_toArray, List.set_cons_zero, List.set_cons_succ, List.getElem_toArray, List.getElem_cons_zero, List.getElem_cons_succ]
            refine wpAnyH_take (i := 14) (v := .slice A12 S c12) rfl (by kernel_rfl) (by kernel_rfl) (by kernel_rfl) (fun _ _ _ h => h) (Or.inl ⟨by rfl, fun W hW => by go_simp⟩) hHeld ?_
            try simp only [Act.put, List.setIfInBounds_toArray, List.set_cons_zero, List.set_cons_succ, List.getElem_toArray, List.getElem_cons_zero, List.getElem_cons_succ]
            refine wpAnyH_take (i := 15) (v := .int .i64 (S : Int)) rfl (by kernel_rfl) (by kernel_rfl) (by kernel_rfl) (fun _ _ _ h => h) (Or.inl ⟨by rfl, fun W hW => by go_simp⟩) hHeld ?_
            try simp only [Act.put, List.setIfInBounds_toArray, List.set_cons_zero, List.set_cons_succ, List.getElem_toArray, List.getElem_cons_zero, List.getElem_cons_succ]
            refine wpAnyH_take (i := 16) (v := .bool false) rfl (by kernel_rfl) (by kernel_rfl) (by kernel_rfl) (fun _ _ _ h => h) (Or.inl ⟨by rfl, fun W hW => by go_simp⟩) hHeld ?_
            try simp only [Act.put, List.setIfInBounds_toArray, List.set_cons_zero, List.set_cons_succ, List.getElem_toArray, List.getElem_cons_zero, List.getElem_cons_succ]
            refine wpAnyH_take (i := 17) (v := .bool false) rfl (by kernel_rfl) (by kernel_rfl) (by kernel_rfl) (fun _ _ _ h => h) (Or.inl ⟨by rfl, fun W hW => by go_simp⟩) hHeld ?_
            try simp only [Act.put, List.setIfInBounds_toArray, List.set_cons_zero, List.set_cons_succ, List.getElem_toArray, List.getElem_cons_zero, List.getElem_cons_succ]
            refine wpAnyH_take (i := 18) (v := .bool false) rfl (by kernel_rfl) (by kernel_rfl) (by kernel_rfl) (fun _ _ _ h => h) (Or.inl ⟨by rfl, fun W hW => by go_simp⟩) hHeld ?_
            try simp only [Act.put, List.setIfInBounds_toArray, List.set_cons_zero, List.set_cons_succ, List.getElem_toArray, List.getElem_cons_zero, List.getElem_cons_succ]
            refine wpAnyH_take (i := 19) (v := .slice A n c) rfl (by kernel_rfl) (by kernel_rfl) (by kernel_rfl) (fun _ _ _ h => h) (Or.inl ⟨by rfl, fun W hW => by go_simp⟩) hHeld ?_
            try simp only [Act.put, List.setIfInBounds_toArray, List.set_cons_zero, List.set_cons_succ, List.getElem_toArray, List.getElem_cons_zero, List.getElem_cons_succ]
            refine wpAnyH_take (i := 20) (v := .slice (cutA A c 0 1) 22 c) rfl (by kernel_rfl) (by kernel_rfl) (by kernel_rfl) (fun _ _ _ h => h) (Or.inl ⟨by rfl, fun W hW => by go_simp⟩) hHeld ?_
            try simp only [Act.put, List.setIfInBounds_toArray, List.set_cons_zero, List.set_cons_succ, List.getElem_toArray, List.getElem_cons_zero, List.getElem_cons_succ]
            refine wpAnyH_take (i := 21) (v := .slice A12 S c12) rfl (by kernel_rfl) (by kernel_rfl) (by kernel_rfl) (fun _ _ _ h => h) (Or.inl ⟨by rfl, fun W hW => by go_simp⟩) hHeld ?_
            try simp only [Act.put, List.setIfInBounds_toArray, List.set_cons_zero, List.set_cons_succ, List.getElem_toArray, List.getElem_cons_zero, List.getElem_cons_succ]
            refine wpAnyH_take (i := 22) (v := .slice (cutA A12 c12 0 1) 22 c12) rfl (by kernel_rfl) (by kernel_rfl) (by kernel_rfl) (fun _ _ _ h => h) (Or.inl ⟨by rfl, fun W hW => by go_simp⟩) hHeld ?_
            try simp only [Act.put, List.setIfInBounds_toArray, List.set_cons_zero, List.set_cons_succ, List.getElem_toArray, List.getElem_cons_zero, List.getElem_cons_succ]
            refine wpAnyH_ready (rs := [23]) (by kernel_rfl) (by simp) (AllReadyH.cons rfl (fun K' hK => ?_) AllReadyH.nil)
            go_simp
            refine (equalK (b.take 22) (Wn.take 22) (byte_take HBB.out 22) (byte_take HWB.out 22) (cutA A c 0 1) (cutA A12 c12 0 1) 22 c 22 c12 _ _ H22.out (HB22.out.below hHeld) (HW22.out.below hHeld)).mono ?_
            rintro e wq ⟨rfl, hb⟩
            refine hK.out _ _ (below_step hHeld hb) (fun hHeld => ?_)
            clear hK
            try simp only [Act.put, List.setIfInBounds_toArray, List.set_cons_zero, List.set_cons_succ, List.getElem_toArray, List.getElem_cons_zero, List.getElem_cons_succ]
            refine wpAnyH_take (i := 24) (v := .bool false) rfl (by kernel_rfl) (by kernel_rfl) (by kernel_rfl) (fun _ _ _ h => h) (Or.inl ⟨by rfl, fun W hW => by go_simp⟩) hHeld ?_
            try simp only [Act.put, List.setIfInBounds_toArray, List.set_cons_zero, List.set_cons_succ, List.getElem_toArray, List.getElem_cons_zero, List.getElem_cons_succ]
            refine wpAnyH_take (i := 25) (v := .bool false) rfl (by kernel_rfl) (by kernel_rfl) (by kernel_rfl) (fun _ _ _ h => h) (Or.inl ⟨by rfl, fun W hW => by go_simp⟩) hHeld ?_
            try simp only [Act.put, List.setIfInBounds_toArray, List.set_cons_zero, List.set_cons_succ, List.getElem_toArray, List.getElem_cons_zero, List.getElem_cons_succ]
            refine wpAnyH_take (i := 26) (v := .bool false) rfl (by kernel_rfl) (by kernel_rfl) (by kernel_rfl) (fun _ _ _ h => h) (Or.inl ⟨by rfl, fun W hW => by go_simp⟩) hHeld ?_
            try simp only [Act.put, List.setIfInBounds_toArray, List.set_cons_zero, List.set_cons_succ, List.getElem_toArray, List.getElem_cons_zero, List.getElem_cons_succ]
            refine wpAnyH_take (i := 27) (v := .slice A n c) rfl (by kernel_rfl) (by kernel_rfl) (by kernel_rfl) (fun _ _ _ h => h) (Or.inl ⟨by rfl, fun W hW => by go_simp⟩) hHeld ?_
            try simp only [Act.put, List.setIfInBounds_toArray, List.set_cons_zero, List.set_cons_succ, List.getElem_toArray, List.getElem_cons_zero, List.getElem_cons_succ]
            refine wpAnyH_take (i := 28) (v := .slice (cutA A c 54 1) (n - 54) (c - 54)) rfl (by kernel_rfl) (by kernel_rfl) (by kernel_rfl) (fun _ _ _ h => h) (Or.inl ⟨by rfl, fun W hW => by go_simp⟩) hHeld ?_
            try simp only [Act.put, List.setIfInBounds_toArray, List.set_cons_zero, List.set_cons_succ, List.getElem_toArray, List.getElem_cons_zero, List.getElem_cons_succ]
            refine wpAnyH_take (i := 29) (v := .slice A12 S c12) rfl (by kernel_rfl) (by kernel_rfl) (by kernel_rfl) (fun _ _ _ h => h) (Or.inl ⟨by rfl, fun W hW => by go_simp⟩) hHeld ?_
            try simp only [Act.put, List.setIfInBounds_toArray, List.set_cons_zero, List.set_cons_succ, List.getElem_toArray, List.getElem_cons_zero, List.getElem_cons_succ]
            refine wpAnyH_take (i := 30) (v := .slice (cutA A12 c12 54 1) (S - 54) (c12 - 54)) rfl (by kernel_rfl) (by kernel_rfl) (by kernel_rfl) (fun _ _ _ h => h) (Or.inl ⟨by rfl, fun W hW => by go_simp⟩) hHeld ?_
            try simp only [Act.put, List.setIfInBounds_toArray, List.set_cons_zero, List.set_cons_succ, List.getElem_toArray, List.getElem_cons_zero, List.getElem_cons_succ]
            refine wpAnyH_ready (rs := [31]) (by kernel_rfl) (by simp) (AllReadyH.cons rfl (fun K' hK => ?_) AllReadyH.nil)
            go_simp
            refine (equalK (b.drop 54) (Wn.drop 54) (byte_drop HBB.out 54) (byte_drop HWB.out 54) (cutA A c 54 1) (cutA A12 c12 54 1) (n - 54) (c - 54) (S - 54) (c12 - 54) _ _ H54.out (HB54.out.below hHeld) (HW54.out.below hHeld)).mono ?_
            rintro e wq2 ⟨rfl, hb⟩
            refine hK.out _ _ (below_step hHeld hb) (fun hHeld => ?_)
            clear hK
            try simp only [Act.put, List.setIfInBounds_toArray, List.set_cons_zero, List.set_cons_succ, List.getElem_toArray, List.getElem_cons_zero, List.getElem_cons_succ]
            refine wpAnyH_take (i := 32) (v := .bool true) rfl (by kernel_rfl) (by kernel_rfl) (by kernel_rfl) (fun _ _ _ h => h) (Or.inl ⟨by rfl, fun W hW => by go_simp⟩) hHeld ?_
            try simp only [Act.put, List.setIfInBounds_toArray, List.set_cons_zero, List.set_cons_succ, List.getElem_toArray, List.getElem_cons_zero, List.getElem_cons_succ]
            refine wpAnyH_take (i := 33) (v := .bool true) rfl (by kernel_rfl) (by kernel_rfl) (by kernel_rfl) (fun _ _ _ h => h) (Or.inl ⟨by rfl, fun W hW => by go_simp⟩) hHeld ?_
            try simp only [Act.put, List.setIfInBounds_toArray, List.set_cons_zero, List.set_cons_succ, List.getElem_toArray, List.getElem_cons_zero, List.getElem_cons_succ]
            refine wpAnyH_done (by kernel_rfl) ?_ _
            have HGW := As.mk (g9b hHeld HG12.out)
            have HBW := As.mk (below_step HB12.out hHeld)
            clear hHeld
            go_wp2_with (first
              | (refine wpList_storeArr rfl rfl 53 (.tmp 2) _ rfl w.heap.size rfl #[.int .i64 0, .int .i64 0, .int .i64 0, .int .i64 0] rfl 53 #[.int .i64 (S : Int), .int .i64 (T : Int), .int .i64 (P : Int), .int .i64 (D : Int)] HGW.out info_geom rfl (one4 _ _ _ _) ?_))
            refine bodyPost_ret (results_row_tmp2 Try.results42 _ _ w.heap.size 53 #[.int .i64 0, .int .i64 0, .int .i64 0, .int .i64 0] (0, 0) _ (.int .i64 0) (.int .i64 11) rfl rfl rfl (setRow_new _ _ #[.int .i64 (S : Int), .int .i64 (T : Int), .int .i64 (P : Int), .int .i64 (D : Int)] _ _ HGW.out) Try.underlying53 rfl info_geom) rfl ⟨by rw [HRE.out.1, HRE.out.2.1, HRE.out.2.2], LayA.below_setRow HBW.out _ (Nat.le_refl _) _⟩
        · exact absurd (by rw [← HKW.out]; exact H22c.out) h22
      · exact absurd (HLc.out.trans HKS.out.1) hlen
end Go.Proofs.Ytjcofbjfolaoiaa.SlotP
