/- chatelaineref18.Take. -/
import Derived.Test.YtjcofbjfolaoiaaTakeP
import Derived.Test.YtjcofbjfolaoiaaReader
import Derived.Test.YtjcofbjfolaoiaaRefSame
namespace Go.Proofs.Ytjcofbjfolaoiaa.SlotP
set_option linter.unusedVariables false
set_option linter.unusedSimpArgs false
open Go Go.RowKit Go.Proofs.Ytjcofbjfolaoiaa.Mem Go.Proofs.Ytjcofbjfolaoiaa.Put Go.Proofs.Ytjcofbjfolaoiaa.Geo Go.Proofs.Ytjcofbjfolaoiaa.RefPutN Go.Proofs.Ytjcofbjfolaoiaa.Val Go.Proofs.Ytjcofbjfolaoiaa.Reader Go.Proofs.Ytjcofbjfolaoiaa.LayA

set_option maxHeartbeats 1000000 in
set_option maxRecDepth 100000 in
theorem takeR_short (b : List Int) (A : Option Addr) (n c : Nat) (w : World) (h0 : Rd .u8 w A n c b) (hn : n < 54) :
    Calls Try.prog 43 #[.slice A n c] w fun e w' => e = .returned (.tuple #[.agg (tookA b), .int .i64 (okI b (raw b 4 8)), .int .i64 (takeE b)]) ∧ Below w.heap.size w w' := by
  have hE : takeE b = 10 := by unfold takeE; rw [h0.len, if_pos hn]
  obtain ⟨hA, hV⟩ := tookA_bad (b := b) (by rw [hE]; decide)
  have HR := As.mk (And.intro hA (And.intro hV hE))
  have e0 : decide ((n : Int) < 54) = true := decide_eq_true (by omega)
  have e1 : decide (n < 54) = true := decide_eq_true hn
  have HG := As.mk (heap_alloc_new w (.cells #[.int .i64 0, .int .i64 0, .int .i64 0, .int .i64 0] 53))
  have HB := As.mk (below_alloc (Below.refl w.heap.size w) (.cells #[.int .i64 0, .int .i64 0, .int .i64 0, .int .i64 0] 53))
  clear h0 hn hE hA hV
  go_enter Try.func43, Try.ntmps43
  go_wp2_with (first
    | (refine wpList_storeArr rfl rfl 53 (.tmp 2) _ rfl w.heap.size rfl #[.int .i64 0, .int .i64 0, .int .i64 0, .int .i64 0] rfl 53 #[.int .i64 0, .int .i64 0, .int .i64 0, .int .i64 0] HG.out info_geom rfl (one4 _ _ _ _) ?_))
  refine bodyPost_ret (results_row_tmp2 Try.results43 _ _ w.heap.size 53 #[.int .i64 0, .int .i64 0, .int .i64 0, .int .i64 0] (0, 0) _ (.int .i64 0) (.int .i64 10) rfl rfl rfl (setRow_new _ _ #[.int .i64 0, .int .i64 0, .int .i64 0, .int .i64 0] _ _ HG.out) Try.underlying53 rfl info_geom) rfl ⟨by rw [HR.out.1, HR.out.2.1, HR.out.2.2], LayA.below_setRow HB.out _ (Nat.le_refl _) _⟩
/-- two or four bytes are a number -/
theorem get_small {b : List Int} (hb : Byte b) (i k : Nat) (hl : i + k ≤ b.length) (h1 : 1 ≤ k) (h2 : k ≤ 4) : getV ((b.drop i).take k) = (raw b i k : Nat) ∧ getE ((b.drop i).take k) = 0 := by
  have hlen : ((b.drop i).take k).length = k := by rw [List.length_take, List.length_drop]; omega
  have hv := valB_all ((b.drop i).take k) (byte_take (byte_drop hb i) k)
  rw [hlen] at hv
  have h3 := Nat.pow_le_pow_right (show 0 < 256 by decide) h2
  have hlt : ¬ 4611686018427387904 < valB ((b.drop i).take k) := by
    have h4 : (256 : Nat) ^ 4 = 4294967296 := rfl
    omega
  unfold getV getE raw
  rw [hlen, if_neg (by rintro (a | a | a) <;> omega), if_neg (by omega), if_neg (by omega), if_neg hlt]
  exact ⟨rfl, rfl⟩
theorem get_eight {b : List Int} (hl : 12 ≤ b.length) : (getE ((b.drop 4).take 8) = 0 ∧ getV ((b.drop 4).take 8) = (raw b 4 8 : Nat)) ∨ (getE ((b.drop 4).take 8) ≠ 0 ∧ 1099511627776 < raw b 4 8) := by
  have hlen : ((b.drop 4).take 8).length = 8 := by rw [List.length_take, List.length_drop]; omega
  unfold getV getE raw
  rw [hlen]
  by_cases h : 4611686018427387904 < valB ((b.drop 4).take 8)
  · refine .inr ⟨?_, by omega⟩
    rw [if_neg (by omega), if_neg (by omega), if_pos h]
    decide
  · refine .inl ⟨?_, ?_⟩
    · rw [if_neg (by omega), if_neg (by omega), if_neg h]
    · rw [if_neg (by rintro (a | a | a) <;> omega)]
theorem q3_alloc {W : World} {o : Obj} {a b c : Addr} {u v x : Value} (h : W.cell? a = some u ∧ W.cell? b = some v ∧ W.cell? c = some x) : (W.alloc o).cell? a = some u ∧ (W.alloc o).cell? b = some v ∧ (W.alloc o).cell? c = some x :=
  ⟨(World.cell?_alloc_lt W o a (World.block_lt_of_cell? W _ h.1)).trans h.1, (World.cell?_alloc_lt W o b (World.block_lt_of_cell? W _ h.2.1)).trans h.2.1, (World.cell?_alloc_lt W o c (World.block_lt_of_cell? W _ h.2.2)).trans h.2.2⟩
theorem q3_allocd {W : World} {o : Obj} {a b c : Addr} {u v x : Value} (h : W.cell? a = some u ∧ W.cell? b = some v ∧ W.cell? c = some x) : (W.alloc o).drew.cell? a = some u ∧ (W.alloc o).drew.cell? b = some v ∧ (W.alloc o).drew.cell? c = some x := q3_alloc h
theorem same_below (x y : List Int) (A B : Option Addr) (n m c d : Nat) (w : World) (q : Bool) (hm : n ≤ 140737488351232) (hq : q = true ↔ x = y) (h0 : Rd .u8 w A n c x) (h1 : Rd .u8 w B m d y) :
    Calls Try.prog 24 #[.slice A n c, .slice B m d] w fun e w' => e = .returned (.bool q) ∧ Below w.heap.size w w' :=
  (RefSame.same_any x y A B n m c d w q hm hq h0 h1).mono fun e w' ⟨a, nd, b⟩ => ⟨a, by rw [b]; exact below_drewN (Below.refl _ _) nd⟩
theorem takeE_nofit {b : List Int} (hl : 54 ≤ b.length) (h : fitB b = false) : takeE b = 11 := by
  unfold takeE
  rw [if_neg (by omega), if_pos h]
/-- the three small numbers -/
def threeI (b : List Int) : List Int := [(raw b 12 2 : Nat), (raw b 14 2 : Nat), (raw b 16 2 : Nat)]
set_option maxHeartbeats 4000000 in
set_option maxRecDepth 100000 in
theorem takeR_long (b : List Int) (hbb : Byte b) (A : Option Addr) (n c : Nat) (w : World) (h0 : Rd .u8 w A n c b) (hn : 54 ≤ n) (hm : n ≤ 140737488351232) :
    Calls Try.prog 43 #[.slice A n c] w fun e w' => e = .returned (.tuple #[.agg (tookA b), .int .i64 (okI b (raw b 4 8)), .int .i64 (takeE b)]) ∧ Below w.heap.size w w' := by
  have hcap := h0.le
  have hlen := h0.len
  have e0 : decide ((n : Int) < 54) = false := decide_eq_false (by omega)
  have e1 : decide (n < 54) = false := decide_eq_false (by omega)
  have s1 : ∀ W, (Instr.slice 32 (.slice A n c) (some (.int .i64 4)) (some (.int .i64 12)) none).run Try.prog W = .ok (.slice (cutA A c 4 1) 8 (c - 4)) W := fun W => run_cut (P := Try.prog) W 32 5 Try.underlying32 CloneB.info A n c 4 12 .i64 .i64 (by omega) (by omega)
  have HB1 := As.mk (below_alloc (Below.refl w.heap.size w) (.cells #[.int .i64 0, .int .i64 0, .int .i64 0, .int .i64 0] 53))
  have HG1 := As.mk (heap_alloc_new w (.cells #[.int .i64 0, .int .i64 0, .int .i64 0, .int .i64 0] 53))
  have H1 := As.mk (h0.below HB1.out)
  have HC := As.mk (show Rd .u8 (w.alloc (.cells #[.int .i64 0, .int .i64 0, .int .i64 0, .int .i64 0] 53)) (cutA A c 4 1) 8 (c - 4) ((b.drop 4).take 8) from H1.out.cut 4 12 (by omega) (by omega))
  have HBB := As.mk hbb
  have HN := As.mk hn
  have HM := As.mk hm
  have HLB := As.mk hlen
  have HCP := As.mk hcap
  have H0 := As.mk h0
  clear h0 hn hm hbb hcap hlen
  go_enter Try.func43, Try.ntmps43
  go_wp2_with (first
    | (go_at_call 69; (with_reducible refine (getR_any _ (byte_take (byte_drop HBB.out 4) 8) (cutA A c 4 1) 8 (c - 4) _ HC.out).mono ?_); rintro e w2 ⟨rfl, rfl⟩; refine As.out ?_))
  refine As.mk ?_
  clear s1
  obtain ⟨gv, hgv⟩ : ∃ y, getV ((b.drop 4).take 8) = y := ⟨_, rfl⟩
  obtain ⟨ge, hge⟩ : ∃ y, getE ((b.drop 4).take 8) = y := ⟨_, rfl⟩
  rw [hgv, hge]
  have H8 := As.mk (get_eight (b := b) (by rw [HLB.out]; have := HN.out; omega))
  rw [hgv, hge] at H8
  clear hgv hge
  have HZ1 := As.mk (show w.heap.size < (w.alloc (.cells #[.int .i64 0, .int .i64 0, .int .i64 0, .int .i64 0] 53)).heap.size by simp)
  generalize w.alloc (.cells #[.int .i64 0, .int .i64 0, .int .i64 0, .int .i64 0] 53) = w1 at *
  clear HC
  go_wp2
  go_loopg [7, 8] 3 (fun kq v7 v8 wr => ∃ (i j : Nat) (A7 : Option Addr) (c7 : Nat), i + kq = 3 ∧ j = 12 + 2 * i ∧ v7 = .slice A7 i c7 ∧ v8 = .int .i64 (j : Int) ∧ As (OwnAt wr w1.heap.size (.slice A7 i c7) i (((threeI b).take i).map (Value.int .i64))) ∧ As (Below w1.heap.size w1 wr))
  case atStart => exact ⟨0, 12, none, 0, by omega, by omega, rfl, rfl, ⟨OwnAt.nil _ _⟩, ⟨Below.refl _ _⟩⟩
  case round =>
    obtain ⟨i, j, A7, c7, hi, hj, rfl, rfl, HO, HB⟩ := hrel
    have HI := As.mk hi
    have HJ := As.mk hj
    by_cases hlt : i < 3
    · have d0 : decide ((j : Int) < 18) = true := decide_eq_true (by omega)
      have d1 : decide (j < 18) = true := decide_eq_true (by omega)
      obtain ⟨j2, hj2⟩ : ∃ j2, j2 = j + 2 := ⟨_, rfl⟩
      have k1 : wrap64 ((j : Int) + 2) = (j2 : Int) := wn _ (by omega) (by omega)
      have hbn := HN.out
      have hcc := HCP.out
      have s2 : ∀ W, (Instr.slice 32 (.slice A n c) (some (.int .i64 (j : Int))) (some (.int .i64 (j2 : Int))) none).run Try.prog W = .ok (.slice (cutA A c j 1) 2 (c - j)) W := fun W => by
        have h := run_cut (P := Try.prog) W 32 5 Try.underlying32 CloneB.info A n c j j2 .i64 .i64 (by omega) (by omega)
        rwa [show j2 - j = 2 by omega] at h
      have HC2 : As (Rd .u8 wr (cutA A c j 1) 2 (c - j) ((b.drop j).take 2)) := ⟨by
        have h := (H1.out.below HB.out).cut j j2 (by omega) (by omega)
        rwa [show j2 - j = 2 by omega] at h⟩
      obtain ⟨x, hx⟩ : ∃ x : Nat, x = raw b j 2 := ⟨_, rfl⟩
      have hgs := get_small HBB.out j 2 (by rw [HLB.out]; omega) (by omega) (by omega)
      rw [← hx] at hgs
      have HGS := As.mk hgs
      have HX := As.mk hx
      have HJ2 := As.mk hj2
      have HLT := As.mk hlt
      clear hgs hx hj2 hlt hi hj hbn hcc
      go_wp2_with (first
        | (go_at_call 69; (with_reducible refine (getR_any _ (byte_take (byte_drop HBB.out j) 2) (cutA A c j 1) 2 (c - j) wr HC2.out).mono ?_); rintro e w2 ⟨rfl, rfl⟩; rw [HGS.out.1, HGS.out.2])
        | (at_builtin; refine wpList_app_one rfl (.tmp 38) (.tmp 40) 38 rfl w1.heap.size 3 (.int .i64 0) 8 Try.underlying38 infoI rfl _ i _ rfl HO.out _ _ rfl rfl ?c1 ?c2 HB.out.size HB.out (Nat.le_refl _) ?_; (case c1 => have := HLT.out; unfold maxLen; omega); (case c2 => have := HLT.out; omega); intro A9 c9 w9 hown hg hat hb; have HO9 := As.mk hown; have HB9 := As.mk hb; clear hown hg hat hb))
      go_roundg (3 - (i + 1))
      case measure => have := HI.out; have := HLT.out; omega
      case rel =>
        refine ⟨i + 1, j2, A9, c9, by have := HI.out; have := HLT.out; omega, by have := HJ2.out; have := HJ.out; omega, rfl, by rw [k1], ⟨?_⟩, HB9⟩
        rw [take_snoc (threeI b) .i64 i (by show i < 3; exact HLT.out), show nth (threeI b) i = (x : Int) by
          rw [HX.out, HJ.out]
          have hl := HLT.out
          rcases i with _ | _ | _ | i
          · rfl
          · rfl
          · rfl
          · omega]
        exact HO9.out
    · have d0 : decide ((j : Int) < 18) = false := decide_eq_false (by omega)
      have d1 : decide (j < 18) = false := decide_eq_false (by omega)
      obtain rfl : i = 3 := by omega
      have hO := HO.out
      rw [show (threeI b).take 3 = threeI b from rfl] at hO
      have HO3 := As.mk hO
      have hbn := HN.out
      have hcc := HCP.out
      have s3 : ∀ W, (Instr.slice 32 (.slice A n c) (some (.int .i64 18)) (some (.int .i64 22)) none).run Try.prog W = .ok (.slice (cutA A c 18 1) 4 (c - 18)) W := fun W => run_cut (P := Try.prog) W 32 5 Try.underlying32 CloneB.info A n c 18 22 .i64 .i64 (by omega) (by omega)
      have HC3 : As (Rd .u8 wr (cutA A c 18 1) 4 (c - 18) ((b.drop 18).take 4)) := ⟨(H1.out.below HB.out).cut 18 22 (by omega) (by omega)⟩
      have HGS := As.mk (get_small HBB.out 18 4 (by rw [HLB.out]; omega) (by omega) (by omega))
      obtain ⟨S, hS⟩ : ∃ y, raw b 12 2 = y := ⟨_, rfl⟩
      obtain ⟨T, hT⟩ : ∃ y, raw b 14 2 = y := ⟨_, rfl⟩
      obtain ⟨P, hP⟩ : ∃ y, raw b 16 2 = y := ⟨_, rfl⟩
      obtain ⟨D, hD⟩ : ∃ y, raw b 18 4 = y := ⟨_, rfl⟩
      rw [hD] at HGS
      have HKS := As.mk (And.intro hS (And.intro hT (And.intro hP hD)))
      have h3 : threeI b = [(S : Int), (T : Int), (P : Int)] := by unfold threeI; rw [hS, hT, hP]
      rw [h3] at HO3
      clear hO HO hbn hcc hi hj hlt hS hT hP hD h3 HI HJ
      have hO := HO3.out
      rcases hO.2 with ⟨hnil, _⟩ | ⟨g, off, cap, cur, Tt, ev, _⟩
      · have := hO.1
        cases hnil
      cases ev
      have q0 : wr.cell? ⟨g, off, none⟩ = some (.int .i64 (S : Int)) := by
        obtain ⟨ad, ea, hc⟩ := hO.cell 0 (.int .i64 (S : Int)) rfl
        cases ea
        simpa [Addr.add] using hc
      have q1 : wr.cell? ⟨g, off + 1, none⟩ = some (.int .i64 (T : Int)) := by
        obtain ⟨ad, ea, hc⟩ := hO.cell 1 (.int .i64 (T : Int)) rfl
        cases ea
        simpa [Addr.add] using hc
      have q2 : wr.cell? ⟨g, off + 2, none⟩ = some (.int .i64 (P : Int)) := by
        obtain ⟨ad, ea, hc⟩ := hO.cell 2 (.int .i64 (P : Int)) rfl
        cases ea
        simpa [Addr.add] using hc
      have HQQ := As.mk (And.intro q0 (And.intro q1 q2))
      clear hO
      go_wp2_with (first
        | (go_at_call 69; (with_reducible refine (getR_any _ (byte_take (byte_drop HBB.out 18) 4) (cutA A c 18 1) 4 (c - 18) wr HC3.out).mono ?_); rintro e w2 ⟨rfl, rfl⟩; rw [HGS.out.1, HGS.out.2]; refine As.out ?_))
      refine As.mk ?_
      go_wp2
      go_region_held2 (fun W : World => W.cell? ⟨g, off, none⟩ = some (.int .i64 (S : Int)) ∧ W.cell? ⟨g, off + 1, none⟩ = some (.int .i64 (T : Int)) ∧ W.cell? ⟨g, off + 2, none⟩ = some (.int .i64 (P : Int)))
        (first | exact HQQ.out | exact q3_allocd HQQ.out | exact q3_alloc HQQ.out | exact q3_alloc (by assumption)) (fail)
      have HGC : As ((wr.alloc (.cells #[.int .i64 (S : Int), .int .i64 (T : Int), .int .i64 (P : Int), .int .i64 (D : Int)] 53)).drew.heap[wr.heap.size]? = some (.cells #[.int .i64 (S : Int), .int .i64 (T : Int), .int .i64 (P : Int), .int .i64 (D : Int)] 53 (0, 0))) := ⟨heap_alloc_new wr _⟩
      have HBC : As (Below wr.heap.size wr (wr.alloc (.cells #[.int .i64 (S : Int), .int .i64 (T : Int), .int .i64 (P : Int), .int .i64 (D : Int)] 53)).drew) := ⟨below_drewN (below_alloc (Below.refl _ _) _) 1⟩
      have HG2 := As.mk (g9b HBC.out (g9b HB.out HG1.out))
      have HB2 := As.mk (below_step HB1.out (below_step HB.out HBC.out))
      have HX2 := As.mk (H0.out.below HB2.out)
      clear q0 q1 q2 HQQ HO3 HB HC3 s3 HBC
      generalize (wr.alloc (.cells #[.int .i64 (S : Int), .int .i64 (T : Int), .int .i64 (P : Int), .int .i64 (D : Int)] 53)).drew = w13 at *
      generalize wr.heap.size = g13 at *
      have c0 : w13.cell? ⟨g13, 0, none⟩ = some (.int .i64 (S : Int)) := cell_of_row _ _ 0 _ _ _ HGC.out
      have c1 : w13.cell? ⟨g13, 1, none⟩ = some (.int .i64 (T : Int)) := cell_of_row _ _ 1 _ _ _ HGC.out
      have c2 : w13.cell? ⟨g13, 2, none⟩ = some (.int .i64 (P : Int)) := cell_of_row _ _ 2 _ _ _ HGC.out
      have c3 : w13.cell? ⟨g13, 3, none⟩ = some (.int .i64 (D : Int)) := cell_of_row _ _ 3 _ _ _ HGC.out
      have hfitdef : fitB b = ((decide (raw b 4 8 ≤ 1099511627776) && rightB (S : Int) (T : Int) (P : Int) (D : Int)) && decide (n = S)) := by
        unfold fitB
        rw [HKS.out.1, HKS.out.2.1, HKS.out.2.2.1, HKS.out.2.2.2, HLB.out]
      have HFD := As.mk hfitdef
      clear hfitdef
      rcases H8.out with ⟨hge, hgv⟩ | ⟨hge, hgv⟩
      · obtain ⟨V, hV⟩ : ∃ y, raw b 4 8 = y := ⟨_, rfl⟩
        rw [hV] at hgv
        have HFD2 := HFD.out
        rw [hV] at HFD2
        have HFDV := As.mk HFD2
        have HKV := As.mk hV
        subst hge hgv
        clear hV HFD2 HFD H8
        by_cases hv : V ≤ 1099511627776
        · have t0 : decide (1099511627776 < (V : Int)) = false := decide_eq_false (by omega)
          have t1 : decide (1099511627776 < V) = false := decide_eq_false (by omega)
          have HV := As.mk hv
          obtain ⟨bR, hbR⟩ : ∃ y, rightB (S : Int) (T : Int) (P : Int) (D : Int) = y := ⟨_, rfl⟩
          have HKR := As.mk hbR
          have HFD3 := HFDV.out
          rw [hbR, decide_eq_true hv] at HFD3
          have HFDR := As.mk HFD3
          clear hv hbR HFD3
          cases bR
          · have HTE := As.mk (takeE_nofit (b := b) (by rw [HLB.out]; exact HN.out) (by rw [HFDR.out]; rfl))
            have HRE := As.mk (And.intro (tookA_bad (b := b) (by rw [HTE.out]; decide)).1 (And.intro (tookA_bad (b := b) (by rw [HTE.out]; decide)).2 HTE.out))
            go_wp2_with (first
              | (go_at_call 37; (with_reducible refine (rightR_any (S : Int) T P D _ HKR.out _).mono ?_); rintro e w14 ⟨rfl, hb⟩; have HG3 := As.mk (g9b hb HG2.out); have HB3 := As.mk (below_step HB2.out hb); clear hb; refine As.out ?_))
            refine As.mk ?_
            go_wp2_with (first
              | (refine wpList_storeArr rfl rfl 53 (.tmp 2) _ rfl w.heap.size rfl #[.int .i64 0, .int .i64 0, .int .i64 0, .int .i64 0] rfl 53 #[.int .i64 0, .int .i64 0, .int .i64 0, .int .i64 0] HG3.out info_geom rfl (one4 _ _ _ _) ?_))
            refine bodyPost_ret (results_row_tmp2 Try.results43 _ _ w.heap.size 53 #[.int .i64 0, .int .i64 0, .int .i64 0, .int .i64 0] (0, 0) _ (.int .i64 0) (.int .i64 11) rfl rfl rfl (setRow_new _ _ #[.int .i64 0, .int .i64 0, .int .i64 0, .int .i64 0] _ _ HG3.out) Try.underlying53 rfl info_geom) rfl ⟨by rw [HRE.out.1, HRE.out.2.1, HRE.out.2.2], LayA.below_setRow HB3.out _ (Nat.le_refl _) _⟩
          · by_cases hlen : n = S
            · have l0 : ((n : Int) != (S : Int)) = false := bne_eq_false_iff_eq.2 (by omega)
              have l1 : (n != S) = false := bne_eq_false_iff_eq.2 hlen
              have l2 : (n == S) = true := beq_iff_eq.2 hlen
              have l3 : ((n : Int) == (S : Int)) = true := beq_iff_eq.2 (by omega)
              have HLEN := As.mk hlen
              clear hlen
              go_wp2_with (first
                | (go_at_call 37; (with_reducible refine (rightR_any (S : Int) T P D _ HKR.out _).mono ?_); rintro e w14 ⟨rfl, hb⟩; have HC3 := As.mk (g9b hb HGC.out); have HG3 := As.mk (g9b hb HG2.out); have HB3 := As.mk (below_step HB2.out hb); clear hb; refine As.out ?_))
              refine As.mk ?_
              clear c0 c1 c2 c3
              have c0 : w14.cell? ⟨g13, 0, none⟩ = some (.int .i64 (S : Int)) := cell_of_row _ _ 0 _ _ _ HC3.out
              have c1 : w14.cell? ⟨g13, 1, none⟩ = some (.int .i64 (T : Int)) := cell_of_row _ _ 1 _ _ _ HC3.out
              have c2 : w14.cell? ⟨g13, 2, none⟩ = some (.int .i64 (P : Int)) := cell_of_row _ _ 2 _ _ _ HC3.out
              have c3 : w14.cell? ⟨g13, 3, none⟩ = some (.int .i64 (D : Int)) := cell_of_row _ _ 3 _ _ _ HC3.out
              obtain ⟨Wn, hWn⟩ : ∃ y, wantB b = y := ⟨_, rfl⟩
              have hWn2 : slotB S T P D V = Wn := by rw [← hWn, ← HKS.out.1, ← HKS.out.2.1, ← HKS.out.2.2.1, ← HKS.out.2.2.2, ← HKV.out]; rfl
              have hRR := (rightB_iff _ _ _ _).1 HKR.out
              have BS := As.mk (show (64 ≤ S ∧ S ≤ 256) ∧ T ≤ 16 ∧ P ≤ 64 ∧ D ≤ 4096 by have := hRR.s0; have := hRR.s1; have := hRR.t1; have := hRR.p1; have := hRR.d1; omega)
              have hTE := takeE_fit (b := b) (by rw [HLB.out]; exact HN.out) (by rw [HKV.out]; exact HV.out) (by rw [HKS.out.1, HKS.out.2.1, HKS.out.2.2.1, HKS.out.2.2.2]; exact HKR.out) (by rw [HLB.out, HKS.out.1]; exact HLEN.out)
              rw [hWn] at hTE
              have HTE0 := As.mk hTE
              have HKW := As.mk hWn
              have HW2 := As.mk hWn2
              have HWL := As.mk (show Wn.length = S by rw [← hWn2]; exact slotB_len _ _ _ _ _ (by have := BS.out; omega))
              clear hWn hWn2 hRR hTE HFDV HFDR
              go_wp2_with (first
                | (go_at_call 41; (with_reducible refine (slotR_any S T P D V BS.out.1 BS.out.2.1 BS.out.2.2.1 BS.out.2.2.2 HV.out _).mono ?_); rintro e w15 ⟨A14, c14, rfl, hb, ho⟩; have HO12 := As.mk ho; have HC4 := As.mk (g9b hb HC3.out); have HG4 := As.mk (g9b hb HG3.out); have HB4 := As.mk (below_step HB3.out hb); clear hb ho; refine As.out ?_))
              refine As.mk ?_
              clear c0 c1 c2 c3 l0 l1 l2 l3 t0 t1
              obtain ⟨w14, rfl⟩ : ∃ w14 : World, w14 = w15 := ⟨_, rfl⟩
              have ho := HO12.out
              rw [HW2.out] at ho
              obtain ⟨A12', c12', e12, hrd⟩ := ho.rd
              cases e12
              have HWR := As.mk hrd
              have hcw := hrd.le
              have hcb := HCP.out
              have hn54 := HN.out
              have hS64 := BS.out.1
              have HBR := As.mk (H0.out.below HB4.out)
              have HB22 := As.mk (HBR.out.to 22 (by omega))
              have HW22 := As.mk (HWR.out.to 22 (by omega))
              have HB54 := As.mk (rd_tail HBR.out 54 (by omega))
              have HW54 := As.mk (rd_tail HWR.out 54 (by omega))
              have s1 : ∀ W, (Instr.slice 32 (.slice A n c) none (some (.int .i64 22)) none).run Try.prog W = .ok (.slice (cutA A c 0 1) 22 c) W := fun W => run_cut_to (P := Try.prog) W 32 5 Try.underlying32 CloneB.info A n c 22 .i64 (by omega)
              have s2 : ∀ W, (Instr.slice 32 (.slice A14 S c14) none (some (.int .i64 22)) none).run Try.prog W = .ok (.slice (cutA A14 c14 0 1) 22 c14) W := fun W => run_cut_to (P := Try.prog) W 32 5 Try.underlying32 CloneB.info A14 S c14 22 .i64 (by omega)
              have s3 : ∀ W, (Instr.slice 32 (.slice A n c) (some (.int .i64 54)) none none).run Try.prog W = .ok (.slice (cutA A c 54 1) (n - 54) (c - 54)) W := fun W => run_cut_from (P := Try.prog) W 32 5 Try.underlying32 CloneB.info A n c 54 .i64 (by omega)
              have s4 : ∀ W, (Instr.slice 32 (.slice A14 S c14) (some (.int .i64 54)) none none).run Try.prog W = .ok (.slice (cutA A14 c14 54 1) (S - 54) (c14 - 54)) W := fun W => run_cut_from (P := Try.prog) W 32 5 Try.underlying32 CloneB.info A14 S c14 54 .i64 (by omega)
              have H54N := As.mk (show S - 54 ≤ 140737488351232 by omega)
              clear HO12 ho hrd hcw hcb hn54 hS64
              go_wp2
              by_cases h22 : Wn.take 22 = b.take 22
              · have H22 : As (true = true ↔ Wn.take 22 = b.take 22) := ⟨⟨fun _ => h22, fun _ => rfl⟩⟩
                have K22 := As.mk h22
                clear h22
                by_cases h54 : Wn.drop 54 = b.drop 54
                · have H54 : As (true = true ↔ Wn.drop 54 = b.drop 54) := ⟨⟨fun _ => h54, fun _ => rfl⟩⟩
                  have hTE := HTE0.out
                  rw [if_pos ⟨K22.out, h54⟩] at hTE
                  have HTE1 := As.mk hTE
                  clear h54 hTE HTE0 K22
                  refine wp_region_held_drew (S := fun W : World => Below w14.heap.size w14 W) (by kernel_rfl) (below_drewN (Below.refl _ _) 1) (fun hHeld => ?_)
                  refine wpAnyH_take (i := 0) (v := .slice A14 S c14) rfl (by kernel_rfl) (by kernel_rfl) (by kernel_rfl) (fun _ _ _ h => h) (Or.inl ⟨by rfl, fun W hW => by go_simp⟩) hHeld ?_
                  try simp only [Act.put, List.setIfInBounds_toArray, List.set_cons_zero, List.set_cons_succ, List.getElem_toArray, List.getElem_cons_zero, List.getElem_cons_succ]
                  refine wpAnyH_take (i := 1) (v := .slice (cutA A14 c14 0 1) 22 c14) rfl (by kernel_rfl) (by kernel_rfl) (by kernel_rfl) (fun _ _ _ h => h) (Or.inl ⟨by rfl, fun W hW => by go_simp⟩) hHeld ?_
                  try simp only [Act.put, List.setIfInBounds_toArray, List.set_cons_zero, List.set_cons_succ, List.getElem_toArray, List.getElem_cons_zero, List.getElem_cons_succ]
                  refine wpAnyH_take (i := 2) (v := .slice A n c) rfl (by kernel_rfl) (by kernel_rfl) (by kernel_rfl) (fun _ _ _ h => h) (Or.inl ⟨by rfl, fun W hW => by go_simp⟩) hHeld ?_
                  try simp only [Act.put, List.setIfInBounds_toArray, List.set_cons_zero, List.set_cons_succ, List.getElem_toArray, List.getElem_cons_zero, List.getElem_cons_succ]
                  refine wpAnyH_take (i := 3) (v := .slice (cutA A c 0 1) 22 c) rfl (by kernel_rfl) (by kernel_rfl) (by kernel_rfl) (fun _ _ _ h => h) (Or.inl ⟨by rfl, fun W hW => by go_simp⟩) hHeld ?_
                  try simp only [Act.put, List.setIfInBounds_toArray, List.set_cons_zero, List.set_cons_succ, List.getElem_toArray, List.getElem_cons_zero, List.getElem_cons_succ]
                  refine wpAnyH_ready (rs := [4]) (by kernel_rfl) (by simp) (AllReadyH.cons rfl (fun K' hK => ?_) AllReadyH.nil)
                  go_simp
                  refine (same_below (Wn.take 22) (b.take 22) (cutA A14 c14 0 1) (cutA A c 0 1) 22 22 c14 c _ true (by decide) H22.out (HW22.out.below hHeld) (HB22.out.below hHeld)).mono ?_
                  rintro e wq ⟨rfl, hbq⟩
                  refine hK.out _ _ (below_step hHeld hbq) (fun hHeld => ?_)
                  clear hK
                  try simp only [Act.put, List.setIfInBounds_toArray, List.set_cons_zero, List.set_cons_succ, List.getElem_toArray, List.getElem_cons_zero, List.getElem_cons_succ]
                  refine wpAnyH_take (i := 5) (v := .bool false) rfl (by kernel_rfl) (by kernel_rfl) (by kernel_rfl) (fun _ _ _ h => h) (Or.inl ⟨by rfl, fun W hW => by go_simp⟩) hHeld ?_
                  try simp only [Act.put, List.setIfInBounds_toArray, List.set_cons_zero, List.set_cons_succ, List.getElem_toArray, List.getElem_cons_zero, List.getElem_cons_succ]
                  refine wpAnyH_take (i := 6) (v := .bool false) rfl (by kernel_rfl) (by kernel_rfl) (by kernel_rfl) (fun _ _ _ h => h) (Or.inl ⟨by rfl, fun W hW => by go_simp⟩) hHeld ?_
                  try simp only [Act.put, List.setIfInBounds_toArray, List.set_cons_zero, List.set_cons_succ, List.getElem_toArray, List.getElem_cons_zero, List.getElem_cons_succ]
                  refine wpAnyH_take (i := 7) (v := .slice A14 S c14) rfl (by kernel_rfl) (by kernel_rfl) (by kernel_rfl) (fun _ _ _ h => h) (Or.inl ⟨by rfl, fun W hW => by go_simp⟩) hHeld ?_
                  try simp only [Act.put, List.setIfInBounds_toArray, List.set_cons_zero, List.set_cons_succ, List.getElem_toArray, List.getElem_cons_zero, List.getElem_cons_succ]
                  refine wpAnyH_take (i := 8) (v := .slice (cutA A14 c14 54 1) (S - 54) (c14 - 54)) rfl (by kernel_rfl) (by kernel_rfl) (by kernel_rfl) (fun _ _ _ h => h) (Or.inl ⟨by rfl, fun W hW => by go_simp⟩) hHeld ?_
                  try simp only [Act.put, List.setIfInBounds_toArray, List.set_cons_zero, List.set_cons_succ, List.getElem_toArray, List.getElem_cons_zero, List.getElem_cons_succ]
                  refine wpAnyH_take (i := 9) (v := .slice A n c) rfl (by kernel_rfl) (by kernel_rfl) (by kernel_rfl) (fun _ _ _ h => h) (Or.inl ⟨by rfl, fun W hW => by go_simp⟩) hHeld ?_
                  try simp only [Act.put, List.setIfInBounds_toArray, List.set_cons_zero, List.set_cons_succ, List.getElem_toArray, List.getElem_cons_zero, List.getElem_cons_succ]
                  refine wpAnyH_take (i := 10) (v := .slice (cutA A c 54 1) (n - 54) (c - 54)) rfl (by kernel_rfl) (by kernel_rfl) (by kernel_rfl) (fun _ _ _ h => h) (Or.inl ⟨by rfl, fun W hW => by go_simp⟩) hHeld ?_
                  try simp only [Act.put, List.setIfInBounds_toArray, List.set_cons_zero, List.set_cons_succ, List.getElem_toArray, List.getElem_cons_zero, List.getElem_cons_succ]
                  refine wpAnyH_ready (rs := [11]) (by kernel_rfl) (by simp) (AllReadyH.cons rfl (fun K' hK => ?_) AllReadyH.nil)
                  go_simp
                  refine (same_below (Wn.drop 54) (b.drop 54) (cutA A14 c14 54 1) (cutA A c 54 1) (S - 54) (n - 54) (c14 - 54) (c - 54) _ true H54N.out H54.out (HW54.out.below hHeld) (HB54.out.below hHeld)).mono ?_
                  rintro e wq2 ⟨rfl, hbq2⟩
                  refine hK.out _ _ (below_step hHeld hbq2) (fun hHeld => ?_)
                  clear hK
                  try simp only [Act.put, List.setIfInBounds_toArray, List.set_cons_zero, List.set_cons_succ, List.getElem_toArray, List.getElem_cons_zero, List.getElem_cons_succ]
                  refine wpAnyH_take (i := 12) (v := .bool false) rfl (by kernel_rfl) (by kernel_rfl) (by kernel_rfl) (fun _ _ _ h => h) (Or.inl ⟨by rfl, fun W hW => by go_simp⟩) hHeld ?_
                  try simp only [Act.put, List.setIfInBounds_toArray, List.set_cons_zero, List.set_cons_succ, List.getElem_toArray, List.getElem_cons_zero, List.getElem_cons_succ]
                  refine wpAnyH_take (i := 13) (v := .bool false) rfl (by kernel_rfl) (by kernel_rfl) (by kernel_rfl) (fun _ _ _ h => h) (Or.inl ⟨by rfl, fun W hW => by go_simp⟩) hHeld ?_
                  try simp only [Act.put, List.setIfInBounds_toArray, List.set_cons_zero, List.set_cons_succ, List.getElem_toArray, List.getElem_cons_zero, List.getElem_cons_succ]
                  refine wpAnyH_done (by kernel_rfl) ?_ _
                  have HC5 := As.mk (g9b hHeld HC4.out)
                  have HG5 := As.mk (g9b hHeld HG4.out)
                  have HB5 := As.mk (below_step HB4.out hHeld)
                  have HX1 := As.mk (HBR.out.below hHeld)
                  have HX2' := As.mk (HWR.out.below hHeld)
                  obtain ⟨q2, hq2⟩ : ∃ y, decide (Wn = b) = y := ⟨_, rfl⟩
                  have HQ2 : As (q2 = true ↔ Wn = b) := ⟨by rw [← hq2]; simp⟩
                  have HSM := As.mk (show S ≤ 140737488351232 by have := BS.out; omega)
                  clear hHeld hq2 s1 s2 s3 s4
                  go_wp2_with (first
                    | (go_at_call 24; (with_reducible refine (RefSame.same_any Wn b A14 A S n c14 c _ q2 HSM.out HQ2.out HX2'.out HX1.out).mono ?_); rintro e w16 ⟨rfl, nd, rfl⟩; refine As.out ?_))
                  refine As.mk ?_
                  have HCV := As.mk (g9b (below_drewN (Below.refl _ _) nd) HC5.out)
                  have HGV := As.mk (g9b (below_drewN (Below.refl _ _) nd) HG5.out)
                  have HBV := As.mk (below_drewN HB5.out nd)
                  cases q2
                  · have HTE : As (takeE b = 21) := ⟨by rw [HTE1.out, if_neg (fun h => by have := HQ2.out.2 h; cases this)]⟩
                    have HRE := As.mk (And.intro (tookA_bad (b := b) (by rw [HTE.out]; decide)).1 (And.intro (tookA_bad (b := b) (by rw [HTE.out]; decide)).2 HTE.out))
                    go_wp2_with (first
                      | (refine wpList_storeArr rfl rfl 53 (.tmp 2) _ rfl w.heap.size rfl #[.int .i64 0, .int .i64 0, .int .i64 0, .int .i64 0] rfl 53 #[.int .i64 0, .int .i64 0, .int .i64 0, .int .i64 0] HGV.out info_geom rfl (one4 _ _ _ _) ?_))
                    refine bodyPost_ret (results_row_tmp2 Try.results43 _ _ w.heap.size 53 #[.int .i64 0, .int .i64 0, .int .i64 0, .int .i64 0] (0, 0) _ (.int .i64 0) (.int .i64 21) rfl rfl rfl (setRow_new _ _ #[.int .i64 0, .int .i64 0, .int .i64 0, .int .i64 0] _ _ HGV.out) Try.underlying53 rfl info_geom) rfl ⟨by rw [HRE.out.1, HRE.out.2.1, HRE.out.2.2], LayA.below_setRow HBV.out _ (Nat.le_refl _) _⟩
                  · have HTE : As (takeE b = 0) := ⟨by rw [HTE1.out, if_pos (HQ2.out.1 rfl)]⟩
                    have HRE : As (tookA b = #[.int .i64 (S : Int), .int .i64 (T : Int), .int .i64 (P : Int), .int .i64 (D : Int)] ∧ okI b (raw b 4 8) = (V : Int)) := ⟨by
                      obtain ⟨h1, h2⟩ := tookA_ok HTE.out
                      obtain ⟨e1, e2, e3, e4⟩ := HKS.out
                      rw [e1, e2, e3, e4] at h1
                      exact ⟨h1, by rw [h2, HKV.out]⟩⟩
                    go_wp2_with (first
                      | (refine wpList_load_row rfl 53 (.tmp 13) rfl g13 rfl 53 #[.int .i64 (S : Int), .int .i64 (T : Int), .int .i64 (P : Int), .int .i64 (D : Int)] (0, 0) _ HCV.out Try.underlying53 rfl info_geom ?_)
                      | (refine wpList_storeArr rfl rfl 53 (.tmp 2) _ rfl w.heap.size rfl #[.int .i64 (S : Int), .int .i64 (T : Int), .int .i64 (P : Int), .int .i64 (D : Int)] rfl 53 #[.int .i64 0, .int .i64 0, .int .i64 0, .int .i64 0] HGV.out info_geom rfl (one4 _ _ _ _) ?_))
                    refine bodyPost_ret (results_row_tmp2 Try.results43 _ _ w.heap.size 53 #[.int .i64 (S : Int), .int .i64 (T : Int), .int .i64 (P : Int), .int .i64 (D : Int)] (0, 0) _ (.int .i64 (V : Int)) (.int .i64 0) rfl rfl rfl (setRow_new _ _ #[.int .i64 0, .int .i64 0, .int .i64 0, .int .i64 0] _ _ HGV.out) Try.underlying53 rfl info_geom) rfl ⟨by rw [HRE.out.1, HRE.out.2, HTE.out], LayA.below_setRow HBV.out _ (Nat.le_refl _) _⟩
                · have H54 : As (false = true ↔ Wn.drop 54 = b.drop 54) := ⟨⟨fun h => (by cases h), fun h => absurd h h54⟩⟩
                  have HTE : As (takeE b = 11) := ⟨by rw [HTE0.out, if_neg (fun h => h54 h.2)]⟩
                  have HRE := As.mk (And.intro (tookA_bad (b := b) (by rw [HTE.out]; decide)).1 (And.intro (tookA_bad (b := b) (by rw [HTE.out]; decide)).2 HTE.out))
                  clear h54 HTE0 K22
                  refine wp_region_held_drew (S := fun W : World => Below w14.heap.size w14 W) (by kernel_rfl) (below_drewN (Below.refl _ _) 1) (fun hHeld => ?_)
                  refine wpAnyH_take (i := 0) (v := .slice A14 S c14) rfl (by kernel_rfl) (by kernel_rfl) (by kernel_rfl) (fun _ _ _ h => h) (Or.inl ⟨by rfl, fun W hW => by go_simp⟩) hHeld ?_
                  try simp only [Act.put, List.setIfInBounds_toArray, List.set_cons_zero, List.set_cons_succ, List.getElem_toArray, List.getElem_cons_zero, List.getElem_cons_succ]
                  refine wpAnyH_take (i := 1) (v := .slice (cutA A14 c14 0 1) 22 c14) rfl (by kernel_rfl) (by kernel_rfl) (by kernel_rfl) (fun _ _ _ h => h) (Or.inl ⟨by rfl, fun W hW => by go_simp⟩) hHeld ?_
                  try simp only [Act.put, List.setIfInBounds_toArray, List.set_cons_zero, List.set_cons_succ, List.getElem_toArray, List.getElem_cons_zero, List.getElem_cons_succ]
                  refine wpAnyH_take (i := 2) (v := .slice A n c) rfl (by kernel_rfl) (by kernel_rfl) (by kernel_rfl) (fun _ _ _ h => h) (Or.inl ⟨by rfl, fun W hW => by go_simp⟩) hHeld ?_
                  try simp only [Act.put, List.setIfInBounds_toArray, List.set_cons_zero, List.set_cons_succ, List.getElem_toArray, List.getElem_cons_zero, List.getElem_cons_succ]
                  refine wpAnyH_take (i := 3) (v := .slice (cutA A c 0 1) 22 c) rfl (by kernel_rfl) (by kernel_rfl) (by kernel_rfl) (fun _ _ _ h => h) (Or.inl ⟨by rfl, fun W hW => by go_simp⟩) hHeld ?_
                  try simp only [Act.put, List.setIfInBounds_toArray, List.set_cons_zero, List.set_cons_succ, List.getElem_toArray, List.getElem_cons_zero, List.getElem_cons_succ]
                  refine wpAnyH_ready (rs := [4]) (by kernel_rfl) (by simp) (AllReadyH.cons rfl (fun K' hK => ?_) AllReadyH.nil)
                  go_simp
                  refine (same_below (Wn.take 22) (b.take 22) (cutA A14 c14 0 1) (cutA A c 0 1) 22 22 c14 c _ true (by decide) H22.out (HW22.out.below hHeld) (HB22.out.below hHeld)).mono ?_
                  rintro e wq ⟨rfl, hbq⟩
                  refine hK.out _ _ (below_step hHeld hbq) (fun hHeld => ?_)
                  clear hK
                  try simp only [Act.put, List.setIfInBounds_toArray, List.set_cons_zero, List.set_cons_succ, List.getElem_toArray, List.getElem_cons_zero, List.getElem_cons_succ]
                  refine wpAnyH_take (i := 5) (v := .bool false) rfl (by kernel_rfl) (by kernel_rfl) (by kernel_rfl) (fun _ _ _ h => h) (Or.inl ⟨by rfl, fun W hW => by go_simp⟩) hHeld ?_
                  try simp only [Act.put, List.setIfInBounds_toArray, List.set_cons_zero, List.set_cons_succ, List.getElem_toArray, List.getElem_cons_zero, List.getElem_cons_succ]
                  refine wpAnyH_take (i := 6) (v := .bool false) rfl (by kernel_rfl) (by kernel_rfl) (by kernel_rfl) (fun _ _ _ h => h) (Or.inl ⟨by rfl, fun W hW => by go_simp⟩) hHeld ?_
                  try simp only [Act.put, List.setIfInBounds_toArray, List.set_cons_zero, List.set_cons_succ, List.getElem_toArray, List.getElem_cons_zero, List.getElem_cons_succ]
                  refine wpAnyH_take (i := 7) (v := .slice A14 S c14) rfl (by kernel_rfl) (by kernel_rfl) (by kernel_rfl) (fun _ _ _ h => h) (Or.inl ⟨by rfl, fun W hW => by go_simp⟩) hHeld ?_
                  try simp only [Act.put, List.setIfInBounds_toArray, List.set_cons_zero, List.set_cons_succ, List.getElem_toArray, List.getElem_cons_zero, List.getElem_cons_succ]
                  refine wpAnyH_take (i := 8) (v := .slice (cutA A14 c14 54 1) (S - 54) (c14 - 54)) rfl (by kernel_rfl) (by kernel_rfl) (by kernel_rfl) (fun _ _ _ h => h) (Or.inl ⟨by rfl, fun W hW => by go_simp⟩) hHeld ?_
                  try simp only [Act.put, List.setIfInBounds_toArray, List.set_cons_zero, List.set_cons_succ, List.getElem_toArray, List.getElem_cons_zero, List.getElem_cons_succ]
                  refine wpAnyH_take (i := 9) (v := .slice A n c) rfl (by kernel_rfl) (by kernel_rfl) (by kernel_rfl) (fun _ _ _ h => h) (Or.inl ⟨by rfl, fun W hW => by go_simp⟩) hHeld ?_
                  try simp only [Act.put, List.setIfInBounds_toArray, List.set_cons_zero, List.set_cons_succ, List.getElem_toArray, List.getElem_cons_zero, List.getElem_cons_succ]
                  refine wpAnyH_take (i := 10) (v := .slice (cutA A c 54 1) (n - 54) (c - 54)) rfl (by kernel_rfl) (by kernel_rfl) (by kernel_rfl) (fun _ _ _ h => h) (Or.inl ⟨by rfl, fun W hW => by go_simp⟩) hHeld ?_
                  try simp only [Act.put, List.setIfInBounds_toArray, List.set_cons_zero, List.set_cons_succ, List.getElem_toArray, List.getElem_cons_zero, List.getElem_cons_succ]
                  refine wpAnyH_ready (rs := [11]) (by kernel_rfl) (by simp) (AllReadyH.cons rfl (fun K' hK => ?_) AllReadyH.nil)
                  go_simp
                  refine (same_below (Wn.drop 54) (b.drop 54) (cutA A14 c14 54 1) (cutA A c 54 1) (S - 54) (n - 54) (c14 - 54) (c - 54) _ false H54N.out H54.out (HW54.out.below hHeld) (HB54.out.below hHeld)).mono ?_
                  rintro e wq2 ⟨rfl, hbq2⟩
                  refine hK.out _ _ (below_step hHeld hbq2) (fun hHeld => ?_)
                  clear hK
                  try simp only [Act.put, List.setIfInBounds_toArray, List.set_cons_zero, List.set_cons_succ, List.getElem_toArray, List.getElem_cons_zero, List.getElem_cons_succ]
                  refine wpAnyH_take (i := 12) (v := .bool true) rfl (by kernel_rfl) (by kernel_rfl) (by kernel_rfl) (fun _ _ _ h => h) (Or.inl ⟨by rfl, fun W hW => by go_simp⟩) hHeld ?_
                  try simp only [Act.put, List.setIfInBounds_toArray, List.set_cons_zero, List.set_cons_succ, List.getElem_toArray, List.getElem_cons_zero, List.getElem_cons_succ]
                  refine wpAnyH_take (i := 13) (v := .bool true) rfl (by kernel_rfl) (by kernel_rfl) (by kernel_rfl) (fun _ _ _ h => h) (Or.inl ⟨by rfl, fun W hW => by go_simp⟩) hHeld ?_
                  try simp only [Act.put, List.setIfInBounds_toArray, List.set_cons_zero, List.set_cons_succ, List.getElem_toArray, List.getElem_cons_zero, List.getElem_cons_succ]
                  refine wpAnyH_done (by kernel_rfl) ?_ _
                  have HG5 := As.mk (g9b hHeld HG4.out)
                  have HB5 := As.mk (below_step HB4.out hHeld)
                  clear hHeld
                  go_wp2_with (first
                    | (refine wpList_storeArr rfl rfl 53 (.tmp 2) _ rfl w.heap.size rfl #[.int .i64 0, .int .i64 0, .int .i64 0, .int .i64 0] rfl 53 #[.int .i64 0, .int .i64 0, .int .i64 0, .int .i64 0] HG5.out info_geom rfl (one4 _ _ _ _) ?_))
                  refine bodyPost_ret (results_row_tmp2 Try.results43 _ _ w.heap.size 53 #[.int .i64 0, .int .i64 0, .int .i64 0, .int .i64 0] (0, 0) _ (.int .i64 0) (.int .i64 11) rfl rfl rfl (setRow_new _ _ #[.int .i64 0, .int .i64 0, .int .i64 0, .int .i64 0] _ _ HG5.out) Try.underlying53 rfl info_geom) rfl ⟨by rw [HRE.out.1, HRE.out.2.1, HRE.out.2.2], LayA.below_setRow HB5.out _ (Nat.le_refl _) _⟩
              · have H22 : As (false = true ↔ Wn.take 22 = b.take 22) := ⟨⟨fun h => (by cases h), fun h => absurd h h22⟩⟩
                have HTE : As (takeE b = 11) := ⟨by rw [HTE0.out, if_neg (fun h => h22 h.1)]⟩
                have HRE := As.mk (And.intro (tookA_bad (b := b) (by rw [HTE.out]; decide)).1 (And.intro (tookA_bad (b := b) (by rw [HTE.out]; decide)).2 HTE.out))
                clear h22 HTE0
                refine wp_region_held_drew (S := fun W : World => Below w14.heap.size w14 W) (by kernel_rfl) (below_drewN (Below.refl _ _) 1) (fun hHeld => ?_)
                refine wpAnyH_take (i := 0) (v := .slice A14 S c14) rfl (by kernel_rfl) (by kernel_rfl) (by kernel_rfl) (fun _ _ _ h => h) (Or.inl ⟨by rfl, fun W hW => by go_simp⟩) hHeld ?_
                try simp only [Act.put, List.setIfInBounds_toArray, List.set_cons_zero, List.set_cons_succ, List.getElem_toArray, List.getElem_cons_zero, List.getElem_cons_succ]
                refine wpAnyH_take (i := 1) (v := .slice (cutA A14 c14 0 1) 22 c14) rfl (by kernel_rfl) (by kernel_rfl) (by kernel_rfl) (fun _ _ _ h => h) (Or.inl ⟨by rfl, fun W hW => by go_simp⟩) hHeld ?_
                try simp only [Act.put, List.setIfInBounds_toArray, List.set_cons_zero, List.set_cons_succ, List.getElem_toArray, List.getElem_cons_zero, List.getElem_cons_succ]
                refine wpAnyH_take (i := 2) (v := .slice A n c) rfl (by kernel_rfl) (by kernel_rfl) (by kernel_rfl) (fun _ _ _ h => h) (Or.inl ⟨by rfl, fun W hW => by go_simp⟩) hHeld ?_
                try simp only [Act.put, List.setIfInBounds_toArray, List.set_cons_zero, List.set_cons_succ, List.getElem_toArray, List.getElem_cons_zero, List.getElem_cons_succ]
                refine wpAnyH_take (i := 3) (v := .slice (cutA A c 0 1) 22 c) rfl (by kernel_rfl) (by kernel_rfl) (by kernel_rfl) (fun _ _ _ h => h) (Or.inl ⟨by rfl, fun W hW => by go_simp⟩) hHeld ?_
                try simp only [Act.put, List.setIfInBounds_toArray, List.set_cons_zero, List.set_cons_succ, List.getElem_toArray, List.getElem_cons_zero, List.getElem_cons_succ]
                refine wpAnyH_ready (rs := [4]) (by kernel_rfl) (by simp) (AllReadyH.cons rfl (fun K' hK => ?_) AllReadyH.nil)
                go_simp
                refine (same_below (Wn.take 22) (b.take 22) (cutA A14 c14 0 1) (cutA A c 0 1) 22 22 c14 c _ false (by decide) H22.out (HW22.out.below hHeld) (HB22.out.below hHeld)).mono ?_
                rintro e wq ⟨rfl, hbq⟩
                refine hK.out _ _ (below_step hHeld hbq) (fun hHeld => ?_)
                clear hK
                try simp only [Act.put, List.setIfInBounds_toArray, List.set_cons_zero, List.set_cons_succ, List.getElem_toArray, List.getElem_cons_zero, List.getElem_cons_succ]
                refine wpAnyH_take (i := 5) (v := .bool true) rfl (by kernel_rfl) (by kernel_rfl) (by kernel_rfl) (fun _ _ _ h => h) (Or.inl ⟨by rfl, fun W hW => by go_simp⟩) hHeld ?_
                try simp only [Act.put, List.setIfInBounds_toArray, List.set_cons_zero, List.set_cons_succ, List.getElem_toArray, List.getElem_cons_zero, List.getElem_cons_succ]
                refine wpAnyH_take (i := 6) (v := .bool true) rfl (by kernel_rfl) (by kernel_rfl) (by kernel_rfl) (fun _ _ _ h => h) (Or.inl ⟨by rfl, fun W hW => by go_simp⟩) hHeld ?_
                try simp only [Act.put, List.setIfInBounds_toArray, List.set_cons_zero, List.set_cons_succ, List.getElem_toArray, List.getElem_cons_zero, List.getElem_cons_succ]
                refine wpAnyH_take (i := 7) (v := undef) rfl (by kernel_rfl) (by kernel_rfl) (by kernel_rfl) (fun _ _ _ h => h) (Or.inr ⟨by rfl, rfl⟩) hHeld ?_
                try simp only [Act.put, List.setIfInBounds_toArray, List.set_cons_zero, List.set_cons_succ, List.getElem_toArray, List.getElem_cons_zero, List.getElem_cons_succ]
                refine wpAnyH_take (i := 8) (v := undef) rfl (by kernel_rfl) (by kernel_rfl) (by kernel_rfl) (fun _ _ _ h => h) (Or.inr ⟨by rfl, rfl⟩) hHeld ?_
                try simp only [Act.put, List.setIfInBounds_toArray, List.set_cons_zero, List.set_cons_succ, List.getElem_toArray, List.getElem_cons_zero, List.getElem_cons_succ]
                refine wpAnyH_take (i := 9) (v := undef) rfl (by kernel_rfl) (by kernel_rfl) (by kernel_rfl) (fun _ _ _ h => h) (Or.inr ⟨by rfl, rfl⟩) hHeld ?_
                try simp only [Act.put, List.setIfInBounds_toArray, List.set_cons_zero, List.set_cons_succ, List.getElem_toArray, List.getElem_cons_zero, List.getElem_cons_succ]
                refine wpAnyH_take (i := 10) (v := undef) rfl (by kernel_rfl) (by kernel_rfl) (by kernel_rfl) (fun _ _ _ h => h) (Or.inr ⟨by rfl, rfl⟩) hHeld ?_
                try simp only [Act.put, List.setIfInBounds_toArray, List.set_cons_zero, List.set_cons_succ, List.getElem_toArray, List.getElem_cons_zero, List.getElem_cons_succ]
                refine wpAnyH_take (i := 11) (v := undef) rfl (by kernel_rfl) (by kernel_rfl) (by kernel_rfl) (fun _ _ _ h => h) (Or.inr ⟨by rfl, rfl⟩) hHeld ?_
                try simp only [Act.put, List.setIfInBounds_toArray, List.set_cons_zero, List.set_cons_succ, List.getElem_toArray, List.getElem_cons_zero, List.getElem_cons_succ]
                refine wpAnyH_take (i := 12) (v := undef) rfl (by kernel_rfl) (by kernel_rfl) (by kernel_rfl) (fun _ _ _ h => h) (Or.inr ⟨by rfl, rfl⟩) hHeld ?_
                try simp only [Act.put, List.setIfInBounds_toArray, List.set_cons_zero, List.set_cons_succ, List.getElem_toArray, List.getElem_cons_zero, List.getElem_cons_succ]
                refine wpAnyH_take (i := 13) (v := .bool true) rfl (by kernel_rfl) (by kernel_rfl) (by kernel_rfl) (fun _ _ _ h => h) (Or.inl ⟨by rfl, fun W hW => by go_simp⟩) hHeld ?_
                try simp only [Act.put, List.setIfInBounds_toArray, List.set_cons_zero, List.set_cons_succ, List.getElem_toArray, List.getElem_cons_zero, List.getElem_cons_succ]
                refine wpAnyH_done (by kernel_rfl) ?_ _
                have HG5 := As.mk (g9b hHeld HG4.out)
                have HB5 := As.mk (below_step HB4.out hHeld)
                clear hHeld
                go_wp2_with (first
                  | (refine wpList_storeArr rfl rfl 53 (.tmp 2) _ rfl w.heap.size rfl #[.int .i64 0, .int .i64 0, .int .i64 0, .int .i64 0] rfl 53 #[.int .i64 0, .int .i64 0, .int .i64 0, .int .i64 0] HG5.out info_geom rfl (one4 _ _ _ _) ?_))
                refine bodyPost_ret (results_row_tmp2 Try.results43 _ _ w.heap.size 53 #[.int .i64 0, .int .i64 0, .int .i64 0, .int .i64 0] (0, 0) _ (.int .i64 0) (.int .i64 11) rfl rfl rfl (setRow_new _ _ #[.int .i64 0, .int .i64 0, .int .i64 0, .int .i64 0] _ _ HG5.out) Try.underlying53 rfl info_geom) rfl ⟨by rw [HRE.out.1, HRE.out.2.1, HRE.out.2.2], LayA.below_setRow HB5.out _ (Nat.le_refl _) _⟩
            · have l0 : ((n : Int) != (S : Int)) = true := bne_iff_ne.2 (by omega)
              have l1 : (n != S) = true := bne_iff_ne.2 hlen
              have l2 : (n == S) = false := beq_eq_false_iff_ne.2 hlen
              have l3 : ((n : Int) == (S : Int)) = false := beq_eq_false_iff_ne.2 (by omega)
              have HTE := As.mk (takeE_nofit (b := b) (by rw [HLB.out]; exact HN.out) (by rw [HFDR.out, decide_eq_false hlen]; rfl))
              have HRE := As.mk (And.intro (tookA_bad (b := b) (by rw [HTE.out]; decide)).1 (And.intro (tookA_bad (b := b) (by rw [HTE.out]; decide)).2 HTE.out))
              go_wp2_with (first
                | (go_at_call 37; (with_reducible refine (rightR_any (S : Int) T P D _ HKR.out _).mono ?_); rintro e w14 ⟨rfl, hb⟩; have HC3 := As.mk (g9b hb HGC.out); have HG3 := As.mk (g9b hb HG2.out); have HB3 := As.mk (below_step HB2.out hb); clear hb; refine As.out ?_))
              refine As.mk ?_
              clear c0 c1 c2 c3
              have c0 : w14.cell? ⟨g13, 0, none⟩ = some (.int .i64 (S : Int)) := cell_of_row _ _ 0 _ _ _ HC3.out
              go_wp2_with (first
                | (refine wpList_storeArr rfl rfl 53 (.tmp 2) _ rfl w.heap.size rfl #[.int .i64 0, .int .i64 0, .int .i64 0, .int .i64 0] rfl 53 #[.int .i64 0, .int .i64 0, .int .i64 0, .int .i64 0] HG3.out info_geom rfl (one4 _ _ _ _) ?_))
              refine bodyPost_ret (results_row_tmp2 Try.results43 _ _ w.heap.size 53 #[.int .i64 0, .int .i64 0, .int .i64 0, .int .i64 0] (0, 0) _ (.int .i64 0) (.int .i64 11) rfl rfl rfl (setRow_new _ _ #[.int .i64 0, .int .i64 0, .int .i64 0, .int .i64 0] _ _ HG3.out) Try.underlying53 rfl info_geom) rfl ⟨by rw [HRE.out.1, HRE.out.2.1, HRE.out.2.2], LayA.below_setRow HB3.out _ (Nat.le_refl _) _⟩
        · have t0 : decide (1099511627776 < (V : Int)) = true := decide_eq_true (by omega)
          have t1 : decide (1099511627776 < V) = true := decide_eq_true (by omega)
          have HTE := As.mk (takeE_nofit (b := b) (by rw [HLB.out]; exact HN.out) (by rw [HFDV.out, decide_eq_false hv]; rfl))
          have HRE := As.mk (And.intro (tookA_bad (b := b) (by rw [HTE.out]; decide)).1 (And.intro (tookA_bad (b := b) (by rw [HTE.out]; decide)).2 HTE.out))
          clear hv
          go_wp2_with (first
            | (refine wpList_storeArr rfl rfl 53 (.tmp 2) _ rfl w.heap.size rfl #[.int .i64 0, .int .i64 0, .int .i64 0, .int .i64 0] rfl 53 #[.int .i64 0, .int .i64 0, .int .i64 0, .int .i64 0] HG2.out info_geom rfl (one4 _ _ _ _) ?_))
          refine bodyPost_ret (results_row_tmp2 Try.results43 _ _ w.heap.size 53 #[.int .i64 0, .int .i64 0, .int .i64 0, .int .i64 0] (0, 0) _ (.int .i64 0) (.int .i64 11) rfl rfl rfl (setRow_new _ _ #[.int .i64 0, .int .i64 0, .int .i64 0, .int .i64 0] _ _ HG2.out) Try.underlying53 rfl info_geom) rfl ⟨by rw [HRE.out.1, HRE.out.2.1, HRE.out.2.2], LayA.below_setRow HB2.out _ (Nat.le_refl _) _⟩
      · have t0 : (ge != 0) = true := bne_iff_ne.2 hge
        have t1 : (ge == 0) = false := beq_eq_false_iff_ne.2 hge
        have HTE := As.mk (takeE_nofit (b := b) (by rw [HLB.out]; exact HN.out) (by rw [HFD.out, decide_eq_false (by omega)]; rfl))
        have HRE := As.mk (And.intro (tookA_bad (b := b) (by rw [HTE.out]; decide)).1 (And.intro (tookA_bad (b := b) (by rw [HTE.out]; decide)).2 HTE.out))
        clear hge hgv
        go_wp2_with (first
          | (refine wpList_storeArr rfl rfl 53 (.tmp 2) _ rfl w.heap.size rfl #[.int .i64 0, .int .i64 0, .int .i64 0, .int .i64 0] rfl 53 #[.int .i64 0, .int .i64 0, .int .i64 0, .int .i64 0] HG2.out info_geom rfl (one4 _ _ _ _) ?_))
        refine bodyPost_ret (results_row_tmp2 Try.results43 _ _ w.heap.size 53 #[.int .i64 0, .int .i64 0, .int .i64 0, .int .i64 0] (0, 0) _ (.int .i64 0) (.int .i64 11) rfl rfl rfl (setRow_new _ _ #[.int .i64 0, .int .i64 0, .int .i64 0, .int .i64 0] _ _ HG2.out) Try.underlying53 rfl info_geom) rfl ⟨by rw [HRE.out.1, HRE.out.2.1, HRE.out.2.2], LayA.below_setRow HB2.out _ (Nat.le_refl _) _⟩
end Go.Proofs.Ytjcofbjfolaoiaa.SlotP
