/- crash.Last: the last write of each sector. -/
import Derived.Test.YteajblfkfmopfaaCrashAwake
namespace Go.Proofs.Yteajblfkfmopfaa.LawCrash
set_option linter.unusedVariables false
set_option linter.unusedSimpArgs false
open Go Go.RowKit Go.Proofs.Yteajblfkfmopfaa.Mem Go.Proofs.Yteajblfkfmopfaa.Put32 Go.Proofs.Yteajblfkfmopfaa.Sum Go.Proofs.Yteajblfkfmopfaa.Hmac Go.Proofs.Yteajblfkfmopfaa.Parts Go.Proofs.Yteajblfkfmopfaa.Entries Go.Proofs.Yteajblfkfmopfaa.CrashApply

def eqE (n : Int) (e : Int × List Int) : Bool := e.1 == n
theorem infoEn2 : (Try.prog.info? 90).map (fun i => (i.zero, i.size, i.bytes)) = some (some (.agg #[.int .i64 0, .slice none 0 0]), 2, 32) := by kernel_rfl
set_option maxHeartbeats 1000000 in
set_option maxRecDepth 100000 in
theorem last1_any (w : World) (s : Int) (A : Option Addr) (l c : Nat) (g : Nat) (n : Int) (hg : w.cell? ⟨g, 0, none⟩ = some (.int .i64 n)) :
    Calls Try.prog 125 #[.agg #[.int .i64 s, .slice A l c], .pointer (some ⟨g, 0, none⟩)] w fun e w' => e = .returned (.bool (eqE n (s, []))) ∧ Below w.heap.size w w' := by
  have hg2 : (w.alloc (.cells #[.int .i64 s, .slice A l c] 90)).cell? ⟨g, 0, none⟩ = some (.int .i64 n) := (World.cell?_alloc_lt _ _ _ (World.block_lt_of_cell? w _ hg)).trans hg
  have HB := As.mk (below_alloc (Below.refl w.heap.size w) (.cells #[.int .i64 s, .slice A l c] 90))
  clear hg
  go_enter Try.func125, Try.ntmps125
  go_wp2
  go_ret
  exact ⟨rfl, by first | exact HB.out | exact below_drewN HB.out 1⟩
set_option maxHeartbeats 1000000 in
set_option maxRecDepth 100000 in
theorem index_last (w : World) (sec : Int) (A : Option Addr) (n c g : Nat) (es : List (Int × List Int)) (hn : n ≤ 1000000) (h : RdE w A n c es) (hg : w.cell? ⟨g, 0, none⟩ = some (.int .i64 sec)) :
    Calls Try.prog 190 #[.slice A n c, .func (.func 125) #[] #[.pointer (some ⟨g, 0, none⟩)]] w fun e w' => e = .returned (.int .i64 (firstE (eqE sec) 0 es)) ∧ Below w.heap.size w w' := by
  have HN := As.mk hn
  have H := As.mk h
  have HG := As.mk hg
  clear hn h hg
  go_enter Try.func190, Try.ntmps190
  go_wp2
  go_loopg [8] n (fun kq v8 wr => ∃ i : Nat, i + kq = n ∧ v8 = .int .i64 i ∧ As (∀ k, k < i → eqE sec (nthE es k) = false) ∧ As (Below w.heap.size w wr))
  case atStart => exact ⟨0, by omega, rfl, ⟨fun k hk => by omega⟩, ⟨Below.refl _ _⟩⟩
  case round =>
    obtain ⟨i, hi, rfl, HK, HB⟩ := hrel
    have HI := As.mk hi
    clear hi
    by_cases hlt : i < n
    · have c0 : decide ((i : Int) < (n : Int)) = true := decide_eq_true (by omega)
      have c1 : decide (i < n) = true := decide_eq_true hlt
      have lt' : (i : Int) < (n : Int) := by omega
      have hw : wrap64 ((i : Int) + 1) = ((i + 1 : Nat) : Int) := wrap_up (by have := HN.out; omega)
      obtain ⟨ad, Aj, cj, ea, h1, h2, h3⟩ := (H.out.below HB.out).at i hlt
      cases ea
      obtain ⟨s, hs⟩ : ∃ s, s = (nthE es i).1 := ⟨_, rfl⟩
      obtain ⟨m, hm⟩ : ∃ m, m = (nthE es i).2.length := ⟨_, rfl⟩
      rw [← hs] at h1
      rw [← hm] at h2
      have hq : eqE sec (s, []) = eqE sec (nthE es i) := by rw [hs]; rfl
      have HQ := As.mk hq
      have H1 := As.mk h1
      have H2 := As.mk h2
      have HGW := As.mk ((HB.out.cell (World.block_lt_of_cell? w _ HG.out)).trans HG.out)
      have HLT := As.mk hlt
      clear h1 h2 h3 hs hm hq hlt
      go_wp2_with (first
        | (refine wpList_load_at rfl 90 (.tmp 14) rfl (ad.add (i * 2)) rfl [.int .i64 s, .slice Aj m cj] _ (fun j v hv => by rcases j with _ | _ | j <;> simp at hv <;> subst hv <;> rw [add_add] <;> first | exact H1.out | exact H2.out) Try.underlying90 rfl infoEn ?_)
        | (go_at_call 125; refine (last1_any wr s Aj m cj g sec HGW.out).mono ?_; rintro e w2 ⟨rfl, hb⟩; rw [HQ.out]; have HB2 := As.mk (below_step HB.out hb); clear hb; refine As.out ?_))
      refine As.mk ?_
      cases hq : eqE sec (nthE es i) with
      | true =>
        have HF := As.mk (firstE_at (eqE sec) es 0 i (by rw [H.out.len]; exact HLT.out) HK.out hq)
        clear hq
        go_wp2
        go_ret
        exact ⟨by rw [HF.out, Nat.zero_add]; rfl, HB2.out⟩
      | false =>
        have HQF := As.mk hq
        clear hq
        go_wp2
        go_roundg (n - (i + 1))
        case measure => have := HI.out; have := HLT.out; omega
        case rel =>
          refine ⟨i + 1, by have := HI.out; have := HLT.out; omega, by go_num, ⟨fun k hk => ?_⟩, HB2⟩
          rcases Nat.lt_succ_iff_lt_or_eq.1 hk with h | rfl
          · exact HK.out k h
          · exact HQF.out
    · have c0 : decide ((i : Int) < (n : Int)) = false := decide_eq_false (by omega)
      have c1 : decide (i < n) = false := decide_eq_false hlt
      have HF := As.mk (firstE_none (eqE sec) es 0 (fun k hk => HK.out k (by have := H.out.len; omega)))
      clear hlt
      go_wp2
      go_ret
      exact ⟨by rw [HF.out]; rfl, HB.out⟩
set_option maxHeartbeats 1000000 in
set_option maxRecDepth 100000 in
theorem contains_last (w : World) (sec : Int) (A : Option Addr) (n c g : Nat) (es : List (Int × List Int)) (hn : n ≤ 1000000) (h : RdE w A n c es) (hg : w.cell? ⟨g, 0, none⟩ = some (.int .i64 sec)) :
    Calls Try.prog 124 #[.slice A n c, .func (.func 125) #[] #[.pointer (some ⟨g, 0, none⟩)]] w fun e w' => e = .returned (.bool (es.any (eqE sec))) ∧ Below w.heap.size w w' := by
  have HN := As.mk hn
  have H := As.mk h
  have HG := As.mk hg
  have HF := As.mk (firstE_any (eqE sec) es 0)
  clear hn h hg
  go_enter Try.func124, Try.ntmps124
  go_wp2_with (go_at_call 190; refine (index_last w sec A n c g es HN.out H.out HG.out).mono ?_; rintro e w2 ⟨rfl, hb⟩; have HB2 := As.mk hb; clear hb; refine As.out ?_)
  refine As.mk ?_
  obtain ⟨r, hr⟩ : ∃ r, r = firstE (eqE sec) 0 es := ⟨_, rfl⟩
  rw [← hr] at HF ⊢
  clear hr
  go_wp2
  go_ret
  exact ⟨by rw [← HF.out]; rfl, HB2.out⟩

theorem cutA_pos {ad : Addr} {c l size : Nat} (h : c ≠ l) : cutA (some ad) c l size = some (ad.add (l * size)) := by
  unfold cutA
  rw [if_neg h]
  rfl
theorem rde_cut {w : World} {A : Option Addr} {n c : Nat} {es : List (Int × List Int)} (h : RdE w A n c es) (l : Nat) (hl : l ≤ n) : RdE w (cutA A c l 2) (n - l) (c - l) (es.drop l) := by
  have h1 := h.le
  have h2 := h.cap
  refine ⟨by rw [List.length_drop, h.len], by omega, by unfold maxLen at *; omega, fun h0 => ?_⟩
  obtain ⟨ad, e, hc⟩ := h.cells (by omega)
  subst e
  rw [cutA_pos (by omega)]
  refine ⟨_, rfl, fun j hj => ?_⟩
  have he : nthE (es.drop l) j = nthE es (l + j) := by simp [nthE, List.getD_eq_getElem?_getD, List.getElem?_drop]
  rw [he]
  obtain ⟨Aj, cj, g1, g2, g3⟩ := hc (l + j) (by omega)
  refine ⟨Aj, cj, ?_, ?_, g3⟩
  · rw [add_add, show l * 2 + j * 2 = (l + j) * 2 by omega]
    exact g1
  · rw [add_add, show l * 2 + (j * 2 + 1) = (l + j) * 2 + 1 by omega]
    exact g2
/-- writes in a row of one's own whose bytes lay there before -/
structure EntsO (wA w : World) (base : Nat) (v : Value) (n : Nat) (xs : List Value) (es : List (Int × List Int)) : Prop where
  len : es.length = n
  own : w.ownsRow base 90 2 v n xs
  each : ∀ j, j < n → ∃ A c, xs[j * 2]? = some (.int .i64 (nthE es j).1) ∧ xs[j * 2 + 1]? = some (.slice A (nthE es j).2.length c) ∧ Rd .u8 wA A (nthE es j).2.length c (nthE es j).2
theorem EntsO.nil (wA w : World) (base : Nat) : EntsO wA w base (.slice none 0 0) 0 [] [] := ⟨rfl, World.ownsRow_nil _ _ _ _, fun j hj => by omega⟩
theorem EntsO.below {wA w w' : World} {base n : Nat} {v : Value} {xs : List Value} {es : List (Int × List Int)} (h : EntsO wA w base v n xs es) (hb : Below w.heap.size w w') : EntsO wA w' base v n xs es :=
  ⟨h.len, own_below h.own hb, h.each⟩
theorem nthE_l (a b : List (Int × List Int)) (j : Nat) (h : j < a.length) : nthE (a ++ b) j = nthE a j := by
  simp [nthE, List.getD_eq_getElem?_getD, List.getElem?_append_left h]
theorem nthE_r (a : List (Int × List Int)) (e : Int × List Int) : nthE (a ++ [e]) a.length = e := by
  simp [nthE, List.getD_eq_getElem?_getD]
theorem EntsO.app {wA w w' : World} {base n : Nat} {v v' : Value} {xs : List Value} {es : List (Int × List Int)} {x : Int} {A : Option Addr} {l c : Nat} {p : List Int} (h : EntsO wA w base v n xs es) (hl : l = p.length) (hr : Rd .u8 wA A l c p) (hown : w'.ownsRow base 90 2 v' (n + 1) (xs ++ [.int .i64 x, .slice A l c])) :
    EntsO wA w' base v' (n + 1) (xs ++ [.int .i64 x, .slice A l c]) (es ++ [(x, p)]) := by
  subst hl
  have hxl : xs.length = n * 2 := h.own.1
  refine ⟨by rw [List.length_append, h.len]; rfl, hown, fun j hj => ?_⟩
  by_cases hjn : j < n
  · obtain ⟨A2, c2, e1, e2, h2⟩ := h.each j hjn
    rw [nthE_l _ _ _ (by rw [h.len]; exact hjn)]
    exact ⟨A2, c2, by rw [List.getElem?_append_left (by omega)]; exact e1, by rw [List.getElem?_append_left (by omega)]; exact e2, h2⟩
  · obtain rfl : j = n := by omega
    have hn : nthE (es ++ [(x, p)]) j = (x, p) := by rw [← h.len]; exact nthE_r _ _
    rw [hn]
    refine ⟨A, c, ?_, ?_, hr⟩
    · rw [List.getElem?_append_right (by omega), hxl, Nat.sub_self]; rfl
    · rw [List.getElem?_append_right (by omega), hxl, show j * 2 + 1 - j * 2 = 1 by omega]; rfl
theorem EntsO.rde {wA w : World} {base n c : Nat} {A : Option Addr} {xs : List Value} {es : List (Int × List Int)} (h : EntsO wA w base (.slice A n c) n xs es) (hb : Below wA.heap.size wA w) : RdE w A n c es := by
  rcases h.own.2 with ⟨e, hn⟩ | ⟨g, cap, cur, e, hg, hh, hnc, hcm, hcs, ht⟩
  · cases e
    exact ⟨h.len, Nat.le_refl _, by unfold maxLen; omega, fun h0 => by omega⟩
  · cases e
    refine ⟨h.len, hnc, hcm, fun h0 => ⟨_, rfl, fun j hj => ?_⟩⟩
    obtain ⟨Aj, cj, e1, e2, h2⟩ := h.each j hj
    have hxl : xs.length = n * 2 := h.own.1
    have hcell : ∀ t v, xs[t]? = some v → w.cell? ⟨g, t, none⟩ = some v := fun t v hv => by
      have hlt : t < n * 2 := by
        rcases Nat.lt_or_ge t xs.length with h1 | h1
        · omega
        · rw [List.getElem?_eq_none h1] at hv; cases hv
      have h3 : cur[t]? = some v := by
        rw [← ht, List.getElem?_take_of_lt hlt, Array.getElem?_toList] at hv
        exact hv
      simp [World.cell?, hh, h3]
    refine ⟨Aj, cj, ?_, ?_, h2.below hb⟩
    · rw [add0]; exact hcell _ _ e1
    · rw [add0]; exact hcell _ _ e2
theorem src_two {w : World} {b : Nat} {u v : Value} {T : TypeId} (h : w.heap[b]? = some (.cells #[u, v] T (0, 0))) (hu : u.oneCell' = true) (hv : v.oneCell' = true) : Go.Proofs.Yteajblfkfmopfaa.Mem.Src w (.slice (some ⟨b, 0, none⟩) 1 1) 1 2 [u, v] := by
  refine ⟨rfl, fun x hx => ?_, .inl ⟨_, _, rfl, fun j x hx => ?_⟩⟩
  · simp at hx
    rcases hx with rfl | rfl
    · exact hu
    · exact hv
  · rw [add0]
    rcases j with _ | _ | j
    · simp at hx; subst hx; exact cell_of_row w b 0 _ _ _ h
    · simp at hx; subst hx; exact cell_of_row w b 1 _ _ _ h
    · simp at hx
/-- those that no later one follows, of the first k -/
def lastF (es : List (Int × List Int)) : Nat → List (Int × List Int)
  | 0 => []
  | k + 1 => if ((es.drop (k + 1)).any (eqE (nthE es k).1)) = true then lastF es k else lastF es k ++ [nthE es k]
theorem lastF_le (es : List (Int × List Int)) : ∀ k, (lastF es k).length ≤ k
  | 0 => Nat.le_refl _
  | k + 1 => by
    have := lastF_le es k
    rw [lastF]
    split
    · omega
    · rw [List.length_append]; simp; omega
set_option maxHeartbeats 2000000 in
set_option maxRecDepth 100000 in
theorem last_any (w : World) (A : Option Addr) (n c : Nat) (es : List (Int × List Int)) (hn : n ≤ 1000000) (h : RdE w A n c es) :
    Calls Try.prog 54 #[.slice A n c] w fun e w' => ∃ A' c' k, e = .returned (.slice A' k c') ∧ RdE w' A' k c' (lastF es n) ∧ Below w.heap.size w w' := by
  have HN := As.mk hn
  have H := As.mk h
  clear hn h
  go_enter Try.func54, Try.ntmps54
  go_wp2
  go_loopg [3, 8] n (fun kq v3 v8 wr => ∃ (i k cv : Nat) (Av : Option Addr) (xs : List Value), i + kq = n ∧ v8 = .int .i64 (i : Int) ∧ v3 = .slice Av k cv ∧ As (EntsO w wr w.heap.size (.slice Av k cv) k xs (lastF es i)) ∧ As (Below w.heap.size w wr))
  case atStart => exact ⟨0, 0, 0, none, [], by omega, rfl, rfl, ⟨EntsO.nil _ _ _⟩, ⟨Below.refl _ _⟩⟩
  case round =>
    obtain ⟨i, k, cv, Av, xs, hi, rfl, rfl, HE, HB⟩ := hrel
    have HI := As.mk hi
    clear hi
    by_cases hlt : i < n
    · have c0 : decide ((i : Int) < (n : Int)) = true := decide_eq_true (by omega)
      have c1 : decide (i < n) = true := decide_eq_true hlt
      have lt' : (i : Int) < (n : Int) := by omega
      have hw : wrap64 ((i : Int) + 1) = ((i + 1 : Nat) : Int) := wrap_up (by have := HN.out; omega)
      obtain ⟨ad, Aj, cj, ea, h1w, h2w, h3w⟩ := H.out.at i hlt
      cases ea
      have h1 := (HB.out.cell (World.block_lt_of_cell? w _ h1w)).trans h1w
      have h2 := (HB.out.cell (World.block_lt_of_cell? w _ h2w)).trans h2w
      have HKL := As.mk (show k ≤ i by rw [← HE.out.len]; exact lastF_le es i)
      have HSU := As.mk (show lastF es (i + 1) = if ((es.drop (i + 1)).any (eqE (nthE es i).1)) = true then lastF es i else lastF es i ++ [nthE es i] from rfl)
      obtain ⟨e, he⟩ : ∃ e, e = nthE es i := ⟨_, rfl⟩
      obtain ⟨s, hs⟩ : ∃ s, s = e.1 := ⟨_, rfl⟩
      obtain ⟨q, hq⟩ : ∃ q, q = e.2 := ⟨_, rfl⟩
      obtain ⟨l, hl⟩ : ∃ l, l = q.length := ⟨_, rfl⟩
      have hee : e = (s, q) := by rw [hs, hq]
      rw [← he, hee] at h1 h2 h3w
      rw [← he, ← hs, hee] at HSU
      simp only [← hl] at h1 h2 h3w
      have H1c := As.mk h1
      have H2c := As.mk h2
      have H3c := As.mk h3w
      have HL := As.mk hl
      have HLT := As.mk hlt
      have hba := below_alloc (Below.refl wr.heap.size wr) (.cells #[.int .i64 s, .slice Aj l cj] 90)
      have hvw := heap_alloc_new wr (.cells #[.int .i64 s, .slice Aj l cj] 90)
      obtain ⟨wb, hwb⟩ : ∃ wb, wr.alloc (.cells #[.int .i64 s, .slice Aj l cj] 90) = wb := ⟨_, rfl⟩
      obtain ⟨g, hg⟩ : ∃ g, wr.heap.size = g := ⟨_, rfl⟩
      rw [hwb] at hba hvw
      rw [hg] at hvw
      have HWB := As.mk hwb
      have HG := As.mk hg
      have HV := As.mk hvw
      have HBb := As.mk (HB.out.trans (hba.mono HB.out.size))
      have HEb := As.mk (HE.out.below hba)
      have HC := As.mk (contains_last wb s (cutA (some ad) c (i + 1) 2) (n - (i + 1)) (c - (i + 1)) g (es.drop (i + 1)) (by have := HN.out; omega) (rde_cut (H.out.below HBb.out) (i + 1) (by omega)) (by rw [cell_of_row _ _ 0 _ _ _ hvw]; rfl))
      have hcut : ∀ W, (Instr.slice 73 (.slice (some ad) n c) (some (.int .i64 ((i + 1 : Nat) : Int))) none none).run Try.prog W = .ok (.slice (cutA (some ad) c (i + 1) 2) (n - (i + 1)) (c - (i + 1))) W := fun W => run_cut_from (P := Try.prog) W 73 90 Try.underlying73 infoEn2 (some ad) n c (i + 1) .i64 (by have := HLT.out; omega)
      have hcut' : ∀ W, (Instr.slice 73 (.slice (some ad) n c) (some (.int .i64 ((i : Int) + 1))) none none).run Try.prog W = .ok (.slice (cutA (some ad) c (i + 1) 2) (n - (i + 1)) (c - (i + 1))) W := hcut
      clear h1 h2 h3w hee he hs hq hl hlt hba hvw hwb hg HE HB
      go_upto_region 5 with (refine wpList_load_at rfl 90 (.tmp 11) rfl (ad.add (i * 2)) rfl [.int .i64 s, .slice Aj l cj] _ (fun j v hv => by rcases j with _ | _ | j <;> simp at hv <;> subst hv <;> rw [add_add] <;> first | exact H1c.out | exact H2c.out) Try.underlying90 rfl infoEn ?_)
      rw [HWB.out, HG.out]
      have hc0 : wb.cell? ⟨g, 0, none⟩ = some (.int .i64 s) := by rw [cell_of_row _ _ 0 _ _ _ HV.out]; rfl
      obtain ⟨b, hb⟩ : ∃ b, b = (es.drop (i + 1)).any (eqE s) := ⟨_, rfl⟩
      rw [← hb] at HSU HC
      clear hb
      cases b with
      | true =>
        go_wp2_with (go_at_call 124; (with_reducible refine HC.out.mono ?_); rintro e w2 ⟨rfl, hb⟩; have HB2 := As.mk hb; clear hb)
        go_roundg (n - (i + 1))
        case measure => have := HI.out; have := HLT.out; omega
        case rel => exact ⟨i + 1, k, cv, Av, xs, by have := HI.out; have := HLT.out; omega, by go_num, rfl, ⟨by rw [HSU.out, if_pos (by simp)]; exact HEb.out.below HB2.out⟩, ⟨HBb.out.trans (HB2.out.mono HBb.out.size)⟩⟩
      | false =>
        go_wp2_with (first
          | (go_at_call 124; (with_reducible refine HC.out.mono ?_); rintro e w2 ⟨rfl, hb⟩; have HB2 := As.mk hb; have HBB := As.mk (HBb.out.trans (hb.mono HBb.out.size)); have HE2 := As.mk (HEb.out.below hb); have hv2 := (hb.block _ (Array.getElem?_eq_some_iff.1 HV.out).1).trans HV.out; have v0 : w2.cell? ⟨g, 0, none⟩ = some (.int .i64 s) := by { rw [cell_of_row _ _ 0 _ _ _ hv2]; rfl }; have v1 : w2.cell? ⟨g, 1, none⟩ = some (.slice Aj l cj) := by { rw [cell_of_row _ _ 1 _ _ _ hv2]; rfl }; clear hb hv2 hc0 hcut hcut')
          | (at_builtin; refine Go.Proofs.Yteajblfkfmopfaa.Mem.wpList_app rfl (.tmp 20) (.tmp 22) 73 rfl w.heap.size 90 (.agg #[.int .i64 0, .slice none 0 0]) 2 32 Try.underlying73 infoEn2 (by rfl) (by decide) _ k xs rfl (own_below HE2.out.own (below_alloc (Below.refl _ _) _)) _ 1 [.int .i64 s, .slice Aj l cj] rfl (src_two (heap_alloc_new _ _) rfl rfl) ?b1 ?b2 ?b3 (HB := HBB.out.alloc HBB.out.size _) (Nat.le_refl _) ?_; (case b1 => have := HN.out; have := HKL.out; have := HLT.out; unfold maxLen; omega); (case b2 => have := HN.out; have := HKL.out; have := HLT.out; omega); (case b3 => have := HBB.out.size; simp; omega); intro v' w5 hown hg hat hb; obtain ⟨A5, c5, rfl⟩ := own_slice hown; have HE5 := As.mk (EntsO.app HE2.out HL.out H3c.out hown); have HB5 := As.mk hb; clear hown hg hat hb))
        go_roundg (n - (i + 1))
        case measure => have := HI.out; have := HLT.out; omega
        case rel => exact ⟨i + 1, k + 1, c5, A5, _, by have := HI.out; have := HLT.out; omega, by go_num, rfl, ⟨by rw [HSU.out, if_neg (by simp)]; exact HE5.out⟩, HB5⟩
    · have c0 : decide ((i : Int) < (n : Int)) = false := decide_eq_false (by omega)
      have c1 : decide (i < n) = false := decide_eq_false hlt
      obtain rfl : n = i := by have := HI.out; omega
      clear hlt
      go_wp2
      go_ret
      exact ⟨Av, cv, k, rfl, HE.out.rde HB.out, HB.out⟩
end Go.Proofs.Yteajblfkfmopfaa.LawCrash
