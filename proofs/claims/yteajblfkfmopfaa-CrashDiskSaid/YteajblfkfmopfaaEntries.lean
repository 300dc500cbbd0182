/- Writes: a number and bytes each; crash.may. -/
import Derived.Test.YteajblfkfmopfaaHmac
import Derived.Test.YteajblfkfmopfaaMem5
namespace Go.Proofs.Yteajblfkfmopfaa.Entries
set_option linter.unusedVariables false
set_option linter.unusedSimpArgs false
open Go Go.RowKit Go.Proofs.Yteajblfkfmopfaa.Mem Go.Proofs.Yteajblfkfmopfaa.Sum

def nthE (es : List (Int × List Int)) (j : Nat) : Int × List Int := es.getD j (0, [])
/-- A slice of writes that is read. -/
structure RdE (w : World) (A : Option Addr) (n c : Nat) (es : List (Int × List Int)) : Prop where
  len : es.length = n
  le : n ≤ c
  cap : c ≤ maxLen
  cells : 0 < n → ∃ ad, A = some ad ∧ ∀ j, j < n → ∃ Aj cj, w.cell? (ad.add (j * 2)) = some (.int .i64 (nthE es j).1) ∧ w.cell? (ad.add (j * 2 + 1)) = some (.slice Aj (nthE es j).2.length cj) ∧ Rd .u8 w Aj (nthE es j).2.length cj (nthE es j).2
theorem RdE.at {w : World} {A : Option Addr} {n c : Nat} {es : List (Int × List Int)} (h : RdE w A n c es) (j : Nat) (hj : j < n) :
    ∃ ad Aj cj, A = some ad ∧ w.cell? (ad.add (j * 2)) = some (.int .i64 (nthE es j).1) ∧ w.cell? (ad.add (j * 2 + 1)) = some (.slice Aj (nthE es j).2.length cj) ∧ Rd .u8 w Aj (nthE es j).2.length cj (nthE es j).2 := by
  obtain ⟨ad, e, hc⟩ := h.cells (by omega)
  obtain ⟨Aj, cj, h1⟩ := hc j hj
  exact ⟨ad, Aj, cj, e, h1⟩
theorem RdE.below {w w' : World} {A : Option Addr} {n c : Nat} {es : List (Int × List Int)} (h : RdE w A n c es) (hb : Below w.heap.size w w') : RdE w' A n c es :=
  ⟨h.len, h.le, h.cap, fun h0 => by
    obtain ⟨ad, e, hc⟩ := h.cells h0
    refine ⟨ad, e, fun j hj => ?_⟩
    obtain ⟨Aj, cj, h1, h2, h3⟩ := hc j hj
    exact ⟨Aj, cj, (hb.cell (World.block_lt_of_cell? w _ h1)).trans h1, (hb.cell (World.block_lt_of_cell? w _ h2)).trans h2, h3.below hb⟩⟩
theorem RdE.drewN {w : World} {A : Option Addr} {n c : Nat} {es : List (Int × List Int)} (h : RdE w A n c es) (m : Nat) : RdE (w.drewN m) A n c es := h.below (below_drewN (Below.refl _ _) m)
/-- does a write lie outside? -/
def outE (n : Int) (e : Int × List Int) : Bool := decide (e.1 < 0) || decide (n ≤ e.1)

set_option maxHeartbeats 1000000 in
set_option maxRecDepth 100000 in
theorem may1_any (w : World) (s : Int) (A : Option Addr) (l c : Nat) (g : Nat) (n : Int) (hg : w.cell? ⟨g, 0, none⟩ = some (.int .i64 n)) :
    Calls Try.prog 185 #[.agg #[.int .i64 s, .slice A l c], .pointer (some ⟨g, 0, none⟩)] w fun e w' => e = .returned (.bool (outE n (s, []))) ∧ Below w.heap.size w w' := by
  have hg2 : (w.alloc (.cells #[.int .i64 s, .slice A l c] 90)).cell? ⟨g, 0, none⟩ = some (.int .i64 n) := (World.cell?_alloc_lt _ _ _ (World.block_lt_of_cell? w _ hg)).trans hg
  have HB := As.mk (below_alloc (Below.refl w.heap.size w) (.cells #[.int .i64 s, .slice A l c] 90))
  clear hg
  by_cases h1 : s < 0
  · have d0 : decide (s < 0) = true := decide_eq_true h1
    have HR := As.mk (show outE n (s, []) = true by simp [outE, h1])
    clear h1
    go_enter Try.func185, Try.ntmps185
    go_wp2
    go_ret
    exact ⟨by rw [HR.out]; rfl, by first | exact HB.out | exact below_drewN HB.out 1⟩
  · have d0 : decide (s < 0) = false := decide_eq_false h1
    have HR := As.mk (show outE n (s, []) = decide (n ≤ s) by simp [outE, h1])
    clear h1
    go_enter Try.func185, Try.ntmps185
    go_wp2
    go_ret
    exact ⟨by rw [HR.out]; rfl, by first | exact HB.out | exact below_drewN HB.out 1⟩
/-- the first place of one that lies outside; none: minus one -/
def firstE (q : Int × List Int → Bool) : Nat → List (Int × List Int) → Int
  | _, [] => -1
  | i, e :: r => if q e = true then (i : Int) else firstE q (i + 1) r
theorem firstE_any (q : Int × List Int → Bool) : ∀ (es : List (Int × List Int)) (i : Nat), decide (0 ≤ firstE q i es) = es.any q
  | [], i => rfl
  | e :: r, i => by
    unfold firstE
    by_cases h : q e = true
    · simp [h]
    · simp [h, firstE_any q r (i + 1)]
theorem firstE_at (q : Int × List Int → Bool) : ∀ (es : List (Int × List Int)) (i j : Nat), j < es.length → (∀ k, k < j → q (nthE es k) = false) → q (nthE es j) = true → firstE q i es = ((i + j : Nat) : Int)
  | [], i, j, h, _, _ => by simp at h
  | e :: r, i, 0, _, _, h => by
    have h2 : q e = true := h
    rw [firstE, if_pos h2]
    rfl
  | e :: r, i, j + 1, hj, hn, h => by
    have h1 : q e = false := hn 0 (by omega)
    rw [firstE, if_neg (by rw [h1]; decide), firstE_at q r (i + 1) j (by simpa using hj) (fun k hk => hn (k + 1) (by omega)) h]
    congr 1
    omega
theorem firstE_none (q : Int × List Int → Bool) : ∀ (es : List (Int × List Int)) (i : Nat), (∀ k, k < es.length → q (nthE es k) = false) → firstE q i es = -1
  | [], i, _ => rfl
  | e :: r, i, h => by
    have h1 : q e = false := h 0 (by simp)
    rw [firstE, if_neg (by rw [h1]; decide)]
    exact firstE_none q r (i + 1) (fun k hk => h (k + 1) (by simpa using hk))
theorem infoEn : (Try.prog.info? 90).map (·.size) = some 2 := by kernel_rfl
set_option maxHeartbeats 1000000 in
set_option maxRecDepth 100000 in
theorem index_may (w : World) (sec : Int) (A : Option Addr) (n c g : Nat) (es : List (Int × List Int)) (hn : n ≤ 1000000) (h : RdE w A n c es) (hg : w.cell? ⟨g, 0, none⟩ = some (.int .i64 sec)) :
    Calls Try.prog 190 #[.slice A n c, .func (.func 185) #[] #[.pointer (some ⟨g, 0, none⟩)]] w fun e w' => e = .returned (.int .i64 (firstE (outE sec) 0 es)) ∧ Below w.heap.size w w' := by
  have HN := As.mk hn
  have H := As.mk h
  have HG := As.mk hg
  clear hn h hg
  go_enter Try.func190, Try.ntmps190
  go_wp2
  go_loopg [8] n (fun kq v8 wr => ∃ i : Nat, i + kq = n ∧ v8 = .int .i64 i ∧ As (∀ k, k < i → outE sec (nthE es k) = false) ∧ As (Below w.heap.size w wr))
  case atStart => exact ⟨0, by omega, rfl, ⟨fun k hk => by omega⟩, ⟨Below.refl _ _⟩⟩
  case round =>
    obtain ⟨i, hi, rfl, HK, HB⟩ := hrel
    have HI := As.mk hi
    clear hi
    by_cases hlt : i < n
    · have c0 : decide ((i : Int) < (n : Int)) = true := decide_eq_true (by omega)
      have c1 : decide (i < n) = true := decide_eq_true hlt
      have lt' : (i : Int) < (n : Int) := by omega
      have hw : wrap64 ((i : Int) + 1) = ((i + 1 : Nat) : Int) := wrap_up (by have := HN.out; omega)
      obtain ⟨ad, Aj, cj, ea, h1, h2, h3⟩ := (H.out.below HB.out).at i hlt
      cases ea
      obtain ⟨s, hs⟩ : ∃ s, s = (nthE es i).1 := ⟨_, rfl⟩
      obtain ⟨m, hm⟩ : ∃ m, m = (nthE es i).2.length := ⟨_, rfl⟩
      rw [← hs] at h1
      rw [← hm] at h2
      have hq : outE sec (s, []) = outE sec (nthE es i) := by rw [hs]; rfl
      have HQ := As.mk hq
      have H1 := As.mk h1
      have H2 := As.mk h2
      have HGW := As.mk ((HB.out.cell (World.block_lt_of_cell? w _ HG.out)).trans HG.out)
      have HLT := As.mk hlt
      clear h1 h2 h3 hs hm hq hlt
      go_wp2_with (first
        | (refine wpList_load_at rfl 90 (.tmp 14) rfl (ad.add (i * 2)) rfl [.int .i64 s, .slice Aj m cj] _ (fun j v hv => by rcases j with _ | _ | j <;> simp at hv <;> subst hv <;> rw [add_add] <;> first | exact H1.out | exact H2.out) Try.underlying90 rfl infoEn ?_)
        | (go_at_call 185; refine (may1_any wr s Aj m cj g sec HGW.out).mono ?_; rintro e w2 ⟨rfl, hb⟩; rw [HQ.out]; have HB2 := As.mk (below_step HB.out hb); clear hb; refine As.out ?_))
      refine As.mk ?_
      cases hq : outE sec (nthE es i) with
      | true =>
        have HF := As.mk (firstE_at (outE sec) es 0 i (by rw [H.out.len]; exact HLT.out) HK.out hq)
        clear hq
        go_wp2
        go_ret
        exact ⟨by rw [HF.out, Nat.zero_add]; rfl, HB2.out⟩
      | false =>
        have HQF := As.mk hq
        clear hq
        go_wp2
        go_roundg (n - (i + 1))
        case measure => have := HI.out; have := HLT.out; omega
        case rel =>
          refine ⟨i + 1, by have := HI.out; have := HLT.out; omega, by go_num, ⟨fun k hk => ?_⟩, HB2⟩
          rcases Nat.lt_succ_iff_lt_or_eq.1 hk with h | rfl
          · exact HK.out k h
          · exact HQF.out
    · have c0 : decide ((i : Int) < (n : Int)) = false := decide_eq_false (by omega)
      have c1 : decide (i < n) = false := decide_eq_false hlt
      have HF := As.mk (firstE_none (outE sec) es 0 (fun k hk => HK.out k (by have := H.out.len; omega)))
      clear hlt
      go_wp2
      go_ret
      exact ⟨by rw [HF.out]; rfl, HB.out⟩
set_option maxHeartbeats 1000000 in
set_option maxRecDepth 100000 in
theorem contains_may (w : World) (sec : Int) (A : Option Addr) (n c g : Nat) (es : List (Int × List Int)) (hn : n ≤ 1000000) (h : RdE w A n c es) (hg : w.cell? ⟨g, 0, none⟩ = some (.int .i64 sec)) :
    Calls Try.prog 124 #[.slice A n c, .func (.func 185) #[] #[.pointer (some ⟨g, 0, none⟩)]] w fun e w' => e = .returned (.bool (es.any (outE sec))) ∧ Below w.heap.size w w' := by
  have HN := As.mk hn
  have H := As.mk h
  have HG := As.mk hg
  have HF := As.mk (firstE_any (outE sec) es 0)
  clear hn h hg
  go_enter Try.func124, Try.ntmps124
  go_wp2_with (go_at_call 190; refine (index_may w sec A n c g es HN.out H.out HG.out).mono ?_; rintro e w2 ⟨rfl, hb⟩; have HB2 := As.mk hb; clear hb; refine As.out ?_)
  refine As.mk ?_
  obtain ⟨r, hr⟩ : ∃ r, r = firstE (outE sec) 0 es := ⟨_, rfl⟩
  rw [← hr] at HF ⊢
  clear hr
  go_wp2
  go_ret
  exact ⟨by rw [← HF.out]; rfl, HB2.out⟩
/-- what may answers -/
def mayF (sec : Int) (n : Nat) (es : List (Int × List Int)) : Int := if es.any (outE sec) = true then 41 else if 4096 < sec then 3 else if 4096 < n then 3 else 0
set_option maxHeartbeats 1000000 in
set_option maxRecDepth 100000 in
theorem may_any (w : World) (sec : Int) (A : Option Addr) (n c : Nat) (es : List (Int × List Int)) (hn : n ≤ 1000000) (h : RdE w A n c es) :
    Calls Try.prog 116 #[.int .i64 sec, .slice A n c] w fun e w' => e = .returned (.int .i64 (mayF sec n es)) ∧ Below w.heap.size w w' := by
  have HN := As.mk hn
  have HB0 := As.mk (below_alloc (Below.refl w.heap.size w) (.cells #[.int .i64 sec] 3))
  have H := As.mk (h.below HB0.out)
  have HG : As ((w.alloc (.cells #[.int .i64 sec] 3)).cell? ⟨w.heap.size, 0, none⟩ = some (.int .i64 sec)) := ⟨by rw [cell_of_row _ _ 0 _ _ _ (heap_alloc_new w (.cells #[.int .i64 sec] 3))]; rfl⟩
  clear hn h
  go_enter Try.func116, Try.ntmps116
  go_wp2_with (go_at_call 124; refine As.out ?_)
  refine As.mk ?_
  generalize w.alloc _ = w0 at *
  refine (contains_may w0 sec A n c w.heap.size es HN.out H.out HG.out).mono ?_
  rintro e w2 ⟨rfl, hb⟩
  have HB2 := As.mk (below_step HB0.out hb)
  have HG2 := (hb.cell (World.block_lt_of_cell? _ _ HG.out)).trans HG.out
  clear hb
  cases hq : es.any (outE sec) with
  | true =>
    have HM := As.mk (show mayF sec n es = 41 by rw [mayF, if_pos hq])
    clear hq
    go_wp2
    go_ret
    exact ⟨by rw [HM.out]; rfl, HB2.out⟩
  | false =>
    by_cases h1 : 4096 < sec
    · have d0 : decide (4096 < sec) = true := decide_eq_true h1
      have HM := As.mk (show mayF sec n es = 3 by rw [mayF, if_neg (by rw [hq]; decide), if_pos h1])
      clear hq h1
      go_wp2
      go_ret
      exact ⟨by rw [HM.out]; rfl, HB2.out⟩
    · have d0 : decide (4096 < sec) = false := decide_eq_false h1
      by_cases h2 : 4096 < n
      · have d1 : decide (4096 < n) = true := decide_eq_true h2
        have d2 : decide (4096 < (n : Int)) = true := decide_eq_true (by omega)
        have HM := As.mk (show mayF sec n es = 3 by rw [mayF, if_neg (by rw [hq]; decide), if_neg h1, if_pos h2])
        clear hq h1 h2
        go_wp2
        go_ret
        exact ⟨by rw [HM.out]; rfl, HB2.out⟩
      · have d1 : decide (4096 < n) = false := decide_eq_false h2
        have d2 : decide (4096 < (n : Int)) = false := decide_eq_false (by omega)
        have HM := As.mk (show mayF sec n es = 0 by rw [mayF, if_neg (by rw [hq]; decide), if_neg h1, if_neg h2])
        clear hq h1 h2
        go_wp2
        go_ret
        exact ⟨by rw [HM.out]; rfl, HB2.out⟩
end Go.Proofs.Yteajblfkfmopfaa.Entries
