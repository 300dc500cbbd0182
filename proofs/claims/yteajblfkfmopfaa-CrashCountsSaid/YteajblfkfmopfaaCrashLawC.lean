/- The statement CrashCounts. -/
import Derived.Test.YteajblfkfmopfaaCrashCount
namespace Go.Proofs.Yteajblfkfmopfaa.LawCrash
set_option linter.unusedVariables false
set_option linter.unusedSimpArgs false
open Go Go.RowKit Go.Maps Go.Proofs.Yteajblfkfmopfaa.Mem Go.Proofs.Yteajblfkfmopfaa.Put32 Go.Proofs.Yteajblfkfmopfaa.Sum Go.Proofs.Yteajblfkfmopfaa.Hmac Go.Proofs.Yteajblfkfmopfaa.Parts Go.Proofs.Yteajblfkfmopfaa.Entries Go.Proofs.Yteajblfkfmopfaa.CrashApply

theorem add_one (a : Addr) : a.add 1 = ⟨a.block, a.off + 1, none⟩ := by unfold Addr.add; simp
set_option maxHeartbeats 2000000 in
set_option maxRecDepth 100000 in
theorem same17_ok (w : World) (A B : Option Addr) (n c d : Nat) (es : List (Int × List Int)) (hn : n ≤ 1000000) (hl : ∀ i, i < n → (nthE es i).2.length ≤ 300) (h : RdE w A n c es) (g : RdE w B n d es) :
    Calls Try.prog 53 #[.slice A n c, .slice B n d] w fun e w' => e = .returned (.bool true) ∧ Below w.heap.size w w' := by
  have HN := As.mk hn
  have H := As.mk h
  have G := As.mk g
  have HLL := As.mk hl
  have e0 : ((n : Int) != (n : Int)) = false := by simp
  have e1 : ((n : Int) == (n : Int)) = true := by simp
  clear hn h g hl
  go_enter Try.func53, Try.ntmps53
  go_wp2
  go_loopg [5] n (fun kq v5 wr => ∃ i : Nat, i + kq = n ∧ v5 = .int .i64 (i : Int) ∧ As (Below w.heap.size w wr))
  case atStart => exact ⟨0, by omega, rfl, ⟨Below.refl _ _⟩⟩
  case round =>
    obtain ⟨i, hi, rfl, HB⟩ := hrel
    have HI := As.mk hi
    clear hi
    by_cases hlt : i < n
    · have c0 : decide ((i : Int) < (n : Int)) = true := decide_eq_true (by omega)
      have c1 : decide (i < n) = true := decide_eq_true hlt
      have lt' : (i : Int) < (n : Int) := by omega
      have hw : wrap64 ((i : Int) + 1) = ((i + 1 : Nat) : Int) := wrap_up (by have := HN.out; omega)
      obtain ⟨ad, Aj, cj, ea, h1, h2, h3⟩ := (H.out.below HB.out).at i hlt
      cases ea
      obtain ⟨bd, Bj, dj, ea, g1, g2, g3⟩ := (G.out.below HB.out).at i hlt
      cases ea
      have HLT := As.mk hlt
      have hm := HLL.out i hlt
      generalize (nthE es i) = e at *
      obtain ⟨x, b⟩ := e
      replace h1 : wr.cell? (ad.add (i * 2)) = some (.int .i64 x) := h1
      replace g1 : wr.cell? (bd.add (i * 2)) = some (.int .i64 x) := g1
      replace h2 : wr.cell? (ad.add (i * 2 + 1)) = some (.slice Aj b.length cj) := h2
      replace g2 : wr.cell? (bd.add (i * 2 + 1)) = some (.slice Bj b.length dj) := g2
      replace h3 : Rd .u8 wr Aj b.length cj b := h3
      replace g3 : Rd .u8 wr Bj b.length dj b := g3
      replace hm : b.length ≤ 300 := hm
      generalize b.length = m at *
      have h4 : wr.cell? ⟨(ad.add (i * 2)).block, (ad.add (i * 2)).off + 1, none⟩ = some (.slice Aj m cj) := by rw [← add_one, add_add]; exact h2
      have g4 : wr.cell? ⟨(bd.add (i * 2)).block, (bd.add (i * 2)).off + 1, none⟩ = some (.slice Bj m dj) := by rw [← add_one, add_add]; exact g2
      have HR1 := As.mk h3
      have HR2 := As.mk g3
      have HM := As.mk hm
      have x0 : (x != x) = false := by simp
      have x1 : (x == x) = true := by simp
      clear hlt h3 g3 h2 g2 hm
      go_wp2
      refine wp_region_held_drew (S := fun W : World => Below wr.heap.size wr W) (by kernel_rfl) (below_drewN (Below.refl _ _) 1) (fun hHeld => ?_)
      refine wpAnyH_take (i := 0) (v := .slice (some ad) n c) rfl (by kernel_rfl) (by kernel_rfl) (by kernel_rfl) (fun _ _ _ h => h) (Or.inl ⟨by rfl, fun W hW => by go_simp⟩) hHeld ?_
      try simp only [Act.put, List.setIfInBounds_toArray, List.set_cons_zero, List.set_cons_succ, List.getElem_toArray, List.getElem_cons_zero, List.getElem_cons_succ]
      refine wpAnyH_take (i := 1) (v := .int .i64 (i : Int)) rfl (by kernel_rfl) (by kernel_rfl) (by kernel_rfl) (fun _ _ _ h => h) (Or.inl ⟨by rfl, fun W hW => by go_simp⟩) hHeld ?_
      try simp only [Act.put, List.setIfInBounds_toArray, List.set_cons_zero, List.set_cons_succ, List.getElem_toArray, List.getElem_cons_zero, List.getElem_cons_succ]
      refine wpAnyH_take (i := 2) (v := .pointer (some (ad.add (i * 2)))) rfl (by kernel_rfl) (by kernel_rfl) (by kernel_rfl) (fun _ _ _ h => h) (Or.inl ⟨by rfl, fun W hW => by go_simp⟩) hHeld ?_
      try simp only [Act.put, List.setIfInBounds_toArray, List.set_cons_zero, List.set_cons_succ, List.getElem_toArray, List.getElem_cons_zero, List.getElem_cons_succ]
      refine wpAnyH_take (i := 3) (v := .pointer (some (ad.add (i * 2)))) rfl (by kernel_rfl) (by kernel_rfl) (by kernel_rfl) (fun _ _ _ h => h) (Or.inl ⟨by rfl, fun W hW => by go_simp⟩) hHeld ?_
      try simp only [Act.put, List.setIfInBounds_toArray, List.set_cons_zero, List.set_cons_succ, List.getElem_toArray, List.getElem_cons_zero, List.getElem_cons_succ]
      refine wpAnyH_take (i := 4) (v := .int .i64 x) rfl (by kernel_rfl) (by kernel_rfl) (by kernel_rfl) (fun _ _ _ h => h) (Or.inl ⟨by rfl, fun W hW => by (have q := cell_keep h1 hW; go_simp)⟩) hHeld ?_
      try simp only [Act.put, List.setIfInBounds_toArray, List.set_cons_zero, List.set_cons_succ, List.getElem_toArray, List.getElem_cons_zero, List.getElem_cons_succ]
      refine wpAnyH_take (i := 5) (v := .slice (some bd) n d) rfl (by kernel_rfl) (by kernel_rfl) (by kernel_rfl) (fun _ _ _ h => h) (Or.inl ⟨by rfl, fun W hW => by go_simp⟩) hHeld ?_
      try simp only [Act.put, List.setIfInBounds_toArray, List.set_cons_zero, List.set_cons_succ, List.getElem_toArray, List.getElem_cons_zero, List.getElem_cons_succ]
      refine wpAnyH_take (i := 6) (v := .int .i64 (i : Int)) rfl (by kernel_rfl) (by kernel_rfl) (by kernel_rfl) (fun _ _ _ h => h) (Or.inl ⟨by rfl, fun W hW => by go_simp⟩) hHeld ?_
      try simp only [Act.put, List.setIfInBounds_toArray, List.set_cons_zero, List.set_cons_succ, List.getElem_toArray, List.getElem_cons_zero, List.getElem_cons_succ]
      refine wpAnyH_take (i := 7) (v := .pointer (some (bd.add (i * 2)))) rfl (by kernel_rfl) (by kernel_rfl) (by kernel_rfl) (fun _ _ _ h => h) (Or.inl ⟨by rfl, fun W hW => by go_simp⟩) hHeld ?_
      try simp only [Act.put, List.setIfInBounds_toArray, List.set_cons_zero, List.set_cons_succ, List.getElem_toArray, List.getElem_cons_zero, List.getElem_cons_succ]
      refine wpAnyH_take (i := 8) (v := .pointer (some (bd.add (i * 2)))) rfl (by kernel_rfl) (by kernel_rfl) (by kernel_rfl) (fun _ _ _ h => h) (Or.inl ⟨by rfl, fun W hW => by go_simp⟩) hHeld ?_
      try simp only [Act.put, List.setIfInBounds_toArray, List.set_cons_zero, List.set_cons_succ, List.getElem_toArray, List.getElem_cons_zero, List.getElem_cons_succ]
      refine wpAnyH_take (i := 9) (v := .int .i64 x) rfl (by kernel_rfl) (by kernel_rfl) (by kernel_rfl) (fun _ _ _ h => h) (Or.inl ⟨by rfl, fun W hW => by (have q := cell_keep g1 hW; go_simp)⟩) hHeld ?_
      try simp only [Act.put, List.setIfInBounds_toArray, List.set_cons_zero, List.set_cons_succ, List.getElem_toArray, List.getElem_cons_zero, List.getElem_cons_succ]
      refine wpAnyH_take (i := 10) (v := .bool false) rfl (by kernel_rfl) (by kernel_rfl) (by kernel_rfl) (fun _ _ _ h => h) (Or.inl ⟨by rfl, fun W hW => by go_simp⟩) hHeld ?_
      try simp only [Act.put, List.setIfInBounds_toArray, List.set_cons_zero, List.set_cons_succ, List.getElem_toArray, List.getElem_cons_zero, List.getElem_cons_succ]
      refine wpAnyH_take (i := 11) (v := .bool false) rfl (by kernel_rfl) (by kernel_rfl) (by kernel_rfl) (fun _ _ _ h => h) (Or.inl ⟨by rfl, fun W hW => by go_simp⟩) hHeld ?_
      try simp only [Act.put, List.setIfInBounds_toArray, List.set_cons_zero, List.set_cons_succ, List.getElem_toArray, List.getElem_cons_zero, List.getElem_cons_succ]
      refine wpAnyH_take (i := 12) (v := .slice (some ad) n c) rfl (by kernel_rfl) (by kernel_rfl) (by kernel_rfl) (fun _ _ _ h => h) (Or.inl ⟨by rfl, fun W hW => by go_simp⟩) hHeld ?_
      try simp only [Act.put, List.setIfInBounds_toArray, List.set_cons_zero, List.set_cons_succ, List.getElem_toArray, List.getElem_cons_zero, List.getElem_cons_succ]
      refine wpAnyH_take (i := 13) (v := .int .i64 (i : Int)) rfl (by kernel_rfl) (by kernel_rfl) (by kernel_rfl) (fun _ _ _ h => h) (Or.inl ⟨by rfl, fun W hW => by go_simp⟩) hHeld ?_
      try simp only [Act.put, List.setIfInBounds_toArray, List.set_cons_zero, List.set_cons_succ, List.getElem_toArray, List.getElem_cons_zero, List.getElem_cons_succ]
      refine wpAnyH_take (i := 14) (v := .pointer (some (ad.add (i * 2)))) rfl (by kernel_rfl) (by kernel_rfl) (by kernel_rfl) (fun _ _ _ h => h) (Or.inl ⟨by rfl, fun W hW => by go_simp⟩) hHeld ?_
      try simp only [Act.put, List.setIfInBounds_toArray, List.set_cons_zero, List.set_cons_succ, List.getElem_toArray, List.getElem_cons_zero, List.getElem_cons_succ]
      refine wpAnyH_take (i := 15) (v := .pointer (some ⟨(ad.add (i * 2)).block, (ad.add (i * 2)).off + 1, none⟩)) rfl (by kernel_rfl) (by kernel_rfl) (by kernel_rfl) (fun _ _ _ h => h) (Or.inl ⟨by rfl, fun W hW => by go_simp⟩) hHeld ?_
      try simp only [Act.put, List.setIfInBounds_toArray, List.set_cons_zero, List.set_cons_succ, List.getElem_toArray, List.getElem_cons_zero, List.getElem_cons_succ]
      refine wpAnyH_take (i := 16) (v := .slice Aj m cj) rfl (by kernel_rfl) (by kernel_rfl) (by kernel_rfl) (fun _ _ _ h => h) (Or.inl ⟨by rfl, fun W hW => by (have q := cell_keep h4 hW; go_simp)⟩) hHeld ?_
      try simp only [Act.put, List.setIfInBounds_toArray, List.set_cons_zero, List.set_cons_succ, List.getElem_toArray, List.getElem_cons_zero, List.getElem_cons_succ]
      refine wpAnyH_take (i := 17) (v := .slice (some bd) n d) rfl (by kernel_rfl) (by kernel_rfl) (by kernel_rfl) (fun _ _ _ h => h) (Or.inl ⟨by rfl, fun W hW => by go_simp⟩) hHeld ?_
      try simp only [Act.put, List.setIfInBounds_toArray, List.set_cons_zero, List.set_cons_succ, List.getElem_toArray, List.getElem_cons_zero, List.getElem_cons_succ]
      refine wpAnyH_take (i := 18) (v := .int .i64 (i : Int)) rfl (by kernel_rfl) (by kernel_rfl) (by kernel_rfl) (fun _ _ _ h => h) (Or.inl ⟨by rfl, fun W hW => by go_simp⟩) hHeld ?_
      try simp only [Act.put, List.setIfInBounds_toArray, List.set_cons_zero, List.set_cons_succ, List.getElem_toArray, List.getElem_cons_zero, List.getElem_cons_succ]
      refine wpAnyH_take (i := 19) (v := .pointer (some (bd.add (i * 2)))) rfl (by kernel_rfl) (by kernel_rfl) (by kernel_rfl) (fun _ _ _ h => h) (Or.inl ⟨by rfl, fun W hW => by go_simp⟩) hHeld ?_
      try simp only [Act.put, List.setIfInBounds_toArray, List.set_cons_zero, List.set_cons_succ, List.getElem_toArray, List.getElem_cons_zero, List.getElem_cons_succ]
      refine wpAnyH_take (i := 20) (v := .pointer (some ⟨(bd.add (i * 2)).block, (bd.add (i * 2)).off + 1, none⟩)) rfl (by kernel_rfl) (by kernel_rfl) (by kernel_rfl) (fun _ _ _ h => h) (Or.inl ⟨by rfl, fun W hW => by go_simp⟩) hHeld ?_
      try simp only [Act.put, List.setIfInBounds_toArray, List.set_cons_zero, List.set_cons_succ, List.getElem_toArray, List.getElem_cons_zero, List.getElem_cons_succ]
      refine wpAnyH_take (i := 21) (v := .slice Bj m dj) rfl (by kernel_rfl) (by kernel_rfl) (by kernel_rfl) (fun _ _ _ h => h) (Or.inl ⟨by rfl, fun W hW => by (have q := cell_keep g4 hW; go_simp)⟩) hHeld ?_
      try simp only [Act.put, List.setIfInBounds_toArray, List.set_cons_zero, List.set_cons_succ, List.getElem_toArray, List.getElem_cons_zero, List.getElem_cons_succ]
      refine wpAnyH_ready (rs := [22]) (by kernel_rfl) (by simp) (AllReadyH.cons rfl (fun K' hK => ?_) AllReadyH.nil)
      go_simp
      refine (Go.Proofs.Yteajblfkfmopfaa.RefSame.same_any b b Aj Bj m m cj dj _ true (by have := HM.out; omega) (iff_of_true rfl rfl) (HR1.out.below hHeld) (HR2.out.below hHeld)).mono ?_
      rintro e wq ⟨rfl, nd, rfl⟩
      refine hK.out _ _ (below_drewN hHeld nd) (fun hHeld => ?_)
      clear hK
      try simp only [Act.put, List.setIfInBounds_toArray, List.set_cons_zero, List.set_cons_succ, List.getElem_toArray, List.getElem_cons_zero, List.getElem_cons_succ]
      refine wpAnyH_take (i := 23) (v := .bool false) rfl (by kernel_rfl) (by kernel_rfl) (by kernel_rfl) (fun _ _ _ h => h) (Or.inl ⟨by rfl, fun W hW => by go_simp⟩) hHeld ?_
      try simp only [Act.put, List.setIfInBounds_toArray, List.set_cons_zero, List.set_cons_succ, List.getElem_toArray, List.getElem_cons_zero, List.getElem_cons_succ]
      refine wpAnyH_take (i := 24) (v := .bool false) rfl (by kernel_rfl) (by kernel_rfl) (by kernel_rfl) (fun _ _ _ h => h) (Or.inl ⟨by rfl, fun W hW => by go_simp⟩) hHeld ?_
      try simp only [Act.put, List.setIfInBounds_toArray, List.set_cons_zero, List.set_cons_succ, List.getElem_toArray, List.getElem_cons_zero, List.getElem_cons_succ]
      refine wpAnyH_done (by kernel_rfl) ?_ _
      go_wp2
      go_roundg (n - (i + 1))
      case measure => have := HI.out; have := HLT.out; omega
      case rel => exact ⟨i + 1, by have := HI.out; have := HLT.out; omega, by go_num, ⟨below_drewN HB.out _⟩⟩
    · have c0 : decide ((i : Int) < (n : Int)) = false := decide_eq_false (by omega)
      have c1 : decide (i < n) = false := decide_eq_false hlt
      clear hlt
      go_wp2
      go_ret
      exact ⟨rfl, HB.out⟩

set_option maxHeartbeats 2000000 in
set_option maxRecDepth 100000 in
theorem count_bad (w : World) (sec : Int) (E : Option Addr) (m d : Nat) (es : List (Int × List Int)) (hm : m ≤ 1000000) (h1 : RdE w E m d es) (hr : mayF sec m es = 41) :
    Calls Try.prog 52 #[.int .i64 sec, .slice E m d] w fun e w' => e = .returned (.tuple #[.int .i64 0, .int .i64 41]) ∧ Below w.heap.size w w' := by
  have HM := As.mk hm
  have H1 := As.mk h1
  have HR := As.mk hr
  clear hm h1 hr
  go_enter Try.func52, Try.ntmps52
  go_wp2_with (go_at_call 116; (with_reducible refine (may_any w sec E m d es HM.out H1.out).mono ?_); rintro e w1 ⟨rfl, hb⟩; rw [HR.out]; have HB1 := As.mk hb; clear hb)
  go_ret2
  exact ⟨rfl, HB1.out⟩
/-- has none of the first k, ahead of the i-th, that number? -/
def firstB (es : List (Int × List Int)) (s : Int) (i : Nat) : Nat → Bool
  | 0 => true
  | k + 1 => if (nthE es k).1 = s then firstB es s i k && decide (i ≤ k) else firstB es s i k
def endB (es : List (Int × List Int)) (s : Int) (i : Nat) : Nat → Bool
  | 0 => true
  | k + 1 => if (nthE es k).1 = s then endB es s i k && decide (k ≤ i) else endB es s i k
theorem firstB_iff (es : List (Int × List Int)) (s : Int) (i : Nat) : ∀ k, firstB es s i k = true ↔ ∀ t, t < k → (nthE es t).1 = s → i ≤ t
  | 0 => by simp [firstB]
  | k + 1 => by
    rw [firstB]
    by_cases h : (nthE es k).1 = s
    · rw [if_pos h, Bool.and_eq_true, decide_eq_true_eq, firstB_iff es s i k]
      constructor
      · rintro ⟨h1, h2⟩ t ht he
        rcases Nat.lt_succ_iff_lt_or_eq.1 ht with h3 | rfl
        · exact h1 t h3 he
        · exact h2
      · exact fun h1 => ⟨fun t ht he => h1 t (by omega) he, h1 k (by omega) h⟩
    · rw [if_neg h, firstB_iff es s i k]
      constructor
      · intro h1 t ht he
        rcases Nat.lt_succ_iff_lt_or_eq.1 ht with h3 | rfl
        · exact h1 t h3 he
        · exact absurd he h
      · exact fun h1 t ht he => h1 t (by omega) he
theorem endB_iff (es : List (Int × List Int)) (s : Int) (i : Nat) : ∀ k, endB es s i k = true ↔ ∀ t, t < k → (nthE es t).1 = s → t ≤ i
  | 0 => by simp [endB]
  | k + 1 => by
    rw [endB]
    by_cases h : (nthE es k).1 = s
    · rw [if_pos h, Bool.and_eq_true, decide_eq_true_eq, endB_iff es s i k]
      constructor
      · rintro ⟨h1, h2⟩ t ht he
        rcases Nat.lt_succ_iff_lt_or_eq.1 ht with h3 | rfl
        · exact h1 t h3 he
        · exact h2
      · exact fun h1 => ⟨fun t ht he => h1 t (by omega) he, h1 k (by omega) h⟩
    · rw [if_neg h, endB_iff es s i k]
      constructor
      · intro h1 t ht he
        rcases Nat.lt_succ_iff_lt_or_eq.1 ht with h3 | rfl
        · exact h1 t h3 he
        · exact absurd he h
      · exact fun h1 t ht he => h1 t (by omega) he
theorem secs_get {es : List (Int × List Int)} {t : Nat} (h : t < es.length) : (secs es)[t]'(by simpa using h) = (nthE es t).1 := by
  simp [secs, nthE, List.getD_eq_getElem?_getD, List.getElem?_eq_getElem h]
theorem firstB_mem (es : List (Int × List Int)) (i : Nat) (s : Int) (hi : i < es.length) : firstB es s i es.length = true ↔ s ∉ dist ((secs es).take i) := by
  rw [firstB_iff, mem_dist]
  constructor
  · intro h hm
    obtain ⟨t, ht, he⟩ := List.mem_iff_getElem.1 hm
    rw [List.length_take] at ht
    rw [List.getElem_take, secs_get (by omega)] at he
    have := h t (by omega) he
    omega
  · intro h t ht he
    rcases Nat.lt_or_ge t i with h1 | h1
    · refine absurd ?_ h
      rw [List.mem_iff_getElem]
      refine ⟨t, by rw [List.length_take]; simp; omega, ?_⟩
      rw [List.getElem_take, secs_get ht]
      exact he
    · exact h1
theorem endB_any (es : List (Int × List Int)) (i : Nat) (s : Int) (hi : i < es.length) : endB es s i es.length = !((es.drop (i + 1)).any (eqE s)) := by
  rw [Bool.eq_iff_iff, endB_iff, Bool.not_eq_true', List.any_eq_false]
  constructor
  · intro h e hm he
    obtain ⟨t, ht, rfl⟩ := List.mem_iff_getElem.1 hm
    rw [List.length_drop] at ht
    rw [List.getElem_drop] at he
    have h1 := h (i + 1 + t) (by omega) (by
      have : (nthE es (i + 1 + t)) = es[i + 1 + t] := by simp [nthE, List.getD_eq_getElem?_getD, List.getElem?_eq_getElem (show i + 1 + t < es.length by omega)]
      rw [this]
      unfold eqE at he
      simpa using he)
    omega
  · intro h t ht he
    rcases Nat.lt_or_ge i t with h1 | h1
    · refine absurd ?_ (h (nthE es t) ?_)
      · unfold eqE
        simpa using he
      · rw [List.mem_iff_getElem]
        refine ⟨t - (i + 1), by rw [List.length_drop]; omega, ?_⟩
        rw [List.getElem_drop]
        simp [nthE, List.getD_eq_getElem?_getD, List.getElem?_eq_getElem ht, show i + 1 + (t - (i + 1)) = t by omega]
    · exact h1
/-- the ways of the first ones -/
def wantT (l : List Int) (i : Nat) : Nat := prodF (waysF l) (fun _ => true) (dist (l.take i))
theorem wantT_succ (l : List Int) (i : Nat) (s : Int) (h : l.take (i + 1) = l.take i ++ [s]) : wantT l (i + 1) = if s ∈ dist (l.take i) then wantT l i else wantT l i * waysF l s := by
  unfold wantT
  rw [h, dist_snoc]
  by_cases hm : s ∈ dist (l.take i)
  · rw [if_pos hm, if_pos hm]
  · rw [if_neg hm, if_neg hm, prodF_app, if_pos rfl]
theorem wantT_mono (l : List Int) (i : Nat) : wantT l i ≤ wantT l (i + 1) := by
  rcases Nat.lt_or_ge i l.length with h | h
  · rw [wantT_succ l i l[i] (List.take_succ_eq_append_getElem h)]
    split
    · exact Nat.le_refl _
    · exact Nat.le_mul_of_pos_right _ (by unfold waysF; omega)
  · have e1 : l.take i = l := List.take_of_length_le h
    have e2 : l.take (i + 1) = l := List.take_of_length_le (by omega)
    unfold wantT
    rw [e1, e2]
    exact Nat.le_refl _
theorem wantT_le (l : List Int) (i : Nat) : ∀ k, wantT l i ≤ wantT l (i + k)
  | 0 => Nat.le_refl _
  | k + 1 => Nat.le_trans (wantT_le l i k) (wantT_mono l (i + k))
theorem wantT_all (l : List Int) (m : Nat) (h : l.length ≤ m) : wantT l m = wantN l := by
  unfold wantT wantN
  rw [List.take_of_length_le h]
set_option maxHeartbeats 2000000 in
set_option maxRecDepth 100000 in
theorem counts_few (w : World) (sec : Int) (E : Option Addr) (m d : Nat) (es : List (Int × List Int)) (hm : m ≤ 9223372036854775807) (h1 : RdE w E m d es) (hf : few34 [] es = false) :
    Calls Try.prog 9 #[.int .i64 sec, .slice E m d] w fun e w' => e = .returned (.bool true) ∧ Below w.heap.size w w' := by
  have HM := As.mk hm
  have H1 := As.mk h1
  have HF := As.mk hf
  clear hm h1 hf
  go_enter Try.func9, Try.ntmps9
  go_wp2_with (first
    | (go_at_call 43; (with_reducible refine (awake_true _).mono ?_); rintro e w1 ⟨rfl, hb⟩; have HB1 := As.mk hb; clear hb)
    | (go_at_call 44; (with_reducible refine (few34_any w1 none E 0 0 m d [] es (by omega) HM.out ⟨rfl, Nat.le_refl _, by unfold maxLen; omega, fun h => by omega⟩ (H1.out.below HB1.out) false HF.out).mono ?_); rintro e w2 ⟨rfl, hb⟩; have HB2 := As.mk (below_step HB1.out hb); clear hb))
  go_ret
  exact ⟨rfl, HB2.out⟩
set_option maxHeartbeats 2000000 in
set_option maxRecDepth 100000 in
theorem counts_out (w : World) (sec : Int) (E : Option Addr) (m d : Nat) (es : List (Int × List Int)) (hm : m ≤ 14) (h1 : RdE w E m d es) (hf : few34 [] es = true) (hr : mayF sec m es = 41) (hw : (!(es.any (outE sec))) = false) :
    Calls Try.prog 9 #[.int .i64 sec, .slice E m d] w fun e w' => e = .returned (.bool true) ∧ Below w.heap.size w w' := by
  have HM := As.mk hm
  have H1 := As.mk h1
  have HF := As.mk hf
  have HR := As.mk hr
  have HW := As.mk hw
  clear hm h1 hf hr hw
  go_enter Try.func9, Try.ntmps9
  go_wp2_with (first
    | (go_at_call 43; (with_reducible refine (awake_true _).mono ?_); rintro e w1 ⟨rfl, hb⟩; have HB1 := As.mk hb; clear hb)
    | (go_at_call 44; (with_reducible refine (few34_any w1 none E 0 0 m d [] es (by omega) (by have := HM.out; omega) ⟨rfl, Nat.le_refl _, by unfold maxLen; omega, fun h => by omega⟩ (H1.out.below HB1.out) true HF.out).mono ?_); rintro e w2 ⟨rfl, hb⟩; have HB2 := As.mk (below_step HB1.out hb); clear hb)
    | (go_at_call 52; (with_reducible refine (count_bad w2 sec E m d es (by have := HM.out; omega) (H1.out.below HB2.out) HR.out).mono ?_); rintro e w3 ⟨rfl, hb⟩; have HB3 := As.mk (below_step HB2.out hb); clear hb)
    | (go_at_call 46; (with_reducible refine (within_any w3 sec E m d es (by have := HM.out; omega) (H1.out.below HB3.out)).mono ?_); rintro e w4 ⟨rfl, hb⟩; rw [HW.out]; have HB4 := As.mk (below_step HB3.out hb); clear hb))
  go_ret
  exact ⟨rfl, HB4.out⟩
set_option maxHeartbeats 4000000 in
set_option maxRecDepth 100000 in
theorem counts_in (w : World) (sec : Int) (E : Option Addr) (m d : Nat) (es : List (Int × List Int)) (hm : m ≤ 14) (hsec : sec ≤ 9223372036854775807) (h1 : RdE w E m d es) (hf : few34 [] es = true) (r : Int) (hr : mayF sec m es = r) (hne : ¬ r = 41) (hw : (!(es.any (outE sec))) = true) (hin : ∀ j, j < m → 0 ≤ (nthE es j).1 ∧ (nthE es j).1 < sec) (hle : ∀ i, i < m → (nthE es i).2.length ≤ 300) :
    Calls Try.prog 9 #[.int .i64 sec, .slice E m d] w fun e w' => e = .returned (.bool true) ∧ Below w.heap.size w w' := by
  have HM := As.mk hm
  have HSEC := As.mk hsec
  have H1 := As.mk h1
  have HF := As.mk hf
  have HR := As.mk hr
  have HRN := As.mk hne
  have HW := As.mk hw
  have HIN := As.mk hin
  have HLE := As.mk hle
  obtain ⟨l, hl⟩ : ∃ l, l = secs es := ⟨_, rfl⟩
  have HL := As.mk hl
  have HLL := As.mk (show l.length = m by rw [hl, List.length_map]; exact h1.len)
  have HEL := As.mk h1.len
  have HSN := As.mk (show ∀ i, i < m → l.take (i + 1) = l.take i ++ [(nthE es i).1] from fun i hi => by rw [hl]; exact nthE_sec (by rw [h1.len]; exact hi))
  have HWT := As.mk (show ∀ i, i ≤ m → wantT l i ≤ 16384 from fun i hi => by
    have h2 := wantT_le l i (m - i)
    rw [show i + (m - i) = m by omega, wantT_all l m (by rw [hl, List.length_map, h1.len]; exact Nat.le_refl _)] at h2
    refine Nat.le_trans h2 (Nat.le_trans (want_le l) ?_)
    rw [hl, List.length_map, h1.len]
    exact two14 m hm)
  clear hm hsec h1 hf hr hne hw hin hle hl
  go_enter Try.func9, Try.ntmps9
  go_wp2_with (first
    | (go_at_call 43; (with_reducible refine (awake_true _).mono ?_); rintro e w1 ⟨rfl, hb⟩; have HB1 := As.mk hb; clear hb)
    | (go_at_call 44; (with_reducible refine (few34_any w1 none E 0 0 m d [] es (by omega) (by have := HM.out; omega) ⟨rfl, Nat.le_refl _, by unfold maxLen; omega, fun h => by omega⟩ (H1.out.below HB1.out) true HF.out).mono ?_); rintro e w2 ⟨rfl, hb⟩; have HB2 := As.mk (below_step HB1.out hb); clear hb)
    | (go_at_call 52; (with_reducible refine (count_ok w2 sec E m d es HM.out HSEC.out (H1.out.below HB2.out) HIN.out r HR.out HRN.out).mono ?_); rintro e w3 ⟨rfl, hb⟩; rw [← HL.out]; have HB3 := As.mk (below_step HB2.out hb); clear hb)
    | (go_at_call 46; (with_reducible refine (within_any w3 sec E m d es (by have := HM.out; omega) (H1.out.below HB3.out)).mono ?_); rintro e wA ⟨rfl, hb⟩; rw [HW.out]; have HBA := As.mk (below_step HB3.out hb); clear hb))
  have H1A := As.mk (H1.out.below HBA.out)
  clear H1 HB1 HB2 HB3
  go_loopg [7, 8, 39] m (fun kq v7 v8 v39 wr => ∃ (i o k cv : Nat) (Av : Option Addr) (xs : List Value), i + kq = m ∧ v39 = .int .i64 (i : Int) ∧ v7 = .int .i64 (o : Int) ∧ v8 = .slice Av k cv ∧ As (o = wantT l i) ∧ As (EntsO wA wr wA.heap.size (.slice Av k cv) k xs (lastF es i)) ∧ As (Below wA.heap.size wA wr))
  case atStart => exact ⟨0, 1, 0, 0, none, [], by omega, rfl, rfl, rfl, ⟨by simp [wantT, dist, distF, prodF]⟩, ⟨EntsO.nil _ _ _⟩, ⟨Below.refl _ _⟩⟩
  case round =>
    obtain ⟨i, o, k, cv, Av, xs, hi, rfl, rfl, rfl, HO, HE, HB⟩ := hrel
    have HI := As.mk hi
    clear hi
    by_cases hlt : i < m
    · have c0 : decide ((i : Int) < (m : Int)) = true := decide_eq_true (by omega)
      have c1 : decide (i < m) = true := decide_eq_true hlt
      have lt' : (i : Int) < (m : Int) := by omega
      have HWU := As.mk (show wrap64 ((i : Int) + 1) = ((i + 1 : Nat) : Int) from wrap_up (by have := HM.out; omega))
      obtain ⟨ad, Aj, cj, ea, h1, h2, h3⟩ := H1A.out.at i hlt
      cases ea
      have h1r := cell_keep h1 HB.out
      have h2r := cell_keep h2 HB.out
      have HKL := As.mk (show k ≤ i by rw [← HE.out.len]; exact lastF_le es i)
      have HSI := As.mk (HSN.out i hlt)
      have HLS := As.mk (show lastF es (i + 1) = if ((es.drop (i + 1)).any (eqE (nthE es i).1)) = true then lastF es i else lastF es i ++ [nthE es i] from rfl)
      have HFM := As.mk (firstB_mem es i (nthE es i).1 (by rw [HEL.out]; exact hlt))
      have HEM := As.mk (endB_any es i (nthE es i).1 (by rw [HEL.out]; exact hlt))
      have HOL := As.mk (show o ≤ 16384 by rw [HO.out]; exact HWT.out i (by omega))
      have HON := As.mk (HWT.out (i + 1) (by omega))
      obtain ⟨e, he⟩ : ∃ e, e = nthE es i := ⟨_, rfl⟩
      obtain ⟨s, hs⟩ : ∃ s, s = e.1 := ⟨_, rfl⟩
      obtain ⟨q, hq⟩ : ∃ q, q = e.2 := ⟨_, rfl⟩
      obtain ⟨ll, hll⟩ : ∃ ll, ll = q.length := ⟨_, rfl⟩
      have hee : e = (s, q) := by rw [hs, hq]
      rw [← he] at h1 h2 h3 h1r h2r HSI HLS HFM HEM
      rw [hee] at h1 h2 h3 h1r h2r HSI HLS HFM HEM
      simp only [← hll] at h1 h2 h3 h1r h2r
      rw [HEL.out, ← HL.out] at HFM
      rw [HEL.out] at HEM
      have HWS := As.mk (wantT_succ l i s HSI.out)
      have H1c := As.mk h1r
      have H2c := As.mk h2r
      have H3c := As.mk h3
      have HLQ := As.mk hll
      have HLT := As.mk hlt
      have hba := below_alloc (Below.refl wr.heap.size wr) (.cells #[.int .i64 s, .slice Aj ll cj] 90)
      have hvw := heap_alloc_new wr (.cells #[.int .i64 s, .slice Aj ll cj] 90)
      obtain ⟨wb, hwb⟩ : ∃ wb, wr.alloc (.cells #[.int .i64 s, .slice Aj ll cj] 90) = wb := ⟨_, rfl⟩
      obtain ⟨g, hg⟩ : ∃ g, wr.heap.size = g := ⟨_, rfl⟩
      rw [hwb] at hba hvw
      rw [hg] at hvw
      have HWB := As.mk hwb
      have HG := As.mk hg
      have HV := As.mk hvw
      have HBb := As.mk (HB.out.trans (hba.mono HB.out.size))
      have HEb := As.mk (HE.out.below hba)
      clear h1 h2 h3 h1r h2r hee he hs hq hll hlt hba hvw hwb hg HE HB
      go_upto_region 13 with (refine wpList_load_at rfl 90 (.tmp 42) rfl (ad.add (i * 2)) rfl [.int .i64 s, .slice Aj ll cj] _ (fun j v hv => by rcases j with _ | _ | j <;> simp at hv <;> subst hv <;> rw [add_add] <;> first | exact H1c.out | exact H2c.out) Try.underlying90 rfl infoEn ?_)
      rw [HWB.out, HG.out]
      go_wp2
      go_loopg [11, 12, 13, 46] m (fun kq v11 v12 v13 v46 wr => ∃ (t c : Nat) (b1 b2 : Bool), t + kq = m ∧ v46 = .int .i64 (t : Int) ∧ v11 = .int .i64 (c : Int) ∧ v12 = .bool b1 ∧ v13 = .bool b2 ∧ As (c = (l.take t).count s) ∧ As (b1 = firstB es s i t) ∧ As (b2 = endB es s i t) ∧ As (Below wb.heap.size wb wr))
      case atStart => exact ⟨0, 0, true, true, by omega, rfl, rfl, rfl, rfl, ⟨by simp⟩, ⟨rfl⟩, ⟨rfl⟩, ⟨Below.refl _ _⟩⟩
      case round =>
        obtain ⟨t, c, b1, b2, ht, rfl, rfl, rfl, rfl, HC, HB1, HB2, HBt⟩ := hrel
        have HT := As.mk ht
        clear ht
        by_cases hlt : t < m
        · have e0 : decide ((t : Int) < (m : Int)) = true := decide_eq_true (by omega)
          have e1 : decide (t < m) = true := decide_eq_true hlt
          have lt2 : (t : Int) < (m : Int) := by omega
          have HWU2 := As.mk (show wrap64 ((t : Int) + 1) = ((t + 1 : Nat) : Int) from wrap_up (by have := HM.out; omega))
          have HCL := As.mk (show c ≤ t by rw [HC.out]; refine Nat.le_trans List.count_le_length ?_; rw [List.length_take]; omega)
          have HWU3 := As.mk (show wrap64 ((c : Int) + 1) = ((c + 1 : Nat) : Int) from wrap_up (by have := HM.out; have := HCL.out; omega))
          obtain ⟨ad', Ak, ck, ea, h1, h2, h3⟩ := H1A.out.at t hlt
          cases ea
          have HBw := As.mk (HBb.out.trans (HBt.out.mono HBb.out.size))
          have h1r := cell_keep h1 HBw.out
          have h2r := cell_keep h2 HBw.out
          have HST := As.mk (HSN.out t hlt)
          have HF1 := As.mk (show firstB es s i (t + 1) = if (nthE es t).1 = s then firstB es s i t && decide (i ≤ t) else firstB es s i t from rfl)
          have HF2 := As.mk (show endB es s i (t + 1) = if (nthE es t).1 = s then endB es s i t && decide (t ≤ i) else endB es s i t from rfl)
          rw [← HB1.out] at HF1
          rw [← HB2.out] at HF2
          obtain ⟨y, hy⟩ : ∃ y, y = (nthE es t).1 := ⟨_, rfl⟩
          obtain ⟨lk, hlk⟩ : ∃ lk, lk = (nthE es t).2.length := ⟨_, rfl⟩
          rw [← hy] at h1r HST HF1 HF2
          rw [← hlk] at h2r
          have K1 := As.mk h1r
          have K2 := As.mk h2r
          have HVt := (HBt.out.block _ (Array.getElem?_eq_some_iff.1 HV.out).1).trans HV.out
          have hb2 := below_alloc (Below.refl wr.heap.size wr) (.cells #[.int .i64 y, .slice Ak lk ck] 90)
          have hv2 := heap_alloc_new wr (.cells #[.int .i64 y, .slice Ak lk ck] 90)
          have HVt2 := (hb2.block _ (Array.getElem?_eq_some_iff.1 HVt).1).trans HVt
          obtain ⟨wc, hwc⟩ : ∃ wc, wr.alloc (.cells #[.int .i64 y, .slice Ak lk ck] 90) = wc := ⟨_, rfl⟩
          obtain ⟨g2, hg2⟩ : ∃ g2, wr.heap.size = g2 := ⟨_, rfl⟩
          rw [hwc] at hb2 hv2 HVt2
          rw [hg2] at hv2
          have p0 : wc.cell? ⟨g, 0, none⟩ = some (.int .i64 s) := by rw [cell_of_row _ _ 0 _ _ _ HVt2]; rfl
          have p1 : wc.cell? ⟨g2, 0, none⟩ = some (.int .i64 y) := by rw [cell_of_row _ _ 0 _ _ _ hv2]; rfl
          have HBn := As.mk (HBt.out.trans (hb2.mono HBt.out.size))
          have HWC := As.mk hwc
          have HG2 := As.mk hg2
          have HLT2 := As.mk hlt
          clear h1 h2 h3 h1r h2r hlt hy hlk hb2 hv2 HVt HVt2 hwc hg2 HB1 HB2 HBt HBw
          go_upto_region 17 with (refine wpList_load_at rfl 90 (.tmp 49) rfl (ad.add (t * 2)) rfl [.int .i64 y, .slice Ak lk ck] _ (fun j v hv => by rcases j with _ | _ | j <;> simp at hv <;> subst hv <;> rw [add_add] <;> first | exact K1.out | exact K2.out) Try.underlying90 rfl infoEn ?_)
          rw [HWC.out, HG2.out]
          have hw2 := HWU2.out
          by_cases hys : y = s
          · subst hys
            have HCN := As.mk (show c + 1 = (l.take (t + 1)).count y by rw [HST.out, List.count_append, List.count_singleton, HC.out]; simp)
            have x0 : (y == y) = true := by simp
            have hw3 := HWU3.out
            cases b1 <;> cases b2
            all_goals
              go_wp2
              go_roundg (m - (t + 1))
              case measure => have := HT.out; have := HLT2.out; omega
              case rel => exact ⟨t + 1, c + 1, _, _, by have := HT.out; have := HLT2.out; omega, by go_num, by go_num, rfl, rfl, HCN, ⟨by rw [HF1.out]; simp⟩, ⟨by rw [HF2.out]; simp⟩, HBn⟩
          · have HCN := As.mk (show c = (l.take (t + 1)).count s by rw [HST.out, List.count_append, List.count_singleton, HC.out, if_neg (by simpa using hys)]; rfl)
            have x0 : (y == s) = false := beq_eq_false_iff_ne.2 hys
            have HYS := As.mk hys
            clear hys
            go_wp2
            go_roundg (m - (t + 1))
            case measure => have := HT.out; have := HLT2.out; omega
            case rel => exact ⟨t + 1, c, b1, b2, by have := HT.out; have := HLT2.out; omega, by go_num, rfl, rfl, rfl, HCN, ⟨by rw [HF1.out, if_neg HYS.out]⟩, ⟨by rw [HF2.out, if_neg HYS.out]⟩, HBn⟩
        · have e0 : decide ((t : Int) < (m : Int)) = false := decide_eq_false (by omega)
          have e1 : decide (t < m) = false := decide_eq_false hlt
          obtain rfl : m = t := by have := HT.out; omega
          have HCW := As.mk (show waysF l s = c + 1 by unfold waysF; rw [HC.out, List.take_of_length_le (Nat.le_of_eq HLL.out)])
          rw [← HB1.out] at HFM
          rw [← HB2.out] at HEM
          have HBw := As.mk (HBb.out.trans (HBt.out.mono HBb.out.size))
          have HE2 := As.mk (HEb.out.below HBt.out)
          have HVt := (HBt.out.block _ (Array.getElem?_eq_some_iff.1 HV.out).1).trans HV.out
          have p0 : wr.cell? ⟨g, 0, none⟩ = some (.int .i64 s) := by rw [cell_of_row _ _ 0 _ _ _ HVt]; rfl
          have p1 : wr.cell? ⟨g, 1, none⟩ = some (.slice Aj ll cj) := by rw [cell_of_row _ _ 1 _ _ _ HVt]; rfl
          have hn : b1 = true → s ∉ dist (l.take i) := fun h => HFM.out.1 h
          have hy : b1 = false → s ∈ dist (l.take i) := fun h => Classical.byContradiction fun h2 => by rw [HFM.out.2 h2] at h; cases h
          have hok : b1 = true → wantT l (i + 1) = o * (c + 1) := fun h => by rw [HWS.out, if_neg (hn h), ← HO.out, HCW.out]
          have hno : b1 = false → wantT l (i + 1) = o := fun h => by rw [HWS.out, if_pos (hy h), ← HO.out]
          have HM3 : b1 = true → As (wrap64 ((o : Int) * ((c : Int) + 1)) = ((o * (c + 1) : Nat) : Int)) := fun h => ⟨by
            have h4 := HON.out
            rw [hok h] at h4
            have h5 : ((o : Int) * ((c : Int) + 1)) = ((o * (c + 1) : Nat) : Int) := by rw [Int.natCast_mul]; rfl
            rw [h5]
            unfold wrap64
            omega⟩
          have hcl : c ≤ m := by rw [HC.out]; refine Nat.le_trans List.count_le_length ?_; rw [List.length_take]; omega
          have HW3 := As.mk (show wrap64 ((c : Int) + 1) = (c : Int) + 1 by have := HM.out; unfold wrap64; omega)
          have HW4 := As.mk (show wrap64 ((c : Int) + 1) = ((c + 1 : Nat) : Int) from HW3.out)
          have HOK := As.mk hok
          have HNO := As.mk hno
          have HA1 := As.mk (show k + 1 ≤ maxLen by have := HKL.out; have := HM.out; have := HLT.out; unfold maxLen; omega)
          have HA2 := As.mk (show (k + 1) * 32 ≤ 140737488355328 by have := HKL.out; have := HM.out; have := HLT.out; omega)
          clear hlt HVt hn hy hok hno hcl HT HB1 HB2 HC
          have hw := HWU.out
          cases b1 with
          | true =>
            have hm3 := (HM3 rfl).out
            have hw3 := HW3.out
            have HO5 := As.mk (HOK.out rfl)
            clear HM3
            cases b2 with
            | true =>
              have HLF := As.mk (HLS.out.trans (if_neg (by have := HEM.out; simp at this; simpa using this)))
              go_wp2_with (at_builtin; refine Go.Proofs.Yteajblfkfmopfaa.Mem.wpList_app rfl (.tmp 77) (.tmp 79) 73 rfl wA.heap.size 90 (.agg #[.int .i64 0, .slice none 0 0]) 2 32 Try.underlying73 infoEn2 (by rfl) (by decide) _ k xs rfl (own_below HE2.out.own (below_alloc (Below.refl _ _) _)) _ 1 [.int .i64 s, .slice Aj ll cj] rfl (src_two (heap_alloc_new _ _) rfl rfl) ?b1 ?b2 ?b3 (HB := HBw.out.alloc HBw.out.size _) (Nat.le_refl _) ?_; (case b1 => exact HA1.out); (case b2 => exact HA2.out); (case b3 => have := HBw.out.size; simp; omega); intro v' w5 hown hg hat hb; obtain ⟨A5, c5, rfl⟩ := own_slice hown; have HE5 := As.mk (EntsO.app HE2.out HLQ.out H3c.out hown); have HB5 := As.mk hb; clear hown hg hat hb)
              go_roundg (m - (i + 1))
              case measure => have := HI.out; have := HLT.out; omega
              case rel => exact ⟨i + 1, o * (c + 1), k + 1, c5, A5, _, by have := HI.out; have := HLT.out; omega, by go_num, by first | rw [hm3] | rfl | (rw [Int.natCast_mul]; rfl), rfl, ⟨HO5.out.symm⟩, ⟨by rw [HLF.out]; exact HE5.out⟩, HB5⟩
            | false =>
              have HLF := As.mk (HLS.out.trans (if_pos (by have := HEM.out; simp at this; simpa using this)))
              go_wp2
              go_roundg (m - (i + 1))
              case measure => have := HI.out; have := HLT.out; omega
              case rel => exact ⟨i + 1, o * (c + 1), k, cv, Av, xs, by have := HI.out; have := HLT.out; omega, by go_num, by first | rw [hm3] | rfl | (rw [Int.natCast_mul]; rfl), rfl, ⟨HO5.out.symm⟩, ⟨by rw [HLF.out]; exact HE2.out⟩, HBw⟩
          | false =>
            have HO5 := As.mk (HNO.out rfl)
            clear HM3
            cases b2 with
            | true =>
              have HLF := As.mk (HLS.out.trans (if_neg (by have := HEM.out; simp at this; simpa using this)))
              go_wp2_with (at_builtin; refine Go.Proofs.Yteajblfkfmopfaa.Mem.wpList_app rfl (.tmp 77) (.tmp 79) 73 rfl wA.heap.size 90 (.agg #[.int .i64 0, .slice none 0 0]) 2 32 Try.underlying73 infoEn2 (by rfl) (by decide) _ k xs rfl (own_below HE2.out.own (below_alloc (Below.refl _ _) _)) _ 1 [.int .i64 s, .slice Aj ll cj] rfl (src_two (heap_alloc_new _ _) rfl rfl) ?b1 ?b2 ?b3 (HB := HBw.out.alloc HBw.out.size _) (Nat.le_refl _) ?_; (case b1 => exact HA1.out); (case b2 => exact HA2.out); (case b3 => have := HBw.out.size; simp; omega); intro v' w5 hown hg hat hb; obtain ⟨A5, c5, rfl⟩ := own_slice hown; have HE5 := As.mk (EntsO.app HE2.out HLQ.out H3c.out hown); have HB5 := As.mk hb; clear hown hg hat hb)
              go_roundg (m - (i + 1))
              case measure => have := HI.out; have := HLT.out; omega
              case rel => exact ⟨i + 1, o, k + 1, c5, A5, _, by have := HI.out; have := HLT.out; omega, by go_num, rfl, rfl, ⟨HO5.out.symm⟩, ⟨by rw [HLF.out]; exact HE5.out⟩, HB5⟩
            | false =>
              have HLF := As.mk (HLS.out.trans (if_pos (by have := HEM.out; simp at this; simpa using this)))
              go_wp2
              go_roundg (m - (i + 1))
              case measure => have := HI.out; have := HLT.out; omega
              case rel => exact ⟨i + 1, o, k, cv, Av, xs, by have := HI.out; have := HLT.out; omega, by go_num, rfl, rfl, ⟨HO5.out.symm⟩, ⟨by rw [HLF.out]; exact HE2.out⟩, HBw⟩
    · have c0 : decide ((i : Int) < (m : Int)) = false := decide_eq_false (by omega)
      have c1 : decide (i < m) = false := decide_eq_false hlt
      obtain rfl : m = i := by have := HI.out; omega
      have HWN := As.mk (show wantN l = o by rw [HO.out]; exact (wantT_all l m (Nat.le_of_eq HLL.out)).symm)
      have HEO := As.mk (HE.out.rde HB.out)
      have HKL := As.mk (show k ≤ m by rw [← HE.out.len]; exact lastF_le es m)
      have HLN := As.mk (show ∀ i, i < k → (nthE (lastF es m) i).2.length ≤ 300 from fun i hi => by
        have hmem : ∀ t, t ≤ m → ∀ e ∈ lastF es t, e.2.length ≤ 300 := by
          intro t
          induction t with
          | zero => intro _ e he; cases he
          | succ t ih =>
            intro ht e he
            rw [lastF] at he
            split at he
            · exact ih (by omega) e he
            · rcases List.mem_append.1 he with h2 | h2
              · exact ih (by omega) e h2
              · rw [List.mem_singleton.1 h2]; exact HLE.out t (by omega)
        exact hmem m (Nat.le_refl _) _ (nthE_mem (by rw [HE.out.len]; exact hi)))
      rw [HWN.out]
      clear hlt HO HE HI
      go_wp2_with (first
        | (go_at_call 54; (with_reducible refine (last_any wr E m d es (by have := HM.out; omega) (H1A.out.below HB.out)).mono ?_); rintro e w5 ⟨A5, c5, k5, rfl, hr5, hb⟩; obtain rfl : k = k5 := by { have h1 := hr5.len; have h2 := HEO.out.len; omega }; have HR5 := As.mk hr5; have HB5 := As.mk (below_step HBA.out (below_step HB.out hb)); have HEO5 := As.mk (HEO.out.below hb); clear hr5 hb)
        | (go_at_call 53; (with_reducible refine (same17_ok w5 A5 Av k c5 cv (lastF es m) (by have := HKL.out; have := HM.out; omega) HLN.out HR5.out HEO5.out).mono ?_); rintro e w6 ⟨rfl, hb⟩; have HB6 := As.mk (below_step HB5.out hb); clear hb))
      go_ret
      exact ⟨by simp, HB6.out⟩
theorem counts_walk (sec : Int) (E : Option Addr) (m d : Nat) (es : List (Int × List Int)) (w : World) (hs : (Lit.int .i64 sec).wf = true) (h1 : RdE w E m d es) (_ : ∀ e ∈ es, ∀ i ∈ e.2, (Lit.int .u8 i).wf = true) :
    Calls Try.prog 9 #[.int .i64 sec, .slice E m d] w fun e w' => e = .returned (.bool true) ∧ Below w.heap.size w w' := by
  have hm : m ≤ 9223372036854775807 := by have h3 := h1.le; have h4 := h1.cap; unfold maxLen at h4; omega
  cases hf : few34 [] es with
  | false => exact counts_few w sec E m d es hm h1 hf
  | true =>
    have h3 := (few34_iff [] es).1 hf
    have hem : m ≤ 14 := by rw [← h1.len]; exact h3.2.2.2
    have hsec : sec ≤ 9223372036854775807 := by
      simp [Lit.wf, IntKind.min, IntKind.max, IntKind.signed, IntKind.bits] at hs
      omega
    cases hq : es.any (outE sec) with
    | true =>
      exact counts_out w sec E m d es hem h1 hf (by rw [mayF, if_pos hq]) (by rw [hq]; rfl)
    | false =>
      have hin : ∀ j, j < m → 0 ≤ (nthE es j).1 ∧ (nthE es j).1 < sec := fun j hj => by
        rw [List.any_eq_false] at hq
        have h4 := hq _ (nthE_mem (es := es) (t := j) (by rw [h1.len]; exact hj))
        unfold outE at h4
        rw [Bool.or_eq_true, decide_eq_true_eq, decide_eq_true_eq] at h4
        omega
      refine counts_in w sec E m d es hem hsec h1 hf _ rfl ?_ (by rw [hq]; rfl) hin fun i hi => Nat.le_trans (h3.2.1 i (by rw [h1.len]; exact hi)) (by decide)
      rw [mayF, if_neg (by rw [hq]; decide)]
      split
      · decide
      · split <;> decide
end Go.Proofs.Yteajblfkfmopfaa.LawCrash
