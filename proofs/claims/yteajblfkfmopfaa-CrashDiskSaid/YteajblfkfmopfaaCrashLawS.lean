/- chatelainelaw34.same, few. -/
import Derived.Test.YteajblfkfmopfaaLawCrash
import Derived.Test.YteajblfkfmopfaaRefSame
import Derived.Deep.RegionHeld2
import Derived.Deep.DeepCutAuto
namespace Go.Proofs.Yteajblfkfmopfaa.LawCrash
set_option linter.unusedVariables false
set_option linter.unusedSimpArgs false
open Go Go.RowKit Go.Proofs.Yteajblfkfmopfaa.Mem Go.Proofs.Yteajblfkfmopfaa.Sum Go.Proofs.Yteajblfkfmopfaa.Entries

theorem cell_keep {w w' : World} {a : Addr} {v : Value} (h : w.cell? a = some v) (hb : Below w.heap.size w w') : w'.cell? a = some v := (hb.cell (World.block_lt_of_cell? w _ h)).trans h
theorem nthP_mem {rs : List (List Int)} {j : Nat} (h : j < rs.length) : nthP rs j ∈ rs := by
  unfold nthP
  rw [List.getD_eq_getElem?_getD, List.getElem?_eq_getElem h]
  exact List.getElem_mem _
set_option maxHeartbeats 2000000 in
set_option maxRecDepth 100000 in
theorem same34_any (w : World) (A B : Option Addr) (n c m d : Nat) (ps ls : List (List Int)) (hn : n ≤ 1000000) (hl : ∀ p ∈ ps, p.length ≤ 1000000) (h : RdP w A n c ps) (g : RdP w B m d ls) (r : Bool) (hr : r = true ↔ ps = ls) :
    Calls Try.prog 49 #[.slice A n c, .slice B m d] w fun e w' => e = .returned (.bool r) ∧ Below w.heap.size w w' := by
  have HN := As.mk hn
  have H := As.mk h
  have G := As.mk g
  have HR := As.mk hr
  have HLL := As.mk hl
  by_cases hnm : n = m
  · subst hnm
    have e0 : ((n : Int) != (n : Int)) = false := by simp
    have e1 : ((n : Int) == (n : Int)) = true := by simp
    clear hn h g hl hr
    go_enter Try.func49, Try.ntmps49
    go_wp2
    go_loopg [13] n (fun kq v13 wr => ∃ i : Nat, i + kq = n ∧ v13 = .int .i64 (i : Int) ∧ As (∀ j, j < i → nthP ps j = nthP ls j) ∧ As (Below w.heap.size w wr))
    case atStart => exact ⟨0, by omega, rfl, ⟨fun j hj => by omega⟩, ⟨Below.refl _ _⟩⟩
    case round =>
      obtain ⟨i, hi, rfl, HJ, HB⟩ := hrel
      have HI := As.mk hi
      clear hi
      by_cases hlt : i < n
      · have c0 : decide ((i : Int) < (n : Int)) = true := decide_eq_true (by omega)
        have c1 : decide (i < n) = true := decide_eq_true hlt
        have lt' : (i : Int) < (n : Int) := by omega
        have hw : wrap64 ((i : Int) + 1) = ((i + 1 : Nat) : Int) := wrap_up (by have := HN.out; omega)
        obtain ⟨ad, Aj, cj, ea, h1, h2⟩ := (H.out.below HB.out).at i hlt
        cases ea
        obtain ⟨bd, Bj, dj, ea, g1, g2⟩ := (G.out.below HB.out).at i hlt
        cases ea
        have HLT := As.mk hlt
        have hm := HLL.out _ (nthP_mem (rs := ps) (j := i) (by rw [H.out.len]; exact hlt))
        have HJS := As.mk (show nthP ps i = nthP ls i → ∀ j, j < i + 1 → nthP ps j = nthP ls j from fun hh j hj => by
          rcases Nat.lt_succ_iff_lt_or_eq.1 hj with h | rfl
          · exact HJ.out j h
          · exact hh)
        have HNO := As.mk (show nthP ps i ≠ nthP ls i → r = false from fun hh => by
          cases r with
          | false => rfl
          | true => exact absurd (by rw [HR.out.1 rfl]) hh)
        generalize nthP ps i = x at *
        generalize nthP ls i = y at *
        obtain ⟨a, ha⟩ : ∃ a, x.length = a := ⟨_, rfl⟩
        obtain ⟨b, hb⟩ : ∃ b, y.length = b := ⟨_, rfl⟩
        rw [ha] at h1 h2 hm
        rw [hb] at g1 g2
        have HR1 := As.mk h2
        have HR2 := As.mk g2
        have HM := As.mk hm
        clear hlt h2 g2 hm ha hb HJ HLL
        rcases Classical.em (x = y) with hxy | hxy
        · have HXY := As.mk hxy
          have HJ2 := As.mk (HJS.out hxy)
          clear hxy HNO HJS
          go_wp2
          refine wp_region_held_drew (S := fun W : World => Below wr.heap.size wr W) (by kernel_rfl) (below_drewN (Below.refl _ _) 1) (fun hHeld => ?_)
          refine wpAnyH_take (i := 0) (v := .slice (some ad) n c) rfl (by kernel_rfl) (by kernel_rfl) (by kernel_rfl) (fun _ _ _ h => h) (Or.inl ⟨by rfl, fun W hW => by go_simp⟩) hHeld ?_
          try simp only [Act.put, List.setIfInBounds_toArray, List.set_cons_zero, List.set_cons_succ, List.getElem_toArray, List.getElem_cons_zero, List.getElem_cons_succ]
          refine wpAnyH_take (i := 1) (v := .int .i64 (i : Int)) rfl (by kernel_rfl) (by kernel_rfl) (by kernel_rfl) (fun _ _ _ h => h) (Or.inl ⟨by rfl, fun W hW => by go_simp⟩) hHeld ?_
          try simp only [Act.put, List.setIfInBounds_toArray, List.set_cons_zero, List.set_cons_succ, List.getElem_toArray, List.getElem_cons_zero, List.getElem_cons_succ]
          refine wpAnyH_take (i := 2) (v := .pointer (some (ad.add i))) rfl (by kernel_rfl) (by kernel_rfl) (by kernel_rfl) (fun _ _ _ h => h) (Or.inl ⟨by rfl, fun W hW => by go_simp⟩) hHeld ?_
          try simp only [Act.put, List.setIfInBounds_toArray, List.set_cons_zero, List.set_cons_succ, List.getElem_toArray, List.getElem_cons_zero, List.getElem_cons_succ]
          refine wpAnyH_take (i := 3) (v := .slice Aj a cj) rfl (by kernel_rfl) (by kernel_rfl) (by kernel_rfl) (fun _ _ _ h => h) (Or.inl ⟨by rfl, fun W hW => by (have q := cell_keep h1 hW; go_simp)⟩) hHeld ?_
          try simp only [Act.put, List.setIfInBounds_toArray, List.set_cons_zero, List.set_cons_succ, List.getElem_toArray, List.getElem_cons_zero, List.getElem_cons_succ]
          refine wpAnyH_take (i := 4) (v := .slice (some bd) n d) rfl (by kernel_rfl) (by kernel_rfl) (by kernel_rfl) (fun _ _ _ h => h) (Or.inl ⟨by rfl, fun W hW => by go_simp⟩) hHeld ?_
          try simp only [Act.put, List.setIfInBounds_toArray, List.set_cons_zero, List.set_cons_succ, List.getElem_toArray, List.getElem_cons_zero, List.getElem_cons_succ]
          refine wpAnyH_take (i := 5) (v := .int .i64 (i : Int)) rfl (by kernel_rfl) (by kernel_rfl) (by kernel_rfl) (fun _ _ _ h => h) (Or.inl ⟨by rfl, fun W hW => by go_simp⟩) hHeld ?_
          try simp only [Act.put, List.setIfInBounds_toArray, List.set_cons_zero, List.set_cons_succ, List.getElem_toArray, List.getElem_cons_zero, List.getElem_cons_succ]
          refine wpAnyH_take (i := 6) (v := .pointer (some (bd.add i))) rfl (by kernel_rfl) (by kernel_rfl) (by kernel_rfl) (fun _ _ _ h => h) (Or.inl ⟨by rfl, fun W hW => by go_simp⟩) hHeld ?_
          try simp only [Act.put, List.setIfInBounds_toArray, List.set_cons_zero, List.set_cons_succ, List.getElem_toArray, List.getElem_cons_zero, List.getElem_cons_succ]
          refine wpAnyH_take (i := 7) (v := .slice Bj b dj) rfl (by kernel_rfl) (by kernel_rfl) (by kernel_rfl) (fun _ _ _ h => h) (Or.inl ⟨by rfl, fun W hW => by (have q := cell_keep g1 hW; go_simp)⟩) hHeld ?_
          try simp only [Act.put, List.setIfInBounds_toArray, List.set_cons_zero, List.set_cons_succ, List.getElem_toArray, List.getElem_cons_zero, List.getElem_cons_succ]
          refine wpAnyH_ready (rs := [8]) (by kernel_rfl) (by simp) (AllReadyH.cons rfl (fun K' hK => ?_) AllReadyH.nil)
          go_simp
          refine (Go.Proofs.Yteajblfkfmopfaa.RefSame.same_any x y Aj Bj a b cj dj _ true (by have := HM.out; omega) (iff_of_true rfl HXY.out) (HR1.out.below hHeld) (HR2.out.below hHeld)).mono ?_
          rintro e wq ⟨rfl, nd, rfl⟩
          refine hK.out _ _ (below_drewN hHeld nd) (fun hHeld => ?_)
          clear hK
          try simp only [Act.put, List.setIfInBounds_toArray, List.set_cons_zero, List.set_cons_succ, List.getElem_toArray, List.getElem_cons_zero, List.getElem_cons_succ]
          refine wpAnyH_take (i := 9) (v := .bool false) rfl (by kernel_rfl) (by kernel_rfl) (by kernel_rfl) (fun _ _ _ h => h) (Or.inl ⟨by rfl, fun W hW => by go_simp⟩) hHeld ?_
          try simp only [Act.put, List.setIfInBounds_toArray, List.set_cons_zero, List.set_cons_succ, List.getElem_toArray, List.getElem_cons_zero, List.getElem_cons_succ]
          refine wpAnyH_done (by kernel_rfl) ?_ _
          go_wp2
          go_roundg (n - (i + 1))
          case measure => have := HI.out; have := HLT.out; omega
          case rel => exact ⟨i + 1, by have := HI.out; have := HLT.out; omega, by go_num, HJ2, ⟨below_drewN HB.out _⟩⟩
        · have HXY := As.mk hxy
          have HF := As.mk (HNO.out hxy)
          clear hxy HNO HJS
          go_wp2
          refine wp_region_held_drew (S := fun W : World => Below wr.heap.size wr W) (by kernel_rfl) (below_drewN (Below.refl _ _) 1) (fun hHeld => ?_)
          refine wpAnyH_take (i := 0) (v := .slice (some ad) n c) rfl (by kernel_rfl) (by kernel_rfl) (by kernel_rfl) (fun _ _ _ h => h) (Or.inl ⟨by rfl, fun W hW => by go_simp⟩) hHeld ?_
          try simp only [Act.put, List.setIfInBounds_toArray, List.set_cons_zero, List.set_cons_succ, List.getElem_toArray, List.getElem_cons_zero, List.getElem_cons_succ]
          refine wpAnyH_take (i := 1) (v := .int .i64 (i : Int)) rfl (by kernel_rfl) (by kernel_rfl) (by kernel_rfl) (fun _ _ _ h => h) (Or.inl ⟨by rfl, fun W hW => by go_simp⟩) hHeld ?_
          try simp only [Act.put, List.setIfInBounds_toArray, List.set_cons_zero, List.set_cons_succ, List.getElem_toArray, List.getElem_cons_zero, List.getElem_cons_succ]
          refine wpAnyH_take (i := 2) (v := .pointer (some (ad.add i))) rfl (by kernel_rfl) (by kernel_rfl) (by kernel_rfl) (fun _ _ _ h => h) (Or.inl ⟨by rfl, fun W hW => by go_simp⟩) hHeld ?_
          try simp only [Act.put, List.setIfInBounds_toArray, List.set_cons_zero, List.set_cons_succ, List.getElem_toArray, List.getElem_cons_zero, List.getElem_cons_succ]
          refine wpAnyH_take (i := 3) (v := .slice Aj a cj) rfl (by kernel_rfl) (by kernel_rfl) (by kernel_rfl) (fun _ _ _ h => h) (Or.inl ⟨by rfl, fun W hW => by (have q := cell_keep h1 hW; go_simp)⟩) hHeld ?_
          try simp only [Act.put, List.setIfInBounds_toArray, List.set_cons_zero, List.set_cons_succ, List.getElem_toArray, List.getElem_cons_zero, List.getElem_cons_succ]
          refine wpAnyH_take (i := 4) (v := .slice (some bd) n d) rfl (by kernel_rfl) (by kernel_rfl) (by kernel_rfl) (fun _ _ _ h => h) (Or.inl ⟨by rfl, fun W hW => by go_simp⟩) hHeld ?_
          try simp only [Act.put, List.setIfInBounds_toArray, List.set_cons_zero, List.set_cons_succ, List.getElem_toArray, List.getElem_cons_zero, List.getElem_cons_succ]
          refine wpAnyH_take (i := 5) (v := .int .i64 (i : Int)) rfl (by kernel_rfl) (by kernel_rfl) (by kernel_rfl) (fun _ _ _ h => h) (Or.inl ⟨by rfl, fun W hW => by go_simp⟩) hHeld ?_
          try simp only [Act.put, List.setIfInBounds_toArray, List.set_cons_zero, List.set_cons_succ, List.getElem_toArray, List.getElem_cons_zero, List.getElem_cons_succ]
          refine wpAnyH_take (i := 6) (v := .pointer (some (bd.add i))) rfl (by kernel_rfl) (by kernel_rfl) (by kernel_rfl) (fun _ _ _ h => h) (Or.inl ⟨by rfl, fun W hW => by go_simp⟩) hHeld ?_
          try simp only [Act.put, List.setIfInBounds_toArray, List.set_cons_zero, List.set_cons_succ, List.getElem_toArray, List.getElem_cons_zero, List.getElem_cons_succ]
          refine wpAnyH_take (i := 7) (v := .slice Bj b dj) rfl (by kernel_rfl) (by kernel_rfl) (by kernel_rfl) (fun _ _ _ h => h) (Or.inl ⟨by rfl, fun W hW => by (have q := cell_keep g1 hW; go_simp)⟩) hHeld ?_
          try simp only [Act.put, List.setIfInBounds_toArray, List.set_cons_zero, List.set_cons_succ, List.getElem_toArray, List.getElem_cons_zero, List.getElem_cons_succ]
          refine wpAnyH_ready (rs := [8]) (by kernel_rfl) (by simp) (AllReadyH.cons rfl (fun K' hK => ?_) AllReadyH.nil)
          go_simp
          refine (Go.Proofs.Yteajblfkfmopfaa.RefSame.same_any x y Aj Bj a b cj dj _ false (by have := HM.out; omega) (iff_of_false (by decide) HXY.out) (HR1.out.below hHeld) (HR2.out.below hHeld)).mono ?_
          rintro e wq ⟨rfl, nd, rfl⟩
          refine hK.out _ _ (below_drewN hHeld nd) (fun hHeld => ?_)
          clear hK
          try simp only [Act.put, List.setIfInBounds_toArray, List.set_cons_zero, List.set_cons_succ, List.getElem_toArray, List.getElem_cons_zero, List.getElem_cons_succ]
          refine wpAnyH_take (i := 9) (v := .bool true) rfl (by kernel_rfl) (by kernel_rfl) (by kernel_rfl) (fun _ _ _ h => h) (Or.inl ⟨by rfl, fun W hW => by go_simp⟩) hHeld ?_
          try simp only [Act.put, List.setIfInBounds_toArray, List.set_cons_zero, List.set_cons_succ, List.getElem_toArray, List.getElem_cons_zero, List.getElem_cons_succ]
          refine wpAnyH_done (by kernel_rfl) ?_ _
          go_wp2
          go_ret
          exact ⟨by rw [HF.out]; rfl, below_step HB.out hHeld⟩
      · have c0 : decide ((i : Int) < (n : Int)) = false := decide_eq_false (by omega)
        have c1 : decide (i < n) = false := decide_eq_false hlt
        have HT := As.mk (show r = true from HR.out.2 (List.ext_getElem (by rw [H.out.len, G.out.len]) fun j h1 h2 => by
          have := HJ.out j (by have := HI.out; have := H.out.len; omega)
          unfold nthP at this
          rw [List.getD_eq_getElem?_getD, List.getD_eq_getElem?_getD, List.getElem?_eq_getElem h1, List.getElem?_eq_getElem h2] at this
          exact this))
        clear hlt
        go_wp2
        go_ret
        exact ⟨by rw [HT.out]; rfl, HB.out⟩
  · have e0 : ((n : Int) != (m : Int)) = true := by simp; omega
    have e1 : ((n : Int) == (m : Int)) = false := by simp; omega
    have e2 : (n == m) = false := by simp; omega
    have HF := As.mk (show r = false by
      cases r with
      | false => rfl
      | true => exact absurd (by rw [← H.out.len, ← G.out.len, HR.out.1 rfl]) hnm)
    clear hn h g hl hr hnm
    go_enter Try.func49, Try.ntmps49
    go_wp2
    go_ret
    exact ⟨by rw [HF.out]; rfl, Below.refl _ _⟩
/-- are image and writes few? -/
def few34 (ps : List (List Int)) (es : List (Int × List Int)) : Bool := ps.all (fun p => decide (p.length ≤ 100)) && (es.all (fun e => decide (e.2.length ≤ 100)) && (decide (ps.length ≤ 12) && decide (es.length ≤ 14)))
theorem few34_iff (ps : List (List Int)) (es : List (Int × List Int)) : few34 ps es = true ↔ (∀ j, j < ps.length → (nthP ps j).length ≤ 100) ∧ (∀ j, j < es.length → (nthE es j).2.length ≤ 100) ∧ ps.length ≤ 12 ∧ es.length ≤ 14 := by
  unfold few34
  simp only [Bool.and_eq_true, decide_eq_true_eq, List.all_eq_true]
  refine and_congr ⟨fun h j hj => h _ (nthP_mem hj), fun h p hp => ?_⟩ (and_congr ⟨fun h j hj => h (nthE es j) (by unfold nthE; rw [List.getD_eq_getElem?_getD, List.getElem?_eq_getElem hj]; exact List.getElem_mem _), fun h e he => ?_⟩ Iff.rfl)
  · obtain ⟨j, hj, rfl⟩ := List.mem_iff_getElem.1 hp
    have := h j hj
    unfold nthP at this
    rw [List.getD_eq_getElem?_getD, List.getElem?_eq_getElem hj] at this
    exact this
  · obtain ⟨j, hj, rfl⟩ := List.mem_iff_getElem.1 he
    have := h j hj
    unfold nthE at this
    rw [List.getD_eq_getElem?_getD, List.getElem?_eq_getElem hj] at this
    exact this
theorem few34_no {ps : List (List Int)} {es : List (Int × List Int)} (h : ¬ ((∀ j, j < ps.length → (nthP ps j).length ≤ 100) ∧ (∀ j, j < es.length → (nthE es j).2.length ≤ 100) ∧ ps.length ≤ 12 ∧ es.length ≤ 14)) : few34 ps es = false := by
  rcases Bool.eq_false_or_eq_true (few34 ps es) with h1 | h1
  · exact absurd ((few34_iff ps es).1 h1) h
  · exact h1
theorem wrap_big {i n : Nat} (h : i < n) (hn : n ≤ 9223372036854775807) : wrap64 ((i : Int) + 1) = ((i + 1 : Nat) : Int) := by unfold wrap64; omega
set_option maxHeartbeats 2000000 in
set_option maxRecDepth 100000 in
theorem few34_any (w : World) (A E : Option Addr) (n c m d : Nat) (ps : List (List Int)) (es : List (Int × List Int)) (hn : n ≤ 9223372036854775807) (hm : m ≤ 9223372036854775807) (h : RdP w A n c ps) (g : RdE w E m d es) (b : Bool) (hb : few34 ps es = b) :
    Calls Try.prog 44 #[.slice A n c, .slice E m d] w fun e w' => e = .returned (.bool b) ∧ Below w.heap.size w w' := by
  have HN := As.mk hn
  have HMM := As.mk hm
  have H := As.mk h
  have G := As.mk g
  have HBV := As.mk hb
  clear hn hm h g hb
  go_enter Try.func44, Try.ntmps44
  go_wp2
  go_loopg [11] n (fun kq v11 wr => ∃ i : Nat, i + kq = n ∧ v11 = .int .i64 (i : Int) ∧ As (∀ j, j < i → (nthP ps j).length ≤ 100) ∧ w = wr)
  case atStart => exact ⟨0, by omega, rfl, ⟨fun j hj => by omega⟩, rfl⟩
  case round =>
    obtain ⟨i, hi, rfl, HJ, rfl⟩ := hrel
    have HI := As.mk hi
    clear hi
    by_cases hlt : i < n
    · have c0 : decide ((i : Int) < (n : Int)) = true := decide_eq_true (by omega)
      have c1 : decide (i < n) = true := decide_eq_true hlt
      have lt' : (i : Int) < (n : Int) := by omega
      obtain ⟨ad, Aj, cj, ea, h1, h2⟩ := H.out.at i hlt
      cases ea
      have HLT := As.mk hlt
      have HNO := As.mk (show ¬ (nthP ps i).length ≤ 100 → few34 ps es = false from fun hh => few34_no fun h => hh (h.1 i (by rw [H.out.len]; exact hlt)))
      have HJS := As.mk (show (nthP ps i).length ≤ 100 → ∀ j, j < i + 1 → (nthP ps j).length ≤ 100 from fun hh j hj => by
        rcases Nat.lt_succ_iff_lt_or_eq.1 hj with h | rfl
        · exact HJ.out j h
        · exact hh)
      generalize (nthP ps i).length = x at *
      clear h2 hlt
      by_cases k1 : x ≤ 100
      · have d1 : decide (100 < (x : Int)) = false := decide_eq_false (by omega)
        have d2 : decide (100 < x) = false := decide_eq_false (by omega)
        have HOK := As.mk (HJS.out k1)
        have hw : wrap64 ((i : Int) + 1) = ((i + 1 : Nat) : Int) := wrap_big HLT.out HN.out
        clear k1
        go_wp2
        go_roundg (n - (i + 1))
        case measure => have := HI.out; have := HLT.out; omega
        case rel => exact ⟨i + 1, by have := HI.out; have := HLT.out; omega, by go_num, HOK, rfl⟩
      · have d1 : decide (100 < (x : Int)) = true := decide_eq_true (by omega)
        have d2 : decide (100 < x) = true := decide_eq_true (by omega)
        have HF : As (b = false) := ⟨by rw [← HBV.out]; exact HNO.out k1⟩
        clear k1
        go_wp2
        go_ret
        exact ⟨by rw [HF.out]; rfl, Below.refl _ _⟩
    · have c0 : decide ((i : Int) < (n : Int)) = false := decide_eq_false (by omega)
      have c1 : decide (i < n) = false := decide_eq_false hlt
      have HJP := As.mk (show ∀ j, j < ps.length → (nthP ps j).length ≤ 100 from fun j hj => HJ.out j (by have := HI.out; have := H.out.len; omega))
      clear hlt
      go_wp2
      go_loopg [21] m (fun kq v21 wr => ∃ i : Nat, i + kq = m ∧ v21 = .int .i64 (i : Int) ∧ As (∀ j, j < i → (nthE es j).2.length ≤ 100) ∧ As (Below w.heap.size w wr))
      case atStart => exact ⟨0, by omega, rfl, ⟨fun j hj => by omega⟩, ⟨Below.refl _ _⟩⟩
      case round =>
        obtain ⟨i2, hi, rfl, HJ2, HB⟩ := hrel
        have HI2 := As.mk hi
        clear hi
        by_cases hlt : i2 < m
        · have c0 : decide ((i2 : Int) < (m : Int)) = true := decide_eq_true (by omega)
          have c1 : decide (i2 < m) = true := decide_eq_true hlt
          have lt' : (i2 : Int) < (m : Int) := by omega
          obtain ⟨ad, Aj, cj, ea, h1, h2, h3⟩ := (G.out.below HB.out).at i2 hlt
          cases ea
          have HLT := As.mk hlt
          have HNO := As.mk (show ¬ (nthE es i2).2.length ≤ 100 → few34 ps es = false from fun hh => few34_no fun h => hh (h.2.1 i2 (by rw [G.out.len]; exact hlt)))
          have HJS := As.mk (show (nthE es i2).2.length ≤ 100 → ∀ j, j < i2 + 1 → (nthE es j).2.length ≤ 100 from fun hh j hj => by
            rcases Nat.lt_succ_iff_lt_or_eq.1 hj with h | rfl
            · exact HJ2.out j h
            · exact hh)
          generalize (nthE es i2).1 = x at *
          generalize (nthE es i2).2.length = l at *
          have H1c := As.mk h1
          have H2c := As.mk h2
          have HBa := As.mk (below_step HB.out (below_alloc (Below.refl wr.heap.size wr) (.cells #[.int .i64 x, .slice Aj l cj] 90)))
          clear h1 h2 h3 hlt
          by_cases k1 : l ≤ 100
          · have d1 : decide (100 < (l : Int)) = false := decide_eq_false (by omega)
            have d2 : decide (100 < l) = false := decide_eq_false (by omega)
            have HOK := As.mk (HJS.out k1)
            have hw : wrap64 ((i2 : Int) + 1) = ((i2 + 1 : Nat) : Int) := wrap_big HLT.out HMM.out
            clear k1
            go_wp2_with (refine wpList_load_at rfl 90 (.tmp 23) rfl (ad.add (i2 * 2)) rfl [.int .i64 x, .slice Aj l cj] _ (fun j v hv => by rcases j with _ | _ | j <;> simp at hv <;> subst hv <;> rw [add_add] <;> first | exact H1c.out | exact H2c.out) Try.underlying90 rfl infoEn ?_)
            go_roundg (m - (i2 + 1))
            case measure => have := HI2.out; have := HLT.out; omega
            case rel => exact ⟨i2 + 1, by have := HI2.out; have := HLT.out; omega, by go_num, HOK, HBa⟩
          · have d1 : decide (100 < (l : Int)) = true := decide_eq_true (by omega)
            have d2 : decide (100 < l) = true := decide_eq_true (by omega)
            have HF : As (b = false) := ⟨by rw [← HBV.out]; exact HNO.out k1⟩
            clear k1
            go_wp2_with (refine wpList_load_at rfl 90 (.tmp 23) rfl (ad.add (i2 * 2)) rfl [.int .i64 x, .slice Aj l cj] _ (fun j v hv => by rcases j with _ | _ | j <;> simp at hv <;> subst hv <;> rw [add_add] <;> first | exact H1c.out | exact H2c.out) Try.underlying90 rfl infoEn ?_)
            go_ret
            exact ⟨by rw [HF.out]; rfl, HBa.out⟩
        · have c0 : decide ((i2 : Int) < (m : Int)) = false := decide_eq_false (by omega)
          have c1 : decide (i2 < m) = false := decide_eq_false hlt
          have HJE := As.mk (show ∀ j, j < es.length → (nthE es j).2.length ≤ 100 from fun j hj => HJ2.out j (by have := HI2.out; have := G.out.len; omega))
          have HT := As.mk (show few34 ps es = (decide (n ≤ 12) && decide (m ≤ 14)) by
            rw [Bool.eq_iff_iff, few34_iff, Bool.and_eq_true, decide_eq_true_eq, decide_eq_true_eq, H.out.len, G.out.len]
            exact ⟨fun h => h.2.2, fun h => ⟨fun j hj => HJP.out j (by rw [H.out.len]; exact hj), fun j hj => HJE.out j (by rw [G.out.len]; exact hj), h⟩⟩)
          clear hlt
          by_cases k1 : n ≤ 12
          · have d1 : decide ((n : Int) ≤ 12) = true := decide_eq_true (by omega)
            by_cases k2 : m ≤ 14
            · have d2 : decide ((m : Int) ≤ 14) = true := decide_eq_true (by omega)
              have HF : As (b = true) := ⟨by rw [← HBV.out, HT.out, decide_eq_true k1, decide_eq_true k2]; rfl⟩
              clear k1 k2
              go_wp2
              go_ret
              exact ⟨by rw [HF.out]; rfl, HB.out⟩
            · have d2 : decide ((m : Int) ≤ 14) = false := decide_eq_false (by omega)
              have HF : As (b = false) := ⟨by rw [← HBV.out, HT.out, decide_eq_true k1, decide_eq_false k2]; rfl⟩
              clear k1 k2
              go_wp2
              go_ret
              exact ⟨by rw [HF.out]; rfl, HB.out⟩
          · have d1 : decide ((n : Int) ≤ 12) = false := decide_eq_false (by omega)
            have HF : As (b = false) := ⟨by rw [← HBV.out, HT.out, decide_eq_false k1]; rfl⟩
            clear k1
            go_wp2
            go_ret
            exact ⟨by rw [HF.out]; rfl, HB.out⟩
end Go.Proofs.Yteajblfkfmopfaa.LawCrash
