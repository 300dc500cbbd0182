/- A cell of a row of the call's own is written; slices.Clone at [][]byte. -/
import Derived.Test.YteajblfkfmopfaaParts
import Derived.Test.YteajblfkfmopfaaEntries
import Derived.Test.YteajblfkfmopfaaCloneB
namespace Go.Proofs.Yteajblfkfmopfaa.Parts
set_option linter.unusedVariables false
set_option linter.unusedSimpArgs false
open Go Go.RowKit Go.Proofs.Yteajblfkfmopfaa.Mem Go.Proofs.Yteajblfkfmopfaa.Put32 Go.Proofs.Yteajblfkfmopfaa.Sum Go.Proofs.Yteajblfkfmopfaa.Hmac

theorem OwnAt.set {w : World} {base n c g off : Nat} {xs : List Value} (h : OwnAt w base (.slice (some ⟨g, off, none⟩) n c) n xs) (j : Nat) (hj : j < n) (v : Value) :
    OwnAt (w.setCell ⟨g, off + j, none⟩ v) base (.slice (some ⟨g, off, none⟩) n c) n (xs.set j v) := by
  refine ⟨by rw [List.length_set]; exact h.1, ?_⟩
  rcases h.2 with ⟨hv, h0⟩ | ⟨g', off', cap, cur, T, hv, hg, hh, hfit, hnc, hcm, hcur⟩
  · omega
  · injection hv with e1 e2 e3
    injection e1 with e1
    injection e1 with e4 e5
    subst e4 e5 e3
    refine .inr ⟨g, off, c, cur.setIfInBounds (off + j) v, T, rfl, hg, heap_setCell_same _ _ _ _ _ _ hh, by rw [Array.size_setIfInBounds]; exact hfit, hnc, hcm, fun i hi => ?_⟩
    rw [Array.getElem?_setIfInBounds, List.getElem?_set]
    by_cases e : j = i
    · subst e
      rw [if_pos rfl, if_pos rfl, if_pos (by omega), if_pos (by rw [h.1]; exact hj)]
    · rw [if_neg (by omega), if_neg e]
      exact hcur i hi
theorem Elem.setCell {w : World} {g : Nat} {u : Value} {p : List Int} (h : Elem w (some g) u p) (o : Nat) (v : Value) : Elem (w.setCell ⟨g, o, none⟩ v) (some g) u p := by
  refine h.step (row' := some g) ?_ (.inl rfl)
  exact ⟨rfl, rfl, rfl, by simp [World.setCell], fun k hk hne => by rw [heap_setCell_other]; exact fun e => hne (by rw [e])⟩
theorem nthP_set (ps : List (List Int)) (j i : Nat) (p : List Int) (hj : j < ps.length) : nthP (ps.set j p) i = if j = i then p else nthP ps i := by
  simp only [nthP, List.getD_eq_getElem?_getD, List.getElem?_set]
  by_cases e : j = i
  · subst e; simp [hj]
  · simp [e]
theorem Parts.set {w : World} {base n c g off : Nat} {L : List Value} {ps : List (List Int)} (h : Parts w base (.slice (some ⟨g, off, none⟩) n c) n L ps) (j : Nat) (hj : j < n) (u : Value) (p : List Int) (hu : Elem w (some g) u p) :
    Parts (w.setCell ⟨g, off + j, none⟩ u) base (.slice (some ⟨g, off, none⟩) n c) n (L.set j u) (ps.set j p) := by
  refine ⟨by rw [List.length_set]; exact h.len, OwnAt.set h.own j hj u, fun i hi => ?_⟩
  rw [nthP_set _ _ _ _ (by rw [h.len]; exact hj), List.getElem?_set]
  by_cases e : j = i
  · subst e
    exact ⟨u, by rw [if_pos rfl, if_pos (by rw [h.own.1]; exact hj)], by rw [if_pos rfl]; exact hu.setCell _ _⟩
  · obtain ⟨v, e1, hv⟩ := h.each i hi
    exact ⟨v, by rw [if_neg e]; exact e1, by rw [if_neg e]; exact Elem.setCell (g := g) hv _ _⟩
theorem infoP : (Try.prog.info? 37).map (fun i => (i.zero, i.size, i.bytes)) = some (some (.slice none 0 0), 1, 24) := by kernel_rfl
set_option maxHeartbeats 1000000 in
set_option maxRecDepth 100000 in
theorem cloneP_any (ps : List (List Int)) (A : Option Addr) (n c : Nat) (w : World) (hn : n ≤ 1000000) (h : RdP w A n c ps) :
    Calls Try.prog 186 #[.slice A n c] w fun e w' => ∃ A' c' L, e = .returned (.slice A' n c') ∧ Parts w' w.heap.size (.slice A' n c') n L ps ∧ Below w.heap.size w w' := by
  have HN := As.mk hn
  clear hn
  rcases A with _ | ad
  · obtain rfl : n = 0 := by
      rcases Nat.eq_zero_or_pos n with h0 | h0
      · exact h0
      · obtain ⟨ad, e, _⟩ := h.cells h0; cases e
    obtain rfl : ps = [] := List.eq_nil_of_length_eq_zero h.len
    have hnil := Lib.run_eql_slice_nil (P := Try.prog) w 50 37 none 0 c 0 0 Try.underlying50
    clear h
    go_enter Try.func186, Try.ntmps186
    go_wp2
    go_ret
    exact ⟨_, _, [], rfl, Parts.nil _ _, Below.refl _ _⟩
  · have hnil := Lib.run_eql_slice_nil (P := Try.prog) w 50 37 (some ad) n c 0 0 Try.underlying50
    have H := As.mk h
    have HB0 := As.mk (below_alloc (Below.refl w.heap.size w) (.cells #[] 37))
    have HE : As (OwnAt (w.alloc (.cells #[] 37)) w.heap.size (.slice (some ⟨w.heap.size, 0, none⟩) 0 0) 0 []) := ⟨OwnAt.lit w 37 [] (by decide)⟩
    obtain ⟨L, lL, sL, eL⟩ := rdp_list h
    have LL := As.mk lL
    have SL := As.mk (src_below sL HB0.out)
    have EL := As.mk eL
    clear h lL sL eL
    go_enter Try.func186, Try.ntmps186
    go_wp2_with (at_builtin; refine wpList_app2 rfl _ _ 50 rfl w.heap.size 37 (.slice none 0 0) 24 Try.underlying50 infoP rfl _ 0 [] rfl HE.out _ n L rfl SL.out ?c1 ?c2 HB0.out.size HB0.out (Nat.le_refl _) ?_; (case c1 => have := HN.out; unfold maxLen; omega); (case c2 => have := HN.out; omega); intro v3 w3 hown hg hat hb3; simp only [Nat.zero_add, List.nil_append] at hown; obtain ⟨A3, c3, rfl⟩ := hown.slice; have HO3 := As.mk hown; have HG3 := As.mk hg; have HB3 := As.mk hb3; clear hown hg hat hb3)
    go_ret
    refine ⟨A3, c3, L, rfl, ⟨H.out.len, HO3.out, fun j hj => ?_⟩, HB3.out⟩
    obtain ⟨Aj, cj, e1, e2⟩ := EL.out j hj
    exact ⟨_, e1, Elem.mk' (e2.below HB3.out) (old_apart e2 fun k hk => (HO3.out.lt k hk).1)⟩
end Go.Proofs.Yteajblfkfmopfaa.Parts
