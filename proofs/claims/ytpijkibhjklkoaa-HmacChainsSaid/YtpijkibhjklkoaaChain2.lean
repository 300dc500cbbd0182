/- Rows of arrays of 32 bytes: one element read; a row of parts, cut; chains, plain. -/
import Derived.Test.YtpijkibhjklkoaaChain
namespace Go.Proofs.Ytpijkibhjklkoaa.Chain
set_option linter.unusedVariables false
set_option linter.unusedSimpArgs false
open Go Go.RowKit Go.Proofs.Ytpijkibhjklkoaa.Mem Go.Proofs.Ytpijkibhjklkoaa.Put32 Go.Proofs.Ytpijkibhjklkoaa.Pad Go.Proofs.Ytpijkibhjklkoaa.Sum Go.Proofs.Ytpijkibhjklkoaa.Hmac Go.Proofs.Ytpijkibhjklkoaa.HmacKeys Go.Proofs.Ytpijkibhjklkoaa.Parts

theorem flat_at : ∀ (l : List (List Int)) (j i : Nat) (v : Value), (∀ u ∈ l, u.length = 32) → ((nthP l j).map (Value.int .u8))[i]? = some v → (flat l)[j * 32 + i]? = some v
  | [], j, i, v, _, h => by simp [nthP] at h
  | u :: r, 0, i, v, hl, h => by
    have h1 : (u.map (Value.int .u8))[i]? = some v := h
    have h2 : i < (u.map (Value.int .u8)).length := (List.getElem?_eq_some_iff.1 h1).1
    show ((u ++ r.flatten).map (Value.int .u8))[0 * 32 + i]? = some v
    rw [List.map_append, Nat.zero_mul, Nat.zero_add, List.getElem?_append_left h2, h1]
  | u :: r, j + 1, i, v, hl, h => by
    have := flat_at r j i v (fun q hq => hl q (List.mem_cons_of_mem _ hq)) h
    have hu : (u.map (Value.int .u8)).length = 32 := by rw [List.length_map]; exact hl u (List.mem_cons_self ..)
    show ((u ++ r.flatten).map (Value.int .u8))[(j + 1) * 32 + i]? = some v
    rw [List.map_append, List.getElem?_append_right (by rw [hu]; omega), hu, show (j + 1) * 32 + i - 32 = j * 32 + i by omega]
    exact this
/-- the one shape of a row that the call owns and that is not empty -/
theorem own_shape {w : World} {base : Nat} {e : TypeId} {size n c : Nat} {A : Option Addr} {xs : List Value} (h : w.ownsRow base e size (.slice A n c) n xs) (hn : 0 < n) : ∃ g, A = some ⟨g, 0, none⟩ ∧ base ≤ g ∧ g < w.heap.size ∧ n ≤ c := by
  have hlt := h.lt
  rcases h.2 with ⟨_, h0⟩ | ⟨g, cap, cur, hv, hg, hh, hnc, _⟩
  · omega
  · injection hv with e1 e2 e3
    subst e1
    exact ⟨g, rfl, hg, (Array.getElem?_eq_some_iff.1 hh).1, by omega⟩
theorem own_kept {w w1 : World} {base : Nat} {e : TypeId} {size n : Nat} {v : Value} {xs : List Value} (h : w.ownsRow base e size v n xs) (hk : ∀ k, v.ownBlock = some k → w1.heap[k]? = w.heap[k]?) : w1.ownsRow base e size v n xs := by
  obtain ⟨h1, h2⟩ := h
  refine ⟨h1, ?_⟩
  rcases h2 with h2 | ⟨g, cap, cur, rfl, hg, hh, r⟩
  · exact .inl h2
  · exact .inr ⟨g, cap, cur, rfl, hg, (hk g rfl).trans hh, r⟩
theorem own_row_at {w : World} {base : Nat} {e : TypeId} {n c g : Nat} {l : List (List Int)} (h : w.ownsRow base e 32 (.slice (some ⟨g, 0, none⟩) n c) n (flat l)) (hl : ∀ u ∈ l, u.length = 32) (j : Nat) : w.rangeAt g (j * 32) ((nthP l j).map (Value.int .u8)) := by
  intro i v hv
  have := h.cells (g := g) rfl (j * 32 + i) v (flat_at l j i v hl hv)
  rwa [add0] at this
theorem own_src {w : World} {base : Nat} {e : TypeId} {size n c : Nat} {A : Option Addr} {xs : List Value} (h : w.ownsRow base e size (.slice A n c) n xs) (h1 : ∀ u ∈ xs, u.oneCell' = true) : Go.Proofs.Ytpijkibhjklkoaa.Mem.Src w (.slice A n c) n size xs := by
  refine ⟨h.1, h1, ?_⟩
  rcases h.2 with ⟨hv, h0⟩ | ⟨g, cap, cur, hv, hg, hh, hnc, _⟩
  · injection hv with e1 e2 e3
    subst e1
    exact .inr ⟨c, by rw [h0], h0⟩
  · injection hv with e1 e2 e3
    subst e1
    exact .inl ⟨_, c, rfl, h.cells rfl⟩
theorem flat_one (l : List (List Int)) : ∀ u ∈ flat l, u.oneCell' = true := ints_oneCell .u8 _
theorem flat_app (a b : List (List Int)) : flat (a ++ b) = flat a ++ flat b := by unfold flat; rw [List.flatten_append, List.map_append]
theorem chainB_at (key : List Int) : ∀ (ps : List (List Int)) (t : List Int) (j : Nat), j < ps.length → nthP (chainB key t ps) j = link key (lastB key t (ps.take j)) (nthP ps j)
  | [], _, j, h => by simp at h
  | p :: ps, t, 0, _ => rfl
  | p :: ps, t, j + 1, h => chainB_at key ps (link key t p) j (by simpa using h)
theorem chainB_last (key : List Int) (ps : List (List Int)) (t : List Int) (k : Nat) (hk : k < ps.length) : nthP (chainB key t (ps.take (k + 1))) k = lastB key t (ps.take (k + 1)) := by
  rw [chainB_at key _ t k (by rw [List.length_take]; omega), List.take_take, Nat.min_eq_left (Nat.le_succ _), take_snoc ps k hk, lastB_snoc]
  congr 1
  exact Parts.nthP_right _ _ k (by rw [List.length_take]; omega) |>.trans (by rw [List.length_take, Nat.min_eq_left (by omega), Nat.sub_self]; rfl)
theorem nthP_take (ps : List (List Int)) (k j : Nat) (h : j < k) : nthP (ps.take k) j = nthP ps j := by
  rw [nthP, nthP, List.getD_eq_getElem?_getD, List.getD_eq_getElem?_getD, List.getElem?_take_of_lt h]
theorem nthP_drop (ps : List (List Int)) (k j : Nat) : nthP (ps.drop k) j = nthP ps (k + j) := by
  rw [nthP, nthP, List.getD_eq_getElem?_getD, List.getD_eq_getElem?_getD, List.getElem?_drop]
theorem RdP.to {w : World} {A : Option Addr} {n c : Nat} {ps : List (List Int)} (r : RdP w A n c ps) (k : Nat) (hk : k ≤ n) : RdP w (cutA A c 0 1) k c (ps.take k) := by
  refine ⟨by rw [List.length_take, r.len]; omega, by have := r.le; omega, r.cap, fun hp => ?_⟩
  obtain ⟨ad, rfl, hc⟩ := r.cells (by omega)
  have := r.le
  refine ⟨ad, by unfold cutA; rw [if_neg (by omega)]; show some (ad.add (0 * 1)) = some ad; rw [Nat.zero_mul]; congr 1, fun j hj => ?_⟩
  rw [nthP_take ps k j hj]
  exact hc j (by omega)
theorem RdP.from {w : World} {A : Option Addr} {n c : Nat} {ps : List (List Int)} (r : RdP w A n c ps) (k : Nat) (hk : k ≤ n) : RdP w (cutA A c k 1) (n - k) (c - k) (ps.drop k) := by
  refine ⟨by rw [List.length_drop, r.len], by have := r.le; omega, by have := r.cap; omega, fun hp => ?_⟩
  obtain ⟨ad, rfl, hc⟩ := r.cells (by omega)
  have := r.le
  refine ⟨ad.add k, by unfold cutA; rw [if_neg (by omega), Nat.mul_one]; rfl, fun j hj => ?_⟩
  rw [add_add, nthP_drop]
  exact hc (k + j) (by omega)
end Go.Proofs.Ytpijkibhjklkoaa.Chain
