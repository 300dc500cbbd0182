/- Tenants stay right: plain lists. -/
import Derived.Test.YtcbfdofeedlajaaQuotaZ
namespace Go.Proofs.Ytcbfdofeedlajaa.QuotaW
set_option linter.unusedVariables false
set_option linter.unusedSimpArgs false
open Go Go.RowKit Go.Proofs.Ytcbfdofeedlajaa.Mem Go.Proofs.Ytcbfdofeedlajaa.Flat Go.Proofs.Ytcbfdofeedlajaa.QuotaP

def fits (t : Tn) : Prop := 1 ≤ t.id ∧ t.id ≤ 16 ∧ 0 ≤ t.q ∧ t.q ≤ 4096 ∧ 0 ≤ t.u ∧ t.u ≤ t.q
theorem right_fits {ts : List Tn} (h : rightB ts = true) (i : Nat) (hi : i < ts.length) : fits (nthT ts i) := by
  have h1 := (rightB_iff ts).1 h
  have h2 := (okAt_iff _ _).1 (h1 i hi)
  have h3 := ok_id ts.length h1 i hi
  unfold fits
  omega
theorem right_of {ts : List Tn} (hs : ts.Pairwise (fun a b => a.id < b.id)) (hf : ∀ x ∈ ts, fits x) : rightB ts = true := by
  rw [rightB_iff]
  intro i hi
  have h1 := hf (nthT ts i) (by rw [nthT_get ts i hi]; exact List.getElem_mem _)
  unfold fits at h1
  show okAt (lastId ts i) (nthT ts i) = true
  rw [okAt_iff]
  refine ⟨?_, by omega⟩
  unfold lastId
  split
  · omega
  · rw [List.pairwise_iff_getElem] at hs
    have := hs (i - 1) i (by omega) hi (by omega)
    rw [nthT_get ts (i - 1) (by omega), nthT_get ts i hi]
    exact this
theorem ins_right {ts : List Tn} {t : Tn} (h : rightB ts = true) (hn : ∀ x ∈ ts, x.id ≠ t.id) (ht : fits t) : rightB (ins t ts) = true := by
  refine right_of (ins_sorted t ts (right_sorted h) hn) fun x hx => ?_
  rcases (ins_mem t ts x).1 hx with hx | rfl
  · obtain ⟨i, hi, rfl⟩ := nth_mem hx
    exact right_fits h i hi
  · exact ht
def sumL (f : Tn → Int) : List Tn → Int
  | [] => 0
  | x :: r => f x + sumL f r
theorem sumL_snoc (f : Tn → Int) (x : Tn) : ∀ l : List Tn, sumL f (l ++ [x]) = sumL f l + f x
  | [] => by simp [sumL]
  | y :: r => by simp only [List.cons_append, sumL, sumL_snoc f x r]; omega
theorem sumF_L (f : Tn → Int) (ts : List Tn) : ∀ i, i ≤ ts.length → sumF f ts i = sumL f (ts.take i)
  | 0, _ => rfl
  | i + 1, hi => by rw [sumF, sumF_L f ts i (by omega), List.take_succ_eq_append_getElem (by omega), sumL_snoc, nthT_get ts i (by omega)]
theorem sumL_ins (f : Tn → Int) (t : Tn) : ∀ ts : List Tn, sumL f (ins t ts) = sumL f ts + f t
  | [] => by simp [ins, sumL]
  | x :: r => by
    unfold ins
    split
    · simp only [sumL]; omega
    · simp only [sumL, sumL_ins f t r]; omega
theorem tot_L {ts : List Tn} (h : rightB ts = true) : tot_q ts = sumL Tn.q ts ∧ tot_u ts = sumL Tn.u ts := by
  unfold tot_q tot_u
  rw [if_pos h, if_pos h, sumF_L _ _ _ (Nat.le_refl _), sumF_L _ _ _ (Nat.le_refl _), List.take_length]
  exact ⟨rfl, rfl⟩
theorem tot_ins {ts : List Tn} {t : Tn} (h : rightB ts = true) (h2 : rightB (ins t ts) = true) : tot_q (ins t ts) = tot_q ts + t.q := by
  rw [(tot_L h).1, (tot_L h2).1, sumL_ins]
theorem tot_le {ts : List Tn} (h : rightB ts = true) : tot_u ts ≤ tot_q ts := by
  have := sumU_bd ts.length ((rightB_iff ts).1 h) ts.length (Nat.le_refl _)
  unfold tot_q tot_u
  rw [if_pos h, if_pos h]
  omega
theorem move_bd {t : Tn} {b : Int} (h : moveE t b = 0) : -t.u ≤ b ∧ b ≤ t.q - t.u := by
  unfold moveE at h
  split at h
  · omega
  · split at h
    · omega
    · omega
theorem moved_id (ts : List Tn) (j : Nat) (b : Int) (hj : j < ts.length) (k : Nat) : (nthT (moved ts j b) k).id = (nthT ts k).id := by
  rw [moved_nth ts j k b hj]
  split
  · rename_i h; subst h; rfl
  · rfl
theorem moved_q (ts : List Tn) (j : Nat) (b : Int) (hj : j < ts.length) (k : Nat) : (nthT (moved ts j b) k).q = (nthT ts k).q := by
  rw [moved_nth ts j k b hj]
  split
  · rename_i h; subst h; rfl
  · rfl
theorem moved_first {ts : List Tn} {id : Int} {j : Nat} (b : Int) (hj : j < ts.length) (h : firstI id ts j) : firstI id (moved ts j b) j :=
  ⟨by rw [moved_id ts j b hj]; exact h.1, fun k hk => by rw [moved_id ts j b hj]; exact h.2 k hk⟩
theorem moved_right {ts : List Tn} {j : Nat} {b : Int} (h : rightB ts = true) (hj : j < ts.length) (hm : moveE (nthT ts j) b = 0) : rightB (moved ts j b) = true := by
  rw [rightB_iff]
  intro i hi
  rw [moved_len] at hi
  have h1 := (okAt_iff _ _).1 ((rightB_iff ts).1 h i hi)
  have h2 := move_bd hm
  show okAt (lastId (moved ts j b) i) (nthT (moved ts j b) i) = true
  have hl : lastId (moved ts j b) i = lastId ts i := by
    unfold lastId
    split
    · rfl
    · exact moved_id ts j b hj _
  rw [hl, okAt_iff, moved_nth ts j i b hj]
  split
  · rename_i e
    subst e
    simp only
    omega
  · exact h1
theorem sumF_moved (ts : List Tn) (j : Nat) (b : Int) (hj : j < ts.length) : ∀ i, sumF Tn.q (moved ts j b) i = sumF Tn.q ts i
  | 0 => rfl
  | i + 1 => by rw [sumF, sumF, sumF_moved ts j b hj i, moved_q ts j b hj]
theorem tot_moved {ts : List Tn} {j : Nat} {b : Int} (h : rightB ts = true) (hj : j < ts.length) (hm : moveE (nthT ts j) b = 0) : tot_q (moved ts j b) = tot_q ts := by
  unfold tot_q
  rw [if_pos h, if_pos (moved_right h hj hm), moved_len, sumF_moved ts j b hj]
theorem moved_back {ts : List Tn} {j : Nat} {b : Int} (h : rightB ts = true) (hj : j < ts.length) (hm : moveE (nthT ts j) b = 0) :
    moveE (nthT (moved ts j b) j) (-b) = 0 ∧ moved (moved ts j b) j (-b) = ts := by
  have h2 := move_bd hm
  have h3 := right_fits h j hj
  unfold fits at h3
  constructor
  · rw [moved_nth ts j j b hj, if_pos rfl]
    unfold moveE
    simp only
    rw [if_neg (by omega), if_neg (by omega)]
  · show (moved ts j b).set j { nthT (moved ts j b) j with u := (nthT (moved ts j b) j).u + -b } = ts
    rw [moved_nth ts j j b hj, if_pos rfl]
    unfold moved
    rw [List.set_set]
    have e : ({ nthT ts j with u := (nthT ts j).u + b + -b } : Tn) = ts[j] := by
      rw [nthT_get ts j hj, show ts[j].u + b + -b = ts[j].u by omega]
    rw [show ({ ({ nthT ts j with u := (nthT ts j).u + b } : Tn) with u := ({ nthT ts j with u := (nthT ts j).u + b } : Tn).u + -b } : Tn) = ts[j] from e]
    exact List.set_getElem_self hj
end Go.Proofs.Ytcbfdofeedlajaa.QuotaW
