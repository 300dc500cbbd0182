/- Tenants: right, sums, one more, one changed: plain lists. -/
import Derived.Test.YtcbfdofeedlajaaFlat
namespace Go.Proofs.Ytcbfdofeedlajaa.QuotaP
set_option linter.unusedVariables false
set_option linter.unusedSimpArgs false
open Go Go.RowKit Go.Proofs.Ytcbfdofeedlajaa.Mem Go.Proofs.Ytcbfdofeedlajaa.Flat

structure Tn where
  id : Int
  q : Int
  u : Int
  ck : Nat → Int
instance : Inhabited Tn := ⟨⟨0, 0, 0, fun _ => 0⟩⟩
/-- a check's cells -/
def ckV (f : Nat → Int) : List Value := (List.range 32).map fun i => Value.int .u8 (f i)
theorem ckV_len (f : Nat → Int) : (ckV f).length = 32 := by simp [ckV]
theorem ckV_one (f : Nat → Int) : ∀ v ∈ ckV f, v.oneCell' = true := by
  intro v hv
  obtain ⟨i, _, rfl⟩ := List.mem_map.1 hv
  rfl
def Tn.row (t : Tn) : List Value := .int .i64 t.id :: .int .i64 t.q :: .int .i64 t.u :: ckV t.ck
theorem row_len (t : Tn) : t.row.length = 35 := by simp [Tn.row, ckV_len]
theorem row_one (t : Tn) : ∀ v ∈ t.row, v.oneCell' = true := by
  intro v hv
  simp only [Tn.row, List.mem_cons] at hv
  rcases hv with rfl | rfl | rfl | hv
  · rfl
  · rfl
  · rfl
  · exact ckV_one _ v hv
def okAt (last : Int) (t : Tn) : Bool := decide (last < t.id) && (decide (t.id ≤ 16) && (decide (0 ≤ t.q) && (decide (t.q ≤ 4096) && (decide (0 ≤ t.u) && decide (t.u ≤ t.q)))))
theorem okAt_iff (last : Int) (t : Tn) : okAt last t = true ↔ last < t.id ∧ t.id ≤ 16 ∧ 0 ≤ t.q ∧ t.q ≤ 4096 ∧ 0 ≤ t.u ∧ t.u ≤ t.q := by
  simp [okAt]
theorem okAt_no {last : Int} {t : Tn} (h : ¬ (last < t.id ∧ t.id ≤ 16 ∧ 0 ≤ t.q ∧ t.q ≤ 4096 ∧ 0 ≤ t.u ∧ t.u ≤ t.q)) : okAt last t = false :=
  Bool.eq_false_iff.2 fun e => h ((okAt_iff _ _).1 e)
theorem okAt_no1 {last x q u : Int} {ck : Nat → Int} (hl : 0 ≤ last) (h : (decide (1 ≤ x) && decide (x ≤ 16)) = false) : okAt last ⟨x, q, u, ck⟩ = false := by
  refine okAt_no fun h2 => ?_
  simp at h h2
  omega
theorem okAt_no2 {last x q u : Int} {ck : Nat → Int} (h : decide (x ≤ last) = true) : okAt last ⟨x, q, u, ck⟩ = false := by
  refine okAt_no fun h2 => ?_
  simp at h h2
  omega
theorem okAt_no3 {last x q u : Int} {ck : Nat → Int} (h : (decide (0 ≤ q) && decide (q ≤ 4096)) = false) : okAt last ⟨x, q, u, ck⟩ = false := by
  refine okAt_no fun h2 => ?_
  simp at h h2
  omega
theorem okAt_no4 {last x q u : Int} {ck : Nat → Int} (h : (decide (0 ≤ u) && decide (u ≤ q)) = false) : okAt last ⟨x, q, u, ck⟩ = false := by
  refine okAt_no fun h2 => ?_
  simp at h h2
  omega
theorem okAt_yes {last x q u : Int} {ck : Nat → Int} (h1 : (decide (1 ≤ x) && decide (x ≤ 16)) = true) (h2 : last < x) (h3 : (decide (0 ≤ q) && decide (q ≤ 4096)) = true) (h4 : (decide (0 ≤ u) && decide (u ≤ q)) = true) : okAt last ⟨x, q, u, ck⟩ = true := by
  rw [okAt_iff]
  simp at h1 h3 h4 ⊢
  omega
def lastId (ts : List Tn) (i : Nat) : Int := if i = 0 then 0 else (nthT ts (i - 1)).id
def okI (ts : List Tn) (i : Nat) : Bool := okAt (lastId ts i) (nthT ts i)
def rightB (ts : List Tn) : Bool := (List.range ts.length).all (okI ts)
theorem rightB_iff (ts : List Tn) : rightB ts = true ↔ ∀ i, i < ts.length → okI ts i = true := by
  simp [rightB, List.all_eq_true]
theorem rightB_no {ts : List Tn} {i : Nat} (hi : i < ts.length) (h : okI ts i = false) : rightB ts = false := by
  rcases Bool.eq_false_or_eq_true (rightB ts) with h1 | h1
  · have := (rightB_iff ts).1 h1 i hi
    rw [h] at this; cases this
  · exact h1
theorem ok_id {ts : List Tn} (n : Nat) (h : ∀ i, i < n → okI ts i = true) : ∀ i, i < n → (i : Int) + 1 ≤ (nthT ts i).id ∧ (nthT ts i).id ≤ 16
  | 0, hi => by
    have := (okAt_iff _ _).1 (h 0 hi)
    simp [lastId] at this
    omega
  | i + 1, hi => by
    have h1 := (okAt_iff _ _).1 (h (i + 1) hi)
    have h2 := ok_id n h i (by omega)
    simp [lastId] at h1
    omega
theorem ok_len {ts : List Tn} (n : Nat) (h : ∀ i, i < n → okI ts i = true) : n ≤ 16 := by
  rcases Nat.eq_zero_or_pos n with h0 | h0
  · omega
  · have := ok_id n h (n - 1) (by omega)
    omega
theorem last_nonneg {ts : List Tn} (i : Nat) (h : ∀ k, k < i → okI ts k = true) : 0 ≤ lastId ts i := by
  unfold lastId
  split
  · omega
  · have := ok_id i h (i - 1) (by omega)
    omega
/-- a number of the first ones, together -/
def sumF (f : Tn → Int) (ts : List Tn) : Nat → Int
  | 0 => 0
  | i + 1 => sumF f ts i + f (nthT ts i)
theorem sumQ_bd {ts : List Tn} (n : Nat) (h : ∀ i, i < n → okI ts i = true) : ∀ i, i ≤ n → 0 ≤ sumF Tn.q ts i ∧ sumF Tn.q ts i ≤ 4096 * i
  | 0, _ => by simp [sumF]
  | i + 1, hi => by
    have h1 := (okAt_iff _ _).1 (h i (by omega))
    have h2 := sumQ_bd n h i (by omega)
    simp only [sumF]
    omega
theorem sumU_bd {ts : List Tn} (n : Nat) (h : ∀ i, i < n → okI ts i = true) : ∀ i, i ≤ n → 0 ≤ sumF Tn.u ts i ∧ sumF Tn.u ts i ≤ 4096 * i ∧ sumF Tn.u ts i ≤ sumF Tn.q ts i
  | 0, _ => by simp [sumF]
  | i + 1, hi => by
    have h1 := (okAt_iff _ _).1 (h i (by omega))
    have h2 := sumU_bd n h i (by omega)
    simp only [sumF]
    omega
/-! ### one more -/
def ins (t : Tn) : List Tn → List Tn
  | [] => [t]
  | x :: r => if t.id < x.id then t :: x :: r else x :: ins t r
def stepW (t : Tn) (a : List Tn × Bool) (x : Tn) : List Tn × Bool :=
  if a.2 = false ∧ t.id < x.id then (a.1 ++ [t] ++ [x], true) else (a.1 ++ [x], a.2)
def wantN (t : Tn) (ts : List Tn) (i : Nat) : List Tn × Bool := (ts.take i).foldl (stepW t) ([], false)
def finW (t : Tn) (a : List Tn × Bool) : List Tn := if a.2 = true then a.1 else a.1 ++ [t]
theorem fold_done (t : Tn) : ∀ (r acc : List Tn), r.foldl (stepW t) (acc, true) = (acc ++ r, true)
  | [], acc => by simp
  | x :: r, acc => by rw [List.foldl_cons, stepW, if_neg (by simp), fold_done t r]; simp
theorem fold_ins (t : Tn) : ∀ (r acc : List Tn), finW t (r.foldl (stepW t) (acc, false)) = acc ++ ins t r
  | [], acc => rfl
  | x :: r, acc => by
    rw [List.foldl_cons, stepW, ins]
    by_cases h : t.id < x.id
    · rw [if_pos ⟨rfl, h⟩, if_pos h, fold_done]
      simp [finW]
    · rw [if_neg (fun e => h e.2), if_neg h, fold_ins t r]
      simp
theorem want_ins (t : Tn) (ts : List Tn) : finW t (wantN t ts ts.length) = ins t ts := by
  unfold wantN
  rw [List.take_length, fold_ins, List.nil_append]
theorem want_succ (t : Tn) (ts : List Tn) (i : Nat) (hi : i < ts.length) : wantN t ts (i + 1) = stepW t (wantN t ts i) (nthT ts i) := by
  unfold wantN
  rw [List.take_succ_eq_append_getElem hi, List.foldl_append, nthT_get ts i hi]
  rfl
theorem want_len (t : Tn) (ts : List Tn) : ∀ i, i ≤ ts.length → (wantN t ts i).1.length = i + (if (wantN t ts i).2 = true then 1 else 0)
  | 0, _ => rfl
  | i + 1, hi => by
    have h := want_len t ts i (by omega)
    rw [want_succ t ts i (by omega)]
    unfold stepW
    split
    · rename_i h2
      rw [h2.1] at h
      simp at h ⊢
      omega
    · simp at h ⊢
      omega
theorem ins_perm (t : Tn) : ∀ ts : List Tn, (ins t ts).Perm (ts ++ [t])
  | [] => List.Perm.refl _
  | x :: r => by
    unfold ins
    split
    · exact (List.perm_append_singleton t (x :: r)).symm
    · exact List.Perm.cons x (ins_perm t r)
theorem ins_len (t : Tn) (ts : List Tn) : (ins t ts).length = ts.length + 1 := by
  rw [(ins_perm t ts).length_eq]; simp
theorem ins_mem (t : Tn) (ts : List Tn) (x : Tn) : x ∈ ins t ts ↔ x ∈ ts ∨ x = t := by
  rw [(ins_perm t ts).mem_iff]; simp
theorem ins_sorted (t : Tn) : ∀ ts : List Tn, ts.Pairwise (fun a b => a.id < b.id) → (∀ x ∈ ts, x.id ≠ t.id) → (ins t ts).Pairwise (fun a b => a.id < b.id)
  | [], _, _ => by simp [ins]
  | x :: r, h, hn => by
    rw [List.pairwise_cons] at h
    unfold ins
    split
    · rename_i hlt
      rw [List.pairwise_cons, List.pairwise_cons]
      refine ⟨fun y hy => ?_, h.1, h.2⟩
      rcases List.mem_cons.1 hy with rfl | hy
      · exact hlt
      · have := h.1 y hy; omega
    · rename_i hlt
      rw [List.pairwise_cons]
      refine ⟨fun y hy => ?_, ins_sorted t r h.2 (fun y hy => hn y (by simp [hy]))⟩
      rcases (ins_mem t r y).1 hy with hy | rfl
      · exact h.1 y hy
      · have := hn x (by simp); omega
theorem sorted_one : ∀ l1 l2 : List Tn, l1.Pairwise (fun a b => a.id < b.id) → l2.Perm l1 → l2.Pairwise (fun a b => ¬ b.id < a.id) → l2 = l1
  | [], l2, _, hp, _ => hp.eq_nil
  | a :: r1, [], _, hp, _ => by have := hp.length_eq; simp at this
  | a :: r1, b :: r2, h1, hp, h2 => by
    rw [List.pairwise_cons] at h1 h2
    have hb : b = a ∨ b ∈ r1 := by
      have : b ∈ a :: r1 := hp.mem_iff.1 (by simp)
      simpa using this
    have ha : a = b ∨ a ∈ r2 := by
      have : a ∈ b :: r2 := hp.mem_iff.2 (by simp)
      simpa using this
    rcases hb with rfl | hb
    · rw [sorted_one r1 r2 h1.2 hp.cons_inv h2.2]
    · rcases ha with rfl | ha
      · rw [sorted_one r1 r2 h1.2 hp.cons_inv h2.2]
      · exact absurd (h1.1 b hb) (h2.1 a ha)
theorem nth_mem {ts : List Tn} {x : Tn} (h : x ∈ ts) : ∃ i, i < ts.length ∧ nthT ts i = x := by
  obtain ⟨i, hi, e⟩ := List.getElem_of_mem h
  exact ⟨i, hi, by rw [nthT_get _ _ hi]; exact e⟩
theorem right_lt {ts : List Tn} (h : rightB ts = true) : ∀ j i, i < j → j < ts.length → (nthT ts i).id < (nthT ts j).id
  | 0, i, h1, _ => by omega
  | j + 1, i, h1, h2 => by
    have h3 := (okAt_iff _ _).1 ((rightB_iff ts).1 h (j + 1) h2)
    simp [lastId] at h3
    rcases Nat.lt_succ_iff_lt_or_eq.1 h1 with h4 | rfl
    · have := right_lt h j i h4 (by omega)
      omega
    · exact h3.1
theorem right_sorted {ts : List Tn} (h : rightB ts = true) : ts.Pairwise (fun a b => a.id < b.id) := by
  rw [List.pairwise_iff_getElem]
  intro i j hi hj hij
  rw [← nthT_get ts i hi, ← nthT_get ts j hj]
  exact right_lt h j i hij hj
/-- sorted by ID, of tenants and one more: the one more is in its place -/
theorem sorted_ins {ts : List Tn} {t : Tn} (h : rightB ts = true) (hn : ∀ x ∈ ts, x.id ≠ t.id) (l : List Tn) (hp : l.Perm (ts ++ [t])) (hs : l.Pairwise (fun a b => ¬ b.id < a.id)) : l = ins t ts :=
  sorted_one _ _ (ins_sorted t ts (right_sorted h) hn) (hp.trans (ins_perm t ts).symm) hs
/-! ### the first one with an ID -/
def firstI (id : Int) (ts : List Tn) (j : Nat) : Prop := (nthT ts j).id = id ∧ ∀ k, k < j → (nthT ts k).id ≠ id
theorem first_or (id : Int) (ts : List Tn) : (∃ j, j < ts.length ∧ firstI id ts j) ∨ ∀ k, k < ts.length → (nthT ts k).id ≠ id := by
  have : ∀ n, n ≤ ts.length → (∃ j, j < n ∧ firstI id ts j) ∨ ∀ k, k < n → (nthT ts k).id ≠ id := by
    intro n
    induction n with
    | zero => exact fun _ => .inr (fun k hk => by omega)
    | succ n ih =>
      intro hn
      rcases ih (by omega) with ⟨j, hj, h⟩ | h
      · exact .inl ⟨j, by omega, h⟩
      · by_cases e : (nthT ts n).id = id
        · exact .inl ⟨n, by omega, e, h⟩
        · refine .inr fun k hk => ?_
          rcases Nat.lt_succ_iff_lt_or_eq.1 hk with h1 | rfl
          · exact h k h1
          · exact e
  exact this ts.length (Nat.le_refl _)
/-! ### one changed -/
def moved (ts : List Tn) (j : Nat) (by_ : Int) : List Tn := ts.set j { nthT ts j with u := (nthT ts j).u + by_ }
theorem moved_len (ts : List Tn) (j : Nat) (b : Int) : (moved ts j b).length = ts.length := by simp [moved]
theorem nth_set (ts : List Tn) (j i : Nat) (t : Tn) (hj : j < ts.length) : nthT (ts.set j t) i = if j = i then t else nthT ts i := by
  simp only [nthT, List.getD_eq_getElem?_getD, List.getElem?_set]
  by_cases e : j = i
  · subst e; simp [hj]
  · simp [e]
theorem moved_nth (ts : List Tn) (j i : Nat) (b : Int) (hj : j < ts.length) : nthT (moved ts j b) i = if j = i then { nthT ts j with u := (nthT ts j).u + b } else nthT ts i := nth_set ts j i _ hj
end Go.Proofs.Ytcbfdofeedlajaa.QuotaP
