/- How many ways: plain. -/
import Derived.Maps.RangeWalk
import Derived.Maps.OwnOps
import Derived.Maps.OwnSet
import Derived.Maps.Views
import Derived.Test.YteajblfkfmopfaaCrashLast
namespace Go.Proofs.Yteajblfkfmopfaa.LawCrash
set_option linter.unusedVariables false
set_option linter.unusedSimpArgs false
open Go Go.RowKit Go.Maps Go.Proofs.Yteajblfkfmopfaa.Mem

theorem snoc_ind {α : Type} {P : List α → Prop} (h0 : P []) (hs : ∀ l x, P l → P (l ++ [x])) (l : List α) : P l := by
  have key : ∀ n (l : List α), l.length = n → P l := by
    intro n
    induction n with
    | zero => intro l hl; rw [List.length_eq_zero_iff.1 hl]; exact h0
    | succ n ih =>
      intro l hl
      have hne : l ≠ [] := fun e => by rw [e] at hl; simp at hl
      rw [← List.dropLast_concat_getLast hne]
      exact hs _ _ (ih _ (by rw [List.length_dropLast, hl]; rfl))
  exact key _ l rfl
/-- each once, the first ones first -/
def distF : List Int → List Int → List Int
  | acc, [] => acc
  | acc, x :: r => distF (if x ∈ acc then acc else acc ++ [x]) r
def dist (l : List Int) : List Int := distF [] l
theorem distF_snoc : ∀ (l acc : List Int) (x : Int), distF acc (l ++ [x]) = if x ∈ distF acc l then distF acc l else distF acc l ++ [x]
  | [], _, _ => rfl
  | _ :: r, _, x => distF_snoc r _ x
theorem dist_snoc (l : List Int) (x : Int) : dist (l ++ [x]) = if x ∈ dist l then dist l else dist l ++ [x] := distF_snoc l [] x
theorem mem_dist (l : List Int) (y : Int) : y ∈ dist l ↔ y ∈ l := by
  refine snoc_ind (P := fun l => y ∈ dist l ↔ y ∈ l) (by simp [dist, distF]) (fun l x ih => ?_) l
  rw [dist_snoc]
  by_cases h : x ∈ dist l
  · rw [if_pos h, ih, List.mem_append, List.mem_singleton]
    constructor
    · exact .inl
    · rintro (h1 | rfl)
      · exact h1
      · exact ih.1 h
  · rw [if_neg h, List.mem_append, List.mem_append, ih]
theorem nodup_dist (l : List Int) : (dist l).Nodup := by
  refine snoc_ind (P := fun l => (dist l).Nodup) (by simp [dist, distF]) (fun l x ih => ?_) l
  rw [dist_snoc]
  by_cases h : x ∈ dist l
  · rw [if_pos h]; exact ih
  · rw [if_neg h, List.nodup_append]
    refine ⟨ih, by simp, fun a ha b hb e => h ?_⟩
    rw [List.mem_singleton] at hb
    rw [← hb, ← e]
    exact ha
/-- the product over some of them -/
def prodF (f : Int → Nat) (p : Int → Bool) : List Int → Nat
  | [] => 1
  | x :: r => (if p x = true then f x else 1) * prodF f p r
theorem prodF_congr (f g : Int → Nat) (p q : Int → Bool) : ∀ l : List Int, (∀ x ∈ l, f x = g x ∧ p x = q x) → prodF f p l = prodF g q l
  | [], _ => rfl
  | x :: r, h => by
    rw [prodF, prodF, prodF_congr f g p q r fun y hy => h y (List.mem_cons_of_mem _ hy), (h x (List.mem_cons_self ..)).1, (h x (List.mem_cons_self ..)).2]
theorem prodF_app (f : Int → Nat) (p : Int → Bool) : ∀ (l : List Int) (x : Int), prodF f p (l ++ [x]) = prodF f p l * (if p x = true then f x else 1)
  | [], x => by simp [prodF]
  | y :: r, x => by
    rw [List.cons_append, prodF, prodF_app f p r x, prodF, Nat.mul_assoc]
theorem prodF_step (f : Int → Nat) (p : Int → Bool) (x : Int) : ∀ l : List Int, l.Nodup → x ∈ l → p x = false → prodF f (fun y => p y || (y == x)) l = prodF f p l * f x
  | [], _, h, _ => by cases h
  | y :: r, hn, h, hp => by
    rw [List.nodup_cons] at hn
    rw [prodF, prodF]
    by_cases e : y = x
    · subst e
      have h1 : prodF f (fun z => p z || (z == y)) r = prodF f p r := prodF_congr _ _ _ _ r fun z hz => ⟨rfl, by
        have : (z == y) = false := by rw [beq_eq_false_iff_ne]; exact fun e => hn.1 (e ▸ hz)
        rw [this, Bool.or_false]⟩
      rw [h1, if_pos (by simp), hp, if_neg (by decide), Nat.one_mul, Nat.mul_comm]
    · have hx : x ∈ r := by
        rcases List.mem_cons.1 h with h1 | h1
        · exact absurd h1.symm e
        · exact h1
      have he : (y == x) = false := beq_eq_false_iff_ne.2 e
      rw [prodF_step f p x r hn.2 hx hp]
      simp only [he, Bool.or_false, Nat.mul_assoc]
theorem prodF_pos (f : Int → Nat) (hf : ∀ x, 1 ≤ f x) (p : Int → Bool) : ∀ l : List Int, 1 ≤ prodF f p l
  | [] => Nat.le_refl _
  | x :: r => by
    rw [prodF]
    refine Nat.mul_pos ?_ (prodF_pos f hf p r)
    split
    · exact hf x
    · exact Nat.one_pos
theorem prodF_le (f : Int → Nat) (hf : ∀ x, 1 ≤ f x) (p : Int → Bool) : ∀ l : List Int, prodF f p l ≤ prodF f (fun _ => true) l
  | [] => Nat.le_refl _
  | x :: r => by
    rw [prodF, prodF]
    refine Nat.mul_le_mul ?_ (prodF_le f hf p r)
    rw [if_pos rfl]
    split
    · exact Nat.le_refl _
    · exact hf x
theorem prodF_two (f g : Int → Nat) (x : Int) (hx : g x ≤ 2 * f x) (hg : ∀ y, y ≠ x → g y = f y) : ∀ l : List Int, l.Nodup → prodF g (fun _ => true) l ≤ 2 * prodF f (fun _ => true) l
  | [], _ => by simp [prodF]
  | y :: r, hn => by
    rw [List.nodup_cons] at hn
    rw [prodF, prodF, if_pos rfl, if_pos rfl]
    by_cases e : y = x
    · subst e
      have h1 : prodF g (fun _ => true) r = prodF f (fun _ => true) r := prodF_congr _ _ _ _ r fun z hz => ⟨hg z fun e => hn.1 (e ▸ hz), rfl⟩
      rw [h1, ← Nat.mul_assoc]
      exact Nat.mul_le_mul_right _ hx
    · rw [hg y e, Nat.mul_left_comm]
      exact Nat.mul_le_mul_left _ (prodF_two f g x hx hg r hn.2)
/-- how many ways -/
def waysF (l : List Int) (x : Int) : Nat := l.count x + 1
def wantN (l : List Int) : Nat := prodF (waysF l) (fun _ => true) (dist l)
theorem want_le (l : List Int) : wantN l ≤ 2 ^ l.length := by
  refine snoc_ind (P := fun l => wantN l ≤ 2 ^ l.length) (by simp [wantN, dist, distF, prodF]) (fun l x ih => ?_) l
  have hc : ∀ y, waysF (l ++ [x]) y = waysF l y + (if y = x then 1 else 0) := fun y => by
    unfold waysF
    rw [List.count_append, List.count_singleton]
    by_cases e : y = x
    · subst e; simp
    · rw [if_neg (by simpa using fun e2 => e e2.symm), if_neg e]
  rw [List.length_append, List.length_singleton, Nat.pow_succ, Nat.mul_comm]
  refine Nat.le_trans ?_ (Nat.mul_le_mul_left 2 ih)
  unfold wantN
  rw [dist_snoc]
  by_cases h : x ∈ dist l
  · rw [if_pos h]
    refine prodF_two (waysF l) (waysF (l ++ [x])) x (by rw [hc, if_pos rfl]; unfold waysF; omega) (fun y hy => by rw [hc, if_neg hy]; rfl) _ (nodup_dist l)
  · rw [if_neg h, prodF_app, if_pos rfl, hc, if_pos rfl]
    have h0 : waysF l x = 1 := by
      unfold waysF
      rw [List.count_eq_zero.2 fun e => h ((mem_dist l x).2 e)]
    rw [h0, Nat.mul_comm]
    refine Nat.mul_le_mul_left 2 (Nat.le_of_eq (prodF_congr _ _ _ _ _ fun y hy => ⟨?_, rfl⟩))
    rw [hc, if_neg (fun e : y = x => h (e ▸ hy))]
    rfl
/-- a datum that holds how often each has come -/
structure Cnt (D : DataW Unit) (l : List Int) : Prop where
  tidy : Tidy D
  at_ : ∀ x : Int, D.atKey (.int .i64 x) (.lit (.int .i64 0)) = .lit (.int .i64 ((l.count x : Nat) : Int))
  has_ : ∀ kl : Lit, has D kl = true ↔ ∃ x ∈ l, kl = .int .i64 x
  size_ : Maps.size D ≤ l.length
theorem Cnt.nil : Cnt (.map []) [] := ⟨tidy_empty, fun x => rfl, fun kl => by simp [has], Nat.le_refl _⟩
theorem Cnt.put {D : DataW Unit} {l : List Int} (h : Cnt D l) (x : Int) : Cnt (D.put (.int .i64 x) (.lit (.int .i64 ((l.count x + 1 : Nat) : Int)))) (l ++ [x]) := by
  refine ⟨h.tidy.put (k := .int .i64 x) trivial _, fun y => ?_, fun kl => ?_, ?_⟩
  · by_cases e : y = x
    · subst e
      rw [atKey_put_same (k := .int .i64 y) h.tidy.isMap trivial, List.count_append, List.count_singleton]
      simp
    · rw [atKey_put_other (fun e2 => e (by injection e2)), h.at_, List.count_append, List.count_singleton, if_neg (by simpa using fun e2 => e e2.symm)]
      rfl
  · by_cases e : kl = .int .i64 x
    · subst e
      rw [has_put_same (k := .int .i64 x) h.tidy.isMap trivial]
      simp
    · rw [has_put_other e, h.has_]
      constructor
      · rintro ⟨y, hy, rfl⟩
        exact ⟨y, List.mem_append_left _ hy, rfl⟩
      · rintro ⟨y, hy, rfl⟩
        rcases List.mem_append.1 hy with h1 | h1
        · exact ⟨y, h1, rfl⟩
        · rw [List.mem_singleton] at h1
          exact absurd (by rw [h1]) e
  · rw [size_put h.tidy, List.length_append]
    have := h.size_
    split
    · simp; omega
    · simp; omega
end Go.Proofs.Yteajblfkfmopfaa.LawCrash
