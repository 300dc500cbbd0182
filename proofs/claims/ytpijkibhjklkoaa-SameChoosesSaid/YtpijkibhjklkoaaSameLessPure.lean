/- Plain laws on which of two lists of bytes is less, as the machine-side functions tell it. -/
import Derived.Test.YtpijkibhjklkoaaPSameLessx1
import Derived.Test.YtpijkibhjklkoaaBits
namespace Go.Proofs.Ytpijkibhjklkoaa.LessPure
open Go.RowKit Go.Proofs.Ytpijkibhjklkoaa.PSameLess Go.Proofs.YtpijkibhjklkoaaW.PrintWords Go.Proofs.YtpijkibhjklkoaaW.PrintLast
open Go.Proofs.Ytpijkibhjklkoaa.Bits

theorem none_spec (n : Nat) (h : n < 4294967296) : same_none.f n = some (if n = 0 then 1 else 0) := by
  unfold same_none.f
  by_cases h0 : n = 0
  · subst h0; rfl
  · rw [if_neg h0]
    have e : (-(n : Int)) % 4294967296 = ((4294967296 - n : Nat) : Int) := by omega
    rw [e, nu32_or _ _ h (by omega)]
    have h1 := @Nat.left_le_or n (4294967296 - n)
    have h2 := @Nat.right_le_or n (4294967296 - n)
    have h3 : n ||| (4294967296 - n) < 4294967296 := Nat.or_lt_two_pow (n := 32) h (by omega)
    have e2 : ((n ||| (4294967296 - n) : Nat) : Int) / 2147483648 = ((1 : Nat) : Int) := by omega
    rw [e2, show (1 : Int) = ((1 : Nat) : Int) from rfl, nu32_xor 1 1 (by omega) (by omega)]
    rfl

def Byte (l : List Int) : Prop := ∀ x ∈ l, 0 ≤ x ∧ x < 256
theorem byte_of {l : List Int} (h : ∀ x ∈ l, (Lit.int .u8 x).wf = true) : Byte l := by
  intro x hx
  have := h x hx
  simp [Lit.wf, IntKind.min, IntKind.max, IntKind.signed, IntKind.bits] at this
  omega
theorem rd_byte {l : List Int} (h : Byte l) (i : Nat) (hi : i < l.length) : ∃ a : Nat, a < 256 ∧ rd l (i : Int) = a := by
  have := h (l.getD i 0) (by rw [List.getD_eq_getElem?_getD, List.getElem?_eq_getElem hi]; exact List.getElem_mem hi)
  exact ⟨(l.getD i 0).toNat, by omega, by unfold rd; rw [Int.toNat_natCast]; omega⟩
theorem wrap_up {i : Nat} (h : (i : Int) ≤ 140737488351232) : wrap64 ((i : Int) + 1) = ((i + 1 : Nat) : Int) := by
  unfold wrap64; omega
theorem eq_of_rd {x y : List Int} (hl : x.length = y.length) (h : ∀ j : Nat, j < x.length → rd x j = rd y j) : x = y := by
  apply List.ext_getElem hl
  intro i h1 h2
  have := h i h1
  simpa [rd, List.getD_eq_getElem?_getD, List.getElem?_eq_getElem h1, List.getElem?_eq_getElem h2] using this

/-- from place i on x is less than y -/
def L (x y : List Int) (i : Nat) : Prop := ∃ j : Nat, i ≤ j ∧ j < x.length ∧ rd x j < rd y j ∧ ∀ m : Nat, i ≤ m → m < j → rd x m = rd y m

theorem L_end (x y : List Int) (i : Nat) (h : x.length ≤ i) : ¬ L x y i := by rintro ⟨j, h1, h2, _⟩; omega
theorem L_eq (x y : List Int) (i : Nat) (h : rd x i = rd y i) : L x y i ↔ L x y (i + 1) := by
  constructor
  · rintro ⟨j, h1, h2, h3, h4⟩
    by_cases e : j = i
    · subst e; omega
    · exact ⟨j, by omega, h2, h3, fun m a b => h4 m (by omega) b⟩
  · rintro ⟨j, h1, h2, h3, h4⟩
    refine ⟨j, by omega, h2, h3, fun m a b => ?_⟩
    by_cases e : m = i
    · subst e; exact h
    · exact h4 m (by omega) b
theorem L_ne (x y : List Int) (i : Nat) (hi : i < x.length) (h : rd x i ≠ rd y i) : L x y i ↔ rd x i < rd y i := by
  constructor
  · rintro ⟨j, h1, h2, h3, h4⟩
    by_cases e : j = i
    · subst e; exact h3
    · exact absurd (h4 i (by omega) (by omega)) h
  · intro h'; exact ⟨i, by omega, hi, h', fun m a b => by omega⟩
theorem L_prefix (x y : List Int) (i : Nat) (h : ∀ j : Nat, j < i → rd x j = rd y j) : L x y 0 ↔ L x y i := by
  induction i with
  | zero => rfl
  | succ i ih => rw [ih (fun j hj => h j (by omega)), L_eq x y i (h i (by omega))]

theorem less_l0 (x y : List Int) (hx : Byte x) (hy : Byte y) (hl : x.length = y.length) (hm : x.length ≤ 140737488351232) (d : Nat) :
    ∀ (k i : Nat) (less known : Nat), i + d = x.length → d < k → less ≤ known → known ≤ 1 →
    ∃ r : Bool, same_Less.l0 k x y (less : Int) (known : Int) (x.length : Int) (i : Int) = some (r, 0) ∧
      (r = true ↔ less = 1 ∨ (known = 0 ∧ L x y i)) := by
  induction d with
  | zero =>
    intro k i less known hi hk h1 h2
    obtain ⟨k, rfl⟩ : ∃ m, k = m + 1 := ⟨k - 1, by omega⟩
    refine ⟨(less : Int) == 1, ?_, ?_⟩
    · simp only [same_Less.l0]; rw [if_neg (by omega)]
    · rw [beq_iff_eq]
      constructor
      · intro h; exact .inl (by omega)
      · rintro (h | ⟨_, h⟩)
        · omega
        · exact absurd h (L_end _ _ _ (by omega))
  | succ d ih =>
    intro k i less known hi hk h1 h2
    obtain ⟨k, rfl⟩ : ∃ m, k = m + 1 := ⟨k - 1, by omega⟩
    obtain ⟨a, ha', ea⟩ := rd_byte hx i (by omega)
    obtain ⟨b, hb', eb⟩ := rd_byte hy i (by omega)
    have hc : a ^^^ b < 256 := Nat.xor_lt_two_pow (n := 8) ha' hb'
    have e1 : (a : Int) % 4294967296 = a := by omega
    have e2 : (b : Int) % 4294967296 = b := by omega
    have step : ∀ less' known' : Nat, Go.bits .or .u32 less (Go.bits .and .u32 ((((a : Int) - b) % 4294967296) / 2147483648) (Go.bits .xor .u32 known 1)) = less' →
        Go.bits .or .u32 known (Go.bits .xor .u32 (if a ^^^ b = 0 then 1 else 0) 1) = known' →
        same_Less.l0 (k + 1) x y less known (x.length : Int) i = same_Less.l0 k x y less' known' (x.length : Int) ((i + 1 : Nat) : Int) := by
      intro less' known' h3 h4
      rw [same_Less.l0]
      rw [if_pos (by omega), if_pos (by omega), if_pos (by omega), if_pos (by omega), ea, eb, e1, e2, nu32_xor a b (by omega) (by omega), none_spec _ (by omega)]
      simp only [Option.bind_some]
      rw [h3, h4, wrap_up (by omega)]
    by_cases hab : a = b
    · subst hab
      obtain ⟨r, hr, hr2⟩ := ih k (i + 1) less known (by omega) (by omega) h1 h2
      refine ⟨r, ?_, ?_⟩
      · rw [step less known ?_ ?_]
        · exact hr
        · rw [show (((a : Int) - a) % 4294967296) / 2147483648 = ((0 : Nat) : Int) by omega]
          obtain rfl | rfl : known = 0 ∨ known = 1 := by omega
          · obtain rfl : less = 0 := by omega
            rfl
          · obtain rfl | rfl : less = 0 ∨ less = 1 := by omega
            · rfl
            · rfl
        · rw [Nat.xor_self, if_pos rfl]
          obtain rfl | rfl : known = 0 ∨ known = 1 := by omega
          · rfl
          · rfl
      · rw [hr2, ← L_eq x y i (by rw [ea, eb])]
    · have hx0 : a ^^^ b ≠ 0 := fun h => hab ((xor_zero a b).mp h)
      obtain rfl | rfl : known = 0 ∨ known = 1 := by omega
      · obtain rfl : less = 0 := by omega
        by_cases hlt : a < b
        · obtain ⟨r, hr, hr2⟩ := ih k (i + 1) 1 1 (by omega) (by omega) (by omega) (by omega)
          refine ⟨r, ?_, ?_⟩
          · rw [step 1 1 ?_ ?_]
            · exact hr
            · rw [show (((a : Int) - b) % 4294967296) / 2147483648 = ((1 : Nat) : Int) by omega]; rfl
            · rw [if_neg hx0]; rfl
          · rw [hr2, L_ne x y i (by omega) (by rw [ea, eb]; omega), ea, eb]
            constructor
            · intro _; exact .inr ⟨rfl, by omega⟩
            · intro _; exact .inl rfl
        · obtain ⟨r, hr, hr2⟩ := ih k (i + 1) 0 1 (by omega) (by omega) (by omega) (by omega)
          refine ⟨r, ?_, ?_⟩
          · rw [step 0 1 ?_ ?_]
            · exact hr
            · rw [show (((a : Int) - b) % 4294967296) / 2147483648 = ((0 : Nat) : Int) by omega]; rfl
            · rw [if_neg hx0]; rfl
          · rw [hr2, L_ne x y i (by omega) (by rw [ea, eb]; omega), ea, eb]
            constructor
            · rintro (h | ⟨h, _⟩) <;> omega
            · rintro (h | ⟨_, h⟩) <;> omega
      · have hbit : ∃ q : Nat, q ≤ 1 ∧ (((a : Int) - b) % 4294967296) / 2147483648 = (q : Int) := by
          by_cases hlt : a < b
          · exact ⟨1, by omega, by omega⟩
          · exact ⟨0, by omega, by omega⟩
        obtain ⟨q, hq, eq⟩ := hbit
        obtain ⟨r, hr, hr2⟩ := ih k (i + 1) less 1 (by omega) (by omega) (by omega) (by omega)
        refine ⟨r, ?_, ?_⟩
        · rw [step less 1 ?_ ?_]
          · exact hr
          · rw [eq]
            obtain rfl | rfl : q = 0 ∨ q = 1 := by omega
            · obtain rfl | rfl : less = 0 ∨ less = 1 := by omega
              · rfl
              · rfl
            · obtain rfl | rfl : less = 0 ∨ less = 1 := by omega
              · rfl
              · rfl
          · rw [if_neg hx0]; rfl
        · rw [hr2]
          constructor
          · rintro (h | ⟨h, _⟩)
            · exact .inl h
            · omega
          · rintro (h | ⟨h, _⟩)
            · exact .inl h
            · omega

theorem less_spec (x y : List Int) (hx : Byte x) (hy : Byte y) (hl : x.length = y.length) (hm : x.length ≤ 140737488351232) (k : Nat) (hk : x.length < k) :
    ∃ r : Bool, same_Less.f k x y = some (r, 0) ∧ (r = true ↔ L x y 0) := by
  obtain ⟨r, h1, h2⟩ := less_l0 x y hx hy hl hm x.length k 0 0 0 (by omega) hk (by omega) (by omega)
  refine ⟨r, ?_, ?_⟩
  · unfold same_Less.f
    rw [if_pos (by omega)]
    exact h1
  · rw [h2]
    constructor
    · rintro (h | h)
      · omega
      · exact h.2
    · exact fun h => .inr ⟨rfl, h⟩

theorem less_unlike (x y : List Int) (hl : x.length ≠ y.length) (k : Nat) : same_Less.f k x y = some (false, 2) := by
  unfold same_Less.f
  rw [if_neg (by omega)]

theorem differs_l0 (x y : List Int) (hx : Byte x) (hy : Byte y) (hl : x.length = y.length) (hm : x.length ≤ 140737488351232) (d : Nat) :
    ∀ (k i acc : Nat), i + d = x.length → acc < 4294967296 → d < k →
    ∃ r : Nat, same_differs.l0 k x y (acc : Int) (x.length : Int) (i : Int) = some (r : Int) ∧ r < 4294967296 ∧
      (r = 0 ↔ acc = 0 ∧ ∀ j : Nat, i ≤ j → j < x.length → rd x j = rd y j) := by
  induction d with
  | zero =>
    intro k i acc hi ha hk
    obtain ⟨k, rfl⟩ : ∃ m, k = m + 1 := ⟨k - 1, by omega⟩
    refine ⟨acc, ?_, ha, ?_⟩
    · simp only [same_differs.l0]; rw [if_neg (by omega)]
    · constructor
      · intro h; exact ⟨h, fun j h1 h2 => by omega⟩
      · exact fun h => h.1
  | succ d ih =>
    intro k i acc hi ha hk
    obtain ⟨k, rfl⟩ : ∃ m, k = m + 1 := ⟨k - 1, by omega⟩
    obtain ⟨a, ha', ea⟩ := rd_byte hx i (by omega)
    obtain ⟨b, hb', eb⟩ := rd_byte hy i (by omega)
    have hc : a ^^^ b < 256 := Nat.xor_lt_two_pow (n := 8) ha' hb'
    have ho : acc ||| (a ^^^ b) < 4294967296 := Nat.or_lt_two_pow (n := 32) ha (by omega)
    obtain ⟨r, hr, hr2, hr3⟩ := ih k (i + 1) (acc ||| (a ^^^ b)) (by omega) ho (by omega)
    refine ⟨r, ?_, hr2, ?_⟩
    · simp only [same_differs.l0]
      rw [if_pos (by omega), if_pos (by omega), if_pos (by omega), if_pos (by omega), ea, eb, nu8_xor _ _ ha' hb',
        show ((a ^^^ b : Nat) : Int) % 4294967296 = ((a ^^^ b : Nat) : Int) by omega, nu32_or _ _ ha (by omega), wrap_up (by omega)]
      exact hr
    · rw [hr3, or_zero, xor_zero]
      constructor
      · rintro ⟨⟨h1, h2⟩, h3⟩
        refine ⟨h1, fun j hj1 hj2 => ?_⟩
        by_cases e : j = i
        · subst e; rw [ea, eb, h2]
        · exact h3 j (by omega) hj2
      · rintro ⟨h1, h3⟩
        refine ⟨⟨h1, ?_⟩, fun j hj1 hj2 => h3 j (by omega) hj2⟩
        have := h3 i (by omega) (by omega)
        rw [ea, eb] at this
        omega

theorem bytes_spec (x y : List Int) (hx : Byte x) (hy : Byte y) (hm : x.length ≤ 140737488351232) (k : Nat) (hk : x.length < k) :
    same_Bytes.f k x y = some (decide (x = y)) := by
  unfold same_Bytes.f
  by_cases hl : x.length = y.length
  · rw [if_pos (by omega)]
    obtain ⟨r, h1, h2, h3⟩ := differs_l0 x y hx hy hl hm x.length k 0 0 (by omega) (by omega) hk
    have h3 : r = 0 ↔ x = y := by
      rw [h3]
      constructor
      · rintro ⟨_, h⟩; exact eq_of_rd hl (fun j hj => h j (by omega) hj)
      · rintro rfl; exact ⟨rfl, fun _ _ _ => rfl⟩
    have h1' : same_differs.f k x y = some (r : Int) := h1
    rw [h1']; simp only [Option.bind_some]; rw [none_spec _ h2]; simp only [Option.bind_some]
    by_cases e : x = y
    · rw [if_pos (h3.mpr e)]; simp [e]
    · rw [if_neg (fun h => e (h3.mp h))]; simp [e]
  · rw [if_neg (by omega)]
    have : x ≠ y := fun h => hl (by rw [h])
    simp [this]

theorem awake_spec : chatelainelaw07_awake.f 10 = some true := by kernel_rfl

/-- what three calls tell, together -/
theorem told (x y : List Int) (hl : x.length = y.length) (l m : Bool) (hL : l = true ↔ L x y 0) (hM : m = true ↔ L y x 0) :
    (x = y ∧ l = false ∧ m = false) ∨ (x ≠ y ∧ l = true ∧ m = false) ∨ (x ≠ y ∧ l = false ∧ m = true) := by
  by_cases e : x = y
  · subst e
    have h0 : ¬ L x x 0 := by rintro ⟨j, _, _, h, _⟩; omega
    left
    refine ⟨rfl, ?_, ?_⟩
    · cases l; rfl; exact absurd (hL.mp rfl) h0
    · cases m; rfl; exact absurd (hM.mp rfl) h0
  · right
    have : ∃ i : Nat, i < x.length ∧ rd x i ≠ rd y i ∧ ∀ j : Nat, j < i → rd x j = rd y j := by
      have h1 : ∃ i : Nat, i < x.length ∧ rd x i ≠ rd y i := by
        refine Classical.byContradiction fun h => e (eq_of_rd hl fun j hj => ?_)
        exact Classical.byContradiction fun h' => h ⟨j, hj, h'⟩
      obtain ⟨i, hi⟩ := h1
      induction i using Nat.strongRecOn with
      | ind i ih =>
        by_cases hall : ∀ j : Nat, j < i → rd x j = rd y j
        · exact ⟨i, hi.1, hi.2, hall⟩
        · simp only [Classical.not_forall] at hall
          obtain ⟨j, hj, hne⟩ := hall
          exact ih j hj ⟨by omega, hne⟩
    obtain ⟨i, hi, hne, hpre⟩ := this
    have a1 := (L_prefix x y i hpre).trans (L_ne x y i hi hne)
    have a2 := (L_prefix y x i (fun j hj => (hpre j hj).symm)).trans (L_ne y x i (by omega) (fun h => hne h.symm))
    by_cases hlt : rd x i < rd y i
    · left
      exact ⟨e, hL.mpr (a1.mpr hlt), by cases m; rfl; exact absurd (a2.mp (hM.mp rfl)) (by omega)⟩
    · right
      exact ⟨e, by cases l; rfl; exact absurd (a1.mp (hL.mp rfl)) hlt, hM.mpr (a2.mpr (by omega))⟩

end Go.Proofs.Ytpijkibhjklkoaa.LessPure
