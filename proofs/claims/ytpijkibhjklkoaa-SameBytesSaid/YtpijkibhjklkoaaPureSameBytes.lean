/- any two lists of bytes are told the same just if each byte is; all are noughts just if each is. Conditions: none. -/
import Derived.Test.YtpijkibhjklkoaaPSameBytesx2
import Derived.Test.YtpijkibhjklkoaaBits
namespace Go.Proofs.Ytpijkibhjklkoaa.Pure
open Go.RowKit Go.Proofs.Ytpijkibhjklkoaa.PSameBytes Go.Proofs.YtpijkibhjklkoaaW.PrintWords Go.Proofs.YtpijkibhjklkoaaW.PrintLast
open Go.Proofs.Ytpijkibhjklkoaa.Bits

theorem none_spec (n : Nat) (h : n < 4294967296) : same_none.f n = some (if n = 0 then 1 else 0) := by
  unfold same_none.f
  by_cases h0 : n = 0
  · subst h0; rfl
  · rw [if_neg h0]
    have e : (-(n : Int)) % 4294967296 = ((4294967296 - n : Nat) : Int) := by omega
    rw [e, nu32_or _ _ h (by omega)]
    have h1 := @Nat.left_le_or n (4294967296 - n)
    have h2 := @Nat.right_le_or n (4294967296 - n)
    have h3 : n ||| (4294967296 - n) < 4294967296 := Nat.or_lt_two_pow (n := 32) h (by omega)
    have e2 : ((n ||| (4294967296 - n) : Nat) : Int) / 2147483648 = ((1 : Nat) : Int) := by omega
    rw [e2, show (1 : Int) = ((1 : Nat) : Int) from rfl, nu32_xor 1 1 (by omega) (by omega)]
    rfl

def Byte (l : List Int) : Prop := ∀ x ∈ l, 0 ≤ x ∧ x < 256
theorem byte_of {l : List Int} (h : ∀ x ∈ l, (Lit.int .u8 x).wf = true) : Byte l := by
  intro x hx
  have := h x hx
  simp [Lit.wf, IntKind.min, IntKind.max, IntKind.signed, IntKind.bits] at this
  omega
theorem rd_byte {l : List Int} (h : Byte l) (i : Nat) (hi : i < l.length) : ∃ a : Nat, a < 256 ∧ rd l (i : Int) = a := by
  have := h (l.getD i 0) (by rw [List.getD_eq_getElem?_getD, List.getElem?_eq_getElem hi]; exact List.getElem_mem hi)
  exact ⟨(l.getD i 0).toNat, by omega, by unfold rd; rw [Int.toNat_natCast]; omega⟩

theorem wrap_up {i : Nat} (h : (i : Int) ≤ 140737488351232) : wrap64 ((i : Int) + 1) = ((i + 1 : Nat) : Int) := by
  unfold wrap64; omega

theorem differs_l0 (x y : List Int) (hx : Byte x) (hy : Byte y) (hl : x.length = y.length) (hm : x.length ≤ 140737488351232) (d : Nat) :
    ∀ (k i acc : Nat), i + d = x.length → acc < 4294967296 → d < k →
    ∃ r : Nat, same_differs.l0 k x y (acc : Int) (x.length : Int) (i : Int) = some (r : Int) ∧ r < 4294967296 ∧
      (r = 0 ↔ acc = 0 ∧ ∀ j : Nat, i ≤ j → j < x.length → rd x j = rd y j) := by
  induction d with
  | zero =>
    intro k i acc hi ha hk
    obtain ⟨k, rfl⟩ : ∃ m, k = m + 1 := ⟨k - 1, by omega⟩
    refine ⟨acc, ?_, ha, ?_⟩
    · simp only [same_differs.l0]; rw [if_neg (by omega)]
    · constructor
      · intro h; exact ⟨h, fun j h1 h2 => by omega⟩
      · exact fun h => h.1
  | succ d ih =>
    intro k i acc hi ha hk
    obtain ⟨k, rfl⟩ : ∃ m, k = m + 1 := ⟨k - 1, by omega⟩
    obtain ⟨a, ha', ea⟩ := rd_byte hx i (by omega)
    obtain ⟨b, hb', eb⟩ := rd_byte hy i (by omega)
    have hc : a ^^^ b < 256 := Nat.xor_lt_two_pow (n := 8) ha' hb'
    have ho : acc ||| (a ^^^ b) < 4294967296 := Nat.or_lt_two_pow (n := 32) ha (by omega)
    obtain ⟨r, hr, hr2, hr3⟩ := ih k (i + 1) (acc ||| (a ^^^ b)) (by omega) ho (by omega)
    refine ⟨r, ?_, hr2, ?_⟩
    · simp only [same_differs.l0]
      rw [if_pos (by omega), if_pos (by omega), if_pos (by omega), if_pos (by omega), ea, eb, nu8_xor _ _ ha' hb',
        show ((a ^^^ b : Nat) : Int) % 4294967296 = ((a ^^^ b : Nat) : Int) by omega, nu32_or _ _ ha (by omega), wrap_up (by omega)]
      exact hr
    · rw [hr3, or_zero, xor_zero]
      constructor
      · rintro ⟨⟨h1, h2⟩, h3⟩
        refine ⟨h1, fun j hj1 hj2 => ?_⟩
        by_cases e : j = i
        · subst e; rw [ea, eb, h2]
        · exact h3 j (by omega) hj2
      · rintro ⟨h1, h3⟩
        refine ⟨⟨h1, ?_⟩, fun j hj1 hj2 => h3 j (by omega) hj2⟩
        have := h3 i (by omega) (by omega)
        rw [ea, eb] at this
        omega

theorem eq_of_rd {x y : List Int} (hl : x.length = y.length) (h : ∀ j : Nat, 0 ≤ j → j < x.length → rd x j = rd y j) : x = y := by
  apply List.ext_getElem hl
  intro i h1 h2
  have := h i (by omega) h1
  simpa [rd, List.getD_eq_getElem?_getD, List.getElem?_eq_getElem h1, List.getElem?_eq_getElem h2] using this

theorem differs_spec (x y : List Int) (hx : Byte x) (hy : Byte y) (hl : x.length = y.length) (hm : x.length ≤ 140737488351232) (k : Nat) (hk : x.length < k) :
    ∃ r : Nat, same_differs.f k x y = some (r : Int) ∧ r < 4294967296 ∧ (r = 0 ↔ x = y) := by
  obtain ⟨r, h1, h2, h3⟩ := differs_l0 x y hx hy hl hm x.length k 0 0 (by omega) (by omega) hk
  refine ⟨r, h1, h2, ?_⟩
  rw [h3]
  constructor
  · rintro ⟨_, h⟩; exact eq_of_rd hl h
  · rintro rfl; exact ⟨rfl, fun _ _ _ => rfl⟩

theorem bytes_spec (x y : List Int) (hx : Byte x) (hy : Byte y) (hm : x.length ≤ 140737488351232) (k : Nat) (hk : x.length < k) :
    same_Bytes.f k x y = some (decide (x = y)) := by
  unfold same_Bytes.f
  by_cases hl : x.length = y.length
  · rw [if_pos (by omega)]
    obtain ⟨r, h1, h2, h3⟩ := differs_spec x y hx hy hl hm k hk
    rw [h1]; simp only [Option.bind_some]; rw [none_spec _ h2]; simp only [Option.bind_some]
    by_cases e : x = y
    · rw [if_pos (h3.mpr e)]; simp [e]
    · rw [if_neg (fun h => e (h3.mp h))]; simp [e]
  · rw [if_neg (by omega)]
    have : x ≠ y := fun h => hl (by rw [h])
    simp [this]

theorem ref_l0 (x y : List Int) (hl : x.length = y.length) (hm : x.length ≤ 140737488351232) (d : Nat) :
    ∀ (k i : Nat), i + d = x.length → d < k →
    ∃ r : Bool, chatelaineref01_Same.l0 k x y (i : Int) = some r ∧ (r = true ↔ ∀ j : Nat, i ≤ j → j < x.length → rd x j = rd y j) := by
  induction d with
  | zero =>
    intro k i hi hk
    obtain ⟨k, rfl⟩ : ∃ m, k = m + 1 := ⟨k - 1, by omega⟩
    refine ⟨true, ?_, ?_⟩
    · simp only [chatelaineref01_Same.l0]; rw [if_neg (by omega)]
    · simp only [true_iff]; intro j h1 h2; omega
  | succ d ih =>
    intro k i hi hk
    obtain ⟨k, rfl⟩ : ∃ m, k = m + 1 := ⟨k - 1, by omega⟩
    by_cases e : rd x i = rd y i
    · obtain ⟨r, hr, hr3⟩ := ih k (i + 1) (by omega) (by omega)
      refine ⟨r, ?_, ?_⟩
      · simp only [chatelaineref01_Same.l0]
        rw [if_pos (by omega), if_pos (by omega), if_pos (by omega), if_pos e, wrap_up (by omega)]
        exact hr
      · rw [hr3]
        constructor
        · intro h j h1 h2
          by_cases e' : j = i
          · subst e'; exact e
          · exact h j (by omega) h2
        · exact fun h j h1 h2 => h j (by omega) h2
    · refine ⟨false, ?_, ?_⟩
      · simp only [chatelaineref01_Same.l0]
        rw [if_pos (by omega), if_pos (by omega), if_pos (by omega), if_neg e]
      · simp only [Bool.false_eq_true, false_iff]
        exact fun h => e (h i (by omega) (by omega))

theorem ref_spec (x y : List Int) (hm : x.length ≤ 140737488351232) (k : Nat) (hk : x.length < k) :
    chatelaineref01_Same.f k x y = some (decide (x = y)) := by
  unfold chatelaineref01_Same.f
  by_cases hl : x.length = y.length
  · rw [if_pos (by omega)]
    obtain ⟨r, h1, h2⟩ := ref_l0 x y hl hm x.length k 0 (by omega) hk
    have h1' : chatelaineref01_Same.l0 k x y 0 = some r := h1
    rw [h1']
    congr 1
    rw [Bool.eq_iff_iff, h2, decide_eq_true_iff]
    constructor
    · exact fun h => eq_of_rd hl h
    · rintro rfl; exact fun _ _ _ => rfl
  · rw [if_neg (by omega)]
    have : x ≠ y := fun h => hl (by rw [h])
    simp [this]

theorem zero_spec (x : List Int) (hx : Byte x) (hm : x.length ≤ 140737488351232) (k : Nat) (hk : x.length < k) :
    same_Zero.f k x = some (decide (x = List.replicate x.length 0)) := by
  unfold same_Zero.f
  rw [if_pos (by omega), if_pos (by omega), Int.toNat_natCast]
  obtain ⟨r, h1, h2, h3⟩ := differs_spec x (List.replicate x.length 0) hx (by intro y hy; have := List.eq_of_mem_replicate hy; omega) (by simp) hm k hk
  rw [h1]; simp only [Option.bind_some]; rw [none_spec _ h2]; simp only [Option.bind_some]
  by_cases e : x = List.replicate x.length 0
  · rw [if_pos (h3.mpr e)]; rw [decide_eq_true e]; rfl
  · rw [if_neg (fun h => e (h3.mp h))]; rw [decide_eq_false e]; rfl

theorem awake_spec (k : Nat) (hk : 10 ≤ k) : chatelainelaw07_awake.f k = some true := by
  refine at_rounds (chatelainelaw07_awake.mono) hk ?_
  kernel_rfl

theorem law_l0 (x y : List Int) (hm : x.length ≤ 140737488351232) (d : Nat) :
    ∀ (k i : Nat) (z : Bool), i + d = x.length → d < k →
    ∃ (r : Bool) (k' : Nat), k' + d + 1 = k ∧ chatelainelaw07_SameBytes.l0 k x y z x (x.length : Int) (i : Int) = (if (x.length : Int) = (y.length : Int) then (chatelainelaw07_SameBytes.j2 k' x y r (x.length : Int)) else (chatelainelaw07_SameBytes.j2 k' x y r 0)) ∧
      (r = true ↔ z = true ∧ ∀ j : Nat, i ≤ j → j < x.length → rd x j = 0) := by
  induction d with
  | zero =>
    intro k i z hi hk
    obtain ⟨k, rfl⟩ : ∃ m, k = m + 1 := ⟨k - 1, by omega⟩
    refine ⟨z, k, rfl, ?_, ?_⟩
    · simp only [chatelainelaw07_SameBytes.l0]; rw [if_neg (by omega)]
    · constructor
      · intro h; exact ⟨h, fun j h1 h2 => by omega⟩
      · exact fun h => h.1
  | succ d ih =>
    intro k i z hi hk
    obtain ⟨k, rfl⟩ : ∃ m, k = m + 1 := ⟨k - 1, by omega⟩
    obtain ⟨r, k', hk', hr, hr2⟩ := ih k (i + 1) (z && (rd x i == 0)) (by omega) (by omega)
    refine ⟨r, k', by omega, ?_, ?_⟩
    · rw [← hr]
      simp only [chatelainelaw07_SameBytes.l0]
      rw [if_pos (by omega), if_pos (by omega), if_pos (by omega), wrap_up (by omega)]
      cases z
      · simp
      · simp
    · rw [hr2]
      constructor
      · rintro ⟨h1, h3⟩
        simp only [Bool.and_eq_true, beq_iff_eq] at h1
        refine ⟨h1.1, fun j hj1 hj2 => ?_⟩
        by_cases e : j = i
        · subst e; exact h1.2
        · exact h3 j (by omega) hj2
      · rintro ⟨h1, h3⟩
        refine ⟨?_, fun j hj1 hj2 => h3 j (by omega) hj2⟩
        simp [h1, h3 i (by omega) (by omega)]

theorem repl_iff (x : List Int) : x = List.replicate x.length 0 ↔ ∀ j : Nat, 0 ≤ j → j < x.length → rd x j = 0 := by
  constructor
  · intro h j _ hj
    have : rd (List.replicate x.length 0) j = 0 := by
      unfold rd
      simp [List.getD_eq_getElem?_getD, hj]
    rwa [← h] at this
  · intro h
    refine eq_of_rd (by simp) ?_
    intro j h0 hj
    rw [h j h0 hj]
    unfold rd
    simp [List.getD_eq_getElem?_getD, hj]

/-- the pure statement -/
theorem SameBytes : chatelainelaw07_SameBytes.Pure := by
  intro x y _ hm hx _ hm' hy
  have hx := byte_of hx
  have hy := byte_of hy
  refine ⟨2 * x.length + 20, ?_⟩
  unfold chatelainelaw07_SameBytes.f
  rw [awake_spec _ (by omega)]
  simp only [Option.bind_some, if_true]
  have key : ∀ b : Bool, chatelainelaw07_SameBytes.j0 (2 * x.length + 20) x y b = some true := by
    intro b
    cases b with
    | true => simp only [chatelainelaw07_SameBytes.j0, if_true]
    | false =>
      simp only [chatelainelaw07_SameBytes.j0, Bool.false_eq_true, if_false]
      obtain ⟨r, k', hk', hr, hr2⟩ := law_l0 x y (by omega) x.length (2 * x.length + 19) 0 true (by omega) (by omega)
      have hr' : chatelainelaw07_SameBytes.l0 (2 * x.length + 19) x y true x (x.length : Int) 0 = _ := hr
      rw [hr']
      obtain ⟨k', rfl⟩ : ∃ m, k' = m + 1 := ⟨k' - 1, by omega⟩
      have e0 : decide (x = List.replicate x.length 0) = r := by
        rw [Bool.eq_iff_iff, hr2, decide_eq_true_iff, repl_iff]; simp
      have fin : ∀ n : Int, same_Steps.f x y = some n → chatelainelaw07_SameBytes.j2 (k' + 1) x y r n = some true := by
        intro n hn
        simp only [chatelainelaw07_SameBytes.j2]
        rw [bytes_spec x y hx hy (by omega) k' (by omega), ref_spec x y (by omega) k' (by omega), bytes_spec x x hx hx (by omega) k' (by omega), zero_spec x hx (by omega) k' (by omega), hn, e0]
        simp
      split
      · next h => exact fin _ (by unfold same_Steps.f; rw [if_pos h])
      · next h => exact fin _ (by unfold same_Steps.f; rw [if_neg h])
  split
  · exact key _
  · exact key _

end Go.Proofs.Ytpijkibhjklkoaa.Pure
