/- chatelaineref05.above. -/
import Derived.Test.YtpijkibhjklkoaaRefTimes
namespace Go.Proofs.Ytpijkibhjklkoaa.Roots
set_option linter.unusedVariables false
set_option linter.unusedSimpArgs false
open Go Go.RowKit Go.Proofs.Ytpijkibhjklkoaa.Mem Go.Proofs.Ytpijkibhjklkoaa.Put32 Go.Proofs.Ytpijkibhjklkoaa.Pad Go.Proofs.Ytpijkibhjklkoaa.Sum Go.Proofs.Ytpijkibhjklkoaa.RefWith Go.Proofs.Ytpijkibhjklkoaa.ShaParts

/-- is there one above nought among the places from lo on, below hi? -/
def anyUp (a : List Int) (lo : Nat) : Nat → Bool
  | 0 => false
  | d + 1 => decide (0 < nth a (lo + d)) || anyUp a lo d
def aboveF (a : List Int) (p : Int) (e : Nat) : Bool :=
  if anyUp a (e + 1) (a.length - (e + 1)) then true else if a.length ≤ e then false else if nth a e < p then false else if p < nth a e then true else anyUp a 0 e
theorem anyUp_yes (a : List Int) (lo : Nat) : ∀ (d j : Nat), j < d → 0 < nth a (lo + j) → anyUp a lo d = true
  | 0, j, h, _ => by omega
  | d + 1, j, h, h2 => by
    rw [anyUp, Bool.or_eq_true]
    rcases Nat.lt_succ_iff_lt_or_eq.1 h with h3 | rfl
    · exact .inr (anyUp_yes a lo d j h3 h2)
    · exact .inl (decide_eq_true h2)
theorem anyUp_no (a : List Int) (lo : Nat) : ∀ (d : Nat), (∀ j, j < d → ¬ 0 < nth a (lo + j)) → anyUp a lo d = false
  | 0, _ => rfl
  | d + 1, h => by
    rw [anyUp, anyUp_no a lo d (fun j hj => h j (by omega)), Bool.or_false]
    exact decide_eq_false (h d (by omega))

set_option maxHeartbeats 2000000 in
set_option maxRecDepth 100000 in
theorem above_any (a : List Int) (p : Int) (e : Nat) (A : Option Addr) (n c : Nat) (w : World) (hn : n ≤ 1000) (he : e < n) (h0 : Rd .i64 w A n c a) :
    Calls Try.prog 69 #[.slice A n c, .int .i64 p, .int .i64 e] w fun r w' => r = .returned (.bool (aboveF a p e)) ∧ ∃ nd, w' = w.drewN nd := by
  have la := h0.len
  have HN := As.mk hn
  have HE := As.mk he
  have H0 := As.mk h0
  have LA := As.mk la
  have ew : wrap64 ((n : Int) - 1) = (n : Int) - 1 := by unfold wrap64; omega
  clear hn he h0 la
  go_enter Try.func69, Try.ntmps69
  go_wp2
  rw [ew]
  go_loopg [7] (n - 1 - e) (fun kq v7 wr => v7 = .int .i64 ((e + kq : Nat) : Int) ∧ As (e + kq < n) ∧ As (∀ j, kq ≤ j → e + 1 + j < n → ¬ 0 < nth a (e + 1 + j)) ∧ As (wr = w))
  case atStart => exact ⟨by congr 1; have := HE.out; omega, ⟨by have := HE.out; omega⟩, ⟨fun j h1 h2 => by omega⟩, ⟨rfl⟩⟩
  case round =>
    obtain ⟨rfl, HL, HJ, HEQ⟩ := hrel
    obtain rfl : w = wr := HEQ.out.symm
    obtain ⟨i, hi⟩ : ∃ i, i = e + gk := ⟨_, rfl⟩
    rw [← hi]
    by_cases hlt : e < i
    · have c0 : decide ((e : Int) < (i : Int)) = true := decide_eq_true (by omega)
      have c1 : decide (e < i) = true := decide_eq_true hlt
      have li : i < n := by have := HL.out; omega
      have li' : (i : Int) < (n : Int) := by omega
      have hw : wrap64 ((i : Int) - 1) = ((i - 1 : Nat) : Int) := by rw [show (i : Int) - 1 = ((i - 1 : Nat) : Int) by omega]; exact wid _ (by have := HN.out; omega)
      obtain ⟨ad, ea, hx⟩ := H0.out.at i li
      cases ea
      by_cases hp : 0 < nth a i
      · have d0 : decide (0 < nth a i) = true := decide_eq_true hp
        have hy : anyUp a (e + 1) (a.length - (e + 1)) = true := anyUp_yes a (e + 1) _ (i - (e + 1)) (by rw [LA.out]; omega) (by rw [show e + 1 + (i - (e + 1)) = i by omega]; exact hp)
        have HR : As (aboveF a p e = true) := ⟨by unfold aboveF; rw [if_pos hy]⟩
        clear hp hy hi
        go_wp2
        go_ret
        exact ⟨by rw [HR.out]; rfl, 0, rfl⟩
      · have d0 : decide (0 < nth a i) = false := decide_eq_false hp
        have HII := As.mk hi
        have HLT := As.mk hlt
        have HP := As.mk hp
        clear hp hlt hi
        go_wp2
        go_roundg (gk - 1)
        case measure => have := HII.out; have := HLT.out; omega
        case rel =>
          refine ⟨by rw [show i - 1 = e + (gk - 1) by have := HII.out; have := HLT.out; omega], ⟨by have := HL.out; omega⟩, ⟨fun j h1 h2 => ?_⟩, ⟨rfl⟩⟩
          by_cases h3 : gk ≤ j
          · exact HJ.out j h3 h2
          · have : e + 1 + j = i := by have := HII.out; have := HLT.out; omega
            rw [this]; exact HP.out
    · have c0 : decide ((e : Int) < (i : Int)) = false := decide_eq_false (by omega)
      have c1 : decide (e < i) = false := decide_eq_false hlt
      have hno : anyUp a (e + 1) (a.length - (e + 1)) = false := anyUp_no a (e + 1) _ (fun j hj => HJ.out j (by omega) (by rw [LA.out] at hj; omega))
      have HNO := As.mk hno
      clear hno hlt hi HJ HEQ HL
      have le : e < n := HE.out
      have le' : (e : Int) < (n : Int) := by omega
      have c2 : decide ((n : Int) ≤ (e : Int)) = false := decide_eq_false (by omega)
      have c3 : decide (n ≤ e) = false := decide_eq_false (by omega)
      obtain ⟨ad, ea, hx⟩ := H0.out.at e le
      cases ea
      by_cases hp : nth a e < p
      · have d0 : decide (nth a e < p) = true := decide_eq_true hp
        have HR : As (aboveF a p e = false) := ⟨by unfold aboveF; rw [HNO.out, if_neg (by decide), if_neg (by rw [LA.out]; omega), if_pos hp]⟩
        clear hp
        go_wp2
        go_ret
        exact ⟨by rw [HR.out]; rfl, by first | exact ⟨0, rfl⟩ | exact ⟨1, rfl⟩⟩
      · have d0 : decide (nth a e < p) = false := decide_eq_false hp
        by_cases hq : p < nth a e
        · have d1 : decide (p < nth a e) = true := decide_eq_true hq
          have HR : As (aboveF a p e = true) := ⟨by unfold aboveF; rw [HNO.out, if_neg (by decide), if_neg (by rw [LA.out]; omega), if_neg hp, if_pos hq]⟩
          clear hp hq
          go_wp2
          go_ret
          exact ⟨by rw [HR.out]; rfl, by first | exact ⟨0, rfl⟩ | exact ⟨1, rfl⟩⟩
        · have d1 : decide (p < nth a e) = false := decide_eq_false hq
          have HR : As (aboveF a p e = anyUp a 0 e) := ⟨by unfold aboveF; rw [HNO.out, if_neg (by decide), if_neg (by rw [LA.out]; omega), if_neg hp, if_neg hq]⟩
          clear hp hq
          go_wp2
          obtain ⟨wo, rfl⟩ : ∃ wo : World, wo = w := ⟨_, rfl⟩
          go_loopg [8] e (fun kq v8 wr => ∃ j : Nat, j + kq = e ∧ v8 = .int .i64 j ∧ As (∀ q, q < j → ¬ 0 < nth a q) ∧ As (wr = wo))
          case atStart => exact ⟨0, by omega, rfl, ⟨fun q h => by omega⟩, ⟨rfl⟩⟩
          case round =>
            obtain ⟨j, hj, rfl, HJ, HEQ⟩ := hrel
            obtain rfl : wo = wr := HEQ.out.symm
            have HJE := As.mk hj
            clear hj
            by_cases hlt : j < e
            · have b0 : decide ((j : Int) < (e : Int)) = true := decide_eq_true (by omega)
              have b1 : decide (j < e) = true := decide_eq_true hlt
              have li : j < n := by omega
              have li' : (j : Int) < (n : Int) := by omega
              have hw : wrap64 ((j : Int) + 1) = ((j + 1 : Nat) : Int) := wrap_up (by have := HN.out; omega)
              obtain ⟨bd, ea, hx⟩ := H0.out.at j li
              cases ea
              by_cases hp : 0 < nth a j
              · have b2 : decide (0 < nth a j) = true := decide_eq_true hp
                have HY := As.mk (anyUp_yes a 0 e j hlt (by rw [Nat.zero_add]; exact hp))
                clear hp hlt
                go_wp2
                go_ret
                exact ⟨by rw [HR.out, HY.out]; rfl, 0, rfl⟩
              · have b2 : decide (0 < nth a j) = false := decide_eq_false hp
                have HP := As.mk hp
                have HLT := As.mk hlt
                clear hp hlt
                go_wp2
                go_roundg (e - (j + 1))
                case measure => have := HJE.out; have := HLT.out; omega
                case rel =>
                  refine ⟨j + 1, by have := HJE.out; have := HLT.out; omega, by go_num, ⟨fun q h => ?_⟩, ⟨rfl⟩⟩
                  rcases Nat.lt_succ_iff_lt_or_eq.1 h with h2 | rfl
                  · exact HJ.out q h2
                  · exact HP.out
            · have b0 : decide ((j : Int) < (e : Int)) = false := decide_eq_false (by omega)
              have b1 : decide (j < e) = false := decide_eq_false hlt
              have HY := As.mk (anyUp_no a 0 e (fun q hq => by rw [Nat.zero_add]; exact HJ.out q (by omega)))
              clear hlt
              go_wp2
              go_ret
              exact ⟨by rw [HR.out, HY.out]; rfl, 0, rfl⟩
end Go.Proofs.Ytpijkibhjklkoaa.Roots
