/- chatelaineref05.primes. -/
import Derived.Test.YtpijkibhjklkoaaRefTimes
namespace Go.Proofs.Ytpijkibhjklkoaa.Roots
set_option linter.unusedVariables false
set_option linter.unusedSimpArgs false
open Go Go.RowKit Go.Proofs.Ytpijkibhjklkoaa.Mem Go.Proofs.Ytpijkibhjklkoaa.Put32 Go.Proofs.Ytpijkibhjklkoaa.Pad Go.Proofs.Ytpijkibhjklkoaa.Sum Go.Proofs.Ytpijkibhjklkoaa.RefWith Go.Proofs.Ytpijkibhjklkoaa.ShaParts

/-- none of these divides p -/
def noneF (p : Nat) : List Nat → Bool
  | [] => true
  | q :: r => !(p % q == 0) && noneF p r
/-- the primes below d + 2 -/
def prm : Nat → List Nat
  | 0 => []
  | d + 1 => if noneF (d + 2) (prm d) = true then prm d ++ [d + 2] else prm d
theorem prm_two : ∀ d, ∀ q ∈ prm d, 2 ≤ q ∧ q ≤ d + 1
  | 0, q, h => by cases h
  | d + 1, q, h => by
    unfold prm at h
    split at h
    · rcases List.mem_append.1 h with h | h
      · have := prm_two d q h; omega
      · simp at h; omega
    · have := prm_two d q h; omega
theorem prm_len : ∀ d, (prm d).length ≤ d
  | 0 => Nat.le_refl _
  | d + 1 => by
    have := prm_len d
    unfold prm
    split
    · rw [List.length_append]; simp; omega
    · omega
theorem prm_up (d : Nat) : (prm d).length ≤ (prm (d + 1)).length := by
  conv => rhs; unfold prm
  split
  · rw [List.length_append]; omega
  · exact Nat.le_refl _
theorem prm_mono : ∀ (k d : Nat), (prm d).length ≤ (prm (d + k)).length
  | 0, d => Nat.le_refl _
  | k + 1, d => Nat.le_trans (prm_mono k d) (prm_up (d + k))
def toI (l : List Nat) : List Int := l.map fun (n : Nat) => (n : Int)
theorem noneF_take (p : Nat) : ∀ (l : List Nat) (i q : Nat), l[i]? = some q → noneF p (l.take (i + 1)) = (noneF p (l.take i) && !(p % q == 0))
  | [], i, q, h => by simp at h
  | x :: l, 0, q, h => by
    simp at h; subst h
    simp [noneF]
  | x :: l, i + 1, q, h => by
    have := noneF_take p l i q (by simpa using h)
    simp only [List.take_succ_cons, noneF, this, Bool.and_assoc]

theorem toI_at (l : List Nat) (i q : Nat) (h : l[i]? = some q) : nth (toI l) i = (q : Int) := by
  rw [nth, List.getD_eq_getElem?_getD, toI, List.getElem?_map, h]
  rfl
theorem toI_snoc (l : List Nat) (q : Nat) : (toI (l ++ [q])).map (Value.int .i64) = (toI l).map (Value.int .i64) ++ [.int .i64 (q : Int)] := by
  simp [toI]
set_option maxHeartbeats 2000000 in
set_option maxRecDepth 100000 in
theorem primes_any (n D : Nat) (hD : D ≤ 1000) (hn : (prm D).length = n) (hlt : ∀ d, d < D → (prm d).length < n) (w : World) :
    Calls Try.prog 59 #[.int .i64 n] w fun r w' => ∃ A c, r = .returned (.slice A n c) ∧ Below w.heap.size w w' ∧ OwnAt w' w.heap.size (.slice A n c) n ((toI (prm D)).map (Value.int .i64)) := by
  have HD := As.mk hD
  have HN := As.mk hn
  have HLT := As.mk hlt
  clear hD hn hlt
  go_enter Try.func59, Try.ntmps59
  go_wp2
  go_loopg [3, 4] D (fun kq v3 v4 wr => ∃ (d : Nat) (A' : Option Addr) (l c' : Nat), d + kq = D ∧ v3 = .slice A' l c' ∧ v4 = .int .i64 ((d + 2 : Nat) : Int) ∧ l = (prm d).length ∧ As (OwnAt wr w.heap.size (.slice A' l c') l ((toI (prm d)).map (Value.int .i64))) ∧ As (Below w.heap.size w wr))
  case atStart => exact ⟨0, none, 0, 0, by omega, rfl, rfl, rfl, ⟨OwnAt.nil _ _⟩, ⟨Below.refl _ _⟩⟩
  case round =>
    obtain ⟨d, A', l, c', hd, rfl, rfl, hl, HO, HB⟩ := hrel
    have HDD := As.mk hd
    have HL := As.mk hl
    obtain ⟨p, hp⟩ : ∃ p, p = d + 2 := ⟨_, rfl⟩
    rw [← hp]
    by_cases hlt : d < D
    · have hln : l < n := by rw [hl]; exact HLT.out d hlt
      have c0 : decide ((l : Int) < (n : Int)) = true := decide_eq_true (by omega)
      have c1 : decide (l < n) = true := decide_eq_true hln
      have hpw : wrap64 ((p : Int) + 1) = ((p + 1 : Nat) : Int) := wrap_up (by have := HD.out; omega)
      have HP := As.mk hp
      have HLD := As.mk hlt
      have HLN := As.mk hln
      have HNB := As.mk (show l ≤ 1000 by have := prm_len d; have := HD.out; omega)
      clear hd hl hp hlt hln
      obtain ⟨wo, rfl⟩ : ∃ wo : World, wo = wr := ⟨_, rfl⟩
      go_wp2
      go_loopg [5, 6] l (fun kq v5 v6 wr => ∃ i : Nat, i + kq = l ∧ v5 = .bool (noneF p ((prm d).take i)) ∧ v6 = .int .i64 i ∧ As (wr = wo))
      case atStart => exact ⟨0, by omega, rfl, rfl, ⟨rfl⟩⟩
      case round =>
        obtain ⟨i, hi, rfl, rfl, HEQ⟩ := hrel
        obtain rfl : wo = wr := HEQ.out.symm
        have HI := As.mk hi
        clear hi
        by_cases hlt : i < l
        · have d0 : decide ((i : Int) < (l : Int)) = true := decide_eq_true (by omega)
          have d1 : decide (i < l) = true := decide_eq_true hlt
          have lt' : (i : Int) < (l : Int) := by omega
          have hw : wrap64 ((i : Int) + 1) = ((i + 1 : Nat) : Int) := wrap_up (by have := HNB.out; omega)
          obtain ⟨q, hq⟩ : ∃ q, (prm d)[i]? = some q := ⟨_, List.getElem?_eq_getElem (by rw [← HL.out]; exact hlt)⟩
          have hq2 := prm_two d q (List.mem_of_getElem? hq)
          obtain ⟨ad, ea, hx⟩ := HO.out.cell i (.int .i64 (q : Int)) (by rw [List.getElem?_map, toI, List.getElem?_map, hq]; rfl)
          cases ea
          have q0 : ¬ (q : Int) = 0 := by omega
          have q0' : ¬ q = 0 := by omega
          obtain ⟨r, hr⟩ : ∃ r, r = p % q := ⟨_, rfl⟩
          have er : (p : Int).tmod (q : Int) = (r : Int) := by rw [hr, Int.ofNat_tmod]
          have HT := As.mk (noneF_take p (prm d) i q hq)
          have HR := As.mk hr
          have HLI := As.mk hlt
          clear hq hq2 hlt hr
          by_cases hz : r = 0
          · subst hz
            go_wp2
            go_roundg (l - (i + 1))
            case measure => have := HI.out; have := HLI.out; omega
            case rel =>
              exact ⟨i + 1, by have := HI.out; have := HLI.out; omega, by rw [HT.out, ← HR.out]; simp, by first | go_num | rfl, ⟨rfl⟩⟩
          · have z0 : decide ((r : Int) = 0) = false := decide_eq_false (by omega)
            have z1 : decide (r = 0) = false := decide_eq_false hz
            have z2 : ¬ (r : Int) = 0 := by omega
            go_wp2
            go_roundg (l - (i + 1))
            case measure => have := HI.out; have := HLI.out; omega
            case rel =>
              exact ⟨i + 1, by have := HI.out; have := HLI.out; omega, by rw [HT.out, ← HR.out]; simp [hz], by first | go_num | rfl, ⟨rfl⟩⟩
        · have d0 : decide ((i : Int) < (l : Int)) = false := decide_eq_false (by omega)
          have d1 : decide (i < l) = false := decide_eq_false hlt
          have HF := As.mk (show noneF p ((prm d).take i) = noneF p (prm d) by rw [List.take_of_length_le (by rw [← HL.out]; omega)])
          rw [HF.out]
          have HPR := As.mk (show prm (d + 1) = if noneF (d + 2) (prm d) = true then prm d ++ [d + 2] else prm d from rfl)
          rw [← HP.out] at HPR
          clear hlt
          cases hq : noneF p (prm d) with
          | true =>
            have HNW := As.mk (show prm (d + 1) = prm d ++ [p] by rw [HPR.out, if_pos hq])
            clear hq
            go_wp2_with (at_builtin; refine wpList_app_one rfl (.tmp 27) (.tmp 29) 30 rfl w.heap.size 3 (.int .i64 0) 8 Try.underlying30 infoI rfl _ l _ rfl HO.out _ _ rfl rfl ?c1 ?c2 HB.out.size HB.out (Nat.le_refl _) ?_; (case c1 => have := HNB.out; unfold maxLen; omega); (case c2 => have := HNB.out; omega); intro A1 c1 w3 hown hg hat hb; have HO1 := As.mk hown; have HB3 := As.mk hb; clear hown hg hat hb)
            go_roundg (D - (d + 1))
            case measure => have := HDD.out; have := HLD.out; omega
            case rel =>
              refine ⟨d + 1, A1, l + 1, c1, by have := HDD.out; have := HLD.out; omega, rfl, by have := HP.out; first | (rw [hpw]; congr 1; omega) | (congr 1; omega), by rw [HNW.out, List.length_append, HL.out]; rfl, ⟨?_⟩, HB3⟩
              rw [HNW.out, toI_snoc]
              exact HO1.out
          | false =>
            have HNW := As.mk (show prm (d + 1) = prm d by rw [HPR.out, if_neg (by rw [hq]; decide)])
            clear hq
            go_wp2
            go_roundg (D - (d + 1))
            case measure => have := HDD.out; have := HLD.out; omega
            case rel =>
              refine ⟨d + 1, A', l, c', by have := HDD.out; have := HLD.out; omega, rfl, by have := HP.out; first | (rw [hpw]; congr 1; omega) | (congr 1; omega), by rw [HNW.out, HL.out], ⟨?_⟩, HB⟩
              rw [HNW.out]
              exact HO.out
    · obtain rfl : d = D := by omega
      have hln : l = n := by rw [hl]; exact HN.out
      have c0 : decide ((l : Int) < (n : Int)) = false := decide_eq_false (by omega)
      have c1 : decide (l < n) = false := decide_eq_false (by omega)
      have HLN := As.mk hln
      clear hl hd hp hlt hln
      go_wp2
      go_ret
      refine ⟨A', c', ?_, HB.out, ?_⟩
      · rw [← HLN.out]; rfl
      · rw [← HLN.out]; exact HO.out
end Go.Proofs.Ytpijkibhjklkoaa.Roots
