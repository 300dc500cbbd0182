/- the sum's numbers, reckoned by the kernel. Plain. -/
import Derived.Test.YtjcofbjfolaoiaaSum
namespace Go.Proofs.Ytjcofbjfolaoiaa.Eval
set_option linter.unusedVariables false
set_option linter.unusedSimpArgs false
open Go Go.Proofs.Ytjcofbjfolaoiaa.Mem Go.Proofs.Ytjcofbjfolaoiaa.W32 Go.Proofs.Ytjcofbjfolaoiaa.Piece Go.Proofs.Ytjcofbjfolaoiaa.Take Go.Proofs.Ytjcofbjfolaoiaa.Kinds Go.Proofs.Ytjcofbjfolaoiaa.Schedule Go.Proofs.Ytjcofbjfolaoiaa.Pad Go.Proofs.Ytjcofbjfolaoiaa.Sum Go.Proofs.Ytjcofbjfolaoiaa.Turns Go.Proofs.Ytjcofbjfolaoiaa.Put32

/-- the words, the newest ahead -/
def words (p : List Int) : Nat → List W
  | 0 => []
  | t + 1 => (if t < 16 then word p (4 * t) else (words p t).getD 15 0 + s0 ((words p t).getD 14 0) + (words p t).getD 6 0 + s1 ((words p t).getD 1 0)) :: words p t
theorem words_at (p : List Int) : ∀ t j, j < t → (words p t).getD (t - 1 - j) 0 = sched p j := by
  intro t
  induction t with
  | zero => intro j h; omega
  | succ t ih =>
    intro j h
    by_cases e : j = t
    · subst e
      have : j + 1 - 1 - j = 0 := by omega
      rw [this, words]
      by_cases h16 : j < 16
      · rw [if_pos h16, sched_lo p j h16]; rfl
      · rw [if_neg h16, sched_hi p j h16]
        have a := ih (j - 16) (by omega)
        have b := ih (j - 15) (by omega)
        have c := ih (j - 7) (by omega)
        have d := ih (j - 2) (by omega)
        rw [show j - 1 - (j - 16) = 15 by omega] at a
        rw [show j - 1 - (j - 15) = 14 by omega] at b
        rw [show j - 1 - (j - 7) = 6 by omega] at c
        rw [show j - 1 - (j - 2) = 1 by omega] at d
        rw [a, b, c, d]; rfl
    · have a := ih j (by omega)
      rw [words, show t + 1 - 1 - j = (t - 1 - j) + 1 by omega, List.getD_cons_succ, a]
def rnd (K : Nat → W) (w : List W) (s : Nat → W) : Nat → (Nat → W)
  | 0 => s
  | t + 1 => Piece.step (K t) (w.getD (63 - t) 0) (rnd K w s t)
theorem rnd_eq (K : Nat → W) (p : List Int) (s : Nat → W) : ∀ t, t ≤ 64 → rounds K p s t = rnd K (words p 64) s t := by
  intro t
  induction t with
  | zero => intro _; rfl
  | succ t ih =>
    intro h
    rw [rounds, rnd, ih (by omega), ← words_at p 64 t (by omega)]
def pieceF (K : Nat → W) (p : List Int) (s : Nat → W) : Nat → W := fun j => s j + rnd K (words p 64) s 64 j
theorem pieceF_eq (K : Nat → W) (p : List Int) (s : Nat → W) : piece K p s = pieceF K p s := by
  funext j
  unfold piece pieceF
  rw [rnd_eq K p s 64 (Nat.le_refl _)]
def pieces (K : Nat → W) : Nat → (Nat → W) → List Int → (Nat → W)
  | 0, s, _ => s
  | n + 1, s, b => pieces K n (pieceF K (b.take 64) s) (b.drop 64)
theorem feed_pieces (K : Nat → W) : ∀ n s b, b.length = 64 * n → (feed K s b).1 = pieces K n s b := by
  intro n
  induction n with
  | zero => intro s b h; rw [feed_lo _ _ _ (by omega)]; rfl
  | succ n ih =>
    intro s b h
    rw [feed_hi _ _ _ (by omega), ih _ _ (by rw [List.length_drop]; omega), pieceF_eq]; rfl
def sumF (n : Nat) (b : List Int) : List Int := (List.range 8).flatMap fun j => bytes4 (pieces Kc n H0 (b ++ pad b.length) j).toNat
theorem sum_eq (n : Nat) (b : List Int) (h : (b ++ pad b.length).length = 64 * n) : sumB b = sumF n b := by
  unfold sumB sumF sumS
  rw [feed_pieces Kc n H0 _ h]
theorem abc : sumB [97, 98, 99] = sumF 1 [97, 98, 99] := sum_eq 1 _ (by kernel_rfl)
theorem abc4 : (sumF 1 [97, 98, 99]).take 4 = [0xba, 0x78, 0x16, 0xbf] := by kernel_rfl
end Go.Proofs.Ytjcofbjfolaoiaa.Eval
