/- word.Put, kdf.Number. -/
import Derived.Test.YtpijkibhjklkoaaRefPad
import Derived.Test.YtpijkibhjklkoaaFill
namespace Go.Proofs.Ytpijkibhjklkoaa.Put
set_option linter.unusedVariables false
set_option linter.unusedSimpArgs false
open Go Go.RowKit Go.Proofs.Ytpijkibhjklkoaa.Mem Go.Proofs.Ytpijkibhjklkoaa.Put32 Go.Proofs.Ytpijkibhjklkoaa.Pad Go.Proofs.Ytpijkibhjklkoaa.RefPad

/-- a number's bytes, the highest first -/
def beB (size n : Nat) : List Int := (List.range size).map fun j => ((n / 256 ^ (size - 1 - j) % 256 : Nat) : Int)
theorem beB_len (size n : Nat) : (beB size n).length = size := by simp [beB]
theorem beB_at (size n j : Nat) (h : j < size) : (beB size n)[j]? = some ((n / 256 ^ (size - 1 - j) % 256 : Nat) : Int) := by
  simp [beB, h]
theorem beB_byte (size n : Nat) : Byte (beB size n) := by
  intro y hy
  obtain ⟨j, _, rfl⟩ := List.mem_map.1 hy
  have : n / 256 ^ (size - 1 - j) % 256 < 256 := Nat.mod_lt _ (by decide)
  omega
theorem beB_8 (n : Nat) (h : n < 18446744073709551616) : beB 8 n = bytes8 n := by
  refine List.ext_getElem? fun i => ?_
  by_cases hi : i < 8
  · rw [beB_at 8 n i hi, byte_at n i h hi]
    congr 3
    unfold sc
    rcases i with _ | _ | _ | _ | _ | _ | _ | _ | i <;> first | rfl | omega
  · rw [List.getElem?_eq_none (by rw [beB_len]; omega), List.getElem?_eq_none (by rw [bytes8_len]; omega)]
/-- the last i bytes are laid -/
def accB (size n i : Nat) : List Int := List.replicate (size - i) 0 ++ (beB size n).drop (size - i)
theorem accB_len (size n i : Nat) (h : i ≤ size) : (accB size n i).length = size := by
  unfold accB
  rw [List.length_append, List.length_replicate, List.length_drop, beB_len]; omega
theorem accB_all (size n : Nat) : accB size n size = beB size n := by simp [accB]
theorem accB_zero (size n : Nat) : accB size n 0 = List.replicate size 0 := by
  unfold accB
  rw [Nat.sub_zero, List.drop_of_length_le (by rw [beB_len]; exact Nat.le_refl _), List.append_nil]
theorem accB_set (size n i : Nat) (h : i < size) : (accB size n i).set (size - 1 - i) ((n / 256 ^ i % 256 : Nat) : Int) = accB size n (i + 1) := by
  unfold accB
  rw [show size - i = (size - 1 - i) + 1 by omega, List.replicate_succ', List.append_assoc, List.set_append_right _ _ (by rw [List.length_replicate]; exact Nat.le_refl _), List.length_replicate, Nat.sub_self, show size - (i + 1) = size - 1 - i by omega]
  congr 1
  have hx : (beB size n).drop (size - 1 - i) = ((n / 256 ^ i % 256 : Nat) : Int) :: (beB size n).drop (size - 1 - i + 1) := by
    rw [List.drop_eq_getElem_cons (by rw [beB_len]; omega)]
    congr 1
    have h1 := beB_at size n (size - 1 - i) (by omega)
    rw [List.getElem?_eq_getElem (by rw [beB_len]; omega), show size - 1 - (size - 1 - i) = i by omega] at h1
    exact Option.some.inj h1
  rw [hx]
  rfl
theorem bytesA_set (L : List Int) (j : Nat) (v : Int) : (bytesA L).setIfInBounds j (.int .u8 v) = bytesA (L.set j v) := by
  unfold bytesA
  rw [List.setIfInBounds_toArray, ← List.map_set]
theorem made_zero (n : Nat) : madeCells #[.int .u8 0] n = bytesA (List.replicate n 0) := by
  unfold bytesA
  rw [List.map_replicate]
  apply Array.ext
  · simp [madeCells]
  · intro i h1 h2
    simp [madeCells, Nat.mod_one]
theorem shr_byte (n i : Nat) : (n : Int) / 2 ^ (8 * i) % 256 = ((n / 256 ^ i % 256 : Nat) : Int) := by
  rw [show (256 : Nat) ^ i = 2 ^ (8 * i) by rw [Nat.pow_mul], Int.natCast_emod, Int.natCast_ediv, Int.natCast_pow]
  rfl
/-- a block of bytes, as something owned -/
theorem own_block' {w : World} {g base : Nat} {t : TypeId} {x : List Int} {n : Nat} (h : w.heap[g]? = some (.cells (bytesA x) t (0, 0))) (hl : x.length = n) (hb : base ≤ g := by exact Nat.le_refl _) (hn : n ≤ maxLen := by unfold maxLen; omega) :
    OwnAt w base (.slice (some ⟨g, 0, none⟩) n n) n (x.map (Value.int .u8)) :=
  ⟨by simpa using hl, .inr ⟨g, 0, n, bytesA x, t, rfl, hb, h, by rw [bytesA_size, hl]; omega, Nat.le_refl _, hn, fun j hj => by
    unfold bytesA
    rw [Nat.zero_add, List.getElem?_toArray]⟩⟩
end Go.Proofs.Ytpijkibhjklkoaa.Put
