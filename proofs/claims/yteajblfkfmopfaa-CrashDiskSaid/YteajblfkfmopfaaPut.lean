/- word.Put, kdf.Number. -/
import Derived.Test.YteajblfkfmopfaaRefPad
import Derived.Test.YteajblfkfmopfaaFill
namespace Go.Proofs.Yteajblfkfmopfaa.Put
set_option linter.unusedVariables false
set_option linter.unusedSimpArgs false
open Go Go.RowKit Go.Proofs.Yteajblfkfmopfaa.Mem Go.Proofs.Yteajblfkfmopfaa.Put32 Go.Proofs.Yteajblfkfmopfaa.Pad Go.Proofs.Yteajblfkfmopfaa.RefPad

/-- a number's bytes, the highest first -/
def beB (size n : Nat) : List Int := (List.range size).map fun j => ((n / 256 ^ (size - 1 - j) % 256 : Nat) : Int)
theorem beB_len (size n : Nat) : (beB size n).length = size := by simp [beB]
theorem beB_at (size n j : Nat) (h : j < size) : (beB size n)[j]? = some ((n / 256 ^ (size - 1 - j) % 256 : Nat) : Int) := by
  simp [beB, h]
theorem beB_byte (size n : Nat) : Byte (beB size n) := by
  intro y hy
  obtain ⟨j, _, rfl⟩ := List.mem_map.1 hy
  have : n / 256 ^ (size - 1 - j) % 256 < 256 := Nat.mod_lt _ (by decide)
  omega
theorem beB_8 (n : Nat) (h : n < 18446744073709551616) : beB 8 n = bytes8 n := by
  refine List.ext_getElem? fun i => ?_
  by_cases hi : i < 8
  · rw [beB_at 8 n i hi, byte_at n i h hi]
    congr 3
    unfold sc
    rcases i with _ | _ | _ | _ | _ | _ | _ | _ | i <;> first | rfl | omega
  · rw [List.getElem?_eq_none (by rw [beB_len]; omega), List.getElem?_eq_none (by rw [bytes8_len]; omega)]
/-- the last i bytes are laid -/
def accB (size n i : Nat) : List Int := List.replicate (size - i) 0 ++ (beB size n).drop (size - i)
theorem accB_len (size n i : Nat) (h : i ≤ size) : (accB size n i).length = size := by
  unfold accB
  rw [List.length_append, List.length_replicate, List.length_drop, beB_len]; omega
theorem accB_all (size n : Nat) : accB size n size = beB size n := by simp [accB]
theorem accB_zero (size n : Nat) : accB size n 0 = List.replicate size 0 := by
  unfold accB
  rw [Nat.sub_zero, List.drop_of_length_le (by rw [beB_len]; exact Nat.le_refl _), List.append_nil]
theorem accB_set (size n i : Nat) (h : i < size) : (accB size n i).set (size - 1 - i) ((n / 256 ^ i % 256 : Nat) : Int) = accB size n (i + 1) := by
  unfold accB
  rw [show size - i = (size - 1 - i) + 1 by omega, List.replicate_succ', List.append_assoc, List.set_append_right _ _ (by rw [List.length_replicate]; exact Nat.le_refl _), List.length_replicate, Nat.sub_self, show size - (i + 1) = size - 1 - i by omega]
  congr 1
  have hx : (beB size n).drop (size - 1 - i) = ((n / 256 ^ i % 256 : Nat) : Int) :: (beB size n).drop (size - 1 - i + 1) := by
    rw [List.drop_eq_getElem_cons (by rw [beB_len]; omega)]
    congr 1
    have h1 := beB_at size n (size - 1 - i) (by omega)
    rw [List.getElem?_eq_getElem (by rw [beB_len]; omega), show size - 1 - (size - 1 - i) = i by omega] at h1
    exact Option.some.inj h1
  rw [hx]
  rfl
theorem bytesA_set (L : List Int) (j : Nat) (v : Int) : (bytesA L).setIfInBounds j (.int .u8 v) = bytesA (L.set j v) := by
  unfold bytesA
  rw [List.setIfInBounds_toArray, ← List.map_set]
theorem made_zero (n : Nat) : madeCells #[.int .u8 0] n = bytesA (List.replicate n 0) := by
  unfold bytesA
  rw [List.map_replicate]
  apply Array.ext
  · simp [madeCells]
  · intro i h1 h2
    simp [madeCells, Nat.mod_one]
theorem shr_byte (n i : Nat) : (n : Int) / 2 ^ (8 * i) % 256 = ((n / 256 ^ i % 256 : Nat) : Int) := by
  rw [show (256 : Nat) ^ i = 2 ^ (8 * i) by rw [Nat.pow_mul], Int.natCast_emod, Int.natCast_ediv, Int.natCast_pow]
  rfl
/-- a block of bytes, as something owned -/
theorem own_block' {w : World} {g base : Nat} {t : TypeId} {x : List Int} {n : Nat} (h : w.heap[g]? = some (.cells (bytesA x) t (0, 0))) (hl : x.length = n) (hb : base ≤ g := by exact Nat.le_refl _) (hn : n ≤ maxLen := by unfold maxLen; omega) :
    OwnAt w base (.slice (some ⟨g, 0, none⟩) n n) n (x.map (Value.int .u8)) :=
  ⟨by simpa using hl, .inr ⟨g, 0, n, bytesA x, t, rfl, hb, h, by rw [bytesA_size, hl]; omega, Nat.le_refl _, hn, fun j hj => by
    unfold bytesA
    rw [Nat.zero_add, List.getElem?_toArray]⟩⟩
set_option maxHeartbeats 1000000 in
set_option maxRecDepth 100000 in
theorem put_ok (size n : Nat) (hs : 1 ≤ size ∧ size ≤ 8) (hn : n ≤ 4611686018427387904) (hf : n < 256 ^ size) (w : World) :
    Calls Try.prog 195 #[.int .i64 (n : Int), .int .i64 (size : Int)] w fun e w' => ∃ A c, e = .returned (.tuple #[.slice A size c, .int .i64 0]) ∧ Below w.heap.size w w' ∧ OwnAt w' w.heap.size (.slice A size c) size ((beB size n).map (Value.int .u8)) := by
  obtain ⟨ti, hi, hz, h1, h2⟩ := info_parts CloneB.info
  have HS := As.mk hs
  have HN := As.mk hn
  have HF := As.mk hf
  have a1 : 1 ≤ size := hs.1
  have a2 : size ≤ 8 := hs.2
  have hz0 : ((n : Int) / 2 ^ (8 * size) != 0) = false := by
    rw [bne_eq_false_iff_eq]
    have h3 : n / 2 ^ (8 * size) = 0 := Nat.div_eq_of_lt (by rw [Nat.pow_mul]; exact hf)
    exact_mod_cast congrArg (fun x : Nat => (x : Int)) h3
  have HB := As.mk (below_alloc (Below.refl w.heap.size w) (.cells (madeCells #[.int .u8 0] size) 5))
  have HG : As ((w.alloc (.cells (madeCells #[.int .u8 0] size) 5)).heap[w.heap.size]? = some (.cells (bytesA (accB size n 0)) 5 (0, 0))) := ⟨by
    rw [accB_zero, ← made_zero]; exact heap_alloc_new w _⟩
  clear hs hf
  by_cases h8 : size < 8
  all_goals
    go_enter Try.func195, Try.ntmps195
    go_wp2_with (refine wpList_make_row _ rfl _ _ 37 rfl 5 ti (.int .u8 0) Try.underlying37 hi hz h1 rfl .i64 .i64 size rfl rfl (by rw [h2]; omega) (by omega) ?_; refine As.out ?_)
    refine As.mk ?_
    generalize w.alloc _ = w0 at *
    clear hi hz h1 h2 ti
    go_wp2
    go_loopg [38] size (fun kq v38 wr => ∃ i : Nat, i + kq = size ∧ v38 = .int .i64 i ∧ As (wr.heap[w.heap.size]? = some (.cells (bytesA (accB size n i)) 5 (0, 0))) ∧ As (Below w.heap.size w wr))
    case atStart => exact ⟨0, by omega, rfl, HG, HB⟩
    case round =>
      clear HG HB
      obtain ⟨i, hi, rfl, HG, HB⟩ := hrel
      have HI := As.mk hi
      clear hi
      by_cases hlt : i < size
      · have e0 : decide ((i : Int) < (size : Int)) = true := decide_eq_true (by omega)
        have e1 : decide (i < size) = true := decide_eq_true hlt
        have hi7 : i ≤ 7 := by omega
        obtain ⟨j, hj⟩ : ∃ j : Nat, j = size - 1 - i := ⟨_, rfl⟩
        have g0 : wr.cell? ⟨w.heap.size, size - 1 - i, none⟩ = some (.int .u8 (nth (accB size n i) (size - 1 - i))) := by rw [cell_of_row wr _ _ _ _ _ HG.out, bytesA_at _ _ (by rw [accB_len _ _ _ (by omega)]; omega)]
        have g1 : wr.frozen? ⟨w.heap.size, size - 1 - i, none⟩ = false := frozen_of_row wr _ _ _ _ HG.out
        have HLT := As.mk hlt
        clear hj
        go_wp2
        go_roundg (size - (i + 1))
        case measure => have := HI.out; have := HLT.out; omega
        case rel =>
          refine ⟨i + 1, by have := HI.out; have := HLT.out; omega, by go_num, ⟨?_⟩, ⟨HB.out.setCell (Nat.le_refl _) _⟩⟩
          rw [← accB_set size n i HLT.out, ← bytesA_set, ← shr_byte]
          exact heap_setCell_same _ _ _ _ _ _ HG.out
      · have e0 : decide ((i : Int) < (size : Int)) = false := decide_eq_false (by omega)
        have e1 : decide (i < size) = false := decide_eq_false hlt
        obtain rfl : i = size := by have := HI.out; omega
        go_wp2
        go_ret2
        refine ⟨_, _, rfl, HB.out, ?_⟩
        have h := HG.out
        rw [accB_all] at h
        exact own_block' h (beB_len i n)
set_option maxHeartbeats 400000 in
theorem put_bad (n : Int) (h : n < 0 ∨ 4611686018427387904 < n) (w : World) :
    Calls Try.prog 195 #[.int .i64 n, .int .i64 8] w fun e w' => e = .returned (.tuple #[.slice none 0 0, .int .i64 2]) ∧ w = w' := by
  rcases h with h | h
  · go_enter Try.func195, Try.ntmps195
    go_wp2
    go_ret2
    exact ⟨rfl, rfl⟩
  · go_enter Try.func195, Try.ntmps195
    go_wp2
    go_ret2
    exact ⟨rfl, rfl⟩
end Go.Proofs.Yteajblfkfmopfaa.Put
