/- chatelainelaw06.awake tells true. -/
import Derived.Test.YtpijkibhjklkoaaHmacTag
namespace Go.Proofs.Ytpijkibhjklkoaa.HmacAwake
set_option linter.unusedVariables false
set_option linter.unusedSimpArgs false
open Go Go.RowKit Go.Proofs.Ytpijkibhjklkoaa.Mem Go.Proofs.Ytpijkibhjklkoaa.Put32 Go.Proofs.Ytpijkibhjklkoaa.Pad Go.Proofs.Ytpijkibhjklkoaa.Sum Go.Proofs.Ytpijkibhjklkoaa.Eval Go.Proofs.Ytpijkibhjklkoaa.RefWith Go.Proofs.Ytpijkibhjklkoaa.RefSum Go.Proofs.Ytpijkibhjklkoaa.ShaAwake Go.Proofs.Ytpijkibhjklkoaa.ShaSums Go.Proofs.Ytpijkibhjklkoaa.ShaParts Go.Proofs.Ytpijkibhjklkoaa.Stretch Go.Proofs.Ytpijkibhjklkoaa.Hmac

def hiKey : List Int := List.replicate 20 11
def hiMsg : List Int := [72, 105, 32, 84, 104, 101, 114, 101]
theorem inner : sumB (flip 54 (padKey hiKey) ++ hiMsg) = sumF 2 (flip 54 (padKey hiKey) ++ hiMsg) := sum_eq 2 _ (by kernel_rfl)
theorem outer (S : List Int) (h : S.length = 32) : sumB (flip 92 (padKey hiKey) ++ S) = sumF 2 (flip 92 (padKey hiKey) ++ S) := sum_eq 2 _ (by
  have h1 : (flip 92 (padKey hiKey)).length = 64 := by rw [flip_len, padKey_len]
  rw [List.length_append, pad_len, List.length_append, h1, h]
  rfl)
theorem hi4 : (sumF 2 (flip 92 (padKey hiKey) ++ sumF 2 (flip 54 (padKey hiKey) ++ hiMsg))).take 4 = [0xb0, 0x34, 0x4c, 0x61] := by kernel_rfl
theorem tag4 : (tagB hiKey hiMsg).take 4 = [0xb0, 0x34, 0x4c, 0x61] := by
  unfold tagB
  rw [outer _ (sumB_len _), inner]
  exact hi4
theorem msg_byte : ∀ p ∈ ([[72, 105, 32, 84, 104], [101, 114, 101]] : List (List Int)), Byte p := by
  intro p hp y hy
  simp at hp
  rcases hp with rfl | rfl
  · simp at hy; omega
  · simp at hy; omega
set_option maxHeartbeats 1000000 in
set_option maxRecDepth 100000 in
theorem awake_true (w : World) : Calls Try.prog 40 #[] w fun e w' => e = .returned (.bool true) ∧ Below w.heap.size w w' := by
  obtain ⟨ti, hi, hz, h1, h2⟩ := info_parts CloneB.info
  have HB0 := As.mk (below_alloc (Below.refl w.heap.size w) (.cells (madeCells #[.int .u8 0] 20) 5))
  have HZ0 : As ((w.alloc (.cells (madeCells #[.int .u8 0] 20) 5)).heap[w.heap.size]? = some (.cells (bytesA (fill hiKey 20 0)) 5 (0, 0))) := ⟨by
    rw [show bytesA (fill hiKey 20 0) = madeCells #[.int .u8 0] 20 by kernel_rfl]
    exact heap_alloc_new w _⟩
  go_enter Try.func40, Try.ntmps40
  go_wp2_with (refine wpList_make_row _ rfl _ _ 22 rfl 5 ti (.int .u8 0) Try.underlying22 hi hz h1 rfl .i64 .i64 20 rfl rfl (by rw [h2]; decide) (by decide) ?_; refine As.out ?_)
  refine As.mk ?_
  generalize w.alloc _ = w0 at *
  go_wp2
  go_loopg [7] 20 (fun kq v7 wr => ∃ i : Nat, i + kq = 20 ∧ v7 = .int .i64 i ∧ As (wr.heap[w.heap.size]? = some (.cells (bytesA (fill hiKey 20 i)) 5 (0, 0))) ∧ As (Below w.heap.size w wr))
  case atStart => exact ⟨0, by omega, rfl, HZ0, HB0⟩
  case round =>
    clear HZ0 HB0 hi hz h1 h2
    obtain ⟨i, hi, rfl, HZ, HB⟩ := hrel
    have HI := As.mk hi
    clear hi
    by_cases hlt : i < 20
    · have e0 : decide ((i : Int) < 20) = true := decide_eq_true (by omega)
      have e1 : decide (i < 20) = true := decide_eq_true hlt
      have Li : (i : Int) < 20 := by omega
      have hw : wrap64 ((i : Int) + 1) = ((i + 1 : Nat) : Int) := wrap_up (by omega)
      have L1 : (fill hiKey 20 i).length = 20 := fill_len _ _ _ rfl (by omega)
      have g0 : wr.cell? ⟨w.heap.size, i, none⟩ = some (.int .u8 (nth (fill hiKey 20 i) i)) := by rw [cell_of_row wr _ i _ _ _ HZ.out, bytesA_at _ _ (by rw [L1]; exact hlt)]
      have g1 : wr.frozen? ⟨w.heap.size, i, none⟩ = false := frozen_of_row wr _ i _ _ HZ.out
      have HLT := As.mk hlt
      clear L1 hlt
      go_wp2
      go_roundg (20 - (i + 1))
      case measure => have := HI.out; have := HLT.out; omega
      case rel =>
        refine ⟨i + 1, by have := HI.out; have := HLT.out; omega, by go_num, ⟨?_⟩, ⟨HB.out.setCell (Nat.le_refl _) _⟩⟩
        rw [← fill_set hiKey 20 i rfl HLT.out]
        have hn : nth hiKey i = 11 := by
          rw [nth_getD, hiKey, List.getD_eq_getElem?_getD, List.getElem?_replicate, if_pos HLT.out]
          rfl
        rw [hn]
        exact heap_setCell_same _ _ _ _ _ _ HZ.out
    · have e0 : decide ((i : Int) < 20) = false := decide_eq_false (by omega)
      have e1 : decide (i < 20) = false := decide_eq_false hlt
      obtain rfl : i = 20 := by have := HI.out; omega
      have hz := HZ.out
      rw [fill_all hiKey 20 rfl] at hz
      have HK := As.mk (rd_block hz (show hiKey.length = 20 by rfl) (by decide))
      clear hz hlt HZ
      go_wp2_with (go_at_call 43; refine As.out ?_)
      refine As.mk ?_
      have A0 := alloc3_0 wr (.cells #[.int .u8 72, .int .u8 105, .int .u8 32, .int .u8 84, .int .u8 104] 5) (.cells #[.int .u8 101, .int .u8 114, .int .u8 101] 5) (.cells #[.slice (some ⟨wr.heap.size, 0, none⟩) 5 5, .slice (some ⟨wr.heap.size + 1, 0, none⟩) 3 3] 22)
      have A1 := alloc3_1 wr (.cells #[.int .u8 72, .int .u8 105, .int .u8 32, .int .u8 84, .int .u8 104] 5) (.cells #[.int .u8 101, .int .u8 114, .int .u8 101] 5) (.cells #[.slice (some ⟨wr.heap.size, 0, none⟩) 5 5, .slice (some ⟨wr.heap.size + 1, 0, none⟩) 3 3] 22)
      have A2 := alloc3_2 wr (.cells #[.int .u8 72, .int .u8 105, .int .u8 32, .int .u8 84, .int .u8 104] 5) (.cells #[.int .u8 101, .int .u8 114, .int .u8 101] 5) (.cells #[.slice (some ⟨wr.heap.size, 0, none⟩) 5 5, .slice (some ⟨wr.heap.size + 1, 0, none⟩) 3 3] 22)
      have AB := below_alloc (below_alloc (below_alloc (Below.refl wr.heap.size wr) (.cells #[.int .u8 72, .int .u8 105, .int .u8 32, .int .u8 84, .int .u8 104] 5)) (.cells #[.int .u8 101, .int .u8 114, .int .u8 101] 5)) (.cells #[.slice (some ⟨wr.heap.size, 0, none⟩) 5 5, .slice (some ⟨wr.heap.size + 1, 0, none⟩) 3 3] 22)
      generalize ((wr.alloc (.cells #[.int .u8 72, .int .u8 105, .int .u8 32, .int .u8 84, .int .u8 104] 5)).alloc (.cells #[.int .u8 101, .int .u8 114, .int .u8 101] 5)).alloc (.cells #[.slice (some ⟨wr.heap.size, 0, none⟩) 5 5, .slice (some ⟨wr.heap.size + 1, 0, none⟩) 3 3] 22) = w2 at *
      obtain ⟨T, hT⟩ : ∃ T, tagB hiKey hiMsg = T := ⟨_, rfl⟩
      have lT : T.length = 32 := by rw [← hT]; exact tagB_len _ _
      have t4 : T.take 4 = [0xb0, 0x34, 0x4c, 0x61] := by rw [← hT]; exact tag4
      have hb3 := below_step HB.out AB
      refine (tag_any hiKey (by intro y hy; rw [List.eq_of_mem_replicate hy]; omega) _ 20 20 [[72, 105, 32, 84, 104], [101, 114, 101]] msg_byte _ 2 2 w2 (by decide) (by decide) (by decide) (HK.out.below AB) (rdp_two w2 (wr.heap.size + 1 + 1) 22 [72, 105, 32, 84, 104] [101, 114, 101] _ _ 5 3 5 3 A2 (rd_block (x := [72, 105, 32, 84, 104]) A0 rfl (by decide)) (rd_block (x := [101, 114, 101]) A1 rfl (by decide))) T hT).mono ?_
      rintro e w3 ⟨rfl, hb⟩
      have HB3 := As.mk (below_step hb3 hb)
      clear hb hb3 A0 A1 A2 AB HK HB
      obtain ⟨V, hV⟩ : ∃ V, V = (T.map (Value.int .u8)).toArray := ⟨_, rfl⟩
      rw [← hV]
      have v1 : V.size = 32 := by rw [hV]; simp [lT]
      have v2 : V.all (·.oneCell') = true := by rw [hV]; exact bytesA_one T
      have cv : ∀ j v, j < 4 → ([0xb0, 0x34, 0x4c, 0x61] : List Int)[j]? = some v → V[j]? = some (.int .u8 v) := fun j v h hv => by
        rw [← t4, List.getElem?_take, if_pos h] at hv
        rw [hV, List.getElem?_toArray, List.getElem?_map, hv]
        rfl
      have a0 := cv 0 _ (by omega) rfl
      have a1 := cv 1 _ (by omega) rfl
      have a2 := cv 2 _ (by omega) rfl
      have a3 := cv 3 _ (by omega) rfl
      clear cv hV hT lT t4
      go_wp2_with (first
        | (refine wpList_allocArr rfl 44 rfl Z32 z32 ?_)
        | (refine wpList_storeNew rfl rfl 44 _ _ rfl rfl V rfl 44 Z32 (by rw [v1]; kernel_rfl) (by rw [v1]; kernel_rfl) v2 ?_; refine As.out ?_))
      refine As.mk ?_
      have cv : ∀ j v, V[j]? = some v → (w3.alloc (.cells V 44)).cell? ⟨w3.heap.size, j, none⟩ = some v := fun j v h => by rw [cell_of_row _ _ j _ _ _ (heap_alloc_new w3 _)]; exact h
      have c0 := cv 0 _ a0
      have c1 := cv 1 _ a1
      have c2 := cv 2 _ a2
      have c3 := cv 3 _ a3
      have HB4 := As.mk (below_alloc HB3.out (.cells V 44))
      clear cv a0 a1 a2 a3 HB3
      generalize w3.alloc _ = w4 at *
      go_wp2
      go_ret
      exact ⟨rfl, HB4.out⟩
end Go.Proofs.Ytpijkibhjklkoaa.HmacAwake
