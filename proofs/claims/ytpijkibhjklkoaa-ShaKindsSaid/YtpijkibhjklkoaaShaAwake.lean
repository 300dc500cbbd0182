/- chatelainelaw05.awake tells true. -/
import Derived.Test.YtpijkibhjklkoaaRefSum
namespace Go.Proofs.Ytpijkibhjklkoaa.ShaAwake
set_option linter.unusedVariables false
set_option linter.unusedSimpArgs false
open Go Go.RowKit Go.Proofs.Ytpijkibhjklkoaa.Mem Go.Proofs.Ytpijkibhjklkoaa.W32 Go.Proofs.Ytpijkibhjklkoaa.Turns Go.Proofs.Ytpijkibhjklkoaa.Put32 Go.Proofs.Ytpijkibhjklkoaa.Pad Go.Proofs.Ytpijkibhjklkoaa.Piece Go.Proofs.Ytpijkibhjklkoaa.Schedule Go.Proofs.Ytpijkibhjklkoaa.Take Go.Proofs.Ytpijkibhjklkoaa.Sum Go.Proofs.Ytpijkibhjklkoaa.RefWith Go.Proofs.Ytpijkibhjklkoaa.RefSum

/-- one part, in a block made for it -/
theorem rdp_one (w : World) (A : Option Addr) (n c : Nat) (x : List Int) (T : TypeId) (h : Rd .u8 w A n c x) : RdP (w.alloc (.cells #[.slice A n c] T)) (some ⟨w.heap.size, 0, none⟩) 1 1 [x] :=
  ⟨rfl, Nat.le_refl _, by decide, fun _ => ⟨_, rfl, fun j hj => by
    obtain rfl : j = 0 := by omega
    refine ⟨A, c, ?_, ?_⟩
    · show World.cell? _ _ = some (.slice A x.length c)
      rw [h.len]
      exact cell_of_row (w.alloc (.cells #[.slice A n c] T)) w.heap.size 0 #[.slice A n c] T (0, 0) (heap_alloc_new w _)
    · show Rd .u8 _ A x.length c x
      rw [h.len]
      exact h.below (below_alloc (Below.refl _ _) _)⟩⟩
theorem sum_one (x : List Int) (hx : Byte x) (A : Option Addr) (n c : Nat) (T : TypeId) (w : World) (hn : n ≤ 1099511627776) (h0 : Rd .u8 w A n c x) :
    Calls Try.prog 30 #[.slice (some ⟨w.heap.size, 0, none⟩) 1 1] (w.alloc (.cells #[.slice A n c] T)) fun e w' => e = .returned (.agg (sumA x)) ∧ Below w.heap.size w w' := by
  have h := sum_any [x] _ 1 1 _ (by intro p hp; simp at hp; subst hp; exact hx) (by simp; rw [h0.len]; exact hn) (by decide) (rdp_one w A n c x T h0)
  simp only [List.flatten_cons, List.flatten_nil, List.append_nil] at h
  exact h.mono fun e w' ⟨a, b⟩ => ⟨a, Below.trans (below_alloc (Below.refl _ _) _) (b.mono (by simp))⟩
theorem byte3 : Byte [97, 98, 99] := by
  intro y hy
  simp at hy
  omega
theorem abc_at (j : Nat) (v : Int) (h : j < 4) (hv : ([0xba, 0x78, 0x16, 0xbf] : List Int)[j]? = some v) : (sumA [97, 98, 99])[j]? = some (.int .u8 v) := by
  have e : (sumB [97, 98, 99]).take 4 = [0xba, 0x78, 0x16, 0xbf] := by rw [Eval.abc]; exact Eval.abc4
  unfold sumA
  rw [List.getElem?_toArray, List.getElem?_map]
  have : (sumB [97, 98, 99])[j]? = ((sumB [97, 98, 99]).take 4)[j]? := by rw [List.getElem?_take, if_pos h]
  rw [this, e, hv]
  rfl
set_option maxHeartbeats 400000 in
set_option maxRecDepth 100000 in
theorem awake_true (w : World) : Calls Try.prog 29 #[] w fun e w' => e = .returned (.bool true) ∧ Below w.heap.size w w' := by
  obtain ⟨V, hV⟩ : ∃ V, V = sumA [97, 98, 99] := ⟨_, rfl⟩
  have a0 : V[0]? = some (.int .u8 0xba) := by rw [hV]; exact abc_at 0 _ (by omega) rfl
  have a1 : V[1]? = some (.int .u8 0x78) := by rw [hV]; exact abc_at 1 _ (by omega) rfl
  have a2 : V[2]? = some (.int .u8 0x16) := by rw [hV]; exact abc_at 2 _ (by omega) rfl
  have a3 : V[3]? = some (.int .u8 0xbf) := by rw [hV]; exact abc_at 3 _ (by omega) rfl
  have HV := As.mk hV
  clear hV
  have L1 : As (Rd .u8 (w.alloc (.cells #[.int .u8 97, .int .u8 98, .int .u8 99] 5)) (some ⟨w.heap.size, 0, none⟩) 3 3 [97, 98, 99]) := ⟨Rd.lit w .u8 5 [97, 98, 99] (by decide)⟩
  have hsz : (w.alloc (.cells #[.int .u8 97, .int .u8 98, .int .u8 99] 5)).heap.size = w.heap.size + 1 := by simp
  have HB0 := As.mk (below_alloc (Below.refl w.heap.size w) (.cells #[.int .u8 97, .int .u8 98, .int .u8 99] 5))
  go_enter Try.func29, Try.ntmps29
  go_wp2_with (go_at_call 30; refine stop_here ?_)
  unfold StopHere
  rw [← hsz]
  generalize w.alloc _ = w0 at *
  refine (sum_one [97, 98, 99] byte3 _ 3 3 _ w0 (by decide) L1.out).mono ?_
  rintro e w1 ⟨rfl, hb⟩
  have HB1 := As.mk (Below.trans HB0.out (hb.mono HB0.out.size))
  rw [← HV.out]
  have v1 : V.size = 32 := by rw [HV.out]; exact sumA_size _
  have v2 : V.all (·.oneCell') = true := by rw [HV.out]; exact sumA_one _
  clear hb L1 HB0 HV
  go_wp2_with (first
    | (refine wpList_allocArr rfl 44 rfl Z32 z32 ?_)
    | (refine wpList_storeNew rfl rfl 44 _ _ rfl rfl V rfl 44 Z32 (by rw [v1]; kernel_rfl) (by rw [v1]; kernel_rfl) v2 ?_; refine stop_here ?_))
  unfold StopHere
  have cv : ∀ j v, V[j]? = some v → (w1.alloc (.cells V 44)).cell? ⟨w1.heap.size, j, none⟩ = some v := fun j v h => by rw [cell_of_row _ _ j _ _ _ (heap_alloc_new w1 _)]; exact h
  have c0 := cv 0 _ a0
  have c1 := cv 1 _ a1
  have c2 := cv 2 _ a2
  have c3 := cv 3 _ a3
  have HB2 := As.mk (below_alloc HB1.out (.cells V 44))
  clear cv a0 a1 a2 a3 HB1
  generalize w1.alloc _ = w2 at *
  go_wp2
  go_ret
  exact ⟨rfl, HB2.out⟩
end Go.Proofs.Ytpijkibhjklkoaa.ShaAwake
