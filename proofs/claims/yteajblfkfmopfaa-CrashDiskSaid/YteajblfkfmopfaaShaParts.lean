/- chatelainelaw05.awake tells true. ShaSums: the law's walk. ShaParts: the law's walk. -/
import Derived.Test.YteajblfkfmopfaaRefSum
import Derived.Test.YteajblfkfmopfaaFill
import Derived.Test.YteajblfkfmopfaaRefSame
import Derived.Deep.RegionHeld2
import Derived.Test.YteajblfkfmopfaaLift
namespace Go.Proofs.Yteajblfkfmopfaa.ShaAwake
set_option linter.unusedVariables false
set_option linter.unusedSimpArgs false
open Go Go.RowKit Go.Proofs.Yteajblfkfmopfaa.Mem Go.Proofs.Yteajblfkfmopfaa.W32 Go.Proofs.Yteajblfkfmopfaa.Turns Go.Proofs.Yteajblfkfmopfaa.Put32 Go.Proofs.Yteajblfkfmopfaa.Pad Go.Proofs.Yteajblfkfmopfaa.Piece Go.Proofs.Yteajblfkfmopfaa.Schedule Go.Proofs.Yteajblfkfmopfaa.Take Go.Proofs.Yteajblfkfmopfaa.Sum Go.Proofs.Yteajblfkfmopfaa.RefWith Go.Proofs.Yteajblfkfmopfaa.RefSum

/-- one part, in a block made for it -/
theorem rdp_one (w : World) (A : Option Addr) (n c : Nat) (x : List Int) (T : TypeId) (h : Rd .u8 w A n c x) : RdP (w.alloc (.cells #[.slice A n c] T)) (some ⟨w.heap.size, 0, none⟩) 1 1 [x] :=
  ⟨rfl, Nat.le_refl _, by decide, fun _ => ⟨_, rfl, fun j hj => by
    obtain rfl : j = 0 := by omega
    refine ⟨A, c, ?_, ?_⟩
    · show World.cell? _ _ = some (.slice A x.length c)
      rw [h.len]
      exact cell_of_row (w.alloc (.cells #[.slice A n c] T)) w.heap.size 0 #[.slice A n c] T (0, 0) (heap_alloc_new w _)
    · show Rd .u8 _ A x.length c x
      rw [h.len]
      exact h.below (below_alloc (Below.refl _ _) _)⟩⟩
theorem sum_one (x : List Int) (hx : Byte x) (A : Option Addr) (n c : Nat) (T : TypeId) (w : World) (hn : n ≤ 1099511627776) (h0 : Rd .u8 w A n c x) :
    Calls Try.prog 198 #[.slice (some ⟨w.heap.size, 0, none⟩) 1 1] (w.alloc (.cells #[.slice A n c] T)) fun e w' => e = .returned (.agg (sumA x)) ∧ Below w.heap.size w w' := by
  have h := sum_any [x] _ 1 1 _ (by intro p hp; simp at hp; subst hp; exact hx) (by simp; rw [h0.len]; exact hn) (by decide) (rdp_one w A n c x T h0)
  simp only [List.flatten_cons, List.flatten_nil, List.append_nil] at h
  exact h.mono fun e w' ⟨a, b⟩ => ⟨a, Below.trans (below_alloc (Below.refl _ _) _) (b.mono (by simp))⟩
theorem byte3 : Byte [97, 98, 99] := by
  intro y hy
  simp at hy
  omega
theorem abc_at (j : Nat) (v : Int) (h : j < 4) (hv : ([0xba, 0x78, 0x16, 0xbf] : List Int)[j]? = some v) : (sumA [97, 98, 99])[j]? = some (.int .u8 v) := by
  have e : (sumB [97, 98, 99]).take 4 = [0xba, 0x78, 0x16, 0xbf] := by rw [Eval.abc]; exact Eval.abc4
  unfold sumA
  rw [List.getElem?_toArray, List.getElem?_map]
  have : (sumB [97, 98, 99])[j]? = ((sumB [97, 98, 99]).take 4)[j]? := by rw [List.getElem?_take, if_pos h]
  rw [this, e, hv]
  rfl
end Go.Proofs.Yteajblfkfmopfaa.ShaAwake
namespace Go.Proofs.Yteajblfkfmopfaa.ShaSums
set_option linter.unusedVariables false
set_option linter.unusedSimpArgs false
open Go Go.RowKit Go.Proofs.Yteajblfkfmopfaa.Mem Go.Proofs.Yteajblfkfmopfaa.Sum Go.Proofs.Yteajblfkfmopfaa.RefWith Go.Proofs.Yteajblfkfmopfaa.RefSum Go.Proofs.Yteajblfkfmopfaa.ShaAwake

theorem sumB_byte (x : List Int) : Byte (sumB x) := by
  intro y hy
  unfold sumB at hy
  obtain ⟨j, _, h⟩ := List.mem_flatMap.1 hy
  exact Put32.bytes4_byte _ y h
theorem sum_same (W : World) (x : List Int) : (Op.equalIn 10000 43 (.agg (sumA x)) (.agg (sumA x))).run Try.prog W = .ok true W := by
  have h := run_eq_ints (P := Try.prog) W 43 5 32 uArr32 Try.underlying5 info8 (sumB x) (sumB x) (sumB_byte x) (sumB_byte x) (sumB_len x) (sumB_len x)
  rw [decide_eq_true rfl] at h
  exact h


end Go.Proofs.Yteajblfkfmopfaa.ShaSums
namespace Go.Proofs.Yteajblfkfmopfaa.ShaParts
set_option linter.unusedVariables false
set_option linter.unusedSimpArgs false
open Go Go.RowKit Go.Proofs.Yteajblfkfmopfaa.Mem Go.Proofs.Yteajblfkfmopfaa.Pad Go.Proofs.Yteajblfkfmopfaa.Sum Go.Proofs.Yteajblfkfmopfaa.RefWith Go.Proofs.Yteajblfkfmopfaa.RefSum Go.Proofs.Yteajblfkfmopfaa.ShaAwake Go.Proofs.Yteajblfkfmopfaa.ShaSums


theorem wid (n : Nat) (h : n ≤ 140737488351232) : wrap64 (n : Int) = (n : Int) := by unfold wrap64; omega
theorem al2_0 (w : World) (a b : Obj) : ((w.alloc a).alloc b).heap[w.heap.size]? = some a := heap_alloc2_old w a b
theorem al2_1 (w : World) (a b : Obj) : ((w.alloc a).alloc b).heap[w.heap.size + 1]? = some b := by
  have := heap_alloc_new (w.alloc a) b
  simpa using this
theorem al2_lt1 (w : World) (a b : Obj) : w.heap.size + 1 < ((w.alloc a).alloc b).heap.size := by
  have h1 : (w.alloc a).heap.size = w.heap.size + 1 := by simp
  have h2 : ((w.alloc a).alloc b).heap.size = (w.alloc a).heap.size + 1 := by simp
  omega
theorem al2_lt0 (w : World) (a b : Obj) : w.heap.size < ((w.alloc a).alloc b).heap.size := by
  have := al2_lt1 w a b
  omega
theorem rdp_cells (W : World) (b : Nat) (T : TypeId) (p0 p1 p2 p3 : List Int) (A0 A1 A2 A3 : Option Addr) (n0 n1 n2 n3 c0 c1 c2 c3 : Nat) (hg : W.heap[b]? = some (.cells #[.slice A0 n0 c0, .slice A1 n1 c1, .slice A2 n2 c2, .slice A3 n3 c3] T (0, 0)))
    (h0 : Rd .u8 W A0 n0 c0 p0) (h1 : Rd .u8 W A1 n1 c1 p1) (h2 : Rd .u8 W A2 n2 c2 p2) (h3 : Rd .u8 W A3 n3 c3 p3) : RdP W (some ⟨b, 0, none⟩) 4 4 [p0, p1, p2, p3] :=
  ⟨rfl, Nat.le_refl _, by decide, fun _ => ⟨_, rfl, fun j hj => by
    have hc := fun k => cell_of_row W b k _ _ _ hg
    rw [Addr.add_lit, Nat.zero_add, hc j]
    rcases (show j = 0 ∨ j = 1 ∨ j = 2 ∨ j = 3 by omega) with rfl | rfl | rfl | rfl
    · exact ⟨A0, c0, congrArg (fun m => some (Value.slice A0 m c0)) h0.len.symm, h0.len.symm ▸ h0⟩
    · exact ⟨A1, c1, congrArg (fun m => some (Value.slice A1 m c1)) h1.len.symm, h1.len.symm ▸ h1⟩
    · exact ⟨A2, c2, congrArg (fun m => some (Value.slice A2 m c2)) h2.len.symm, h2.len.symm ▸ h2⟩
    · exact ⟨A3, c3, congrArg (fun m => some (Value.slice A3 m c3)) h3.len.symm, h3.len.symm ▸ h3⟩⟩⟩
theorem cut3 (x : List Int) (i k : Nat) (hik : i ≤ k) : [x.take i, (x.drop i).take (k - i), [], x.drop k].flatten = x := by
  simp only [List.flatten_cons, List.flatten_nil, List.nil_append, List.append_nil]
  rw [show x.drop k = (x.drop i).drop (k - i) by rw [List.drop_drop]; congr 1; omega, List.take_append_drop, List.take_append_drop]
theorem sum_parts (W : World) (b i k : Nat) (T : TypeId) (x : List Int) (hx : Byte x) (A : Option Addr) (n c : Nat) (hn : n ≤ 400) (hi : i ≤ k) (hk : k ≤ n)
    (hg : W.heap[b]? = some (.cells #[.slice (cutA A c 0 1) i c, .slice (cutA A c i 1) (k - i) (c - i), .slice none 0 0, .slice (cutA A c k 1) (n - k) (c - k)] T (0, 0))) (h : Rd .u8 W A n c x) :
    Calls Try.prog 198 #[.slice (some ⟨b, 0, none⟩) 4 4] W fun e w' => e = .returned (.agg (sumA x)) ∧ Below W.heap.size W w' := by
  have h3 := h.cut k n hk (Nat.le_refl _)
  have e3 : (x.drop k).take (n - k) = x.drop k := List.take_of_length_le (by rw [List.length_drop, h.len]; exact Nat.le_refl _)
  rw [e3] at h3
  have hp := rdp_cells W b T _ _ _ _ _ _ _ _ _ _ _ _ _ _ _ _ hg (h.to i (by omega)) (h.cut i k hi hk) (Rd.nil _ _ _ _ (by decide)) h3
  have := sum_any [x.take i, (x.drop i).take (k - i), [], x.drop k] _ 4 4 W (by
    intro p hp y hy
    simp only [List.mem_cons, List.not_mem_nil, or_false] at hp
    rcases hp with rfl | rfl | rfl | rfl
    · exact hx y (List.mem_of_mem_take hy)
    · exact hx y (List.mem_of_mem_drop (List.mem_of_mem_take hy))
    · simp at hy
    · exact hx y (List.mem_of_mem_drop hy)) (by rw [cut3 x i k hi, h.len]; omega) (by decide) hp
  rw [cut3 x i k hi] at this
  exact this
theorem sum_whole (W : World) (b : Nat) (T : TypeId) (x : List Int) (hx : Byte x) (A : Option Addr) (n c : Nat) (hn : n ≤ 400)
    (hg : W.heap[b]? = some (.cells #[.slice A n c] T (0, 0))) (h : Rd .u8 W A n c x) :
    Calls Try.prog 198 #[.slice (some ⟨b, 0, none⟩) 1 1] W fun e w' => e = .returned (.agg (sumA x)) ∧ Below W.heap.size W w' := by
  have hp : RdP W (some ⟨b, 0, none⟩) 1 1 [x] := ⟨rfl, Nat.le_refl _, by decide, fun _ => ⟨_, rfl, fun j hj => by
    obtain rfl : j = 0 := by omega
    rw [Addr.add_lit, cell_of_row W b 0 _ _ _ hg]
    exact ⟨A, c, congrArg (fun m => some (Value.slice A m c)) h.len.symm, h.len.symm ▸ h⟩⟩⟩
  have := sum_any [x] _ 1 1 W (by intro p hp; simp at hp; subst hp; exact hx) (by simp; rw [h.len]; omega) (by decide) hp
  simpa using this

end Go.Proofs.Yteajblfkfmopfaa.ShaParts
