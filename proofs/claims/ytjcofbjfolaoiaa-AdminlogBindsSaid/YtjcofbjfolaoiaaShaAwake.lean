/- chatelainelaw05.awake tells true. -/
import Derived.Test.YtjcofbjfolaoiaaRefSum
namespace Go.Proofs.Ytjcofbjfolaoiaa.ShaAwake
set_option linter.unusedVariables false
set_option linter.unusedSimpArgs false
open Go Go.RowKit Go.Proofs.Ytjcofbjfolaoiaa.Mem Go.Proofs.Ytjcofbjfolaoiaa.W32 Go.Proofs.Ytjcofbjfolaoiaa.Turns Go.Proofs.Ytjcofbjfolaoiaa.Put32 Go.Proofs.Ytjcofbjfolaoiaa.Pad Go.Proofs.Ytjcofbjfolaoiaa.Piece Go.Proofs.Ytjcofbjfolaoiaa.Schedule Go.Proofs.Ytjcofbjfolaoiaa.Take Go.Proofs.Ytjcofbjfolaoiaa.Sum Go.Proofs.Ytjcofbjfolaoiaa.RefWith Go.Proofs.Ytjcofbjfolaoiaa.RefSum

/-- one part, in a block made for it -/
theorem rdp_one (w : World) (A : Option Addr) (n c : Nat) (x : List Int) (T : TypeId) (h : Rd .u8 w A n c x) : RdP (w.alloc (.cells #[.slice A n c] T)) (some ⟨w.heap.size, 0, none⟩) 1 1 [x] :=
  ⟨rfl, Nat.le_refl _, by decide, fun _ => ⟨_, rfl, fun j hj => by
    obtain rfl : j = 0 := by omega
    refine ⟨A, c, ?_, ?_⟩
    · show World.cell? _ _ = some (.slice A x.length c)
      rw [h.len]
      exact cell_of_row (w.alloc (.cells #[.slice A n c] T)) w.heap.size 0 #[.slice A n c] T (0, 0) (heap_alloc_new w _)
    · show Rd .u8 _ A x.length c x
      rw [h.len]
      exact h.below (below_alloc (Below.refl _ _) _)⟩⟩
theorem sum_one (x : List Int) (hx : Byte x) (A : Option Addr) (n c : Nat) (T : TypeId) (w : World) (hn : n ≤ 1099511627776) (h0 : Rd .u8 w A n c x) :
    Calls Try.prog 101 #[.slice (some ⟨w.heap.size, 0, none⟩) 1 1] (w.alloc (.cells #[.slice A n c] T)) fun e w' => e = .returned (.agg (sumA x)) ∧ Below w.heap.size w w' := by
  have h := sum_any [x] _ 1 1 _ (by intro p hp; simp at hp; subst hp; exact hx) (by simp; rw [h0.len]; exact hn) (by decide) (rdp_one w A n c x T h0)
  simp only [List.flatten_cons, List.flatten_nil, List.append_nil] at h
  exact h.mono fun e w' ⟨a, b⟩ => ⟨a, Below.trans (below_alloc (Below.refl _ _) _) (b.mono (by simp))⟩
theorem byte3 : Byte [97, 98, 99] := by
  intro y hy
  simp at hy
  omega
theorem abc_at (j : Nat) (v : Int) (h : j < 4) (hv : ([0xba, 0x78, 0x16, 0xbf] : List Int)[j]? = some v) : (sumA [97, 98, 99])[j]? = some (.int .u8 v) := by
  have e : (sumB [97, 98, 99]).take 4 = [0xba, 0x78, 0x16, 0xbf] := by rw [Eval.abc]; exact Eval.abc4
  unfold sumA
  rw [List.getElem?_toArray, List.getElem?_map]
  have : (sumB [97, 98, 99])[j]? = ((sumB [97, 98, 99]).take 4)[j]? := by rw [List.getElem?_take, if_pos h]
  rw [this, e, hv]
  rfl
end Go.Proofs.Ytjcofbjfolaoiaa.ShaAwake
