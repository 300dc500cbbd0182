/- tape.Stretch: a seed's bytes. -/
import Derived.Test.YteajblfkfmopfaaShaParts
import Derived.Test.YteajblfkfmopfaaFill
import Derived.StillTailTactics
namespace Go.Proofs.Yteajblfkfmopfaa.Stretch
set_option linter.unusedVariables false
set_option linter.unusedSimpArgs false
open Go Go.RowKit Go.Proofs.Yteajblfkfmopfaa.Mem Go.Proofs.Yteajblfkfmopfaa.Put32 Go.Proofs.Yteajblfkfmopfaa.Pad Go.Proofs.Yteajblfkfmopfaa.Sum Go.Proofs.Yteajblfkfmopfaa.RefWith Go.Proofs.Yteajblfkfmopfaa.RefSum Go.Proofs.Yteajblfkfmopfaa.ShaAwake Go.Proofs.Yteajblfkfmopfaa.ShaSums Go.Proofs.Yteajblfkfmopfaa.ShaParts

/-- m sums behind one another -/
def str (x : List Int) (m : Nat) : List Int := (List.range m).flatMap fun i => sumB (x ++ bytes8 i)
theorem str_succ (x : List Int) (m : Nat) : str x (m + 1) = str x m ++ sumB (x ++ bytes8 m) := by
  simp [str, List.range_succ]
theorem str_len (x : List Int) (m : Nat) : (str x m).length = 32 * m := by
  induction m with
  | zero => rfl
  | succ m ih => rw [str_succ, List.length_append, ih, sumB_len]; omega
theorem str_byte (x : List Int) (m : Nat) : Byte (str x m) := by
  intro y hy
  obtain ⟨i, _, h⟩ := List.mem_flatMap.1 hy
  exact sumB_byte _ y h

theorem run_cut_full {P : Program} (W : World) (t e : TypeId) {z : Option Value} {size bytes : Nat} (ht : P.underlying t = some (.slice e)) (hinfo : (P.info? e).map (fun i => (i.zero, i.size, i.bytes)) = some (z, size, bytes)) (A : Option Addr) (n c h : Nat) (k1 k2 : IntKind) (hh : h ≤ c) :
    (Instr.slice t (.slice A n c) none (some (.int k1 (h : Int))) (some (.int k2 (h : Int)))).run P W = .ok (.slice (cutA A h 0 size) h h) W := by
  obtain ⟨i, hi, _⟩ := Option.map_eq_some_iff.1 hinfo
  simp [Instr.slice, run_underlying ht, Instr.sliceBounds, Instr.sliceBound, asIntOf, sizeOf, typeInfo, hi, cutA, hh]
theorem rd_full {k : IntKind} {w : World} {A : Option Addr} {n c : Nat} {x : List Int} (r : Rd k w A n c x) (h : Nat) (hh : h ≤ n) : Rd k w (cutA A h 0 1) h h (x.take h) := by
  have h1 := r.to h hh
  refine ⟨h1.len, Nat.le_refl _, Nat.le_trans (Nat.le_trans hh r.le) r.cap, fun h0 => ?_⟩
  obtain ⟨ad, e, hc⟩ := h1.cells h0
  refine ⟨ad, ?_, hc⟩
  rw [← e]
  have hcc : 0 < c := Nat.lt_of_lt_of_le h0 (Nat.le_trans hh r.le)
  unfold cutA
  rw [if_neg (by omega), if_neg (by omega)]
theorem rdp_two (W : World) (b : Nat) (T : TypeId) (p0 p1 : List Int) (A0 A1 : Option Addr) (n0 n1 c0 c1 : Nat) (hg : W.heap[b]? = some (.cells #[.slice A0 n0 c0, .slice A1 n1 c1] T (0, 0)))
    (h0 : Rd .u8 W A0 n0 c0 p0) (h1 : Rd .u8 W A1 n1 c1 p1) : RdP W (some ⟨b, 0, none⟩) 2 2 [p0, p1] :=
  ⟨rfl, Nat.le_refl _, by decide, fun _ => ⟨_, rfl, fun j hj => by
    have hc := fun k => cell_of_row W b k _ _ _ hg
    rw [Addr.add_lit, Nat.zero_add, hc j]
    rcases (show j = 0 ∨ j = 1 by omega) with rfl | rfl
    · exact ⟨A0, c0, congrArg (fun m => some (Value.slice A0 m c0)) h0.len.symm, h0.len.symm ▸ h0⟩
    · exact ⟨A1, c1, congrArg (fun m => some (Value.slice A1 m c1)) h1.len.symm, h1.len.symm ▸ h1⟩⟩⟩
theorem sum_two (x y : List Int) (S : List Int) (hS : sumB (x ++ y) = S) (hx : Byte x) (hy : Byte y) (W : World) (b : Nat) (T : TypeId) (A0 A1 : Option Addr) (n0 n1 c0 c1 : Nat) (hn : n0 + n1 ≤ 1099511627776)
    (hg : W.heap[b]? = some (.cells #[.slice A0 n0 c0, .slice A1 n1 c1] T (0, 0))) (h0 : Rd .u8 W A0 n0 c0 x) (h1 : Rd .u8 W A1 n1 c1 y) :
    Calls Try.prog 198 #[.slice (some ⟨b, 0, none⟩) 2 2] W fun e w' => e = .returned (.agg (S.map (Value.int .u8)).toArray) ∧ Below W.heap.size W w' := by
  have h := sum_any [x, y] _ 2 2 W (by
    intro p hp
    simp only [List.mem_cons, List.not_mem_nil, or_false] at hp
    rcases hp with rfl | rfl
    · exact hx
    · exact hy) (by simp [h0.len, h1.len]; omega) (by decide) (rdp_two W b T x y A0 A1 n0 n1 c0 c1 hg h0 h1)
  simp only [List.flatten_cons, List.flatten_nil, List.append_nil] at h
  rw [show sumA (x ++ y) = (S.map (Value.int .u8)).toArray by rw [← hS]; rfl] at h
  exact h

end Go.Proofs.Yteajblfkfmopfaa.Stretch
