/- slices.Clone at []byte: a row of the call's own, with the same bytes. -/
import Derived.Test.YteajblfkfmopfaaProg
import Derived.Test.YteajblfkfmopfaaMem
import Derived.Deep.LoopGhost
import Derived.Deep.QuietTactic
import Derived.BigQuiet
import Derived.Lib.SliceRun
import Derived.Outline
namespace Go.Proofs.Yteajblfkfmopfaa.CloneB
set_option linter.unusedVariables false
set_option linter.unusedSimpArgs false
open Go Go.RowKit Go.Proofs.Yteajblfkfmopfaa.Mem

theorem info : (Try.prog.info? 5).map (fun i => (i.zero, i.size, i.bytes)) = some (some (.int .u8 0), 1, 1) := by kernel_rfl

set_option maxHeartbeats 400000 in
set_option maxRecDepth 100000 in
theorem any (x : List Int) (A : Option Addr) (n c : Nat) (w : World) (hn : n ≤ 140737488351232) (h0 : Rd .u8 w A n c x) :
    Calls Try.prog 128 #[.slice A n c] w fun e w' => ∃ A' c', e = .returned (.slice A' n c') ∧ w'.ownsRow w.heap.size 5 1 (.slice A' n c') n (x.map (Value.int .u8)) ∧ Below w.heap.size w w' := by
  have HN := As.mk hn
  clear hn
  rcases A with _ | ad
  · obtain rfl : n = 0 := by
      rcases Nat.eq_zero_or_pos n with h | h
      · exact h
      · obtain ⟨ad, e, _⟩ := h0.cells h; cases e
    obtain rfl : x = [] := List.eq_nil_of_length_eq_zero h0.len
    have hnil := Lib.run_eql_slice_nil (P := Try.prog) w 37 5 none 0 c 0 0 Try.underlying37
    go_enter Try.func128, Try.ntmps128
    go_wp2
    go_ret
    exact ⟨_, _, rfl, World.ownsRow_nil _ _ _ _, Below.refl _ _⟩
  · have hnil := Lib.run_eql_slice_nil (P := Try.prog) w 37 5 (some ad) n c 0 0 Try.underlying37
    go_enter Try.func128, Try.ntmps128
    go_wp2_with (at_builtin; refine wpList_app rfl _ _ 37 rfl w.heap.size 5 (.int .u8 0) 1 1 Try.underlying37 info rfl (by decide) _ 0 [] rfl (World.ownsRow_lit w #[] 0 (Nat.le_refl _) (by decide) rfl) _ n (x.map (Value.int .u8)) rfl (Src.rd (h0.below (below_alloc (Below.refl _ _) _))) ?c1 ?c2 ?c3 (below_alloc (Below.refl _ w) _) (Nat.le_refl _) ?_; (case c1 => have := HN.out; unfold maxLen; omega); (case c2 => have := HN.out; omega); (case c3 => simp); intro v3 w3 hown hg hat hb3; simp only [Nat.zero_add, List.nil_append] at hown; obtain ⟨A', c', rfl⟩ := own_slice hown)
    go_ret
    exact ⟨_, _, rfl, hown, hb3⟩

end Go.Proofs.Yteajblfkfmopfaa.CloneB
