/- The row of AdminlogBinds: every input is read, the walk is taken, what came in reads as it did. Conditions: none. -/
import Derived.Test.YtjcofbjfolaoiaaRows
import Derived.Test.YtjcofbjfolaoiaaLift
import Derived.Test.YtjcofbjfolaoiaaWSized
import Derived.Test.YtjcofbjfolaoiaaAdminB
import Derived.Test.YtjcofbjfolaoiaaLift5
import Derived.WalkKit
import Derived.ProofKit
import Derived.OpenShut
import Derived.ShutString
import Derived.ChangeOld
import Derived.Below
import Derived.SizedLaws
namespace Go.Proofs.Ytjcofbjfolaoiaa.adminlogBinds
open Go.ChangeShapes Go.WideShapes Go.ChangeAt Go.RowKit
open Go.ChangeMaps (open_string shut_string)
theorem own : ownKnob Try.prog.godebug = none := by kernel_rfl
theorem laidOut : laidOutB Try.prog = true := by kernel_rfl
set_option maxRecDepth 100000 in
theorem lifted (os : Os) (started : os.Started) (H : Type) (enc : TypeId × Value → H) :
    ReturnsInHanded {} Try.checked os 11 .any (Rows.adminlogBindsSpec.pre6 enc Try.prog Try.f11 Rows.adminlogBindsRow.domain false) (Rows.adminlogBindsSpec.post enc Try.prog Try.f11 false true false false) := by
  refine returnsInHanded_of_change_sized (C := Try.checked) own started (by kernel_rfl) Try.func11
    (ChangeSpec.witness6 (enc := enc) (C := Try.checked) false ⟨#[], #[.slice none 0 0, .slice none 0 0, .slice none 0 0], []⟩ 8 (by kernel_rfl) (by kernel_rfl) (by kernel_rfl) (by kernel_rfl)) ?_
  intro W base args ds gs before hval0 hW hcnd hsz0 _
  have hsz : (DataW.weightsEach Try.prog (Try.f11.params.toList ++ Rows.adminlogBindsSpec.plain.varTypes Try.prog) (ds ++ gs)).all (· ≤ reachBytes) = true := hsz0
  have hval : ∀ (j : Nat) t v, Try.f11.params[j]? = some t → args[j]? = some v → Value.okWide Try.prog W .any base t v := hval0
  have hW' := hW
  obtain ⟨p, q, hA0, hV, rfl, hfz, hnd⟩ := hW
  have hA : DataW.TrodAll enc Try.prog W 0 (fun _ => true) true Try.f11.params.toList args.toList ds p := hA0
  rw [Try.params11] at hA hval hsz
  obtain ⟨v0, vs0, d0, ds0, p0, q0, hargs, rfl, rfl, h0, r0⟩ := trodAll_cons hA
  obtain ⟨v1, vs1, d1, ds1, p1, q1, rfl, rfl, rfl, h1, r1⟩ := trodAll_cons r0
  obtain ⟨v2, vs2, d2, ds2, p2, q2, rfl, rfl, rfl, h2, r2⟩ := trodAll_cons r1
  obtain ⟨rfl, rfl, rfl⟩ := trodAll_nil r2
  obtain rfl : args = #[v0, v1, v2] := by cases args; simp_all
  obtain ⟨rfl, rfl⟩ := trodVars_none hV
  obtain ⟨a0, len0, cap0, rfl⟩ := okWide_slice Try.underlying32 (hval 0 32 v0 rfl rfl)
  have k0 := h0
  have lt0 : ∀ x ∈ p0, x.block < W.heap.size := by obtain ⟨m, hm⟩ := k0; exact DataW.trod_lt m _ _ _ hm
  obtain ⟨x0, f0, g0⟩ := Go.Proofs.Ytjcofbjfolaoiaa.Lift.ints Try.underlying32 Try.underlying5 (by kernel_rfl) h0
  have y0 : len0 * 1 ≤ 140737488351232 := Go.Proofs.YtjcofbjfolaoiaaW.PrintWords.sized_ints hsz (j := 0) (t := 32) rfl rfl Try.underlying32 Try.underlying5 (by kernel_rfl) (by kernel_rfl) h0
  have k1 := h1
  have lt1 : ∀ x ∈ p1, x.block < W.heap.size := by obtain ⟨m, hm⟩ := k1; exact DataW.trod_lt m _ _ _ hm
  obtain ⟨a1, len1, cap1, rfl⟩ := okWide_slice Try.underlying96 (hval 1 96 v1 rfl rfl)
  obtain ⟨x1, f1, g1⟩ := Go.Proofs.Ytjcofbjfolaoiaa.Lift.rows_ints Try.underlying96 Try.underlying101 (by kernel_rfl) (by kernel_rfl) (by intro i f h; rcases i with _ | _ | _ | _ | _ | _ | _ | _ | i <;> first | (simp at h; subst h; exact Try.underlying3) | (simp at h)) h1
  have k2 := h2
  have lt2 : ∀ x ∈ p2, x.block < W.heap.size := by obtain ⟨m, hm⟩ := k2; exact DataW.trod_lt m _ _ _ hm
  obtain ⟨a2, len2, cap2, rfl⟩ := okWide_slice Try.underlying96 (hval 2 96 v2 rfl rfl)
  obtain ⟨x2, f2, g2⟩ := Go.Proofs.Ytjcofbjfolaoiaa.Lift.rows_ints Try.underlying96 Try.underlying101 (by kernel_rfl) (by kernel_rfl) (by intro i f h; rcases i with _ | _ | _ | _ | _ | _ | _ | _ | i <;> first | (simp at h; subst h; exact Try.underlying3) | (simp at h)) h2
  clear hA0 hval0 hsz0 hsz
  refine (Go.Proofs.Ytjcofbjfolaoiaa.Binds.binds_walk a0 len0 cap0 x0 a1 len1 cap1 x1 a2 len2 cap2 x2 W f0 g0 y0 f1 g1 f2 g2).mono fun e W' ⟨he, bel⟩ => ?_
  subst he
  exact ⟨_, rfl, _, _, _, [], _, [], hW', trodAll_mk1 (shut_bool Try.underlying4 _), (trodAll_cons_mk (Below.trod laidOut (by kernel_rfl) (of_decide_eq_true (by kernel_rfl)) k0 bel lt0) (trodAll_cons_mk (Below.trod laidOut (by kernel_rfl) (of_decide_eq_true (by kernel_rfl)) k1 bel lt1) (trodAll_cons_mk (Below.trod laidOut (by kernel_rfl) (of_decide_eq_true (by kernel_rfl)) k2 bel lt2) trodAll_mk0))), rfl, bel.frame _, fun h => by cases h⟩
theorem over : Rows.adminlogBindsRow.holds Try.pinned (OpenSpec.ofChange Rows.adminlogBindsSpec) :=
  OpenClaim.holds_of_wide 11 Try.f11 rfl rfl rfl rfl rfl rfl rfl ⟨rfl, rfl, rfl, rfl, rfl⟩ rfl rfl rfl rfl rfl (by kernel_rfl) Try.func11 (by kernel_rfl)
    (of_decide_eq_true (by kernel_rfl)) (by unfold Func.isWrapper; first | (rw [if_pos (by decide +kernel)]; kernel_rfl) | (rw [if_neg (by decide +kernel)]; exact ⟨rfl, rfl⟩))
    (fun os started H enc _ => lifted os started H enc)
theorem proved : Rows.AdminlogBindsSaid := over
#print axioms proved
end Go.Proofs.Ytjcofbjfolaoiaa.adminlogBinds
namespace Go.Proofs.Ytjcofbjfolaoiaa
/-- The row, under a short name, for the claim. -/
theorem adminlogBinds_holds : Rows.AdminlogBindsSaid := adminlogBinds.proved
end Go.Proofs.Ytjcofbjfolaoiaa
