/- The row of AdminlogBytes: every input is read, the walk is taken, what came in reads as it did. Conditions: none. -/
import Derived.Test.YtjcofbjfolaoiaaRows
import Derived.Test.YtjcofbjfolaoiaaLift
import Derived.Test.YtjcofbjfolaoiaaWSized
import Derived.Test.YtjcofbjfolaoiaaAdminN
import Derived.WalkKit
import Derived.ProofKit
import Derived.OpenShut
import Derived.ShutString
import Derived.ChangeOld
import Derived.Below
import Derived.SizedLaws
namespace Go.Proofs.Ytjcofbjfolaoiaa.adminlogBytes
open Go.ChangeShapes Go.WideShapes Go.ChangeAt Go.RowKit
open Go.ChangeMaps (open_string shut_string)
theorem own : ownKnob Try.prog.godebug = none := by kernel_rfl
theorem laidOut : laidOutB Try.prog = true := by kernel_rfl
set_option maxRecDepth 100000 in
theorem lifted (os : Os) (started : os.Started) (H : Type) (enc : TypeId × Value → H) :
    ReturnsInHanded {} Try.checked os 13 .any (Rows.adminlogBytesSpec.pre6 enc Try.prog Try.f13 Rows.adminlogBytesRow.domain false) (Rows.adminlogBytesSpec.post enc Try.prog Try.f13 false true false false) := by
  refine returnsInHanded_of_change_sized (C := Try.checked) own started (by kernel_rfl) Try.func13
    (ChangeSpec.witness6 (enc := enc) (C := Try.checked) false ⟨#[], #[.agg (Go.Proofs.Ytjcofbjfolaoiaa.Admin.recA Go.Proofs.Ytjcofbjfolaoiaa.Admin.zero6), .slice none 0 0], []⟩ 8 (by kernel_rfl) (by kernel_rfl) (by kernel_rfl) (by kernel_rfl)) ?_
  intro W base args ds gs before hval0 hW hcnd hsz0 _
  have hsz : (DataW.weightsEach Try.prog (Try.f13.params.toList ++ Rows.adminlogBytesSpec.plain.varTypes Try.prog) (ds ++ gs)).all (· ≤ reachBytes) = true := hsz0
  have hval : ∀ (j : Nat) t v, Try.f13.params[j]? = some t → args[j]? = some v → Value.okWide Try.prog W .any base t v := hval0
  have hW' := hW
  obtain ⟨p, q, hA0, hV, rfl, hfz, hnd⟩ := hW
  have hA : DataW.TrodAll enc Try.prog W 0 (fun _ => true) true Try.f13.params.toList args.toList ds p := hA0
  rw [Try.params13] at hA hval hsz
  obtain ⟨v0, vs0, d0, ds0, p0, q0, hargs, rfl, rfl, h0, r0⟩ := trodAll_cons hA
  obtain ⟨v1, vs1, d1, ds1, p1, q1, rfl, rfl, rfl, h1, r1⟩ := trodAll_cons r0
  obtain ⟨rfl, rfl, rfl⟩ := trodAll_nil r1
  obtain rfl : args = #[v0, v1] := by cases args; simp_all
  obtain ⟨rfl, rfl⟩ := trodVars_none hV
  have k0 := h0
  have lt0 : ∀ x ∈ p0, x.block < W.heap.size := by obtain ⟨m, hm⟩ := k0; exact DataW.trod_lt m _ _ _ hm
  obtain ⟨z0, rfl, l0⟩ := Go.Proofs.Ytjcofbjfolaoiaa.LiftR.rec1 (m := 6) Try.underlying101 (by kernel_rfl) (by kernel_rfl) (by intro i f h; rcases i with _ | _ | _ | _ | _ | _ | i <;> first | (simp only [List.getElem?_toArray, List.getElem?_cons_zero, List.getElem?_cons_succ, List.getElem?_nil, Option.some.injEq, reduceCtorEq] at h; subst h; exact ⟨by kernel_rfl, by kernel_rfl, Try.underlying3⟩) | (simp at h)) (hval 0 101 v0 rfl rfl) h0
  obtain ⟨a1, len1, cap1, rfl⟩ := okWide_slice Try.underlying32 (hval 1 32 v1 rfl rfl)
  have k1 := h1
  have lt1 : ∀ x ∈ p1, x.block < W.heap.size := by obtain ⟨m, hm⟩ := k1; exact DataW.trod_lt m _ _ _ hm
  obtain ⟨x1, f1, g1⟩ := Go.Proofs.Ytjcofbjfolaoiaa.Lift.ints Try.underlying32 Try.underlying5 (by kernel_rfl) h1
  have y1 : len1 * 1 ≤ 140737488351232 := Go.Proofs.YtjcofbjfolaoiaaW.PrintWords.sized_ints hsz (j := 1) (t := 32) rfl rfl Try.underlying32 Try.underlying5 (by kernel_rfl) (by kernel_rfl) h1
  clear hA0 hval0 hsz0 hsz
  refine (Go.Proofs.Ytjcofbjfolaoiaa.Admin.bytes_walk z0 a1 len1 cap1 x1 W l0 f1 g1 y1).mono fun e W' ⟨he, bel⟩ => ?_
  subst he
  exact ⟨_, rfl, _, _, _, [], _, [], hW', trodAll_mk1 (shut_bool Try.underlying4 _), (trodAll_cons_mk (Below.trod laidOut (by kernel_rfl) (of_decide_eq_true (by kernel_rfl)) k0 bel lt0) (trodAll_cons_mk (Below.trod laidOut (by kernel_rfl) (of_decide_eq_true (by kernel_rfl)) k1 bel lt1) trodAll_mk0)), rfl, bel.frame _, fun h => by cases h⟩
theorem over : Rows.adminlogBytesRow.holds Try.pinned (OpenSpec.ofChange Rows.adminlogBytesSpec) :=
  OpenClaim.holds_of_wide 13 Try.f13 rfl rfl rfl rfl rfl rfl rfl ⟨rfl, rfl, rfl, rfl, rfl⟩ rfl rfl rfl rfl rfl (by kernel_rfl) Try.func13 (by kernel_rfl)
    (of_decide_eq_true (by kernel_rfl)) (by unfold Func.isWrapper; first | (rw [if_pos (by decide +kernel)]; kernel_rfl) | (rw [if_neg (by decide +kernel)]; exact ⟨rfl, rfl⟩))
    (fun os started H enc _ => lifted os started H enc)
theorem proved : Rows.AdminlogBytesSaid := over
#print axioms proved
end Go.Proofs.Ytjcofbjfolaoiaa.adminlogBytes
namespace Go.Proofs.Ytjcofbjfolaoiaa
/-- The row, under a short name, for the claim. -/
theorem adminlogBytes_holds : Rows.AdminlogBytesSaid := adminlogBytes.proved
end Go.Proofs.Ytjcofbjfolaoiaa
