/- chatelainelaw11.awake tells true. -/
import Derived.Test.YtpijkibhjklkoaaTape
import Derived.Test.YtpijkibhjklkoaaRefSame
namespace Go.Proofs.Ytpijkibhjklkoaa.TapeAwake
open Go Go.RowKit Go.Proofs.Ytpijkibhjklkoaa.Mem Go.Proofs.Ytpijkibhjklkoaa.Tape

set_option maxHeartbeats 400000 in
set_option maxRecDepth 100000 in
theorem awake_true (w : World) : Calls Try.prog 21 #[] w fun e w' => e = .returned (.bool true) ∧ Below w.heap.size w w' := by
  have L1 := As.mk (Rd.lit w .u8 5 [1, 2, 3] (by decide))
  have HB0 := As.mk (below_alloc (Below.refl _ w) (.cells #[.int .u8 1, .int .u8 2, .int .u8 3] 5))
  go_enter Try.func21, Try.ntmps21
  go_wp2_with (first
    | (go_at_call 22; refine (new_any [1, 2, 3] _ 3 3 _ (by decide) L1.out).mono ?_; rintro e w1 ⟨p, A, c, rfl, hp, ht, _, hb⟩; have HT := As.mk ht; have HB := As.mk (below_step HB0.out hb); have hsz := HB.out.size; have HP := As.mk hp; clear ht hb hp)
    | (go_at_call 24; refine (draw_ok _ 2 HT.out (by decide)).mono ?_; rintro e w2 ⟨A', c', rfl, hg, ht2, ho⟩; have HT2 := As.mk ht2; have HG := As.mk hg; obtain ⟨A2, c2, e2, hr⟩ := own_rd ho; cases e2; have HR := As.mk hr; clear hg ht2 ho hr)
    | (go_at_call 18; refine (RefSame.same_any [1, 2] [1, 2] _ _ 2 2 _ _ _ true (by decide) (by simp) (HR.out.below (below_alloc (Below.refl _ _) _)) (Rd.lit w2 .u8 5 [1, 2] (by decide))).mono ?_; rintro e w3 ⟨rfl, n3, rfl⟩)
    | (go_at_call 26; refine (left_any _ ((HT2.out.below (below_alloc (Below.refl _ _) _)).drewN n3)).mono ?_; rintro e w4 ⟨rfl, n4, rfl⟩))
  go_ret
  exact ⟨rfl, below_drewN (below_alloc (below_some HB.out HG.out hsz (Nat.le_trans HB0.out.size HP.out)) _) _⟩

end Go.Proofs.Ytpijkibhjklkoaa.TapeAwake
