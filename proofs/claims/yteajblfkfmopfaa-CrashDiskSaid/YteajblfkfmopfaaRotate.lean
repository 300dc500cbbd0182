/- word.Rotate at the numbers of places that are used. -/
import Derived.Test.YteajblfkfmopfaaProg
import Derived.Test.YteajblfkfmopfaaMem
import Derived.Test.YteajblfkfmopfaaW32
import Derived.Outline
namespace Go.Proofs.Yteajblfkfmopfaa.Rotate
set_option linter.unusedVariables false
set_option linter.unusedSimpArgs false
open Go Go.RowKit Go.Proofs.Yteajblfkfmopfaa.Mem Go.Proofs.Yteajblfkfmopfaa.W32

theorem any (x : W) (w : World) (n : Nat) (hn : n ∈ [2, 6, 7, 11, 13, 17, 18, 19, 22, 25]) :
    Calls Try.prog 250 #[.int .u32 (x.toNat : Int), .int .i64 n] w fun e w' => e = .returned (.int .u32 ((rot x n).toNat : Int)) ∧ w = w' := by
  have hl : (x.toNat : Int) < 4294967296 := by have := lt x; omega
  have h0 : 0 ≤ (x.toNat : Int) := by omega
  have HR := As.mk (rot_int x n)
  simp only [List.mem_cons, List.not_mem_nil, or_false] at hn
  rcases hn with rfl | rfl | rfl | rfl | rfl | rfl | rfl | rfl | rfl | rfl
  · have hb : bits .and .u64 (2 : Int) 31 = 2 := by kernel_rfl
    go_enter Try.func250, Try.ntmps250
    go_wp2
    go_ret
    exact ⟨ret_int HR.out, rfl⟩
  · have hb : bits .and .u64 (6 : Int) 31 = 6 := by kernel_rfl
    go_enter Try.func250, Try.ntmps250
    go_wp2
    go_ret
    exact ⟨ret_int HR.out, rfl⟩
  · have hb : bits .and .u64 (7 : Int) 31 = 7 := by kernel_rfl
    go_enter Try.func250, Try.ntmps250
    go_wp2
    go_ret
    exact ⟨ret_int HR.out, rfl⟩
  · have hb : bits .and .u64 (11 : Int) 31 = 11 := by kernel_rfl
    go_enter Try.func250, Try.ntmps250
    go_wp2
    go_ret
    exact ⟨ret_int HR.out, rfl⟩
  · have hb : bits .and .u64 (13 : Int) 31 = 13 := by kernel_rfl
    go_enter Try.func250, Try.ntmps250
    go_wp2
    go_ret
    exact ⟨ret_int HR.out, rfl⟩
  · have hb : bits .and .u64 (17 : Int) 31 = 17 := by kernel_rfl
    go_enter Try.func250, Try.ntmps250
    go_wp2
    go_ret
    exact ⟨ret_int HR.out, rfl⟩
  · have hb : bits .and .u64 (18 : Int) 31 = 18 := by kernel_rfl
    go_enter Try.func250, Try.ntmps250
    go_wp2
    go_ret
    exact ⟨ret_int HR.out, rfl⟩
  · have hb : bits .and .u64 (19 : Int) 31 = 19 := by kernel_rfl
    go_enter Try.func250, Try.ntmps250
    go_wp2
    go_ret
    exact ⟨ret_int HR.out, rfl⟩
  · have hb : bits .and .u64 (22 : Int) 31 = 22 := by kernel_rfl
    go_enter Try.func250, Try.ntmps250
    go_wp2
    go_ret
    exact ⟨ret_int HR.out, rfl⟩
  · have hb : bits .and .u64 (25 : Int) 31 = 25 := by kernel_rfl
    go_enter Try.func250, Try.ntmps250
    go_wp2
    go_ret
    exact ⟨ret_int HR.out, rfl⟩

end Go.Proofs.Yteajblfkfmopfaa.Rotate
