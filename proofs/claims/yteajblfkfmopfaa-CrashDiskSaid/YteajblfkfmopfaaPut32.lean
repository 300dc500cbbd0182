/- word.Put32, word.Put64. -/
import Derived.Test.YteajblfkfmopfaaTurns
import Derived.Test.YteajblfkfmopfaaMem2
import Derived.Handy
import Derived.Test.YteajblfkfmopfaaCloneB
namespace Go.Proofs.Yteajblfkfmopfaa.Put32
set_option linter.unusedVariables false
set_option linter.unusedSimpArgs false
open Go Go.RowKit Go.Proofs.Yteajblfkfmopfaa.Mem Go.Proofs.Yteajblfkfmopfaa.W32 Go.Proofs.Yteajblfkfmopfaa.Bits

/-- a word's bytes, the highest first -/
def bytes4 (v : Nat) : List Int := [((v / 16777216 % 256 : Nat) : Int), ((v / 65536 % 256 : Nat) : Int), ((v / 256 % 256 : Nat) : Int), ((v % 256 : Nat) : Int)]
theorem bytes4_byte (v : Nat) : Byte (bytes4 v) := by
  intro x hx
  simp only [bytes4, List.mem_cons, List.not_mem_nil, or_false] at hx
  omega

theorem OwnAt.lit (w : World) (T : TypeId) (xs : List Value) (hm : xs.length ≤ maxLen) : OwnAt (w.alloc (.cells xs.toArray T)) w.heap.size (.slice (some ⟨w.heap.size, 0, none⟩) xs.length xs.length) xs.length xs :=
  ⟨rfl, .inr ⟨w.heap.size, 0, xs.length, xs.toArray, T, rfl, Nat.le_refl _, heap_alloc_new w _, by simp, Nat.le_refl _, hm, fun j hj => by simp⟩⟩

set_option maxHeartbeats 400000 in
set_option maxRecDepth 100000 in
theorem put32 (v : Nat) (hv : v < 4294967296) (w : World) :
    Calls Try.prog 222 #[.int .u32 (v : Int)] w fun e w' => e = .returned (.slice (some ⟨w.heap.size, 0, none⟩) 4 4) ∧ Below w.heap.size w w' ∧ OwnAt w' w.heap.size (.slice (some ⟨w.heap.size, 0, none⟩) 4 4) 4 ((bytes4 v).map (Value.int .u8)) := by
  have HV := As.mk hv
  clear hv
  have i0 : ∀ w, (Instr.index 283 (.agg #[.int .u64 24, .int .u64 16, .int .u64 8, .int .u64 0]) (.int .i64 0)).run Try.prog w = .ok (.int .u64 24) w := fun _ => by kernel_rfl
  have i1 : ∀ w, (Instr.index 283 (.agg #[.int .u64 24, .int .u64 16, .int .u64 8, .int .u64 0]) (.int .i64 1)).run Try.prog w = .ok (.int .u64 16) w := fun _ => by kernel_rfl
  have i2 : ∀ w, (Instr.index 283 (.agg #[.int .u64 24, .int .u64 16, .int .u64 8, .int .u64 0]) (.int .i64 2)).run Try.prog w = .ok (.int .u64 8) w := fun _ => by kernel_rfl
  have i3 : ∀ w, (Instr.index 283 (.agg #[.int .u64 24, .int .u64 16, .int .u64 8, .int .u64 0]) (.int .i64 3)).run Try.prog w = .ok (.int .u64 0) w := fun _ => by kernel_rfl
  go_enter Try.func222, Try.ntmps222
  go_wp2
  refine wp_loop_rounds 5 ?_
  rw [rounds_succ]
  go_wp2
  rw [rounds_succ]
  go_wp2
  rw [rounds_succ]
  go_wp2
  rw [rounds_succ]
  go_wp2
  rw [rounds_succ]
  go_wp2
  go_ret
  refine ⟨rfl, below_alloc (Below.refl _ _) _, ?_⟩
  have := OwnAt.lit w 282 ((bytes4 v).map (Value.int .u8)) (by simp [bytes4, maxLen])
  have e : ((bytes4 v).map (Value.int .u8)).toArray = #[.int .u8 ((v : Int) / 16777216 % 256), .int .u8 ((v : Int) / 65536 % 256), .int .u8 ((v : Int) / 256 % 256), .int .u8 ((v : Int) % 256)] := by
    simp only [bytes4, List.map_cons, List.map_nil]
    have h1 : ((v / 16777216 % 256 : Nat) : Int) = (v : Int) / 16777216 % 256 := by omega
    have h2 : ((v / 65536 % 256 : Nat) : Int) = (v : Int) / 65536 % 256 := by omega
    have h3 : ((v / 256 % 256 : Nat) : Int) = (v : Int) / 256 % 256 := by omega
    have h4 : ((v % 256 : Nat) : Int) = (v : Int) % 256 := by omega
    rw [h1, h2, h3, h4]
  rw [e] at this
  exact this

/-- a number's eight bytes -/
def bytes8 (v : Nat) : List Int := bytes4 (v / 4294967296) ++ bytes4 (v % 4294967296)
theorem bytes8_byte (v : Nat) : Byte (bytes8 v) := by
  intro x hx
  rcases List.mem_append.mp hx with h | h
  · exact bytes4_byte _ x h
  · exact bytes4_byte _ x h

set_option maxHeartbeats 400000 in
set_option maxRecDepth 100000 in
theorem put64 (v : Nat) (hv : v < 18446744073709551616) (w : World) :
    Calls Try.prog 238 #[.int .u64 (v : Int)] w fun e w' => ∃ A c, e = .returned (.slice A 8 c) ∧ Below w.heap.size w w' ∧ OwnAt w' w.heap.size (.slice A 8 c) 8 ((bytes8 v).map (Value.int .u8)) := by
  obtain ⟨hi, hhi⟩ : ∃ hi : Nat, hi = v / 4294967296 := ⟨_, rfl⟩
  obtain ⟨lo, hlo⟩ : ∃ lo : Nat, lo = v % 4294967296 := ⟨_, rfl⟩
  have HE : As (bytes8 v = bytes4 hi ++ bytes4 lo) := ⟨by rw [hhi, hlo]; rfl⟩
  have HV := As.mk (show hi < 4294967296 by omega)
  have HV2 := As.mk (show lo < 4294967296 by omega)
  have r1 : IntKind.u32.wrap ((v : Int) / 4294967296) = (hi : Int) := by rw [IntKind.wrap_u32]; omega
  have r2 : IntKind.u32.wrap (v : Int) = (lo : Int) := by rw [IntKind.wrap_u32]; omega
  clear hv hhi hlo
  go_enter Try.func238, Try.ntmps238
  go_wp2_with (first
    | (go_at_call 222; (with_reducible refine (put32 hi HV.out _).mono ?_); rintro e w1 ⟨rfl, hb, ho⟩; have HB1 := As.mk hb; have HO1 := As.mk ho; clear hb ho)
    | (go_at_call 222; (with_reducible refine (put32 lo HV2.out _).mono ?_); rintro e w2 ⟨rfl, hb, ho⟩; have HB2 := As.mk (below_step HB1.out hb); have HO1b := As.mk (HO1.out.below hb); have HO2 := As.mk ho; have hsz := HB1.out.size; clear hb ho)
    | (at_builtin; refine wpList_app2 rfl _ _ 37 rfl w.heap.size 5 (.int .u8 0) 1 Try.underlying37 CloneB.info rfl _ 4 _ rfl HO1b.out _ 4 _ rfl (Src.own HO2.out (ints_oneCell .u8 _)) (by decide) (by decide) ?c3 HB2.out (Nat.le_refl _) ?_; (case c3 => exact HB2.out.size); intro v3 w3 hown hg hat hb3; obtain ⟨A3, c3, rfl⟩ := hown.slice))
  clear r1 r2
  go_ret
  rw [HE.out, List.map_append]
  exact ⟨_, _, rfl, hb3, hown⟩

end Go.Proofs.Yteajblfkfmopfaa.Put32
