/- tape.Stretch: a seed's bytes. -/
import Derived.Test.YtpijkibhjklkoaaShaParts
import Derived.Test.YtpijkibhjklkoaaFill
import Derived.StillTailTactics
namespace Go.Proofs.Ytpijkibhjklkoaa.Stretch
set_option linter.unusedVariables false
set_option linter.unusedSimpArgs false
open Go Go.RowKit Go.Proofs.Ytpijkibhjklkoaa.Mem Go.Proofs.Ytpijkibhjklkoaa.Put32 Go.Proofs.Ytpijkibhjklkoaa.Pad Go.Proofs.Ytpijkibhjklkoaa.Sum Go.Proofs.Ytpijkibhjklkoaa.RefWith Go.Proofs.Ytpijkibhjklkoaa.RefSum Go.Proofs.Ytpijkibhjklkoaa.ShaAwake Go.Proofs.Ytpijkibhjklkoaa.ShaSums Go.Proofs.Ytpijkibhjklkoaa.ShaParts

/-- m sums behind one another -/
def str (x : List Int) (m : Nat) : List Int := (List.range m).flatMap fun i => sumB (x ++ bytes8 i)
theorem str_succ (x : List Int) (m : Nat) : str x (m + 1) = str x m ++ sumB (x ++ bytes8 m) := by
  simp [str, List.range_succ]
theorem str_len (x : List Int) (m : Nat) : (str x m).length = 32 * m := by
  induction m with
  | zero => rfl
  | succ m ih => rw [str_succ, List.length_append, ih, sumB_len]; omega
theorem str_byte (x : List Int) (m : Nat) : Byte (str x m) := by
  intro y hy
  obtain ⟨i, _, h⟩ := List.mem_flatMap.1 hy
  exact sumB_byte _ y h

theorem run_cut_full {P : Program} (W : World) (t e : TypeId) {z : Option Value} {size bytes : Nat} (ht : P.underlying t = some (.slice e)) (hinfo : (P.info? e).map (fun i => (i.zero, i.size, i.bytes)) = some (z, size, bytes)) (A : Option Addr) (n c h : Nat) (k1 k2 : IntKind) (hh : h ≤ c) :
    (Instr.slice t (.slice A n c) none (some (.int k1 (h : Int))) (some (.int k2 (h : Int)))).run P W = .ok (.slice (cutA A h 0 size) h h) W := by
  obtain ⟨i, hi, _⟩ := Option.map_eq_some_iff.1 hinfo
  simp [Instr.slice, run_underlying ht, Instr.sliceBounds, Instr.sliceBound, asIntOf, sizeOf, typeInfo, hi, cutA, hh]
theorem rd_full {k : IntKind} {w : World} {A : Option Addr} {n c : Nat} {x : List Int} (r : Rd k w A n c x) (h : Nat) (hh : h ≤ n) : Rd k w (cutA A h 0 1) h h (x.take h) := by
  have h1 := r.to h hh
  refine ⟨h1.len, Nat.le_refl _, Nat.le_trans (Nat.le_trans hh r.le) r.cap, fun h0 => ?_⟩
  obtain ⟨ad, e, hc⟩ := h1.cells h0
  refine ⟨ad, ?_, hc⟩
  rw [← e]
  have hcc : 0 < c := Nat.lt_of_lt_of_le h0 (Nat.le_trans hh r.le)
  unfold cutA
  rw [if_neg (by omega), if_neg (by omega)]
theorem rdp_two (W : World) (b : Nat) (T : TypeId) (p0 p1 : List Int) (A0 A1 : Option Addr) (n0 n1 c0 c1 : Nat) (hg : W.heap[b]? = some (.cells #[.slice A0 n0 c0, .slice A1 n1 c1] T (0, 0)))
    (h0 : Rd .u8 W A0 n0 c0 p0) (h1 : Rd .u8 W A1 n1 c1 p1) : RdP W (some ⟨b, 0, none⟩) 2 2 [p0, p1] :=
  ⟨rfl, Nat.le_refl _, by decide, fun _ => ⟨_, rfl, fun j hj => by
    have hc := fun k => cell_of_row W b k _ _ _ hg
    rw [Addr.add_lit, Nat.zero_add, hc j]
    rcases (show j = 0 ∨ j = 1 by omega) with rfl | rfl
    · exact ⟨A0, c0, congrArg (fun m => some (Value.slice A0 m c0)) h0.len.symm, h0.len.symm ▸ h0⟩
    · exact ⟨A1, c1, congrArg (fun m => some (Value.slice A1 m c1)) h1.len.symm, h1.len.symm ▸ h1⟩⟩⟩
theorem sum_two (x y : List Int) (S : List Int) (hS : sumB (x ++ y) = S) (hx : Byte x) (hy : Byte y) (W : World) (b : Nat) (T : TypeId) (A0 A1 : Option Addr) (n0 n1 c0 c1 : Nat) (hn : n0 + n1 ≤ 1099511627776)
    (hg : W.heap[b]? = some (.cells #[.slice A0 n0 c0, .slice A1 n1 c1] T (0, 0))) (h0 : Rd .u8 W A0 n0 c0 x) (h1 : Rd .u8 W A1 n1 c1 y) :
    Calls Try.prog 30 #[.slice (some ⟨b, 0, none⟩) 2 2] W fun e w' => e = .returned (.agg (S.map (Value.int .u8)).toArray) ∧ Below W.heap.size W w' := by
  have h := sum_any [x, y] _ 2 2 W (by
    intro p hp
    simp only [List.mem_cons, List.not_mem_nil, or_false] at hp
    rcases hp with rfl | rfl
    · exact hx
    · exact hy) (by simp [h0.len, h1.len]; omega) (by decide) (rdp_two W b T x y A0 A1 n0 n1 c0 c1 hg h0 h1)
  simp only [List.flatten_cons, List.flatten_nil, List.append_nil] at h
  rw [show sumA (x ++ y) = (S.map (Value.int .u8)).toArray by rw [← hS]; rfl] at h
  exact h
set_option maxHeartbeats 400000 in
set_option maxRecDepth 100000 in
theorem bad (A : Option Addr) (s c : Nat) (n : Int) (w : World) (h : n < 0 ∨ 1048576 < n) :
    Calls Try.prog 47 #[.slice A s c, .int .i64 n] w fun e w' => e = .returned (.tuple #[.slice none 0 0, .int .i64 2]) ∧ w' = w := by
  by_cases h0 : n < 0
  · have d0 : decide (n < 0) = true := decide_eq_true h0
    clear h h0
    go_enter Try.func47, Try.ntmps47
    go_wp2
    go_ret2
    exact ⟨rfl, rfl⟩
  · have d0 : decide (n < 0) = false := decide_eq_false h0
    have d1 : decide (1048576 < n) = true := decide_eq_true (by omega)
    clear h h0
    go_enter Try.func47, Try.ntmps47
    go_wp2
    go_ret2
    exact ⟨rfl, rfl⟩

set_option maxHeartbeats 1000000 in
set_option maxRecDepth 100000 in
theorem ok (x : List Int) (hx : Byte x) (A : Option Addr) (s c n : Nat) (w : World) (hs : s ≤ 1048576) (hn : n ≤ 1048576) (h0 : Rd .u8 w A s c x) :
    Calls Try.prog 47 #[.slice A s c, .int .i64 n] w fun e w' => ∃ B d, e = .returned (.tuple #[.slice B n d, .int .i64 0]) ∧ Below w.heap.size w w' ∧ Rd .u8 w' B n d ((str x ((n + 31) / 32)).take n) := by
  have d0 : decide ((n : Int) < 0) = false := decide_eq_false (by omega)
  have d1 : decide (1048576 < (n : Int)) = false := decide_eq_false (by omega)
  have HX := As.mk hx
  have HS := As.mk hs
  have HN := As.mk hn
  have H0 := As.mk h0
  clear hx hs hn h0
  go_enter Try.func47, Try.ntmps47
  go_wp2
  obtain ⟨m, hm⟩ : ∃ m, m = (n + 31) / 32 := ⟨_, rfl⟩
  have HMM := As.mk hm
  clear hm
  go_loopg [6, 7] m (fun kq v6 v7 wr => ∃ (i : Nat) (B : Option Addr) (d : Nat), i + kq = m ∧ v6 = .slice B (32 * i) d ∧ v7 = .int .u64 i ∧ As (OwnAt wr w.heap.size (.slice B (32 * i) d) (32 * i) ((str x i).map (Value.int .u8))) ∧ As (Below w.heap.size w wr))
  case atStart => exact ⟨0, none, 0, by omega, rfl, rfl, ⟨OwnAt.nil _ _⟩, ⟨Below.refl _ _⟩⟩
  case round =>
    obtain ⟨i, B, d, hi, rfl, rfl, HO, HB⟩ := hrel
    have HI := As.mk hi
    clear hi
    obtain ⟨q, hq⟩ : ∃ q, q = 32 * i := ⟨_, rfl⟩
    have HQ := As.mk hq
    rw [← hq] at HO ⊢
    by_cases hlt : i < m
    · have hm := HMM.out
      have hnn := HN.out
      have e0 : decide ((q : Int) < (n : Int)) = true := decide_eq_true (by omega)
      have e1 : decide (q < n) = true := decide_eq_true (by omega)
      have hw : IntKind.u64.wrap ((i : Int) + 1) = ((i + 1 : Nat) : Int) := Go.Proofs.Ytpijkibhjklkoaa.Bits.wrap_u .u64 rfl (i + 1) (by show i + 1 < 18446744073709551616; omega)
      have HV := As.mk (show i < 18446744073709551616 by omega)
      have HQ2 := As.mk (show q + 32 ≤ 1048640 by omega)
      have HLT := As.mk hlt
      obtain ⟨S, hS⟩ : ∃ S, sumB (x ++ bytes8 i) = S := ⟨_, rfl⟩
      have lS : S.length = 32 := by rw [← hS]; exact sumB_len _
      have HSS := As.mk hS
      have LS := As.mk lS
      have VS := As.mk (show ((S.map (Value.int .u8)).toArray).size = 32 by simp [lS])
      clear hq hm hnn hS lS hlt
      go_wp2_with (first
        | (go_at_call 58; (with_reducible refine (put64 i HV.out _).mono ?_); rintro e w2 ⟨A2, c2, rfl, hb, ho⟩; obtain ⟨A2', c2', e2, hr⟩ := OwnAt.rd ho; cases e2; have HR2 := As.mk hr; have HB2 := As.mk (below_step HB.out hb); have HO2 := As.mk (HO.out.below hb); clear hb ho hr)
        | (go_at_call 30; (with_reducible refine (sum_two x (bytes8 i) S HSS.out HX.out (bytes8_byte i) _ _ 22 A A2 s 8 c c2 (by have := HS.out; omega) ?g ?r0 ?r1).mono ?_); (case g => exact heap_alloc_new _ _); (case r0 => exact H0.out.below (below_alloc HB2.out _)); (case r1 => exact HR2.out.below (below_alloc (Below.refl _ _) _)); rintro e w3 ⟨rfl, hb⟩; have HB3 := As.mk (below_step (below_alloc HB2.out (.cells #[.slice A s c, .slice A2 8 c2] 22)) hb); have HO3 := As.mk ((HO2.out.below (below_alloc (Below.refl _ _) _)).below hb); clear hb)
        | (refine wpList_allocArr rfl 44 rfl Z32 z32 ?_)
        | (refine wpList_storeNew rfl rfl 44 _ _ rfl rfl (S.map (Value.int .u8)).toArray rfl 44 Z32 (by rw [VS.out]; kernel_rfl) (by rw [VS.out]; kernel_rfl) (bytesA_one S) ?_; refine stop_here ?_))
      unfold StopHere
      have L4 : As (Rd .u8 (w3.alloc (.cells (S.map (Value.int .u8)).toArray 44)) (some ⟨w3.heap.size, 0, none⟩) 32 32 S) := ⟨by have := Rd.lit w3 .u8 44 S (by rw [LS.out]; decide); rw [LS.out] at this; exact this⟩
      have HB4 := As.mk (below_alloc HB3.out (.cells (S.map (Value.int .u8)).toArray 44))
      have HO4 := As.mk (HO3.out.below (below_alloc (Below.refl _ w3) (.cells (S.map (Value.int .u8)).toArray 44)))
      generalize w3.alloc _ = w4 at *
      generalize w3.heap.size = b3 at *
      clear HB3 HO3 HB2 HO2 HR2
      go_wp2_with (at_builtin; refine wpList_app2 rfl _ _ 22 rfl w.heap.size 5 (.int .u8 0) 1 Try.underlying22 CloneB.info rfl _ q _ rfl HO4.out _ 32 _ rfl (Src.rd L4.out) ?c4 ?c5 HB4.out.size HB4.out (Nat.le_refl _) ?_; (case c4 => have := HQ2.out; unfold maxLen; omega); (case c5 => have := HQ2.out; omega); intro v5 w5 hown hg hat hb5; obtain ⟨A5, c5, rfl⟩ := hown.slice; have HO5 := As.mk hown; have HB5 := As.mk hb5; clear hown hg hat hb5)
      go_roundg (m - (i + 1))
      case measure => have := HI.out; have := HLT.out; omega
      case rel =>
        refine ⟨i + 1, A5, c5, by have := HI.out; have := HLT.out; omega, by rw [HQ.out, Nat.mul_add], by go_num, ⟨?_⟩, HB5⟩
        have h := HO5.out
        rw [← List.map_append, ← HSS.out, ← str_succ, HQ.out] at h
        exact h
    · have hm := HMM.out
      have him : i = m := by have := HI.out; omega
      have hqn : n ≤ q := by have := HQ.out; omega
      have e0 : decide ((q : Int) < (n : Int)) = false := decide_eq_false (by omega)
      have e1 : decide (q < n) = false := decide_eq_false (by omega)
      obtain ⟨B', d', eB, hr⟩ := OwnAt.rd HO.out
      cases eB
      have HR := As.mk (rd_full hr n (by omega))
      have hsl : ∀ W, (Instr.slice 22 (.slice B q d) none (some (.int .i64 (n : Int))) (some (.int .i64 (n : Int)))).run Try.prog W = .ok (.slice (cutA B n 0 1) n n) W := fun W => run_cut_full (P := Try.prog) W 22 5 Try.underlying22 CloneB.info B q d n .i64 .i64 (by have := hr.le; omega)
      have HLE := As.mk hr.le
      have HE := As.mk (show str x i = str x ((n + 31) / 32) by rw [him, hm])
      have HQN := As.mk hqn
      clear hm him hqn hq hlt hr
      go_wp2
      go_ret2
      exact ⟨_, _, rfl, HB.out, by rw [← HE.out]; exact HR.out⟩
end Go.Proofs.Ytpijkibhjklkoaa.Stretch
