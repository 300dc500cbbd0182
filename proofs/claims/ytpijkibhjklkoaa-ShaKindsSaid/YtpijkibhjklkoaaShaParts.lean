/- ShaParts: the law's walk. -/
import Derived.Test.YtpijkibhjklkoaaShaSums
import Derived.Test.YtpijkibhjklkoaaRefSame
import Derived.Deep.RegionHeld2
import Derived.Test.YtpijkibhjklkoaaLift
namespace Go.Proofs.Ytpijkibhjklkoaa.ShaParts
set_option linter.unusedVariables false
set_option linter.unusedSimpArgs false
open Go Go.RowKit Go.Proofs.Ytpijkibhjklkoaa.Mem Go.Proofs.Ytpijkibhjklkoaa.Pad Go.Proofs.Ytpijkibhjklkoaa.Sum Go.Proofs.Ytpijkibhjklkoaa.RefWith Go.Proofs.Ytpijkibhjklkoaa.RefSum Go.Proofs.Ytpijkibhjklkoaa.ShaAwake Go.Proofs.Ytpijkibhjklkoaa.ShaSums

set_option maxHeartbeats 400000 in
set_option maxRecDepth 100000 in
theorem far (A : Option Addr) (n c : Nat) (v : Array Value) (t : Int) (w : World) (h : 400 < n) :
    Calls Try.prog 9 #[.slice A n c, .agg v, .int .i64 t] w fun e w' => e = .returned (.bool true) ∧ Below w.heap.size w w' := by
  have d3 : decide (400 < (n : Int)) = true := decide_eq_true (by omega)
  have d3' : decide (400 < n) = true := decide_eq_true (by omega)
  clear h
  go_enter Try.func9, Try.ntmps9
  go_wp2_with (go_at_call 29; refine (awake_true _).mono ?_; rintro e w1 ⟨rfl, hb⟩)
  go_ret
  exact ⟨rfl, below_step (below_alloc (Below.refl _ _) _) hb⟩

theorem wid (n : Nat) (h : n ≤ 140737488351232) : wrap64 (n : Int) = (n : Int) := by unfold wrap64; omega
theorem al2_0 (w : World) (a b : Obj) : ((w.alloc a).alloc b).heap[w.heap.size]? = some a := heap_alloc2_old w a b
theorem al2_1 (w : World) (a b : Obj) : ((w.alloc a).alloc b).heap[w.heap.size + 1]? = some b := by
  have := heap_alloc_new (w.alloc a) b
  simpa using this
theorem al2_lt1 (w : World) (a b : Obj) : w.heap.size + 1 < ((w.alloc a).alloc b).heap.size := by
  have h1 : (w.alloc a).heap.size = w.heap.size + 1 := by simp
  have h2 : ((w.alloc a).alloc b).heap.size = (w.alloc a).heap.size + 1 := by simp
  omega
theorem al2_lt0 (w : World) (a b : Obj) : w.heap.size < ((w.alloc a).alloc b).heap.size := by
  have := al2_lt1 w a b
  omega
theorem rdp_cells (W : World) (b : Nat) (T : TypeId) (p0 p1 p2 p3 : List Int) (A0 A1 A2 A3 : Option Addr) (n0 n1 n2 n3 c0 c1 c2 c3 : Nat) (hg : W.heap[b]? = some (.cells #[.slice A0 n0 c0, .slice A1 n1 c1, .slice A2 n2 c2, .slice A3 n3 c3] T (0, 0)))
    (h0 : Rd .u8 W A0 n0 c0 p0) (h1 : Rd .u8 W A1 n1 c1 p1) (h2 : Rd .u8 W A2 n2 c2 p2) (h3 : Rd .u8 W A3 n3 c3 p3) : RdP W (some ⟨b, 0, none⟩) 4 4 [p0, p1, p2, p3] :=
  ⟨rfl, Nat.le_refl _, by decide, fun _ => ⟨_, rfl, fun j hj => by
    have hc := fun k => cell_of_row W b k _ _ _ hg
    rw [Addr.add_lit, Nat.zero_add, hc j]
    rcases (show j = 0 ∨ j = 1 ∨ j = 2 ∨ j = 3 by omega) with rfl | rfl | rfl | rfl
    · exact ⟨A0, c0, congrArg (fun m => some (Value.slice A0 m c0)) h0.len.symm, h0.len.symm ▸ h0⟩
    · exact ⟨A1, c1, congrArg (fun m => some (Value.slice A1 m c1)) h1.len.symm, h1.len.symm ▸ h1⟩
    · exact ⟨A2, c2, congrArg (fun m => some (Value.slice A2 m c2)) h2.len.symm, h2.len.symm ▸ h2⟩
    · exact ⟨A3, c3, congrArg (fun m => some (Value.slice A3 m c3)) h3.len.symm, h3.len.symm ▸ h3⟩⟩⟩
theorem cut3 (x : List Int) (i k : Nat) (hik : i ≤ k) : [x.take i, (x.drop i).take (k - i), [], x.drop k].flatten = x := by
  simp only [List.flatten_cons, List.flatten_nil, List.nil_append, List.append_nil]
  rw [show x.drop k = (x.drop i).drop (k - i) by rw [List.drop_drop]; congr 1; omega, List.take_append_drop, List.take_append_drop]
theorem sum_parts (W : World) (b i k : Nat) (T : TypeId) (x : List Int) (hx : Byte x) (A : Option Addr) (n c : Nat) (hn : n ≤ 400) (hi : i ≤ k) (hk : k ≤ n)
    (hg : W.heap[b]? = some (.cells #[.slice (cutA A c 0 1) i c, .slice (cutA A c i 1) (k - i) (c - i), .slice none 0 0, .slice (cutA A c k 1) (n - k) (c - k)] T (0, 0))) (h : Rd .u8 W A n c x) :
    Calls Try.prog 30 #[.slice (some ⟨b, 0, none⟩) 4 4] W fun e w' => e = .returned (.agg (sumA x)) ∧ Below W.heap.size W w' := by
  have h3 := h.cut k n hk (Nat.le_refl _)
  have e3 : (x.drop k).take (n - k) = x.drop k := List.take_of_length_le (by rw [List.length_drop, h.len]; exact Nat.le_refl _)
  rw [e3] at h3
  have hp := rdp_cells W b T _ _ _ _ _ _ _ _ _ _ _ _ _ _ _ _ hg (h.to i (by omega)) (h.cut i k hi hk) (Rd.nil _ _ _ _ (by decide)) h3
  have := sum_any [x.take i, (x.drop i).take (k - i), [], x.drop k] _ 4 4 W (by
    intro p hp y hy
    simp only [List.mem_cons, List.not_mem_nil, or_false] at hp
    rcases hp with rfl | rfl | rfl | rfl
    · exact hx y (List.mem_of_mem_take hy)
    · exact hx y (List.mem_of_mem_drop (List.mem_of_mem_take hy))
    · simp at hy
    · exact hx y (List.mem_of_mem_drop hy)) (by rw [cut3 x i k hi, h.len]; omega) (by decide) hp
  rw [cut3 x i k hi] at this
  exact this
theorem sum_whole (W : World) (b : Nat) (T : TypeId) (x : List Int) (hx : Byte x) (A : Option Addr) (n c : Nat) (hn : n ≤ 400)
    (hg : W.heap[b]? = some (.cells #[.slice A n c] T (0, 0))) (h : Rd .u8 W A n c x) :
    Calls Try.prog 30 #[.slice (some ⟨b, 0, none⟩) 1 1] W fun e w' => e = .returned (.agg (sumA x)) ∧ Below W.heap.size W w' := by
  have hp : RdP W (some ⟨b, 0, none⟩) 1 1 [x] := ⟨rfl, Nat.le_refl _, by decide, fun _ => ⟨_, rfl, fun j hj => by
    obtain rfl : j = 0 := by omega
    rw [Addr.add_lit, cell_of_row W b 0 _ _ _ hg]
    exact ⟨A, c, congrArg (fun m => some (Value.slice A m c)) h.len.symm, h.len.symm ▸ h⟩⟩⟩
  have := sum_any [x] _ 1 1 W (by intro p hp; simp at hp; subst hp; exact hx) (by simp; rw [h.len]; omega) (by decide) hp
  simpa using this
set_option maxHeartbeats 2000000 in
set_option maxRecDepth 100000 in
theorem near (x : List Int) (hx : Byte x) (A : Option Addr) (n c a b : Nat) (t : Int) (w : World) (hn : n ≤ 400) (ha : a < 65536) (hb : b < 65536) (h0 : Rd .u8 w A n c x) (ht : (t < 0 ∨ 1099511627776 < t) ∨ ∃ m : Nat, t = (m : Int) ∧ m ≤ 1099511627776) :
    Calls Try.prog 9 #[.slice A n c, .agg #[.int .u16 a, .int .u16 b], .int .i64 t] w fun e w' => e = .returned (.bool true) ∧ Below w.heap.size w w' := by
  have d3 : decide (400 < (n : Int)) = false := decide_eq_false (by omega)
  have d3' : decide (400 < n) = false := decide_eq_false (by omega)
  obtain ⟨n1, hn1⟩ : ∃ n1 : Nat, n1 = n + 1 := ⟨_, rfl⟩
  obtain ⟨i, hi⟩ : ∃ i : Nat, i = a % n1 := ⟨_, rfl⟩
  have hi2 : i < n1 := by rw [hi]; exact Nat.mod_lt _ (by omega)
  obtain ⟨m1, hm1⟩ : ∃ m1 : Nat, m1 = n - i + 1 := ⟨_, rfl⟩
  obtain ⟨j, hj⟩ : ∃ j : Nat, j = b % m1 := ⟨_, rfl⟩
  have hj2 : j < m1 := by rw [hj]; exact Nat.mod_lt _ (by omega)
  obtain ⟨k, hk⟩ : ∃ k : Nat, k = i + j := ⟨_, rfl⟩
  obtain ⟨d, hd⟩ : ∃ d : Nat, d = n - i := ⟨_, rfl⟩
  have HH : As (i ≤ k ∧ k ≤ n) := ⟨by omega⟩
  have E1 := As.mk (show (n : Int) + 1 = (n1 : Int) by omega)
  have E3 := As.mk (show ((n1 : Int) = 0) = False by simp; omega)
  have E4 := As.mk (show Int.tmod (a : Int) (n1 : Int) = (i : Int) by rw [hi, Int.ofNat_tmod])
  have E5 := As.mk (show (a : Int) % (n1 : Int) = (i : Int) by rw [hi, Int.natCast_emod])
  have E6 := As.mk (show (n : Int) - (i : Int) = (d : Int) by omega)
  have E7 := As.mk (show (d : Int) + 1 = (m1 : Int) by omega)
  have E10 := As.mk (show ((m1 : Int) = 0) = False by simp; omega)
  have E11 := As.mk (show Int.tmod (b : Int) (m1 : Int) = (j : Int) by rw [hj, Int.ofNat_tmod])
  have E12 := As.mk (show (b : Int) % (m1 : Int) = (j : Int) by rw [hj, Int.natCast_emod])
  have E13 := As.mk (show (i : Int) + (j : Int) = (k : Int) by omega)
  have W2 := As.mk (wid n1 (by omega))
  have W8 := As.mk (wid m1 (by omega))
  have W9 := As.mk (wid d (by omega))
  have W14 := As.mk (wid k (by omega))
  have W15 := As.mk (wid i (by omega))
  have W16 := As.mk (wid j (by omega))
  have W17 := As.mk (wid a (by omega))
  have W18 := As.mk (wid b (by omega))
  have HT := As.mk ht
  have HX := As.mk hx
  have HN := As.mk hn
  have HB0 := As.mk (below_alloc (Below.refl w.heap.size w) (.cells #[.int .u16 (a : Int), .int .u16 (b : Int)] 48))
  have HG0 := As.mk (heap_alloc_new w (.cells #[.int .u16 (a : Int), .int .u16 (b : Int)] 48))
  have H0 := As.mk (h0.below HB0.out)
  clear ht hx hn h0 ha hb hn1 hi hi2 hm1 hj hj2 hk hd
  go_enter Try.func9, Try.ntmps9
  go_wp2_with (go_at_call 29; refine stop_here ?_)
  unfold StopHere
  have HS0 := As.mk (show w.heap.size < (w.alloc (.cells #[.int .u16 (a : Int), .int .u16 (b : Int)] 48)).heap.size by simp)
  generalize w.alloc _ = w0 at *
  refine (awake_true _).mono ?_
  rintro e w1 ⟨rfl, hb⟩
  have hG := (hb.block _ HS0.out).trans HG0.out
  have g0 : w1.cell? ⟨w.heap.size, 0, none⟩ = some (.int .u16 (a : Int)) := by rw [cell_of_row w1 _ 0 _ _ _ hG]; rfl
  have g1 : w1.cell? ⟨w.heap.size, 1, none⟩ = some (.int .u16 (b : Int)) := by rw [cell_of_row w1 _ 1 _ _ _ hG]; rfl
  have HB1 := As.mk (below_step HB0.out (hb.mono (by have := HB0.out.size; exact Nat.le_refl _)))
  have H1 := As.mk (H0.out.below hb)
  clear hb hG H0 HG0 HS0
  have e1 := E1.out
  have e5 := E5.out
  have w2 := W2.out
  have w17 := W17.out
  have zz : wrap64 (wrap64 ((n : Int) - (i : Int)) + 1) = (m1 : Int) := by rw [E6.out, W9.out, E7.out, W8.out]
  have q2 : ¬ (m1 : Int) = 0 := by rw [E10.out]; exact id
  have q1 : ¬ (n1 : Int) = 0 := by rw [E3.out]; exact id
  have zk : wrap64 ((i : Int) + (wrap64 (b : Int)).tmod (m1 : Int)) = (k : Int) := by rw [W18.out, E11.out, E13.out, W14.out]
  go_wp2
  rw [e5, zk]
  clear zz q1 q2 zk e1 e5 w2 w17 g0 g1 E1 E3 E4 E5 E6 E7 E10 E11 E12 E13 W2 W8 W9 W14 W15 W16 W17 W18
  have hc := H1.out.le
  have s1 : ∀ W, (Instr.slice 22 (.slice A n c) none (some (.int .i64 (i : Int))) none).run Try.prog W = .ok (.slice (cutA A c 0 1) i c) W := fun W => run_cut_to (P := Try.prog) W 22 5 Try.underlying22 CloneB.info A n c i .i64 (by have := HH.out; omega)
  have s2 : ∀ W, (Instr.slice 22 (.slice A n c) (some (.int .i64 (i : Int))) (some (.int .i64 (k : Int))) none).run Try.prog W = .ok (.slice (cutA A c i 1) (k - i) (c - i)) W := run_cut_named (P := Try.prog) 22 5 Try.underlying22 CloneB.info A n c i k (k - i) .i64 .i64 (by have := HH.out; omega) (by have := HH.out; omega)
  have s3 : ∀ W, (Instr.slice 22 (.slice A n c) (some (.int .i64 (k : Int))) none none).run Try.prog W = .ok (.slice (cutA A c k 1) (n - k) (c - k)) W := fun W => run_cut_from (P := Try.prog) W 22 5 Try.underlying22 CloneB.info A n c k .i64 (by have := HH.out; omega)
  clear hc
  have heq := fun W => sum_same W x
  obtain ⟨V, hV⟩ : ∃ V, sumA x = V := ⟨_, rfl⟩
  rw [hV] at heq
  have HP : As (∀ W T b, W.heap[b]? = some (.cells #[.slice (cutA A c 0 1) i c, .slice (cutA A c i 1) (k - i) (c - i), .slice none 0 0, .slice (cutA A c k 1) (n - k) (c - k)] T (0, 0)) → Below w1.heap.size w1 W →
      Calls Try.prog 30 #[.slice (some ⟨b, 0, none⟩) 4 4] W fun e w' => e = .returned (.agg V) ∧ Below w1.heap.size w1 w' ∧ Below W.heap.size W w') :=
    ⟨fun W T b hg h => (hV ▸ sum_parts W b i k T x HX.out A n c HN.out HH.out.1 HH.out.2 hg (H1.out.below h)).mono fun e w' ⟨h1, h2⟩ => ⟨h1, below_step h h2, h2⟩⟩
  have HW : As (∀ W T b, W.heap[b]? = some (.cells #[.slice A n c] T (0, 0)) → Below w1.heap.size w1 W →
      Calls Try.prog 30 #[.slice (some ⟨b, 0, none⟩) 1 1] W fun e w' => e = .returned (.agg V) ∧ Below w1.heap.size w1 w' ∧ Below W.heap.size W w') :=
    ⟨fun W T b hg h => (hV ▸ sum_whole W b T x HX.out A n c HN.out hg (H1.out.below h)).mono fun e w' ⟨h1, h2⟩ => ⟨h1, below_step h h2, h2⟩⟩
  clear hV
  go_region_held2 (fun _ : World => True) (trivial) (first
    | (go_at_call 30; (with_reducible refine (HP.out _ 22 _ ?g ?r).mono ?_); (case g => first | exact heap_alloc_new _ _ | exact al2_0 _ _ _ | exact al2_1 _ _ _); (case r => first | exact below_drewN (below_alloc (Below.refl _ _) _) 1 | exact below_drewN (below_alloc (below_alloc (Below.refl _ _) _) _) 1); rintro e w5 ⟨rfl, hb5, hc5⟩; have HB5 := As.mk hb5; have HC5 := As.mk hc5; clear hb5 hc5)
    | (go_at_call 30; (with_reducible refine (HW.out _ 22 _ ?g ?r).mono ?_); (case g => first | exact heap_alloc_new _ _ | exact (HC5.out.block _ (al2_lt1 _ _ _)).trans (al2_1 _ _ _) | exact (HC5.out.block _ (al2_lt0 _ _ _)).trans (al2_0 _ _ _)); (case r => first | exact HB5.out | exact below_alloc HB5.out _); rintro e w6 ⟨rfl, hb6, hc6⟩; have HB6 := As.mk hb6; clear hb6 hc6))
  all_goals clear HP HW s1 s2 s3
  all_goals have HBE := As.mk (below_step HB1.out HB6.out)
  all_goals rcases HT.out with hbad | ⟨m, rfl, hm⟩
  all_goals first
    | (have HBAD := As.mk hbad
       by_cases h0 : t < 0
       · have d0 : decide (t < 0) = true := decide_eq_true h0
         clear h0 hbad
         go_wp2_with (go_at_call 32; refine (Pad.bad t _ HBAD.out).mono ?_; rintro e w7 ⟨rfl, rfl⟩)
         go_ret
         exact ⟨rfl, HBE.out⟩
       · have d0 : decide (t < 0) = false := decide_eq_false h0
         have d1 : decide (1099511627776 < t) = true := decide_eq_true (by omega)
         clear h0 hbad
         go_wp2_with (go_at_call 32; refine (Pad.bad t _ HBAD.out).mono ?_; rintro e w7 ⟨rfl, rfl⟩)
         go_ret
         exact ⟨rfl, HBE.out⟩)
    | (have HM := As.mk hm
       have d0 : decide ((m : Int) < 0) = false := decide_eq_false (by omega)
       have d1 : decide (1099511627776 < (m : Int)) = false := decide_eq_false (by omega)
       obtain ⟨l, hl⟩ : ∃ l : Nat, l = padZ m + 9 := ⟨_, rfl⟩
       obtain ⟨s, hs⟩ : ∃ s : Nat, s = m + l := ⟨_, rfl⟩
       have hz := padZ_le m
       have hmod : s % 64 = 0 := by rw [hs, hl, ← pad_len]; exact pad_mod m
       have z2 : Int.tmod (s : Int) 64 = 0 := by rw [Int.tmod_eq_emod_of_nonneg (by omega)]; omega
       have z3 : (s : Int) % 64 = 0 := by omega
       have z4 : decide ((l : Int) ≤ 72) = true := decide_eq_true (by omega)
       have z5 : decide (l ≤ 72) = true := decide_eq_true (by omega)
       have z1 : wrap64 ((m : Int) + (l : Int)) = (s : Int) := by
         rw [show (m : Int) + (l : Int) = (s : Int) by omega]
         exact wid s (by omega)
       have HL := As.mk hl
       clear hl hs hz hmod hm
       go_wp2_with (first
         | (go_at_call 32; (refine (Pad.ok m _ HM.out).mono ?_; rintro e w7 ⟨A2, c2, rfl, hb7, ho7⟩; rw [← HL.out]; rw [← HL.out] at ho7; obtain ⟨A2', c2', e2, hr⟩ := OwnAt.rd ho7; cases e2; have HR2 := As.mk hr; have HB7 := As.mk (below_step HBE.out hb7); clear hb7 ho7 hr))
         | (go_at_call 33; refine (RefPad.pad_any m _ HM.out).mono ?_; rintro e w8 ⟨A3, c3, rfl, hb8, ho8⟩; rw [← HL.out]; rw [← HL.out] at ho8; obtain ⟨A3', c3', e3, hr⟩ := OwnAt.rd ho8; cases e3; have HR3 := As.mk hr; have HR2b := As.mk (HR2.out.below hb8); have HB8 := As.mk (below_step HB7.out hb8); clear hb8 ho8 hr)
         | (go_at_call 18; refine (RefSame.same_any (pad m) (pad m) _ _ l l _ _ _ true (by have := padZ_le m; rw [HL.out]; omega) (by simp) HR2b.out HR3.out).mono ?_; rintro e w9 ⟨rfl, n9, rfl⟩))
       go_ret
       exact ⟨rfl, below_drewN HB8.out _⟩)

theorem walk (A : Option Addr) (n c : Nat) (x : List Int) (at_ : List Int) (t : Int) (w : World) (h0 : Rd .u8 w A n c x) (hx : ∀ v ∈ x, (Lit.int .u8 v).wf = true) (hn : n * 1 ≤ 140737488351232) (hl : at_.length = 2) (ha : ∀ v ∈ at_, (Lit.int .u16 v).wf = true) (_ : (Lit.int .i64 t).wf = true) :
    Calls Try.prog 9 #[.slice A n c, .agg (at_.map (Value.int .u16)).toArray, .int .i64 t] w fun e w' => e = .returned (.bool true) ∧ Below w.heap.size w w' := by
  by_cases h : 400 < n
  · exact far A n c _ t w h
  · obtain ⟨a, b, rfl⟩ : ∃ a b, at_ = [a, b] := by
      match at_, hl with
      | [a, b], _ => exact ⟨a, b, rfl⟩
    have h1 := bounds_u16 (ha a (by simp))
    have h2 := bounds_u16 (ha b (by simp))
    obtain ⟨a, rfl⟩ := Int.eq_ofNat_of_zero_le h1.1
    obtain ⟨b, rfl⟩ := Int.eq_ofNat_of_zero_le h2.1
    refine near x (byte_of hx) A n c a b t w (by omega) (by omega) (by omega) h0 ?_
    by_cases ht : t < 0 ∨ 1099511627776 < t
    · exact .inl ht
    · exact .inr ⟨t.toNat, by omega, by omega⟩
end Go.Proofs.Ytpijkibhjklkoaa.ShaParts
