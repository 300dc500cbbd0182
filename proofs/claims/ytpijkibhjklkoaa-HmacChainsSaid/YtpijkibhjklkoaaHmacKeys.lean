/- HmacKeys: the law's walk. -/
import Derived.Test.YtpijkibhjklkoaaHmacAwake
import Derived.Test.YtpijkibhjklkoaaSteps
namespace Go.Proofs.Ytpijkibhjklkoaa.HmacKeys
open Go Go.RowKit Go.Proofs.Ytpijkibhjklkoaa.Mem Go.Proofs.Ytpijkibhjklkoaa.Put32 Go.Proofs.Ytpijkibhjklkoaa.Pad Go.Proofs.Ytpijkibhjklkoaa.Sum Go.Proofs.Ytpijkibhjklkoaa.RefWith Go.Proofs.Ytpijkibhjklkoaa.RefSum Go.Proofs.Ytpijkibhjklkoaa.ShaAwake Go.Proofs.Ytpijkibhjklkoaa.ShaSums Go.Proofs.Ytpijkibhjklkoaa.ShaParts Go.Proofs.Ytpijkibhjklkoaa.Stretch Go.Proofs.Ytpijkibhjklkoaa.Hmac

theorem pad_more (key : List Int) (m : Nat) (h : key.length + m ≤ 64) : padKey (key ++ List.replicate m 0) = padKey key := by
  unfold padKey
  rw [if_neg (by rw [List.length_append, List.length_replicate]; omega), if_neg (by omega), List.length_append, List.length_replicate, List.append_assoc, List.replicate_append_replicate]
  congr 2
  omega
theorem tag_more (key b : List Int) (m : Nat) (h : key.length + m ≤ 64) : tagB (key ++ List.replicate m 0) b = tagB key b := by
  unfold tagB
  rw [pad_more key m h]

theorem byte_app {x y : List Int} (hx : Byte x) (hy : Byte y) : Byte (x ++ y) := fun v h => (List.mem_append.1 h).elim (hx v) (hy v)
theorem tag_one (key b T : List Int) (hT : tagB key b = T) (hk : Byte key) (hb : Byte b) (A B : Option Addr) (s c m d : Nat) (hs : s ≤ 1099511627776) (hm : m ≤ 1000000000) (W : World) (bl : Nat) (t : TypeId)
    (hg : W.heap[bl]? = some (.cells #[.slice B m d] t (0, 0))) (h0 : Rd .u8 W A s c key) (h1 : Rd .u8 W B m d b) :
    Calls Try.prog 43 #[.slice A s c, .slice (some ⟨bl, 0, none⟩) 1 1] W fun e w' => e = .returned (.agg (T.map (Value.int .u8)).toArray) ∧ Below W.heap.size W w' := by
  have hp : RdP W (some ⟨bl, 0, none⟩) 1 1 [b] := ⟨rfl, Nat.le_refl _, by decide, fun _ => ⟨_, rfl, fun j hj => by
    obtain rfl : j = 0 := by omega
    rw [Addr.add_lit, cell_of_row W bl 0 _ _ _ hg]
    exact ⟨B, d, congrArg (fun m => some (Value.slice B m d)) h1.len.symm, h1.len.symm ▸ h1⟩⟩⟩
  exact tag_any key hk A s c [b] (by intro p hp; simp at hp; subst hp; exact hb) _ 1 1 W hs (by decide) (by simp [h1.len]; omega) h0 hp T (by simpa using hT)
theorem rdp_three (W : World) (b : Nat) (T : TypeId) (p0 p1 p2 : List Int) (A0 A1 A2 : Option Addr) (n0 n1 n2 c0 c1 c2 : Nat) (hg : W.heap[b]? = some (.cells #[.slice A0 n0 c0, .slice A1 n1 c1, .slice A2 n2 c2] T (0, 0)))
    (h0 : Rd .u8 W A0 n0 c0 p0) (h1 : Rd .u8 W A1 n1 c1 p1) (h2 : Rd .u8 W A2 n2 c2 p2) : RdP W (some ⟨b, 0, none⟩) 3 3 [p0, p1, p2] :=
  ⟨rfl, Nat.le_refl _, by decide, fun _ => ⟨_, rfl, fun j hj => by
    have hc := fun k => cell_of_row W b k _ _ _ hg
    rw [Addr.add_lit, Nat.zero_add, hc j]
    rcases (show j = 0 ∨ j = 1 ∨ j = 2 by omega) with rfl | rfl | rfl
    · exact ⟨A0, c0, congrArg (fun m => some (Value.slice A0 m c0)) h0.len.symm, h0.len.symm ▸ h0⟩
    · exact ⟨A1, c1, congrArg (fun m => some (Value.slice A1 m c1)) h1.len.symm, h1.len.symm ▸ h1⟩
    · exact ⟨A2, c2, congrArg (fun m => some (Value.slice A2 m c2)) h2.len.symm, h2.len.symm ▸ h2⟩⟩⟩
theorem tag_three (key b T : List Int) (hT : tagB key b = T) (hk : Byte key) (hb : Byte b) (A B : Option Addr) (s c m d i : Nat) (hs : s ≤ 1099511627776) (hm : m ≤ 1000000000) (hi : i ≤ m) (W : World) (bl : Nat) (t : TypeId)
    (hg : W.heap[bl]? = some (.cells #[.slice (cutA B d 0 1) i d, .slice none 0 0, .slice (cutA B d i 1) (m - i) (d - i)] t (0, 0))) (h0 : Rd .u8 W A s c key) (h1 : Rd .u8 W B m d b) :
    Calls Try.prog 43 #[.slice A s c, .slice (some ⟨bl, 0, none⟩) 3 3] W fun e w' => e = .returned (.agg (T.map (Value.int .u8)).toArray) ∧ Below W.heap.size W w' := by
  have h3 := h1.cut i m hi (Nat.le_refl _)
  have e3 : (b.drop i).take (m - i) = b.drop i := List.take_of_length_le (by rw [List.length_drop, h1.len]; exact Nat.le_refl _)
  rw [e3] at h3
  have hp := rdp_three W bl t _ _ _ _ _ _ _ _ _ _ _ _ hg (h1.to i hi) (Rd.nil _ _ _ _ (by decide)) h3
  have hf : [b.take i, [], b.drop i].flatten = b := by simp
  exact tag_any key hk A s c [b.take i, [], b.drop i] (by
    intro p hp y hy
    simp only [List.mem_cons, List.not_mem_nil, or_false] at hp
    rcases hp with rfl | rfl | rfl
    · exact hb y (List.mem_of_mem_take hy)
    · simp at hy
    · exact hb y (List.mem_of_mem_drop hy)) _ 3 3 W hs (by decide) (by rw [hf, h1.len]; omega) h0 hp T (by rw [hf]; exact hT)
set_option maxHeartbeats 400000 in
set_option maxRecDepth 100000 in
theorem far (A B : Option Addr) (s c m d : Nat) (n : Int) (w : World) (h : 64 < s ∨ 300 < m) :
    Calls Try.prog 12 #[.slice A s c, .slice B m d, .int .u8 n] w fun e w' => e = .returned (.bool true) ∧ Below w.heap.size w w' := by
  by_cases h3 : 64 < s
  · have d3 : decide (64 < (s : Int)) = true := decide_eq_true (by omega)
    have d3' : decide (64 < s) = true := decide_eq_true (by omega)
    clear h h3
    go_enter Try.func12, Try.ntmps12
    go_wp2_with (go_at_call 40; refine (HmacAwake.awake_true _).mono ?_; rintro e w1 ⟨rfl, hb⟩)
    go_ret
    exact ⟨rfl, hb⟩
  · have d3 : decide (64 < (s : Int)) = false := decide_eq_false (by omega)
    have d3' : decide (64 < s) = false := decide_eq_false (by omega)
    have d4 : decide (300 < (m : Int)) = true := decide_eq_true (by omega)
    have d4' : decide (300 < m) = true := decide_eq_true (by omega)
    clear h h3
    go_enter Try.func12, Try.ntmps12
    go_wp2_with (go_at_call 40; refine (HmacAwake.awake_true _).mono ?_; rintro e w1 ⟨rfl, hb⟩)
    go_ret
    exact ⟨rfl, hb⟩

set_option maxHeartbeats 8000000 in
set_option maxRecDepth 100000 in
theorem near (key b : List Int) (hk : Byte key) (hb : Byte b) (A B : Option Addr) (s c m d n : Nat) (w : World) (hs : s ≤ 64) (hm : m ≤ 300) (hn : n < 256) (h0 : Rd .u8 w A s c key) (h1 : Rd .u8 w B m d b) :
    Calls Try.prog 12 #[.slice A s c, .slice B m d, .int .u8 n] w fun e w' => e = .returned (.bool true) ∧ Below w.heap.size w w' := by
  have d3 : decide (64 < (s : Int)) = false := decide_eq_false (by omega)
  have d3' : decide (64 < s) = false := decide_eq_false (by omega)
  have d4 : decide (300 < (m : Int)) = false := decide_eq_false (by omega)
  have d4' : decide (300 < m) = false := decide_eq_false (by omega)
  obtain ⟨g, hg⟩ : ∃ g : Nat, g = 65 - s := ⟨_, rfl⟩
  obtain ⟨z, hz⟩ : ∃ z : Nat, z = n % g := ⟨_, rfl⟩
  have hz2 : z < g := by rw [hz]; exact Nat.mod_lt _ (by omega)
  have HZ := As.mk (show s + z ≤ 64 by omega)
  have E1 := As.mk (show (65 : Int) - (s : Int) = (g : Int) by omega)
  have E2 := As.mk (wid g (by omega))
  have E3 := As.mk (wid n (by omega))
  have E4 := As.mk (show Int.tmod (n : Int) (g : Int) = (z : Int) by rw [hz, Int.ofNat_tmod])
  have E5 := As.mk (show ¬ (g : Int) = 0 by omega)
  have E6 := As.mk (show (n : Int) % (g : Int) = (z : Int) by rw [hz, Int.natCast_emod])
  have E8 := As.mk (show IntKind.i64.wrap ((65 : Int) - (s : Int)) = (g : Int) by rw [IntKind.wrap_i64]; omega)
  have E9 := As.mk (show IntKind.i64.wrap (n : Int) = (n : Int) by rw [IntKind.wrap_i64]; omega)
  have E10 := As.mk (show IntKind.i64.wrap (z : Int) = (z : Int) by rw [IntKind.wrap_i64]; omega)
  have HX := As.mk hk
  have HXB := As.mk hb
  have HS := As.mk hs
  have HM := As.mk hm
  have H0 := As.mk h0
  have H1 := As.mk h1
  clear hk hb hs hm hn h0 h1 hg hz hz2
  go_enter Try.func12, Try.ntmps12
  go_wp2_with (first
    | (go_at_call 40; refine (HmacAwake.awake_true _).mono ?_; rintro e w1 ⟨rfl, hbb⟩; have HB1 := As.mk hbb; have HK1 := As.mk (H0.out.below hbb); have HM1 := As.mk (H1.out.below hbb); clear hbb))
  have HE : As (OwnAt (w1.alloc (.cells #[] 5)).drew w1.heap.size (.slice (some ⟨w1.heap.size, 0, none⟩) 0 0) 0 []) := ⟨(OwnAt.lit w1 5 [] (by decide)).drewN 1⟩
  have HBe : As (Below w1.heap.size w1 (w1.alloc (.cells #[] 5)).drew) := ⟨below_drewN (below_alloc (Below.refl w1.heap.size w1) _) 1⟩
  have HKe := As.mk (HK1.out.below HBe.out)
  have e5 : ¬ wrap64 ((65 : Int) - (s : Int)) = 0 := by rw [E1.out, E2.out]; exact E5.out
  have e6 : wrap64 ((65 : Int) - (s : Int)) = (g : Int) := by rw [E1.out, E2.out]
  have e7 := E5.out
  have e7n : ¬ g = 0 := by have := E5.out; omega
  have e3 := E3.out
  have e8 := E8.out
  have e9 := E9.out
  have e10 := E10.out
  have e4 := E4.out
  go_region_held2 (fun _ : World => True) (trivial) (first
    | (refine step_app2 (w := (w1.alloc (.cells #[] 5)).drew) rfl _ _ 22 rfl w1.heap.size 5 (.int .u8 0) 1 Try.underlying22 CloneB.info rfl (.slice (some ⟨w1.heap.size, 0, none⟩) 0 0) 0 [] (by rfl) HE.out _ s _ (by rfl) (Src.rd HKe.out) ?c1 ?c2 HBe.out.size HBe.out (Nat.le_refl _) ?_; (case c1 => have := HS.out; unfold maxLen; omega); (case c2 => have := HS.out; omega); intro v4 w4 hown hgg hat hb4; simp only [Nat.zero_add, List.nil_append] at hown; obtain ⟨A4, c4, rfl⟩ := hown.slice; have HB4 := As.mk hb4; have HO4 := As.mk hown; clear hown hgg hat hb4)
    | (refine step_app_zeros (w := w4) rfl _ _ 22 3 rfl w1.heap.size 5 (.int .u8 0) 1 .i64 .i64 Try.underlying22 Try.underlying3 CloneB.info rfl rfl (.slice A4 s c4) s _ (by rfl) HO4.out z (by rfl) (by decide) ?c1 ?c2 HB4.out.size HB4.out (Nat.le_refl _) ?_; (case c1 => have := HZ.out; unfold maxLen; omega); (case c2 => have := HZ.out; omega); intro v5 w5 hown hgg hat hb5; obtain ⟨A5, c5, rfl⟩ := hown.slice; have HB5 := As.mk hb5; have HO5 := As.mk hown; clear hown hgg hat hb5))
  all_goals clear e5 e6 e7 e7n e3 e8 e9 e10 e4
  all_goals
    (obtain ⟨A5', c5', e5', hrl⟩ := OwnAt.rd (k := .u8) (x := key ++ List.replicate z 0) (n := s + z) (by have := HO5.out; rw [List.map_append, List.map_replicate]; exact this)
     cases e5'
     obtain ⟨T, hT⟩ : ∃ T, tagB key b = T := ⟨_, rfl⟩
     have bT : Byte T := by rw [← hT]; exact sumB_byte _
     have lT : T.length = 32 := by rw [← hT]; exact tagB_len _ _
     have heq := fun W => run_eq_bytes (P := Try.prog) W 44 5 32 uArr32 Try.underlying5 info8 T bT lT
     obtain ⟨i, hi⟩ : ∃ i, i = m / 3 := ⟨_, rfl⟩
     have ei : wrap64 ((m : Int) / 3) = (i : Int) := by rw [show (m : Int) / 3 = (i : Int) by omega]; exact wid i (by have := HM.out; omega)
     have him : i ≤ m := by omega
     have hB5 : Below w1.heap.size w1 w5 := HB5.out
     have HKw := As.mk (HK1.out.below hB5)
     have HMw := As.mk (HM1.out.below hB5)
     have HLw := As.mk hrl
     have HBW := As.mk (below_step HB1.out hB5)
     have s1 : ∀ W, (Instr.slice 22 (.slice B m d) none (some (.int .i64 (i : Int))) none).run Try.prog W = .ok (.slice (cutA B d 0 1) i d) W := fun W => run_cut_to (P := Try.prog) W 22 5 Try.underlying22 CloneB.info B m d i .i64 (by have := HM1.out.le; omega)
     have s3 : ∀ W, (Instr.slice 22 (.slice B m d) (some (.int .i64 (i : Int))) none none).run Try.prog W = .ok (.slice (cutA B d i 1) (m - i) (d - i)) W := fun W => run_cut_from (P := Try.prog) W 22 5 Try.underlying22 CloneB.info B m d i .i64 him
     have Ha : As (∀ W bl, W.heap[bl]? = some (.cells #[.slice B m d] 22 (0, 0)) → Below w5.heap.size w5 W → Calls Try.prog 43 #[.slice A5 (s + z) c5, .slice (some ⟨bl, 0, none⟩) 1 1] W fun e w' => e = .returned (.agg (bytesA T)) ∧ Below w5.heap.size w5 w' ∧ Below W.heap.size W w') :=
       ⟨fun W bl hg hb => (tag_one (key ++ List.replicate z 0) b T (by rw [tag_more key b z (by rw [HKw.out.len]; exact HZ.out), hT]) (byte_app HX.out (fun y hy => by rw [List.eq_of_mem_replicate hy]; omega)) HXB.out A5 B (s + z) c5 m d (by have := HZ.out; omega) (by have := HM.out; omega) W bl 22 hg (HLw.out.below hb) (HMw.out.below hb)).mono fun e w' ⟨a1, a2⟩ => ⟨a1, below_step hb a2, a2⟩⟩
     have Hb : As (∀ W bl, W.heap[bl]? = some (.cells #[.slice B m d] 22 (0, 0)) → Below w5.heap.size w5 W → Calls Try.prog 43 #[.slice A s c, .slice (some ⟨bl, 0, none⟩) 1 1] W fun e w' => e = .returned (.agg (bytesA T)) ∧ Below w5.heap.size w5 w' ∧ Below W.heap.size W w') :=
       ⟨fun W bl hg hb => (tag_one key b T hT HX.out HXB.out A B s c m d (by have := HS.out; omega) (by have := HM.out; omega) W bl 22 hg (HKw.out.below hb) (HMw.out.below hb)).mono fun e w' ⟨a1, a2⟩ => ⟨a1, below_step hb a2, a2⟩⟩
     have Hc : As (∀ W bl, W.heap[bl]? = some (.cells #[.slice (cutA B d 0 1) i d, .slice none 0 0, .slice (cutA B d i 1) (m - i) (d - i)] 22 (0, 0)) → Below w5.heap.size w5 W → Calls Try.prog 43 #[.slice A s c, .slice (some ⟨bl, 0, none⟩) 3 3] W fun e w' => e = .returned (.agg (bytesA T)) ∧ Below w5.heap.size w5 w' ∧ Below W.heap.size W w') :=
       ⟨fun W bl hg hb => (tag_three key b T hT HX.out HXB.out A B s c m d i (by have := HS.out; omega) (by have := HM.out; omega) him W bl 22 hg (HKw.out.below hb) (HMw.out.below hb)).mono fun e w' ⟨a1, a2⟩ => ⟨a1, below_step hb a2, a2⟩⟩
     clear hT bT lT hi him hB5 hrl
     go_wp2
     rw [ei]
     go_region_held2 (fun _ : World => True) (trivial) (first
       | (go_at_call 43; (with_reducible refine (Ha.out _ _ ?g ?r).mono ?_); (case g => first | exact heap_alloc_new _ _ | exact al2_0 _ _ _ | exact al2_1 _ _ _); (case r => first | exact below_drewN (below_alloc (Below.refl _ _) _) 1 | exact below_drewN (below_alloc (below_alloc (Below.refl _ _) _) _) 1); rintro e w6 ⟨rfl, hb6, hc6⟩; have HB6 := As.mk hb6; have HC6 := As.mk hc6; clear hb6 hc6)
       | (go_at_call 43; (with_reducible refine (Hc.out _ _ ?g ?r).mono ?_); (case g => first | exact heap_alloc_new _ _ | exact al2_0 _ _ _ | exact al2_1 _ _ _); (case r => first | exact below_alloc HB7.out _ | exact below_alloc (below_alloc HB7.out _) _); rintro e w8 ⟨rfl, hb8, hc8⟩; have HB8 := As.mk hb8; have HC8 := As.mk hc8; clear hb8 hc8)
       | (go_at_call 43; (with_reducible refine (Hb.out _ _ ?g ?r).mono ?_); (case g => first | exact heap_alloc_new _ _ | exact (HC8.out.block _ (al2_lt1 _ _ _)).trans (al2_1 _ _ _) | exact (HC8.out.block _ (al2_lt0 _ _ _)).trans (al2_0 _ _ _)); (case r => first | exact HB8.out | exact below_alloc HB8.out _); rintro e w9 ⟨rfl, hb9, hc9⟩; have HB9 := As.mk hb9; clear hb9 hc9)
       | (go_at_call 43; (with_reducible refine (Hb.out _ _ ?g ?r).mono ?_); (case g => first | exact heap_alloc_new _ _ | exact (HC6.out.block _ (al2_lt1 _ _ _)).trans (al2_1 _ _ _) | exact (HC6.out.block _ (al2_lt0 _ _ _)).trans (al2_0 _ _ _)); (case r => first | exact HB6.out | exact below_alloc HB6.out _); rintro e w7 ⟨rfl, hb7, hc7⟩; have HB7 := As.mk hb7; clear hb7 hc7))
     all_goals
       (clear Ha Hb Hc s1 s3
        go_wp2
        go_ret
        exact ⟨rfl, below_step HBW.out HB9.out⟩))
theorem walk (A : Option Addr) (s c : Nat) (key : List Int) (B : Option Addr) (m d : Nat) (b : List Int) (n : Int) (w : World) (h0 : Rd .u8 w A s c key) (hk : ∀ v ∈ key, (Lit.int .u8 v).wf = true) (_ : s * 1 ≤ 140737488351232)
    (h1 : Rd .u8 w B m d b) (hb : ∀ v ∈ b, (Lit.int .u8 v).wf = true) (_ : m * 1 ≤ 140737488351232) (hn : (Lit.int .u8 n).wf = true) :
    Calls Try.prog 12 #[.slice A s c, .slice B m d, .int .u8 n] w fun e w' => e = .returned (.bool true) ∧ Below w.heap.size w w' := by
  by_cases h : 64 < s ∨ 300 < m
  · exact far A B s c m d n w h
  · have h2 := Go.Proofs.Ytpijkibhjklkoaa.Mem.byte_of (l := [n]) (by intro v hv; simp at hv; rw [hv]; exact hn) n (by simp)
    obtain ⟨n, rfl⟩ := Int.eq_ofNat_of_zero_le h2.1
    exact near key b (Go.Proofs.Ytpijkibhjklkoaa.Mem.byte_of hk) (Go.Proofs.Ytpijkibhjklkoaa.Mem.byte_of hb) A B s c m d n w (by omega) (by omega) (by omega) h0 h1
end Go.Proofs.Ytpijkibhjklkoaa.HmacKeys
