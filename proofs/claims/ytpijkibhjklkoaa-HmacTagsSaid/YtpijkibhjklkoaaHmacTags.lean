/- HmacTags: the law's walk. -/
import Derived.Test.YtpijkibhjklkoaaHmacAwake
import Derived.Test.YtpijkibhjklkoaaRefTag
import Derived.Test.YtpijkibhjklkoaaHmacKeys
namespace Go.Proofs.Ytpijkibhjklkoaa.HmacTags
set_option linter.unusedVariables false
set_option linter.unusedSimpArgs false
open Go Go.RowKit Go.Proofs.Ytpijkibhjklkoaa.Mem Go.Proofs.Ytpijkibhjklkoaa.Put32 Go.Proofs.Ytpijkibhjklkoaa.Pad Go.Proofs.Ytpijkibhjklkoaa.Sum Go.Proofs.Ytpijkibhjklkoaa.RefWith Go.Proofs.Ytpijkibhjklkoaa.RefSum Go.Proofs.Ytpijkibhjklkoaa.ShaAwake Go.Proofs.Ytpijkibhjklkoaa.ShaSums Go.Proofs.Ytpijkibhjklkoaa.ShaParts Go.Proofs.Ytpijkibhjklkoaa.Stretch Go.Proofs.Ytpijkibhjklkoaa.Hmac Go.Proofs.Ytpijkibhjklkoaa.RefHmac Go.Proofs.Ytpijkibhjklkoaa.HmacKeys Go.Proofs.Ytpijkibhjklkoaa.Parts

theorem tag_two (key b T : List Int) (hT : tagB key b = T) (hk : Byte key) (hb : Byte b) (A B : Option Addr) (s c m d i : Nat) (hs : s ≤ 1099511627776) (hm : m ≤ 1000000000) (hi : i ≤ m) (W : World) (bl : Nat) (t : TypeId)
    (hg : W.heap[bl]? = some (.cells #[.slice (cutA B d 0 1) i d, .slice (cutA B d i 1) (m - i) (d - i)] t (0, 0))) (h0 : Rd .u8 W A s c key) (h1 : Rd .u8 W B m d b) :
    Calls Try.prog 43 #[.slice A s c, .slice (some ⟨bl, 0, none⟩) 2 2] W fun e w' => e = .returned (.agg (bytesA T)) ∧ Below W.heap.size W w' := by
  have h3 := h1.cut i m hi (Nat.le_refl _)
  have e3 : (b.drop i).take (m - i) = b.drop i := List.take_of_length_le (by rw [List.length_drop, h1.len]; exact Nat.le_refl _)
  rw [e3] at h3
  have hp := rdp_two W bl t _ _ _ _ _ _ _ _ hg (h1.to i hi) h3
  have hf : [b.take i, b.drop i].flatten = b := by simp
  exact tag_any key hk A s c [b.take i, b.drop i] (by
    intro p hp y hy
    simp only [List.mem_cons, List.not_mem_nil, or_false] at hp
    rcases hp with rfl | rfl
    · exact hb y (List.mem_of_mem_take hy)
    · exact hb y (List.mem_of_mem_drop hy)) _ 2 2 W hs (by decide) (by rw [hf, h1.len]; omega) h0 hp T (by rw [hf]; exact hT)
set_option maxHeartbeats 400000 in
set_option maxRecDepth 100000 in
theorem far (A B : Option Addr) (s c m d : Nat) (n : Int) (w : World) (h : 200 < s ∨ 300 < m) :
    Calls Try.prog 11 #[.slice A s c, .slice B m d, .int .u16 n] w fun e w' => e = .returned (.bool true) ∧ Below w.heap.size w w' := by
  by_cases h3 : 200 < s
  · have d3 : decide (200 < (s : Int)) = true := decide_eq_true (by omega)
    have d3' : decide (200 < s) = true := decide_eq_true (by omega)
    clear h h3
    go_enter Try.func11, Try.ntmps11
    go_wp2_with (go_at_call 40; refine (HmacAwake.awake_true _).mono ?_; rintro e w1 ⟨rfl, hb⟩)
    go_ret
    exact ⟨rfl, hb⟩
  · have d3 : decide (200 < (s : Int)) = false := decide_eq_false (by omega)
    have d3' : decide (200 < s) = false := decide_eq_false (by omega)
    have d4 : decide (300 < (m : Int)) = true := decide_eq_true (by omega)
    have d4' : decide (300 < m) = true := decide_eq_true (by omega)
    clear h h3
    go_enter Try.func11, Try.ntmps11
    go_wp2_with (go_at_call 40; refine (HmacAwake.awake_true _).mono ?_; rintro e w1 ⟨rfl, hb⟩)
    go_ret
    exact ⟨rfl, hb⟩

set_option maxHeartbeats 2000000 in
set_option maxRecDepth 100000 in
theorem near (key b : List Int) (hk : Byte key) (hb : Byte b) (A B : Option Addr) (s c m d n : Nat) (w : World) (hs : s ≤ 200) (hm : m ≤ 300) (hn : n < 65536) (h0 : Rd .u8 w A s c key) (h1 : Rd .u8 w B m d b) :
    Calls Try.prog 11 #[.slice A s c, .slice B m d, .int .u16 n] w fun e w' => e = .returned (.bool true) ∧ Below w.heap.size w w' := by
  have d3 : decide (200 < (s : Int)) = false := decide_eq_false (by omega)
  have d3' : decide (200 < s) = false := decide_eq_false (by omega)
  have d4 : decide (300 < (m : Int)) = false := decide_eq_false (by omega)
  have d4' : decide (300 < m) = false := decide_eq_false (by omega)
  obtain ⟨g, hg⟩ : ∃ g : Nat, g = m + 1 := ⟨_, rfl⟩
  obtain ⟨i, hi⟩ : ∃ i : Nat, i = n % g := ⟨_, rfl⟩
  have hi2 : i < g := by rw [hi]; exact Nat.mod_lt _ (by omega)
  have HIM := As.mk (show i ≤ m by omega)
  have e1 : wrap64 ((m : Int) + 1) = (g : Int) := by rw [show (m : Int) + 1 = (g : Int) by omega]; exact wid g (by omega)
  have e2 : wrap64 (n : Int) = (n : Int) := wid n (by omega)
  have e3 : ¬ (g : Int) = 0 := by omega
  have e3' : ¬ g = 0 := by omega
  have e4 : Int.tmod (n : Int) (g : Int) = (i : Int) := by rw [hi, Int.ofNat_tmod]
  have e5 : (n : Int) % (g : Int) = (i : Int) := by rw [hi, Int.natCast_emod]
  have e6 : IntKind.i64.wrap (i : Int) = (i : Int) := by rw [IntKind.wrap_i64]; omega
  have HX := As.mk hk
  have HXB := As.mk hb
  have HS := As.mk hs
  have HM := As.mk hm
  have H0 := As.mk h0
  have H1 := As.mk h1
  clear hk hb hs hm hn h0 h1 hg hi hi2
  go_enter Try.func11, Try.ntmps11
  go_wp2_with (first
    | (go_at_call 40; refine (HmacAwake.awake_true _).mono ?_; rintro e w1 ⟨rfl, hbb⟩; have HB1 := As.mk hbb; have HK1 := As.mk (H0.out.below hbb); have HM1 := As.mk (H1.out.below hbb); clear hbb)
    | (refine wpList_allocArr rfl 59 rfl Z64 z64 ?_)
    | (go_at_call 41; refine As.out ?_))
  refine As.mk ?_
  obtain ⟨I, hI⟩ : ∃ I, I = flip 54 (padKey key) := ⟨_, rfl⟩
  obtain ⟨O, hO⟩ : ∃ O, O = flip 92 (padKey key) := ⟨_, rfl⟩
  obtain ⟨T, hT⟩ : ∃ T, tagB key b = T := ⟨_, rfl⟩
  have LI := As.mk (show I.length = 64 by rw [hI, flip_len, padKey_len])
  have LO := As.mk (show O.length = 64 by rw [hO, flip_len, padKey_len])
  have HI := As.mk hI
  have HO := As.mk hO
  have HT := As.mk hT
  have LT := As.mk (show T.length = 32 by rw [← hT]; exact tagB_len _ _)
  have BT := As.mk (show Byte T by rw [← hT]; exact sumB_byte _)
  clear hI hO hT
  refine (pads_any key HX.out A s c w1 (by have := HS.out; omega) HK1.out).mono ?_
  rintro e w2 ⟨rfl, hb⟩
  rw [← HI.out, ← HO.out]
  have HB2 := As.mk (below_step HB1.out hb)
  have HK2 := As.mk (HK1.out.below hb)
  have HM2 := As.mk (HM1.out.below hb)
  clear hb HB1 HK1 HM1
  go_wp2_with (first
    | (refine wpList_allocArr rfl 59 rfl Z64 z64 ?_)
    | (refine wpList_storeArr rfl rfl 59 (.tmp 8) (.tmp 30) rfl w2.heap.size rfl (bytesA I) rfl 59 Z64 (al2_0 w2 _ _) (by rw [bytesA_size, LI.out]; kernel_rfl) (by rw [bytesA_size, LI.out]; kernel_rfl) (bytesA_one I) ?_)
    | (refine wpList_storeArr rfl rfl 59 (.tmp 9) (.tmp 31) rfl _ rfl (bytesA O) rfl 59 Z64 ?hg (by rw [bytesA_size, LO.out]; kernel_rfl) (by rw [bytesA_size, LO.out]; kernel_rfl) (bytesA_one O) ?_; (case hg => first | exact (setRow_far _ w2.heap.size (w2.heap.size + 1) _ (by omega)).trans (al2_1 w2 _ _) | exact (setRow_far _ w2.heap.size _ _ (by simp)).trans (heap_alloc_new _ _)); refine As.out ?_))
  refine As.mk ?_
  have h5 := (setRow_far ((((w2.alloc (.cells Z64 59)).alloc (.cells Z64 59)).setRow w2.heap.size (bytesA I))) (w2.heap.size + 1) w2.heap.size (bytesA O) (by omega)).trans (setRow_new _ w2.heap.size Z64 (bytesA I) 59 (al2_0 w2 (.cells Z64 59) (.cells Z64 59)))
  have h6 := setRow_new (((w2.alloc (.cells Z64 59)).alloc (.cells Z64 59)).setRow w2.heap.size (bytesA I)) (w2.heap.size + 1) Z64 (bytesA O) 59 ((setRow_far _ w2.heap.size (w2.heap.size + 1) _ (by omega)).trans (al2_1 w2 _ _))
  have hb2 : Below w2.heap.size w2 ((((w2.alloc (.cells Z64 59)).alloc (.cells Z64 59)).setRow w2.heap.size (bytesA I)).setRow (w2.heap.size + 1) (bytesA O)) := below_setRow (below_setRow (below_alloc (below_alloc (Below.refl _ _) _) _) (Nat.le_refl _) _) (Nat.le_succ _) _
  generalize (((w2.alloc (.cells Z64 59)).alloc (.cells Z64 59)).setRow w2.heap.size (bytesA I)).setRow (w2.heap.size + 1) (bytesA O) = w3 at *
  have HB3 := As.mk (below_step HB2.out hb2)
  have HK3 := As.mk (HK2.out.below hb2)
  have HM3 := As.mk (HM2.out.below hb2)
  have RI3 := As.mk (rd_block h5 LI.out (by decide))
  have RO3 := As.mk (rd_block h6 LO.out (by decide))
  clear hb2 h5 h6 HB2 HK2 HM2
  generalize w2.heap.size + 1 = b6 at *
  generalize w2.heap.size = b5 at *
  go_wp2_with (first
    | (go_at_call 42; (with_reducible refine (tag_ref key b HX.out HXB.out A B s c m d w3 ?c1 ?c2 HK3.out HM3.out T HT.out).mono ?_); (case c1 => have := HS.out; omega); (case c2 => have := HM.out; omega); rintro e w4 ⟨rfl, hb4⟩; have HB4 := As.mk hb4; clear hb4)
    | (refine wpList_allocArr rfl 44 rfl Z32 z32 ?_)
    | (refine wpList_storeNew rfl rfl 44 _ _ rfl rfl (bytesA T) rfl 44 Z32 (by rw [bytesA_size, LT.out]; kernel_rfl) (by rw [bytesA_size, LT.out]; kernel_rfl) (bytesA_one T) ?_; refine As.out ?_))
  refine As.mk ?_
  have hT5 : (w4.alloc (.cells (bytesA T) 44)).heap[w4.heap.size]? = some (.cells (bytesA T) 44 (0, 0)) := heap_alloc_new w4 _
  have hlt5 := (Array.getElem?_eq_some_iff.1 hT5).1
  have hb5 := below_alloc HB4.out (.cells (bytesA T) 44)
  generalize w4.alloc _ = w5 at *
  generalize w4.heap.size = bt at *
  have HBW := As.mk (below_step HB3.out hb5)
  have HK := As.mk (HK3.out.below hb5)
  have HMM := As.mk (HM3.out.below hb5)
  have RI := As.mk (RI3.out.below hb5)
  have RO := As.mk (RO3.out.below hb5)
  obtain ⟨L, hL⟩ : ∃ L : List Value, L = T.map (Value.int .u8) := ⟨_, rfl⟩
  have keepT : ∀ W, Below w5.heap.size w5 W → W.rangeAt bt 0 L := fun W h => range_block ((h.block bt hlt5).trans hT5) L (by rw [hL]; rfl)
  have iL : (Try.prog.info? 44).map (·.size) = some L.length := by rw [hL, List.length_map, LT.out]; kernel_rfl
  have eL : L.toArray = bytesA T := by rw [hL]; rfl
  have KT := As.mk keepT
  have IL := As.mk iL
  have EL := As.mk eL
  clear keepT iL eL hL hT5 hlt5 hb5 HB3 HB4 HK3 HM3 RI3 RO3
  have heq := fun W => run_eq_bytes (P := Try.prog) W 44 5 32 uArr32 Try.underlying5 info8 T BT.out LT.out
  have s1 : ∀ W, (Instr.slice 22 (.slice B m d) none (some (.int .i64 (i : Int))) none).run Try.prog W = .ok (.slice (cutA B d 0 1) i d) W := fun W => run_cut_to (P := Try.prog) W 22 5 Try.underlying22 CloneB.info B m d i .i64 (by have := HMM.out.le; have := HIM.out; omega)
  have s3 : ∀ W, (Instr.slice 22 (.slice B m d) (some (.int .i64 (i : Int))) none none).run Try.prog W = .ok (.slice (cutA B d i 1) (m - i) (d - i)) W := fun W => run_cut_from (P := Try.prog) W 22 5 Try.underlying22 CloneB.info B m d i .i64 HIM.out
  have Hone : As (∀ W bl, W.heap[bl]? = some (.cells #[.slice B m d] 22 (0, 0)) → Below w5.heap.size w5 W → Calls Try.prog 43 #[.slice A s c, .slice (some ⟨bl, 0, none⟩) 1 1] W fun e w' => e = .returned (.agg (bytesA T)) ∧ Below w5.heap.size w5 w') :=
    ⟨fun W bl hg hb => (tag_one key b T HT.out HX.out HXB.out A B s c m d (by have := HS.out; omega) (by have := HM.out; omega) W bl 22 hg (HK.out.below hb) (HMM.out.below hb)).mono fun e w' ⟨a1, a2⟩ => ⟨a1, below_step hb a2⟩⟩
  have Htwo : As (∀ W bl, W.heap[bl]? = some (.cells #[.slice (cutA B d 0 1) i d, .slice (cutA B d i 1) (m - i) (d - i)] 22 (0, 0)) → Below w5.heap.size w5 W → Calls Try.prog 43 #[.slice A s c, .slice (some ⟨bl, 0, none⟩) 2 2] W fun e w' => e = .returned (.agg (bytesA T)) ∧ Below w5.heap.size w5 w') :=
    ⟨fun W bl hg hb => (tag_two key b T HT.out HX.out HXB.out A B s c m d i (by have := HS.out; omega) (by have := HM.out; omega) HIM.out W bl 22 hg (HK.out.below hb) (HMM.out.below hb)).mono fun e w' ⟨a1, a2⟩ => ⟨a1, below_step hb a2⟩⟩
  go_wp2
  refine wp_region_held_drew (S := fun W : World => Below w5.heap.size w5 W) (by kernel_rfl) (below_drewN (Below.refl _ _) 1) (fun hHeld => ?_)
  refine wpAnyH_take (i := 0) (v := .slice A s c) rfl (by kernel_rfl) (by kernel_rfl) (by kernel_rfl) (fun _ _ _ h => h) (Or.inl ⟨by rfl, fun W hW => by go_simp⟩) hHeld ?_
  try simp only [Act.put, List.setIfInBounds_toArray, List.set_cons_zero, List.set_cons_succ, List.getElem_toArray, List.getElem_cons_zero, List.getElem_cons_succ]
  refine wpAnyH_take (i := 1) (v := .slice B m d) rfl (by kernel_rfl) (by kernel_rfl) (by kernel_rfl) (fun _ _ _ h => h) (Or.inl ⟨by rfl, fun W hW => by go_simp⟩) hHeld ?_
  try simp only [Act.put, List.setIfInBounds_toArray, List.set_cons_zero, List.set_cons_succ, List.getElem_toArray, List.getElem_cons_zero, List.getElem_cons_succ]
  refine wpAnyH_take (i := 4) (v := .agg L.toArray) rfl (by kernel_rfl) (by kernel_rfl) (by kernel_rfl) (fun _ _ _ h => h) (yieldsIf_load_mid (by rfl) _ _ rfl _ _ rfl L _ (fun W h => KT.out W h) uArr32 rfl IL.out) hHeld ?_
  rw [EL.out]
  try simp only [Act.put, List.setIfInBounds_toArray, List.set_cons_zero, List.set_cons_succ, List.getElem_toArray, List.getElem_cons_zero, List.getElem_cons_succ]
  refine wpAnyH_ready (rs := [2]) (by kernel_rfl) (by simp) (AllReadyH.cons rfl (fun K' hK => ?_) AllReadyH.nil)
  go_simp
  refine hK.out _ _ (below_alloc hHeld _) (fun hHeld => ?_)
  clear hK
  try simp only [Act.put, List.setIfInBounds_toArray, List.set_cons_zero, List.set_cons_succ, List.getElem_toArray, List.getElem_cons_zero, List.getElem_cons_succ]
  refine wpAnyH_ready (rs := [3]) (by kernel_rfl) (by simp) (AllReadyH.cons rfl (fun K' hK => ?_) AllReadyH.nil)
  go_simp
  refine (Hone.out _ w5.heap.size (by exact heap_alloc_new w5 _) hHeld).mono ?_
  rintro e w6 ⟨rfl, hb6⟩
  refine hK.out _ _ hb6 (fun hHeld => ?_)
  clear hK
  try simp only [Act.put, List.setIfInBounds_toArray, List.set_cons_zero, List.set_cons_succ, List.getElem_toArray, List.getElem_cons_zero, List.getElem_cons_succ]
  refine wpAnyH_take (i := 5) (v := .bool true) rfl (by kernel_rfl) (by kernel_rfl) (by kernel_rfl) (fun _ _ _ h => h) (Or.inl ⟨by rfl, fun W hW => by go_simp⟩) hHeld ?_
  try simp only [Act.put, List.setIfInBounds_toArray, List.set_cons_zero, List.set_cons_succ, List.getElem_toArray, List.getElem_cons_zero, List.getElem_cons_succ]
  refine wpAnyH_take (i := 6) (v := .bool true) rfl (by kernel_rfl) (by kernel_rfl) (by kernel_rfl) (fun _ _ _ h => h) (Or.inl ⟨by rfl, fun W hW => by go_simp⟩) hHeld ?_
  try simp only [Act.put, List.setIfInBounds_toArray, List.set_cons_zero, List.set_cons_succ, List.getElem_toArray, List.getElem_cons_zero, List.getElem_cons_succ]
  refine wpAnyH_take (i := 7) (v := .slice A s c) rfl (by kernel_rfl) (by kernel_rfl) (by kernel_rfl) (fun _ _ _ h => h) (Or.inl ⟨by rfl, fun W hW => by go_simp⟩) hHeld ?_
  try simp only [Act.put, List.setIfInBounds_toArray, List.set_cons_zero, List.set_cons_succ, List.getElem_toArray, List.getElem_cons_zero, List.getElem_cons_succ]
  refine wpAnyH_take (i := 8) (v := .slice B m d) rfl (by kernel_rfl) (by kernel_rfl) (by kernel_rfl) (fun _ _ _ h => h) (Or.inl ⟨by rfl, fun W hW => by go_simp⟩) hHeld ?_
  try simp only [Act.put, List.setIfInBounds_toArray, List.set_cons_zero, List.set_cons_succ, List.getElem_toArray, List.getElem_cons_zero, List.getElem_cons_succ]
  refine wpAnyH_take (i := 9) (v := .int .i64 (i : Int)) rfl (by kernel_rfl) (by kernel_rfl) (by kernel_rfl) (fun _ _ _ h => h) (Or.inl ⟨by rfl, fun W hW => by go_simp⟩) hHeld ?_
  try simp only [Act.put, List.setIfInBounds_toArray, List.set_cons_zero, List.set_cons_succ, List.getElem_toArray, List.getElem_cons_zero, List.getElem_cons_succ]
  refine wpAnyH_take (i := 10) (v := .slice (cutA B d 0 1) i d) rfl (by kernel_rfl) (by kernel_rfl) (by kernel_rfl) (fun _ _ _ h => h) (Or.inl ⟨by rfl, fun W hW => by go_simp⟩) hHeld ?_
  try simp only [Act.put, List.setIfInBounds_toArray, List.set_cons_zero, List.set_cons_succ, List.getElem_toArray, List.getElem_cons_zero, List.getElem_cons_succ]
  refine wpAnyH_take (i := 11) (v := .slice B m d) rfl (by kernel_rfl) (by kernel_rfl) (by kernel_rfl) (fun _ _ _ h => h) (Or.inl ⟨by rfl, fun W hW => by go_simp⟩) hHeld ?_
  try simp only [Act.put, List.setIfInBounds_toArray, List.set_cons_zero, List.set_cons_succ, List.getElem_toArray, List.getElem_cons_zero, List.getElem_cons_succ]
  refine wpAnyH_take (i := 12) (v := .int .i64 (i : Int)) rfl (by kernel_rfl) (by kernel_rfl) (by kernel_rfl) (fun _ _ _ h => h) (Or.inl ⟨by rfl, fun W hW => by go_simp⟩) hHeld ?_
  try simp only [Act.put, List.setIfInBounds_toArray, List.set_cons_zero, List.set_cons_succ, List.getElem_toArray, List.getElem_cons_zero, List.getElem_cons_succ]
  refine wpAnyH_take (i := 13) (v := .slice (cutA B d i 1) (m - i) (d - i)) rfl (by kernel_rfl) (by kernel_rfl) (by kernel_rfl) (fun _ _ _ h => h) (Or.inl ⟨by rfl, fun W hW => by go_simp⟩) hHeld ?_
  try simp only [Act.put, List.setIfInBounds_toArray, List.set_cons_zero, List.set_cons_succ, List.getElem_toArray, List.getElem_cons_zero, List.getElem_cons_succ]
  refine wpAnyH_take (i := 16) (v := .agg L.toArray) rfl (by kernel_rfl) (by kernel_rfl) (by kernel_rfl) (fun _ _ _ h => h) (yieldsIf_load_mid (by rfl) _ _ rfl _ _ rfl L _ (fun W h => KT.out W h) uArr32 rfl IL.out) hHeld ?_
  rw [EL.out]
  try simp only [Act.put, List.setIfInBounds_toArray, List.set_cons_zero, List.set_cons_succ, List.getElem_toArray, List.getElem_cons_zero, List.getElem_cons_succ]
  refine wpAnyH_ready (rs := [14]) (by kernel_rfl) (by simp) (AllReadyH.cons rfl (fun K' hK => ?_) AllReadyH.nil)
  go_simp
  refine hK.out _ _ (below_alloc hHeld _) (fun hHeld => ?_)
  clear hK
  try simp only [Act.put, List.setIfInBounds_toArray, List.set_cons_zero, List.set_cons_succ, List.getElem_toArray, List.getElem_cons_zero, List.getElem_cons_succ]
  refine wpAnyH_ready (rs := [15]) (by kernel_rfl) (by simp) (AllReadyH.cons rfl (fun K' hK => ?_) AllReadyH.nil)
  go_simp
  refine (Htwo.out _ w6.heap.size (by exact heap_alloc_new w6 _) hHeld).mono ?_
  rintro e w7 ⟨rfl, hb7⟩
  refine hK.out _ _ hb7 (fun hHeld => ?_)
  clear hK
  try simp only [Act.put, List.setIfInBounds_toArray, List.set_cons_zero, List.set_cons_succ, List.getElem_toArray, List.getElem_cons_zero, List.getElem_cons_succ]
  refine wpAnyH_take (i := 17) (v := .bool true) rfl (by kernel_rfl) (by kernel_rfl) (by kernel_rfl) (fun _ _ _ h => h) (Or.inl ⟨by rfl, fun W hW => by go_simp⟩) hHeld ?_
  try simp only [Act.put, List.setIfInBounds_toArray, List.set_cons_zero, List.set_cons_succ, List.getElem_toArray, List.getElem_cons_zero, List.getElem_cons_succ]
  refine wpAnyH_take (i := 18) (v := .bool true) rfl (by kernel_rfl) (by kernel_rfl) (by kernel_rfl) (fun _ _ _ h => h) (Or.inl ⟨by rfl, fun W hW => by go_simp⟩) hHeld ?_
  try simp only [Act.put, List.setIfInBounds_toArray, List.set_cons_zero, List.set_cons_succ, List.getElem_toArray, List.getElem_cons_zero, List.getElem_cons_succ]
  refine wpAnyH_take (i := 19) (v := .bool true) rfl (by kernel_rfl) (by kernel_rfl) (by kernel_rfl) (fun _ _ _ h => h) (Or.inl ⟨by rfl, fun W hW => by go_simp⟩) hHeld ?_
  try simp only [Act.put, List.setIfInBounds_toArray, List.set_cons_zero, List.set_cons_succ, List.getElem_toArray, List.getElem_cons_zero, List.getElem_cons_succ]
  refine wpAnyH_take (i := 20) (v := .slice (some ⟨b5, 0, none⟩) 64 64) rfl (by kernel_rfl) (by kernel_rfl) (by kernel_rfl) (fun _ _ _ h => h) (Or.inl ⟨by rfl, fun W hW => by go_simp⟩) hHeld ?_
  try simp only [Act.put, List.setIfInBounds_toArray, List.set_cons_zero, List.set_cons_succ, List.getElem_toArray, List.getElem_cons_zero, List.getElem_cons_succ]
  refine wpAnyH_take (i := 21) (v := .slice A s c) rfl (by kernel_rfl) (by kernel_rfl) (by kernel_rfl) (fun _ _ _ h => h) (Or.inl ⟨by rfl, fun W hW => by go_simp⟩) hHeld ?_
  try simp only [Act.put, List.setIfInBounds_toArray, List.set_cons_zero, List.set_cons_succ, List.getElem_toArray, List.getElem_cons_zero, List.getElem_cons_succ]
  refine wpAnyH_ready (rs := [22]) (by kernel_rfl) (by simp) (AllReadyH.cons rfl (fun K' hK => ?_) AllReadyH.nil)
  go_simp
  refine (key_54 key HX.out A s c w7 (by have := HS.out; omega) (HK.out.below hHeld)).mono ?_
  rintro e w8 ⟨A8, c8, rfl, hb8, ho8⟩
  rw [← HI.out] at ho8
  have HR8 := As.mk (own_rd_at ho8)
  refine hK.out _ _ (below_step hHeld hb8) (fun hHeld => ?_)
  clear hK
  try simp only [Act.put, List.setIfInBounds_toArray, List.set_cons_zero, List.set_cons_succ, List.getElem_toArray, List.getElem_cons_zero, List.getElem_cons_succ]
  refine wpAnyH_ready (rs := [23]) (by kernel_rfl) (by simp) (AllReadyH.cons rfl (fun K' hK => ?_) AllReadyH.nil)
  go_simp
  refine (RefSame.same_any I I _ _ 64 64 64 c8 w8 true (by decide) (by simp) (RI.out.below hHeld) HR8.out).mono ?_
  rintro e w9 ⟨rfl, n9, rfl⟩
  refine hK.out _ _ (below_drewN hHeld n9) (fun hHeld => ?_)
  clear hK
  try simp only [Act.put, List.setIfInBounds_toArray, List.set_cons_zero, List.set_cons_succ, List.getElem_toArray, List.getElem_cons_zero, List.getElem_cons_succ]
  refine wpAnyH_take (i := 24) (v := .bool true) rfl (by kernel_rfl) (by kernel_rfl) (by kernel_rfl) (fun _ _ _ h => h) (Or.inl ⟨by rfl, fun W hW => by go_simp⟩) hHeld ?_
  try simp only [Act.put, List.setIfInBounds_toArray, List.set_cons_zero, List.set_cons_succ, List.getElem_toArray, List.getElem_cons_zero, List.getElem_cons_succ]
  refine wpAnyH_take (i := 25) (v := .bool true) rfl (by kernel_rfl) (by kernel_rfl) (by kernel_rfl) (fun _ _ _ h => h) (Or.inl ⟨by rfl, fun W hW => by go_simp⟩) hHeld ?_
  try simp only [Act.put, List.setIfInBounds_toArray, List.set_cons_zero, List.set_cons_succ, List.getElem_toArray, List.getElem_cons_zero, List.getElem_cons_succ]
  refine wpAnyH_take (i := 26) (v := .slice (some ⟨b6, 0, none⟩) 64 64) rfl (by kernel_rfl) (by kernel_rfl) (by kernel_rfl) (fun _ _ _ h => h) (Or.inl ⟨by rfl, fun W hW => by go_simp⟩) hHeld ?_
  try simp only [Act.put, List.setIfInBounds_toArray, List.set_cons_zero, List.set_cons_succ, List.getElem_toArray, List.getElem_cons_zero, List.getElem_cons_succ]
  refine wpAnyH_take (i := 27) (v := .slice A s c) rfl (by kernel_rfl) (by kernel_rfl) (by kernel_rfl) (fun _ _ _ h => h) (Or.inl ⟨by rfl, fun W hW => by go_simp⟩) hHeld ?_
  try simp only [Act.put, List.setIfInBounds_toArray, List.set_cons_zero, List.set_cons_succ, List.getElem_toArray, List.getElem_cons_zero, List.getElem_cons_succ]
  refine wpAnyH_ready (rs := [28]) (by kernel_rfl) (by simp) (AllReadyH.cons rfl (fun K' hK => ?_) AllReadyH.nil)
  go_simp
  refine (key_92 key HX.out A s c (w8.drewN n9) (by have := HS.out; omega) (HK.out.below hHeld)).mono ?_
  rintro e wa ⟨Aa, ca, rfl, hba, hoa⟩
  rw [← HO.out] at hoa
  have HRa := As.mk (own_rd_at hoa)
  refine hK.out _ _ (below_step hHeld hba) (fun hHeld => ?_)
  clear hK
  try simp only [Act.put, List.setIfInBounds_toArray, List.set_cons_zero, List.set_cons_succ, List.getElem_toArray, List.getElem_cons_zero, List.getElem_cons_succ]
  refine wpAnyH_ready (rs := [29]) (by kernel_rfl) (by simp) (AllReadyH.cons rfl (fun K' hK => ?_) AllReadyH.nil)
  go_simp
  refine (RefSame.same_any O O _ _ 64 64 64 ca wa true (by decide) (by simp) (RO.out.below hHeld) HRa.out).mono ?_
  rintro e wb ⟨rfl, nb, rfl⟩
  refine hK.out _ _ (below_drewN hHeld nb) (fun hHeld => ?_)
  clear hK
  try simp only [Act.put, List.setIfInBounds_toArray, List.set_cons_zero, List.set_cons_succ, List.getElem_toArray, List.getElem_cons_zero, List.getElem_cons_succ]
  refine wpAnyH_take (i := 30) (v := .bool true) rfl (by kernel_rfl) (by kernel_rfl) (by kernel_rfl) (fun _ _ _ h => h) (Or.inl ⟨by rfl, fun W hW => by go_simp⟩) hHeld ?_
  try simp only [Act.put, List.setIfInBounds_toArray, List.set_cons_zero, List.set_cons_succ, List.getElem_toArray, List.getElem_cons_zero, List.getElem_cons_succ]
  refine wpAnyH_take (i := 31) (v := .bool true) rfl (by kernel_rfl) (by kernel_rfl) (by kernel_rfl) (fun _ _ _ h => h) (Or.inl ⟨by rfl, fun W hW => by go_simp⟩) hHeld ?_
  try simp only [Act.put, List.setIfInBounds_toArray, List.set_cons_zero, List.set_cons_succ, List.getElem_toArray, List.getElem_cons_zero, List.getElem_cons_succ]
  refine wpAnyH_done (by kernel_rfl) ?_ _
  have HF := As.mk (below_step HBW.out hHeld)
  go_wp2
  go_ret
  exact ⟨rfl, HF.out⟩
theorem walk (A : Option Addr) (s c : Nat) (key : List Int) (B : Option Addr) (m d : Nat) (b : List Int) (n : Int) (w : World) (h0 : Rd .u8 w A s c key) (hk : ∀ v ∈ key, (Lit.int .u8 v).wf = true) (_ : s * 1 ≤ 140737488351232)
    (h1 : Rd .u8 w B m d b) (hb : ∀ v ∈ b, (Lit.int .u8 v).wf = true) (_ : m * 1 ≤ 140737488351232) (hn : (Lit.int .u16 n).wf = true) :
    Calls Try.prog 11 #[.slice A s c, .slice B m d, .int .u16 n] w fun e w' => e = .returned (.bool true) ∧ Below w.heap.size w w' := by
  by_cases h : 200 < s ∨ 300 < m
  · exact far A B s c m d n w h
  · have h2 : 0 ≤ n ∧ n < 65536 := by
      simp [Lit.wf, IntKind.min, IntKind.max, IntKind.signed, IntKind.bits] at hn
      omega
    obtain ⟨n, rfl⟩ := Int.eq_ofNat_of_zero_le h2.1
    exact near key b (Go.Proofs.Ytpijkibhjklkoaa.Mem.byte_of hk) (Go.Proofs.Ytpijkibhjklkoaa.Mem.byte_of hb) A B s c m d n w (by omega) (by omega) (by omega) h0 h1
end Go.Proofs.Ytpijkibhjklkoaa.HmacTags
