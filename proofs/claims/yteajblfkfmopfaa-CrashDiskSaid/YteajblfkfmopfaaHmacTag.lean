/- hmac.Tag. -/
import Derived.Test.YteajblfkfmopfaaHmac
namespace Go.Proofs.Yteajblfkfmopfaa.Hmac
set_option linter.unusedVariables false
set_option linter.unusedSimpArgs false
open Go Go.RowKit Go.Proofs.Yteajblfkfmopfaa.Mem Go.Proofs.Yteajblfkfmopfaa.Put32 Go.Proofs.Yteajblfkfmopfaa.Pad Go.Proofs.Yteajblfkfmopfaa.Sum Go.Proofs.Yteajblfkfmopfaa.RefWith Go.Proofs.Yteajblfkfmopfaa.RefSum Go.Proofs.Yteajblfkfmopfaa.ShaAwake Go.Proofs.Yteajblfkfmopfaa.ShaSums Go.Proofs.Yteajblfkfmopfaa.ShaParts Go.Proofs.Yteajblfkfmopfaa.Stretch

/-- the tag of bytes -/
def tagB (key b : List Int) : List Int := sumB (flip 92 (padKey key) ++ sumB (flip 54 (padKey key) ++ b))
theorem tagB_len (key b : List Int) : (tagB key b).length = 32 := sumB_len _
theorem flip_byte (b : Nat) (l : List Int) (h : Byte l) (hb : b < 256) : Byte (flip b l) := by
  intro y hy
  obtain ⟨c, hc, rfl⟩ := List.mem_map.1 hy
  have h1 := h c hc
  have h2 : c.toNat ^^^ b < 2 ^ 8 := Nat.xor_lt_two_pow (by omega) (by omega)
  omega
/-- the slices that stand in a row of parts -/
theorem rdp_list {w : World} {A : Option Addr} {n c : Nat} {ps : List (List Int)} (h : RdP w A n c ps) :
    ∃ L : List Value, L.length = n ∧ Go.Proofs.Yteajblfkfmopfaa.Mem.Src w (.slice A n c) n 1 L ∧ ∀ j, j < n → ∃ Aj cj, L[j]? = some (.slice Aj (nthP ps j).length cj) ∧ Rd .u8 w Aj (nthP ps j).length cj (nthP ps j) := by
  by_cases h0 : 0 < n
  · obtain ⟨ad, rfl, hc⟩ := h.cells h0
    let f : Nat → Value := fun j => (w.cell? (ad.add j)).getD undef
    have hf : ∀ j, j < n → ∃ Aj cj, f j = .slice Aj (nthP ps j).length cj ∧ w.cell? (ad.add j) = some (.slice Aj (nthP ps j).length cj) ∧ Rd .u8 w Aj (nthP ps j).length cj (nthP ps j) := fun j hj => by
      obtain ⟨Aj, cj, h1, h2⟩ := hc j hj
      exact ⟨Aj, cj, by show (w.cell? (ad.add j)).getD undef = _; rw [h1]; rfl, h1, h2⟩
    refine ⟨(List.range n).map f, by simp, ⟨by simp, ?_, .inl ⟨ad, c, rfl, ?_⟩⟩, ?_⟩
    · intro u hu
      obtain ⟨j, hj, rfl⟩ := List.mem_map.1 hu
      obtain ⟨Aj, cj, h1, _⟩ := hf j (by simpa using hj)
      rw [h1]; rfl
    · intro j u hu
      have hj : j < n := by simpa using (List.getElem?_eq_some_iff.1 hu).1
      obtain ⟨Aj, cj, h1, h2, _⟩ := hf j hj
      rw [List.getElem?_map, List.getElem?_range hj] at hu
      rw [h2, ← h1]
      exact hu
    · intro j hj
      obtain ⟨Aj, cj, h1, _, h3⟩ := hf j hj
      exact ⟨Aj, cj, by rw [List.getElem?_map, List.getElem?_range hj]; exact congrArg some h1, h3⟩
  · obtain rfl : n = 0 := by omega
    refine ⟨[], rfl, ⟨rfl, by simp, ?_⟩, fun j hj => by omega⟩
    cases A with
    | none => exact .inr ⟨c, rfl, rfl⟩
    | some ad => exact .inl ⟨ad, c, rfl, fun j u hu => by simp at hu⟩
/-- a row of slices that was appended, as parts -/
theorem rdp_of_own {w : World} {base : Nat} {A : Option Addr} {c n : Nat} {L : List Value} {ps : List (List Int)} (h : OwnAt w base (.slice A n c) n L) (hp : ps.length = n) (hc : n ≤ c ∧ c ≤ maxLen)
    (hL : ∀ j, j < n → ∃ Aj cj, L[j]? = some (.slice Aj (nthP ps j).length cj) ∧ Rd .u8 w Aj (nthP ps j).length cj (nthP ps j)) : RdP w A n c ps :=
  ⟨hp, hc.1, hc.2, fun h0 => by
    obtain ⟨A0, c0, e0, _⟩ := hL 0 h0
    obtain ⟨ad, ea, _⟩ := h.cell 0 _ e0
    refine ⟨ad, ea, fun j hj => ?_⟩
    obtain ⟨Aj, cj, e1, e2⟩ := hL j hj
    obtain ⟨ad', ea', hcell⟩ := h.cell j _ e1
    rw [ea] at ea'
    cases ea'
    exact ⟨Aj, cj, hcell, e2⟩⟩
theorem own_caps {w : World} {base : Nat} {A : Option Addr} {c n : Nat} {L : List Value} (h : OwnAt w base (.slice A n c) n L) : n ≤ c ∧ c ≤ maxLen := by
  rcases h.2 with ⟨hv, h0⟩ | ⟨g, off, cap, cur, T, hv, hg, hh, hfit, hnc, hcm, hcur⟩
  · injection hv with e1 e2 e3
    subst e3
    exact ⟨by omega, by decide⟩
  · injection hv with e1 e2 e3
    subst e3
    exact ⟨hnc, hcm⟩
theorem rd_block {w : World} {b : Nat} {T : TypeId} {x : List Int} {n : Nat} (h : w.heap[b]? = some (.cells (bytesA x) T (0, 0))) (hl : x.length = n) (hn : n ≤ maxLen) : Rd .u8 w (some ⟨b, 0, none⟩) n n x :=
  ⟨hl, Nat.le_refl _, hn, fun _ => ⟨_, rfl, fun j hj => by rw [Addr.add_lit, Nat.zero_add, cell_of_row w b j _ _ _ h, bytesA_at x j (by omega)]⟩⟩
theorem infoS : (Try.prog.info? 37).map (fun i => (i.zero, i.size, i.bytes)) = some (some (.slice none 0 0), 1, 24) := by kernel_rfl
theorem nthP_cons (p : List Int) (ps : List (List Int)) (j : Nat) : nthP (p :: ps) (j + 1) = nthP ps j := rfl
/-- the inner sum's parts -/
theorem inner_parts {w : World} {base : Nat} {A : Option Addr} {c np b : Nat} {L : List Value} {T : TypeId} {I : List Int} {ps : List (List Int)} (h : OwnAt w base (.slice A (1 + np) c) (1 + np) ([.slice (some ⟨b, 0, none⟩) 64 64] ++ L)) (hp : ps.length = np)
    (hI : I.length = 64) (hb : w.heap[b]? = some (.cells (bytesA I) T (0, 0))) (hL : ∀ j, j < np → ∃ Aj cj, L[j]? = some (.slice Aj (nthP ps j).length cj) ∧ Rd .u8 w Aj (nthP ps j).length cj (nthP ps j)) : RdP w A (1 + np) c (I :: ps) :=
  rdp_of_own h (by rw [List.length_cons, hp]; omega) (own_caps h) fun j hj => by
    cases j with
    | zero => exact ⟨some ⟨b, 0, none⟩, 64, by show some _ = some (Value.slice _ I.length 64); rw [hI], by show Rd .u8 w _ I.length 64 I; rw [hI]; exact rd_block hb hI (by decide)⟩
    | succ j =>
      obtain ⟨Aj, cj, e1, e2⟩ := hL j (by omega)
      exact ⟨Aj, cj, by rw [nthP_cons]; exact e1, by rw [nthP_cons]; exact e2⟩
theorem src_below {w w' : World} {x : Value} {m size : Nat} {news : List Value} (h : Go.Proofs.Yteajblfkfmopfaa.Mem.Src w x m size news) (hb : Below w.heap.size w w') : Go.Proofs.Yteajblfkfmopfaa.Mem.Src w' x m size news :=
  ⟨h.len, h.one, h.at_.imp (fun ⟨ad, c, e, hc⟩ => ⟨ad, c, e, fun j u hu => (hb.cell (World.block_lt_of_cell? w _ (hc j u hu))).trans (hc j u hu)⟩) id⟩
theorem sum_inner (I : List Int) (ps : List (List Int)) (S : List Int) (hS : sumB (I ++ ps.flatten) = S) (hI : Byte I) (hps : ∀ p ∈ ps, Byte p) (A : Option Addr) (np c : Nat) (w : World) (hfl : ps.flatten.length ≤ 1000000000) (hnp : np ≤ 1000000) (h : RdP w A (1 + np) c (I :: ps)) (lI : I.length = 64) :
    Calls Try.prog 198 #[.slice A (1 + np) c] w fun e w' => e = .returned (.agg (S.map (Value.int .u8)).toArray) ∧ Below w.heap.size w w' := by
  have h1 := sum_any (I :: ps) A (1 + np) c w (by
    intro p hp
    rcases List.mem_cons.1 hp with rfl | hp
    · exact hI
    · exact hps p hp) (by rw [List.flatten_cons, List.length_append, lI]; omega) (by omega) h
  rw [show sumA (I :: ps).flatten = (S.map (Value.int .u8)).toArray by rw [← hS, List.flatten_cons]; rfl] at h1
  exact h1
theorem there_z {W : World} {b : Nat} {T : TypeId} (h : W.heap[b]? = some (.cells Z32 T (0, 0))) : W.there b 0 32 := fun j hj => by
  rw [Nat.zero_add]
  refine ⟨?_, frozen_of_row W b j _ _ h⟩
  rw [cell_of_row W b j _ _ _ h]
  have : j < Z32.size := by show j < 32; exact hj
  simp [this]
theorem results_one {P : Program} {fn : Func} {p : Tmp} {ty : TypeId} (h : fn.results = #[.cell p ty]) (tmps : Array Value) (w : World) (b0 : Nat) (L0 : List Value) {d : TypeDesc}
    (hp : tmps.getD p undef = .pointer (some ⟨b0, 0, none⟩)) (r0 : w.rangeAt b0 0 L0) (hu : P.underlying ty = some d) (hd : d.isRow = true) (i0 : (P.info? ty).map (·.size) = some L0.length) :
    (results fn tmps).run P w = .ok (.agg L0.toArray) w := by
  have hp' : tmps[p]?.getD undef = .pointer (some ⟨b0, 0, none⟩) := by simpa using hp
  simp [results, h, hp', asAddr, run_loadVar_mid w b0 0 ty L0 d r0 hu hd i0]
set_option maxHeartbeats 1000000 in
set_option maxRecDepth 100000 in
theorem tag_any (key : List Int) (hk : Byte key) (A : Option Addr) (n c : Nat) (ps : List (List Int)) (hps : ∀ p ∈ ps, Byte p) (P : Option Addr) (np cp : Nat) (w : World) (hn : n ≤ 1099511627776) (hnp : np ≤ 1000000) (hfl : ps.flatten.length ≤ 1000000000) (h0 : Rd .u8 w A n c key) (h1 : RdP w P np cp ps)
    (T : List Int) (hT : tagB key ps.flatten = T) :
    Calls Try.prog 150 #[.slice A n c, .slice P np cp] w fun e w' => e = .returned (.agg (T.map (Value.int .u8)).toArray) ∧ Below w.heap.size w w' := by
  have HX := As.mk hk
  have HPS := As.mk hps
  have HN := As.mk hn
  have HNP := As.mk hnp
  have HFL := As.mk hfl
  have HB0 := As.mk (below_alloc (Below.refl w.heap.size w) (.cells Z32 43))
  have HZ0 := As.mk (heap_alloc_new w (.cells Z32 43))
  have HS0 := As.mk (show w.heap.size < (w.alloc (.cells Z32 43)).heap.size by simp)
  have HK0 := As.mk (h0.below HB0.out)
  have HP0 := As.mk (h1.below HB0.out)
  have HT := As.mk hT
  obtain ⟨I, hI⟩ : ∃ I, I = flip 54 (padKey key) := ⟨_, rfl⟩
  obtain ⟨O, hO⟩ : ∃ O, O = flip 92 (padKey key) := ⟨_, rfl⟩
  have lI : I.length = 64 := by rw [hI, flip_len, padKey_len]
  have lO : O.length = 64 := by rw [hO, flip_len, padKey_len]
  have HI := As.mk hI
  have HO := As.mk hO
  have LI := As.mk lI
  have LO := As.mk lO
  clear hk hps hn hnp hfl h0 h1 hT hI hO lI lO
  go_enter Try.func150, Try.ntmps150
  go_wp2_with (first
    | (refine wpList_allocArr rfl 43 rfl Z32 z32 ?_)
    | (go_at_call 197; refine As.out ?_))
  refine As.mk ?_
  generalize w.alloc _ = w0 at *
  refine (pads_any key HX.out A n c w0 HN.out HK0.out).mono ?_
  rintro e w1 ⟨rfl, hb⟩
  rw [← HI.out, ← HO.out]
  have HB1 := As.mk (below_step HB0.out (hb.mono (Nat.le_refl _)))
  have HZ1 := As.mk ((hb.block _ HS0.out).trans HZ0.out)
  have HS1 := As.mk (Nat.lt_of_lt_of_le HS0.out hb.size)
  have HP1 := As.mk (HP0.out.below hb)
  clear hb HB0 HZ0 HS0 HP0 HK0
  go_wp2_with (first
    | (refine wpList_allocArr rfl 232 rfl Z64 z64 ?_)
    | (refine wpList_storeArr rfl rfl 232 (.tmp 5) (.tmp 11) rfl w1.heap.size rfl (bytesA I) rfl 232 Z64 (al2_0 w1 _ _) (by rw [bytesA_size, LI.out]; kernel_rfl) (by rw [bytesA_size, LI.out]; kernel_rfl) (bytesA_one I) ?_)
    | (refine wpList_storeArr rfl rfl 232 (.tmp 6) (.tmp 12) rfl _ rfl (bytesA O) rfl 232 Z64 ?hg (by rw [bytesA_size, LO.out]; kernel_rfl) (by rw [bytesA_size, LO.out]; kernel_rfl) (bytesA_one O) ?_; (case hg => first | exact (setRow_far _ w1.heap.size (w1.heap.size + 1) _ (by omega)).trans (al2_1 w1 _ _) | exact (setRow_far _ w1.heap.size _ _ (by simp)).trans (heap_alloc_new _ _)); refine As.out ?_))
  refine As.mk ?_
  have h5 := (setRow_far ((((w1.alloc (.cells Z64 232)).alloc (.cells Z64 232)).setRow w1.heap.size (bytesA I))) (w1.heap.size + 1) w1.heap.size (bytesA O) (by omega)).trans (setRow_new _ w1.heap.size Z64 (bytesA I) 232 (al2_0 w1 (.cells Z64 232) (.cells Z64 232)))
  have h6 := setRow_new (((w1.alloc (.cells Z64 232)).alloc (.cells Z64 232)).setRow w1.heap.size (bytesA I)) (w1.heap.size + 1) Z64 (bytesA O) 232 ((setRow_far _ w1.heap.size (w1.heap.size + 1) _ (by omega)).trans (al2_1 w1 _ _))
  have hb2 : Below w1.heap.size w1 ((((w1.alloc (.cells Z64 232)).alloc (.cells Z64 232)).setRow w1.heap.size (bytesA I)).setRow (w1.heap.size + 1) (bytesA O)) := below_setRow (below_setRow (below_alloc (below_alloc (Below.refl _ _) _) _) (Nat.le_refl _) _) (Nat.le_succ _) _
  have hlt6 := (Array.getElem?_eq_some_iff.1 h6).1
  generalize (((w1.alloc (.cells Z64 232)).alloc (.cells Z64 232)).setRow w1.heap.size (bytesA I)).setRow (w1.heap.size + 1) (bytesA O) = w2 at *
  have HB2 := As.mk (below_step HB1.out hb2)
  have HZ2 := As.mk ((hb2.block _ HS1.out).trans HZ1.out)
  have HP2 := As.mk (HP1.out.below hb2)
  obtain ⟨b5, hb5⟩ : ∃ b, b = w1.heap.size := ⟨_, rfl⟩
  obtain ⟨b6, hb6⟩ : ∃ b, b = w1.heap.size + 1 := ⟨_, rfl⟩
  rw [← hb6] at h6 hlt6 ⊢
  rw [← hb5] at h5 ⊢
  have H5 := As.mk h5
  have H6 := As.mk h6
  have HS2 := As.mk (show w.heap.size < b5 ∧ b5 < b6 ∧ b6 < w2.heap.size from ⟨by rw [hb5]; exact HS1.out, by omega, hlt6⟩)
  clear h5 h6 hb2 hlt6 hb5 hb6 HB1 HZ1 HP1 HS1
  obtain ⟨L, lL, sL, eL⟩ := rdp_list HP2.out
  have LLn := As.mk lL
  have EL := As.mk eL
  have HOs : As (OwnAt (w2.alloc (.cells #[.slice (some ⟨b5, 0, none⟩) 64 64] 37)) w2.heap.size (.slice (some ⟨w2.heap.size, 0, none⟩) 1 1) 1 [.slice (some ⟨b5, 0, none⟩) 64 64]) := ⟨OwnAt.lit w2 37 [.slice (some ⟨b5, 0, none⟩) 64 64] (by show 1 ≤ maxLen; decide)⟩
  have HBa := As.mk (below_alloc (Below.refl w2.heap.size w2) (.cells #[.slice (some ⟨b5, 0, none⟩) 64 64] 37))
  have SL := As.mk (src_below sL HBa.out)
  obtain ⟨S, hS⟩ : ∃ S, sumB (I ++ ps.flatten) = S := ⟨_, rfl⟩
  have HSS := As.mk hS
  have LS := As.mk (show S.length = 32 by rw [← hS]; exact sumB_len _)
  have VS := As.mk (show ((S.map (Value.int .u8)).toArray).size = 32 by simp [LS.out])
  clear lL sL eL hS
  go_wp2_with (first
    | (at_builtin; (refine wpList_app2 rfl _ _ 50 rfl w2.heap.size 37 (.slice none 0 0) 24 Try.underlying50 infoS rfl _ 1 [.slice (some ⟨b5, 0, none⟩) 64 64] rfl HOs.out _ np L rfl SL.out ?c1 ?c2 HBa.out.size HBa.out (Nat.le_refl _) ?_; (case c1 => have := HNP.out; unfold maxLen; omega); (case c2 => have := HNP.out; omega); intro v3 w3 hown hg hat hb3; obtain ⟨A3, c3, rfl⟩ := hown.slice; have HO3 := As.mk hown; have HB3 := As.mk hb3; clear hown hg hat hb3))
    | (go_at_call 198; (refine (sum_inner I ps S HSS.out (by rw [HI.out]; exact flip_byte 54 _ (padKey_byte _ HX.out) (by omega)) HPS.out A3 np c3 w3 HFL.out HNP.out (inner_parts HO3.out HP2.out.len LI.out ((HB3.out.block b5 (by have := HS2.out; omega)).trans H5.out) (fun j hj => by obtain ⟨Aj, cj, e1, e2⟩ := EL.out j hj; exact ⟨Aj, cj, e1, e2.below HB3.out⟩)) LI.out).mono ?_; rintro e w4 ⟨rfl, hb4⟩; have HB4 := As.mk (below_step HB3.out hb4); clear hb4))
    | (refine wpList_allocArr rfl 43 rfl Z32 z32 ?_)
    | (refine wpList_storeNew rfl rfl 43 _ _ rfl rfl (S.map (Value.int .u8)).toArray rfl 43 Z32 (by rw [VS.out]; kernel_rfl) (by rw [VS.out]; kernel_rfl) (bytesA_one S) ?_; refine As.out ?_))
  refine As.mk ?_
  have HB5 := As.mk (below_alloc (below_step HB2.out HB4.out) (.cells (S.map (Value.int .u8)).toArray 43))
  have hk : ∀ k o, k < w2.heap.size → w2.heap[k]? = some o → (w4.alloc (.cells (S.map (Value.int .u8)).toArray 43)).heap[k]? = some o := fun k o hk h => ((below_alloc HB4.out (.cells (S.map (Value.int .u8)).toArray 43)).block k hk).trans h
  have HZ5 := As.mk (hk _ _ (by have := HS2.out; omega) HZ2.out)
  have HRO := As.mk (rd_block (hk b6 _ (by have := HS2.out; omega) H6.out) LO.out (by decide))
  have HRS := As.mk (rd_block (heap_alloc_new w4 (.cells (S.map (Value.int .u8)).toArray 43)) LS.out (by decide))
  have HSW := As.mk (show w.heap.size < (w4.alloc (.cells (S.map (Value.int .u8)).toArray 43)).heap.size by have := HS2.out; have := HB4.out.size; simp; omega)
  clear hk HB2 HB3 HB4 HO3 HOs HBa SL EL HP2 HZ2 H5 H6
  generalize w4.alloc _ = w5 at *
  generalize w4.heap.size = b7 at *
  obtain ⟨C, hC⟩ : ∃ C : List Value, C = T.map (Value.int .u8) := ⟨_, rfl⟩
  have HTT : sumB (O ++ S) = T := by rw [HO.out, ← HSS.out, HI.out]; exact HT.out
  have lC : C.length = 32 := by rw [hC, List.length_map, ← HTT, sumB_len]
  have iC : (Try.prog.info? 43).map (·.size) = some C.length := by rw [lC]; kernel_rfl
  have oC : ∀ v ∈ C, v.oneCell' = true := by rw [hC]; exact ints_oneCell .u8 _
  have hu := uArr32
  have HTW : As (∀ W b, W.heap[b]? = some (.cells #[.slice (some ⟨b6, 0, none⟩) 64 64, .slice (some ⟨b7, 0, none⟩) 32 32] 37 (0, 0)) → Rd .u8 W (some ⟨b6, 0, none⟩) 64 64 O → Rd .u8 W (some ⟨b7, 0, none⟩) 32 32 S →
      Calls Try.prog 198 #[.slice (some ⟨b, 0, none⟩) 2 2] W fun e w' => e = .returned (.agg C.toArray) ∧ Below W.heap.size W w') :=
    ⟨fun W b hg h0 h1 => hC ▸ sum_two O S T HTT (by rw [HO.out]; exact flip_byte 92 _ (padKey_byte _ HX.out) (by omega)) (by rw [← HSS.out]; exact sumB_byte _) W b 37 _ _ 64 32 64 32 (by decide) hg h0 h1⟩
  have HCC := As.mk hC
  clear hC HTT
  go_wp2
  go_region_held2 (fun W : World => W.there w.heap.size 0 32)
    (first | exact there_z (T := 43) HZ5.out | exact there_z (T := 43) ((Below.heap_alloc w5 _ _ HSW.out).trans HZ5.out) | exact there_z (T := 43) HZ6.out | exact World.there_setCells (there_z (T := 43) HZ6.out) _ _ _)
    (first | (go_at_call 198; ((with_reducible refine (HTW.out _ _ ?g ?r0 ?r1).mono ?_); (case g => exact heap_alloc_new _ _); (case r0 => exact (HRO.out.below (below_alloc (Below.refl _ _) _)).drewN 1); (case r1 => exact (HRS.out.below (below_alloc (Below.refl _ _) _)).drewN 1); rintro e w6 ⟨rfl, hb6⟩; have HB6 := As.mk (below_step HB5.out (below_step (below_drewN (below_alloc (Below.refl _ _) _) 1) hb6)); have HZ6 := As.mk ((hb6.block _ (by show _ < (w5.heap.push _).size; rw [Array.size_push]; exact Nat.lt_succ_of_lt HSW.out)).trans ((Below.heap_alloc w5 _ _ HSW.out).trans HZ5.out)); clear hb6)))
  have HR7 := As.mk (World.rangeAt_setCells_same w6 w.heap.size 0 C (by rw [lC]; exact there_z (T := 43) HZ6.out))
  have HB7 := As.mk (below_setCells HB6.out (Nat.le_refl _) 0 C)
  generalize w6.setCells w.heap.size 0 C = w7 at *
  go_wp2
  refine bodyPost_ret (v := .agg C.toArray) ?_ rfl ⟨by rw [HCC.out], HB7.out⟩
  exact results_one Try.results150 _ w7 _ C rfl HR7.out uArr32 rfl iC
end Go.Proofs.Yteajblfkfmopfaa.Hmac
