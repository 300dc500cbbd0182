/- ShaKinds: the law's walk. -/
import Derived.Test.YtpijkibhjklkoaaRefKinds
import Derived.Test.YtpijkibhjklkoaaHex
import Derived.Test.YtpijkibhjklkoaaShaAwake
namespace Go.Proofs.Ytpijkibhjklkoaa.ShaKinds
set_option linter.unusedVariables false
set_option linter.unusedSimpArgs false
open Go Go.RowKit Go.Proofs.Ytpijkibhjklkoaa.Mem Go.Proofs.Ytpijkibhjklkoaa.Put32 Go.Proofs.Ytpijkibhjklkoaa.Pad Go.Proofs.Ytpijkibhjklkoaa.Sum Go.Proofs.Ytpijkibhjklkoaa.RefWith Go.Proofs.Ytpijkibhjklkoaa.RefSum Go.Proofs.Ytpijkibhjklkoaa.ShaAwake Go.Proofs.Ytpijkibhjklkoaa.ShaSums Go.Proofs.Ytpijkibhjklkoaa.ShaParts Go.Proofs.Ytpijkibhjklkoaa.Stretch Go.Proofs.Ytpijkibhjklkoaa.Hmac Go.Proofs.Ytpijkibhjklkoaa.Kinds Go.Proofs.Ytpijkibhjklkoaa.Roots

theorem str_size (L : List Int) : (strOfNums L).size = L.length := by simp [strOfNums, ByteArray.size]
theorem run_str_at (L : List Int) (hb : Byte L) (a : Nat) (ha : a < L.length) (W : World) : (Instr.index 9 (.string (strOfNums L)) (.int .i64 (a : Int))).run Try.prog W = .ok (.int .u8 (nth L a)) W := by
  rw [run_index_string W 9 (strOfNums L) .i64 (a : Int) Try.underlying9, dif_pos ⟨by omega, by rw [str_size]; omega⟩]
  have h1 := hb (L[a]) (List.getElem_mem _)
  have h2 : nth L a = L[a] := by rw [nth, List.getD_eq_getElem?_getD, List.getElem?_eq_getElem ha]; rfl
  rw [h2]
  have h3 : ((strOfNums L)[((a : Int)).toNat]'(by rw [str_size]; omega)) = UInt8.ofNat (L[a]).toNat := by
    show (strOfNums L).data[((a : Int)).toNat]'_ = _
    simp [strOfNums]
  rw [h3]
  congr 2
  simp
  omega
theorem dig_lt (n : Nat) : Hex.dig n < 256 := by
  unfold Hex.dig
  rw [List.getD_eq_getElem?_getD]
  cases h : ([48, 49, 50, 51, 52, 53, 54, 55, 56, 57, 97, 98, 99, 100, 101, 102] : List Nat)[n]? with
  | none => decide
  | some v =>
    have := List.mem_of_getElem? h
    simp at this
    simp
    omega
theorem hexB_byte : ∀ t : List Int, Byte (Hex.hexB t)
  | [] => fun y hy => by cases hy
  | c :: r => fun y hy => by
    rcases List.mem_cons.1 hy with rfl | hy
    · have := dig_lt (c.toNat / 16); omega
    · rcases List.mem_cons.1 hy with rfl | hy
      · have := dig_lt (c.toNat % 16); omega
      · exact hexB_byte r y hy
theorem kindsA_at (j : Nat) (h : j < 64) : kindsA[j]? = some (.int .u32 (nth kindsL j)) := by
  have hl : j < kindsL.length := h
  rw [kindsA, vals, List.getElem?_toArray, List.getElem?_map, List.getElem?_eq_getElem hl, nth, List.getD_eq_getElem?_getD, List.getElem?_eq_getElem hl]
  rfl
set_option maxHeartbeats 4000000 in
set_option maxRecDepth 100000 in
theorem near (n : Nat) (hn : n < 256) (t : List Int) (ht : t.length = 32) (hbt : Byte t) (w : World) :
    Calls Try.prog 10 #[.int .u8 n, .agg (bytesA t)] w fun e w' => e = .returned (.bool true) ∧ Below w.heap.size w w' := by
  have HN := As.mk hn
  have HLT := As.mk ht
  have HBT := As.mk hbt
  have HB0 := As.mk (below_alloc (Below.refl w.heap.size w) (.cells (bytesA t) 44))
  have HZ0 := As.mk (heap_alloc_new w (.cells (bytesA t) 44))
  have HS0 := As.mk (Array.getElem?_eq_some_iff.1 HZ0.out).1
  clear hn ht hbt
  go_enter Try.func10, Try.ntmps10
  go_wp2_with (go_at_call 29; refine As.out ?_)
  refine As.mk ?_
  generalize w.alloc _ = w0 at *
  refine (ShaAwake.awake_true w0).mono ?_
  rintro e w1 ⟨rfl, hb⟩
  have HB1 := As.mk (below_step HB0.out hb)
  have HZ1 := As.mk ((hb.block _ HS0.out).trans HZ0.out)
  have HS1 := As.mk (Nat.lt_of_lt_of_le HS0.out hb.size)
  clear hb HB0 HZ0 HS0
  go_wp2_with (first
    | (go_at_call 34; refine (kinds_any w1).mono ?_; rintro e w2 ⟨rfl, hb⟩; have HB2 := As.mk hb; clear hb)
    | (refine wpList_allocArr rfl 52 rfl Kinds.Z64 Kinds.z64 ?_)
    | (refine wpList_storeNew rfl rfl 52 _ _ rfl rfl kindsA rfl 52 Kinds.Z64 (by kernel_rfl) (by kernel_rfl) (by kernel_rfl) ?_)
    | (go_at_call 35; refine As.out ?_))
  refine As.mk ?_
  have hk3 := heap_alloc_new w2 (.cells kindsA 52)
  have HK3 := As.mk hk3
  have HBA := As.mk (below_alloc HB2.out (.cells kindsA 52))
  have HS3 := As.mk (Array.getElem?_eq_some_iff.1 hk3).1
  have HW3 := As.mk (Nat.lt_of_lt_of_le HS1.out HB2.out.size)
  clear hk3 HB2
  generalize w2.alloc _ = w3 at *
  generalize w2.heap.size = bk at *
  refine (kinds_ref w3).mono ?_
  rintro e w4 ⟨A4, c4, rfl, hb, ho⟩
  have hr4 : Rd .u32 w4 A4 64 c4 kindsL := by
    obtain ⟨A', c', e', hr⟩ := OwnAt.rd ho
    cases e'
    exact hr
  have HR4 := As.mk hr4
  have HK4 := As.mk ((hb.block _ HS3.out).trans HK3.out)
  have HB4 := As.mk (below_step HB1.out (below_step HBA.out hb))
  have HZ4 := As.mk (((below_step HBA.out hb).block _ HS1.out).trans HZ1.out)
  have HS4 := As.mk (show bk < w4.heap.size from Nat.lt_of_lt_of_le HS3.out hb.size)
  clear hb ho hr4 HK3 HBA
  go_wp2
  go_loopg [15] 64 (fun kq v15 wr => ∃ i : Nat, i + kq = 64 ∧ v15 = .int .i64 i ∧ As (Below w4.heap.size w4 wr))
  case atStart => exact ⟨0, by omega, rfl, ⟨Below.refl _ _⟩⟩
  case round =>
    obtain ⟨i, hi, rfl, HB⟩ := hrel
    have HI := As.mk hi
    clear hi
    by_cases hlt : i < 64
    · have e0 : decide ((i : Int) < 64) = true := decide_eq_true (by omega)
      have e1 : decide (i < 64) = true := decide_eq_true hlt
      have Li : (i : Int) < 64 := by omega
      have hw : wrap64 ((i : Int) + 1) = ((i + 1 : Nat) : Int) := wrap_up (by omega)
      obtain ⟨x, hxx⟩ : ∃ x, x = nth kindsL i := ⟨_, rfl⟩
      have g0 : wr.cell? ⟨bk, i, none⟩ = some (.int .u32 x) := by rw [cell_of_row wr _ i _ _ _ ((HB.out.block _ HS4.out).trans HK4.out), kindsA_at i hlt, hxx]
      obtain ⟨ad, ea, hx⟩ := (HR4.out.below HB.out).at i hlt
      rw [← hxx] at hx
      cases ea
      have HX := As.mk hxx
      clear hxx
      go_wp2
      refine wp_region_held_drew (S := fun W : World => W.cell? ⟨bk, i, none⟩ = some (.int .u32 x) ∧ W.cell? (ad.add i) = some (.int .u32 x)) (by kernel_rfl) ⟨g0, hx⟩ (fun hHeld => ?_)
      refine wpAnyH_take (i := 0) (v := .int .i64 (i : Int)) rfl (by kernel_rfl) (by kernel_rfl) (by kernel_rfl) (fun _ _ _ h => h) (Or.inl ⟨by rfl, fun W hW => by go_simp⟩) hHeld ?_
      try simp only [Act.put, List.setIfInBounds_toArray, List.set_cons_zero, List.set_cons_succ, List.getElem_toArray, List.getElem_cons_zero, List.getElem_cons_succ]
      refine wpAnyH_take (i := 1) (v := .pointer (some ⟨bk, i, none⟩)) rfl (by kernel_rfl) (by kernel_rfl) (by kernel_rfl) (fun _ _ _ h => h) (Or.inl ⟨by rfl, fun W hW => by go_simp⟩) hHeld ?_
      try simp only [Act.put, List.setIfInBounds_toArray, List.set_cons_zero, List.set_cons_succ, List.getElem_toArray, List.getElem_cons_zero, List.getElem_cons_succ]
      refine wpAnyH_take (i := 2) (v := .int .u32 x) rfl (by kernel_rfl) (by kernel_rfl) (by kernel_rfl) (fun _ _ _ h => h) (Or.inl ⟨by rfl, fun W hW => by go_simp⟩) hHeld ?_
      try simp only [Act.put, List.setIfInBounds_toArray, List.set_cons_zero, List.set_cons_succ, List.getElem_toArray, List.getElem_cons_zero, List.getElem_cons_succ]
      refine wpAnyH_take (i := 3) (v := .slice (some ad) 64 c4) rfl (by kernel_rfl) (by kernel_rfl) (by kernel_rfl) (fun _ _ _ h => h) (Or.inl ⟨by rfl, fun W hW => by go_simp⟩) hHeld ?_
      try simp only [Act.put, List.setIfInBounds_toArray, List.set_cons_zero, List.set_cons_succ, List.getElem_toArray, List.getElem_cons_zero, List.getElem_cons_succ]
      refine wpAnyH_take (i := 4) (v := .int .i64 (i : Int)) rfl (by kernel_rfl) (by kernel_rfl) (by kernel_rfl) (fun _ _ _ h => h) (Or.inl ⟨by rfl, fun W hW => by go_simp⟩) hHeld ?_
      try simp only [Act.put, List.setIfInBounds_toArray, List.set_cons_zero, List.set_cons_succ, List.getElem_toArray, List.getElem_cons_zero, List.getElem_cons_succ]
      refine wpAnyH_take (i := 5) (v := .pointer (some (ad.add i))) rfl (by kernel_rfl) (by kernel_rfl) (by kernel_rfl) (fun _ _ _ h => h) (Or.inl ⟨by rfl, fun W hW => by go_simp⟩) hHeld ?_
      try simp only [Act.put, List.setIfInBounds_toArray, List.set_cons_zero, List.set_cons_succ, List.getElem_toArray, List.getElem_cons_zero, List.getElem_cons_succ]
      refine wpAnyH_take (i := 6) (v := .int .u32 x) rfl (by kernel_rfl) (by kernel_rfl) (by kernel_rfl) (fun _ _ _ h => h) (Or.inl ⟨by rfl, fun W hW => by go_simp⟩) hHeld ?_
      try simp only [Act.put, List.setIfInBounds_toArray, List.set_cons_zero, List.set_cons_succ, List.getElem_toArray, List.getElem_cons_zero, List.getElem_cons_succ]
      refine wpAnyH_take (i := 7) (v := .bool false) rfl (by kernel_rfl) (by kernel_rfl) (by kernel_rfl) (fun _ _ _ h => h) (Or.inl ⟨by rfl, fun W hW => by go_simp⟩) hHeld ?_
      try simp only [Act.put, List.setIfInBounds_toArray, List.set_cons_zero, List.set_cons_succ, List.getElem_toArray, List.getElem_cons_zero, List.getElem_cons_succ]
      refine wpAnyH_take (i := 8) (v := .bool false) rfl (by kernel_rfl) (by kernel_rfl) (by kernel_rfl) (fun _ _ _ h => h) (Or.inl ⟨by rfl, fun W hW => by go_simp⟩) hHeld ?_
      try simp only [Act.put, List.setIfInBounds_toArray, List.set_cons_zero, List.set_cons_succ, List.getElem_toArray, List.getElem_cons_zero, List.getElem_cons_succ]
      refine wpAnyH_take (i := 10) (v := .int .i64 (i : Int)) rfl (by kernel_rfl) (by kernel_rfl) (by kernel_rfl) (fun _ _ _ h => h) (Or.inl ⟨by rfl, fun W hW => by go_simp⟩) hHeld ?_
      try simp only [Act.put, List.setIfInBounds_toArray, List.set_cons_zero, List.set_cons_succ, List.getElem_toArray, List.getElem_cons_zero, List.getElem_cons_succ]
      refine wpAnyH_take (i := 13) (v := .slice (some ad) 64 c4) rfl (by kernel_rfl) (by kernel_rfl) (by kernel_rfl) (fun _ _ _ h => h) (Or.inl ⟨by rfl, fun W hW => by go_simp⟩) hHeld ?_
      try simp only [Act.put, List.setIfInBounds_toArray, List.set_cons_zero, List.set_cons_succ, List.getElem_toArray, List.getElem_cons_zero, List.getElem_cons_succ]
      refine wpAnyH_take (i := 14) (v := .int .i64 (i : Int)) rfl (by kernel_rfl) (by kernel_rfl) (by kernel_rfl) (fun _ _ _ h => h) (Or.inl ⟨by rfl, fun W hW => by go_simp⟩) hHeld ?_
      try simp only [Act.put, List.setIfInBounds_toArray, List.set_cons_zero, List.set_cons_succ, List.getElem_toArray, List.getElem_cons_zero, List.getElem_cons_succ]
      refine wpAnyH_take (i := 15) (v := .pointer (some (ad.add i))) rfl (by kernel_rfl) (by kernel_rfl) (by kernel_rfl) (fun _ _ _ h => h) (Or.inl ⟨by rfl, fun W hW => by go_simp⟩) hHeld ?_
      try simp only [Act.put, List.setIfInBounds_toArray, List.set_cons_zero, List.set_cons_succ, List.getElem_toArray, List.getElem_cons_zero, List.getElem_cons_succ]
      refine wpAnyH_take (i := 16) (v := .int .u32 x) rfl (by kernel_rfl) (by kernel_rfl) (by kernel_rfl) (fun _ _ _ h => h) (Or.inl ⟨by rfl, fun W hW => by go_simp⟩) hHeld ?_
      try simp only [Act.put, List.setIfInBounds_toArray, List.set_cons_zero, List.set_cons_succ, List.getElem_toArray, List.getElem_cons_zero, List.getElem_cons_succ]
      refine wpAnyH_ready (rs := [9]) (by kernel_rfl) (by simp) (AllReadyH.cons rfl (fun K' hK => ?_) AllReadyH.nil)
      go_simp
      refine (told_any wr.drew).mono ?_
      rintro e w5 ⟨rfl, hr5, hb5⟩
      rw [wlK] at hr5
      refine hK.out _ _ ⟨(hb5.cell (World.block_lt_of_cell? _ _ g0)).trans g0, (hb5.cell (World.block_lt_of_cell? _ _ hx)).trans hx⟩ (fun hHeld => ?_)
      clear hK
      try simp only [Act.put, List.setIfInBounds_toArray, List.set_cons_zero, List.set_cons_succ, List.getElem_toArray, List.getElem_cons_zero, List.getElem_cons_succ]
      obtain ⟨bd, eb, hy⟩ := hr5.at i hlt
      cases eb
      rw [add0, ← HX.out] at hy
      have hy : w5.cell? ⟨wr.heap.size, i, none⟩ = some (.int .u32 x) := hy
      refine wpAnyH_take (i := 11) (v := .pointer (some ⟨wr.heap.size, i, none⟩)) rfl (by kernel_rfl) (by kernel_rfl) (by kernel_rfl) (fun _ _ _ h => h) (Or.inl ⟨by rfl, fun W hW => by go_simp⟩) hHeld ?_
      try simp only [Act.put, List.setIfInBounds_toArray, List.set_cons_zero, List.set_cons_succ, List.getElem_toArray, List.getElem_cons_zero, List.getElem_cons_succ]
      refine wpAnyH_ready (rs := [12]) (by kernel_rfl) (by simp) (AllReadyH.cons rfl (fun K' hK => ?_) AllReadyH.nil)
      go_simp
      refine hK.out _ _ hHeld (fun hHeld => ?_)
      clear hK
      try simp only [Act.put, List.setIfInBounds_toArray, List.set_cons_zero, List.set_cons_succ, List.getElem_toArray, List.getElem_cons_zero, List.getElem_cons_succ]
      refine wpAnyH_take (i := 17) (v := .bool false) rfl (by kernel_rfl) (by kernel_rfl) (by kernel_rfl) (fun _ _ _ h => h) (Or.inl ⟨by rfl, fun W hW => by go_simp⟩) hHeld ?_
      try simp only [Act.put, List.setIfInBounds_toArray, List.set_cons_zero, List.set_cons_succ, List.getElem_toArray, List.getElem_cons_zero, List.getElem_cons_succ]
      refine wpAnyH_take (i := 18) (v := .bool false) rfl (by kernel_rfl) (by kernel_rfl) (by kernel_rfl) (fun _ _ _ h => h) (Or.inl ⟨by rfl, fun W hW => by go_simp⟩) hHeld ?_
      try simp only [Act.put, List.setIfInBounds_toArray, List.set_cons_zero, List.set_cons_succ, List.getElem_toArray, List.getElem_cons_zero, List.getElem_cons_succ]
      refine wpAnyH_done (by kernel_rfl) ?_ _
      go_wp2
      go_roundg (64 - (i + 1))
      case measure => have := HI.out; omega
      case rel => exact ⟨i + 1, by have := HI.out; omega, by first | go_num | rfl, ⟨below_step HB.out (below_step (below_drewN (Below.refl _ _) 1) hb5)⟩⟩
    · have e0 : decide ((i : Int) < 64) = false := decide_eq_false (by omega)
      have e1 : decide (i < 64) = false := decide_eq_false hlt
      obtain rfl : i = 64 := by have := HI.out; omega
      have HBW := As.mk (below_step HB4.out HB.out)
      have HZW := As.mk ((HB.out.block _ (Nat.lt_of_lt_of_le HW3.out (Nat.le_of_lt HS4.out))).trans HZ4.out)
      have HRW := As.mk (HR4.out.below HB.out)
      obtain ⟨V, hV⟩ : ∃ V, V = sumA [(n : Int)] := ⟨_, rfl⟩
      have heq := fun W => sum_same W [(n : Int)]
      rw [← hV] at heq
      have HV := As.mk hV
      have HXB : As (Byte [(n : Int)]) := ⟨by intro y hy; simp at hy; subst hy; have := HN.out; omega⟩
      clear hV hlt
      go_wp2_with (first
        | (go_at_call 38; (with_reducible refine (begin_ref wr).mono ?_); rintro e w6 ⟨A6, c6, rfl, hb, ho⟩; have HB6 := As.mk hb; have HO6 := As.mk ho; clear hb ho)
        | (go_at_call 37; refine As.out ?_))
      refine As.mk ?_
      have hba := below_alloc (Below.refl w6.heap.size w6) (.cells #[.int .u8 (n : Int)] 5)
      have hlit := Rd.lit w6 .u8 5 [(n : Int)] (by show 1 ≤ maxLen; decide)
      have hh : Rd .u32 (w6.alloc (.cells #[.int .u8 (n : Int)] 5)) A6 8 c6 (wl H0 8) := by
        obtain ⟨A', c', e', hr⟩ := OwnAt.rd HO6.out
        cases e'
        rw [wlH]
        exact hr.below hba
      have hkk : Rd .u32 (w6.alloc (.cells #[.int .u8 (n : Int)] 5)) A4 64 c4 (wl Kc 64) := by
        rw [wlK]
        exact (HRW.out.below HB6.out).below hba
      refine (with_sum [(n : Int)] HXB.out A4 A6 (some ⟨w6.heap.size, 0, none⟩) 1 1 c4 c6 (w6.alloc (.cells #[.int .u8 (n : Int)] 5)) (by decide) hkk hh hlit V HV.out.symm).mono ?_
      rintro e w7 ⟨rfl, hb7⟩
      have HB7 := As.mk (below_step (below_step HB6.out hba) hb7)
      clear hba hlit hh hkk hb7
      go_wp2_with (first
        | (go_at_call 30; refine As.out ?_))
      refine As.mk ?_
      have hsz : (w7.alloc (.cells #[.int .u8 (n : Int)] 5)).heap.size = w7.heap.size + 1 := by simp
      have hba := below_alloc (Below.refl w7.heap.size w7) (.cells #[.int .u8 (n : Int)] 5)
      have hs := sum_one [(n : Int)] HXB.out (some ⟨w7.heap.size, 0, none⟩) 1 1 22 (w7.alloc (.cells #[.int .u8 (n : Int)] 5)) (by decide) (Rd.lit w7 .u8 5 [(n : Int)] (by show 1 ≤ maxLen; decide))
      rw [← HV.out, hsz] at hs
      refine hs.mono ?_
      rintro e w8 ⟨rfl, hb8⟩
      rw [← hsz] at hb8
      have HB8 := As.mk (below_step (below_step HB7.out hba) hb8)
      have HBX := As.mk (below_step HBW.out HB8.out)
      have HZX := As.mk ((HB8.out.block _ (Nat.lt_of_lt_of_le (Nat.lt_of_lt_of_le HW3.out (Nat.le_of_lt HS4.out)) HB.out.size)).trans HZW.out)
      clear hs hsz hba hb8 HB7 HB6
      have VT := As.mk (show (bytesA t).size = 32 by rw [bytesA_size]; exact HLT.out)
      have HHL := As.mk (show (strOfNums (Hex.hexB t)).size = 64 by rw [show (strOfNums (Hex.hexB t)).size = (Hex.hexB t).length by simp [strOfNums, ByteArray.size], Hex.hexB_len, HLT.out])
      go_wp2_with (first
        | (refine wpList_load_row rfl 44 (.tmp 3) rfl w.heap.size rfl 44 (bytesA t) (0, 0) _ HZX.out uArr32 rfl (by rw [VT.out]; kernel_rfl) ?_)
        | (go_at_call 39; refine As.out ?_))
      refine As.mk ?_
      refine (Hex.hex_any t HLT.out HBT.out w8).mono ?_
      rintro e w9 ⟨rfl, hb9⟩
      have HB9 := As.mk (below_step HBX.out hb9)
      have HZ9 := As.mk ((hb9.block _ (Array.getElem?_eq_some_iff.1 HZX.out).1).trans HZX.out)
      clear hb9 HBX HZX
      obtain ⟨S, hS⟩ : ∃ S, S = strOfNums (Hex.hexB t) := ⟨_, rfl⟩
      rw [← hS] at HHL ⊢
      have HS := As.mk hS
      have hl64 := HHL.out
      have e64 : decide ((64 : Int) = 64) = true := rfl
      clear hS
      go_wp2_with (first
        | (refine wpList_load_row rfl 44 (.tmp 3) rfl w.heap.size rfl 44 (bytesA t) (0, 0) _ HZ9.out uArr32 rfl (by rw [VT.out]; kernel_rfl) ?_))
      go_loopg [54] 32 (fun kq v54 wr => ∃ i : Nat, i + kq = 32 ∧ v54 = .int .i64 i ∧ As (Below w.heap.size w wr))
      case atStart => exact ⟨0, by omega, rfl, HB9⟩
      case round =>
        obtain ⟨i, hi, rfl, HBr⟩ := hrel
        have HII := As.mk hi
        clear hi
        by_cases hlt : i < 32
        · have b0 : decide ((i : Int) < 32) = true := decide_eq_true (by omega)
          have b1 : decide (i < 32) = true := decide_eq_true hlt
          have Li : (i : Int) < 32 := by omega
          have hw : wrap64 ((i : Int) + 1) = ((i + 1 : Nat) : Int) := wrap_up (by omega)
          obtain ⟨c, hc, c1⟩ := RefGet.byte_lt HBT.out i (by rw [HLT.out]; exact hlt)
          have hix : ∀ W, (Instr.index 44 (.agg (bytesA t)) (.int .i64 (i : Int))).run Try.prog W = .ok (.int .u8 (c : Int)) W := fun W => run_index_arr (P := Try.prog) W 44 5 32 .u8 _ _ uArr32 Try.underlying5 CloneB.info (bytesA t) i hlt _ (by rw [bytesA_at _ _ (by rw [HLT.out]; exact hlt), hc]) .i64
          obtain ⟨a, ha⟩ : ∃ a, a = 2 * i := ⟨_, rfl⟩
          obtain ⟨b, hb⟩ : ∃ b, b = 2 * i + 1 := ⟨_, rfl⟩
          obtain ⟨h, hh⟩ : ∃ h, h = c / 16 := ⟨_, rfl⟩
          obtain ⟨l, hl⟩ : ∃ l, l = c % 16 := ⟨_, rfl⟩
          obtain ⟨x, hx⟩ : ∃ x, x = Hex.dig h := ⟨_, rfl⟩
          obtain ⟨y, hy⟩ : ∃ y, y = Hex.dig l := ⟨_, rfl⟩
          have r1 := Hex.run_dig h (by omega)
          have r2 := Hex.run_dig l (by omega)
          rw [← hx] at r1
          rw [← hy] at r2
          have hhl : (Hex.hexB t).length = 64 := by rw [Hex.hexB_len, HLT.out]
          have r3 := run_str_at (Hex.hexB t) (hexB_byte t) a (by omega)
          have r4 := run_str_at (Hex.hexB t) (hexB_byte t) b (by omega)
          have HX : nth (Hex.hexB t) a = (x : Int) := by rw [ha, (Hex.hexB_even t i (by rw [HLT.out]; exact hlt)).1, hc, hx, hh]; rfl
          have HY : nth (Hex.hexB t) b = (y : Int) := by rw [hb, (Hex.hexB_even t i (by rw [HLT.out]; exact hlt)).2, hc, hy, hl]; rfl
          rw [← HS.out, HX] at r3
          rw [← HS.out, HY] at r4
          have ea : wrap64 (2 * (i : Int)) = (a : Int) := by rw [show (2 : Int) * (i : Int) = (a : Int) by omega]; exact wid a (by omega)
          have ea' : IntKind.i64.wrap (2 * (i : Int)) = (a : Int) := by rw [show (2 : Int) * (i : Int) = (a : Int) by omega, IntKind.wrap_i64]; omega
          have eb : wrap64 ((a : Int) + 1) = (b : Int) := by rw [show (a : Int) + 1 = (b : Int) by omega]; exact wid b (by omega)
          have eb' : IntKind.i64.wrap ((a : Int) + 1) = (b : Int) := by rw [show (a : Int) + 1 = (b : Int) by omega, IntKind.wrap_i64]; omega
          have ec : (c : Int) / 16 = (h : Int) := by omega
          have ec2 : (c : Int).tdiv 16 = (h : Int) := by rw [hh, Int.ofNat_tdiv]; rfl
          have ed : (c : Int) % 16 = (l : Int) := by omega
          have ed2 : (c : Int).tmod 16 = (l : Int) := by rw [hl, Int.ofNat_tmod]; rfl
          have eh : IntKind.u8.wrap (h : Int) = (h : Int) := Go.Proofs.Ytpijkibhjklkoaa.Bits.wrap_u .u8 rfl h (by show h < 256; omega)
          have el : IntKind.u8.wrap (l : Int) = (l : Int) := Go.Proofs.Ytpijkibhjklkoaa.Bits.wrap_u .u8 rfl l (by show l < 256; omega)
          have HLI := As.mk hlt
          clear hc c1 ha hb hh hl hx hy hlt hhl HX HY
          go_wp2
          refine wp_region_held_drew (S := fun _ : World => True) (by kernel_rfl) trivial (fun hHeld => ?_)
          refine wpAnyH_take (i := 0) (v := .string S) rfl (by kernel_rfl) (by kernel_rfl) (by kernel_rfl) (fun _ _ _ h => h) (Or.inl ⟨by rfl, fun W hW => by go_simp⟩) hHeld ?_
          try simp only [Act.put, List.setIfInBounds_toArray, List.set_cons_zero, List.set_cons_succ, List.getElem_toArray, List.getElem_cons_zero, List.getElem_cons_succ]
          refine wpAnyH_take (i := 1) (v := .int .i64 (i : Int)) rfl (by kernel_rfl) (by kernel_rfl) (by kernel_rfl) (fun _ _ _ h => h) (Or.inl ⟨by rfl, fun W hW => by go_simp⟩) hHeld ?_
          try simp only [Act.put, List.setIfInBounds_toArray, List.set_cons_zero, List.set_cons_succ, List.getElem_toArray, List.getElem_cons_zero, List.getElem_cons_succ]
          refine wpAnyH_take (i := 2) (v := .int .i64 (a : Int)) rfl (by kernel_rfl) (by kernel_rfl) (by kernel_rfl) (fun _ _ _ h => h) (Or.inl ⟨by rfl, fun W hW => by go_simp⟩) hHeld ?_
          try simp only [Act.put, List.setIfInBounds_toArray, List.set_cons_zero, List.set_cons_succ, List.getElem_toArray, List.getElem_cons_zero, List.getElem_cons_succ]
          refine wpAnyH_take (i := 3) (v := .int .u8 (x : Int)) rfl (by kernel_rfl) (by kernel_rfl) (by kernel_rfl) (fun _ _ _ h => h) (Or.inl ⟨by rfl, fun W hW => by go_simp⟩) hHeld ?_
          try simp only [Act.put, List.setIfInBounds_toArray, List.set_cons_zero, List.set_cons_succ, List.getElem_toArray, List.getElem_cons_zero, List.getElem_cons_succ]
          refine wpAnyH_take (i := 4) (v := .int .u8 (c : Int)) rfl (by kernel_rfl) (by kernel_rfl) (by kernel_rfl) (fun _ _ _ h => h) (Or.inl ⟨by rfl, fun W hW => by go_simp⟩) hHeld ?_
          try simp only [Act.put, List.setIfInBounds_toArray, List.set_cons_zero, List.set_cons_succ, List.getElem_toArray, List.getElem_cons_zero, List.getElem_cons_succ]
          refine wpAnyH_take (i := 5) (v := .int .u8 (h : Int)) rfl (by kernel_rfl) (by kernel_rfl) (by kernel_rfl) (fun _ _ _ h => h) (Or.inl ⟨by rfl, fun W hW => by go_simp⟩) hHeld ?_
          try simp only [Act.put, List.setIfInBounds_toArray, List.set_cons_zero, List.set_cons_succ, List.getElem_toArray, List.getElem_cons_zero, List.getElem_cons_succ]
          refine wpAnyH_take (i := 6) (v := .int .u8 (x : Int)) rfl (by kernel_rfl) (by kernel_rfl) (by kernel_rfl) (fun _ _ _ h => h) (Or.inl ⟨by rfl, fun W hW => by go_simp⟩) hHeld ?_
          try simp only [Act.put, List.setIfInBounds_toArray, List.set_cons_zero, List.set_cons_succ, List.getElem_toArray, List.getElem_cons_zero, List.getElem_cons_succ]
          refine wpAnyH_take (i := 7) (v := .bool false) rfl (by kernel_rfl) (by kernel_rfl) (by kernel_rfl) (fun _ _ _ h => h) (Or.inl ⟨by rfl, fun W hW => by go_simp⟩) hHeld ?_
          try simp only [Act.put, List.setIfInBounds_toArray, List.set_cons_zero, List.set_cons_succ, List.getElem_toArray, List.getElem_cons_zero, List.getElem_cons_succ]
          refine wpAnyH_take (i := 8) (v := .bool false) rfl (by kernel_rfl) (by kernel_rfl) (by kernel_rfl) (fun _ _ _ h => h) (Or.inl ⟨by rfl, fun W hW => by go_simp⟩) hHeld ?_
          try simp only [Act.put, List.setIfInBounds_toArray, List.set_cons_zero, List.set_cons_succ, List.getElem_toArray, List.getElem_cons_zero, List.getElem_cons_succ]
          refine wpAnyH_take (i := 9) (v := .string S) rfl (by kernel_rfl) (by kernel_rfl) (by kernel_rfl) (fun _ _ _ h => h) (Or.inl ⟨by rfl, fun W hW => by go_simp⟩) hHeld ?_
          try simp only [Act.put, List.setIfInBounds_toArray, List.set_cons_zero, List.set_cons_succ, List.getElem_toArray, List.getElem_cons_zero, List.getElem_cons_succ]
          refine wpAnyH_take (i := 10) (v := .int .i64 (i : Int)) rfl (by kernel_rfl) (by kernel_rfl) (by kernel_rfl) (fun _ _ _ h => h) (Or.inl ⟨by rfl, fun W hW => by go_simp⟩) hHeld ?_
          try simp only [Act.put, List.setIfInBounds_toArray, List.set_cons_zero, List.set_cons_succ, List.getElem_toArray, List.getElem_cons_zero, List.getElem_cons_succ]
          refine wpAnyH_take (i := 11) (v := .int .i64 (a : Int)) rfl (by kernel_rfl) (by kernel_rfl) (by kernel_rfl) (fun _ _ _ h => h) (Or.inl ⟨by rfl, fun W hW => by go_simp⟩) hHeld ?_
          try simp only [Act.put, List.setIfInBounds_toArray, List.set_cons_zero, List.set_cons_succ, List.getElem_toArray, List.getElem_cons_zero, List.getElem_cons_succ]
          refine wpAnyH_take (i := 12) (v := .int .i64 (b : Int)) rfl (by kernel_rfl) (by kernel_rfl) (by kernel_rfl) (fun _ _ _ h => h) (Or.inl ⟨by rfl, fun W hW => by go_simp⟩) hHeld ?_
          try simp only [Act.put, List.setIfInBounds_toArray, List.set_cons_zero, List.set_cons_succ, List.getElem_toArray, List.getElem_cons_zero, List.getElem_cons_succ]
          refine wpAnyH_take (i := 13) (v := .int .u8 (y : Int)) rfl (by kernel_rfl) (by kernel_rfl) (by kernel_rfl) (fun _ _ _ h => h) (Or.inl ⟨by rfl, fun W hW => by go_simp⟩) hHeld ?_
          try simp only [Act.put, List.setIfInBounds_toArray, List.set_cons_zero, List.set_cons_succ, List.getElem_toArray, List.getElem_cons_zero, List.getElem_cons_succ]
          refine wpAnyH_take (i := 14) (v := .int .u8 (c : Int)) rfl (by kernel_rfl) (by kernel_rfl) (by kernel_rfl) (fun _ _ _ h => h) (Or.inl ⟨by rfl, fun W hW => by go_simp⟩) hHeld ?_
          try simp only [Act.put, List.setIfInBounds_toArray, List.set_cons_zero, List.set_cons_succ, List.getElem_toArray, List.getElem_cons_zero, List.getElem_cons_succ]
          refine wpAnyH_take (i := 15) (v := .int .u8 (l : Int)) rfl (by kernel_rfl) (by kernel_rfl) (by kernel_rfl) (fun _ _ _ h => h) (Or.inl ⟨by rfl, fun W hW => by go_simp⟩) hHeld ?_
          try simp only [Act.put, List.setIfInBounds_toArray, List.set_cons_zero, List.set_cons_succ, List.getElem_toArray, List.getElem_cons_zero, List.getElem_cons_succ]
          refine wpAnyH_take (i := 16) (v := .int .u8 (y : Int)) rfl (by kernel_rfl) (by kernel_rfl) (by kernel_rfl) (fun _ _ _ h => h) (Or.inl ⟨by rfl, fun W hW => by go_simp⟩) hHeld ?_
          try simp only [Act.put, List.setIfInBounds_toArray, List.set_cons_zero, List.set_cons_succ, List.getElem_toArray, List.getElem_cons_zero, List.getElem_cons_succ]
          refine wpAnyH_take (i := 17) (v := .bool false) rfl (by kernel_rfl) (by kernel_rfl) (by kernel_rfl) (fun _ _ _ h => h) (Or.inl ⟨by rfl, fun W hW => by go_simp⟩) hHeld ?_
          try simp only [Act.put, List.setIfInBounds_toArray, List.set_cons_zero, List.set_cons_succ, List.getElem_toArray, List.getElem_cons_zero, List.getElem_cons_succ]
          refine wpAnyH_take (i := 18) (v := .bool false) rfl (by kernel_rfl) (by kernel_rfl) (by kernel_rfl) (fun _ _ _ h => h) (Or.inl ⟨by rfl, fun W hW => by go_simp⟩) hHeld ?_
          try simp only [Act.put, List.setIfInBounds_toArray, List.set_cons_zero, List.set_cons_succ, List.getElem_toArray, List.getElem_cons_zero, List.getElem_cons_succ]
          refine wpAnyH_done (by kernel_rfl) ?_ _
          go_wp2
          go_roundg (32 - (i + 1))
          case measure => have := HII.out; have := HLI.out; omega
          case rel => exact ⟨i + 1, by have := HII.out; have := HLI.out; omega, by first | go_num | rfl, ⟨below_drewN HBr.out 1⟩⟩
        · have b0 : decide ((i : Int) < 32) = false := decide_eq_false (by omega)
          have b1 : decide (i < 32) = false := decide_eq_false hlt
          go_wp2
          go_ret
          exact ⟨rfl, HBr.out⟩
theorem walk (n : Int) (t : List Int) (w : World) (hn : (Lit.int .u8 n).wf = true) (ht : t.length = 32) (hbt : ∀ v ∈ t, (Lit.int .u8 v).wf = true) :
    Calls Try.prog 10 #[.int .u8 n, .agg (bytesA t)] w fun e w' => e = .returned (.bool true) ∧ Below w.heap.size w w' := by
  have h2 := Go.Proofs.Ytpijkibhjklkoaa.Mem.byte_of (l := [n]) (by intro v hv; simp at hv; rw [hv]; exact hn) n (by simp)
  obtain ⟨n, rfl⟩ := Int.eq_ofNat_of_zero_le h2.1
  exact near n (by omega) t ht (Go.Proofs.Ytpijkibhjklkoaa.Mem.byte_of hbt) w
end Go.Proofs.Ytpijkibhjklkoaa.ShaKinds
