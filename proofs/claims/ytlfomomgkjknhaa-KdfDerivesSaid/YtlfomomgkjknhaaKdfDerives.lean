/- KdfDerives: the law's walk. -/
import Derived.Test.YtlfomomgkjknhaaRefDerive
import Derived.Test.YtlfomomgkjknhaaKdfNumbers
namespace Go.Proofs.Ytlfomomgkjknhaa.KdfDerives
set_option linter.unusedVariables false
set_option linter.unusedSimpArgs false
open Go Go.RowKit Go.Proofs.Ytlfomomgkjknhaa.Mem Go.Proofs.Ytlfomomgkjknhaa.Put32 Go.Proofs.Ytlfomomgkjknhaa.Pad Go.Proofs.Ytlfomomgkjknhaa.Sum Go.Proofs.Ytlfomomgkjknhaa.Hmac Go.Proofs.Ytlfomomgkjknhaa.Parts Go.Proofs.Ytlfomomgkjknhaa.Put Go.Proofs.Ytlfomomgkjknhaa.Derive Go.Proofs.Ytlfomomgkjknhaa.RefDerive Go.Proofs.Ytlfomomgkjknhaa.RefSum Go.Proofs.Ytlfomomgkjknhaa.ShaSums

/-- the error, and the bytes -/
def deriveF (key : List Int) (nm : ByteArray) (n : Int) (ctx : List (List Int)) : Int × List Int :=
  if key.length = 0 then (20, []) else if n < 1 ∨ 128 < n then (2, []) else if 64 < nm.size ∨ 0 ≤ Lib.indexByte nm.data.toList 0 then (3, []) else (0, deriveB key (strB nm) ctx n.toNat)
def Gives (key : List Int) (nm : ByteArray) (n : Int) (ctx : List (List Int)) (w : World) (e : Ending) (w' : World) : Prop :=
  ∃ A' N c', e = .returned (.tuple #[.slice A' N c', .int .i64 (deriveF key nm n ctx).1]) ∧ Rd .u8 w' A' N c' (deriveF key nm n ctx).2 ∧ Below w.heap.size w w'
theorem rd_none (w : World) : Rd .u8 w none 0 0 [] := Rd.nil _ _ _ _ (by decide)
theorem derive_all (key : List Int) (ctx : List (List Int)) (A : Option Addr) (s c : Nat) (nm : ByteArray) (n : Int) (P : Option Addr) (np cp : Nat) (w : World)
    (hk : Byte key) (hs : s ≤ 1000) (h0 : Rd .u8 w A s c key) (hc : ∀ p ∈ ctx, Byte p ∧ p.length ≤ 1000) (hnp : np ≤ 100) (h1 : RdP w P np cp ctx) :
    Calls Try.prog 40 #[.slice A s c, .string nm, .int .i64 n, .slice P np cp] w (Gives key nm n ctx w) := by
  unfold Gives deriveF
  by_cases e0 : key.length = 0
  · rw [if_pos e0]
    obtain rfl : s = 0 := by rw [← h0.len]; exact e0
    exact (bad_key c 0 np cp A P nm n w).mono fun e w' ⟨h, hw⟩ => ⟨none, 0, 0, h, rd_none _, hw ▸ Below.refl _ _⟩
  · rw [if_neg e0]
    have hs1 : 1 ≤ s := by rw [← h0.len]; omega
    by_cases e1 : n < 1 ∨ 128 < n
    · rw [if_pos e1]
      exact (bad_n s c np cp A P nm n w hs1 e1).mono fun e w' ⟨h, hw⟩ => ⟨none, 0, 0, h, rd_none _, hw ▸ Below.refl _ _⟩
    · rw [if_neg e1]
      by_cases e2 : 64 < nm.size ∨ 0 ≤ Lib.indexByte nm.data.toList 0
      · rw [if_pos e2]
        refine (bad_name s c np cp A P nm n w hs1 (by omega) ?_).mono fun e w' ⟨h, hw⟩ => ⟨none, 0, 0, h, rd_none _, hw ▸ Below.refl _ _⟩
        by_cases h : 64 < nm.size
        · exact .inl h
        · exact .inr ⟨by omega, e2.resolve_left h⟩
      · rw [if_neg e2]
        obtain ⟨n, rfl⟩ := Int.eq_ofNat_of_zero_le (show 0 ≤ n by omega)
        have hz := Lib.indexByte_ge nm.data.toList 0
        refine (derive_ok key ctx A s c nm n P np cp w hk ⟨hs1, hs⟩ h0 (by omega) (by omega) (by omega) hc hnp h1).mono fun e w' ⟨A', c', h, hr, hb⟩ => ⟨A', n, c', h, hr, hb⟩
theorem r_derive_all (key : List Int) (ctx : List (List Int)) (A : Option Addr) (s c : Nat) (nm : ByteArray) (n : Int) (P : Option Addr) (np cp : Nat) (w : World)
    (hk : Byte key) (hs : s ≤ 1000) (h0 : Rd .u8 w A s c key) (hc : ∀ p ∈ ctx, Byte p ∧ p.length ≤ 1000) (hnp : np ≤ 100) (h1 : RdP w P np cp ctx) :
    Calls Try.prog 41 #[.slice A s c, .string nm, .int .i64 n, .slice P np cp] w (Gives key nm n ctx w) := by
  unfold Gives deriveF
  by_cases e0 : key.length = 0
  · rw [if_pos e0]
    obtain rfl : s = 0 := by rw [← h0.len]; exact e0
    exact (r_bad_key c np cp A P nm n w).mono fun e w' ⟨h, hw⟩ => ⟨none, 0, 0, h, rd_none _, hw ▸ Below.refl _ _⟩
  · rw [if_neg e0]
    have hs1 : 1 ≤ s := by rw [← h0.len]; omega
    by_cases e1 : n < 1 ∨ 128 < n
    · rw [if_pos e1]
      exact (r_bad_n s c np cp A P nm n w hs1 e1).mono fun e w' ⟨h, hw⟩ => ⟨none, 0, 0, h, rd_none _, hw ▸ Below.refl _ _⟩
    · rw [if_neg e1]
      by_cases e2 : 64 < nm.size ∨ 0 ≤ Lib.indexByte nm.data.toList 0
      · rw [if_pos e2]
        refine (r_bad_name s c np cp A P nm n w hs1 (by omega) ?_).mono fun e w' ⟨h, hb⟩ => ⟨none, 0, 0, h, rd_none _, hb⟩
        by_cases h : 64 < nm.size
        · exact .inl h
        · exact .inr ⟨by omega, e2.resolve_left h⟩
      · rw [if_neg e2]
        obtain ⟨n, rfl⟩ := Int.eq_ofNat_of_zero_le (show 0 ≤ n by omega)
        have hz := Lib.indexByte_ge nm.data.toList 0
        refine (r_derive_ok key ctx A s c nm n P np cp w hk ⟨hs1, hs⟩ h0 (by omega) (by omega) (by omega) hc hnp h1).mono fun e w' ⟨A', c', h, hr, hb⟩ => ⟨A', n, c', h, hr, hb⟩
theorem deriveF_le (key : List Int) (nm : ByteArray) (n : Int) (ctx : List (List Int)) : (deriveF key nm n ctx).2.length ≤ 128 := by
  unfold deriveF
  split
  · simp
  · split
    · simp
    · split
      · simp
      · simp only [deriveB, List.length_take, outB_len]
        omega
/-- of 64 bytes: two halves, or nothing -/
def Halves (key : List Int) (nm : ByteArray) (ctx : List (List Int)) (w : World) (e : Ending) (w' : World) : Prop :=
  ((deriveF key nm 64 ctx).1 = 0 ∧ ∃ A1 c1 A2 c2, e = .returned (.tuple #[.slice A1 32 c1, .slice A2 32 c2, .int .i64 0]) ∧ Rd .u8 w' A1 32 c1 ((deriveF key nm 64 ctx).2.take 32) ∧ Rd .u8 w' A2 32 c2 ((deriveF key nm 64 ctx).2.drop 32) ∧ Below w.heap.size w w') ∨
  ((deriveF key nm 64 ctx).1 ≠ 0 ∧ e = .returned (.tuple #[.slice none 0 0, .slice none 0 0, .int .i64 (deriveF key nm 64 ctx).1]) ∧ Below w.heap.size w w')
theorem deriveF_len (key : List Int) (nm : ByteArray) (ctx : List (List Int)) (h : (deriveF key nm 64 ctx).1 = 0) : (deriveF key nm 64 ctx).2.length = 64 := by
  unfold deriveF at h ⊢
  split at h
  · simp at h
  · split at h
    · simp at h
    · split at h
      · simp at h
      · rename_i h1 h2 h3
        rw [if_neg h1, if_neg h2, if_neg h3]
        simp only [deriveB, List.length_take, outB_len]
        decide
set_option maxHeartbeats 1000000 in
set_option maxRecDepth 100000 in
theorem pair_all (key : List Int) (ctx : List (List Int)) (A : Option Addr) (s c : Nat) (nm : ByteArray) (P : Option Addr) (np cp : Nat) (w : World)
    (hk : Byte key) (hs : s ≤ 1000) (h0 : Rd .u8 w A s c key) (hc : ∀ p ∈ ctx, Byte p ∧ p.length ≤ 1000) (hnp : np ≤ 100) (h1 : RdP w P np cp ctx) :
    Calls Try.prog 42 #[.slice A s c, .string nm, .slice P np cp] w (Halves key nm ctx w) := by
  have HC := As.mk (derive_all key ctx A s c nm 64 P np cp w hk hs h0 hc hnp h1)
  clear hk hs h0 hc hnp h1
  go_enter Try.func42, Try.ntmps42
  go_wp2_with (go_at_call 40; refine As.out ?_)
  refine As.mk ?_
  refine HC.out.mono ?_
  clear HC
  rintro e w1 ⟨A', N, c', rfl, hr, hb⟩
  have hl := deriveF_len key nm ctx
  obtain ⟨r, hr0⟩ : ∃ r, r = deriveF key nm 64 ctx := ⟨_, rfl⟩
  rw [← hr0] at hr hl ⊢
  obtain ⟨q, x⟩ := r
  have HE := As.mk hr0
  clear hr0
  simp only at hr hl
  by_cases hq : q = 0
  · subst hq
    have hx : x.length = 64 := hl rfl
    obtain rfl : N = 64 := by rw [← hr.len]; exact hx
    have HR1 := As.mk (Go.Proofs.Ytlfomomgkjknhaa.Stretch.rd_full hr 32 (by decide))
    have h2 := hr.cut 32 64 (by decide) (Nat.le_refl _)
    rw [show (x.drop 32).take (64 - 32) = x.drop 32 from List.take_of_length_le (by rw [List.length_drop, hx]; decide)] at h2
    have HR2 := As.mk h2
    have HB := As.mk hb
    have hcc := hr.le
    have s1 : ∀ W, (Instr.slice 38 (.slice A' 64 c') none (some (.int .i64 32)) (some (.int .i64 32))).run Try.prog W = .ok (.slice (cutA A' 32 0 1) 32 32) W := fun W => Go.Proofs.Ytlfomomgkjknhaa.Stretch.run_cut_full (P := Try.prog) W 38 5 Try.underlying38 CloneB.info A' 64 c' 32 .i64 .i64 (by omega)
    have s2 : ∀ W, (Instr.slice 38 (.slice A' 64 c') (some (.int .i64 32)) none none).run Try.prog W = .ok (.slice (cutA A' c' 32 1) 32 (c' - 32)) W := fun W => run_cut_from (P := Try.prog) W 38 5 Try.underlying38 CloneB.info A' 64 c' 32 .i64 (by decide)
    clear hr hb h2 hl hx hcc
    go_wp2
    go_quiet (fail)
    go_wp2
    go_ret3
    unfold Halves
    rw [← HE.out]
    exact .inl ⟨rfl, _, _, _, _, rfl, HR1.out.drewN _, HR2.out.drewN _, below_drewN HB.out _⟩
  · have q0 : (q == 0) = false := beq_eq_false_iff_ne.2 hq
    have q1 : (q != 0) = true := bne_iff_ne.2 hq
    have HQ := As.mk hq
    have HB := As.mk hb
    clear hr hb hl hq
    go_wp2
    go_ret3
    unfold Halves
    rw [← HE.out]
    exact .inr ⟨HQ.out, rfl, HB.out⟩
theorem ret_bool {a b : Bool} (h : a = b) : Ending.returned (.bool a) = .returned (.bool b) := by rw [h]
def Few (ctx : List (List Int)) (s z np : Nat) : Prop := (∀ p ∈ ctx, p.length ≤ 100) ∧ s ≤ 100 ∧ z ≤ 100 ∧ np ≤ 8
set_option maxHeartbeats 1000000 in
set_option maxRecDepth 100000 in
theorem few_any (A : Option Addr) (s c : Nat) (nm : ByteArray) (n : Int) (P : Option Addr) (np cp : Nat) (ctx : List (List Int)) (w : World) (hnp : np ≤ 9223372036854775807) (h1 : RdP w P np cp ctx) (q : Bool) (hq : q = true ↔ Few ctx s nm.size np) :
    Calls Try.prog 39 #[.agg #[.slice A s c, .string nm, .int .i64 n, .slice P np cp]] w fun e w' => e = .returned (.bool q) ∧ Below w.heap.size w w' := by
  have HQ := As.mk hq
  have HB := As.mk (below_alloc (Below.refl w.heap.size w) (.cells #[.slice A s c, .string nm, .int .i64 n, .slice P np cp] 68))
  have HG := As.mk (heap_alloc_new w (.cells #[.slice A s c, .string nm, .int .i64 n, .slice P np cp] 68))
  have H1 := As.mk (h1.below HB.out)
  clear hq h1
  go_enter Try.func39, Try.ntmps39
  go_wp2
  generalize w.alloc _ = w0 at *
  have cf : ∀ j v, (#[.slice A s c, .string nm, .int .i64 n, .slice P np cp] : Array Value)[j]? = some v → w0.cell? ⟨w.heap.size, j, none⟩ = some v := fun j v h => by rw [cell_of_row w0 _ j _ _ _ HG.out]; exact h
  have g0 := cf 0 _ rfl
  have g1 := cf 1 _ rfl
  have g3 := cf 3 _ rfl
  clear cf
  go_loopg [8] np (fun kq v8 wr => ∃ i : Nat, i + kq = np ∧ v8 = .int .i64 i ∧ wr = w0 ∧ As (∀ j, j < i → (nthP ctx j).length ≤ 100))
  case atStart => exact ⟨0, by omega, rfl, rfl, ⟨fun j hj => by omega⟩⟩
  case round =>
    obtain ⟨i, hi, rfl, rfl, HP⟩ := hrel
    have HI := As.mk hi
    clear hi
    by_cases hlt : i < np
    · have z0 : decide ((i : Int) < (np : Int)) = true := decide_eq_true (by omega)
      have hw : wrap64 ((i : Int) + 1) = ((i + 1 : Nat) : Int) := by unfold wrap64; omega
      obtain ⟨ad, Aj, cj, rfl, hcell, hrd⟩ := ctx_at H1.out i hlt
      obtain ⟨l, hl⟩ : ∃ l : Nat, l = (nthP ctx i).length := ⟨_, rfl⟩
      rw [← hl] at hcell hrd
      have HL := As.mk hl
      have HLT := As.mk hlt
      by_cases hbig : 100 < l
      · have d0 : decide (100 < (l : Int)) = true := decide_eq_true (by omega)
        have d1 : decide (100 < l) = true := decide_eq_true hbig
        have hf : q = false := by
          cases q
          · rfl
          · have h2 := (HQ.out.1 rfl).1 _ (nthP_mem (show i < ctx.length by rw [H1.out.len]; exact hlt))
            rw [← HL.out] at h2; omega
        subst hf
        clear hl hbig hrd
        go_wp2
        go_ret
        exact ⟨rfl, HB.out⟩
      · have d0 : decide (100 < (l : Int)) = false := decide_eq_false (by omega)
        have d1 : decide (100 < l) = false := decide_eq_false hbig
        have HLL := As.mk (show l ≤ 100 by omega)
        clear hl hbig hrd
        go_wp2
        go_roundg (np - (i + 1))
        case measure => have := HI.out; have := HLT.out; omega
        case rel => exact ⟨i + 1, by have := HI.out; have := HLT.out; omega, by go_num, rfl, ⟨fun j hj => by
          rcases (show j < i ∨ j = i by omega) with h | h
          · exact HP.out j h
          · rw [h, ← HL.out]; exact HLL.out⟩⟩
    · have z0 : decide ((i : Int) < (np : Int)) = false := decide_eq_false (by omega)
      have z1 : decide (i < np) = false := decide_eq_false hlt
      obtain rfl : i = np := by have := HI.out; omega
      have hall : ∀ p ∈ ctx, p.length ≤ 100 := fun p hp => by
        obtain ⟨j, hj, rfl⟩ := List.mem_iff_getElem.1 hp
        have h2 := HP.out j (by rw [← H1.out.len]; exact hj)
        unfold nthP at h2
        rw [List.getD_eq_getElem?_getD, List.getElem?_eq_getElem hj] at h2
        exact h2
      have HQQ : As (q = true ↔ s ≤ 100 ∧ nm.size ≤ 100 ∧ i ≤ 8) := ⟨⟨fun h => (HQ.out.1 h).2, fun h => HQ.out.2 ⟨hall, h⟩⟩⟩
      have hcases : (100 < s ∧ As (q = false)) ∨ (s ≤ 100 ∧ 100 < nm.size ∧ As (q = false)) ∨ (s ≤ 100 ∧ nm.size ≤ 100 ∧ 8 < i ∧ As (q = false)) ∨ (s ≤ 100 ∧ nm.size ≤ 100 ∧ i ≤ 8 ∧ As (q = true)) := by
        by_cases h : s ≤ 100 ∧ nm.size ≤ 100 ∧ i ≤ 8
        · exact .inr (.inr (.inr ⟨h.1, h.2.1, h.2.2, ⟨HQQ.out.2 h⟩⟩))
        · have hf : q = false := by
            cases q
            · rfl
            · exact absurd (HQQ.out.1 rfl) h
          by_cases h1 : s ≤ 100
          · by_cases h2 : nm.size ≤ 100
            · exact .inr (.inr (.inl ⟨h1, h2, by omega, ⟨hf⟩⟩))
            · exact .inr (.inl ⟨h1, by omega, ⟨hf⟩⟩)
          · exact .inl ⟨by omega, ⟨hf⟩⟩
      clear hlt hall HQ HQQ
      rcases hcases with ⟨h1, HF⟩ | ⟨h1, h2, HF⟩ | ⟨h1, h2, h3, HF⟩ | ⟨h1, h2, h3, HF⟩
      all_goals
        have hf := HF.out
        subst hf
        go_wp2
        go_ret
        first | exact ⟨rfl, HB.out⟩ | exact ⟨ret_bool (decide_eq_false (by omega)), HB.out⟩ | exact ⟨ret_bool (decide_eq_true (by omega)), HB.out⟩
set_option maxHeartbeats 1000000 in
set_option maxRecDepth 100000 in
theorem far (A : Option Addr) (s c : Nat) (nm : ByteArray) (n : Int) (P : Option Addr) (np cp : Nat) (ctx : List (List Int)) (w : World) (hnp : np ≤ 9223372036854775807) (h1 : RdP w P np cp ctx) (hno : ¬ Few ctx s nm.size np) :
    Calls Try.prog 9 #[.agg #[.slice A s c, .string nm, .int .i64 n, .slice P np cp]] w fun e w' => e = .returned (.bool true) ∧ Below w.heap.size w w' := by
  have HNO := As.mk hno
  have HNP := As.mk hnp
  have HB := As.mk (below_alloc (Below.refl w.heap.size w) (.cells #[.slice A s c, .string nm, .int .i64 n, .slice P np cp] 68))
  have HG := As.mk (heap_alloc_new w (.cells #[.slice A s c, .string nm, .int .i64 n, .slice P np cp] 68))
  have HS := As.mk (show w.heap.size < (w.alloc (.cells #[.slice A s c, .string nm, .int .i64 n, .slice P np cp] 68)).heap.size by simp)
  have H1 := As.mk (h1.below HB.out)
  clear hno h1 hnp
  go_enter Try.func9, Try.ntmps9
  go_wp2_with (go_at_call 36; refine As.out ?_)
  refine As.mk ?_
  generalize w.alloc _ = w0 at *
  refine (KdfNumbers.awake_true w0).mono ?_
  rintro e w1 ⟨rfl, hb⟩
  have cf : ∀ j v, (#[.slice A s c, .string nm, .int .i64 n, .slice P np cp] : Array Value)[j]? = some v → w1.cell? ⟨w.heap.size, j, none⟩ = some v := fun j v h => by rw [cell_of_row w1 _ j _ _ _ ((hb.block _ HS.out).trans HG.out)]; exact h
  have g0 := cf 0 _ rfl
  have g1 := cf 1 _ rfl
  have g2 := cf 2 _ rfl
  have g3 := cf 3 _ rfl
  have HB1 := As.mk (below_step HB.out hb)
  have H11 := As.mk (H1.out.below hb)
  clear cf hb
  go_wp2_with (go_at_call 39; (refine (few_any A s c nm n P np cp ctx _ HNP.out H11.out false ⟨fun h => by simp at h, fun h => absurd h HNO.out⟩).mono ?_); rintro e w2 ⟨rfl, hb⟩; have HB2 := As.mk (below_step HB1.out hb); clear hb)
  go_ret
  exact ⟨rfl, HB2.out⟩
theorem halves_cut {w : World} {A : Option Addr} {n c : Nat} {x : List Int} (h : Rd .u8 w A n c x) (hx : x.length = 64) :
    64 ≤ c ∧ n = 64 ∧ As (Rd .u8 w (cutA A c 0 1) 32 c (x.take 32)) ∧ As (Rd .u8 w (cutA A c 32 1) 32 (c - 32) (x.drop 32)) ∧
    (∀ W, (Instr.slice 38 (.slice A n c) none (some (.int .i64 32)) none).run Try.prog W = .ok (.slice (cutA A c 0 1) 32 c) W) ∧
    (∀ W, (Instr.slice 38 (.slice A n c) (some (.int .i64 32)) none none).run Try.prog W = .ok (.slice (cutA A c 32 1) 32 (c - 32)) W) := by
  obtain rfl : n = 64 := by rw [← h.len]; exact hx
  have hc := h.le
  have h2 := h.cut 32 64 (by decide) (Nat.le_refl _)
  rw [show (x.drop 32).take (64 - 32) = x.drop 32 from List.take_of_length_le (by rw [List.length_drop, hx]; decide)] at h2
  exact ⟨hc, rfl, ⟨h.to 32 (by decide)⟩, ⟨h2⟩, fun W => run_cut_to (P := Try.prog) W 38 5 Try.underlying38 CloneB.info A 64 c 32 .i64 (by omega), fun W => run_cut_from (P := Try.prog) W 38 5 Try.underlying38 CloneB.info A 64 c 32 .i64 (by decide)⟩
theorem cells4 {W : World} {b : Nat} {T : TypeId} {v0 v1 v2 v3 : Value} (h : W.heap[b]? = some (.cells #[v0, v1, v2, v3] T (0, 0))) :
    W.cell? ⟨b, 0, none⟩ = some v0 ∧ W.cell? ⟨b, 1, none⟩ = some v1 ∧ W.cell? ⟨b, 2, none⟩ = some v2 ∧ W.cell? ⟨b, 3, none⟩ = some v3 := by
  have cf := fun j => cell_of_row W b j _ _ _ h
  exact ⟨by rw [cf]; rfl, by rw [cf]; rfl, by rw [cf]; rfl, by rw [cf]; rfl⟩
set_option maxHeartbeats 4000000 in
set_option maxRecDepth 100000 in
theorem near (key : List Int) (A : Option Addr) (s c : Nat) (nm : ByteArray) (n : Int) (P : Option Addr) (np cp : Nat) (ctx : List (List Int)) (w : World) (hk : Byte key) (h0 : Rd .u8 w A s c key) (hc : ∀ p ∈ ctx, Byte p) (h1 : RdP w P np cp ctx) (hyes : Few ctx s nm.size np) :
    Calls Try.prog 9 #[.agg #[.slice A s c, .string nm, .int .i64 n, .slice P np cp]] w fun e w' => e = .returned (.bool true) ∧ Below w.heap.size w w' := by
  have HK := As.mk hk
  have HF := As.mk hyes
  have HCC : As (∀ p ∈ ctx, Byte p ∧ p.length ≤ 1000) := ⟨fun p hp => ⟨hc p hp, by have := hyes.1 p hp; omega⟩⟩
  have HNP := As.mk (show np ≤ 100 by have := hyes.2.2.2; omega)
  have HSS := As.mk (show s ≤ 1000 by have := hyes.2.1; omega)
  have HB := As.mk (below_alloc (Below.refl w.heap.size w) (.cells #[.slice A s c, .string nm, .int .i64 n, .slice P np cp] 68))
  have HG := As.mk (heap_alloc_new w (.cells #[.slice A s c, .string nm, .int .i64 n, .slice P np cp] 68))
  have HS := As.mk (show w.heap.size < (w.alloc (.cells #[.slice A s c, .string nm, .int .i64 n, .slice P np cp] 68)).heap.size by simp)
  have H0 := As.mk (h0.below HB.out)
  have H1 := As.mk (h1.below HB.out)
  clear hk hyes hc h0 h1
  obtain ⟨r, hr⟩ : ∃ r, r = deriveF key nm n ctx := ⟨_, rfl⟩
  obtain ⟨r', hr'⟩ : ∃ r, r = deriveF key nm 64 ctx := ⟨_, rfl⟩
  obtain ⟨q, x⟩ := r
  obtain ⟨q', x'⟩ := r'
  have HL' : As (q' = 0 → x'.length = 64) := ⟨fun h => by
    have := deriveF_len key nm ctx
    rw [← hr'] at this
    exact this h⟩
  have HD : As (∀ W, Below (w.alloc (.cells #[.slice A s c, .string nm, .int .i64 n, .slice P np cp] 68)).heap.size (w.alloc (.cells #[.slice A s c, .string nm, .int .i64 n, .slice P np cp] 68)) W →
      Calls Try.prog 40 #[.slice A s c, .string nm, .int .i64 n, .slice P np cp] W fun e w' => ∃ A' N c', e = .returned (.tuple #[.slice A' N c', .int .i64 q]) ∧ Rd .u8 w' A' N c' x ∧ Below W.heap.size W w') :=
    ⟨fun W hW => by
      have h := derive_all key ctx A s c nm n P np cp W HK.out HSS.out (H0.out.below hW) HCC.out HNP.out (H1.out.below hW)
      unfold Gives at h
      rw [← hr] at h
      exact h⟩
  have HR : As (∀ W, Below (w.alloc (.cells #[.slice A s c, .string nm, .int .i64 n, .slice P np cp] 68)).heap.size (w.alloc (.cells #[.slice A s c, .string nm, .int .i64 n, .slice P np cp] 68)) W →
      Calls Try.prog 41 #[.slice A s c, .string nm, .int .i64 n, .slice P np cp] W fun e w' => ∃ A' N c', e = .returned (.tuple #[.slice A' N c', .int .i64 q]) ∧ Rd .u8 w' A' N c' x ∧ Below W.heap.size W w') :=
    ⟨fun W hW => by
      have h := r_derive_all key ctx A s c nm n P np cp W HK.out HSS.out (H0.out.below hW) HCC.out HNP.out (H1.out.below hW)
      unfold Gives at h
      rw [← hr] at h
      exact h⟩
  have HR64 : As (∀ W, Below (w.alloc (.cells #[.slice A s c, .string nm, .int .i64 n, .slice P np cp] 68)).heap.size (w.alloc (.cells #[.slice A s c, .string nm, .int .i64 n, .slice P np cp] 68)) W →
      Calls Try.prog 41 #[.slice A s c, .string nm, .int .i64 64, .slice P np cp] W fun e w' => ∃ A' N c', e = .returned (.tuple #[.slice A' N c', .int .i64 q']) ∧ Rd .u8 w' A' N c' x' ∧ Below W.heap.size W w') :=
    ⟨fun W hW => by
      have h := r_derive_all key ctx A s c nm 64 P np cp W HK.out HSS.out (H0.out.below hW) HCC.out HNP.out (H1.out.below hW)
      unfold Gives at h
      rw [← hr'] at h
      exact h⟩
  have HP : As (∀ W, Below (w.alloc (.cells #[.slice A s c, .string nm, .int .i64 n, .slice P np cp] 68)).heap.size (w.alloc (.cells #[.slice A s c, .string nm, .int .i64 n, .slice P np cp] 68)) W →
      Calls Try.prog 42 #[.slice A s c, .string nm, .slice P np cp] W fun e w' => (q' = 0 ∧ ∃ A1 c1 A2 c2, e = .returned (.tuple #[.slice A1 32 c1, .slice A2 32 c2, .int .i64 0]) ∧ Rd .u8 w' A1 32 c1 (x'.take 32) ∧ Rd .u8 w' A2 32 c2 (x'.drop 32) ∧ Below W.heap.size W w') ∨
        (q' ≠ 0 ∧ e = .returned (.tuple #[.slice none 0 0, .slice none 0 0, .int .i64 q']) ∧ Below W.heap.size W w')) :=
    ⟨fun W hW => by
      have h := pair_all key ctx A s c nm P np cp W HK.out HSS.out (H0.out.below hW) HCC.out HNP.out (H1.out.below hW)
      unfold Halves at h
      rw [← hr'] at h
      exact h⟩
  have qq : (q != q) = false := bne_eq_false_iff_eq.2 rfl
  have qq' : (q' != q') = false := bne_eq_false_iff_eq.2 rfl
  have HXN := As.mk (show (deriveF key nm n ctx).2.length ≤ 128 from deriveF_le key nm n ctx)
  rw [← hr] at HXN
  clear hr hr'
  go_enter Try.func9, Try.ntmps9
  go_wp2_with (go_at_call 36; refine As.out ?_)
  refine As.mk ?_
  generalize w.alloc _ = w0 at *
  refine (KdfNumbers.awake_true w0).mono ?_
  rintro e w1 ⟨rfl, hb⟩
  have HB1 := As.mk hb
  have H11 := As.mk (H1.out.below hb)
  obtain ⟨g0, g1, g2, g3⟩ := cells4 ((hb.block _ HS.out).trans HG.out)
  clear hb
  go_wp2_with (first
    | (go_at_call 39; (refine (few_any A s c nm n P np cp ctx _ (by have := HNP.out; omega) H11.out true ⟨fun _ => HF.out, fun _ => rfl⟩).mono ?_); rintro e w2 ⟨rfl, hb⟩; have HB2 := As.mk (below_step HB1.out hb); obtain ⟨g0, g1, g2, g3⟩ := cells4 ((HB2.out.block _ HS.out).trans HG.out); clear hb)
    | (go_at_call 40; (refine (HD.out _ HB2.out).mono ?_); rintro e w3 ⟨A1, n1, c1, rfl, hr, hb⟩; have HB3 := As.mk (below_step HB2.out hb); have HR3 := As.mk hr; obtain ⟨g0, g1, g2, g3⟩ := cells4 ((HB3.out.block _ HS.out).trans HG.out); clear hb hr)
    | (go_at_call 41; (with_reducible refine (HR.out _ HB3.out).mono ?_); rintro e w4 ⟨A2, n2, c2, rfl, hr, hb⟩; have HB4 := As.mk (below_step HB3.out hb); have HR4 := As.mk hr; have HR34 := As.mk (HR3.out.below hb); obtain ⟨g0, g1, g2, g3⟩ := cells4 ((HB4.out.block _ HS.out).trans HG.out); clear hb hr)
    | (go_at_call 42; refine As.out ?_))
  refine As.mk ?_
  refine (HP.out _ HB4.out).mono ?_
  rintro e w5 h
  rcases h with ⟨hq, A5, c5, A6, c6, rfl, hr5, hr6, hb⟩ | ⟨hq, rfl, hb⟩
  all_goals
    have HB5 := As.mk (below_step HB4.out hb)
    have HR35 := As.mk (HR34.out.below hb)
    have HR45 := As.mk (HR4.out.below hb)
    obtain ⟨g0, g1, g2, g3⟩ := cells4 ((HB5.out.block _ HS.out).trans HG.out)
    clear hb
  · subst hq
    have HR5 := As.mk hr5
    have HR6 := As.mk hr6
    have HXL := As.mk (HL'.out rfl)
    clear hr5 hr6 HL'
    go_wp2_with (first
      | (go_at_call 41; (refine (HR64.out _ HB5.out).mono ?_); rintro e w6 ⟨A7, n7, c7, rfl, hr, hb⟩; obtain ⟨hcc, hn7, HA7, HA8, s1, s2⟩ := halves_cut hr HXL.out; subst hn7; have HB6 := As.mk (below_step HB5.out hb); have HR36 := As.mk (HR35.out.below hb); have HR46 := As.mk (HR45.out.below hb); have HR56 := As.mk (HR5.out.below hb); have HR66 := As.mk (HR6.out.below hb); obtain ⟨g0, g1, g2, g3⟩ := cells4 ((HB6.out.block _ HS.out).trans HG.out); clear hb hr)
      | (go_at_call 33; (with_reducible refine (RefSame.same_any x x _ _ _ _ _ _ _ true ?c2 (by simp) HR36.out HR46.out).mono ?_); (case c2 => have := HR36.out.len; have := HXN.out; omega); rintro e w7 ⟨rfl, nd, rfl⟩; obtain ⟨g0, g1, g2, g3⟩ := cells4 (((below_drewN HB6.out nd).block _ HS.out).trans HG.out))
      | (go_at_call 33; (with_reducible refine (RefSame.same_any (x'.take 32) (x'.take 32) _ _ 32 32 _ _ _ true (by decide) (by simp) (HR56.out.drewN _) (HA7.out.drewN _)).mono ?_); rintro e w8 ⟨rfl, nd2, rfl⟩)
      | (go_at_call 33; (refine (RefSame.same_any (x'.drop 32) (x'.drop 32) _ _ 32 32 _ _ _ true (by decide) (by simp) (HR66.out.drewN _) (HA8.out.drewN _)).mono ?_); rintro e w9 ⟨rfl, nd3, rfl⟩))
    go_ret
    exact ⟨rfl, by repeat (first | exact below_step HB.out HB6.out | apply below_drewN)⟩
  · have q1 : (q' != 0) = true := bne_iff_ne.2 hq
    clear hq
    go_wp2_with (first
      | (go_at_call 41; (refine (HR64.out _ HB5.out).mono ?_); rintro e w6 ⟨A7, n7, c7, rfl, hr, hb⟩; have HB6 := As.mk (below_step HB5.out hb); have HR36 := As.mk (HR35.out.below hb); have HR46 := As.mk (HR45.out.below hb); obtain ⟨g0, g1, g2, g3⟩ := cells4 ((HB6.out.block _ HS.out).trans HG.out); clear hb hr)
      | (go_at_call 33; (with_reducible refine (RefSame.same_any x x _ _ _ _ _ _ _ true ?c1 (by simp) HR36.out HR46.out).mono ?_); (case c1 => have := HR36.out.len; have := HXN.out; omega); rintro e w7 ⟨rfl, nd, rfl⟩; obtain ⟨g0, g1, g2, g3⟩ := cells4 (((below_drewN HB6.out nd).block _ HS.out).trans HG.out)))
    go_ret
    exact ⟨rfl, below_drewN (below_step HB.out HB6.out) _⟩
theorem walk (A : Option Addr) (s c : Nat) (key : List Int) (nm : ByteArray) (n : Int) (P : Option Addr) (np cp : Nat) (ctx : List (List Int)) (w : World) (h0 : Rd .u8 w A s c key) (hk : ∀ i ∈ key, (Lit.int .u8 i).wf = true) (h1 : RdP w P np cp ctx) (hc : ∀ q ∈ ctx, ∀ i ∈ q, (Lit.int .u8 i).wf = true) :
    Calls Try.prog 9 #[.agg #[.slice A s c, .string nm, .int .i64 n, .slice P np cp]] w fun e w' => e = .returned (.bool true) ∧ Below w.heap.size w w' := by
  by_cases hf : Few ctx s nm.size np
  · exact near key A s c nm n P np cp ctx w (Go.Proofs.Ytlfomomgkjknhaa.Mem.byte_of hk) h0 (fun p hp => Go.Proofs.Ytlfomomgkjknhaa.Mem.byte_of (hc p hp)) h1 hf
  · exact far A s c nm n P np cp ctx w (by have := h1.le; have := h1.cap; unfold maxLen at *; omega) h1 hf
end Go.Proofs.Ytlfomomgkjknhaa.KdfDerives
