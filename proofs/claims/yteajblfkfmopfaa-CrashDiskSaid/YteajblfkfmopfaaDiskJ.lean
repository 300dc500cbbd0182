/- A disk: a sector is read. A disk is made. A disk: what is written, or why not; sectors that were read, in a row. -/
import Derived.WalkMore
import Derived.Test.YteajblfkfmopfaaDiskX
import Derived.Laws.OwnMore
namespace Go.Proofs.Yteajblfkfmopfaa.Disk
set_option linter.unusedVariables false
set_option linter.unusedSimpArgs false
open Go Go.RowKit Go.Proofs.Yteajblfkfmopfaa.Mem Go.Proofs.Yteajblfkfmopfaa.Put32 Go.Proofs.Yteajblfkfmopfaa.Sum Go.Proofs.Yteajblfkfmopfaa.Hmac Go.Proofs.Yteajblfkfmopfaa.Parts Go.Proofs.Yteajblfkfmopfaa.Entries Go.Proofs.Yteajblfkfmopfaa.CrashApply Go.Proofs.Yteajblfkfmopfaa.LawCrash

theorem doneF_app (keep : Nat → Bool) : ∀ (a b : List (Int × List Int)) (i : Nat) (ps : List (List Int)), doneF keep i ps (a ++ b) = doneF keep (i + a.length) (doneF keep i ps a) b
  | [], b, i, ps => rfl
  | e :: r, b, i, ps => by
    rw [List.cons_append, doneF, doneF_app keep r b (i + 1), doneF, List.length_cons, show i + 1 + r.length = i + (r.length + 1) by omega]
theorem doneF_other (keep : Nat → Bool) (j : Nat) : ∀ (es : List (Int × List Int)) (i : Nat) (ps : List (List Int)), (∀ e ∈ es, 0 ≤ e.1 ∧ e.1 ≠ (j : Int)) → nthP (doneF keep i ps es) j = nthP ps j
  | [], _, _, _ => rfl
  | e :: r, i, ps, h => by
    rw [doneF, doneF_other keep j r (i + 1) _ fun x hx => h x (List.mem_cons_of_mem _ hx)]
    obtain ⟨h0, h1⟩ := h e (List.mem_cons_self ..)
    split
    · by_cases hl : e.1.toNat < ps.length
      · rw [nthP_set _ _ _ _ hl, if_neg (by omega)]
      · rw [List.set_eq_of_length_le (by omega)]
    · rfl
/-- what a sector reads as -/
def rdS (S : DS) (s : Nat) : List Int := nthP (doneF allOn 0 S.kept S.waits) s
theorem drop_mem {es : List (Int × List Int)} {k : Nat} {e : Int × List Int} (h : e ∈ es.drop k) : ∃ t, k ≤ t ∧ t < es.length ∧ nthE es t = e := by
  obtain ⟨i, hi, rfl⟩ := List.mem_iff_getElem.1 h
  rw [List.length_drop] at hi
  refine ⟨k + i, by omega, by omega, ?_⟩
  rw [List.getElem_drop, nthE, List.getD_eq_getElem?_getD, List.getElem?_eq_getElem (by omega)]
  rfl
theorem rd_hit (S : DS) (s t : Nat) (hl : s < S.kept.length) (h0 : ∀ j, j < S.waits.length → 0 ≤ (nthE S.waits j).1) (ht : t < S.waits.length) (hs : (nthE S.waits t).1 = (s : Int)) (hn : ∀ j, t + 1 ≤ j → j < S.waits.length → (nthE S.waits j).1 ≠ (s : Int)) : rdS S s = (nthE S.waits t).2 := by
  have e : doneF allOn 0 S.kept S.waits = doneF allOn 0 S.kept (S.waits.take (t + 1) ++ S.waits.drop (t + 1)) := by rw [List.take_append_drop]
  unfold rdS
  rw [e, doneF_app, doneF_other]
  · rw [takeE S.waits t ht, doneF_snoc, if_pos (show allOn _ = true from rfl), hs, nthP_set _ _ _ _ (by rw [doneF_len]; simpa using hl), if_pos (by simp)]
  · intro e he
    obtain ⟨j, h1, h2, rfl⟩ := drop_mem he
    exact ⟨h0 j h2, hn j h1 h2⟩
theorem rd_miss (S : DS) (s : Nat) (h0 : ∀ j, j < S.waits.length → 0 ≤ (nthE S.waits j).1) (hn : ∀ j, j < S.waits.length → (nthE S.waits j).1 ≠ (s : Int)) : rdS S s = nthP S.kept s := by
  unfold rdS
  rw [doneF_other]
  intro e he
  obtain ⟨j, h2, rfl⟩ := mem_nthE he
  exact ⟨h0 j h2, hn j h2⟩
set_option maxHeartbeats 1000000 in
set_option maxRecDepth 100000 in
theorem read_bad (w : World) (M : Nat → Prop) (P : Nat) (S : DS) (h : DAt w M P S) (s : Int) (r : Int) (hr : mayD S s = r) (hne : ¬ r = 0) :
    Calls Try.prog 58 #[.pointer (some ⟨P, 0, none⟩), .int .i64 s] w fun e w' => e = .returned (.tuple #[.slice none 0 0, .int .i64 r]) ∧ w = w' := by
  have HD := As.mk h
  have HR := As.mk hr
  have d0 : decide (r = 0) = false := decide_eq_false hne
  have d1 : (r == 0) = false := beq_eq_false_iff_ne.2 hne
  have d2 : (r != 0) = true := by rw [bne, d1]; rfl
  clear h hr hne
  go_enter Try.func58, Try.ntmps58
  go_wp2
  go_step3
  go_wp2_with (go_at_call 126; (with_reducible refine (dmay_ok w M P S s HD.out).mono ?_); rintro e w1 ⟨rfl, rfl⟩; rw [HR.out])
  rw [Exit.noGoto_ret]
  go_ret2
  exact ⟨rfl, rfl⟩
set_option maxHeartbeats 1000000 in
set_option maxRecDepth 100000 in
theorem read_nil (w : World) (s : Int) :
    Calls Try.prog 58 #[.pointer none, .int .i64 s] w fun e w' => e = .returned (.tuple #[.slice none 0 0, .int .i64 1]) ∧ w = w' := by
  go_enter Try.func58, Try.ntmps58
  go_wp2
  go_step3
  go_wp2_with (go_at_call 126; (with_reducible refine (dmay_nil w s).mono ?_); rintro e w1 ⟨rfl, rfl⟩)
  rw [Exit.noGoto_ret]
  go_ret2
  exact ⟨rfl, rfl⟩
set_option maxHeartbeats 2000000 in
set_option maxRecDepth 100000 in
theorem read_ok (w : World) (M : Nat → Prop) (P : Nat) (S : DS) (h : DAt w M P S) (s : Nat) (hr : mayD S (s : Int) = 0) :
    Calls Try.prog 58 #[.pointer (some ⟨P, 0, none⟩), .int .i64 (s : Int)] w fun e w' => ∃ A' c', e = .returned (.tuple #[.slice A' S.size c', .int .i64 0]) ∧ OwnAt w' w.heap.size (.slice A' S.size c') S.size ((rdS S s).map (Value.int .u8)) ∧ Below w.heap.size w w' := by
  have HD := As.mk h
  have HR := As.mk hr
  have hsn : s < S.n := by
    unfold mayD at hr
    split at hr
    · omega
    · split at hr
      · omega
      · split at hr <;> omega
  obtain ⟨Ak, ck, Aw, cw, Ab, cb, LK, LW, D⟩ := h
  have DD := As.mk D
  have HSZ := As.mk (show S.size ≤ 140737488351232 by have := D.sz; omega)
  have HMX := As.mk (own_caps2 D.wo).2
  have h0 := D.c0
  have h2 := D.c2
  have HSN := As.mk hsn
  have HRH := As.mk (fun t ht hs hn => rd_hit S s t (by rw [D.kl]; exact hsn) (fun j hj => (D.ws j hj).1) ht hs hn)
  have HRM := As.mk (rd_miss S s fun j hj => (D.ws j hj).1)
  obtain ⟨m, hm⟩ : ∃ m, m = S.waits.length := ⟨_, rfl⟩
  rw [← hm] at h2 HMX HRH HRM
  have HM := As.mk hm
  have hwm := HMX.out
  unfold maxLen at hwm
  have HW0 := As.mk (show wrap64 ((m : Int) - 1) = (m : Int) - 1 by unfold wrap64; omega)
  clear D hr hsn hm hwm
  have hw0 := HW0.out
  go_enter Try.func58, Try.ntmps58
  go_wp2
  go_step3
  go_wp2_with (go_at_call 126; (with_reducible refine (dmay_ok w M P S s HD.out).mono ?_); rintro e w1 ⟨rfl, rfl⟩; rw [HR.out])
  go_step3
  go_wp2
  clear hw0
  go_loopg [7] m (fun kq v7 wr => ∃ j : Nat, j = kq ∧ j ≤ m ∧ v7 = .int .i64 ((j : Int) - 1) ∧ As (∀ t, j ≤ t → t < m → (nthE S.waits t).1 ≠ (s : Int)) ∧ wr = w)
  case atStart => exact ⟨m, rfl, Nat.le_refl _, by rw [HW0.out], ⟨fun t h1 h2 => by omega⟩, rfl⟩
  case round =>
    obtain ⟨j, rfl, hj, rfl, HN, rfl⟩ := hrel
    have HJ := As.mk hj
    clear hj
    rcases j with _ | t
    · have hz : ((0 : Nat) : Int) - 1 = -1 := rfl
      rw [hz]
      have HV := As.mk (HRM.out fun t ht => HN.out t (Nat.zero_le _) ht)
      obtain ⟨A, c, e1, hst⟩ := DD.out.ke s HSN.out
      obtain ⟨ad, ea, hc⟩ := DD.out.ko.cell s _ e1
      subst ea
      have HST := As.mk hst
      have lt' : (s : Int) < (S.n : Int) := by have := HSN.out; omega
      clear hz e1 hst
      go_wp2_with (go_at_call 128; (with_reducible refine (CloneB.any _ A S.size c _ HSZ.out HST.out.rd).mono ?_); rintro e w2 ⟨A2, c2, rfl, ho, hb⟩; have HO := As.mk (OwnAt.of_own ho); have HB := As.mk hb; clear ho hb)
      rw [Exit.noGoto_ret]
      go_ret2
      exact ⟨A2, c2, rfl, by rw [HV.out]; exact HO.out, HB.out⟩
    · have hz : ((t + 1 : Nat) : Int) - 1 = (t : Int) := by omega
      rw [hz]
      have hlt : t < m := HJ.out
      have HLT := As.mk hlt
      obtain ⟨gw, ea, hcw⟩ := own_two_cells DD.out.wo (by rw [← HM.out]; omega)
      subst ea
      obtain ⟨A, c, e1, e2, hst⟩ := DD.out.we t (by rw [← HM.out]; exact hlt)
      have q1 := hcw _ _ e1
      have q2 := hcw _ _ e2
      have HST := As.mk hst
      have lt' : (t : Int) < (m : Int) := by omega
      have HWU := As.mk (show wrap64 ((t : Int) - 1) = (t : Int) - 1 by have := HMX.out; unfold maxLen at this; unfold wrap64; omega)
      have HRT := As.mk (HRH.out t hlt)
      obtain ⟨y, hy⟩ : ∃ y, y = (nthE S.waits t).1 := ⟨_, rfl⟩
      rw [← hy] at q1 HRT
      have HY := As.mk hy
      clear hz hlt hcw e1 e2 hst hy
      have hwu := HWU.out
      by_cases hys : y = (s : Int)
      · subst hys
        have x0 : ((s : Int) != (s : Int)) = false := by simp
        have HV := As.mk (HRT.out rfl fun j h1 h2 => HN.out j h1 h2)
        go_wp2_with (go_at_call 128; (with_reducible refine (CloneB.any _ A S.size c _ HSZ.out HST.out.rd).mono ?_); rintro e w2 ⟨A2, c2, rfl, ho, hb⟩; have HO := As.mk (OwnAt.of_own ho); have HB := As.mk hb; clear ho hb)
        rw [Exit.noGoto_ret]
        go_ret2
        exact ⟨A2, c2, rfl, by rw [HV.out]; exact HO.out, HB.out⟩
      · have x1 : (y == (s : Int)) = false := beq_eq_false_iff_ne.2 hys
        have x0 : (y != (s : Int)) = true := by rw [bne, x1]; rfl
        have HYS := As.mk hys
        clear hys
        go_wp2
        go_roundg t
        case measure => omega
        case rel =>
          refine ⟨t, rfl, Nat.le_of_lt HLT.out, by rw [HWU.out], ⟨fun i h1 h2 => ?_⟩, rfl⟩
          rcases Nat.eq_or_lt_of_le h1 with rfl | h3
          · rw [← HY.out]; exact HYS.out
          · exact HN.out i h3 h2
end Go.Proofs.Yteajblfkfmopfaa.Disk
namespace Go.Proofs.Yteajblfkfmopfaa.Disk
set_option linter.unusedVariables false
set_option linter.unusedSimpArgs false
open Go Go.RowKit Go.Proofs.Yteajblfkfmopfaa.Mem Go.Proofs.Yteajblfkfmopfaa.Put32 Go.Proofs.Yteajblfkfmopfaa.Sum Go.Proofs.Yteajblfkfmopfaa.Hmac Go.Proofs.Yteajblfkfmopfaa.Parts Go.Proofs.Yteajblfkfmopfaa.Entries Go.Proofs.Yteajblfkfmopfaa.CrashApply Go.Proofs.Yteajblfkfmopfaa.LawCrash
attribute [local go_sem ↓] Go.wp_at_zero Go.wp_at_succ

theorem made_one (v : Value) (n : Nat) : madeCells #[v] n = (List.replicate n v).toArray := by
  apply Array.ext
  · rw [size_madeCells]; simp
  · intro i h1 h2
    simp [madeCells, Nat.mod_one]
theorem run_mk8 (n : Nat) (hn : n ≤ 1000000) (w : World) : (Instr.makeSlice 37 (.int .i64 (n : Int)) (.int .i64 (n : Int))).run Try.prog w = .ok (.slice (some ⟨w.heap.size, 0, none⟩) n n) (w.alloc (.cells ((List.replicate n (0 : Int)).map (Value.int .u8)).toArray 5)) := by
  obtain ⟨i, hi, hz, h1, h2⟩ := info_parts CloneB.info
  have h := run_make (P := Try.prog) w 37 5 i (.int .u8 0) Try.underlying37 hi hz .i64 .i64 (n : Int) (n : Int) (by omega) (Int.le_refl _) (by rw [h2]; omega) (by omega)
  rw [h]
  simp only [Int.toNat_natCast, h1, Nat.mul_one]
  have : Value.cells (.int .u8 0) = #[.int .u8 0] := rfl
  rw [this, made_one, List.map_replicate]
theorem run_mkP (n : Nat) (hn : n ≤ 10000000) (w : World) : (Instr.makeSlice 50 (.int .i64 (n : Int)) (.int .i64 (n : Int))).run Try.prog w = .ok (.slice (some ⟨w.heap.size, 0, none⟩) n n) (w.alloc (.cells (List.replicate n (.slice none 0 0)).toArray 37)) := by
  obtain ⟨i, hi, hz, h1, h2⟩ := info_parts infoP
  have h := run_make (P := Try.prog) w 50 37 i (.slice none 0 0) Try.underlying50 hi hz .i64 .i64 (n : Int) (n : Int) (by omega) (Int.le_refl _) (by rw [h2]; omega) (by omega)
  rw [h]
  simp only [Int.toNat_natCast, h1, Nat.mul_one]
  have : Value.cells (.slice none 0 0) = #[.slice none 0 0] := rfl
  rw [this, made_one]
def newS (n size : Nat) : DS := { n := n, size := size, kept := List.replicate n (List.replicate size 0), waits := [], off := false, fuse := 0, keep := [], steps := 0 }
theorem nthP_rep {n j : Nat} {x : List Int} (h : j < n) : nthP (List.replicate n x) j = x := by
  simp [nthP, List.getD_eq_getElem?_getD, List.getElem?_replicate, h]
set_option maxHeartbeats 2000000 in
set_option maxRecDepth 100000 in
theorem new_ok (w : World) (n size : Nat) (hn : 1 ≤ n ∧ n ≤ 1048576) (hs : 32 ≤ size ∧ size ≤ 256) (hm : size % 16 = 0) :
    Calls Try.prog 55 #[.int .i64 (n : Int), .int .i64 (size : Int)] w fun e w' => ∃ M P, e = .returned (.tuple #[.pointer (some ⟨P, 0, none⟩), .int .i64 0]) ∧ DAt w' M P (newS n size) ∧ Below w.heap.size w w' ∧ ∀ b, M b → w.heap.size ≤ b := by
  have HN := As.mk hn
  have HS := As.mk hs
  obtain ⟨h1, h2⟩ := hn
  obtain ⟨h3, h4⟩ := hs
  have HMP := As.mk (fun W => run_mkP n (by omega) W)
  have HM8 := As.mk (fun W => run_mk8 size (by omega) W)
  have i1 : (1 : Int) ≤ (n : Int) := by omega
  have i2 : (n : Int) ≤ 1048576 := by omega
  have i3 : (32 : Int) ≤ (size : Int) := by omega
  have i4 : (size : Int) ≤ 256 := by omega
  have c1 : decide ((n : Int) < 1) = false := decide_eq_false (by omega)
  have c2 : decide ((1048576 : Int) < (n : Int)) = false := decide_eq_false (by omega)
  have c3 : decide ((size : Int) < 32) = false := decide_eq_false (by omega)
  have c4 : decide ((256 : Int) < (size : Int)) = false := decide_eq_false (by omega)
  have c5 : ((size : Int) % 16 == 0) = true := by rw [beq_iff_eq]; omega
  have c6 : ((size : Int) % 16 != 0) = false := by rw [bne, c5]; rfl
  have c7 : ((size : Int).tmod 16 != 0) = false := by rw [Int.tmod_eq_emod_of_nonneg (by omega)]; exact c6
  have hmp := HMP.out
  clear h1 h2 h3 h4 hm
  go_enter Try.func55, Try.ntmps55
  go_wp2
  have hv0 := heap_alloc2_old w (.cells (Array.replicate n (.slice none 0 0)) 37) (.cells #[.slice (some ⟨w.heap.size, 0, none⟩) n n, .int .i64 (size : Int), .slice none 0 0, .bool false, .int .i64 0, .slice none 0 0, .int .i64 0] 177)
  have hv1 := heap_alloc2_new w (.cells (Array.replicate n (.slice none 0 0)) 37) (.cells #[.slice (some ⟨w.heap.size, 0, none⟩) n n, .int .i64 (size : Int), .slice none 0 0, .bool false, .int .i64 0, .slice none 0 0, .int .i64 0] 177)
  have hb0 : Below w.heap.size w ((w.alloc (.cells (Array.replicate n (.slice none 0 0)) 37)).alloc (.cells #[.slice (some ⟨w.heap.size, 0, none⟩) n n, .int .i64 (size : Int), .slice none 0 0, .bool false, .int .i64 0, .slice none 0 0, .int .i64 0] 177)) := below_alloc (below_alloc (Below.refl _ _) _) _
  have hz : ((w.alloc (.cells (Array.replicate n (.slice none 0 0)) 37)).alloc (.cells #[.slice (some ⟨w.heap.size, 0, none⟩) n n, .int .i64 (size : Int), .slice none 0 0, .bool false, .int .i64 0, .slice none 0 0, .int .i64 0] 177)).heap.size = w.heap.size + 2 := by simp
  generalize (w.alloc _).alloc _ = w2 at *
  obtain ⟨g, hg⟩ : ∃ g, w.heap.size = g := ⟨_, rfl⟩
  rw [hg] at hv0 hv1 hb0 hz ⊢
  have HO : As (OwnAt w2 0 (.slice (some ⟨g, 0, none⟩) n n) n (List.replicate n (.slice none 0 0))) := ⟨⟨by simp, .inr ⟨g, 0, n, _, _, rfl, Nat.zero_le _, hv0, by simp, Nat.le_refl _, by have := HN.out; unfold maxLen; omega, fun j hj => by simp [List.getElem?_replicate, Array.getElem?_replicate]⟩⟩⟩
  have HG := As.mk hg
  have HP := As.mk hv1
  have HB := As.mk hb0
  have HZ := As.mk (Nat.le_of_eq hz.symm)
  clear hv0 hv1 hb0 hz hg hmp c1 c2 c3 c4 c5 c6 c7 i3 i4
  go_loopg [37] n (fun kq v37 wr => ∃ (i : Nat) (L : List Value), i + kq = n ∧ v37 = .int .i64 (i : Int) ∧ As (OwnAt wr 0 (.slice (some ⟨g, 0, none⟩) n n) n L) ∧ As (∀ j, j < i → ∃ A c, L[j]? = some (.slice A size c) ∧ OwnAt wr (g + 2) (.slice A size c) size ((List.replicate size (0 : Int)).map (Value.int .u8))) ∧ As (wr.heap[g + 1]? = some (.cells #[.slice (some ⟨g, 0, none⟩) n n, .int .i64 (size : Int), .slice none 0 0, .bool false, .int .i64 0, .slice none 0 0, .int .i64 0] 177 (0, 0))) ∧ As (Below g w wr) ∧ As (g + 2 ≤ wr.heap.size))
  case atStart => exact ⟨0, _, by omega, rfl, HO, ⟨fun j hj => by omega⟩, HP, HB, HZ⟩
  case round =>
    clear HO HP HB HZ
    obtain ⟨i, L, hi, rfl, HO, HE, HP, HB, HZ⟩ := hrel
    have HI := As.mk hi
    clear hi
    by_cases hlt : i < n
    · have c0 : decide ((i : Int) < (n : Int)) = true := decide_eq_true (by omega)
      have c1 : decide (i < n) = true := decide_eq_true hlt
      have lt' : (i : Int) < (n : Int) := by omega
      have HWU := As.mk (show wrap64 ((i : Int) + 1) = ((i + 1 : Nat) : Int) from wrap_up (by have := HN.out; omega))
      have HLT := As.mk hlt
      clear hlt
      have hw := HWU.out
      go_wp2
      refine wp_region_held_drew (S := fun W : World => W.heap[g + 1]? = some (.cells #[.slice (some ⟨g, 0, none⟩) n n, .int .i64 (size : Int), .slice none 0 0, .bool false, .int .i64 0, .slice none 0 0, .int .i64 0] 177 (0, 0))) (by kernel_rfl) (HP.out) (fun hHeld => ?_)
      refine wpAnyH_take (i := 0) (v := .pointer (some ⟨g + 1, 0, none⟩)) rfl (by kernel_rfl) (by kernel_rfl) (by kernel_rfl) (fun _ _ _ h => h) (Or.inl ⟨by rfl, fun W hW => by go_simp⟩) hHeld ?_
      try simp only [Act.put, List.setIfInBounds_toArray, List.set_cons_zero, List.set_cons_succ, List.getElem_toArray, List.getElem_cons_zero, List.getElem_cons_succ]
      refine wpAnyH_take (i := 1) (v := .pointer (some ⟨g + 1, 0, none⟩)) rfl (by kernel_rfl) (by kernel_rfl) (by kernel_rfl) (fun _ _ _ h => h) (Or.inl ⟨by rfl, fun W hW => by go_simp⟩) hHeld ?_
      try simp only [Act.put, List.setIfInBounds_toArray, List.set_cons_zero, List.set_cons_succ, List.getElem_toArray, List.getElem_cons_zero, List.getElem_cons_succ]
      refine wpAnyH_take (i := 2) (v := .pointer (some ⟨g + 1, 0, none⟩)) rfl (by kernel_rfl) (by kernel_rfl) (by kernel_rfl) (fun _ _ _ h => h) (Or.inl ⟨by rfl, fun W hW => by go_simp⟩) hHeld ?_
      try simp only [Act.put, List.setIfInBounds_toArray, List.set_cons_zero, List.set_cons_succ, List.getElem_toArray, List.getElem_cons_zero, List.getElem_cons_succ]
      refine wpAnyH_take (i := 3) (v := .slice (some ⟨g, 0, none⟩) n n) rfl (by kernel_rfl) (by kernel_rfl) (by kernel_rfl) (fun _ _ _ h => h) (Or.inl ⟨by rfl, fun W hW => by (have q := cell_of_row W (g + 1) 0 _ _ _ hW; go_simp)⟩) hHeld ?_
      try simp only [Act.put, List.setIfInBounds_toArray, List.set_cons_zero, List.set_cons_succ, List.getElem_toArray, List.getElem_cons_zero, List.getElem_cons_succ]
      refine wpAnyH_take (i := 4) (v := .int .i64 (i : Int)) rfl (by kernel_rfl) (by kernel_rfl) (by kernel_rfl) (fun _ _ _ h => h) (Or.inl ⟨by rfl, fun W hW => by go_simp⟩) hHeld ?_
      try simp only [Act.put, List.setIfInBounds_toArray, List.set_cons_zero, List.set_cons_succ, List.getElem_toArray, List.getElem_cons_zero, List.getElem_cons_succ]
      refine wpAnyH_take (i := 5) (v := .int .i64 (size : Int)) rfl (by kernel_rfl) (by kernel_rfl) (by kernel_rfl) (fun _ _ _ h => h) (Or.inl ⟨by rfl, fun W hW => by go_simp⟩) hHeld ?_
      try simp only [Act.put, List.setIfInBounds_toArray, List.set_cons_zero, List.set_cons_succ, List.getElem_toArray, List.getElem_cons_zero, List.getElem_cons_succ]
      refine wpAnyH_ready (rs := [6]) (by kernel_rfl) (by simp) (AllReadyH.cons rfl (fun K' hK => ?_) AllReadyH.nil)
      have hm8 := HM8.out
      go_simp
      have hba : Below wr.heap.size wr (wr.alloc (.cells (Array.replicate size (.int .u8 0)) 5)).drew := below_drewN (below_alloc (Below.refl wr.heap.size wr) _) 1
      have hv : (wr.alloc (.cells (Array.replicate size (.int .u8 0)) 5)).drew.heap[wr.heap.size]? = some (.cells (Array.replicate size (.int .u8 0)) 5 (0, 0)) := heap_alloc_new wr _
      have hgm : ∀ k, k < wr.heap.size → (wr.alloc (.cells (Array.replicate size (.int .u8 0)) 5)).drew.heap[k]? = wr.heap[k]? := fun k hk => hba.block k hk
      have hz6 : wr.heap.size < (wr.alloc (.cells (Array.replicate size (.int .u8 0)) 5)).drew.heap.size := (Array.getElem?_eq_some_iff.1 hv).1
      obtain ⟨W6, hW6⟩ : ∃ W6, (wr.alloc (.cells (Array.replicate size (.int .u8 0)) 5)).drew = W6 := ⟨_, rfl⟩
      rw [hW6] at hba hv hgm hz6 ⊢
      obtain ⟨b6, hb6⟩ : ∃ b6, wr.heap.size = b6 := ⟨_, rfl⟩
      have hZ := HZ.out
      have HP6 := As.mk ((hba.block (g + 1) (by omega)).trans HP.out)
      have HO6 := As.mk (HO.out.below hba)
      have HE6 := As.mk (fun j (hj : j < i) => by
        obtain ⟨A, c, e, h⟩ := HE.out j hj
        exact (⟨A, c, e, h.below hba⟩ : ∃ A c, L[j]? = some (.slice A size c) ∧ OwnAt W6 (g + 2) (.slice A size c) size ((List.replicate size (0 : Int)).map (Value.int .u8))))
      have HB6 := As.mk (HB.out.trans (hba.mono (by omega)))
      rw [hb6] at hv hz6 hZ ⊢
      have HN6 := As.mk (show OwnAt W6 (g + 2) (.slice (some ⟨b6, 0, none⟩) size size) size ((List.replicate size (0 : Int)).map (Value.int .u8)) from ⟨by simp, .inr ⟨b6, 0, size, _, _, rfl, hZ, hv, by simp, Nat.le_refl _, by have := HS.out; unfold maxLen; omega, fun j hj => by simp [List.getElem?_replicate, Array.getElem?_replicate]⟩⟩)
      have HZ6 := As.mk (show g + 2 ≤ b6 ∧ b6 < W6.heap.size from ⟨hZ, hz6⟩)
      have hfz : W6.frozen? ⟨g, i, none⟩ = false := OwnAt.frozen HO6.out _
      obtain ⟨u, hu⟩ : ∃ u, L[i]? = some u := ⟨_, List.getElem?_eq_getElem (by rw [HO6.out.1]; exact HLT.out)⟩
      obtain ⟨ad1, e1, hc1⟩ := HO6.out.cell i u hu
      cases e1
      rw [add0] at hc1
      clear hba hv hgm hz6 hW6 hZ hu hm8 hb6 HO HE HP HB HZ hHeld
      refine hK.out _ _ HP6.out (fun hHeld => ?_)
      clear hK
      try simp only [Act.put, List.setIfInBounds_toArray, List.set_cons_zero, List.set_cons_succ, List.getElem_toArray, List.getElem_cons_zero, List.getElem_cons_succ]
      refine wpAnyH_take (i := 7) (v := .pointer (some ⟨g, i, none⟩)) rfl (by kernel_rfl) (by kernel_rfl) (by kernel_rfl) (fun _ _ _ h => h) (Or.inl ⟨by rfl, fun W hW => by go_simp⟩) hHeld ?_
      try simp only [Act.put, List.setIfInBounds_toArray, List.set_cons_zero, List.set_cons_succ, List.getElem_toArray, List.getElem_cons_zero, List.getElem_cons_succ]
      refine wpAnyH_ready (rs := [8]) (by kernel_rfl) (by simp) (AllReadyH.cons rfl (fun K' hK => ?_) AllReadyH.nil)
      go_simp
      refine hK.out _ _ ((heap_setCell_other W6 ⟨g, i, none⟩ (g + 1) _ (by simp)).trans HP6.out) (fun hHeld => ?_)
      clear hK
      try simp only [Act.put, List.setIfInBounds_toArray, List.set_cons_zero, List.set_cons_succ, List.getElem_toArray, List.getElem_cons_zero, List.getElem_cons_succ]
      refine wpAnyH_done (by kernel_rfl) ?_ _
      clear hc1 hfz hHeld
      go_wp2
      go_roundg (n - (i + 1))
      case measure => have := HI.out; have := HLT.out; omega
      case rel =>
        have hset := OwnAt.set HO6.out i HLT.out (.slice (some ⟨b6, 0, none⟩) size size)
        rw [Nat.zero_add] at hset
        refine ⟨i + 1, L.set i (.slice (some ⟨b6, 0, none⟩) size size), by have := HI.out; have := HLT.out; omega, by go_num, ⟨hset⟩, ⟨fun j hj => ?_⟩, ⟨(heap_setCell_other W6 ⟨g, i, none⟩ (g + 1) _ (by simp)).trans HP6.out⟩, ⟨HB6.out.setCell (p := ⟨g, i, none⟩) (Nat.le_refl _) _⟩, ⟨by have := HZ6.out; simp [World.setCell]; omega⟩⟩
        have hk : ∀ A c, OwnAt W6 (g + 2) (.slice A size c) size ((List.replicate size (0 : Int)).map (Value.int .u8)) → OwnAt (W6.setCell ⟨g, i, none⟩ (.slice (some ⟨b6, 0, none⟩) size size)) (g + 2) (.slice A size c) size ((List.replicate size (0 : Int)).map (Value.int .u8)) := fun A c h => h.kept fun k hk => heap_setCell_other _ _ _ _ (by have := (h.lt k hk).1; simp; omega)
        rw [List.getElem?_set]
        by_cases e : i = j
        · subst e
          rw [if_pos rfl, if_pos (by rw [HO6.out.1]; exact HLT.out)]
          exact ⟨_, _, rfl, hk _ _ HN6.out⟩
        · rw [if_neg e]
          obtain ⟨A, c, e2, h⟩ := HE6.out j (by omega)
          exact ⟨A, c, e2, hk _ _ h⟩
    · have c0 : decide ((i : Int) < (n : Int)) = false := decide_eq_false (by omega)
      have c1 : decide (i < n) = false := decide_eq_false hlt
      obtain rfl : n = i := by have := HI.out; omega
      clear hlt
      go_wp2
      go_ret2
      refine ⟨fun b => b = g ∨ b = g + 1, g + 1, rfl, ⟨some ⟨g, 0, none⟩, n, none, 0, none, 0, L, [], ?_⟩, by rw [HG.out]; exact HB.out, fun b hb => by rw [HG.out]; rcases hb with h | h <;> omega⟩
      exact {
        pb := HP.out
        mp := .inr rfl
        ml := fun b hb => by have := HZ.out; rcases hb with h | h <;> omega
        ko := HO.out
        km := fun b hb => by
          simp only [Value.ownBlock, Option.some.injEq] at hb
          exact ⟨.inl hb.symm, by omega⟩
        ke := fun j hj => by
          obtain ⟨A, c, e, h⟩ := HE.out j hj
          refine ⟨A, c, e, ?_⟩
          show StR wr _ A size c (nthP (List.replicate n (List.replicate size 0)) j)
          rw [nthP_rep (n := n) (j := j) hj]
          exact StR.fresh h fun b hb => by rcases hb with h | h <;> omega
        wo := World.ownsRow_nil _ _ _ _
        wm := fun b hb => by simp [Value.ownBlock] at hb
        we := fun j hj => by simp [newS] at hj
        kb := StB.nil _ _
        n1 := HN.out
        sz := HS.out.2
        kl := by simp [newS]
        ws := fun j hj => by simp [newS] at hj
        fs := Nat.zero_le _ }
end Go.Proofs.Yteajblfkfmopfaa.Disk
namespace Go.Proofs.Yteajblfkfmopfaa.Disk
set_option linter.unusedVariables false
set_option linter.unusedSimpArgs false
open Go Go.RowKit Go.Proofs.Yteajblfkfmopfaa.Mem Go.Proofs.Yteajblfkfmopfaa.Put32 Go.Proofs.Yteajblfkfmopfaa.Sum Go.Proofs.Yteajblfkfmopfaa.Hmac Go.Proofs.Yteajblfkfmopfaa.Parts Go.Proofs.Yteajblfkfmopfaa.Entries Go.Proofs.Yteajblfkfmopfaa.CrashApply Go.Proofs.Yteajblfkfmopfaa.LawCrash

theorem Did.refl {w : World} {M : Nat → Prop} {P : Nat} {S : DS} (h : DAt w M P S) : Did w w M M P S := ⟨h, Grow.refl _ _, fun _ hb => .inl hb⟩
/-- what a write says, and leaves -/
def WJ (S : DS) (s : Int) (q : List Int) (r : Int) (S' : DS) : Prop := (r = 0 ∧ 0 ≤ s ∧ s < S.n ∧ q.length = S.size ∧ S' = writeS (stepS S) s q) ∨ (r ≠ 0 ∧ S' = S)
theorem may_in {S : DS} {s : Int} (h : mayD S s = 0) : 0 ≤ s ∧ s < S.n := by
  unfold mayD at h
  split at h
  · omega
  · split at h
    · omega
    · split at h
      · omega
      · omega
theorem write_j (w : World) (M : Nat → Prop) (P : Nat) (S : DS) (h : DAt w M P S) (ho : S.off = false) (hf : S.fuse = 0) (hs : S.steps ≤ 1000000000) (hw : S.waits.length ≤ 1000000) (s : Int) (A : Option Addr) (l c : Nat) (q : List Int) (hq : StR w M A l c q) :
    Calls Try.prog 56 #[.pointer (some ⟨P, 0, none⟩), .int .i64 s, .slice A l c] w fun e w' => ∃ M' r S', e = .returned (.int .i64 r) ∧ Did w w' M M' P S' ∧ WJ S s q r S' := by
  by_cases hr : mayD S s = 0
  · by_cases hl : l = S.size
    · refine (write_ok w M P S h s hr (by rw [hf]; decide) hs hw A l c q hl hq).mono ?_
      rintro e w' ⟨M', rfl, hd⟩
      exact ⟨M', 0, _, rfl, hd, .inl ⟨rfl, (may_in hr).1, (may_in hr).2, hq.rd.len.trans hl, rfl⟩⟩
    · refine (write_len w M P S h s hr A l c hl).mono ?_
      rintro e w' ⟨rfl, rfl⟩
      exact ⟨M, 2, S, rfl, Did.refl h, .inr ⟨by decide, rfl⟩⟩
  · refine (write_may w M P S h s _ rfl hr A l c).mono ?_
    rintro e w' ⟨rfl, rfl⟩
    exact ⟨M, _, S, rfl, Did.refl h, .inr ⟨hr, rfl⟩⟩
theorem StB.old {w0 w : World} {M : Nat → Prop} {A : Option Addr} {n c : Nat} {x : List Bool} (h : RdB w0 A n c x) (hb : Below w0.heap.size w0 w) (hM : ∀ b, M b → w0.heap.size ≤ b) : StB w M A n c x :=
  fun _ hk => ⟨h.len, h.le, h.cap, fun h0 => by
    obtain ⟨ad, e, hc⟩ := h.cells h0
    refine ⟨ad, e, fun j hj => ?_⟩
    have hlt := World.block_lt_of_cell? w0 _ (hc j hj)
    exact hk _ _ (fun hm => by have := hM _ hm; omega) ((hb.cell hlt).trans (hc j hj))⟩
/-- bytes, each sector's as many as it has -/
def Well (S : DS) : Prop := (∀ p ∈ S.kept, Byte p ∧ p.length = S.size) ∧ (∀ e ∈ S.waits, Byte e.2 ∧ e.2.length = S.size)
theorem Well.new (n size : Nat) : Well (newS n size) := ⟨fun p hp => by
  have := List.eq_of_mem_replicate hp
  subst this
  exact ⟨fun x hx => by have := List.eq_of_mem_replicate hx; subst this; decide, by simp [newS]⟩, fun e he => by simp [newS] at he⟩
theorem Well.step {S : DS} (h : Well S) : Well (stepS S) := h
theorem Well.write {S : DS} (h : Well S) {s : Int} {q : List Int} (hq : Byte q) (hl : q.length = S.size) : Well (writeS S s q) := ⟨h.1, fun e he => by
  rcases List.mem_append.1 he with h1 | h1
  · exact h.2 e h1
  · rw [List.mem_singleton.1 h1]
    exact ⟨hq, hl⟩⟩
theorem Well.flush {S : DS} (h : Well S) : Well (flushS S) := ⟨doneF_all _ (fun p => Byte p ∧ p.length = S.size) S.waits 0 S.kept h.1 h.2, fun e he => by simp [flushS] at he⟩
theorem Well.crash {S : DS} (h : Well S) (bs : List Bool) : Well (crashS S bs) := ⟨doneF_all _ (fun p => Byte p ∧ p.length = S.size) S.waits 0 S.kept h.1 h.2, fun e he => by simp [crashS] at he⟩
/-- one more row of one's own -/
theorem fresh_app {w w5 : World} {base n l c : Nat} {v v' : Value} {L : List Value} {ps : List (List Int)} {A : Option Addr} {q : List Int} {tmp : Obj} (h : Parts w base v n L ps) (hf : Fresh w base v L ps n) (hl : l = q.length)
    (ho : OwnAt w base (.slice A l c) l (q.map (Value.int .u8))) (hne : ∀ b, (Value.slice A l c).ownBlock = some b → some b ≠ v.ownBlock)
    (hown : OwnAt w5 base v' (n + 1) (L ++ [.slice A l c])) (hg : (w.alloc tmp).grownBy w5 v.ownBlock) (hat : v'.ownBlock = v.ownBlock ∨ v'.ownBlock = some (w.alloc tmp).heap.size) :
    Parts w5 base v' (n + 1) (L ++ [.slice A l c]) (ps ++ [q]) ∧ Fresh w5 base v' (L ++ [.slice A l c]) (ps ++ [q]) (n + 1) := by
  subst hl
  have hL : L.length = n := h.own.1
  have hk : ∀ (A : Option Addr) (c : Nat) (x : List Int), OwnAt w base (.slice A x.length c) x.length (x.map (Value.int .u8)) → (∀ b, (Value.slice A x.length c).ownBlock = some b → some b ≠ v.ownBlock) → OwnAt w5 base (.slice A x.length c) x.length (x.map (Value.int .u8)) ∧ ∀ b, (Value.slice A x.length c).ownBlock = some b → some b ≠ v'.ownBlock := fun A c x h1 h2 => by
    refine ⟨h1.kept fun k hk => ?_, fun b hb => ?_⟩
    · have h3 := (h1.lt k hk).2
      rw [hg.block k (by simp; omega) (h2 k hk)]
      exact Below.heap_alloc w tmp k h3
    · rcases hat with e | e
      · rw [e]; exact h2 b hb
      · rw [e]
        intro e2
        injection e2 with e2
        have h3 := (h1.lt b hb).2
        simp at e2
        omega
  have hb2 : Below w.heap.size w (w.alloc tmp) := below_alloc (Below.refl _ _) tmp
  have hfr : Fresh w5 base v' (L ++ [.slice A q.length c]) (ps ++ [q]) (n + 1) := fun j hj => by
    rcases Nat.lt_succ_iff_lt_or_eq.1 hj with h1 | rfl
    · obtain ⟨A2, c2, e, h2, h3⟩ := hf j h1
      rw [nthP_left _ _ _ (by rw [h.len]; exact h1)]
      exact ⟨A2, c2, by rw [List.getElem?_append_left (by omega)]; exact e, hk A2 c2 _ h2 h3⟩
    · have hn : nthP (ps ++ [q]) j = q := by rw [nthP_right _ _ _ (by rw [h.len]; exact Nat.le_refl _), h.len, Nat.sub_self]; rfl
      rw [hn]
      exact ⟨A, c, by rw [List.getElem?_append_right (by omega), hL, Nat.sub_self]; rfl, hk A c q ho hne⟩
  refine ⟨⟨by rw [List.length_append, h.len]; rfl, hown, fun j hj => ?_⟩, hfr⟩
  obtain ⟨A2, c2, e, h2, h3⟩ := hfr j hj
  exact ⟨_, e, Elem.mk' (own_rd_at h2) fun _ ad ea => by subst ea; exact h3 _ rfl⟩
end Go.Proofs.Yteajblfkfmopfaa.Disk
