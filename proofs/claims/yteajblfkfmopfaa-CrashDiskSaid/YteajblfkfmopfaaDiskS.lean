/- A disk: what waits is settled. -/
import Derived.StillTailTactics
import Derived.Deep.DeepCutAuto
import Derived.Test.YteajblfkfmopfaaDiskA
namespace Go.Proofs.Yteajblfkfmopfaa.Disk
set_option linter.unusedVariables false
set_option linter.unusedSimpArgs false
open Go Go.RowKit Go.Proofs.Yteajblfkfmopfaa.Mem Go.Proofs.Yteajblfkfmopfaa.Put32 Go.Proofs.Yteajblfkfmopfaa.Sum Go.Proofs.Yteajblfkfmopfaa.Hmac Go.Proofs.Yteajblfkfmopfaa.Parts Go.Proofs.Yteajblfkfmopfaa.Entries Go.Proofs.Yteajblfkfmopfaa.CrashApply Go.Proofs.Yteajblfkfmopfaa.LawCrash

theorem infoWr : (Try.prog.info? 181).map (·.size) = some 2 := by kernel_rfl
theorem own_caps2 {w : World} {base n c : Nat} {e : TypeId} {A : Option Addr} {xs : List Value} (h : w.ownsRow base e 2 (.slice A n c) n xs) : n ≤ c ∧ n ≤ maxLen := by
  rcases h.2 with ⟨e, hn⟩ | ⟨g, cap, cur, e, hg, hh, hnc, hcm, _⟩
  · cases e
    exact ⟨Nat.le_refl _, by unfold maxLen; omega⟩
  · cases e
    exact ⟨hnc, Nat.le_trans hnc hcm⟩
theorem own_two_cells {w : World} {base n c : Nat} {e : TypeId} {A : Option Addr} {xs : List Value} (h : w.ownsRow base e 2 (.slice A n c) n xs) (h0 : 0 < n) : ∃ g, A = some ⟨g, 0, none⟩ ∧ ∀ t v, xs[t]? = some v → w.cell? ⟨g, t, none⟩ = some v := by
  rcases h.2 with ⟨e, hn⟩ | ⟨g, cap, cur, e, hg, hh, hnc, hcm, hcs, ht⟩
  · omega
  · cases e
    refine ⟨g, rfl, fun t v hv => ?_⟩
    have hxl : xs.length = n * 2 := h.1
    have hlt : t < n * 2 := by
      rcases Nat.lt_or_ge t xs.length with h1 | h1
      · omega
      · rw [List.getElem?_eq_none h1] at hv; cases hv
    have h3 : cur[t]? = some v := by
      rw [← ht, List.getElem?_take_of_lt hlt, Array.getElem?_toList] at hv
      exact hv
    simp [World.cell?, hh, h3]
def allOn (_ : Nat) : Bool := true
theorem kept_set {w : World} {M : Nat → Prop} {n size g1 o s c : Nat} {L : List Value} {ps : List (List Int)} {q : List Int} {A : Option Addr} {v : Value} (hM : M g1) (h : ∀ j, j < n → ∃ A c, L[j]? = some (.slice A size c) ∧ StR w M A size c (nthP ps j)) (hs : s < n) (hL : L.length = n) (hp : ps.length = n) (hst : StR w M A size c q) :
    ∀ j, j < n → ∃ A' c', (L.set s (.slice A size c))[j]? = some (.slice A' size c') ∧ StR (w.setCell ⟨g1, o, none⟩ v) M A' size c' (nthP (ps.set s q) j) := fun j hj => by
  rw [nthP_set _ _ _ _ (by omega), List.getElem?_set]
  by_cases e : s = j
  · subst e
    rw [if_pos rfl, if_pos rfl, if_pos (by omega)]
    exact ⟨A, c, rfl, hst.step (keepsX_set hM) fun b hb => .inl hb⟩
  · rw [if_neg e, if_neg e]
    obtain ⟨A', c', e', h'⟩ := h j hj
    exact ⟨A', c', e', h'.step (keepsX_set hM) fun b hb => .inl hb⟩
set_option maxHeartbeats 400000 in
theorem flush1_any (w : World) (i : Nat) : Calls Try.prog 130 #[.int .i64 (i : Int)] w fun e w' => e = .returned (.bool (allOn i)) ∧ w = w' := by
  go_enter Try.func130, Try.ntmps130
  go_wp2
  go_ret
  exact ⟨rfl, rfl⟩
set_option maxHeartbeats 2000000 in
set_option maxRecDepth 100000 in
theorem settle_all (w : World) (M : Nat → Prop) (P : Nat) (S : DS) (h : DAt w M P S) :
    Calls Try.prog 129 #[.pointer (some ⟨P, 0, none⟩), .func (.func 130) #[] #[]] w fun e w' => e = .returned (.tuple #[]) ∧ Did w w' M M P { S with kept := doneF allOn 0 S.kept S.waits, waits := [] } := by
  obtain ⟨Ak, ck, Aw, cw, Ab, cb, LK, LW, D⟩ := h
  have HD := As.mk D
  obtain ⟨n, size, kept, waits, off, fuse, keep, steps⟩ := S
  obtain ⟨m, hm⟩ : ∃ m, m = waits.length := ⟨_, rfl⟩
  have HM := As.mk hm
  have h0 := D.c0
  have h2 := D.c2
  try simp only at h0 h2
  rw [← hm] at h2
  have HK0 := As.mk D.ko
  have HKE := As.mk D.ke
  have HN := As.mk D.n1
  try simp only at HK0 HKE HN
  have HMX := As.mk (show m ≤ maxLen by rw [hm]; exact (own_caps2 D.wo).2)
  clear D hm
  go_enter Try.func129, Try.ntmps129
  go_wp2
  clear h0 h2
  go_loopg [11] m (fun kq v11 wr => ∃ (i : Nat) (L : List Value), i + kq = m ∧ v11 = .int .i64 (i : Int) ∧ As (OwnAt wr 0 (.slice Ak n ck) n L) ∧ As (∀ j, j < n → ∃ A c, L[j]? = some (.slice A size c) ∧ StR wr M A size c (nthP (doneF allOn 0 kept (waits.take i)) j)) ∧ As (Grow M w wr) ∧ As (∀ b, M b → (Value.slice Ak n ck).ownBlock ≠ some b → wr.heap[b]? = w.heap[b]?))
  case atStart => exact ⟨0, LK, by omega, rfl, HK0, HKE, ⟨Grow.refl _ _⟩, ⟨fun _ _ _ => rfl⟩⟩
  case round =>
    clear HK0 HKE
    obtain ⟨i, L, hi, rfl, HO, HE, HG, HB⟩ := hrel
    have HI := As.mk hi
    clear hi
    have HPB := As.mk ((HB.out P HD.out.mp fun e => (HD.out.km P e).2 rfl).trans HD.out.pb)
    by_cases hlt : i < m
    · have c0 : decide ((i : Int) < (m : Int)) = true := decide_eq_true (by omega)
      have c1 : decide (i < m) = true := decide_eq_true hlt
      have lt' : (i : Int) < (m : Int) := by omega
      have HWU := As.mk (show wrap64 ((i : Int) + 1) = ((i + 1 : Nat) : Int) from wrap_big hlt (by have := HMX.out; unfold maxLen at this; omega))
      obtain ⟨gw, ea, hcw⟩ := own_two_cells HD.out.wo (by have := HM.out; simp only; omega)
      try simp only at ea hcw
      subst ea
      have hmw := HD.out.wm gw rfl
      try simp only at hmw
      have hbw := HB.out gw hmw.1 hmw.2.2
      obtain ⟨A, c, e1, e2, hst⟩ := HD.out.we i (by have := HM.out; simp only; omega)
      try simp only at e1 e2 hst
      have q1 := (World.cell?_of_block (a := ⟨gw, i * 2, none⟩) hbw).trans (hcw _ _ e1)
      have q2 := (World.cell?_of_block (a := ⟨gw, i * 2 + 1, none⟩) hbw).trans (hcw _ _ e2)
      obtain ⟨hs0, hs1⟩ := HD.out.ws i (by have := HM.out; simp only; omega)
      try simp only at hs0 hs1
      obtain ⟨s, hs⟩ : ∃ s : Nat, (nthE waits i).1 = (s : Int) := ⟨(nthE waits i).1.toNat, by omega⟩
      obtain ⟨q, hq⟩ : ∃ q, q = (nthE waits i).2 := ⟨_, rfl⟩
      rw [hs] at q1 hs1
      rw [← hq] at hst
      have lsn : s < n := by omega
      have HDS := As.mk (show doneF allOn 0 kept (waits.take (i + 1)) = if allOn i = true then (doneF allOn 0 kept (waits.take i)).set s q else doneF allOn 0 kept (waits.take i) by
        rw [takeE waits i (by rw [← HM.out]; exact hlt), doneF_snoc, List.length_take, Nat.min_eq_left (by rw [← HM.out]; omega), Nat.zero_add, hs, ← hq]; rfl)
      have HLEN := As.mk (show (doneF allOn 0 kept (waits.take i)).length = n by rw [doneF_len]; exact HD.out.kl)
      obtain ⟨g1, off1, ea, _, hg2⟩ := own_shape HO.out (by omega)
      subst ea
      have hm1 := HD.out.km g1 rfl
      try simp only at hm1
      have Q1 := As.mk q1
      have Q2 := As.mk q2
      have HST := As.mk (hst.step HG.out.keeps fun b hb => .inl hb)
      have HLT := As.mk hlt
      have HSN := As.mk lsn
      have lsn' : (s : Int) < (n : Int) := by omega
      have HM1 := As.mk hm1
      have HMW := As.mk hmw
      have hba := below_alloc (Below.refl wr.heap.size wr) (.cells #[.int .i64 (s : Int), .slice A size c] 181)
      have hvw := heap_alloc_new wr (.cells #[.int .i64 (s : Int), .slice A size c] 181)
      obtain ⟨wb, hwb⟩ : ∃ wb, wr.alloc (.cells #[.int .i64 (s : Int), .slice A size c] 181) = wb := ⟨_, rfl⟩
      obtain ⟨g, hg⟩ : ∃ g, wr.heap.size = g := ⟨_, rfl⟩
      rw [hwb] at hba hvw
      rw [hg] at hvw
      have HWB := As.mk hwb
      have HGG := As.mk hg
      have HV := As.mk hvw
      have HBA := As.mk hba
      have HGS := As.mk (show wr.heap.size = g ∧ g1 < g ∧ P < g ∧ gw < g by
        have h1 := (Array.getElem?_eq_some_iff.1 HPB.out).1
        have h2 : gw < wr.heap.size := World.block_lt_of_cell? wr _ q1
        refine ⟨hg, ?_, ?_, ?_⟩ <;> omega)
      have hPb := (hba.block P (by have := HGS.out; omega)).trans HPB.out
      have HOb := As.mk (HO.out.below hba)
      have HEb := As.mk (show ∀ j, j < n → ∃ A c, L[j]? = some (.slice A size c) ∧ StR wb M A size c (nthP (doneF allOn 0 kept (waits.take i)) j) from fun j hj => by
        obtain ⟨A, c, e, h⟩ := HE.out j hj
        exact ⟨A, c, e, h.step (keepsX_below hba) fun b hb => .inl hb⟩)
      have HSTb := As.mk (HST.out.step (M' := M) (keepsX_below hba) fun b hb => .inl hb)
      have HGb := As.mk (HG.out.andThen (Grow.of_below hba))
      have HBb := As.mk (show ∀ b, M b → (Value.slice (some ⟨g1, off1, none⟩) n ck).ownBlock ≠ some b → wb.heap[b]? = w.heap[b]? from fun b hb hne => (hba.block b (Nat.lt_of_lt_of_le (HD.out.ml b hb) HG.out.size)).trans (HB.out b hb hne))
      clear q1 q2 hcw hbw hmw e1 e2 hst hs0 hs1 hs hq lsn hlt hm1 hba hvw hwb hg HO HE HG HB hg2
      go_upto_region 3 with (refine wpList_load_at rfl 181 (.tmp 14) rfl ⟨gw, i * 2, none⟩ rfl [.int .i64 (s : Int), .slice A size c] _ (fun j v hv => by rcases j with _ | _ | j <;> simp at hv <;> subst hv <;> rw [Addr.add_mid] <;> first | exact Q1.out | exact Q2.out) Try.underlying181 rfl infoWr ?_)
      rw [HWB.out, HGG.out]
      have hw := HWU.out
      have v0 : wb.cell? ⟨g, 0, none⟩ = some (.int .i64 (s : Int)) := by rw [cell_of_row _ _ 0 _ _ _ HV.out]; rfl
      have v1 : wb.cell? ⟨g, 1, none⟩ = some (.slice A size c) := by rw [cell_of_row _ _ 1 _ _ _ HV.out]; rfl
      have p0 : wb.cell? ⟨P, 0, none⟩ = some (.slice (some ⟨g1, off1, none⟩) n ck) := cell_of_row wb P 0 _ _ _ hPb
      have HPb := As.mk hPb
      clear hPb
      cases hkq : allOn i with
      | true =>
        have HDT := As.mk (HDS.out.trans (if_pos hkq))
        have HKQ := As.mk hkq
        obtain ⟨u, eu, hu⟩ := HEb.out s HSN.out
        obtain ⟨ad1, e1, hc1⟩ := HOb.out.cell s _ hu.1
        cases e1
        have hfz : wb.frozen? ⟨g1, off1 + s, none⟩ = false := OwnAt.frozen HOb.out _
        have hcs : wb.cell? ⟨g1, off1 + s, none⟩ = some (.slice u size eu) := by have := hc1; rwa [Addr.add_mid] at this
        clear hkq hu hc1
        go_wp2_with (go_at_call 130; (with_reducible refine (flush1_any _ _).mono ?_); rintro e w3 ⟨rfl, rfl⟩; rw [HKQ.out])
        go_still_tail 9, (by kernel_rfl)
        have hbd := below_drewN (Below.refl wb.heap.size wb) 1
        have HOd := As.mk (HOb.out.below hbd)
        have HEd := As.mk (fun j hj => by
          obtain ⟨A, c, e, h⟩ := HEb.out j hj
          exact (⟨A, c, e, h.step (keepsX_below hbd) fun b hb => .inl hb⟩ : ∃ A c, L[j]? = some (.slice A size c) ∧ StR (wb.drewN 1) M A size c (nthP (doneF allOn 0 kept (waits.take i)) j)))
        have HSTd := As.mk (HSTb.out.step (M' := M) (keepsX_below hbd) fun b hb => .inl hb)
        have HGd := As.mk (HGb.out.andThen (Grow.of_below hbd))
        have HBd := As.mk (fun b (hb : M b) (hne : (Value.slice (some ⟨g1, off1, none⟩) n ck).ownBlock ≠ some b) => (hbd.block b (by have h1 := HD.out.ml b hb; have h2 := HGb.out.size; omega)).trans (HBb.out b hb hne))
        clear hbd
        go_wp2
        go_roundg (m - (i + 1))
        case measure => have := HI.out; have := HLT.out; omega
        case rel =>
          refine ⟨i + 1, L.set s (.slice A size c), by have := HI.out; have := HLT.out; omega, by go_num, ⟨OwnAt.set HOd.out s HSN.out _⟩, ⟨?_⟩, ⟨HGd.out.andThen (Grow.set HM1.out.1 _ _)⟩, ⟨fun b hb hne => ?_⟩⟩
          · rw [HDT.out]
            exact kept_set HM1.out.1 HEd.out HSN.out HOd.out.1 HLEN.out HSTd.out
          · exact (heap_setCell_other (wb.drewN 1) ⟨g1, off1 + s, none⟩ b (.slice A size c) (fun e => hne (by rw [e]; rfl))).trans (HBd.out b hb hne)
      | false =>
        have HDT := As.mk (HDS.out.trans (if_neg (by rw [hkq]; decide)))
        have HKQ := As.mk hkq
        clear hkq
        go_wp2_with (go_at_call 130; (with_reducible refine (flush1_any _ _).mono ?_); rintro e w3 ⟨rfl, rfl⟩; rw [HKQ.out])
        go_roundg (m - (i + 1))
        case measure => have := HI.out; have := HLT.out; omega
        case rel => exact ⟨i + 1, L, by have := HI.out; have := HLT.out; omega, by go_num, HOb, ⟨by rw [HDT.out]; exact HEb.out⟩, HGb, HBb⟩
    · have c0 : decide ((i : Int) < (m : Int)) = false := decide_eq_false (by omega)
      have c1 : decide (i < m) = false := decide_eq_false hlt
      obtain rfl : m = i := by have := HI.out; omega
      rw [show waits.take m = waits by rw [HM.out, List.take_length]] at HE
      have z2 := frozen_of_row wr P 2 _ _ HPB.out
      have p2 : wr.cell? ⟨P, 2, none⟩ = some (.slice Aw m cw) := by have := cell_of_row wr P 2 _ _ _ HPB.out; rw [HM.out]; exact this
      clear hlt
      go_wp2
      go_end0
      refine ⟨rfl, ⟨⟨Ak, ck, none, 0, Ab, cb, L, [], ?_⟩, HG.out.andThen (Grow.set HD.out.mp 2 _), fun b hb => .inl hb⟩⟩
      have hz : w.heap.size ≤ (wr.setCell ⟨P, 2, none⟩ (.slice none 0 0)).heap.size := by have := HG.out.size; simpa [World.setCell] using this
      have hkx : KeepsX wr (wr.setCell ⟨P, 2, none⟩ (.slice none 0 0)) M := keepsX_set HD.out.mp
      exact { pb := heap_setCell_same wr P 2 _ _ _ HPB.out
              mp := HD.out.mp, ml := fun b h => Nat.lt_of_lt_of_le (HD.out.ml b h) hz
              ko := HO.out.kept fun k h => heap_setCell_other _ _ _ _ (HD.out.km k h).2
              km := HD.out.km
              ke := fun j hj => by
                obtain ⟨A, c, e, h⟩ := HE.out j hj
                exact ⟨A, c, e, h.step hkx fun b hb => .inl hb⟩
              wo := World.ownsRow_nil _ _ _ _
              wm := fun b h => by simp [Value.ownBlock] at h
              we := fun j hj => by simp at hj
              kb := HD.out.kb.step (HG.out.andThen (Grow.set HD.out.mp 2 _)).keeps fun b hb => .inl hb
              n1 := HD.out.n1, sz := HD.out.sz, kl := (doneF_len _ _ _ _).trans HD.out.kl, ws := fun j hj => by simp at hj
              fs := HD.out.fs }
set_option maxHeartbeats 1000000 in
set_option maxRecDepth 100000 in
theorem crash1_any (w : World) (i g : Nat) (K : Option Addr) (kn kc : Nat) (bs : List Bool) (hg : w.cell? ⟨g, 0, none⟩ = some (.slice K kn kc)) (hk : RdB w K kn kc bs) :
    Calls Try.prog 132 #[.int .i64 i, .pointer (some ⟨g, 0, none⟩)] w fun e w' => e = .returned (.bool (keptF bs i)) ∧ w = w' := by
  have HK := As.mk hk
  by_cases hlt : i < kn
  · have c0 : decide ((i : Int) < (kn : Int)) = true := decide_eq_true (by omega)
    have c1 : decide (i < kn) = true := decide_eq_true hlt
    have lt' : (i : Int) < (kn : Int) := by omega
    obtain ⟨ad, ea, hx⟩ := hk.at i hlt
    cases ea
    have HR := As.mk (show keptF bs i = bs.getD i false from rfl)
    obtain ⟨b, hb⟩ : ∃ b, b = bs.getD i false := ⟨_, rfl⟩
    rw [← hb] at HR hx
    clear hk hb
    go_enter Try.func132, Try.ntmps132
    go_wp2
    go_ret
    exact ⟨by rw [HR.out]; rfl, rfl⟩
  · have c0 : decide ((i : Int) < (kn : Int)) = false := decide_eq_false (by omega)
    have c1 : decide (i < kn) = false := decide_eq_false hlt
    have HR := As.mk (show keptF bs i = false by rw [keptF, List.getD_eq_getElem?_getD, List.getElem?_eq_none (by rw [hk.len]; omega)]; rfl)
    clear hk hlt
    go_enter Try.func132, Try.ntmps132
    go_wp2
    go_ret
    exact ⟨by rw [HR.out]; rfl, rfl⟩
set_option maxHeartbeats 2000000 in
set_option maxRecDepth 100000 in
theorem settle_kept (w : World) (M : Nat → Prop) (P : Nat) (S : DS) (h : DAt w M P S) (g0 : Nat) (K : Option Addr) (kn kc : Nat) (bs : List Bool) (hg0 : w.cell? ⟨g0, 0, none⟩ = some (.slice K kn kc)) (hgm : ¬ M g0) (hkb : StB w M K kn kc bs) :
    Calls Try.prog 129 #[.pointer (some ⟨P, 0, none⟩), .func (.func 132) #[] #[.pointer (some ⟨g0, 0, none⟩)]] w fun e w' => e = .returned (.tuple #[]) ∧ Did w w' M M P { S with kept := doneF (keptF bs) 0 S.kept S.waits, waits := [] } := by
  have HKB := As.mk hkb
  have HG0 := As.mk hg0
  have HGM := As.mk hgm
  clear hkb hg0 hgm
  obtain ⟨Ak, ck, Aw, cw, Ab, cb, LK, LW, D⟩ := h
  have HD := As.mk D
  obtain ⟨n, size, kept, waits, off, fuse, keep, steps⟩ := S
  obtain ⟨m, hm⟩ : ∃ m, m = waits.length := ⟨_, rfl⟩
  have HM := As.mk hm
  have h0 := D.c0
  have h2 := D.c2
  try simp only at h0 h2
  rw [← hm] at h2
  have HK0 := As.mk D.ko
  have HKE := As.mk D.ke
  have HN := As.mk D.n1
  try simp only at HK0 HKE HN
  have HMX := As.mk (show m ≤ maxLen by rw [hm]; exact (own_caps2 D.wo).2)
  clear D hm
  go_enter Try.func129, Try.ntmps129
  go_wp2
  clear h0 h2
  go_loopg [11] m (fun kq v11 wr => ∃ (i : Nat) (L : List Value), i + kq = m ∧ v11 = .int .i64 (i : Int) ∧ As (OwnAt wr 0 (.slice Ak n ck) n L) ∧ As (∀ j, j < n → ∃ A c, L[j]? = some (.slice A size c) ∧ StR wr M A size c (nthP (doneF (keptF bs) 0 kept (waits.take i)) j)) ∧ As (Grow M w wr) ∧ As (∀ b, M b → (Value.slice Ak n ck).ownBlock ≠ some b → wr.heap[b]? = w.heap[b]?))
  case atStart => exact ⟨0, LK, by omega, rfl, HK0, HKE, ⟨Grow.refl _ _⟩, ⟨fun _ _ _ => rfl⟩⟩
  case round =>
    clear HK0 HKE
    obtain ⟨i, L, hi, rfl, HO, HE, HG, HB⟩ := hrel
    have HI := As.mk hi
    clear hi
    have HPB := As.mk ((HB.out P HD.out.mp fun e => (HD.out.km P e).2 rfl).trans HD.out.pb)
    by_cases hlt : i < m
    · have c0 : decide ((i : Int) < (m : Int)) = true := decide_eq_true (by omega)
      have c1 : decide (i < m) = true := decide_eq_true hlt
      have lt' : (i : Int) < (m : Int) := by omega
      have HWU := As.mk (show wrap64 ((i : Int) + 1) = ((i + 1 : Nat) : Int) from wrap_big hlt (by have := HMX.out; unfold maxLen at this; omega))
      obtain ⟨gw, ea, hcw⟩ := own_two_cells HD.out.wo (by have := HM.out; simp only; omega)
      try simp only at ea hcw
      subst ea
      have hmw := HD.out.wm gw rfl
      try simp only at hmw
      have hbw := HB.out gw hmw.1 hmw.2.2
      obtain ⟨A, c, e1, e2, hst⟩ := HD.out.we i (by have := HM.out; simp only; omega)
      try simp only at e1 e2 hst
      have q1 := (World.cell?_of_block (a := ⟨gw, i * 2, none⟩) hbw).trans (hcw _ _ e1)
      have q2 := (World.cell?_of_block (a := ⟨gw, i * 2 + 1, none⟩) hbw).trans (hcw _ _ e2)
      obtain ⟨hs0, hs1⟩ := HD.out.ws i (by have := HM.out; simp only; omega)
      try simp only at hs0 hs1
      obtain ⟨s, hs⟩ : ∃ s : Nat, (nthE waits i).1 = (s : Int) := ⟨(nthE waits i).1.toNat, by omega⟩
      obtain ⟨q, hq⟩ : ∃ q, q = (nthE waits i).2 := ⟨_, rfl⟩
      rw [hs] at q1 hs1
      rw [← hq] at hst
      have lsn : s < n := by omega
      have HDS := As.mk (show doneF (keptF bs) 0 kept (waits.take (i + 1)) = if (keptF bs) i = true then (doneF (keptF bs) 0 kept (waits.take i)).set s q else doneF (keptF bs) 0 kept (waits.take i) by
        rw [takeE waits i (by rw [← HM.out]; exact hlt), doneF_snoc, List.length_take, Nat.min_eq_left (by rw [← HM.out]; omega), Nat.zero_add, hs, ← hq]; rfl)
      have HLEN := As.mk (show (doneF (keptF bs) 0 kept (waits.take i)).length = n by rw [doneF_len]; exact HD.out.kl)
      obtain ⟨g1, off1, ea, _, hg2⟩ := own_shape HO.out (by omega)
      subst ea
      have hm1 := HD.out.km g1 rfl
      try simp only at hm1
      have Q1 := As.mk q1
      have Q2 := As.mk q2
      have HST := As.mk (hst.step HG.out.keeps fun b hb => .inl hb)
      have HLT := As.mk hlt
      have HSN := As.mk lsn
      have lsn' : (s : Int) < (n : Int) := by omega
      have HM1 := As.mk hm1
      have HMW := As.mk hmw
      have hba := below_alloc (Below.refl wr.heap.size wr) (.cells #[.int .i64 (s : Int), .slice A size c] 181)
      have hvw := heap_alloc_new wr (.cells #[.int .i64 (s : Int), .slice A size c] 181)
      obtain ⟨wb, hwb⟩ : ∃ wb, wr.alloc (.cells #[.int .i64 (s : Int), .slice A size c] 181) = wb := ⟨_, rfl⟩
      obtain ⟨g, hg⟩ : ∃ g, wr.heap.size = g := ⟨_, rfl⟩
      rw [hwb] at hba hvw
      rw [hg] at hvw
      have HWB := As.mk hwb
      have HGG := As.mk hg
      have HV := As.mk hvw
      have HBA := As.mk hba
      have HGS := As.mk (show wr.heap.size = g ∧ g1 < g ∧ P < g ∧ gw < g by
        have h1 := (Array.getElem?_eq_some_iff.1 HPB.out).1
        have h2 : gw < wr.heap.size := World.block_lt_of_cell? wr _ q1
        refine ⟨hg, ?_, ?_, ?_⟩ <;> omega)
      have hPb := (hba.block P (by have := HGS.out; omega)).trans HPB.out
      have HOb := As.mk (HO.out.below hba)
      have HEb := As.mk (show ∀ j, j < n → ∃ A c, L[j]? = some (.slice A size c) ∧ StR wb M A size c (nthP (doneF (keptF bs) 0 kept (waits.take i)) j) from fun j hj => by
        obtain ⟨A, c, e, h⟩ := HE.out j hj
        exact ⟨A, c, e, h.step (keepsX_below hba) fun b hb => .inl hb⟩)
      have HSTb := As.mk (HST.out.step (M' := M) (keepsX_below hba) fun b hb => .inl hb)
      have HGb := As.mk (HG.out.andThen (Grow.of_below hba))
      have HBb := As.mk (show ∀ b, M b → (Value.slice (some ⟨g1, off1, none⟩) n ck).ownBlock ≠ some b → wb.heap[b]? = w.heap[b]? from fun b hb hne => (hba.block b (Nat.lt_of_lt_of_le (HD.out.ml b hb) HG.out.size)).trans (HB.out b hb hne))
      have HG0b := As.mk (HGb.out.keeps _ _ HGM.out HG0.out)
      have HKBb := As.mk (HKB.out wb HGb.out.keeps)
      clear q1 q2 hcw hbw hmw e1 e2 hst hs0 hs1 hs hq lsn hlt hm1 hba hvw hwb hg HO HE HG HB hg2
      go_upto_region 3 with (refine wpList_load_at rfl 181 (.tmp 14) rfl ⟨gw, i * 2, none⟩ rfl [.int .i64 (s : Int), .slice A size c] _ (fun j v hv => by rcases j with _ | _ | j <;> simp at hv <;> subst hv <;> rw [Addr.add_mid] <;> first | exact Q1.out | exact Q2.out) Try.underlying181 rfl infoWr ?_)
      rw [HWB.out, HGG.out]
      have hw := HWU.out
      have v0 : wb.cell? ⟨g, 0, none⟩ = some (.int .i64 (s : Int)) := by rw [cell_of_row _ _ 0 _ _ _ HV.out]; rfl
      have v1 : wb.cell? ⟨g, 1, none⟩ = some (.slice A size c) := by rw [cell_of_row _ _ 1 _ _ _ HV.out]; rfl
      have p0 : wb.cell? ⟨P, 0, none⟩ = some (.slice (some ⟨g1, off1, none⟩) n ck) := cell_of_row wb P 0 _ _ _ hPb
      have HPb := As.mk hPb
      clear hPb
      cases hkq : (keptF bs) i with
      | true =>
        have HDT := As.mk (HDS.out.trans (if_pos hkq))
        have HKQ := As.mk hkq
        obtain ⟨u, eu, hu⟩ := HEb.out s HSN.out
        obtain ⟨ad1, e1, hc1⟩ := HOb.out.cell s _ hu.1
        cases e1
        have hfz : wb.frozen? ⟨g1, off1 + s, none⟩ = false := OwnAt.frozen HOb.out _
        have hcs : wb.cell? ⟨g1, off1 + s, none⟩ = some (.slice u size eu) := by have := hc1; rwa [Addr.add_mid] at this
        clear hkq hu hc1
        go_wp2_with (go_at_call 132; (with_reducible refine (crash1_any _ i g0 K kn kc bs HG0b.out HKBb.out).mono ?_); rintro e w3 ⟨rfl, rfl⟩; rw [HKQ.out])
        go_still_tail 9, (by kernel_rfl)
        have hbd := below_drewN (Below.refl wb.heap.size wb) 1
        have HOd := As.mk (HOb.out.below hbd)
        have HEd := As.mk (fun j hj => by
          obtain ⟨A, c, e, h⟩ := HEb.out j hj
          exact (⟨A, c, e, h.step (keepsX_below hbd) fun b hb => .inl hb⟩ : ∃ A c, L[j]? = some (.slice A size c) ∧ StR (wb.drewN 1) M A size c (nthP (doneF (keptF bs) 0 kept (waits.take i)) j)))
        have HSTd := As.mk (HSTb.out.step (M' := M) (keepsX_below hbd) fun b hb => .inl hb)
        have HGd := As.mk (HGb.out.andThen (Grow.of_below hbd))
        have HBd := As.mk (fun b (hb : M b) (hne : (Value.slice (some ⟨g1, off1, none⟩) n ck).ownBlock ≠ some b) => (hbd.block b (by have h1 := HD.out.ml b hb; have h2 := HGb.out.size; omega)).trans (HBb.out b hb hne))
        clear hbd
        go_wp2
        go_roundg (m - (i + 1))
        case measure => have := HI.out; have := HLT.out; omega
        case rel =>
          refine ⟨i + 1, L.set s (.slice A size c), by have := HI.out; have := HLT.out; omega, by go_num, ⟨OwnAt.set HOd.out s HSN.out _⟩, ⟨?_⟩, ⟨HGd.out.andThen (Grow.set HM1.out.1 _ _)⟩, ⟨fun b hb hne => ?_⟩⟩
          · rw [HDT.out]
            exact kept_set HM1.out.1 HEd.out HSN.out HOd.out.1 HLEN.out HSTd.out
          · exact (heap_setCell_other (wb.drewN 1) ⟨g1, off1 + s, none⟩ b (.slice A size c) (fun e => hne (by rw [e]; rfl))).trans (HBd.out b hb hne)
      | false =>
        have HDT := As.mk (HDS.out.trans (if_neg (by rw [hkq]; decide)))
        have HKQ := As.mk hkq
        clear hkq
        go_wp2_with (go_at_call 132; (with_reducible refine (crash1_any _ i g0 K kn kc bs HG0b.out HKBb.out).mono ?_); rintro e w3 ⟨rfl, rfl⟩; rw [HKQ.out])
        go_roundg (m - (i + 1))
        case measure => have := HI.out; have := HLT.out; omega
        case rel => exact ⟨i + 1, L, by have := HI.out; have := HLT.out; omega, by go_num, HOb, ⟨by rw [HDT.out]; exact HEb.out⟩, HGb, HBb⟩
    · have c0 : decide ((i : Int) < (m : Int)) = false := decide_eq_false (by omega)
      have c1 : decide (i < m) = false := decide_eq_false hlt
      obtain rfl : m = i := by have := HI.out; omega
      rw [show waits.take m = waits by rw [HM.out, List.take_length]] at HE
      have z2 := frozen_of_row wr P 2 _ _ HPB.out
      have p2 : wr.cell? ⟨P, 2, none⟩ = some (.slice Aw m cw) := by have := cell_of_row wr P 2 _ _ _ HPB.out; rw [HM.out]; exact this
      clear hlt
      go_wp2
      go_end0
      refine ⟨rfl, ⟨⟨Ak, ck, none, 0, Ab, cb, L, [], ?_⟩, HG.out.andThen (Grow.set HD.out.mp 2 _), fun b hb => .inl hb⟩⟩
      have hz : w.heap.size ≤ (wr.setCell ⟨P, 2, none⟩ (.slice none 0 0)).heap.size := by have := HG.out.size; simpa [World.setCell] using this
      have hkx : KeepsX wr (wr.setCell ⟨P, 2, none⟩ (.slice none 0 0)) M := keepsX_set HD.out.mp
      exact { pb := heap_setCell_same wr P 2 _ _ _ HPB.out
              mp := HD.out.mp, ml := fun b h => Nat.lt_of_lt_of_le (HD.out.ml b h) hz
              ko := HO.out.kept fun k h => heap_setCell_other _ _ _ _ (HD.out.km k h).2
              km := HD.out.km
              ke := fun j hj => by
                obtain ⟨A, c, e, h⟩ := HE.out j hj
                exact ⟨A, c, e, h.step hkx fun b hb => .inl hb⟩
              wo := World.ownsRow_nil _ _ _ _
              wm := fun b h => by simp [Value.ownBlock] at h
              we := fun j hj => by simp at hj
              kb := HD.out.kb.step (HG.out.andThen (Grow.set HD.out.mp 2 _)).keeps fun b hb => .inl hb
              n1 := HD.out.n1, sz := HD.out.sz, kl := (doneF_len _ _ _ _).trans HD.out.kl, ws := fun j hj => by simp at hj
              fs := HD.out.fs }
end Go.Proofs.Yteajblfkfmopfaa.Disk
