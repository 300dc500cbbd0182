/- crash.done with what Apply keeps. -/
import Derived.Test.YteajblfkfmopfaaCrashDone
namespace Go.Proofs.Yteajblfkfmopfaa.CrashApply
set_option linter.unusedVariables false
set_option linter.unusedSimpArgs false
open Go Go.RowKit Go.Proofs.Yteajblfkfmopfaa.Mem Go.Proofs.Yteajblfkfmopfaa.Put32 Go.Proofs.Yteajblfkfmopfaa.Sum Go.Proofs.Yteajblfkfmopfaa.Hmac Go.Proofs.Yteajblfkfmopfaa.Parts Go.Proofs.Yteajblfkfmopfaa.Entries

/-- A slice of truth values that is read. -/
structure RdB (w : World) (A : Option Addr) (n c : Nat) (bs : List Bool) : Prop where
  len : bs.length = n
  le : n ≤ c
  cap : c ≤ maxLen
  cells : 0 < n → ∃ ad, A = some ad ∧ ∀ j, j < n → w.cell? (ad.add j) = some (.bool (bs.getD j false))
theorem RdB.at {w : World} {A : Option Addr} {n c : Nat} {bs : List Bool} (h : RdB w A n c bs) (j : Nat) (hj : j < n) : ∃ ad, A = some ad ∧ w.cell? (ad.add j) = some (.bool (bs.getD j false)) := by
  obtain ⟨ad, e, hc⟩ := h.cells (by omega)
  exact ⟨ad, e, hc j hj⟩
theorem RdB.below {w w' : World} {A : Option Addr} {n c : Nat} {bs : List Bool} (h : RdB w A n c bs) (hb : Below w.heap.size w w') : RdB w' A n c bs :=
  ⟨h.len, h.le, h.cap, fun h0 => by
    obtain ⟨ad, e, hc⟩ := h.cells h0
    exact ⟨ad, e, fun j hj => (hb.cell (World.block_lt_of_cell? w _ (hc j hj))).trans (hc j hj)⟩⟩
/-- is the i-th kept? -/
def keptF (bs : List Bool) (i : Nat) : Bool := bs.getD i false
set_option maxHeartbeats 1000000 in
set_option maxRecDepth 100000 in
theorem keep1_any (w : World) (i g : Nat) (K : Option Addr) (kn kc : Nat) (bs : List Bool) (hg : w.cell? ⟨g, 0, none⟩ = some (.slice K kn kc)) (hk : RdB w K kn kc bs) :
    Calls Try.prog 118 #[.int .i64 i, .pointer (some ⟨g, 0, none⟩)] w fun e w' => e = .returned (.bool (keptF bs i)) ∧ Below w.heap.size w w' := by
  have HK := As.mk hk
  by_cases hlt : i < kn
  · have c0 : decide ((i : Int) < (kn : Int)) = true := decide_eq_true (by omega)
    have c1 : decide (i < kn) = true := decide_eq_true hlt
    have lt' : (i : Int) < (kn : Int) := by omega
    obtain ⟨ad, ea, hx⟩ := hk.at i hlt
    cases ea
    have HR := As.mk (show keptF bs i = bs.getD i false from rfl)
    obtain ⟨b, hb⟩ : ∃ b, b = bs.getD i false := ⟨_, rfl⟩
    rw [← hb] at HR hx
    clear hk hb
    go_enter Try.func118, Try.ntmps118
    go_wp2
    go_ret
    exact ⟨by rw [HR.out]; rfl, by first | exact Below.refl _ _ | exact below_drewN (Below.refl _ _) 1⟩
  · have c0 : decide ((i : Int) < (kn : Int)) = false := decide_eq_false (by omega)
    have c1 : decide (i < kn) = false := decide_eq_false hlt
    have HR := As.mk (show keptF bs i = false by rw [keptF, List.getD_eq_getElem?_getD, List.getElem?_eq_none (by rw [hk.len]; omega)]; rfl)
    clear hk hlt
    go_enter Try.func118, Try.ntmps118
    go_wp2
    go_ret
    exact ⟨by rw [HR.out]; rfl, by first | exact Below.refl _ _ | exact below_drewN (Below.refl _ _) 1⟩

/-- an image with those writes that are kept, from the i-th write on -/
def doneF (keep : Nat → Bool) : Nat → List (List Int) → List (Int × List Int) → List (List Int)
  | _, ps, [] => ps
  | i, ps, e :: r => doneF keep (i + 1) (if keep i = true then ps.set e.1.toNat e.2 else ps) r
theorem doneF_snoc (keep : Nat → Bool) : ∀ (es : List (Int × List Int)) (i : Nat) (ps : List (List Int)) (e : Int × List Int),
    doneF keep i ps (es ++ [e]) = if keep (i + es.length) = true then (doneF keep i ps es).set e.1.toNat e.2 else doneF keep i ps es
  | [], i, ps, e => rfl
  | x :: es, i, ps, e => by
    show doneF keep (i + 1) _ (es ++ [e]) = _
    rw [doneF_snoc keep es (i + 1) _ e, show i + (x :: es).length = i + 1 + es.length by simp; omega]
    rfl
theorem doneF_len (keep : Nat → Bool) : ∀ (es : List (Int × List Int)) (i : Nat) (ps : List (List Int)), (doneF keep i ps es).length = ps.length
  | [], _, _ => rfl
  | e :: r, i, ps => by
    rw [doneF, doneF_len keep r (i + 1)]
    split
    · rw [List.length_set]
    · rfl
theorem doneF_all (keep : Nat → Bool) (Q : List Int → Prop) : ∀ (es : List (Int × List Int)) (i : Nat) (ps : List (List Int)), (∀ p ∈ ps, Q p) → (∀ e ∈ es, Q e.2) → ∀ p ∈ doneF keep i ps es, Q p
  | [], _, _, h, _ => h
  | e :: r, i, ps, h, h2 => by
    rw [doneF]
    refine doneF_all keep Q r (i + 1) _ ?_ (fun x hx => h2 x (List.mem_cons_of_mem _ hx))
    split
    · intro p hp
      rcases List.mem_or_eq_of_mem_set hp with hp | rfl
      · exact h p hp
      · exact h2 e (List.mem_cons_self ..)
    · exact h
theorem takeE (es : List (Int × List Int)) (i : Nat) (h : i < es.length) : es.take (i + 1) = es.take i ++ [nthE es i] := by
  rw [List.take_succ_eq_append_getElem h, nthE, List.getD_eq_getElem?_getD, List.getElem?_eq_getElem h]
  rfl

theorem own_shape {w : World} {base n c : Nat} {A : Option Addr} {xs : List Value} (h : OwnAt w base (.slice A n c) n xs) (hn : 0 < n) : ∃ g off, A = some ⟨g, off, none⟩ ∧ base ≤ g ∧ g < w.heap.size := by
  have hlt := h.lt
  rcases h.2 with ⟨_, h0⟩ | ⟨g, off, cap, cur, T, hv, hg, hh, _⟩
  · omega
  · injection hv with e1 e2 e3
    subst e1
    exact ⟨g, off, rfl, hg, (Array.getElem?_eq_some_iff.1 hh).1⟩
theorem OwnAt.frozen {w : World} {base n c g off : Nat} {xs : List Value} (h : OwnAt w base (.slice (some ⟨g, off, none⟩) n c) n xs) (j : Nat) : w.frozen? ⟨g, j, none⟩ = false := by
  rcases h.2 with ⟨hv, _⟩ | ⟨g', off', cap, cur, T, hv, hg, hh, _⟩
  · cases hv
  · injection hv with e1 e2 e3
    injection e1 with e1
    injection e1 with e4 e5
    subst e4
    exact frozen_of_row w g j _ _ hh
/-- the first k elements are rows of the call's own, apart from the outer row -/
def Fresh (w : World) (base : Nat) (v : Value) (L : List Value) (ps : List (List Int)) (k : Nat) : Prop :=
  ∀ j, j < k → ∃ A c, L[j]? = some (.slice A (nthP ps j).length c) ∧ OwnAt w base (.slice A (nthP ps j).length c) (nthP ps j).length ((nthP ps j).map (Value.int .u8)) ∧ ∀ b, (Value.slice A (nthP ps j).length c).ownBlock = some b → some b ≠ v.ownBlock
theorem Fresh.below {w w' : World} {base : Nat} {v : Value} {L : List Value} {ps : List (List Int)} {k : Nat} (h : Fresh w base v L ps k) (hb : Below w.heap.size w w') : Fresh w' base v L ps k := fun j hj => by
  obtain ⟨A, c, e, ho, hn⟩ := h j hj
  exact ⟨A, c, e, ho.below hb, hn⟩
theorem Fresh.set {w : World} {base n c g o : Nat} {off : Nat} {L : List Value} {ps : List (List Int)} {k : Nat} (h : Fresh w base (.slice (some ⟨g, off, none⟩) n c) L ps k) (hk : k < L.length) (A : Option Addr) (m d : Nat) (hm : m = (nthP ps k).length)
    (ho : OwnAt w base (.slice A m d) m ((nthP ps k).map (Value.int .u8))) (hb : ∀ b, (Value.slice A m d).ownBlock = some b → b ≠ g) :
    Fresh (w.setCell ⟨g, o, none⟩ (.slice A m d)) base (.slice (some ⟨g, off, none⟩) n c) (L.set k (.slice A m d)) ps (k + 1) := fun j hj => by
  subst hm
  by_cases e : k = j
  · subst e
    exact ⟨A, d, by rw [List.getElem?_set, if_pos rfl, if_pos hk], ho.kept (fun b hbb => heap_setCell_other _ _ _ _ (hb b hbb)), fun b hbb => by intro e2; injection e2 with e2; exact hb b hbb e2⟩
  · obtain ⟨B, d', e1, h1, h2⟩ := h j (by omega)
    exact ⟨B, d', by rw [List.getElem?_set, if_neg e]; exact e1, h1.kept (fun b hbb => heap_setCell_other _ _ _ _ (fun e2 => h2 b hbb (by rw [e2]; rfl))), h2⟩
theorem set_same (l : List (List Int)) (i : Nat) : l.set i (l[i]?.getD []) = l := by
  apply List.ext_getElem?
  intro j
  rw [List.getElem?_set]
  by_cases e : i = j
  · subst e
    by_cases h : i < l.length
    · simp [h]
    · simp [h]
  · rw [if_neg e]
set_option maxHeartbeats 2000000 in
set_option maxRecDepth 100000 in
theorem done_any (w : World) (ps : List (List Int)) (es : List (Int × List Int)) (bs : List Bool) (A E K : Option Addr) (n c m d kn kc g : Nat) (hn : n ≤ 1000000) (hm : m ≤ 1000000) (h0 : RdP w A n c ps) (h1 : RdE w E m d es) (hk : RdB w K kn kc bs) (hg : w.cell? ⟨g, 0, none⟩ = some (.slice K kn kc)) (hlp : ∀ p ∈ ps, p.length ≤ 1000000) (hle : ∀ e ∈ es, e.2.length ≤ 1000000) (hin : ∀ j, j < m → 0 ≤ (nthE es j).1 ∧ (nthE es j).1 < n) :
    Calls Try.prog 117 #[.slice A n c, .slice E m d, .func (.func 118) #[] #[.pointer (some ⟨g, 0, none⟩)]] w fun e w' => ∃ A' c' L, e = .returned (.slice A' n c') ∧ Parts w' w.heap.size (.slice A' n c') n L (doneF (keptF bs) 0 ps es) ∧ Below w.heap.size w w' ∧ Fresh w' w.heap.size (.slice A' n c') L (doneF (keptF bs) 0 ps es) n := by
  have HN := As.mk hn
  have HM := As.mk hm
  have H0 := As.mk h0
  have H1 := As.mk h1
  have HK := As.mk hk
  have HG := As.mk hg
  have HI := As.mk hin
  have HLA := As.mk (doneF_all (keptF bs) (fun p => p.length ≤ 1000000) es 0 ps hlp hle)
  clear hn hm h0 h1 hk hg hin hlp hle
  go_enter Try.func117, Try.ntmps117
  go_wp2_with (go_at_call 186; refine (cloneP_any ps A n c w HN.out H0.out).mono ?_; rintro e w1 ⟨A1, c1, L1, rfl, hp, hb⟩; have HP1 := As.mk hp; have HB1 := As.mk hb; clear hp hb)
  go_loopg [16] m (fun kq v16 wr => ∃ (i : Nat) (L : List Value), i + kq = m ∧ v16 = .int .i64 i ∧ As (Parts wr w.heap.size (.slice A1 n c1) n L (doneF (keptF bs) 0 ps (es.take i))) ∧ As (Below w.heap.size w wr))
  case atStart => exact ⟨0, L1, by omega, rfl, HP1, HB1⟩
  case round =>
    clear HP1 HB1
    obtain ⟨i, L, hi, rfl, HP, HB⟩ := hrel
    have HII := As.mk hi
    clear hi
    by_cases hlt : i < m
    · have b0 : decide ((i : Int) < (m : Int)) = true := decide_eq_true (by omega)
      have b1 : decide (i < m) = true := decide_eq_true hlt
      have lt' : (i : Int) < (m : Int) := by omega
      have hw : wrap64 ((i : Int) + 1) = ((i + 1 : Nat) : Int) := wrap_up (by have := HM.out; omega)
      obtain ⟨ad, Aj, cj, ea, h1w, h2w, h3w⟩ := H1.out.at i hlt
      cases ea
      have h1 := (HB.out.cell (World.block_lt_of_cell? w _ h1w)).trans h1w
      have h2 := (HB.out.cell (World.block_lt_of_cell? w _ h2w)).trans h2w
      have h3 := h3w.below HB.out
      obtain ⟨hs0, hs1⟩ := HI.out i hlt
      obtain ⟨s, hs⟩ : ∃ s : Nat, (nthE es i).1 = (s : Int) := ⟨(nthE es i).1.toNat, by omega⟩
      obtain ⟨q, hq⟩ : ∃ q, q = (nthE es i).2 := ⟨_, rfl⟩
      obtain ⟨l, hl⟩ : ∃ l, l = q.length := ⟨_, rfl⟩
      rw [← hq] at h2 h3 h3w
      rw [← hl] at h2 h3 h3w
      rw [hs] at h1 hs1
      have lsn : s < n := by omega
      obtain ⟨g1, off, ea, hg1, hg2⟩ := own_shape HP.out.own (by omega)
      cases ea
      have H1c := As.mk h1
      have H2c := As.mk h2
      have HRD := As.mk h3
      have HOB := As.mk (old_apart (row := some g1) h3w (fun k hk => by cases hk; exact hg1))
      have HSN := As.mk lsn
      have HQ := As.mk hq
      have HS := As.mk hs
      have HLQ := As.mk hl
      have HLT := As.mk hlt
      have lsn' : (s : Int) < (n : Int) := by omega
      have HG1 := As.mk (show w.heap.size ≤ g1 ∧ g1 < wr.heap.size from ⟨hg1, hg2⟩)
      have HDS := As.mk (show doneF (keptF bs) 0 ps (es.take (i + 1)) = if keptF bs i = true then (doneF (keptF bs) 0 ps (es.take i)).set s q else doneF (keptF bs) 0 ps (es.take i) by
        rw [takeE es i (by rw [H1.out.len]; exact hlt), doneF_snoc, List.length_take, Nat.min_eq_left (by rw [H1.out.len]; omega), Nat.zero_add, hs, ← hq]; rfl)
      clear h1 h2 h3 h1w h2w h3w hs0 hs1 hs hq hl hlt hg1 hg2
      go_wp2_with (first
        | (refine wpList_load_at rfl 90 (.tmp 19) rfl (ad.add (i * 2)) rfl [.int .i64 (s : Int), .slice Aj l cj] _ (fun j v hv => by rcases j with _ | _ | j <;> simp at hv <;> subst hv <;> rw [add_add] <;> first | exact H1c.out | exact H2c.out) Try.underlying90 rfl infoEn ?_)
        | (go_at_call 118; refine As.out ?_))
      refine As.mk ?_
      have hba := below_alloc (Below.refl wr.heap.size wr) (.cells #[.int .i64 (s : Int), .slice Aj l cj] 90)
      have hvw := heap_alloc_new wr (.cells #[.int .i64 (s : Int), .slice Aj l cj] 90)
      have HBa := As.mk (below_step HB.out hba)
      have HG2 := As.mk ((HBa.out.cell (World.block_lt_of_cell? w _ HG.out)).trans HG.out)
      have HPa := As.mk (HP.out.below hba)
      have HRDa := As.mk (HRD.out.below hba)
      have HVW := As.mk hvw
      have HVL := As.mk (Array.getElem?_eq_some_iff.1 hvw).1
      have HVB := As.mk (show g1 ≠ wr.heap.size by have := HG1.out; omega)
      clear hba hvw
      generalize wr.alloc _ = w2 at *
      generalize wr.heap.size = bv at *
      refine (keep1_any w2 i g K kn kc bs HG2.out (HK.out.below HBa.out)).mono ?_
      rintro e w3 ⟨rfl, hb⟩
      have HB3 := As.mk (below_step HBa.out hb)
      have HP3 := As.mk (HPa.out.below hb)
      have HRD3 := As.mk (HRDa.out.below hb)
      have hv3 := (hb.block _ HVL.out).trans HVW.out
      have v0 : w3.cell? ⟨bv, 0, none⟩ = some (.int .i64 (s : Int)) := by rw [cell_of_row _ _ 0 _ _ _ hv3]; rfl
      have v1 : w3.cell? ⟨bv, 1, none⟩ = some (.slice Aj l cj) := by rw [cell_of_row _ _ 1 _ _ _ hv3]; rfl
      clear hb hv3 HB HP HBa HPa
      cases hkq : keptF bs i with
      | true =>
        have HD := As.mk (HDS.out.trans (if_pos hkq))
        obtain ⟨u, eu, hu⟩ := HP3.out.each s HSN.out
        obtain ⟨ad1, e1, hc1⟩ := HP3.out.own.cell s u eu
        cases e1
        have hfz : w3.frozen? ⟨g1, off + s, none⟩ = false := OwnAt.frozen HP3.out.own _
        have hcs : w3.cell? ⟨g1, off + s, none⟩ = some u := by have := hc1; rwa [Addr.add_mid] at this
        have HU := As.mk hu
        have HEU := As.mk eu
        clear hkq hu eu hc1
        go_wp2
        go_roundg (m - (i + 1))
        case measure => have := HII.out; have := HLT.out; omega
        case rel =>
          refine ⟨i + 1, L.set s (.slice Aj l cj), by have := HII.out; have := HLT.out; omega, by go_num, ⟨?_⟩, ⟨HB3.out.setCell HG1.out.1 _⟩⟩
          rw [HD.out]
          exact Parts.set HP3.out s HSN.out _ _ (Elem.mk' HRD3.out HOB.out)
      | false =>
        have HD := As.mk (HDS.out.trans (if_neg (by rw [hkq]; decide)))
        clear hkq
        go_wp2
        go_roundg (m - (i + 1))
        case measure => have := HII.out; have := HLT.out; omega
        case rel => exact ⟨i + 1, L, by have := HII.out; have := HLT.out; omega, by go_num, ⟨by rw [HD.out]; exact HP3.out⟩, HB3⟩
    · have b0 : decide ((i : Int) < (m : Int)) = false := decide_eq_false (by omega)
      have b1 : decide (i < m) = false := decide_eq_false hlt
      obtain rfl : m = i := by have := HII.out; omega
      have hall : es.take m = es := by rw [← H1.out.len, List.take_length]
      rw [hall] at HP
      clear hall hlt HII
      go_wp2
      obtain ⟨PS, hPS⟩ : ∃ PS, PS = doneF (keptF bs) 0 ps es := ⟨_, rfl⟩
      rw [← hPS] at HP HLA
      have HPSS := As.mk hPS
      clear hPS
      go_loopg [33] n (fun kq v33 wr => ∃ (i : Nat) (L : List Value), i + kq = n ∧ v33 = .int .i64 i ∧ As (Parts wr w.heap.size (.slice A1 n c1) n L PS) ∧ As (Below w.heap.size w wr) ∧ As (Fresh wr w.heap.size (.slice A1 n c1) L PS i))
      case atStart => exact ⟨0, L, by omega, rfl, HP, HB, ⟨fun j hj => by omega⟩⟩
      case round =>
        clear HP HB
        obtain ⟨i, L, hi, rfl, HP, HB, HF⟩ := hrel
        have HII := As.mk hi
        clear hi
        by_cases hlt : i < n
        · have b2 : decide ((i : Int) < (n : Int)) = true := decide_eq_true (by omega)
          have b3 : decide (i < n) = true := decide_eq_true hlt
          have lt' : (i : Int) < (n : Int) := by omega
          have hw : wrap64 ((i : Int) + 1) = ((i + 1 : Nat) : Int) := wrap_up (by have := HN.out; omega)
          obtain ⟨g1, off, ea, hg1, hg2⟩ := own_shape HP.out.own (by omega)
          cases ea
          obtain ⟨u, eu, hu⟩ := HP.out.each i hlt
          obtain ⟨Aj, cj, rfl, hr, hap⟩ := hu
          obtain ⟨ad1, e1, hc1⟩ := HP.out.own.cell i _ eu
          cases e1
          obtain ⟨q, hq⟩ : ∃ q, q = nthP PS i := ⟨_, rfl⟩
          obtain ⟨l, hl⟩ : ∃ l, l = q.length := ⟨_, rfl⟩
          rw [← hq, ← hl] at hr
          rw [Addr.add_mid, ← hq, ← hl] at hc1
          have HR := As.mk hr
          have HQ := As.mk hq
          have HL := As.mk hl
          have HLT := As.mk hlt
          have HLB := As.mk (show l ≤ 140737488351232 by have := HLA.out q (by rw [hq, nthP, List.getD_eq_getElem?_getD, List.getElem?_eq_getElem (by rw [HP.out.len]; exact hlt)]; exact List.getElem_mem _); omega)
          have HG1 := As.mk (show w.heap.size ≤ g1 ∧ g1 < wr.heap.size from ⟨hg1, hg2⟩)
          clear hr hq hl hlt hg1 hg2 hap eu
          go_wp2_with (go_at_call 128; refine As.out ?_)
          refine As.mk ?_
          refine (CloneB.any q Aj l cj wr HLB.out HR.out).mono ?_
          rintro e w5 ⟨A5, c5, rfl, ho, hb⟩
          have HO5 := As.mk (OwnAt.of_own ho)
          have HB5 := As.mk (below_step HB.out hb)
          have HP5 := As.mk (HP.out.below hb)
          have HF5 := As.mk (HF.out.below hb)
          have HG5 := As.mk (show w.heap.size ≤ wr.heap.size from HB.out.size)
          have hfz : w5.frozen? ⟨g1, off + i, none⟩ = false := OwnAt.frozen HP5.out.own _
          have hcs : w5.cell? ⟨g1, off + i, none⟩ = some (.slice Aj l cj) := (hb.cell (World.block_lt_of_cell? wr _ hc1)).trans hc1
          clear ho hb HB HP HF hc1
          go_wp2
          go_roundg (n - (i + 1))
          case measure => have := HII.out; have := HLT.out; omega
          case rel =>
            have hne : ∀ b, (Value.slice A5 l c5).ownBlock = some b → b ≠ g1 := fun b hb => by have h1 := (HO5.out.lt b hb).1; have h2 := HG1.out.2; omega
            have hm : l = (nthP PS i).length := by rw [← HQ.out]; exact HL.out
            have hset := Parts.set HP5.out i HLT.out (.slice A5 l c5) q (Elem.mk' (own_rd_at HO5.out) (fun _ ad ea => by subst ea; intro e2; injection e2 with e2; exact hne _ rfl e2))
            rw [show PS.set i q = PS by rw [HQ.out, nthP, List.getD_eq_getElem?_getD]; exact set_same PS i] at hset
            refine ⟨i + 1, L.set i (.slice A5 l c5), by have := HII.out; have := HLT.out; omega, by go_num, ⟨hset⟩, ⟨HB5.out.setCell HG1.out.1 _⟩, ⟨?_⟩⟩
            exact Fresh.set HF5.out (by rw [HP5.out.own.1]; exact HLT.out) A5 l c5 hm (by rw [← HQ.out]; exact HO5.out.weaken HG5.out) hne
        · have b2 : decide ((i : Int) < (n : Int)) = false := decide_eq_false (by omega)
          have b3 : decide (i < n) = false := decide_eq_false hlt
          obtain rfl : n = i := by have := HII.out; omega
          go_wp2
          go_ret
          exact ⟨A1, c1, L, rfl, by rw [← HPSS.out]; exact HP.out, HB.out, by rw [← HPSS.out]; exact HF.out⟩
theorem in_of_may {sec : Int} {m : Nat} {es : List (Int × List Int)} (h : mayF sec m es = 0) (hl : es.length = m) : (∀ j, j < m → 0 ≤ (nthE es j).1 ∧ (nthE es j).1 < sec) := fun j hj => by
  have h1 : es.any (outE sec) = false := by
    cases hq : es.any (outE sec) with
    | false => rfl
    | true => rw [mayF, if_pos hq] at h; exact absurd h (by decide)
  have h2 : outE sec (nthE es j) = false := by
    have := List.any_eq_false.1 h1 (nthE es j) (by rw [nthE, List.getD_eq_getElem?_getD, List.getElem?_eq_getElem (by omega)]; exact List.getElem_mem _)
    simpa using this
  simp only [outE, Bool.or_eq_false_iff, decide_eq_false_iff_not] at h2
  omega
set_option maxHeartbeats 2000000 in
set_option maxRecDepth 100000 in
theorem apply_bad (w : World) (es : List (Int × List Int)) (A E K : Option Addr) (n c m d kn kc : Nat) (hm : m ≤ 1000000) (h1 : RdE w E m d es) (r : Int) (hr : mayF n m es = r) (hne : ¬ r = 0) :
    Calls Try.prog 45 #[.slice A n c, .slice E m d, .slice K kn kc] w fun e w' => e = .returned (.tuple #[.slice none 0 0, .int .i64 r]) ∧ Below w.heap.size w w' := by
  have HM := As.mk hm
  have HR := As.mk hr
  have HB0 := As.mk (below_alloc (Below.refl w.heap.size w) (.cells #[.slice K kn kc] 74))
  have H1 := As.mk (h1.below HB0.out)
  have d0 : decide (r = 0) = false := decide_eq_false hne
  clear hm h1 hr
  go_enter Try.func45, Try.ntmps45
  go_wp2_with (go_at_call 116; refine As.out ?_)
  refine As.mk ?_
  generalize w.alloc _ = w0 at *
  refine (may_any w0 n E m d es HM.out H1.out).mono ?_
  rintro e w2 ⟨rfl, hb⟩
  rw [HR.out]
  have HB2 := As.mk (below_step HB0.out hb)
  clear hb
  go_wp2
  go_ret2
  exact ⟨rfl, HB2.out⟩
set_option maxHeartbeats 2000000 in
set_option maxRecDepth 100000 in
theorem apply_ok (w : World) (ps : List (List Int)) (es : List (Int × List Int)) (bs : List Bool) (A E K : Option Addr) (n c m d kn kc : Nat) (hn : n ≤ 1000000) (hm : m ≤ 1000000) (h0 : RdP w A n c ps) (h1 : RdE w E m d es) (hk : RdB w K kn kc bs) (hlp : ∀ p ∈ ps, p.length ≤ 1000000) (hle : ∀ e ∈ es, e.2.length ≤ 1000000) (hr : mayF n m es = 0) :
    Calls Try.prog 45 #[.slice A n c, .slice E m d, .slice K kn kc] w fun e w' => ∃ A' c' L B, e = .returned (.tuple #[.slice A' n c', .int .i64 0]) ∧ w.heap.size ≤ B ∧ Parts w' B (.slice A' n c') n L (doneF (keptF bs) 0 ps es) ∧ Below w.heap.size w w' ∧ Fresh w' B (.slice A' n c') L (doneF (keptF bs) 0 ps es) n := by
  have HN := As.mk hn
  have HM := As.mk hm
  have HLP := As.mk hlp
  have HLE := As.mk hle
  have HR := As.mk hr
  have HB0 := As.mk (below_alloc (Below.refl w.heap.size w) (.cells #[.slice K kn kc] 74))
  have HG : As ((w.alloc (.cells #[.slice K kn kc] 74)).cell? ⟨w.heap.size, 0, none⟩ = some (.slice K kn kc)) := ⟨by rw [cell_of_row _ _ 0 _ _ _ (heap_alloc_new w (.cells #[.slice K kn kc] 74))]; rfl⟩
  have H0 := As.mk (h0.below HB0.out)
  have H1 := As.mk (h1.below HB0.out)
  have HK := As.mk (hk.below HB0.out)
  clear hn hm h0 h1 hk hlp hle hr
  go_enter Try.func45, Try.ntmps45
  go_wp2_with (go_at_call 116; refine As.out ?_)
  refine As.mk ?_
  generalize w.alloc _ = w0 at *
  refine (may_any w0 n E m d es HM.out H1.out).mono ?_
  rintro e w2 ⟨rfl, hb⟩
  rw [HR.out]
  have HB2 := As.mk (below_step HB0.out hb)
  have HG2 := As.mk ((hb.cell (World.block_lt_of_cell? _ _ HG.out)).trans HG.out)
  have H02 := As.mk (H0.out.below hb)
  have H12 := As.mk (H1.out.below hb)
  have HK2 := As.mk (HK.out.below hb)
  clear hb
  go_wp2_with (go_at_call 117; refine (done_any w2 ps es bs A E K n c m d kn kc w.heap.size HN.out HM.out H02.out H12.out HK2.out HG2.out HLP.out HLE.out (in_of_may HR.out H12.out.len)).mono ?_; rintro e w3 ⟨A3, c3, L3, rfl, hp, hb, hf⟩; have HP3 := As.mk hp; have HB3 := As.mk (below_step HB2.out hb); have HF3 := As.mk hf; clear hp hb hf)
  go_ret2
  exact ⟨A3, c3, L3, w2.heap.size, rfl, HB2.out.size, HP3.out, HB3.out, HF3.out⟩
end Go.Proofs.Yteajblfkfmopfaa.CrashApply
