/- What is packed is unpacked: plain. chatelaineref17.Same of two like lists. What is packed is unpacked: journal.Unpack of a record's sectors, of more, of less. JournalBack: the statement. -/
import Derived.Test.YteajblfkfmopfaaJourZ
import Derived.Test.YteajblfkfmopfaaJourB
import Derived.Test.YteajblfkfmopfaaJourI
namespace Go.Proofs.Yteajblfkfmopfaa.Jour
set_option linter.unusedVariables false
set_option linter.unusedSimpArgs false
open Go Go.RowKit Go.Proofs.Yteajblfkfmopfaa.Entries Go.Proofs.Yteajblfkfmopfaa.Mem Go.Proofs.Yteajblfkfmopfaa.Pad Go.Proofs.Yteajblfkfmopfaa.Put Go.Proofs.Yteajblfkfmopfaa.Geo Go.Proofs.Yteajblfkfmopfaa.Val Go.Proofs.Yteajblfkfmopfaa.Reader Go.Proofs.Yteajblfkfmopfaa.Sum Go.Proofs.Yteajblfkfmopfaa.Hmac

theorem headB_parts (key : List Int) (ct : Nat) (es : List (Int × List Int)) {s : Nat} (hs : 64 ≤ s) :
    (headB key ct es s).take 16 = frontB ct es.length ∧ ((headB key ct es s).drop 16).take 32 = tagJ key ct es s ∧ (headB key ct es s).drop 48 = List.replicate (s - 48) 0 := by
  rw [head_eq key ct es hs]
  have h1 := front_len ct es.length
  have h2 := tagJ_len key ct es s
  refine ⟨?_, ?_, ?_⟩
  · rw [List.append_assoc, List.take_append_of_le_length (by omega), List.take_of_length_le (by omega)]
  · rw [List.append_assoc, List.drop_append_of_le_length (by omega), List.drop_of_length_le (by omega), List.nil_append, List.take_append_of_le_length (by omega), List.take_of_length_le (by omega)]
  · rw [List.drop_append_of_le_length (by rw [List.length_append]; omega), List.drop_of_length_le (by rw [List.length_append]; omega), List.nil_append]
theorem headOk_head (key : List Int) (ct : Nat) (hc : ct ≤ 1099511627776) (es : List (Int × List Int)) (hn : es.length ≤ 65536) {s : Nat} (hs : 64 ≤ s) : headOk (headB key ct es s) = true ∧ headC (headB key ct es s) = ct ∧ headN (headB key ct es s) = es.length := by
  have hp := headB_parts key ct es hs
  have hl := head_len key ct es hs
  obtain ⟨b, hb⟩ : ∃ b, headB key ct es s = b := ⟨_, rfl⟩
  rw [hb] at hp hl ⊢
  have h16 : b.take 16 = markB ++ (beB 8 ct ++ beB 4 es.length) := by rw [hp.1]; unfold frontB; rw [List.append_assoc]
  have t4 : b.take 4 = markB := by
    have : b.take 4 = (b.take 16).take 4 := by rw [List.take_take]; rfl
    rw [this, h16, List.take_append_of_le_length (by decide), List.take_of_length_le (by decide)]
  have t8 : (b.drop 4).take 8 = beB 8 ct := by
    have : (b.drop 4).take 8 = ((b.take 16).drop 4).take 8 := by rw [List.drop_take, List.take_take]; rfl
    rw [this, h16, List.drop_append_of_le_length (by decide), List.drop_of_length_le (by decide), List.nil_append, List.take_append_of_le_length (by rw [beB_len]; exact Nat.le_refl _), List.take_of_length_le (by rw [beB_len]; exact Nat.le_refl _)]
  have tn : (b.drop 12).take 4 = beB 4 es.length := by
    have : (b.drop 12).take 4 = ((b.take 16).drop 12).take 4 := by rw [List.drop_take, List.take_take]; rfl
    have e12 : (markB ++ (beB 8 ct ++ beB 4 es.length)).drop 12 = beB 4 es.length := by
      rw [← List.append_assoc, List.drop_append_of_le_length (by rw [List.length_append, beB_len]; decide), List.drop_of_length_le (by rw [List.length_append, beB_len]; decide), List.nil_append]
    rw [this, h16, e12, List.take_of_length_le (by rw [beB_len]; exact Nat.le_refl _)]
  have v8 : valB ((b.drop 4).take 8) = ct := by rw [t8]; exact valB_beB 8 ct (Nat.lt_of_le_of_lt hc (by decide))
  have v4 : valB ((b.drop 12).take 4) = es.length := by rw [tn]; exact valB_beB 4 es.length (Nat.lt_of_le_of_lt hn (by decide))
  have hok : headOk b = true := (headOk_iff b).2 ⟨by omega, t4, by rw [v8]; exact hc, by rw [v4]; exact hn, by rw [hp.2.2, hl]⟩
  refine ⟨hok, ?_, ?_⟩
  · unfold headC; rw [if_pos hok, v8]
  · unfold headN; rw [if_pos hok, v4]
theorem secs_chunk {es : List (Int × List Int)} {z : List Int} {j : Nat} (hj : j < es.length) : chunk4 (secs es ++ z) j = beB 4 (nthE es j).1.toNat := by
  have h1 := secs_take es j hj
  have hl : (secs es).length = 4 * es.length := secs_len es
  have h2 : (secs es).take (4 * j) = secs (es.take j) := by
    have e : secs es = secs (es.take j) ++ secs (es.drop j) := by unfold secs; rw [← List.flatMap_append, List.take_append_drop]
    have e2 := secs_len (es.take j)
    rw [List.length_take, Nat.min_eq_left (by omega)] at e2
    rw [e, List.take_append_of_le_length (by omega), List.take_of_length_le (by omega)]
  have h3 : (secs es).take (4 * (j + 1)) = secs (es.take (j + 1)) := by
    have e : secs es = secs (es.take (j + 1)) ++ secs (es.drop (j + 1)) := by unfold secs; rw [← List.flatMap_append, List.take_append_drop]
    have e2 := secs_len (es.take (j + 1))
    rw [List.length_take, Nat.min_eq_left (by omega)] at e2
    rw [e, List.take_append_of_le_length (by omega), List.take_of_length_le (by omega)]
  have h4 := take_chunk (secs es) j
  rw [h3, h2, h1] at h4
  have h5 := (List.append_cancel_left h4).symm
  have h6 : chunk4 (secs es ++ z) j = chunk4 (secs es) j := by
    unfold chunk4
    rw [List.drop_append_of_le_length (by omega), List.take_append_of_le_length (by rw [List.length_drop]; omega)]
  rw [h6, h5]
theorem stN_pack {es : List (Int × List Int)} {s : Nat} (hm : mayB es s = true) (z : List Int) : ∀ i, i ≤ es.length → stN (secs es ++ z) i = ⟨0, (secs es ++ z).drop (4 * i)⟩ ∧ ∀ j, j < i → svN (secs es ++ z) j = (nthE es j).1
  | 0, _ => ⟨by simp [stN], fun j hj => by omega⟩
  | i + 1, hi => by
    have ih := stN_pack hm z i (by omega)
    have hl : (secs es).length = 4 * es.length := secs_len es
    have hmy := may_at hm i (by omega)
    have hch := secs_chunk (es := es) (z := z) (j := i) (by omega)
    have hv : valB (chunk4 (secs es ++ z) i) = (nthE es i).1.toNat := by rw [hch]; exact valB_beB 4 _ (Nat.lt_of_le_of_lt (show (nthE es i).1.toNat ≤ 1048575 by omega) (by decide))
    have h1 := num_of (s := ⟨0, (secs es ++ z).drop (4 * i)⟩) (k := 4) (most := 1048575) (by decide) rfl (by show 4 ≤ ((secs es ++ z).drop (4 * i)).length; rw [List.length_drop, List.length_append]; omega) (by show (valB (chunk4 (secs es ++ z) i) : Int) ≤ 1048575; rw [hv]; omega)
    refine ⟨?_, fun j hj => ?_⟩
    · show (stN (secs es ++ z) i).num 4 1048575 = _
      rw [ih.1, h1.1]
      show (⟨0, ((secs es ++ z).drop (4 * i)).drop 4⟩ : St) = _
      rw [List.drop_drop]
      rfl
    · rcases Nat.lt_succ_iff_lt_or_eq.1 hj with h | rfl
      · exact ih.2 j h
      · unfold svN
        rw [ih.1, h1.2]
        show ((valB (chunk4 (secs es ++ z) j) : Nat) : Int) = _
        rw [hv]
        omega
theorem plOk_pack {es : List (Int × List Int)} {s : Nat} (hm : mayB es s = true) (k : Nat) : plOk (secs es ++ List.replicate k 0) es.length = true := by
  have h := (stN_pack hm (List.replicate k 0) es.length (Nat.le_refl _)).1
  have hl : (secs es).length = 4 * es.length := secs_len es
  have hd : (secs es ++ List.replicate k 0).drop (4 * es.length) = List.replicate k 0 := by
    rw [List.drop_append_of_le_length (by omega), List.drop_of_length_le (by omega), List.nil_append]
  rw [hd] at h
  have hll : (secs es ++ List.replicate k 0).length - 4 * es.length = k := by rw [List.length_append, List.length_replicate]; omega
  have hf := fix_of (s := stN (secs es ++ List.replicate k 0) es.length) (k := k) (by rw [h]) (by rw [h]; show k ≤ (List.replicate k (0 : Int)).length; rw [List.length_replicate]; exact Nat.le_refl _)
  unfold plOk
  rw [hll, hf.1, hf.2, h]
  simp only [Bool.and_eq_true, decide_eq_true_eq]
  refine ⟨?_, ?_⟩
  · show (List.replicate k (0 : Int)).take k = List.replicate ((List.replicate k (0 : Int)).take k).length 0
    rw [List.take_of_length_le (by rw [List.length_replicate]; exact Nat.le_refl _), List.length_replicate]
  · show St.done ⟨0, (List.replicate k (0 : Int)).drop k⟩ = 0
    rw [List.drop_of_length_le (by rw [List.length_replicate]; exact Nat.le_refl _)]
    rfl
/-- the record's sectors, and more behind them -/
def recRows (key : List Int) (ct : Nat) (es : List (Int × List Int)) (s q : Nat) : List (List Int) := headB key ct es s :: cutB (bodyB es s) s q
theorem datas_at {es : List (Int × List Int)} {s : Nat} (hm : mayB es s = true) {j : Nat} (hj : j < es.length) : ((datas es).drop (j * s)).take s = (nthE es j).2 := by
  have h1 := datas_take es j hj
  have hd : ∀ i, i ≤ es.length → (datas es).take (i * s) = datas (es.take i) := fun i hi => by
    have e : datas es = datas (es.take i) ++ datas (es.drop i) := by unfold datas; rw [← List.flatMap_append, List.take_append_drop]
    have hmt : mayB (es.take i) s = true := by
      unfold mayB at hm ⊢
      rw [List.all_eq_true] at hm ⊢
      exact fun e he => hm e (List.mem_of_mem_take he)
    have e2 := datas_len (es.take i) s hmt
    rw [List.length_take, Nat.min_eq_left hi] at e2
    rw [e, List.take_append_of_le_length (by omega), List.take_of_length_le (by omega)]
  have h2 := hd (j + 1) hj
  rw [Nat.add_mul, Nat.one_mul, List.take_add, hd j (by omega), h1] at h2
  exact List.append_cancel_left h2
theorem esN_pack {key : List Int} {ct : Nat} {es : List (Int × List Int)} {s q : Nat} (hs : 64 ≤ s) (hm : mayB es s = true) (hq : q = ceil (4 * es.length) s + es.length) (more : List (List Int)) :
    placesB (recRows key ct es s q ++ more) (ceil (4 * es.length) s) = padB (secs es) s ∧ esN (recRows key ct es s q ++ more) (ceil (4 * es.length) s) (padB (secs es) s) es.length = es := by
  obtain ⟨x, hx⟩ : ∃ x, ceil (4 * es.length) s = x := ⟨_, rfl⟩
  rw [hx] at hq ⊢
  have hpl : (padB (secs es) s).length = x * s := by rw [padB_len _ (by omega), secs_len, hx]
  have hp : placesB (recRows key ct es s q ++ more) x = padB (secs es) s := by
    unfold placesB recRows
    rw [List.cons_append, List.drop_succ_cons, List.drop_zero, List.take_append_of_le_length (by rw [cut_len]; omega)]
    have e : (cutB (bodyB es s) s q).take x = cutB (bodyB es s) s x := by
      unfold cutB
      rw [← List.map_take, List.take_range, Nat.min_eq_left (by omega)]
    rw [e, cut_take]
    unfold bodyB
    rw [List.take_append_of_le_length (by omega), List.take_of_length_le (by omega)]
  refine ⟨hp, ?_⟩
  refine List.ext_getElem (by rw [esN_len]) fun j h1 h2 => ?_
  have hj : j < es.length := h2
  have e1 := esN_at (rs := recRows key ct es s q ++ more) (x := x) (pl := padB (secs es) s) (m := es.length) hj
  unfold nthE at e1
  rw [List.getD_eq_getElem?_getD, List.getElem?_eq_getElem h1] at e1
  have e2 : (esN (recRows key ct es s q ++ more) x (padB (secs es) s) es.length)[j] = (svN (padB (secs es) s) j, nthP (recRows key ct es s q ++ more) (1 + x + j)) := e1
  have e3 : svN (padB (secs es) s) j = (nthE es j).1 := (stN_pack hm _ es.length (Nat.le_refl _)).2 j hj
  have e4 : nthP (recRows key ct es s q ++ more) (1 + x + j) = (nthE es j).2 := by
    have e5 : nthP (recRows key ct es s q ++ more) (1 + x + j) = nthP (cutB (bodyB es s) s q) (x + j) := by
      unfold nthP recRows
      rw [List.getD_eq_getElem?_getD, List.getElem?_append_left (by rw [List.length_cons, cut_len]; omega), show 1 + x + j = (x + j) + 1 by omega, List.getElem?_cons_succ, List.getD_eq_getElem?_getD]
    rw [e5, cut_nth _ s q (x + j) (by omega)]
    unfold bodyB
    have e6 : (padB (secs es) s ++ datas es).drop ((x + j) * s) = (datas es).drop (j * s) := by
      rw [Nat.add_mul, ← hpl, List.drop_append]
      rw [List.drop_of_length_le (by omega), List.nil_append]
      congr 1
      omega
    rw [e6, datas_at hm hj]
  rw [e2, e3, e4]
  unfold nthE
  rw [List.getD_eq_getElem?_getD, List.getElem?_eq_getElem hj]
  rfl
theorem tag_pack {key : List Int} {ct : Nat} {es : List (Int × List Int)} {s q : Nat} (hs : 64 ≤ s) (hm : mayB es s = true) (hq : q = ceil (4 * es.length) s + es.length) (more : List (List Int)) :
    tagOk key (recRows key ct es s q ++ more) q = true := by
  have hp := headB_parts key ct es hs
  have hbl : (bodyB es s).length = q * s := by rw [body_len es (by omega) hm, hq]
  have e0 : nthP (recRows key ct es s q ++ more) 0 = headB key ct es s := rfl
  have e1 : ((recRows key ct es s q ++ more).drop 1).take q = cutB (bodyB es s) s q := by
    unfold recRows
    rw [List.cons_append, List.drop_succ_cons, List.drop_zero, List.take_append_of_le_length (by rw [cut_len]; exact Nat.le_refl _), List.take_of_length_le (by rw [cut_len]; exact Nat.le_refl _)]
  unfold tagOk pts
  rw [decide_eq_true_eq, e0, e1, List.flatten_cons, hp.1, cut_all _ s q hbl, hp.2.1]
  rfl
end Go.Proofs.Yteajblfkfmopfaa.Jour
namespace Go.Proofs.Yteajblfkfmopfaa.Jour
set_option linter.unusedVariables false
set_option linter.unusedSimpArgs false
open Go Go.RowKit Go.Proofs.Yteajblfkfmopfaa.Entries Go.Proofs.Yteajblfkfmopfaa.Mem Go.Proofs.Yteajblfkfmopfaa.Pad Go.Proofs.Yteajblfkfmopfaa.Put Go.Proofs.Yteajblfkfmopfaa.Geo Go.Proofs.Yteajblfkfmopfaa.Val Go.Proofs.Yteajblfkfmopfaa.Reader Go.Proofs.Yteajblfkfmopfaa.Sum Go.Proofs.Yteajblfkfmopfaa.Hmac

set_option maxHeartbeats 2000000 in
set_option maxRecDepth 100000 in
theorem sameR_ok (w : World) (A B : Option Addr) (n c d : Nat) (es : List (Int × List Int)) (hn : n ≤ 1000000) (hl : ∀ i, i < n → (nthE es i).2.length ≤ 300) (h : RdE w A n c es) (g : RdE w B n d es) :
    Calls Try.prog 53 #[.slice A n c, .slice B n d] w fun e w' => e = .returned (.bool true) ∧ Below w.heap.size w w' := by
  have HN := As.mk hn
  have H := As.mk h
  have G := As.mk g
  have HLL := As.mk hl
  have e0 : ((n : Int) != (n : Int)) = false := by simp
  have e1 : ((n : Int) == (n : Int)) = true := by simp
  clear hn h g hl
  go_enter Try.func53, Try.ntmps53
  go_wp2
  go_loopg [5] n (fun kq v5 wr => ∃ i : Nat, i + kq = n ∧ v5 = .int .i64 (i : Int) ∧ As (Below w.heap.size w wr))
  case atStart => exact ⟨0, by omega, rfl, ⟨Below.refl _ _⟩⟩
  case round =>
    obtain ⟨i, hi, rfl, HB⟩ := hrel
    have HI := As.mk hi
    clear hi
    by_cases hlt : i < n
    · have c0 : decide ((i : Int) < (n : Int)) = true := decide_eq_true (by omega)
      have c1 : decide (i < n) = true := decide_eq_true hlt
      have lt' : (i : Int) < (n : Int) := by omega
      have hw : wrap64 ((i : Int) + 1) = ((i + 1 : Nat) : Int) := wrap_up (by have := HN.out; omega)
      obtain ⟨ad, Aj, cj, ea, h1, h2, h3⟩ := (H.out.below HB.out).at i hlt
      cases ea
      obtain ⟨bd, Bj, dj, ea, g1, g2, g3⟩ := (G.out.below HB.out).at i hlt
      cases ea
      have HLT := As.mk hlt
      have hm := HLL.out i hlt
      generalize (nthE es i) = e at *
      obtain ⟨x, b⟩ := e
      replace h1 : wr.cell? (ad.add (i * 2)) = some (.int .i64 x) := h1
      replace g1 : wr.cell? (bd.add (i * 2)) = some (.int .i64 x) := g1
      replace h2 : wr.cell? (ad.add (i * 2 + 1)) = some (.slice Aj b.length cj) := h2
      replace g2 : wr.cell? (bd.add (i * 2 + 1)) = some (.slice Bj b.length dj) := g2
      replace h3 : Rd .u8 wr Aj b.length cj b := h3
      replace g3 : Rd .u8 wr Bj b.length dj b := g3
      replace hm : b.length ≤ 300 := hm
      generalize b.length = m at *
      have h4 : wr.cell? ⟨(ad.add (i * 2)).block, (ad.add (i * 2)).off + 1, none⟩ = some (.slice Aj m cj) := by rw [← add_one, add_add]; exact h2
      have g4 : wr.cell? ⟨(bd.add (i * 2)).block, (bd.add (i * 2)).off + 1, none⟩ = some (.slice Bj m dj) := by rw [← add_one, add_add]; exact g2
      have HR1 := As.mk h3
      have HR2 := As.mk g3
      have HM := As.mk hm
      have x0 : (x != x) = false := by simp
      have x1 : (x == x) = true := by simp
      clear hlt h3 g3 h2 g2 hm
      go_wp2
      refine wp_region_held_drew (S := fun W : World => Below wr.heap.size wr W) (by kernel_rfl) (below_drewN (Below.refl _ _) 1) (fun hHeld => ?_)
      refine wpAnyH_take (i := 0) (v := .slice (some ad) n c) rfl (by kernel_rfl) (by kernel_rfl) (by kernel_rfl) (fun _ _ _ h => h) (Or.inl ⟨by rfl, fun W hW => by go_simp⟩) hHeld ?_
      try simp only [Act.put, List.setIfInBounds_toArray, List.set_cons_zero, List.set_cons_succ, List.getElem_toArray, List.getElem_cons_zero, List.getElem_cons_succ]
      refine wpAnyH_take (i := 1) (v := .int .i64 (i : Int)) rfl (by kernel_rfl) (by kernel_rfl) (by kernel_rfl) (fun _ _ _ h => h) (Or.inl ⟨by rfl, fun W hW => by go_simp⟩) hHeld ?_
      try simp only [Act.put, List.setIfInBounds_toArray, List.set_cons_zero, List.set_cons_succ, List.getElem_toArray, List.getElem_cons_zero, List.getElem_cons_succ]
      refine wpAnyH_take (i := 2) (v := .pointer (some (ad.add (i * 2)))) rfl (by kernel_rfl) (by kernel_rfl) (by kernel_rfl) (fun _ _ _ h => h) (Or.inl ⟨by rfl, fun W hW => by go_simp⟩) hHeld ?_
      try simp only [Act.put, List.setIfInBounds_toArray, List.set_cons_zero, List.set_cons_succ, List.getElem_toArray, List.getElem_cons_zero, List.getElem_cons_succ]
      refine wpAnyH_take (i := 3) (v := .pointer (some (ad.add (i * 2)))) rfl (by kernel_rfl) (by kernel_rfl) (by kernel_rfl) (fun _ _ _ h => h) (Or.inl ⟨by rfl, fun W hW => by go_simp⟩) hHeld ?_
      try simp only [Act.put, List.setIfInBounds_toArray, List.set_cons_zero, List.set_cons_succ, List.getElem_toArray, List.getElem_cons_zero, List.getElem_cons_succ]
      refine wpAnyH_take (i := 4) (v := .int .i64 x) rfl (by kernel_rfl) (by kernel_rfl) (by kernel_rfl) (fun _ _ _ h => h) (Or.inl ⟨by rfl, fun W hW => by (have q := cell_keep h1 hW; go_simp)⟩) hHeld ?_
      try simp only [Act.put, List.setIfInBounds_toArray, List.set_cons_zero, List.set_cons_succ, List.getElem_toArray, List.getElem_cons_zero, List.getElem_cons_succ]
      refine wpAnyH_take (i := 5) (v := .slice (some bd) n d) rfl (by kernel_rfl) (by kernel_rfl) (by kernel_rfl) (fun _ _ _ h => h) (Or.inl ⟨by rfl, fun W hW => by go_simp⟩) hHeld ?_
      try simp only [Act.put, List.setIfInBounds_toArray, List.set_cons_zero, List.set_cons_succ, List.getElem_toArray, List.getElem_cons_zero, List.getElem_cons_succ]
      refine wpAnyH_take (i := 6) (v := .int .i64 (i : Int)) rfl (by kernel_rfl) (by kernel_rfl) (by kernel_rfl) (fun _ _ _ h => h) (Or.inl ⟨by rfl, fun W hW => by go_simp⟩) hHeld ?_
      try simp only [Act.put, List.setIfInBounds_toArray, List.set_cons_zero, List.set_cons_succ, List.getElem_toArray, List.getElem_cons_zero, List.getElem_cons_succ]
      refine wpAnyH_take (i := 7) (v := .pointer (some (bd.add (i * 2)))) rfl (by kernel_rfl) (by kernel_rfl) (by kernel_rfl) (fun _ _ _ h => h) (Or.inl ⟨by rfl, fun W hW => by go_simp⟩) hHeld ?_
      try simp only [Act.put, List.setIfInBounds_toArray, List.set_cons_zero, List.set_cons_succ, List.getElem_toArray, List.getElem_cons_zero, List.getElem_cons_succ]
      refine wpAnyH_take (i := 8) (v := .pointer (some (bd.add (i * 2)))) rfl (by kernel_rfl) (by kernel_rfl) (by kernel_rfl) (fun _ _ _ h => h) (Or.inl ⟨by rfl, fun W hW => by go_simp⟩) hHeld ?_
      try simp only [Act.put, List.setIfInBounds_toArray, List.set_cons_zero, List.set_cons_succ, List.getElem_toArray, List.getElem_cons_zero, List.getElem_cons_succ]
      refine wpAnyH_take (i := 9) (v := .int .i64 x) rfl (by kernel_rfl) (by kernel_rfl) (by kernel_rfl) (fun _ _ _ h => h) (Or.inl ⟨by rfl, fun W hW => by (have q := cell_keep g1 hW; go_simp)⟩) hHeld ?_
      try simp only [Act.put, List.setIfInBounds_toArray, List.set_cons_zero, List.set_cons_succ, List.getElem_toArray, List.getElem_cons_zero, List.getElem_cons_succ]
      refine wpAnyH_take (i := 10) (v := .bool false) rfl (by kernel_rfl) (by kernel_rfl) (by kernel_rfl) (fun _ _ _ h => h) (Or.inl ⟨by rfl, fun W hW => by go_simp⟩) hHeld ?_
      try simp only [Act.put, List.setIfInBounds_toArray, List.set_cons_zero, List.set_cons_succ, List.getElem_toArray, List.getElem_cons_zero, List.getElem_cons_succ]
      refine wpAnyH_take (i := 11) (v := .bool false) rfl (by kernel_rfl) (by kernel_rfl) (by kernel_rfl) (fun _ _ _ h => h) (Or.inl ⟨by rfl, fun W hW => by go_simp⟩) hHeld ?_
      try simp only [Act.put, List.setIfInBounds_toArray, List.set_cons_zero, List.set_cons_succ, List.getElem_toArray, List.getElem_cons_zero, List.getElem_cons_succ]
      refine wpAnyH_take (i := 12) (v := .slice (some ad) n c) rfl (by kernel_rfl) (by kernel_rfl) (by kernel_rfl) (fun _ _ _ h => h) (Or.inl ⟨by rfl, fun W hW => by go_simp⟩) hHeld ?_
      try simp only [Act.put, List.setIfInBounds_toArray, List.set_cons_zero, List.set_cons_succ, List.getElem_toArray, List.getElem_cons_zero, List.getElem_cons_succ]
      refine wpAnyH_take (i := 13) (v := .int .i64 (i : Int)) rfl (by kernel_rfl) (by kernel_rfl) (by kernel_rfl) (fun _ _ _ h => h) (Or.inl ⟨by rfl, fun W hW => by go_simp⟩) hHeld ?_
      try simp only [Act.put, List.setIfInBounds_toArray, List.set_cons_zero, List.set_cons_succ, List.getElem_toArray, List.getElem_cons_zero, List.getElem_cons_succ]
      refine wpAnyH_take (i := 14) (v := .pointer (some (ad.add (i * 2)))) rfl (by kernel_rfl) (by kernel_rfl) (by kernel_rfl) (fun _ _ _ h => h) (Or.inl ⟨by rfl, fun W hW => by go_simp⟩) hHeld ?_
      try simp only [Act.put, List.setIfInBounds_toArray, List.set_cons_zero, List.set_cons_succ, List.getElem_toArray, List.getElem_cons_zero, List.getElem_cons_succ]
      refine wpAnyH_take (i := 15) (v := .pointer (some ⟨(ad.add (i * 2)).block, (ad.add (i * 2)).off + 1, none⟩)) rfl (by kernel_rfl) (by kernel_rfl) (by kernel_rfl) (fun _ _ _ h => h) (Or.inl ⟨by rfl, fun W hW => by go_simp⟩) hHeld ?_
      try simp only [Act.put, List.setIfInBounds_toArray, List.set_cons_zero, List.set_cons_succ, List.getElem_toArray, List.getElem_cons_zero, List.getElem_cons_succ]
      refine wpAnyH_take (i := 16) (v := .slice Aj m cj) rfl (by kernel_rfl) (by kernel_rfl) (by kernel_rfl) (fun _ _ _ h => h) (Or.inl ⟨by rfl, fun W hW => by (have q := cell_keep h4 hW; go_simp)⟩) hHeld ?_
      try simp only [Act.put, List.setIfInBounds_toArray, List.set_cons_zero, List.set_cons_succ, List.getElem_toArray, List.getElem_cons_zero, List.getElem_cons_succ]
      refine wpAnyH_take (i := 17) (v := .slice (some bd) n d) rfl (by kernel_rfl) (by kernel_rfl) (by kernel_rfl) (fun _ _ _ h => h) (Or.inl ⟨by rfl, fun W hW => by go_simp⟩) hHeld ?_
      try simp only [Act.put, List.setIfInBounds_toArray, List.set_cons_zero, List.set_cons_succ, List.getElem_toArray, List.getElem_cons_zero, List.getElem_cons_succ]
      refine wpAnyH_take (i := 18) (v := .int .i64 (i : Int)) rfl (by kernel_rfl) (by kernel_rfl) (by kernel_rfl) (fun _ _ _ h => h) (Or.inl ⟨by rfl, fun W hW => by go_simp⟩) hHeld ?_
      try simp only [Act.put, List.setIfInBounds_toArray, List.set_cons_zero, List.set_cons_succ, List.getElem_toArray, List.getElem_cons_zero, List.getElem_cons_succ]
      refine wpAnyH_take (i := 19) (v := .pointer (some (bd.add (i * 2)))) rfl (by kernel_rfl) (by kernel_rfl) (by kernel_rfl) (fun _ _ _ h => h) (Or.inl ⟨by rfl, fun W hW => by go_simp⟩) hHeld ?_
      try simp only [Act.put, List.setIfInBounds_toArray, List.set_cons_zero, List.set_cons_succ, List.getElem_toArray, List.getElem_cons_zero, List.getElem_cons_succ]
      refine wpAnyH_take (i := 20) (v := .pointer (some ⟨(bd.add (i * 2)).block, (bd.add (i * 2)).off + 1, none⟩)) rfl (by kernel_rfl) (by kernel_rfl) (by kernel_rfl) (fun _ _ _ h => h) (Or.inl ⟨by rfl, fun W hW => by go_simp⟩) hHeld ?_
      try simp only [Act.put, List.setIfInBounds_toArray, List.set_cons_zero, List.set_cons_succ, List.getElem_toArray, List.getElem_cons_zero, List.getElem_cons_succ]
      refine wpAnyH_take (i := 21) (v := .slice Bj m dj) rfl (by kernel_rfl) (by kernel_rfl) (by kernel_rfl) (fun _ _ _ h => h) (Or.inl ⟨by rfl, fun W hW => by (have q := cell_keep g4 hW; go_simp)⟩) hHeld ?_
      try simp only [Act.put, List.setIfInBounds_toArray, List.set_cons_zero, List.set_cons_succ, List.getElem_toArray, List.getElem_cons_zero, List.getElem_cons_succ]
      refine wpAnyH_ready (rs := [22]) (by kernel_rfl) (by simp) (AllReadyH.cons rfl (fun K' hK => ?_) AllReadyH.nil)
      go_simp
      refine (Go.Proofs.Yteajblfkfmopfaa.RefSame.same_any b b Aj Bj m m cj dj _ true (by have := HM.out; omega) (iff_of_true rfl rfl) (HR1.out.below hHeld) (HR2.out.below hHeld)).mono ?_
      rintro e wq ⟨rfl, nd, rfl⟩
      refine hK.out _ _ (below_drewN hHeld nd) (fun hHeld => ?_)
      clear hK
      try simp only [Act.put, List.setIfInBounds_toArray, List.set_cons_zero, List.set_cons_succ, List.getElem_toArray, List.getElem_cons_zero, List.getElem_cons_succ]
      refine wpAnyH_take (i := 23) (v := .bool false) rfl (by kernel_rfl) (by kernel_rfl) (by kernel_rfl) (fun _ _ _ h => h) (Or.inl ⟨by rfl, fun W hW => by go_simp⟩) hHeld ?_
      try simp only [Act.put, List.setIfInBounds_toArray, List.set_cons_zero, List.set_cons_succ, List.getElem_toArray, List.getElem_cons_zero, List.getElem_cons_succ]
      refine wpAnyH_take (i := 24) (v := .bool false) rfl (by kernel_rfl) (by kernel_rfl) (by kernel_rfl) (fun _ _ _ h => h) (Or.inl ⟨by rfl, fun W hW => by go_simp⟩) hHeld ?_
      try simp only [Act.put, List.setIfInBounds_toArray, List.set_cons_zero, List.set_cons_succ, List.getElem_toArray, List.getElem_cons_zero, List.getElem_cons_succ]
      refine wpAnyH_done (by kernel_rfl) ?_ _
      go_wp2
      go_roundg (n - (i + 1))
      case measure => have := HI.out; have := HLT.out; omega
      case rel => exact ⟨i + 1, by have := HI.out; have := HLT.out; omega, by go_num, ⟨below_drewN HB.out _⟩⟩
    · have c0 : decide ((i : Int) < (n : Int)) = false := decide_eq_false (by omega)
      have c1 : decide (i < n) = false := decide_eq_false hlt
      clear hlt
      go_wp2
      go_ret
      exact ⟨rfl, HB.out⟩
end Go.Proofs.Yteajblfkfmopfaa.Jour
namespace Go.Proofs.Yteajblfkfmopfaa.Jour
set_option linter.unusedVariables false
set_option linter.unusedSimpArgs false
open Go Go.RowKit Go.Proofs.Yteajblfkfmopfaa.Entries Go.Proofs.Yteajblfkfmopfaa.Mem Go.Proofs.Yteajblfkfmopfaa.Pad Go.Proofs.Yteajblfkfmopfaa.Put Go.Proofs.Yteajblfkfmopfaa.Geo Go.Proofs.Yteajblfkfmopfaa.Val Go.Proofs.Yteajblfkfmopfaa.Reader Go.Proofs.Yteajblfkfmopfaa.Sum Go.Proofs.Yteajblfkfmopfaa.Hmac Go.Proofs.Yteajblfkfmopfaa.Parts Go.Proofs.Yteajblfkfmopfaa.LayA

theorem rec_row {key : List Int} {ct : Nat} {es : List (Int × List Int)} {s q : Nat} (hs : 64 ≤ s) (hm : mayB es s = true) (hq : q = ceil (4 * es.length) s + es.length) : ∀ j, j < 1 + q → (nthP (recRows key ct es s q) j).length = s := fun j hj => by
  have hbl : (bodyB es s).length = q * s := by rw [body_len es (by omega) hm, hq]
  unfold recRows
  rcases j with _ | j
  · exact head_len key ct es hs
  · have e : nthP (headB key ct es s :: cutB (bodyB es s) s q) (j + 1) = nthP (cutB (bodyB es s) s q) j := by
      unfold nthP; rw [List.getD_eq_getElem?_getD, List.getElem?_cons_succ, List.getD_eq_getElem?_getD]
    rw [e]
    exact cut_row _ s q j (by omega) hbl
theorem rec_len (key : List Int) (ct : Nat) (es : List (Int × List Int)) (s q : Nat) : (recRows key ct es s q).length = 1 + q := by
  unfold recRows; rw [List.length_cons, cut_len]; omega
theorem nthP_left {a b : List (List Int)} {j : Nat} (h : j < a.length) : nthP (a ++ b) j = nthP a j := by
  unfold nthP; rw [List.getD_eq_getElem?_getD, List.getElem?_append_left h, List.getD_eq_getElem?_getD]
theorem nthP_right {a b : List (List Int)} {j : Nat} (h : a.length ≤ j) : nthP (a ++ b) j = nthP b (j - a.length) := by
  unfold nthP; rw [List.getD_eq_getElem?_getD, List.getElem?_append_right h, List.getD_eq_getElem?_getD]
theorem whole_of {rs : List (List Int)} {s : Nat} (hs : 64 ≤ s ∧ s ≤ 256 ∧ s % 16 = 0) (hl : 0 < rs.length) (h : ∀ j, j < rs.length → (nthP rs j).length = s) : wholeB rs = true := by
  unfold wholeB
  simp only [Bool.and_eq_true, decide_eq_true_eq]
  refine ⟨(likeB_iff rs).2 fun j hj => by rw [h j hj, h 0 hl], hl, ?_⟩
  rw [h 0 hl]
  exact (wideE_iff _).2 ⟨by omega, by omega, by omega⟩
set_option maxHeartbeats 1000000 in
theorem unpack_back (key : List Int) (hk : Byte key) (K : Option Addr) (kn kc : Nat) (hkn : kn ≤ 1099511627776) (ct : Nat) (hc : ct ≤ 1099511627776) (es : List (Int × List Int)) (s : Nat) (hs : 64 ≤ s ∧ s ≤ 256 ∧ s % 16 = 0) (hm : mayB es s = true) (n : Nat) (hn : es.length = n) (hn2 : n ≤ 65536) (q : Nat) (hq : recN n s = 1 + q) (more : List (List Int)) (hmore : ∀ p ∈ more, p.length = s)
    (rs : List (List Int)) (hrr : rs = recRows key ct es s q ++ more) (hrs : ∀ p ∈ rs, Byte p) (A : Option Addr) (m c : Nat) (hmn : m ≤ 1000) (w : World) (h0 : Rd .u8 w K kn kc key) (h : RdP w A m c rs) :
    Calls Try.prog 83 #[.slice K kn kc, .slice A m c] w fun e w' => ∃ B cb, e = .returned (.tuple #[.int .i64 (ct : Int), .slice B n cb, .int .i64 0]) ∧ Below w.heap.size w w' ∧ RdE w' B n cb es := by
  subst hn
  have hq2 : q = ceil (4 * es.length) s + es.length := by have : recN es.length s = 1 + ceil (4 * es.length) s + es.length := rfl; omega
  have hlen : rs.length = 1 + q + more.length := by rw [hrr, List.length_append, rec_len]
  have hrow : ∀ j, j < rs.length → (nthP rs j).length = s := fun j hj => by
    rw [hrr]
    by_cases h : j < (recRows key ct es s q).length
    · rw [nthP_left h]; exact rec_row hs.1 hm hq2 j (by rw [rec_len] at h; exact h)
    · rw [nthP_right (by omega)]; exact hmore _ (nthP_mem (by rw [rec_len] at h ⊢; omega))
  have hw : wholeB rs = true := whole_of hs (by omega) hrow
  have h00 : nthP rs 0 = headB key ct es s := by rw [hrr]; rfl
  have hhead := headOk_head key ct hc es hn2 hs.1
  rw [← h00] at hhead
  have hr0 : (nthP rs 0).length = s := hrow 0 (by omega)
  have hu := unpack_any key hk K kn kc hkn rs hrs A m c w hmn h0 h hw hhead.1 (by rw [hhead.2.2, hr0, hq]; have := h.len; omega)
  rw [hhead.2.2, hhead.2.1, hr0, hq] at hu
  refine hu.mono ?_
  have ht := tag_pack (key := key) (ct := ct) hs.1 hm hq2 more
  have he := esN_pack (key := key) (ct := ct) hs.1 hm hq2 more
  rw [← hrr] at ht he
  have hp : plOk (placesB rs (ceil (4 * es.length) s)) es.length = true := by rw [he.1]; exact plOk_pack hm _
  rintro e w' ⟨B, cb, hb, ⟨_, _, rfl, hre⟩ | ⟨hno, rfl⟩⟩
  · rw [he.1, he.2] at hre
    exact ⟨B, cb, rfl, hb, hre⟩
  · rw [show 1 + q - 1 = q by omega, ht, hp] at hno
    rcases hno with h | h <;> exact absurd h (by decide)
theorem unpack_less (key : List Int) (K : Option Addr) (kn kc : Nat) (ct : Nat) (hc : ct ≤ 1099511627776) (es : List (Int × List Int)) (s : Nat) (hs : 64 ≤ s ∧ s ≤ 256 ∧ s % 16 = 0) (hm : mayB es s = true) (n : Nat) (hn : es.length = n) (hn2 : n ≤ 65536) (hp : 0 < n) (q : Nat) (hq : recN n s = 1 + q)
    (hrs : ∀ p ∈ recRows key ct es s q, Byte p) (A : Option Addr) (c : Nat) (hmn : q ≤ 1000) (w : World) (h : RdP w A q c ((recRows key ct es s q).take q)) :
    Calls Try.prog 83 #[.slice K kn kc, .slice A q c] w fun e w' => e = .returned (.tuple #[.int .i64 0, .slice none 0 0, .int .i64 11]) ∧ Below w.heap.size w w' := by
  subst hn
  have hq2 : q = ceil (4 * es.length) s + es.length := by have : recN es.length s = 1 + ceil (4 * es.length) s + es.length := rfl; omega
  obtain ⟨rs, hrr⟩ : ∃ rs, (recRows key ct es s q).take q = rs := ⟨_, rfl⟩
  have hlen : rs.length = q := by rw [← hrr, List.length_take, rec_len]; omega
  have hat : ∀ j, j < q → nthP rs j = nthP (recRows key ct es s q) j := fun j hj => by
    rw [← hrr]
    unfold nthP
    rw [List.getD_eq_getElem?_getD, List.getElem?_take_of_lt hj, List.getD_eq_getElem?_getD]
  have hrow : ∀ j, j < rs.length → (nthP rs j).length = s := fun j hj => by
    rw [hat j (by omega)]; exact rec_row hs.1 hm hq2 j (by omega)
  have hw : wholeB rs = true := whole_of hs (by omega) hrow
  have h00 : nthP rs 0 = headB key ct es s := by rw [hat 0 (by omega)]; rfl
  have hhead := headOk_head key ct hc es hn2 hs.1
  rw [← h00] at hhead
  rw [hrr] at h
  refine unpack_form K kn kc rs (fun p hp => hrs p (by rw [← hrr] at hp; exact List.mem_of_mem_take hp)) A q c w (by omega) h hw (.inr ⟨hhead.1, ?_⟩)
  rw [hhead.2.2, hrow 0 (by omega), hq]
  omega
theorem run_build_0 (w : World) (t e : TypeId) (ie : TypeInfo) (hu : Try.prog.underlying t = some (.slice e)) (hie : Try.prog.info? e = some ie) :
    (Instr.buildSlice t 0 #[]).run Try.prog w = .ok (.slice (some ⟨w.heap.size, 0, none⟩) 0 0) (w.alloc (.cells #[] e)) := by
  simp [Instr.buildSlice, run_underlying hu, sizeOf, typeInfo, hie, newRow, Instr.fill]
  rw [show Array.range 0 = #[] by decide, Array.map_empty]
theorem wp_build_0 {o : Oper} {a : Act} {w : World} {K : Act → World → Prop} {Q : Exit → Act → World → Prop} (t e : TypeId) (ho : o.op = .buildSlice t 0 #[])
    (z : Value) (bytes : Nat) (hu : Try.prog.underlying t = some (.slice e)) (hinfo : (Try.prog.info? e).map (fun i => (i.zero, i.size, i.bytes)) = some (some z, 1, bytes))
    (h : K (a.put o.dst (.slice (some ⟨w.heap.size, 0, none⟩) 0 0)) (w.alloc (.cells #[] e))) : Oper.wp Try.prog o a w K Q := by
  obtain ⟨i, hi, hz, h1, h2⟩ := info_parts hinfo
  unfold Oper.wp execOp
  simp only [ho, Sem.run_bind, List.map_toArray, List.map_nil, run_build_0 w t e i hu hi, Result.andThen_ok]
  exact h
theorem own_lit0 (w : World) (T : TypeId) : OwnAt (w.alloc (.cells #[] T)) w.heap.size (.slice (some ⟨w.heap.size, 0, none⟩) 0 0) 0 [] := Go.Proofs.Yteajblfkfmopfaa.Put32.OwnAt.lit w T [] (by decide)
end Go.Proofs.Yteajblfkfmopfaa.Jour
namespace Go.Proofs.Yteajblfkfmopfaa.Jour
set_option linter.unusedVariables false
set_option linter.unusedSimpArgs false
open Go Go.RowKit Go.Proofs.Yteajblfkfmopfaa.Entries Go.Proofs.Yteajblfkfmopfaa.Mem Go.Proofs.Yteajblfkfmopfaa.Pad Go.Proofs.Yteajblfkfmopfaa.Put Go.Proofs.Yteajblfkfmopfaa.Geo Go.Proofs.Yteajblfkfmopfaa.Val Go.Proofs.Yteajblfkfmopfaa.Reader Go.Proofs.Yteajblfkfmopfaa.Sum Go.Proofs.Yteajblfkfmopfaa.Hmac Go.Proofs.Yteajblfkfmopfaa.Parts Go.Proofs.Yteajblfkfmopfaa.LayA

theorem rec_byte {key : List Int} {ct : Nat} {es : List (Int × List Int)} {s q : Nat} (hes : ∀ e ∈ es, Byte e.2) : ∀ p ∈ recRows key ct es s q, Byte p := fun p hp => by
  unfold recRows at hp
  rcases List.mem_cons.1 hp with rfl | hp
  · exact head_byte _ _ _ _
  · unfold cutB at hp
    obtain ⟨i, _, rfl⟩ := List.mem_map.1 hp
    exact fun y hy => body_byte hes s y (List.mem_of_mem_drop (List.mem_of_mem_take hy))
theorem rdp_to {w : World} {A : Option Addr} {n c : Nat} {ps : List (List Int)} (h : RdP w A n c ps) (q : Nat) (hq : q ≤ n) : RdP w (cutA A c 0 1) q c (ps.take q) :=
  ⟨by rw [List.length_take, h.len]; omega, Nat.le_trans hq h.le, h.cap, fun h0 => by
    obtain ⟨ad, e, hc⟩ := h.cells (by omega)
    have hz : cutA A c 0 1 = some ad := by
      unfold cutA
      rw [e]
      split
      · rfl
      · show some (ad.add (0 * 1)) = some ad
        rw [Nat.zero_mul, add_zero']
    refine ⟨ad, hz, fun j hj => ?_⟩
    obtain ⟨Aj, cj, h1, h2⟩ := hc j (by omega)
    have e1 : nthP (ps.take q) j = nthP ps j := by
      unfold nthP
      rw [List.getD_eq_getElem?_getD, List.getElem?_take_of_lt hj, List.getD_eq_getElem?_getD]
    rw [e1]
    exact ⟨Aj, cj, h1, h2⟩⟩
theorem more_parts {W Y : World} {base b q c c' dc bl : Nat} {P A D : Option Addr} {L : List Value} {rows : List (List Int)} {bs : List Int} (hp : Parts W base (.slice P q c) q L rows) (hb : Below W.heap.size W Y) (ho : OwnAt Y b (.slice A (q + 1) c') (q + 1) (([] ++ L) ++ [.slice D bl dc])) (hbs : Rd .u8 W D bl dc bs) : RdP Y A (q + 1) c' (rows ++ [bs]) := by
  rw [List.nil_append] at ho
  refine rdp_of_own ho (by rw [List.length_append, hp.len]; rfl) (own_caps ho) fun j hj => ?_
  have hl : L.length = q := hp.own.1
  by_cases h : j < q
  · obtain ⟨u, e, Aj, cj, rfl, hr, _⟩ := hp.each j h
    rw [Go.Proofs.Yteajblfkfmopfaa.Jour.nthP_left (by rw [hp.len]; exact h)]
    exact ⟨Aj, cj, by rw [List.getElem?_append_left (by omega)]; exact e, hr.below hb⟩
  · obtain rfl : j = q := by omega
    rw [Go.Proofs.Yteajblfkfmopfaa.Jour.nthP_right (by rw [hp.len]; exact Nat.le_refl _), hp.len, Nat.sub_self]
    have hbl := hbs.len
    refine ⟨D, dc, ?_, ?_⟩
    · rw [List.getElem?_append_right (by omega), hl, Nat.sub_self]
      show some _ = some (Value.slice D bs.length dc)
      rw [hbl]
    · show Rd .u8 Y D bs.length dc bs
      rw [hbl]
      exact hbs.below hb
set_option maxHeartbeats 4000000 in
set_option maxRecDepth 100000 in
theorem back_far (count z room : Int) (K D : Option Addr) (kn kc bl dc : Nat) (es : List (Int × List Int)) (A : Option Addr) (n c : Nat) (w : World) (hn : n ≤ 9223372036854775807) (h : fewB es = false ∨ (fewB es = true ∧ 100 < kn) ∨ (fewB es = true ∧ kn ≤ 100 ∧ 300 < bl)) (h1 : RdE w A n c es) :
    Calls Try.prog 15 #[.agg #[.slice K kn kc, .int .i64 count, .int .i64 z, .int .i64 room], .slice A n c, .slice D bl dc] w fun e w' => e = .returned (.bool true) ∧ Below w.heap.size w w' := by
  have HN := As.mk hn
  have HB0 := As.mk (below_alloc (Below.refl w.heap.size w) (.cells #[.slice K kn kc, .int .i64 count, .int .i64 z, .int .i64 room] 119))
  have HG0 := As.mk (heap_alloc_new w (.cells #[.slice K kn kc, .int .i64 count, .int .i64 z, .int .i64 room] 119))
  have H10 := As.mk (h1.below HB0.out)
  clear hn h1
  rcases h with h | ⟨h, hk⟩ | ⟨h, hk, hd⟩
  · have HF := As.mk h
    clear h
    go_enter Try.func15, Try.ntmps15
    go_wp2_with (first
      | (refine wpList_boxArr rfl 119 _ rfl #[.slice K kn kc, .int .i64 count, .int .i64 z, .int .i64 room] rfl ?_)
      | (go_at_call 73; (with_reducible refine (awake_true _).mono ?_); rintro e w1 ⟨rfl, hb⟩; have HB1 := As.mk (below_step HB0.out hb); have H11 := As.mk (H10.out.below hb); clear hb)
      | (go_at_call 74; (with_reducible refine (few_any w1 A n c es HN.out H11.out false HF.out).mono ?_); rintro e w2 ⟨rfl, hb⟩; have HB2 := As.mk (below_step HB1.out hb); clear hb))
    go_ret
    exact ⟨rfl, HB2.out⟩
  · have HF := As.mk h
    have d0 : decide (100 < (kn : Int)) = true := decide_eq_true (by omega)
    have d1 : decide (100 < kn) = true := decide_eq_true hk
    clear h hk
    go_enter Try.func15, Try.ntmps15
    go_wp2_with (first
      | (refine wpList_boxArr rfl 119 _ rfl #[.slice K kn kc, .int .i64 count, .int .i64 z, .int .i64 room] rfl ?_)
      | (go_at_call 73; (with_reducible refine (awake_true _).mono ?_); rintro e w1 ⟨rfl, hb⟩; have HB1 := As.mk (below_step HB0.out hb); have HG1 := As.mk ((hb.block _ (Array.getElem?_eq_some_iff.1 HG0.out).1).trans HG0.out); have H11 := As.mk (H10.out.below hb); clear hb)
      | (go_at_call 74; (with_reducible refine (few_any w1 A n c es HN.out H11.out true HF.out).mono ?_); rintro e w2 ⟨rfl, hb⟩; have HB2 := As.mk (below_step HB1.out hb); have HG2 := As.mk ((hb.block _ (Array.getElem?_eq_some_iff.1 HG1.out).1).trans HG1.out); have cz0 : w2.cell? ⟨w.heap.size, 0, none⟩ = some (.slice K kn kc) := cell_of_row w2 _ 0 _ _ _ HG2.out; clear hb))
    go_ret
    exact ⟨rfl, HB2.out⟩
  · have HF := As.mk h
    have d0 : decide (100 < (kn : Int)) = false := decide_eq_false (by omega)
    have d1 : decide (100 < kn) = false := decide_eq_false (by omega)
    have d2 : decide (300 < (bl : Int)) = true := decide_eq_true (by omega)
    have d3 : decide (300 < bl) = true := decide_eq_true hd
    clear h hk hd
    go_enter Try.func15, Try.ntmps15
    go_wp2_with (first
      | (refine wpList_boxArr rfl 119 _ rfl #[.slice K kn kc, .int .i64 count, .int .i64 z, .int .i64 room] rfl ?_)
      | (go_at_call 73; (with_reducible refine (awake_true _).mono ?_); rintro e w1 ⟨rfl, hb⟩; have HB1 := As.mk (below_step HB0.out hb); have HG1 := As.mk ((hb.block _ (Array.getElem?_eq_some_iff.1 HG0.out).1).trans HG0.out); have H11 := As.mk (H10.out.below hb); clear hb)
      | (go_at_call 74; (with_reducible refine (few_any w1 A n c es HN.out H11.out true HF.out).mono ?_); rintro e w2 ⟨rfl, hb⟩; have HB2 := As.mk (below_step HB1.out hb); have HG2 := As.mk ((hb.block _ (Array.getElem?_eq_some_iff.1 HG1.out).1).trans HG1.out); have cz0 : w2.cell? ⟨w.heap.size, 0, none⟩ = some (.slice K kn kc) := cell_of_row w2 _ 0 _ _ _ HG2.out; clear hb))
    go_ret
    exact ⟨rfl, HB2.out⟩
set_option maxHeartbeats 4000000 in
set_option maxRecDepth 100000 in
theorem back_no (count z room : Int) (K D : Option Addr) (kn kc bl dc : Nat) (hkn : kn ≤ 100) (hbl : bl ≤ 300) (es : List (Int × List Int)) (A : Option Addr) (n c : Nat) (w : World) (hf : fewB es = true) (h1 : RdE w A n c es) (r : Int) (hr : r ≠ 0)
    (hp : ∀ W, RdE W A n c es → Calls Try.prog 78 #[.slice K kn kc, .int .i64 count, .slice A n c, .int .i64 z, .int .i64 room] W fun e w' => e = .returned (.tuple #[.slice none 0 0, .int .i64 r]) ∧ Below W.heap.size W w') :
    Calls Try.prog 15 #[.agg #[.slice K kn kc, .int .i64 count, .int .i64 z, .int .i64 room], .slice A n c, .slice D bl dc] w fun e w' => e = .returned (.bool true) ∧ Below w.heap.size w w' := by
  have HB0 := As.mk (below_alloc (Below.refl w.heap.size w) (.cells #[.slice K kn kc, .int .i64 count, .int .i64 z, .int .i64 room] 119))
  have HG0 := As.mk (heap_alloc_new w (.cells #[.slice K kn kc, .int .i64 count, .int .i64 z, .int .i64 room] 119))
  have H10 := As.mk (h1.below HB0.out)
  have HN := As.mk (show n ≤ 20 by rw [← h1.len]; exact ((few_iff es).1 hf).2)
  have HF := As.mk hf
  have d0 : decide (100 < (kn : Int)) = false := decide_eq_false (by omega)
  have d1 : decide (100 < kn) = false := decide_eq_false (by omega)
  have d2 : decide (300 < (bl : Int)) = false := decide_eq_false (by omega)
  have d3 : decide (300 < bl) = false := decide_eq_false (by omega)
  have HPA := As.mk hp
  have r0 : (r == 0) = false := beq_eq_false_iff_ne.2 hr
  have r1 : (r != 0) = true := by rw [bne, r0]; rfl
  clear h1 hf hkn hbl hp hr
  go_enter Try.func15, Try.ntmps15
  go_wp2_with (first
    | (refine wpList_boxArr rfl 119 _ rfl #[.slice K kn kc, .int .i64 count, .int .i64 z, .int .i64 room] rfl ?_)
    | (go_at_call 73; (with_reducible refine (awake_true _).mono ?_); rintro e w1 ⟨rfl, hb⟩; have HB1 := As.mk (below_step HB0.out hb); have HG1 := As.mk ((hb.block _ (Array.getElem?_eq_some_iff.1 HG0.out).1).trans HG0.out); have H11 := As.mk (H10.out.below hb); clear hb)
    | (go_at_call 74; (with_reducible refine (few_any w1 A n c es (by have := HN.out; omega) H11.out true HF.out).mono ?_); rintro e w2 ⟨rfl, hb⟩; have HB2 := As.mk (below_step HB1.out hb); have HG2 := As.mk ((hb.block _ (Array.getElem?_eq_some_iff.1 HG1.out).1).trans HG1.out); have H12 := As.mk (H11.out.below hb); have cz0 : w2.cell? ⟨w.heap.size, 0, none⟩ = some (.slice K kn kc) := cell_of_row w2 _ 0 _ _ _ HG2.out; have cz1 : w2.cell? ⟨w.heap.size, 1, none⟩ = some (.int .i64 count) := cell_of_row w2 _ 1 _ _ _ HG2.out; have cz2 : w2.cell? ⟨w.heap.size, 2, none⟩ = some (.int .i64 z) := cell_of_row w2 _ 2 _ _ _ HG2.out; have cz3 : w2.cell? ⟨w.heap.size, 3, none⟩ = some (.int .i64 room) := cell_of_row w2 _ 3 _ _ _ HG2.out; clear hb)
    | (go_at_call 78; (with_reducible refine (HPA.out w2 H12.out).mono ?_); rintro e w3 ⟨rfl, hb⟩; have HB3 := As.mk (below_step HB2.out hb); clear hb))
  go_ret
  exact ⟨rfl, HB3.out⟩
set_option maxHeartbeats 8000000 in
set_option maxRecDepth 100000 in
theorem back_ok (ct s : Nat) (room : Int) (key : List Int) (hk : Byte key) (K D : Option Addr) (kn kc bl dc : Nat) (hkn : kn ≤ 100) (hbl : bl ≤ 300) (bs : List Int) (hbs : Byte bs) (es : List (Int × List Int)) (hes : ∀ e ∈ es, Byte e.2) (A : Option Addr) (n c : Nat) (w : World) (hf : fewB es = true) (h0 : Rd .u8 w K kn kc key) (h1 : RdE w A n c es) (h2 : Rd .u8 w D bl dc bs)
    (hct : ct ≤ 1099511627776) (hs : 64 ≤ s ∧ s ≤ 256 ∧ s % 16 = 0) (hm : mayB es s = true) (q : Nat) (hq : recN n s = 1 + q) (hroom : ((1 + q : Nat) : Int) ≤ room) :
    Calls Try.prog 15 #[.agg #[.slice K kn kc, .int .i64 (ct : Int), .int .i64 (s : Int), .int .i64 room], .slice A n c, .slice D bl dc] w fun e w' => e = .returned (.bool true) ∧ Below w.heap.size w w' := by
  have HB0 := As.mk (below_alloc (Below.refl w.heap.size w) (.cells #[.slice K kn kc, .int .i64 (ct : Int), .int .i64 (s : Int), .int .i64 room] 119))
  have HG0 := As.mk (heap_alloc_new w (.cells #[.slice K kn kc, .int .i64 (ct : Int), .int .i64 (s : Int), .int .i64 room] 119))
  have H10 := As.mk (h1.below HB0.out)
  have HN := As.mk (show n ≤ 20 by rw [← h1.len]; exact ((few_iff es).1 hf).2)
  have HF := As.mk hf
  have d0 : decide (100 < (kn : Int)) = false := decide_eq_false (by omega)
  have d1 : decide (100 < kn) = false := decide_eq_false (by omega)
  have d2 : decide (300 < (bl : Int)) = false := decide_eq_false (by omega)
  have d3 : decide (300 < bl) = false := decide_eq_false (by omega)
  have HX := As.mk hk
  have HKN := As.mk hkn
  have HBL := As.mk hbl
  have HBS := As.mk hbs
  have HES := As.mk hes
  have HEL := As.mk h1.len
  have HBSL := As.mk h2.len
  have H00 := As.mk (h0.below HB0.out)
  have H20 := As.mk (h2.below HB0.out)
  have HC := As.mk hct
  have HS := As.mk hs
  have HM := As.mk hm
  have HL3 := As.mk (show ∀ i, i < n → (nthE es i).2.length ≤ 300 from fun i hi => ((few_iff es).1 hf).1 i (by rw [HEL.out]; exact hi))
  have hqv : recN n s = 1 + ceil (4 * n) s + n := rfl
  have HQZ := As.mk (show n = 0 → q = 0 by
    rintro rfl
    have : ceil (4 * 0) s = 0 := by unfold ceil; rw [Nat.mul_zero, Nat.zero_add]; exact Nat.div_eq_of_lt (by omega)
    omega)
  have HQL := As.mk (show q ≤ 40 by have h2 := index_le (n := n) hs.1; have := HN.out; omega)
  obtain ⟨q1, hq1⟩ : ∃ q1, q1 = 1 + q := ⟨_, rfl⟩
  have HQ1 := As.mk hq1
  have HQ := As.mk hq
  obtain ⟨rows, hrows⟩ : ∃ rows, recRows key ct es s q = rows := ⟨_, rfl⟩
  have HRO := As.mk hrows
  have HRB := As.mk (show ∀ p ∈ rows, Byte p by rw [← hrows]; exact rec_byte hes)
  have HPA : As (∀ W, Rd .u8 W K kn kc key → RdE W A n c es → Calls Try.prog 78 #[.slice K kn kc, .int .i64 (ct : Int), .slice A n c, .int .i64 (s : Int), .int .i64 room] W fun e w' => ∃ P cp L, e = .returned (.tuple #[.slice P q1 cp, .int .i64 0]) ∧ Parts w' W.heap.size (.slice P q1 cp) q1 L rows ∧ Below W.heap.size W w') := ⟨fun W hK hW => by
    rw [hq1, ← hrows]
    exact pack_ok key HX.out K kn kc ct HC.out A n c es HES.out s HS.out HM.out room (by have := HN.out; omega) q HQ.out (by omega) W hK hW (by have := HKN.out; omega)⟩
  have HUA : As (∀ (P : Option Addr) (cp : Nat) W, Rd .u8 W K kn kc key → RdP W P q1 cp rows → Calls Try.prog 83 #[.slice K kn kc, .slice P q1 cp] W fun e w' => ∃ B cb, e = .returned (.tuple #[.int .i64 (ct : Int), .slice B n cb, .int .i64 0]) ∧ Below W.heap.size W w' ∧ RdE w' B n cb es) := ⟨fun P cp W hK hW =>
    unpack_back key HX.out K kn kc (by have := HKN.out; omega) ct HC.out es s HS.out HM.out n HEL.out (by have := HN.out; omega) q HQ.out [] (fun p hp => absurd hp List.not_mem_nil) rows (by rw [List.append_nil, HRO.out]) HRB.out P q1 cp (by have := HQ1.out; have := HQL.out; omega) W hK hW⟩
  have HUB : As (bl = s → ∀ (P : Option Addr) (cp : Nat) W, Rd .u8 W K kn kc key → RdP W P (q1 + 1) cp (rows ++ [bs]) → Calls Try.prog 83 #[.slice K kn kc, .slice P (q1 + 1) cp] W fun e w' => ∃ B cb, e = .returned (.tuple #[.int .i64 (ct : Int), .slice B n cb, .int .i64 0]) ∧ Below W.heap.size W w' ∧ RdE w' B n cb es) := ⟨fun hb P cp W hK hW =>
    unpack_back key HX.out K kn kc (by have := HKN.out; omega) ct HC.out es s HS.out HM.out n HEL.out (by have := HN.out; omega) q HQ.out [bs] (fun p hp => by rw [List.mem_singleton.1 hp, HBSL.out]; exact hb) (rows ++ [bs]) (by rw [HRO.out]) (fun p hp => (List.mem_append.1 hp).elim (HRB.out p) fun h => by rw [List.mem_singleton.1 h]; exact HBS.out) P (q1 + 1) cp (by have := HQ1.out; have := HQL.out; omega) W hK hW⟩
  have HUL : As (0 < n → ∀ (P : Option Addr) (cp : Nat) W, RdP W P q cp (rows.take q) → Calls Try.prog 83 #[.slice K kn kc, .slice P q cp] W fun e w' => e = .returned (.tuple #[.int .i64 0, .slice none 0 0, .int .i64 11]) ∧ Below W.heap.size W w') := ⟨fun hp P cp W hW =>
    unpack_less key K kn kc ct HC.out es s HS.out HM.out n HEL.out (by have := HN.out; omega) hp q HQ.out (by rw [HRO.out]; exact HRB.out) P cp (by have := HQL.out; omega) W (by rw [HRO.out]; exact hW)⟩
  have r0 : decide (room < (q1 : Int)) = false := decide_eq_false (by omega)
  have x0 : ((ct : Int) != (ct : Int)) = false := by simp
  have x1 : ((ct : Int) == (ct : Int)) = true := by simp
  have HQW := As.mk (show (q1 : Int) - 1 = (q : Int) by omega)
  have hcp : ∀ (P : Option Addr) (cp : Nat), q1 ≤ cp → ∀ W, (Instr.slice 50 (.slice P q1 cp) none (some (.int .i64 (q : Int))) none).run Try.prog W = .ok (.slice (cutA P cp 0 1) q cp) W := fun P cp h W => run_cut_to (P := Try.prog) W 50 37 Try.underlying50 infoS P q1 cp q .i64 (by omega)
  have HCP := As.mk hcp
  have hways : (bl = s ∨ bl ≠ s) := by omega
  have hzz : (n = 0 ∨ 0 < n) := by omega
  clear hf h0 h1 h2 hk hkn hbl hbs hes hct hs hm hq hroom hq1 hrows hqv hcp
  go_enter Try.func15, Try.ntmps15
  go_upto_region 11 with (first
    | (refine wpList_boxArr rfl 119 _ rfl #[.slice K kn kc, .int .i64 (ct : Int), .int .i64 (s : Int), .int .i64 room] rfl ?_)
    | (go_at_call 73; (with_reducible refine (awake_true _).mono ?_); rintro e w1 ⟨rfl, hb⟩; have HB1 := As.mk (below_step HB0.out hb); have HG1 := As.mk ((hb.block _ (Array.getElem?_eq_some_iff.1 HG0.out).1).trans HG0.out); have H11 := As.mk (H10.out.below hb); have H01 := As.mk (H00.out.below hb); have H21 := As.mk (H20.out.below hb); clear hb)
    | (go_at_call 74; (with_reducible refine (few_any w1 A n c es (by have := HN.out; omega) H11.out true HF.out).mono ?_); rintro e w2 ⟨rfl, hb⟩; have HB2 := As.mk (below_step HB1.out hb); have HG2 := As.mk ((hb.block _ (Array.getElem?_eq_some_iff.1 HG1.out).1).trans HG1.out); have H12 := As.mk (H11.out.below hb); have H02 := As.mk (H01.out.below hb); have H22 := As.mk (H21.out.below hb); have cz0 : w2.cell? ⟨w.heap.size, 0, none⟩ = some (.slice K kn kc) := cell_of_row w2 _ 0 _ _ _ HG2.out; have cz1 : w2.cell? ⟨w.heap.size, 1, none⟩ = some (.int .i64 (ct : Int)) := cell_of_row w2 _ 1 _ _ _ HG2.out; have cz2 : w2.cell? ⟨w.heap.size, 2, none⟩ = some (.int .i64 (s : Int)) := cell_of_row w2 _ 2 _ _ _ HG2.out; have cz3 : w2.cell? ⟨w.heap.size, 3, none⟩ = some (.int .i64 room) := cell_of_row w2 _ 3 _ _ _ HG2.out; clear hb)
    | (go_at_call 78; (with_reducible refine (HPA.out w2 H02.out H12.out).mono ?_); rintro e w3 ⟨P, cp, L, rfl, hp, hb⟩; have HP3 := As.mk hp; have HPP := As.mk hp.rdp; have HB3 := As.mk (below_step HB2.out hb); have HG3 := As.mk ((hb.block _ (Array.getElem?_eq_some_iff.1 HG2.out).1).trans HG2.out); have H13 := As.mk (H12.out.below hb); have H03 := As.mk (H02.out.below hb); have H23 := As.mk (H22.out.below hb); have cy0 : w3.cell? ⟨w.heap.size, 0, none⟩ = some (.slice K kn kc) := cell_of_row w3 _ 0 _ _ _ HG3.out; clear hp hb)
    | (go_at_call 83; (with_reducible refine (HUA.out P cp w3 H03.out HPP.out).mono ?_); rintro e w4 ⟨B4, cb4, rfl, hb, hre⟩; have HRE := As.mk hre; have HP4 := As.mk (HP3.out.below hb); have HB4 := As.mk (below_step HB3.out hb); have HG4 := As.mk ((hb.block _ (Array.getElem?_eq_some_iff.1 HG3.out).1).trans HG3.out); have H14 := As.mk (H13.out.below hb); have H04 := As.mk (H03.out.below hb); have H24 := As.mk (H23.out.below hb); have cx1 : w4.cell? ⟨w.heap.size, 1, none⟩ = some (.int .i64 (ct : Int)) := cell_of_row w4 _ 1 _ _ _ HG4.out; clear hb hre)
    | (go_at_call 53; (with_reducible refine (sameR_ok w4 B4 A n cb4 c es (by have := HN.out; omega) HL3.out HRE.out H14.out).mono ?_); rintro e w5 ⟨rfl, hb⟩; have HP5 := As.mk (HP4.out.below hb); have HB5 := As.mk (below_step HB4.out hb); have HG5 := As.mk ((hb.block _ (Array.getElem?_eq_some_iff.1 HG4.out).1).trans HG4.out); have H15 := As.mk (H14.out.below hb); have H05 := As.mk (H04.out.below hb); have H25 := As.mk (H24.out.below hb); have cw0 : w5.cell? ⟨w.heap.size, 0, none⟩ = some (.slice K kn kc) := cell_of_row w5 _ 0 _ _ _ HG5.out; have cw2 : w5.cell? ⟨w.heap.size, 2, none⟩ = some (.int .i64 (s : Int)) := cell_of_row w5 _ 2 _ _ _ HG5.out; have cw3 : w5.cell? ⟨w.heap.size, 3, none⟩ = some (.int .i64 room) := cell_of_row w5 _ 3 _ _ _ HG5.out; clear hb)
    )
  clear cz0 cz1 cz2 cz3 cy0 cx1
  rcases hways with hbe | hbe
  · have HBE := As.mk hbe
    have b0 : ((bl : Int) == (s : Int)) = true := by rw [hbe]; simp
    have b1 : (bl == s) = true := by rw [hbe]; simp
    clear hbe
    go_upto_region 12 with fail
    go_cut [12, 13, 14] (fun s12 s13 s14 wx => ∃ B8 cb8, s12 = .int .i64 (ct : Int) ∧ s13 = .slice B8 n cb8 ∧ s14 = .int .i64 0 ∧ As (RdE wx B8 n cb8 es) ∧ As (Below w5.heap.size w5 wx))
    case first =>
      refine wp_region_held_drew (S := fun W : World => Below w5.heap.size w5 W) (by kernel_rfl) (below_drewN (Below.refl _ _) 1) (fun hHeld => ?_)
      refine wpAnyH_take (i := 0) (v := .pointer (some ⟨w.heap.size, 0, none⟩)) rfl (by kernel_rfl) (by kernel_rfl) (by kernel_rfl) (fun _ _ _ h => h) (Or.inl ⟨by rfl, fun W hW => by go_simp⟩) hHeld ?_
      try simp only [Act.put, List.setIfInBounds_toArray, List.set_cons_zero, List.set_cons_succ, List.getElem_toArray, List.getElem_cons_zero, List.getElem_cons_succ]
      refine wpAnyH_take (i := 1) (v := .slice K kn kc) rfl (by kernel_rfl) (by kernel_rfl) (by kernel_rfl) (fun _ _ _ h => h) (Or.inl ⟨by rfl, fun W hW => by (have q := cell_keep cw0 hW; go_simp)⟩) hHeld ?_
      try simp only [Act.put, List.setIfInBounds_toArray, List.set_cons_zero, List.set_cons_succ, List.getElem_toArray, List.getElem_cons_zero, List.getElem_cons_succ]
      refine wpAnyH_take (i := 3) (v := .slice P q1 cp) rfl (by kernel_rfl) (by kernel_rfl) (by kernel_rfl) (fun _ _ _ h => h) (Or.inl ⟨by rfl, fun W hW => by go_simp⟩) hHeld ?_
      try simp only [Act.put, List.setIfInBounds_toArray, List.set_cons_zero, List.set_cons_succ, List.getElem_toArray, List.getElem_cons_zero, List.getElem_cons_succ]
      refine wpAnyH_take (i := 5) (v := .slice D bl dc) rfl (by kernel_rfl) (by kernel_rfl) (by kernel_rfl) (fun _ _ _ h => h) (Or.inl ⟨by rfl, fun W hW => by go_simp⟩) hHeld ?_
      try simp only [Act.put, List.setIfInBounds_toArray, List.set_cons_zero, List.set_cons_succ, List.getElem_toArray, List.getElem_cons_zero, List.getElem_cons_succ]
      have HB90 := As.mk (show Below w5.heap.size w5 w5.drew from below_drewN (Below.refl w5.heap.size w5) 1)
      refine wpAnyH_ready (rs := [2, 6]) (by kernel_rfl) (by simp) (AllReadyH.cons rfl (fun K' hK => ?_) (AllReadyH.cons rfl (fun K' hK => ?_) AllReadyH.nil))
      · have tok := True.intro
        rw [if_pos (by rfl)]
        refine wp_build_0 50 37 rfl (.slice none 0 0) 24 Try.underlying50 infoS ?_
        have HB1 := As.mk (below_alloc HB90.out (.cells #[] 37))
        have HL1 := As.mk (show w5.heap.size ≤ (w5.drew).heap.size from HB90.out.size)
        have BA1 := As.mk (below_alloc (Below.refl _ (w5.drew)) (.cells #[] 37))
        have HO1 := As.mk (own_lit0 (w5.drew) 37)
        clear BA1
        generalize hg1 : (w5.drew).alloc _ = W1 at *
        generalize hb1 : (w5.drew).heap.size = b1 at *
        have HLT1 := As.mk (show b1 < W1.heap.size by rw [← hg1, ← hb1]; simp)
        clear hg1
        refine hK.out _ _ HB1.out (fun hHeld => ?_)
        clear hK
        try simp only [Act.put, List.setIfInBounds_toArray, List.set_cons_zero, List.set_cons_succ, List.getElem_toArray, List.getElem_cons_zero, List.getElem_cons_succ]
        refine wpAnyH_ready (rs := [4, 6]) (by kernel_rfl) (by simp) (AllReadyH.cons rfl (fun K' hK => ?_) (AllReadyH.cons rfl (fun K' hK => ?_) AllReadyH.nil))
        · have tok := True.intro
          rw [if_pos (by rfl)]
          have HSR2 := As.mk (src_below HP5.out.src HB1.out)
          refine wp_app2 (.tmp 89) (.tmp 90) 50 rfl b1 37 (.slice none 0 0) 24 Try.underlying50 infoS rfl _ 0 _ rfl HO1.out _ q1 L rfl HSR2.out (by have := HQ1.out; have := HQL.out; unfold maxLen; omega) (by have := HQ1.out; have := HQL.out; omega) (Nat.le_of_lt HLT1.out) HB1.out HL1.out ?_
          rw [Nat.zero_add]
          intro v2 W2 hown hg hat hb
          obtain ⟨A2, c2, rfl⟩ := hown.slice
          have HB2 := As.mk hb
          have HO2 := As.mk hown
          have HLT2 := As.mk (Nat.lt_of_lt_of_le HLT1.out hg.size)
          clear hown hg hat hb
          refine hK.out _ _ HB2.out (fun hHeld => ?_)
          clear hK
          try simp only [Act.put, List.setIfInBounds_toArray, List.set_cons_zero, List.set_cons_succ, List.getElem_toArray, List.getElem_cons_zero, List.getElem_cons_succ]
          refine wpAnyH_ready (rs := [6]) (by kernel_rfl) (by simp) (AllReadyH.cons rfl (fun K' hK => ?_) AllReadyH.nil)
          rw [if_pos (by rfl)]
          refine wp_build_1 50 37 (.tmp 92) rfl (.slice D bl dc) (.slice none 0 0) 24 Try.underlying50 infoS rfl rfl ?_
          have HB3 := As.mk (below_alloc HB2.out (.cells #[.slice D bl dc] 37))
          have HL3 := As.mk (show w5.heap.size ≤ (W2).heap.size from HB2.out.size)
          have BA3 := As.mk (below_alloc (Below.refl _ (W2)) (.cells #[.slice D bl dc] 37))
          have HC3 := As.mk (heap_alloc_new (W2) (.cells #[.slice D bl dc] 37))
          have HO3 := As.mk (HO2.out.below BA3.out)
          have HLT3 := As.mk (show b1 < ((W2).alloc (.cells #[.slice D bl dc] 37)).heap.size by have := HLT2.out; simp; omega)
          have HNE3 := As.mk (show (W2).heap.size ≠ b1 by have := HLT2.out; omega)
          clear BA3
          generalize hg3 : (W2).alloc _ = W3 at *
          generalize hb3 : (W2).heap.size = b3 at *
          clear hg3
          refine hK.out _ _ HB3.out (fun hHeld => ?_)
          clear hK
          try simp only [Act.put, List.setIfInBounds_toArray, List.set_cons_zero, List.set_cons_succ, List.getElem_toArray, List.getElem_cons_zero, List.getElem_cons_succ]
          refine wpAnyH_ready (rs := [7]) (by kernel_rfl) (by simp) (AllReadyH.cons rfl (fun K' hK => ?_) AllReadyH.nil)
          rw [if_pos (by rfl)]
          refine wp_app2 (.tmp 91) (.tmp 93) 50 rfl b1 37 (.slice none 0 0) 24 Try.underlying50 infoS rfl _ q1 _ rfl HO3.out _ 1 [.slice D bl dc] rfl (Src.cell HC3.out rfl) (by have := HQ1.out; have := HQL.out; unfold maxLen; omega) (by have := HQ1.out; have := HQL.out; omega) (Nat.le_of_lt HLT3.out) HB3.out HL1.out ?_
          intro v4 W4 hown hg hat hb
          obtain ⟨A4, c4, rfl⟩ := hown.slice
          have HB4 := As.mk hb
          have HM4 := As.mk (more_parts HP5.out hb hown H25.out)
          clear hown hg hat hb
          refine hK.out _ _ HB4.out (fun hHeld => ?_)
          clear hK
          try simp only [Act.put, List.setIfInBounds_toArray, List.set_cons_zero, List.set_cons_succ, List.getElem_toArray, List.getElem_cons_zero, List.getElem_cons_succ]
          refine wpAnyH_ready (rs := [8]) (by kernel_rfl) (by simp) (AllReadyH.cons rfl (fun K' hK => ?_) AllReadyH.nil)
          go_simp
          refine (HUB.out HBE.out A4 c4 _ (H05.out.below HB4.out) HM4.out).mono ?_
          rintro e W5 ⟨B8, cb8, rfl, hb, hre⟩
          have HRE8 := As.mk hre
          have HB5 := As.mk (below_step HB4.out hb)
          clear hb hre
          refine hK.out _ _ HB5.out (fun hHeld => ?_)
          clear hK
          try simp only [Act.put, List.setIfInBounds_toArray, List.set_cons_zero, List.set_cons_succ, List.getElem_toArray, List.getElem_cons_zero, List.getElem_cons_succ]
          refine wpAnyH_take (i := 9) (v := .tuple #[.int .i64 (ct : Int), .slice B8 n cb8, .int .i64 0]) rfl (by kernel_rfl) (by kernel_rfl) (by kernel_rfl) (fun _ _ _ h => h) (Or.inl ⟨by rfl, fun W hW => by go_simp⟩) hHeld ?_
          try simp only [Act.put, List.setIfInBounds_toArray, List.set_cons_zero, List.set_cons_succ, List.getElem_toArray, List.getElem_cons_zero, List.getElem_cons_succ]
          refine wpAnyH_take (i := 10) (v := .int .i64 (ct : Int)) rfl (by kernel_rfl) (by kernel_rfl) (by kernel_rfl) (fun _ _ _ h => h) (Or.inl ⟨by rfl, fun W hW => by go_simp⟩) hHeld ?_
          try simp only [Act.put, List.setIfInBounds_toArray, List.set_cons_zero, List.set_cons_succ, List.getElem_toArray, List.getElem_cons_zero, List.getElem_cons_succ]
          refine wpAnyH_take (i := 11) (v := .slice B8 n cb8) rfl (by kernel_rfl) (by kernel_rfl) (by kernel_rfl) (fun _ _ _ h => h) (Or.inl ⟨by rfl, fun W hW => by go_simp⟩) hHeld ?_
          try simp only [Act.put, List.setIfInBounds_toArray, List.set_cons_zero, List.set_cons_succ, List.getElem_toArray, List.getElem_cons_zero, List.getElem_cons_succ]
          refine wpAnyH_take (i := 12) (v := .int .i64 0) rfl (by kernel_rfl) (by kernel_rfl) (by kernel_rfl) (fun _ _ _ h => h) (Or.inl ⟨by rfl, fun W hW => by go_simp⟩) hHeld ?_
          try simp only [Act.put, List.setIfInBounds_toArray, List.set_cons_zero, List.set_cons_succ, List.getElem_toArray, List.getElem_cons_zero, List.getElem_cons_succ]
          refine wpAnyH_take (i := 13) (v := .int .i64 (ct : Int)) rfl (by kernel_rfl) (by kernel_rfl) (by kernel_rfl) (fun _ _ _ h => h) (Or.inl ⟨by rfl, fun W hW => by go_simp⟩) hHeld ?_
          try simp only [Act.put, List.setIfInBounds_toArray, List.set_cons_zero, List.set_cons_succ, List.getElem_toArray, List.getElem_cons_zero, List.getElem_cons_succ]
          refine wpAnyH_take (i := 14) (v := .slice B8 n cb8) rfl (by kernel_rfl) (by kernel_rfl) (by kernel_rfl) (fun _ _ _ h => h) (Or.inl ⟨by rfl, fun W hW => by go_simp⟩) hHeld ?_
          try simp only [Act.put, List.setIfInBounds_toArray, List.set_cons_zero, List.set_cons_succ, List.getElem_toArray, List.getElem_cons_zero, List.getElem_cons_succ]
          refine wpAnyH_take (i := 15) (v := .int .i64 0) rfl (by kernel_rfl) (by kernel_rfl) (by kernel_rfl) (fun _ _ _ h => h) (Or.inl ⟨by rfl, fun W hW => by go_simp⟩) hHeld ?_
          try simp only [Act.put, List.setIfInBounds_toArray, List.set_cons_zero, List.set_cons_succ, List.getElem_toArray, List.getElem_cons_zero, List.getElem_cons_succ]
          refine wpAnyH_done (by kernel_rfl) ?_ _
          go_wp2
          go_meet
          exact ⟨B8, cb8, rfl, rfl, rfl, HRE8, HB5⟩
        · have tok := True.intro
          rw [if_pos (by rfl)]
          refine wp_build_1 50 37 (.tmp 92) rfl (.slice D bl dc) (.slice none 0 0) 24 Try.underlying50 infoS rfl rfl ?_
          have HB6 := As.mk (below_alloc HB1.out (.cells #[.slice D bl dc] 37))
          have HL6 := As.mk (show w5.heap.size ≤ (W1).heap.size from HB1.out.size)
          have BA6 := As.mk (below_alloc (Below.refl _ (W1)) (.cells #[.slice D bl dc] 37))
          have HC6 := As.mk (heap_alloc_new (W1) (.cells #[.slice D bl dc] 37))
          have HO6 := As.mk (HO1.out.below BA6.out)
          have HLT6 := As.mk (show b1 < ((W1).alloc (.cells #[.slice D bl dc] 37)).heap.size by have := HLT1.out; simp; omega)
          have HNE6 := As.mk (show (W1).heap.size ≠ b1 by have := HLT1.out; omega)
          clear BA6
          generalize hg6 : (W1).alloc _ = W6 at *
          generalize hb6 : (W1).heap.size = b6 at *
          clear hg6
          refine hK.out _ _ HB6.out (fun hHeld => ?_)
          clear hK
          try simp only [Act.put, List.setIfInBounds_toArray, List.set_cons_zero, List.set_cons_succ, List.getElem_toArray, List.getElem_cons_zero, List.getElem_cons_succ]
          refine wpAnyH_ready (rs := [4]) (by kernel_rfl) (by simp) (AllReadyH.cons rfl (fun K' hK => ?_) AllReadyH.nil)
          rw [if_pos (by rfl)]
          have HSR7 := As.mk (src_below HP5.out.src HB6.out)
          have HAP7 := As.mk (show (some b6 : Option Nat) ≠ some b1 from fun e => by injection e with e; exact HNE6.out e)
          refine wp_app2 (.tmp 89) (.tmp 90) 50 rfl b1 37 (.slice none 0 0) 24 Try.underlying50 infoS rfl _ 0 _ rfl HO6.out _ q1 L rfl HSR7.out (by have := HQ1.out; have := HQL.out; unfold maxLen; omega) (by have := HQ1.out; have := HQL.out; omega) (Nat.le_of_lt HLT6.out) HB6.out HL1.out ?_
          rw [Nat.zero_add]
          intro v7 W7 hown hg hat hb
          obtain ⟨A7, c7, rfl⟩ := hown.slice
          have HB7 := As.mk hb
          have HO7 := As.mk hown
          have HLT7 := As.mk (Nat.lt_of_lt_of_le HLT6.out hg.size)
          have HC7 := As.mk ((hg.block _ (Array.getElem?_eq_some_iff.1 HC6.out).1 HAP7.out).trans HC6.out)
          clear hown hg hat hb
          refine hK.out _ _ HB7.out (fun hHeld => ?_)
          clear hK
          try simp only [Act.put, List.setIfInBounds_toArray, List.set_cons_zero, List.set_cons_succ, List.getElem_toArray, List.getElem_cons_zero, List.getElem_cons_succ]
          refine wpAnyH_ready (rs := [7]) (by kernel_rfl) (by simp) (AllReadyH.cons rfl (fun K' hK => ?_) AllReadyH.nil)
          rw [if_pos (by rfl)]
          refine wp_app2 (.tmp 91) (.tmp 93) 50 rfl b1 37 (.slice none 0 0) 24 Try.underlying50 infoS rfl _ q1 _ rfl HO7.out _ 1 [.slice D bl dc] rfl (Src.cell HC7.out rfl) (by have := HQ1.out; have := HQL.out; unfold maxLen; omega) (by have := HQ1.out; have := HQL.out; omega) (Nat.le_of_lt HLT7.out) HB7.out HL1.out ?_
          intro v8 W8 hown hg hat hb
          obtain ⟨A8, c8, rfl⟩ := hown.slice
          have HB8 := As.mk hb
          have HM8 := As.mk (more_parts HP5.out hb hown H25.out)
          clear hown hg hat hb
          refine hK.out _ _ HB8.out (fun hHeld => ?_)
          clear hK
          try simp only [Act.put, List.setIfInBounds_toArray, List.set_cons_zero, List.set_cons_succ, List.getElem_toArray, List.getElem_cons_zero, List.getElem_cons_succ]
          refine wpAnyH_ready (rs := [8]) (by kernel_rfl) (by simp) (AllReadyH.cons rfl (fun K' hK => ?_) AllReadyH.nil)
          go_simp
          refine (HUB.out HBE.out A8 c8 _ (H05.out.below HB8.out) HM8.out).mono ?_
          rintro e W9 ⟨B8, cb8, rfl, hb, hre⟩
          have HRE8 := As.mk hre
          have HB9 := As.mk (below_step HB8.out hb)
          clear hb hre
          refine hK.out _ _ HB9.out (fun hHeld => ?_)
          clear hK
          try simp only [Act.put, List.setIfInBounds_toArray, List.set_cons_zero, List.set_cons_succ, List.getElem_toArray, List.getElem_cons_zero, List.getElem_cons_succ]
          refine wpAnyH_take (i := 9) (v := .tuple #[.int .i64 (ct : Int), .slice B8 n cb8, .int .i64 0]) rfl (by kernel_rfl) (by kernel_rfl) (by kernel_rfl) (fun _ _ _ h => h) (Or.inl ⟨by rfl, fun W hW => by go_simp⟩) hHeld ?_
          try simp only [Act.put, List.setIfInBounds_toArray, List.set_cons_zero, List.set_cons_succ, List.getElem_toArray, List.getElem_cons_zero, List.getElem_cons_succ]
          refine wpAnyH_take (i := 10) (v := .int .i64 (ct : Int)) rfl (by kernel_rfl) (by kernel_rfl) (by kernel_rfl) (fun _ _ _ h => h) (Or.inl ⟨by rfl, fun W hW => by go_simp⟩) hHeld ?_
          try simp only [Act.put, List.setIfInBounds_toArray, List.set_cons_zero, List.set_cons_succ, List.getElem_toArray, List.getElem_cons_zero, List.getElem_cons_succ]
          refine wpAnyH_take (i := 11) (v := .slice B8 n cb8) rfl (by kernel_rfl) (by kernel_rfl) (by kernel_rfl) (fun _ _ _ h => h) (Or.inl ⟨by rfl, fun W hW => by go_simp⟩) hHeld ?_
          try simp only [Act.put, List.setIfInBounds_toArray, List.set_cons_zero, List.set_cons_succ, List.getElem_toArray, List.getElem_cons_zero, List.getElem_cons_succ]
          refine wpAnyH_take (i := 12) (v := .int .i64 0) rfl (by kernel_rfl) (by kernel_rfl) (by kernel_rfl) (fun _ _ _ h => h) (Or.inl ⟨by rfl, fun W hW => by go_simp⟩) hHeld ?_
          try simp only [Act.put, List.setIfInBounds_toArray, List.set_cons_zero, List.set_cons_succ, List.getElem_toArray, List.getElem_cons_zero, List.getElem_cons_succ]
          refine wpAnyH_take (i := 13) (v := .int .i64 (ct : Int)) rfl (by kernel_rfl) (by kernel_rfl) (by kernel_rfl) (fun _ _ _ h => h) (Or.inl ⟨by rfl, fun W hW => by go_simp⟩) hHeld ?_
          try simp only [Act.put, List.setIfInBounds_toArray, List.set_cons_zero, List.set_cons_succ, List.getElem_toArray, List.getElem_cons_zero, List.getElem_cons_succ]
          refine wpAnyH_take (i := 14) (v := .slice B8 n cb8) rfl (by kernel_rfl) (by kernel_rfl) (by kernel_rfl) (fun _ _ _ h => h) (Or.inl ⟨by rfl, fun W hW => by go_simp⟩) hHeld ?_
          try simp only [Act.put, List.setIfInBounds_toArray, List.set_cons_zero, List.set_cons_succ, List.getElem_toArray, List.getElem_cons_zero, List.getElem_cons_succ]
          refine wpAnyH_take (i := 15) (v := .int .i64 0) rfl (by kernel_rfl) (by kernel_rfl) (by kernel_rfl) (fun _ _ _ h => h) (Or.inl ⟨by rfl, fun W hW => by go_simp⟩) hHeld ?_
          try simp only [Act.put, List.setIfInBounds_toArray, List.set_cons_zero, List.set_cons_succ, List.getElem_toArray, List.getElem_cons_zero, List.getElem_cons_succ]
          refine wpAnyH_done (by kernel_rfl) ?_ _
          go_wp2
          go_meet
          exact ⟨B8, cb8, rfl, rfl, rfl, HRE8, HB9⟩
      · have tok := True.intro
        rw [if_pos (by rfl)]
        refine wp_build_1 50 37 (.tmp 92) rfl (.slice D bl dc) (.slice none 0 0) 24 Try.underlying50 infoS rfl rfl ?_
        have HB10 := As.mk (below_alloc HB90.out (.cells #[.slice D bl dc] 37))
        have HL10 := As.mk (show w5.heap.size ≤ (w5.drew).heap.size from HB90.out.size)
        have BA10 := As.mk (below_alloc (Below.refl _ (w5.drew)) (.cells #[.slice D bl dc] 37))
        have HC10 := As.mk (heap_alloc_new (w5.drew) (.cells #[.slice D bl dc] 37))
        clear BA10
        generalize hg10 : (w5.drew).alloc _ = W10 at *
        generalize hb10 : (w5.drew).heap.size = b10 at *
        clear hg10
        refine hK.out _ _ HB10.out (fun hHeld => ?_)
        clear hK
        try simp only [Act.put, List.setIfInBounds_toArray, List.set_cons_zero, List.set_cons_succ, List.getElem_toArray, List.getElem_cons_zero, List.getElem_cons_succ]
        refine wpAnyH_ready (rs := [2]) (by kernel_rfl) (by simp) (AllReadyH.cons rfl (fun K' hK => ?_) AllReadyH.nil)
        rw [if_pos (by rfl)]
        refine wp_build_0 50 37 rfl (.slice none 0 0) 24 Try.underlying50 infoS ?_
        have HB11 := As.mk (below_alloc HB10.out (.cells #[] 37))
        have HL11 := As.mk (show w5.heap.size ≤ (W10).heap.size from HB10.out.size)
        have BA11 := As.mk (below_alloc (Below.refl _ (W10)) (.cells #[] 37))
        have HO11 := As.mk (own_lit0 (W10) 37)
        have HC11 := As.mk ((BA11.out.block _ (Array.getElem?_eq_some_iff.1 HC10.out).1).trans HC10.out)
        have HNE11 := As.mk (show b10 ≠ (W10).heap.size by have := (Array.getElem?_eq_some_iff.1 HC10.out).1; omega)
        clear BA11
        generalize hg11 : (W10).alloc _ = W11 at *
        generalize hb11 : (W10).heap.size = b11 at *
        have HLT11 := As.mk (show b11 < W11.heap.size by rw [← hg11, ← hb11]; simp)
        clear hg11
        refine hK.out _ _ HB11.out (fun hHeld => ?_)
        clear hK
        try simp only [Act.put, List.setIfInBounds_toArray, List.set_cons_zero, List.set_cons_succ, List.getElem_toArray, List.getElem_cons_zero, List.getElem_cons_succ]
        refine wpAnyH_ready (rs := [4]) (by kernel_rfl) (by simp) (AllReadyH.cons rfl (fun K' hK => ?_) AllReadyH.nil)
        rw [if_pos (by rfl)]
        have HSR12 := As.mk (src_below HP5.out.src HB11.out)
        have HAP12 := As.mk (show (some b10 : Option Nat) ≠ some b11 from fun e => by injection e with e; exact HNE11.out e)
        refine wp_app2 (.tmp 89) (.tmp 90) 50 rfl b11 37 (.slice none 0 0) 24 Try.underlying50 infoS rfl _ 0 _ rfl HO11.out _ q1 L rfl HSR12.out (by have := HQ1.out; have := HQL.out; unfold maxLen; omega) (by have := HQ1.out; have := HQL.out; omega) (Nat.le_of_lt HLT11.out) HB11.out HL11.out ?_
        rw [Nat.zero_add]
        intro v12 W12 hown hg hat hb
        obtain ⟨A12, c12, rfl⟩ := hown.slice
        have HB12 := As.mk hb
        have HO12 := As.mk hown
        have HLT12 := As.mk (Nat.lt_of_lt_of_le HLT11.out hg.size)
        have HC12 := As.mk ((hg.block _ (Array.getElem?_eq_some_iff.1 HC11.out).1 HAP12.out).trans HC11.out)
        clear hown hg hat hb
        refine hK.out _ _ HB12.out (fun hHeld => ?_)
        clear hK
        try simp only [Act.put, List.setIfInBounds_toArray, List.set_cons_zero, List.set_cons_succ, List.getElem_toArray, List.getElem_cons_zero, List.getElem_cons_succ]
        refine wpAnyH_ready (rs := [7]) (by kernel_rfl) (by simp) (AllReadyH.cons rfl (fun K' hK => ?_) AllReadyH.nil)
        rw [if_pos (by rfl)]
        refine wp_app2 (.tmp 91) (.tmp 93) 50 rfl b11 37 (.slice none 0 0) 24 Try.underlying50 infoS rfl _ q1 _ rfl HO12.out _ 1 [.slice D bl dc] rfl (Src.cell HC12.out rfl) (by have := HQ1.out; have := HQL.out; unfold maxLen; omega) (by have := HQ1.out; have := HQL.out; omega) (Nat.le_of_lt HLT12.out) HB12.out HL11.out ?_
        intro v13 W13 hown hg hat hb
        obtain ⟨A13, c13, rfl⟩ := hown.slice
        have HB13 := As.mk hb
        have HM13 := As.mk (more_parts HP5.out hb hown H25.out)
        clear hown hg hat hb
        refine hK.out _ _ HB13.out (fun hHeld => ?_)
        clear hK
        try simp only [Act.put, List.setIfInBounds_toArray, List.set_cons_zero, List.set_cons_succ, List.getElem_toArray, List.getElem_cons_zero, List.getElem_cons_succ]
        refine wpAnyH_ready (rs := [8]) (by kernel_rfl) (by simp) (AllReadyH.cons rfl (fun K' hK => ?_) AllReadyH.nil)
        go_simp
        refine (HUB.out HBE.out A13 c13 _ (H05.out.below HB13.out) HM13.out).mono ?_
        rintro e W14 ⟨B8, cb8, rfl, hb, hre⟩
        have HRE8 := As.mk hre
        have HB14 := As.mk (below_step HB13.out hb)
        clear hb hre
        refine hK.out _ _ HB14.out (fun hHeld => ?_)
        clear hK
        try simp only [Act.put, List.setIfInBounds_toArray, List.set_cons_zero, List.set_cons_succ, List.getElem_toArray, List.getElem_cons_zero, List.getElem_cons_succ]
        refine wpAnyH_take (i := 9) (v := .tuple #[.int .i64 (ct : Int), .slice B8 n cb8, .int .i64 0]) rfl (by kernel_rfl) (by kernel_rfl) (by kernel_rfl) (fun _ _ _ h => h) (Or.inl ⟨by rfl, fun W hW => by go_simp⟩) hHeld ?_
        try simp only [Act.put, List.setIfInBounds_toArray, List.set_cons_zero, List.set_cons_succ, List.getElem_toArray, List.getElem_cons_zero, List.getElem_cons_succ]
        refine wpAnyH_take (i := 10) (v := .int .i64 (ct : Int)) rfl (by kernel_rfl) (by kernel_rfl) (by kernel_rfl) (fun _ _ _ h => h) (Or.inl ⟨by rfl, fun W hW => by go_simp⟩) hHeld ?_
        try simp only [Act.put, List.setIfInBounds_toArray, List.set_cons_zero, List.set_cons_succ, List.getElem_toArray, List.getElem_cons_zero, List.getElem_cons_succ]
        refine wpAnyH_take (i := 11) (v := .slice B8 n cb8) rfl (by kernel_rfl) (by kernel_rfl) (by kernel_rfl) (fun _ _ _ h => h) (Or.inl ⟨by rfl, fun W hW => by go_simp⟩) hHeld ?_
        try simp only [Act.put, List.setIfInBounds_toArray, List.set_cons_zero, List.set_cons_succ, List.getElem_toArray, List.getElem_cons_zero, List.getElem_cons_succ]
        refine wpAnyH_take (i := 12) (v := .int .i64 0) rfl (by kernel_rfl) (by kernel_rfl) (by kernel_rfl) (fun _ _ _ h => h) (Or.inl ⟨by rfl, fun W hW => by go_simp⟩) hHeld ?_
        try simp only [Act.put, List.setIfInBounds_toArray, List.set_cons_zero, List.set_cons_succ, List.getElem_toArray, List.getElem_cons_zero, List.getElem_cons_succ]
        refine wpAnyH_take (i := 13) (v := .int .i64 (ct : Int)) rfl (by kernel_rfl) (by kernel_rfl) (by kernel_rfl) (fun _ _ _ h => h) (Or.inl ⟨by rfl, fun W hW => by go_simp⟩) hHeld ?_
        try simp only [Act.put, List.setIfInBounds_toArray, List.set_cons_zero, List.set_cons_succ, List.getElem_toArray, List.getElem_cons_zero, List.getElem_cons_succ]
        refine wpAnyH_take (i := 14) (v := .slice B8 n cb8) rfl (by kernel_rfl) (by kernel_rfl) (by kernel_rfl) (fun _ _ _ h => h) (Or.inl ⟨by rfl, fun W hW => by go_simp⟩) hHeld ?_
        try simp only [Act.put, List.setIfInBounds_toArray, List.set_cons_zero, List.set_cons_succ, List.getElem_toArray, List.getElem_cons_zero, List.getElem_cons_succ]
        refine wpAnyH_take (i := 15) (v := .int .i64 0) rfl (by kernel_rfl) (by kernel_rfl) (by kernel_rfl) (fun _ _ _ h => h) (Or.inl ⟨by rfl, fun W hW => by go_simp⟩) hHeld ?_
        try simp only [Act.put, List.setIfInBounds_toArray, List.set_cons_zero, List.set_cons_succ, List.getElem_toArray, List.getElem_cons_zero, List.getElem_cons_succ]
        refine wpAnyH_done (by kernel_rfl) ?_ _
        go_wp2
        go_meet
        exact ⟨B8, cb8, rfl, rfl, rfl, HRE8, HB14⟩
    case rest =>
      obtain ⟨B8, cb8, rfl, rfl, rfl, HRE8, HBC⟩ := hcut
      have HP6 := As.mk (HP5.out.below HBC.out)
      have H16 := As.mk (H15.out.below HBC.out)
      have HB6 := As.mk (below_step HB5.out HBC.out)
      have HG6 := As.mk ((HBC.out.block _ (Array.getElem?_eq_some_iff.1 HG5.out).1).trans HG5.out)
      clear cw0 cw2 cw3
      rcases hzz with hz | hz
      · have z0 : ((n : Int) == 0) = true := by rw [hz]; rfl
        have z1 : (n == 0) = true := by rw [hz]; rfl
        have y0 : ((q1 : Int) == 1) = true := by have := HQZ.out hz; have := HQ1.out; rw [beq_iff_eq]; omega
        have y1 : (q1 == 1) = true := by have := HQZ.out hz; have := HQ1.out; rw [beq_iff_eq]; omega
        clear hz
        go_wp2_with (go_at_call 53; (with_reducible refine (sameR_ok wc B8 A n cb8 c es (by have := HN.out; omega) HL3.out HRE8.out H16.out).mono ?_); rintro e w7 ⟨rfl, hb⟩; have HB7 := As.mk (below_step HB6.out hb); clear hb)
        go_ret
        exact ⟨rfl, HB7.out⟩
      · have z0 : ((n : Int) == 0) = false := beq_eq_false_iff_ne.2 (by omega)
        have z1 : (n == 0) = false := beq_eq_false_iff_ne.2 (by omega)
        have HZP := As.mk hz
        have hw : wrap64 ((q1 : Int) - 1) = (q : Int) := wn q HQW.out (by have := HQL.out; omega)
        have hw2 : IntKind.i64.wrap ((q1 : Int) - 1) = (q : Int) := iwn q HQW.out (by have := HQL.out; omega)
        have hcut := HCP.out P cp (own_caps HP5.out.own).1
        clear hz
        go_wp2_with (go_at_call 53; (with_reducible refine (sameR_ok wc B8 A n cb8 c es (by have := HN.out; omega) HL3.out HRE8.out H16.out).mono ?_); rintro e w7 ⟨rfl, hb⟩; have HB7 := As.mk (below_step HB6.out hb); have HP7 := As.mk (HP6.out.below hb); have HG7 := As.mk ((hb.block _ (Array.getElem?_eq_some_iff.1 HG6.out).1).trans HG6.out); have cu0 : w7.cell? ⟨w.heap.size, 0, none⟩ = some (.slice K kn kc) := cell_of_row w7 _ 0 _ _ _ HG7.out; clear hb)
        refine wp_region_held_drew (S := fun W : World => Below w7.heap.size w7 W) (by kernel_rfl) (below_drewN (Below.refl _ _) 1) (fun hHeld => ?_)
        refine wpAnyH_take (i := 0) (v := .pointer (some ⟨w.heap.size, 0, none⟩)) rfl (by kernel_rfl) (by kernel_rfl) (by kernel_rfl) (fun _ _ _ h => h) (Or.inl ⟨by rfl, fun W hW => by go_simp⟩) hHeld ?_
        try simp only [Act.put, List.setIfInBounds_toArray, List.set_cons_zero, List.set_cons_succ, List.getElem_toArray, List.getElem_cons_zero, List.getElem_cons_succ]
        refine wpAnyH_take (i := 1) (v := .slice K kn kc) rfl (by kernel_rfl) (by kernel_rfl) (by kernel_rfl) (fun _ _ _ h => h) (Or.inl ⟨by rfl, fun W hW => by (have q := cell_keep cu0 hW; go_simp)⟩) hHeld ?_
        try simp only [Act.put, List.setIfInBounds_toArray, List.set_cons_zero, List.set_cons_succ, List.getElem_toArray, List.getElem_cons_zero, List.getElem_cons_succ]
        refine wpAnyH_take (i := 2) (v := .slice P q1 cp) rfl (by kernel_rfl) (by kernel_rfl) (by kernel_rfl) (fun _ _ _ h => h) (Or.inl ⟨by rfl, fun W hW => by go_simp⟩) hHeld ?_
        try simp only [Act.put, List.setIfInBounds_toArray, List.set_cons_zero, List.set_cons_succ, List.getElem_toArray, List.getElem_cons_zero, List.getElem_cons_succ]
        refine wpAnyH_take (i := 3) (v := .slice P q1 cp) rfl (by kernel_rfl) (by kernel_rfl) (by kernel_rfl) (fun _ _ _ h => h) (Or.inl ⟨by rfl, fun W hW => by go_simp⟩) hHeld ?_
        try simp only [Act.put, List.setIfInBounds_toArray, List.set_cons_zero, List.set_cons_succ, List.getElem_toArray, List.getElem_cons_zero, List.getElem_cons_succ]
        refine wpAnyH_take (i := 4) (v := .int .i64 (q1 : Int)) rfl (by kernel_rfl) (by kernel_rfl) (by kernel_rfl) (fun _ _ _ h => h) (Or.inl ⟨by rfl, fun W hW => by go_simp⟩) hHeld ?_
        try simp only [Act.put, List.setIfInBounds_toArray, List.set_cons_zero, List.set_cons_succ, List.getElem_toArray, List.getElem_cons_zero, List.getElem_cons_succ]
        refine wpAnyH_take (i := 5) (v := .int .i64 (q : Int)) rfl (by kernel_rfl) (by kernel_rfl) (by kernel_rfl) (fun _ _ _ h => h) (Or.inl ⟨by rfl, fun W hW => by (go_simp; first | done | exact hw2)⟩) hHeld ?_
        try simp only [Act.put, List.setIfInBounds_toArray, List.set_cons_zero, List.set_cons_succ, List.getElem_toArray, List.getElem_cons_zero, List.getElem_cons_succ]
        refine wpAnyH_take (i := 6) (v := .slice (cutA P cp 0 1) q cp) rfl (by kernel_rfl) (by kernel_rfl) (by kernel_rfl) (fun _ _ _ h => h) (Or.inl ⟨by rfl, fun W hW => by go_simp⟩) hHeld ?_
        try simp only [Act.put, List.setIfInBounds_toArray, List.set_cons_zero, List.set_cons_succ, List.getElem_toArray, List.getElem_cons_zero, List.getElem_cons_succ]
        refine wpAnyH_ready (rs := [7]) (by kernel_rfl) (by simp) (AllReadyH.cons rfl (fun K' hK => ?_) AllReadyH.nil)
        go_simp
        refine (HUL.out HZP.out (cutA P cp 0 1) cp _ ((rdp_to HP7.out.rdp q (by have := HQ1.out; omega)).below hHeld)).mono ?_
        rintro e wq ⟨rfl, hbq⟩
        refine hK.out _ _ (below_step hHeld hbq) (fun hHeld => ?_)
        clear hK
        try simp only [Act.put, List.setIfInBounds_toArray, List.set_cons_zero, List.set_cons_succ, List.getElem_toArray, List.getElem_cons_zero, List.getElem_cons_succ]
        refine wpAnyH_take (i := 8) (v := .tuple #[.int .i64 0, .slice none 0 0, .int .i64 11]) rfl (by kernel_rfl) (by kernel_rfl) (by kernel_rfl) (fun _ _ _ h => h) (Or.inl ⟨by rfl, fun W hW => by go_simp⟩) hHeld ?_
        try simp only [Act.put, List.setIfInBounds_toArray, List.set_cons_zero, List.set_cons_succ, List.getElem_toArray, List.getElem_cons_zero, List.getElem_cons_succ]
        refine wpAnyH_take (i := 9) (v := .int .i64 0) rfl (by kernel_rfl) (by kernel_rfl) (by kernel_rfl) (fun _ _ _ h => h) (Or.inl ⟨by rfl, fun W hW => by go_simp⟩) hHeld ?_
        try simp only [Act.put, List.setIfInBounds_toArray, List.set_cons_zero, List.set_cons_succ, List.getElem_toArray, List.getElem_cons_zero, List.getElem_cons_succ]
        refine wpAnyH_take (i := 10) (v := .slice none 0 0) rfl (by kernel_rfl) (by kernel_rfl) (by kernel_rfl) (fun _ _ _ h => h) (Or.inl ⟨by rfl, fun W hW => by go_simp⟩) hHeld ?_
        try simp only [Act.put, List.setIfInBounds_toArray, List.set_cons_zero, List.set_cons_succ, List.getElem_toArray, List.getElem_cons_zero, List.getElem_cons_succ]
        refine wpAnyH_take (i := 11) (v := .int .i64 11) rfl (by kernel_rfl) (by kernel_rfl) (by kernel_rfl) (fun _ _ _ h => h) (Or.inl ⟨by rfl, fun W hW => by go_simp⟩) hHeld ?_
        try simp only [Act.put, List.setIfInBounds_toArray, List.set_cons_zero, List.set_cons_succ, List.getElem_toArray, List.getElem_cons_zero, List.getElem_cons_succ]
        refine wpAnyH_take (i := 12) (v := .int .i64 0) rfl (by kernel_rfl) (by kernel_rfl) (by kernel_rfl) (fun _ _ _ h => h) (Or.inl ⟨by rfl, fun W hW => by go_simp⟩) hHeld ?_
        try simp only [Act.put, List.setIfInBounds_toArray, List.set_cons_zero, List.set_cons_succ, List.getElem_toArray, List.getElem_cons_zero, List.getElem_cons_succ]
        refine wpAnyH_take (i := 13) (v := .slice none 0 0) rfl (by kernel_rfl) (by kernel_rfl) (by kernel_rfl) (fun _ _ _ h => h) (Or.inl ⟨by rfl, fun W hW => by go_simp⟩) hHeld ?_
        try simp only [Act.put, List.setIfInBounds_toArray, List.set_cons_zero, List.set_cons_succ, List.getElem_toArray, List.getElem_cons_zero, List.getElem_cons_succ]
        refine wpAnyH_take (i := 14) (v := .int .i64 11) rfl (by kernel_rfl) (by kernel_rfl) (by kernel_rfl) (fun _ _ _ h => h) (Or.inl ⟨by rfl, fun W hW => by go_simp⟩) hHeld ?_
        try simp only [Act.put, List.setIfInBounds_toArray, List.set_cons_zero, List.set_cons_succ, List.getElem_toArray, List.getElem_cons_zero, List.getElem_cons_succ]
        refine wpAnyH_done (by kernel_rfl) ?_ _
        have HBZ := As.mk (below_step HB7.out hHeld)
        go_wp2
        go_ret
        exact ⟨rfl, HBZ.out⟩
  · have b0 : ((bl : Int) == (s : Int)) = false := beq_eq_false_iff_ne.2 (by omega)
    have b1 : (bl == s) = false := beq_eq_false_iff_ne.2 hbe
    clear hbe
    rcases hzz with hz | hz
    · have z0 : ((n : Int) == 0) = true := by rw [hz]; rfl
      have z1 : (n == 0) = true := by rw [hz]; rfl
      have y0 : ((q1 : Int) == 1) = true := by have := HQZ.out hz; have := HQ1.out; rw [beq_iff_eq]; omega
      have y1 : (q1 == 1) = true := by have := HQZ.out hz; have := HQ1.out; rw [beq_iff_eq]; omega
      clear hz
      go_wp2
      go_ret
      exact ⟨rfl, HB5.out⟩
    · have z0 : ((n : Int) == 0) = false := beq_eq_false_iff_ne.2 (by omega)
      have z1 : (n == 0) = false := beq_eq_false_iff_ne.2 (by omega)
      have HZP := As.mk hz
      have hw : wrap64 ((q1 : Int) - 1) = (q : Int) := wn q HQW.out (by have := HQL.out; omega)
      have hw2 : IntKind.i64.wrap ((q1 : Int) - 1) = (q : Int) := iwn q HQW.out (by have := HQL.out; omega)
      have hcut := HCP.out P cp (own_caps HP5.out.own).1
      clear hz
      go_wp2
      refine wp_region_held_drew (S := fun W : World => Below w5.heap.size w5 W) (by kernel_rfl) (below_drewN (Below.refl _ _) 1) (fun hHeld => ?_)
      refine wpAnyH_take (i := 0) (v := .pointer (some ⟨w.heap.size, 0, none⟩)) rfl (by kernel_rfl) (by kernel_rfl) (by kernel_rfl) (fun _ _ _ h => h) (Or.inl ⟨by rfl, fun W hW => by go_simp⟩) hHeld ?_
      try simp only [Act.put, List.setIfInBounds_toArray, List.set_cons_zero, List.set_cons_succ, List.getElem_toArray, List.getElem_cons_zero, List.getElem_cons_succ]
      refine wpAnyH_take (i := 1) (v := .slice K kn kc) rfl (by kernel_rfl) (by kernel_rfl) (by kernel_rfl) (fun _ _ _ h => h) (Or.inl ⟨by rfl, fun W hW => by (have q := cell_keep cw0 hW; go_simp)⟩) hHeld ?_
      try simp only [Act.put, List.setIfInBounds_toArray, List.set_cons_zero, List.set_cons_succ, List.getElem_toArray, List.getElem_cons_zero, List.getElem_cons_succ]
      refine wpAnyH_take (i := 2) (v := .slice P q1 cp) rfl (by kernel_rfl) (by kernel_rfl) (by kernel_rfl) (fun _ _ _ h => h) (Or.inl ⟨by rfl, fun W hW => by go_simp⟩) hHeld ?_
      try simp only [Act.put, List.setIfInBounds_toArray, List.set_cons_zero, List.set_cons_succ, List.getElem_toArray, List.getElem_cons_zero, List.getElem_cons_succ]
      refine wpAnyH_take (i := 3) (v := .slice P q1 cp) rfl (by kernel_rfl) (by kernel_rfl) (by kernel_rfl) (fun _ _ _ h => h) (Or.inl ⟨by rfl, fun W hW => by go_simp⟩) hHeld ?_
      try simp only [Act.put, List.setIfInBounds_toArray, List.set_cons_zero, List.set_cons_succ, List.getElem_toArray, List.getElem_cons_zero, List.getElem_cons_succ]
      refine wpAnyH_take (i := 4) (v := .int .i64 (q1 : Int)) rfl (by kernel_rfl) (by kernel_rfl) (by kernel_rfl) (fun _ _ _ h => h) (Or.inl ⟨by rfl, fun W hW => by go_simp⟩) hHeld ?_
      try simp only [Act.put, List.setIfInBounds_toArray, List.set_cons_zero, List.set_cons_succ, List.getElem_toArray, List.getElem_cons_zero, List.getElem_cons_succ]
      refine wpAnyH_take (i := 5) (v := .int .i64 (q : Int)) rfl (by kernel_rfl) (by kernel_rfl) (by kernel_rfl) (fun _ _ _ h => h) (Or.inl ⟨by rfl, fun W hW => by (go_simp; first | done | exact hw2)⟩) hHeld ?_
      try simp only [Act.put, List.setIfInBounds_toArray, List.set_cons_zero, List.set_cons_succ, List.getElem_toArray, List.getElem_cons_zero, List.getElem_cons_succ]
      refine wpAnyH_take (i := 6) (v := .slice (cutA P cp 0 1) q cp) rfl (by kernel_rfl) (by kernel_rfl) (by kernel_rfl) (fun _ _ _ h => h) (Or.inl ⟨by rfl, fun W hW => by go_simp⟩) hHeld ?_
      try simp only [Act.put, List.setIfInBounds_toArray, List.set_cons_zero, List.set_cons_succ, List.getElem_toArray, List.getElem_cons_zero, List.getElem_cons_succ]
      refine wpAnyH_ready (rs := [7]) (by kernel_rfl) (by simp) (AllReadyH.cons rfl (fun K' hK => ?_) AllReadyH.nil)
      go_simp
      refine (HUL.out HZP.out (cutA P cp 0 1) cp _ ((rdp_to HP5.out.rdp q (by have := HQ1.out; omega)).below hHeld)).mono ?_
      rintro e wq ⟨rfl, hbq⟩
      refine hK.out _ _ (below_step hHeld hbq) (fun hHeld => ?_)
      clear hK
      try simp only [Act.put, List.setIfInBounds_toArray, List.set_cons_zero, List.set_cons_succ, List.getElem_toArray, List.getElem_cons_zero, List.getElem_cons_succ]
      refine wpAnyH_take (i := 8) (v := .tuple #[.int .i64 0, .slice none 0 0, .int .i64 11]) rfl (by kernel_rfl) (by kernel_rfl) (by kernel_rfl) (fun _ _ _ h => h) (Or.inl ⟨by rfl, fun W hW => by go_simp⟩) hHeld ?_
      try simp only [Act.put, List.setIfInBounds_toArray, List.set_cons_zero, List.set_cons_succ, List.getElem_toArray, List.getElem_cons_zero, List.getElem_cons_succ]
      refine wpAnyH_take (i := 9) (v := .int .i64 0) rfl (by kernel_rfl) (by kernel_rfl) (by kernel_rfl) (fun _ _ _ h => h) (Or.inl ⟨by rfl, fun W hW => by go_simp⟩) hHeld ?_
      try simp only [Act.put, List.setIfInBounds_toArray, List.set_cons_zero, List.set_cons_succ, List.getElem_toArray, List.getElem_cons_zero, List.getElem_cons_succ]
      refine wpAnyH_take (i := 10) (v := .slice none 0 0) rfl (by kernel_rfl) (by kernel_rfl) (by kernel_rfl) (fun _ _ _ h => h) (Or.inl ⟨by rfl, fun W hW => by go_simp⟩) hHeld ?_
      try simp only [Act.put, List.setIfInBounds_toArray, List.set_cons_zero, List.set_cons_succ, List.getElem_toArray, List.getElem_cons_zero, List.getElem_cons_succ]
      refine wpAnyH_take (i := 11) (v := .int .i64 11) rfl (by kernel_rfl) (by kernel_rfl) (by kernel_rfl) (fun _ _ _ h => h) (Or.inl ⟨by rfl, fun W hW => by go_simp⟩) hHeld ?_
      try simp only [Act.put, List.setIfInBounds_toArray, List.set_cons_zero, List.set_cons_succ, List.getElem_toArray, List.getElem_cons_zero, List.getElem_cons_succ]
      refine wpAnyH_take (i := 12) (v := .int .i64 0) rfl (by kernel_rfl) (by kernel_rfl) (by kernel_rfl) (fun _ _ _ h => h) (Or.inl ⟨by rfl, fun W hW => by go_simp⟩) hHeld ?_
      try simp only [Act.put, List.setIfInBounds_toArray, List.set_cons_zero, List.set_cons_succ, List.getElem_toArray, List.getElem_cons_zero, List.getElem_cons_succ]
      refine wpAnyH_take (i := 13) (v := .slice none 0 0) rfl (by kernel_rfl) (by kernel_rfl) (by kernel_rfl) (fun _ _ _ h => h) (Or.inl ⟨by rfl, fun W hW => by go_simp⟩) hHeld ?_
      try simp only [Act.put, List.setIfInBounds_toArray, List.set_cons_zero, List.set_cons_succ, List.getElem_toArray, List.getElem_cons_zero, List.getElem_cons_succ]
      refine wpAnyH_take (i := 14) (v := .int .i64 11) rfl (by kernel_rfl) (by kernel_rfl) (by kernel_rfl) (fun _ _ _ h => h) (Or.inl ⟨by rfl, fun W hW => by go_simp⟩) hHeld ?_
      try simp only [Act.put, List.setIfInBounds_toArray, List.set_cons_zero, List.set_cons_succ, List.getElem_toArray, List.getElem_cons_zero, List.getElem_cons_succ]
      refine wpAnyH_done (by kernel_rfl) ?_ _
      have HBZ := As.mk (below_step HB5.out hHeld)
      go_wp2
      go_ret
      exact ⟨rfl, HBZ.out⟩
theorem back_walk (K : Option Addr) (kn kc : Nat) (key : List Int) (count z room : Int) (A : Option Addr) (n c : Nat) (es : List (Int × List Int)) (D : Option Addr) (bl dc : Nat) (bs : List Int) (w : World) (h0 : Rd .u8 w K kn kc key) (hk : ∀ i ∈ key, (Lit.int .u8 i).wf = true) (h1 : RdE w A n c es) (hes : ∀ e ∈ es, ∀ i ∈ e.2, (Lit.int .u8 i).wf = true) (h2 : Rd .u8 w D bl dc bs) (hbs : ∀ i ∈ bs, (Lit.int .u8 i).wf = true) (_ : bl * 1 ≤ 140737488351232) :
    Calls Try.prog 15 #[.agg #[.slice K kn kc, .int .i64 count, .int .i64 z, .int .i64 room], .slice A n c, .slice D bl dc] w fun e w' => e = .returned (.bool true) ∧ Below w.heap.size w w' := by
  have hn : n ≤ 9223372036854775807 := by have h1 := h1.le; have h2 := (RdE.cap ‹RdE w A n c es›); unfold maxLen at h2; omega
  rcases Bool.eq_false_or_eq_true (fewB es) with hf | hf
  · by_cases hkn : kn ≤ 100
    · by_cases hbl : bl ≤ 300
      · have hn20 : n ≤ 20 := by rw [← h1.len]; exact ((few_iff es).1 hf).2
        rcases Bool.eq_false_or_eq_true (wideE z) with hw | hw
        · obtain ⟨s, rfl, hs⟩ := wideE_nat hw
          by_cases hc : 0 ≤ count ∧ count ≤ 1099511627776
          · rcases Bool.eq_false_or_eq_true (mayB es s) with hm | hm
            · obtain ⟨ct, rfl⟩ := Int.eq_ofNat_of_zero_le hc.1
              obtain ⟨q, hq⟩ : ∃ q, recN n s = 1 + q := ⟨recN n s - 1, by have : recN n s = 1 + ceil (4 * n) s + n := rfl; omega⟩
              by_cases hr : ((1 + q : Nat) : Int) ≤ room
              · exact back_ok ct s room key (Go.Proofs.Yteajblfkfmopfaa.Mem.byte_of hk) K D kn kc bl dc hkn hbl bs (Go.Proofs.Yteajblfkfmopfaa.Mem.byte_of hbs) es (fun e he => Go.Proofs.Yteajblfkfmopfaa.Mem.byte_of (hes e he)) A n c w hf h0 h1 h2 (by omega) hs hm q hq hr
              · exact back_no (ct : Int) (s : Int) room K D kn kc bl dc hkn hbl es A n c w hf h1 3 (by decide) fun W hW => pack_lim K kn kc ct (by omega) A n c es s hs hm room (by omega) (1 + q) hq (by omega) W hW
            · exact back_no count (s : Int) room K D kn kc bl dc hkn hbl es A n c w hf h1 2 (by decide) fun W hW => pack_arg K kn kc count A n c es (s : Int) room (by omega) true hw (.inr (.inr ⟨rfl, hc.1, hc.2, s, rfl, hm⟩)) W hW
          · exact back_no count (s : Int) room K D kn kc bl dc hkn hbl es A n c w hf h1 2 (by decide) fun W hW => pack_arg K kn kc count A n c es (s : Int) room (by omega) true hw (.inr (.inl ⟨rfl, by omega⟩)) W hW
        · exact back_no count z room K D kn kc bl dc hkn hbl es A n c w hf h1 2 (by decide) fun W hW => pack_arg K kn kc count A n c es z room (by omega) false hw (.inl rfl) W hW
      · exact back_far count z room K D kn kc bl dc es A n c w hn (.inr (.inr ⟨hf, hkn, by omega⟩)) h1
    · exact back_far count z room K D kn kc bl dc es A n c w hn (.inr (.inl ⟨hf, by omega⟩)) h1
  · exact back_far count z room K D kn kc bl dc es A n c w hn (.inl hf) h1
end Go.Proofs.Yteajblfkfmopfaa.Jour
