/- crash.all$1$1. crash.Outcomes: is an image there? crash.all: an iterator over images. -/
import Derived.Test.YteajblfkfmopfaaCrashSameG
namespace Go.Proofs.Yteajblfkfmopfaa.LawCrash
set_option linter.unusedVariables false
set_option linter.unusedSimpArgs false
open Go Go.RowKit Go.Proofs.Yteajblfkfmopfaa.Mem Go.Proofs.Yteajblfkfmopfaa.Put32 Go.Proofs.Yteajblfkfmopfaa.Sum Go.Proofs.Yteajblfkfmopfaa.Hmac Go.Proofs.Yteajblfkfmopfaa.Parts Go.Proofs.Yteajblfkfmopfaa.Entries Go.Proofs.Yteajblfkfmopfaa.CrashApply

/-- is the i-th bit set? -/
def bitF (n i : Nat) : Bool := decide (n / 2 ^ i % 2 = 1)
theorem bits_plain (i n : Nat) (hi : i ≤ 60) (hn : n ≤ 1099511627776) : (bits BinOp.and IntKind.i64 ((n : Int) / 2 ^ min (IntKind.u64.wrap (i : Int)).toNat 64) 1 == 1) = bitF n i := by
  have h1 : (IntKind.u64.wrap (i : Int)).toNat = i := by
    rw [Bits.wrap_u .u64 rfl i (Nat.lt_of_le_of_lt hi (by decide))]; rfl
  have h2 : ((n : Int) / 2 ^ i) = ((n / 2 ^ i : Nat) : Int) := by simp
  rw [h1, Nat.min_eq_left (by omega), h2]
  obtain ⟨k, hk⟩ : ∃ k, n / 2 ^ i = k := ⟨_, rfl⟩
  have hkn : k ≤ 1099511627776 := by rw [← hk]; exact Nat.le_trans (Nat.div_le_self _ _) hn
  unfold bitF
  rw [hk]
  clear hk h2 h1 hn
  have h3 : bits BinOp.and IntKind.i64 (k : Int) 1 = ((k % 2 : Nat) : Int) := by
    have hk2 : k < 2 ^ IntKind.i64.bits := Nat.lt_of_le_of_lt hkn (by decide)
    rw [show (1 : Int) = ((1 : Nat) : Int) from rfl]
    simp only [bits, BitVec.ofInt_natCast, BitVec.toNat_and, BitVec.toNat_ofNat, Nat.mod_eq_of_lt hk2, Nat.mod_eq_of_lt (show 1 < 2 ^ IntKind.i64.bits by decide), Nat.and_one_is_mod]
    rw [IntKind.wrap_i64]
    omega
  rw [h3]
  rcases Nat.mod_two_eq_zero_or_one k with h | h <;> rw [h] <;> rfl
set_option maxHeartbeats 1000000 in
set_option maxRecDepth 100000 in
theorem bit_any (w : World) (i g n : Nat) (hi : i ≤ 60) (hn : n ≤ 1099511627776) (hg : w.cell? ⟨g, 0, none⟩ = some (.int .i64 (n : Int))) :
    Calls Try.prog 188 #[.int .i64 (i : Int), .pointer (some ⟨g, 0, none⟩)] w fun e w' => e = .returned (.bool (bitF n i)) ∧ Below w.heap.size w w' := by
  have HI := As.mk hi
  have HN := As.mk hn
  clear hi hn
  go_enter Try.func188, Try.ntmps188
  go_wp2
  go_ret
  exact ⟨by rw [← bits_plain i n HI.out HN.out]; rfl, by first | exact Below.refl _ _ | exact below_drewN (Below.refl _ _) 1⟩
set_option maxHeartbeats 2000000 in
set_option maxRecDepth 100000 in
theorem doneK_any (w : World) (ps : List (List Int)) (es : List (Int × List Int)) (k : Nat) (A E : Option Addr) (n c m d g : Nat) (hn : n ≤ 1000000) (hm : m ≤ 60) (hkn : k ≤ 1099511627776) (h0 : RdP w A n c ps) (h1 : RdE w E m d es) (hg : w.cell? ⟨g, 0, none⟩ = some (.int .i64 (k : Int))) (hlp : ∀ p ∈ ps, p.length ≤ 1000000) (hle : ∀ e ∈ es, e.2.length ≤ 1000000) (hin : ∀ j, j < m → 0 ≤ (nthE es j).1 ∧ (nthE es j).1 < n) :
    Calls Try.prog 117 #[.slice A n c, .slice E m d, .func (.func 188) #[] #[.pointer (some ⟨g, 0, none⟩)]] w fun e w' => ∃ A' c' L, e = .returned (.slice A' n c') ∧ Parts w' w.heap.size (.slice A' n c') n L (doneF (bitF k) 0 ps es) ∧ Below w.heap.size w w' ∧ Fresh w' w.heap.size (.slice A' n c') L (doneF (bitF k) 0 ps es) n := by
  have HN := As.mk hn
  have HM := As.mk hm
  have H0 := As.mk h0
  have H1 := As.mk h1
  have HK := As.mk hkn
  have HG := As.mk hg
  have HI := As.mk hin
  have HLA := As.mk (doneF_all (bitF k) (fun p => p.length ≤ 1000000) es 0 ps hlp hle)
  clear hn hm h0 h1 hkn hg hin hlp hle
  go_enter Try.func117, Try.ntmps117
  go_wp2_with (go_at_call 186; refine (cloneP_any ps A n c w HN.out H0.out).mono ?_; rintro e w1 ⟨A1, c1, L1, rfl, hp, hb⟩; have HP1 := As.mk hp; have HB1 := As.mk hb; clear hp hb)
  go_loopg [16] m (fun kq v16 wr => ∃ (i : Nat) (L : List Value), i + kq = m ∧ v16 = .int .i64 i ∧ As (Parts wr w.heap.size (.slice A1 n c1) n L (doneF (bitF k) 0 ps (es.take i))) ∧ As (Below w.heap.size w wr))
  case atStart => exact ⟨0, L1, by omega, rfl, HP1, HB1⟩
  case round =>
    clear HP1 HB1
    obtain ⟨i, L, hi, rfl, HP, HB⟩ := hrel
    have HII := As.mk hi
    clear hi
    by_cases hlt : i < m
    · have b0 : decide ((i : Int) < (m : Int)) = true := decide_eq_true (by omega)
      have b1 : decide (i < m) = true := decide_eq_true hlt
      have lt' : (i : Int) < (m : Int) := by omega
      have hw : wrap64 ((i : Int) + 1) = ((i + 1 : Nat) : Int) := wrap_up (by have := HM.out; omega)
      obtain ⟨ad, Aj, cj, ea, h1w, h2w, h3w⟩ := H1.out.at i hlt
      cases ea
      have h1 := (HB.out.cell (World.block_lt_of_cell? w _ h1w)).trans h1w
      have h2 := (HB.out.cell (World.block_lt_of_cell? w _ h2w)).trans h2w
      have h3 := h3w.below HB.out
      obtain ⟨hs0, hs1⟩ := HI.out i hlt
      obtain ⟨s, hs⟩ : ∃ s : Nat, (nthE es i).1 = (s : Int) := ⟨(nthE es i).1.toNat, by omega⟩
      obtain ⟨q, hq⟩ : ∃ q, q = (nthE es i).2 := ⟨_, rfl⟩
      obtain ⟨l, hl⟩ : ∃ l, l = q.length := ⟨_, rfl⟩
      rw [← hq] at h2 h3 h3w
      rw [← hl] at h2 h3 h3w
      rw [hs] at h1 hs1
      have lsn : s < n := by omega
      obtain ⟨g1, off, ea, hg1, hg2⟩ := own_shape HP.out.own (by omega)
      cases ea
      have H1c := As.mk h1
      have H2c := As.mk h2
      have HRD := As.mk h3
      have HOB := As.mk (old_apart (row := some g1) h3w (fun k hk => by cases hk; exact hg1))
      have HSN := As.mk lsn
      have HQ := As.mk hq
      have HS := As.mk hs
      have HLQ := As.mk hl
      have HLT := As.mk hlt
      have lsn' : (s : Int) < (n : Int) := by omega
      have HG1 := As.mk (show w.heap.size ≤ g1 ∧ g1 < wr.heap.size from ⟨hg1, hg2⟩)
      have HDS := As.mk (show doneF (bitF k) 0 ps (es.take (i + 1)) = if bitF k i = true then (doneF (bitF k) 0 ps (es.take i)).set s q else doneF (bitF k) 0 ps (es.take i) by
        rw [takeE es i (by rw [H1.out.len]; exact hlt), doneF_snoc, List.length_take, Nat.min_eq_left (by rw [H1.out.len]; omega), Nat.zero_add, hs, ← hq]; rfl)
      clear h1 h2 h3 h1w h2w h3w hs0 hs1 hs hq hl hlt hg1 hg2
      go_wp2_with (first
        | (refine wpList_load_at rfl 90 (.tmp 19) rfl (ad.add (i * 2)) rfl [.int .i64 (s : Int), .slice Aj l cj] _ (fun j v hv => by rcases j with _ | _ | j <;> simp at hv <;> subst hv <;> rw [add_add] <;> first | exact H1c.out | exact H2c.out) Try.underlying90 rfl infoEn ?_)
        | (go_at_call 188; refine As.out ?_))
      refine As.mk ?_
      have hba := below_alloc (Below.refl wr.heap.size wr) (.cells #[.int .i64 (s : Int), .slice Aj l cj] 90)
      have hvw := heap_alloc_new wr (.cells #[.int .i64 (s : Int), .slice Aj l cj] 90)
      have HBa := As.mk (below_step HB.out hba)
      have HG2 := As.mk ((HBa.out.cell (World.block_lt_of_cell? w _ HG.out)).trans HG.out)
      have HPa := As.mk (HP.out.below hba)
      have HRDa := As.mk (HRD.out.below hba)
      have HVW := As.mk hvw
      have HVL := As.mk (Array.getElem?_eq_some_iff.1 hvw).1
      have HVB := As.mk (show g1 ≠ wr.heap.size by have := HG1.out; omega)
      clear hba hvw
      generalize wr.alloc _ = w2 at *
      generalize wr.heap.size = bv at *
      refine (bit_any w2 i g k (by have := HM.out; have := HLT.out; omega) HK.out HG2.out).mono ?_
      rintro e w3 ⟨rfl, hb⟩
      have HB3 := As.mk (below_step HBa.out hb)
      have HP3 := As.mk (HPa.out.below hb)
      have HRD3 := As.mk (HRDa.out.below hb)
      have hv3 := (hb.block _ HVL.out).trans HVW.out
      have v0 : w3.cell? ⟨bv, 0, none⟩ = some (.int .i64 (s : Int)) := by rw [cell_of_row _ _ 0 _ _ _ hv3]; rfl
      have v1 : w3.cell? ⟨bv, 1, none⟩ = some (.slice Aj l cj) := by rw [cell_of_row _ _ 1 _ _ _ hv3]; rfl
      clear hb hv3 HB HP HBa HPa
      cases hkq : bitF k i with
      | true =>
        have HD := As.mk (HDS.out.trans (if_pos hkq))
        obtain ⟨u, eu, hu⟩ := HP3.out.each s HSN.out
        obtain ⟨ad1, e1, hc1⟩ := HP3.out.own.cell s u eu
        cases e1
        have hfz : w3.frozen? ⟨g1, off + s, none⟩ = false := OwnAt.frozen HP3.out.own _
        have hcs : w3.cell? ⟨g1, off + s, none⟩ = some u := by have := hc1; rwa [Addr.add_mid] at this
        have HU := As.mk hu
        have HEU := As.mk eu
        clear hkq hu eu hc1
        go_wp2
        go_roundg (m - (i + 1))
        case measure => have := HII.out; have := HLT.out; omega
        case rel =>
          refine ⟨i + 1, L.set s (.slice Aj l cj), by have := HII.out; have := HLT.out; omega, by go_num, ⟨?_⟩, ⟨HB3.out.setCell HG1.out.1 _⟩⟩
          rw [HD.out]
          exact Parts.set HP3.out s HSN.out _ _ (Elem.mk' HRD3.out HOB.out)
      | false =>
        have HD := As.mk (HDS.out.trans (if_neg (by rw [hkq]; decide)))
        clear hkq
        go_wp2
        go_roundg (m - (i + 1))
        case measure => have := HII.out; have := HLT.out; omega
        case rel => exact ⟨i + 1, L, by have := HII.out; have := HLT.out; omega, by go_num, ⟨by rw [HD.out]; exact HP3.out⟩, HB3⟩
    · have b0 : decide ((i : Int) < (m : Int)) = false := decide_eq_false (by omega)
      have b1 : decide (i < m) = false := decide_eq_false hlt
      obtain rfl : m = i := by have := HII.out; omega
      have hall : es.take m = es := by rw [← H1.out.len, List.take_length]
      rw [hall] at HP
      clear hall hlt HII
      go_wp2
      obtain ⟨PS, hPS⟩ : ∃ PS, PS = doneF (bitF k) 0 ps es := ⟨_, rfl⟩
      rw [← hPS] at HP HLA
      have HPSS := As.mk hPS
      clear hPS
      go_loopg [33] n (fun kq v33 wr => ∃ (i : Nat) (L : List Value), i + kq = n ∧ v33 = .int .i64 i ∧ As (Parts wr w.heap.size (.slice A1 n c1) n L PS) ∧ As (Below w.heap.size w wr) ∧ As (Fresh wr w.heap.size (.slice A1 n c1) L PS i))
      case atStart => exact ⟨0, L, by omega, rfl, HP, HB, ⟨fun j hj => by omega⟩⟩
      case round =>
        clear HP HB
        obtain ⟨i, L, hi, rfl, HP, HB, HF⟩ := hrel
        have HII := As.mk hi
        clear hi
        by_cases hlt : i < n
        · have b2 : decide ((i : Int) < (n : Int)) = true := decide_eq_true (by omega)
          have b3 : decide (i < n) = true := decide_eq_true hlt
          have lt' : (i : Int) < (n : Int) := by omega
          have hw : wrap64 ((i : Int) + 1) = ((i + 1 : Nat) : Int) := wrap_up (by have := HN.out; omega)
          obtain ⟨g1, off, ea, hg1, hg2⟩ := own_shape HP.out.own (by omega)
          cases ea
          obtain ⟨u, eu, hu⟩ := HP.out.each i hlt
          obtain ⟨Aj, cj, rfl, hr, hap⟩ := hu
          obtain ⟨ad1, e1, hc1⟩ := HP.out.own.cell i _ eu
          cases e1
          obtain ⟨q, hq⟩ : ∃ q, q = nthP PS i := ⟨_, rfl⟩
          obtain ⟨l, hl⟩ : ∃ l, l = q.length := ⟨_, rfl⟩
          rw [← hq, ← hl] at hr
          rw [Addr.add_mid, ← hq, ← hl] at hc1
          have HR := As.mk hr
          have HQ := As.mk hq
          have HL := As.mk hl
          have HLT := As.mk hlt
          have HLB := As.mk (show l ≤ 140737488351232 by have := HLA.out q (by rw [hq, nthP, List.getD_eq_getElem?_getD, List.getElem?_eq_getElem (by rw [HP.out.len]; exact hlt)]; exact List.getElem_mem _); omega)
          have HG1 := As.mk (show w.heap.size ≤ g1 ∧ g1 < wr.heap.size from ⟨hg1, hg2⟩)
          clear hr hq hl hlt hg1 hg2 hap eu
          go_wp2_with (go_at_call 128; refine As.out ?_)
          refine As.mk ?_
          refine (CloneB.any q Aj l cj wr HLB.out HR.out).mono ?_
          rintro e w5 ⟨A5, c5, rfl, ho, hb⟩
          have HO5 := As.mk (OwnAt.of_own ho)
          have HB5 := As.mk (below_step HB.out hb)
          have HP5 := As.mk (HP.out.below hb)
          have HF5 := As.mk (HF.out.below hb)
          have HG5 := As.mk (show w.heap.size ≤ wr.heap.size from HB.out.size)
          have hfz : w5.frozen? ⟨g1, off + i, none⟩ = false := OwnAt.frozen HP5.out.own _
          have hcs : w5.cell? ⟨g1, off + i, none⟩ = some (.slice Aj l cj) := (hb.cell (World.block_lt_of_cell? wr _ hc1)).trans hc1
          clear ho hb HB HP HF hc1
          go_wp2
          go_roundg (n - (i + 1))
          case measure => have := HII.out; have := HLT.out; omega
          case rel =>
            have hne : ∀ b, (Value.slice A5 l c5).ownBlock = some b → b ≠ g1 := fun b hb => by have h1 := (HO5.out.lt b hb).1; have h2 := HG1.out.2; omega
            have hm : l = (nthP PS i).length := by rw [← HQ.out]; exact HL.out
            have hset := Parts.set HP5.out i HLT.out (.slice A5 l c5) q (Elem.mk' (own_rd_at HO5.out) (fun _ ad ea => by subst ea; intro e2; injection e2 with e2; exact hne _ rfl e2))
            rw [show PS.set i q = PS by rw [HQ.out, nthP, List.getD_eq_getElem?_getD]; exact set_same PS i] at hset
            refine ⟨i + 1, L.set i (.slice A5 l c5), by have := HII.out; have := HLT.out; omega, by go_num, ⟨hset⟩, ⟨HB5.out.setCell HG1.out.1 _⟩, ⟨?_⟩⟩
            exact Fresh.set HF5.out (by rw [HP5.out.own.1]; exact HLT.out) A5 l c5 hm (by rw [← HQ.out]; exact HO5.out.weaken HG5.out) hne
        · have b2 : decide ((i : Int) < (n : Int)) = false := decide_eq_false (by omega)
          have b3 : decide (i < n) = false := decide_eq_false hlt
          obtain rfl : n = i := by have := HII.out; omega
          go_wp2
          go_ret
          exact ⟨A1, c1, L, rfl, by rw [← HPSS.out]; exact HP.out, HB.out, by rw [← HPSS.out]; exact HF.out⟩
end Go.Proofs.Yteajblfkfmopfaa.LawCrash
namespace Go.Proofs.Yteajblfkfmopfaa.LawCrash
set_option linter.unusedVariables false
set_option linter.unusedSimpArgs false
open Go Go.RowKit Go.Proofs.Yteajblfkfmopfaa.Mem Go.Proofs.Yteajblfkfmopfaa.Put32 Go.Proofs.Yteajblfkfmopfaa.Sum Go.Proofs.Yteajblfkfmopfaa.Hmac Go.Proofs.Yteajblfkfmopfaa.Parts Go.Proofs.Yteajblfkfmopfaa.Entries Go.Proofs.Yteajblfkfmopfaa.CrashApply

abbrev Img := List (List Int)
def nthI (is : List Img) (j : Nat) : Img := is.getD j []
/-- A slice of images that is read. -/
structure RdI (w : World) (A : Option Addr) (k c n : Nat) (is : List Img) : Prop where
  len : is.length = k
  le : k ≤ c
  cap : c ≤ maxLen
  cells : 0 < k → ∃ ad, A = some ad ∧ ∀ j, j < k → ∃ Aj cj, w.cell? (ad.add j) = some (.slice Aj n cj) ∧ RdP w Aj n cj (nthI is j)
theorem RdI.at {w : World} {A : Option Addr} {k c n : Nat} {is : List Img} (h : RdI w A k c n is) (j : Nat) (hj : j < k) : ∃ ad Aj cj, A = some ad ∧ w.cell? (ad.add j) = some (.slice Aj n cj) ∧ RdP w Aj n cj (nthI is j) := by
  obtain ⟨ad, e, hc⟩ := h.cells (by omega)
  obtain ⟨Aj, cj, h1⟩ := hc j hj
  exact ⟨ad, Aj, cj, e, h1⟩
theorem RdI.below {w w' : World} {A : Option Addr} {k c n : Nat} {is : List Img} (h : RdI w A k c n is) (hb : Below w.heap.size w w') : RdI w' A k c n is :=
  ⟨h.len, h.le, h.cap, fun h0 => by
    obtain ⟨ad, e, hc⟩ := h.cells h0
    refine ⟨ad, e, fun j hj => ?_⟩
    obtain ⟨Aj, cj, h1, h2⟩ := hc j hj
    exact ⟨Aj, cj, (hb.cell (World.block_lt_of_cell? w _ h1)).trans h1, h2.below hb⟩⟩
theorem nthI_mem {is : List Img} {j : Nat} (h : j < is.length) : nthI is j ∈ is := by
  unfold nthI
  rw [List.getD_eq_getElem?_getD, List.getElem?_eq_getElem h]
  exact List.getElem_mem _
/-- the first of a kind; none: minus one -/
def firstI (q : Img → Bool) : Nat → List Img → Int
  | _, [] => -1
  | i, e :: r => if q e = true then (i : Int) else firstI q (i + 1) r
theorem firstI_any (q : Img → Bool) : ∀ (es : List Img) (i : Nat), decide (0 ≤ firstI q i es) = es.any q
  | [], i => rfl
  | e :: r, i => by
    unfold firstI
    by_cases h : q e = true
    · simp [h]
    · simp [h, firstI_any q r (i + 1)]
theorem firstI_at (q : Img → Bool) : ∀ (es : List Img) (i j : Nat), j < es.length → (∀ k, k < j → q (nthI es k) = false) → q (nthI es j) = true → firstI q i es = ((i + j : Nat) : Int)
  | [], i, j, h, _, _ => by simp at h
  | e :: r, i, 0, _, _, h => by
    have h2 : q e = true := h
    rw [firstI, if_pos h2]
    rfl
  | e :: r, i, j + 1, hj, hn, h => by
    have h1 : q e = false := hn 0 (by omega)
    rw [firstI, if_neg (by rw [h1]; decide), firstI_at q r (i + 1) j (by simpa using hj) (fun k hk => hn (k + 1) (by omega)) h]
    congr 1
    omega
theorem firstI_none (q : Img → Bool) : ∀ (es : List Img) (i : Nat), (∀ k, k < es.length → q (nthI es k) = false) → firstI q i es = -1
  | [], i, _ => rfl
  | e :: r, i, h => by
    have h1 : q e = false := h 0 (by simp)
    rw [firstI, if_neg (by rw [h1]; decide)]
    exact firstI_none q r (i + 1) (fun k hk => h (k + 1) (by simpa using hk))
/-- the closure: is it the image that stands in the cell? -/
theorem out1_any (w : World) (x y : Img) (X Y : Option Addr) (n c d g : Nat) (hn : n ≤ 1000000) (h0 : RdP w X n c x) (h1 : RdP w Y n d y) (bx : ∀ p ∈ x, Byte p) (byy : ∀ p ∈ y, Byte p) (hg : w.cell? ⟨g, 0, none⟩ = some (.slice X n c)) :
    Calls Try.prog 123 #[.slice Y n d, .pointer (some ⟨g, 0, none⟩)] w fun e w' => e = .returned (.bool (decide (x = y))) ∧ Below w.heap.size w w' := by
  have HC := As.mk (sameC_any w x y X Y n c n d hn h0 h1 bx byy (decide (x = y)) (by rw [decide_eq_true_eq]))
  clear hn h0 h1 bx byy
  obtain ⟨r, hr⟩ : ∃ r, decide (x = y) = r := ⟨_, rfl⟩
  rw [hr] at HC ⊢
  clear hr
  go_enter Try.func123, Try.ntmps123
  go_wp2_with (go_at_call 50; refine HC.out.mono ?_; rintro e w2 ⟨rfl, hb⟩; have HB2 := As.mk hb; clear hb)
  go_ret
  exact ⟨rfl, HB2.out⟩
set_option maxHeartbeats 1000000 in
set_option maxRecDepth 100000 in
theorem index_out (w : World) (x : Img) (X : Option Addr) (c g : Nat) (is : List Img) (A : Option Addr) (n k d : Nat) (hn : n ≤ 1000000) (hk : k ≤ 1000000) (h0 : RdP w X n c x) (h : RdI w A k d n is) (bx : ∀ p ∈ x, Byte p) (bi : ∀ y ∈ is, ∀ p ∈ y, Byte p) (hg : w.cell? ⟨g, 0, none⟩ = some (.slice X n c)) :
    Calls Try.prog 189 #[.slice A k d, .func (.func 123) #[] #[.pointer (some ⟨g, 0, none⟩)]] w fun e w' => e = .returned (.int .i64 (firstI (fun y => decide (x = y)) 0 is)) ∧ Below w.heap.size w w' := by
  have HN := As.mk hn
  have HKK := As.mk hk
  have H0 := As.mk h0
  have H := As.mk h
  have HG := As.mk hg
  have BX := As.mk bx
  have BI := As.mk bi
  clear hn h hg hk h0 bx bi
  go_enter Try.func189, Try.ntmps189
  go_wp2
  go_loopg [8] k (fun kq vs wr => ∃ i : Nat, i + kq = k ∧ vs = .int .i64 i ∧ As (∀ j, j < i → decide (x = nthI is j) = false) ∧ As (Below w.heap.size w wr))
  case atStart => exact ⟨0, by omega, rfl, ⟨fun k hk => by omega⟩, ⟨Below.refl _ _⟩⟩
  case round =>
    obtain ⟨i, hi, rfl, HK, HB⟩ := hrel
    have HI := As.mk hi
    clear hi
    by_cases hlt : i < k
    · have c0 : decide ((i : Int) < (k : Int)) = true := decide_eq_true (by omega)
      have c1 : decide (i < k) = true := decide_eq_true hlt
      have lt' : (i : Int) < (k : Int) := by omega
      have hw : wrap64 ((i : Int) + 1) = ((i + 1 : Nat) : Int) := wrap_up (by have := HKK.out; omega)
      obtain ⟨ad, Aj, cj, ea, h1, h2⟩ := (H.out.below HB.out).at i hlt
      cases ea
      have HGW := As.mk ((HB.out.cell (World.block_lt_of_cell? w _ HG.out)).trans HG.out)
      have HLT := As.mk hlt
      have H1P := As.mk h2
      have BY := As.mk (BI.out _ (nthI_mem (is := is) (j := i) (by rw [H.out.len]; exact hlt)))
      clear h2 hlt
      go_wp2_with (go_at_call 123; refine (out1_any wr x (nthI is i) X Aj n c cj g HN.out (H0.out.below HB.out) H1P.out BX.out BY.out HGW.out).mono ?_; rintro e w2 ⟨rfl, hb⟩; have HB2 := As.mk (below_step HB.out hb); clear hb; refine As.out ?_)
      refine As.mk ?_
      cases hq : decide (x = nthI is i) with
      | true =>
        have HF := As.mk (firstI_at (fun y => decide (x = y)) is 0 i (by rw [H.out.len]; exact HLT.out) HK.out hq)
        clear hq
        go_wp2
        go_ret
        exact ⟨by rw [HF.out, Nat.zero_add]; rfl, HB2.out⟩
      | false =>
        have HQF := As.mk hq
        clear hq
        go_wp2
        go_roundg (k - (i + 1))
        case measure => have := HI.out; have := HLT.out; omega
        case rel =>
          refine ⟨i + 1, by have := HI.out; have := HLT.out; omega, by go_num, ⟨fun k hk => ?_⟩, HB2⟩
          rcases Nat.lt_succ_iff_lt_or_eq.1 hk with h | rfl
          · exact HK.out k h
          · exact HQF.out
    · have c0 : decide ((i : Int) < (k : Int)) = false := decide_eq_false (by omega)
      have c1 : decide (i < k) = false := decide_eq_false hlt
      have HF := As.mk (firstI_none (fun y => decide (x = y)) is 0 (fun j hj => HK.out j (by have := H.out.len; have := HI.out; omega)))
      clear hlt
      go_wp2
      go_ret
      exact ⟨by rw [HF.out]; rfl, HB.out⟩
theorem contains_out (w : World) (x : Img) (X : Option Addr) (c g : Nat) (is : List Img) (A : Option Addr) (n k d : Nat) (hn : n ≤ 1000000) (hk : k ≤ 1000000) (h0 : RdP w X n c x) (h : RdI w A k d n is) (bx : ∀ p ∈ x, Byte p) (bi : ∀ y ∈ is, ∀ p ∈ y, Byte p) (hg : w.cell? ⟨g, 0, none⟩ = some (.slice X n c)) :
    Calls Try.prog 122 #[.slice A k d, .func (.func 123) #[] #[.pointer (some ⟨g, 0, none⟩)]] w fun e w' => e = .returned (.bool (is.any fun y => decide (x = y))) ∧ Below w.heap.size w w' := by
  have HC := As.mk (index_out w x X c g is A n k d hn hk h0 h bx bi hg)
  have HF := As.mk (firstI_any (fun y => decide (x = y)) is 0)
  clear hn hk h0 h bx bi hg
  obtain ⟨r, hr⟩ : ∃ r, r = firstI (fun y => decide (x = y)) 0 is := ⟨_, rfl⟩
  rw [← hr] at HF HC
  obtain ⟨b, hb⟩ : ∃ b, b = is.any fun y => decide (x = y) := ⟨_, rfl⟩
  rw [← hb] at HF ⊢
  clear hr hb
  go_enter Try.func122, Try.ntmps122
  go_wp2_with (go_at_call 189; refine HC.out.mono ?_; rintro e w2 ⟨rfl, hb⟩; have HB2 := As.mk hb; clear hb; refine As.out ?_)
  refine As.mk ?_
  go_wp2
  go_ret
  exact ⟨by rw [← HF.out]; rfl, HB2.out⟩
end Go.Proofs.Yteajblfkfmopfaa.LawCrash
namespace Go.Proofs.Yteajblfkfmopfaa.LawCrash
set_option linter.unusedVariables false
set_option linter.unusedSimpArgs false
open Go Go.RowKit Go.Proofs.Yteajblfkfmopfaa.Mem Go.Proofs.Yteajblfkfmopfaa.Put32 Go.Proofs.Yteajblfkfmopfaa.Sum Go.Proofs.Yteajblfkfmopfaa.Hmac Go.Proofs.Yteajblfkfmopfaa.Parts Go.Proofs.Yteajblfkfmopfaa.Entries Go.Proofs.Yteajblfkfmopfaa.CrashApply

set_option maxHeartbeats 400000 in
theorem all_any (A E : Option Addr) (n c m d : Nat) (w : World) :
    Calls Try.prog 121 #[.slice A n c, .slice E m d] w fun e w' => e = .returned (.func (.func 187) #[] #[.pointer (some ⟨w.heap.size + 1, 0, none⟩), .pointer (some ⟨w.heap.size, 0, none⟩)]) ∧ w' = (w.alloc (.cells #[.slice A n c] 50)).alloc (.cells #[.slice E m d] 73) := by
  go_enter Try.func121, Try.ntmps121
  go_wp2
  go_ret
  exact ⟨by simp, rfl⟩
end Go.Proofs.Yteajblfkfmopfaa.LawCrash
