/- kdf.Derive. chatelaineref08.Derive. -/
import Derived.Test.YtjcofbjfolaoiaaParts
import Derived.Test.YtjcofbjfolaoiaaShelf
import Derived.Lib.IndexAny
import Derived.Test.YtjcofbjfolaoiaaChain
import Derived.Lib.IndexLaws
namespace Go.Proofs.Ytjcofbjfolaoiaa.Derive
set_option linter.unusedVariables false
set_option linter.unusedSimpArgs false
open Go Go.RowKit Go.Proofs.Ytjcofbjfolaoiaa.Mem Go.Proofs.Ytjcofbjfolaoiaa.Put32 Go.Proofs.Ytjcofbjfolaoiaa.Pad Go.Proofs.Ytjcofbjfolaoiaa.Sum Go.Proofs.Ytjcofbjfolaoiaa.Hmac Go.Proofs.Ytjcofbjfolaoiaa.Parts Go.Proofs.Ytjcofbjfolaoiaa.Put Go.Proofs.Ytjcofbjfolaoiaa.RefSum Go.Proofs.Ytjcofbjfolaoiaa.ShaSums

def ctxP (ctx : List (List Int)) : List (List Int) := ctx.flatMap fun c => [bytes8 c.length, c]
def partsP (n : Nat) (ctx : List (List Int)) : List (List Int) := ctxP ctx ++ [beB 2 n]
def headB (i : Nat) (name : List Int) : List Int := ((i : Int) :: name) ++ [0]
def blockB (key name : List Int) (ctx : List (List Int)) (n i : Nat) : List Int := tagB key (headB i name ++ (partsP n ctx).flatten)
def outB (key name : List Int) (ctx : List (List Int)) (n m : Nat) : List Int := (List.range m).flatMap fun j => blockB key name ctx n (j + 1)
def deriveB (key name : List Int) (ctx : List (List Int)) (n : Nat) : List Int := (outB key name ctx n 4).take n
theorem outB_succ (key name : List Int) (ctx : List (List Int)) (n m : Nat) : outB key name ctx n (m + 1) = outB key name ctx n m ++ blockB key name ctx n (m + 1) := by
  simp [outB, List.range_succ]
theorem outB_len (key name : List Int) (ctx : List (List Int)) (n m : Nat) : (outB key name ctx n m).length = 32 * m := by
  induction m with
  | zero => rfl
  | succ m ih => rw [outB_succ, List.length_append, ih, blockB, tagB_len]; omega
theorem outB_take (key name : List Int) (ctx : List (List Int)) (n m : Nat) (h : n ≤ 32 * m) (k : Nat) : (outB key name ctx n (m + k)).take n = (outB key name ctx n m).take n := by
  induction k with
  | zero => rfl
  | succ k ih => rw [← Nat.add_assoc, outB_succ, List.take_append_of_le_length (by rw [outB_len]; omega), ih]
theorem ctxP_succ (ctx : List (List Int)) (i : Nat) (h : i < ctx.length) : ctxP (ctx.take (i + 1)) = ctxP (ctx.take i) ++ [bytes8 (nthP ctx i).length, nthP ctx i] := by
  unfold ctxP
  rw [List.take_succ_eq_append_getElem h, List.flatMap_append]
  simp [nthP, List.getD_eq_getElem?_getD, List.getElem?_eq_getElem h]
theorem nthP_mem {ps : List (List Int)} {j : Nat} (h : j < ps.length) : nthP ps j ∈ ps := by
  unfold nthP
  rw [List.getD_eq_getElem?_getD, List.getElem?_eq_getElem h]
  exact List.getElem_mem _
theorem bad_key (c n np cp : Nat) (A P : Option Addr) (nm : ByteArray) (m : Int) (w : World) :
    Calls Try.prog 125 #[.slice A 0 c, .string nm, .int .i64 m, .slice P np cp] w fun e w' => e = .returned (.tuple #[.slice none 0 0, .int .i64 20]) ∧ w = w' := by
  go_enter Try.func125, Try.ntmps125
  go_wp2
  go_ret2
  exact ⟨rfl, rfl⟩
theorem bad_n (s c np cp : Nat) (A P : Option Addr) (nm : ByteArray) (m : Int) (w : World) (hs : 1 ≤ s) (hm : m < 1 ∨ 128 < m) :
    Calls Try.prog 125 #[.slice A s c, .string nm, .int .i64 m, .slice P np cp] w fun e w' => e = .returned (.tuple #[.slice none 0 0, .int .i64 2]) ∧ w = w' := by
  have e0 : ((s : Int) == 0) = false := beq_eq_false_iff_ne.2 (by omega)
  have e1 : (s == 0) = false := beq_eq_false_iff_ne.2 (by omega)
  rcases hm with h | h
  all_goals
    go_enter Try.func125, Try.ntmps125
    go_wp2
    go_ret2
    exact ⟨rfl, rfl⟩
theorem bad_name (s c np cp : Nat) (A P : Option Addr) (nm : ByteArray) (m : Int) (w : World) (hs : 1 ≤ s) (hm : 1 ≤ m ∧ m ≤ 128) (h : 64 < nm.size ∨ (nm.size ≤ 64 ∧ 0 ≤ Lib.indexByte nm.data.toList 0)) :
    Calls Try.prog 125 #[.slice A s c, .string nm, .int .i64 m, .slice P np cp] w fun e w' => e = .returned (.tuple #[.slice none 0 0, .int .i64 3]) ∧ w = w' := by
  have e0 : ((s : Int) == 0) = false := beq_eq_false_iff_ne.2 (by omega)
  have e1 : (s == 0) = false := beq_eq_false_iff_ne.2 (by omega)
  obtain ⟨m1, m2⟩ := hm
  rcases h with h | ⟨h, hz⟩
  · have d0 : decide (64 < (nm.size : Int)) = true := decide_eq_true (by omega)
    go_enter Try.func125, Try.ntmps125
    go_wp2
    go_ret2
    exact ⟨rfl, rfl⟩
  · have d0 : decide (64 < (nm.size : Int)) = false := decide_eq_false (by omega)
    obtain ⟨q, hq⟩ : ∃ q, q = Lib.indexByte nm.data.toList 0 := ⟨_, rfl⟩
    rw [← hq] at hz
    have HQ := As.mk hq
    clear hq
    go_enter Try.func125, Try.ntmps125
    go_wp2_with (go_at_call 161; refine (Try.strings_IndexByte nm 0 _).mono ?_; rintro e w1 ⟨rfl, rfl⟩; rw [show (Int.toNat 0).toUInt8 = 0 from rfl, ← HQ.out])
    go_ret2
    exact ⟨rfl, rfl⟩
theorem lit_src (w : World) (T : TypeId) (vs : List Value) (h : vs.length ≤ maxLen) (h1 : ∀ u ∈ vs, u.oneCell' = true) : Go.Proofs.Ytjcofbjfolaoiaa.Mem.Src (w.alloc (.cells vs.toArray T)) (.slice (some ⟨w.heap.size, 0, none⟩) vs.length vs.length) vs.length 1 vs :=
  Src.own (OwnAt.lit w T vs h) h1
theorem ctx_at {w : World} {P : Option Addr} {np cp : Nat} {ctx : List (List Int)} (h : RdP w P np cp ctx) (i : Nat) (hi : i < np) :
    ∃ ad Aj cj, P = some ad ∧ w.cell? (ad.add i) = some (.slice Aj (nthP ctx i).length cj) ∧ Rd .u8 w Aj (nthP ctx i).length cj (nthP ctx i) := by
  obtain ⟨ad, e, hc⟩ := h.cells (by omega)
  obtain ⟨Aj, cj, h1, h2⟩ := hc i hi
  exact ⟨ad, Aj, cj, e, h1, h2⟩
theorem partsP_byte (n : Nat) (ctx : List (List Int)) (h : ∀ p ∈ ctx, Byte p) : ∀ p ∈ partsP n ctx, Byte p := by
  intro p hp
  unfold partsP ctxP at hp
  rcases List.mem_append.1 hp with h1 | h1
  · obtain ⟨c, hc, h2⟩ := List.mem_flatMap.1 h1
    simp only [List.mem_cons, List.not_mem_nil, or_false] at h2
    rcases h2 with rfl | rfl
    · exact bytes8_byte _
    · exact h _ hc
  · simp only [List.mem_cons, List.not_mem_nil, or_false] at h1
    subst h1
    exact beB_byte _ _
theorem ctxP_len : ∀ (ctx : List (List Int)), (∀ p ∈ ctx, p.length ≤ 1000) → (ctxP ctx).flatten.length ≤ 1008 * ctx.length
  | [], _ => by simp [ctxP]
  | c :: ctx, h => by
    have h1 := ctxP_len ctx fun p hp => h p (List.mem_cons_of_mem _ hp)
    have h2 := h c List.mem_cons_self
    have h3 : (ctxP (c :: ctx)).flatten.length = 8 + (c.length + (ctxP ctx).flatten.length) := by
      unfold ctxP
      simp only [List.flatMap_cons, List.flatten_append, List.length_append, List.flatten_cons, List.flatten_nil, bytes8_len, List.append_nil]
      omega
    rw [h3, List.length_cons]
    omega
theorem partsP_len (n : Nat) (ctx : List (List Int)) (hl : ctx.length ≤ 100) (h : ∀ p ∈ ctx, p.length ≤ 1000) : (partsP n ctx).flatten.length ≤ 200000 := by
  have h1 := ctxP_len ctx h
  unfold partsP
  rw [List.flatten_append, List.length_append, List.flatten_cons, List.flatten_nil, List.append_nil, beB_len]
  omega
theorem headB_byte (k : Nat) (nm : ByteArray) (h : k < 256) : Byte (headB k (strB nm)) := by
  intro y hy
  unfold headB at hy
  simp only [List.cons_append, List.mem_cons, List.mem_append, List.not_mem_nil, or_false] at hy
  rcases hy with rfl | h1 | rfl
  · omega
  · unfold strB at h1
    obtain ⟨b, _, rfl⟩ := List.mem_map.1 h1
    have := b.toNat_lt
    omega
  · omega
theorem headB_len (k : Nat) (nm : ByteArray) : (headB k (strB nm)).length = 1 + nm.size + 1 := by
  simp [headB, strB_len]; omega
theorem head_own {w : World} {base k n : Nat} {nm : ByteArray} {A : Option Addr} {c : Nat} (h : OwnAt w base (.slice A n c) n (([.int .u8 (k : Int)] ++ (strB nm).map (Value.int .u8)) ++ [.int .u8 0])) :
    OwnAt w base (.slice A n c) n ((headB k (strB nm)).map (Value.int .u8)) := by
  have e : (headB k (strB nm)).map (Value.int .u8) = ([.int .u8 (k : Int)] ++ (strB nm).map (Value.int .u8)) ++ [.int .u8 0] := by simp [headB]
  rw [e]
  exact h
theorem head_parts {h : List Int} {ps : List (List Int)} (h1 : Byte h) (h2 : ∀ p ∈ ps, Byte p) : ∀ p ∈ [h] ++ ps, Byte p := by
  intro p hp
  rcases List.mem_append.1 hp with e | e
  · simp only [List.mem_cons, List.not_mem_nil, or_false] at e
    subst e
    exact h1
  · exact h2 p e
set_option maxHeartbeats 4000000 in
set_option maxRecDepth 100000 in
theorem derive_ok (key : List Int) (ctx : List (List Int)) (A : Option Addr) (s c : Nat) (nm : ByteArray) (n : Nat) (P : Option Addr) (np cp : Nat) (w : World)
    (hk : Byte key) (hs : 1 ≤ s ∧ s ≤ 1000) (h0 : Rd .u8 w A s c key) (hn : 1 ≤ n ∧ n ≤ 128) (hnm : nm.size ≤ 64) (hz : Lib.indexByte nm.data.toList 0 = -1) (hc : ∀ p ∈ ctx, Byte p ∧ p.length ≤ 1000) (hnp : np ≤ 100) (h1 : RdP w P np cp ctx) :
    Calls Try.prog 125 #[.slice A s c, .string nm, .int .i64 (n : Int), .slice P np cp] w fun e w' => ∃ A' c', e = .returned (.tuple #[.slice A' n c', .int .i64 0]) ∧ Rd .u8 w' A' n c' (deriveB key (strB nm) ctx n) ∧ Below w.heap.size w w' := by
  have e0 : ((s : Int) == 0) = false := beq_eq_false_iff_ne.2 (by omega)
  have e1 : (s == 0) = false := beq_eq_false_iff_ne.2 (by omega)
  have d0 : decide (64 < (nm.size : Int)) = false := decide_eq_false (by omega)
  have m1 : (1 : Int) ≤ (n : Int) := by omega
  have m2 : (n : Int) ≤ 128 := by omega
  have HK := As.mk hk
  have HS := As.mk hs
  have H0 := As.mk h0
  have HN := As.mk hn
  have HNM := As.mk hnm
  have HZ := As.mk hz
  have HC := As.mk hc
  have HNP := As.mk hnp
  have H1 := As.mk h1
  clear hk hs h0 hn hnm hz hc hnp h1
  go_enter Try.func125, Try.ntmps125
  go_wp2_with (go_at_call 161; refine (Try.strings_IndexByte nm 0 _).mono ?_; rintro e w1 ⟨rfl, hw⟩; have hw' := hw.symm; clear hw; subst hw'; rw [show (Int.toNat 0).toUInt8 = 0 from rfl, HZ.out])
  go_loopg [10, 41] np (fun kq v10 v41 wr => ∃ (i : Nat) (A' : Option Addr) (c' : Nat) (L : List Value), i + kq = np ∧ v10 = .slice A' (2 * i) c' ∧ v41 = .int .i64 i ∧ As (Parts wr w.heap.size (.slice A' (2 * i) c') (2 * i) L (ctxP (ctx.take i))) ∧ As (Below w.heap.size w wr))
  case atStart => exact ⟨0, none, 0, [], by omega, rfl, rfl, ⟨Parts.nil _ _⟩, ⟨Below.refl _ _⟩⟩
  case round =>
    obtain ⟨i, A', c', L, hi, rfl, rfl, HP, HB⟩ := hrel
    have HI := As.mk hi
    clear hi
    by_cases hlt : i < np
    · have z0 : decide ((i : Int) < (np : Int)) = true := decide_eq_true (by omega)
      have hnp : np ≤ 100 := HNP.out
      obtain ⟨ad, Aj, cj, rfl, hcell0, hrd⟩ := ctx_at H1.out i hlt
      have hcell := (HB.out.cell (World.block_lt_of_cell? w _ hcell0)).trans hcell0
      clear hcell0
      obtain ⟨x, hx⟩ : ∃ x, x = nthP ctx i := ⟨_, rfl⟩
      have hxl : x.length ≤ 1000 ∧ Byte x := by rw [hx]; have := HC.out _ (nthP_mem (show i < ctx.length by rw [H1.out.len]; exact hlt)); exact ⟨this.2, this.1⟩
      rw [← hx] at hcell hrd
      have HX := As.mk hx
      have HXL := As.mk hxl
      have HRD := As.mk hrd
      have HLT := As.mk hlt
      obtain ⟨m, hm⟩ : ∃ m : Nat, m = x.length := ⟨_, rfl⟩
      rw [← hm] at hcell
      have hm1 : m ≤ 1000 := by omega
      have HM := As.mk hm
      clear hx hxl hrd hm
      go_wp2_with (first
        | (go_at_call 162; (refine (number_ok m (by omega) _).mono ?_); rintro e w1 ⟨An, cn, rfl, hb, ho⟩; have HB1 := As.mk hb; have HO := As.mk ho; clear hb ho)
        | (at_builtin; refine As.out ?_))
      refine As.mk ?_
      have hBW := below_alloc HB1.out (.cells #[.slice An 8 cn, .slice Aj m cj] 32)
      have hPW := HP.out.below hBW
      have hsrc : Go.Proofs.Ytjcofbjfolaoiaa.Mem.Src (w1.alloc (.cells #[.slice An 8 cn, .slice Aj m cj] 32)) (.slice (some ⟨w1.heap.size, 0, none⟩) 2 2) 2 1 [.slice An 8 cn, .slice Aj m cj] := lit_src w1 32 [.slice An 8 cn, .slice Aj m cj] (by show 2 ≤ maxLen; decide) (by simp; exact ⟨rfl, rfl⟩)
      have hlt1 : ∀ k, (Value.slice A' (2 * i) c').ownBlock = some k → k < wr.heap.size := fun k hk => (HP.out.own.lt k hk).2
      have hel : ∀ j, j < 2 → ∃ u, ([.slice An 8 cn, .slice Aj m cj] : List Value)[j]? = some u ∧ Elem (w1.alloc (.cells #[.slice An 8 cn, .slice Aj m cj] 32)) (Value.slice A' (2 * i) c').ownBlock u (nthP [bytes8 m, x] j) := fun j hj => by
        rcases (show j = 0 ∨ j = 1 by omega) with rfl | rfl
        · refine ⟨_, rfl, Elem.below ?_ (below_alloc (Below.refl w1.heap.size w1) _)⟩
          exact Elem.mk' (own_rd_at HO.out) fun _ => own_apart HO.out hlt1
        · refine ⟨_, rfl, Elem.below ?_ hBW⟩
          have hr := HRD.out
          rw [← HM.out] at hr
          exact Elem.mk' (hr.below HB.out) (old_apart hr fun k hk => (HP.out.own.lt k hk).1)
      have hBB := below_step HB.out hBW
      have HPW := As.mk hPW
      have HSR := As.mk hsrc
      have HEL := As.mk hel
      have HBB := As.mk hBB
      clear hBW hPW hsrc hlt1 hel hBB
      go_wp2_with (at_builtin; go_loud (refine wpList_app2 rfl _ _ 37 rfl w.heap.size 32 (.slice none 0 0) 24 Try.underlying37 infoS rfl _ (2 * i) _ rfl HPW.out.own _ 2 _ rfl HSR.out ?c1 ?c2 HBB.out.size HBB.out (Nat.le_refl _) ?_; (case c1 => have := HLT.out; unfold maxLen; omega); (case c2 => have := HLT.out; omega); intro v3 w3 hown hg hat hb3; obtain ⟨A3, c3, rfl⟩ := hown.slice; have HP3 := As.mk (HPW.out.app (m := 2) (qs := [bytes8 m, x]) rfl HEL.out hown hg hat); have HB3 := As.mk hb3; clear hown hg hat hb3))
      go_roundg (np - (i + 1))
      case measure => have := HI.out; have := HLT.out; omega
      case rel =>
        refine ⟨i + 1, A3, c3, L ++ [.slice An 8 cn, .slice Aj m cj], by have := HI.out; have := HLT.out; omega, rfl, by go_num, ⟨?_⟩, HB3⟩
        have h := HP3.out
        rw [ctxP_succ ctx i (by rw [H1.out.len]; exact HLT.out), ← HX.out, ← HM.out]
        exact h
    · have z0 : decide ((i : Int) < (np : Int)) = false := decide_eq_false (by omega)
      have z1 : decide (i < np) = false := decide_eq_false hlt
      obtain rfl : i = np := by have := HI.out; omega
      have hnp : i ≤ 100 := HNP.out
      clear hlt HI
      go_wp2_with (first
        | (go_at_call 141; (refine (put_ok 2 n (by decide) (by omega) (by have := HN.out; omega) _).mono ?_); rintro e w1 ⟨Ae, ce, rfl, hb, ho⟩; have HB1 := As.mk hb; have HO := As.mk ho; clear hb ho)
        | (at_builtin; refine As.out ?_))
      refine As.mk ?_
      have hBW := below_alloc HB1.out (.cells #[.slice Ae 2 ce] 32)
      have hPW := HP.out.below hBW
      have hsrc : Go.Proofs.Ytjcofbjfolaoiaa.Mem.Src (w1.alloc (.cells #[.slice Ae 2 ce] 32)) (.slice (some ⟨w1.heap.size, 0, none⟩) 1 1) 1 1 [.slice Ae 2 ce] := lit_src w1 32 [.slice Ae 2 ce] (by show 1 ≤ maxLen; decide) (by simp; rfl)
      have hlt1 : ∀ k, (Value.slice A' (2 * i) c').ownBlock = some k → k < wr.heap.size := fun k hk => (HP.out.own.lt k hk).2
      have hel : ∀ j, j < 1 → ∃ u, ([.slice Ae 2 ce] : List Value)[j]? = some u ∧ Elem (w1.alloc (.cells #[.slice Ae 2 ce] 32)) (Value.slice A' (2 * i) c').ownBlock u (nthP [beB 2 n] j) := fun j hj => by
        obtain rfl : j = 0 := by omega
        refine ⟨_, rfl, Elem.below ?_ (below_alloc (Below.refl w1.heap.size w1) _)⟩
        exact Elem.mk' (own_rd_at HO.out) fun _ => own_apart HO.out hlt1
      have HPW := As.mk hPW
      have HSR := As.mk hsrc
      have HEL := As.mk hel
      have HBB := As.mk (below_step HB.out hBW)
      clear hBW hPW hsrc hlt1 hel
      go_wp2_with (at_builtin; refine wpList_app2 rfl _ _ 37 rfl w.heap.size 32 (.slice none 0 0) 24 Try.underlying37 infoS rfl _ (2 * i) _ rfl HPW.out.own _ 1 _ rfl HSR.out ?c3 ?c4 HBB.out.size HBB.out (Nat.le_refl _) ?_; (case c3 => have := HNP.out; unfold maxLen; omega); (case c4 => have := HNP.out; omega); intro v3 w3 hown hg hat hb3; obtain ⟨A3, c3, rfl⟩ := hown.slice; have HP3 := As.mk (HPW.out.app (m := 1) (qs := [beB 2 n]) rfl HEL.out hown hg hat); have HB3 := As.mk hb3; clear hown hg hat hb3; refine As.out ?_)
      refine As.mk ?_
      have hP3 : Parts w3 w.heap.size (.slice A3 (2 * i + 1) c3) (2 * i + 1) (L ++ [.slice Ae 2 ce]) (partsP n ctx) := by
        have h := HP3.out
        rw [List.take_of_length_le (by rw [H1.out.len]; exact Nat.le_refl _)] at h
        exact h
      have HQ := As.mk hP3
      have HQB : As (2 * i + 1 ≤ 201) := ⟨by omega⟩
      have HH0 := As.mk (H0.out.below HB3.out)
      clear hP3 HP3 HPW HSR HEL HBB HB1 HO HP HB
      generalize 2 * i + 1 = q at *
      generalize L ++ [Value.slice Ae 2 ce] = LL at *
      have HPB : As (∀ p ∈ partsP n ctx, Byte p) := ⟨partsP_byte n ctx fun p hp => (HC.out p hp).1⟩
      have HFL : As ((partsP n ctx).flatten.length ≤ 200000) := ⟨partsP_len n ctx (by rw [H1.out.len]; exact HNP.out) fun p hp => (HC.out p hp).2⟩
      go_wp2
      go_loopg [15, 16] 4 (fun kq v15 v16 wr => ∃ (m t k : Nat) (A' : Option Addr) (c' : Nat), m + kq = 4 ∧ t = 32 * m ∧ k = m + 1 ∧ v15 = .slice A' t c' ∧ v16 = .int .u8 (k : Int) ∧ As (OwnAt wr w3.heap.size (.slice A' t c') t ((outB key (strB nm) ctx n m).map (Value.int .u8))) ∧ As (Below w3.heap.size w3 wr))
      case atStart => exact ⟨0, 0, 1, none, 0, by omega, rfl, rfl, rfl, rfl, ⟨OwnAt.nil _ _⟩, ⟨Below.refl _ _⟩⟩
      case round =>
        obtain ⟨m, t, k, A', c', hm, ht, hk, rfl, rfl, HO, HB⟩ := hrel
        have HM := As.mk hm
        have HT := As.mk ht
        have HKK := As.mk hk
        clear hm
        by_cases hlt : t < n
        · have z2 : decide ((t : Int) < (n : Int)) = true := decide_eq_true (by omega)
          have hk5 : k ≤ 4 := by omega
          have HLT := As.mk hlt
          clear ht hk
          have HL1 : As (OwnAt (wr.alloc (.cells #[.int .u8 (k : Int)] 5)) wr.heap.size (.slice (some ⟨wr.heap.size, 0, none⟩) 1 1) 1 [.int .u8 (k : Int)]) := ⟨OwnAt.lit wr 5 [.int .u8 (k : Int)] (by show 1 ≤ maxLen; decide)⟩
          have HBa := As.mk (below_alloc (Below.refl wr.heap.size wr) (.cells #[.int .u8 (k : Int)] 5))
          have HHB := As.mk (headB_byte k nm (by omega))
          go_wp2_with (first
            | (at_builtin; refine wpList_app_str rfl (.tmp 69) (.tmp 70) 32 9 rfl wr.heap.size 5 (.int .u8 0) 1 Try.underlying32 Try.underlying9 CloneB.info rfl ⟨wr.heap.size, 0, none⟩ 1 1 1 _ rfl HL1.out nm rfl ?d1 ?d2 HBa.out.size HBa.out (Nat.le_refl _) ?_; (case d1 => have := HNM.out; unfold maxLen; omega); (case d2 => have := HNM.out; omega); intro va wa hown hg hat hb; obtain ⟨Aa, ca, rfl⟩ := hown.slice; have HOa := As.mk hown; have HBb := As.mk hb; clear hown hg hat hb)
            | (at_builtin; refine wpList_app_one rfl (.tmp 73) (.tmp 74) 32 rfl wr.heap.size 5 (.int .u8 0) 1 Try.underlying32 CloneB.info rfl _ (1 + nm.size) _ rfl HOa.out _ _ rfl rfl ?d3 ?d4 HBb.out.size HBb.out (Nat.le_refl _) ?_; (case d3 => have := HNM.out; unfold maxLen; omega); (case d4 => have := HNM.out; omega); intro Ab cb wb hown hg hat hb; have HOb := As.mk (head_own hown); have HBc := As.mk hb; clear hown hg hat hb; refine As.out ?_))
          obtain ⟨T, hT⟩ : ∃ T, T = blockB key (strB nm) ctx n k := ⟨_, rfl⟩
          have hTl : T.length = 32 := by rw [hT]; exact tagB_len _ _
          have HTT := As.mk hT
          have HTL := As.mk hTl
          have VT := As.mk (show ((T.map (Value.int .u8)).toArray).size = 32 by simp [hTl])
          have HBd := As.mk (below_step HB.out HBc.out)
          have HONE := As.mk (Parts.one (T := 32) HOb.out)
          have HBe := As.mk (below_alloc (Below.refl wb.heap.size wb) (.cells #[.slice Ab (1 + nm.size + 1) cb] 32))
          have HPB2 := As.mk (HQ.out.below (below_step HBd.out HBe.out))
          have HNEW := As.mk (HQ.out.newrow (below_step HBd.out HBe.out) (Value.slice (some ⟨wb.heap.size, 0, none⟩) 1 1).ownBlock (fun k hk => by have := HBd.out.size; simp [Value.ownBlock] at hk; omega))
          clear hT hTl HL1 HBa HOa HBb
          refine As.mk ?_
          go_wp2_with (first
            | (at_builtin; refine wpList_app2 rfl (.tmp 76) (.tmp 77) 37 rfl wb.heap.size 32 (.slice none 0 0) 24 Try.underlying37 infoS rfl _ 1 _ rfl HONE.out.own _ q _ rfl HPB2.out.src ?d5 ?d6 HBe.out.size HBe.out (Nat.le_refl _) ?_; (case d5 => have := HQB.out; unfold maxLen; omega); (case d6 => have := HQB.out; omega); intro vd wd hown hg hat hb; obtain ⟨Ad, cd, rfl⟩ := hown.slice; have HPd := As.mk (HONE.out.app (m := q) (qs := partsP n ctx) HQ.out.len HNEW.out hown hg hat); have HBf := As.mk hb; clear hown hg hat hb)
            | (go_at_call 116; (refine (tag_any key HK.out A s c ([headB k (strB nm)] ++ partsP n ctx) ?d7 Ad (1 + q) cd wd ?d8 ?d9 ?d10 (HH0.out.below (below_step HBd.out HBf.out)) HPd.out.rdp T ?d11).mono ?_); (case d7 => exact head_parts HHB.out HPB.out); (case d8 => have := HS.out; omega); (case d9 => have := HQB.out; omega); (case d10 => have := HFL.out; have := HNM.out; simp only [List.singleton_append, List.flatten_cons, List.length_append, headB_len]; omega); (case d11 => rw [HTT.out]; rfl); rintro e we ⟨rfl, hb⟩; have HBg := As.mk hb; clear hb)
            | (refine wpList_allocArr rfl 102 rfl Z32 z32 ?_)
            | (refine wpList_storeNew rfl rfl 102 _ _ rfl rfl (T.map (Value.int .u8)).toArray rfl 102 Z32 (by rw [VT.out]; kernel_rfl) (by rw [VT.out]; kernel_rfl) (bytesA_one T) ?_; refine As.out ?_))
          refine As.mk ?_
          have HBh := As.mk (below_alloc (below_step HBc.out (below_step HBf.out HBg.out)) (.cells (T.map (Value.int .u8)).toArray 102))
          have HOh := As.mk (HO.out.below HBh.out)
          have HBi := As.mk (below_step HB.out HBh.out)
          have HSh := As.mk (Src.rd (rd_block (x := T) (heap_alloc_new we (.cells (T.map (Value.int .u8)).toArray 102)) HTL.out (by decide)))
          have hwk : (k : Int) ≤ 4 := by omega
          clear HBc HBf HBg HPd HNEW HPB2 HBe HONE HBd
          go_wp2_with (at_builtin; refine wpList_app2 rfl (.tmp 80) (.tmp 81) 32 rfl w3.heap.size 5 (.int .u8 0) 1 Try.underlying32 CloneB.info rfl _ t _ rfl HOh.out _ 32 _ rfl HSh.out ?d12 ?d13 HBi.out.size HBi.out (Nat.le_refl _) ?_; (case d12 => have := HLT.out; have := HN.out; unfold maxLen; omega); (case d13 => have := HLT.out; have := HN.out; omega); intro ve wf hown hg hat hb; obtain ⟨Ae2, ce2, rfl⟩ := hown.slice; have HOi := As.mk hown; have HBj := As.mk hb; clear hown hg hat hb)
          go_roundg (4 - (m + 1))
          case measure => have := HM.out; have := HT.out; have := HLT.out; have := HN.out; omega
          case rel =>
            refine ⟨m + 1, t + 32, k + 1, Ae2, ce2, by have := HM.out; have := HT.out; have := HLT.out; have := HN.out; omega, by rw [HT.out]; rfl, by rw [HKK.out], rfl, by go_num, ⟨?_⟩, HBj⟩
            have h := HOi.out
            rw [outB_succ, List.map_append, ← HKK.out, ← HTT.out]
            exact h
        · have z2 : decide ((t : Int) < (n : Int)) = false := decide_eq_false (by omega)
          have z3 : decide (t < n) = false := decide_eq_false hlt
          have hcut : ∀ W, (Instr.slice 32 (.slice A' t c') none (some (.int .i64 (n : Int))) (some (.int .i64 (n : Int)))).run Try.prog W = .ok (.slice (cutA A' n 0 1) n n) W := fun W => Go.Proofs.Ytjcofbjfolaoiaa.Stretch.run_cut_full (P := Try.prog) W 32 5 Try.underlying32 CloneB.info A' t c' n .i64 .i64 (by have := (own_caps HO.out).1; omega)
          have HGE := As.mk (show n ≤ t by omega)
          have HRD := As.mk (Go.Proofs.Ytjcofbjfolaoiaa.Stretch.rd_full (own_rd_at HO.out) n (by omega))
          have HBF := As.mk (below_step HB3.out HB.out)
          clear hlt ht hk HO HB
          go_wp2
          go_ret2
          refine ⟨_, _, rfl, ?_, HBF.out⟩
          have h := HRD.out
          have e : deriveB key (strB nm) ctx n = (outB key (strB nm) ctx n m).take n := by
            unfold deriveB
            rw [show 4 = m + (4 - m) by have := HM.out; omega]
            exact outB_take key (strB nm) ctx n m (by rw [← HT.out]; exact HGE.out) _
          rw [e]
          exact h
end Go.Proofs.Ytjcofbjfolaoiaa.Derive
namespace Go.Proofs.Ytjcofbjfolaoiaa.RefDerive
set_option linter.unusedVariables false
set_option linter.unusedSimpArgs false
open Go Go.RowKit Go.Proofs.Ytjcofbjfolaoiaa.Mem Go.Proofs.Ytjcofbjfolaoiaa.Put32 Go.Proofs.Ytjcofbjfolaoiaa.Pad Go.Proofs.Ytjcofbjfolaoiaa.Sum Go.Proofs.Ytjcofbjfolaoiaa.Hmac Go.Proofs.Ytjcofbjfolaoiaa.Parts Go.Proofs.Ytjcofbjfolaoiaa.Put Go.Proofs.Ytjcofbjfolaoiaa.Derive Go.Proofs.Ytjcofbjfolaoiaa.RefSum Go.Proofs.Ytjcofbjfolaoiaa.ShaSums Go.Proofs.Ytjcofbjfolaoiaa.RefHmac

theorem r_bad_key (c np cp : Nat) (A P : Option Addr) (nm : ByteArray) (m : Int) (w : World) :
    Calls Try.prog 126 #[.slice A 0 c, .string nm, .int .i64 m, .slice P np cp] w fun e w' => e = .returned (.tuple #[.slice none 0 0, .int .i64 20]) ∧ w = w' := by
  go_enter Try.func126, Try.ntmps126
  go_wp2
  go_ret2
  exact ⟨rfl, rfl⟩
theorem r_bad_n (s c np cp : Nat) (A P : Option Addr) (nm : ByteArray) (m : Int) (w : World) (hs : 1 ≤ s) (hm : m < 1 ∨ 128 < m) :
    Calls Try.prog 126 #[.slice A s c, .string nm, .int .i64 m, .slice P np cp] w fun e w' => e = .returned (.tuple #[.slice none 0 0, .int .i64 2]) ∧ w = w' := by
  have e0 : ((s : Int) == 0) = false := beq_eq_false_iff_ne.2 (by omega)
  have e1 : (s == 0) = false := beq_eq_false_iff_ne.2 (by omega)
  rcases hm with h | h
  all_goals
    go_enter Try.func126, Try.ntmps126
    go_wp2
    go_ret2
    exact ⟨rfl, rfl⟩
theorem strB_nth (nm : ByteArray) (i : Nat) (h : i < nm.size) : nth (strB nm) i = ((nm[i]'h).toNat : Int) := by
  have hl : i < nm.data.toList.length := by simpa using h
  simp only [nth_getD, strB, List.getD_eq_getElem?_getD, List.getElem?_map, List.getElem?_eq_getElem hl]
  rfl
/-- the first i bytes of a name hold no nought -/
def Clean (nm : ByteArray) (i : Nat) : Prop := ∀ j (h : j < nm.size), j < i → (nm[j]'h).toNat ≠ 0
theorem clean_of (nm : ByteArray) (h : Lib.indexByte nm.data.toList 0 = -1) : Clean nm nm.size := by
  intro j hj _ e
  refine Lib.indexByte_none h j ?_
  have hl : j < nm.data.toList.length := by simpa using hj
  rw [List.getElem?_eq_getElem hl]
  congr 1
  have e' : (nm.data[j]'hj).toNat = 0 := e
  exact UInt8.toNat_inj.1 (by simpa using e')
theorem dirty_of (nm : ByteArray) (h : 0 ≤ Lib.indexByte nm.data.toList 0) : ∃ o, ∃ (ho : o < nm.size), (nm[o]'ho).toNat = 0 ∧ Clean nm o := by
  obtain ⟨o, ho⟩ := Int.eq_ofNat_of_zero_le h
  obtain ⟨h1, h2⟩ := Lib.indexByte_some (o := o) ho
  have hl : o < nm.data.toList.length := (List.getElem?_eq_some_iff.1 h1).1
  have hs : o < nm.size := by simpa using hl
  refine ⟨o, hs, ?_, fun j hj hjo e => ?_⟩
  · rw [List.getElem?_eq_getElem hl] at h1
    have := Option.some.inj h1
    exact (congrArg UInt8.toNat this)
  · refine h2 j hjo ?_
    have hl2 : j < nm.data.toList.length := by simpa using hj
    rw [List.getElem?_eq_getElem hl2]
    congr 1
    have e' : (nm.data[j]'hj).toNat = 0 := e
    exact UInt8.toNat_inj.1 (by simpa using e')
set_option maxHeartbeats 1000000 in
set_option maxRecDepth 100000 in
theorem r_bad_name (s c np cp : Nat) (A P : Option Addr) (nm : ByteArray) (m : Int) (w : World) (hs : 1 ≤ s) (hm : 1 ≤ m ∧ m ≤ 128) (h : 64 < nm.size ∨ (nm.size ≤ 64 ∧ 0 ≤ Lib.indexByte nm.data.toList 0)) :
    Calls Try.prog 126 #[.slice A s c, .string nm, .int .i64 m, .slice P np cp] w fun e w' => e = .returned (.tuple #[.slice none 0 0, .int .i64 3]) ∧ Below w.heap.size w w' := by
  have e0 : ((s : Int) == 0) = false := beq_eq_false_iff_ne.2 (by omega)
  have e1 : (s == 0) = false := beq_eq_false_iff_ne.2 (by omega)
  obtain ⟨m1, m2⟩ := hm
  rcases h with h | ⟨h, hz⟩
  · have d0 : decide (64 < (nm.size : Int)) = true := decide_eq_true (by omega)
    go_enter Try.func126, Try.ntmps126
    go_wp2
    go_ret2
    exact ⟨rfl, Below.refl _ _⟩
  · have d0 : decide (64 < (nm.size : Int)) = false := decide_eq_false (by omega)
    obtain ⟨o, ho, hv, hcl⟩ := dirty_of nm hz
    have HV := As.mk hv
    have HCL := As.mk hcl
    have HSZ := As.mk h
    clear hv hcl hz
    go_enter Try.func126, Try.ntmps126
    go_wp2
    go_loopg [10, 11] nm.size (fun kq v10 v11 wr => ∃ (i : Nat) (A' : Option Addr) (c' : Nat), i + kq = nm.size ∧ i ≤ o ∧ v10 = .slice A' i c' ∧ v11 = .int .i64 i ∧ As (OwnAt wr w.heap.size (.slice A' i c') i (((strB nm).take i).map (Value.int .u8))) ∧ As (Below w.heap.size w wr))
    case atStart => exact ⟨0, none, 0, by omega, by omega, rfl, rfl, ⟨OwnAt.nil _ _⟩, ⟨Below.refl _ _⟩⟩
    case round =>
      obtain ⟨i, A', c', hi, hio, rfl, rfl, HO, HB⟩ := hrel
      have HI := As.mk hi
      clear hi
      have hlt : i < nm.size := by omega
      have z0 : decide ((i : Int) < (nm.size : Int)) = true := decide_eq_true (by omega)
      have hi64 : i ≤ 64 := by omega
      by_cases heq : i = o
      · have hv : (nm[i]'hlt).toNat = 0 := by subst heq; exact HV.out
        clear heq hio
        go_wp2
        go_ret2
        exact ⟨rfl, HB.out⟩
      · have hne := HCL.out i hlt (by omega)
        obtain ⟨v, hv⟩ : ∃ v, (nm[i]'hlt).toNat = v := ⟨_, rfl⟩
        rw [hv] at hne
        have q0 : ((v : Int) == 0) = false := beq_eq_false_iff_ne.2 (by omega)
        have q1 : (v == 0) = false := beq_eq_false_iff_ne.2 hne
        have HNV := As.mk (show nth (strB nm) i = (v : Int) by rw [strB_nth nm i hlt, hv])
        have HLT := As.mk hlt
        have HIO := As.mk (show i + 1 ≤ o by omega)
        clear heq hio hne
        go_wp2_with (at_builtin; refine wpList_app_one rfl (.tmp 38) (.tmp 42) 32 rfl w.heap.size 5 (.int .u8 0) 1 Try.underlying32 CloneB.info rfl _ i _ rfl HO.out _ _ rfl rfl ?c1 ?c2 HB.out.size HB.out (Nat.le_refl _) ?_; (case c1 => have := HLT.out; have := HSZ.out; unfold maxLen; omega); (case c2 => have := HLT.out; have := HSZ.out; omega); intro A1 c1 w3 hown hg hat hb; have HO1 := As.mk hown; have HB3 := As.mk hb; clear hown hg hat hb)
        go_roundg (nm.size - (i + 1))
        case measure => have := HI.out; have := HLT.out; omega
        case rel =>
          refine ⟨i + 1, A1, c1, by have := HI.out; have := HLT.out; omega, HIO.out, rfl, by go_num, ⟨?_⟩, HB3⟩
          rw [take_snoc_map (strB nm) i (by rw [strB_len]; exact HLT.out), HNV.out]
          exact HO1.out
theorem beB_2 (n : Nat) (h : n ≤ 128) : beB 2 n = [0, (n : Int)] := by
  have h1 : n / 256 = 0 := Nat.div_eq_of_lt (by omega)
  have h2 : n % 256 = n := Nat.mod_eq_of_lt (by omega)
  simp [beB, List.range_succ, h1, h2]
  constructor <;> omega
theorem own_len {w : World} {base n : Nat} {v : Value} {x : List Int} (h : OwnAt w base v n (x.map (Value.int .u8))) : x.length = n := by simpa using h.1
theorem own_app {w : World} {base n : Nat} {v : Value} {x y : List Int} (h : OwnAt w base v n (x.map (Value.int .u8) ++ y.map (Value.int .u8))) : OwnAt w base v n ((x ++ y).map (Value.int .u8)) := by
  rw [List.map_append]; exact h
theorem own_app1 {w : World} {base n : Nat} {v : Value} {x : List Int} {y : Int} (h : OwnAt w base v n (x.map (Value.int .u8) ++ [.int .u8 y])) : OwnAt w base v n ((x ++ [y]).map (Value.int .u8)) := by
  rw [List.map_append]; exact h
theorem block_byte (k n : Nat) (nm : ByteArray) (ctx : List (List Int)) (hk : k < 256) (hc : ∀ p ∈ ctx, Byte p) : Byte (headB k (strB nm) ++ (partsP n ctx).flatten) := by
  refine byte_app' (headB_byte k nm hk) fun y hy => ?_
  obtain ⟨p, hp, h⟩ := List.mem_flatten.1 hy
  exact partsP_byte n ctx hc p hp y h
theorem block_own {w : World} {base r k n : Nat} {nm : ByteArray} {ctx : List (List Int)} {v : Value} (hn : n ≤ 128) (h : OwnAt w base v r ((headB k (strB nm) ++ (ctxP ctx).flatten).map (Value.int .u8) ++ [.int .u8 0, .int .u8 (n : Int)])) :
    OwnAt w base v r ((headB k (strB nm) ++ (partsP n ctx).flatten).map (Value.int .u8)) := by
  have e : (headB k (strB nm) ++ (partsP n ctx).flatten).map (Value.int .u8) = (headB k (strB nm) ++ (ctxP ctx).flatten).map (Value.int .u8) ++ [.int .u8 0, .int .u8 (n : Int)] := by
    unfold partsP
    rw [List.flatten_append, List.flatten_cons, List.flatten_nil, List.append_nil, beB_2 n hn, ← List.append_assoc, List.map_append]
    rfl
  rw [e]
  exact h
theorem block_len (k n : Nat) (nm : ByteArray) (ctx : List (List Int)) : (headB k (strB nm) ++ (partsP n ctx).flatten).length = 1 + nm.size + 1 + (ctxP ctx).flatten.length + 2 := by
  unfold partsP
  rw [List.length_append, headB_len, List.flatten_append, List.length_append, List.flatten_cons, List.flatten_nil, List.append_nil, beB_len]
  omega
set_option maxHeartbeats 4000000 in
set_option maxRecDepth 100000 in
theorem r_derive_ok (key : List Int) (ctx : List (List Int)) (A : Option Addr) (s c : Nat) (nm : ByteArray) (n : Nat) (P : Option Addr) (np cp : Nat) (w : World)
    (hk : Byte key) (hs : 1 ≤ s ∧ s ≤ 1000) (h0 : Rd .u8 w A s c key) (hn : 1 ≤ n ∧ n ≤ 128) (hnm : nm.size ≤ 64) (hz : Lib.indexByte nm.data.toList 0 = -1) (hc : ∀ p ∈ ctx, Byte p ∧ p.length ≤ 1000) (hnp : np ≤ 100) (h1 : RdP w P np cp ctx) :
    Calls Try.prog 126 #[.slice A s c, .string nm, .int .i64 (n : Int), .slice P np cp] w fun e w' => ∃ A' c', e = .returned (.tuple #[.slice A' n c', .int .i64 0]) ∧ Rd .u8 w' A' n c' (deriveB key (strB nm) ctx n) ∧ Below w.heap.size w w' := by
  have e0 : ((s : Int) == 0) = false := beq_eq_false_iff_ne.2 (by omega)
  have e1 : (s == 0) = false := beq_eq_false_iff_ne.2 (by omega)
  have d0 : decide (64 < (nm.size : Int)) = false := decide_eq_false (by omega)
  have m1 : (1 : Int) ≤ (n : Int) := by omega
  have m2 : (n : Int) ≤ 128 := by omega
  have HK := As.mk hk
  have HS := As.mk hs
  have H0 := As.mk h0
  have HN := As.mk hn
  have HNM := As.mk hnm
  have HCL := As.mk (clean_of nm hz)
  have HC := As.mk hc
  have HNP := As.mk hnp
  have H1 := As.mk h1
  have HCT : As ((ctxP ctx).flatten.length ≤ 100800) := ⟨by have := ctxP_len ctx fun p hp => (hc p hp).2; have := h1.len; omega⟩
  clear hk hs h0 hn hz hc hnp h1
  go_enter Try.func126, Try.ntmps126
  go_wp2
  go_loopg [10, 11] nm.size (fun kq v10 v11 wr => ∃ (i : Nat) (A' : Option Addr) (c' : Nat), i + kq = nm.size ∧ v10 = .slice A' i c' ∧ v11 = .int .i64 i ∧ As (OwnAt wr w.heap.size (.slice A' i c') i (((strB nm).take i).map (Value.int .u8))) ∧ As (Below w.heap.size w wr))
  case atStart => exact ⟨0, none, 0, by omega, rfl, rfl, ⟨OwnAt.nil _ _⟩, ⟨Below.refl _ _⟩⟩
  case round =>
    obtain ⟨i, A', c', hi, rfl, rfl, HO, HB⟩ := hrel
    have HI := As.mk hi
    clear hi
    by_cases hlt : i < nm.size
    · have z0 : decide ((i : Int) < (nm.size : Int)) = true := decide_eq_true (by omega)
      have hne := HCL.out i hlt hlt
      obtain ⟨v, hv⟩ : ∃ v, (nm[i]'hlt).toNat = v := ⟨_, rfl⟩
      rw [hv] at hne
      have q0 : ((v : Int) == 0) = false := beq_eq_false_iff_ne.2 (by omega)
      have q1 : (v == 0) = false := beq_eq_false_iff_ne.2 hne
      have HNV := As.mk (show nth (strB nm) i = (v : Int) by rw [strB_nth nm i hlt, hv])
      have HLT := As.mk hlt
      clear hne
      go_wp2_with (at_builtin; refine wpList_app_one rfl (.tmp 38) (.tmp 42) 32 rfl w.heap.size 5 (.int .u8 0) 1 Try.underlying32 CloneB.info rfl _ i _ rfl HO.out _ _ rfl rfl ?c1 ?c2 HB.out.size HB.out (Nat.le_refl _) ?_; (case c1 => have := HLT.out; have := HNM.out; unfold maxLen; omega); (case c2 => have := HLT.out; have := HNM.out; omega); intro A1 c1 w3 hown hg hat hb; have HO1 := As.mk hown; have HB3 := As.mk hb; clear hown hg hat hb)
      go_roundg (nm.size - (i + 1))
      case measure => have := HI.out; have := HLT.out; omega
      case rel =>
        refine ⟨i + 1, A1, c1, by have := HI.out; have := HLT.out; omega, rfl, by go_num, ⟨?_⟩, HB3⟩
        rw [take_snoc_map (strB nm) i (by rw [strB_len]; exact HLT.out), HNV.out]
        exact HO1.out
    · have z0 : decide ((i : Int) < (nm.size : Int)) = false := decide_eq_false (by omega)
      have z1 : decide (i < nm.size) = false := decide_eq_false hlt
      obtain rfl : i = nm.size := by have := HI.out; omega
      have hO := HO.out
      rw [List.take_of_length_le (by rw [strB_len]; exact Nat.le_refl _)] at hO
      have HOn := As.mk hO
      have H01 := As.mk (H0.out.below HB.out)
      have H11 := As.mk (H1.out.below HB.out)
      clear hO HO HI hlt
      go_wp2
      obtain ⟨w1, rfl⟩ : ∃ w1 : World, w1 = wr := ⟨_, rfl⟩
      obtain ⟨An, rfl⟩ : ∃ An : Option Addr, An = A' := ⟨_, rfl⟩
      obtain ⟨cn, rfl⟩ : ∃ cn : Nat, cn = c' := ⟨_, rfl⟩
      go_loopg [12, 13] 4 (fun kq v12 v13 wr => ∃ (m t k : Nat) (A' : Option Addr) (c' : Nat), m + kq = 4 ∧ t = 32 * m ∧ k = m + 1 ∧ v12 = .slice A' t c' ∧ v13 = .int .i64 (k : Int) ∧ As (OwnAt wr w1.heap.size (.slice A' t c') t ((outB key (strB nm) ctx n m).map (Value.int .u8))) ∧ As (Below w1.heap.size w1 wr))
      case atStart => exact ⟨0, 0, 1, none, 0, by omega, rfl, rfl, rfl, rfl, ⟨OwnAt.nil _ _⟩, ⟨Below.refl _ _⟩⟩
      case round =>
        obtain ⟨m, t, k, A', c', hm, ht, hk, rfl, rfl, HO, HBr⟩ := hrel
        have HM := As.mk hm
        have HT := As.mk ht
        have HKK := As.mk hk
        clear hm
        by_cases hlt : t < n
        · have z2 : decide ((t : Int) < (n : Int)) = true := decide_eq_true (by omega)
          have hk5 : k ≤ 4 := by omega
          have HLT := As.mk hlt
          have HK5 := As.mk hk5
          clear ht hk
          obtain ⟨wo, rfl⟩ : ∃ wo : World, wo = wr := ⟨_, rfl⟩
          have HL1 : As (OwnAt (wo.alloc (.cells #[.int .u8 (k : Int)] 5)) wo.heap.size (.slice (some ⟨wo.heap.size, 0, none⟩) 1 1) 1 [.int .u8 (k : Int)]) := ⟨OwnAt.lit wo 5 [.int .u8 (k : Int)] (by show 1 ≤ maxLen; decide)⟩
          have HBa := As.mk (below_alloc (Below.refl wo.heap.size wo) (.cells #[.int .u8 (k : Int)] 5))
          have HNa := As.mk (Src.own (HOn.out.below (below_step HBr.out HBa.out)) (ints_oneCell .u8 _))
          go_wp2_with (first
            | (at_builtin; refine wpList_app2 rfl (.tmp 53) (.tmp 54) 32 rfl wo.heap.size 5 (.int .u8 0) 1 Try.underlying32 CloneB.info rfl _ 1 _ rfl HL1.out _ nm.size _ rfl HNa.out ?d1 ?d2 HBa.out.size HBa.out (Nat.le_refl _) ?_; (case d1 => have := HNM.out; unfold maxLen; omega); (case d2 => have := HNM.out; omega); intro va wa hown hg hat hb; obtain ⟨Aa, ca, rfl⟩ := hown.slice; have HOa := As.mk hown; have HBb := As.mk hb; clear hown hg hat hb)
            | (at_builtin; refine wpList_app_one rfl (.tmp 56) (.tmp 57) 32 rfl wo.heap.size 5 (.int .u8 0) 1 Try.underlying32 CloneB.info rfl _ (1 + nm.size) _ rfl HOa.out _ _ rfl rfl ?d3 ?d4 HBb.out.size HBb.out (Nat.le_refl _) ?_; (case d3 => have := HNM.out; unfold maxLen; omega); (case d4 => have := HNM.out; omega); intro Ab cb wb hown hg hat hb; have HOb := As.mk (head_own hown); have HBc := As.mk hb; clear hown hg hat hb))
          clear HL1 HBa HNa HOa HBb
          go_loopg [14, 15] np (fun kq v14 v15 wr => ∃ (i : Nat) (A3 : Option Addr) (c3 r : Nat), i + kq = np ∧ r ≤ 110000 ∧ v14 = .slice A3 r c3 ∧ v15 = .int .i64 i ∧ As (OwnAt wr wo.heap.size (.slice A3 r c3) r ((headB k (strB nm) ++ (ctxP (ctx.take i)).flatten).map (Value.int .u8))) ∧ As (Below wo.heap.size wo wr))
          case atStart => exact ⟨0, Ab, cb, 1 + nm.size + 1, by omega, by have := HNM.out; omega, rfl, rfl, ⟨by have := HOb.out; simpa [ctxP] using this⟩, HBc⟩
          case round =>
            clear HOb HBc
            obtain ⟨i, A3, c3, r, hi, hr, rfl, rfl, HO3, HB3⟩ := hrel
            have HI := As.mk hi
            have HRR := As.mk hr
            clear hi
            by_cases hli : i < np
            · have y0 : decide ((i : Int) < (np : Int)) = true := decide_eq_true (by omega)
              have hnp : np ≤ 100 := HNP.out
              obtain ⟨ad, Aj, cj, rfl, hcell0, hrd⟩ := ctx_at H11.out i hli
              have hcello := (HBr.out.cell (World.block_lt_of_cell? _ _ hcell0)).trans hcell0
              have hcell := (HB3.out.cell (World.block_lt_of_cell? _ _ hcello)).trans hcello
              have hxm := HC.out _ (nthP_mem (show i < ctx.length by rw [H11.out.len]; exact hli))
              obtain ⟨x, hx⟩ : ∃ x, x = nthP ctx i := ⟨_, rfl⟩
              rw [← hx] at hcell hcello hrd hxm
              obtain ⟨l, hl⟩ : ∃ l : Nat, l = x.length := ⟨_, rfl⟩
              rw [← hl] at hcell hcello hrd hxm
              have hl1 : l ≤ 1000 := hxm.2
              have HX := As.mk hx
              have HL := As.mk hl
              have HRD := As.mk (hrd.below (below_step HBr.out HB3.out))
              have HCO := As.mk hcello
              have HRDo := As.mk (hrd.below HBr.out)
              have k2 : IntKind.u64.wrap (l : Int) = (l : Int) := Go.Proofs.Ytjcofbjfolaoiaa.Bits.wrap_u .u64 rfl l (by show l < 18446744073709551616; omega)
              have HL1 := As.mk (show l < 18446744073709551616 by omega)
              have HLI := As.mk hli
              have hrlen := own_len HO3.out
              have hr2 : r + 8 + l ≤ 110000 := by
                rw [List.length_append, headB_len] at hrlen
                have h1 := ctxP_len (ctx.take (i + 1)) fun p hp => (HC.out p (List.mem_of_mem_take hp)).2
                rw [ctxP_succ ctx i (by rw [H11.out.len]; exact hli), ← HX.out, ← HL.out] at h1
                simp only [List.flatten_append, List.length_append, List.flatten_cons, List.flatten_nil, bytes8_len, List.length_nil, List.length_take] at h1
                rw [← HL.out] at h1
                have := HNM.out
                have := H11.out.len
                omega
              have HR2 := As.mk hr2
              clear hcell0 hrd hcello hxm hx hl hrlen hr2
              go_wp2_with (first
                | (go_at_call 160; (with_reducible refine (RefPad.put64 l HL1.out _).mono ?_); rintro e w4 ⟨A4, c4, rfl, hb, ho⟩; have HO4 := As.mk (Src.own ho (ints_oneCell .u8 _)); have HO3b := As.mk (HO3.out.below hb); have HB4 := As.mk (below_step HB3.out hb); have HRD4 := As.mk (HRD.out.below hb); clear hb ho)
                | (at_builtin; refine wpList_app2 rfl (.tmp 65) (.tmp 72) 32 rfl wo.heap.size 5 (.int .u8 0) 1 Try.underlying32 CloneB.info rfl _ r _ rfl HO3b.out _ 8 _ rfl HO4.out ?d5 ?d6 HB4.out.size HB4.out (Nat.le_refl _) ?_; (case d5 => have := HRR.out; unfold maxLen; omega); (case d6 => have := HRR.out; omega); intro v5 w5 hown hg hat hb; obtain ⟨A5, c5, rfl⟩ := hown.slice; have HO5 := As.mk (own_app hown); have HB5 := As.mk hb; have hc5 := (hb.cell (World.block_lt_of_cell? _ _ HCO.out)).trans HCO.out; clear hown hg hat hb; refine As.out ?_))
              refine As.mk ?_
              have HRD5 := As.mk (HRDo.out.below HB5.out)
              go_wp2_with (at_builtin; refine wpList_app2 rfl (.tmp 74) (.tmp 78) 32 rfl wo.heap.size 5 (.int .u8 0) 1 Try.underlying32 CloneB.info rfl _ (r + 8) _ rfl HO5.out _ l _ rfl (src_at HRD5.out) ?d7 ?d8 HB5.out.size HB5.out (Nat.le_refl _) ?_; (case d7 => have := HR2.out; unfold maxLen; omega); (case d8 => have := HR2.out; omega); intro v6 w6 hown hg hat hb; obtain ⟨A6, c6, rfl⟩ := hown.slice; have HO6 := As.mk (own_app hown); have HB6 := As.mk hb; clear hown hg hat hb)
              go_roundg (np - (i + 1))
              case measure => have := HI.out; have := HLI.out; omega
              case rel =>
                refine ⟨i + 1, A6, c6, r + 8 + l, by have := HI.out; have := HLI.out; omega, HR2.out, rfl, by go_num, ⟨?_⟩, HB6⟩
                have h := HO6.out
                rw [ctxP_succ ctx i (by rw [H11.out.len]; exact HLI.out), ← HX.out, ← HL.out, List.flatten_append, List.flatten_cons, List.flatten_cons, List.flatten_nil, List.append_nil, ← List.append_assoc, ← List.append_assoc]
                exact h
            · have y0 : decide ((i : Int) < (np : Int)) = false := decide_eq_false (by omega)
              have y1 : decide (i < np) = false := decide_eq_false hli
              obtain rfl : i = np := by have := HI.out; omega
              have hO := HO3.out
              rw [List.take_of_length_le (by rw [H11.out.len]; exact Nat.le_refl _)] at hO
              have HOx := As.mk hO
              have g1 : (n : Int) / 256 = 0 := by omega
              have g2 : (n : Int) % 256 = (n : Int) := by omega
              obtain ⟨T, hT⟩ : ∃ T, T = blockB key (strB nm) ctx n k := ⟨_, rfl⟩
              have HTT := As.mk hT
              have HTL := As.mk (show T.length = 32 by rw [hT]; exact tagB_len _ _)
              clear hO HO3 hli HI hT
              have HBl := As.mk (below_alloc HB3.out (.cells #[.int .u8 0, .int .u8 (n : Int)] 5))
              have HOl := As.mk (HOx.out.below (below_alloc (Below.refl wr.heap.size wr) (.cells #[.int .u8 0, .int .u8 (n : Int)] 5)))
              have HSl : As (Go.Proofs.Ytjcofbjfolaoiaa.Mem.Src (wr.alloc (.cells #[.int .u8 0, .int .u8 (n : Int)] 5)) (.slice (some ⟨wr.heap.size, 0, none⟩) 2 2) 2 1 [.int .u8 0, .int .u8 (n : Int)]) := ⟨lit_src wr 5 [.int .u8 0, .int .u8 (n : Int)] (by show 2 ≤ maxLen; decide) (by simp; exact ⟨rfl, rfl⟩)⟩
              have HCB := As.mk (block_byte k n nm ctx (by have := HK5.out; omega) (fun p hp => (HC.out p hp).1))
              have HH0 := As.mk (H01.out.below HBr.out)
              go_wp2_with (first
                | (at_builtin; refine wpList_app2 rfl (.tmp 80) (.tmp 87) 32 rfl wo.heap.size 5 (.int .u8 0) 1 Try.underlying32 CloneB.info rfl _ r _ rfl HOl.out _ 2 _ rfl HSl.out ?d9 ?d10 HBl.out.size HBl.out (Nat.le_refl _) ?_; (case d9 => have := HRR.out; unfold maxLen; omega); (case d10 => have := HRR.out; omega); intro v7 w7 hown hg hat hb; obtain ⟨A7, c7, rfl⟩ := hown.slice; have HR7 := As.mk (own_rd_at (block_own (by have := HN.out; omega) hown)); have HB7 := As.mk hb; have HH7 := As.mk (HH0.out.below hb); clear hown hg hat hb)
                | (go_at_call 119; (refine (tag_ref key _ HK.out HCB.out A A7 s c (r + 2) c7 w7 ?d11 ?d12 HH7.out HR7.out T ?d13).mono ?_); (case d11 => have := HS.out; omega); (case d12 => have := HRR.out; omega); (case d13 => rw [HTT.out]; rfl); rintro e w8 ⟨rfl, hb⟩; have HB8 := As.mk (below_step HB7.out hb); clear hb)
                | (go_at_call 103; (with_reducible refine (list_any T HTL.out w8).mono ?_); rintro e w9 ⟨A9, c9, rfl, hb, ho⟩; have HB9 := As.mk (below_step HB8.out hb); have HS9 := As.mk (Src.own ho (ints_oneCell .u8 _)); have HO9 := As.mk (HO.out.below HB9.out); have HBo9 := As.mk (below_step HBr.out HB9.out); clear hb ho)
                | (at_builtin; refine wpList_app2 rfl (.tmp 89) (.tmp 93) 32 rfl w1.heap.size 5 (.int .u8 0) 1 Try.underlying32 CloneB.info rfl _ t _ rfl HO9.out _ 32 _ rfl HS9.out ?d14 ?d15 HBo9.out.size HBo9.out (Nat.le_refl _) ?_; (case d14 => have := HLT.out; have := HN.out; unfold maxLen; omega); (case d15 => have := HLT.out; have := HN.out; omega); intro v10 w10 hown hg hat hb; obtain ⟨A10, c10, rfl⟩ := hown.slice; have HO10 := As.mk (own_app hown); have HB10 := As.mk hb; clear hown hg hat hb))
              go_roundg (4 - (m + 1))
              case measure => have := HM.out; have := HT.out; have := HLT.out; have := HN.out; omega
              case rel =>
                refine ⟨m + 1, t + 32, k + 1, A10, c10, by have := HM.out; have := HT.out; have := HLT.out; have := HN.out; omega, by rw [HT.out]; rfl, by rw [HKK.out], rfl, by go_num, ⟨?_⟩, HB10⟩
                have h := HO10.out
                rw [outB_succ, ← HKK.out, ← HTT.out]
                exact h
        · have z2 : decide ((t : Int) < (n : Int)) = false := decide_eq_false (by omega)
          have z3 : decide (t < n) = false := decide_eq_false hlt
          have hnt : n ≤ t := by omega
          have hcut : ∀ W, (Instr.slice 32 (.slice A' t c') none (some (.int .i64 (n : Int))) none).run Try.prog W = .ok (.slice (cutA A' c' 0 1) n c') W := fun W => run_cut_to (P := Try.prog) W 32 5 Try.underlying32 CloneB.info A' t c' n .i64 (by have := (own_caps HO.out).1; omega)
          have HGE := As.mk hnt
          have HRD := As.mk ((own_rd_at HO.out).to n hnt)
          have HBF := As.mk (below_step HB.out HBr.out)
          clear hlt ht hk HO HBr hnt
          go_wp2
          go_ret2
          refine ⟨_, _, rfl, ?_, HBF.out⟩
          have h := HRD.out
          have e : deriveB key (strB nm) ctx n = (outB key (strB nm) ctx n m).take n := by
            unfold deriveB
            rw [show 4 = m + (4 - m) by have := HM.out; omega]
            exact outB_take key (strB nm) ctx n m (by rw [← HT.out]; exact HGE.out) _
          rw [e]
          exact h
end Go.Proofs.Ytjcofbjfolaoiaa.RefDerive
