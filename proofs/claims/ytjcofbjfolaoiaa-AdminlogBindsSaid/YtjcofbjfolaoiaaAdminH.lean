/- adminlog.Heads, Verify. -/
import Derived.Test.YtjcofbjfolaoiaaAdminK
import Derived.Test.YtjcofbjfolaoiaaSameB
import Derived.Deep.QuietTactic
import Derived.BigQuiet
namespace Go.Proofs.Ytjcofbjfolaoiaa.Admin
set_option linter.unusedVariables false
set_option linter.unusedSimpArgs false
open Go Go.RowKit Go.Proofs.Ytjcofbjfolaoiaa.LayA Go.Proofs.Ytjcofbjfolaoiaa.Mem Go.Proofs.Ytjcofbjfolaoiaa.Pad Go.Proofs.Ytjcofbjfolaoiaa.Put Go.Proofs.Ytjcofbjfolaoiaa.Put32 Go.Proofs.Ytjcofbjfolaoiaa.Sum Go.Proofs.Ytjcofbjfolaoiaa.Hmac Go.Proofs.Ytjcofbjfolaoiaa.Parts Go.Proofs.Ytjcofbjfolaoiaa.Derive Go.Proofs.Ytjcofbjfolaoiaa.RefDerive Go.Proofs.Ytjcofbjfolaoiaa.Chain Go.Proofs.Ytjcofbjfolaoiaa.RefSum Go.Proofs.Ytjcofbjfolaoiaa.ShaSums Go.Proofs.Ytjcofbjfolaoiaa.HmacKeys

/-! ### lists of records, plain -/
def itemsN (X : Nat → List Int) (n : Nat) : List (List Int) := (List.range n).map fun j => bytesR (X j)
theorem items_succ (X : Nat → List Int) (n : Nat) : itemsN X (n + 1) = itemsN X n ++ [bytesR (X n)] := by simp [itemsN, List.range_succ]
theorem items_len (X : Nat → List Int) (n : Nat) : (itemsN X n).length = n := by simp [itemsN]
theorem items_mem {X : Nat → List Int} {n : Nat} : ∀ p ∈ itemsN X n, Byte p ∧ p.length = 48 := by
  intro p hp
  obtain ⟨j, _, rfl⟩ := List.mem_map.1 hp
  exact ⟨outN_byte _ 6, bytesR_len _⟩
def allR (X : Nat → List Int) (n : Nat) : Bool := (List.range n).all fun j => rightR (X j)
theorem allR_iff (X : Nat → List Int) (n : Nat) : allR X n = true ↔ ∀ j, j < n → rightR (X j) = true := by simp [allR, List.all_eq_true]
def seqR (X : Nat → List Int) (n : Nat) : Bool := (List.range n).all fun j => nth (X j) 0 == ((j : Int) + 1)
theorem seqR_iff (X : Nat → List Int) (n : Nat) : seqR X n = true ↔ ∀ j, j < n → nth (X j) 0 = (j : Int) + 1 := by simp [seqR, List.all_eq_true]
theorem allR_no {X : Nat → List Int} {n j : Nat} (hj : j < n) (h : rightR (X j) = false) : allR X n = false := by
  rcases Bool.eq_false_or_eq_true (allR X n) with h1 | h1
  · have := (allR_iff X n).1 h1 j hj; rw [h] at this; cases this
  · exact h1
theorem seqR_no {X : Nat → List Int} {n j : Nat} (hj : j < n) (h : nth (X j) 0 ≠ (j : Int) + 1) : seqR X n = false := by
  rcases Bool.eq_false_or_eq_true (seqR X n) with h1 | h1
  · exact absurd ((seqR_iff X n).1 h1 j hj) h
  · exact h1
/-- the head behind n records -/
def headN (key : List Int) (X : Nat → List Int) (n : Nat) : List Int := lastB (logK key) z32 (itemsN X n)
theorem head_len (key : List Int) (X : Nat → List Int) (n : Nat) : (headN key X n).length = 32 := lastB_len _ _ _ rfl
theorem head_byte (key : List Int) (X : Nat → List Int) (n : Nat) : Byte (headN key X n) := lastB_byte _ _ _ z32_byte
theorem head_succ (key : List Int) (X : Nat → List Int) (n : Nat) : headN key X (n + 1) = link (logK key) (headN key X n) (bytesR (X n)) := by
  unfold headN
  rw [items_succ, lastB_snoc]
def headsL (key : List Int) (X : Nat → List Int) (n : Nat) : List (List Int) := chainB (logK key) z32 (itemsN X n)
theorem heads_len (key : List Int) (X : Nat → List Int) (n : Nat) : (headsL key X n).length = n := by unfold headsL; rw [chainB_len, items_len]
theorem heads_each (key : List Int) (X : Nat → List Int) (n : Nat) : ∀ u ∈ headsL key X n, u.length = 32 := fun u hu => (chainB_all _ _ _ u hu).1
theorem items_take (X : Nat → List Int) (n j : Nat) (h : j ≤ n) : (itemsN X n).take j = itemsN X j := by
  unfold itemsN
  rw [← List.map_take, List.take_range, Nat.min_eq_left h]
theorem heads_at (key : List Int) (X : Nat → List Int) (n j : Nat) (h : j < n) : nthP (headsL key X n) j = headN key X (j + 1) := by
  unfold headsL
  rw [chainB_at _ _ _ j (by rw [items_len]; exact h), items_take X n j (by omega), head_succ]
  unfold headN
  congr 1
  unfold itemsN nthP
  rw [List.getD_eq_getElem?_getD, List.getElem?_map, List.getElem?_range h]
  rfl
/-- a slice of records that is read -/
structure RdX (w : World) (A : Option Addr) (n c : Nat) (X : Nat → List Int) : Prop where
  rows : RdRows 6 w A n c (fun j => (X j).map (Value.int .i64))
  len : ∀ j, j < n → (X j).length = 6
theorem RdX.below {w w' : World} {A : Option Addr} {n c : Nat} {X : Nat → List Int} (h : RdX w A n c X) (hb : Below w.heap.size w w') : RdX w' A n c X := ⟨h.rows.below hb, h.len⟩
theorem RdX.drewN {w : World} {A : Option Addr} {n c : Nat} {X : Nat → List Int} (h : RdX w A n c X) (k : Nat) : RdX (w.drewN k) A n c X := ⟨h.rows.drewN k, h.len⟩
theorem own_weaken' {w : World} {base b' : Nat} {e : TypeId} {size n : Nat} {v : Value} {xs : List Value} (h : w.ownsRow base e size v n xs) (hb : b' ≤ base) : w.ownsRow b' e size v n xs := by
  obtain ⟨h1, h2⟩ := h
  refine ⟨h1, ?_⟩
  rcases h2 with h2 | ⟨g, cap, cur, rfl, hg, r⟩
  · exact .inl h2
  · exact .inr ⟨g, cap, cur, rfl, Nat.le_trans hb hg, r⟩
def HeadsPost (key : List Int) (X : Nat → List Int) (n s : Nat) (w : World) (e : Ending) (w' : World) : Prop :=
  (credB s = false ∧ e = .returned (.tuple #[.slice none 0 0, .int .i64 30]) ∧ Below w.heap.size w w') ∨
  (credB s = true ∧ allR X n = false ∧ e = .returned (.tuple #[.slice none 0 0, .int .i64 2]) ∧ Below w.heap.size w w') ∨
  (credB s = true ∧ allR X n = true ∧ ∃ A c, e = .returned (.tuple #[.slice A n c, .int .i64 0]) ∧ w'.ownsRow w.heap.size 102 32 (.slice A n c) n (flat (headsL key X n)) ∧ Below w.heap.size w w')
set_option maxHeartbeats 2000000 in
set_option maxRecDepth 100000 in
theorem heads_any (key : List Int) (hk : Byte key) (A : Option Addr) (s c : Nat) (X : Nat → List Int) (B : Option Addr) (n d : Nat) (hn : n ≤ 1000) (w : World) (h0 : Rd .u8 w A s c key) (h1 : RdX w B n d X) :
    Calls Try.prog 58 #[.slice A s c, .slice B n d] w (HeadsPost key X n s w) := by
  have HK := As.mk hk
  have HN := As.mk hn
  have H0 := As.mk h0
  have HX := As.mk h1
  clear hk hn h0 h1
  rcases Bool.eq_false_or_eq_true (credB s) with hc | hc
  · have HC := As.mk hc
    clear hc
    go_enter Try.func58, Try.ntmps58
    go_wp2_with (go_at_call 60; (with_reducible refine (akey_ok key HK.out A s c HC.out w H0.out).mono ?_); rintro e w1 ⟨A1, cK, rfl, hr, hb⟩; have HK1 := As.mk hr; have HB1 := As.mk hb; have HX1 := As.mk (HX.out.below hb); clear hr hb)
    go_loopg [8, 23] n (fun kq v8 v23 wr => ∃ (i : Nat) (A' : Option Addr) (c' : Nat) (L : List Value), i + kq = n ∧ v8 = .slice A' i c' ∧ v23 = .int .i64 i ∧ As (∀ k, k < i → rightR (X k) = true) ∧ As (Parts wr w1.heap.size (.slice A' i c') i L (itemsN X i)) ∧ As (Below w1.heap.size w1 wr))
    case atStart => exact ⟨0, none, 0, [], by omega, rfl, rfl, ⟨fun k hk => by omega⟩, ⟨Parts.nil _ _⟩, ⟨Below.refl _ _⟩⟩
    case round =>
      obtain ⟨i, A', c', L, hi, rfl, rfl, HO, HP, HB⟩ := hrel
      have HI := As.mk hi
      clear hi
      by_cases hlt : i < n
      · have c0 : decide ((i : Int) < (n : Int)) = true := decide_eq_true (by omega)
        have c1 : decide (i < n) = true := decide_eq_true hlt
        have lt' : (i : Int) < (n : Int) := by omega
        have hw : wrap64 ((i : Int) + 1) = ((i + 1 : Nat) : Int) := wrap_up (by have := HN.out; omega)
        obtain ⟨ad, ea, h1⟩ := (HX1.out.below HB.out).rows.at i hlt
        cases ea
        have HXL := As.mk (HX1.out.len i hlt)
        have HIS := As.mk (items_succ X i)
        obtain ⟨r, hr⟩ : ∃ r, X i = r := ⟨_, rfl⟩
        have HRX := As.mk hr
        rw [hr] at h1 HXL HIS
        have H1 := As.mk h1
        have HLT := As.mk hlt
        have HRS : As ((recA r).size = 6) := ⟨by rw [recA_size, HXL.out]⟩
        have HRL : As ((r.map (Value.int .i64)).length = 6) := ⟨by rw [List.length_map, HXL.out]⟩
        clear hr h1 hlt
        go_wp2_with (first
          | (refine wpList_load_at rfl 101 (.tmp 25) rfl (ad.add (i * 6)) rfl (r.map (Value.int .i64)) _ H1.out Try.underlying101 rfl (by rw [HRL.out]; exact info_rec) ?_)
          | (refine wpList_allocArr rfl 101 rfl (recA zero6) rec_zero ?_)
          | (refine wpList_storeNew rfl rfl 101 _ _ rfl rfl (recA r) rfl 101 (recA zero6) (by rw [HRS.out]; exact info_rec) (by rw [HRS.out]; rfl) (recA_one r) ?_; refine As.out ?_))
        refine As.mk ?_
        have hba := below_alloc (Below.refl wr.heap.size wr) (.cells (recA r) 101)
        have HP2 := As.mk (HP.out.below hba)
        have HB2 := As.mk (below_step HB.out hba)
        have HG2 := As.mk (heap_alloc_new wr (.cells (recA r) 101))
        clear hba
        generalize wr.alloc (.cells (recA r) 101) = w2 at *
        generalize wr.heap.size = g2 at *
        rcases Bool.eq_false_or_eq_true (rightR r) with hr | hr
        · have HR := As.mk hr
          clear hr
          go_wp2_with (first
            | (refine wpList_load_row rfl 101 (.tmp 10) rfl g2 rfl 101 (recA r) (0, 0) _ HG2.out Try.underlying101 rfl (by rw [HRS.out]; exact info_rec) ?_)
            | (go_at_call 66; (with_reducible refine (abytes_ok r HXL.out HR.out w2).mono ?_); rintro e w3 ⟨A3, c3, rfl, ho, hb⟩; have HO3 := As.mk ho; have HB3 := As.mk hb; have HP3 := As.mk (HP2.out.below hb); have HB4 := As.mk (below_step HB2.out hb); clear ho hb)
            | (at_builtin; refine As.out ?_))
          refine As.mk ?_
          have hBW := below_alloc HB3.out (.cells #[.slice A3 48 c3] 32)
          have hPW := HP2.out.below hBW
          have hsrc : Go.Proofs.Ytjcofbjfolaoiaa.Mem.Src (w3.alloc (.cells #[.slice A3 48 c3] 32)) (.slice (some ⟨w3.heap.size, 0, none⟩) 1 1) 1 1 [.slice A3 48 c3] := lit_src w3 32 [.slice A3 48 c3] (by show 1 ≤ maxLen; decide) (by simp; rfl)
          have hlt1 : ∀ k, (Value.slice A' i c').ownBlock = some k → k < w2.heap.size := fun k hk => (HP2.out.own.lt k hk).2
          have hel : ∀ j, j < 1 → ∃ u, ([.slice A3 48 c3] : List Value)[j]? = some u ∧ Elem (w3.alloc (.cells #[.slice A3 48 c3] 32)) (Value.slice A' i c').ownBlock u (nthP [bytesR r] j) := fun j hj => by
            obtain rfl : j = 0 := by omega
            refine ⟨_, rfl, Elem.below ?_ (below_alloc (Below.refl w3.heap.size w3) _)⟩
            exact Elem.mk' (own_rd_at HO3.out) fun _ => own_apart HO3.out hlt1
          have HPW := As.mk hPW
          have HSR := As.mk hsrc
          have HEL := As.mk hel
          have HBB := As.mk (below_step HB2.out hBW)
          clear hBW hPW hsrc hlt1 hel
          go_wp2_with (at_builtin; refine wpList_app2 rfl _ _ 37 rfl w1.heap.size 32 (.slice none 0 0) 24 Try.underlying37 infoS rfl _ i _ rfl HPW.out.own _ 1 _ rfl HSR.out ?c1 ?c2 HBB.out.size HBB.out (Nat.le_refl _) ?_; (case c1 => have := HLT.out; have := HN.out; unfold maxLen; omega); (case c2 => have := HLT.out; have := HN.out; omega); intro v5 w5 hown hg hat hb5; obtain ⟨A5, c5, rfl⟩ := hown.slice; have HP5 := As.mk (HPW.out.app (m := 1) (qs := [bytesR r]) rfl HEL.out hown hg hat); have HB5 := As.mk hb5; clear hown hg hat hb5)
          go_roundg (n - (i + 1))
          case measure => have := HI.out; have := HLT.out; omega
          case rel =>
            refine ⟨i + 1, A5, c5, _, by have := HI.out; have := HLT.out; omega, rfl, by go_num, ⟨fun k hk => ?_⟩, ⟨by rw [HIS.out]; exact HP5.out⟩, HB5⟩
            rcases Nat.lt_succ_iff_lt_or_eq.1 hk with h | rfl
            · exact HO.out k h
            · rw [HRX.out]; exact HR.out
        · have HR := As.mk hr
          have HAN := As.mk (allR_no (X := X) HLT.out (by rw [HRX.out]; exact hr))
          clear hr
          go_wp2_with (first
            | (refine wpList_load_row rfl 101 (.tmp 10) rfl g2 rfl 101 (recA r) (0, 0) _ HG2.out Try.underlying101 rfl (by rw [HRS.out]; exact info_rec) ?_)
            | (go_at_call 66; (with_reducible refine (abytes_bad r HXL.out HR.out w2).mono ?_); rintro e w3 ⟨rfl, hb⟩; have HB4 := As.mk (below_step HB2.out hb); clear hb))
          go_ret2
          exact .inr (.inl ⟨HC.out, HAN.out, rfl, below_step HB1.out HB4.out⟩)
      · have c0 : decide ((i : Int) < (n : Int)) = false := decide_eq_false (by omega)
        have c1 : decide (i < n) = false := decide_eq_false hlt
        obtain rfl : i = n := by have := HI.out; omega
        have HAR := As.mk ((allR_iff X i).2 HO.out)
        clear hlt
        go_wp2_with (first
          | (refine wpList_build32 rfl rfl ?_)
          | (go_at_call 122; (with_reducible refine (chain_any (logK key) (logK_byte key) z32 z32_len z32_byte (itemsN X i) (fun p hp => (items_mem p hp).1) (fun p hp => by rw [(items_mem p hp).2]; decide) A1 32 cK A' i c' wr (by decide) (by have := HN.out; omega) (HK1.out.below HB.out) HP.out.rdp).mono ?_); rintro e w6 ⟨A6, c6, rfl, hb, ho⟩; have HO6 := As.mk ho; have HB6 := As.mk (below_step HB1.out (below_step HB.out hb)); have HSZ := As.mk (Nat.le_trans HB1.out.size HB.out.size); clear hb ho))
        go_ret2
        exact .inr (.inr ⟨HC.out, HAR.out, _, _, rfl, Go.Proofs.Ytjcofbjfolaoiaa.Admin.own_weaken' HO6.out HSZ.out, HB6.out⟩)
  · have HC := As.mk hc
    clear hc
    go_enter Try.func58, Try.ntmps58
    go_wp2_with (go_at_call 60; (with_reducible refine (akey_bad A s c HC.out w).mono ?_); rintro e w1 ⟨rfl, rfl⟩)
    go_ret2
    exact .inl ⟨HC.out, rfl, Below.refl _ _⟩
/-- does a head verify a list? -/
def verB (key : List Int) (X : Nat → List Int) (n s : Nat) (h : List Int) : Bool := seqR X n && (credB s && (allR X n && decide (headN key X n = h)))
theorem quiet_draws {P : Program} {f : FuncId} {args : Array Value} {w : World} {n : Nat} {v : Value}
    (h : Calls P f args (w.drewN n) fun e w' => e = .returned v ∧ ∃ m, w' = (w.drewN n).drewN m) : Calls P f args (w.drewN n) fun e w'' => e = .returned v ∧ ∃ m, w'' = w.drewN m := Calls.quiet_of h
theorem rd_arr {w : World} {b : Nat} {x : List Int} {T : TypeId} (h : w.heap[b]? = some (.cells (bytesA x) T (0, 0))) (hx : x.length = 32) : Rd .u8 w (some ⟨b, 0, none⟩) 32 32 x := rd_block h hx (by decide)
set_option maxHeartbeats 2000000 in
set_option maxRecDepth 100000 in
theorem verify_any (key : List Int) (hk : Byte key) (A : Option Addr) (s c : Nat) (X : Nat → List Int) (B : Option Addr) (n d : Nat) (hn : n ≤ 1000) (h : List Int) (hh : h.length = 32) (hhb : Byte h) (q : Bool) (hq : verB key X n s h = q) (w : World) (h0 : Rd .u8 w A s c key) (h1 : RdX w B n d X) :
    Calls Try.prog 63 #[.slice A s c, .slice B n d, .agg (bytesA h)] w fun e w' => e = .returned (.bool q) ∧ Below w.heap.size w w' := by
  have HK := As.mk hk
  have HN := As.mk hn
  have HH := As.mk hh
  have HHB := As.mk hhb
  have HQ := As.mk hq
  have HB0 := As.mk (below_alloc (Below.refl w.heap.size w) (.cells (bytesA h) 102))
  have HG0 := As.mk (heap_alloc_new w (.cells (bytesA h) 102))
  have H0 := As.mk (h0.below HB0.out)
  have HX := As.mk (h1.below HB0.out)
  clear hk hn hh hhb hq h0 h1
  go_enter Try.func63, Try.ntmps63
  go_wp2_with (first
    | (refine wpList_boxArr rfl 102 _ rfl (bytesA h) rfl ?_)
    | (go_at_call 58; refine As.out ?_))
  refine As.mk ?_
  generalize w.alloc (.cells (bytesA h) 102) = w1 at *
  refine (heads_any key HK.out A s c X B n d HN.out w1 H0.out HX.out).mono ?_
  rintro e w2 hpost
  -- what came: an error, or the heads
  obtain ⟨k, Ah, nh, ch, hcase, he, HB2⟩ : ∃ (k : Int) (Ah : Option Addr) (nh ch : Nat), ((k ≠ 0 ∧ nh = 0 ∧ (credB s && allR X n) = false) ∨ (k = 0 ∧ nh = n ∧ (credB s && allR X n) = true ∧ w2.ownsRow w1.heap.size 102 32 (.slice Ah nh ch) n (flat (headsL key X n)))) ∧ e = .returned (.tuple #[.slice Ah nh ch, .int .i64 k]) ∧ Below w1.heap.size w1 w2 := by
    rcases hpost with ⟨h2, h3, h4⟩ | ⟨h2, h2', h3, h4⟩ | ⟨h2, h2', A', c', h3, h5, h4⟩
    · exact ⟨30, none, 0, 0, .inl ⟨by decide, rfl, by rw [h2]; rfl⟩, h3, h4⟩
    · exact ⟨2, none, 0, 0, .inl ⟨by decide, rfl, by rw [h2, h2']; rfl⟩, h3, h4⟩
    · exact ⟨0, A', n, c', .inr ⟨rfl, rfl, by rw [h2, h2']; rfl, h5⟩, h3, h4⟩
  subst he
  have HC := As.mk hcase
  have HB3 := As.mk (below_step HB0.out HB2)
  have HX3 := As.mk (HX.out.below HB2)
  have HG3 := As.mk ((HB2.block _ (Array.getElem?_eq_some_iff.1 HG0.out).1).trans HG0.out)
  have HSZ := As.mk (Nat.lt_of_lt_of_le (Array.getElem?_eq_some_iff.1 HG0.out).1 (Nat.le_refl _))
  have HW2 := As.mk HB2
  clear hpost hcase HB2 HB0 HG0 H0 HX
  go_wp2
  go_loopg [20] n (fun kq v20 wr => ∃ (i : Nat), i + kq = n ∧ v20 = .int .i64 i ∧ As (∀ j, j < i → nth (X j) 0 = (j : Int) + 1) ∧ As (Below w2.heap.size w2 wr))
  case atStart => exact ⟨0, by omega, rfl, ⟨fun j hj => by omega⟩, ⟨Below.refl _ _⟩⟩
  case round =>
    obtain ⟨i, hi, rfl, HO, HB⟩ := hrel
    have HI := As.mk hi
    clear hi
    by_cases hlt : i < n
    · have c0 : decide ((i : Int) < (n : Int)) = true := decide_eq_true (by omega)
      have c1 : decide (i < n) = true := decide_eq_true hlt
      have lt' : (i : Int) < (n : Int) := by omega
      have hw : wrap64 ((i : Int) + 1) = ((i + 1 : Nat) : Int) := wrap_up (by have := HN.out; omega)
      have hw2 : ((i + 1 : Nat) : Int) = (i : Int) + 1 := by omega
      obtain ⟨ad, ea, h1⟩ := (HX3.out.below HB.out).rows.at i hlt
      cases ea
      have HXL := As.mk (HX3.out.len i hlt)
      obtain ⟨r, hr⟩ : ∃ r, X i = r := ⟨_, rfl⟩
      have HRX := As.mk hr
      rw [hr] at h1 HXL
      have H1 := As.mk h1
      have HLT := As.mk hlt
      have HRS : As ((recA r).size = 6) := ⟨by rw [recA_size, HXL.out]⟩
      have HRL : As ((r.map (Value.int .i64)).length = 6) := ⟨by rw [List.length_map, HXL.out]⟩
      clear hr h1 hlt hw2
      go_wp2_with (first
        | (refine wpList_load_at rfl 101 (.tmp 23) rfl (ad.add (i * 6)) rfl (r.map (Value.int .i64)) _ H1.out Try.underlying101 rfl (by rw [HRL.out]; exact info_rec) ?_)
        | (refine wpList_allocArr rfl 101 rfl (recA zero6) rec_zero ?_)
        | (refine wpList_storeNew rfl rfl 101 _ _ rfl rfl (recA r) rfl 101 (recA zero6) (by rw [HRS.out]; exact info_rec) (by rw [HRS.out]; rfl) (recA_one r) ?_; refine As.out ?_))
      refine As.mk ?_
      have HB4 := As.mk (below_step HB.out (below_alloc (Below.refl wr.heap.size wr) (.cells (recA r) 101)))
      have HG4 := As.mk (heap_alloc_new wr (.cells (recA r) 101))
      generalize wr.alloc (.cells (recA r) 101) = w4 at *
      generalize wr.heap.size = g4 at *
      have cc : w4.cell? ⟨g4, 0, none⟩ = some (.int .i64 (nth r 0)) := by rw [cell_of_row w4 _ 0 _ _ _ HG4.out, recA_at r 0 (by rw [HXL.out]; decide)]
      obtain ⟨x, hx⟩ : ∃ x, nth r 0 = x := ⟨_, rfl⟩
      rw [hx] at cc
      have HXX := As.mk hx
      clear hx
      by_cases he : x = (i : Int) + 1
      · have e0 : (x != ((i + 1 : Nat) : Int)) = false := by simp; omega
        have e1 : (x != (i : Int) + 1) = false := by simp; omega
        have HE := As.mk he
        clear he
        go_wp2
        go_roundg (n - (i + 1))
        case measure => have := HI.out; have := HLT.out; omega
        case rel =>
          refine ⟨i + 1, by have := HI.out; have := HLT.out; omega, by go_num, ⟨fun j hj => ?_⟩, HB4⟩
          rcases Nat.lt_succ_iff_lt_or_eq.1 hj with h | rfl
          · exact HO.out j h
          · rw [HRX.out, HXX.out, HE.out]
      · have e0 : (x != ((i + 1 : Nat) : Int)) = true := by simp; omega
        have e1 : (x != (i : Int) + 1) = true := by simp; omega
        have HF : As (q = false) := ⟨by rw [← HQ.out]; unfold verB; rw [seqR_no HLT.out (by rw [HRX.out, HXX.out]; exact he)]; rfl⟩
        clear he
        go_wp2
        go_ret
        exact ⟨by rw [HF.out]; rfl, below_step HB3.out HB4.out⟩
    · have c0 : decide ((i : Int) < (n : Int)) = false := decide_eq_false (by omega)
      have c1 : decide (i < n) = false := decide_eq_false hlt
      obtain rfl : i = n := by have := HI.out; omega
      have HSQ := As.mk ((seqR_iff X i).2 HO.out)
      clear hlt
      rcases HC.out with ⟨hk0, rfl, hca⟩ | ⟨rfl, hnn, hca, hown⟩
      · have e0 : (k == 0) = false := beq_eq_false_iff_ne.2 hk0
        have HF : As (q = false) := ⟨by rw [← HQ.out]; unfold verB; rw [HSQ.out, ← Bool.and_assoc (credB s), hca]; rfl⟩
        clear hk0 hca HC
        go_wp2_with (refine wpList_allocArr rfl 102 rfl Z32 Go.Proofs.Ytjcofbjfolaoiaa.Sum.z32 ?_; refine As.out ?_)
        refine As.mk ?_
        have HB5 := As.mk (below_step HB.out (below_alloc (Below.refl wr.heap.size wr) (.cells Z32 102)))
        generalize wr.alloc _ = w5 at *
        go_wp2
        go_quiet (fail)
        go_wp2
        go_ret
        exact ⟨by rw [HF.out]; rfl, below_drewN (below_step HB3.out HB5.out) _⟩
      · have hn2 := hnn.symm
        subst hn2
        have HOW := As.mk (own_below hown HB.out)
        have HF : As (q = decide (headN key X i = h)) := ⟨by rw [← HQ.out]; unfold verB; rw [HSQ.out, ← Bool.and_assoc (credB s), hca]; rfl⟩
        have HG4 := As.mk ((HB.out.block _ (Array.getElem?_eq_some_iff.1 HG3.out).1).trans HG3.out)
        have HLW := As.mk (show w.heap.size < wr.heap.size from (Array.getElem?_eq_some_iff.1 HG4.out).1)
        clear hca hown HC
        rcases Nat.eq_zero_or_pos i with rfl | hpos
        · have HHD : As (headN key X 0 = z32) := ⟨rfl⟩
          rw [HHD.out] at HF
          go_wp2_with (refine wpList_allocArr rfl 102 rfl Z32 Go.Proofs.Ytjcofbjfolaoiaa.Sum.z32 ?_; refine As.out ?_)
          refine As.mk ?_
          have HB5 := As.mk (below_step HB.out (below_alloc (Below.refl wr.heap.size wr) (.cells Z32 102)))
          have HL5 : As ((wr.alloc (.cells Z32 102)).heap[wr.heap.size]? = some (.cells (bytesA z32) 102 (0, 0))) := ⟨by rw [z32_bytes]; exact heap_alloc_new wr _⟩
          have HG5 := As.mk (((below_alloc (Below.refl wr.heap.size wr) (.cells Z32 102)).block _ HLW.out).trans HG4.out)
          generalize wr.alloc (.cells Z32 102) = w5 at *
          generalize wr.heap.size = g5 at *
          have HRL := As.mk (rd_arr HL5.out z32_len)
          have HRH := As.mk (rd_arr HG5.out HH.out)
          go_wp2
          go_quiet ((go_at_call 106; exact Calls.quiet_of (SameB.bytes_any z32 h z32_byte HHB.out (some ⟨g5, 0, none⟩) (some ⟨w.heap.size, 0, none⟩) 32 32 32 32 _ (decide (z32 = h)) (by simp) (HRL.out.drewN _) (HRH.out.drewN _) (by decide))))
          go_wp2
          go_ret
          exact ⟨by rw [HF.out]; rfl, below_drewN (below_step HB3.out HB5.out) _⟩
        · obtain ⟨j, rfl⟩ : ∃ j, i = j + 1 := ⟨i - 1, by omega⟩
          obtain ⟨g, rfl, hg1, hg2, hg3⟩ := own_shape HOW.out (by omega)
          obtain ⟨T, hT⟩ : ∃ T, headN key X (j + 1) = T := ⟨_, rfl⟩
          have HTT := As.mk hT
          have hTl : T.length = 32 := by rw [← hT]; exact head_len _ _ _
          have hTb : Byte T := by rw [← hT]; exact head_byte _ _ _
          have HCL : As (∀ i v, (T.map (Value.int .u8))[i]? = some v → wr.cell? ((⟨g, j * 32, none⟩ : Addr).add i) = some v) := ⟨fun i v hv =>
            chunk0 HOW.out (heads_each key X (j + 1)) j i v (by rw [heads_at key X (j + 1) j (by omega), hT]; exact hv)⟩
          rw [hT] at HF
          have VT := As.mk (show (T.map (Value.int .u8)).length = 32 by rw [List.length_map]; exact hTl)
          have VT2 := As.mk (bytesA32 hTl)
          have HTB := As.mk hTb
          have HTL := As.mk hTl
          have f0 : decide ((0 : Int) < ((j + 1 : Nat) : Int)) = true := decide_eq_true (by omega)
          have f1 : wrap64 (((j + 1 : Nat) : Int) - 1) = (j : Int) := by unfold wrap64; have := HN.out; omega
          have f2 : (j : Int) < ((j + 1 : Nat) : Int) := by omega
          have f3 : IntKind.i64.wrap (((j + 1 : Nat) : Int) - 1) = (j : Int) := by rw [IntKind.wrap_i64]; have := HN.out; omega
          have f4 : wrap64 ((j : Int) + 1 - 1) = (j : Int) := by unfold wrap64; have := HN.out; omega
          have f5 : (j : Int) < (j : Int) + 1 := by omega
          have f6 : wrap64 (j : Int) = (j : Int) := by unfold wrap64; have := HN.out; omega
          clear hT hTl hTb hg1 hg2 hg3 hpos
          go_wp2_with (refine wpList_allocArr rfl 102 rfl Z32 Go.Proofs.Ytjcofbjfolaoiaa.Sum.z32 ?_; refine As.out ?_)
          refine As.mk ?_
          have hba := below_alloc (Below.refl wr.heap.size wr) (.cells Z32 102)
          have HB5 := As.mk (below_step HB.out hba)
          have HL5 := As.mk (heap_alloc_new wr (.cells Z32 102))
          have HG5 := As.mk ((hba.block _ HLW.out).trans HG4.out)
          have HCL5 : As (∀ i v, (T.map (Value.int .u8))[i]? = some v → (wr.alloc (.cells Z32 102)).cell? ((⟨g, j * 32, none⟩ : Addr).add i) = some v) := ⟨fun i v hv => (hba.cell (World.block_lt_of_cell? wr _ (HCL.out i v hv))).trans (HCL.out i v hv)⟩
          clear hba
          generalize wr.alloc (.cells Z32 102) = w5 at *
          have HGE := As.mk (show w2.heap.size ≤ wr.heap.size from HB.out.size)
          generalize wr.heap.size = g5 at *
          go_wp2_with (first
            | (refine wpList_load_at rfl 102 (.tmp 38) rfl ⟨g, j * 32, none⟩ rfl (T.map (Value.int .u8)) _ HCL5.out uArr32 rfl (by rw [VT.out]; exact arr_info) ?_)
            | (refine wpList_storeArr rfl rfl 102 _ _ rfl g5 rfl (bytesA T) rfl 102 Z32 HL5.out (by rw [VT2.out]; exact arr_info) (by rw [VT2.out]; rfl) (bytesA_one T) ?_; refine As.out ?_))
          refine As.mk ?_
          have HL6 := As.mk (setRow_new w5 g5 Z32 (bytesA T) _ HL5.out)
          have HG6 : As ((w5.setRow g5 (bytesA T)).heap[w.heap.size]? = some (.cells (bytesA h) 102 (0, 0))) := ⟨(setRow_far w5 g5 w.heap.size (bytesA T) (by have := HLW.out; omega)).trans HG5.out⟩
          have HB6 := As.mk (below_setRow (below_step HB3.out HB5.out) (by have := HLW.out; omega) (bytesA T) (g := g5))
          generalize w5.setRow g5 (bytesA T) = w6 at *
          have HRL := As.mk (rd_arr HL6.out HTL.out)
          have HRH := As.mk (rd_arr HG6.out HH.out)
          clear f0 f1 f2 f3 f4 f5 f6
          go_wp2
          go_quiet ((go_at_call 106; exact Calls.quiet_of (SameB.bytes_any T h HTB.out HHB.out (some ⟨g5, 0, none⟩) (some ⟨w.heap.size, 0, none⟩) 32 32 32 32 _ (decide (T = h)) (by simp) (HRL.out.drewN _) (HRH.out.drewN _) (by decide))))
          go_wp2
          go_ret
          exact ⟨by rw [HF.out]; rfl, below_drewN HB6.out _⟩
end Go.Proofs.Ytjcofbjfolaoiaa.Admin
