/- AdminlogHeads: the statement. -/
import Derived.Test.YtjcofbjfolaoiaaAdminH
import Derived.Test.YtjcofbjfolaoiaaAdminK
import Derived.Test.YtjcofbjfolaoiaaRefSame
namespace Go.Proofs.Ytjcofbjfolaoiaa.Admin
set_option linter.unusedVariables false
set_option linter.unusedSimpArgs false
open Go Go.RowKit Go.Proofs.Ytjcofbjfolaoiaa.LayA Go.Proofs.Ytjcofbjfolaoiaa.Mem Go.Proofs.Ytjcofbjfolaoiaa.Pad Go.Proofs.Ytjcofbjfolaoiaa.Put Go.Proofs.Ytjcofbjfolaoiaa.Put32 Go.Proofs.Ytjcofbjfolaoiaa.Sum Go.Proofs.Ytjcofbjfolaoiaa.Hmac Go.Proofs.Ytjcofbjfolaoiaa.Parts Go.Proofs.Ytjcofbjfolaoiaa.Derive Go.Proofs.Ytjcofbjfolaoiaa.RefDerive Go.Proofs.Ytjcofbjfolaoiaa.Chain Go.Proofs.Ytjcofbjfolaoiaa.RefSum Go.Proofs.Ytjcofbjfolaoiaa.ShaSums Go.Proofs.Ytjcofbjfolaoiaa.HmacKeys

section
variable {P : Program}
theorem quiet_load_at {a : Act} {o : Oper} {K : Act → Prop} {w0 : World} (ty : TypeId) (x : Operand) (ho : o.op = .load ty x)
    (ad : Addr) (hx : a.eval x = .pointer (some ad)) (cs : List Value) (d : TypeDesc) (hc : ∀ i v, cs[i]? = some v → w0.cell? (ad.add i) = some v)
    (hu : P.underlying ty = some d) (hd : d.isRow = true) (hi : (P.info? ty).map (·.size) = some cs.length) (C : Array Value) (hC : cs.toArray = C)
    (h : K (a.put o.dst (.agg C))) : o.quiet P a (fun w' => ∃ n, w' = w0.drewN n) K :=
  ⟨_, fun w hw => by
    subst hC
    obtain ⟨n, rfl⟩ := hw
    have hl := run_loadAt_at (P := P) (w0.drewN n) ad ty cs d (fun i v hv => hc i v hv) hu hd hi
    unfold Oper.quietAt execOp
    simp only [ho, hx, Sem.run_bind, hl, Result.andThen_ok, Sem.run_pure]
    exact ⟨rfl, rfl⟩, h⟩
theorem quiet_load_row {a : Act} {o : Oper} {K : Act → Prop} {w0 : World} (ty : TypeId) (x : Operand) (ho : o.op = .load ty x)
    (g : Nat) (hx : a.eval x = .pointer (some ⟨g, 0, none⟩)) (t : TypeId) (cs : Array Value) (d : TypeDesc) (hg : w0.heap[g]? = some (.cells cs t (0, 0)))
    (hu : P.underlying ty = some d) (hd : d.isRow = true) (hi : (P.info? ty).map (·.size) = some cs.size)
    (h : K (a.put o.dst (.agg cs))) : o.quiet P a (fun w' => ∃ n, w' = w0.drewN n) K := by
  refine quiet_load_at ty x ho ⟨g, 0, none⟩ hx cs.toList d (fun i v hv => ?_) hu hd (by simpa using hi) cs (by simp) h
  rw [Addr.add_lit, Nat.zero_add, cell_of_row w0 g i _ _ _ hg]
  simpa using hv
end
theorem seqR_succ (X : Nat → List Int) (n : Nat) : seqR X (n + 1) = (seqR X n && (nth (X n) 0 == ((n : Int) + 1))) := by simp [seqR, List.range_succ, List.all_append]
theorem eq32 (x y : List Int) (hx : x.length = 32) (hy : y.length = 32) (bx : Byte x) (by_ : Byte y) (W : World) : (Op.equalIn 10000 102 (.agg (bytesA x)) (.agg (bytesA y))).run Try.prog W = .ok (decide (x = y)) W :=
  run_eq_ints (P := Try.prog) W 102 5 32 uArr32 Try.underlying5 info8 x y bx by_ hx hy
set_option maxHeartbeats 400000 in
set_option maxRecDepth 100000 in
theorem ah_far (s c n d : Nat) (A B : Option Addr) (o : List Int) (h : 100 < s ∨ s ≤ 100 ∧ 8 < n) (w : World) :
    Calls Try.prog 12 #[.slice A s c, .slice B n d, .agg (bytesA o)] w fun e w' => e = .returned (.bool true) ∧ Below w.heap.size w w' := by
  have HB0 := As.mk (below_alloc (Below.refl w.heap.size w) (.cells (bytesA o) 102))
  rcases h with h | ⟨h, h2⟩
  · have d0 : decide (100 < (s : Int)) = true := decide_eq_true (by omega)
    have d1 : decide (100 < s) = true := decide_eq_true h
    clear h
    go_enter Try.func12, Try.ntmps12
    go_wp2_with (first
      | (refine wpList_boxArr rfl 102 _ rfl (bytesA o) rfl ?_)
      | (go_at_call 57; (refine (awake_true _).mono ?_); rintro e w1 ⟨rfl, hb⟩; have HB1 := As.mk (below_step HB0.out hb); clear hb))
    go_ret
    exact ⟨rfl, HB1.out⟩
  · have d0 : decide (100 < (s : Int)) = false := decide_eq_false (by omega)
    have d1 : decide (100 < s) = false := decide_eq_false (by omega)
    have d2 : decide (8 < (n : Int)) = true := decide_eq_true (by omega)
    have d3 : decide (8 < n) = true := decide_eq_true h2
    clear h h2
    go_enter Try.func12, Try.ntmps12
    go_wp2_with (first
      | (refine wpList_boxArr rfl 102 _ rfl (bytesA o) rfl ?_)
      | (go_at_call 57; (refine (awake_true _).mono ?_); rintro e w1 ⟨rfl, hb⟩; have HB1 := As.mk (below_step HB0.out hb); clear hb))
    go_ret
    exact ⟨rfl, HB1.out⟩
set_option maxHeartbeats 4000000 in
set_option maxRecDepth 100000 in
theorem ah_bad (key : List Int) (hk : Byte key) (A : Option Addr) (s c : Nat) (X : Nat → List Int) (B : Option Addr) (n d : Nat) (hs : s ≤ 100) (hn : n ≤ 8) (o : List Int) (ho : o.length = 32) (hob : Byte o) (hc : credB s = false) (w : World) (h0 : Rd .u8 w A s c key) (h1 : RdX w B n d X) :
    Calls Try.prog 12 #[.slice A s c, .slice B n d, .agg (bytesA o)] w fun e w' => e = .returned (.bool true) ∧ Below w.heap.size w w' := by
  have HK := As.mk hk
  have HN := As.mk hn
  have HO := As.mk ho
  have HOB := As.mk hob
  have HC := As.mk hc
  have HOS := As.mk (bytesA32 ho)
  have d0 : decide (100 < (s : Int)) = false := decide_eq_false (by omega)
  have d1 : decide (100 < s) = false := decide_eq_false (by omega)
  have d2 : decide (8 < (n : Int)) = false := decide_eq_false (by omega)
  have d3 : decide (8 < n) = false := decide_eq_false (by omega)
  have HB0 := As.mk (below_alloc (Below.refl w.heap.size w) (.cells (bytesA o) 102))
  have HG0 := As.mk (heap_alloc_new w (.cells (bytesA o) 102))
  have H0 := As.mk (h0.below HB0.out)
  have HX := As.mk (h1.below HB0.out)
  clear hk hn ho hob hs hc h0 h1
  go_enter Try.func12, Try.ntmps12
  go_wp2_with (refine wpList_boxArr rfl 102 _ rfl (bytesA o) rfl ?_; refine As.out ?_)
  refine As.mk ?_
  generalize w.alloc _ = w0 at *
  have HX0 := HX
  have HQ : As (verB key X n s z32 = false) := ⟨by unfold verB; rw [HC.out]; simp⟩
  have VT : As ((bytesA z32).size = 32) := ⟨bytesA32 z32_len⟩
  go_wp2_with (first
    | (go_at_call 57; (with_reducible refine (awake_true w0).mono ?_); rintro e w1 ⟨rfl, hb⟩; have HB1 := As.mk (below_step HB0.out hb); have HG1 := As.mk ((hb.block _ (Array.getElem?_eq_some_iff.1 HG0.out).1).trans HG0.out); have H1 := As.mk (H0.out.below hb); have HX1 := As.mk (HX0.out.below hb); clear hb)
    | (go_at_call 60; (with_reducible refine (akey_bad A s c HC.out w1).mono ?_); rintro e w2 ⟨rfl, rfl⟩)
    | (go_at_call 58; refine As.out ?_))
  refine As.mk ?_
  refine (heads_any key HK.out A s c X B n d (by have := HN.out; omega) w1 H1.out HX1.out).mono ?_
  rintro e w2 hpost
  obtain ⟨he, hb⟩ : e = .returned (.tuple #[.slice none 0 0, .int .i64 30]) ∧ Below w1.heap.size w1 w2 := by
    rcases hpost with ⟨h2, h3, h4⟩ | ⟨h2, h2', h3, h4⟩ | ⟨h2, h2', A', c', h3, h5, h4⟩
    · exact ⟨h3, h4⟩
    · rw [HC.out] at h2; cases h2
    · rw [HC.out] at h2; cases h2
  subst he
  clear hpost
  have HB2 := As.mk (below_step HB1.out hb)
  have HG2 := As.mk ((hb.block _ (Array.getElem?_eq_some_iff.1 HG1.out).1).trans HG1.out)
  have H2 := As.mk (H1.out.below hb)
  have HX2 := As.mk (HX1.out.below hb)
  clear hb
  go_wp2_with (first
    | (go_at_call 61; (with_reducible refine (credR_any A s c false HC.out w2).mono ?_); rintro e w3 ⟨rfl, rfl⟩)
    | (refine wpList_load_row rfl 102 (.tmp 5) rfl w.heap.size rfl 102 (bytesA o) (0, 0) _ HG2.out uArr32 rfl (by rw [HOS.out]; exact arr_info) ?_)
    | (refine wpList_buildR0 rfl rfl ?_)
    | (go_at_call 62; (with_reducible refine (next_bad key HK.out A s c o HO.out zero6 rfl 30 (.inl ⟨HC.out, rfl⟩) w2 H2.out).mono ?_); rintro e w3 ⟨rfl, hb⟩; have HB3 := As.mk (below_step HB2.out hb); have HG3 := As.mk ((hb.block _ (Array.getElem?_eq_some_iff.1 HG2.out).1).trans HG2.out); have H3 := As.mk (H2.out.below hb); have HX3 := As.mk (HX2.out.below hb); clear hb)
    | (refine wpList_allocArr rfl 102 rfl Z32 Go.Proofs.Ytjcofbjfolaoiaa.Sum.z32 ?_)
    | (refine wpList_storeNew rfl rfl 102 _ _ rfl rfl (bytesA z32) rfl 102 Z32 (by rw [VT.out]; exact arr_info) (by rw [VT.out]; rfl) (bytesA_one z32) ?_; refine As.out ?_))
  refine As.mk ?_
  have hb := below_alloc (Below.refl w3.heap.size w3) (.cells (bytesA z32) 102)
  have HB4 := As.mk (below_step HB3.out hb)
  have HG4 := As.mk ((hb.block _ (Array.getElem?_eq_some_iff.1 HG3.out).1).trans HG3.out)
  have H4 := As.mk (H3.out.below hb)
  have HX4 := As.mk (HX3.out.below hb)
  clear hb
  generalize w3.alloc _ = w4 at *
  go_wp2_with (first
    | (refine wpList_build32G (by rfl) rfl ?_)
    | (go_at_call 63; (with_reducible refine (verify_any key HK.out A s c X B n d (by have := HN.out; omega) z32 z32_len z32_byte false HQ.out w4 H4.out HX4.out).mono ?_); rintro e w5 ⟨rfl, hb⟩; have HB5 := As.mk (below_step HB4.out hb); have HG5 := As.mk ((hb.block _ (Array.getElem?_eq_some_iff.1 HG4.out).1).trans HG4.out); have H5 := As.mk (H4.out.below hb); have HX5 := As.mk (HX4.out.below hb); clear hb))
  go_ret
  exact ⟨rfl, HB5.out⟩
set_option maxHeartbeats 8000000 in
set_option maxRecDepth 100000 in
theorem ah_ok (key : List Int) (hk : Byte key) (A : Option Addr) (s c : Nat) (X : Nat → List Int) (B : Option Addr) (n d : Nat) (hs : s ≤ 100) (hn : n ≤ 8) (o : List Int) (ho : o.length = 32) (hob : Byte o) (hc : credB s = true) (w : World) (h0 : Rd .u8 w A s c key) (h1 : RdX w B n d X) :
    Calls Try.prog 12 #[.slice A s c, .slice B n d, .agg (bytesA o)] w fun e w' => e = .returned (.bool true) ∧ Below w.heap.size w w' := by
  have HK := As.mk hk
  have HN := As.mk hn
  have HO := As.mk ho
  have HOB := As.mk hob
  have HC := As.mk hc
  have HOS := As.mk (bytesA32 ho)
  have d0 : decide (100 < (s : Int)) = false := decide_eq_false (by omega)
  have d1 : decide (100 < s) = false := decide_eq_false (by omega)
  have d2 : decide (8 < (n : Int)) = false := decide_eq_false (by omega)
  have d3 : decide (8 < n) = false := decide_eq_false (by omega)
  have HSC := As.mk ((credB_iff s).1 hc)
  have HB0 := As.mk (below_alloc (Below.refl w.heap.size w) (.cells (bytesA o) 102))
  have HG0 := As.mk (heap_alloc_new w (.cells (bytesA o) 102))
  have H0 := As.mk (h0.below HB0.out)
  have HX := As.mk (h1.below HB0.out)
  clear hk hn ho hob hs hc h0 h1
  go_enter Try.func12, Try.ntmps12
  go_wp2_with (refine wpList_boxArr rfl 102 _ rfl (bytesA o) rfl ?_; refine As.out ?_)
  refine As.mk ?_
  generalize w.alloc _ = w0 at *
  have HX0 := HX
  go_wp2_with (first
    | (go_at_call 57; (with_reducible refine (awake_true w0).mono ?_); rintro e w1 ⟨rfl, hb⟩; have HB1 := As.mk (below_step HB0.out hb); have HG1 := As.mk ((hb.block _ (Array.getElem?_eq_some_iff.1 HG0.out).1).trans HG0.out); have H1 := As.mk (H0.out.below hb); have HX1 := As.mk (HX0.out.below hb); clear hb)
    | (go_at_call 60; (with_reducible refine (akey_ok key HK.out A s c HC.out w1 H1.out).mono ?_); rintro e w2 ⟨AK, cK, rfl, hr, hb⟩; have HK2 := As.mk hr; clear hr; have HB2 := As.mk (below_step HB1.out hb); have HG2 := As.mk ((hb.block _ (Array.getElem?_eq_some_iff.1 HG1.out).1).trans HG1.out); have H2 := As.mk (H1.out.below hb); have HX2 := As.mk (HX1.out.below hb); clear hb)
    | (go_at_call 58; refine As.out ?_))
  refine As.mk ?_
  refine (heads_any key HK.out A s c X B n d (by have := HN.out; omega) w2 H2.out HX2.out).mono ?_
  rintro e w3 hpost
  obtain ⟨k, Ah, nh, ch, hcase, he, hb⟩ : ∃ (k : Int) (Ah : Option Addr) (nh ch : Nat), ((k = 2 ∧ nh = 0 ∧ allR X n = false) ∨ (k = 0 ∧ nh = n ∧ allR X n = true ∧ w3.ownsRow w2.heap.size 102 32 (.slice Ah nh ch) n (flat (headsL key X n)))) ∧ e = .returned (.tuple #[.slice Ah nh ch, .int .i64 k]) ∧ Below w2.heap.size w2 w3 := by
    rcases hpost with ⟨h2, h3, h4⟩ | ⟨h2, h2', h3, h4⟩ | ⟨h2, h2', A', c', h3, h5, h4⟩
    · rw [HC.out] at h2; cases h2
    · exact ⟨2, none, 0, 0, .inl ⟨rfl, rfl, h2'⟩, h3, h4⟩
    · exact ⟨0, A', n, c', .inr ⟨rfl, rfl, h2', h5⟩, h3, h4⟩
  subst he
  have HCA := As.mk hcase
  have HK3 := As.mk (HK2.out.below hb)
  clear hpost hcase
  have HB3 := As.mk (below_step HB2.out hb)
  have HG3 := As.mk ((hb.block _ (Array.getElem?_eq_some_iff.1 HG2.out).1).trans HG2.out)
  have H3 := As.mk (H2.out.below hb)
  have HX3 := As.mk (HX2.out.below hb)
  clear hb
  go_wp2_with (first
    | (go_at_call 61; (with_reducible refine (credR_any A s c true HC.out w3).mono ?_); rintro e w4 ⟨rfl, rfl⟩)
    | (go_at_call 64; (with_reducible refine (rkey_ok key HK.out A s c (by have := HSC.out; omega) w3 H3.out).mono ?_); rintro e w4 ⟨AR, cR, rfl, hr, hb⟩; have HR4 := As.mk hr; clear hr; have HK4 := As.mk (HK3.out.below hb); have HW4 := As.mk hb; have HB4 := As.mk (below_step HB3.out hb); have HG4 := As.mk ((hb.block _ (Array.getElem?_eq_some_iff.1 HG3.out).1).trans HG3.out); have H4 := As.mk (H3.out.below hb); have HX4 := As.mk (HX3.out.below hb); clear hb)
    | (go_at_call 24; refine As.out ?_))
  refine As.mk ?_
  refine (RefSame.same_any (logK key) (logK key) AK AR 32 32 cK cR w4 true (by decide) (by simp) HK4.out HR4.out).mono ?_
  rintro e w5 ⟨rfl, nd, hd⟩
  have hb : Below w4.heap.size w4 w5 := by rw [hd]; exact below_drewN (Below.refl _ _) _
  have HW5 := As.mk (HW4.out.trans (hb.mono HW4.out.size))
  have HCB : As ((k = 2 ∧ nh = 0 ∧ allR X n = false) ∨ (k = 0 ∧ nh = n ∧ allR X n = true ∧ w5.ownsRow w2.heap.size 102 32 (.slice Ah nh ch) n (flat (headsL key X n)))) := ⟨by
    rcases HCA.out with h | ⟨h1, h2, h3, h4⟩
    · exact .inl h
    · exact .inr ⟨h1, h2, h3, own_below (own_below h4 HW4.out) hb⟩⟩
  have HB5 := As.mk (below_step HB4.out hb)
  have HG5 := As.mk ((hb.block _ (Array.getElem?_eq_some_iff.1 HG4.out).1).trans HG4.out)
  have H5 := As.mk (H4.out.below hb)
  have HX5 := As.mk (HX4.out.below hb)
  clear hb
  clear hd HCA
  go_wp2_with (refine wpList_allocArr rfl 102 rfl Z32 Go.Proofs.Ytjcofbjfolaoiaa.Sum.z32 ?_; refine As.out ?_)
  refine As.mk ?_
  have HB6 := As.mk (below_alloc (Below.refl w5.heap.size w5) (.cells Z32 102))
  have HH6 : As ((w5.alloc (.cells Z32 102)).heap[w5.heap.size]? = some (.cells (bytesA z32) 102 (0, 0))) := ⟨by rw [z32_bytes]; exact heap_alloc_new w5 _⟩
  clear HK2 HK3 HR4 HK4 HW4 HW5 HB0 HB1 HB2 HB3 HB4 HG0 HG1 HG2 HG3 HG4 H0 H1 H2 H3 H4 HX HX0 HX1 HX2 HX3 HX4
  generalize w5.alloc _ = w6 at *
  go_wp2
  go_loopg [14, 86] n (fun kq v14 v86 wr => ∃ (i : Nat) (b : Bool), i + kq = n ∧ v14 = .bool b ∧ v86 = .int .i64 i ∧ As (seqR X i = b) ∧ As (∀ j, j < i → rightR (X j) = true) ∧ As (wr.heap[w5.heap.size]? = some (.cells (bytesA (headN key X i)) 102 (0, 0))) ∧ As (Below w5.heap.size w5 wr))
  case atStart => exact ⟨0, true, by omega, rfl, rfl, ⟨rfl⟩, ⟨fun j hj => by omega⟩, HH6, HB6⟩
  case round =>
    obtain ⟨i, b, hi, rfl, rfl, HSB, HRI, HHR, HBR⟩ := hrel
    have HI := As.mk hi
    clear hi
    by_cases hlt : i < n
    · have c0 : decide ((i : Int) < (n : Int)) = true := decide_eq_true (by omega)
      have c1 : decide (i < n) = true := decide_eq_true hlt
      have lt' : (i : Int) < (n : Int) := by omega
      have hw : wrap64 ((i : Int) + 1) = ((i + 1 : Nat) : Int) := wrap_up (by have := HN.out; omega)
      obtain ⟨ad, ea, h1⟩ := (HX5.out.below HBR.out).rows.at i hlt
      cases ea
      have HXL := As.mk (HX5.out.len i hlt)
      have HHS := As.mk (head_succ key X i)
      have HHL := As.mk (head_len key X i)
      have HHB := As.mk (head_byte key X i)
      have HTL := As.mk (head_len key X (i + 1))
      have HTB := As.mk (head_byte key X (i + 1))
      have HSQ := As.mk (seqR_succ X i)
      have HHA : As (∀ l', l' = headsL key X n → nthP l' i = headN key X (i + 1)) := ⟨fun l' hl => by rw [hl]; exact heads_at key X n i hlt⟩
      obtain ⟨r, hr⟩ : ∃ r, X i = r := ⟨_, rfl⟩
      have HRX := As.mk hr
      rw [hr] at h1 HXL HHS HSQ
      obtain ⟨h, hh⟩ : ∃ h, headN key X i = h := ⟨_, rfl⟩
      obtain ⟨T, hT⟩ : ∃ T, headN key X (i + 1) = T := ⟨_, rfl⟩
      have HHH := As.mk hh
      have HTT := As.mk hT
      rw [hh] at HHR HHS HHL HHB
      rw [hT] at HHS HTL HTB HHA
      rw [HSB.out] at HSQ
      have H1 := As.mk h1
      have HLT := As.mk hlt
      have HHR0 := HHR
      have HRS : As ((recA r).size = 6) := ⟨by rw [recA_size, HXL.out]⟩
      have HRL : As ((r.map (Value.int .i64)).length = 6) := ⟨by rw [List.length_map, HXL.out]⟩
      have VT2 := As.mk (bytesA32 HTL.out)
      have VTL := As.mk (show (T.map (Value.int .u8)).length = 32 by rw [List.length_map]; exact HTL.out)
      have VH2 := As.mk (bytesA32 HHL.out)
      have HLW := As.mk (Array.getElem?_eq_some_iff.1 HHR.out).1
      clear hr hh hT h1 hlt
      go_wp2_with (first
        | (refine wpList_load_at rfl 101 (.tmp 89) rfl (ad.add (i * 6)) rfl (r.map (Value.int .i64)) _ H1.out Try.underlying101 rfl (by rw [HRL.out]; exact info_rec) ?_)
        | (refine wpList_allocArr rfl 101 rfl (recA zero6) rec_zero ?_)
        | (refine wpList_storeNew rfl rfl 101 _ _ rfl rfl (recA r) rfl 101 (recA zero6) (by rw [HRS.out]; exact info_rec) (by rw [HRS.out]; rfl) (recA_one r) ?_; refine As.out ?_))
      refine As.mk ?_
      have hb := below_alloc (Below.refl wr.heap.size wr) (.cells (recA r) 101)
      have HB7 := As.mk (below_step HBR.out hb)
      have HH7 := As.mk ((hb.block _ HLW.out).trans HHR.out)
      have HG7 := As.mk (heap_alloc_new wr (.cells (recA r) 101))
      have HL7 := HLW
      clear hb H1
      generalize wr.alloc (.cells (recA r) 101) = w7 at *
      generalize wr.heap.size = g7 at *
      rcases Bool.eq_false_or_eq_true (rightR r) with hq | hq
      · have HR := As.mk hq
        have HOK := As.mk ((rightR_iff r).1 hq)
        clear hq
        go_wp2_with (first
          | (refine wpList_load_row rfl 102 (.tmp 13) rfl w5.heap.size rfl 102 (bytesA h) (0, 0) _ HH7.out uArr32 rfl (by rw [VH2.out]; exact arr_info) ?_)
          | (refine wpList_load_row rfl 101 (.tmp 16) rfl g7 rfl 101 (recA r) (0, 0) _ HG7.out Try.underlying101 rfl (by rw [HRS.out]; exact info_rec) ?_)
          | (go_at_call 62; (with_reducible refine (next_ok key HK.out A s c h HHL.out HHB.out r HXL.out HC.out HR.out w7 (H5.out.below HB7.out) T HHS.out.symm).mono ?_); rintro e w8 ⟨rfl, hb⟩; have HB8 := As.mk (below_step HB7.out hb); have HH8 := As.mk ((hb.block _ (Array.getElem?_eq_some_iff.1 HH7.out).1).trans HH7.out); have HG8 := As.mk ((hb.block _ (Array.getElem?_eq_some_iff.1 HG7.out).1).trans HG7.out); clear hb)
          | (refine wpList_allocArr rfl 102 rfl Z32 Go.Proofs.Ytjcofbjfolaoiaa.Sum.z32 ?_)
          | (refine wpList_storeNew rfl rfl 102 _ _ rfl rfl (bytesA T) rfl 102 Z32 (by rw [VT2.out]; exact arr_info) (by rw [VT2.out]; rfl) (bytesA_one T) ?_; refine As.out ?_))
        refine As.mk ?_
        have hb := below_alloc (Below.refl w8.heap.size w8) (.cells (bytesA T) 102)
        have HB9 := As.mk (below_step HB8.out hb)
        have HH9 := As.mk ((hb.block _ (Array.getElem?_eq_some_iff.1 HH8.out).1).trans HH8.out)
        have HG9 := As.mk ((hb.block _ (Array.getElem?_eq_some_iff.1 HG8.out).1).trans HG8.out)
        have HT9 := As.mk (heap_alloc_new w8 (.cells (bytesA T) 102))
        have HL9 := As.mk (Array.getElem?_eq_some_iff.1 HH8.out).1
        clear hb HB7 HH7 HG7 HB8 HH8 HG8
        generalize w8.alloc _ = w9 at *
        generalize w8.heap.size = g9 at *
        go_wp2_with (first
          | (refine wpList_load_row rfl 101 (.tmp 16) rfl g7 rfl 101 (recA r) (0, 0) _ HG9.out Try.underlying101 rfl (by rw [HRS.out]; exact info_rec) ?_)
          | (go_at_call 65; (with_reducible refine (rightR_any r HXL.out true HR.out w9).mono ?_); rintro e wa ⟨rfl, hb⟩; have HBa := As.mk (below_step HB9.out hb); have HHa := As.mk ((hb.block _ (Array.getElem?_eq_some_iff.1 HH9.out).1).trans HH9.out); have HGa := As.mk ((hb.block _ (Array.getElem?_eq_some_iff.1 HG9.out).1).trans HG9.out); have HTa := As.mk ((hb.block _ (Array.getElem?_eq_some_iff.1 HT9.out).1).trans HT9.out); clear hb; refine As.out ?_))
        refine As.mk ?_
        clear HB9 HH9 HG9 HT9
        go_wp2_with (first
          | (refine wpList_load_row rfl 102 (.tmp 13) rfl w5.heap.size rfl 102 (bytesA h) (0, 0) _ HHa.out uArr32 rfl (by rw [VH2.out]; exact arr_info) ?_)
          | (refine wpList_load_row rfl 101 (.tmp 16) rfl g7 rfl 101 (recA r) (0, 0) _ HGa.out Try.underlying101 rfl (by rw [HRS.out]; exact info_rec) ?_)
          | (go_at_call 59; (with_reducible refine (rnext_ok key HK.out A s c (by have := HSC.out; omega) h HHL.out HHB.out r HXL.out HOK.out wa (H5.out.below HBa.out) T HHS.out.symm).mono ?_); rintro e wb ⟨rfl, hb⟩; have HBb := As.mk (below_step HBa.out hb); have HHb := As.mk ((hb.block _ (Array.getElem?_eq_some_iff.1 HHa.out).1).trans HHa.out); have HGb := As.mk ((hb.block _ (Array.getElem?_eq_some_iff.1 HGa.out).1).trans HGa.out); have HTb := As.mk ((hb.block _ (Array.getElem?_eq_some_iff.1 HTa.out).1).trans HTa.out); clear hb)
          | (refine wpList_storeArr rfl rfl 102 _ _ rfl w5.heap.size rfl (bytesA T) rfl 102 (bytesA h) HHb.out (by rw [VT2.out]; exact arr_info) (by rw [VT2.out, VH2.out]) (bytesA_one T) ?_; refine As.out ?_))
        refine As.mk ?_
        have HBc := As.mk (below_setRow HBb.out (Nat.le_refl _) (bytesA T) (g := w5.heap.size))
        have HHc := As.mk (setRow_new wb w5.heap.size (bytesA h) (bytesA T) _ HHb.out)
        have HGc := As.mk ((setRow_far wb w5.heap.size g7 (bytesA T) (by have := HL7.out; omega)).trans HGb.out)
        have HTc := As.mk ((setRow_far wb w5.heap.size g9 (bytesA T) (by have := HL9.out; omega)).trans HTb.out)
        clear HBa HHa HGa HTa HBb HHb HGb HTb
        generalize wb.setRow w5.heap.size (bytesA T) = wc at *
        have cc : wc.cell? ⟨g7, 0, none⟩ = some (.int .i64 (nth r 0)) := by rw [cell_of_row wc _ 0 _ _ _ HGc.out, recA_at r 0 (by rw [HXL.out]; decide)]
        obtain ⟨x, hx⟩ : ∃ x, nth r 0 = x := ⟨_, rfl⟩
        rw [hx] at cc HSQ
        clear hx
        have hqT := fun W => eq32 T T HTL.out HTL.out HTB.out HTB.out W
        try simp only [decide_true] at hqT
        obtain ⟨q, hq, e0, e1⟩ : ∃ q : Bool, (x == (i : Int) + 1) = q ∧ (x == ((i + 1 : Nat) : Int)) = q ∧ decide (x = (i : Int) + 1) = q := ⟨_, rfl, by rw [show ((i + 1 : Nat) : Int) = (i : Int) + 1 by omega], by rw [Bool.eq_iff_iff]; simp⟩
        have HQ : As (seqR X (i + 1) = (b && q)) := ⟨by rw [HSQ.out, hq]⟩
        clear HSQ
        cases b with
        | false =>
          rw [Bool.false_and] at HQ
          · rcases HCB.out with ⟨rfl, rfl, hall⟩ | ⟨rfl, hnn, hall, hown⟩
            · clear hall
              go_wp2
              refine wp_region_quiet_lit (by kernel_rfl) (by kernel_rfl) ?_
              repeat (first | go_big_quiet_step (fail) | (go_big_quiet_want; (first
                | (refine quiet_load_row 102 (.tmp 13) rfl w5.heap.size rfl 102 (bytesA T) _ HHc.out uArr32 rfl (by rw [VT2.out]; exact arr_info) ?_)
                | (refine quiet_load_row 102 (.tmp 17) rfl g9 rfl 102 (bytesA T) _ HTc.out uArr32 rfl (by rw [VT2.out]; exact arr_info) ?_)); (try simp only [Act.put, List.setIfInBounds_toArray, List.set_cons_zero, List.set_cons_succ, List.getElem_toArray, List.getElem_cons_zero, List.getElem_cons_succ]); go_big_quiet_on))
              refine wpQuiet_nil ?_
              intro _ hw'
              obtain ⟨nq, hw''⟩ := hw'
              subst hw''
              go_wp2
              go_roundg (n - (i + 1))
              case measure => have := HI.out; have := HLT.out; omega
              case rel =>
                refine ⟨i + 1, false, by have := HI.out; have := HLT.out; omega, rfl, by go_num, ⟨HQ.out⟩, ⟨fun j hj => ?_⟩, ⟨?_⟩, ⟨below_drewN HBc.out _⟩⟩
                · rcases Nat.lt_succ_iff_lt_or_eq.1 hj with h | rfl
                  · exact HRI.out j h
                  · rw [HRX.out]; exact HR.out
                · rw [HTT.out]; exact HHc.out
            · have hn2 := hnn.symm
              subst hn2
              obtain ⟨g, rfl, hg1, hg2, hg3⟩ := own_shape hown (by have := HLT.out; omega)
              have HCL : As (∀ i' v, (T.map (Value.int .u8))[i']? = some v → wc.cell? ((⟨g, i * 32, none⟩ : Addr).add i') = some v) := ⟨fun i' v hv => by
                have h5 := chunk0 hown (heads_each key X n) i i' v (by rw [HHA.out _ rfl]; exact hv)
                exact (HBc.out.cell (World.block_lt_of_cell? w5 _ h5)).trans h5⟩
              have f0 : decide ((n : Int) ≤ (i : Int)) = false := decide_eq_false (by omega)
              have f1 : decide (n ≤ i) = false := decide_eq_false (by have := HLT.out; omega)
              clear hall hown hg1 hg2 hg3
              go_wp2
              refine wp_region_quiet_lit (by kernel_rfl) (by kernel_rfl) ?_
              repeat (first | go_big_quiet_step (fail) | (go_big_quiet_want; (first
                | (refine quiet_load_row 102 (.tmp 13) rfl w5.heap.size rfl 102 (bytesA T) _ HHc.out uArr32 rfl (by rw [VT2.out]; exact arr_info) ?_)
                | (refine quiet_load_row 102 (.tmp 17) rfl g9 rfl 102 (bytesA T) _ HTc.out uArr32 rfl (by rw [VT2.out]; exact arr_info) ?_)
                | (refine quiet_load_at 102 (.tmp 146) rfl ⟨g, i * 32, none⟩ rfl (T.map (Value.int .u8)) _ HCL.out uArr32 rfl (by rw [VTL.out]; exact arr_info) (bytesA T) rfl ?_)); (try simp only [Act.put, List.setIfInBounds_toArray, List.set_cons_zero, List.set_cons_succ, List.getElem_toArray, List.getElem_cons_zero, List.getElem_cons_succ]); go_big_quiet_on))
              refine wpQuiet_nil ?_
              intro _ hw'
              obtain ⟨nq, hw''⟩ := hw'
              subst hw''
              go_wp2
              go_roundg (n - (i + 1))
              case measure => have := HI.out; have := HLT.out; omega
              case rel =>
                refine ⟨i + 1, false, by have := HI.out; have := HLT.out; omega, rfl, by go_num, ⟨HQ.out⟩, ⟨fun j hj => ?_⟩, ⟨?_⟩, ⟨below_drewN HBc.out _⟩⟩
                · rcases Nat.lt_succ_iff_lt_or_eq.1 hj with h | rfl
                  · exact HRI.out j h
                  · rw [HRX.out]; exact HR.out
                · rw [HTT.out]; exact HHc.out
        | true =>
          rw [Bool.true_and] at HQ
          cases q with
          | false =>
            rcases HCB.out with ⟨rfl, rfl, hall⟩ | ⟨rfl, hnn, hall, hown⟩
            · clear hall
              go_wp2
              refine wp_region_quiet_lit (by kernel_rfl) (by kernel_rfl) ?_
              repeat (first | go_big_quiet_step (fail) | (go_big_quiet_want; (first
                | (refine quiet_load_row 102 (.tmp 13) rfl w5.heap.size rfl 102 (bytesA T) _ HHc.out uArr32 rfl (by rw [VT2.out]; exact arr_info) ?_)
                | (refine quiet_load_row 102 (.tmp 17) rfl g9 rfl 102 (bytesA T) _ HTc.out uArr32 rfl (by rw [VT2.out]; exact arr_info) ?_)); (try simp only [Act.put, List.setIfInBounds_toArray, List.set_cons_zero, List.set_cons_succ, List.getElem_toArray, List.getElem_cons_zero, List.getElem_cons_succ]); go_big_quiet_on))
              refine wpQuiet_nil ?_
              intro _ hw'
              obtain ⟨nq, hw''⟩ := hw'
              subst hw''
              go_wp2
              go_roundg (n - (i + 1))
              case measure => have := HI.out; have := HLT.out; omega
              case rel =>
                refine ⟨i + 1, false, by have := HI.out; have := HLT.out; omega, rfl, by go_num, ⟨HQ.out⟩, ⟨fun j hj => ?_⟩, ⟨?_⟩, ⟨below_drewN HBc.out _⟩⟩
                · rcases Nat.lt_succ_iff_lt_or_eq.1 hj with h | rfl
                  · exact HRI.out j h
                  · rw [HRX.out]; exact HR.out
                · rw [HTT.out]; exact HHc.out
            · have hn2 := hnn.symm
              subst hn2
              obtain ⟨g, rfl, hg1, hg2, hg3⟩ := own_shape hown (by have := HLT.out; omega)
              have HCL : As (∀ i' v, (T.map (Value.int .u8))[i']? = some v → wc.cell? ((⟨g, i * 32, none⟩ : Addr).add i') = some v) := ⟨fun i' v hv => by
                have h5 := chunk0 hown (heads_each key X n) i i' v (by rw [HHA.out _ rfl]; exact hv)
                exact (HBc.out.cell (World.block_lt_of_cell? w5 _ h5)).trans h5⟩
              have f0 : decide ((n : Int) ≤ (i : Int)) = false := decide_eq_false (by omega)
              have f1 : decide (n ≤ i) = false := decide_eq_false (by have := HLT.out; omega)
              clear hall hown hg1 hg2 hg3
              go_wp2
              refine wp_region_quiet_lit (by kernel_rfl) (by kernel_rfl) ?_
              repeat (first | go_big_quiet_step (fail) | (go_big_quiet_want; (first
                | (refine quiet_load_row 102 (.tmp 13) rfl w5.heap.size rfl 102 (bytesA T) _ HHc.out uArr32 rfl (by rw [VT2.out]; exact arr_info) ?_)
                | (refine quiet_load_row 102 (.tmp 17) rfl g9 rfl 102 (bytesA T) _ HTc.out uArr32 rfl (by rw [VT2.out]; exact arr_info) ?_)
                | (refine quiet_load_at 102 (.tmp 146) rfl ⟨g, i * 32, none⟩ rfl (T.map (Value.int .u8)) _ HCL.out uArr32 rfl (by rw [VTL.out]; exact arr_info) (bytesA T) rfl ?_)); (try simp only [Act.put, List.setIfInBounds_toArray, List.set_cons_zero, List.set_cons_succ, List.getElem_toArray, List.getElem_cons_zero, List.getElem_cons_succ]); go_big_quiet_on))
              refine wpQuiet_nil ?_
              intro _ hw'
              obtain ⟨nq, hw''⟩ := hw'
              subst hw''
              go_wp2
              go_roundg (n - (i + 1))
              case measure => have := HI.out; have := HLT.out; omega
              case rel =>
                refine ⟨i + 1, false, by have := HI.out; have := HLT.out; omega, rfl, by go_num, ⟨HQ.out⟩, ⟨fun j hj => ?_⟩, ⟨?_⟩, ⟨below_drewN HBc.out _⟩⟩
                · rcases Nat.lt_succ_iff_lt_or_eq.1 hj with h | rfl
                  · exact HRI.out j h
                  · rw [HRX.out]; exact HR.out
                · rw [HTT.out]; exact HHc.out
          | true =>
            rcases HCB.out with ⟨rfl, rfl, hall⟩ | ⟨rfl, hnn, hall, hown⟩
            · clear hall
              go_wp2
              refine wp_region_quiet_lit (by kernel_rfl) (by kernel_rfl) ?_
              repeat (first | go_big_quiet_step (fail) | (go_big_quiet_want; (first
                | (refine quiet_load_row 102 (.tmp 13) rfl w5.heap.size rfl 102 (bytesA T) _ HHc.out uArr32 rfl (by rw [VT2.out]; exact arr_info) ?_)
                | (refine quiet_load_row 102 (.tmp 17) rfl g9 rfl 102 (bytesA T) _ HTc.out uArr32 rfl (by rw [VT2.out]; exact arr_info) ?_)); (try simp only [Act.put, List.setIfInBounds_toArray, List.set_cons_zero, List.set_cons_succ, List.getElem_toArray, List.getElem_cons_zero, List.getElem_cons_succ]); go_big_quiet_on))
              refine wpQuiet_nil ?_
              intro _ hw'
              obtain ⟨nq, hw''⟩ := hw'
              subst hw''
              go_wp2
              go_roundg (n - (i + 1))
              case measure => have := HI.out; have := HLT.out; omega
              case rel =>
                refine ⟨i + 1, true, by have := HI.out; have := HLT.out; omega, rfl, by go_num, ⟨HQ.out⟩, ⟨fun j hj => ?_⟩, ⟨?_⟩, ⟨below_drewN HBc.out _⟩⟩
                · rcases Nat.lt_succ_iff_lt_or_eq.1 hj with h | rfl
                  · exact HRI.out j h
                  · rw [HRX.out]; exact HR.out
                · rw [HTT.out]; exact HHc.out
            · have hn2 := hnn.symm
              subst hn2
              obtain ⟨g, rfl, hg1, hg2, hg3⟩ := own_shape hown (by have := HLT.out; omega)
              have HCL : As (∀ i' v, (T.map (Value.int .u8))[i']? = some v → wc.cell? ((⟨g, i * 32, none⟩ : Addr).add i') = some v) := ⟨fun i' v hv => by
                have h5 := chunk0 hown (heads_each key X n) i i' v (by rw [HHA.out _ rfl]; exact hv)
                exact (HBc.out.cell (World.block_lt_of_cell? w5 _ h5)).trans h5⟩
              have f0 : decide ((n : Int) ≤ (i : Int)) = false := decide_eq_false (by omega)
              have f1 : decide (n ≤ i) = false := decide_eq_false (by have := HLT.out; omega)
              clear hall hown hg1 hg2 hg3
              go_wp2
              refine wp_region_quiet_lit (by kernel_rfl) (by kernel_rfl) ?_
              repeat (first | go_big_quiet_step (fail) | (go_big_quiet_want; (first
                | (refine quiet_load_row 102 (.tmp 13) rfl w5.heap.size rfl 102 (bytesA T) _ HHc.out uArr32 rfl (by rw [VT2.out]; exact arr_info) ?_)
                | (refine quiet_load_row 102 (.tmp 17) rfl g9 rfl 102 (bytesA T) _ HTc.out uArr32 rfl (by rw [VT2.out]; exact arr_info) ?_)
                | (refine quiet_load_at 102 (.tmp 146) rfl ⟨g, i * 32, none⟩ rfl (T.map (Value.int .u8)) _ HCL.out uArr32 rfl (by rw [VTL.out]; exact arr_info) (bytesA T) rfl ?_)); (try simp only [Act.put, List.setIfInBounds_toArray, List.set_cons_zero, List.set_cons_succ, List.getElem_toArray, List.getElem_cons_zero, List.getElem_cons_succ]); go_big_quiet_on))
              refine wpQuiet_nil ?_
              intro _ hw'
              obtain ⟨nq, hw''⟩ := hw'
              subst hw''
              go_wp2
              go_roundg (n - (i + 1))
              case measure => have := HI.out; have := HLT.out; omega
              case rel =>
                refine ⟨i + 1, true, by have := HI.out; have := HLT.out; omega, rfl, by go_num, ⟨HQ.out⟩, ⟨fun j hj => ?_⟩, ⟨?_⟩, ⟨below_drewN HBc.out _⟩⟩
                · rcases Nat.lt_succ_iff_lt_or_eq.1 hj with h | rfl
                  · exact HRI.out j h
                  · rw [HRX.out]; exact HR.out
                · rw [HTT.out]; exact HHc.out
      · have HR := As.mk hq
        have HAN := As.mk (allR_no (X := X) HLT.out (by rw [HRX.out]; exact hq))
        have HVQ : As (verB key X n s h = false) := ⟨by unfold verB; rw [HAN.out]; simp⟩
        have VZ : As ((bytesA z32).size = 32) := ⟨bytesA32 z32_len⟩
        have hqz := fun W => eq32 z32 z32 z32_len z32_len z32_byte z32_byte W
        try simp only [decide_true] at hqz
        clear hq
        rcases HCB.out with ⟨rfl, rfl, hall⟩ | ⟨_, _, hall, _⟩
        rotate_left
        · rw [HAN.out] at hall; cases hall
        clear hall
        go_wp2_with (first
          | (refine wpList_load_row rfl 102 (.tmp 13) rfl w5.heap.size rfl 102 (bytesA h) (0, 0) _ HH7.out uArr32 rfl (by rw [VH2.out]; exact arr_info) ?_)
          | (refine wpList_load_row rfl 101 (.tmp 16) rfl g7 rfl 101 (recA r) (0, 0) _ HG7.out Try.underlying101 rfl (by rw [HRS.out]; exact info_rec) ?_)
          | (go_at_call 62; (with_reducible refine (next_bad key HK.out A s c h HHL.out r HXL.out 2 (.inr ⟨HC.out, HR.out, rfl⟩) w7 (H5.out.below HB7.out)).mono ?_); rintro e w8 ⟨rfl, hb⟩; have HB8 := As.mk (below_step HB7.out hb); have HH8 := As.mk ((hb.block _ (Array.getElem?_eq_some_iff.1 HH7.out).1).trans HH7.out); have HG8 := As.mk ((hb.block _ (Array.getElem?_eq_some_iff.1 HG7.out).1).trans HG7.out); clear hb)
          | (refine wpList_allocArr rfl 102 rfl Z32 Go.Proofs.Ytjcofbjfolaoiaa.Sum.z32 ?_)
          | (refine wpList_storeNew rfl rfl 102 _ _ rfl rfl (bytesA z32) rfl 102 Z32 (by rw [VZ.out]; exact arr_info) (by rw [VZ.out]; rfl) (bytesA_one z32) ?_; refine As.out ?_))
        refine As.mk ?_
        have hb := below_alloc (Below.refl w8.heap.size w8) (.cells (bytesA z32) 102)
        have HB9 := As.mk (below_step HB8.out hb)
        have HH9 := As.mk ((hb.block _ (Array.getElem?_eq_some_iff.1 HH8.out).1).trans HH8.out)
        have HG9 := As.mk ((hb.block _ (Array.getElem?_eq_some_iff.1 HG8.out).1).trans HG8.out)
        have HT9 := As.mk (heap_alloc_new w8 (.cells (bytesA z32) 102))
        clear hb HB7 HH7 HG7 HB8 HH8 HG8
        generalize w8.alloc _ = w9 at *
        generalize w8.heap.size = g9 at *
        go_wp2_with (first
          | (refine wpList_load_row rfl 101 (.tmp 16) rfl g7 rfl 101 (recA r) (0, 0) _ HG9.out Try.underlying101 rfl (by rw [HRS.out]; exact info_rec) ?_)
          | (go_at_call 65; (with_reducible refine (rightR_any r HXL.out false HR.out w9).mono ?_); rintro e wa ⟨rfl, hb⟩; have HBa := As.mk (below_step HB9.out hb); have HHa := As.mk ((hb.block _ (Array.getElem?_eq_some_iff.1 HH9.out).1).trans HH9.out); have HTa := As.mk ((hb.block _ (Array.getElem?_eq_some_iff.1 HT9.out).1).trans HT9.out); clear hb; refine As.out ?_))
        refine As.mk ?_
        clear HB9 HH9 HG9 HT9
        go_wp2_with (first
          | (refine wpList_load_rowG (by rfl) 102 (.tmp 17) rfl g9 rfl 102 (bytesA z32) (0, 0) _ HTa.out uArr32 rfl (by rw [VZ.out]; exact arr_info) ?_)
          | (refine wpList_build32G (by rfl) rfl ?_)
          | (refine wpList_load_rowG (by rfl) 102 (.tmp 13) rfl w5.heap.size rfl 102 (bytesA h) (0, 0) _ HHa.out uArr32 rfl (by rw [VH2.out]; exact arr_info) ?_)
          | (go_at_call 63; (with_reducible refine (verify_any key HK.out A s c X _ n d (by have := HN.out; omega) h HHL.out HHB.out false HVQ.out wa (H5.out.below HBa.out) (HX5.out.below HBa.out)).mono ?_); rintro e wb ⟨rfl, hb⟩; have HBb := As.mk (below_step HBa.out hb); clear hb))
        go_ret
        exact ⟨rfl, below_step HB5.out HBb.out⟩
    · have c0 : decide ((i : Int) < (n : Int)) = false := decide_eq_false (by omega)
      have c1 : decide (i < n) = false := decide_eq_false hlt
      obtain rfl : i = n := by have := HI.out; omega
      have HAR := As.mk ((allR_iff X i).2 HRI.out)
      clear hlt
      rcases HCB.out with ⟨rfl, rfl, hall⟩ | ⟨rfl, hnn, hall, hown⟩
      · rw [HAR.out] at hall; cases hall
      · have hn2 := hnn.symm
        subst hn2
        clear hall hown
        have HTL := As.mk (head_len key X i)
        have HTB := As.mk (head_byte key X i)
        obtain ⟨T, hT⟩ : ∃ T, headN key X i = T := ⟨_, rfl⟩
        rw [hT] at HHR HTL HTB
        have HV1 : As (verB key X i s T = b) := ⟨by unfold verB; rw [HSB.out, HC.out, HAR.out, hT]; simp⟩
        obtain ⟨p, hp⟩ : ∃ p, decide (o = T) = p := ⟨_, rfl⟩
        have HV2 : As (verB key X i s o = (b && p)) := ⟨by unfold verB; rw [HSB.out, HC.out, HAR.out, hT, ← hp]; simp [eq_comm]⟩
        have hqo := fun W => eq32 o T HO.out HTL.out HOB.out HTB.out W
        rw [hp] at hqo
        have VT2 := As.mk (bytesA32 HTL.out)
        have HGr := As.mk ((HBR.out.block _ (Array.getElem?_eq_some_iff.1 HG5.out).1).trans HG5.out)
        clear hT hp
        cases b <;> cases p
        all_goals
          go_wp2_with (first
            | (refine wpList_load_rowG (by rfl) 102 (.tmp 13) rfl w5.heap.size rfl 102 (bytesA T) (0, 0) _ HHR.out uArr32 rfl (by rw [VT2.out]; exact arr_info) ?_)
            | (go_at_call 63; (with_reducible refine (verify_any key HK.out A s c X B i d (by have := HN.out; omega) T HTL.out HTB.out _ HV1.out wr (H5.out.below HBR.out) (HX5.out.below HBR.out)).mono ?_); rintro e wa ⟨rfl, hb⟩; have HBa := As.mk (below_step HBR.out hb); have HHa := As.mk ((hb.block _ (Array.getElem?_eq_some_iff.1 HHR.out).1).trans HHR.out); have HGa := As.mk ((hb.block _ (Array.getElem?_eq_some_iff.1 HGr.out).1).trans HGr.out); clear hb)
            | (refine wpList_load_rowG (by rfl) 102 (.tmp 5) rfl w.heap.size rfl 102 (bytesA o) (0, 0) _ HGa.out uArr32 rfl (by rw [HOS.out]; exact arr_info) ?_)
            | (go_at_call 63; (with_reducible refine (verify_any key HK.out A s c X B i d (by have := HN.out; omega) o HO.out HOB.out _ HV2.out wa (H5.out.below HBa.out) (HX5.out.below HBa.out)).mono ?_); rintro e wb ⟨rfl, hb⟩; have HBb := As.mk (below_step HBa.out hb); have HHb := As.mk ((hb.block _ (Array.getElem?_eq_some_iff.1 HHa.out).1).trans HHa.out); have HGb := As.mk ((hb.block _ (Array.getElem?_eq_some_iff.1 HGa.out).1).trans HGa.out); clear hb)
            | (refine wpList_load_rowG (by rfl) 102 (.tmp 5) rfl w.heap.size rfl 102 (bytesA o) (0, 0) _ HGb.out uArr32 rfl (by rw [HOS.out]; exact arr_info) ?_)
            | (refine wpList_load_rowG (by rfl) 102 (.tmp 13) rfl w5.heap.size rfl 102 (bytesA T) (0, 0) _ HHb.out uArr32 rfl (by rw [VT2.out]; exact arr_info) ?_))
          go_ret
          exact ⟨rfl, below_step HB5.out HBb.out⟩
theorem byte_of {l : List Int} (hb : ∀ i ∈ l, (Lit.int .u8 i).wf = true) : Byte l := fun i hi => by
  have h := hb i hi
  simp [Lit.wf, IntKind.min, IntKind.max, IntKind.signed, IntKind.bits] at h
  omega
theorem heads_walk (A : Option Addr) (s c : Nat) (key : List Int) (B : Option Addr) (n d : Nat) (X : Nat → List Int) (o : List Int) (w : World) (h0 : Rd .u8 w A s c key) (hk : ∀ i ∈ key, (Lit.int .u8 i).wf = true) (_ : s * 1 ≤ 140737488351232)
    (h1 : RdRows 6 w B n d (fun j => (X j).map (Value.int .i64))) (h2 : ∀ j, j < n → (X j).length = 6 ∧ ∀ i ∈ X j, (Lit.int .i64 i).wf = true) (ho : o.length = 32) (hob : ∀ i ∈ o, (Lit.int .u8 i).wf = true) :
    Calls Try.prog 12 #[.slice A s c, .slice B n d, .agg (o.map (Value.int .u8)).toArray] w fun e w' => e = .returned (.bool true) ∧ Below w.heap.size w w' := by
  by_cases c1 : 100 < s
  · exact ah_far s c n d A B o (.inl c1) w
  · by_cases c2 : 8 < n
    · exact ah_far s c n d A B o (.inr ⟨by omega, c2⟩) w
    · rcases Bool.eq_false_or_eq_true (credB s) with hc | hc
      · exact ah_ok key (byte_of hk) A s c X B n d (by omega) (by omega) o ho (byte_of hob) hc w h0 ⟨h1, fun j hj => (h2 j hj).1⟩
      · exact ah_bad key (byte_of hk) A s c X B n d (by omega) (by omega) o ho (byte_of hob) hc w h0 ⟨h1, fun j hj => (h2 j hj).1⟩
end Go.Proofs.Ytjcofbjfolaoiaa.Admin
