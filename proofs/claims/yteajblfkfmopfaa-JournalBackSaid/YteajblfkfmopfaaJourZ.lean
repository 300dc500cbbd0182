/- journal.whole; journal.Unpack: what is none. journal.Unpack. What is unpacked is what was packed: plain. -/
import Derived.Test.YteajblfkfmopfaaJourX
import Derived.Test.YteajblfkfmopfaaGuard
import Derived.Test.YteajblfkfmopfaaFlatStep
import Derived.Test.YteajblfkfmopfaaJourH
import Derived.Great.BuildSlice
import Derived.Deep.RegionHeld2
import Derived.Deep.DeepCutAuto
import Derived.Deep.CutBlock
namespace Go.Proofs.Yteajblfkfmopfaa.Jour
set_option linter.unusedVariables false
set_option linter.unusedSimpArgs false
open Go Go.RowKit Go.Proofs.Yteajblfkfmopfaa.Mem Go.Proofs.Yteajblfkfmopfaa.Put Go.Proofs.Yteajblfkfmopfaa.Geo Go.Proofs.Yteajblfkfmopfaa.Val Go.Proofs.Yteajblfkfmopfaa.Reader Go.Proofs.Yteajblfkfmopfaa.Sum Go.Proofs.Yteajblfkfmopfaa.LayA Go.Proofs.Yteajblfkfmopfaa.Hmac Go.Proofs.Yteajblfkfmopfaa.Parts

def likeB (rs : List (List Int)) : Bool := (List.range rs.length).all fun j => decide ((nthP rs j).length = (nthP rs 0).length)
theorem likeB_iff (rs : List (List Int)) : likeB rs = true ↔ ∀ j, j < rs.length → (nthP rs j).length = (nthP rs 0).length := by
  unfold likeB
  rw [List.all_eq_true]
  exact ⟨fun h j hj => by simpa using h j (List.mem_range.2 hj), fun h j hj => by simpa using h j (List.mem_range.1 hj)⟩
def wholeB (rs : List (List Int)) : Bool := likeB rs && (decide (0 < rs.length) && wideE ((nthP rs 0).length : Nat))
theorem add_zero' (a : Addr) : a.add 0 = a := by unfold Addr.add; simp
set_option maxHeartbeats 1000000 in
set_option maxRecDepth 100000 in
theorem whole_any (rs : List (List Int)) (A : Option Addr) (n c : Nat) (w : World) (hn : n ≤ 100000) (h : RdP w A n c rs) (b : Bool) (hb : wholeB rs = b) :
    Calls Try.prog 162 #[.slice A n c] w fun e w' => e = .returned (.bool b) ∧ w = w' := by
  have HN := As.mk hn
  have H := As.mk h
  have HL := As.mk h.len
  have HBV := As.mk hb
  clear hn h hb
  go_enter Try.func162, Try.ntmps162
  go_wp2
  go_loopg [7] n (fun kq v7 wr => ∃ i : Nat, i + kq = n ∧ v7 = .int .i64 (i : Int) ∧ As (∀ j, j < i → (nthP rs j).length = (nthP rs 0).length) ∧ wr = w)
  case atStart => exact ⟨0, by omega, rfl, ⟨fun j hj => by omega⟩, rfl⟩
  case round =>
    obtain ⟨i, hi, rfl, HJ, rfl⟩ := hrel
    have HI := As.mk hi
    clear hi
    by_cases hlt : i < n
    · have c0 : decide ((i : Int) < (n : Int)) = true := decide_eq_true (by omega)
      have c1 : decide (i < n) = true := decide_eq_true hlt
      have lt' : (i : Int) < (n : Int) := by omega
      have p0 : (0 : Int) < (n : Int) := by omega
      have p0' : 0 < n := by omega
      have hw : wrap64 ((i : Int) + 1) = ((i + 1 : Nat) : Int) := wrap_up (by have := HN.out; omega)
      obtain ⟨ad, Aj, cj, ea, h1, h2⟩ := H.out.at i hlt
      cases ea
      obtain ⟨ad', Ak, ck, ea, h3, h4⟩ := H.out.at 0 p0'
      cases ea
      rw [add_zero'] at h3
      have HLT := As.mk hlt
      by_cases k : (nthP rs i).length = (nthP rs 0).length
      · have HJ2 := As.mk (show ∀ j, j < i + 1 → (nthP rs j).length = (nthP rs 0).length from fun j hj => by
          rcases Nat.lt_succ_iff_lt_or_eq.1 hj with h | rfl
          · exact HJ.out j h
          · exact k)
        rw [k] at h1
        have d3 : (((nthP rs 0).length : Int) != ((nthP rs 0).length : Int)) = false := by simp
        clear h2 h4 hlt k
        go_wp2
        go_roundg (n - (i + 1))
        case measure => have := HI.out; have := HLT.out; omega
        case rel => exact ⟨i + 1, by have := HI.out; have := HLT.out; omega, by go_num, HJ2, rfl⟩
      · have HF : As (b = false) := ⟨by
          rw [← HBV.out]
          unfold wholeB
          have : likeB rs = false := by
            rcases Bool.eq_false_or_eq_true (likeB rs) with h | h
            · exact absurd ((likeB_iff rs).1 h i (by rw [HL.out]; exact hlt)) k
            · exact h
          rw [this]; rfl⟩
        have d3 : (((nthP rs i).length : Int) != ((nthP rs 0).length : Int)) = true := by simp; omega
        have d4 : ((nthP rs i).length == (nthP rs 0).length) = false := by simp; omega
        have d5 : (((nthP rs i).length : Int) == ((nthP rs 0).length : Int)) = false := by simp; omega
        clear h2 h4 hlt k
        go_wp2
        go_ret
        exact ⟨by rw [HF.out]; rfl, rfl⟩
    · have c0 : decide ((i : Int) < (n : Int)) = false := decide_eq_false (by omega)
      have c1 : decide (i < n) = false := decide_eq_false hlt
      have HLK := As.mk (show likeB rs = true by rw [likeB_iff]; exact fun j hj => HJ.out j (by have := HI.out; have := HL.out; omega))
      obtain rfl : n = i := by have := HI.out; omega
      rcases Nat.eq_zero_or_pos n with rfl | hp
      · have HF : As (b = false) := ⟨by rw [← HBV.out]; unfold wholeB; rw [HL.out]; simp⟩
        clear hlt
        go_wp2
        go_ret
        exact ⟨by rw [HF.out]; rfl, rfl⟩
      · have p0 : decide ((0 : Int) < (n : Int)) = true := decide_eq_true (by omega)
        have p0' : decide (0 < n) = true := decide_eq_true hp
        have q0 : (0 : Int) < (n : Int) := by omega
        obtain ⟨ad, Aj, cj, ea, h1, h2⟩ := H.out.at 0 hp
        cases ea
        rw [add_zero'] at h1
        have HWI := As.mk (show wideE ((nthP rs 0).length : Nat) = b by rw [← HBV.out]; unfold wholeB; rw [HLK.out, HL.out, p0']; rfl)
        clear hlt h2
        go_wp2_with (go_at_call 142; (with_reducible refine (wide_e _ b HWI.out _).mono ?_); rintro e w1 ⟨rfl, rfl⟩)
        go_ret
        exact ⟨rfl, rfl⟩
/-- the first sector -/
def fst0 (rs : List (List Int)) : List Int := nthP rs 0
theorem row0 {rs : List (List Int)} {w : World} {A : Option Addr} {n c s : Nat} (h : RdP w A n c rs) (hn : 0 < n) (hs : (nthP rs 0).length = s) : ∃ ad A0 c0, A = some ad ∧ w.cell? ad = some (.slice A0 s c0) ∧ Rd .u8 w A0 s c0 (nthP rs 0) := by
  obtain ⟨ad, A0, c0, e, h1, h2⟩ := h.at 0 hn
  rw [add_zero', hs] at h1
  rw [hs] at h2
  exact ⟨ad, A0, c0, e, h1, h2⟩
theorem whole_facts {rs : List (List Int)} (h : wholeB rs = true) : ∃ s, 64 ≤ s ∧ s ≤ 256 ∧ s % 16 = 0 ∧ 0 < rs.length ∧ ∀ j, j < rs.length → (nthP rs j).length = s := by
  unfold wholeB at h
  simp only [Bool.and_eq_true, decide_eq_true_eq] at h
  obtain ⟨s, h1, h2⟩ := wideE_nat h.2.2
  exact ⟨s, h2.1, h2.2.1, h2.2.2, h.2.1, fun j hj => by rw [(likeB_iff rs).1 h.1 j hj]; omega⟩
set_option maxHeartbeats 1000000 in
set_option maxRecDepth 100000 in
theorem unpack_arg (K : Option Addr) (kn kc : Nat) (rs : List (List Int)) (A : Option Addr) (n c : Nat) (w : World) (hn : n ≤ 100000) (h : RdP w A n c rs) (hb : wholeB rs = false) :
    Calls Try.prog 83 #[.slice K kn kc, .slice A n c] w fun e w' => e = .returned (.tuple #[.int .i64 0, .slice none 0 0, .int .i64 2]) ∧ w = w' := by
  have HN := As.mk hn
  have H := As.mk h
  have HB := As.mk hb
  clear hn h hb
  go_enter Try.func83, Try.ntmps83
  go_wp2_with (go_at_call 162; (with_reducible refine (whole_any rs A n c w HN.out H.out false HB.out).mono ?_); rintro e w1 ⟨rfl, rfl⟩)
  go_ret3
  exact ⟨rfl, rfl⟩
set_option maxHeartbeats 1000000 in
set_option maxRecDepth 100000 in
theorem unpack_form (K : Option Addr) (kn kc : Nat) (rs : List (List Int)) (hrs : ∀ p ∈ rs, Byte p) (A : Option Addr) (n c : Nat) (w : World) (hn : n ≤ 100000) (h : RdP w A n c rs) (hb : wholeB rs = true) (hf : headOk (nthP rs 0) = false ∨ (headOk (nthP rs 0) = true ∧ n < recN (headN (nthP rs 0)) (nthP rs 0).length)) :
    Calls Try.prog 83 #[.slice K kn kc, .slice A n c] w fun e w' => e = .returned (.tuple #[.int .i64 0, .slice none 0 0, .int .i64 11]) ∧ Below w.heap.size w w' := by
  obtain ⟨s, s1, s2, s3, s4, s5⟩ := whole_facts hb
  have HN := As.mk hn
  have H := As.mk h
  have HB := As.mk hb
  have hl := h.len
  have hpos : 0 < n := by omega
  have h0s := s5 0 (by omega)
  obtain ⟨ad, A0, c0, rfl, q0, q1⟩ := row0 h hpos h0s
  have HR0 := As.mk q1
  have HBY := As.mk (show Byte (nthP rs 0) from hrs _ (by unfold nthP; rw [List.getD_eq_getElem?_getD, List.getElem?_eq_getElem (by omega)]; exact List.getElem_mem _))
  have p0 : (0 : Int) < (n : Int) := by omega
  have HSB := As.mk (show s ≤ 100000 by omega)
  rw [h0s] at hf
  rcases hf with hf | ⟨hf, hsh⟩
  · have HF := As.mk hf
    have HV := As.mk (no_vals hf)
    clear hn h hb hf hl q1 s1 s2 s3 s4 s5 h0s hrs
    go_enter Try.func83, Try.ntmps83
    go_wp2_with (first
      | (go_at_call 162; (with_reducible refine (whole_any rs (some ad) n c w HN.out H.out true HB.out).mono ?_); rintro e w1 ⟨rfl, rfl⟩)
      | (go_at_call 81; (with_reducible refine (head_any (nthP rs 0) HBY.out A0 s c0 w HSB.out HR0.out 0 0 false HF.out HV.out.1 HV.out.2).mono ?_); rintro e w1 ⟨rfl, hb⟩; have HB1 := As.mk hb; clear hb))
    go_ret3
    exact ⟨rfl, HB1.out⟩
  · have HF := As.mk hf
    obtain ⟨hc, hhc⟩ : ∃ v : Nat, headC (nthP rs 0) = v := ⟨_, rfl⟩
    obtain ⟨m, hm⟩ : ∃ v : Nat, headN (nthP rs 0) = v := ⟨_, rfl⟩
    have hm2 : m ≤ 65536 := by
      rw [← hm]; unfold headN; rw [if_pos hf]
      exact ((headOk_iff _).1 hf).2.2.2.1
    rw [hm] at hsh
    obtain ⟨r, hr⟩ : ∃ r, recN m s = r := ⟨_, rfl⟩
    rw [hr] at hsh
    have HC := As.mk (show (headC (nthP rs 0) : Int) = (hc : Int) by rw [hhc])
    have HM := As.mk (show (headN (nthP rs 0) : Int) = (m : Int) by rw [hm])
    have HR := As.mk hr
    have HM2 := As.mk hm2
    have HS := As.mk (show 64 ≤ s ∧ s ≤ 256 ∧ s % 16 = 0 from ⟨s1, s2, s3⟩)
    have d0 : decide ((n : Int) < (r : Int)) = true := decide_eq_true (by omega)
    have d1 : decide (n < r) = true := decide_eq_true hsh
    clear hn h hb hf hl q1 s1 s2 s3 s4 s5 h0s hrs hsh hr hm2 hhc hm
    go_enter Try.func83, Try.ntmps83
    go_wp2_with (first
      | (go_at_call 162; (with_reducible refine (whole_any rs (some ad) n c w HN.out H.out true HB.out).mono ?_); rintro e w1 ⟨rfl, rfl⟩)
      | (go_at_call 81; (with_reducible refine (head_any (nthP rs 0) HBY.out A0 s c0 w HSB.out HR0.out hc m true HF.out HC.out HM.out).mono ?_); rintro e w1 ⟨rfl, hb⟩; have HB1 := As.mk hb; clear hb)
      | (go_at_call 75; (with_reducible refine (size_ok m s r HM2.out HS.out HR.out _).mono ?_); rintro e w2 ⟨rfl, rfl⟩))
    go_ret3
    exact ⟨rfl, HB1.out⟩
end Go.Proofs.Yteajblfkfmopfaa.Jour
namespace Go.Proofs.Yteajblfkfmopfaa.Jour
set_option linter.unusedVariables false
set_option linter.unusedSimpArgs false
open Go Go.RowKit Go.Proofs.Yteajblfkfmopfaa.Entries Go.Proofs.Yteajblfkfmopfaa.Flat Go.Proofs.Yteajblfkfmopfaa.Mem Go.Proofs.Yteajblfkfmopfaa.Pad Go.Proofs.Yteajblfkfmopfaa.Put32 Go.Proofs.Yteajblfkfmopfaa.Put Go.Proofs.Yteajblfkfmopfaa.Geo Go.Proofs.Yteajblfkfmopfaa.Val Go.Proofs.Yteajblfkfmopfaa.Reader Go.Proofs.Yteajblfkfmopfaa.Sum Go.Proofs.Yteajblfkfmopfaa.LayA Go.Proofs.Yteajblfkfmopfaa.Hmac Go.Proofs.Yteajblfkfmopfaa.Parts

/-- a stretch of rows -/
theorem rdp_mid {w : World} {A : Option Addr} {n c : Nat} {rs : List (List Int)} (h : RdP w A n c rs) (k m : Nat) (hkm : k + m ≤ n) : RdP w (cutA A c k 1) m (c - k) ((rs.drop k).take m) := by
  have hl := h.len
  have hle := h.le
  refine ⟨by rw [List.length_take, List.length_drop]; omega, by omega, by have := h.cap; omega, fun hp => ?_⟩
  obtain ⟨ad, rfl, hc⟩ := h.cells (by omega)
  refine ⟨ad.add k, by unfold cutA; rw [if_neg (by omega), Nat.mul_one]; rfl, fun j hj => ?_⟩
  obtain ⟨Aj, cj, h1, h2⟩ := hc (k + j) (by omega)
  have hn : nthP ((rs.drop k).take m) j = nthP rs (k + j) := by
    unfold nthP
    rw [List.getD_eq_getElem?_getD, List.getElem?_take_of_lt hj, List.getElem?_drop, List.getD_eq_getElem?_getD]
  rw [hn, add_add]
  exact ⟨Aj, cj, h1, h2⟩
/-- what the tag is over -/
def pts (rs : List (List Int)) (q : Nat) : List (List Int) := (nthP rs 0).take 16 :: (rs.drop 1).take q
theorem tag_parts {w Y : World} {b q c0 c3 : Nat} {A0 A3 : Option Addr} {L : List Value} {rs : List (List Int)} (hown : OwnAt Y b (.slice A3 (1 + q) c3) (1 + q) ([.slice A0 16 c0] ++ L)) (h16 : Rd .u8 w A0 16 c0 ((nthP rs 0).take 16)) (hb : Below w.heap.size w Y) (hq : ((rs.drop 1).take q).length = q)
    (hL : ∀ j, j < q → ∃ Aj cj, L[j]? = some (.slice Aj (nthP ((rs.drop 1).take q) j).length cj) ∧ Rd .u8 w Aj (nthP ((rs.drop 1).take q) j).length cj (nthP ((rs.drop 1).take q) j)) : RdP Y A3 (1 + q) c3 (pts rs q) :=
  rdp_of_own hown (by unfold pts; rw [List.length_cons, hq]; omega) (own_caps hown) fun j hj => by
    cases j with
    | zero =>
      have hl := h16.len
      exact ⟨A0, c0, by show some _ = some (Value.slice A0 ((nthP rs 0).take 16).length c0); rw [hl], by show Rd .u8 Y A0 ((nthP rs 0).take 16).length c0 _; rw [hl]; exact h16.below hb⟩
    | succ j =>
      obtain ⟨Aj, cj, e1, e2⟩ := hL j (by omega)
      exact ⟨Aj, cj, e1, e2.below hb⟩
section
variable {P : Program}
theorem wp_build_1 {o : Oper} {a : Act} {w : World} {K : Act → World → Prop} {Q : Exit → Act → World → Prop} (t e : TypeId) (x : Operand) (ho : o.op = .buildSlice t 1 #[(0, x)])
    (v z : Value) (bytes : Nat) (hu : P.underlying t = some (.slice e)) (hinfo : (P.info? e).map (fun i => (i.zero, i.size, i.bytes)) = some (some z, 1, bytes))
    (hx : a.eval x = v) (hc : v.cells = #[v])
    (h : K (a.put o.dst (.slice (some ⟨w.heap.size, 0, none⟩) 1 1)) (w.alloc (.cells #[v] e))) : Oper.wp P o a w K Q := by
  obtain ⟨i, hi, hz, h1, h2⟩ := info_parts hinfo
  refine wp_buildSlice t e 1 #[(0, x)] ho #[v] i z hu hi hz (by rw [h1]; omega) (by rw [h1]; omega) ?_ h
  rw [h1]
  have := Great.fill_whole (s := 1) (by omega) [v] ((Array.range (1 * 1)).map (z.cells[· % z.cells.size]!)) (by intro u hu2; simp at hu2; subst hu2; rw [hc]; rfl) (by simp)
  simp only [List.map_toArray, List.map_cons, List.map_nil, hx]
  refine this.trans ?_
  simp [hc]
theorem wp_allocArr1 {w : World} {o : Oper} {a : Act} {K : Act → World → Prop} {Q : Exit → Act → World → Prop} (t : TypeId) (ho : o.op = .alloc t) (Z : Array Value)
    (hz : (P.info? t).map (fun i => (i.zero, i.size)) = some (some (.agg Z), Z.size))
    (h : K (a.put o.dst (.pointer (some ⟨w.heap.size, 0, none⟩))) (w.alloc (.cells Z t))) : Oper.wp P o a w K Q := by
  obtain ⟨hz1, _⟩ := zero_of_info hz
  refine wp_run _ ?_ h
  unfold execOp
  simp [ho, Instr.alloc, hz1, newVar, newRow, Value.cells]
theorem wp_storeArr1 {w : World} {o : Oper} {a : Act} {K : Act → World → Prop} {Q : Exit → Act → World → Prop} (hd : o.dst = none) (ty : TypeId) (p x : Operand) (ho : o.op = .store ty p x)
    (g : Nat) (hp : a.eval p = .pointer (some ⟨g, 0, none⟩)) (c : Array Value) (hx : a.eval x = .agg c) (t : TypeId) (old : Array Value) (hg : w.heap[g]? = some (.cells old t (0, 0))) (hi : (P.info? ty).map (·.size) = some c.size) (hs : old.size = c.size) (h1 : c.all (·.oneCell') = true)
    (h : K a (w.setRow g c)) : Oper.wp P o a w K Q := by
  refine wp_run_skip hd ?_ h
  unfold execOp
  simp only [ho, hp, hx, Instr.storeAt, Instr.sureAddr, Sem.run_bind, Sem.run_pure, Result.andThen_ok, run_storeVar_row w g t ty old c hg hi hs h1]
end
/-! ### what is unpacked -/
def placesB (rs : List (List Int)) (x : Nat) : List Int := ((rs.drop 1).take x).flatten
def stN (pl : List Int) : Nat → St
  | 0 => ⟨0, pl⟩
  | i + 1 => (stN pl i).num 4 1048575
def svN (pl : List Int) (i : Nat) : Int := (stN pl i).numV 4 1048575
def esN (rs : List (List Int)) (x : Nat) (pl : List Int) (i : Nat) : List (Int × List Int) := (List.range i).map fun j => (svN pl j, nthP rs (1 + x + j))
theorem esN_succ (rs : List (List Int)) (x : Nat) (pl : List Int) (i : Nat) : esN rs x pl (i + 1) = esN rs x pl i ++ [(svN pl i, nthP rs (1 + x + i))] := by
  unfold esN
  rw [List.range_succ, List.map_append]; rfl
theorem byte_stN {pl : List Int} (h : Byte pl) : ∀ i, Byte (stN pl i).left
  | 0 => h
  | i + 1 => byte_num (byte_stN h i) 4 1048575
/-- do the places, and what stands behind them, go? -/
def plOk (pl : List Int) (m : Nat) : Bool := decide ((stN pl m).fixV (pl.length - 4 * m) = List.replicate ((stN pl m).fixV (pl.length - 4 * m)).length 0) && decide (((stN pl m).fix (pl.length - 4 * m)).done = 0)
def tagOk (key : List Int) (rs : List (List Int)) (q : Nat) : Bool := decide (tagB key (pts rs q).flatten = ((nthP rs 0).drop 16).take 32)
def UnpPost (key : List Int) (rs : List (List Int)) (q x m hc : Nat) (w : World) (e : Ending) (w' : World) : Prop :=
  ∃ (B : Option Addr) (c : Nat), Below w.heap.size w w' ∧ ((tagOk key rs q = true ∧ plOk (placesB rs x) m = true ∧ e = .returned (.tuple #[.int .i64 (hc : Int), .slice B m c, .int .i64 0]) ∧ RdE w' B m c (esN rs x (placesB rs x) m)) ∨
    ((tagOk key rs q = false ∨ plOk (placesB rs x) m = false) ∧ e = .returned (.tuple #[.int .i64 0, .slice none 0 0, .int .i64 21])))
/-- a slice of bytes, apart from two blocks -/
def Elem2 (w : World) (r1 r2 : Option Nat) (v : Value) (p : List Int) : Prop := ∃ Aj cj, v = .slice Aj p.length cj ∧ Rd .u8 w Aj p.length cj p ∧ (0 < p.length → ∀ ad, Aj = some ad → some ad.block ≠ r1 ∧ some ad.block ≠ r2)
theorem Elem2.below {w w' : World} {r1 r2 : Option Nat} {v : Value} {p : List Int} (h : Elem2 w r1 r2 v p) (hb : Below w.heap.size w w') : Elem2 w' r1 r2 v p := by
  obtain ⟨A, c, e, hr, ha⟩ := h
  exact ⟨A, c, e, hr.below hb, ha⟩
theorem Elem2.one {w w' : World} {r1 r1' r2 : Option Nat} {v : Value} {p : List Int} (h : Elem2 w r1 r2 v p) (hg : w.grownBy w' r1) (hat : r1' = r1 ∨ r1' = some w.heap.size) : Elem2 w' r1' r2 v p := by
  obtain ⟨A, c, e, hr, ha⟩ := h
  refine ⟨A, c, e, rd_grown0 hr hg (fun h0 ad ea => (ha h0 ad ea).1), fun h0 ad ea => ⟨?_, (ha h0 ad ea).2⟩⟩
  rcases hat with rfl | rfl
  · exact (ha h0 ad ea).1
  · subst ea
    have := rd_lt hr h0
    intro he
    injection he with he
    omega
theorem Elem2.two {w w' : World} {r1 r2 : Option Nat} {v : Value} {p : List Int} (h : Elem2 w r1 r2 v p) (hg : w.grownBy w' r2) : Elem2 w' r1 r2 v p := by
  obtain ⟨A, c, e, hr, ha⟩ := h
  exact ⟨A, c, e, rd_grown0 hr hg (fun h0 ad ea => (ha h0 ad ea).2), ha⟩
structure Ents (w : World) (base R : Nat) (v : Value) (n : Nat) (xs : List Value) (es : List (Int × List Int)) : Prop where
  len : es.length = n
  own : w.ownsRow base 90 2 v n xs
  each : ∀ j, j < n → ∃ u, xs[j * 2]? = some (.int .i64 (nthE es j).1) ∧ xs[j * 2 + 1]? = some u ∧ Elem2 w v.ownBlock (some R) u (nthE es j).2
theorem Ents.nil (w : World) (base R : Nat) : Ents w base R (.slice none 0 0) 0 [] [] := ⟨rfl, ⟨by simp, .inl ⟨rfl, rfl⟩⟩, fun j hj => by omega⟩
theorem Ents.below {w w' : World} {base R n : Nat} {v : Value} {xs : List Value} {es : List (Int × List Int)} (h : Ents w base R v n xs es) (hb : Below w.heap.size w w') : Ents w' base R v n xs es :=
  ⟨h.len, own_below h.own hb, fun j hj => by
    obtain ⟨u, e1, e2, he⟩ := h.each j hj
    exact ⟨u, e1, e2, he.below hb⟩⟩
theorem Ents.grown {w w' : World} {base R n : Nat} {v : Value} {xs : List Value} {es : List (Int × List Int)} (h : Ents w base R v n xs es) (hg : w.grownBy w' (some R)) (hR : R < base) : Ents w' base R v n xs es :=
  ⟨h.len, by
    have hlt := h.own.lt
    obtain ⟨h1, h2⟩ := h.own
    refine ⟨h1, ?_⟩
    rcases h2 with h2 | ⟨g, cap, cur, rfl, hg2, hh, r⟩
    · exact .inl h2
    · exact .inr ⟨g, cap, cur, rfl, hg2, (hg.block g (hlt g rfl).2 (fun e => by injection e with e; omega)).trans hh, r⟩, fun j hj => by
    obtain ⟨u, e1, e2, he⟩ := h.each j hj
    exact ⟨u, e1, e2, he.two hg⟩⟩
theorem nthE_left (a b : List (Int × List Int)) (j : Nat) (h : j < a.length) : nthE (a ++ b) j = nthE a j := by
  simp [nthE, List.getD_eq_getElem?_getD, List.getElem?_append_left h]
theorem nthE_right (a : List (Int × List Int)) (e : Int × List Int) : nthE (a ++ [e]) a.length = e := by
  simp [nthE, List.getD_eq_getElem?_getD]
theorem Ents.app {w w' : World} {base R n : Nat} {v v' : Value} {xs : List Value} {es : List (Int × List Int)} {x : Int} {u : Value} {p : List Int} (h : Ents w base R v n xs es) (he : Elem2 w v.ownBlock (some R) u p) (hown : w'.ownsRow base 90 2 v' (n + 1) (xs ++ [.int .i64 x, u])) (hg : w.grownBy w' v.ownBlock) (hat : v'.ownBlock = v.ownBlock ∨ v'.ownBlock = some w.heap.size) :
    Ents w' base R v' (n + 1) (xs ++ [.int .i64 x, u]) (es ++ [(x, p)]) := by
  have hxl : xs.length = n * 2 := h.own.1
  refine ⟨by rw [List.length_append, h.len]; rfl, hown, fun j hj => ?_⟩
  by_cases hjn : j < n
  · obtain ⟨u2, e1, e2, h2⟩ := h.each j hjn
    rw [nthE_left _ _ _ (by rw [h.len]; exact hjn)]
    exact ⟨u2, by rw [List.getElem?_append_left (by omega)]; exact e1, by rw [List.getElem?_append_left (by omega)]; exact e2, h2.one hg hat⟩
  · obtain rfl : j = n := by omega
    have hn : nthE (es ++ [(x, p)]) j = (x, p) := by rw [← h.len]; exact nthE_right _ _
    rw [hn]
    refine ⟨u, ?_, ?_, he.one hg hat⟩
    · rw [List.getElem?_append_right (by omega), hxl, Nat.sub_self]; rfl
    · rw [List.getElem?_append_right (by omega), hxl, show j * 2 + 1 - j * 2 = 1 by omega]; rfl
theorem Ents.rde {w : World} {base R n c : Nat} {A : Option Addr} {xs : List Value} {es : List (Int × List Int)} (h : Ents w base R (.slice A n c) n xs es) : RdE w A n c es := by
  refine ⟨h.len, ?_, ?_, fun hn => ?_⟩
  · rcases h.own.2 with ⟨e, hn⟩ | ⟨g, cap, cur, e, hg, hh, hnc, hcm, _⟩
    · omega
    · cases e; exact hnc
  · rcases h.own.2 with ⟨e, hn⟩ | ⟨g, cap, cur, e, hg, hh, hnc, hcm, _⟩
    · cases e; unfold maxLen; omega
    · cases e; exact hcm
  · obtain ⟨u, e1, e2, _⟩ := h.each 0 hn
    obtain ⟨ad, ea, _⟩ := own_at h.own _ _ e1
    refine ⟨ad, ea, fun j hj => ?_⟩
    obtain ⟨u, e1, e2, Aj, cj, rfl, hr, _⟩ := h.each j hj
    obtain ⟨ad1, ea1, h1⟩ := own_at h.own _ _ e1
    obtain ⟨ad2, ea2, h2⟩ := own_at h.own _ _ e2
    rw [ea] at ea1 ea2
    cases ea1
    cases ea2
    exact ⟨Aj, cj, h1, h2, hr⟩
theorem flat_le {l : List (List Int)} {B : Nat} (h : ∀ p ∈ l, p.length ≤ B) : l.flatten.length ≤ l.length * B := by
  induction l with
  | nil => simp
  | cons p r ih =>
    have h1 := ih (fun q hq => h q (by simp [hq]))
    have h2 := h p (by simp)
    rw [List.flatten_cons, List.length_append, List.length_cons, Nat.add_mul]
    omega
theorem flat_eq {l : List (List Int)} {B : Nat} (h : ∀ p ∈ l, p.length = B) : l.flatten.length = l.length * B := by
  induction l with
  | nil => simp
  | cons p r ih =>
    have h1 := ih (fun q hq => h q (by simp [hq]))
    have h2 := h p (by simp)
    rw [List.flatten_cons, List.length_append, List.length_cons, Nat.add_mul, h1, h2]
    omega
theorem mem_nthP {rs : List (List Int)} {p : List Int} (h : p ∈ rs) : ∃ j, j < rs.length ∧ nthP rs j = p := by
  obtain ⟨j, hj, rfl⟩ := List.mem_iff_getElem.1 h
  exact ⟨j, hj, by unfold nthP; rw [List.getD_eq_getElem?_getD, List.getElem?_eq_getElem hj]; rfl⟩
set_option maxHeartbeats 4000000 in
set_option maxRecDepth 100000 in
theorem unpack_any (key : List Int) (hk : Byte key) (K : Option Addr) (kn kc : Nat) (hkn : kn ≤ 1099511627776) (rs : List (List Int)) (hrs : ∀ p ∈ rs, Byte p) (A : Option Addr) (n c : Nat) (w : World) (hn : n ≤ 1000) (h0 : Rd .u8 w K kn kc key) (h : RdP w A n c rs) (hb : wholeB rs = true)
    (hf : headOk (nthP rs 0) = true) (hr : recN (headN (nthP rs 0)) (nthP rs 0).length ≤ n) :
    Calls Try.prog 83 #[.slice K kn kc, .slice A n c] w (UnpPost key rs (recN (headN (nthP rs 0)) (nthP rs 0).length - 1) (ceil (4 * headN (nthP rs 0)) (nthP rs 0).length) (headN (nthP rs 0)) (headC (nthP rs 0)) w) := by
  obtain ⟨s, s1, s2, s3, s4, s5⟩ := whole_facts hb
  have HN := As.mk hn
  have H := As.mk h
  have HB := As.mk hb
  have hl := h.len
  have hpos : 0 < n := by omega
  have h0s := s5 0 (by omega)
  obtain ⟨ad, A0, c0, rfl, q0, q1⟩ := row0 h hpos h0s
  have HR0 := As.mk q1
  have HBY := As.mk (show Byte (nthP rs 0) from hrs _ (by unfold nthP; rw [List.getD_eq_getElem?_getD, List.getElem?_eq_getElem (by omega)]; exact List.getElem_mem _))
  have p0 : (0 : Int) < (n : Int) := by omega
  have HSB := As.mk (show s ≤ 100000 by omega)
  rw [h0s] at hr
  have HF := As.mk hf
  obtain ⟨hc, hhc⟩ : ∃ v : Nat, headC (nthP rs 0) = v := ⟨_, rfl⟩
  obtain ⟨m, hm⟩ : ∃ v : Nat, headN (nthP rs 0) = v := ⟨_, rfl⟩
  have hm2 : m ≤ 65536 := by
    rw [← hm]; unfold headN; rw [if_pos hf]
    exact ((headOk_iff _).1 hf).2.2.2.1
  rw [hm] at hr
  obtain ⟨r, hrr⟩ : ∃ r, recN m s = r := ⟨_, rfl⟩
  rw [hrr] at hr
  rw [h0s, hhc, hm, hrr]
  have HC := As.mk (show (headC (nthP rs 0) : Int) = (hc : Int) by rw [hhc])
  have HM := As.mk (show (headN (nthP rs 0) : Int) = (m : Int) by rw [hm])
  have HR := As.mk hrr
  have HM2 := As.mk hm2
  have HS := As.mk (show 64 ≤ s ∧ s ≤ 256 ∧ s % 16 = 0 from ⟨s1, s2, s3⟩)
  have d0 : decide ((n : Int) < (r : Int)) = false := decide_eq_false (by omega)
  have d1 : decide (n < r) = false := decide_eq_false (by omega)
  obtain ⟨q, hq⟩ : ∃ q, r = 1 + q := ⟨r - 1, by have : recN m s = 1 + ceil (4 * m) s + m := rfl; omega⟩
  have HRQ := As.mk hq
  rw [show r - 1 = q by omega]
  obtain ⟨x, hx⟩ : ∃ x, ceil (4 * m) s = x := ⟨_, rfl⟩
  rw [hx]
  have HX4 := As.mk hx
  have HQX := As.mk (show q = x + m by have : recN m s = 1 + ceil (4 * m) s + m := rfl; omega)
  have HQL := As.mk (show q ≤ 1000 by omega)
  have HQN := As.mk (show 1 + q ≤ n by omega)
  have H00 := As.mk h0
  have HX := As.mk hk
  have HKN := As.mk hkn
  have HRS := As.mk hrs
  have HL5 := As.mk s5
  have HLN := As.mk hl
  clear hn h hb hf hl q1 s1 s2 s3 s4 s5 h0s hrs hr hm2 hhc hm h0 hk hkn hrr hpos hq hx
  go_enter Try.func83, Try.ntmps83
  go_upto_region 10 with (first
    | (go_at_call 162; (with_reducible refine (whole_any rs (some ad) n c w (by have := HN.out; omega) H.out true HB.out).mono ?_); rintro e w1 ⟨rfl, rfl⟩)
    | (go_at_call 81; (with_reducible refine (head_any (nthP rs 0) HBY.out A0 s c0 w HSB.out HR0.out hc m true HF.out HC.out HM.out).mono ?_); rintro e w1 ⟨rfl, hb⟩; have HB1 := As.mk hb; have H1 := As.mk (H.out.below hb); have H01 := As.mk (H00.out.below hb); have q01 := cell_keep q0 hb; have HR1 := As.mk (HR0.out.below hb); clear hb)
    | (go_at_call 75; (with_reducible refine (size_ok m s r HM2.out HS.out HR.out _).mono ?_); rintro e w2 ⟨rfl, rfl⟩))
  have HMID := As.mk (rdp_mid H1.out 1 q HQN.out)
  obtain ⟨L, lL, sL, eL⟩ := rdp_list HMID.out
  have SL := As.mk sL
  have EL := As.mk eL
  have HQQ := As.mk HMID.out.len
  have HR16 := As.mk (show Rd .u8 w1 (cutA A0 c0 0 1) 16 c0 ((nthP rs 0).take 16) from HR1.out.to 16 (by have := HS.out; omega))
  have hc16 : ∀ W, (Instr.slice 37 (.slice A0 s c0) none (some (.int .i64 16)) none).run Try.prog W = .ok (.slice (cutA A0 c0 0 1) 16 c0) W := fun W => run_cut_to (P := Try.prog) W 37 5 Try.underlying37 CloneB.info A0 s c0 16 .i64 (by have := HR1.out.le; have := HS.out; omega)
  have hcr : ∀ W, (Instr.slice 50 (.slice (some ad) n c) (some (.int .i64 1)) (some (.int .i64 (r : Int))) none).run Try.prog W = .ok (.slice (cutA (some ad) c 1 1) q (c - 1)) W := fun W => by
    have := run_cut (P := Try.prog) W 50 37 Try.underlying50 infoS (some ad) n c 1 (1 + q) .i64 .i64 (by omega) (by have := H1.out.le; have := HQN.out; omega)
    rwa [Nat.add_sub_cancel_left, ← HRQ.out] at this
  obtain ⟨T, hT⟩ : ∃ T, tagB key (pts rs q).flatten = T := ⟨_, rfl⟩
  have HTT := As.mk hT
  have HTL : As (T.length = 32) := ⟨by rw [← hT]; exact tagB_len _ _⟩
  have VT := As.mk (show ((T.map (Value.int .u8)).toArray).size = 32 by simp [HTL.out])
  have HPB := As.mk (show ∀ p ∈ pts rs q, Byte p from fun p hp => by
    unfold pts at hp
    rcases List.mem_cons.1 hp with rfl | hp
    · exact byte_take HBY.out 16
    · exact HRS.out p (List.mem_of_mem_drop (List.mem_of_mem_take hp)))
  have HFL := As.mk (show (pts rs q).flatten.length ≤ 1000000000 by
    unfold pts
    rw [List.flatten_cons, List.length_append]
    have h1 := flat_le (l := (rs.drop 1).take q) (B := 256) (fun p hp => by
      obtain ⟨j, hj, rfl⟩ := mem_nthP (List.mem_of_mem_drop (List.mem_of_mem_take hp))
      rw [HL5.out j hj]; have := HS.out; omega)
    have h2 := HQQ.out
    rw [h2] at h1
    have h3 := HQL.out
    have h4 : q * 256 ≤ 1000 * 256 := Nat.mul_le_mul_right 256 h3
    rw [List.length_take]
    omega)
  clear lL sL eL hT
  have hqn : r ≤ n := by have := HQN.out; have := HRQ.out; omega
  have hr1 : 1 ≤ r := by have := HRQ.out; omega
  have pn : 0 < n := by omega
  have pn' : ¬ n = 0 := by omega
  go_cut [12] (fun s12 wx => ∃ g, s12 = .pointer (some ⟨g, 0, none⟩) ∧ w1.heap.size ≤ g ∧ Below w1.heap.size w1 wx ∧ wx.heap[g]? = some (.cells (T.map (Value.int .u8)).toArray 43 (0, 0)))
  case first =>
    refine wp_region_held_drew (S := fun W => W.cell? ad = some (.slice A0 s c0)) (by kernel_rfl) q01 (fun hHeld => ?_)
    refine wpAnyH_take (i := 0) (v := .slice K kn kc) rfl (by kernel_rfl) (by kernel_rfl) (by kernel_rfl) (fun _ _ _ h => h) (Or.inl ⟨by rfl, fun W hW => by go_simp⟩) hHeld ?_
    try simp only [Act.put, List.setIfInBounds_toArray, List.set_cons_zero, List.set_cons_succ, List.getElem_toArray, List.getElem_cons_zero, List.getElem_cons_succ]
    refine wpAnyH_take (i := 1) (v := .slice (some ad) n c) rfl (by kernel_rfl) (by kernel_rfl) (by kernel_rfl) (fun _ _ _ h => h) (Or.inl ⟨by rfl, fun W hW => by go_simp⟩) hHeld ?_
    try simp only [Act.put, List.setIfInBounds_toArray, List.set_cons_zero, List.set_cons_succ, List.getElem_toArray, List.getElem_cons_zero, List.getElem_cons_succ]
    refine wpAnyH_take (i := 2) (v := .pointer (some ad)) rfl (by kernel_rfl) (by kernel_rfl) (by kernel_rfl) (fun _ _ _ h => h) (Or.inl ⟨by rfl, fun W hW => by go_simp⟩) hHeld ?_
    try simp only [Act.put, List.setIfInBounds_toArray, List.set_cons_zero, List.set_cons_succ, List.getElem_toArray, List.getElem_cons_zero, List.getElem_cons_succ]
    refine wpAnyH_take (i := 3) (v := .slice A0 s c0) rfl (by kernel_rfl) (by kernel_rfl) (by kernel_rfl) (fun _ _ _ h => h) (Or.inl ⟨by rfl, fun W hW => by go_simp⟩) hHeld ?_
    try simp only [Act.put, List.setIfInBounds_toArray, List.set_cons_zero, List.set_cons_succ, List.getElem_toArray, List.getElem_cons_zero, List.getElem_cons_succ]
    refine wpAnyH_take (i := 4) (v := .slice (cutA A0 c0 0 1) 16 c0) rfl (by kernel_rfl) (by kernel_rfl) (by kernel_rfl) (fun _ _ _ h => h) (Or.inl ⟨by rfl, fun W hW => by go_simp⟩) hHeld ?_
    try simp only [Act.put, List.setIfInBounds_toArray, List.set_cons_zero, List.set_cons_succ, List.getElem_toArray, List.getElem_cons_zero, List.getElem_cons_succ]
    refine wpAnyH_take (i := 6) (v := .slice (some ad) n c) rfl (by kernel_rfl) (by kernel_rfl) (by kernel_rfl) (fun _ _ _ h => h) (Or.inl ⟨by rfl, fun W hW => by go_simp⟩) hHeld ?_
    try simp only [Act.put, List.setIfInBounds_toArray, List.set_cons_zero, List.set_cons_succ, List.getElem_toArray, List.getElem_cons_zero, List.getElem_cons_succ]
    refine wpAnyH_take (i := 7) (v := .int .i64 (r : Int)) rfl (by kernel_rfl) (by kernel_rfl) (by kernel_rfl) (fun _ _ _ h => h) (Or.inl ⟨by rfl, fun W hW => by go_simp⟩) hHeld ?_
    try simp only [Act.put, List.setIfInBounds_toArray, List.set_cons_zero, List.set_cons_succ, List.getElem_toArray, List.getElem_cons_zero, List.getElem_cons_succ]
    refine wpAnyH_take (i := 8) (v := .slice (cutA (some ad) c 1 1) q (c - 1)) rfl (by kernel_rfl) (by kernel_rfl) (by kernel_rfl) (fun _ _ _ h => h) (Or.inl ⟨by rfl, fun W hW => by go_simp⟩) hHeld ?_
    try simp only [Act.put, List.setIfInBounds_toArray, List.set_cons_zero, List.set_cons_succ, List.getElem_toArray, List.getElem_cons_zero, List.getElem_cons_succ]
    have HB0 := As.mk (show Below w1.heap.size w1 w1.drew from below_drewN (Below.refl w1.heap.size w1) 1)
    refine wpAnyH_ready (rs := [5, 11]) (by kernel_rfl) (by simp) (AllReadyH.cons rfl (fun K' hK => ?_) (AllReadyH.cons rfl (fun K' hK => ?_) AllReadyH.nil))
    · have tok := True.intro
      rw [if_pos (by rfl)]
      refine wp_build_1 50 37 (.tmp 49) rfl (.slice (cutA A0 c0 0 1) 16 c0) (.slice none 0 0) 24 Try.underlying50 infoS rfl rfl ?_
      have HB1 := As.mk (below_alloc HB0.out (.cells #[.slice (cutA A0 c0 0 1) 16 c0] 37))
      have HO1 := As.mk (OwnAt.lit (w1.drew) 37 [.slice (cutA A0 c0 0 1) 16 c0] (by show 1 ≤ maxLen; decide))
      have HL1 := As.mk (show w1.heap.size ≤ (w1.drew).heap.size from HB0.out.size)
      generalize hg1 : (w1.drew).alloc _ = W1 at *
      generalize hb1 : (w1.drew).heap.size = b1 at *
      have HLT1 := As.mk (show b1 < W1.heap.size by rw [← hg1, ← hb1]; simp)
      clear hg1
      refine hK.out _ _ (cell_keep q01 HB1.out) (fun hHeld => ?_)
      clear hK
      try simp only [Act.put, List.setIfInBounds_toArray, List.set_cons_zero, List.set_cons_succ, List.getElem_toArray, List.getElem_cons_zero, List.getElem_cons_succ]
      refine wpAnyH_ready (rs := [9, 11]) (by kernel_rfl) (by simp) (AllReadyH.cons rfl (fun K' hK => ?_) (AllReadyH.cons rfl (fun K' hK => ?_) AllReadyH.nil))
      · have tok := True.intro
        rw [if_pos (by rfl)]
        have HSR2 := As.mk (src_below SL.out HB1.out)
        refine wp_app2 (.tmp 50) (.tmp 53) 50 rfl b1 37 (.slice none 0 0) 24 Try.underlying50 infoS rfl _ 1 _ rfl HO1.out _ q L rfl HSR2.out (by have := HQL.out; unfold maxLen; omega) (by have := HQL.out; omega) (Nat.le_of_lt HLT1.out) HB1.out HL1.out ?_
        intro v2 W2 hown hg hat hb
        obtain ⟨A2, c2, rfl⟩ := hown.slice
        have HB2 := As.mk hb
        have HP2 := As.mk (tag_parts hown HR16.out HB2.out HQQ.out EL.out)
        clear hown hg hat hb
        refine hK.out _ _ (cell_keep q01 HB2.out) (fun hHeld => ?_)
        clear hK
        try simp only [Act.put, List.setIfInBounds_toArray, List.set_cons_zero, List.set_cons_succ, List.getElem_toArray, List.getElem_cons_zero, List.getElem_cons_succ]
        refine wpAnyH_ready (rs := [10, 11]) (by kernel_rfl) (by simp) (AllReadyH.cons rfl (fun K' hK => ?_) (AllReadyH.cons rfl (fun K' hK => ?_) AllReadyH.nil))
        · have tok := True.intro
          go_simp
          refine (tag_any key HX.out K kn kc (pts rs q) HPB.out A2 (1 + q) c2 _ HKN.out (by have := HQL.out; omega) HFL.out (H01.out.below HB2.out) HP2.out T HTT.out).mono ?_
          rintro e W3 ⟨rfl, hb⟩
          have HB3 := As.mk (below_step HB2.out hb)
          clear hb
          refine hK.out _ _ (cell_keep q01 HB3.out) (fun hHeld => ?_)
          clear hK
          try simp only [Act.put, List.setIfInBounds_toArray, List.set_cons_zero, List.set_cons_succ, List.getElem_toArray, List.getElem_cons_zero, List.getElem_cons_succ]
          refine wpAnyH_ready (rs := [11]) (by kernel_rfl) (by simp) (AllReadyH.cons rfl (fun K' hK => ?_) AllReadyH.nil)
          rw [if_pos (by rfl)]
          refine wp_allocArr1 43 rfl Z32 z32 ?_
          have HB4 := As.mk (below_alloc HB3.out (.cells Z32 43))
          have HZ4 := As.mk (heap_alloc_new (W3) (.cells Z32 43))
          have HL4 := As.mk (show w1.heap.size ≤ (W3).heap.size from HB3.out.size)
          generalize hg4 : (W3).alloc _ = W4 at *
          generalize hz4 : (W3).heap.size = z4 at *
          clear hg4
          refine hK.out _ _ (cell_keep q01 HB4.out) (fun hHeld => ?_)
          clear hK
          try simp only [Act.put, List.setIfInBounds_toArray, List.set_cons_zero, List.set_cons_succ, List.getElem_toArray, List.getElem_cons_zero, List.getElem_cons_succ]
          refine wpAnyH_ready (rs := [12]) (by kernel_rfl) (by simp) (AllReadyH.cons rfl (fun K' hK => ?_) AllReadyH.nil)
          rw [if_pos (by rfl)]
          refine wp_storeArr1 rfl 43 (.tmp 12) (.tmp 55) rfl z4 rfl (T.map (Value.int .u8)).toArray rfl 43 Z32 HZ4.out (by rw [VT.out]; kernel_rfl) (by rw [VT.out]; kernel_rfl) (bytesA_one T) ?_
          have HB5 := As.mk (below_setRow HB4.out HL4.out (T.map (Value.int .u8)).toArray)
          have HS5 := As.mk (setRow_new (W4) z4 Z32 (T.map (Value.int .u8)).toArray 43 HZ4.out)
          generalize (W4).setRow _ _ = W5 at *
          refine hK.out _ _ (cell_keep q01 HB5.out) (fun hHeld => ?_)
          clear hK
          try simp only [Act.put, List.setIfInBounds_toArray, List.set_cons_zero, List.set_cons_succ, List.getElem_toArray, List.getElem_cons_zero, List.getElem_cons_succ]
          refine wpAnyH_done (by kernel_rfl) ?_ _
          go_wp2
          go_meet
          exact ⟨z4, rfl, HL4.out, HB5.out, HS5.out⟩
        · have tok := True.intro
          rw [if_pos (by rfl)]
          refine wp_allocArr1 43 rfl Z32 z32 ?_
          have HB6 := As.mk (below_alloc HB2.out (.cells Z32 43))
          have HZ6 := As.mk (heap_alloc_new (W2) (.cells Z32 43))
          have HL6 := As.mk (show w1.heap.size ≤ (W2).heap.size from HB2.out.size)
          have HP6 := As.mk (HP2.out.below (below_alloc (Below.refl _ (W2)) (.cells Z32 43)))
          generalize hg6 : (W2).alloc _ = W6 at *
          generalize hz6 : (W2).heap.size = z6 at *
          clear hg6
          refine hK.out _ _ (cell_keep q01 HB6.out) (fun hHeld => ?_)
          clear hK
          try simp only [Act.put, List.setIfInBounds_toArray, List.set_cons_zero, List.set_cons_succ, List.getElem_toArray, List.getElem_cons_zero, List.getElem_cons_succ]
          refine wpAnyH_ready (rs := [10]) (by kernel_rfl) (by simp) (AllReadyH.cons rfl (fun K' hK => ?_) AllReadyH.nil)
          go_simp
          refine (tag_any key HX.out K kn kc (pts rs q) HPB.out A2 (1 + q) c2 _ HKN.out (by have := HQL.out; omega) HFL.out (H01.out.below HB6.out) HP6.out T HTT.out).mono ?_
          rintro e W7 ⟨rfl, hb⟩
          have HB7 := As.mk (below_step HB6.out hb)
          have HZ7 := As.mk ((hb.block _ (Array.getElem?_eq_some_iff.1 HZ6.out).1).trans HZ6.out)
          clear hb
          refine hK.out _ _ (cell_keep q01 HB7.out) (fun hHeld => ?_)
          clear hK
          try simp only [Act.put, List.setIfInBounds_toArray, List.set_cons_zero, List.set_cons_succ, List.getElem_toArray, List.getElem_cons_zero, List.getElem_cons_succ]
          refine wpAnyH_ready (rs := [12]) (by kernel_rfl) (by simp) (AllReadyH.cons rfl (fun K' hK => ?_) AllReadyH.nil)
          rw [if_pos (by rfl)]
          refine wp_storeArr1 rfl 43 (.tmp 12) (.tmp 55) rfl z6 rfl (T.map (Value.int .u8)).toArray rfl 43 Z32 HZ7.out (by rw [VT.out]; kernel_rfl) (by rw [VT.out]; kernel_rfl) (bytesA_one T) ?_
          have HB8 := As.mk (below_setRow HB7.out HL6.out (T.map (Value.int .u8)).toArray)
          have HS8 := As.mk (setRow_new (W7) z6 Z32 (T.map (Value.int .u8)).toArray 43 HZ7.out)
          generalize (W7).setRow _ _ = W8 at *
          refine hK.out _ _ (cell_keep q01 HB8.out) (fun hHeld => ?_)
          clear hK
          try simp only [Act.put, List.setIfInBounds_toArray, List.set_cons_zero, List.set_cons_succ, List.getElem_toArray, List.getElem_cons_zero, List.getElem_cons_succ]
          refine wpAnyH_done (by kernel_rfl) ?_ _
          go_wp2
          go_meet
          exact ⟨z6, rfl, HL6.out, HB8.out, HS8.out⟩
      · have tok := True.intro
        rw [if_pos (by rfl)]
        refine wp_allocArr1 43 rfl Z32 z32 ?_
        have HB9 := As.mk (below_alloc HB1.out (.cells Z32 43))
        have HZ9 := As.mk (heap_alloc_new (W1) (.cells Z32 43))
        have HL9 := As.mk (show w1.heap.size ≤ (W1).heap.size from HB1.out.size)
        have HO9 := As.mk (HO1.out.below (below_alloc (Below.refl _ (W1)) (.cells Z32 43)))
        have HLT9 := As.mk (show b1 < ((W1).alloc (.cells Z32 43)).heap.size by have := HLT1.out; simp; omega)
        have HNE9 := As.mk (show (W1).heap.size ≠ b1 by have := HLT1.out; omega)
        generalize hg9 : (W1).alloc _ = W9 at *
        generalize hz9 : (W1).heap.size = z9 at *
        clear hg9
        refine hK.out _ _ (cell_keep q01 HB9.out) (fun hHeld => ?_)
        clear hK
        try simp only [Act.put, List.setIfInBounds_toArray, List.set_cons_zero, List.set_cons_succ, List.getElem_toArray, List.getElem_cons_zero, List.getElem_cons_succ]
        refine wpAnyH_ready (rs := [9]) (by kernel_rfl) (by simp) (AllReadyH.cons rfl (fun K' hK => ?_) AllReadyH.nil)
        rw [if_pos (by rfl)]
        have HSR10 := As.mk (src_below SL.out HB9.out)
        have HAP10 := As.mk (show (some z9 : Option Nat) ≠ some b1 from fun e => by injection e with e; exact HNE9.out e)
        refine wp_app2 (.tmp 50) (.tmp 53) 50 rfl b1 37 (.slice none 0 0) 24 Try.underlying50 infoS rfl _ 1 _ rfl HO9.out _ q L rfl HSR10.out (by have := HQL.out; unfold maxLen; omega) (by have := HQL.out; omega) (Nat.le_of_lt HLT9.out) HB9.out HL1.out ?_
        intro v10 W10 hown hg hat hb
        obtain ⟨A10, c10, rfl⟩ := hown.slice
        have HB10 := As.mk hb
        have HP10 := As.mk (tag_parts hown HR16.out HB10.out HQQ.out EL.out)
        have HZ10 := As.mk ((hg.block _ (Array.getElem?_eq_some_iff.1 HZ9.out).1 HAP10.out).trans HZ9.out)
        clear hown hg hat hb
        refine hK.out _ _ (cell_keep q01 HB10.out) (fun hHeld => ?_)
        clear hK
        try simp only [Act.put, List.setIfInBounds_toArray, List.set_cons_zero, List.set_cons_succ, List.getElem_toArray, List.getElem_cons_zero, List.getElem_cons_succ]
        refine wpAnyH_ready (rs := [10]) (by kernel_rfl) (by simp) (AllReadyH.cons rfl (fun K' hK => ?_) AllReadyH.nil)
        go_simp
        refine (tag_any key HX.out K kn kc (pts rs q) HPB.out A10 (1 + q) c10 _ HKN.out (by have := HQL.out; omega) HFL.out (H01.out.below HB10.out) HP10.out T HTT.out).mono ?_
        rintro e W11 ⟨rfl, hb⟩
        have HB11 := As.mk (below_step HB10.out hb)
        have HZ11 := As.mk ((hb.block _ (Array.getElem?_eq_some_iff.1 HZ10.out).1).trans HZ10.out)
        clear hb
        refine hK.out _ _ (cell_keep q01 HB11.out) (fun hHeld => ?_)
        clear hK
        try simp only [Act.put, List.setIfInBounds_toArray, List.set_cons_zero, List.set_cons_succ, List.getElem_toArray, List.getElem_cons_zero, List.getElem_cons_succ]
        refine wpAnyH_ready (rs := [12]) (by kernel_rfl) (by simp) (AllReadyH.cons rfl (fun K' hK => ?_) AllReadyH.nil)
        rw [if_pos (by rfl)]
        refine wp_storeArr1 rfl 43 (.tmp 12) (.tmp 55) rfl z9 rfl (T.map (Value.int .u8)).toArray rfl 43 Z32 HZ11.out (by rw [VT.out]; kernel_rfl) (by rw [VT.out]; kernel_rfl) (bytesA_one T) ?_
        have HB12 := As.mk (below_setRow HB11.out HL9.out (T.map (Value.int .u8)).toArray)
        have HS12 := As.mk (setRow_new (W11) z9 Z32 (T.map (Value.int .u8)).toArray 43 HZ11.out)
        generalize (W11).setRow _ _ = W12 at *
        refine hK.out _ _ (cell_keep q01 HB12.out) (fun hHeld => ?_)
        clear hK
        try simp only [Act.put, List.setIfInBounds_toArray, List.set_cons_zero, List.set_cons_succ, List.getElem_toArray, List.getElem_cons_zero, List.getElem_cons_succ]
        refine wpAnyH_done (by kernel_rfl) ?_ _
        go_wp2
        go_meet
        exact ⟨z9, rfl, HL9.out, HB12.out, HS12.out⟩
    · have tok := True.intro
      rw [if_pos (by rfl)]
      refine wp_allocArr1 43 rfl Z32 z32 ?_
      have HB13 := As.mk (below_alloc HB0.out (.cells Z32 43))
      have HZ13 := As.mk (heap_alloc_new (w1.drew) (.cells Z32 43))
      have HL13 := As.mk (show w1.heap.size ≤ (w1.drew).heap.size from HB0.out.size)
      generalize hg13 : (w1.drew).alloc _ = W13 at *
      generalize hz13 : (w1.drew).heap.size = z13 at *
      clear hg13
      refine hK.out _ _ (cell_keep q01 HB13.out) (fun hHeld => ?_)
      clear hK
      try simp only [Act.put, List.setIfInBounds_toArray, List.set_cons_zero, List.set_cons_succ, List.getElem_toArray, List.getElem_cons_zero, List.getElem_cons_succ]
      refine wpAnyH_ready (rs := [5]) (by kernel_rfl) (by simp) (AllReadyH.cons rfl (fun K' hK => ?_) AllReadyH.nil)
      rw [if_pos (by rfl)]
      refine wp_build_1 50 37 (.tmp 49) rfl (.slice (cutA A0 c0 0 1) 16 c0) (.slice none 0 0) 24 Try.underlying50 infoS rfl rfl ?_
      have HB14 := As.mk (below_alloc HB13.out (.cells #[.slice (cutA A0 c0 0 1) 16 c0] 37))
      have HO14 := As.mk (OwnAt.lit (W13) 37 [.slice (cutA A0 c0 0 1) 16 c0] (by show 1 ≤ maxLen; decide))
      have HL14 := As.mk (show w1.heap.size ≤ (W13).heap.size from HB13.out.size)
      have HZ14 := As.mk (((below_alloc (Below.refl _ (W13)) (.cells #[.slice (cutA A0 c0 0 1) 16 c0] 37)).block _ (Array.getElem?_eq_some_iff.1 HZ13.out).1).trans HZ13.out)
      have HNE14 := As.mk (show z13 ≠ (W13).heap.size by have := (Array.getElem?_eq_some_iff.1 HZ13.out).1; omega)
      generalize hg14 : (W13).alloc _ = W14 at *
      generalize hb14 : (W13).heap.size = b14 at *
      have HLT14 := As.mk (show b14 < W14.heap.size by rw [← hg14, ← hb14]; simp)
      clear hg14
      refine hK.out _ _ (cell_keep q01 HB14.out) (fun hHeld => ?_)
      clear hK
      try simp only [Act.put, List.setIfInBounds_toArray, List.set_cons_zero, List.set_cons_succ, List.getElem_toArray, List.getElem_cons_zero, List.getElem_cons_succ]
      refine wpAnyH_ready (rs := [9]) (by kernel_rfl) (by simp) (AllReadyH.cons rfl (fun K' hK => ?_) AllReadyH.nil)
      rw [if_pos (by rfl)]
      have HSR15 := As.mk (src_below SL.out HB14.out)
      have HAP15 := As.mk (show (some z13 : Option Nat) ≠ some b14 from fun e => by injection e with e; exact HNE14.out e)
      refine wp_app2 (.tmp 50) (.tmp 53) 50 rfl b14 37 (.slice none 0 0) 24 Try.underlying50 infoS rfl _ 1 _ rfl HO14.out _ q L rfl HSR15.out (by have := HQL.out; unfold maxLen; omega) (by have := HQL.out; omega) (Nat.le_of_lt HLT14.out) HB14.out HL14.out ?_
      intro v15 W15 hown hg hat hb
      obtain ⟨A15, c15, rfl⟩ := hown.slice
      have HB15 := As.mk hb
      have HP15 := As.mk (tag_parts hown HR16.out HB15.out HQQ.out EL.out)
      have HZ15 := As.mk ((hg.block _ (Array.getElem?_eq_some_iff.1 HZ14.out).1 HAP15.out).trans HZ14.out)
      clear hown hg hat hb
      refine hK.out _ _ (cell_keep q01 HB15.out) (fun hHeld => ?_)
      clear hK
      try simp only [Act.put, List.setIfInBounds_toArray, List.set_cons_zero, List.set_cons_succ, List.getElem_toArray, List.getElem_cons_zero, List.getElem_cons_succ]
      refine wpAnyH_ready (rs := [10]) (by kernel_rfl) (by simp) (AllReadyH.cons rfl (fun K' hK => ?_) AllReadyH.nil)
      go_simp
      refine (tag_any key HX.out K kn kc (pts rs q) HPB.out A15 (1 + q) c15 _ HKN.out (by have := HQL.out; omega) HFL.out (H01.out.below HB15.out) HP15.out T HTT.out).mono ?_
      rintro e W16 ⟨rfl, hb⟩
      have HB16 := As.mk (below_step HB15.out hb)
      have HZ16 := As.mk ((hb.block _ (Array.getElem?_eq_some_iff.1 HZ15.out).1).trans HZ15.out)
      clear hb
      refine hK.out _ _ (cell_keep q01 HB16.out) (fun hHeld => ?_)
      clear hK
      try simp only [Act.put, List.setIfInBounds_toArray, List.set_cons_zero, List.set_cons_succ, List.getElem_toArray, List.getElem_cons_zero, List.getElem_cons_succ]
      refine wpAnyH_ready (rs := [12]) (by kernel_rfl) (by simp) (AllReadyH.cons rfl (fun K' hK => ?_) AllReadyH.nil)
      rw [if_pos (by rfl)]
      refine wp_storeArr1 rfl 43 (.tmp 12) (.tmp 55) rfl z13 rfl (T.map (Value.int .u8)).toArray rfl 43 Z32 HZ16.out (by rw [VT.out]; kernel_rfl) (by rw [VT.out]; kernel_rfl) (bytesA_one T) ?_
      have HB17 := As.mk (below_setRow HB16.out HL13.out (T.map (Value.int .u8)).toArray)
      have HS17 := As.mk (setRow_new (W16) z13 Z32 (T.map (Value.int .u8)).toArray 43 HZ16.out)
      generalize (W16).setRow _ _ = W17 at *
      refine hK.out _ _ (cell_keep q01 HB17.out) (fun hHeld => ?_)
      clear hK
      try simp only [Act.put, List.setIfInBounds_toArray, List.set_cons_zero, List.set_cons_succ, List.getElem_toArray, List.getElem_cons_zero, List.getElem_cons_succ]
      refine wpAnyH_done (by kernel_rfl) ?_ _
      go_wp2
      go_meet
      exact ⟨z13, rfl, HL13.out, HB17.out, HS17.out⟩
  case rest =>
    obtain ⟨g, rfl, hgl, hbc, hgz⟩ := hcut
    obtain ⟨wk, rfl⟩ : ∃ wk : World, wk = wc := ⟨_, rfl⟩
    have HT32 := As.mk (rd_block hgz HTL.out (by decide))
    have H1c := As.mk (H1.out.below hbc)
    have q0c := cell_keep q01 hbc
    have HR1c := As.mk (HR1.out.below hbc)
    have HB1c := As.mk (below_step HB1.out hbc)
    obtain ⟨tg, htg⟩ : ∃ b, tagOk key rs q = b := ⟨_, rfl⟩
    have HTG := As.mk htg
    have HTE := As.mk (show tg = true ↔ T = ((nthP rs 0).drop 16).take 32 by rw [← htg]; unfold tagOk; rw [decide_eq_true_eq, HTT.out])
    have hc48 : ∀ W, (Instr.slice 37 (.slice A0 s c0) (some (.int .i64 16)) (some (.int .i64 48)) none).run Try.prog W = .ok (.slice (cutA A0 c0 16 1) 32 (c0 - 16)) W := fun W => run_cut (P := Try.prog) W 37 5 Try.underlying37 CloneB.info A0 s c0 16 48 .i64 .i64 (by decide) (by have := HR1c.out.le; have := HS.out; omega)
    have HP48 := As.mk (show Rd .u8 wk (cutA A0 c0 16 1) 32 (c0 - 16) (((nthP rs 0).drop 16).take 32) from HR1c.out.cut 16 48 (by decide) (by have := HS.out; omega))
    have HBT := As.mk (show Byte T by rw [← HTT.out]; exact Go.Proofs.Yteajblfkfmopfaa.ShaSums.sumB_byte _)
    have HB48 := As.mk (show Byte (((nthP rs 0).drop 16).take 32) from byte_take (byte_drop HBY.out 16) 32)
    clear hc16 hcr hgl hbc hgz htg
    go_upto_region 11 with fail
    go_cut [62] (fun s62 wx => s62 = .bool (!tg) ∧ As (Below wk.heap.size wk wx))
    case first =>
      go_quiet ((go_at_call 156; exact Calls.quiet_of (Go.Proofs.Yteajblfkfmopfaa.SameB.bytes_any T (((nthP rs 0).drop 16).take 32) HBT.out HB48.out (some ⟨g, 0, none⟩) (cutA A0 c0 16 1) 32 32 32 (c0 - 16) _ tg HTE.out (HT32.out.drewN _) (HP48.out.drewN _) (by decide))))
      go_wp2
      go_meet
      exact ⟨rfl, ⟨below_drewN (Below.refl _ _) _⟩⟩
    case rest =>
      obtain ⟨rfl, HBD⟩ := hcut
      obtain ⟨wd, rfl⟩ : ∃ wd : World, wd = wc := ⟨_, rfl⟩
      have HB1d := As.mk (below_step HB1c.out HBD.out)
      cases tg with
      | false =>
        go_wp2
        go_ret3
        exact ⟨none, 0, HB1d.out, .inr ⟨.inl HTG.out, rfl⟩⟩
      | true =>
        clear hc48 q01 q0c HT32 HTE HP48
        obtain ⟨x1, hx1⟩ : ∃ y, y = 1 + x := ⟨_, rfl⟩
        have HX1 := As.mk hx1
        have hwx : wrap64 (1 + (x : Int)) = (x1 : Int) := wn _ (by omega) (by have := HQX.out; have := HQL.out; omega)
        have H1d := As.mk (H1c.out.below HBD.out)
        have hcx : ∀ W, (Instr.slice 50 (.slice (some ad) n c) (some (.int .i64 1)) (some (.int .i64 (x1 : Int))) none).run Try.prog W = .ok (.slice (cutA (some ad) c 1 1) x (c - 1)) W := fun W => by
          have := run_cut (P := Try.prog) W 50 37 Try.underlying50 infoS (some ad) n c 1 x1 .i64 .i64 (by omega) (by have := H1d.out.le; have := HQN.out; have := HQX.out; omega)
          rwa [show x1 - 1 = x by omega] at this
        have HPX := As.mk (rdp_mid H1d.out 1 x (by have := HQN.out; have := HQX.out; omega))
        obtain ⟨px, hpx⟩ : ∃ p, (rs.drop 1).take x = p := ⟨_, rfl⟩
        rw [hpx] at HPX
        have HPL := As.mk (show px.flatten = placesB rs x by unfold placesB; rw [hpx])
        have HPE := As.mk (show ∀ p ∈ px, p.length = s from fun p hp => by
          rw [← hpx] at hp
          obtain ⟨j, hj, rfl⟩ := mem_nthP (List.mem_of_mem_drop (List.mem_of_mem_take hp))
          exact HL5.out j hj)
        have HPB2 := As.mk (show ∀ p ∈ px, Byte p from fun p hp => by
          rw [← hpx] at hp
          exact HRS.out p (List.mem_of_mem_drop (List.mem_of_mem_take hp)))
        have HPN := As.mk (show px.length = x from HPX.out.len)
        have hx1n : x1 ≤ n := by have := HQN.out; have := HQX.out; omega
        have hx11 : 1 ≤ x1 := by omega
        clear hx1 hpx
        go_wp2_with (go_at_call 143; (with_reducible refine (index_any m s HM2.out HS.out.1 HS.out.2.1 _).mono ?_); rintro e w3 ⟨rfl, rfl⟩; rw [HX4.out])
        clear hcx
        generalize cutA (some ad) c 1 1 = A9 at *
        go_loopg [13, 15, 70] x (fun kq v13 v15 v70 wr => ∃ (i nb co : Nat) (R : Option Addr), i + kq = x ∧ v13 = .slice R nb co ∧ v70 = .int .i64 (i : Int) ∧ As (nb = i * s) ∧ As (OwnAt wr wd.heap.size (.slice R nb co) nb ((px.take i).flatten.map (Value.int .u8))) ∧ As (Below wd.heap.size wd wr))
        case atStart => exact ⟨0, 0, 0, none, by omega, rfl, rfl, ⟨by simp⟩, ⟨OwnAt.nil _ _⟩, ⟨Below.refl _ _⟩⟩
        case round =>
          obtain ⟨i, nb, co, R, hi, rfl, rfl, HNB, HO, HB2⟩ := hrel
          have HI := As.mk hi
          clear hi hwx
          have HBN := As.mk (show nb ≤ 300000 by
            have h1 := HNB.out
            have h4 : i * s ≤ 1000 * 256 := Nat.mul_le_mul (by have := HI.out; have := HQX.out; have := HQL.out; omega) HS.out.2.1
            omega)
          by_cases hlt : i < x
          · have e0 : decide ((i : Int) < (x : Int)) = true := decide_eq_true (by omega)
            have e1 : decide (i < x) = true := decide_eq_true hlt
            have lt' : (i : Int) < (x : Int) := by omega
            have hw : wrap64 ((i : Int) + 1) = ((i + 1 : Nat) : Int) := wrap_up (by have := HQX.out; have := HQL.out; omega)
            obtain ⟨ad2, Aj, cj, ea2, h2, h3⟩ := HPX.out.at i hlt
            rw [HPE.out (nthP px i) (by unfold nthP; rw [List.getD_eq_getElem?_getD, List.getElem?_eq_getElem (by rw [HPN.out]; exact hlt)]; exact List.getElem_mem _)] at h2 h3
            have h2' := cell_keep h2 HB2.out
            have HS5 := As.mk (Src.rd (h3.below HB2.out))
            have HFS := As.mk (Go.Proofs.Yteajblfkfmopfaa.Sum.flat_snoc px i (by rw [HPN.out]; exact hlt))
            have HLT := As.mk hlt
            cases ea2
            clear h2 h3 hlt
            go_wp2_with (at_builtin; refine wpList_app2 rfl (.tmp 74) (.tmp 75) 37 rfl wd.heap.size 5 (.int .u8 0) 1 Try.underlying37 CloneB.info rfl _ nb _ rfl HO.out _ s _ rfl HS5.out ?b1 ?b2 HB2.out.size HB2.out (Nat.le_refl _) ?_; (case b1 => have := HBN.out; have := HS.out; unfold maxLen; omega); (case b2 => have := HBN.out; have := HS.out; omega); intro v6 w6 hown hg hat hb; rw [← List.map_append, ← HFS.out] at hown; obtain ⟨A6, c6, rfl⟩ := hown.slice; have HO6 := As.mk hown; have HB6 := As.mk hb; clear hown hg hat hb)
            go_roundg (x - (i + 1))
            case measure => have := HI.out; have := HLT.out; omega
            case rel => exact ⟨i + 1, nb + s, c6, A6, by have := HI.out; have := HLT.out; omega, rfl, by go_num, ⟨by have := HNB.out; rw [Nat.add_mul]; omega⟩, HO6, HB6⟩
          · have e0 : decide ((i : Int) < (x : Int)) = false := decide_eq_false (by omega)
            have e1 : decide (i < x) = false := decide_eq_false hlt
            obtain rfl : x = i := by have := HI.out; omega
            have hall : px.take x = px := by rw [← HPN.out, List.take_length]
            rw [hall, HPL.out] at HO
            obtain ⟨pl, hpl⟩ : ∃ p, placesB rs x = p := ⟨_, rfl⟩
            have HPLE := As.mk hpl
            rw [hpl] at HO
            have HRP := As.mk (own_rd_at HO.out)
            have HPLB := As.mk (show Byte pl by
              rw [← hpl, ← HPL.out]
              intro y hy
              obtain ⟨p, hp, hy2⟩ := List.mem_flatten.1 hy
              exact HPB2.out p hp y hy2)
            have HPLN := As.mk (show pl.length = nb from HRP.out.len)
            have HGE4 := As.mk (show 4 * m ≤ nb by
              have h1 := padN_ceil (n := 4 * m) (show 0 < s by have := HS.out; omega)
              rw [HX4.out, ← HNB.out] at h1
              omega)
            have HB1e := As.mk (below_step HB1d.out HB2.out)
            have H1e := As.mk (H1d.out.below HB2.out)
            clear hall hlt hpl HO
            obtain ⟨wp, rfl⟩ : ∃ wp : World, wp = wr := ⟨_, rfl⟩
            go_wp2_with (go_at_call 155; (with_reducible refine (made_readB R nb co pl wp HRP.out).mono ?_); rintro e wl ⟨rfl, hr, hb⟩; have HRS0 := As.mk hr; have HBL := As.mk hb; clear hr hb)
            have HLT0 := As.mk HRS0.out.s.lt
            have Z4 := As.mk (show (4 : Int) = ((4 : Nat) : Int) from rfl)
            go_loopg [5, 17, 81] m (fun kq v5 v17 v81 wr => ∃ (i co : Nat) (B : Option Addr) (xs : List Value), i + kq = m ∧ v5 = .slice B i co ∧ v81 = .int .i64 (i : Int) ∧ As (RrB wp.heap.size wr (stN pl i) wp.heap.size) ∧ As (Ents wr wl.heap.size wp.heap.size (.slice B i co) i xs (esN rs x pl i)) ∧ As (Below wp.heap.size wp wr) ∧ As (wl.heap.size ≤ wr.heap.size))
            case atStart => exact ⟨0, 0, none, [], by omega, rfl, rfl, HRS0, ⟨Ents.nil _ _ _⟩, HBL, ⟨Nat.le_refl _⟩⟩
            case round =>
              obtain ⟨i, ce, B, xs, hi, rfl, rfl, HST, HEN, HBW, HWL⟩ := hrel
              have HI := As.mk hi
              clear hi
              by_cases hlt : i < m
              · have e0 : decide ((i : Int) < (m : Int)) = true := decide_eq_true (by omega)
                have e1 : decide (i < m) = true := decide_eq_true hlt
                have lt' : (i : Int) < (m : Int) := by omega
                have hw : wrap64 ((i : Int) + 1) = ((i + 1 : Nat) : Int) := wrap_up (by have := HQX.out; have := HQL.out; omega)
                obtain ⟨k, hk⟩ : ∃ k, k = 1 + x + i := ⟨_, rfl⟩
                have HK := As.mk hk
                have hwk : wrap64 (wrap64 (1 + (x : Int)) + (i : Int)) = (k : Int) := by
                  rw [wn (x := 1 + (x : Int)) (1 + x) (by omega) (by have := HQX.out; have := HQL.out; omega)]
                  exact wn _ (by omega) (by have := HQX.out; have := HQL.out; omega)
                have hkn : k < n := by have := HQN.out; have := HQX.out; omega
                have hkn' : (k : Int) < (n : Int) := by omega
                obtain ⟨ad2, Aj, cj, ea2, h2, h3⟩ := H1e.out.at k hkn
                cases ea2
                have hlen := HL5.out k (by rw [HLN.out]; exact hkn)
                rw [hlen] at h2 h3
                obtain ⟨v, hv⟩ : ∃ v, svN pl i = v := ⟨_, rfl⟩
                have HV := As.mk (show (stN pl i).numV 4 1048575 = v from hv)
                have HSE := As.mk (show (stN pl i).num 4 1048575 = stN pl (i + 1) from rfl)
                have HBS := As.mk (byte_stN HPLB.out i)
                have HES := As.mk (show esN rs x pl (i + 1) = esN rs x pl i ++ [(v, nthP rs k)] by rw [esN_succ, hv, hk])
                have HLEN := As.mk hlen
                have HROW := As.mk h3
                have HCEL := As.mk h2
                have HLT := As.mk hlt
                have HIM := As.mk (show i ≤ 1000 by have := HQX.out; have := HQL.out; omega)
                clear h2 h3 hlt hk hlen hv
                go_wp2_with (first
                  | (go_at_call 158; (with_reducible refine (numTB wp.heap.size wp.heap.size wr (stN pl i) (stN pl (i + 1)) v HBS.out HST.out 4 _ Z4.out (by decide) 1048575 HSE.out HV.out).mono ?_); rintro e w6 ⟨rfl, hg, hs⟩; have R6 := As.mk hs; have HB6 := As.mk (HBW.out.grown hg HBW.out.size (fun k hk => by injection hk with hk; omega)); have HE6 := As.mk (HEN.out.grown hg HLT0.out); have HW6 := As.mk (Nat.le_trans HWL.out hg.size); have HB7 := As.mk (below_alloc (Below.refl w6.heap.size w6) (.cells #[] 5)); have HEM := As.mk (show OwnAt (w6.alloc (.cells #[] 5)) w6.heap.size (.slice (some ⟨w6.heap.size, 0, none⟩) 0 0) 0 [] from OwnAt.lit w6 5 [] (by decide)); have hc7 : (w6.alloc (.cells #[] 5)).cell? (ad.add k) = some (.slice Aj s cj) := cell_keep HCEL.out (below_alloc HB6.out _); have HS7 := As.mk (Src.rd (HROW.out.below (below_alloc HB6.out (.cells #[] 5)))); clear hg hs)
                  | (go_at_call 143; (with_reducible refine (index_any m s HM2.out HS.out.1 HS.out.2.1 _).mono ?_); rintro e w7 ⟨rfl, rfl⟩; rw [HX4.out])
                  | (at_builtin; refine wpList_app2 rfl (.tmp 87) (.tmp 96) 37 rfl w6.heap.size 5 (.int .u8 0) 1 Try.underlying37 CloneB.info rfl _ 0 _ rfl HEM.out _ s _ rfl HS7.out ?b3 ?b4 HB7.out.size HB7.out (Nat.le_refl _) ?_; (case b3 => have := HS.out; unfold maxLen; omega); (case b4 => have := HS.out; omega); intro v8 w8 hown hg hat hb; rw [Nat.zero_add, List.nil_append] at hown; obtain ⟨A8, c8, rfl⟩ := hown.slice; have HO8 := As.mk hown; have HB8 := As.mk hb; clear hown hg hat hb; refine As.out ?_))
                refine As.mk ?_
                have HEL8 := As.mk (show Elem2 w8 (Value.slice B i ce).ownBlock (some wp.heap.size) (.slice A8 s c8) (nthP rs k) from ⟨A8, c8, by rw [HLEN.out], by rw [HLEN.out]; exact own_rd_at HO8.out, fun _ ad3 ea3 => by
                  subst ea3
                  have h1 := (HO8.out.lt ad3.block rfl).1
                  refine ⟨fun e => ?_, fun e => ?_⟩
                  · have h2 := (HE6.out.own.lt ad3.block e.symm).2
                    omega
                  · injection e with e
                    have h2 := HLT0.out
                    have h3 := HW6.out
                    omega⟩)
                have HE8 := As.mk (HE6.out.below HB8.out)
                have hal := below_alloc (Below.refl w8.heap.size w8) (.cells #[.int .i64 v, .slice A8 s c8] 90)
                have HE9 := As.mk (HE8.out.below hal)
                have HL9 := As.mk (HEL8.out.below hal)
                have HB9 := As.mk (below_alloc (below_step HB6.out HB8.out) (.cells #[.int .i64 v, .slice A8 s c8] 90))
                have R9 := As.mk ((R6.out.below HB8.out).below hal)
                have HW9 := As.mk (show wl.heap.size ≤ (w8.alloc (.cells #[.int .i64 v, .slice A8 s c8] 90)).heap.size from Nat.le_trans HW6.out (Nat.le_trans HB8.out.size hal.size))
                have HS9 := As.mk (src_one (m := 2) (heap_alloc_new w8 (.cells #[.int .i64 v, .slice A8 s c8] 90)) (us := [.int .i64 v, .slice A8 s c8]) (fun u hu => by simp at hu; rcases hu with rfl | rfl <;> rfl) rfl)
                have HAPR := As.mk (fun (e : (Value.slice B i ce).ownBlock = some wp.heap.size) => (by have h1 := (HE6.out.own.lt _ e).1; have h2 := HLT0.out; omega : False))
                clear hal hc7 hwk HST HEN
                go_wp2_with (first
                  | (refine wpList_buildEn rfl _ _ rfl v A8 s c8 rfl rfl ?_)
                  | (at_builtin; refine wpList_app rfl (.tmp 84) (.tmp 99) 73 rfl wl.heap.size 90 (.agg #[.int .i64 0, .slice none 0 0]) 2 32 Try.underlying73 infoEn3 rfl (by decide) _ i xs rfl HE9.out.own _ 1 [.int .i64 v, .slice A8 s c8] rfl HS9.out ?b5 ?b6 HW9.out HB9.out (Nat.le_of_lt HLT0.out) ?_; (case b5 => have := HIM.out; unfold maxLen; omega); (case b6 => have := HIM.out; omega); intro va wa hown hg hat hb; obtain ⟨Aa, ca, rfl⟩ := own_slice hown; have HEa := As.mk (HE9.out.app HL9.out hown hg hat); have HBa := As.mk hb; have HWa := As.mk (Nat.le_trans HW9.out hg.size); have Ra := As.mk (R9.out.row hg (fun k hk => Nat.le_trans (Nat.le_of_lt HLT0.out) (HE9.out.own.lt k hk).1) (fun e => HAPR.out e)); clear hown hg hat hb))
                go_roundg (m - (i + 1))
                case measure => have := HI.out; have := HLT.out; omega
                case rel => exact ⟨i + 1, ca, Aa, _, by have := HI.out; have := HLT.out; omega, rfl, by go_num, Ra, ⟨by rw [HES.out]; exact HEa.out⟩, HBa, HWa⟩
              · have e0 : decide ((i : Int) < (m : Int)) = false := decide_eq_false (by omega)
                have e1 : decide (i < m) = false := decide_eq_false hlt
                obtain rfl : m = i := by have := HI.out; omega
                obtain ⟨k4, hk4⟩ : ∃ k, k = pl.length - 4 * m := ⟨_, rfl⟩
                have HK4 := As.mk hk4
                obtain ⟨st5, hs5⟩ : ∃ t, (stN pl m).fix k4 = t := ⟨_, rfl⟩
                have HS5 := As.mk hs5
                obtain ⟨y, hy⟩ : ∃ y, (stN pl m).fixV k4 = y := ⟨_, rfl⟩
                have HY := As.mk hy
                obtain ⟨d, hd⟩ : ∃ d, st5.done = d := ⟨_, rfl⟩
                have HD := As.mk hd
                have HPO := As.mk (show plOk pl m = (decide (y = List.replicate y.length 0) && decide (d = 0)) by unfold plOk; rw [← hk4, hy, hs5, hd])
                have HYB := As.mk (show Byte y by rw [← hy]; exact byte_fixV (byte_stN HPLB.out m) k4)
                have HYL := As.mk (show y.length ≤ k4 by rw [← hy]; exact fixV_len k4)
                have HK4B := As.mk (show k4 ≤ 300000 by have := HPLN.out; have := HBN.out; omega)
                obtain ⟨m4, hm4⟩ : ∃ k, k = 4 * m := ⟨_, rfl⟩
                have hw4 : wrap64 (4 * (m : Int)) = (m4 : Int) := wn _ (by omega) (by have := HM2.out; omega)
                have hw5 : wrap64 ((nb : Int) - (m4 : Int)) = (k4 : Int) := wn _ (by have := HPLN.out; have := HGE4.out; omega) (by have := HK4B.out; omega)
                clear hlt hk4 hs5 hy hd hm4
                by_cases hz : y = List.replicate y.length 0
                · have HZ := As.mk hz
                  clear hz
                  by_cases hd0 : d = 0
                  · subst hd0
                    go_wp2_with (first
                      | (go_at_call 157; (with_reducible refine (fixT wp.heap.size wr (stN pl m) st5 y HST.out.s k4 _ rfl (by have := HK4B.out; omega) HS5.out HY.out).mono ?_); rintro e w5 ⟨A5, c5, rfl, hr, hg, hs⟩; have RD5 := As.mk hr; have R5 := As.mk hs; have HE5 := As.mk (HEN.out.grown hg HLT0.out); have HB5 := As.mk (HBW.out.grown hg HBW.out.size (fun k hk => by injection hk with hk; omega)); clear hr hg hs)
                      | (go_at_call 160; (with_reducible refine (zero_any y HYB.out A5 y.length c5 w5 true (iff_of_true rfl HZ.out) RD5.out (by have := HYL.out; have := HK4B.out; omega)).mono ?_); rintro e w6 ⟨rfl, hb⟩; have R6 := As.mk (R5.out.below hb); have HE6 := As.mk (HE5.out.below hb); have HB6 := As.mk (below_step HB5.out hb); clear hb)
                      | (go_at_call 159; (with_reducible refine (doneT wp.heap.size w6 st5 0 R6.out HD.out).mono ?_); rintro e w7 ⟨rfl, rfl⟩))
                    go_ret3
                    exact ⟨B, ce, below_step HB1e.out HB6.out, .inl ⟨HTG.out, by rw [HPLE.out, HPO.out, decide_eq_true HZ.out]; rfl, rfl, by rw [HPLE.out]; exact HE6.out.rde⟩⟩
                  · have HD0 := As.mk hd0
                    have e2 : (d != 0) = true := by simp [hd0]
                    have e3 : (d == 0) = false := beq_eq_false_iff_ne.2 hd0
                    clear hd0
                    go_wp2_with (first
                      | (go_at_call 157; (with_reducible refine (fixT wp.heap.size wr (stN pl m) st5 y HST.out.s k4 _ rfl (by have := HK4B.out; omega) HS5.out HY.out).mono ?_); rintro e w5 ⟨A5, c5, rfl, hr, hg, hs⟩; have RD5 := As.mk hr; have R5 := As.mk hs; have HE5 := As.mk (HEN.out.grown hg HLT0.out); have HB5 := As.mk (HBW.out.grown hg HBW.out.size (fun k hk => by injection hk with hk; omega)); clear hr hg hs)
                      | (go_at_call 160; (with_reducible refine (zero_any y HYB.out A5 y.length c5 w5 true (iff_of_true rfl HZ.out) RD5.out (by have := HYL.out; have := HK4B.out; omega)).mono ?_); rintro e w6 ⟨rfl, hb⟩; have R6 := As.mk (R5.out.below hb); have HE6 := As.mk (HE5.out.below hb); have HB6 := As.mk (below_step HB5.out hb); clear hb)
                      | (go_at_call 159; (with_reducible refine (doneT wp.heap.size w6 st5 d R6.out HD.out).mono ?_); rintro e w7 ⟨rfl, rfl⟩))
                    go_ret3
                    exact ⟨none, 0, below_step HB1e.out HB6.out, .inr ⟨.inr (by rw [HPLE.out, HPO.out, decide_eq_false HD0.out, Bool.and_false]), rfl⟩⟩
                · have HZ := As.mk hz
                  clear hz
                  go_wp2_with (first
                    | (go_at_call 157; (with_reducible refine (fixT wp.heap.size wr (stN pl m) st5 y HST.out.s k4 _ rfl (by have := HK4B.out; omega) HS5.out HY.out).mono ?_); rintro e w5 ⟨A5, c5, rfl, hr, hg, hs⟩; have RD5 := As.mk hr; have R5 := As.mk hs; have HE5 := As.mk (HEN.out.grown hg HLT0.out); have HB5 := As.mk (HBW.out.grown hg HBW.out.size (fun k hk => by injection hk with hk; omega)); clear hr hg hs)
                    | (go_at_call 160; (with_reducible refine (zero_any y HYB.out A5 y.length c5 w5 false (iff_of_false (by decide) HZ.out) RD5.out (by have := HYL.out; have := HK4B.out; omega)).mono ?_); rintro e w6 ⟨rfl, hb⟩; have R6 := As.mk (R5.out.below hb); have HE6 := As.mk (HE5.out.below hb); have HB6 := As.mk (below_step HB5.out hb); clear hb))
                  go_ret3
                  exact ⟨none, 0, below_step HB1e.out HB6.out, .inr ⟨.inr (by rw [HPLE.out, HPO.out, decide_eq_false HZ.out, Bool.false_and]), rfl⟩⟩
end Go.Proofs.Yteajblfkfmopfaa.Jour
namespace Go.Proofs.Yteajblfkfmopfaa.Jour
set_option linter.unusedVariables false
set_option linter.unusedSimpArgs false
open Go Go.RowKit Go.Proofs.Yteajblfkfmopfaa.Entries Go.Proofs.Yteajblfkfmopfaa.Mem Go.Proofs.Yteajblfkfmopfaa.Pad Go.Proofs.Yteajblfkfmopfaa.Put Go.Proofs.Yteajblfkfmopfaa.Geo Go.Proofs.Yteajblfkfmopfaa.Val Go.Proofs.Yteajblfkfmopfaa.Reader Go.Proofs.Yteajblfkfmopfaa.Sum Go.Proofs.Yteajblfkfmopfaa.Hmac

/-- the i-th sector that is told -/
def chunk4 (pl : List Int) (i : Nat) : List Int := (pl.drop (4 * i)).take 4
theorem stN_facts {pl : List Int} : ∀ i, (stN pl i).err = 0 → stN pl i = ⟨0, pl.drop (4 * i)⟩ ∧ 4 * i ≤ pl.length ∧ ∀ j, j < i → svN pl j = valB (chunk4 pl j) ∧ valB (chunk4 pl j) ≤ 1048575
  | 0, _ => ⟨by simp [stN], by simp, fun j hj => by omega⟩
  | i + 1, h => by
    have h1 := num_ok (s := stN pl i) (by decide) h
    have ih := stN_facts i h1.1
    have hl : (stN pl i).left = pl.drop (4 * i) := by rw [ih.1]
    have e1 : stN pl (i + 1) = ⟨0, pl.drop (4 * (i + 1))⟩ := by
      have := h1.2.2.2.1
      show (stN pl i).num 4 1048575 = _
      rw [this, hl, List.drop_drop]
      rfl
    have h2 := h1.2.1
    rw [hl, List.length_drop] at h2
    have h3 := h1.2.2.1
    rw [hl] at h3
    have h4 := h1.2.2.2.2
    rw [hl] at h4
    refine ⟨e1, by omega, fun j hj => ?_⟩
    rcases Nat.lt_succ_iff_lt_or_eq.1 hj with h5 | rfl
    · exact ih.2.2 j h5
    · refine ⟨h4, ?_⟩
      have h6 : (valB (chunk4 pl j) : Int) ≤ 1048575 := h3
      omega
theorem pl_facts {pl : List Int} {m : Nat} (h : plOk pl m = true) : 4 * m ≤ pl.length ∧ (∀ j, j < m → svN pl j = valB (chunk4 pl j) ∧ valB (chunk4 pl j) ≤ 1048575) ∧ pl.drop (4 * m) = List.replicate (pl.length - 4 * m) 0 := by
  unfold plOk at h
  simp only [Bool.and_eq_true, decide_eq_true_eq] at h
  have h1 := fix_ok (done_err h.2)
  have h2 := stN_facts m h1.1
  have hl : (stN pl m).left = pl.drop (4 * m) := by rw [h2.1]
  have h3 := h1.2.2.2
  rw [hl] at h3
  have h4 : ((pl.drop (4 * m)).take (pl.length - 4 * m)) = pl.drop (4 * m) := List.take_of_length_le (by rw [List.length_drop]; exact Nat.le_refl _)
  rw [h4] at h3
  have h5 := h.1
  rw [h3, List.length_drop] at h5
  exact ⟨h2.2.1, h2.2.2, h5⟩
theorem chunk4_len {pl : List Int} {m j : Nat} (h : 4 * m ≤ pl.length) (hj : j < m) : (chunk4 pl j).length = 4 := by
  unfold chunk4
  rw [List.length_take, List.length_drop]; omega
theorem chunk4_byte {pl : List Int} (h : Byte pl) (j : Nat) : Byte (chunk4 pl j) := byte_take (byte_drop h _) _
theorem take_chunk (pl : List Int) (i : Nat) : pl.take (4 * (i + 1)) = pl.take (4 * i) ++ chunk4 pl i := by
  unfold chunk4
  rw [show 4 * (i + 1) = 4 * i + 4 by omega, List.take_add]
theorem secs_esN {rs : List (List Int)} {x m : Nat} {pl : List Int} (hb : Byte pl) (h : plOk pl m = true) : ∀ i, i ≤ m → secs (esN rs x pl i) = pl.take (4 * i)
  | 0, _ => by simp [esN, secs]
  | i + 1, hi => by
    have hf := pl_facts h
    have h1 := hf.2.1 i (by omega)
    have ih := secs_esN (rs := rs) (x := x) hb h i (by omega)
    rw [esN_succ, take_chunk, ← ih]
    unfold secs
    rw [List.flatMap_append]
    congr 1
    simp only [List.flatMap_cons, List.flatMap_nil, List.append_nil]
    rw [h1.1, Int.toNat_natCast]
    exact beB_valB _ (chunk4_byte hb i) 4 (chunk4_len hf.1 (by omega))
theorem esN_len (rs : List (List Int)) (x : Nat) (pl : List Int) (i : Nat) : (esN rs x pl i).length = i := by simp [esN]
theorem datas_esN {rs : List (List Int)} {x : Nat} {pl : List Int} : ∀ i, 1 + x + i ≤ rs.length → datas (esN rs x pl i) = ((rs.drop (1 + x)).take i).flatten
  | 0, _ => by simp [esN, datas]
  | i + 1, hi => by
    have ih := datas_esN (rs := rs) (x := x) (pl := pl) i (by omega)
    have h1 := Go.Proofs.Yteajblfkfmopfaa.Sum.flat_snoc (rs.drop (1 + x)) i (by rw [List.length_drop]; omega)
    rw [esN_succ, h1, ← ih]
    unfold datas
    rw [List.flatMap_append]
    congr 1
    simp only [List.flatMap_cons, List.flatMap_nil, List.append_nil]
    unfold nthP
    rw [List.getD_eq_getElem?_getD, List.getD_eq_getElem?_getD, List.getElem?_drop]
theorem esN_at {rs : List (List Int)} {x : Nat} {pl : List Int} {m j : Nat} (hj : j < m) : nthE (esN rs x pl m) j = (svN pl j, nthP rs (1 + x + j)) := by
  simp [nthE, esN, List.getD_eq_getElem?_getD, hj]
theorem may_esN {rs : List (List Int)} {x m s : Nat} {pl : List Int} (h : plOk pl m = true) (hr : 1 + x + m ≤ rs.length) (hs : ∀ j, j < rs.length → (nthP rs j).length = s) : mayB (esN rs x pl m) s = true := by
  rw [may_iff]
  intro j hj
  rw [esN_len] at hj
  rw [esN_at hj]
  have h1 := (pl_facts h).2.1 j hj
  refine ⟨by show 0 ≤ svN pl j; rw [h1.1]; omega, by show svN pl j ≤ _; rw [h1.1]; have := h1.2; omega, hs _ (by omega)⟩
theorem nthP_mem {rs : List (List Int)} {j : Nat} (h : j < rs.length) : nthP rs j ∈ rs := by
  unfold nthP
  rw [List.getD_eq_getElem?_getD, List.getElem?_eq_getElem h]
  exact List.getElem_mem _
theorem byte_esN {rs : List (List Int)} {x m : Nat} {pl : List Int} (hb : ∀ p ∈ rs, Byte p) (hr : 1 + x + m ≤ rs.length) : ∀ e ∈ esN rs x pl m, Byte e.2 := fun e he => by
  obtain ⟨j, hj, rfl⟩ := List.mem_map.1 he
  exact hb _ (nthP_mem (by have := List.mem_range.1 hj; omega))
theorem take_nthP {rs : List (List Int)} (h : 0 < rs.length) (q : Nat) : (rs.take (1 + q)).flatten = nthP rs 0 ++ ((rs.drop 1).take q).flatten := by
  rcases rs with _ | ⟨r, t⟩
  · simp at h
  · rw [Nat.add_comm 1 q, List.take_succ_cons, List.flatten_cons]; rfl
theorem split_rows (rs : List (List Int)) (x m : Nat) : ((rs.drop 1).take (x + m)).flatten = ((rs.drop 1).take x).flatten ++ ((rs.drop (1 + x)).take m).flatten := by
  rw [List.take_add, List.flatten_append, List.drop_drop]
theorem pack_of_unpack {key : List Int} {rs : List (List Int)} {s m : Nat} (hb : ∀ p ∈ rs, Byte p) (hw : ∀ j, j < rs.length → (nthP rs j).length = s) (hs : 64 ≤ s) (hh : headOk (nthP rs 0) = true) (hm : headN (nthP rs 0) = m)
    (hr : recN m s ≤ rs.length) (ht : tagOk key rs (recN m s - 1) = true) (hp : plOk (placesB rs (ceil (4 * m) s)) m = true) :
    packB key (headC (nthP rs 0)) (esN rs (ceil (4 * m) s) (placesB rs (ceil (4 * m) s)) m) s = (rs.take (recN m s)).flatten := by
  obtain ⟨x, hx⟩ : ∃ x, ceil (4 * m) s = x := ⟨_, rfl⟩
  have hrec : recN m s = 1 + (x + m) := by rw [← hx]; unfold recN; omega
  rw [hrec] at hr ht ⊢
  rw [show 1 + (x + m) - 1 = x + m by omega] at ht
  rw [hx] at hp ⊢
  obtain ⟨pl, hpl⟩ : ∃ p, placesB rs x = p := ⟨_, rfl⟩
  rw [hpl] at hp ⊢
  have hbp : Byte pl := by
    rw [← hpl]
    intro y hy
    obtain ⟨p, hp2, hy2⟩ := List.mem_flatten.1 hy
    exact hb p (List.mem_of_mem_drop (List.mem_of_mem_take hp2)) y hy2
  have hpll : pl.length = x * s := by
    rw [← hpl]
    unfold placesB
    rw [flat_eq (B := s) (fun p hp2 => by
      obtain ⟨j, hj, rfl⟩ := mem_nthP (List.mem_of_mem_drop (List.mem_of_mem_take hp2))
      exact hw j hj), List.length_take, List.length_drop]
    congr 1
    omega
  have hf := pl_facts hp
  have hpad := padN_ceil (n := 4 * m) (show 0 < s by omega)
  rw [hx] at hpad
  have hbody : bodyB (esN rs x pl m) s = ((rs.drop 1).take (x + m)).flatten := by
    unfold bodyB padB
    rw [secs_esN hbp hp m (Nat.le_refl _), datas_esN m (by omega), split_rows]
    congr 1
    rw [List.length_take, Nat.min_eq_left hf.1, show padN (4 * m) s = pl.length - 4 * m by omega, ← hf.2.2, List.take_append_drop]
    exact hpl.symm
  have h0 := (headOk_iff _).1 hh
  have hc : headC (nthP rs 0) = valB (((nthP rs 0).drop 4).take 8) := by unfold headC; rw [if_pos hh]
  have hn : m = valB (((nthP rs 0).drop 12).take 4) := by rw [← hm]; unfold headN; rw [if_pos hh]
  have hby := hb _ (nthP_mem (rs := rs) (j := 0) (by omega))
  have hl0 := hw 0 (by omega)
  obtain ⟨r0, hr0⟩ : ∃ r, nthP rs 0 = r := ⟨_, rfl⟩
  rw [hr0] at h0 hc hn hby hl0
  have hfr : frontB (headC r0) m = r0.take 16 := by
    unfold frontB
    rw [hr0] at *
    have e8 : beB 8 (headC r0) = (r0.drop 4).take 8 := by rw [hc]; exact beB_valB _ (byte_take (byte_drop hby 4) 8) 8 (by rw [List.length_take, List.length_drop]; omega)
    have e4 : beB 4 m = (r0.drop 12).take 4 := by rw [hn]; exact beB_valB _ (byte_take (byte_drop hby 12) 4) 4 (by rw [List.length_take, List.length_drop]; omega)
    rw [e8, e4, ← h0.2.1, show 16 = 4 + 8 + 4 by rfl, List.take_add, List.take_add]
  have htg : tagJ key (headC r0) (esN rs x pl m) s = (r0.drop 16).take 32 := by
    unfold tagJ
    rw [esN_len, hfr, hbody]
    unfold tagOk pts at ht
    rw [decide_eq_true_eq, List.flatten_cons, hr0] at ht
    exact ht
  unfold packB
  rw [take_nthP (by omega), hr0, hbody]
  congr 1
  rw [head_eq key _ _ hs, esN_len, hfr, htg, ← hl0, ← h0.2.2.2.2, List.append_assoc]
  have h1 : r0.drop 16 = (r0.drop 16).take 32 ++ r0.drop 48 := by
    have := List.take_append_drop 32 (r0.drop 16)
    rw [List.drop_drop] at this
    exact this.symm
  rw [← h1, List.take_append_drop]
end Go.Proofs.Yteajblfkfmopfaa.Jour
