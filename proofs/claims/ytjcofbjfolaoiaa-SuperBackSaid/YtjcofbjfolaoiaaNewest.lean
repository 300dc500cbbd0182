/- super.Newest. -/
import Derived.Test.YtjcofbjfolaoiaaTakeX
import Derived.Test.YtjcofbjfolaoiaaTakeZ
import Derived.Test.YtjcofbjfolaoiaaTakeV
namespace Go.Proofs.Ytjcofbjfolaoiaa.SlotP
set_option linter.unusedVariables false
set_option linter.unusedSimpArgs false
open Go Go.RowKit Go.Proofs.Ytjcofbjfolaoiaa.Mem Go.Proofs.Ytjcofbjfolaoiaa.Put Go.Proofs.Ytjcofbjfolaoiaa.Geo Go.Proofs.Ytjcofbjfolaoiaa.RefPutN Go.Proofs.Ytjcofbjfolaoiaa.Val Go.Proofs.Ytjcofbjfolaoiaa.Reader Go.Proofs.Ytjcofbjfolaoiaa.LayA

theorem take_any (b : List Int) (hbb : Byte b) (A : Option Addr) (n c : Nat) (w : World) (h0 : Rd .u8 w A n c b) (hm : n ≤ 140737488351232) :
    Calls Try.prog 42 #[.slice A n c] w fun e w' => e = .returned (.tuple #[.agg (tookA b), .int .i64 (okI b (raw b 4 8)), .int .i64 (takeE b)]) ∧ Below w.heap.size w w' := by
  by_cases hn : n < 54
  · exact take_short' b A n c w h0 hn
  · have hn2 : 54 ≤ n := by omega
    by_cases hh : InB b ∧ rightB (raw b 12 2) (raw b 14 2) (raw b 16 2) (raw b 18 4) = true
    · by_cases m1 : (b.take 22).take 4 = mark
      · by_cases l1 : n = raw b 12 2
        · by_cases a1 : b.take 22 = (wantB b).take 22
          · by_cases b1 : b.drop 54 = (wantB b).drop 54
            · exact take_y5 b hbb A n c w h0 hn2 hm hh m1 l1 a1 b1
            · exact take_y4 b hbb A n c w h0 hn2 hm hh m1 l1 a1 b1
          · exact take_y3 b hbb A n c w h0 hn2 hm hh m1 l1 a1
        · exact take_y2 b hbb A n c w h0 hn2 hm hh m1 l1
      · exact take_y1 b hbb A n c w h0 hn2 hm hh m1
    · exact take_x b hbb A n c w h0 hn2 hm hh
theorem tookA_size (b : List Int) : (tookA b).size = 4 := rfl
theorem tookA_one (b : List Int) : (tookA b).all (·.oneCell') = true := one4 _ _ _ _
theorem okI_ge (b : List Int) (n : Nat) : 0 ≤ okI b n := by unfold okI; split <;> omega
def verI (b : List Int) : Int := okI b (raw b 4 8)
/-- what the newer one of two is: cells, version, slot -/
def newG (a b : List Int) : Nat → Array Value
  | 0 => #[.int .i64 0, .int .i64 0, .int .i64 0, .int .i64 0]
  | 1 => if takeE a = 0 then tookA a else #[.int .i64 0, .int .i64 0, .int .i64 0, .int .i64 0]
  | _ => if takeE b = 0 ∧ (if takeE a = 0 then verI a else -1) < verI b then tookA b else if takeE a = 0 then tookA a else #[.int .i64 0, .int .i64 0, .int .i64 0, .int .i64 0]
def newV (a b : List Int) : Nat → Int
  | 0 => -1
  | 1 => if takeE a = 0 then verI a else -1
  | _ => if takeE b = 0 ∧ (if takeE a = 0 then verI a else -1) < verI b then verI b else if takeE a = 0 then verI a else -1
def newS (a b : List Int) : Nat → Int
  | 0 => 0
  | 1 => 0
  | _ => if takeE b = 0 ∧ (if takeE a = 0 then verI a else -1) < verI b then 1 else 0
theorem newG_or (a b : List Int) (i : Nat) : newG a b i = #[.int .i64 0, .int .i64 0, .int .i64 0, .int .i64 0] ∨ newG a b i = tookA a ∨ newG a b i = tookA b := by
  rcases i with _ | _ | i
  · exact .inl rfl
  · show (if takeE a = 0 then tookA a else #[.int .i64 0, .int .i64 0, .int .i64 0, .int .i64 0]) = #[.int .i64 0, .int .i64 0, .int .i64 0, .int .i64 0] ∨ (if takeE a = 0 then tookA a else #[.int .i64 0, .int .i64 0, .int .i64 0, .int .i64 0]) = tookA a ∨ (if takeE a = 0 then tookA a else #[.int .i64 0, .int .i64 0, .int .i64 0, .int .i64 0]) = tookA b
    by_cases h : takeE a = 0
    · rw [if_pos h]; exact .inr (.inl rfl)
    · rw [if_neg h]; exact .inl rfl
  · show (if takeE b = 0 ∧ (if takeE a = 0 then verI a else -1) < verI b then tookA b else if takeE a = 0 then tookA a else #[.int .i64 0, .int .i64 0, .int .i64 0, .int .i64 0]) = #[.int .i64 0, .int .i64 0, .int .i64 0, .int .i64 0] ∨ (if takeE b = 0 ∧ (if takeE a = 0 then verI a else -1) < verI b then tookA b else if takeE a = 0 then tookA a else #[.int .i64 0, .int .i64 0, .int .i64 0, .int .i64 0]) = tookA a ∨ (if takeE b = 0 ∧ (if takeE a = 0 then verI a else -1) < verI b then tookA b else if takeE a = 0 then tookA a else #[.int .i64 0, .int .i64 0, .int .i64 0, .int .i64 0]) = tookA b
    by_cases h2 : takeE b = 0 ∧ (if takeE a = 0 then verI a else -1) < verI b
    · rw [if_pos h2]; exact .inr (.inr rfl)
    · rw [if_neg h2]
      by_cases h : takeE a = 0
      · rw [if_pos h]; exact .inr (.inl rfl)
      · rw [if_neg h]; exact .inl rfl
theorem newG_size (a b : List Int) (i : Nat) : (newG a b i).size = 4 := by
  rcases newG_or a b i with h | h | h <;> rw [h] <;> rfl
theorem newG_one (a b : List Int) (i : Nat) : (newG a b i).all (·.oneCell') = true := by
  rcases newG_or a b i with h | h | h <;> rw [h] <;> exact one4 _ _ _ _
theorem newG1 (a b : List Int) : newG a b (0 + 1) = if takeE a = 0 then tookA a else #[.int .i64 0, .int .i64 0, .int .i64 0, .int .i64 0] := rfl
theorem newV1 (a b : List Int) : newV a b (0 + 1) = if takeE a = 0 then verI a else -1 := rfl
theorem newS1 (a b : List Int) : newS a b (0 + 1) = 0 := rfl
theorem newG2 (a b : List Int) : newG a b 2 = if takeE b = 0 ∧ (if takeE a = 0 then verI a else -1) < verI b then tookA b else if takeE a = 0 then tookA a else #[.int .i64 0, .int .i64 0, .int .i64 0, .int .i64 0] := rfl
theorem newV2 (a b : List Int) : newV a b 2 = if takeE b = 0 ∧ (if takeE a = 0 then verI a else -1) < verI b then verI b else if takeE a = 0 then verI a else -1 := rfl
theorem newS2 (a b : List Int) : newS a b 2 = if takeE b = 0 ∧ (if takeE a = 0 then verI a else -1) < verI b then 1 else 0 := rfl
theorem run_index_two {P : Program} (w : World) (t e b : TypeId) (k : IntKind) (ht : P.underlying t = some (.array 2 e)) (he : P.underlying e = some (.slice b)) (hs : (P.info? e).map (·.size) = some 1) (x y : Value) :
    (Instr.index t (.agg #[x, y]) (.int k 0)).run P w = .ok x w ∧ (Instr.index t (.agg #[x, y]) (.int k 1)).run P w = .ok y w := by
  obtain ⟨i, hi, h1⟩ := Option.map_eq_some_iff.1 hs
  constructor
  · simp [Instr.index, run_underlying ht, run_underlying he, asIntOf, sizeOf, typeInfo, hi, h1, part, isAgg]
  · simp [Instr.index, run_underlying ht, run_underlying he, asIntOf, sizeOf, typeInfo, hi, h1, part, isAgg]
def newR (a b : List Int) : Value := if newV a b 2 < 0 then .tuple #[.agg #[.int .i64 0, .int .i64 0, .int .i64 0, .int .i64 0], .int .i64 0, .int .i64 0, .int .i64 31] else .tuple #[.agg (newG a b 2), .int .i64 (newV a b 2), .int .i64 (newS a b 2), .int .i64 0]
theorem results_row_tmp3 {P : Program} {fn : Func} {p u u2 u3 : Tmp} {ty : TypeId} (h : fn.results = #[.cell p ty, .tmp u, .tmp u2, .tmp u3]) (tmps : Array Value) (w : World) (g : Nat) (t : TypeId) (cs : Array Value) (fr : Nat × Nat) (d : TypeDesc) (v v2 v3 : Value)
    (hp : tmps.getD p undef = .pointer (some ⟨g, 0, none⟩)) (hv : tmps.getD u undef = v) (hv2 : tmps.getD u2 undef = v2) (hv3 : tmps.getD u3 undef = v3) (hg : w.heap[g]? = some (.cells cs t fr))
    (hu : P.underlying ty = some d) (hd : (match d with | .struct _ | .array _ _ => true | _ => false) = true) (hi : (P.info? ty).map (·.size) = some cs.size) :
    (results fn tmps).run P w = .ok (.tuple #[.agg cs, v, v2, v3]) w := by
  have hp' : tmps[p]?.getD undef = .pointer (some ⟨g, 0, none⟩) := by simpa using hp
  have hv' : tmps[u]?.getD undef = v := by simpa using hv
  have hv2' : tmps[u2]?.getD undef = v2 := by simpa using hv2
  have hv3' : tmps[u3]?.getD undef = v3 := by simpa using hv3
  simp only [results, h]
  simp [Sem.run_bind, hp', hv', hv2', hv3', asAddr, run_loadVar_row w g t ty cs fr d hg hu hd hi]
set_option maxHeartbeats 4000000 in
set_option maxRecDepth 100000 in
theorem newest_any (a b : List Int) (ha : Byte a) (hb : Byte b) (A B : Option Addr) (n m c d : Nat) (w : World) (h0 : Rd .u8 w A n c a) (h1 : Rd .u8 w B m d b) (hn : n ≤ 140737488351232) (hm : m ≤ 140737488351232) :
    Calls Try.prog 44 #[.slice A n c, .slice B m d] w fun e w' => e = .returned (newR a b) ∧ Below w.heap.size w w' := by
  have HA := As.mk ha
  have HBY := As.mk hb
  have H0 := As.mk h0
  have H1 := As.mk h1
  have HN := As.mk hn
  have HM := As.mk hm
  have HG0 := As.mk (heap_alloc_new w (.cells #[.int .i64 0, .int .i64 0, .int .i64 0, .int .i64 0] 53))
  have HB0 := As.mk (below_alloc (Below.refl w.heap.size w) (.cells #[.int .i64 0, .int .i64 0, .int .i64 0, .int .i64 0] 53))
  have HZ0 := As.mk (show w.heap.size < (w.alloc (.cells #[.int .i64 0, .int .i64 0, .int .i64 0, .int .i64 0] 53)).heap.size by simp)
  clear ha hb h0 h1 hn hm
  go_enter Try.func44, Try.ntmps44
  go_wp2
  generalize w.alloc (.cells #[.int .i64 0, .int .i64 0, .int .i64 0, .int .i64 0] 53) = w1 at *
  go_loopg [5, 6, 16] 2 (fun kq v5 v6 v16 wr => ∃ i : Nat, i + kq = 2 ∧ v5 = .int .i64 (newV a b i) ∧ v6 = .int .i64 (newS a b i) ∧ v16 = .int .i64 i ∧ As (wr.heap[w.heap.size]? = some (.cells (newG a b i) 53 (0, 0))) ∧ As (Below w.heap.size w wr))
  case atStart => exact ⟨0, by omega, rfl, rfl, rfl, HG0, HB0⟩
  case round =>
    obtain ⟨i, hi, rfl, rfl, rfl, HG, HB⟩ := hrel
    clear HG0 HB0 HZ0
    have HZ := As.mk (Array.getElem?_eq_some_iff.1 HG.out).1
    rcases i with _ | _ | _ | i
    · have HR := As.mk (H0.out.below HB.out)
      have HVV := As.mk (show newV a b 0 = newV a b 0 from rfl)
      obtain ⟨gv, hgv⟩ : ∃ y, newV a b 0 = y := ⟨_, rfl⟩
      obtain ⟨gs, hgs⟩ : ∃ y, newS a b 0 = y := ⟨_, rfl⟩
      obtain ⟨gg, hgg⟩ : ∃ y, newG a b 0 = y := ⟨_, rfl⟩
      obtain ⟨te, hte⟩ : ∃ y, takeE a = y := ⟨_, rfl⟩
      obtain ⟨tv, htv⟩ : ∃ y, okI a (raw a 4 8) = y := ⟨_, rfl⟩
      have HGV := As.mk hgv
      have HGS := As.mk hgs
      have HGG := As.mk hgg
      have HTE := As.mk hte
      have HTV := As.mk htv
      have HGZ := As.mk (show gg.size = 4 by rw [← hgg]; exact newG_size a b 0)
      have HTK : As (∀ W, Rd .u8 W A n c a → Calls Try.prog 42 #[.slice A n c] W fun e w' => e = .returned (.tuple #[.agg (tookA a), .int .i64 tv, .int .i64 te]) ∧ Below W.heap.size W w') := ⟨fun W h => by rw [← hte, ← htv]; exact take_any a HA.out A n c W h HN.out⟩
      rw [hgg] at HG
      rw [hgv, hgs]
      clear hgv hgs hgg hte htv HVV
      have hix := fun W => (run_index_two (P := Try.prog) W 156 32 5 .i64 Try.underlying156 Try.underlying32 (by kernel_rfl) (.slice A n c) (.slice B m d)).1
      go_wp2_with (first
        | (go_at_call 42; (with_reducible refine (HTK.out _ HR.out).mono ?_); rintro e w3 ⟨rfl, hb3⟩; have HG3 := As.mk (g9b hb3 HG.out); have HB3 := As.mk (below_step HB.out hb3); have HZ3 := As.mk (Nat.lt_of_lt_of_le HZ.out hb3.size); clear hb3)
        | (refine wpList_storeNew rfl rfl 53 _ _ rfl rfl (tookA a) rfl 53 #[.int .i64 0, .int .i64 0, .int .i64 0, .int .i64 0] info_geom rfl (tookA_one a) ?_; refine As.out ?_))
      refine As.mk ?_
      have HG4 := As.mk ((heap_alloc_old w3 (.cells (tookA a) 53) HZ3.out).trans HG3.out)
      have HT4 := As.mk (heap_alloc_new w3 (.cells (tookA a) 53))
      have HB4 := As.mk (below_alloc HB3.out (.cells (tookA a) 53))
      generalize w3.alloc (.cells (tookA a) 53) = w4 at *
      generalize w3.heap.size = g4 at *
      by_cases hz : te = 0
      · have t0 : (te == 0) = true := beq_iff_eq.2 hz
        by_cases hv : gv < tv
        · have t1 : decide (gv < tv) = true := decide_eq_true hv
          have HNX : As (newG a b 1 = tookA a ∧ newV a b 1 = tv ∧ newS a b 1 = 0) := ⟨by
            have e := HTE.out
            rw [hz] at e
            have hv2 : verI a = tv := HTV.out
            refine ⟨by rw [newG1, if_pos e], by rw [newV1, if_pos e, hv2], rfl⟩⟩
          clear hz hv
          go_wp2_with (first
            | (refine wpList_load_row rfl 53 (.tmp 10) rfl g4 rfl 53 (tookA a) (0, 0) _ HT4.out Try.underlying53 rfl info_geom ?_)
            | (refine wpList_storeArr rfl rfl 53 (.tmp 4) _ rfl w.heap.size rfl (tookA a) rfl 53 gg HG4.out info_geom (by rw [HGZ.out]; rfl) (tookA_one a) ?_))
          go_roundg (2 - 1)
          case measure => omega
          case rel => exact ⟨1, by omega, by rw [HNX.out.2.1], by rw [HNX.out.2.2], rfl, ⟨by rw [HNX.out.1]; exact setRow_new _ _ gg _ _ HG4.out⟩, ⟨LayA.below_setRow HB4.out _ (Nat.le_refl _) _⟩⟩
        · have t1 : decide (gv < tv) = false := decide_eq_false hv
          have HNX : As (newG a b 1 = gg ∧ newV a b 1 = gv ∧ newS a b 1 = gs) := ⟨by
            have h1 : gv = -1 := HGV.out.symm
            have h2 : 0 ≤ tv := by rw [← HTV.out]; exact okI_ge _ _
            omega⟩
          clear hz hv
          go_wp2
          go_roundg (2 - 1)
          case measure => omega
          case rel => exact ⟨1, by omega, by rw [HNX.out.2.1], by rw [HNX.out.2.2], rfl, ⟨by rw [HNX.out.1]; exact HG4.out⟩, HB4⟩
      · have t0 : (te == 0) = false := beq_eq_false_iff_ne.2 hz
        have HNX : As (newG a b 1 = gg ∧ newV a b 1 = gv ∧ newS a b 1 = gs) := ⟨by
          have e : ¬ takeE a = 0 := by rw [HTE.out]; exact hz
          have h1 := HGG.out
          have h2 := HGV.out
          have h3 := HGS.out
          rw [← h1, ← h2, ← h3]
          exact ⟨by rw [newG1, if_neg e]; rfl, by rw [newV1, if_neg e]; rfl, rfl⟩⟩
        clear hz
        go_wp2
        go_roundg (2 - 1)
        case measure => omega
        case rel => exact ⟨1, by omega, by rw [HNX.out.2.1], by rw [HNX.out.2.2], rfl, ⟨by rw [HNX.out.1]; exact HG4.out⟩, HB4⟩
    · have HR := As.mk (H1.out.below HB.out)
      have HVV := As.mk (show newV a b 1 = newV a b 1 from rfl)
      obtain ⟨gv, hgv⟩ : ∃ y, newV a b 1 = y := ⟨_, rfl⟩
      obtain ⟨gs, hgs⟩ : ∃ y, newS a b 1 = y := ⟨_, rfl⟩
      obtain ⟨gg, hgg⟩ : ∃ y, newG a b 1 = y := ⟨_, rfl⟩
      obtain ⟨te, hte⟩ : ∃ y, takeE b = y := ⟨_, rfl⟩
      obtain ⟨tv, htv⟩ : ∃ y, okI b (raw b 4 8) = y := ⟨_, rfl⟩
      have HGV := As.mk hgv
      have HGS := As.mk hgs
      have HGG := As.mk hgg
      have HTE := As.mk hte
      have HTV := As.mk htv
      have HGZ := As.mk (show gg.size = 4 by rw [← hgg]; exact newG_size a b 1)
      have HTK : As (∀ W, Rd .u8 W B m d b → Calls Try.prog 42 #[.slice B m d] W fun e w' => e = .returned (.tuple #[.agg (tookA b), .int .i64 tv, .int .i64 te]) ∧ Below W.heap.size W w') := ⟨fun W h => by rw [← hte, ← htv]; exact take_any b HBY.out B m d W h HM.out⟩
      rw [hgg] at HG
      rw [hgv, hgs]
      clear hgv hgs hgg hte htv HVV
      have hix := fun W => (run_index_two (P := Try.prog) W 156 32 5 .i64 Try.underlying156 Try.underlying32 (by kernel_rfl) (.slice A n c) (.slice B m d)).2
      go_wp2_with (first
        | (go_at_call 42; (with_reducible refine (HTK.out _ HR.out).mono ?_); rintro e w3 ⟨rfl, hb3⟩; have HG3 := As.mk (g9b hb3 HG.out); have HB3 := As.mk (below_step HB.out hb3); have HZ3 := As.mk (Nat.lt_of_lt_of_le HZ.out hb3.size); clear hb3)
        | (refine wpList_storeNew rfl rfl 53 _ _ rfl rfl (tookA b) rfl 53 #[.int .i64 0, .int .i64 0, .int .i64 0, .int .i64 0] info_geom rfl (tookA_one b) ?_; refine As.out ?_))
      refine As.mk ?_
      have HG4 := As.mk ((heap_alloc_old w3 (.cells (tookA b) 53) HZ3.out).trans HG3.out)
      have HT4 := As.mk (heap_alloc_new w3 (.cells (tookA b) 53))
      have HB4 := As.mk (below_alloc HB3.out (.cells (tookA b) 53))
      generalize w3.alloc (.cells (tookA b) 53) = w4 at *
      generalize w3.heap.size = g4 at *
      by_cases hz : te = 0
      · have t0 : (te == 0) = true := beq_iff_eq.2 hz
        by_cases hv : gv < tv
        · have t1 : decide (gv < tv) = true := decide_eq_true hv
          have HNX : As (newG a b 2 = tookA b ∧ newV a b 2 = tv ∧ newS a b 2 = 1) := ⟨by
            have e := HTE.out
            rw [hz] at e
            have hv2 : verI b = tv := HTV.out
            have h2 : (if takeE a = 0 then verI a else -1) = gv := HGV.out
            have hc : takeE b = 0 ∧ (if takeE a = 0 then verI a else -1) < verI b := ⟨e, by rw [h2, hv2]; exact hv⟩
            exact ⟨by rw [newG2, if_pos hc], by rw [newV2, if_pos hc, hv2], by rw [newS2, if_pos hc]⟩⟩
          clear hz hv
          go_wp2_with (first
            | (refine wpList_load_row rfl 53 (.tmp 10) rfl g4 rfl 53 (tookA b) (0, 0) _ HT4.out Try.underlying53 rfl info_geom ?_)
            | (refine wpList_storeArr rfl rfl 53 (.tmp 4) _ rfl w.heap.size rfl (tookA b) rfl 53 gg HG4.out info_geom (by rw [HGZ.out]; rfl) (tookA_one b) ?_))
          go_roundg (2 - 2)
          case measure => omega
          case rel => exact ⟨2, by omega, by rw [HNX.out.2.1], by rw [HNX.out.2.2], rfl, ⟨by rw [HNX.out.1]; exact setRow_new _ _ gg _ _ HG4.out⟩, ⟨LayA.below_setRow HB4.out _ (Nat.le_refl _) _⟩⟩
        · have t1 : decide (gv < tv) = false := decide_eq_false hv
          have HNX : As (newG a b 2 = gg ∧ newV a b 2 = gv ∧ newS a b 2 = gs) := ⟨by
            have hv2 : verI b = tv := HTV.out
            have h2 : (if takeE a = 0 then verI a else -1) = gv := HGV.out
            have h1 : (if takeE a = 0 then tookA a else #[.int .i64 0, .int .i64 0, .int .i64 0, .int .i64 0]) = gg := HGG.out
            have h3 : (0 : Int) = gs := HGS.out
            have hc : ¬ (takeE b = 0 ∧ (if takeE a = 0 then verI a else -1) < verI b) := fun h => hv (by have := h.2; rw [h2, hv2] at this; exact this)
            exact ⟨by rw [newG2, if_neg hc]; exact h1, by rw [newV2, if_neg hc]; exact h2, by rw [newS2, if_neg hc]; exact h3⟩⟩
          clear hz hv
          go_wp2
          go_roundg (2 - 2)
          case measure => omega
          case rel => exact ⟨2, by omega, by rw [HNX.out.2.1], by rw [HNX.out.2.2], rfl, ⟨by rw [HNX.out.1]; exact HG4.out⟩, HB4⟩
      · have t0 : (te == 0) = false := beq_eq_false_iff_ne.2 hz
        have HNX : As (newG a b 2 = gg ∧ newV a b 2 = gv ∧ newS a b 2 = gs) := ⟨by
          have h2 : (if takeE a = 0 then verI a else -1) = gv := HGV.out
          have h1 : (if takeE a = 0 then tookA a else #[.int .i64 0, .int .i64 0, .int .i64 0, .int .i64 0]) = gg := HGG.out
          have h3 : (0 : Int) = gs := HGS.out
          have hc : ¬ (takeE b = 0 ∧ (if takeE a = 0 then verI a else -1) < verI b) := fun h => hz (by rw [← HTE.out]; exact h.1)
          exact ⟨by rw [newG2, if_neg hc]; exact h1, by rw [newV2, if_neg hc]; exact h2, by rw [newS2, if_neg hc]; exact h3⟩⟩
        clear hz
        go_wp2
        go_roundg (2 - 2)
        case measure => omega
        case rel => exact ⟨2, by omega, by rw [HNX.out.2.1], by rw [HNX.out.2.2], rfl, ⟨by rw [HNX.out.1]; exact HG4.out⟩, HB4⟩
    · obtain ⟨gv, hgv⟩ : ∃ y, newV a b 2 = y := ⟨_, rfl⟩
      obtain ⟨gs, hgs⟩ : ∃ y, newS a b 2 = y := ⟨_, rfl⟩
      obtain ⟨gg, hgg⟩ : ∃ y, newG a b 2 = y := ⟨_, rfl⟩
      have HGG := As.mk (And.intro hgg (And.intro hgv hgs))
      have HGZ := As.mk (show gg.size = 4 by rw [← hgg]; exact newG_size a b 2)
      have HGO := As.mk (show gg.all (·.oneCell') = true by rw [← hgg]; exact newG_one a b 2)
      have HG2 : As (wr.heap[w.heap.size]? = some (.cells gg 53 (0, 0))) := ⟨by rw [← hgg]; exact HG.out⟩
      have hgv' : newV a b (0 + 1 + 1) = gv := hgv
      have hgs' : newS a b (0 + 1 + 1) = gs := hgs
      rw [hgv', hgs']
      clear hgg hgv hgs HG hgv' hgs'
      by_cases hneg : gv < 0
      · have t0 : decide (gv < 0) = true := decide_eq_true hneg
        have HNG := As.mk hneg
        clear hneg
        go_wp2_with (first
          | (refine wpList_storeArr rfl rfl 53 (.tmp 4) _ rfl w.heap.size rfl #[.int .i64 0, .int .i64 0, .int .i64 0, .int .i64 0] rfl 53 gg HG2.out info_geom (by rw [HGZ.out]; rfl) (one4 _ _ _ _) ?_))
        refine bodyPost_ret (results_row_tmp3 Try.results44 _ _ w.heap.size 53 #[.int .i64 0, .int .i64 0, .int .i64 0, .int .i64 0] (0, 0) _ (.int .i64 0) (.int .i64 0) (.int .i64 31) rfl rfl rfl rfl (setRow_new _ _ gg _ _ HG2.out) Try.underlying53 rfl info_geom) rfl ⟨by unfold newR; rw [HGG.out.2.1, if_pos HNG.out], LayA.below_setRow HB.out _ (Nat.le_refl _) _⟩
      · have t0 : decide (gv < 0) = false := decide_eq_false hneg
        have HNG := As.mk hneg
        clear hneg
        go_wp2_with (first
          | (refine wpList_load_row rfl 53 (.tmp 4) rfl w.heap.size rfl 53 gg (0, 0) _ HG2.out Try.underlying53 rfl (by rw [HGZ.out]; exact info_geom) ?_)
          | (refine wpList_storeArr rfl rfl 53 (.tmp 4) _ rfl w.heap.size rfl gg rfl 53 gg HG2.out (by rw [HGZ.out]; exact info_geom) rfl HGO.out ?_))
        refine bodyPost_ret (results_row_tmp3 Try.results44 _ _ w.heap.size 53 gg (0, 0) _ (.int .i64 gv) (.int .i64 gs) (.int .i64 0) rfl rfl rfl rfl (setRow_new _ _ gg _ _ HG2.out) Try.underlying53 rfl (by rw [HGZ.out]; exact info_geom)) rfl ⟨by unfold newR; rw [HGG.out.2.1, if_neg (Int.not_lt.2 HNG.out), HGG.out.1, HGG.out.2.2], LayA.below_setRow HB.out _ (Nat.le_refl _) _⟩
    · exact absurd hi (by omega)
theorem newR_none {a b : List Int} (ha : takeE a ≠ 0) (hb : takeE b ≠ 0) : newR a b = .tuple #[.agg #[.int .i64 0, .int .i64 0, .int .i64 0, .int .i64 0], .int .i64 0, .int .i64 0, .int .i64 31] := by
  unfold newR
  rw [if_pos]
  rw [newV2, if_neg (fun h => hb h.1), if_neg ha]
  decide
theorem newR_first {a b : List Int} (ha : takeE a = 0) (hb : takeE b ≠ 0 ∨ verI b ≤ verI a) : newR a b = .tuple #[.agg (tookA a), .int .i64 (verI a), .int .i64 0, .int .i64 0] := by
  have hc : ¬ (takeE b = 0 ∧ (if takeE a = 0 then verI a else -1) < verI b) := by
    rw [if_pos ha]
    rintro ⟨h1, h2⟩
    rcases hb with h | h
    · exact h h1
    · omega
  have h0 : 0 ≤ verI a := okI_ge _ _
  unfold newR
  rw [newV2, newG2, newS2, if_neg hc, if_neg hc, if_neg hc, if_pos ha, if_pos ha, if_neg (by omega)]
theorem newR_second {a b : List Int} (hb : takeE b = 0) (ha : takeE a ≠ 0 ∨ verI a < verI b) : newR a b = .tuple #[.agg (tookA b), .int .i64 (verI b), .int .i64 1, .int .i64 0] := by
  have h0 : 0 ≤ verI b := okI_ge _ _
  have hc : takeE b = 0 ∧ (if takeE a = 0 then verI a else -1) < verI b := by
    refine ⟨hb, ?_⟩
    by_cases h : takeE a = 0
    · rw [if_pos h]
      rcases ha with h1 | h1
      · exact absurd h h1
      · exact h1
    · rw [if_neg h]; omega
  unfold newR
  rw [newV2, newG2, newS2, if_pos hc, if_pos hc, if_pos hc, if_neg (by omega)]
theorem newestK (a b : List Int) (ha : Byte a) (hb : Byte b) (A B : Option Addr) (n m c d : Nat) (w : World) (R : Value) (hR : newR a b = R) (h0 : Rd .u8 w A n c a) (h1 : Rd .u8 w B m d b) (hn : n ≤ 140737488351232) (hm : m ≤ 140737488351232) :
    Calls Try.prog 44 #[.slice A n c, .slice B m d] w fun e w' => e = .returned R ∧ Below w.heap.size w w' := hR ▸ newest_any a b ha hb A B n m c d w h0 h1 hn hm
end Go.Proofs.Ytjcofbjfolaoiaa.SlotP
