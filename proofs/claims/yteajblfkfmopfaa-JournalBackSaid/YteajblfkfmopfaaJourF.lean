/- journal.padded, cut, mark. journal.cut. journal.Pack: what may be. journal.Size, journal.Pack: what may not be. -/
import Derived.Test.YteajblfkfmopfaaJourB
import Derived.Test.YteajblfkfmopfaaZeros
import Derived.Test.YteajblfkfmopfaaParts
namespace Go.Proofs.Yteajblfkfmopfaa.Jour
set_option linter.unusedVariables false
set_option linter.unusedSimpArgs false
open Go Go.RowKit Go.Proofs.Yteajblfkfmopfaa.Mem Go.Proofs.Yteajblfkfmopfaa.Entries Go.Proofs.Yteajblfkfmopfaa.Geo Go.Proofs.Yteajblfkfmopfaa.Sum Go.Proofs.Yteajblfkfmopfaa.Parts

theorem padB_map (x : List Int) (s : Nat) : (padB x s).map (Value.int .u8) = x.map (Value.int .u8) ++ List.replicate (padN x.length s) (.int .u8 0) := by
  unfold padB
  rw [List.map_append, List.map_replicate]
set_option maxHeartbeats 1000000 in
theorem padded_any (base : Nat) (x : List Int) (A : Option Addr) (n c s p m : Nat) (w : World) (hs : 1 ≤ s ∧ s ≤ 256) (hn : n ≤ 1000000000) (h : OwnAt w base (.slice A n c) n (x.map (Value.int .u8))) (hb : base ≤ w.heap.size) (hp : padN n s = p) (hm : n + p = m) :
    Calls Try.prog 148 #[.slice A n c, .int .i64 (s : Int)] w fun e w' => ∃ A' c', e = .returned (.slice A' m c') ∧ OwnAt w' base (.slice A' m c') m ((padB x s).map (Value.int .u8)) ∧ w.grownBy w' (Value.slice A n c).ownBlock ∧ ((Value.slice A' m c').ownBlock = (Value.slice A n c).ownBlock ∨ (Value.slice A' m c').ownBlock = some w.heap.size) := by
  subst hm
  have hl : x.length = n := by have := h.1; simpa using this
  have HP : As ((padB x s).map (Value.int .u8) = x.map (Value.int .u8) ++ List.replicate p (.int .u8 0)) := ⟨by rw [padB_map, hl, hp]⟩
  have H := As.mk h
  have HN := As.mk hn
  have HB := As.mk hb
  have e0 : ¬ (s : Int) = 0 := by omega
  have e1 : ¬ s = 0 := by omega
  obtain ⟨r, hr⟩ : ∃ r, n % s = r := ⟨_, rfl⟩
  have hr2 : r < s := by rw [← hr]; exact Nat.mod_lt _ (by omega)
  have hp2 : (s - r) % s = p := by rw [← hp]; unfold padN; rw [hr]
  have hp3 : p < s := by rw [← hp2]; exact Nat.mod_lt _ (by omega)
  have HPL := As.mk (show p ≤ 256 by omega)
  obtain ⟨q, hq⟩ : ∃ q, q = s - r := ⟨_, rfl⟩
  have t1 : (n : Int).tmod (s : Int) = (r : Int) := by rw [← hr]; rfl
  have t1' : (n : Int) % (s : Int) = (r : Int) := by rw [← hr]; rfl
  have t2 : wrap64 ((s : Int) - (r : Int)) = (q : Int) := wn _ (by omega) (by omega)
  have t3 : (q : Int).tmod (s : Int) = (p : Int) := by rw [← hp2, ← hq]; rfl
  have t3' : (q : Int) % (s : Int) = (p : Int) := by rw [← hp2, ← hq]; rfl
  have t5 : wrap64 (r : Int) = (r : Int) := wn _ rfl (by omega)
  have t6 : wrap64 (p : Int) = (p : Int) := wn _ rfl (by omega)
  clear hl h hn hb hp hr hr2 hp2 hp3 hq hs
  go_enter Try.func148, Try.ntmps148
  go_wp2_with (at_builtin; refine wpList_app_zeros rfl (.tmp 5) (.tmp 13) 37 3 rfl base 5 (.int .u8 0) 1 .i64 .i64 Try.underlying37 Try.underlying3 CloneB.info rfl rfl _ n _ rfl H.out p ?c0 (by decide) ?c1 ?c2 HB.out (Below.refl _ w) (Nat.zero_le _) ?_; (case c0 => first | rfl | (go_simp)); (case c1 => have := HPL.out; have := HN.out; unfold maxLen; omega); (case c2 => have := HPL.out; have := HN.out; omega); intro va wa hown hg hat hb; obtain ⟨Aa, ca, rfl⟩ := hown.slice; rw [← HP.out] at hown; have HOa := As.mk hown; have HG := As.mk hg; have HAT := As.mk hat; clear hown hg hat hb; refine As.out ?_)
  refine As.mk ?_
  clear t1 t1' t2 t3 t3' t5 t6
  go_wp2
  go_ret
  exact ⟨Aa, ca, rfl, HOa.out, HG.out, HAT.out⟩
set_option maxHeartbeats 400000 in
theorem mark_any (w : World) : Calls Try.prog 149 #[] w fun e w' => ∃ A, e = .returned (.slice A 4 4) ∧ Rd .u8 w' A 4 4 markB ∧ Below w.heap.size w w' := by
  have HB := As.mk (below_alloc (Below.refl w.heap.size w) (.cells #[.int .u8 74, .int .u8 82, .int .u8 78, .int .u8 76] 5))
  have HR := As.mk (Rd.lit w .u8 5 markB (by decide))
  go_enter Try.func149, Try.ntmps149
  go_wp2
  go_ret
  exact ⟨_, rfl, HR.out, HB.out⟩
theorem run_cut4 {P : Program} (W : World) (t e : TypeId) {z : Option Value} {size bytes : Nat} (ht : P.underlying t = some (.slice e)) (hinfo : (P.info? e).map (fun i => (i.zero, i.size, i.bytes)) = some (z, size, bytes)) (A : Option Addr) (n c l h : Nat) (k1 k2 k3 : IntKind) (hl : l ≤ h) (hh : h ≤ c) :
    (Instr.slice t (.slice A n c) (some (.int k1 (l : Int))) (some (.int k2 (h : Int))) (some (.int k3 (h : Int)))).run P W = .ok (.slice (cutA A h l size) (h - l) (h - l)) W := by
  obtain ⟨i, hi, hzz⟩ := Option.map_eq_some_iff.1 hinfo
  simp only [Prod.mk.injEq] at hzz
  obtain ⟨_, h1, _⟩ := hzz
  simp [Instr.slice, run_underlying ht, Instr.sliceBounds, Instr.sliceBound, asIntOf, sizeOf, typeInfo, hi, h1, cutA, hl, hh]
/-- a stretch of a slice that is read, its end the slice's -/
theorem rd_piece {k : IntKind} {w : World} {A : Option Addr} {n c : Nat} {x : List Int} (r : Rd k w A n c x) (l h : Nat) (hl : l ≤ h) (hh : h ≤ n) : Rd k w (cutA A h l 1) (h - l) (h - l) ((x.drop l).take (h - l)) := by
  by_cases e : h = l
  · subst e
    rw [Nat.sub_self, List.take_zero]
    exact Rd.nil _ _ _ _ (by unfold maxLen; omega)
  · have h1 := r.cut l h hl hh
    have h2 : cutA A h l 1 = cutA A c l 1 := by
      unfold cutA
      rw [if_neg e, if_neg (by have := r.le; omega)]
    rw [h2]
    refine ⟨h1.len, Nat.le_refl _, by have := h1.le; have := h1.cap; omega, h1.cells⟩
theorem cutA_old {w : World} {A : Option Addr} {n c m l h : Nat} {x : List Int} {k : IntKind} {B : Nat} (ho : ∀ ad, A = some ad → ad.block < B) : ∀ ad, cutA A h l 1 = some ad → ad.block < B := fun ad e => by
  obtain ⟨a0, e0, hb⟩ := cutA_block e
  rw [← hb]
  exact ho a0 e0
end Go.Proofs.Yteajblfkfmopfaa.Jour
namespace Go.Proofs.Yteajblfkfmopfaa.Jour
set_option linter.unusedVariables false
set_option linter.unusedSimpArgs false
open Go Go.RowKit Go.Proofs.Yteajblfkfmopfaa.Mem Go.Proofs.Yteajblfkfmopfaa.Entries Go.Proofs.Yteajblfkfmopfaa.Geo Go.Proofs.Yteajblfkfmopfaa.Sum Go.Proofs.Yteajblfkfmopfaa.Hmac Go.Proofs.Yteajblfkfmopfaa.Parts

/-- where the sectors lie -/
def cutV (A : Option Addr) (s k : Nat) : List Value := (List.range k).map fun i => .slice (cutA A ((i + 1) * s) (i * s) 1) s s
theorem cutV_succ (A : Option Addr) (s k : Nat) : cutV A s (k + 1) = cutV A s k ++ [.slice (cutA A ((k + 1) * s) (k * s) 1) s s] := by
  unfold cutV
  rw [List.range_succ, List.map_append]; rfl
theorem cutV_elem {w : World} {x : List Int} {A : Option Addr} {n c s k : Nat} (h : Rd .u8 w A n c x) (hn : n = k * s) (row : Option Nat) (hrow : ∀ ad, A = some ad → some ad.block ≠ row) : ∀ j, j < k → ∃ u, (cutV A s k)[j]? = some u ∧ Elem w row u (nthP (cutB x s k) j) := fun j hj => by
  have h1 : (j + 1) * s ≤ n := by rw [hn]; exact Nat.mul_le_mul_right s hj
  have h2 := rd_piece h (j * s) ((j + 1) * s) (Nat.mul_le_mul_right s (Nat.le_succ j)) h1
  rw [show (j + 1) * s - j * s = s by rw [Nat.add_mul]; omega] at h2
  refine ⟨.slice (cutA A ((j + 1) * s) (j * s) 1) s s, ?_, ?_⟩
  · unfold cutV
    rw [List.getElem?_map, List.getElem?_range hj]; rfl
  · rw [cut_nth x s k j hj]
    exact Elem.mk' h2 fun _ ad e => by
      obtain ⟨a0, e0, hb⟩ := cutA_block e
      rw [← hb]
      exact hrow a0 e0
set_option maxHeartbeats 1000000 in
set_option maxRecDepth 100000 in
theorem cut_any (x : List Int) (A : Option Addr) (n c s k : Nat) (w : World) (hs : 64 ≤ s ∧ s ≤ 256) (hk : k ≤ 100000) (hn : n = k * s) (h : Rd .u8 w A n c x) :
    Calls Try.prog 151 #[.slice A n c, .int .i64 (s : Int)] w fun e w' => ∃ P cp, e = .returned (.slice P k cp) ∧ Parts w' w.heap.size (.slice P k cp) k (cutV A s k) (cutB x s k) ∧ Below w.heap.size w w' := by
  have H := As.mk h
  have HS := As.mk hs
  have HK := As.mk hk
  have HNN := As.mk hn
  have HNB := As.mk (show n ≤ 25600000 by rw [hn]; exact Nat.mul_le_mul hk hs.2)
  clear h hs hk hn
  go_enter Try.func151, Try.ntmps151
  go_wp2
  go_loopg [5, 6] k (fun kq v5 v6 wr => ∃ (i y cp : Nat) (P : Option Addr), i + kq = k ∧ v5 = .slice P i cp ∧ v6 = .int .i64 (y : Int) ∧ As (y = i * s) ∧ As (Parts wr w.heap.size (.slice P i cp) i (cutV A s i) (cutB x s i)) ∧ As (Below w.heap.size w wr))
  case atStart => exact ⟨0, 0, 0, none, by omega, rfl, rfl, ⟨by simp⟩, ⟨Parts.nil _ _⟩, ⟨Below.refl _ _⟩⟩
  case round =>
    obtain ⟨i, y, cp, P, hi, rfl, rfl, HY, HP, HB⟩ := hrel
    have HI := As.mk hi
    clear hi
    by_cases hlt : i < k
    · have hy1 : y + s ≤ n := by
        rw [HY.out, HNN.out]
        have : (i + 1) * s ≤ k * s := Nat.mul_le_mul_right s hlt
        rwa [Nat.add_mul, Nat.one_mul] at this
      have hs0 := HS.out
      have c0 : decide ((y : Int) < (n : Int)) = true := decide_eq_true (by omega)
      have c1 : decide (y < n) = true := decide_eq_true (by omega)
      obtain ⟨y2, hy2⟩ : ∃ y2, y2 = y + s := ⟨_, rfl⟩
      have HY2 := As.mk hy2
      have HYN := As.mk (show y2 ≤ n by omega)
      have hw : wrap64 ((y : Int) + (s : Int)) = (y2 : Int) := wn _ (by omega) (by have := HNB.out; omega)
      have hcut : ∀ W, (Instr.slice 37 (.slice A n c) (some (.int .i64 (y : Int))) (some (.int .i64 (y2 : Int))) (some (.int .i64 (y2 : Int)))).run Try.prog W = .ok (.slice (cutA A y2 y 1) s s) W := fun W => by
        have := run_cut4 (P := Try.prog) W 37 5 Try.underlying37 CloneB.info A n c y y2 .i64 .i64 .i64 (by omega) (by have := H.out.le; omega)
        rwa [show y2 - y = s by omega] at this
      have hA : ∀ ad, A = some ad → ad.block < w.heap.size := fun ad e => by subst e; exact rd_lt H.out (by omega)
      have hap : ∀ ad, cutA A y2 y 1 = some ad → some ad.block ≠ (Value.slice P i cp).ownBlock := fun ad e e2 => by
        obtain ⟨a0, e0, hb0⟩ := cutA_block e
        have h1 := hA a0 e0
        have h2 := (HP.out.own.lt ad.block e2.symm).1
        omega
      have HBB := As.mk (below_alloc HB.out (.cells #[.slice (cutA A y2 y 1) s s] 37))
      have hal := below_alloc (Below.refl wr.heap.size wr) (.cells #[.slice (cutA A y2 y 1) s s] 37)
      have HPW := As.mk (HP.out.below hal)
      have hrp := rd_piece (H.out.below HBB.out) y y2 (by omega) HYN.out
      rw [show y2 - y = s by omega] at hrp
      have HEL := As.mk (show ∀ j, j < 1 → ∃ u, ([.slice (cutA A y2 y 1) s s] : List Value)[j]? = some u ∧ Elem _ (Value.slice P i cp).ownBlock u (nthP [(x.drop y).take s] j) from fun j hj => by
        obtain rfl : j = 0 := by omega
        exact ⟨_, rfl, Elem.mk' hrp (fun _ => hap)⟩)
      have HSR : As (Go.Proofs.Yteajblfkfmopfaa.Mem.Src (wr.alloc (.cells #[.slice (cutA A y2 y 1) s s] 37)) (.slice (some ⟨wr.heap.size, 0, none⟩) 1 1) 1 1 [.slice (cutA A y2 y 1) s s]) := ⟨Src.cell (heap_alloc_new wr _) rfl⟩
      have HCS := As.mk (show cutB x s (i + 1) = cutB x s i ++ [(x.drop y).take s] by rw [cut_succ, HY.out])
      have HYS := As.mk (show y2 = (i + 1) * s by rw [hy2, HY.out, Nat.add_mul, Nat.one_mul])
      have HLT := As.mk hlt
      clear hy1 hs0 hy2 hA hap hal hrp hlt
      go_wp2_with (at_builtin; refine wpList_app2 rfl _ _ 50 rfl w.heap.size 37 (.slice none 0 0) 24 Try.underlying50 infoS rfl _ i _ rfl HPW.out.own _ 1 _ rfl HSR.out ?c1 ?c2 HBB.out.size HBB.out (Nat.le_refl _) ?_; (case c1 => have := HLT.out; have := HK.out; unfold maxLen; omega); (case c2 => have := HLT.out; have := HK.out; omega); intro v5 w5 hown hg hat hb5; obtain ⟨A5, c5, rfl⟩ := hown.slice; have HP5 := As.mk (HPW.out.app (m := 1) (qs := [(x.drop y).take s]) rfl HEL.out hown hg hat); have HB5 := As.mk hb5; clear hown hg hat hb5)
      go_roundg (k - (i + 1))
      case measure => have := HI.out; have := HLT.out; omega
      case rel => exact ⟨i + 1, y2, c5, A5, by have := HI.out; have := HLT.out; omega, rfl, by first | rfl | rw [hw], HYS, ⟨by rw [HCS.out, cutV_succ, ← HYS.out, ← HY.out]; exact HP5.out⟩, HB5⟩
    · obtain rfl : k = i := by have := HI.out; omega
      have hyn : y = n := by rw [HY.out, HNN.out]
      subst hyn
      have c0 : decide ((y : Int) < (y : Int)) = false := decide_eq_false (by omega)
      clear hlt
      go_wp2
      go_ret
      exact ⟨P, cp, rfl, HP.out, HB.out⟩
end Go.Proofs.Yteajblfkfmopfaa.Jour
namespace Go.Proofs.Yteajblfkfmopfaa.Jour
set_option linter.unusedVariables false
set_option linter.unusedSimpArgs false
open Go Go.RowKit Go.Proofs.Yteajblfkfmopfaa.Mem Go.Proofs.Yteajblfkfmopfaa.Put Go.Proofs.Yteajblfkfmopfaa.Entries Go.Proofs.Yteajblfkfmopfaa.Geo Go.Proofs.Yteajblfkfmopfaa.Sum Go.Proofs.Yteajblfkfmopfaa.Hmac Go.Proofs.Yteajblfkfmopfaa.Parts Go.Proofs.Yteajblfkfmopfaa.Field Go.Proofs.Yteajblfkfmopfaa.LayA

theorem numI (B : Nat) (w : World) (A : Option Addr) (n c : Nat) (x : List Int) (h : Wr B w 0 A n c x) (v size : Nat) (y z : Int) (hy : y = (v : Int)) (hz : z = (size : Int)) (hs : 1 ≤ size ∧ size ≤ 8) (hv : v ≤ 4611686018427387904) (hf : v < 256 ^ size) (hm : n + size ≤ 140737488355328) :
    Calls Try.prog 145 #[.pointer (some ⟨B, 0, none⟩), .int .i64 y, .int .i64 z] w fun e w' => e = .returned (.tuple #[]) ∧ Put' B w w' A n c size (x ++ beB size v) := hy ▸ hz ▸ number_any B w A n c x h v size hs hv hf hm
theorem Put'.cast {B n c m m2 : Nat} {w w' : World} {A : Option Addr} {z z2 : List Int} (h : Put' B w w' A n c m z) (e : m = m2) (e2 : z = z2) : Put' B w w' A n c m2 z2 := e ▸ e2 ▸ h
theorem cell_keep {w X : World} {a : Addr} {u : Value} (h : w.cell? a = some u) (hb : Below w.heap.size w X) : X.cell? a = some u := (hb.cell (World.block_lt_of_cell? w _ h)).trans h
theorem own_grown {w w1 : World} {base n : Nat} {v : Value} {xs : List Value} {row : Option Nat} (h : OwnAt w base v n xs) (hg : w.grownBy w1 row) (hne : ∀ k, v.ownBlock = some k → row ≠ some k) : OwnAt w1 base v n xs :=
  h.kept fun k hk => hg.block k (h.lt k hk).2 fun e => hne k hk e.symm
theorem put_wr {B : Nat} {w w' : World} {A : Option Addr} {n c m : Nat} {x z : List Int} (h : Put' B w w' A n c m z) (hw : Wr B w 0 A n c x) : ∃ A' c', Wr B w' 0 A' (n + m) c' z ∧ Below B w w' := by
  obtain ⟨A', c', h1, hk, _⟩ := h
  exact ⟨A', c', h1, hk.below (Nat.le_refl _) (Nat.le_of_lt hw.lt) fun k e => Nat.le_of_lt (hw.own_far k e).1⟩
theorem rdp_two {W : World} {b : Nat} {T : TypeId} {p0 p1 : List Int} {A0 A1 : Option Addr} {n0 n1 c0 c1 : Nat} (hg : W.heap[b]? = some (.cells #[.slice A0 n0 c0, .slice A1 n1 c1] T (0, 0))) (h0 : Rd .u8 W A0 n0 c0 p0) (h1 : Rd .u8 W A1 n1 c1 p1) : RdP W (some ⟨b, 0, none⟩) 2 2 [p0, p1] :=
  ⟨rfl, Nat.le_refl _, by decide, fun _ => ⟨_, rfl, fun j hj => by
    rcases j with _ | _ | j
    · rw [Addr.add_lit, cell_of_row W b 0 _ _ _ hg]
      exact ⟨A0, c0, congrArg (fun m => some (Value.slice A0 m c0)) h0.len.symm, h0.len.symm ▸ h0⟩
    · rw [Addr.add_lit, cell_of_row W b 1 _ _ _ hg]
      exact ⟨A1, c1, congrArg (fun m => some (Value.slice A1 m c1)) h1.len.symm, h1.len.symm ▸ h1⟩
    · omega⟩⟩
set_option maxHeartbeats 4000000 in
set_option maxRecDepth 100000 in
theorem pack_ok (key : List Int) (hk : Byte key) (K : Option Addr) (kn kc : Nat) (count : Nat) (hc : count ≤ 1099511627776) (A : Option Addr) (n c : Nat) (es : List (Int × List Int)) (hes : ∀ e ∈ es, Byte e.2) (s : Nat) (hs : 64 ≤ s ∧ s ≤ 256 ∧ s % 16 = 0) (hm : mayB es s = true) (room : Int) (hn : n ≤ 1000) (q : Nat) (hr : recN n s = 1 + q) (hroom : ((1 + q : Nat) : Int) ≤ room) (w : World) (h0 : Rd .u8 w K kn kc key) (h1 : RdE w A n c es) (hkn : kn ≤ 1099511627776) :
    Calls Try.prog 78 #[.slice K kn kc, .int .i64 (count : Int), .slice A n c, .int .i64 (s : Int), .int .i64 room] w fun e w' => ∃ P cp L, e = .returned (.tuple #[.slice P (1 + q) cp, .int .i64 0]) ∧ Parts w' w.heap.size (.slice P (1 + q) cp) (1 + q) L (headB key count es s :: cutB (bodyB es s) s q) ∧ Below w.heap.size w w' := by
  have HX := As.mk hk
  have HC := As.mk hc
  have HES := As.mk hes
  have HS := As.mk hs
  have HSW := As.mk (show 64 ≤ s ∧ s ≤ 256 from ⟨hs.1, hs.2.1⟩)
  have HWB := As.mk (wide_of hs)
  have HM := As.mk hm
  have HN := As.mk hn
  have HRC := As.mk hr
  have HKN := As.mk hkn
  have H0 := As.mk h0
  have H1 := As.mk h1
  have HEL := As.mk h1.len
  have HQ : As (q = ceil (4 * n) s + n) := ⟨by have : recN n s = 1 + ceil (4 * n) s + n := rfl; omega⟩
  have HQL := As.mk (show q ≤ 2000 by have := HQ.out; have := index_le (n := n) hs.1; omega)
  have hc1 : (0 : Int) ≤ (count : Int) := by omega
  have d1 : decide ((count : Int) < 0) = false := decide_eq_false (by omega)
  have d2 : decide (1099511627776 < (count : Int)) = false := decide_eq_false (by omega)
  have d2' : decide (1099511627776 < count) = false := decide_eq_false (by omega)
  have d3 : decide (room < ((1 + q : Nat) : Int)) = false := decide_eq_false (by omega)
  obtain ⟨q1, hq1⟩ : ∃ q1, q1 = 1 + q := ⟨_, rfl⟩
  have HQ1 := As.mk hq1
  rw [← hq1] at d3 HRC
  clear hk hc hes hs hm hn hr hkn h0 h1 hroom hq1
  go_enter Try.func78, Try.ntmps78
  go_wp2_with (first
    | (go_at_call 142; (with_reducible refine (wide_any s _ HWB.out _).mono ?_); rintro e w1 ⟨rfl, rfl⟩)
    | (go_at_call 144; (with_reducible refine (may_any w A n c es s (by have := HN.out; omega) H1.out true HM.out).mono ?_); rintro e w1 ⟨rfl, hb⟩; have HB1 := As.mk hb; have H01 := As.mk (H0.out.below hb); have H11 := As.mk (H1.out.below hb); clear hb)
    | (go_at_call 75; (with_reducible refine (size_ok n s q1 (by have := HN.out; omega) HS.out HRC.out w1).mono ?_); rintro e w2 ⟨rfl, rfl⟩; refine As.out ?_))
  refine As.mk ?_
  clear hc1 d1 d2 d2'
  have HT := As.mk (Two.new w1)
  have HBT := As.mk (below_alloc (below_alloc (Below.refl w1.heap.size w1) (.cells #[.int .i64 0, .slice none 0 0] 192)) (.cells #[.int .i64 0, .slice none 0 0] 192))
  go_wp2
  go_loopg [61] n (fun kq v61 wr => ∃ (i c1 c2 n1 n2 : Nat) (P1 P2 : Option Addr), i + kq = n ∧ v61 = .int .i64 (i : Int) ∧ As (n1 = 4 * i ∧ n2 = i * s) ∧ As (Two w1.heap.size (w1.heap.size + 1) wr P1 n1 c1 (secs (es.take i)) P2 n2 c2 (datas (es.take i))) ∧ As (Below w1.heap.size w1 wr))
  case atStart => exact ⟨0, 0, 0, 0, 0, none, none, by omega, rfl, ⟨by simp⟩, HT, HBT⟩
  case round =>
    obtain ⟨i, c1, c2, n1, n2, P1, P2, hi, rfl, HNS, HTW, HB⟩ := hrel
    have HI := As.mk hi
    clear hi
    by_cases hlt : i < n
    · have e0 : decide ((i : Int) < (n : Int)) = true := decide_eq_true (by omega)
      have e1 : decide (i < n) = true := decide_eq_true hlt
      have lt' : (i : Int) < (n : Int) := by omega
      have hw : wrap64 ((i : Int) + 1) = ((i + 1 : Nat) : Int) := wrap_up (by have := HN.out; omega)
      obtain ⟨ad, Aj, cj, ea, h1, h2, h3⟩ := H11.out.at i hlt
      cases ea
      have hil : i < es.length := by rw [HEL.out]; exact hlt
      have hmy := may_at HM.out i hil
      obtain ⟨v, hv⟩ := Int.eq_ofNat_of_zero_le hmy.1
      have HSE : As (secs (es.take (i + 1)) = secs (es.take i) ++ beB 4 v) := ⟨by rw [secs_take es i hil, hv]; rfl⟩
      have HDA := As.mk (datas_take es i hil)
      have HVB := As.mk (show v ≤ 1048575 by omega)
      have hd := hmy.2.2
      rw [hv] at h1
      rw [hd] at h2 h3
      generalize (nthE es i).2 = dat at *
      have HNB := As.mk (show n1 ≤ 4000 ∧ n2 ≤ 256000 by
        have h4 := HNS.out
        have h5 := HN.out
        have h6 : i * s ≤ 1000 * 256 := Nat.mul_le_mul (by omega) HSW.out.2
        omega)
      have HNS2 := As.mk (show n1 + 4 = 4 * (i + 1) ∧ n2 + s = (i + 1) * s by
        have h4 := HNS.out
        rw [Nat.add_mul]
        omega)
      have HLT := As.mk hlt
      have hb90 := below_alloc (Below.refl wr.heap.size wr) (.cells #[.int .i64 (v : Int), .slice Aj s cj] 90)
      have HTA := As.mk (HTW.out.below hb90)
      have HBA := As.mk (below_alloc HB.out (.cells #[.int .i64 (v : Int), .slice Aj s cj] 90))
      have HR := As.mk (entry_row (cell_keep h1 HB.out) (cell_keep h2 HB.out))
      have HD3 := As.mk h3
      have HZ4 := As.mk (show (4 : Int) = ((4 : Nat) : Int) from rfl)
      have hv0 : (0 : Int) ≤ (v : Int) := by omega
      clear h1 h2 h3 hb90 hlt hil hmy hv hd
      go_wp2_with (first
        | (refine wpList_load_at rfl 90 (.tmp 63) rfl (ad.add (i * 2)) rfl [.int .i64 (v : Int), .slice Aj s cj] _ HR.out Try.underlying90 rfl infoEn ?_)
        | (go_at_call 145; (with_reducible refine (numI w1.heap.size _ P1 n1 c1 (secs (es.take i)) HTA.out.fst v 4 _ 4 rfl HZ4.out (by decide) (by have := HVB.out; omega) (by have := HVB.out; omega) (by have := HNB.out; omega)).mono ?_); rintro e wa ⟨rfl, hp⟩; obtain ⟨P1', c1', ht, hwk, hb⟩ := HTA.out.one hp; have HTB := As.mk ht; have HBB := As.mk (HBA.out.trans (hb _ (Nat.le_refl _) (Nat.le_succ _))); have hc17 : wa.cell? ⟨wr.heap.size, 1, none⟩ = some (.slice Aj s cj) := cell_of_row wa _ 1 _ _ _ (HTW.out.box hwk); clear hp ht hb hwk)
        | (go_at_call 146; (with_reducible refine (fixed_any (w1.heap.size + 1) wa P2 n2 c2 (datas (es.take i)) HTB.out.snd Aj s cj dat (HD3.out.below HBB.out) (by have := HNB.out; have := HSW.out; omega)).mono ?_); rintro e wb ⟨rfl, hp⟩; obtain ⟨P2', c2', ht, hb⟩ := HTB.out.two hp; have HTC := As.mk ht; have HBC := As.mk (HBB.out.trans (hb _ (Nat.le_refl _) (Nat.le_succ _))); clear hp ht hb))
      go_roundg (n - (i + 1))
      case measure => have := HI.out; have := HLT.out; omega
      case rel => exact ⟨i + 1, c1', c2', n1 + 4, n2 + s, P1', P2', by have := HI.out; have := HLT.out; omega, by go_num, HNS2, ⟨by rw [HSE.out, HDA.out]; exact HTC.out⟩, HBC⟩
    · have e0 : decide ((i : Int) < (n : Int)) = false := decide_eq_false (by omega)
      have e1 : decide (i < n) = false := decide_eq_false hlt
      obtain rfl : n = i := by have := HI.out; omega
      have hall : es.take n = es := by rw [← HEL.out, List.take_length]
      rw [hall] at HTW
      clear hall hlt
      go_wp2_with (first
        | (go_at_call 147; (with_reducible refine (out_any w1.heap.size wr P1 n1 c1 (secs es) HTW.out.fst (by have := HNS.out.1; have := HN.out; omega)).mono ?_); rintro e w2 ⟨A1, a1, rfl, ho, hb⟩; have HO2 := As.mk ho; have HB2 := As.mk hb; clear ho hb)
        | (go_at_call 147; (with_reducible refine (out_any (w1.heap.size + 1) w2 P2 n2 c2 (datas es) (HTW.out.snd.below HB2.out) (by have := HNS.out.2; have := Nat.mul_le_mul HN.out HSW.out.2; omega)).mono ?_); rintro e w3 ⟨A2, a2, rfl, ho, hb⟩; have HO3 := As.mk ho; have HB3 := As.mk hb; clear ho hb; refine As.out ?_))
      refine As.mk ?_
      obtain ⟨p, hp⟩ : ∃ p, padN n1 s = p := ⟨_, rfl⟩
      have HPN := As.mk hp
      have HSS := As.mk (show 1 ≤ s ∧ s ≤ 256 by have := HSW.out; omega)
      have hn2 : n2 ≤ 256000 := by have h4 := HNS.out.2; have h5 := Nat.mul_le_mul HN.out HSW.out.2; omega
      have hp3 : p ≤ 256 := by rw [← hp]; unfold padN; have := Nat.mod_lt (s - n1 % s) (show 0 < s by have := HSW.out; omega); have := HSW.out; omega
      have HBD := As.mk (show n1 ≤ 4000 ∧ n2 ≤ 256000 ∧ p ≤ 256 from ⟨by have := HNS.out.1; have := HN.out; omega, hn2, hp3⟩)
      obtain ⟨mb, hmb⟩ : ∃ mb, n1 + p + n2 = mb := ⟨_, rfl⟩
      have HMB := As.mk hmb
      have HNP := As.mk (show n1 + p = n1 + p from rfl)
      have HMQ : As (mb = q * s) := ⟨by
        have h1 := padN_ceil (n := n1) (show 0 < s by have := HSW.out; omega)
        rw [hp, HNS.out.1] at h1
        rw [← hmb, HQ.out, Nat.add_mul, HNS.out.2, HNS.out.1, h1]⟩
      have HMBL := As.mk (show mb ≤ 300000 by have := HBD.out; omega)
      have HB12 := As.mk (below_step HB.out HB2.out)
      have HB13 := As.mk (below_step HB12.out HB3.out)
      have HO23 := As.mk (HO2.out.below HB3.out)
      have HW3 := As.mk (show wr.heap.size ≤ w3.heap.size from Nat.le_trans HB2.out.size HB3.out.size)
      have HNE := As.mk (fun k (e : (Value.slice A2 n2 a2).ownBlock = some k) (e2 : (Value.slice A1 n1 a1).ownBlock = some k) => (by have h1 := (HO3.out.lt k e).1; have h2 := (HO2.out.lt k e2).2; omega : False))
      clear hp hn2 hp3 hmb
      go_wp2_with (first
        | (go_at_call 148; (with_reducible refine (padded_any wr.heap.size (secs es) A1 n1 a1 s p (n1 + p) w3 HSS.out (by have := HBD.out; omega) HO23.out HW3.out HPN.out HNP.out).mono ?_); rintro e w4 ⟨A4, a4, rfl, ho, hg, hat⟩; have HO4 := As.mk ho; have HO34 := As.mk (own_grown HO3.out hg (fun k e1 e2 => HNE.out k e1 e2)); have HB14 := As.mk (HB13.out.grown hg HB13.out.size (fun k hk => Nat.le_trans HB.out.size (HO23.out.lt k hk).1)); have HW4 := As.mk (Nat.le_trans HW3.out hg.size); have HSR4 := As.mk (Src.rd (own_rd_at HO34.out)); clear ho hg hat)
        | (at_builtin; refine wpList_app2 rfl (.tmp 82) (.tmp 83) 37 rfl wr.heap.size 5 (.int .u8 0) 1 Try.underlying37 CloneB.info rfl _ (n1 + p) _ rfl HO4.out _ n2 _ rfl HSR4.out ?b1 ?b2 HW4.out HB14.out HB.out.size ?_; (case b1 => have := HBD.out; unfold maxLen; omega); (case b2 => have := HBD.out; omega); intro va w5 hown hg hat hb; rw [HMB.out, ← List.map_append] at hown; obtain ⟨A5, a5, rfl⟩ := hown.slice; have HO5 := As.mk (show OwnAt w5 wr.heap.size (.slice A5 mb a5) mb ((bodyB es s).map (Value.int .u8)) from hown); have HB15 := As.mk hb; clear hown hg hat hb; refine As.out ?_))
      refine As.mk ?_
      have HWN := As.mk (Wr.new w5)
      have HBN := As.mk (below_alloc (Below.refl w5.heap.size w5) (.cells #[.int .i64 0, .slice none 0 0] 192))
      clear HO2 HO3 HO4 HO34 HO23 HSR4 HTW HNE
      have HZ4 := As.mk (show (4 : Int) = ((4 : Nat) : Int) from rfl)
      have HZ8 := As.mk (show (8 : Int) = ((8 : Nat) : Int) from rfl)
      have hn0 : (0 : Int) ≤ (n : Int) := by omega
      go_wp2_with (first
        | (go_at_call 149; (with_reducible refine (mark_any _).mono ?_); rintro e w7 ⟨A7, rfl, hr, hb⟩; have HM7 := As.mk hr; have HW7 := As.mk (HWN.out.below hb); have HB7 := As.mk (below_step HBN.out hb); clear hr hb)
        | (go_at_call 146; (with_reducible refine (fixed_any w5.heap.size w7 none 0 0 [] HW7.out A7 4 4 markB HM7.out (by decide)).mono ?_); rintro e w8 ⟨rfl, hp⟩; obtain ⟨A8, c8, hq, hb⟩ := put_wr hp HW7.out; have HW8 := As.mk (show Wr w5.heap.size w8 0 A8 4 c8 markB from hq); have HB8 := As.mk (HB7.out.trans hb); clear hp hq hb)
        | (go_at_call 145; (with_reducible refine (numI w5.heap.size w8 A8 4 c8 markB HW8.out count 8 _ 8 rfl HZ8.out (by decide) (by have := HC.out; omega) (Nat.lt_of_le_of_lt HC.out (by decide)) (by decide)).mono ?_); rintro e w9 ⟨rfl, hp⟩; obtain ⟨A9, c9, hq, hb⟩ := put_wr hp HW8.out; have HW9 := As.mk (show Wr w5.heap.size w9 0 A9 12 c9 (markB ++ beB 8 count) from hq); have HB9 := As.mk (HB8.out.trans hb); clear hp hq hb)
        | (go_at_call 145; (with_reducible refine (numI w5.heap.size w9 A9 12 c9 (markB ++ beB 8 count) HW9.out n 4 _ 4 rfl HZ4.out (by decide) (by have := HN.out; omega) (Nat.lt_of_le_of_lt HN.out (by decide)) (by decide)).mono ?_); rintro e w10 ⟨rfl, hp⟩; obtain ⟨A10, c10, hq, hb⟩ := put_wr hp HW9.out; have HW10 := As.mk (show Wr w5.heap.size w10 0 A10 16 c10 (frontB count n) from hq); have HB10 := As.mk (HB9.out.trans hb); clear hp hq hb)
        | (go_at_call 147; (with_reducible refine (out_any w5.heap.size w10 A10 16 c10 (frontB count n) HW10.out (by decide)).mono ?_); rintro e w11 ⟨A11, c11, rfl, ho, hb⟩; have HO11 := As.mk ho; have HB1011 := As.mk hb; have HB11 := As.mk (below_step HB10.out hb); clear ho hb; refine As.out ?_))
      refine As.mk ?_
      clear HWN HBN HM7 HW7 HB7 HW8 HB8 HW9 HB9 HW10 hn0
      obtain ⟨T, hT⟩ : ∃ T, tagB key (frontB count n ++ bodyB es s) = T := ⟨_, rfl⟩
      have HTT := As.mk hT
      have HTL : As (T.length = 32) := ⟨by rw [← hT]; exact tagB_len _ _⟩
      have VT := As.mk (show ((T.map (Value.int .u8)).toArray).size = 32 by simp [HTL.out])
      have HB111 := As.mk (below_step HB15.out HB11.out)
      have HO511 := As.mk (HO5.out.below HB11.out)
      have hlit := below_alloc (Below.refl w11.heap.size w11) (.cells #[.slice A11 16 c11, .slice A5 mb a5] 37)
      have HLIT := As.mk hlit
      have HK12 := As.mk ((H01.out.below HB111.out).below hlit)
      have HRP := As.mk (rdp_two (heap_alloc_new w11 (.cells #[.slice A11 16 c11, .slice A5 mb a5] 37)) ((own_rd_at HO11.out).below hlit) ((own_rd_at HO511.out).below hlit))
      have HBY := As.mk (show ∀ p ∈ [frontB count n, bodyB es s], Byte p from fun p hp => by
        simp only [List.mem_cons, List.not_mem_nil, or_false] at hp
        rcases hp with rfl | rfl
        · exact front_byte _ _
        · exact body_byte HES.out s)
      have HFL := As.mk (show [frontB count n, bodyB es s].flatten.length ≤ 1000000000 by
        have h1 := (own_rd_at HO5.out).len
        have := HMBL.out
        simp only [List.flatten_cons, List.flatten_nil, List.append_nil, List.length_append, front_len, h1]
        omega)
      have HTF := As.mk (show tagB key [frontB count n, bodyB es s].flatten = T by rw [← hT]; simp)
      clear hT hlit
      go_wp2_with (first
        | (go_at_call 150; (with_reducible refine (tag_any key HX.out K kn kc [frontB count n, bodyB es s] HBY.out _ 2 2 _ HKN.out (by decide) HFL.out HK12.out HRP.out T HTF.out).mono ?_); rintro e we ⟨rfl, hb⟩; have HBe := As.mk (below_step HLIT.out hb); clear hb)
        | (refine wpList_allocArr rfl 43 rfl Z32 z32 ?_)
        | (refine wpList_storeNew rfl rfl 43 _ _ rfl rfl (T.map (Value.int .u8)).toArray rfl 43 Z32 (by rw [VT.out]; kernel_rfl) (by rw [VT.out]; kernel_rfl) (bytesA_one T) ?_; refine As.out ?_))
      refine As.mk ?_
      clear HK12 HRP HBY HFL HTF
      have HBh := As.mk (below_alloc HBe.out (.cells (T.map (Value.int .u8)).toArray 43))
      have HOh := As.mk (HO11.out.below HBh.out)
      have HSh := As.mk (Src.rd (rd_block (x := T) (heap_alloc_new we (.cells (T.map (Value.int .u8)).toArray 43)) HTL.out (by decide)))
      have HPZ := As.mk (show padN 48 s = s - 48 by
        unfold padN
        have := HSW.out
        rw [Nat.mod_eq_of_lt (show 48 < s by omega), Nat.mod_eq_of_lt (show s - 48 < s by omega)])
      have HSM := As.mk (show 48 + (s - 48) = s by have := HSW.out; omega)
      have HW10L := As.mk (show w10.heap.size ≤ w11.heap.size from HB1011.out.size)
      have HNE2 := As.mk (fun k (e1 : (Value.slice A5 mb a5).ownBlock = some k) (e2 : w10.heap.size ≤ k) => (by have h1 := (HO5.out.lt k e1).2; have h2 := HB10.out.size; omega : False))
      have HW5 := As.mk HB10.out.size
      have HO5h := As.mk (HO511.out.below HBh.out)
      have HB1h := As.mk (below_step HB111.out HBh.out)
      generalize we.alloc _ = wh at *
      go_wp2_with (first
        | (at_builtin; refine wpList_app2 rfl (.tmp 101) (.tmp 102) 37 rfl w10.heap.size 5 (.int .u8 0) 1 Try.underlying37 CloneB.info rfl _ 16 _ rfl HOh.out _ 32 _ rfl HSh.out ?b3 ?b4 (Nat.le_trans HW10L.out HBh.out.size) (Below.refl _ wh) (Nat.zero_le _) ?_; (case b3 => unfold maxLen; decide); (case b4 => decide); intro vi wi hown hg hat hb; rw [← List.map_append] at hown; obtain ⟨Ai, ai, rfl⟩ := hown.slice; have HOi := As.mk (show OwnAt wi w10.heap.size (.slice Ai 48 ai) 48 ((frontB count n ++ T).map (Value.int .u8)) from hown); have HGi := As.mk hg; have HO5i := As.mk (own_grown HO5h.out hg (fun k e1 e2 => HNE2.out k e1 (HOh.out.lt k e2).1)); have HB1i := As.mk (HB1h.out.grown hg HB1h.out.size (fun k hk => Nat.le_trans HB15.out.size (Nat.le_trans HW5.out (HOh.out.lt k hk).1))); clear hown hg hat hb)
        | (go_at_call 148; (with_reducible refine (padded_any w10.heap.size (frontB count n ++ T) Ai 48 ai s (s - 48) s wi HSS.out (by decide) HOi.out (Nat.le_trans HW10L.out (Nat.le_trans HBh.out.size HGi.out.size)) HPZ.out HSM.out).mono ?_); rintro e wj ⟨Aj, aj, rfl, ho, hg, hat⟩; have HOj := As.mk ho; have HO5j := As.mk (own_grown HO5i.out hg (fun k e1 e2 => HNE2.out k e1 (HOi.out.lt k e2).1)); have HB1j := As.mk (HB1i.out.grown hg HB1i.out.size (fun k hk => Nat.le_trans HB15.out.size (Nat.le_trans HW5.out (HOi.out.lt k hk).1))); have HW5j := As.mk (show w5.heap.size ≤ wj.heap.size from Nat.le_trans HW5.out (Nat.le_trans HW10L.out (Nat.le_trans HBh.out.size (Nat.le_trans HGi.out.size hg.size)))); clear ho hg hat; refine As.out ?_))
      refine As.mk ?_
      clear HOh HSh HNE2 HO5h HO5i HB1i HB1h
      have HHD := As.mk (show padB (frontB count n ++ T) s = headB key count es s by rw [← HTT.out, ← HEL.out]; rfl)
      have HONE := As.mk (Parts.one (T := 37) HOj.out)
      have hlk := below_alloc (Below.refl wj.heap.size wj) (.cells #[.slice Aj s aj] 37)
      have HRB := As.mk ((own_rd_at HO5j.out).below hlk)
      have HBk := As.mk (below_step HB1j.out hlk)
      have HSL := As.mk (show wj.heap.size < (wj.alloc (.cells #[.slice Aj s aj] 37)).heap.size by simp)
      have HA5 := As.mk (fun ad (e : A5 = some ad) => (show some ad.block ≠ (Value.slice (some ⟨wj.heap.size, 0, none⟩) 1 1).ownBlock from fun e2 => by
        subst e
        have h1 := (HO5.out.lt ad.block rfl).2
        have h2 := HW5j.out
        injection e2 with e2
        simp at e2
        omega))
      have HLW := As.mk (below_step HB1j.out hlk)
      clear hlk
      go_wp2_with (first
        | (go_at_call 151; (with_reducible refine (cut_any (bodyB es s) A5 mb a5 s q _ HSW.out (by have := HQL.out; omega) HMQ.out HRB.out).mono ?_); rintro e wl ⟨Pl, pl, rfl, hpt, hb⟩; have HPL := As.mk hpt; have HBl := As.mk hb; have HONL := As.mk (HONE.out.below hb); have HEL2 := As.mk (cutV_elem (HRB.out.below hb) HMQ.out _ HA5.out); have HB1l := As.mk (below_step HBk.out hb); have HSLL := As.mk (Nat.le_of_lt (Nat.lt_of_lt_of_le HSL.out hb.size)); clear hpt hb)
        | (at_builtin; refine wpList_app2 rfl (.tmp 107) (.tmp 110) 50 rfl wj.heap.size 37 (.slice none 0 0) 24 Try.underlying50 infoS rfl _ 1 _ rfl HONL.out.own _ q _ rfl HPL.out.src ?b5 ?b6 HSLL.out HB1l.out (Nat.le_trans HB1j.out.size (Nat.le_refl _)) ?_; (case b5 => have := HQL.out; unfold maxLen; omega); (case b6 => have := HQL.out; omega); intro vm wm hown hg hat hb; obtain ⟨Am, am, rfl⟩ := hown.slice; have HPM := As.mk (HONL.out.app (m := q) (qs := cutB (bodyB es s) s q) (cut_len _ _ _) HEL2.out hown hg hat); have HBm := As.mk hb; clear hown hg hat hb))
      go_ret2
      have hp := HPM.out
      rw [HHD.out] at hp
      rw [HQ1.out]
      exact ⟨Am, am, _, rfl, ⟨hp.len, hp.own.weaken (Nat.le_trans HB1.out.size HB1j.out.size), hp.each⟩, below_step HB1.out HBm.out⟩
end Go.Proofs.Yteajblfkfmopfaa.Jour
namespace Go.Proofs.Yteajblfkfmopfaa.Jour
set_option linter.unusedVariables false
set_option linter.unusedSimpArgs false
open Go Go.RowKit Go.Proofs.Yteajblfkfmopfaa.Mem Go.Proofs.Yteajblfkfmopfaa.Put Go.Proofs.Yteajblfkfmopfaa.Entries Go.Proofs.Yteajblfkfmopfaa.Geo Go.Proofs.Yteajblfkfmopfaa.LayA

def wideE (z : Int) : Bool := decide (64 ≤ z) && (decide (z ≤ 256) && decide (z % 16 = 0))
theorem wideE_iff (z : Int) : wideE z = true ↔ 64 ≤ z ∧ z ≤ 256 ∧ z % 16 = 0 := by unfold wideE; simp
theorem wideE_nat {z : Int} (h : wideE z = true) : ∃ s : Nat, z = (s : Int) ∧ 64 ≤ s ∧ s ≤ 256 ∧ s % 16 = 0 := by
  have h1 := (wideE_iff z).1 h
  obtain ⟨s, rfl⟩ := Int.eq_ofNat_of_zero_le (show 0 ≤ z by omega)
  exact ⟨s, rfl, by omega, by omega, by omega⟩
theorem wide_e (n : Int) (b : Bool) (h : wideE n = b) (w : World) : Calls Try.prog 142 #[.int .i64 n] w fun e w' => e = .returned (.bool b) ∧ w = w' := wide_any n b h w
theorem wideR_e (n : Int) (b : Bool) (h : wideE n = b) (w : World) : Calls Try.prog 76 #[.int .i64 n] w fun e w' => e = .returned (.bool b) ∧ w = w' := wideR_any n b h w
set_option maxHeartbeats 1000000 in
theorem size_bad (n z : Int) (b : Bool) (hb : wideE z = b) (h : n < 0 ∨ 65536 < n ∨ b = false) (w : World) :
    Calls Try.prog 75 #[.int .i64 n, .int .i64 z] w fun e w' => e = .returned (.tuple #[.int .i64 0, .bool false]) ∧ w = w' := by
  by_cases h1 : n < 0
  · have d0 : decide (n < 0) = true := decide_eq_true h1
    clear h h1
    go_enter Try.func75, Try.ntmps75
    go_wp2
    go_ret2
    exact ⟨rfl, rfl⟩
  · have d0 : decide (n < 0) = false := decide_eq_false h1
    by_cases h2 : 65536 < n
    · have d1 : decide (65536 < n) = true := decide_eq_true h2
      clear h h1 h2
      go_enter Try.func75, Try.ntmps75
      go_wp2
      go_ret2
      exact ⟨rfl, rfl⟩
    · have d1 : decide (65536 < n) = false := decide_eq_false h2
      obtain rfl : b = false := by rcases h with h | h | h <;> first | omega | exact h
      have HB := As.mk hb
      clear h h1 h2 hb
      go_enter Try.func75, Try.ntmps75
      go_wp2_with (go_at_call 142; (with_reducible refine (wide_e z false HB.out _).mono ?_); rintro e w1 ⟨rfl, rfl⟩)
      go_ret2
      exact ⟨rfl, rfl⟩
set_option maxHeartbeats 1000000 in
set_option maxRecDepth 100000 in
theorem pack_arg (K : Option Addr) (kn kc : Nat) (count : Int) (A : Option Addr) (n c : Nat) (es : List (Int × List Int)) (z room : Int) (hn : n ≤ 1000000) (b : Bool) (hb : wideE z = b)
    (h : b = false ∨ (b = true ∧ (count < 0 ∨ 1099511627776 < count)) ∨ (b = true ∧ 0 ≤ count ∧ count ≤ 1099511627776 ∧ ∃ s : Nat, z = (s : Int) ∧ mayB es s = false)) (w : World) (h1 : RdE w A n c es) :
    Calls Try.prog 78 #[.slice K kn kc, .int .i64 count, .slice A n c, .int .i64 z, .int .i64 room] w fun e w' => e = .returned (.tuple #[.slice none 0 0, .int .i64 2]) ∧ Below w.heap.size w w' := by
  have HB := As.mk hb
  have HN := As.mk hn
  have H1 := As.mk h1
  clear hn h1 hb
  rcases h with rfl | ⟨rfl, h⟩ | ⟨rfl, h2, h3, s, rfl, hm⟩
  · go_enter Try.func78, Try.ntmps78
    go_wp2_with (go_at_call 142; (with_reducible refine (wide_e z false HB.out _).mono ?_); rintro e w1 ⟨rfl, rfl⟩)
    go_ret2
    exact ⟨rfl, Below.refl _ _⟩
  · by_cases h4 : count < 0
    · have d0 : decide (count < 0) = true := decide_eq_true h4
      clear h h4
      go_enter Try.func78, Try.ntmps78
      go_wp2_with (go_at_call 142; (with_reducible refine (wide_e z true HB.out _).mono ?_); rintro e w1 ⟨rfl, rfl⟩)
      go_ret2
      exact ⟨rfl, Below.refl _ _⟩
    · have d0 : decide (count < 0) = false := decide_eq_false h4
      have d1 : decide (1099511627776 < count) = true := decide_eq_true (by omega)
      clear h h4
      go_enter Try.func78, Try.ntmps78
      go_wp2_with (go_at_call 142; (with_reducible refine (wide_e z true HB.out _).mono ?_); rintro e w1 ⟨rfl, rfl⟩)
      go_ret2
      exact ⟨rfl, Below.refl _ _⟩
  · have d0 : decide (count < 0) = false := decide_eq_false (by omega)
    have d1 : decide (1099511627776 < count) = false := decide_eq_false (by omega)
    have HM := As.mk hm
    clear h2 h3 hm
    go_enter Try.func78, Try.ntmps78
    go_wp2_with (first
      | (go_at_call 142; (with_reducible refine (wide_e _ true HB.out _).mono ?_); rintro e w1 ⟨rfl, rfl⟩)
      | (go_at_call 144; (with_reducible refine (may_any w A n c es s HN.out H1.out false HM.out).mono ?_); rintro e w2 ⟨rfl, hb⟩; have HB2 := As.mk hb; clear hb))
    go_ret2
    exact ⟨rfl, HB2.out⟩
set_option maxHeartbeats 1000000 in
set_option maxRecDepth 100000 in
theorem pack_lim (K : Option Addr) (kn kc count : Nat) (hc : count ≤ 1099511627776) (A : Option Addr) (n c : Nat) (es : List (Int × List Int)) (s : Nat) (hs : 64 ≤ s ∧ s ≤ 256 ∧ s % 16 = 0) (hm : mayB es s = true) (room : Int) (hn : n ≤ 1000) (r : Nat) (hr : recN n s = r) (hroom : room < (r : Int)) (w : World) (h1 : RdE w A n c es) :
    Calls Try.prog 78 #[.slice K kn kc, .int .i64 (count : Int), .slice A n c, .int .i64 (s : Int), .int .i64 room] w fun e w' => e = .returned (.tuple #[.slice none 0 0, .int .i64 3]) ∧ Below w.heap.size w w' := by
  have HS := As.mk hs
  have HWB := As.mk (wide_of hs)
  have HM := As.mk hm
  have HN := As.mk hn
  have HRC := As.mk hr
  have H1 := As.mk h1
  have hc1 : (0 : Int) ≤ (count : Int) := by omega
  have d1 : decide ((count : Int) < 0) = false := decide_eq_false (by omega)
  have d2 : decide (1099511627776 < (count : Int)) = false := decide_eq_false (by omega)
  have d2' : decide (1099511627776 < count) = false := decide_eq_false (by omega)
  have d3 : decide (room < (r : Int)) = true := decide_eq_true hroom
  clear hc hs hm hn hr h1 hroom
  go_enter Try.func78, Try.ntmps78
  go_wp2_with (first
    | (go_at_call 142; (with_reducible refine (wide_any s _ HWB.out _).mono ?_); rintro e w1 ⟨rfl, rfl⟩)
    | (go_at_call 144; (with_reducible refine (may_any w A n c es s (by have := HN.out; omega) H1.out true HM.out).mono ?_); rintro e w1 ⟨rfl, hb⟩; have HB1 := As.mk hb; clear hb)
    | (go_at_call 75; (with_reducible refine (size_ok n s r (by have := HN.out; omega) HS.out HRC.out w1).mono ?_); rintro e w2 ⟨rfl, rfl⟩))
  go_ret2
  exact ⟨rfl, HB1.out⟩
end Go.Proofs.Yteajblfkfmopfaa.Jour
