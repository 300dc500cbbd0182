/- Journal records: plain. Two writers side by side. journal.may, chatelaineref17.May, chatelainelaw17.few. chatelaineref17.May. -/
import Derived.Test.YteajblfkfmopfaaReader
import Derived.Test.YteajblfkfmopfaaHmacTag
import Derived.Test.YteajblfkfmopfaaEntries
import Derived.Test.YteajblfkfmopfaaLayA
import Derived.Test.YteajblfkfmopfaaField
import Derived.Deep.QuietTactic
import Derived.BigQuiet
namespace Go.Proofs.Yteajblfkfmopfaa.Jour
set_option linter.unusedVariables false
set_option linter.unusedSimpArgs false
open Go Go.RowKit Go.Proofs.Yteajblfkfmopfaa.Mem Go.Proofs.Yteajblfkfmopfaa.Pad Go.Proofs.Yteajblfkfmopfaa.Put Go.Proofs.Yteajblfkfmopfaa.Val Go.Proofs.Yteajblfkfmopfaa.Sum Go.Proofs.Yteajblfkfmopfaa.ShaSums Go.Proofs.Yteajblfkfmopfaa.Hmac Go.Proofs.Yteajblfkfmopfaa.Entries Go.Proofs.Yteajblfkfmopfaa.Geo

/-! ### a record -/
def secs (es : List (Int × List Int)) : List Int := es.flatMap fun e => beB 4 e.1.toNat
def datas (es : List (Int × List Int)) : List Int := es.flatMap fun e => e.2
def padN (n s : Nat) : Nat := (s - n % s) % s
def padB (l : List Int) (s : Nat) : List Int := l ++ List.replicate (padN l.length s) 0
def bodyB (es : List (Int × List Int)) (s : Nat) : List Int := padB (secs es) s ++ datas es
def markB : List Int := [74, 82, 78, 76]
def frontB (count n : Nat) : List Int := markB ++ beB 8 count ++ beB 4 n
def tagJ (key : List Int) (count : Nat) (es : List (Int × List Int)) (s : Nat) : List Int := tagB key (frontB count es.length ++ bodyB es s)
def headB (key : List Int) (count : Nat) (es : List (Int × List Int)) (s : Nat) : List Int := padB (frontB count es.length ++ tagJ key count es s) s
def packB (key : List Int) (count : Nat) (es : List (Int × List Int)) (s : Nat) : List Int := headB key count es s ++ bodyB es s
/-- bytes, in sectors -/
def cutB (l : List Int) (s k : Nat) : List (List Int) := (List.range k).map fun i => (l.drop (i * s)).take s
/-- may entries be? -/
def mayB (es : List (Int × List Int)) (s : Nat) : Bool := es.all fun e => decide (0 ≤ e.1) && (decide (e.1 ≤ 1048575) && decide (e.2.length = s))

theorem secs_len (es : List (Int × List Int)) : (secs es).length = 4 * es.length := by
  induction es with
  | nil => rfl
  | cons e r ih => unfold secs at *; rw [List.flatMap_cons, List.length_append, beB_len, ih, List.length_cons]; omega
theorem datas_len (es : List (Int × List Int)) (s : Nat) (h : mayB es s = true) : (datas es).length = es.length * s := by
  induction es with
  | nil => simp [datas]
  | cons e r ih =>
    unfold mayB at h
    rw [List.all_cons, Bool.and_eq_true] at h
    have h1 := h.1
    simp only [Bool.and_eq_true, decide_eq_true_eq] at h1
    have := ih h.2
    unfold datas at *
    rw [List.flatMap_cons, List.length_append, this, List.length_cons, Nat.add_mul, h1.2.2]
    omega
theorem padN_ceil {n s : Nat} (hs : 0 < s) : n + padN n s = ceil n s * s := by
  unfold padN ceil
  have h1 := Nat.div_add_mod n s
  have h2 := Nat.mod_lt n hs
  obtain ⟨q, hq⟩ : ∃ q, n / s = q := ⟨_, rfl⟩
  obtain ⟨r, hr⟩ : ∃ r, n % s = r := ⟨_, rfl⟩
  rw [hq, hr] at h1
  rw [hr] at h2 ⊢
  have h3 : s * q = q * s := Nat.mul_comm _ _
  rcases Nat.eq_zero_or_pos r with h0 | h0
  · subst h0
    rw [Nat.sub_zero, Nat.mod_self]
    have : (n + s - 1) / s = q := by
      rw [Nat.div_eq_of_lt_le (k := q)]
      · omega
      · rw [Nat.add_mul]; omega
    rw [this]; omega
  · rw [Nat.mod_eq_of_lt (show s - r < s by omega)]
    have : (n + s - 1) / s = q + 1 := by
      rw [Nat.div_eq_of_lt_le (k := q + 1)]
      · rw [Nat.add_mul]; omega
      · rw [Nat.add_mul, Nat.add_mul]; omega
    rw [this, Nat.add_mul]; omega
theorem padB_len (l : List Int) {s : Nat} (hs : 0 < s) : (padB l s).length = ceil l.length s * s := by
  unfold padB
  rw [List.length_append, List.length_replicate, padN_ceil hs]
theorem body_len (es : List (Int × List Int)) {s : Nat} (hs : 0 < s) (h : mayB es s = true) : (bodyB es s).length = (ceil (4 * es.length) s + es.length) * s := by
  unfold bodyB
  rw [List.length_append, padB_len _ hs, secs_len, datas_len es s h, Nat.add_mul]
theorem front_len (c n : Nat) : (frontB c n).length = 16 := by unfold frontB; rw [List.length_append, List.length_append, beB_len, beB_len]; rfl
theorem tagJ_len (key : List Int) (c : Nat) (es : List (Int × List Int)) (s : Nat) : (tagJ key c es s).length = 32 := tagB_len _ _
theorem head_len (key : List Int) (c : Nat) (es : List (Int × List Int)) {s : Nat} (hs : 64 ≤ s) : (headB key c es s).length = s := by
  unfold headB
  rw [padB_len _ (by omega), List.length_append, front_len, tagJ_len]
  have : ceil (16 + 32) s = 1 := by
    unfold ceil
    rw [Nat.div_eq_of_lt_le (k := 1)] <;> omega
  rw [this]; omega
theorem head_eq (key : List Int) (c : Nat) (es : List (Int × List Int)) {s : Nat} (hs : 64 ≤ s) : headB key c es s = frontB c es.length ++ tagJ key c es s ++ List.replicate (s - 48) 0 := by
  unfold headB padB
  rw [List.length_append, front_len, tagJ_len]
  have : padN (16 + 32) s = s - 48 := by
    unfold padN
    rw [Nat.mod_eq_of_lt (show 16 + 32 < s by omega), Nat.mod_eq_of_lt (show s - (16 + 32) < s by omega)]
  rw [this]
theorem secs_byte (es : List (Int × List Int)) : Byte (secs es) := fun y hy => by
  obtain ⟨e, _, h⟩ := List.mem_flatMap.1 hy
  exact beB_byte _ _ y h
theorem rep_byte (k : Nat) : Byte (List.replicate k 0) := fun y hy => by
  rw [List.mem_replicate] at hy
  omega
theorem byteA {x y : List Int} (hx : Byte x) (hy : Byte y) : Byte (x ++ y) := fun v h => (List.mem_append.1 h).elim (hx v) (hy v)
theorem padB_byte {l : List Int} (h : Byte l) (s : Nat) : Byte (padB l s) := byteA h (rep_byte _)
theorem datas_byte {es : List (Int × List Int)} (h : ∀ e ∈ es, Byte e.2) : Byte (datas es) := fun y hy => by
  obtain ⟨e, he, h2⟩ := List.mem_flatMap.1 hy
  exact h e he y h2
theorem body_byte {es : List (Int × List Int)} (h : ∀ e ∈ es, Byte e.2) (s : Nat) : Byte (bodyB es s) := byteA (padB_byte (secs_byte es) s) (datas_byte h)
theorem mark_byte : Byte markB := by
  intro y hy
  simp only [markB, List.mem_cons, List.not_mem_nil, or_false] at hy
  omega
theorem front_byte (c n : Nat) : Byte (frontB c n) := byteA (byteA mark_byte (beB_byte _ _)) (beB_byte _ _)
theorem tagJ_byte (key : List Int) (c : Nat) (es : List (Int × List Int)) (s : Nat) : Byte (tagJ key c es s) := sumB_byte _
theorem head_byte (key : List Int) (c : Nat) (es : List (Int × List Int)) (s : Nat) : Byte (headB key c es s) := padB_byte (byteA (front_byte _ _) (tagJ_byte _ _ _ _)) s
theorem cut_take (l : List Int) (s : Nat) : ∀ k, (cutB l s k).flatten = l.take (k * s)
  | 0 => by simp [cutB]
  | k + 1 => by
    have ih := cut_take l s k
    unfold cutB at *
    rw [List.range_succ, List.map_append, List.flatten_append, ih, Nat.add_mul, Nat.one_mul, List.take_add]
    simp
theorem cut_all (l : List Int) (s k : Nat) (h : l.length = k * s) : (cutB l s k).flatten = l := by
  rw [cut_take, ← h, List.take_length]
theorem cut_len (l : List Int) (s k : Nat) : (cutB l s k).length = k := by simp [cutB]
theorem cut_nth (l : List Int) (s k i : Nat) (h : i < k) : nthP (cutB l s k) i = (l.drop (i * s)).take s := by
  unfold nthP cutB
  rw [List.getD_eq_getElem?_getD, List.getElem?_map, List.getElem?_range h]
  rfl
theorem cut_row (l : List Int) (s k i : Nat) (h : i < k) (hl : l.length = k * s) : (nthP (cutB l s k) i).length = s := by
  rw [cut_nth l s k i h, List.length_take, List.length_drop, hl]
  have : (i + 1) * s ≤ k * s := Nat.mul_le_mul_right s h
  rw [Nat.add_mul] at this
  omega
theorem cut_succ (l : List Int) (s k : Nat) : cutB l s (k + 1) = cutB l s k ++ [(l.drop (k * s)).take s] := by
  unfold cutB
  rw [List.range_succ, List.map_append]; rfl
theorem may_at {es : List (Int × List Int)} {s : Nat} (h : mayB es s = true) (j : Nat) (hj : j < es.length) : 0 ≤ (nthE es j).1 ∧ (nthE es j).1 ≤ 1048575 ∧ (nthE es j).2.length = s := by
  unfold mayB at h
  rw [List.all_eq_true] at h
  have h1 := h (nthE es j) (by unfold nthE; rw [List.getD_eq_getElem?_getD, List.getElem?_eq_getElem hj]; exact List.getElem_mem _)
  simpa using h1
theorem may_iff (es : List (Int × List Int)) (s : Nat) : mayB es s = true ↔ ∀ j, j < es.length → 0 ≤ (nthE es j).1 ∧ (nthE es j).1 ≤ 1048575 ∧ (nthE es j).2.length = s := by
  refine ⟨fun h j hj => may_at h j hj, fun h => ?_⟩
  unfold mayB
  rw [List.all_eq_true]
  intro e he
  obtain ⟨j, hj, rfl⟩ := List.mem_iff_getElem.1 he
  have := h j hj
  unfold nthE at this
  rw [List.getD_eq_getElem?_getD, List.getElem?_eq_getElem hj] at this
  simpa using this
theorem may_no {es : List (Int × List Int)} {s : Nat} {j : Nat} (hj : j < es.length) (h : ¬ (0 ≤ (nthE es j).1 ∧ (nthE es j).1 ≤ 1048575 ∧ (nthE es j).2.length = s)) : mayB es s = false := by
  rcases Bool.eq_false_or_eq_true (mayB es s) with h1 | h1
  · exact absurd (may_at h1 j hj) h
  · exact h1
theorem secs_take (es : List (Int × List Int)) (i : Nat) (h : i < es.length) : secs (es.take (i + 1)) = secs (es.take i) ++ beB 4 (nthE es i).1.toNat := by
  unfold secs nthE
  rw [List.take_succ_eq_append_getElem h, List.flatMap_append, List.getD_eq_getElem?_getD, List.getElem?_eq_getElem h]
  simp
theorem datas_take (es : List (Int × List Int)) (i : Nat) (h : i < es.length) : datas (es.take (i + 1)) = datas (es.take i) ++ (nthE es i).2 := by
  unfold datas nthE
  rw [List.take_succ_eq_append_getElem h, List.flatMap_append, List.getD_eq_getElem?_getD, List.getElem?_eq_getElem h]
  simp

/-! ### eight bytes are a number's, and back -/
theorem valB_div (l : List Int) (hb : Byte l) : ∀ d i, i + d = l.length → valB l / 256 ^ d = valB (l.take i)
  | 0, i, h => by rw [Nat.pow_zero, Nat.div_one, List.take_of_length_le (by omega)]
  | d + 1, i, h => by
    have ih := valB_div l hb d (i + 1) (by omega)
    rw [Nat.pow_succ, ← Nat.div_div_eq_div_mul, ih, valB_take l i (by omega)]
    have h1 : nth l i ∈ l := by
      rw [nth_getD, List.getD_eq_getElem?_getD, List.getElem?_eq_getElem (by omega)]
      exact List.getElem_mem _
    have h2 := hb _ h1
    omega
theorem beB_valB (l : List Int) (hb : Byte l) (k : Nat) (hk : l.length = k) : beB k (valB l) = l := by
  refine List.ext_getElem? fun i => ?_
  by_cases hi : i < k
  · rw [beB_at k _ i hi, valB_div l hb (k - 1 - i) (i + 1) (by omega), valB_take l i (by omega)]
    have h1 : nth l i ∈ l := by
      rw [nth_getD, List.getD_eq_getElem?_getD, List.getElem?_eq_getElem (by omega)]
      exact List.getElem_mem _
    have h2 := hb _ h1
    rw [List.getElem?_eq_getElem (by omega)]
    have h3 : nth l i = l[i]'(by omega) := by rw [nth_getD, List.getD_eq_getElem?_getD, List.getElem?_eq_getElem (by omega)]; rfl
    rw [← h3]
    congr 1
    omega
  · rw [List.getElem?_eq_none (by rw [beB_len]; omega), List.getElem?_eq_none (by omega)]

/-! ### what a head says -/
def markOf (b : List Int) : Bool := decide (b.take 4 = markB)
def headOk (b : List Int) : Bool :=
  decide (48 ≤ b.length) && (decide (b.take 4 = markB) && (decide (valB ((b.drop 4).take 8) ≤ 1099511627776) && (decide (valB ((b.drop 12).take 4) ≤ 65536) && decide (b.drop 48 = List.replicate (b.length - 48) 0))))
def headC (b : List Int) : Nat := if headOk b = true then valB ((b.drop 4).take 8) else 0
def headN (b : List Int) : Nat := if headOk b = true then valB ((b.drop 12).take 4) else 0
end Go.Proofs.Yteajblfkfmopfaa.Jour
namespace Go.Proofs.Yteajblfkfmopfaa.Jour
set_option linter.unusedVariables false
set_option linter.unusedSimpArgs false
open Go Go.RowKit Go.Proofs.Yteajblfkfmopfaa.Mem Go.Proofs.Yteajblfkfmopfaa.Put Go.Proofs.Yteajblfkfmopfaa.Field

theorem wr_kept {B : Nat} {w w' : World} {e : Int} {A : Option Addr} {n c : Nat} {x : List Int} (h : Wr B w e A n c x) (hB : w'.heap[B]? = w.heap[B]?) (hk : ∀ k, (Value.slice A n c).ownBlock = some k → w'.heap[k]? = w.heap[k]?) : Wr B w' e A n c x :=
  ⟨hB.trans h.at_, h.own.kept hk⟩
structure Two (B C : Nat) (w : World) (A1 : Option Addr) (n1 c1 : Nat) (x1 : List Int) (A2 : Option Addr) (n2 c2 : Nat) (x2 : List Int) : Prop where
  fst : Wr B w 0 A1 n1 c1 x1
  snd : Wr C w 0 A2 n2 c2 x2
  far : B ≠ C
  ap1 : (Value.slice A1 n1 c1).ownBlock ≠ some C
  ap2 : (Value.slice A2 n2 c2).ownBlock ≠ some B
  ap : ∀ k, (Value.slice A1 n1 c1).ownBlock = some k → (Value.slice A2 n2 c2).ownBlock ≠ some k
theorem Two.swap {B C : Nat} {w : World} {A1 A2 : Option Addr} {n1 c1 n2 c2 : Nat} {x1 x2 : List Int} (h : Two B C w A1 n1 c1 x1 A2 n2 c2 x2) : Two C B w A2 n2 c2 x2 A1 n1 c1 x1 :=
  ⟨h.snd, h.fst, h.far.symm, h.ap2, h.ap1, fun k e1 e2 => h.ap k e2 e1⟩
theorem Two.one {B C : Nat} {w w' : World} {A1 A2 : Option Addr} {n1 c1 n2 c2 m : Nat} {x1 x2 z : List Int} (h : Two B C w A1 n1 c1 x1 A2 n2 c2 x2) (p : Put' B w w' A1 n1 c1 m z) :
    ∃ A1' c1', Two B C w' A1' (n1 + m) c1' z A2 n2 c2 x2 ∧ Wk B (.slice A1 n1 c1) w w' ∧ ∀ b, b ≤ B → b ≤ C → Below b w w' := by
  obtain ⟨A', c', hw, hk, ha⟩ := p
  have hC := h.snd.lt
  refine ⟨A', c', ⟨hw, ?_, h.far, ?_, h.ap2, ?_⟩, hk, fun b hb _ => ?_⟩
  · exact wr_kept h.snd (hk.block C hC h.far.symm h.ap1) fun k e => hk.block k (h.snd.own_far k e).2 (fun e2 => h.ap2 (by rw [← e2]; exact e)) (fun e2 => h.ap k e2 e)
  · rcases ha with e | ⟨k, e, hs⟩
    · rw [e]; exact h.ap1
    · rw [e]; intro e2; injection e2 with e2; omega
  · intro k e1 e2
    rcases ha with e | ⟨k2, e, hs⟩
    · rw [e] at e1; exact h.ap k e1 e2
    · rw [e] at e1; injection e1 with e1
      have := (h.snd.own_far k e2).2
      omega
  · exact hk.below hb (by have := h.fst.lt; omega) fun k e => by have := (h.fst.own_far k e).1; omega
theorem Two.two {B C : Nat} {w w' : World} {A1 A2 : Option Addr} {n1 c1 n2 c2 m : Nat} {x1 x2 z : List Int} (h : Two B C w A1 n1 c1 x1 A2 n2 c2 x2) (p : Put' C w w' A2 n2 c2 m z) :
    ∃ A2' c2', Two B C w' A1 n1 c1 x1 A2' (n2 + m) c2' z ∧ ∀ b, b ≤ B → b ≤ C → Below b w w' := by
  obtain ⟨A', c', h1, _, h2⟩ := h.swap.one p
  exact ⟨A', c', h1.swap, fun b h3 h4 => h2 b h4 h3⟩
theorem Two.box {B C : Nat} {w w' : World} {A1 A2 : Option Addr} {n1 c1 n2 c2 : Nat} {x1 x2 : List Int} {cs : Array Value} {T : TypeId} (h : Two B C w A1 n1 c1 x1 A2 n2 c2 x2) (k : Wk B (.slice A1 n1 c1) (w.alloc (.cells cs T)) w') : w'.heap[w.heap.size]? = some (.cells cs T (0, 0)) :=
  (k.block w.heap.size (by simp) (by have := h.fst.lt; omega) (fun e => by have := (h.fst.own_far _ e).2; omega)).trans (heap_alloc_new w _)
theorem Two.below {B C : Nat} {w w' : World} {A1 A2 : Option Addr} {n1 c1 n2 c2 : Nat} {x1 x2 : List Int} (h : Two B C w A1 n1 c1 x1 A2 n2 c2 x2) (hb : Below w.heap.size w w') : Two B C w' A1 n1 c1 x1 A2 n2 c2 x2 :=
  ⟨h.fst.below hb, h.snd.below hb, h.far, h.ap1, h.ap2, h.ap⟩
theorem Two.new (w : World) : Two w.heap.size (w.heap.size + 1) ((w.alloc (.cells #[.int .i64 0, .slice none 0 0] 192)).alloc (.cells #[.int .i64 0, .slice none 0 0] 192)) none 0 0 [] none 0 0 [] := by
  refine ⟨(Wr.new w).below ?_, ?_, by omega, by simp [Value.ownBlock], by simp [Value.ownBlock], by simp [Value.ownBlock]⟩
  · exact below_alloc (Below.refl _ _) _
  · have := Wr.new (w.alloc (.cells #[.int .i64 0, .slice none 0 0] 192))
    simpa using this
end Go.Proofs.Yteajblfkfmopfaa.Jour
namespace Go.Proofs.Yteajblfkfmopfaa.Jour
set_option linter.unusedVariables false
set_option linter.unusedSimpArgs false
open Go Go.RowKit Go.Proofs.Yteajblfkfmopfaa.Mem Go.Proofs.Yteajblfkfmopfaa.Entries Go.Proofs.Yteajblfkfmopfaa.Geo

theorem wrap_big {i : Nat} (h : i + 1 ≤ 9223372036854775807) : wrap64 ((i : Int) + 1) = ((i + 1 : Nat) : Int) := by unfold wrap64; omega
theorem entry_row {w : World} {ad : Addr} {j : Nat} {u v : Value} (h1 : w.cell? (ad.add (j * 2)) = some u) (h2 : w.cell? (ad.add (j * 2 + 1)) = some v) : ∀ i x, ([u, v] : List Value)[i]? = some x → w.cell? ((ad.add (j * 2)).add i) = some x := fun i x hx => by
  rcases i with _ | _ | i
  · simp at hx; subst hx; rw [add_add]; exact h1
  · simp at hx; subst hx; rw [add_add]; exact h2
  · simp at hx
set_option maxHeartbeats 1000000 in
set_option maxRecDepth 100000 in
theorem may_any (w : World) (A : Option Addr) (n c : Nat) (es : List (Int × List Int)) (s : Nat) (hn : n ≤ 1000000) (h : RdE w A n c es) (b : Bool) (hb : mayB es s = b) :
    Calls Try.prog 144 #[.slice A n c, .int .i64 (s : Int)] w fun e w' => e = .returned (.bool b) ∧ Below w.heap.size w w' := by
  have HN := As.mk hn
  have H := As.mk h
  have HBV := As.mk hb
  clear hn h hb
  go_enter Try.func144, Try.ntmps144
  go_wp2
  go_loopg [9] n (fun kq v9 wr => ∃ i : Nat, i + kq = n ∧ v9 = .int .i64 (i : Int) ∧ As (∀ j, j < i → 0 ≤ (nthE es j).1 ∧ (nthE es j).1 ≤ 1048575 ∧ (nthE es j).2.length = s) ∧ As (Below w.heap.size w wr))
  case atStart => exact ⟨0, by omega, rfl, ⟨fun j hj => by omega⟩, ⟨Below.refl _ _⟩⟩
  case round =>
    obtain ⟨i, hi, rfl, HJ, HB⟩ := hrel
    have HI := As.mk hi
    clear hi
    by_cases hlt : i < n
    · have c0 : decide ((i : Int) < (n : Int)) = true := decide_eq_true (by omega)
      have c1 : decide (i < n) = true := decide_eq_true hlt
      have lt' : (i : Int) < (n : Int) := by omega
      have hw : wrap64 ((i : Int) + 1) = ((i + 1 : Nat) : Int) := wrap_up (by have := HN.out; omega)
      obtain ⟨ad, Aj, cj, ea, h1, h2, h3⟩ := (H.out.below HB.out).at i hlt
      cases ea
      have HLT := As.mk hlt
      have HNO := As.mk (fun hh => may_no (s := s) (show i < es.length by rw [H.out.len]; exact hlt) hh)
      have HJS := As.mk (show (0 ≤ (nthE es i).1 ∧ (nthE es i).1 ≤ 1048575 ∧ (nthE es i).2.length = s) → ∀ j, j < i + 1 → 0 ≤ (nthE es j).1 ∧ (nthE es j).1 ≤ 1048575 ∧ (nthE es j).2.length = s from fun hh j hj => by
        rcases Nat.lt_succ_iff_lt_or_eq.1 hj with h | rfl
        · exact HJ.out j h
        · exact hh)
      generalize (nthE es i).1 = x at *
      generalize (nthE es i).2.length = m at *
      have HR := As.mk (entry_row h1 h2)
      have hm9 := h3.le
      have hm8 := h3.cap
      unfold maxLen at hm8
      have hml : (m : Int) ≤ 9223372036854775807 := by omega
      clear hm9 hm8
      have HBa := As.mk (below_step HB.out (below_alloc (Below.refl wr.heap.size wr) (.cells #[.int .i64 x, .slice Aj m cj] 90)))
      clear h1 h2 h3 hlt
      by_cases k1 : x < 0
      · have d1 : decide (x < 0) = true := decide_eq_true k1
        have HF : As (b = false) := ⟨by rw [← HBV.out]; exact HNO.out (fun hh => by omega)⟩
        clear k1
        go_wp2_with (refine wpList_load_at rfl 90 (.tmp 11) rfl (ad.add (i * 2)) rfl [.int .i64 x, .slice Aj m cj] _ HR.out Try.underlying90 rfl infoEn ?_)
        go_ret
        exact ⟨by rw [HF.out]; rfl, HBa.out⟩
      · have d1 : decide (x < 0) = false := decide_eq_false k1
        by_cases k2 : 1048576 ≤ x
        · have d2 : decide (1048576 ≤ x) = true := decide_eq_true k2
          have HF : As (b = false) := ⟨by rw [← HBV.out]; exact HNO.out (fun hh => by omega)⟩
          clear k1 k2
          go_wp2_with (refine wpList_load_at rfl 90 (.tmp 11) rfl (ad.add (i * 2)) rfl [.int .i64 x, .slice Aj m cj] _ HR.out Try.underlying90 rfl infoEn ?_)
          go_ret
          exact ⟨by rw [HF.out]; rfl, HBa.out⟩
        · have d2 : decide (1048576 ≤ x) = false := decide_eq_false k2
          by_cases k3 : m = s
          · have HOK := As.mk (HJS.out ⟨by omega, by omega, k3⟩)
            have d3 : ((m : Int) != (s : Int)) = false := by rw [k3]; simp
            have d4 : (m == s) = true := by rw [k3]; simp
            have d5 : ((m : Int) == (s : Int)) = true := by rw [k3]; simp
            clear k1 k2 k3
            go_wp2_with (refine wpList_load_at rfl 90 (.tmp 11) rfl (ad.add (i * 2)) rfl [.int .i64 x, .slice Aj m cj] _ HR.out Try.underlying90 rfl infoEn ?_)
            go_roundg (n - (i + 1))
            case measure => have := HI.out; have := HLT.out; omega
            case rel => exact ⟨i + 1, by have := HI.out; have := HLT.out; omega, by go_num, HOK, HBa⟩
          · have HF : As (b = false) := ⟨by rw [← HBV.out]; exact HNO.out (fun hh => k3 hh.2.2)⟩
            have d3 : ((m : Int) != (s : Int)) = true := by simp; omega
            have d4 : (m == s) = false := by simp; omega
            have d5 : ((m : Int) == (s : Int)) = false := by simp; omega
            clear k1 k2 k3
            go_wp2_with (refine wpList_load_at rfl 90 (.tmp 11) rfl (ad.add (i * 2)) rfl [.int .i64 x, .slice Aj m cj] _ HR.out Try.underlying90 rfl infoEn ?_)
            go_ret
            exact ⟨by rw [HF.out]; rfl, HBa.out⟩
    · have c0 : decide ((i : Int) < (n : Int)) = false := decide_eq_false (by omega)
      have c1 : decide (i < n) = false := decide_eq_false hlt
      have HT : As (b = true) := ⟨by rw [← HBV.out, may_iff]; exact fun j hj => HJ.out j (by have := HI.out; have := H.out.len; omega)⟩
      clear hlt
      go_wp2
      go_ret
      exact ⟨by rw [HT.out]; rfl, HB.out⟩
/-- are entries few? -/
def fewB (es : List (Int × List Int)) : Bool := es.all (fun e => decide (e.2.length ≤ 300)) && decide (es.length ≤ 20)
theorem few_iff (es : List (Int × List Int)) : fewB es = true ↔ (∀ j, j < es.length → (nthE es j).2.length ≤ 300) ∧ es.length ≤ 20 := by
  unfold fewB
  rw [Bool.and_eq_true, decide_eq_true_eq, List.all_eq_true]
  refine and_congr ⟨fun h j hj => ?_, fun h e he => ?_⟩ Iff.rfl
  · have := h (nthE es j) (by unfold nthE; rw [List.getD_eq_getElem?_getD, List.getElem?_eq_getElem hj]; exact List.getElem_mem _)
    simpa using this
  · obtain ⟨j, hj, rfl⟩ := List.mem_iff_getElem.1 he
    have := h j hj
    unfold nthE at this
    rw [List.getD_eq_getElem?_getD, List.getElem?_eq_getElem hj] at this
    simpa using this
set_option maxHeartbeats 1000000 in
set_option maxRecDepth 100000 in
theorem few_any (w : World) (A : Option Addr) (n c : Nat) (es : List (Int × List Int)) (hn : n ≤ 9223372036854775807) (h : RdE w A n c es) (b : Bool) (hb : fewB es = b) :
    Calls Try.prog 74 #[.slice A n c] w fun e w' => e = .returned (.bool b) ∧ Below w.heap.size w w' := by
  have HN := As.mk hn
  have H := As.mk h
  have HBV := As.mk hb
  clear hn h hb
  go_enter Try.func74, Try.ntmps74
  go_wp2
  go_loopg [7] n (fun kq v7 wr => ∃ i : Nat, i + kq = n ∧ v7 = .int .i64 (i : Int) ∧ As (∀ j, j < i → (nthE es j).2.length ≤ 300) ∧ As (Below w.heap.size w wr))
  case atStart => exact ⟨0, by omega, rfl, ⟨fun j hj => by omega⟩, ⟨Below.refl _ _⟩⟩
  case round =>
    obtain ⟨i, hi, rfl, HJ, HB⟩ := hrel
    have HI := As.mk hi
    clear hi
    by_cases hlt : i < n
    · have c0 : decide ((i : Int) < (n : Int)) = true := decide_eq_true (by omega)
      have c1 : decide (i < n) = true := decide_eq_true hlt
      have lt' : (i : Int) < (n : Int) := by omega
      have hw : wrap64 ((i : Int) + 1) = ((i + 1 : Nat) : Int) := wrap_big (by have := HN.out; omega)
      obtain ⟨ad, Aj, cj, ea, h1, h2, h3⟩ := (H.out.below HB.out).at i hlt
      cases ea
      have HLT := As.mk hlt
      have HNO := As.mk (show ¬ (nthE es i).2.length ≤ 300 → fewB es = false from fun hh => by
        rcases Bool.eq_false_or_eq_true (fewB es) with h | h
        · exact absurd (((few_iff es).1 h).1 i (by rw [H.out.len]; exact hlt)) hh
        · exact h)
      have HJS := As.mk (show (nthE es i).2.length ≤ 300 → ∀ j, j < i + 1 → (nthE es j).2.length ≤ 300 from fun hh j hj => by
        rcases Nat.lt_succ_iff_lt_or_eq.1 hj with h | rfl
        · exact HJ.out j h
        · exact hh)
      generalize (nthE es i).1 = x at *
      generalize (nthE es i).2.length = m at *
      have HR := As.mk (entry_row h1 h2)
      have HBa := As.mk (below_step HB.out (below_alloc (Below.refl wr.heap.size wr) (.cells #[.int .i64 x, .slice Aj m cj] 90)))
      clear h1 h2 h3 hlt
      by_cases k1 : m ≤ 300
      · have d1 : decide (300 < (m : Int)) = false := decide_eq_false (by omega)
        have d2 : decide (300 < m) = false := decide_eq_false (by omega)
        have HOK := As.mk (HJS.out k1)
        clear k1
        go_wp2_with (refine wpList_load_at rfl 90 (.tmp 9) rfl (ad.add (i * 2)) rfl [.int .i64 x, .slice Aj m cj] _ HR.out Try.underlying90 rfl infoEn ?_)
        go_roundg (n - (i + 1))
        case measure => have := HI.out; have := HLT.out; omega
        case rel => exact ⟨i + 1, by have := HI.out; have := HLT.out; omega, by go_num, HOK, HBa⟩
      · have d1 : decide (300 < (m : Int)) = true := decide_eq_true (by omega)
        have d2 : decide (300 < m) = true := decide_eq_true (by omega)
        have HF : As (b = false) := ⟨by rw [← HBV.out]; exact HNO.out k1⟩
        clear k1
        go_wp2_with (refine wpList_load_at rfl 90 (.tmp 9) rfl (ad.add (i * 2)) rfl [.int .i64 x, .slice Aj m cj] _ HR.out Try.underlying90 rfl infoEn ?_)
        go_ret
        exact ⟨by rw [HF.out]; rfl, HBa.out⟩
    · have c0 : decide ((i : Int) < (n : Int)) = false := decide_eq_false (by omega)
      have c1 : decide (i < n) = false := decide_eq_false hlt
      obtain ⟨q, hq⟩ : ∃ q, decide (n ≤ 20) = q := ⟨_, rfl⟩
      have HT : As (b = q) := ⟨by
        rw [← HBV.out, ← hq, Bool.eq_iff_iff, few_iff, decide_eq_true_eq, H.out.len]
        exact ⟨fun h => h.2, fun h => ⟨fun j hj => HJ.out j (by have := HI.out; omega), h⟩⟩⟩
      have d1 : decide ((n : Int) ≤ 20) = q := by rw [← hq, decide_eq_decide]; omega
      clear hlt
      go_wp2
      go_ret
      exact ⟨by rw [HT.out]; rfl, HB.out⟩
end Go.Proofs.Yteajblfkfmopfaa.Jour
namespace Go.Proofs.Yteajblfkfmopfaa.Jour
set_option linter.unusedVariables false
set_option linter.unusedSimpArgs false
open Go Go.RowKit Go.Proofs.Yteajblfkfmopfaa.Mem Go.Proofs.Yteajblfkfmopfaa.Entries Go.Proofs.Yteajblfkfmopfaa.Geo

theorem add_one (a : Addr) : a.add 1 = ⟨a.block, a.off + 1, none⟩ := by unfold Addr.add; simp
set_option maxHeartbeats 1000000 in
set_option maxRecDepth 100000 in
theorem mayR_any (w : World) (A : Option Addr) (n c : Nat) (es : List (Int × List Int)) (s : Nat) (hn : n ≤ 1000000) (h : RdE w A n c es) (b : Bool) (hb : mayB es s = b) :
    Calls Try.prog 79 #[.slice A n c, .int .i64 (s : Int)] w fun e w' => e = .returned (.bool b) ∧ Below w.heap.size w w' := by
  have HN := As.mk hn
  have H := As.mk h
  have HBV := As.mk hb
  clear hn h hb
  go_enter Try.func79, Try.ntmps79
  go_wp2
  go_loopg [5] n (fun kq v5 wr => ∃ i : Nat, i + kq = n ∧ v5 = .int .i64 (i : Int) ∧ As (∀ j, j < i → 0 ≤ (nthE es j).1 ∧ (nthE es j).1 ≤ 1048575 ∧ (nthE es j).2.length = s) ∧ As (Below w.heap.size w wr))
  case atStart => exact ⟨0, by omega, rfl, ⟨fun j hj => by omega⟩, ⟨Below.refl _ _⟩⟩
  case round =>
    obtain ⟨i, hi, rfl, HJ, HB⟩ := hrel
    have HI := As.mk hi
    clear hi
    by_cases hlt : i < n
    · have c0 : decide ((i : Int) < (n : Int)) = true := decide_eq_true (by omega)
      have c1 : decide (i < n) = true := decide_eq_true hlt
      have lt' : (i : Int) < (n : Int) := by omega
      have hw : wrap64 ((i : Int) + 1) = ((i + 1 : Nat) : Int) := wrap_up (by have := HN.out; omega)
      obtain ⟨ad, Aj, cj, ea, h1, h2, h3⟩ := (H.out.below HB.out).at i hlt
      cases ea
      have HLT := As.mk hlt
      have HNO := As.mk (fun hh => may_no (s := s) (show i < es.length by rw [H.out.len]; exact hlt) hh)
      have HJS := As.mk (show (0 ≤ (nthE es i).1 ∧ (nthE es i).1 ≤ 1048575 ∧ (nthE es i).2.length = s) → ∀ j, j < i + 1 → 0 ≤ (nthE es j).1 ∧ (nthE es j).1 ≤ 1048575 ∧ (nthE es j).2.length = s from fun hh j hj => by
        rcases Nat.lt_succ_iff_lt_or_eq.1 hj with h | rfl
        · exact HJ.out j h
        · exact hh)
      generalize (nthE es i).1 = x at *
      generalize (nthE es i).2.length = m at *
      have h4 : wr.cell? ⟨(ad.add (i * 2)).block, (ad.add (i * 2)).off + 1, none⟩ = some (.slice Aj m cj) := by rw [← add_one, add_add]; exact h2
      have hm9 := h3.le
      have hm8 := h3.cap
      unfold maxLen at hm8
      have hml : (m : Int) ≤ 9223372036854775807 := by omega
      clear hm9 hm8 h3 hlt
      by_cases k1 : x < 0
      · have d1 : decide (x < 0) = true := decide_eq_true k1
        have HF : As (b = false) := ⟨by rw [← HBV.out]; exact HNO.out (fun hh => by omega)⟩
        clear k1
        go_wp2
        go_ret
        exact ⟨by rw [HF.out]; rfl, HB.out⟩
      · have d1 : decide (x < 0) = false := decide_eq_false k1
        by_cases k2 : 1048575 < x
        · have d2 : decide (1048575 < x) = true := decide_eq_true k2
          have HF : As (b = false) := ⟨by rw [← HBV.out]; exact HNO.out (fun hh => by omega)⟩
          clear k1 k2
          go_wp2
          go_ret
          exact ⟨by rw [HF.out]; rfl, HB.out⟩
        · have d2 : decide (1048575 < x) = false := decide_eq_false k2
          by_cases k3 : m = s
          · have HOK := As.mk (HJS.out ⟨by omega, by omega, k3⟩)
            have d3 : ((m : Int) != (s : Int)) = false := by rw [k3]; simp
            have d4 : (m == s) = true := by rw [k3]; simp
            have d5 : ((m : Int) == (s : Int)) = true := by rw [k3]; simp
            clear k1 k2 k3
            go_wp2
            go_roundg (n - (i + 1))
            case measure => have := HI.out; have := HLT.out; omega
            case rel => exact ⟨i + 1, by have := HI.out; have := HLT.out; omega, by go_num, HOK, HB⟩
          · have HF : As (b = false) := ⟨by rw [← HBV.out]; exact HNO.out (fun hh => k3 hh.2.2)⟩
            have d3 : ((m : Int) != (s : Int)) = true := by simp; omega
            have d4 : (m == s) = false := by simp; omega
            have d5 : ((m : Int) == (s : Int)) = false := by simp; omega
            clear k1 k2 k3
            go_wp2
            go_ret
            exact ⟨by rw [HF.out]; rfl, HB.out⟩
    · have c0 : decide ((i : Int) < (n : Int)) = false := decide_eq_false (by omega)
      have c1 : decide (i < n) = false := decide_eq_false hlt
      have HT : As (b = true) := ⟨by rw [← HBV.out, may_iff]; exact fun j hj => HJ.out j (by have := HI.out; have := H.out.len; omega)⟩
      clear hlt
      go_wp2
      go_ret
      exact ⟨by rw [HT.out]; rfl, HB.out⟩
end Go.Proofs.Yteajblfkfmopfaa.Jour
