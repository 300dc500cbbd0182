/- My own words on memory: slices that are read, rows of the call's own. No dump in sight. -/
import Derived.Below
import Derived.WalkKit
import Derived.Deep.OwnRows
import Derived.Deep.Draws
import Derived.OwnWalk
import Derived.Laws.OwnMore
import Derived.Maps.AppendAt
import Derived.RegionTactic
import Derived.StillTail
namespace Go.Proofs.Yteajblfkfmopfaa.Mem
set_option linter.unusedVariables false
set_option linter.unusedSimpArgs false
open Go Go.RowKit

/-- A fact set aside: the walk does not take it for a rule. -/
structure As (p : Prop) : Prop where mk :: (out : p)

/-- A list's number at a place, which simp does not take apart. -/
def nth (x : List Int) (i : Nat) : Int := x.getD i 0
theorem nth_getD (x : List Int) (i : Nat) : nth x i = x.getD i 0 := rfl

/-- A slice of n whole numbers that is read. -/
structure Rd (k : IntKind) (w : World) (A : Option Addr) (n c : Nat) (x : List Int) : Prop where
  len : x.length = n
  le : n ≤ c
  cap : c ≤ maxLen
  cells : 0 < n → ∃ ad, A = some ad ∧ ∀ j, j < n → w.cell? (ad.add j) = some (.int k (nth x j))

theorem Rd.at {k : IntKind} {w : World} {A : Option Addr} {n c : Nat} {x : List Int} (h : Rd k w A n c x) (i : Nat) (hi : i < n) :
    ∃ ad, A = some ad ∧ w.cell? (ad.add i) = some (.int k (nth x i)) := by
  obtain ⟨ad, e, hc⟩ := h.cells (by omega)
  exact ⟨ad, e, hc i hi⟩
theorem Rd.below {k : IntKind} {w w' : World} {A : Option Addr} {n c : Nat} {x : List Int} (h : Rd k w A n c x) (hb : Below w.heap.size w w') : Rd k w' A n c x :=
  ⟨h.len, h.le, h.cap, fun hn => by
    obtain ⟨ad, e, hc⟩ := h.cells hn
    exact ⟨ad, e, fun j hj => (hb.cell (World.block_lt_of_cell? w _ (hc j hj))).trans (hc j hj)⟩⟩
theorem Rd.drewN {k : IntKind} {w : World} {A : Option Addr} {n c : Nat} {x : List Int} (h : Rd k w A n c x) (m : Nat) : Rd k (w.drewN m) A n c x := ⟨h.len, h.le, h.cap, h.cells⟩
theorem Rd.drew {k : IntKind} {w : World} {A : Option Addr} {n c : Nat} {x : List Int} (h : Rd k w A n c x) : Rd k w.drew A n c x := ⟨h.len, h.le, h.cap, h.cells⟩
theorem add0 (b j : Nat) : (⟨b, 0, none⟩ : Addr).add j = ⟨b, j, none⟩ := by unfold Addr.add; split <;> simp_all
/-- What lies at the head of one block. -/
theorem Rd.of_row {w : World} {b : Nat} {t : TypeId} {n m c : Nat} {k : IntKind} {f : Nat → Value} {x : List Int} (h : w.rowIs b t n f) (hl : x.length = m) (hmn : m ≤ n) (hc : m ≤ c) (hm : c ≤ maxLen) (hx : ∀ j, j < m → f j = .int k (nth x j)) :
    Rd k w (some ⟨b, 0, none⟩) m c x :=
  ⟨hl, hc, hm, fun _ => ⟨_, rfl, fun j hj => by
    have := h.cell (i := j) (by omega)
    rw [hx j hj] at this
    rw [add0]; exact this⟩⟩
theorem Rd.nil (k : IntKind) (w : World) (A : Option Addr) (c : Nat) (hc : c ≤ maxLen) : Rd k w A 0 c [] := ⟨rfl, by simp, hc, fun h => by simp at h⟩

/-- A literal slice. -/
theorem Rd.lit (w : World) (k : IntKind) (T : TypeId) (xs : List Int) (hm : xs.length ≤ maxLen) : Rd k (w.alloc (.cells (xs.map (Value.int k)).toArray T)) (some ⟨w.heap.size, 0, none⟩) xs.length xs.length xs :=
  ⟨rfl, Nat.le_refl _, hm, fun _ => ⟨_, rfl, fun j hj => by
    rw [add0]
    have : (w.alloc (.cells (xs.map (Value.int k)).toArray T)).heap[w.heap.size]? = some (.cells (xs.map (Value.int k)).toArray T) := heap_alloc_new w _
    unfold World.cell?
    simp only [this]
    simp [nth, List.getD_eq_getElem?_getD, List.getElem?_eq_getElem hj]⟩⟩

theorem rowIs_below {w w' : World} {b : Nat} {t : TypeId} {n : Nat} {f : Nat → Value} (h : w.rowIs b t n f) (hb : Below w.heap.size w w') : w'.rowIs b t n f :=
  h.of_block (hb.block b h.lt)
theorem rowIs_drewN {w : World} {b : Nat} {t : TypeId} {n : Nat} {f : Nat → Value} (h : w.rowIs b t n f) (m : Nat) : (w.drewN m).rowIs b t n f := h
theorem below_drewN {B : Nat} {w W : World} (h : Below B w W) (n : Nat) : Below B w (W.drewN n) := ⟨h.os, h.tape, h.output, h.size, h.block⟩
theorem below_alloc {w W : World} (h : Below w.heap.size w W) (o : Obj) : Below w.heap.size w (W.alloc o) := h.alloc h.size o
theorem below_step {w W W' : World} (h : Below w.heap.size w W) (k : Below W.heap.size W W') : Below w.heap.size w W' := h.trans (k.mono h.size)

/-! ### append, onto nil or onto a row of the call's own; the source a slice that is read, nil let in -/
/-- What the second argument of an append yields. -/
structure Src (w : World) (x : Value) (m size : Nat) (news : List Value) : Prop where
  len : news.length = m * size
  one : ∀ u ∈ news, u.oneCell' = true
  at_ : (∃ ad c, x = .slice (some ad) m c ∧ ∀ j u, news[j]? = some u → w.cell? (ad.add j) = some u) ∨ (∃ c, x = .slice none 0 c ∧ m = 0)

theorem Src.rd {k : IntKind} {w : World} {A : Option Addr} {n c : Nat} {x : List Int} (h : Rd k w A n c x) : Src w (.slice A n c) n 1 (x.map (Value.int k)) := by
  obtain ⟨rfl, h1, h2, h3⟩ := h
  refine ⟨by simp, fun u hu => ?_, ?_⟩
  · obtain ⟨q, _, rfl⟩ := List.mem_map.mp hu; rfl
  · rcases A with _ | ad
    · right
      have : x.length = 0 := by
        rcases Nat.eq_zero_or_pos x.length with h0 | h0
        · exact h0
        · obtain ⟨ad, e, _⟩ := h3 h0; cases e
      exact ⟨c, by rw [this], this⟩
    · left
      refine ⟨ad, c, rfl, fun j u hu => ?_⟩
      have hj : j < x.length := by
        rcases Nat.lt_or_ge j x.length with h | h
        · exact h
        · simp [List.getElem?_eq_none h] at hu
      obtain ⟨ad', e, hc⟩ := h3 (by omega)
      cases e
      have h2 := hc j hj
      rw [List.getElem?_map, List.getElem?_eq_getElem hj] at hu
      simp only [Option.map_some, Option.some.injEq] at hu
      subst hu
      rw [h2, nth, List.getD_eq_getElem?_getD, List.getElem?_eq_getElem hj]
      rfl
/-- one element, laid into a fresh cell by the statement itself -/
theorem Src.cell {w : World} {b : Nat} {u : Value} {T : TypeId} (h : w.heap[b]? = some (.cells #[u] T (0, 0))) (hu : u.oneCell' = true) : Src w (.slice (some ⟨b, 0, none⟩) 1 1) 1 1 [u] := by
  refine ⟨by simp, by simpa using hu, .inl ⟨_, _, rfl, fun j v hv => ?_⟩⟩
  rcases j with _ | j
  · simp at hv; subst hv
    simp [Addr.add, World.cell?, h]
  · simp at hv

section
variable {P : Program}
theorem run_app (w : World) (base : Nat) (t ty e : TypeId) (z : Value) (size bytes : Nat) (ht : P.underlying t = some (.slice e)) (hinfo : (P.info? e).map (fun i => (i.zero, i.size, i.bytes)) = some (some z, size, bytes))
    (hzs : z.cells.size = size) (hsz : 0 < size) (v : Value) (n : Nat) (xs : List Value) (hown : w.ownsRow base e size v n xs) (x : Value) (m : Nat) (news : List Value) (hs : Src w x m size news)
    (h63 : n + m ≤ maxLen) (hbytes : (n + m) * bytes ≤ 140737488355328) (hbase : base ≤ w.heap.size) :
    ∃ v' w', (Builtin.append_ #[t, t] ty #[v, x]).run P w = .ok v' w' ∧ w'.ownsRow base e size v' (n + m) (xs ++ news) ∧ w.grownBy w' v.ownBlock ∧ (v'.ownBlock = v.ownBlock ∨ v'.ownBlock = some w.heap.size) := by
  obtain ⟨i, hi, hz, h1, h2⟩ := info_parts hinfo
  rcases hs.at_ with ⟨ad, c, rfl, hc⟩ | ⟨c, rfl, rfl⟩
  · obtain ⟨v', w', hr, a1, a2, _, a4⟩ := run_append_own_at (P := P) w base t ty e i z size bytes ht hi hz h1 h2 hzs hsz v n xs hown ad m c news hs.len hc hs.one h63 hbytes hbase
    exact ⟨v', w', hr, a1, a2, a4⟩
  · obtain rfl : news = [] := List.eq_nil_of_length_eq_zero (by simpa using hs.len)
    refine ⟨v, w, ?_, by simpa using hown, World.grownBy.refl w _, .inl rfl⟩
    rcases hown.2 with ⟨rfl, hn⟩ | ⟨g, cap, cur, rfl, _, _, hnc, _⟩
    · simp [Builtin.append_, run_underlying ht, sizeOf, typeInfo, hi, Builtin.lenOf, Builtin.firstCells]
    · simp [Builtin.append_, run_underlying ht, sizeOf, typeInfo, hi, Builtin.lenOf, Builtin.firstCells, hnc, storeCells]

theorem wp_app {w : World} {o : Oper} {a : Act} {K : Act → World → Prop} {Q : Exit → Act → World → Prop} (s x : Operand) (t : TypeId)
    (ho : o.op = .call { callee := .builtin .append, args := #[s, x], argTypes := #[t, t] })
    (base : Nat) (e : TypeId) (z : Value) (size bytes : Nat) (ht : P.underlying t = some (.slice e)) (hinfo : (P.info? e).map (fun i => (i.zero, i.size, i.bytes)) = some (some z, size, bytes))
    (hzs : z.cells.size = size) (hsz : 0 < size) (v : Value) (n : Nat) (xs : List Value) (hv : a.eval s = v) (hown : w.ownsRow base e size v n xs) (y : Value) (m : Nat) (news : List Value) (hy : a.eval x = y) (hs : Src w y m size news)
    (h63 : n + m ≤ maxLen) (hbytes : (n + m) * bytes ≤ 140737488355328) (hbase : base ≤ w.heap.size) {B : Nat} {w0 : World} (HB : Below B w0 w) (hB : B ≤ base)
    (h : ∀ v' w', w'.ownsRow base e size v' (n + m) (xs ++ news) → w.grownBy w' v.ownBlock → (v'.ownBlock = v.ownBlock ∨ v'.ownBlock = some w.heap.size) → Below B w0 w' → K (a.put o.dst v') w') : o.wp P a w K Q := by
  obtain ⟨v', w', hr, h2, h3, h4⟩ := run_app (P := P) w base t o.type e z size bytes ht hinfo hzs hsz v n xs hown y m news hs h63 hbytes hbase
  unfold Oper.wp execOp
  simp only [ho, resolve, invoke, builtin, Sem.run_bind, Sem.run_pure, Result.andThen_ok, List.map_toArray, List.map_cons, List.map_nil, hv, hy, hr]
  exact h v' w' h2 h3 h4 (HB.grown h3 (Nat.le_trans hB hbase) (fun k hk => Nat.le_trans hB (hown.lt k hk).1))

theorem wpList_app {w : World} {ops : Array Oper} {rest : List Oper} {o : Oper} {a : Act} {Q : Exit → Act → World → Prop} (hgd : o.guard = none) (s x : Operand) (t : TypeId)
    (ho : o.op = .call { callee := .builtin .append, args := #[s, x], argTypes := #[t, t] })
    (base : Nat) (e : TypeId) (z : Value) (size bytes : Nat) (ht : P.underlying t = some (.slice e)) (hinfo : (P.info? e).map (fun i => (i.zero, i.size, i.bytes)) = some (some z, size, bytes))
    (hzs : z.cells.size = size) (hsz : 0 < size) (v : Value) (n : Nat) (xs : List Value) (hv : a.eval s = v) (hown : w.ownsRow base e size v n xs) (y : Value) (m : Nat) (news : List Value) (hy : a.eval x = y) (hs : Src w y m size news)
    (h63 : n + m ≤ maxLen) (hbytes : (n + m) * bytes ≤ 140737488355328) (hbase : base ≤ w.heap.size) {B : Nat} {w0 : World} (HB : Below B w0 w) (hB : B ≤ base)
    (h : ∀ v' w', w'.ownsRow base e size v' (n + m) (xs ++ news) → w.grownBy w' v.ownBlock → (v'.ownBlock = v.ownBlock ∨ v'.ownBlock = some w.heap.size) → Below B w0 w' → wpList P ops Q rest (a.put o.dst v') w') : wpList P ops Q (o :: rest) a w :=
  wpList_plain hgd fun _ hK => wp_app s x t ho base e z size bytes ht hinfo hzs hsz v n xs hv hown y m news hy hs h63 hbytes hbase HB hB fun v' w' h2 h3 h4 h5 => hK _ _ (h v' w' h2 h3 h4 h5)
end

/-- What the call owns, as something that is read. -/
theorem own_slice {w : World} {base n : Nat} {e : TypeId} {size : Nat} {v : Value} {xs : List Value} (h : w.ownsRow base e size v n xs) : ∃ A c, v = .slice A n c := by
  rcases h.2 with ⟨rfl, rfl⟩ | ⟨g, cap, cur, rfl, _⟩ <;> exact ⟨_, _, rfl⟩
theorem own_rd {w : World} {base n : Nat} {e : TypeId} {k : IntKind} {v : Value} {x : List Int} (h : w.ownsRow base e 1 v n (x.map (Value.int k))) : ∃ A c, v = .slice A n c ∧ Rd k w A n c x := by
  have hl : x.length = n := by simpa using h.1
  subst hl
  have h0 := h
  rcases h.2 with ⟨rfl, hn⟩ | ⟨g, cap, cur, rfl, hg, hh, hnc, hcm, hcs, ht⟩
  · exact ⟨none, 0, by rw [hn], rfl, by omega, by simp [maxLen], fun hp => by omega⟩
  · refine ⟨_, _, rfl, rfl, hnc, hcm, fun _ => ⟨_, rfl, fun j hj => ?_⟩⟩
    have := h0.cells (g := g) rfl j (.int k (nth x j)) (by
      rw [List.getElem?_map, List.getElem?_eq_getElem hj, nth, List.getD_eq_getElem?_getD, List.getElem?_eq_getElem hj]; rfl)
    exact this
theorem own_block {w : World} {base n n' c : Nat} {e : TypeId} {size : Nat} {A : Option Addr} {xs : List Value} (h : w.ownsRow base e size (.slice A n c) n' xs) : ∀ ad, A = some ad → base ≤ ad.block ∧ ad.block < w.heap.size := by
  rintro ad rfl
  exact h.lt ad.block rfl
theorem own_below {w w1 : World} {base : Nat} {e : TypeId} {size n : Nat} {v : Value} {xs : List Value} (h : w.ownsRow base e size v n xs) (hb : Below w.heap.size w w1) : w1.ownsRow base e size v n xs := by
  have hlt := h.lt
  obtain ⟨h1, h2⟩ := h
  refine ⟨h1, ?_⟩
  rcases h2 with h2 | ⟨g, cap, cur, rfl, hg, hh, r⟩
  · exact .inl h2
  · exact .inr ⟨g, cap, cur, rfl, hg, (hb.block g (hlt g rfl).2).trans hh, r⟩
theorem below_grown {B : Nat} {w w1 w2 : World} {base : Nat} {e : TypeId} {size n : Nat} {v : Value} {xs : List Value} (h : Below B w w1) (ho : w1.ownsRow base e size v n xs) (hg : w1.grownBy w2 v.ownBlock) (hB : B ≤ w1.heap.size) (hb : B ≤ base) : Below B w w2 :=
  h.grown hg hB (fun k hk => Nat.le_trans hb (ho.lt k hk).1)

/-! ### cuts of a slice that is read -/
/-- Where a cut begins. -/
def cutA (A : Option Addr) (c l size : Nat) : Option Addr := if c = l then A else A.map (·.add (l * size))
theorem cutA_block {A : Option Addr} {c l size : Nat} {ad : Addr} (h : cutA A c l size = some ad) : ∃ ad0, A = some ad0 ∧ ad0.block = ad.block := by
  unfold cutA at h
  split at h
  · exact ⟨ad, h, rfl⟩
  · obtain ⟨a0, rfl, rfl⟩ := Option.map_eq_some_iff.mp h
    exact ⟨a0, rfl, by unfold Addr.add; split <;> rfl⟩
theorem add_add (a : Addr) (i j : Nat) : (a.add i).add j = a.add (i + j) := by
  rcases a with ⟨b, o, sp⟩
  unfold Addr.add
  by_cases hi : i = 0
  · subst hi; simp
  · by_cases hj : j = 0
    · subst hj; simp
    · simp [hi, hj, Nat.add_assoc]
theorem Rd.cut {k : IntKind} {w : World} {A : Option Addr} {n c : Nat} {x : List Int} (r : Rd k w A n c x) (l h : Nat) (hl : l ≤ h) (hh : h ≤ n) : Rd k w (cutA A c l 1) (h - l) (c - l) ((x.drop l).take (h - l)) := by
  refine ⟨by rw [List.length_take, List.length_drop, r.len]; omega, by have := r.le; omega, by have := r.cap; omega, fun hp => ?_⟩
  obtain ⟨ad, rfl, hc⟩ := r.cells (by omega)
  have := r.le
  refine ⟨ad.add l, by unfold cutA; rw [if_neg (by omega), Nat.mul_one]; rfl, fun j hj => ?_⟩
  rw [add_add, hc (l + j) (by omega)]
  congr 2
  simp only [nth, List.getD_eq_getElem?_getD]
  rw [List.getElem?_take_of_lt hj, List.getElem?_drop]
section
variable {P : Program}
theorem run_cut (W : World) (t e : TypeId) {z : Option Value} {size bytes : Nat} (ht : P.underlying t = some (.slice e)) (hinfo : (P.info? e).map (fun i => (i.zero, i.size, i.bytes)) = some (z, size, bytes)) (A : Option Addr) (n c l h : Nat) (k1 k2 : IntKind) (hl : l ≤ h) (hh : h ≤ c) :
    (Instr.slice t (.slice A n c) (some (.int k1 (l : Int))) (some (.int k2 (h : Int))) none).run P W = .ok (.slice (cutA A c l size) (h - l) (c - l)) W := by
  obtain ⟨i, hi, hzz⟩ := Option.map_eq_some_iff.1 hinfo
  simp only [Prod.mk.injEq] at hzz
  obtain ⟨_, h1, _⟩ := hzz
  simp [Instr.slice, run_underlying ht, Instr.sliceBounds, Instr.sliceBound, asIntOf, sizeOf, typeInfo, hi, h1, cutA, hl, hh]
theorem run_cut_from (W : World) (t e : TypeId) {z : Option Value} {size bytes : Nat} (ht : P.underlying t = some (.slice e)) (hinfo : (P.info? e).map (fun i => (i.zero, i.size, i.bytes)) = some (z, size, bytes)) (A : Option Addr) (n c l : Nat) (k1 : IntKind) (hl : l ≤ n) :
    (Instr.slice t (.slice A n c) (some (.int k1 (l : Int))) none none).run P W = .ok (.slice (cutA A c l size) (n - l) (c - l)) W := by
  obtain ⟨i, hi, hzz⟩ := Option.map_eq_some_iff.1 hinfo
  simp only [Prod.mk.injEq] at hzz
  obtain ⟨_, h1, _⟩ := hzz
  simp [Instr.slice, run_underlying ht, Instr.sliceBounds, Instr.sliceBound, asIntOf, sizeOf, typeInfo, hi, h1, cutA, hl]
theorem run_cut_to (W : World) (t e : TypeId) {z : Option Value} {size bytes : Nat} (ht : P.underlying t = some (.slice e)) (hinfo : (P.info? e).map (fun i => (i.zero, i.size, i.bytes)) = some (z, size, bytes)) (A : Option Addr) (n c h : Nat) (k2 : IntKind) (hh : h ≤ c) :
    (Instr.slice t (.slice A n c) none (some (.int k2 (h : Int))) none).run P W = .ok (.slice (cutA A c 0 size) h c) W := by
  obtain ⟨i, hi, _⟩ := Option.map_eq_some_iff.1 hinfo
  simp [Instr.slice, run_underlying ht, Instr.sliceBounds, Instr.sliceBound, asIntOf, sizeOf, typeInfo, hi, cutA, hh]
end

/-- A region that draws its order: all its operations but the last ones read, the last ones come in one order: the world one draw on. -/
theorem still_tail {P : Program} {id : Nat} {Q : Exit → Act → World → Prop} {a : Act} {w : World} {l : List Oper} (n : Nat) (hm : P.follows .mixedOrders = true) (hB : Region.lexTailB .any l.toArray n = true)
    (h : wpStill P l.toArray (w.drewN 1) (fun a' => wpList P l.toArray Q (l.drop n) a' (w.drewN 1)) (l.take n) a) : (Code.region id l.toArray true).wp P Q a w :=
  wp_region_still_tail n hm hB h

theorem below_undrewN {w w' : World} {n : Nat} (h : Below (w.drewN n).heap.size (w.drewN n) w') : Below w.heap.size w w' := ⟨h.os, h.tape, h.output, h.size, h.block⟩
/-! ### one block that was there is written -/
theorem grown_of_set {w w2 : World} (h : Below w.heap.size w w2) (p j : Nat) (v : Value) : w.grownBy (w2.setCell ⟨p, j, none⟩ v) (some p) :=
  ⟨h.os, h.tape, h.output, by have := h.size; simp [World.setCell]; omega, fun k hk hne => by
    rw [Below.heap_setCell _ _ _ _ (fun e => hne (by simp [e]))]
    exact h.block k hk⟩
theorem grown_refl (w : World) (row : Option Nat) : w.grownBy w row := World.grownBy.refl w row
theorem grownBy_trans {w w1 w2 : World} {p : Nat} (h : w.grownBy w1 (some p)) (k : w1.grownBy w2 (some p)) : w.grownBy w2 (some p) :=
  ⟨k.os.trans h.os, k.tape.trans h.tape, k.output.trans h.output, Nat.le_trans h.size k.size, fun i hi hne => (k.block i (Nat.lt_of_lt_of_le hi h.size) hne).trans (h.block i hi hne)⟩
theorem grownBy_below {w w1 w2 : World} {row : Option Nat} (h : w.grownBy w1 row) (k : Below w1.heap.size w1 w2) : w.grownBy w2 row :=
  ⟨k.os.trans h.os, k.tape.trans h.tape, k.output.trans h.output, Nat.le_trans h.size k.size, fun i hi hne => (k.block i (Nat.lt_of_lt_of_le hi h.size)).trans (h.block i hi hne)⟩
theorem grownBy_drewN {w w1 : World} {row : Option Nat} (h : w.grownBy w1 row) (n : Nat) : w.grownBy (w1.drewN n) row := ⟨h.os, h.tape, h.output, h.size, h.block⟩
theorem below_grownBy {w w1 w2 : World} {row : Option Nat} (h : Below w.heap.size w w1) (k : w1.grownBy w2 row) : w.grownBy w2 row :=
  ⟨k.os.trans h.os, k.tape.trans h.tape, k.output.trans h.output, Nat.le_trans h.size k.size, fun i hi hne => (k.block i (Nat.lt_of_lt_of_le hi h.size) hne).trans (h.block i hi)⟩
theorem below_some {B : Nat} {w0 w w' : World} {p : Nat} (h : Below B w0 w) (k : w.grownBy w' (some p)) (hB : B ≤ w.heap.size) (hp : B ≤ p) : Below B w0 w' :=
  h.grown k hB (fun j hj => by cases hj; exact hp)
theorem Rd.grown {k : IntKind} {w w' : World} {A : Option Addr} {n c : Nat} {x : List Int} {row : Option Nat} (h : Rd k w A n c x) (hg : w.grownBy w' row) (hne : ∀ ad, A = some ad → some ad.block ≠ row) : Rd k w' A n c x :=
  ⟨h.len, h.le, h.cap, fun hn => by
    obtain ⟨ad, e, hc⟩ := h.cells hn
    refine ⟨ad, e, fun j hj => ?_⟩
    have hb : (ad.add j).block = ad.block := by unfold Addr.add; split <;> rfl
    exact hg.cell (hc j hj) (by rw [hb]; exact hne ad e)⟩

/-- a sum of two that fit, under a name -/
theorem sum_named (t k : Nat) (h : t + k ≤ 140737488351232) : ∃ hi : Nat, hi = t + k ∧ IntKind.i64.wrap ((t : Int) + k) = (hi : Int) ∧ wrap64 ((t : Int) + k) = (hi : Int) :=
  ⟨t + k, rfl, by rw [IntKind.wrap_i64]; omega, by unfold wrap64; omega⟩
theorem run_cut_named {P : Program} (t e : TypeId) {z : Option Value} {size bytes : Nat} (ht : P.underlying t = some (.slice e)) (hinfo : (P.info? e).map (fun i => (i.zero, i.size, i.bytes)) = some (z, size, bytes)) (A : Option Addr) (n c l h k : Nat) (k1 k2 : IntKind) (he : h = l + k) (hh : h ≤ c) :
    ∀ W, (Instr.slice t (.slice A n c) (some (.int k1 (l : Int))) (some (.int k2 (h : Int))) none).run P W = .ok (.slice (cutA A c l size) k (c - l)) W := fun W => by
  have := run_cut (P := P) W t e ht hinfo A n c l h k1 k2 (by omega) hh
  rwa [show h - l = k by omega] at this
theorem Rd.cutn {k : IntKind} {w : World} {A : Option Addr} {n c : Nat} {x : List Int} (r : Rd k w A n c x) (l h d : Nat) (he : h = l + d) (hh : h ≤ n) : Rd k w (cutA A c l 1) d (c - l) ((x.drop l).take d) := by
  have := r.cut l h (by omega) hh
  rwa [show h - l = d by omega] at this

theorem grownBy_belowB {w w1 w2 : World} {row : Option Nat} (h : w.grownBy w1 row) (k : Below w.heap.size w1 w2) : w.grownBy w2 row :=
  ⟨k.os.trans h.os, k.tape.trans h.tape, k.output.trans h.output, Nat.le_trans h.size k.size, fun i hi hne => (k.block i hi).trans (h.block i hi hne)⟩
theorem Rd.belowB {k : IntKind} {w w' : World} {A : Option Addr} {n c B : Nat} {x : List Int} (h : Rd k w A n c x) (hb : Below B w w') (hA : ∀ ad, A = some ad → ad.block < B) : Rd k w' A n c x :=
  ⟨h.len, h.le, h.cap, fun hn => by
    obtain ⟨ad, e, hc⟩ := h.cells hn
    refine ⟨ad, e, fun j hj => ?_⟩
    have : (ad.add j).block = ad.block := by unfold Addr.add; split <;> rfl
    exact (hb.cell (by rw [this]; exact hA ad e)).trans (hc j hj)⟩

theorem own_at {w : World} {base n n' c : Nat} {e : TypeId} {size : Nat} {A : Option Addr} {xs : List Value} (h : w.ownsRow base e size (.slice A n c) n' xs) (j : Nat) (u : Value) (hu : xs[j]? = some u) : ∃ ad, A = some ad ∧ w.cell? (ad.add j) = some u := by
  rcases h.2 with ⟨hv, hn⟩ | ⟨g, cap, cur, hv, _⟩
  · have : xs = [] := List.eq_nil_of_length_eq_zero (by rw [h.1, hn]; simp)
    subst this
    simp at hu
  · injection hv with h1 h2 h3
    subst h1
    exact ⟨_, rfl, h.cells (g := g) rfl j u hu⟩

/-! ### several rows of the call's own -/
theorem own_typed {w : World} {base : Nat} {e : TypeId} {size n : Nat} {v : Value} {xs : List Value} (h : w.ownsRow base e size v n xs) (k : Nat) (hk : v.ownBlock = some k) : ∃ cells, w.heap[k]? = some (.cells cells e (0, 0)) := by
  rcases h.2 with ⟨rfl, _⟩ | ⟨g, cap, cur, rfl, hg, hh, r⟩
  · simp [Value.ownBlock] at hk
  · have : g = k := by simpa [Value.ownBlock] using hk
    subst this
    exact ⟨cur, hh⟩
theorem own_type_ne {w : World} {b b' : Nat} {e e' : TypeId} {s s' n n' : Nat} {v v' : Value} {xs xs' : List Value} (h : w.ownsRow b e s v n xs) (h' : w.ownsRow b' e' s' v' n' xs') (hne : e ≠ e') : v.ownBlock = none ∨ v.ownBlock ≠ v'.ownBlock := by
  cases hb : v.ownBlock with
  | none => exact .inl rfl
  | some k =>
    right
    intro he
    obtain ⟨c1, h1⟩ := own_typed h k hb
    obtain ⟨c2, h2⟩ := own_typed h' k he.symm
    rw [h1] at h2
    injection h2 with h2
    injection h2 with _ h2
    exact hne h2
/-- a row of another type is grown -/
theorem own_other_type {w w1 : World} {b b' : Nat} {e e' : TypeId} {s s' n n' : Nat} {v v' : Value} {xs xs' : List Value} (h : w.ownsRow b e s v n xs) (h' : w.ownsRow b' e' s' v' n' xs') (hne : e ≠ e') (hg : w.grownBy w1 v'.ownBlock) : w1.ownsRow b e s v n xs :=
  h.kept hg (own_type_ne h h' hne)
/-- a block below the row's base is written -/
theorem own_grown_some {w w1 : World} {b p : Nat} {e : TypeId} {s n : Nat} {v : Value} {xs : List Value} (h : w.ownsRow b e s v n xs) (hg : w.grownBy w1 (some p)) (hp : p < b) : w1.ownsRow b e s v n xs := by
  refine h.kept hg ?_
  cases hb : v.ownBlock with
  | none => exact .inl rfl
  | some k =>
    right
    have := (h.lt k hb).1
    intro e
    cases e
    omega
theorem own_weaken {w : World} {b b' : Nat} {e : TypeId} {s n : Nat} {v : Value} {xs : List Value} (h : w.ownsRow b e s v n xs) (hb : b' ≤ b) : w.ownsRow b' e s v n xs := by
  refine ⟨h.1, ?_⟩
  rcases h.2 with h2 | ⟨g, cap, cur, rfl, hg, r⟩
  · exact .inl h2
  · exact .inr ⟨g, cap, cur, rfl, by omega, r⟩

theorem ret_int {k : IntKind} {a b : Int} (h : a = b) : Ending.returned (.int k a) = .returned (.int k b) := by rw [h]
theorem wrap_up {i : Nat} (h : i ≤ 140737488351232) : wrap64 ((i : Int) + 1) = ((i + 1 : Nat) : Int) := by
  unfold wrap64; omega

def Byte (l : List Int) : Prop := ∀ x ∈ l, 0 ≤ x ∧ x < 256
theorem byte_of {l : List Int} (h : ∀ x ∈ l, (Lit.int .u8 x).wf = true) : Byte l := by
  intro x hx
  have := h x hx
  simp [Lit.wf, IntKind.min, IntKind.max, IntKind.signed, IntKind.bits] at this
  omega
theorem Byte.at {l : List Int} (h : Byte l) (i : Nat) : 0 ≤ nth l i ∧ nth l i < 256 := by
  unfold nth
  by_cases hi : i < l.length
  · have := h (l.getD i 0) (by rw [List.getD_eq_getElem?_getD, List.getElem?_eq_getElem hi]; exact List.getElem_mem hi)
    exact this
  · rw [List.getD_eq_getElem?_getD, List.getElem?_eq_none (by omega)]
    simp
theorem Byte.nat {l : List Int} (h : Byte l) (i : Nat) : ∃ a : Nat, a < 256 ∧ nth l i = a := by
  have := h.at i
  exact ⟨(nth l i).toNat, by omega, by omega⟩
theorem eq_of_getD {x y : List Int} (hl : x.length = y.length) (h : ∀ j : Nat, j < x.length → nth x j = nth y j) : x = y := by
  apply List.ext_getElem hl
  intro i h1 h2
  have := h i h1
  simpa [nth, List.getD_eq_getElem?_getD, List.getElem?_eq_getElem h1, List.getElem?_eq_getElem h2] using this

end Go.Proofs.Yteajblfkfmopfaa.Mem
