/- My own words on memory: slices that are read, rows of the call's own. No dump in sight. -/
import Derived.Below
import Derived.WalkKit
import Derived.Deep.OwnRows
import Derived.Deep.Draws
import Derived.OwnWalk
import Derived.Laws.OwnMore
import Derived.Maps.AppendAt
import Derived.RegionTactic
namespace Go.Proofs.Ytpijkibhjklkoaa.Mem
open Go Go.RowKit

/-- A fact set aside: the walk does not take it for a rule. -/
structure As (p : Prop) : Prop where mk :: (out : p)

/-- A list's number at a place, which simp does not take apart. -/
def nth (x : List Int) (i : Nat) : Int := x.getD i 0
theorem nth_getD (x : List Int) (i : Nat) : nth x i = x.getD i 0 := rfl

/-- A slice of n whole numbers that is read. -/
structure Rd (k : IntKind) (w : World) (A : Option Addr) (n c : Nat) (x : List Int) : Prop where
  len : x.length = n
  le : n ≤ c
  cap : c ≤ maxLen
  cells : 0 < n → ∃ ad, A = some ad ∧ ∀ j, j < n → w.cell? (ad.add j) = some (.int k (nth x j))

theorem Rd.at {k : IntKind} {w : World} {A : Option Addr} {n c : Nat} {x : List Int} (h : Rd k w A n c x) (i : Nat) (hi : i < n) :
    ∃ ad, A = some ad ∧ w.cell? (ad.add i) = some (.int k (nth x i)) := by
  obtain ⟨ad, e, hc⟩ := h.cells (by omega)
  exact ⟨ad, e, hc i hi⟩
theorem Rd.below {k : IntKind} {w w' : World} {A : Option Addr} {n c : Nat} {x : List Int} (h : Rd k w A n c x) (hb : Below w.heap.size w w') : Rd k w' A n c x :=
  ⟨h.len, h.le, h.cap, fun hn => by
    obtain ⟨ad, e, hc⟩ := h.cells hn
    exact ⟨ad, e, fun j hj => (hb.cell (World.block_lt_of_cell? w _ (hc j hj))).trans (hc j hj)⟩⟩
theorem Rd.drewN {k : IntKind} {w : World} {A : Option Addr} {n c : Nat} {x : List Int} (h : Rd k w A n c x) (m : Nat) : Rd k (w.drewN m) A n c x := ⟨h.len, h.le, h.cap, h.cells⟩
theorem Rd.drew {k : IntKind} {w : World} {A : Option Addr} {n c : Nat} {x : List Int} (h : Rd k w A n c x) : Rd k w.drew A n c x := ⟨h.len, h.le, h.cap, h.cells⟩
theorem add0 (b j : Nat) : (⟨b, 0, none⟩ : Addr).add j = ⟨b, j, none⟩ := by unfold Addr.add; split <;> simp_all
/-- What lies at the head of one block. -/
theorem Rd.of_row {w : World} {b : Nat} {t : TypeId} {n m c : Nat} {k : IntKind} {f : Nat → Value} {x : List Int} (h : w.rowIs b t n f) (hl : x.length = m) (hmn : m ≤ n) (hc : m ≤ c) (hm : c ≤ maxLen) (hx : ∀ j, j < m → f j = .int k (nth x j)) :
    Rd k w (some ⟨b, 0, none⟩) m c x :=
  ⟨hl, hc, hm, fun _ => ⟨_, rfl, fun j hj => by
    have := h.cell (i := j) (by omega)
    rw [hx j hj] at this
    rw [add0]; exact this⟩⟩
theorem Rd.nil (k : IntKind) (w : World) (A : Option Addr) (c : Nat) (hc : c ≤ maxLen) : Rd k w A 0 c [] := ⟨rfl, by simp, hc, fun h => by simp at h⟩

theorem rowIs_below {w w' : World} {b : Nat} {t : TypeId} {n : Nat} {f : Nat → Value} (h : w.rowIs b t n f) (hb : Below w.heap.size w w') : w'.rowIs b t n f :=
  h.of_block (hb.block b h.lt)
theorem rowIs_drewN {w : World} {b : Nat} {t : TypeId} {n : Nat} {f : Nat → Value} (h : w.rowIs b t n f) (m : Nat) : (w.drewN m).rowIs b t n f := h
theorem below_drewN {B : Nat} {w W : World} (h : Below B w W) (n : Nat) : Below B w (W.drewN n) := ⟨h.os, h.tape, h.output, h.size, h.block⟩
theorem below_alloc {w W : World} (h : Below w.heap.size w W) (o : Obj) : Below w.heap.size w (W.alloc o) := h.alloc h.size o
theorem below_step {w W W' : World} (h : Below w.heap.size w W) (k : Below W.heap.size W W') : Below w.heap.size w W' := h.trans (k.mono h.size)

/-! ### append, onto nil or onto a row of the call's own; the source a slice that is read, nil let in -/
/-- What the second argument of an append yields. -/
structure Src (w : World) (x : Value) (m size : Nat) (news : List Value) : Prop where
  len : news.length = m * size
  one : ∀ u ∈ news, u.oneCell' = true
  at_ : (∃ ad c, x = .slice (some ad) m c ∧ ∀ j u, news[j]? = some u → w.cell? (ad.add j) = some u) ∨ (∃ c, x = .slice none 0 c ∧ m = 0)

theorem Src.rd {k : IntKind} {w : World} {A : Option Addr} {n c : Nat} {x : List Int} (h : Rd k w A n c x) : Src w (.slice A n c) n 1 (x.map (Value.int k)) := by
  obtain ⟨rfl, h1, h2, h3⟩ := h
  refine ⟨by simp, fun u hu => ?_, ?_⟩
  · obtain ⟨q, _, rfl⟩ := List.mem_map.mp hu; rfl
  · rcases A with _ | ad
    · right
      have : x.length = 0 := by
        rcases Nat.eq_zero_or_pos x.length with h0 | h0
        · exact h0
        · obtain ⟨ad, e, _⟩ := h3 h0; cases e
      exact ⟨c, by rw [this], this⟩
    · left
      refine ⟨ad, c, rfl, fun j u hu => ?_⟩
      have hj : j < x.length := by
        rcases Nat.lt_or_ge j x.length with h | h
        · exact h
        · simp [List.getElem?_eq_none h] at hu
      obtain ⟨ad', e, hc⟩ := h3 (by omega)
      cases e
      have h2 := hc j hj
      rw [List.getElem?_map, List.getElem?_eq_getElem hj] at hu
      simp only [Option.map_some, Option.some.injEq] at hu
      subst hu
      rw [h2, nth, List.getD_eq_getElem?_getD, List.getElem?_eq_getElem hj]
      rfl
/-- one element, laid into a fresh cell by the statement itself -/
theorem Src.cell {w : World} {b : Nat} {u : Value} {T : TypeId} (h : w.heap[b]? = some (.cells #[u] T (0, 0))) (hu : u.oneCell' = true) : Src w (.slice (some ⟨b, 0, none⟩) 1 1) 1 1 [u] := by
  refine ⟨by simp, by simpa using hu, .inl ⟨_, _, rfl, fun j v hv => ?_⟩⟩
  rcases j with _ | j
  · simp at hv; subst hv
    simp [Addr.add, World.cell?, h]
  · simp at hv

section
variable {P : Program}
theorem run_app (w : World) (base : Nat) (t ty e : TypeId) (z : Value) (size bytes : Nat) (ht : P.underlying t = some (.slice e)) (hinfo : (P.info? e).map (fun i => (i.zero, i.size, i.bytes)) = some (some z, size, bytes))
    (hzs : z.cells.size = size) (hsz : 0 < size) (v : Value) (n : Nat) (xs : List Value) (hown : w.ownsRow base e size v n xs) (x : Value) (m : Nat) (news : List Value) (hs : Src w x m size news)
    (h63 : n + m ≤ maxLen) (hbytes : (n + m) * bytes ≤ 140737488355328) (hbase : base ≤ w.heap.size) :
    ∃ v' w', (Builtin.append_ #[t, t] ty #[v, x]).run P w = .ok v' w' ∧ w'.ownsRow base e size v' (n + m) (xs ++ news) ∧ w.grownBy w' v.ownBlock ∧ (v'.ownBlock = v.ownBlock ∨ v'.ownBlock = some w.heap.size) := by
  obtain ⟨i, hi, hz, h1, h2⟩ := info_parts hinfo
  rcases hs.at_ with ⟨ad, c, rfl, hc⟩ | ⟨c, rfl, rfl⟩
  · obtain ⟨v', w', hr, a1, a2, _, a4⟩ := run_append_own_at (P := P) w base t ty e i z size bytes ht hi hz h1 h2 hzs hsz v n xs hown ad m c news hs.len hc hs.one h63 hbytes hbase
    exact ⟨v', w', hr, a1, a2, a4⟩
  · obtain rfl : news = [] := List.eq_nil_of_length_eq_zero (by simpa using hs.len)
    refine ⟨v, w, ?_, by simpa using hown, World.grownBy.refl w _, .inl rfl⟩
    rcases hown.2 with ⟨rfl, hn⟩ | ⟨g, cap, cur, rfl, _, _, hnc, _⟩
    · simp [Builtin.append_, run_underlying ht, sizeOf, typeInfo, hi, Builtin.lenOf, Builtin.firstCells]
    · simp [Builtin.append_, run_underlying ht, sizeOf, typeInfo, hi, Builtin.lenOf, Builtin.firstCells, hnc, storeCells]

theorem wp_app {w : World} {o : Oper} {a : Act} {K : Act → World → Prop} {Q : Exit → Act → World → Prop} (s x : Operand) (t : TypeId)
    (ho : o.op = .call { callee := .builtin .append, args := #[s, x], argTypes := #[t, t] })
    (base : Nat) (e : TypeId) (z : Value) (size bytes : Nat) (ht : P.underlying t = some (.slice e)) (hinfo : (P.info? e).map (fun i => (i.zero, i.size, i.bytes)) = some (some z, size, bytes))
    (hzs : z.cells.size = size) (hsz : 0 < size) (v : Value) (n : Nat) (xs : List Value) (hv : a.eval s = v) (hown : w.ownsRow base e size v n xs) (y : Value) (m : Nat) (news : List Value) (hy : a.eval x = y) (hs : Src w y m size news)
    (h63 : n + m ≤ maxLen) (hbytes : (n + m) * bytes ≤ 140737488355328) (hbase : base ≤ w.heap.size) {B : Nat} {w0 : World} (HB : Below B w0 w) (hB : B ≤ base)
    (h : ∀ v' w', w'.ownsRow base e size v' (n + m) (xs ++ news) → w.grownBy w' v.ownBlock → (v'.ownBlock = v.ownBlock ∨ v'.ownBlock = some w.heap.size) → Below B w0 w' → K (a.put o.dst v') w') : o.wp P a w K Q := by
  obtain ⟨v', w', hr, h2, h3, h4⟩ := run_app (P := P) w base t o.type e z size bytes ht hinfo hzs hsz v n xs hown y m news hs h63 hbytes hbase
  unfold Oper.wp execOp
  simp only [ho, resolve, invoke, builtin, Sem.run_bind, Sem.run_pure, Result.andThen_ok, List.map_toArray, List.map_cons, List.map_nil, hv, hy, hr]
  exact h v' w' h2 h3 h4 (HB.grown h3 (Nat.le_trans hB hbase) (fun k hk => Nat.le_trans hB (hown.lt k hk).1))

theorem wpList_app {w : World} {ops : Array Oper} {rest : List Oper} {o : Oper} {a : Act} {Q : Exit → Act → World → Prop} (hgd : o.guard = none) (s x : Operand) (t : TypeId)
    (ho : o.op = .call { callee := .builtin .append, args := #[s, x], argTypes := #[t, t] })
    (base : Nat) (e : TypeId) (z : Value) (size bytes : Nat) (ht : P.underlying t = some (.slice e)) (hinfo : (P.info? e).map (fun i => (i.zero, i.size, i.bytes)) = some (some z, size, bytes))
    (hzs : z.cells.size = size) (hsz : 0 < size) (v : Value) (n : Nat) (xs : List Value) (hv : a.eval s = v) (hown : w.ownsRow base e size v n xs) (y : Value) (m : Nat) (news : List Value) (hy : a.eval x = y) (hs : Src w y m size news)
    (h63 : n + m ≤ maxLen) (hbytes : (n + m) * bytes ≤ 140737488355328) (hbase : base ≤ w.heap.size) {B : Nat} {w0 : World} (HB : Below B w0 w) (hB : B ≤ base)
    (h : ∀ v' w', w'.ownsRow base e size v' (n + m) (xs ++ news) → w.grownBy w' v.ownBlock → (v'.ownBlock = v.ownBlock ∨ v'.ownBlock = some w.heap.size) → Below B w0 w' → wpList P ops Q rest (a.put o.dst v') w') : wpList P ops Q (o :: rest) a w :=
  wpList_plain hgd fun _ hK => wp_app s x t ho base e z size bytes ht hinfo hzs hsz v n xs hv hown y m news hy hs h63 hbytes hbase HB hB fun v' w' h2 h3 h4 h5 => hK _ _ (h v' w' h2 h3 h4 h5)
end

/-- What the call owns, as something that is read. -/
theorem own_slice {w : World} {base n : Nat} {e : TypeId} {size : Nat} {v : Value} {xs : List Value} (h : w.ownsRow base e size v n xs) : ∃ A c, v = .slice A n c := by
  rcases h.2 with ⟨rfl, rfl⟩ | ⟨g, cap, cur, rfl, _⟩ <;> exact ⟨_, _, rfl⟩
theorem own_rd {w : World} {base n : Nat} {e : TypeId} {k : IntKind} {v : Value} {x : List Int} (h : w.ownsRow base e 1 v n (x.map (Value.int k))) : ∃ A c, v = .slice A n c ∧ Rd k w A n c x := by
  have hl : x.length = n := by simpa using h.1
  subst hl
  have h0 := h
  rcases h.2 with ⟨rfl, hn⟩ | ⟨g, cap, cur, rfl, hg, hh, hnc, hcm, hcs, ht⟩
  · exact ⟨none, 0, by rw [hn], rfl, by omega, by simp [maxLen], fun hp => by omega⟩
  · refine ⟨_, _, rfl, rfl, hnc, hcm, fun _ => ⟨_, rfl, fun j hj => ?_⟩⟩
    have := h0.cells (g := g) rfl j (.int k (nth x j)) (by
      rw [List.getElem?_map, List.getElem?_eq_getElem hj, nth, List.getD_eq_getElem?_getD, List.getElem?_eq_getElem hj]; rfl)
    exact this
theorem own_below {w w1 : World} {base : Nat} {e : TypeId} {size n : Nat} {v : Value} {xs : List Value} (h : w.ownsRow base e size v n xs) (hb : Below w.heap.size w w1) : w1.ownsRow base e size v n xs := by
  have hlt := h.lt
  obtain ⟨h1, h2⟩ := h
  refine ⟨h1, ?_⟩
  rcases h2 with h2 | ⟨g, cap, cur, rfl, hg, hh, r⟩
  · exact .inl h2
  · exact .inr ⟨g, cap, cur, rfl, hg, (hb.block g (hlt g rfl).2).trans hh, r⟩
theorem below_grown {B : Nat} {w w1 w2 : World} {base : Nat} {e : TypeId} {size n : Nat} {v : Value} {xs : List Value} (h : Below B w w1) (ho : w1.ownsRow base e size v n xs) (hg : w1.grownBy w2 v.ownBlock) (hB : B ≤ w1.heap.size) (hb : B ≤ base) : Below B w w2 :=
  h.grown hg hB (fun k hk => Nat.le_trans hb (ho.lt k hk).1)

theorem ret_int {k : IntKind} {a b : Int} (h : a = b) : Ending.returned (.int k a) = .returned (.int k b) := by rw [h]
theorem wrap_up {i : Nat} (h : i ≤ 140737488351232) : wrap64 ((i : Int) + 1) = ((i + 1 : Nat) : Int) := by
  unfold wrap64; omega

def Byte (l : List Int) : Prop := ∀ x ∈ l, 0 ≤ x ∧ x < 256
theorem byte_of {l : List Int} (h : ∀ x ∈ l, (Lit.int .u8 x).wf = true) : Byte l := by
  intro x hx
  have := h x hx
  simp [Lit.wf, IntKind.min, IntKind.max, IntKind.signed, IntKind.bits] at this
  omega
theorem Byte.at {l : List Int} (h : Byte l) (i : Nat) : 0 ≤ nth l i ∧ nth l i < 256 := by
  unfold nth
  by_cases hi : i < l.length
  · have := h (l.getD i 0) (by rw [List.getD_eq_getElem?_getD, List.getElem?_eq_getElem hi]; exact List.getElem_mem hi)
    exact this
  · rw [List.getD_eq_getElem?_getD, List.getElem?_eq_none (by omega)]
    simp
theorem Byte.nat {l : List Int} (h : Byte l) (i : Nat) : ∃ a : Nat, a < 256 ∧ nth l i = a := by
  have := h.at i
  exact ⟨(nth l i).toNat, by omega, by omega⟩
theorem eq_of_getD {x y : List Int} (hl : x.length = y.length) (h : ∀ j : Nat, j < x.length → nth x j = nth y j) : x = y := by
  apply List.ext_getElem hl
  intro i h1 h2
  have := h i h1
  simpa [nth, List.getD_eq_getElem?_getD, List.getElem?_eq_getElem h1, List.getElem?_eq_getElem h2] using this

end Go.Proofs.Ytpijkibhjklkoaa.Mem
