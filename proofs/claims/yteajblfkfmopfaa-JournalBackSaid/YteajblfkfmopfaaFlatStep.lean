/- Slices of flat structs: what is read, what the call owns. One struct more, in a region that draws: the literal of one, and append, as steps. -/
import Derived.Test.YteajblfkfmopfaaMem5
import Derived.Great.BuildSlice
import Derived.Deep.RegionHeld2
namespace Go.Proofs.Yteajblfkfmopfaa.Flat
set_option linter.unusedVariables false
set_option linter.unusedSimpArgs false
open Go Go.RowKit Go.Proofs.Yteajblfkfmopfaa.Mem

theorem flat_len {α : Type} {row : α → List Value} {m : Nat} (hm : ∀ x, (row x).length = m) : ∀ ts : List α, (ts.flatMap row).length = ts.length * m
  | [] => by simp
  | t :: r => by rw [List.flatMap_cons, List.length_append, hm, flat_len hm r, List.length_cons, Nat.add_mul]; omega
variable {α : Type} [Inhabited α]
def nthT (ts : List α) (j : Nat) : α := ts.getD j default
theorem nthT_get (ts : List α) (j : Nat) (h : j < ts.length) : nthT ts j = ts[j] := by unfold nthT; rw [List.getD_eq_getElem?_getD, List.getElem?_eq_getElem h]; rfl
theorem nthT_succ (t : α) (r : List α) (j : Nat) : nthT (t :: r) (j + 1) = nthT r j := rfl
/-- A slice of structs that is read. -/
structure RdT (row : α → List Value) (m : Nat) (w : World) (A : Option Addr) (n c : Nat) (ts : List α) : Prop where
  len : ts.length = n
  le : n ≤ c
  cap : c ≤ maxLen
  cells : 0 < n → ∃ ad, A = some ad ∧ ∀ j, j < n → ∀ i v, (row (nthT ts j))[i]? = some v → w.cell? (ad.add (j * m + i)) = some v
variable {row : α → List Value} {m : Nat}
theorem RdT.at {w : World} {A : Option Addr} {n c : Nat} {ts : List α} (h : RdT row m w A n c ts) (j : Nat) (hj : j < n) :
    ∃ ad, A = some ad ∧ ∀ i v, (row (nthT ts j))[i]? = some v → w.cell? ((ad.add (j * m)).add i) = some v := by
  obtain ⟨ad, e, hc⟩ := h.cells (by omega)
  exact ⟨ad, e, fun i v hv => by rw [add_add]; exact hc j hj i v hv⟩
theorem RdT.below {w w' : World} {A : Option Addr} {n c : Nat} {ts : List α} (h : RdT row m w A n c ts) (hb : Below w.heap.size w w') : RdT row m w' A n c ts :=
  ⟨h.len, h.le, h.cap, fun hn => by
    obtain ⟨ad, e, hc⟩ := h.cells hn
    exact ⟨ad, e, fun j hj i v hv => (hb.cell (World.block_lt_of_cell? w _ (hc j hj i v hv))).trans (hc j hj i v hv)⟩⟩
theorem RdT.drewN {w : World} {A : Option Addr} {n c : Nat} {ts : List α} (h : RdT row m w A n c ts) (k : Nat) : RdT row m (w.drewN k) A n c ts := ⟨h.len, h.le, h.cap, h.cells⟩
theorem RdT.nil (row : α → List Value) (m : Nat) (w : World) (A : Option Addr) (c : Nat) (hc : c ≤ maxLen) : RdT row m w A 0 c [] := ⟨rfl, by simp, hc, fun h => by simp at h⟩
theorem RdT.of_rows {w : World} {A : Option Addr} {n c : Nat} {V : Nat → List Value} {ts : List α} (h : RdRows m w A n c V) (hl : ts.length = n) (hv : ∀ j, j < n → row (nthT ts j) = V j) : RdT row m w A n c ts :=
  ⟨hl, h.le, h.cap, fun hn => by
    obtain ⟨ad, e, hc⟩ := h.cells hn
    exact ⟨ad, e, fun j hj i v h2 => hc j hj i v (by rw [← hv j hj]; exact h2)⟩⟩
theorem flat_at (hm : ∀ x, (row x).length = m) : ∀ (ts : List α) (k : Nat) (u : Value), (ts.flatMap row)[k]? = some u → ∃ j i, j < ts.length ∧ k = j * m + i ∧ (row (nthT ts j))[i]? = some u
  | [], k, u, h => by simp at h
  | t :: r, k, u, h => by
    rw [List.flatMap_cons] at h
    by_cases hk : k < m
    · rw [List.getElem?_append_left (by rw [hm]; exact hk)] at h
      exact ⟨0, k, by simp, by omega, h⟩
    · rw [List.getElem?_append_right (by rw [hm]; omega), hm] at h
      obtain ⟨j, i, hj, hk2, hu⟩ := flat_at hm r _ u h
      exact ⟨j + 1, i, by simpa using hj, by rw [Nat.add_mul]; omega, hu⟩
theorem flat_of (hm : ∀ x, (row x).length = m) : ∀ (ts : List α) (j i : Nat) (u : Value), j < ts.length → (row (nthT ts j))[i]? = some u → (ts.flatMap row)[j * m + i]? = some u
  | [], j, i, u, h, _ => by simp at h
  | t :: r, 0, i, u, _, h => by
    have hi : i < (row t).length := (List.getElem?_eq_some_iff.1 h).1
    rw [List.flatMap_cons, Nat.zero_mul, Nat.zero_add, List.getElem?_append_left hi]
    exact h
  | t :: r, j + 1, i, u, hj, h => by
    rw [List.flatMap_cons, List.getElem?_append_right (by rw [hm, Nat.add_mul]; omega), hm, show (j + 1) * m + i - m = j * m + i by rw [Nat.add_mul]; omega]
    exact flat_of hm r j i u (by simpa using hj) h
theorem flat_set (hm : ∀ x, (row x).length = m) (t' : α) (i : Nat) (v : Value) (hi : i < m) : ∀ (ts : List α) (j : Nat), j < ts.length → row t' = (row (nthT ts j)).set i v → (ts.flatMap row).set (j * m + i) v = (ts.set j t').flatMap row
  | [], j, h, _ => by simp at h
  | t :: r, 0, _, h => by
    have h2 : row t' = (row t).set i v := h
    rw [List.flatMap_cons, Nat.zero_mul, Nat.zero_add, List.set_append_left _ _ (by rw [hm]; exact hi), List.set_cons_zero, List.flatMap_cons, h2]
  | t :: r, j + 1, hj, h => by
    rw [List.flatMap_cons, List.set_append_right _ _ (by rw [hm, Nat.add_mul]; omega), hm, show (j + 1) * m + i - m = j * m + i by rw [Nat.add_mul]; omega, List.set_cons_succ, List.flatMap_cons]
    rw [flat_set hm t' i v hi r j (by simpa using hj) h]
theorem RdT.src {w : World} {A : Option Addr} {n c : Nat} {ts : List α} (h : RdT row m w A n c ts) (hm : ∀ x, (row x).length = m) (h1 : ∀ x, ∀ v ∈ row x, v.oneCell' = true) : Go.Proofs.Yteajblfkfmopfaa.Mem.Src w (.slice A n c) n m (ts.flatMap row) := by
  refine ⟨by rw [flat_len hm, h.len], fun u hu => ?_, ?_⟩
  · obtain ⟨x, _, hx⟩ := List.mem_flatMap.1 hu
    exact h1 x u hx
  · rcases A with _ | ad
    · right
      refine ⟨c, ?_⟩
      have : n = 0 := by
        rcases Nat.eq_zero_or_pos n with h0 | h0
        · exact h0
        · obtain ⟨ad, e, _⟩ := h.cells h0; cases e
      subst this
      exact ⟨rfl, rfl⟩
    · left
      refine ⟨ad, c, rfl, fun k u hk => ?_⟩
      obtain ⟨j, i, hj, rfl, hu⟩ := flat_at hm ts k u hk
      obtain ⟨ad', e, hc⟩ := h.cells (by have := h.len; omega)
      cases e
      exact hc j (by have := h.len; omega) i u hu
theorem own_rdT (hm : ∀ x, (row x).length = m) (hm0 : 0 < m) {w : World} {base n : Nat} {e : TypeId} {v : Value} {ts : List α} (h : w.ownsRow base e m v n (ts.flatMap row)) (hl : ts.length = n) : ∃ A c, v = .slice A n c ∧ RdT row m w A n c ts := by
  obtain ⟨A, c, rfl⟩ := own_slice h
  refine ⟨A, c, rfl, hl, ?_, ?_, fun hn => ?_⟩
  · rcases h.2 with ⟨e, hn⟩ | ⟨g, cap, cur, e, hg, hh, hnc, hcm, _⟩
    · omega
    · cases e; exact hnc
  · rcases h.2 with ⟨e, hn⟩ | ⟨g, cap, cur, e, hg, hh, hnc, hcm, _⟩
    · cases e; unfold maxLen; omega
    · cases e; exact hcm
  · have h0 := flat_of hm ts 0 0 ((row (nthT ts 0))[0]'(by rw [hm]; exact hm0)) (by omega) (List.getElem?_eq_getElem _)
    obtain ⟨ad, e, _⟩ := own_at h _ _ h0
    refine ⟨ad, e, fun j hj i u hu => ?_⟩
    obtain ⟨ad', e', hc⟩ := own_at h _ u (flat_of hm ts j i u (by omega) hu)
    rw [e] at e'
    cases e'
    exact hc
/-- one struct, laid into a block by the statement itself -/
theorem src_one {w : World} {b : Nat} {us : List Value} {T : TypeId} (h : w.heap[b]? = some (.cells us.toArray T (0, 0))) (hu : ∀ u ∈ us, u.oneCell' = true) (hl : us.length = m) : Go.Proofs.Yteajblfkfmopfaa.Mem.Src w (.slice (some ⟨b, 0, none⟩) 1 1) 1 m us := by
  refine ⟨by omega, hu, .inl ⟨_, _, rfl, fun j v hv => ?_⟩⟩
  rw [add0]
  unfold World.cell?
  simp only [h]
  simpa using hv
end Go.Proofs.Yteajblfkfmopfaa.Flat
namespace Go.Proofs.Yteajblfkfmopfaa.Flat
set_option linter.unusedVariables false
set_option linter.unusedSimpArgs false
open Go Go.RowKit Go.Proofs.Yteajblfkfmopfaa.Mem
section
variable {P : Program}
theorem wp_build_one {o : Oper} {a : Act} {w : World} {K : Act → World → Prop} {Q : Exit → Act → World → Prop} (t e : TypeId) (x : Operand) (ho : o.op = .buildSlice t 1 #[(0, x)])
    (cs : Array Value) (n : Nat) (z : Value) (bytes : Nat) (hu : P.underlying t = some (.slice e)) (hinfo : (P.info? e).map (fun i => (i.zero, i.size, i.bytes)) = some (some z, n, bytes)) (hn : 0 < n ∧ n ≤ 16777216)
    (hx : a.eval x = .agg cs) (hc : cs.size = n)
    (h : K (a.put o.dst (.slice (some ⟨w.heap.size, 0, none⟩) 1 1)) (w.alloc (.cells cs e))) : Oper.wp P o a w K Q := by
  obtain ⟨i, hi, hz, h1, h2⟩ := info_parts hinfo
  refine wp_buildSlice t e 1 #[(0, x)] ho cs i z hu hi hz (by rw [h1]; omega) (by rw [h1]; omega) ?_ h
  rw [h1]
  have := Great.fill_whole (s := n) hn.1 [.agg cs] ((Array.range (1 * n)).map (z.cells[· % z.cells.size]!)) (by intro v hv; simp at hv; subst hv; exact hc) (by simp)
  simp only [List.map_toArray, List.map_cons, List.map_nil, hx]
  refine this.trans ?_
  simp [Value.cells]
theorem wpList_build_one' {ops : Array Oper} {rest : List Oper} {o : Oper} {a : Act} {w : World} {Q : Exit → Act → World → Prop} (hg : o.guard = none) (t e : TypeId) (x : Operand) (ho : o.op = .buildSlice t 1 #[(0, x)])
    (cs : Array Value) (n : Nat) (z : Value) (bytes : Nat) (hu : P.underlying t = some (.slice e)) (hinfo : (P.info? e).map (fun i => (i.zero, i.size, i.bytes)) = some (some z, n, bytes)) (hn : 0 < n ∧ n ≤ 16777216)
    (hx : a.eval x = .agg cs) (hc : cs.size = n)
    (h : wpList P ops Q rest (a.put o.dst (.slice (some ⟨w.heap.size, 0, none⟩) 1 1)) (w.alloc (.cells cs e))) : wpList P ops Q (o :: rest) a w :=
  wpList_plain hg fun _ hK => wp_build_one t e x ho cs n z bytes hu hinfo hn hx hc (hK _ _ h)
theorem step_build_one {ops : Array Oper} {o : Oper} {a : Act} {w : World} {K : Act → World → Prop} {Q : Exit → Act → World → Prop} {E : Prop} (hgd : o.guard = none) (t e : TypeId) (x : Operand) (ho : o.op = .buildSlice t 1 #[(0, x)])
    (cs : Array Value) (n : Nat) (z : Value) (bytes : Nat) (hu : P.underlying t = some (.slice e)) (hinfo : (P.info? e).map (fun i => (i.zero, i.size, i.bytes)) = some (some z, n, bytes)) (hn : 0 < n ∧ n ≤ 16777216)
    (hx : a.eval x = .agg cs) (hc : cs.size = n)
    (h : K (a.put o.dst (.slice (some ⟨w.heap.size, 0, none⟩) 1 1)) (w.alloc (.cells cs e))) : if Region.wanted o (yielded ops a.tmps) = true then Oper.wp P o a w K Q else E := by
  rw [if_pos (by simp [Region.wanted, hgd])]
  exact wp_build_one t e x ho cs n z bytes hu hinfo hn hx hc h
theorem step_app {w : World} {ops : Array Oper} {o : Oper} {a : Act} {K : Act → World → Prop} {Q : Exit → Act → World → Prop} {E : Prop} (hgd : o.guard = none) (s x : Operand) (t : TypeId)
    (ho : o.op = .call { callee := .builtin .append, args := #[s, x], argTypes := #[t, t] })
    (base : Nat) (e : TypeId) (z : Value) (size bytes : Nat) (ht : P.underlying t = some (.slice e)) (hinfo : (P.info? e).map (fun i => (i.zero, i.size, i.bytes)) = some (some z, size, bytes))
    (hzs : z.cells.size = size) (hsz : 0 < size) (v : Value) (n : Nat) (xs : List Value) (hv : a.eval s = v) (hown : w.ownsRow base e size v n xs) (y : Value) (m : Nat) (news : List Value) (hy : a.eval x = y) (hs : Go.Proofs.Yteajblfkfmopfaa.Mem.Src w y m size news)
    (h63 : n + m ≤ maxLen) (hbytes : (n + m) * bytes ≤ 140737488355328) (hbase : base ≤ w.heap.size) {B : Nat} {w0 : World} (HB : Below B w0 w) (hB : B ≤ base)
    (h : ∀ v' w', w'.ownsRow base e size v' (n + m) (xs ++ news) → w.grownBy w' v.ownBlock → (v'.ownBlock = v.ownBlock ∨ v'.ownBlock = some w.heap.size) → Below B w0 w' → K (a.put o.dst v') w') :
    if Region.wanted o (yielded ops a.tmps) = true then Oper.wp P o a w K Q else E := by
  rw [if_pos (by simp [Region.wanted, hgd])]
  exact wp_app s x t ho base e z size bytes ht hinfo hzs hsz v n xs hv hown y m news hy hs h63 hbytes hbase HB hB h
end
end Go.Proofs.Yteajblfkfmopfaa.Flat
