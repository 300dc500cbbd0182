/- My own words on memory, more: a slice anywhere in a block of the call's own; append onto it. Elements of one cell. -/
import Derived.Test.YteajblfkfmopfaaMem
import Derived.Deep.AppendSrc
import Derived.Laws.IdiomCopy
namespace Go.Proofs.Yteajblfkfmopfaa.Mem
set_option linter.unusedVariables false
set_option linter.unusedSimpArgs false
open Go Go.RowKit

theorem setCells_heap (b : Nat) : ∀ (vs : List Value) (o : Nat) (w : World) (cur : Array Value) (T : TypeId), w.heap[b]? = some (.cells cur T (0, 0)) → o + vs.length ≤ cur.size →
    ∃ cur', (w.setCells b o vs).heap[b]? = some (.cells cur' T (0, 0)) ∧ cur'.size = cur.size ∧ ∀ i : Nat, cur'[i]? = if o ≤ i ∧ i < o + vs.length then vs[i - o]? else cur[i]?
  | [], o, w, cur, T, h, _ => ⟨cur, h, rfl, fun i => by rw [if_neg (by simp)]⟩
  | v :: r, o, w, cur, T, h, hl => by
    simp only [List.length_cons] at hl
    have h1 : (w.setCell ⟨b, o, none⟩ v).heap[b]? = some (.cells (cur.setIfInBounds o v) T (0, 0)) := by simp [World.setCell, Array.getElem?_modify, h]
    obtain ⟨cur', h2, h3, h4⟩ := setCells_heap b r (o + 1) (w.setCell ⟨b, o, none⟩ v) _ T h1 (by simp; omega)
    refine ⟨cur', h2, by rw [h3]; simp, fun i => ?_⟩
    rw [h4 i]
    by_cases e : i = o
    · subst e
      rw [if_neg (by omega), if_pos (by simp), Array.getElem?_setIfInBounds]
      have hlt : i < cur.size := by omega
      simp [hlt]
    · by_cases e2 : o + 1 ≤ i ∧ i < o + 1 + r.length
      · rw [if_pos e2, if_pos (by simp only [List.length_cons]; omega)]
        rw [show i - o = (i - (o + 1)) + 1 by omega, List.getElem?_cons_succ]
      · rw [if_neg e2, if_neg (by simp only [List.length_cons]; omega), Array.getElem?_setIfInBounds, if_neg (fun h => e h.symm)]
theorem setCells_other (b : Nat) : ∀ (vs : List Value) (o : Nat) (w : World) (k : Nat), k ≠ b → (w.setCells b o vs).heap[k]? = w.heap[k]?
  | [], _, _, _, _ => rfl
  | v :: r, o, w, k, h => by
    show ((w.setCell ⟨b, o, none⟩ v).setCells b (o + 1) r).heap[k]? = _
    rw [setCells_other b r (o + 1) _ k h, Below.heap_setCell _ _ _ _ h]
theorem setCells_rest (b : Nat) : ∀ (vs : List Value) (o : Nat) (w : World), (w.setCells b o vs).os = w.os ∧ (w.setCells b o vs).tape = w.tape ∧ (w.setCells b o vs).output = w.output ∧ (w.setCells b o vs).heap.size = w.heap.size
  | [], _, _ => ⟨rfl, rfl, rfl, rfl⟩
  | v :: r, o, w => by
    obtain ⟨h1, h2, h3, h4⟩ := setCells_rest b r (o + 1) (w.setCell ⟨b, o, none⟩ v)
    exact ⟨h1, h2, h3, by show ((w.setCell ⟨b, o, none⟩ v).setCells b (o + 1) r).heap.size = _; rw [h4]; simp [World.setCell]⟩

/-- A slice of n cells in a block of the call's own (from number base on), wherever it begins there; nil let in. -/
def OwnAt (w : World) (base : Nat) (v : Value) (n : Nat) (xs : List Value) : Prop :=
  xs.length = n ∧ ((v = .slice none 0 0 ∧ n = 0) ∨
    ∃ g off cap cur T, v = .slice (some ⟨g, off, none⟩) n cap ∧ base ≤ g ∧ w.heap[g]? = some (.cells cur T (0, 0)) ∧ off + cap ≤ cur.size ∧ n ≤ cap ∧ cap ≤ maxLen ∧ ∀ j, j < n → cur[off + j]? = xs[j]?)

theorem OwnAt.nil (w : World) (base : Nat) : OwnAt w base (.slice none 0 0) 0 [] := ⟨rfl, .inl ⟨rfl, rfl⟩⟩
theorem OwnAt.of_own {w : World} {base : Nat} {e : TypeId} {v : Value} {n : Nat} {xs : List Value} (h : w.ownsRow base e 1 v n xs) : OwnAt w base v n xs := by
  refine ⟨by simpa using h.1, ?_⟩
  rcases h.2 with ⟨rfl, rfl⟩ | ⟨g, cap, cur, rfl, hg, hh, hnc, hcm, hcs, ht⟩
  · exact .inl ⟨rfl, rfl⟩
  · refine .inr ⟨g, 0, cap, cur, e, rfl, hg, hh, by rw [hcs]; omega, hnc, hcm, fun j hj => ?_⟩
    rw [← ht, List.getElem?_take_of_lt (by omega), Nat.zero_add, Array.getElem?_toList]
theorem OwnAt.lt {w : World} {base : Nat} {v : Value} {n : Nat} {xs : List Value} (h : OwnAt w base v n xs) : ∀ k, v.ownBlock = some k → base ≤ k ∧ k < w.heap.size := by
  intro k hk
  rcases h.2 with ⟨rfl, _⟩ | ⟨g, off, cap, cur, T, rfl, hg, hh, _⟩
  · simp [Value.ownBlock] at hk
  · simp only [Value.ownBlock, Option.some.injEq] at hk
    subst hk
    refine ⟨hg, ?_⟩
    rcases Nat.lt_or_ge g w.heap.size with h1 | h1
    · exact h1
    · rw [Array.getElem?_eq_none h1] at hh; cases hh
theorem OwnAt.slice {w : World} {base : Nat} {v : Value} {n : Nat} {xs : List Value} (h : OwnAt w base v n xs) : ∃ A c, v = .slice A n c := by
  rcases h.2 with ⟨rfl, rfl⟩ | ⟨g, off, cap, cur, T, rfl, _⟩ <;> exact ⟨_, _, rfl⟩
/-- it stays while its block stays -/
theorem OwnAt.kept {w w1 : World} {base : Nat} {v : Value} {n : Nat} {xs : List Value} (h : OwnAt w base v n xs) (hk : ∀ k, v.ownBlock = some k → w1.heap[k]? = w.heap[k]?) : OwnAt w1 base v n xs := by
  refine ⟨h.1, ?_⟩
  rcases h.2 with h2 | ⟨g, off, cap, cur, T, rfl, hg, hh, r⟩
  · exact .inl h2
  · exact .inr ⟨g, off, cap, cur, T, rfl, hg, (hk g rfl).trans hh, r⟩
theorem OwnAt.below {w w1 : World} {base : Nat} {v : Value} {n : Nat} {xs : List Value} (h : OwnAt w base v n xs) (hb : Below w.heap.size w w1) : OwnAt w1 base v n xs :=
  h.kept fun k hk => hb.block k (h.lt k hk).2
theorem OwnAt.drewN {w : World} {base : Nat} {v : Value} {n : Nat} {xs : List Value} (h : OwnAt w base v n xs) (m : Nat) : OwnAt (w.drewN m) base v n xs := h.kept fun _ _ => rfl
theorem OwnAt.grown_some {w w1 : World} {base p : Nat} {v : Value} {n : Nat} {xs : List Value} (h : OwnAt w base v n xs) (hg : w.grownBy w1 (some p)) (hp : v.ownBlock ≠ some p) : OwnAt w1 base v n xs :=
  h.kept fun k hk => hg.block k (h.lt k hk).2 (fun e => hp (hk.trans e))
theorem OwnAt.weaken {w : World} {base b' : Nat} {v : Value} {n : Nat} {xs : List Value} (h : OwnAt w base v n xs) (hb : b' ≤ base) : OwnAt w b' v n xs := by
  refine ⟨h.1, ?_⟩
  rcases h.2 with h2 | ⟨g, off, cap, cur, T, rfl, hg, r⟩
  · exact .inl h2
  · exact .inr ⟨g, off, cap, cur, T, rfl, by omega, r⟩
theorem OwnAt.cell {w : World} {base : Nat} {A : Option Addr} {c : Nat} {n n' : Nat} {xs : List Value} (h : OwnAt w base (.slice A n c) n' xs) (j : Nat) (u : Value) (hu : xs[j]? = some u) : ∃ ad, A = some ad ∧ w.cell? (ad.add j) = some u := by
  have hj : j < n' := by
    rw [← h.1]
    rcases Nat.lt_or_ge j xs.length with h1 | h1
    · exact h1
    · rw [List.getElem?_eq_none h1] at hu; cases hu
  rcases h.2 with ⟨_, h0⟩ | ⟨g, off, cap, cur, T, hv, hg, hh, h1, h2, h3, h4⟩
  · omega
  · injection hv with e1 e2 e3
    subst e1
    refine ⟨_, rfl, ?_⟩
    have : (⟨g, off, none⟩ : Addr).add j = ⟨g, off + j, none⟩ := by
      unfold Addr.add
      split
      · next h => subst h; simp
      · rfl
    rw [this]
    simp [World.cell?, hh, h4 j hj, hu]
theorem OwnAt.rd {w : World} {base n : Nat} {k : IntKind} {v : Value} {x : List Int} (h : OwnAt w base v n (x.map (Value.int k))) : ∃ A c, v = .slice A n c ∧ Rd k w A n c x := by
  have hl : x.length = n := by simpa using h.1
  obtain ⟨A, c, rfl⟩ := h.slice
  refine ⟨A, c, rfl, hl, ?_, ?_, fun hn => ?_⟩
  · rcases h.2 with ⟨hv, h0⟩ | ⟨g, off, cap, cur, T, hv, hg, hh, h1, h2, h3, h4⟩
    · injection hv with _ _ e3; omega
    · injection hv with _ _ e3; omega
  · rcases h.2 with ⟨hv, h0⟩ | ⟨g, off, cap, cur, T, hv, hg, hh, h1, h2, h3, h4⟩
    · injection hv with _ _ e3; rw [e3]; simp [maxLen]
    · injection hv with _ _ e3; omega
  · have at_ : ∀ j, j < n → ∃ ad, A = some ad ∧ w.cell? (ad.add j) = some (.int k (nth x j)) := fun j hj =>
      h.cell j _ (by rw [List.getElem?_map, List.getElem?_eq_getElem (by omega), nth, List.getD_eq_getElem?_getD, List.getElem?_eq_getElem (by omega)]; rfl)
    obtain ⟨ad, rfl, _⟩ := at_ 0 hn
    refine ⟨ad, rfl, fun j hj => ?_⟩
    obtain ⟨ad', e, hc⟩ := at_ j hj
    cases e
    exact hc
theorem Rd.to {k : IntKind} {w : World} {A : Option Addr} {n c : Nat} {x : List Int} (r : Rd k w A n c x) (h : Nat) (hh : h ≤ n) : Rd k w (cutA A c 0 1) h c (x.take h) := by
  have := r.cut 0 h (Nat.zero_le _) hh
  simpa using this
/-- the slice's first places let go -/
theorem OwnAt.from {w : World} {base n c l : Nat} {A : Option Addr} {xs : List Value} (h : OwnAt w base (.slice A n c) n xs) (hl : l ≤ n) : OwnAt w base (.slice (cutA A c l 1) (n - l) (c - l)) (n - l) (xs.drop l) := by
  refine ⟨by rw [List.length_drop, h.1], ?_⟩
  rcases h.2 with ⟨hv, h0⟩ | ⟨g, off, cap, cur, T, hv, hg, hh, h1, h2, h3, h4⟩
  · injection hv with e1 e2 e3
    subst e1; subst e3
    obtain rfl : l = 0 := by omega
    subst h0
    exact .inl ⟨by simp [cutA], rfl⟩
  · injection hv with e1 e2 e3
    subst e1; subst e3
    right
    by_cases e : c = l
    · have hcn : n = l := by omega
      subst e
      subst hcn
      refine ⟨g, off, 0, cur, T, by simp [cutA], hg, hh, by omega, by omega, by simp [maxLen], fun j hj => by omega⟩
    · have : (⟨g, off, none⟩ : Addr).add l = ⟨g, off + l, none⟩ := by
        unfold Addr.add
        split
        · next h => subst h; simp
        · rfl
      refine ⟨g, off + l, c - l, cur, T, by simp [cutA, e, this], hg, hh, by omega, by omega, by omega, fun j hj => ?_⟩
      rw [List.getElem?_drop, ← h4 (l + j) (by omega), Nat.add_assoc]

theorem Src.own {w : World} {base n c n' : Nat} {A : Option Addr} {xs : List Value} (h : OwnAt w base (.slice A n c) n' xs) (h1 : ∀ u ∈ xs, u.oneCell' = true) : Src w (.slice A n c) n 1 xs := by
  rcases h.2 with ⟨hv, h0⟩ | ⟨g, off, cap, cur, T, hv, hg, hh, a1, a2, a3, a4⟩
  · injection hv with e1 e2 e3
    subst e1; subst e2; subst e3
    exact ⟨by rw [h.1, h0], h1, .inr ⟨0, rfl, rfl⟩⟩
  · injection hv with e1 e2 e3
    subst e1; subst e2; subst e3
    refine ⟨by rw [h.1, Nat.mul_one], h1, .inl ⟨_, _, rfl, fun j u hu => ?_⟩⟩
    obtain ⟨ad, e, hc⟩ := h.cell j u hu
    cases e
    exact hc

section
variable {P : Program}
theorem run_app2 (w : World) (base : Nat) (t ty e : TypeId) (z : Value) (bytes : Nat) (ht : P.underlying t = some (.slice e)) (hinfo : (P.info? e).map (fun i => (i.zero, i.size, i.bytes)) = some (some z, 1, bytes))
    (hzs : z.cells.size = 1) (v : Value) (n : Nat) (xs : List Value) (hown : OwnAt w base v n xs) (x : Value) (m : Nat) (news : List Value) (hs : Src w x m 1 news)
    (h63 : n + m ≤ maxLen) (hbytes : (n + m) * bytes ≤ 140737488355328) (hbase : base ≤ w.heap.size) :
    ∃ v' w', (Builtin.append_ #[t, t] ty #[v, x]).run P w = .ok v' w' ∧ OwnAt w' base v' (n + m) (xs ++ news) ∧ w.grownBy w' v.ownBlock ∧ (v'.ownBlock = v.ownBlock ∨ v'.ownBlock = some w.heap.size) := by
  obtain ⟨i, hi, hz, h1, h2⟩ := info_parts hinfo
  rcases hown.2 with ⟨rfl, rfl⟩ | ⟨g, off, cap, cur, T, rfl, hg, hh, hfit, hnc, hcm, hcur⟩
  · obtain rfl : xs = [] := List.eq_nil_of_length_eq_zero hown.1
    obtain ⟨v', w', hr, a1, a2, a3⟩ := run_app (P := P) w base t ty e z 1 bytes ht hinfo hzs (by decide) _ 0 [] (World.ownsRow_nil w base e 1) x m news hs h63 hbytes hbase
    exact ⟨v', w', hr, OwnAt.of_own a1, a2, a3⟩
  · have hsrc : Go.Src P i.size t x m news w := by
      rcases hs.at_ with ⟨ad, c, rfl, hc⟩ | ⟨c, rfl, rfl⟩
      · exact Src.ofSlice (P := P) w ht ad m c news (by rw [h1]; exact hs.len) hc hs.one
      · obtain rfl : news = [] := List.eq_nil_of_length_eq_zero (by simpa using hs.len)
        exact Src.ofNil (P := P) w ht c
    have hl : news.length = m := by simpa using hs.len
    have hxl : xs.length = n := hown.1
    by_cases hroom : n + m ≤ cap
    · have hr := run_append_room_src (P := P) w t t ty e i ht hi g off n cap x m news hsrc hroom
        (fun j hj => by rw [h1, Nat.mul_one]; have hlt : off + n + j < cur.size := by omega
                        simp [World.cell?, hh, hlt])
        (fun j hj => by simp [World.frozen?, hh])
      rw [h1, Nat.mul_one] at hr
      obtain ⟨cur', a1, a2, a3⟩ := setCells_heap g news (off + n) w cur T hh (by omega)
      obtain ⟨b1, b2, b3, b4⟩ := setCells_rest g news (off + n) w
      refine ⟨_, _, hr, ⟨by rw [List.length_append]; omega, .inr ⟨g, off, cap, cur', T, rfl, hg, a1, by omega, hroom, hcm, fun j hj => ?_⟩⟩, ⟨b1, b2, b3, by omega, fun k _ hk => setCells_other g news _ w k (fun e => hk (by simp [Value.ownBlock, e]))⟩, .inl rfl⟩
      rw [a3]
      by_cases hjn : j < n
      · rw [if_neg (by omega), hcur j hjn, List.getElem?_append_left (by omega)]
      · rw [if_pos (by omega), List.getElem?_append_right (by omega), hxl, show off + j - (off + n) = j - n by omega]
    · have hold : (Builtin.firstCells i.size n (.slice (some ⟨g, off, none⟩) n cap)).run P w.drew = .ok xs.toArray w.drew := by
        refine run_firstCells_some w.drew i.size n ⟨g, off, none⟩ n cap xs (by rw [h1]; omega) (fun j u hu => ?_)
        obtain ⟨ad, e, hc⟩ := hown.cell j u hu
        cases e
        simpa using hc
      have hr := run_append_grow_src (P := P) w t t ty e i z ht hi hz (some ⟨g, off, none⟩) n cap xs hold x m news hsrc (by omega) (by simp only [maxLen] at h63; omega) (by rw [h2]; exact growslice_fits (by omega) hbytes)
      have hge := grownCap_ge w (n + m) cap e
      refine ⟨_, _, hr, ⟨by rw [List.length_append]; omega, .inr ⟨w.heap.size, 0, _, _, e, rfl, hbase, heap_alloc_new w.drew _, ?_, hge, grownCap_le_maxLen w (n + m) cap e h63, fun j hj => ?_⟩⟩, ⟨rfl, rfl, rfl, by simp, fun k hk _ => Below.heap_alloc w.drew _ k hk⟩, .inr rfl⟩
      · simp only [Array.size_append, List.size_toArray, List.length_append, size_zeroCells, hzs]
        omega
      · have hj2 : j < (xs ++ news).length := by rw [List.length_append]; omega
        rw [Nat.zero_add, Array.getElem?_append_left (by simpa using hj2), List.getElem?_toArray]

theorem wp_app2 {w : World} {o : Oper} {a : Act} {K : Act → World → Prop} {Q : Exit → Act → World → Prop} (s x : Operand) (t : TypeId)
    (ho : o.op = .call { callee := .builtin .append, args := #[s, x], argTypes := #[t, t] })
    (base : Nat) (e : TypeId) (z : Value) (bytes : Nat) (ht : P.underlying t = some (.slice e)) (hinfo : (P.info? e).map (fun i => (i.zero, i.size, i.bytes)) = some (some z, 1, bytes))
    (hzs : z.cells.size = 1) (v : Value) (n : Nat) (xs : List Value) (hv : a.eval s = v) (hown : OwnAt w base v n xs) (y : Value) (m : Nat) (news : List Value) (hy : a.eval x = y) (hs : Src w y m 1 news)
    (h63 : n + m ≤ maxLen) (hbytes : (n + m) * bytes ≤ 140737488355328) (hbase : base ≤ w.heap.size) {B : Nat} {w0 : World} (HB : Below B w0 w) (hB : B ≤ base)
    (h : ∀ v' w', OwnAt w' base v' (n + m) (xs ++ news) → w.grownBy w' v.ownBlock → (v'.ownBlock = v.ownBlock ∨ v'.ownBlock = some w.heap.size) → Below B w0 w' → K (a.put o.dst v') w') : o.wp P a w K Q := by
  obtain ⟨v', w', hr, h2, h3, h4⟩ := run_app2 (P := P) w base t o.type e z bytes ht hinfo hzs v n xs hown y m news hs h63 hbytes hbase
  unfold Oper.wp execOp
  simp only [ho, resolve, invoke, builtin, Sem.run_bind, Sem.run_pure, Result.andThen_ok, List.map_toArray, List.map_cons, List.map_nil, hv, hy, hr]
  exact h v' w' h2 h3 h4 (HB.grown h3 (Nat.le_trans hB hbase) (fun k hk => Nat.le_trans hB (hown.lt k hk).1))
theorem wpList_app2 {w : World} {ops : Array Oper} {rest : List Oper} {o : Oper} {a : Act} {Q : Exit → Act → World → Prop} (hgd : o.guard = none) (s x : Operand) (t : TypeId)
    (ho : o.op = .call { callee := .builtin .append, args := #[s, x], argTypes := #[t, t] })
    (base : Nat) (e : TypeId) (z : Value) (bytes : Nat) (ht : P.underlying t = some (.slice e)) (hinfo : (P.info? e).map (fun i => (i.zero, i.size, i.bytes)) = some (some z, 1, bytes))
    (hzs : z.cells.size = 1) (v : Value) (n : Nat) (xs : List Value) (hv : a.eval s = v) (hown : OwnAt w base v n xs) (y : Value) (m : Nat) (news : List Value) (hy : a.eval x = y) (hs : Src w y m 1 news)
    (h63 : n + m ≤ maxLen) (hbytes : (n + m) * bytes ≤ 140737488355328) (hbase : base ≤ w.heap.size) {B : Nat} {w0 : World} (HB : Below B w0 w) (hB : B ≤ base)
    (h : ∀ v' w', OwnAt w' base v' (n + m) (xs ++ news) → w.grownBy w' v.ownBlock → (v'.ownBlock = v.ownBlock ∨ v'.ownBlock = some w.heap.size) → Below B w0 w' → wpList P ops Q rest (a.put o.dst v') w') : wpList P ops Q (o :: rest) a w :=
  wpList_plain hgd fun _ hK => wp_app2 s x t ho base e z bytes ht hinfo hzs v n xs hv hown y m news hy hs h63 hbytes hbase HB hB fun v' w' h2 h3 h4 h5 => hK _ _ (h v' w' h2 h3 h4 h5)
end

end Go.Proofs.Yteajblfkfmopfaa.Mem
