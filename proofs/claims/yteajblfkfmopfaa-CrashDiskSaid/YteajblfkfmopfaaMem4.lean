/- append of one value onto a row of the call's own; the value stands in a block made last. -/
import Derived.Test.YteajblfkfmopfaaRefWord
namespace Go.Proofs.Yteajblfkfmopfaa.Mem
set_option linter.unusedVariables false
set_option linter.unusedSimpArgs false
open Go Go.RowKit
section
variable {P : Program}
theorem wpList_app_one {w : World} {ops : Array Oper} {rest : List Oper} {o : Oper} {a : Act} {Q : Exit → Act → World → Prop} (hgd : o.guard = none) (s x : Operand) (t : TypeId)
    (ho : o.op = .call { callee := .builtin .append, args := #[s, x], argTypes := #[t, t] })
    (base : Nat) (e : TypeId) (z : Value) (bytes : Nat) (ht : P.underlying t = some (.slice e)) (hinfo : (P.info? e).map (fun i => (i.zero, i.size, i.bytes)) = some (some z, 1, bytes))
    (hzs : z.cells.size = 1) (v : Value) (n : Nat) (xs : List Value) (hv : a.eval s = v) (hown : OwnAt w base v n xs) (u : Value) (T : TypeId) (hu : u.oneCell' = true) (hy : a.eval x = .slice (some ⟨w.heap.size, 0, none⟩) 1 1)
    (h63 : n + 1 ≤ maxLen) (hbytes : (n + 1) * bytes ≤ 140737488355328) (hbase : base ≤ w.heap.size) {B : Nat} {w0 : World} (HB : Below B w0 w) (hB : B ≤ base)
    (h : ∀ A c w', OwnAt w' base (.slice A (n + 1) c) (n + 1) (xs ++ [u]) → (w.alloc (.cells #[u] T)).grownBy w' v.ownBlock → ((Value.slice A (n + 1) c).ownBlock = v.ownBlock ∨ (Value.slice A (n + 1) c).ownBlock = some (w.heap.size + 1)) → Below B w0 w' → wpList P ops Q rest (a.put o.dst (.slice A (n + 1) c)) w') :
    wpList P ops Q (o :: rest) a (w.alloc (.cells #[u] T)) := by
  refine wpList_app2 hgd s x t ho base e z bytes ht hinfo hzs v n xs hv (hown.below (below_alloc (Below.refl _ w) _)) _ 1 [u] hy (Src.cell (heap_alloc_new w _) hu) h63 hbytes (by simp; omega) (HB.alloc (Nat.le_trans hB hbase) _) hB ?_
  intro v' w' h1 h2 h3 h4
  obtain ⟨A, c, rfl⟩ := h1.slice
  exact h A c w' h1 h2 (by simpa using h3) h4
/-- the same as one step of a region that draws its order -/
theorem step_app_one {w : World} {ops : Array Oper} {o : Oper} {a : Act} {K : Act → World → Prop} {Q : Exit → Act → World → Prop} {E : Prop} (hgd : o.guard = none) (s x : Operand) (t : TypeId)
    (ho : o.op = .call { callee := .builtin .append, args := #[s, x], argTypes := #[t, t] })
    (base : Nat) (e : TypeId) (z : Value) (bytes : Nat) (ht : P.underlying t = some (.slice e)) (hinfo : (P.info? e).map (fun i => (i.zero, i.size, i.bytes)) = some (some z, 1, bytes))
    (hzs : z.cells.size = 1) (v : Value) (n : Nat) (xs : List Value) (hv : a.eval s = v) (hown : OwnAt w base v n xs) (u : Value) (T : TypeId) (hu : u.oneCell' = true) (hy : a.eval x = .slice (some ⟨w.heap.size, 0, none⟩) 1 1)
    (h63 : n + 1 ≤ maxLen) (hbytes : (n + 1) * bytes ≤ 140737488355328) (hbase : base ≤ w.heap.size) {B : Nat} {w0 : World} (HB : Below B w0 w) (hB : B ≤ base)
    (h : ∀ A c w', OwnAt w' base (.slice A (n + 1) c) (n + 1) (xs ++ [u]) → (w.alloc (.cells #[u] T)).grownBy w' v.ownBlock → ((Value.slice A (n + 1) c).ownBlock = v.ownBlock ∨ (Value.slice A (n + 1) c).ownBlock = some (w.heap.size + 1)) → Below B w0 w' → K (a.put o.dst (.slice A (n + 1) c)) w') :
    if Region.wanted o (yielded ops a.tmps) = true then Oper.wp P o a (w.alloc (.cells #[u] T)) K Q else E := by
  rw [if_pos (by simp [Region.wanted, hgd])]
  refine wp_app2 s x t ho base e z bytes ht hinfo hzs v n xs hv (hown.below (below_alloc (Below.refl _ w) _)) _ 1 [u] hy (Src.cell (heap_alloc_new w _) hu) h63 hbytes (by simp; omega) (HB.alloc (Nat.le_trans hB hbase) _) hB ?_
  intro v' w' h1 h2 h3 h4
  obtain ⟨A, c, rfl⟩ := h1.slice
  exact h A c w' h1 h2 (by simpa using h3) h4
/-- and where the draw stands behind the making of the block -/
theorem step_app_one_drew {w : World} {ops : Array Oper} {o : Oper} {a : Act} {K : Act → World → Prop} {Q : Exit → Act → World → Prop} {E : Prop} (hgd : o.guard = none) (s x : Operand) (t : TypeId)
    (ho : o.op = .call { callee := .builtin .append, args := #[s, x], argTypes := #[t, t] })
    (base : Nat) (e : TypeId) (z : Value) (bytes : Nat) (ht : P.underlying t = some (.slice e)) (hinfo : (P.info? e).map (fun i => (i.zero, i.size, i.bytes)) = some (some z, 1, bytes))
    (hzs : z.cells.size = 1) (v : Value) (n : Nat) (xs : List Value) (hv : a.eval s = v) (hown : OwnAt w base v n xs) (u : Value) (T : TypeId) (hu : u.oneCell' = true) (hy : a.eval x = .slice (some ⟨w.heap.size, 0, none⟩) 1 1)
    (h63 : n + 1 ≤ maxLen) (hbytes : (n + 1) * bytes ≤ 140737488355328) (hbase : base ≤ w.heap.size) {B : Nat} {w0 : World} (HB : Below B w0 w) (hB : B ≤ base)
    (h : ∀ A c w', OwnAt w' base (.slice A (n + 1) c) (n + 1) (xs ++ [u]) → Below B w0 w' → K (a.put o.dst (.slice A (n + 1) c)) w') :
    if Region.wanted o (yielded ops a.tmps) = true then Oper.wp P o a (w.alloc (.cells #[u] T)).drew K Q else E := by
  have := step_app_one (P := P) (w := w.drew) (ops := ops) (Q := Q) (E := E) hgd s x t ho base e z bytes ht hinfo hzs v n xs hv (hown.drewN 1) u T hu hy h63 hbytes hbase (below_drewN HB 1) hB (fun A c w' h1 _ _ h4 => h A c w' h1 h4)
  exact this
theorem run_app2k (w : World) (base : Nat) (t ty e : TypeId) (z : Value) (bytes : Nat) (ht : P.underlying t = some (.slice e)) (hinfo : (P.info? e).map (fun i => (i.zero, i.size, i.bytes)) = some (some z, 1, bytes))
    (hzs : z.cells.size = 1) (v : Value) (n : Nat) (xs : List Value) (hown : OwnAt w base v n xs) (x : Value) (m : Nat) (news : List Value) (hs : Src w x m 1 news)
    (h63 : n + m ≤ maxLen) (hbytes : (n + m) * bytes ≤ 140737488355328) (hbase : base ≤ w.heap.size) :
    ∃ v' w', (Builtin.append_ #[t, t] ty #[v, x]).run P w = .ok v' w' ∧ OwnAt w' base v' (n + m) (xs ++ news) ∧ OwnAt w' base v n xs := by
  obtain ⟨i, hi, hz, h1, h2⟩ := info_parts hinfo
  rcases hown.2 with ⟨rfl, rfl⟩ | ⟨g, off, cap, cur, T, rfl, hg, hh, hfit, hnc, hcm, hcur⟩
  · obtain rfl : xs = [] := List.eq_nil_of_length_eq_zero hown.1
    obtain ⟨v', w', hr, a1, a2, a3⟩ := run_app (P := P) w base t ty e z 1 bytes ht hinfo hzs (by decide) _ 0 [] (World.ownsRow_nil w base e 1) x m news hs h63 hbytes hbase
    exact ⟨v', w', hr, OwnAt.of_own a1, OwnAt.nil _ _⟩
  · have hsrc : Go.Src P i.size t x m news w := by
      rcases hs.at_ with ⟨ad, c, rfl, hc⟩ | ⟨c, rfl, rfl⟩
      · exact Src.ofSlice (P := P) w ht ad m c news (by rw [h1]; exact hs.len) hc hs.one
      · obtain rfl : news = [] := List.eq_nil_of_length_eq_zero (by simpa using hs.len)
        exact Src.ofNil (P := P) w ht c
    have hl : news.length = m := by simpa using hs.len
    have hxl : xs.length = n := hown.1
    by_cases hroom : n + m ≤ cap
    · have hr := run_append_room_src (P := P) w t t ty e i ht hi g off n cap x m news hsrc hroom
        (fun j hj => by rw [h1, Nat.mul_one]; have hlt : off + n + j < cur.size := by omega
                        simp [World.cell?, hh, hlt])
        (fun j hj => by simp [World.frozen?, hh])
      rw [h1, Nat.mul_one] at hr
      obtain ⟨cur', a1, a2, a3⟩ := setCells_heap g news (off + n) w cur T hh (by omega)
      refine ⟨_, _, hr, ⟨by rw [List.length_append]; omega, .inr ⟨g, off, cap, cur', T, rfl, hg, a1, by omega, hroom, hcm, fun j hj => ?_⟩⟩, ⟨hown.1, .inr ⟨g, off, cap, cur', T, rfl, hg, a1, by omega, hnc, hcm, fun j hj => by rw [a3, if_neg (by omega), hcur j hj]⟩⟩⟩
      rw [a3]
      by_cases hjn : j < n
      · rw [if_neg (by omega), hcur j hjn, List.getElem?_append_left (by omega)]
      · rw [if_pos (by omega), List.getElem?_append_right (by omega), hxl, show off + j - (off + n) = j - n by omega]
    · have hold : (Builtin.firstCells i.size n (.slice (some ⟨g, off, none⟩) n cap)).run P w.drew = .ok xs.toArray w.drew := by
        refine run_firstCells_some w.drew i.size n ⟨g, off, none⟩ n cap xs (by rw [h1]; omega) (fun j u hu => ?_)
        obtain ⟨ad, e, hc⟩ := hown.cell j u hu
        cases e
        simpa using hc
      have hr := run_append_grow_src (P := P) w t t ty e i z ht hi hz (some ⟨g, off, none⟩) n cap xs hold x m news hsrc (by omega) (by simp only [maxLen] at h63; omega) (by rw [h2]; exact growslice_fits (by omega) hbytes)
      have hge := grownCap_ge w (n + m) cap e
      refine ⟨_, _, hr, ⟨by rw [List.length_append]; omega, .inr ⟨w.heap.size, 0, _, _, e, rfl, hbase, heap_alloc_new w.drew _, ?_, hge, grownCap_le_maxLen w (n + m) cap e h63, fun j hj => ?_⟩⟩, (hown.drewN 1).below (below_alloc (Below.refl _ w.drew) _)⟩
      · simp only [Array.size_append, List.size_toArray, List.length_append, size_zeroCells, hzs]
        omega
      · have hj2 : j < (xs ++ news).length := by rw [List.length_append]; omega
        rw [Nat.zero_add, Array.getElem?_append_left (by simpa using hj2), List.getElem?_toArray]
/-- append of one value in a region that draws: the elder row lies as it lay -/
theorem step_app_one_keep {w : World} {ops : Array Oper} {o : Oper} {a : Act} {K : Act → World → Prop} {Q : Exit → Act → World → Prop} {E : Prop} (hgd : o.guard = none) (s x : Operand) (t : TypeId)
    (ho : o.op = .call { callee := .builtin .append, args := #[s, x], argTypes := #[t, t] })
    (base : Nat) (e : TypeId) (z : Value) (bytes : Nat) (ht : P.underlying t = some (.slice e)) (hinfo : (P.info? e).map (fun i => (i.zero, i.size, i.bytes)) = some (some z, 1, bytes))
    (hzs : z.cells.size = 1) (v : Value) (n : Nat) (xs : List Value) (hv : a.eval s = v) (hown : OwnAt w base v n xs) (u : Value) (T : TypeId) (hu : u.oneCell' = true) (hy : a.eval x = .slice (some ⟨w.heap.size, 0, none⟩) 1 1)
    (h63 : n + 1 ≤ maxLen) (hbytes : (n + 1) * bytes ≤ 140737488355328) (hbase : base ≤ w.heap.size) {B : Nat} {w0 : World} (HB : Below B w0 w) (hB : B ≤ base)
    (h : ∀ A c w', OwnAt w' base (.slice A (n + 1) c) (n + 1) (xs ++ [u]) → OwnAt w' base v n xs → Below B w0 w' → K (a.put o.dst (.slice A (n + 1) c)) w') :
    if Region.wanted o (yielded ops a.tmps) = true then Oper.wp P o a (w.alloc (.cells #[u] T)).drew K Q else E := by
  rw [if_pos (by simp [Region.wanted, hgd])]
  have ho2 : OwnAt (w.alloc (.cells #[u] T)).drew base v n xs := (hown.below (below_alloc (Below.refl _ w) _)).drewN 1
  have hb2 : Below B w0 (w.alloc (.cells #[u] T)).drew := below_drewN (HB.alloc (Nat.le_trans hB hbase) _) 1
  have hs2 : Src (w.alloc (.cells #[u] T)).drew (.slice (some ⟨w.heap.size, 0, none⟩) 1 1) 1 1 [u] := Src.cell (w := (w.alloc (.cells #[u] T)).drew) (heap_alloc_new w _) hu
  obtain ⟨v', w', hr, h2, h3, h4⟩ := run_app2 (P := P) (w.alloc (.cells #[u] T)).drew base t o.type e z bytes ht hinfo hzs v n xs ho2 _ 1 [u] hs2 h63 hbytes (by simp; omega)
  obtain ⟨v2, w2, hr2, _, k2⟩ := run_app2k (P := P) (w.alloc (.cells #[u] T)).drew base t o.type e z bytes ht hinfo hzs v n xs ho2 _ 1 [u] hs2 h63 hbytes (by simp; omega)
  rw [hr] at hr2
  injection hr2 with e1 e2
  subst e1; subst e2
  obtain ⟨A, c, rfl⟩ := h2.slice
  unfold Oper.wp execOp
  simp only [ho, resolve, invoke, builtin, Sem.run_bind, Sem.run_pure, Result.andThen_ok, List.map_toArray, List.map_cons, List.map_nil, hv, hy, hr]
  exact h A c w' h2 k2 (hb2.grown h3 (by simp; omega) (fun k hk => Nat.le_trans hB (ho2.lt k hk).1))
end
end Go.Proofs.Yteajblfkfmopfaa.Mem
