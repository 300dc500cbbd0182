/- append(v, make([]T, m)...) onto a slice of the call's own: m zeros behind it. -/
import Derived.Test.YteajblfkfmopfaaMem2
import Derived.Lib.AppendZeros
import Derived.Lib.AppendZerosOnto
namespace Go.Proofs.Yteajblfkfmopfaa.Mem
set_option linter.unusedVariables false
set_option linter.unusedSimpArgs false
open Go Go.RowKit Go.Lib

theorem zeroCells_one (z : Value) (hz1 : z.cells = #[z]) (n : Nat) : Builtin.zeroCells z.cells n = (List.replicate n z).toArray := by
  rw [hz1]
  apply Array.ext
  · simp [Builtin.zeroCells]
  · intro i h1 h2
    simp [Builtin.zeroCells, Nat.mod_one]

section
variable {P : Program}
theorem run_app_zeros (w : World) (base : Nat) (t tn ty e : TypeId) (z : Value) (bytes : Nat) (k kn : IntKind) (ht : P.underlying t = some (.slice e)) (htn : P.underlying tn = some (.int kn)) (hinfo : (P.info? e).map (fun i => (i.zero, i.size, i.bytes)) = some (some z, 1, bytes))
    (hz1 : z.cells = #[z]) (hone : z.oneCell' = true) (v : Value) (n : Nat) (xs : List Value) (hown : OwnAt w base v n xs) (m : Nat) (hb0 : 0 < bytes)
    (h63 : n + m ≤ maxLen) (hbytes : (n + m) * bytes ≤ 140737488355328) (hbase : base ≤ w.heap.size) :
    ∃ v' w', (Builtin.append_ #[t, tn] ty #[v, .int k (m : Int)]).run P w = .ok v' w' ∧ OwnAt w' base v' (n + m) (xs ++ List.replicate m z) ∧ w.grownBy w' v.ownBlock ∧ (v'.ownBlock = v.ownBlock ∨ v'.ownBlock = some w.heap.size) := by
  obtain ⟨i, hi, hz, h1, h2⟩ := info_parts hinfo
  have hmb : n + m ≤ 140737488355328 := Nat.le_trans (Nat.le_mul_of_pos_right _ hb0) hbytes
  have hw : IntKind.i64.wrap (m : Int) = m := by rw [IntKind.wrap_i64]; omega
  have hneg : ¬ ((m : Int) < 0) := by omega
  have hmm : m * bytes ≤ 140737488355328 := Nat.le_trans (Nat.mul_le_mul_right _ (by omega)) hbytes
  have h48i : ¬ (281474976710656 < (m : Int) * (bytes : Int)) := by rw [← Int.natCast_mul]; omega
  have hzc := zeroCells_one z hz1
  have grown : ∀ (base0 : Option Addr) (cap : Nat), (Builtin.firstCells i.size n (.slice base0 n cap)).run P w.drew = .ok xs.toArray w.drew → xs.length = n → cap < n + m → 0 < m → ∀ row,
      ∃ v' w', (Builtin.append_ #[t, tn] ty #[.slice base0 n cap, .int k (m : Int)]).run P w = .ok v' w' ∧ OwnAt w' base v' (n + m) (xs ++ List.replicate m z) ∧ w.grownBy w' row ∧ v'.ownBlock = some w.heap.size := by
    intro base0 cap hold hxl hcap hm0 row
    have hr := run_append_grow_zeros (P := P) w t tn ty e i z k kn ht htn hi hz base0 n cap xs hold m hm0 (by omega) hcap (by simp only [maxLen] at h63; omega) (by rw [h2]; omega) (by rw [h2]; exact growslice_fits (by omega) hbytes)
    have hge := grownCap_ge w (n + m) cap e
    refine ⟨_, _, hr, ⟨by simp [hxl], .inr ⟨w.heap.size, 0, _, _, e, rfl, hbase, heap_alloc_new w.drew _, ?_, hge, grownCap_le_maxLen w (n + m) cap e h63, fun j hj => ?_⟩⟩, ⟨rfl, rfl, rfl, by simp, fun k hk _ => Below.heap_alloc w.drew _ k hk⟩, rfl⟩
    · simp only [hzc, Array.size_append, List.size_toArray, List.length_replicate, hxl]
      omega
    · have hj2 : j < (xs ++ List.replicate m z).length := by simp [hxl]; omega
      rw [Nat.zero_add, hzc m, Array.getElem?_append_left (by simpa using hj2), ← Array.getElem?_toList, Array.toList_append]
  rcases hown.2 with ⟨rfl, rfl⟩ | ⟨g, off, cap, cur, T, rfl, hg, hh, hfit, hnc, hcm, hcur⟩
  · obtain rfl : xs = [] := List.eq_nil_of_length_eq_zero hown.1
    by_cases hm0 : m = 0
    · subst hm0
      refine ⟨.slice none 0 0, w, ?_, by simpa using OwnAt.nil w base, World.grownBy.refl w _, .inl rfl⟩
      have hw0 : IntKind.i64.wrap 0 = 0 := by rw [IntKind.wrap_i64]; omega
      simp [Builtin.append_, run_underlying ht, run_underlying htn, sizeOf, typeInfo, hi, asInt, asIntOf, hw0]
    · obtain ⟨v', w', a1, a2, a3, a4⟩ := grown none 0 (by simp [Builtin.firstCells]) rfl (by omega) (by omega) (Value.ownBlock (.slice none 0 0))
      exact ⟨v', w', a1, a2, a3, .inr a4⟩
  · have hxl : xs.length = n := hown.1
    by_cases hroom : n + m ≤ cap
    · have hst := run_storeCells_cells (P := P) g (off + n) (List.replicate m z) 0 w
        (fun j hj => by simp only [List.length_replicate] at hj; have hlt : off + n + j < cur.size := by omega
                        simp [World.cell?, hh, hlt])
        (fun j hj => by simp [World.frozen?, hh]) (fun u hu => by rw [List.eq_of_mem_replicate hu]; exact hone)
      simp only [Nat.add_zero] at hst
      have hr : (Builtin.append_ #[t, tn] ty #[.slice (some ⟨g, off, none⟩) n cap, .int k (m : Int)]).run P w = .ok (.slice (some ⟨g, off, none⟩) (n + m) cap) (w.setCells g (off + n) (List.replicate m z)) := by
        by_cases hm0 : m = 0
        · subst hm0
          have hw0 : IntKind.i64.wrap 0 = 0 := by rw [IntKind.wrap_i64]; omega
          simp [Builtin.append_, run_underlying ht, run_underlying htn, sizeOf, typeInfo, hi, asInt, asIntOf, hw0, h2, hnc, storeCells, World.setCells]
        · simp [Builtin.append_, run_underlying ht, run_underlying htn, sizeOf, typeInfo, zeroValue, hi, hz, asInt, asIntOf, hw, hneg, h48i, h1, h2, hroom, hm0, hzc, Addr.add_lit, hst]
      obtain ⟨cur', a1, a2, a3⟩ := setCells_heap g (List.replicate m z) (off + n) w cur T hh (by simp only [List.length_replicate]; omega)
      obtain ⟨b1, b2, b3, b4⟩ := setCells_rest g (List.replicate m z) (off + n) w
      refine ⟨_, _, hr, ⟨by simp [hxl], .inr ⟨g, off, cap, cur', T, rfl, hg, a1, by omega, hroom, hcm, fun j hj => ?_⟩⟩, ⟨b1, b2, b3, by omega, fun k _ hk => setCells_other g _ _ w k (fun e => hk (by simp [Value.ownBlock, e]))⟩, .inl rfl⟩
      rw [a3]
      simp only [List.length_replicate]
      by_cases hjn : j < n
      · rw [if_neg (by omega), hcur j hjn, List.getElem?_append_left (by omega)]
      · rw [if_pos (by omega), List.getElem?_append_right (by omega), hxl, show off + j - (off + n) = j - n by omega]
    · have hold : (Builtin.firstCells i.size n (.slice (some ⟨g, off, none⟩) n cap)).run P w.drew = .ok xs.toArray w.drew := by
        refine run_firstCells_some w.drew i.size n ⟨g, off, none⟩ n cap xs (by rw [h1]; omega) (fun j u hu => ?_)
        obtain ⟨ad, e, hc⟩ := hown.cell j u hu
        cases e
        simpa using hc
      obtain ⟨v', w', a1, a2, a3, a4⟩ := grown (some ⟨g, off, none⟩) cap hold hxl (by omega) (by omega) (Value.ownBlock (.slice (some ⟨g, off, none⟩) n cap))
      exact ⟨v', w', a1, a2, a3, .inr a4⟩

theorem wpList_app_zeros {w : World} {ops : Array Oper} {rest : List Oper} {o : Oper} {a : Act} {Q : Exit → Act → World → Prop} (hgd : o.guard = none) (s x : Operand) (t tn : TypeId)
    (ho : o.op = .call { callee := .builtin .append, args := #[s, x], argTypes := #[t, tn] })
    (base : Nat) (e : TypeId) (z : Value) (bytes : Nat) (k kn : IntKind) (ht : P.underlying t = some (.slice e)) (htn : P.underlying tn = some (.int kn)) (hinfo : (P.info? e).map (fun i => (i.zero, i.size, i.bytes)) = some (some z, 1, bytes))
    (hz1 : z.cells = #[z]) (hone : z.oneCell' = true) (v : Value) (n : Nat) (xs : List Value) (hv : a.eval s = v) (hown : OwnAt w base v n xs) (m : Nat) (hy : a.eval x = .int k (m : Int)) (hb0 : 0 < bytes)
    (h63 : n + m ≤ maxLen) (hbytes : (n + m) * bytes ≤ 140737488355328) (hbase : base ≤ w.heap.size) {B : Nat} {w0 : World} (HB : Below B w0 w) (hB : B ≤ base)
    (h : ∀ v' w', OwnAt w' base v' (n + m) (xs ++ List.replicate m z) → w.grownBy w' v.ownBlock → (v'.ownBlock = v.ownBlock ∨ v'.ownBlock = some w.heap.size) → Below B w0 w' → wpList P ops Q rest (a.put o.dst v') w') : wpList P ops Q (o :: rest) a w := by
  obtain ⟨v', w', hr, h2, h3, h4⟩ := run_app_zeros (P := P) w base t tn o.type e z bytes k kn ht htn hinfo hz1 hone v n xs hown m hb0 h63 hbytes hbase
  refine wpList_plain hgd fun K hK => ?_
  unfold Oper.wp execOp
  simp only [ho, resolve, invoke, builtin, Sem.run_bind, Sem.run_pure, Result.andThen_ok, List.map_toArray, List.map_cons, List.map_nil, hv, hy, hr]
  exact hK _ _ (h v' w' h2 h3 h4 (HB.grown h3 (Nat.le_trans hB hbase) (fun k hk => Nat.le_trans hB (hown.lt k hk).1)))
end
end Go.Proofs.Yteajblfkfmopfaa.Mem
