/- My own words on memory: append of a string onto a row of the call's own; rows of slices that stay while another row grows. -/
import Derived.Test.YtpijkibhjklkoaaMem4
import Derived.Deep.AppendSrc
namespace Go.Proofs.Ytpijkibhjklkoaa.Mem
set_option linter.unusedVariables false
set_option linter.unusedSimpArgs false
open Go Go.RowKit
section
variable {P : Program}
theorem run_app_from (w : World) (base : Nat) (t tx ty e : TypeId) (z : Value) (bytes : Nat) (ht : P.underlying t = some (.slice e)) (hinfo : (P.info? e).map (fun i => (i.zero, i.size, i.bytes)) = some (some z, 1, bytes))
    (hzs : z.cells.size = 1) (A : Addr) (n0 c : Nat) (n : Nat) (xs : List Value) (hown : OwnAt w base (.slice (some A) n0 c) n xs) (x : Value) (m : Nat) (news : List Value) (hs : Go.Src P 1 tx x m news w) (hl : news.length = m)
    (h63 : n + m ≤ maxLen) (hbytes : (n + m) * bytes ≤ 140737488355328) (hbase : base ≤ w.heap.size) :
    ∃ v' w', (Builtin.append_ #[t, tx] ty #[.slice (some A) n0 c, x]).run P w = .ok v' w' ∧ OwnAt w' base v' (n + m) (xs ++ news) ∧ w.grownBy w' (Value.slice (some A) n0 c).ownBlock ∧ (v'.ownBlock = (Value.slice (some A) n0 c).ownBlock ∨ v'.ownBlock = some w.heap.size) := by
  obtain ⟨i, hi, hz, h1, h2⟩ := info_parts hinfo
  rcases hown.2 with ⟨hv, _⟩ | ⟨g, off, cap, cur, T, hv, hg, hh, hfit, hnc, hcm, hcur⟩
  · cases hv
  · injection hv with e1 e2 e3
    injection e1 with e1
    subst e1; subst e2; subst e3
    have hsrc : Go.Src P i.size tx x m news w := by rw [h1]; exact hs
    have hxl : xs.length = n0 := hown.1
    by_cases hroom : n0 + m ≤ c
    · have hr := run_append_room_src (P := P) w t tx ty e i ht hi g off n0 c x m news hsrc hroom
        (fun j hj => by rw [h1, Nat.mul_one]; have hlt : off + n0 + j < cur.size := by omega
                        simp [World.cell?, hh, hlt])
        (fun j hj => by simp [World.frozen?, hh])
      rw [h1, Nat.mul_one] at hr
      obtain ⟨cur', a1, a2, a3⟩ := setCells_heap g news (off + n0) w cur T hh (by omega)
      obtain ⟨b1, b2, b3, b4⟩ := setCells_rest g news (off + n0) w
      refine ⟨_, _, hr, ⟨by rw [List.length_append]; omega, .inr ⟨g, off, c, cur', T, rfl, hg, a1, by omega, hroom, hcm, fun j hj => ?_⟩⟩, ⟨b1, b2, b3, by omega, fun k _ hk => setCells_other g news _ w k (fun e => hk (by simp [Value.ownBlock, e]))⟩, .inl rfl⟩
      rw [a3]
      by_cases hjn : j < n0
      · rw [if_neg (by omega), hcur j hjn, List.getElem?_append_left (by omega)]
      · rw [if_pos (by omega), List.getElem?_append_right (by omega), hxl, show off + j - (off + n0) = j - n0 by omega]
    · have hold : (Builtin.firstCells i.size n0 (.slice (some ⟨g, off, none⟩) n0 c)).run P w.drew = .ok xs.toArray w.drew := by
        refine run_firstCells_some w.drew i.size n0 ⟨g, off, none⟩ n0 c xs (by rw [h1]; omega) (fun j u hu => ?_)
        obtain ⟨ad, e, hc⟩ := hown.cell j u hu
        cases e
        simpa using hc
      have hr := run_append_grow_src (P := P) w t tx ty e i z ht hi hz (some ⟨g, off, none⟩) n0 c xs hold x m news hsrc (by omega) (by simp only [maxLen] at h63; omega) (by rw [h2]; exact growslice_fits (by omega) hbytes)
      have hge := grownCap_ge w (n0 + m) c e
      refine ⟨_, _, hr, ⟨by rw [List.length_append]; omega, .inr ⟨w.heap.size, 0, _, _, e, rfl, hbase, heap_alloc_new w.drew _, ?_, hge, grownCap_le_maxLen w (n0 + m) c e h63, fun j hj => ?_⟩⟩, ⟨rfl, rfl, rfl, by simp, fun k hk _ => Below.heap_alloc w.drew _ k hk⟩, .inr rfl⟩
      · simp only [Array.size_append, List.size_toArray, List.length_append, size_zeroCells, hzs]
        omega
      · have hj2 : j < (xs ++ news).length := by rw [List.length_append]; omega
        rw [Nat.zero_add, Array.getElem?_append_left (by simpa using hj2), List.getElem?_toArray]
/-- a string's bytes as numbers -/
def strB (s : ByteArray) : List Int := s.data.toList.map fun b => (b.toNat : Int)
theorem strB_len (s : ByteArray) : (strB s).length = s.size := by simp [strB]
theorem byteCells_strB (s : ByteArray) : byteCells s = (strB s).map (Value.int .u8) := by
  unfold byteCells strB
  rw [List.map_map]
  rfl
theorem wpList_app_str {w : World} {ops : Array Oper} {rest : List Oper} {o : Oper} {a : Act} {Q : Exit → Act → World → Prop} (hgd : o.guard = none) (s x : Operand) (t tx : TypeId)
    (ho : o.op = .call { callee := .builtin .append, args := #[s, x], argTypes := #[t, tx] })
    (base : Nat) (e : TypeId) (z : Value) (bytes : Nat) (ht : P.underlying t = some (.slice e)) (htx : P.underlying tx = some .string) (hinfo : (P.info? e).map (fun i => (i.zero, i.size, i.bytes)) = some (some z, 1, bytes))
    (hzs : z.cells.size = 1) (A : Addr) (n0 c : Nat) (n : Nat) (xs : List Value) (hv : a.eval s = .slice (some A) n0 c) (hown : OwnAt w base (.slice (some A) n0 c) n xs) (y : ByteArray) (hy : a.eval x = .string y)
    (h63 : n + y.size ≤ maxLen) (hbytes : (n + y.size) * bytes ≤ 140737488355328) (hbase : base ≤ w.heap.size) {B : Nat} {w0 : World} (HB : Below B w0 w) (hB : B ≤ base)
    (h : ∀ v' w', OwnAt w' base v' (n + y.size) (xs ++ (strB y).map (Value.int .u8)) → w.grownBy w' (Value.slice (some A) n0 c).ownBlock → (v'.ownBlock = (Value.slice (some A) n0 c).ownBlock ∨ v'.ownBlock = some w.heap.size) → Below B w0 w' → wpList P ops Q rest (a.put o.dst v') w') : wpList P ops Q (o :: rest) a w := by
  obtain ⟨v', w', hr, h2, h3, h4⟩ := run_app_from (P := P) w base t tx o.type e z bytes ht hinfo hzs A n0 c n xs hown (.string y) y.size (byteCells y) (Src.ofString (P := P) w htx y) (byteCells_length y) h63 hbytes hbase
  rw [byteCells_strB] at h2
  refine wpList_run hgd v' ?_ (h v' w' h2 h3 h4 (HB.grown h3 (Nat.le_trans hB hbase) (fun k hk => Nat.le_trans hB (hown.lt k hk).1)))
  unfold execOp
  simp only [ho, resolve, invoke, builtin, Sem.run_bind, Sem.run_pure, Result.andThen_ok, List.map_toArray, List.map_cons, List.map_nil, hv, hy, hr]
end
end Go.Proofs.Ytpijkibhjklkoaa.Mem
