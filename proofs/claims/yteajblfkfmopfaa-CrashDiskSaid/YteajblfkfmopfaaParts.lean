/- My own words on memory: append of a string onto a row of the call's own; rows of slices that stay while another row grows. rows of the call's own whose elements are slices of bytes that are read. bytes.Equal. -/
import Derived.Test.YteajblfkfmopfaaMem4
import Derived.Deep.AppendSrc
import Derived.Test.YteajblfkfmopfaaHmacTag
import Derived.Test.YteajblfkfmopfaaPut
import Derived.Laws.BytesArg
namespace Go.Proofs.Yteajblfkfmopfaa.Mem
set_option linter.unusedVariables false
set_option linter.unusedSimpArgs false
open Go Go.RowKit
section
variable {P : Program}
theorem run_app_from (w : World) (base : Nat) (t tx ty e : TypeId) (z : Value) (bytes : Nat) (ht : P.underlying t = some (.slice e)) (hinfo : (P.info? e).map (fun i => (i.zero, i.size, i.bytes)) = some (some z, 1, bytes))
    (hzs : z.cells.size = 1) (A : Addr) (n0 c : Nat) (n : Nat) (xs : List Value) (hown : OwnAt w base (.slice (some A) n0 c) n xs) (x : Value) (m : Nat) (news : List Value) (hs : Go.Src P 1 tx x m news w) (hl : news.length = m)
    (h63 : n + m ≤ maxLen) (hbytes : (n + m) * bytes ≤ 140737488355328) (hbase : base ≤ w.heap.size) :
    ∃ v' w', (Builtin.append_ #[t, tx] ty #[.slice (some A) n0 c, x]).run P w = .ok v' w' ∧ OwnAt w' base v' (n + m) (xs ++ news) ∧ w.grownBy w' (Value.slice (some A) n0 c).ownBlock ∧ (v'.ownBlock = (Value.slice (some A) n0 c).ownBlock ∨ v'.ownBlock = some w.heap.size) := by
  obtain ⟨i, hi, hz, h1, h2⟩ := info_parts hinfo
  rcases hown.2 with ⟨hv, _⟩ | ⟨g, off, cap, cur, T, hv, hg, hh, hfit, hnc, hcm, hcur⟩
  · cases hv
  · injection hv with e1 e2 e3
    injection e1 with e1
    subst e1; subst e2; subst e3
    have hsrc : Go.Src P i.size tx x m news w := by rw [h1]; exact hs
    have hxl : xs.length = n0 := hown.1
    by_cases hroom : n0 + m ≤ c
    · have hr := run_append_room_src (P := P) w t tx ty e i ht hi g off n0 c x m news hsrc hroom
        (fun j hj => by rw [h1, Nat.mul_one]; have hlt : off + n0 + j < cur.size := by omega
                        simp [World.cell?, hh, hlt])
        (fun j hj => by simp [World.frozen?, hh])
      rw [h1, Nat.mul_one] at hr
      obtain ⟨cur', a1, a2, a3⟩ := setCells_heap g news (off + n0) w cur T hh (by omega)
      obtain ⟨b1, b2, b3, b4⟩ := setCells_rest g news (off + n0) w
      refine ⟨_, _, hr, ⟨by rw [List.length_append]; omega, .inr ⟨g, off, c, cur', T, rfl, hg, a1, by omega, hroom, hcm, fun j hj => ?_⟩⟩, ⟨b1, b2, b3, by omega, fun k _ hk => setCells_other g news _ w k (fun e => hk (by simp [Value.ownBlock, e]))⟩, .inl rfl⟩
      rw [a3]
      by_cases hjn : j < n0
      · rw [if_neg (by omega), hcur j hjn, List.getElem?_append_left (by omega)]
      · rw [if_pos (by omega), List.getElem?_append_right (by omega), hxl, show off + j - (off + n0) = j - n0 by omega]
    · have hold : (Builtin.firstCells i.size n0 (.slice (some ⟨g, off, none⟩) n0 c)).run P w.drew = .ok xs.toArray w.drew := by
        refine run_firstCells_some w.drew i.size n0 ⟨g, off, none⟩ n0 c xs (by rw [h1]; omega) (fun j u hu => ?_)
        obtain ⟨ad, e, hc⟩ := hown.cell j u hu
        cases e
        simpa using hc
      have hr := run_append_grow_src (P := P) w t tx ty e i z ht hi hz (some ⟨g, off, none⟩) n0 c xs hold x m news hsrc (by omega) (by simp only [maxLen] at h63; omega) (by rw [h2]; exact growslice_fits (by omega) hbytes)
      have hge := grownCap_ge w (n0 + m) c e
      refine ⟨_, _, hr, ⟨by rw [List.length_append]; omega, .inr ⟨w.heap.size, 0, _, _, e, rfl, hbase, heap_alloc_new w.drew _, ?_, hge, grownCap_le_maxLen w (n0 + m) c e h63, fun j hj => ?_⟩⟩, ⟨rfl, rfl, rfl, by simp, fun k hk _ => Below.heap_alloc w.drew _ k hk⟩, .inr rfl⟩
      · simp only [Array.size_append, List.size_toArray, List.length_append, size_zeroCells, hzs]
        omega
      · have hj2 : j < (xs ++ news).length := by rw [List.length_append]; omega
        rw [Nat.zero_add, Array.getElem?_append_left (by simpa using hj2), List.getElem?_toArray]
/-- a string's bytes as numbers -/
def strB (s : ByteArray) : List Int := s.data.toList.map fun b => (b.toNat : Int)
theorem strB_len (s : ByteArray) : (strB s).length = s.size := by simp [strB]
theorem byteCells_strB (s : ByteArray) : byteCells s = (strB s).map (Value.int .u8) := by
  unfold byteCells strB
  rw [List.map_map]
  rfl
theorem wpList_app_str {w : World} {ops : Array Oper} {rest : List Oper} {o : Oper} {a : Act} {Q : Exit → Act → World → Prop} (hgd : o.guard = none) (s x : Operand) (t tx : TypeId)
    (ho : o.op = .call { callee := .builtin .append, args := #[s, x], argTypes := #[t, tx] })
    (base : Nat) (e : TypeId) (z : Value) (bytes : Nat) (ht : P.underlying t = some (.slice e)) (htx : P.underlying tx = some .string) (hinfo : (P.info? e).map (fun i => (i.zero, i.size, i.bytes)) = some (some z, 1, bytes))
    (hzs : z.cells.size = 1) (A : Addr) (n0 c : Nat) (n : Nat) (xs : List Value) (hv : a.eval s = .slice (some A) n0 c) (hown : OwnAt w base (.slice (some A) n0 c) n xs) (y : ByteArray) (hy : a.eval x = .string y)
    (h63 : n + y.size ≤ maxLen) (hbytes : (n + y.size) * bytes ≤ 140737488355328) (hbase : base ≤ w.heap.size) {B : Nat} {w0 : World} (HB : Below B w0 w) (hB : B ≤ base)
    (h : ∀ v' w', OwnAt w' base v' (n + y.size) (xs ++ (strB y).map (Value.int .u8)) → w.grownBy w' (Value.slice (some A) n0 c).ownBlock → (v'.ownBlock = (Value.slice (some A) n0 c).ownBlock ∨ v'.ownBlock = some w.heap.size) → Below B w0 w' → wpList P ops Q rest (a.put o.dst v') w') : wpList P ops Q (o :: rest) a w := by
  obtain ⟨v', w', hr, h2, h3, h4⟩ := run_app_from (P := P) w base t tx o.type e z bytes ht hinfo hzs A n0 c n xs hown (.string y) y.size (byteCells y) (Src.ofString (P := P) w htx y) (byteCells_length y) h63 hbytes hbase
  rw [byteCells_strB] at h2
  refine wpList_run hgd v' ?_ (h v' w' h2 h3 h4 (HB.grown h3 (Nat.le_trans hB hbase) (fun k hk => Nat.le_trans hB (hown.lt k hk).1)))
  unfold execOp
  simp only [ho, resolve, invoke, builtin, Sem.run_bind, Sem.run_pure, Result.andThen_ok, List.map_toArray, List.map_cons, List.map_nil, hv, hy, hr]
end
end Go.Proofs.Yteajblfkfmopfaa.Mem
namespace Go.Proofs.Yteajblfkfmopfaa.Parts
set_option linter.unusedVariables false
set_option linter.unusedSimpArgs false
open Go Go.RowKit Go.Proofs.Yteajblfkfmopfaa.Mem Go.Proofs.Yteajblfkfmopfaa.Put32 Go.Proofs.Yteajblfkfmopfaa.Sum Go.Proofs.Yteajblfkfmopfaa.Hmac

/-- an element: a slice of bytes, read, apart from a row -/
def Elem (w : World) (row : Option Nat) (v : Value) (p : List Int) : Prop :=
  ∃ Aj cj, v = .slice Aj p.length cj ∧ Rd .u8 w Aj p.length cj p ∧ (0 < p.length → ∀ ad, Aj = some ad → some ad.block ≠ row)
theorem rd_empty {w w' : World} {A : Option Addr} {n c : Nat} {x : List Int} (h : Rd .u8 w A n c x) (h0 : n = 0) : Rd .u8 w' A n c x := ⟨h.len, h.le, h.cap, fun hn => by omega⟩
theorem rd_lt {w : World} {ad : Addr} {n c : Nat} {x : List Int} (h : Rd .u8 w (some ad) n c x) (h0 : 0 < n) : ad.block < w.heap.size := by
  obtain ⟨ad', e, hc⟩ := h.cells h0
  cases e
  have := World.block_lt_of_cell? w _ (hc 0 h0)
  have hb : (ad.add 0).block = ad.block := by unfold Addr.add; split <;> rfl
  rwa [hb] at this
theorem Elem.below {w w' : World} {row : Option Nat} {v : Value} {p : List Int} (h : Elem w row v p) (hb : Below w.heap.size w w') : Elem w' row v p := by
  obtain ⟨A, c, e, hr, ha⟩ := h
  exact ⟨A, c, e, hr.below hb, ha⟩
theorem Elem.step {w w' : World} {row row' : Option Nat} {v : Value} {p : List Int} (h : Elem w row v p) (hg : w.grownBy w' row) (hat : row' = row ∨ row' = some w.heap.size) : Elem w' row' v p := by
  obtain ⟨A, c, e, hr, ha⟩ := h
  rcases Nat.eq_zero_or_pos p.length with h0 | h0
  · exact ⟨A, c, e, rd_empty hr h0, fun hp => by omega⟩
  · refine ⟨A, c, e, hr.grown hg (ha h0), fun _ ad ea => ?_⟩
    rcases hat with rfl | rfl
    · exact ha h0 ad ea
    · subst ea
      have := rd_lt hr h0
      intro he
      injection he with he
      omega
/-- an element whose block stands already is apart from a row that is new -/
theorem Elem.of_rd {w : World} {A : Option Addr} {c : Nat} {p : List Int} (row : Option Nat) (hr : Rd .u8 w A p.length c p) (h : ∀ ad, A = some ad → ad.block < w.heap.size → some ad.block ≠ row) : Elem w row (.slice A p.length c) p :=
  ⟨A, c, rfl, hr, fun h0 ad ea => h ad ea (by subst ea; exact rd_lt hr h0)⟩
theorem Elem.mk' {w : World} {A : Option Addr} {n c : Nat} {p : List Int} {row : Option Nat} (hr : Rd .u8 w A n c p) (h : 0 < n → ∀ ad, A = some ad → some ad.block ≠ row) : Elem w row (.slice A n c) p := by
  have := hr.len
  subst this
  exact ⟨A, c, rfl, hr, h⟩
theorem own_apart {w1 : World} {B n m c : Nat} {A : Option Addr} {x : List Value} {row : Option Nat} (h : OwnAt w1 B (.slice A n c) m x) (hrow : ∀ k, row = some k → k < B) : ∀ ad, A = some ad → some ad.block ≠ row := by
  rintro ad rfl e
  have h1 := (h.lt ad.block rfl).1
  have h2 := hrow _ e.symm
  omega
theorem old_apart {w : World} {n c : Nat} {A : Option Addr} {x : List Int} {row : Option Nat} (h : Rd .u8 w A n c x) (hrow : ∀ k, row = some k → w.heap.size ≤ k) : 0 < n → ∀ ad, A = some ad → some ad.block ≠ row := by
  rintro h0 ad rfl e
  have h1 := rd_lt h h0
  have h2 := hrow _ e.symm
  omega
theorem Elem.newrow {w W : World} {row row' : Option Nat} {v : Value} {p : List Int} (h : Elem w row v p) (hb : Below w.heap.size w W) (hrow : ∀ k, row' = some k → w.heap.size ≤ k) : Elem W row' v p := by
  obtain ⟨A, c, e, hr, _⟩ := h
  exact ⟨A, c, e, hr.below hb, fun h0 => old_apart hr hrow h0⟩
structure Parts (w : World) (base : Nat) (v : Value) (n : Nat) (L : List Value) (ps : List (List Int)) : Prop where
  len : ps.length = n
  own : OwnAt w base v n L
  each : ∀ j, j < n → ∃ u, L[j]? = some u ∧ Elem w v.ownBlock u (nthP ps j)
theorem Parts.nil (w : World) (base : Nat) : Parts w base (.slice none 0 0) 0 [] [] := ⟨rfl, OwnAt.nil _ _, fun j hj => by omega⟩
theorem Parts.below {w w' : World} {base : Nat} {v : Value} {n : Nat} {L : List Value} {ps : List (List Int)} (h : Parts w base v n L ps) (hb : Below w.heap.size w w') : Parts w' base v n L ps :=
  ⟨h.len, h.own.below hb, fun j hj => by
    obtain ⟨u, e, he⟩ := h.each j hj
    exact ⟨u, e, he.below hb⟩⟩
theorem nthP_left (ps qs : List (List Int)) (j : Nat) (h : j < ps.length) : nthP (ps ++ qs) j = nthP ps j := by
  simp [nthP, List.getD_eq_getElem?_getD, List.getElem?_append_left h]
theorem nthP_right (ps qs : List (List Int)) (j : Nat) (h : ps.length ≤ j) : nthP (ps ++ qs) j = nthP qs (j - ps.length) := by
  simp [nthP, List.getD_eq_getElem?_getD, List.getElem?_append_right h]
/-- some more elements -/
theorem Parts.app {w w' : World} {base : Nat} {v v' : Value} {n m : Nat} {L vs : List Value} {ps qs : List (List Int)} (h : Parts w base v n L ps) (hq : qs.length = m)
    (hv : ∀ j, j < m → ∃ u, vs[j]? = some u ∧ Elem w v.ownBlock u (nthP qs j)) (hown : OwnAt w' base v' (n + m) (L ++ vs)) (hg : w.grownBy w' v.ownBlock) (hat : v'.ownBlock = v.ownBlock ∨ v'.ownBlock = some w.heap.size) :
    Parts w' base v' (n + m) (L ++ vs) (ps ++ qs) := by
  have hL : L.length = n := h.own.1
  refine ⟨by rw [List.length_append, h.len, hq], hown, fun j hj => ?_⟩
  by_cases hjn : j < n
  · obtain ⟨u, e, he⟩ := h.each j hjn
    exact ⟨u, by rw [List.getElem?_append_left (by omega)]; exact e, by rw [nthP_left _ _ _ (by rw [h.len]; exact hjn)]; exact he.step hg hat⟩
  · obtain ⟨u, e, he⟩ := hv (j - n) (by omega)
    exact ⟨u, by rw [List.getElem?_append_right (by omega), hL]; exact e, by rw [nthP_right _ _ _ (by rw [h.len]; omega), h.len]; exact he.step hg hat⟩
theorem Parts.rdp {w : World} {base : Nat} {A : Option Addr} {c n : Nat} {L : List Value} {ps : List (List Int)} (h : Parts w base (.slice A n c) n L ps) : RdP w A n c ps :=
  rdp_of_own h.own h.len (own_caps h.own) fun j hj => by
    obtain ⟨u, e, Aj, cj, rfl, hr, _⟩ := h.each j hj
    exact ⟨Aj, cj, e, hr⟩
theorem Parts.src {w : World} {base : Nat} {A : Option Addr} {c n : Nat} {L : List Value} {ps : List (List Int)} (h : Parts w base (.slice A n c) n L ps) : Go.Proofs.Yteajblfkfmopfaa.Mem.Src w (.slice A n c) n 1 L :=
  Src.own h.own fun u hu => by
    obtain ⟨j, hj, rfl⟩ := List.mem_iff_getElem.1 hu
    obtain ⟨u, e, Aj, cj, rfl, hr, _⟩ := h.each j (by rw [← h.own.1]; exact hj)
    rw [List.getElem?_eq_getElem hj] at e
    injection e with e
    rw [e]; rfl
theorem own_rd_at {w : World} {base n c : Nat} {A : Option Addr} {x : List Int} (h : OwnAt w base (.slice A n c) n (x.map (Value.int .u8))) : Rd .u8 w A n c x := by
  obtain ⟨A', c', e, hr⟩ := OwnAt.rd h
  cases e
  exact hr
theorem Parts.newrow {w W : World} {base : Nat} {v : Value} {n : Nat} {L : List Value} {ps : List (List Int)} (h : Parts w base v n L ps) (hb : Below w.heap.size w W) (row' : Option Nat) (hrow : ∀ k, row' = some k → w.heap.size ≤ k) :
    ∀ j, j < n → ∃ u, L[j]? = some u ∧ Elem W row' u (nthP ps j) := fun j hj => by
  obtain ⟨u, e, he⟩ := h.each j hj
  exact ⟨u, e, he.newrow hb hrow⟩
theorem Parts.one {w : World} {B n c : Nat} {A : Option Addr} {x : List Int} {T : TypeId} (h : OwnAt w B (.slice A n c) n (x.map (Value.int .u8))) :
    Parts (w.alloc (.cells #[.slice A n c] T)) w.heap.size (.slice (some ⟨w.heap.size, 0, none⟩) 1 1) 1 [.slice A n c] [x] :=
  ⟨rfl, OwnAt.lit w T [.slice A n c] (by show 1 ≤ maxLen; decide), fun j hj => by
    obtain rfl : j = 0 := by omega
    refine ⟨_, rfl, Elem.below ?_ (below_alloc (Below.refl w.heap.size w) _)⟩
    refine Elem.mk' (own_rd_at h) fun _ ad ea e => ?_
    subst ea
    have h1 := (h.lt ad.block rfl).2
    injection e with e
    simp at e
    omega⟩
end Go.Proofs.Yteajblfkfmopfaa.Parts
namespace Go.Proofs.Yteajblfkfmopfaa.BytesEq
set_option linter.unusedVariables false
set_option linter.unusedSimpArgs false
open Go Go.RowKit Go.Proofs.Yteajblfkfmopfaa.Mem

theorem str_inj (x y : List Int) (hx : Byte x) (hy : Byte y) (h : strOfNums x = strOfNums y) : x = y := by
  have h1 : (strOfNums x).data = (strOfNums y).data := by rw [h]
  have h2 : x.map (fun n => UInt8.ofNat n.toNat) = y.map (fun n => UInt8.ofNat n.toNat) := by
    simpa [strOfNums] using h1
  have hl : x.length = y.length := by simpa using congrArg List.length h2
  refine List.ext_getElem hl fun i h3 h4 => ?_
  have h5 : (x.map (fun n => UInt8.ofNat n.toNat))[i]'(by simpa using h3) = (y.map (fun n => UInt8.ofNat n.toNat))[i]'(by simpa using h4) := by simp only [h2]
  simp only [List.getElem_map] at h5
  have a1 := hx _ (List.getElem_mem h3)
  have a2 := hy _ (List.getElem_mem h4)
  have h6 := congrArg UInt8.toNat h5
  simp at h6
  omega
/-- bytes as a text -/
theorem run_str {w : World} {A : Option Addr} {n c : Nat} {x : List Int} (h : Rd .u8 w A n c x) : (convert 37 9 (.slice A n c)).run Try.prog w = .ok (.string (strOfNums x)) w := by
  rcases A with _ | ⟨b, off, z⟩
  · have h0 : n = 0 := by
      rcases Nat.eq_zero_or_pos n with h1 | h1
      · exact h1
      · obtain ⟨ad, e, _⟩ := h.cells h1; cases e
    subst h0
    obtain rfl : x = [] := List.eq_nil_of_length_eq_zero h.len
    exact run_convert_bytes_nil w 37 5 Try.underlying37 Try.underlying5 0 c 9 Try.underlying9
  · have hl : (loadCells ⟨b, off, z⟩ n).run Try.prog w = .ok (x.map (Value.int .u8)).toArray w := by
      have := run_loadCells_list (P := Try.prog) w ⟨b, off, z⟩ (x.map (Value.int .u8)) (fun j v hv => by
        have hj : j < x.length := by
          rcases Nat.lt_or_ge j x.length with h' | h'
          · exact h'
          · rw [List.getElem?_eq_none (by rw [List.length_map]; exact h')] at hv; cases hv
        obtain ⟨ad, e, hc⟩ := h.at j (by rw [← h.len]; exact hj)
        cases e
        rw [hc]
        rw [List.getElem?_map, List.getElem?_eq_getElem hj] at hv
        simp only [Option.map_some, Option.some.injEq] at hv
        subst hv
        rw [nth, List.getD_eq_getElem?_getD, List.getElem?_eq_getElem hj]
        rfl)
      simpa [h.len] using this
    rw [run_convert_bytes_string w 37 9 5 _ n c Try.underlying37 Try.underlying5 Try.underlying9, run_bytesToString w _ n c x hl, foldl_push_bytes]
    simp [strOfNums, ByteArray.empty, ByteArray.emptyWithCapacity]
    rfl
set_option maxHeartbeats 1000000 in
set_option maxRecDepth 100000 in
theorem any (x y : List Int) (hx : Byte x) (hy : Byte y) (A B : Option Addr) (n c m d : Nat) (w : World) (h0 : Rd .u8 w A n c x) (h1 : Rd .u8 w B m d y) :
    Calls Try.prog 119 #[.slice A n c, .slice B m d] w fun e w' => e = .returned (.bool (decide (x = y))) ∧ Below w.heap.size w w' := by
  have r0 := run_str h0
  have r1 := run_str h1
  have r2 := run_str h0.drew
  have r3 := run_str h1.drew
  obtain ⟨S, hS⟩ : ∃ S, S = strOfNums x := ⟨_, rfl⟩
  obtain ⟨R, hR⟩ : ∃ R, R = strOfNums y := ⟨_, rfl⟩
  have HE := As.mk (show (S = R) ↔ x = y from ⟨fun h => str_inj x y hx hy (by rw [← hS, ← hR]; exact h), fun h => by rw [hS, hR, h]⟩)
  rw [← hS] at r0 r2
  rw [← hR] at r1 r3
  clear hS hR h0 h1
  go_enter Try.func119, Try.ntmps119
  go_wp2
  go_ret
  refine ⟨?_, Below.refl _ _⟩
  have h : (S.toList == R.toList) = decide (x = y) := by
    by_cases e : x = y
    · rw [HE.out.2 e, decide_eq_true e]; simp
    · rw [decide_eq_false e, beq_eq_false_iff_ne]
      intro h
      rw [ByteArray.toList_eq, ByteArray.toList_eq] at h
      refine e (HE.out.1 ?_)
      cases S; cases R
      congr 1
      exact Array.toList_inj.1 h
  rw [← h]
  rfl
end Go.Proofs.Yteajblfkfmopfaa.BytesEq
