/- hmac.Chain: tags, one out of the other. -/
import Derived.Test.YtpijkibhjklkoaaHmacKeys
import Derived.Test.YtpijkibhjklkoaaParts
import Derived.Great.BuildSlice
namespace Go.Proofs.Ytpijkibhjklkoaa.Chain
set_option linter.unusedVariables false
set_option linter.unusedSimpArgs false
open Go Go.RowKit Go.Proofs.Ytpijkibhjklkoaa.Mem Go.Proofs.Ytpijkibhjklkoaa.Put32 Go.Proofs.Ytpijkibhjklkoaa.Pad Go.Proofs.Ytpijkibhjklkoaa.Sum Go.Proofs.Ytpijkibhjklkoaa.RefWith Go.Proofs.Ytpijkibhjklkoaa.RefSum Go.Proofs.Ytpijkibhjklkoaa.ShaAwake Go.Proofs.Ytpijkibhjklkoaa.ShaSums Go.Proofs.Ytpijkibhjklkoaa.ShaParts Go.Proofs.Ytpijkibhjklkoaa.Stretch Go.Proofs.Ytpijkibhjklkoaa.Hmac Go.Proofs.Ytpijkibhjklkoaa.HmacKeys Go.Proofs.Ytpijkibhjklkoaa.Parts

/-- one link -/
def link (key t p : List Int) : List Int := tagB key (t ++ (bytes8 p.length ++ p))
/-- the last tag behind items -/
def lastB (key : List Int) : List Int → List (List Int) → List Int
  | t, [] => t
  | t, p :: ps => lastB key (link key t p) ps
/-- all tags -/
def chainB (key : List Int) : List Int → List (List Int) → List (List Int)
  | _, [] => []
  | t, p :: ps => link key t p :: chainB key (link key t p) ps
theorem link_len (key t p : List Int) : (link key t p).length = 32 := tagB_len _ _
theorem link_byte (key t p : List Int) : Byte (link key t p) := sumB_byte _
theorem lastB_snoc (key : List Int) : ∀ (ps : List (List Int)) (t p : List Int), lastB key t (ps ++ [p]) = link key (lastB key t ps) p
  | [], _, _ => rfl
  | q :: ps, t, p => lastB_snoc key ps (link key t q) p
theorem chainB_snoc (key : List Int) : ∀ (ps : List (List Int)) (t p : List Int), chainB key t (ps ++ [p]) = chainB key t ps ++ [link key (lastB key t ps) p]
  | [], _, _ => rfl
  | q :: ps, t, p => by
    show _ :: chainB key _ (ps ++ [p]) = _ :: (chainB key _ ps ++ [_])
    rw [chainB_snoc key ps]
    rfl
theorem chainB_app (key : List Int) : ∀ (ps qs : List (List Int)) (t : List Int), chainB key t (ps ++ qs) = chainB key t ps ++ chainB key (lastB key t ps) qs
  | [], _, _ => rfl
  | q :: ps, qs, t => by
    show _ :: chainB key _ (ps ++ qs) = _ :: (chainB key _ ps ++ _)
    rw [chainB_app key ps]
    rfl
theorem chainB_len (key : List Int) : ∀ (ps : List (List Int)) (t : List Int), (chainB key t ps).length = ps.length
  | [], _ => rfl
  | q :: ps, t => congrArg (· + 1) (chainB_len key ps _)
theorem lastB_len (key : List Int) : ∀ (ps : List (List Int)) (t : List Int), t.length = 32 → (lastB key t ps).length = 32
  | [], _, h => h
  | q :: ps, t, _ => lastB_len key ps _ (link_len _ _ _)
theorem lastB_byte (key : List Int) : ∀ (ps : List (List Int)) (t : List Int), Byte t → Byte (lastB key t ps)
  | [], _, h => h
  | q :: ps, t, _ => lastB_byte key ps _ (link_byte _ _ _)
theorem chainB_all (key : List Int) : ∀ (ps : List (List Int)) (t : List Int), ∀ u ∈ chainB key t ps, u.length = 32 ∧ Byte u
  | [], _, u, h => by cases h
  | q :: ps, t, u, h => by
    rcases List.mem_cons.1 h with rfl | h
    · exact ⟨link_len _ _ _, link_byte _ _ _⟩
    · exact chainB_all key ps _ u h
/-- a row of arrays, cell by cell -/
def flat (l : List (List Int)) : List Value := l.flatten.map (Value.int .u8)
theorem flat_snoc (l : List (List Int)) (u : List Int) : flat (l ++ [u]) = flat l ++ u.map (Value.int .u8) := by
  unfold flat
  rw [List.flatten_append, List.map_append, List.flatten_cons, List.flatten_nil, List.append_nil]
theorem infoA : (Try.prog.info? 44).map (fun i => (i.zero, i.size, i.bytes)) = some (some (.agg Z32), 32, 32) := by kernel_rfl
theorem z32_cells : (Value.agg Z32).cells.size = 32 := by kernel_rfl
theorem take_snoc (ps : List (List Int)) (i : Nat) (h : i < ps.length) : ps.take (i + 1) = ps.take i ++ [nthP ps i] := by
  rw [List.take_succ_eq_append_getElem h, nthP, List.getD_eq_getElem?_getD, List.getElem?_eq_getElem h]
  rfl
/-- an array's cells in a block of their own, as one element -/
theorem src_arr {w : World} {b : Nat} {T : TypeId} {x : List Int} (h : w.heap[b]? = some (.cells (bytesA x) T (0, 0))) (hx : x.length = 32) : Go.Proofs.Ytpijkibhjklkoaa.Mem.Src w (.slice (some ⟨b, 0, none⟩) 1 1) 1 32 (x.map (Value.int .u8)) :=
  ⟨by rw [List.length_map, hx], ints_oneCell .u8 x, .inl ⟨_, _, rfl, fun j v hv => by
    rw [Addr.add_lit, Nat.zero_add, cell_of_row w b j _ _ _ h, bytesA, List.getElem?_toArray]
    exact hv⟩⟩

theorem tag_link (key t p : List Int) (hk : Byte key) (ht : Byte t) (hp : Byte p) (lt : t.length = 32) (m : Nat) (hm : m = p.length) (hmm : m ≤ 1000000) (b : Nat) (A : Option Addr) (n c : Nat) (Aj : Option Addr) (cj : Nat) (A2 : Option Addr) (c2 : Nat) (wr w2 : World) (hn : n ≤ 1099511627776)
    (h0 : Rd .u8 wr A n c key) (hz : wr.heap[b]? = some (.cells (bytesA t) 44 (0, 0))) (hr : Rd .u8 wr Aj m cj p) (hb : Below wr.heap.size wr w2) (h2 : Rd .u8 w2 A2 8 c2 (bytes8 m)) :
    Calls Try.prog 43 #[.slice A n c, .slice (some ⟨w2.heap.size, 0, none⟩) 3 3] (w2.alloc (.cells #[.slice (some ⟨b, 0, none⟩) 32 32, .slice A2 8 c2, .slice Aj m cj] 22)) fun e w' => e = .returned (.agg (bytesA (link key t p))) ∧ Below wr.heap.size wr w' := by
  have hba := below_alloc hb (.cells #[.slice (some ⟨b, 0, none⟩) 32 32, .slice A2 8 c2, .slice Aj m cj] 22)
  have hbb := below_alloc (Below.refl w2.heap.size w2) (.cells #[.slice (some ⟨b, 0, none⟩) 32 32, .slice A2 8 c2, .slice Aj m cj] 22)
  have hrt := rd_block hz lt (by decide)
  have hq := rdp_three _ w2.heap.size 22 t (bytes8 m) p _ _ _ _ _ _ _ _ _ (heap_alloc_new w2 (.cells #[.slice (some ⟨b, 0, none⟩) 32 32, .slice A2 8 c2, .slice Aj m cj] 22)) (hrt.below hba) (h2.below hbb) (hr.below hba)
  refine (tag_any key hk A n c [t, bytes8 m, p] (by
    intro q hq y hy
    simp only [List.mem_cons, List.not_mem_nil, or_false] at hq
    rcases hq with rfl | rfl | rfl
    · exact ht y hy
    · exact bytes8_byte m y hy
    · exact hp y hy) _ 3 3 _ hn (by decide) (by have := bytes8_len m; simp [lt]; omega) (h0.below hba) hq (link key t p) (by rw [link, hm]; simp)).mono ?_
  rintro e w' ⟨rfl, hb'⟩
  exact ⟨rfl, below_step hba hb'⟩

theorem there_x {W : World} {b : Nat} {T : TypeId} {x : List Int} (h : W.heap[b]? = some (.cells (bytesA x) T (0, 0))) (hx : x.length = 32) : W.there b 0 32 := fun j hj => by
  rw [Nat.zero_add]
  refine ⟨?_, frozen_of_row W b j _ _ h⟩
  rw [cell_of_row W b j _ _ _ h]
  have : j < (bytesA x).size := by rw [bytesA_size, hx]; exact hj
  simp [this]
theorem set_x {W : World} {b : Nat} {T : TypeId} {x : List Int} (h : W.heap[b]? = some (.cells (bytesA x) T (0, 0))) (hx : x.length = 32) (L : List Value) (hL : L.length = 32) : (W.setCells b 0 L).heap[b]? = some (.cells L.toArray T (0, 0)) := by
  obtain ⟨cur, h1, h2, h3⟩ := setCells_heap b L 0 W _ T h (by rw [bytesA_size, hx, hL]; exact Nat.le_refl _)
  rw [h1]
  congr 2
  refine Array.ext_getElem? fun i => ?_
  rw [h3 i]
  by_cases hi : i < 32
  · rw [if_pos ⟨Nat.zero_le _, by omega⟩, List.getElem?_toArray]; rfl
  · rw [if_neg (by omega), Array.getElem?_eq_none (by rw [bytesA_size, hx]; omega), Array.getElem?_eq_none (by rw [List.size_toArray]; omega)]
theorem grown_setCells {w w1 : World} (h : Below w.heap.size w w1) (b o : Nat) (L : List Value) : w.grownBy (w1.setCells b o L) (some b) := by
  obtain ⟨h1, h2, h3, h4⟩ := setCells_rest b L o w1
  exact ⟨h1.trans h.os, h2.trans h.tape, h3.trans h.output, by rw [h4]; exact h.size, fun k hk hne => (setCells_other b L o w1 k (fun e => hne (by rw [e]))).trans (h.block k hk)⟩

/-- a slice literal of one array -/
theorem wpList_build_one {P : Program} {ops : Array Oper} {rest : List Oper} {o : Oper} {a : Act} {w : World} {Q : Exit → Act → World → Prop} (hg : o.guard = none) (t e : TypeId) (x : Operand) (ho : o.op = .buildSlice t 1 #[(0, x)])
    (cs : Array Value) (n : Nat) (z : Value) (bytes : Nat) (hu : P.underlying t = some (.slice e)) (hinfo : (P.info? e).map (fun i => (i.zero, i.size, i.bytes)) = some (some z, n, bytes)) (hn : 0 < n ∧ n ≤ 16777216)
    (hx : a.eval x = .agg cs) (hc : cs.size = n)
    (h : wpList P ops Q rest (a.put o.dst (.slice (some ⟨w.heap.size, 0, none⟩) 1 1)) (w.alloc (.cells cs e))) : wpList P ops Q (o :: rest) a w := by
  obtain ⟨i, hi, hz, h1, h2⟩ := info_parts hinfo
  refine wpList_buildSlice hg t e 1 #[(0, x)] ho cs i z hu hi hz (by rw [h1]; omega) (by rw [h1]; omega) ?_ h
  rw [h1]
  have := Great.fill_whole (s := n) hn.1 [.agg cs] ((Array.range (1 * n)).map (z.cells[· % z.cells.size]!)) (by intro v hv; simp at hv; subst hv; exact hc) (by simp)
  simp only [List.map_toArray, List.map_cons, List.map_nil, hx]
  refine this.trans ?_
  simp [Value.cells]
set_option maxHeartbeats 2000000 in
set_option maxRecDepth 100000 in
theorem chain_any (key : List Int) (hk : Byte key) (t : List Int) (ht : t.length = 32) (hbt : Byte t) (ps : List (List Int)) (hps : ∀ p ∈ ps, Byte p) (hpl : ∀ p ∈ ps, p.length ≤ 1000000) (A : Option Addr) (n c : Nat) (P : Option Addr) (np cp : Nat) (w : World) (hn : n ≤ 1099511627776) (hnp : np ≤ 1000000) (h0 : Rd .u8 w A n c key) (h1 : RdP w P np cp ps) :
    Calls Try.prog 45 #[.slice A n c, .agg (bytesA t), .slice P np cp] w fun e w' => ∃ A' c', e = .returned (.slice A' np c') ∧ Below w.heap.size w w' ∧ w'.ownsRow w.heap.size 44 32 (.slice A' np c') np (flat (chainB key t ps)) := by
  have HK := As.mk hk
  have HPS := As.mk hps
  have HPL := As.mk hpl
  have HN := As.mk hn
  have HNP := As.mk hnp
  have HB0 := As.mk (below_alloc (Below.refl w.heap.size w) (.cells (bytesA t) 44))
  have HZ0 := As.mk (heap_alloc_new w (.cells (bytesA t) 44))
  have HLT := As.mk ht
  have HBT := As.mk hbt
  have vt : (bytesA t).size = 32 := by rw [bytesA_size]; exact ht
  have H0 := As.mk h0
  have H1 := As.mk h1
  clear hk hps hpl hn hnp h0 h1 ht hbt
  go_enter Try.func45, Try.ntmps45
  go_wp2
  generalize w.alloc _ = w0 at *
  go_loopg [7, 12] np (fun kq v7 v12 wr => ∃ (i : Nat) (A' : Option Addr) (c' : Nat), i + kq = np ∧ v7 = .slice A' i c' ∧ v12 = .int .i64 i ∧ As (wr.heap[w.heap.size]? = some (.cells (bytesA (lastB key t (ps.take i))) 44 (0, 0))) ∧ As (wr.ownsRow (w.heap.size + 1) 44 32 (.slice A' i c') i (flat (chainB key t (ps.take i)))) ∧ As (Below w.heap.size w wr))
  case atStart => exact ⟨0, none, 0, by omega, rfl, rfl, HZ0, ⟨⟨rfl, .inl ⟨rfl, rfl⟩⟩⟩, HB0⟩
  case round =>
    clear HZ0 HB0
    obtain ⟨i, A', c', hi, rfl, rfl, HZ, HO, HB⟩ := hrel
    have HI := As.mk hi
    clear hi
    by_cases hlt : i < np
    · have c0 : decide ((i : Int) < (np : Int)) = true := decide_eq_true (by omega)
      have c1 : decide (i < np) = true := decide_eq_true hlt
      have hw : wrap64 ((i : Int) + 1) = ((i + 1 : Nat) : Int) := wrap_up (by have := HNP.out; omega)
      obtain ⟨ad, Aj, cj, ea, hx, hr⟩ := (H1.out.below HB.out).at i hlt
      cases ea
      have hpl := H1.out.len
      obtain ⟨t', ht'⟩ : ∃ t', t' = lastB key t (ps.take i) := ⟨_, rfl⟩
      obtain ⟨p, hp⟩ : ∃ p, p = nthP ps i := ⟨_, rfl⟩
      obtain ⟨m, hm⟩ : ∃ m, m = p.length := ⟨_, rfl⟩
      have hmem : p ∈ ps := by rw [hp, nthP, List.getD_eq_getElem?_getD, List.getElem?_eq_getElem (by omega)]; exact List.getElem_mem _
      have HMM := As.mk (show m ≤ 1000000 by rw [hm]; exact HPL.out _ hmem)
      have HPB := As.mk (HPS.out _ hmem)
      rw [← hp, ← hm] at hx hr
      rw [← ht'] at HZ
      have HRX := As.mk hr
      have LT := As.mk (show t'.length = 32 by rw [ht']; exact lastB_len _ _ _ HLT.out)
      have BT := As.mk (show Byte t' by rw [ht']; exact lastB_byte _ _ _ HBT.out)
      have HS1 := As.mk (show chainB key t (ps.take (i + 1)) = chainB key t (ps.take i) ++ [link key t' p] by rw [take_snoc ps i (by omega), chainB_snoc, ht', hp])
      have HS2 := As.mk (show lastB key t (ps.take (i + 1)) = link key t' p by rw [take_snoc ps i (by omega), lastB_snoc, ht', hp])
      have HM := As.mk hm
      have e9 : IntKind.u64.wrap (m : Int) = (m : Int) := by rw [IntKind.wrap_u64]; have := HMM.out; omega
      clear hr hpl ht' hp hm hmem
      go_wp2
      refine wp_region_held_drew (S := fun _ : World => True) (by kernel_rfl) trivial (fun hHeld => ?_)
      refine wpAnyH_take (i := 0) (v := .slice A n c) rfl (by kernel_rfl) (by kernel_rfl) (by kernel_rfl) (fun _ _ _ h => h) (Or.inl ⟨by rfl, fun W hW => by go_simp⟩) hHeld ?_
      try simp only [Act.put, List.setIfInBounds_toArray, List.set_cons_zero, List.set_cons_succ, List.getElem_toArray, List.getElem_cons_zero, List.getElem_cons_succ]
      refine wpAnyH_take (i := 1) (v := .slice (some ⟨w.heap.size, 0, none⟩) 32 32) rfl (by kernel_rfl) (by kernel_rfl) (by kernel_rfl) (fun _ _ _ h => h) (Or.inl ⟨by rfl, fun W hW => by go_simp⟩) hHeld ?_
      try simp only [Act.put, List.setIfInBounds_toArray, List.set_cons_zero, List.set_cons_succ, List.getElem_toArray, List.getElem_cons_zero, List.getElem_cons_succ]
      refine wpAnyH_take (i := 2) (v := .slice Aj m cj) rfl (by kernel_rfl) (by kernel_rfl) (by kernel_rfl) (fun _ _ _ h => h) (Or.inl ⟨by rfl, fun W hW => by go_simp⟩) hHeld ?_
      try simp only [Act.put, List.setIfInBounds_toArray, List.set_cons_zero, List.set_cons_succ, List.getElem_toArray, List.getElem_cons_zero, List.getElem_cons_succ]
      refine wpAnyH_take (i := 3) (v := .int .i64 (m : Int)) rfl (by kernel_rfl) (by kernel_rfl) (by kernel_rfl) (fun _ _ _ h => h) (Or.inl ⟨by rfl, fun W hW => by go_simp⟩) hHeld ?_
      try simp only [Act.put, List.setIfInBounds_toArray, List.set_cons_zero, List.set_cons_succ, List.getElem_toArray, List.getElem_cons_zero, List.getElem_cons_succ]
      refine wpAnyH_take (i := 4) (v := .int .u64 (m : Int)) rfl (by kernel_rfl) (by kernel_rfl) (by kernel_rfl) (fun _ _ _ h => h) (Or.inl ⟨by rfl, fun W hW => by go_simp⟩) hHeld ?_
      try simp only [Act.put, List.setIfInBounds_toArray, List.set_cons_zero, List.set_cons_succ, List.getElem_toArray, List.getElem_cons_zero, List.getElem_cons_succ]
      refine wpAnyH_take (i := 6) (v := .slice Aj m cj) rfl (by kernel_rfl) (by kernel_rfl) (by kernel_rfl) (fun _ _ _ h => h) (Or.inl ⟨by rfl, fun W hW => by go_simp⟩) hHeld ?_
      try simp only [Act.put, List.setIfInBounds_toArray, List.set_cons_zero, List.set_cons_succ, List.getElem_toArray, List.getElem_cons_zero, List.getElem_cons_succ]
      refine wpAnyH_ready (rs := [5]) (by kernel_rfl) (by simp) (AllReadyH.cons rfl (fun K' hK => ?_) AllReadyH.nil)
      go_simp
      refine (put64 m (by have := HMM.out; omega) _).mono ?_
      rintro e w2 ⟨A2, c2, rfl, hb2, ho2⟩
      have HB2 := As.mk (below_step (below_drewN (Below.refl wr.heap.size wr) 1) hb2)
      have HR2 := As.mk (own_rd_at ho2)
      clear hb2 ho2
      refine hK.out _ _ trivial (fun hHeld => ?_)
      clear hK
      try simp only [Act.put, List.setIfInBounds_toArray, List.set_cons_zero, List.set_cons_succ, List.getElem_toArray, List.getElem_cons_zero, List.getElem_cons_succ]
      refine wpAnyH_ready (rs := [7]) (by kernel_rfl) (by simp) (AllReadyH.cons rfl (fun K' hK => ?_) AllReadyH.nil)
      go_simp
      refine hK.out _ _ trivial (fun hHeld => ?_)
      clear hK
      try simp only [Act.put, List.setIfInBounds_toArray, List.set_cons_zero, List.set_cons_succ, List.getElem_toArray, List.getElem_cons_zero, List.getElem_cons_succ]
      refine wpAnyH_ready (rs := [8]) (by kernel_rfl) (by simp) (AllReadyH.cons rfl (fun K' hK => ?_) AllReadyH.nil)
      go_simp
      refine (tag_link key t' p HK.out BT.out HPB.out LT.out m HM.out HMM.out w.heap.size A n c Aj cj A2 c2 wr w2 HN.out (H0.out.below HB.out) HZ.out HRX.out HB2.out HR2.out).mono ?_
      rintro e w3 ⟨rfl, hb3⟩
      have HB3 := As.mk hb3
      clear hb3
      refine hK.out _ _ trivial (fun hHeld => ?_)
      clear hK
      try simp only [Act.put, List.setIfInBounds_toArray, List.set_cons_zero, List.set_cons_succ, List.getElem_toArray, List.getElem_cons_zero, List.getElem_cons_succ]
      have HZ3 := As.mk ((HB3.out.block w.heap.size (Array.getElem?_eq_some_iff.1 HZ.out).1).trans HZ.out)
      obtain ⟨T, hT⟩ : ∃ T, T = link key t' p := ⟨_, rfl⟩
      obtain ⟨L, hL⟩ : ∃ L : List Value, L = T.map (Value.int .u8) := ⟨_, rfl⟩
      have lT : T.length = 32 := by rw [hT]; exact link_len _ _ _
      have IL : As ((Try.prog.info? 44).map (·.size) = some L.length) := ⟨by rw [hL, List.length_map, lT]; kernel_rfl⟩
      have OL : As (∀ v ∈ L, v.oneCell' = true) := ⟨by rw [hL]; exact ints_oneCell .u8 _⟩
      have EL : As (bytesA T = L.toArray) := ⟨by rw [hL]; rfl⟩
      have LLT := As.mk lT
      have LL : As (L.length = 32) := ⟨by rw [hL, List.length_map, lT]⟩
      have ZL : As (L.toArray.size = 32) := ⟨by simpa using LL.out⟩
      rw [← hT] at HS1 HS2 ⊢
      rw [EL.out]
      have HL := As.mk hL
      clear hL hT lT
      refine wpAnyH_ready (rs := [9]) (by kernel_rfl) (by simp) (AllReadyH.cons rfl (fun K' hK => ?_) AllReadyH.nil)
      rw [if_pos (by rfl)]
      refine wp_store_mid _ _ _ rfl _ _ L.toArray rfl rfl (by rw [ZL.out]; exact there_x HZ3.out LT.out) (by rw [List.size_toArray]; exact IL.out) (all_oneCell_toArray OL.out) ?_
      refine hK.out _ _ trivial (fun hHeld => ?_)
      clear hK
      try simp only [Act.put, List.setIfInBounds_toArray, List.set_cons_zero, List.set_cons_succ, List.getElem_toArray, List.getElem_cons_zero, List.getElem_cons_succ]
      refine wpAnyH_done (by kernel_rfl) ?_ _
      have hz4 := set_x HZ3.out LT.out L LL.out
      have HB4 := As.mk (below_setCells (below_step HB.out HB3.out) (Nat.le_refl _) 0 L)
      have HO4 := As.mk (own_grown_some HO.out (grown_setCells HB3.out w.heap.size 0 L) (Nat.lt_succ_self _))
      rw [← EL.out] at hz4
      have HZ4 := As.mk hz4
      generalize w3.setCells w.heap.size 0 L = w4 at *
      clear hz4 HB HB2 HB3 HZ HZ3 HR2 hHeld HRX
      go_wp2_with (first
        | (refine wpList_load_row rfl 44 (.tmp 4) rfl w.heap.size rfl 44 (bytesA T) (0, 0) _ HZ4.out uArr32 rfl (by rw [bytesA_size, LLT.out]; kernel_rfl) ?_)
        | (refine wpList_build_one rfl 67 44 (.tmp 26) rfl (bytesA T) 32 _ _ Try.underlying67 infoA (by decide) rfl (by rw [bytesA_size, LLT.out]) ?_; refine As.out ?_))
      refine As.mk ?_
      have hsrc := src_arr (heap_alloc_new w4 (.cells (bytesA T) 44)) LLT.out
      have hba := below_alloc (Below.refl w4.heap.size w4) (.cells (bytesA T) 44)
      have HB5 := As.mk (below_step HB4.out hba)
      have HO5 := As.mk (own_below HO4.out hba)
      have HZ5 := As.mk ((hba.block w.heap.size (Array.getElem?_eq_some_iff.1 HZ4.out).1).trans HZ4.out)
      have HW5 := As.mk (Array.getElem?_eq_some_iff.1 HZ5.out).1
      have HSR := As.mk hsrc
      clear hsrc hba HB4 HO4 HZ4
      generalize w4.alloc _ = w5 at *
      generalize w4.heap.size = b4 at *
      go_wp2_with (at_builtin; refine wpList_app rfl (.tmp 25) (.tmp 27) 67 rfl (w.heap.size + 1) 44 (.agg Z32) 32 32 Try.underlying67 infoA z32_cells (by decide) _ i _ rfl HO5.out _ 1 _ rfl HSR.out ?c1 ?c2 ?c3 (B := w.heap.size) (w0 := w) HB5.out (Nat.le_succ _) ?_; (case c1 => have := HI.out; have := HNP.out; unfold maxLen; omega); (case c2 => have := HI.out; have := HNP.out; omega); (case c3 => exact HW5.out); intro v6 w6 hown hg hat hb; obtain ⟨A6, c6, rfl⟩ := own_slice hown; have HO6 := As.mk hown; have HB6 := As.mk hb; have HZ6 := As.mk ((hg.block w.heap.size HW5.out (fun e => by have := (HO5.out.lt _ e.symm).1; omega)).trans HZ5.out); clear hown hg hat hb)
      go_roundg (np - (i + 1))
      case measure => have := HI.out; omega
      case rel =>
        refine ⟨i + 1, A6, c6, by have := HI.out; omega, rfl, by go_num, ?_, ?_, HB6⟩
        · rw [HS2.out]; exact HZ6
        · rw [HS1.out, flat_snoc]; exact HO6
    · have c0 : decide ((i : Int) < (np : Int)) = false := decide_eq_false (by omega)
      have c1 : decide (i < np) = false := decide_eq_false hlt
      obtain rfl : i = np := by have := HI.out; omega
      have hpl := H1.out.len
      rw [show ps.take i = ps by rw [← hpl, List.take_length]] at HO HZ
      clear hpl
      go_wp2
      go_ret
      exact ⟨A', c', rfl, HB.out, own_weaken HO.out (Nat.le_succ _)⟩
end Go.Proofs.Ytpijkibhjklkoaa.Chain
