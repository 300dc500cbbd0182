/- Images that may be left of writes: each of them is an image with some writes done, told by a number's bits. Images in a row of one's own; append in a round. -/
import Derived.Test.YteajblfkfmopfaaCrashAll
import Derived.Test.YteajblfkfmopfaaCrashLawD
import Derived.OwnWalkIn
import Derived.RangeFuncFrom
import Derived.RangeFuncBox
namespace Go.Proofs.Yteajblfkfmopfaa.LawCrash
set_option linter.unusedVariables false
set_option linter.unusedSimpArgs false
open Go Go.RowKit Go.Proofs.Yteajblfkfmopfaa.Mem Go.Proofs.Yteajblfkfmopfaa.Put32 Go.Proofs.Yteajblfkfmopfaa.Sum Go.Proofs.Yteajblfkfmopfaa.Hmac Go.Proofs.Yteajblfkfmopfaa.Parts Go.Proofs.Yteajblfkfmopfaa.Entries Go.Proofs.Yteajblfkfmopfaa.CrashApply

/-- a number out of bits, the lowest first -/
def numL : List Bool → Nat
  | [] => 0
  | b :: r => (if b = true then 1 else 0) + 2 * numL r
theorem numL_lt : ∀ l : List Bool, numL l < 2 ^ l.length
  | [] => by decide
  | b :: r => by
    have h := numL_lt r
    rw [numL, List.length_cons, Nat.pow_succ]
    split <;> omega
theorem numL_bit : ∀ (l : List Bool) (i : Nat), bitF (numL l) i = l.getD i false
  | [], i => by
    show decide (0 / 2 ^ i % 2 = 1) = false
    simp
  | b :: r, 0 => by
    show decide (((if b = true then 1 else 0) + 2 * numL r) / 2 ^ 0 % 2 = 1) = b
    cases b
    · exact decide_eq_false (by simp)
    · exact decide_eq_true (by simp)
  | b :: r, i + 1 => by
    have h := numL_bit r i
    show decide (((if b = true then 1 else 0) + 2 * numL r) / 2 ^ (i + 1) % 2 = 1) = r.getD i false
    rw [← h]
    unfold bitF
    rw [Nat.pow_succ', ← Nat.div_div_eq_div_mul, show ((if b = true then 1 else 0) + 2 * numL r) / 2 = numL r by split <;> omega]
theorem doneF_congr (f g : Nat → Bool) : ∀ (es : List (Int × List Int)) (i : Nat) (ps : List (List Int)), (∀ t, t < es.length → f (i + t) = g (i + t)) → doneF f i ps es = doneF g i ps es
  | [], _, _, _ => rfl
  | e :: r, i, ps, h => by
    rw [doneF, doneF, show f i = g i from h 0 (by simp)]
    refine doneF_congr f g r (i + 1) _ fun t ht => ?_
    have := h (t + 1) (by simpa using ht)
    rwa [show i + (t + 1) = i + 1 + t by omega] at this
/-- a row: all writes to it that are kept have one value, and it has that value or there is such a write -/
theorem doneF_to (keep : Nat → Bool) (j : Nat) (v : List Int) : ∀ (es : List (Int × List Int)) (i : Nat) (ps : List (List Int)), j < ps.length → (∀ e ∈ es, 0 ≤ e.1) →
    (∀ t, t < es.length → keep (i + t) = true → (nthE es t).1 = (j : Int) → (nthE es t).2 = v) → (nthP ps j = v ∨ ∃ t, t < es.length ∧ keep (i + t) = true ∧ (nthE es t).1 = (j : Int)) → nthP (doneF keep i ps es) j = v
  | [], i, ps, _, _, _, h => by
    rcases h with h | ⟨t, ht, _⟩
    · exact h
    · simp at ht
  | e :: r, i, ps, hj, hp, ha, ho => by
    have hsh : ∀ t, i + (t + 1) = i + 1 + t := fun t => by omega
    have hr : ∀ x ∈ r, 0 ≤ x.1 := fun x hx => hp x (List.mem_cons_of_mem _ hx)
    have ha' : ∀ t, t < r.length → keep (i + 1 + t) = true → (nthE r t).1 = (j : Int) → (nthE r t).2 = v := fun t ht hk h1 => ha (t + 1) (by simpa using ht) (by rw [hsh]; exact hk) h1
    have h0 := hp e (List.mem_cons_self ..)
    rw [doneF]
    refine doneF_to keep j v r (i + 1) _ (by split <;> simpa using hj) hr ha' ?_
    by_cases hk : keep i = true
    · rw [if_pos hk]
      by_cases he : e.1 = (j : Int)
      · refine .inl ?_
        rw [nthP_set _ _ _ _ (by omega), if_pos (by omega)]
        exact ha 0 (by simp) hk he
      · rcases ho with h | ⟨t, ht, h1, h2⟩
        · refine .inl ?_
          by_cases hl : e.1.toNat < ps.length
          · rw [nthP_set _ _ _ _ hl, if_neg (by omega)]
            exact h
          · rw [List.set_eq_of_length_le (by omega)]
            exact h
        · rcases t with _ | t
          · exact absurd h2 he
          · exact .inr ⟨t, by simpa using ht, by rw [← hsh]; exact h1, h2⟩
    · rw [if_neg hk]
      rcases ho with h | ⟨t, ht, h1, h2⟩
      · exact .inl h
      · rcases t with _ | t
        · exact absurd h1 hk
        · exact .inr ⟨t, by simpa using ht, by rw [← hsh]; exact h1, h2⟩
theorem nthE_mem {es : List (Int × List Int)} {t : Nat} (h : t < es.length) : nthE es t ∈ es := by
  unfold nthE
  rw [List.getD_eq_getElem?_getD, List.getElem?_eq_getElem h]
  exact List.getElem_mem _
theorem mem_nthE {es : List (Int × List Int)} {e : Int × List Int} (h : e ∈ es) : ∃ t, t < es.length ∧ nthE es t = e := by
  obtain ⟨t, ht, rfl⟩ := List.mem_iff_getElem.1 h
  exact ⟨t, ht, by unfold nthE; rw [List.getD_eq_getElem?_getD, List.getElem?_eq_getElem ht]; rfl⟩
theorem nthP_ext {a b : List (List Int)} (h : a.length = b.length) (hj : ∀ j, j < a.length → nthP a j = nthP b j) : a = b := by
  apply List.ext_getElem h
  intro j h1 h2
  have := hj j h1
  unfold nthP at this
  rwa [List.getD_eq_getElem?_getD, List.getElem?_eq_getElem h1, List.getD_eq_getElem?_getD, List.getElem?_eq_getElem h2] at this
theorem leftF_at {es : List (Int × List Int)} {ps ls : List (List Int)} : ∀ {n : Nat}, leftF es ps ls n = true → ∀ j, j < n → okF j (nthP ls j) (nthP ps j) es = true
  | 0, _, j, hj => by omega
  | n + 1, h, j, hj => by
    rw [leftF, Bool.and_eq_true] at h
    rcases Nat.lt_succ_iff_lt_or_eq.1 hj with h1 | rfl
    · exact leftF_at h.1 j h1
    · exact h.2
/-- the k-th outcome -/
def outN (ps : List (List Int)) (es : List (Int × List Int)) (k : Nat) : List (List Int) := doneF (bitF k) 0 ps es
theorem left_some (es : List (Int × List Int)) (ps ls : List (List Int)) (n : Nat) (hp : ps.length = n) (hl : ls.length = n) (he : ∀ e ∈ es, 0 ≤ e.1) (h : leftF es ps ls n = true) : ∃ k, k < 2 ^ es.length ∧ outN ps es k = ls := by
  obtain ⟨keep, hkeep⟩ : ∃ keep : Nat → Bool, keep = fun i => decide ((nthE es i).2 = nthP ls (nthE es i).1.toNat) := ⟨_, rfl⟩
  obtain ⟨l, hll⟩ : ∃ l, l = (List.range es.length).map keep := ⟨_, rfl⟩
  refine ⟨numL l, by have := numL_lt l; rwa [show l.length = es.length by rw [hll]; simp] at this, ?_⟩
  have hc : outN ps es (numL l) = doneF keep 0 ps es := by
    refine doneF_congr _ _ es 0 ps fun t ht => ?_
    rw [numL_bit, hll, List.getD_eq_getElem?_getD, Nat.zero_add, List.getElem?_map, List.getElem?_range ht]
    rfl
  rw [hc]
  refine nthP_ext (by rw [doneF_len, hp, hl]) fun j hj => ?_
  rw [doneF_len, hp] at hj
  refine doneF_to keep j (nthP ls j) es 0 ps (by omega) he (fun t ht hk h1 => ?_) ?_
  · rw [Nat.zero_add, hkeep, decide_eq_true_eq, h1] at hk
    exact hk
  · have h1 := leftF_at h j hj
    unfold okF at h1
    rw [Bool.or_eq_true, decide_eq_true_eq, List.any_eq_true] at h1
    rcases h1 with h1 | ⟨e, hm, h2⟩
    · exact .inl h1.symm
    · rw [Bool.and_eq_true, decide_eq_true_eq, decide_eq_true_eq] at h2
      obtain ⟨t, ht, rfl⟩ := mem_nthE hm
      refine .inr ⟨t, ht, ?_, h2.1⟩
      rw [Nat.zero_add, hkeep]
      refine decide_eq_true ?_
      rw [h2.1]
      exact h2.2.symm
/-- each once, the first ones first -/
def uniqF : List Img → List Img → List Img
  | acc, [] => acc
  | acc, x :: r => uniqF (if (acc.any fun y => decide (x = y)) = true then acc else acc ++ [x]) r
theorem uniqF_snoc : ∀ (l acc : List Img) (x : Img), uniqF acc (l ++ [x]) = if ((uniqF acc l).any fun y => decide (x = y)) = true then uniqF acc l else uniqF acc l ++ [x]
  | [], _, _ => rfl
  | y :: r, acc, x => uniqF_snoc r _ x
theorem uniqF_mem : ∀ (l acc : List Img) (x : Img), x ∈ uniqF acc l ↔ x ∈ acc ∨ x ∈ l
  | [], acc, x => by simp [uniqF]
  | y :: r, acc, x => by
    rw [uniqF, uniqF_mem r _ x]
    by_cases h : (acc.any fun z => decide (y = z)) = true
    · rw [if_pos h]
      obtain ⟨z, hz, h1⟩ := List.any_eq_true.1 h
      rw [decide_eq_true_eq] at h1
      subst h1
      constructor
      · rintro (h2 | h2)
        · exact .inl h2
        · exact .inr (List.mem_cons_of_mem _ h2)
      · rintro (h2 | h2)
        · exact .inl h2
        · rcases List.mem_cons.1 h2 with rfl | h3
          · exact .inl hz
          · exact .inr h3
    · rw [if_neg h, List.mem_append, List.mem_singleton, List.mem_cons, or_assoc]
theorem uniqF_le : ∀ (l acc : List Img), (uniqF acc l).length ≤ acc.length + l.length
  | [], acc => by simp [uniqF]
  | y :: r, acc => by
    rw [uniqF]
    refine Nat.le_trans (uniqF_le r _) ?_
    split <;> simp <;> omega
/-- the outcomes of the first k numbers -/
def outF (ps : List (List Int)) (es : List (Int × List Int)) (k : Nat) : List Img := uniqF [] ((List.range k).map (outN ps es))
theorem outF_succ (ps : List (List Int)) (es : List (Int × List Int)) (k : Nat) : outF ps es (k + 1) = if ((outF ps es k).any fun y => decide (outN ps es k = y)) = true then outF ps es k else outF ps es k ++ [outN ps es k] := by
  unfold outF
  rw [List.range_succ, List.map_append]
  exact uniqF_snoc _ _ _
theorem outF_mem (ps : List (List Int)) (es : List (Int × List Int)) (N : Nat) (x : Img) : x ∈ outF ps es N ↔ ∃ k, k < N ∧ outN ps es k = x := by
  unfold outF
  rw [uniqF_mem, List.mem_map]
  simp only [List.not_mem_nil, false_or, List.mem_range]
theorem outF_le (ps : List (List Int)) (es : List (Int × List Int)) (N : Nat) : (outF ps es N).length ≤ N := by
  unfold outF
  have := uniqF_le ((List.range N).map (outN ps es)) []
  simpa using this
/-- an image may be left just if it is one of them -/
theorem left_iff (es : List (Int × List Int)) (ps ls : List (List Int)) (n : Nat) (hp : ps.length = n) (hl : ls.length = n) (he : ∀ e ∈ es, 0 ≤ e.1) : leftF es ps ls n = true ↔ ls ∈ outF ps es (2 ^ es.length) := by
  rw [outF_mem]
  constructor
  · exact left_some es ps ls n hp hl he
  · rintro ⟨k, _, rfl⟩
    exact leftF_done (bitF k) es ps n hp he
theorem out_len (ps : List (List Int)) (es : List (Int × List Int)) (N : Nat) (x : Img) (h : x ∈ outF ps es N) : x.length = ps.length := by
  obtain ⟨k, _, rfl⟩ := (outF_mem ps es N x).1 h
  exact doneF_len _ _ _ _
/-- what the statement asks for -/
theorem left_found (es : List (Int × List Int)) (ps ls : List (List Int)) (n : Nat) (hp : ps.length = n) (he : ∀ e ∈ es, 0 ≤ e.1) : (outF ps es (2 ^ es.length)).any (fun y => decide (y = ls)) = (decide (ls.length = n) && leftF es ps ls n) := by
  rw [Bool.eq_iff_iff, List.any_eq_true, Bool.and_eq_true, decide_eq_true_eq]
  constructor
  · rintro ⟨y, hy, h⟩
    rw [decide_eq_true_eq] at h
    subst h
    have hl := (out_len ps es _ y hy).trans hp
    exact ⟨hl, (left_iff es ps y n hp hl he).2 hy⟩
  · rintro ⟨hl, h⟩
    exact ⟨ls, (left_iff es ps ls n hp hl he).1 h, decide_eq_true rfl⟩
end Go.Proofs.Yteajblfkfmopfaa.LawCrash
namespace Go.Proofs.Yteajblfkfmopfaa.LawCrash
set_option linter.unusedVariables false
set_option linter.unusedSimpArgs false
open Go Go.RowKit Go.Proofs.Yteajblfkfmopfaa.Mem Go.Proofs.Yteajblfkfmopfaa.Put32 Go.Proofs.Yteajblfkfmopfaa.Sum Go.Proofs.Yteajblfkfmopfaa.Hmac Go.Proofs.Yteajblfkfmopfaa.Parts Go.Proofs.Yteajblfkfmopfaa.Entries Go.Proofs.Yteajblfkfmopfaa.CrashApply

theorem wpListIn_app {F : Fence} {nf : Nat} {P : Program} {w : World} {ops : Array Oper} {rest : List Oper} {o : Oper} {a : Act} {Q : Exit → Act → World → Prop} (hgd : o.guard = none) (s x : Operand) (t : TypeId)
    (ho : o.op = .call { callee := .builtin .append, args := #[s, x], argTypes := #[t, t] })
    (base : Nat) (e : TypeId) (z : Value) (size bytes : Nat) (ht : P.underlying t = some (.slice e)) (hinfo : (P.info? e).map (fun i => (i.zero, i.size, i.bytes)) = some (some z, size, bytes))
    (hzs : z.cells.size = size) (hsz : 0 < size) (v : Value) (n : Nat) (xs : List Value) (hv : a.eval s = v) (hown : w.ownsRow base e size v n xs) (y : Value) (m : Nat) (news : List Value) (hy : a.eval x = y) (hs : Go.Proofs.Yteajblfkfmopfaa.Mem.Src w y m size news)
    (h63 : n + m ≤ maxLen) (hbytes : (n + m) * bytes ≤ 140737488355328) (hbase : base ≤ w.heap.size)
    (h : ∀ v' w', w'.ownsRow base e size v' (n + m) (xs ++ news) → w.grownBy w' v.ownBlock → (v'.ownBlock = v.ownBlock ∨ v'.ownBlock = some w.heap.size) → wpListIn F nf P ops Q rest (a.put o.dst v') w') : wpListIn F nf P ops Q (o :: rest) a w := by
  refine wpListIn_plain hgd fun K hK' => ?_
  obtain ⟨v', w', hrun, r1, r2, r3⟩ := run_app (P := P) w base t o.type e z size bytes ht hinfo hzs hsz v n xs hown y m news hs h63 hbytes hbase
  unfold Oper.wpIn
  refine ⟨?_, ?_⟩
  · simp [Oper.about, ho, resolve, Target.leads, Sem.run_pure]
  · rw [Oper.semAt_plain F _ _ (by rw [ho]; intro c hc'; cases hc')]
    simp [execOp, ho, resolve, invoke, builtin, hv, hy, hrun, Result.andThen]
    exact hK' _ _ (h v' w' r1 r2 r3)
/-- cells outside of some blocks stay -/
def KeepsX (w w' : World) (X : Nat → Prop) : Prop := ∀ (a : Addr) (v : Value), ¬ X a.block → w.cell? a = some v → w'.cell? a = some v
theorem KeepsX.refl (w : World) (X : Nat → Prop) : KeepsX w w X := fun _ _ _ h => h
theorem KeepsX.trans {w w1 w2 : World} {X X' : Nat → Prop} (h : KeepsX w w1 X) (k : KeepsX w1 w2 X') (hX : ∀ b, X' b → X b ∨ w.heap.size ≤ b) : KeepsX w w2 X := fun a v hx hc => by
  refine k a v (fun hx' => ?_) (h a v hx hc)
  rcases hX _ hx' with h1 | h1
  · exact hx h1
  · have := World.block_lt_of_cell? w _ hc
    omega
theorem keepsX_grown {w w' : World} {row : Option Nat} {X : Nat → Prop} (h : w.grownBy w' row) (hX : ∀ b, row = some b → X b) : KeepsX w w' X := fun a v hx hc =>
  h.cell hc (fun e => hx (hX _ e.symm))
theorem keepsX_below {w w' : World} {X : Nat → Prop} (h : Below w.heap.size w w') : KeepsX w w' X := fun a v _ hc =>
  (h.cell (World.block_lt_of_cell? w _ hc)).trans hc
theorem keepsX_set {w : World} {b o : Nat} {v : Value} {X : Nat → Prop} (h : X b) : KeepsX w (w.setCell ⟨b, o, none⟩ v) X := fun a u hx hc => by
  rw [World.cell?_setCell_other _ _ _ _ (fun e => hx (by rw [← e]; exact h))]
  exact hc
theorem keepsX_kept {w w' : World} {row : Option Nat} {X : Nat → Prop} (hg : w.grownBy w' row) (hrow : ∀ r, row = some r → ∃ o : Obj, w.heap[r]? = some o ∧ o.isCells = false) : KeepsX w w' X := fun _ _ _ hc => cell_kept hc hg hrow
/-- an image that stays, whatever becomes of those blocks -/
def ElemI (w : World) (X : Nat → Prop) (n : Nat) (u : Value) (x : Img) : Prop := ∃ A c, u = .slice A n c ∧ ∀ w', KeepsX w w' X → RdP w' A n c x
theorem ElemI.step {w w' : World} {X X' : Nat → Prop} {n : Nat} {u : Value} {x : Img} (h : ElemI w X n u x) (hk : KeepsX w w' X) (hX : ∀ b, X' b → X b ∨ w.heap.size ≤ b) : ElemI w' X' n u x := by
  obtain ⟨A, c, e, hr⟩ := h
  exact ⟨A, c, e, fun w2 h2 => hr w2 (hk.trans h2 hX)⟩
theorem ElemI.rd {w : World} {X : Nat → Prop} {n : Nat} {u : Value} {x : Img} (h : ElemI w X n u x) : ∃ A c, u = .slice A n c ∧ RdP w A n c x := by
  obtain ⟨A, c, e, hr⟩ := h
  exact ⟨A, c, e, hr w (KeepsX.refl w X)⟩
theorem rd_keeps {w w' : World} {X : Nat → Prop} {A : Option Addr} {n c : Nat} {x : List Int} (h : Rd .u8 w A n c x) (hk : KeepsX w w' X) (hA : 0 < n → ∀ ad, A = some ad → ¬ X ad.block) : Rd .u8 w' A n c x :=
  ⟨h.len, h.le, h.cap, fun h0 => by
    obtain ⟨ad, e, hc⟩ := h.cells h0
    exact ⟨ad, e, fun j hj => hk _ _ (by rw [show (ad.add j).block = ad.block by unfold Addr.add; split <;> rfl]; exact hA h0 ad e) (hc j hj)⟩⟩
/-- an image of the call's own -/
theorem elem_fresh {w : World} {base n c : Nat} {A : Option Addr} {L : List Value} {ps : List (List Int)} {X : Nat → Prop} (h : Parts w base (.slice A n c) n L ps) (hf : Fresh w base (.slice A n c) L ps n) (hX : ∀ b, X b → b < base) : ElemI w X n (.slice A n c) ps := by
  refine ⟨A, c, rfl, fun w' hk => ?_⟩
  have hcp := own_caps h.own
  refine ⟨h.len, hcp.1, hcp.2, fun h0 => ?_⟩
  obtain ⟨g, off, ea, hg, _⟩ := own_shape h.own h0
  subst ea
  refine ⟨_, rfl, fun j hj => ?_⟩
  obtain ⟨Aj, cj, e1, ho, _⟩ := hf j hj
  obtain ⟨ad1, e2, hc1⟩ := h.own.cell j _ e1
  cases e2
  refine ⟨Aj, cj, hk _ _ (fun hx => ?_) hc1, rd_keeps (own_rd_at ho) hk fun _ ad ea hx => ?_⟩
  · rw [Addr.add_mid] at hx
    have := hX _ hx
    simp only at this
    omega
  · subst ea
    have h1 := (ho.lt _ rfl).1
    have h2 := hX _ hx
    omega
/-- a row of one's own, of images -/
structure Imgs (w : World) (base : Nat) (v : Value) (X : Nat → Prop) (k n : Nat) (L : List Value) (is : List Img) : Prop where
  len : is.length = k
  own : w.ownsRow base 50 1 v k L
  each : ∀ j, j < k → ∃ u, L[j]? = some u ∧ ElemI w X n u (nthI is j)
theorem Imgs.nil (w : World) (base n : Nat) (X : Nat → Prop) : Imgs w base (.slice none 0 0) X 0 n [] [] := ⟨rfl, World.ownsRow_nil _ _ _ _, fun j hj => by omega⟩
theorem Imgs.step {w w' : World} {base : Nat} {v : Value} {X : Nat → Prop} {k n : Nat} {L : List Value} {is : List Img} (h : Imgs w base v X k n L is) (ho : w'.ownsRow base 50 1 v k L) (hk : KeepsX w w' X) : Imgs w' base v X k n L is :=
  ⟨h.len, ho, fun j hj => by
    obtain ⟨u, e, hu⟩ := h.each j hj
    exact ⟨u, e, hu.step hk fun b hb => .inl hb⟩⟩
theorem Imgs.below {w w' : World} {base : Nat} {v : Value} {X : Nat → Prop} {k n : Nat} {L : List Value} {is : List Img} (h : Imgs w base v X k n L is) (hb : Below w.heap.size w w') : Imgs w' base v X k n L is :=
  h.step (own_below h.own hb) (keepsX_below hb)
theorem nthI_left (is js : List Img) (j : Nat) (h : j < is.length) : nthI (is ++ js) j = nthI is j := by
  simp [nthI, List.getD_eq_getElem?_getD, List.getElem?_append_left h]
theorem nthI_last (is : List Img) (x : Img) : nthI (is ++ [x]) is.length = x := by
  simp [nthI, List.getD_eq_getElem?_getD]
theorem Imgs.app {w w' : World} {base : Nat} {v v' : Value} {X X' : Nat → Prop} {k n : Nat} {L : List Value} {is : List Img} {u : Value} {x : Img} (h : Imgs w base v X k n L is) (hu : ElemI w X n u x)
    (hown : w'.ownsRow base 50 1 v' (k + 1) (L ++ [u])) (hk : KeepsX w w' X) (hX : ∀ b, X' b → X b ∨ w.heap.size ≤ b) : Imgs w' base v' X' (k + 1) n (L ++ [u]) (is ++ [x]) := by
  have hL : L.length = k := by simpa using h.own.1
  refine ⟨by rw [List.length_append, h.len]; rfl, hown, fun j hj => ?_⟩
  rcases Nat.lt_succ_iff_lt_or_eq.1 hj with h1 | rfl
  · obtain ⟨y, e, hy⟩ := h.each j h1
    exact ⟨y, by rw [List.getElem?_append_left (by omega)]; exact e, by rw [nthI_left _ _ _ (by rw [h.len]; exact h1)]; exact hy.step hk hX⟩
  · refine ⟨u, by rw [List.getElem?_append_right (by omega), hL]; simp, ?_⟩
    rw [← h.len, nthI_last]
    exact hu.step hk hX
theorem Imgs.rdi {w : World} {base : Nat} {X : Nat → Prop} {A : Option Addr} {c k n : Nat} {L : List Value} {is : List Img} (h : Imgs w base (.slice A k c) X k n L is) : RdI w A k c n is := by
  have ho := OwnAt.of_own h.own
  have hcp := own_caps ho
  refine ⟨h.len, hcp.1, hcp.2, fun h0 => ?_⟩
  obtain ⟨g, off, ea, _, _⟩ := own_shape ho h0
  subst ea
  refine ⟨_, rfl, fun j hj => ?_⟩
  obtain ⟨u, e, hu⟩ := h.each j hj
  obtain ⟨Aj, cj, rfl, hr⟩ := hu.rd
  obtain ⟨ad1, e1, hc1⟩ := ho.cell j _ e
  cases e1
  exact ⟨Aj, cj, hc1, hr⟩
end Go.Proofs.Yteajblfkfmopfaa.LawCrash
