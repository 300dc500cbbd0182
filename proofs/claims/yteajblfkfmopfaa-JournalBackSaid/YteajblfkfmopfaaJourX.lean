/- A reader, whatever is asked of it; same.Zero. journal.Head, chatelaineref17.Head. chatelaineref17.Head; journal.whole. -/
import Derived.Test.YteajblfkfmopfaaReader
import Derived.Test.YteajblfkfmopfaaSameB
import Derived.Test.YteajblfkfmopfaaJourF
import Derived.Test.YteajblfkfmopfaaRefGet
namespace Go.Proofs.Yteajblfkfmopfaa.Reader
set_option linter.unusedVariables false
set_option linter.unusedSimpArgs false
open Go Go.RowKit Go.Proofs.Yteajblfkfmopfaa.Mem Go.Proofs.Yteajblfkfmopfaa.Put Go.Proofs.Yteajblfkfmopfaa.Geo Go.Proofs.Yteajblfkfmopfaa.RefPutN Go.Proofs.Yteajblfkfmopfaa.Val

set_option maxHeartbeats 1000000 in
set_option maxRecDepth 100000 in
theorem fixed_dead (R : Nat) (w : World) (e : Int) (A : Option Addr) (n c : Nat) (x : List Int) (h : Rr R w e A n c x) (he : e ≠ 0) (k : Nat) (z : Int) (hz : z = (k : Int)) :
    Calls Try.prog 157 #[.pointer (some ⟨R, 0, none⟩), .int .i64 z] w fun e' w' => ∃ A1 c1, e' = .returned (.slice A1 0 c1) ∧ Rd .u8 w' A1 0 c1 [] ∧ w.grownBy w' (some R) ∧ ∃ A2 c2, Rr R w' e A2 n c2 x := by
  subst hz
  have H := As.mk h
  have HE := As.mk he
  have d0 : decide ((k : Int) < 0) = false := decide_eq_false (by omega)
  clear h he
  go_enter Try.func157, Try.ntmps157
  go_wp2_with (first
    | (go_at_call 203; (with_reducible refine (made_any R w e A n c x H.out).mono ?_); rintro e1 w1 ⟨rfl, rfl⟩)
    | (go_at_call 205; (with_reducible refine (take_dead R w e A n c x H.out HE.out k).mono ?_); rintro e1 w1 ⟨rfl, hq, hg⟩; have HRQ := As.mk hq; have HG := As.mk hg; clear hq hg)
    | (go_at_call 128; (with_reducible refine (CloneB.any [] none 0 0 w1 (by decide) (Rd.nil _ _ _ _ (by decide))).mono ?_); rintro e1 w2 ⟨A3, c3, rfl, ho, hb⟩; have HO := As.mk ho; have HB := As.mk hb; clear ho hb))
  go_ret
  obtain ⟨A4, c4, e4, hrd⟩ := (OwnAt.of_own HO.out).rd
  cases e4
  exact ⟨_, _, rfl, hrd, grownBy_below HG.out HB.out, _, _, HRQ.out.below HB.out⟩
set_option maxHeartbeats 1000000 in
set_option maxRecDepth 100000 in
theorem fixed_short (R : Nat) (w : World) (A : Option Addr) (n c : Nat) (x : List Int) (h : Rr R w 0 A n c x) (k : Nat) (z : Int) (hz : z = (k : Int)) (hk : n < k) :
    Calls Try.prog 157 #[.pointer (some ⟨R, 0, none⟩), .int .i64 z] w fun e' w' => ∃ A1 c1, e' = .returned (.slice A1 0 c1) ∧ Rd .u8 w' A1 0 c1 [] ∧ w.grownBy w' (some R) ∧ ∃ A2 c2, Rr R w' 10 A2 n c2 x := by
  subst hz
  have H := As.mk h
  have HE := As.mk (show (k : Int) < 0 ∨ (n : Int) < (k : Int) by omega)
  have d0 : decide ((k : Int) < 0) = false := decide_eq_false (by omega)
  clear h hk
  go_enter Try.func157, Try.ntmps157
  go_wp2_with (first
    | (go_at_call 203; (with_reducible refine (made_any R w 0 A n c x H.out).mono ?_); rintro e1 w1 ⟨rfl, rfl⟩)
    | (go_at_call 205; (with_reducible refine (take_short R w A n c x H.out k HE.out).mono ?_); rintro e1 w1 ⟨rfl, hq, hg⟩; have HRQ := As.mk hq; have HG := As.mk hg; clear hq hg)
    | (go_at_call 128; (with_reducible refine (CloneB.any [] none 0 0 w1 (by decide) (Rd.nil _ _ _ _ (by decide))).mono ?_); rintro e1 w2 ⟨A3, c3, rfl, ho, hb⟩; have HO := As.mk ho; have HB := As.mk hb; clear ho hb))
  go_ret
  obtain ⟨A4, c4, e4, hrd⟩ := (OwnAt.of_own HO.out).rd
  cases e4
  exact ⟨_, _, rfl, hrd, grownBy_below HG.out HB.out, _, _, HRQ.out.below HB.out⟩
set_option maxHeartbeats 1000000 in
set_option maxRecDepth 100000 in
theorem number_short (R : Nat) (w : World) (A : Option Addr) (n c : Nat) (x : List Int) (h : Rr R w 0 A n c x) (size : Nat) (z : Int) (hz : z = (size : Int)) (h1 : 1 ≤ size ∧ size ≤ 8) (hk : n < size) (most : Int) :
    Calls Try.prog 158 #[.pointer (some ⟨R, 0, none⟩), .int .i64 z, .int .i64 most] w fun e' w' => e' = .returned (.int .i64 0) ∧ w.grownBy w' (some R) ∧ Rr R w' 10 A n c x := by
  subst hz
  have H := As.mk h
  have HE := As.mk (show (size : Int) < 0 ∨ (n : Int) < (size : Int) by omega)
  have d0 : decide ((size : Int) < 1) = false := decide_eq_false (by omega)
  have d1 : decide (8 < (size : Int)) = false := decide_eq_false (by omega)
  have d0' : decide (size < 1) = false := decide_eq_false (by omega)
  have d1' : decide (8 < size) = false := decide_eq_false (by omega)
  clear h h1 hk
  go_enter Try.func158, Try.ntmps158
  go_wp2_with (first
    | (go_at_call 203; (with_reducible refine (made_any R w 0 A n c x H.out).mono ?_); rintro e1 w1 ⟨rfl, rfl⟩)
    | (go_at_call 205; (with_reducible refine (take_short R w A n c x H.out size HE.out).mono ?_); rintro e1 w1 ⟨rfl, hq, hg⟩; have HRQ := As.mk hq; have HG := As.mk hg; clear hq hg)
    | (go_at_call 196; (with_reducible refine (rgood_any R w1 10 A n c x HRQ.out false rfl).mono ?_); rintro e1 w2 ⟨rfl, rfl⟩))
  go_ret
  exact ⟨rfl, HG.out, HRQ.out⟩
/-- a reader's state: what went wrong, what is left -/
structure St where
  err : Int
  left : List Int
def St.fix (s : St) (k : Nat) : St := if s.err = 0 then (if k ≤ s.left.length then ⟨0, s.left.drop k⟩ else ⟨10, s.left⟩) else s
def St.fixV (s : St) (k : Nat) : List Int := if s.err = 0 then (if k ≤ s.left.length then s.left.take k else []) else []
def St.num (s : St) (size : Nat) (most : Int) : St := if s.err = 0 then (if size ≤ s.left.length then ⟨numE 0 size most s.left, s.left.drop size⟩ else ⟨10, s.left⟩) else s
def St.numV (s : St) (size : Nat) (most : Int) : Int := if s.err = 0 then (if size ≤ s.left.length then Reader.numV 0 size most s.left else 0) else 0
def RrS (R : Nat) (w : World) (s : St) : Prop := ∃ A c, Rr R w s.err A s.left.length c s.left
theorem RrS.of {R : Nat} {w : World} {e : Int} {A : Option Addr} {n c : Nat} {x : List Int} (h : Rr R w e A n c x) : RrS R w ⟨e, x⟩ := ⟨A, c, by have := h.rd.len; subst this; exact h⟩
theorem RrS.below {R : Nat} {w w' : World} {s : St} (h : RrS R w s) (hb : Below w.heap.size w w') : RrS R w' s := by
  obtain ⟨A, c, h⟩ := h
  exact ⟨A, c, h.below hb⟩
theorem RrS.lt {R : Nat} {w : World} {s : St} (h : RrS R w s) : R < w.heap.size := by
  obtain ⟨A, c, h⟩ := h
  exact h.lt
theorem fixT (R : Nat) (w : World) (s t : St) (y : List Int) (h : RrS R w s) (k : Nat) (z : Int) (hz : z = (k : Int)) (hm : k ≤ 140737488351232) (ht : s.fix k = t) (hy : s.fixV k = y) :
    Calls Try.prog 157 #[.pointer (some ⟨R, 0, none⟩), .int .i64 z] w fun e' w' => ∃ A1 c1, e' = .returned (.slice A1 y.length c1) ∧ Rd .u8 w' A1 y.length c1 y ∧ w.grownBy w' (some R) ∧ RrS R w' t := by
  obtain ⟨A, c, h⟩ := h
  obtain ⟨e, x⟩ := s
  subst ht hy
  by_cases he : e = 0
  · subst he
    by_cases hk : k ≤ x.length
    · have hy : St.fixV ⟨0, x⟩ k = x.take k := by unfold St.fixV; rw [if_pos rfl, if_pos hk]
      have ht : St.fix ⟨0, x⟩ k = ⟨0, x.drop k⟩ := by unfold St.fix; rw [if_pos rfl, if_pos hk]
      have hl : (x.take k).length = k := by rw [List.length_take]; omega
      rw [hy, ht, hl]
      exact (fixed_ok R w A _ c x h k z hz hk hm).mono fun _ _ ⟨A1, c1, a, b, d, A2, c2, f⟩ => ⟨A1, c1, a, b, d, RrS.of f⟩
    · have hy : St.fixV ⟨0, x⟩ k = [] := by unfold St.fixV; rw [if_pos rfl, if_neg hk]
      have ht : St.fix ⟨0, x⟩ k = ⟨10, x⟩ := by unfold St.fix; rw [if_pos rfl, if_neg hk]
      rw [hy, ht]
      exact (fixed_short R w A x.length c x h k z hz (by omega)).mono fun _ _ ⟨A1, c1, a, b, d, A2, c2, f⟩ => ⟨A1, c1, a, b, d, RrS.of f⟩
  · have hy : St.fixV ⟨e, x⟩ k = [] := by unfold St.fixV; rw [if_neg he]
    have ht : St.fix ⟨e, x⟩ k = ⟨e, x⟩ := by unfold St.fix; rw [if_neg he]
    rw [hy, ht]
    exact (fixed_dead R w e A _ c x h he k z hz).mono fun _ _ ⟨A1, c1, a, b, d, A2, c2, f⟩ => ⟨A1, c1, a, b, d, RrS.of f⟩
theorem numT (R : Nat) (w : World) (s t : St) (v : Int) (hx : Byte s.left) (h : RrS R w s) (size : Nat) (z : Int) (hz : z = (size : Int)) (h1 : 1 ≤ size ∧ size ≤ 8) (most : Int) (ht : s.num size most = t) (hv : s.numV size most = v) :
    Calls Try.prog 158 #[.pointer (some ⟨R, 0, none⟩), .int .i64 z, .int .i64 most] w fun e' w' => e' = .returned (.int .i64 v) ∧ w.grownBy w' (some R) ∧ RrS R w' t := by
  obtain ⟨A, c, h⟩ := h
  obtain ⟨e, x⟩ := s
  subst ht hv
  by_cases he : e = 0
  · subst he
    by_cases hk : size ≤ x.length
    · have hy : St.numV ⟨0, x⟩ size most = Reader.numV 0 size most x := by unfold St.numV; rw [if_pos rfl, if_pos hk]
      have ht : St.num ⟨0, x⟩ size most = ⟨numE 0 size most x, x.drop size⟩ := by unfold St.num; rw [if_pos rfl, if_pos hk]
      rw [hy, ht]
      have hX : numX 0 size x = x.drop size := if_pos rfl
      exact (number_any R w 0 A x.length c x hx h size z hz h1 (.inl hk) most).mono fun _ _ ⟨a, b, A2, c2, f⟩ => ⟨a, b, by have := RrS.of f; rwa [hX] at this⟩
    · have hy : St.numV ⟨0, x⟩ size most = 0 := by unfold St.numV; rw [if_pos rfl, if_neg hk]
      have ht : St.num ⟨0, x⟩ size most = ⟨10, x⟩ := by unfold St.num; rw [if_pos rfl, if_neg hk]
      rw [hy, ht]
      exact (number_short R w A x.length c x h size z hz h1 (by omega) most).mono fun _ _ ⟨a, b, f⟩ => ⟨a, b, RrS.of f⟩
  · have hy : St.numV ⟨e, x⟩ size most = Reader.numV e size most x := by unfold St.numV Reader.numV; rw [if_neg he, if_neg (fun hh => he hh.1)]
    have ht : St.num ⟨e, x⟩ size most = ⟨numE e size most x, numX e size x⟩ := by unfold St.num numE numX; rw [if_neg he, if_neg he, if_neg he]
    rw [hy, ht]
    exact (number_any R w e A _ c x hx h size z hz h1 (.inr he) most).mono fun _ _ ⟨a, b, A2, c2, f⟩ => ⟨a, b, RrS.of f⟩
/-- .. and where the bytes lie -/
def RrB (R : Nat) (w : World) (s : St) (B : Nat) : Prop := ∃ A c, Rr R w s.err A s.left.length c s.left ∧ (0 < s.left.length → ∀ ad, A = some ad → ad.block < B)
theorem RrB.s {R B : Nat} {w : World} {s : St} (h : RrB R w s B) : RrS R w s := by
  obtain ⟨A, c, h, _⟩ := h
  exact ⟨A, c, h⟩
theorem RrB.of {R B : Nat} {w : World} {e : Int} {A : Option Addr} {n c : Nat} {x : List Int} (h : Rr R w e A n c x) (hB : 0 < n → ∀ ad, A = some ad → ad.block < B) : RrB R w ⟨e, x⟩ B := ⟨A, c, by have := h.rd.len; subst this; exact ⟨h, hB⟩⟩
theorem RrB.below {R B : Nat} {w w' : World} {s : St} (h : RrB R w s B) (hb : Below w.heap.size w w') : RrB R w' s B := by
  obtain ⟨A, c, h, hB⟩ := h
  exact ⟨A, c, h.below hb, hB⟩
theorem RrB.row {R B : Nat} {w w' : World} {s : St} {row : Option Nat} (h : RrB R w s B) (hg : w.grownBy w' row) (hrow : ∀ k, row = some k → B ≤ k) (hR : row ≠ some R) : RrB R w' s B := by
  obtain ⟨A, c, h, hB⟩ := h
  refine ⟨A, c, ⟨(hg.block R h.lt (fun e => hR e.symm)).trans h.at_, rd_grown0 h.rd hg (fun h0 ad ea e => ?_), h.apart⟩, hB⟩
  have h1 := hB h0 ad ea
  have h2 := hrow _ e.symm
  omega
theorem numTB (R B : Nat) (w : World) (s t : St) (v : Int) (hx : Byte s.left) (h : RrB R w s B) (size : Nat) (z : Int) (hz : z = (size : Int)) (h1 : 1 ≤ size ∧ size ≤ 8) (most : Int) (ht : s.num size most = t) (hv : s.numV size most = v) :
    Calls Try.prog 158 #[.pointer (some ⟨R, 0, none⟩), .int .i64 z, .int .i64 most] w fun e' w' => e' = .returned (.int .i64 v) ∧ w.grownBy w' (some R) ∧ RrB R w' t B := by
  obtain ⟨A, c, h, hB⟩ := h
  obtain ⟨e, x⟩ := s
  subst ht hv
  have hB' : 0 < x.length → ∀ ad, A = some ad → ad.block < B := hB
  by_cases he : e = 0
  · subst he
    by_cases hk : size ≤ x.length
    · have hy : St.numV ⟨0, x⟩ size most = Reader.numV 0 size most x := by unfold St.numV; rw [if_pos rfl, if_pos hk]
      have ht : St.num ⟨0, x⟩ size most = ⟨numE 0 size most x, x.drop size⟩ := by unfold St.num; rw [if_pos rfl, if_pos hk]
      rw [hy, ht]
      have hX : numX 0 size x = x.drop size := if_pos rfl
      refine (number_anyS R w 0 A x.length c x hx h size z hz h1 (.inl hk) most).mono fun _ _ ⟨a, b, A2, c2, f, g⟩ => ⟨a, b, ?_⟩
      have h2 := RrB.of (B := B) f (fun h0 ad ea => by
        obtain ⟨a0, e0, hb⟩ := g ad ea
        rw [← hb]
        exact hB' (by unfold numN at h0; rw [if_pos rfl] at h0; omega) a0 e0)
      rwa [hX] at h2
    · have hy : St.numV ⟨0, x⟩ size most = 0 := by unfold St.numV; rw [if_pos rfl, if_neg hk]
      have ht : St.num ⟨0, x⟩ size most = ⟨10, x⟩ := by unfold St.num; rw [if_pos rfl, if_neg hk]
      rw [hy, ht]
      exact (number_short R w A x.length c x h size z hz h1 (by omega) most).mono fun _ _ ⟨a, b, f⟩ => ⟨a, b, RrB.of f hB'⟩
  · have hy : St.numV ⟨e, x⟩ size most = Reader.numV e size most x := by unfold St.numV Reader.numV; rw [if_neg he, if_neg (fun hh => he hh.1)]
    have ht : St.num ⟨e, x⟩ size most = ⟨numE e size most x, numX e size x⟩ := by unfold St.num numE numX; rw [if_neg he, if_neg he, if_neg he]
    rw [hy, ht]
    refine (number_anyS R w e A x.length c x hx h size z hz h1 (.inr he) most).mono fun _ _ ⟨a, b, A2, c2, f, g⟩ => ⟨a, b, RrB.of f (fun h0 ad ea => ?_)⟩
    obtain ⟨a0, e0, hb⟩ := g ad ea
    rw [← hb]
    exact hB' (by unfold numN at h0; rw [if_neg he] at h0; exact h0) a0 e0
def St.done (s : St) : Int := doneE s.err s.left.length
theorem doneT (R : Nat) (w : World) (s : St) (d : Int) (h : RrS R w s) (hd : s.done = d) :
    Calls Try.prog 159 #[.pointer (some ⟨R, 0, none⟩)] w fun e' w' => e' = .returned (.int .i64 d) ∧ w = w' := by
  obtain ⟨A, c, h⟩ := h
  subst hd
  exact done_any R w s.err A _ c s.left h
end Go.Proofs.Yteajblfkfmopfaa.Reader
namespace Go.Proofs.Yteajblfkfmopfaa.Jour
set_option linter.unusedVariables false
set_option linter.unusedSimpArgs false
open Go Go.RowKit Go.Proofs.Yteajblfkfmopfaa.Mem Go.Proofs.Yteajblfkfmopfaa.Put Go.Proofs.Yteajblfkfmopfaa.Geo Go.Proofs.Yteajblfkfmopfaa.Val Go.Proofs.Yteajblfkfmopfaa.SameB Go.Proofs.Yteajblfkfmopfaa.Hmac Go.Proofs.Yteajblfkfmopfaa.Put32 Go.Proofs.Yteajblfkfmopfaa.Pad

set_option maxHeartbeats 1000000 in
set_option maxRecDepth 100000 in
theorem zero_any (x : List Int) (hx : Byte x) (A : Option Addr) (n c : Nat) (w : World) (q : Bool) (hq : q = true ↔ x = List.replicate n 0) (h0 : Rd .u8 w A n c x) (hn : n ≤ 1000000) :
    Calls Try.prog 160 #[.slice A n c] w fun e w' => e = .returned (.bool q) ∧ Below w.heap.size w w' := by
  obtain ⟨ti, hi, hz, h1, h2⟩ := info_parts CloneB.info
  have HX := As.mk hx
  have HQ := As.mk hq
  have HN := As.mk hn
  have HZB := As.mk (show Byte (List.replicate n (0 : Int)) from fun y hy => by rw [List.eq_of_mem_replicate hy]; omega)
  have HB := As.mk (below_alloc (Below.refl w.heap.size w) (.cells (madeCells #[.int .u8 0] n) 5))
  have HG := As.mk (show (w.alloc (.cells (madeCells #[.int .u8 0] n) 5)).heap[w.heap.size]? = some (.cells (bytesA (List.replicate n 0)) 5 (0, 0)) by rw [← made_zero]; exact heap_alloc_new w _)
  have H0 := As.mk (h0.below HB.out)
  have hn2 : n ≤ 1000000 := hn
  clear hx hq hn h0
  go_enter Try.func160, Try.ntmps160
  go_wp2_with (refine wpList_make_row _ rfl _ _ 37 rfl 5 ti (.int .u8 0) Try.underlying37 hi hz h1 rfl .i64 .i64 n rfl rfl (by rw [h2]; omega) (by omega) ?_; refine As.out ?_)
  refine As.mk ?_
  generalize w.alloc _ = w0 at *
  clear hi hz h1 h2 ti hn2
  have HR := As.mk (rd_block HG.out (by rw [List.length_replicate]) (by have := HN.out; unfold maxLen; omega))
  go_wp2_with (first
    | (go_at_call 202; (with_reducible refine (differs_any x (List.replicate n 0) HX.out HZB.out A (some ⟨w.heap.size, 0, none⟩) n c n w0 H0.out HR.out (by have := HN.out; omega)).mono ?_); rintro e w1 ⟨o, rfl, ho, hz, nd, rfl⟩; have HO := As.mk ho; have HZ := As.mk hz; clear ho hz)
    | (go_at_call 201; (with_reducible refine (none_any o HO.out _).mono ?_); rintro e w1 ⟨rfl, rfl⟩; refine As.out ?_))
  refine As.mk ?_
  by_cases h : o = 0
  · have hh : nb o = 1 := if_pos h
    have hf : q = true := HQ.out.2 (HZ.out.1 h)
    subst hf
    rw [hh]
    clear hh h
    go_wp2
    go_ret
    exact ⟨rfl, below_drewN HB.out _⟩
  · have hh : nb o = 0 := if_neg h
    have hf : q = false := by
      cases q
      · rfl
      · exact absurd (HZ.out.2 (HQ.out.1 rfl)) h
    subst hf
    rw [hh]
    clear hh h
    go_wp2
    go_ret
    exact ⟨rfl, below_drewN HB.out _⟩
end Go.Proofs.Yteajblfkfmopfaa.Jour
namespace Go.Proofs.Yteajblfkfmopfaa.Jour
set_option linter.unusedVariables false
set_option linter.unusedSimpArgs false
open Go Go.RowKit Go.Proofs.Yteajblfkfmopfaa.Mem Go.Proofs.Yteajblfkfmopfaa.Put Go.Proofs.Yteajblfkfmopfaa.Geo Go.Proofs.Yteajblfkfmopfaa.Val Go.Proofs.Yteajblfkfmopfaa.Reader

theorem fix_ok {s : St} {k : Nat} (h : (s.fix k).err = 0) : s.err = 0 ∧ k ≤ s.left.length ∧ s.fix k = ⟨0, s.left.drop k⟩ ∧ s.fixV k = s.left.take k := by
  unfold St.fix at h
  unfold St.fix St.fixV
  split at h
  · rename_i h0
    split at h
    · rename_i h1
      rw [if_pos h0, if_pos h1, if_pos h0, if_pos h1]
      exact ⟨h0, h1, rfl, rfl⟩
    · cases h
  · rename_i h0
    exact absurd h h0
theorem fix_of {s : St} {k : Nat} (h0 : s.err = 0) (h1 : k ≤ s.left.length) : s.fix k = ⟨0, s.left.drop k⟩ ∧ s.fixV k = s.left.take k := by
  unfold St.fix St.fixV
  rw [if_pos h0, if_pos h1, if_pos h0, if_pos h1]
  exact ⟨rfl, rfl⟩
theorem num_ok {s : St} {k : Nat} {most : Int} (hmo : most ≤ 4611686018427387904) (h : (s.num k most).err = 0) : s.err = 0 ∧ k ≤ s.left.length ∧ (valB (s.left.take k) : Int) ≤ most ∧ s.num k most = ⟨0, s.left.drop k⟩ ∧ s.numV k most = valB (s.left.take k) := by
  unfold St.num at h
  unfold St.num St.numV
  split at h
  · rename_i h0
    split at h
    · rename_i h1
      rw [if_pos h0, if_pos h1, if_pos h0, if_pos h1]
      have h2 : numE 0 k most s.left = 0 := h
      unfold numE at h2 ⊢
      unfold Reader.numV
      rw [if_pos rfl] at h2 ⊢
      split at h2
      · rename_i h3
        rw [if_pos h3, if_pos ⟨rfl, h3⟩]
        exact ⟨h0, h1, h3.1, rfl, rfl⟩
      · cases h2
    · cases h
  · rename_i h0
    exact absurd h h0
theorem num_of {s : St} {k : Nat} {most : Int} (hmo : most ≤ 4611686018427387904) (h0 : s.err = 0) (h1 : k ≤ s.left.length) (h2 : (valB (s.left.take k) : Int) ≤ most) : s.num k most = ⟨0, s.left.drop k⟩ ∧ s.numV k most = valB (s.left.take k) := by
  unfold St.num St.numV numE Reader.numV
  rw [if_pos h0, if_pos h1, if_pos h0, if_pos h1, if_pos rfl, if_pos ⟨h2, by omega⟩, if_pos ⟨rfl, h2, by omega⟩]
  exact ⟨rfl, rfl⟩
def hs1 (b : List Int) : St := St.fix ⟨0, b⟩ 4
def hs2 (b : List Int) : St := (hs1 b).num 8 1099511627776
def hs3 (b : List Int) : St := (hs2 b).num 4 65536
def hs4 (b : List Int) : St := (hs3 b).fix 32
def hs5 (b : List Int) : St := (hs4 b).fix (b.length - 48)
theorem done_err {s : St} (h : s.done = 0) : s.err = 0 := by
  unfold St.done doneE at h
  split at h
  · assumption
  · exact h
theorem hs_all {b : List Int} (h : (hs5 b).err = 0) : 48 ≤ b.length ∧ St.fixV ⟨0, b⟩ 4 = b.take 4 ∧ valB ((b.drop 4).take 8) ≤ 1099511627776 ∧ valB ((b.drop 12).take 4) ≤ 65536 ∧ (hs1 b).numV 8 1099511627776 = valB ((b.drop 4).take 8) ∧ (hs2 b).numV 4 65536 = valB ((b.drop 12).take 4) ∧ (hs4 b).fixV (b.length - 48) = b.drop 48 := by
  have a5 := fix_ok h
  have a4 := fix_ok a5.1
  have a3 := num_ok (by decide) a4.1
  have a2 := num_ok (by decide) a3.1
  have a1 := fix_ok a2.1
  have e1 : hs1 b = ⟨0, b.drop 4⟩ := a1.2.2.1
  have e2 : hs2 b = ⟨0, b.drop 12⟩ := by
    have := a2.2.2.2.1
    show hs2 b = _
    unfold hs2
    rw [this, e1, List.drop_drop]
  have e3 : hs3 b = ⟨0, b.drop 16⟩ := by
    have := a3.2.2.2.1
    unfold hs3
    rw [this, e2, List.drop_drop]
  have e4 : hs4 b = ⟨0, b.drop 48⟩ := by
    have := a4.2.2.1
    unfold hs4
    rw [this, e3, List.drop_drop]
  have l1 : 4 ≤ b.length := a1.2.1
  have l2 := a2.2.1
  have l3 := a3.2.1
  have l4 := a4.2.1
  have v2 := a2.2.2.1
  have v3 := a3.2.2.1
  have n2 := a2.2.2.2.2
  have n3 := a3.2.2.2.2
  rw [e1] at l2 v2 n2
  rw [e2] at l3 v3 n3
  rw [e3] at l4
  simp only [List.length_drop] at l2 l3 l4
  have v2' : (valB ((b.drop 4).take 8) : Int) ≤ 1099511627776 := v2
  have v3' : (valB ((b.drop 12).take 4) : Int) ≤ 65536 := v3
  refine ⟨by omega, a1.2.2.2, by omega, by omega, ?_, ?_, ?_⟩
  · rw [e1]; exact n2
  · rw [e2]; exact n3
  · rw [a5.2.2.2, e4, List.take_of_length_le (by rw [List.length_drop]; exact Nat.le_refl _)]
theorem hs_of {b : List Int} (h1 : 48 ≤ b.length) (h2 : valB ((b.drop 4).take 8) ≤ 1099511627776) (h3 : valB ((b.drop 12).take 4) ≤ 65536) : (hs5 b).done = 0 := by
  have e1 : hs1 b = ⟨0, b.drop 4⟩ := (fix_of (s := ⟨0, b⟩) rfl (by show 4 ≤ b.length; omega)).1
  have e2 : hs2 b = ⟨0, b.drop 12⟩ := by
    unfold hs2
    rw [e1, (num_of (s := ⟨0, b.drop 4⟩) (by decide) rfl (by show 8 ≤ (b.drop 4).length; rw [List.length_drop]; omega) (by show (valB ((b.drop 4).take 8) : Int) ≤ 1099511627776; omega)).1]
    show (⟨0, (b.drop 4).drop 8⟩ : St) = _
    rw [List.drop_drop]
  have e3 : hs3 b = ⟨0, b.drop 16⟩ := by
    unfold hs3
    rw [e2, (num_of (s := ⟨0, b.drop 12⟩) (by decide) rfl (by show 4 ≤ (b.drop 12).length; rw [List.length_drop]; omega) (by show (valB ((b.drop 12).take 4) : Int) ≤ 65536; omega)).1]
    show (⟨0, (b.drop 12).drop 4⟩ : St) = _
    rw [List.drop_drop]
  have e4 : hs4 b = ⟨0, b.drop 48⟩ := by
    unfold hs4
    rw [e3, (fix_of (s := ⟨0, b.drop 16⟩) rfl (by show 32 ≤ (b.drop 16).length; rw [List.length_drop]; omega)).1]
    show (⟨0, (b.drop 16).drop 32⟩ : St) = _
    rw [List.drop_drop]
  have e5 : hs5 b = ⟨0, (b.drop 48).drop (b.length - 48)⟩ := by
    unfold hs5
    rw [e4, (fix_of (s := ⟨0, b.drop 48⟩) rfl (by show b.length - 48 ≤ (b.drop 48).length; rw [List.length_drop]; exact Nat.le_refl _)).1]
  rw [e5, List.drop_drop, List.drop_of_length_le (by omega)]
  rfl
def hG (b : List Int) : Bool := decide (St.fixV ⟨0, b⟩ 4 = markB)
def hY (b : List Int) : List Int := (hs4 b).fixV (b.length - 48)
def hZ (b : List Int) : Bool := decide (hY b = List.replicate (hY b).length 0)
theorem hOk_eq (b : List Int) : (hG b && (decide ((hs5 b).done = 0) && hZ b)) = headOk b := by
  rw [Bool.eq_iff_iff]
  unfold headOk hG hZ hY
  simp only [Bool.and_eq_true, decide_eq_true_eq]
  constructor
  · rintro ⟨g, d, z⟩
    obtain ⟨a, a1, a2, a3, _, _, a4⟩ := hs_all (done_err d)
    rw [a1] at g
    rw [a4, List.length_drop] at z
    exact ⟨a, g, a2, a3, z⟩
  · rintro ⟨a, g, a2, a3, z⟩
    have d := hs_of a a2 a3
    obtain ⟨_, a1, _, _, _, _, a4⟩ := hs_all (done_err d)
    rw [a1, a4, List.length_drop]
    exact ⟨g, d, z⟩
theorem head_vals {b : List Int} (h : headOk b = true) : (hs1 b).numV 8 1099511627776 = headC b ∧ (hs2 b).numV 4 65536 = headN b := by
  have h0 := h
  rw [← hOk_eq] at h
  simp only [Bool.and_eq_true, decide_eq_true_eq] at h
  obtain ⟨a, a1, a2, a3, a5, a6, a4⟩ := hs_all (done_err h.2.1)
  unfold headC headN
  rw [if_pos h0, if_pos h0]
  exact ⟨a5, a6⟩
theorem made_read (A : Option Addr) (n c : Nat) (b : List Int) (w : World) (h : Rd .u8 w A n c b) :
    Calls Try.prog 155 #[.slice A n c] w fun e w' => e = .returned (.pointer (some ⟨w.heap.size, 0, none⟩)) ∧ RrS w.heap.size w' ⟨0, b⟩ ∧ Below w.heap.size w w' := by
  have H := As.mk h
  have HB := As.mk (below_alloc (Below.refl w.heap.size w) (.cells #[.int .i64 0, .slice A n c, .bool true] 239))
  have HR := As.mk (h.below HB.out)
  have HG := As.mk (heap_alloc_new w (.cells #[.int .i64 0, .slice A n c, .bool true] 239))
  clear h
  go_enter Try.func155, Try.ntmps155
  go_wp2
  go_ret
  refine ⟨rfl, RrS.of ⟨HG.out, HR.out, fun hn ad e e2 => ?_⟩, HB.out⟩
  obtain ⟨ad', e3, hc⟩ := H.out.cells hn
  rw [e] at e3
  cases e3
  have := World.block_lt_of_cell? w _ (hc 0 hn)
  have hb : (ad.add 0).block = ad.block := by unfold Addr.add; split <;> rfl
  omega
theorem made_readB (A : Option Addr) (n c : Nat) (b : List Int) (w : World) (h : Rd .u8 w A n c b) :
    Calls Try.prog 155 #[.slice A n c] w fun e w' => e = .returned (.pointer (some ⟨w.heap.size, 0, none⟩)) ∧ RrB w.heap.size w' ⟨0, b⟩ w.heap.size ∧ Below w.heap.size w w' := by
  have H := As.mk h
  have HB := As.mk (below_alloc (Below.refl w.heap.size w) (.cells #[.int .i64 0, .slice A n c, .bool true] 239))
  have HR := As.mk (h.below HB.out)
  have HG := As.mk (heap_alloc_new w (.cells #[.int .i64 0, .slice A n c, .bool true] 239))
  have HLT := As.mk (show 0 < n → ∀ ad, A = some ad → ad.block < w.heap.size from fun hn ad e => by
    obtain ⟨ad', e3, hc⟩ := h.cells hn
    rw [e] at e3
    cases e3
    have h1 := World.block_lt_of_cell? w _ (hc 0 hn)
    have hb : (ad.add 0).block = ad.block := by unfold Addr.add; split <;> rfl
    omega)
  clear h
  go_enter Try.func155, Try.ntmps155
  go_wp2
  go_ret
  exact ⟨rfl, RrB.of ⟨HG.out, HR.out, fun hn ad e e2 => by have := HLT.out hn ad e; omega⟩ HLT.out, HB.out⟩
theorem byte_fix {s : St} (h : Byte s.left) (k : Nat) : Byte (s.fix k).left := by
  unfold St.fix
  split
  · split
    · exact byte_drop h k
    · exact h
  · exact h
theorem byte_fixV {s : St} (h : Byte s.left) (k : Nat) : Byte (s.fixV k) := by
  unfold St.fixV
  split
  · split
    · exact byte_take h k
    · exact fun y hy => by cases hy
  · exact fun y hy => by cases hy
theorem byte_num {s : St} (h : Byte s.left) (k : Nat) (m : Int) : Byte (s.num k m).left := by
  unfold St.num
  split
  · split
    · exact byte_drop h k
    · exact h
  · exact h
theorem fixV_len {s : St} (k : Nat) : (s.fixV k).length ≤ k := by
  unfold St.fixV
  split
  · split
    · rw [List.length_take]; omega
    · simp
  · simp
set_option maxHeartbeats 4000000 in
set_option maxRecDepth 100000 in
theorem head_any (b : List Int) (hb : Byte b) (A : Option Addr) (n c : Nat) (w : World) (hn : n ≤ 100000) (h : Rd .u8 w A n c b) (hc hv : Int) (ok : Bool) (ho : headOk b = ok) (h1 : (headC b : Int) = hc) (h2 : (headN b : Int) = hv) :
    Calls Try.prog 81 #[.slice A n c] w fun e w' => e = .returned (.tuple #[.int .i64 hc, .int .i64 hv, .bool ok]) ∧ Below w.heap.size w w' := by
  have HN := As.mk hn
  have H := As.mk h
  have HL := As.mk h.len
  have B0 := As.mk hb
  have B1 := As.mk (show Byte (hs1 b).left from byte_fix (s := ⟨0, b⟩) hb 4)
  have B2 := As.mk (show Byte (hs2 b).left from byte_num (s := hs1 b) B1.out 8 1099511627776)
  have B3 := As.mk (show Byte (hs3 b).left from byte_num (s := hs2 b) B2.out 4 65536)
  have B4 := As.mk (show Byte (hs4 b).left from byte_fix (s := hs3 b) B3.out 32)
  have BY := As.mk (byte_fixV (s := hs4 b) B4.out (b.length - 48))
  obtain ⟨y1, hy1⟩ : ∃ y, St.fixV ⟨0, b⟩ 4 = y := ⟨_, rfl⟩
  have HY1 := As.mk hy1
  have BY1 := As.mk (show Byte y1 by rw [← hy1]; exact byte_fixV (s := ⟨0, b⟩) hb 4)
  have LY1 := As.mk (show y1.length ≤ 4 by rw [← hy1]; exact fixV_len 4)
  obtain ⟨y4, hy4⟩ : ∃ y, (hs3 b).fixV 32 = y := ⟨_, rfl⟩
  have HY4 := As.mk hy4
  obtain ⟨y5, hy5⟩ : ∃ y, (hs4 b).fixV (b.length - 48) = y := ⟨_, rfl⟩
  have HY5 := As.mk hy5
  have LY5 := As.mk (show y5.length ≤ 100000 by rw [← hy5]; have := fixV_len (s := hs4 b) (b.length - 48); have := h.len; omega)
  rw [hy5] at BY
  obtain ⟨v2, hv2⟩ : ∃ v, (hs1 b).numV 8 1099511627776 = v := ⟨_, rfl⟩
  have HV2 := As.mk hv2
  obtain ⟨v3, hv3⟩ : ∃ v, (hs2 b).numV 4 65536 = v := ⟨_, rfl⟩
  have HV3 := As.mk hv3
  have E1 := As.mk (show St.fix ⟨0, b⟩ 4 = hs1 b from rfl)
  have E2 := As.mk (show (hs1 b).num 8 1099511627776 = hs2 b from rfl)
  have E3 := As.mk (show (hs2 b).num 4 65536 = hs3 b from rfl)
  have E4 := As.mk (show (hs3 b).fix 32 = hs4 b from rfl)
  have E5 := As.mk (show (hs4 b).fix (b.length - 48) = hs5 b from rfl)
  obtain ⟨d, hd⟩ : ∃ d, (hs5 b).done = d := ⟨_, rfl⟩
  have HD := As.mk hd
  obtain ⟨g, hg⟩ : ∃ g, hG b = g := ⟨_, rfl⟩
  have HG := As.mk (show g = true ↔ y1 = markB by rw [← hg, ← hy1]; unfold hG; rw [decide_eq_true_eq])
  obtain ⟨zz, hz⟩ : ∃ z, hZ b = z := ⟨_, rfl⟩
  have HZ := As.mk (show zz = true ↔ y5 = List.replicate y5.length 0 by rw [← hz, ← hy5]; unfold hZ hY; rw [decide_eq_true_eq])
  have HOK := As.mk (show ok = (g && (decide (d = 0) && zz)) by rw [← ho, ← hOk_eq, hg, hd, hz])
  have HVS := As.mk (show ok = true → hc = v2 ∧ hv = v3 from fun h0 => by
    have h3 := head_vals (b := b) (by rw [ho, h0])
    exact ⟨by rw [← h1, ← hv2, h3.1], by rw [← h2, ← hv3, h3.2]⟩)
  have HVZ := As.mk (show ok = false → hc = 0 ∧ hv = 0 from fun h0 => by
    rw [← h1, ← h2]
    unfold headC headN
    rw [ho, h0]
    exact ⟨rfl, rfl⟩)
  have Z4 := As.mk (show (4 : Int) = ((4 : Nat) : Int) from rfl)
  have Z8 := As.mk (show (8 : Int) = ((8 : Nat) : Int) from rfl)
  have Z32 := As.mk (show (32 : Int) = ((32 : Nat) : Int) from rfl)
  obtain ⟨k5, hk5⟩ : ∃ k, k = b.length - 48 := ⟨_, rfl⟩
  rw [← hk5] at E5 HY5
  have K5 := As.mk hk5
  have K5L := As.mk (show k5 ≤ 100000 by have := h.len; omega)
  have hmx : max ((n : Int) - 48) 0 = (k5 : Int) := by have := h.len; omega
  have hwr : wrap64 ((n : Int) - 48) = (n : Int) - 48 := Geo.wr _ (by omega)
  clear hb hn h ho h1 h2 hy1 hy4 hy5 hv2 hv3 hd hg hz hk5
  go_enter Try.func81, Try.ntmps81
  go_wp2_with (first
    | (go_at_call 155; (with_reducible refine (made_read A n c b w H.out).mono ?_); rintro e w1 ⟨rfl, hr, hb⟩; have R1 := As.mk hr; have HB1 := As.mk hb; clear hr hb)
    | (go_at_call 157; (with_reducible refine (fixT w.heap.size w1 ⟨0, b⟩ (hs1 b) y1 R1.out 4 _ Z4.out (by decide) E1.out HY1.out).mono ?_); rintro e w2 ⟨A2, c2, rfl, hr, hg, hs⟩; have RD2 := As.mk hr; have R2 := As.mk hs; have HB2 := As.mk (HB1.out.grown hg HB1.out.size (fun k hk => by injection hk with hk; omega)); clear hr hg hs)
    | (go_at_call 149; (with_reducible refine (mark_any w2).mono ?_); rintro e w3 ⟨A3, rfl, hr, hb⟩; have RD3 := As.mk hr; have RD23 := As.mk (RD2.out.below hb); have R3 := As.mk (R2.out.below hb); have HB3 := As.mk (below_step HB2.out hb); clear hr hb)
    | (go_at_call 156; (with_reducible refine (Go.Proofs.Yteajblfkfmopfaa.SameB.bytes_any y1 markB BY1.out mark_byte A2 A3 y1.length 4 c2 4 w3 g HG.out RD23.out RD3.out (by have := LY1.out; omega)).mono ?_); rintro e w4 ⟨rfl, nd, hw⟩; have hbd := below_drewN (Below.refl w3.heap.size w3) nd; rw [← hw] at hbd; have R4 := As.mk (R3.out.below hbd); have HB4 := As.mk (below_step HB3.out hbd); clear hbd hw)
    | (go_at_call 158; (with_reducible refine (numT w.heap.size w4 (hs1 b) (hs2 b) v2 B1.out R4.out 8 _ Z8.out (by decide) 1099511627776 E2.out HV2.out).mono ?_); rintro e w5 ⟨rfl, hg, hs⟩; have R5 := As.mk hs; have HB5 := As.mk (HB4.out.grown hg HB4.out.size (fun k hk => by injection hk with hk; omega)); clear hg hs)
    | (go_at_call 158; (with_reducible refine (numT w.heap.size w5 (hs2 b) (hs3 b) v3 B2.out R5.out 4 _ Z4.out (by decide) 65536 E3.out HV3.out).mono ?_); rintro e w6 ⟨rfl, hg, hs⟩; have R6 := As.mk hs; have HB6 := As.mk (HB5.out.grown hg HB5.out.size (fun k hk => by injection hk with hk; omega)); clear hg hs)
    | (go_at_call 157; (with_reducible refine (fixT w.heap.size w6 (hs3 b) (hs4 b) y4 R6.out 32 _ Z32.out (by decide) E4.out HY4.out).mono ?_); rintro e w7 ⟨A7, c7, rfl, hr, hg, hs⟩; have R7 := As.mk hs; have HB7 := As.mk (HB6.out.grown hg HB6.out.size (fun k hk => by injection hk with hk; omega)); clear hr hg hs)
    | (go_at_call 157; (with_reducible refine (fixT w.heap.size w7 (hs4 b) (hs5 b) y5 R7.out k5 _ (by have := K5.out; have := HL.out; omega) (by have := K5L.out; omega) E5.out HY5.out).mono ?_); rintro e w8 ⟨A8, c8, rfl, hr, hg, hs⟩; have RD8 := As.mk hr; have R8 := As.mk hs; have HB8 := As.mk (HB7.out.grown hg HB7.out.size (fun k hk => by injection hk with hk; omega)); clear hr hg hs; refine As.out ?_))
  all_goals
    refine As.mk ?_
    clear hmx hwr
    cases g with
    | false =>
      have HF := As.mk (show ok = false by rw [HOK.out]; rfl)
      have HV := As.mk (HVZ.out HF.out)
      go_wp2
      go_ret3
      exact ⟨by rw [HV.out.1, HV.out.2, HF.out]; rfl, HB8.out⟩
    | true =>
      by_cases hd : d = 0
      · subst hd
        cases zz with
        | true =>
          have HZ2 := As.mk (show y5 = List.replicate y5.length 0 from HZ.out.1 rfl)
          have HF := As.mk (show ok = true by rw [HOK.out]; rfl)
          have HV := As.mk (HVS.out HF.out)
          go_wp2_with (first
            | (go_at_call 159; (with_reducible refine (doneT w.heap.size w8 (hs5 b) 0 R8.out HD.out).mono ?_); rintro e w9 ⟨rfl, rfl⟩)
            | (go_at_call 160; (with_reducible refine (zero_any y5 BY.out A8 y5.length c8 w8 true (iff_of_true rfl HZ2.out) RD8.out (by have := LY5.out; omega)).mono ?_); rintro e w9 ⟨rfl, hb⟩; have HB9 := As.mk (below_step HB8.out hb); clear hb))
          go_ret3
          exact ⟨by rw [HV.out.1, HV.out.2, HF.out]; rfl, HB9.out⟩
        | false =>
          have HF := As.mk (show ok = false by rw [HOK.out]; rfl)
          have HV := As.mk (HVZ.out HF.out)
          go_wp2_with (first
            | (go_at_call 159; (with_reducible refine (doneT w.heap.size w8 (hs5 b) 0 R8.out HD.out).mono ?_); rintro e w9 ⟨rfl, rfl⟩)
            | (go_at_call 160; (with_reducible refine (zero_any y5 BY.out A8 y5.length c8 w8 false HZ.out RD8.out (by have := LY5.out; omega)).mono ?_); rintro e w9 ⟨rfl, hb⟩; have HB9 := As.mk (below_step HB8.out hb); clear hb))
          go_ret3
          exact ⟨by rw [HV.out.1, HV.out.2, HF.out]; rfl, HB9.out⟩
      · have HF := As.mk (show ok = false by rw [HOK.out, decide_eq_false hd]; rfl)
        have HV := As.mk (HVZ.out HF.out)
        have e0 : (d != 0) = true := by simp [hd]
        have e1 : (d == 0) = false := beq_eq_false_iff_ne.2 hd
        clear hd
        go_wp2_with (go_at_call 159; (with_reducible refine (doneT w.heap.size w8 (hs5 b) d R8.out HD.out).mono ?_); rintro e w9 ⟨rfl, rfl⟩)
        go_ret3
        exact ⟨by rw [HV.out.1, HV.out.2, HF.out]; rfl, HB8.out⟩
end Go.Proofs.Yteajblfkfmopfaa.Jour
namespace Go.Proofs.Yteajblfkfmopfaa.Jour
set_option linter.unusedVariables false
set_option linter.unusedSimpArgs false
open Go Go.RowKit Go.Proofs.Yteajblfkfmopfaa.Mem Go.Proofs.Yteajblfkfmopfaa.Put Go.Proofs.Yteajblfkfmopfaa.Geo Go.Proofs.Yteajblfkfmopfaa.Val Go.Proofs.Yteajblfkfmopfaa.Reader Go.Proofs.Yteajblfkfmopfaa.Sum

theorem take_mark {b : List Int} (h : 4 ≤ b.length) : b.take 4 = markB ↔ nth b 0 = 74 ∧ nth b 1 = 82 ∧ nth b 2 = 78 ∧ nth b 3 = 76 := by
  rcases b with _ | ⟨x0, _ | ⟨x1, _ | ⟨x2, _ | ⟨x3, r⟩⟩⟩⟩
  · simp at h
  · simp at h
  · simp at h
  · simp at h
  · simp [markB, nth]
theorem drop_zero {b : List Int} : b.drop 48 = List.replicate (b.length - 48) 0 ↔ ∀ j, 48 ≤ j → j < b.length → nth b j = 0 := by
  constructor
  · intro h j h1 h2
    have h3 : (b.drop 48)[j - 48]? = some 0 := by rw [h, List.getElem?_replicate_of_lt (by omega)]
    rw [List.getElem?_drop, show 48 + (j - 48) = j by omega] at h3
    rw [nth_getD, List.getD_eq_getElem?_getD, h3]
    rfl
  · intro h
    refine List.ext_getElem? fun i => ?_
    by_cases hi : i < b.length - 48
    · rw [List.getElem?_drop, List.getElem?_replicate_of_lt hi]
      have := h (48 + i) (by omega) (by omega)
      rw [nth_getD, List.getD_eq_getElem?_getD, List.getElem?_eq_getElem (by omega)] at this
      rw [List.getElem?_eq_getElem (by omega)]
      simpa using this
    · rw [List.getElem?_eq_none (by rw [List.length_drop]; omega), List.getElem?_eq_none (by rw [List.length_replicate]; omega)]
theorem get8 {x : List Int} {k : Nat} (hl : x.length = k) (h1 : 1 ≤ k) (h8 : k ≤ 8) : getV x = (if valB x ≤ 4611686018427387904 then ((valB x : Nat) : Int) else 0) ∧ getE x = (if valB x ≤ 4611686018427387904 then 0 else 11) := by
  have := get_of (x := x) (k := k) (n := k) hl (Nat.le_refl _) h1 h8
  rwa [List.take_of_length_le (by omega)] at this
theorem headOk_no1 {b : List Int} (h : ¬ 48 ≤ b.length) : headOk b = false := by unfold headOk; rw [decide_eq_false h]; rfl
theorem headOk_no2 {b : List Int} (h : ¬ b.take 4 = markB) : headOk b = false := by unfold headOk; rw [decide_eq_false h, Bool.false_and, Bool.and_false]
theorem headOk_iff (b : List Int) : headOk b = true ↔ 48 ≤ b.length ∧ b.take 4 = markB ∧ valB ((b.drop 4).take 8) ≤ 1099511627776 ∧ valB ((b.drop 12).take 4) ≤ 65536 ∧ b.drop 48 = List.replicate (b.length - 48) 0 := by
  unfold headOk
  simp only [Bool.and_eq_true, decide_eq_true_eq]
theorem no_of {b : List Int} (h : ¬ (headOk b = true)) : headOk b = false := by cases hh : headOk b <;> simp_all
theorem no_vals {b : List Int} (h : headOk b = false) : (headC b : Int) = 0 ∧ (headN b : Int) = 0 := by
  unfold headC headN
  rw [h]
  exact ⟨rfl, rfl⟩
theorem add_two (a : Addr) : a.add 2 = ⟨a.block, a.off + 2, none⟩ := by unfold Addr.add; simp
theorem add_three (a : Addr) : a.add 3 = ⟨a.block, a.off + 3, none⟩ := by unfold Addr.add; simp
set_option maxHeartbeats 4000000 in
set_option maxRecDepth 100000 in
theorem headR_any (b : List Int) (hb : Byte b) (A : Option Addr) (n c : Nat) (w : World) (hn : n ≤ 100000) (h : Rd .u8 w A n c b) (hc hv : Int) (ok : Bool) (ho : headOk b = ok) (h1 : (headC b : Int) = hc) (h2 : (headN b : Int) = hv) :
    Calls Try.prog 82 #[.slice A n c] w fun e w' => e = .returned (.tuple #[.int .i64 hc, .int .i64 hv, .bool ok]) ∧ w = w' := by
  have hl := h.len
  have HNO := As.mk (show headOk b = false → ok = false ∧ hc = 0 ∧ hv = 0 from fun h0 => ⟨by rw [← ho, h0], by rw [← h1]; exact (no_vals h0).1, by rw [← h2]; exact (no_vals h0).2⟩)
  by_cases a1 : n < 48
  · have d0 : decide ((n : Int) < 48) = true := decide_eq_true (by omega)
    have d1 : decide (n < 48) = true := decide_eq_true a1
    have HV := As.mk (HNO.out (headOk_no1 (by omega)))
    clear hn h ho h1 h2 hl a1
    go_enter Try.func82, Try.ntmps82
    go_wp2
    go_ret3
    exact ⟨by rw [HV.out.1, HV.out.2.1, HV.out.2.2]; rfl, rfl⟩
  · have d0 : decide ((n : Int) < 48) = false := decide_eq_false (by omega)
    have d1 : decide (n < 48) = false := decide_eq_false a1
    obtain ⟨ad, ea, hcells⟩ := h.cells (by omega)
    subst ea
    have q0 : w.cell? ad = some (.int .u8 (nth b 0)) := by have := hcells 0 (by omega); rwa [show ad.add 0 = ad by unfold Addr.add; simp] at this
    have q1 : w.cell? ⟨ad.block, ad.off + 1, none⟩ = some (.int .u8 (nth b 1)) := by have := hcells 1 (by omega); rwa [add_one] at this
    have q2 : w.cell? ⟨ad.block, ad.off + 2, none⟩ = some (.int .u8 (nth b 2)) := by have := hcells 2 (by omega); rwa [add_two] at this
    have q3 : w.cell? ⟨ad.block, ad.off + 3, none⟩ = some (.int .u8 (nth b 3)) := by have := hcells 3 (by omega); rwa [add_three] at this
    have HTM := As.mk (take_mark (b := b) (by omega))
    have p1 : (1 : Int) < (n : Int) := by omega
    have p2 : (2 : Int) < (n : Int) := by omega
    have p3 : (3 : Int) < (n : Int) := by omega
    have p0 : (0 : Int) < (n : Int) := by omega
    have p0' : 0 < n := by omega
    have p1' : 1 < n := by omega
    have p2' : 2 < n := by omega
    have p3' : 3 < n := by omega
    obtain ⟨x0, hx0⟩ : ∃ x, nth b 0 = x := ⟨_, rfl⟩
    obtain ⟨x1, hx1⟩ : ∃ x, nth b 1 = x := ⟨_, rfl⟩
    obtain ⟨x2, hx2⟩ : ∃ x, nth b 2 = x := ⟨_, rfl⟩
    obtain ⟨x3, hx3⟩ : ∃ x, nth b 3 = x := ⟨_, rfl⟩
    rw [hx0] at q0
    rw [hx1] at q1
    rw [hx2] at q2
    rw [hx3] at q3
    rw [hx0, hx1, hx2, hx3] at HTM
    by_cases m : x0 = 74 ∧ x1 = 82 ∧ x2 = 78 ∧ x3 = 76
    · obtain ⟨rfl, rfl, rfl, rfl⟩ := m
      have HMK := As.mk (HTM.out.2 ⟨rfl, rfl, rfl, rfl⟩)
      have H := As.mk h
      have HX := As.mk hb
      have HL := As.mk hl
      have H48 := As.mk (show 48 ≤ n by omega)
      have HN := As.mk hn
      have HOI := As.mk (headOk_iff b)
      have HCN := As.mk (show ok = true → hc = valB ((b.drop 4).take 8) ∧ hv = valB ((b.drop 12).take 4) from fun h0 => by
        rw [← h1, ← h2]
        unfold headC headN
        rw [ho, h0]
        exact ⟨rfl, rfl⟩)
      have HOB := As.mk ho
      have HS8 := As.mk (h.cut 4 12 (by decide) (by omega))
      have HS4 := As.mk (h.cut 12 16 (by decide) (by omega))
      have hc4 : ∀ W, (Instr.slice 37 (.slice (some ad) n c) (some (.int .i64 4)) (some (.int .i64 12)) none).run Try.prog W = .ok (.slice (cutA (some ad) c 4 1) 8 (c - 4)) W := fun W => run_cut (P := Try.prog) W 37 5 Try.underlying37 CloneB.info (some ad) n c 4 12 .i64 .i64 (by decide) (by have := h.le; omega)
      have hc12 : ∀ W, (Instr.slice 37 (.slice (some ad) n c) (some (.int .i64 12)) (some (.int .i64 16)) none).run Try.prog W = .ok (.slice (cutA (some ad) c 12 1) 4 (c - 12)) W := fun W => run_cut (P := Try.prog) W 37 5 Try.underlying37 CloneB.info (some ad) n c 12 16 .i64 .i64 (by decide) (by have := h.le; omega)
      have l8 : ((b.drop 4).take 8).length = 8 := by rw [List.length_take, List.length_drop]; omega
      have l4 : ((b.drop 12).take 4).length = 4 := by rw [List.length_take, List.length_drop]; omega
      have G8 := get8 l8 (by decide) (by decide)
      have G4 := get8 l4 (by decide) (by decide)
      have B8 := As.mk (show Byte ((b.drop 4).take 8) from byte_take (byte_drop hb 4) 8)
      have B4 := As.mk (show Byte ((b.drop 12).take 4) from byte_take (byte_drop hb 12) 4)
      have hv4 : valB ((b.drop 12).take 4) < 4294967296 := by have := valB_all _ B4.out; rw [l4] at this; exact this
      have HR8 := As.mk (show Rd .u8 w (cutA (some ad) c 4 1) 8 (c - 4) ((b.drop 4).take 8) from HS8.out)
      have HR4 := As.mk (show Rd .u8 w (cutA (some ad) c 12 1) 4 (c - 12) ((b.drop 12).take 4) from HS4.out)
      obtain ⟨y8, hy8⟩ : ∃ y, (b.drop 4).take 8 = y := ⟨_, rfl⟩
      obtain ⟨y4, hy4⟩ : ∃ y, (b.drop 12).take 4 = y := ⟨_, rfl⟩
      rw [hy8] at HOI HCN G8 B8 HR8
      rw [hy4] at HOI HCN G4 B4 HR4 hv4
      obtain ⟨u8, hu8⟩ : ∃ u, valB y8 = u := ⟨_, rfl⟩
      obtain ⟨u4, hu4⟩ : ∃ u, valB y4 = u := ⟨_, rfl⟩
      rw [hu8] at HOI HCN G8
      rw [hu4] at HOI HCN G4 hv4
      rw [if_pos (show u4 ≤ 4611686018427387904 by omega), if_pos (show u4 ≤ 4611686018427387904 by omega)] at G4
      obtain ⟨g8v, hg8v⟩ : ∃ g, getV y8 = g := ⟨_, rfl⟩
      obtain ⟨g8e, hg8e⟩ : ∃ g, getE y8 = g := ⟨_, rfl⟩
      have HG8 := As.mk (show getV y8 = g8v ∧ getE y8 = g8e from ⟨hg8v, hg8e⟩)
      have HG4 := As.mk G4
      rw [hg8v, hg8e] at G8
      have HU4 := As.mk (show u4 < 4294967296 from hv4)
      have HGV := As.mk G8
      have HC8 : As (Calls Try.prog 161 #[.slice (cutA (some ad) c 4 1) 8 (c - 4)] w fun e w' => e = .returned (.tuple #[.int .i64 g8v, .int .i64 g8e]) ∧ w = w') := ⟨by
        have := getR_any y8 B8.out _ 8 (c - 4) w HR8.out
        rwa [HG8.out.1, HG8.out.2] at this⟩
      have HC4 : As (Calls Try.prog 161 #[.slice (cutA (some ad) c 12 1) 4 (c - 12)] w fun e w' => e = .returned (.tuple #[.int .i64 (u4 : Int), .int .i64 0]) ∧ w = w') := ⟨by
        have := getR_any y4 B4.out _ 4 (c - 12) w HR4.out
        rwa [HG4.out.1, HG4.out.2] at this⟩
      clear hn h ho h1 h2 hl a1 hb hcells hx0 hx1 hx2 hx3 HTM HS8 HS4 l8 l4 G8 G4 hv4 hy8 hy4 hu8 hu4 hg8v hg8e
      by_cases e8 : u8 ≤ 1099511627776
      · have hg8 := HGV.out
        rw [if_pos (show u8 ≤ 4611686018427387904 by omega), if_pos (show u8 ≤ 4611686018427387904 by omega)] at hg8
        obtain ⟨rfl, rfl⟩ := hg8
        have t1 : decide (1099511627776 < (u8 : Int)) = false := decide_eq_false (by omega)
        have t1' : decide (1099511627776 < u8) = false := decide_eq_false (by omega)
        by_cases e4 : u4 ≤ 65536
        · have t2 : decide (65536 < (u4 : Int)) = false := decide_eq_false (by omega)
          have t2' : decide (65536 < u4) = false := decide_eq_false (by omega)
          have HOK := As.mk (show (∀ j, 48 ≤ j → j < b.length → nth b j = 0) → ok = true from fun hz => by
            rw [← HOB.out, HOI.out]
            exact ⟨by have := HL.out; have := H48.out; omega, HMK.out, e8, e4, drop_zero.2 hz⟩)
          have HBAD := As.mk (fun (j : Nat) (hj : 48 ≤ j ∧ j < b.length) (hz : nth b j ≠ 0) => (show ok = false ∧ hc = 0 ∧ hv = 0 from HNO.out (no_of fun ht => hz (drop_zero.1 ((HOI.out.1 ht).2.2.2.2) j hj.1 hj.2))))
          clear e8 e4
          go_enter Try.func82, Try.ntmps82
          go_wp2_with (first
            | (go_at_call 161; (with_reducible refine HC8.out.mono ?_); rintro e w1 ⟨rfl, rfl⟩)
            | (go_at_call 161; (with_reducible refine HC4.out.mono ?_); rintro e w1 ⟨rfl, rfl⟩))
          clear hc4 hc12 q0 q1 q2 q3
          go_loopg [9] (n - 48) (fun kq v9 wr => ∃ i : Nat, i + kq = n ∧ 48 ≤ i ∧ v9 = .int .i64 (i : Int) ∧ As (∀ j, 48 ≤ j → j < i → nth b j = 0) ∧ wr = w)
          case atStart => exact ⟨48, by have := H48.out; omega, by omega, rfl, ⟨fun j h1 h2 => by omega⟩, rfl⟩
          case round =>
            obtain ⟨i, hi, h48, rfl, HJ, rfl⟩ := hrel
            have HI := As.mk (show i + _ = n ∧ 48 ≤ i from ⟨hi, h48⟩)
            clear hi h48
            by_cases hlt : i < n
            · have e0 : decide ((i : Int) < (n : Int)) = true := decide_eq_true (by omega)
              have e1 : decide (i < n) = true := decide_eq_true hlt
              have lt' : (i : Int) < (n : Int) := by omega
              have hw : wrap64 ((i : Int) + 1) = ((i + 1 : Nat) : Int) := wrap_up (by have := HN.out; omega)
              obtain ⟨ad2, ea2, cc⟩ := H.out.at i hlt
              cases ea2
              have HLT := As.mk hlt
              by_cases hz : nth b i = 0
              · have HJ2 := As.mk (show ∀ j, 48 ≤ j → j < i + 1 → nth b j = 0 from fun j h1 h2 => by
                  rcases Nat.lt_succ_iff_lt_or_eq.1 h2 with h | rfl
                  · exact HJ.out j h1 h
                  · exact hz)
                rw [hz] at cc
                clear hlt hz
                go_wp2
                go_roundg (n - (i + 1))
                case measure => have := HI.out.1; have := HLT.out; omega
                case rel => exact ⟨i + 1, by have := HI.out.1; have := HLT.out; omega, by have := HI.out.2; omega, by go_num, HJ2, rfl⟩
              · have HF := As.mk (HBAD.out i ⟨HI.out.2, by rw [HL.out]; exact hlt⟩ hz)
                obtain ⟨x, hx⟩ : ∃ x, nth b i = x := ⟨_, rfl⟩
                rw [hx] at cc hz
                have z0 : (x != 0) = true := by simp [hz]
                have z1 : (x == 0) = false := beq_eq_false_iff_ne.2 hz
                clear hlt hz hx
                go_wp2
                go_ret3
                exact ⟨by rw [HF.out.1, HF.out.2.1, HF.out.2.2]; rfl, rfl⟩
            · have e0 : decide ((i : Int) < (n : Int)) = false := decide_eq_false (by omega)
              have e1 : decide (i < n) = false := decide_eq_false hlt
              have HT := As.mk (HOK.out fun j h1 h2 => HJ.out j h1 (by have := HL.out; omega))
              have HV := As.mk (HCN.out HT.out)
              clear hlt
              go_wp2
              go_ret3
              exact ⟨by rw [HT.out, HV.out.1, HV.out.2]; rfl, rfl⟩
        · have t2 : decide (65536 < (u4 : Int)) = true := decide_eq_true (by omega)
          have t2' : decide (65536 < u4) = true := decide_eq_true (by omega)
          have HF := As.mk (HNO.out (no_of fun ht => e4 (HOI.out.1 ht).2.2.2.1))
          clear e8 e4
          go_enter Try.func82, Try.ntmps82
          go_wp2_with (first
            | (go_at_call 161; (with_reducible refine HC8.out.mono ?_); rintro e w1 ⟨rfl, rfl⟩)
            | (go_at_call 161; (with_reducible refine HC4.out.mono ?_); rintro e w1 ⟨rfl, rfl⟩))
          go_ret3
          exact ⟨by rw [HF.out.1, HF.out.2.1, HF.out.2.2]; rfl, rfl⟩
      · have HF := As.mk (HNO.out (no_of fun ht => e8 (HOI.out.1 ht).2.2.1))
        by_cases e9 : u8 ≤ 4611686018427387904
        · have hg8 := HGV.out
          rw [if_pos e9, if_pos e9] at hg8
          obtain ⟨rfl, rfl⟩ := hg8
          have t1 : decide (1099511627776 < (u8 : Int)) = true := decide_eq_true (by omega)
          have t1' : decide (1099511627776 < u8) = true := decide_eq_true (by omega)
          clear e8 e9
          go_enter Try.func82, Try.ntmps82
          go_wp2_with (first
            | (go_at_call 161; (with_reducible refine HC8.out.mono ?_); rintro e w1 ⟨rfl, rfl⟩)
            | (go_at_call 161; (with_reducible refine HC4.out.mono ?_); rintro e w1 ⟨rfl, rfl⟩))
          go_ret3
          exact ⟨by rw [HF.out.1, HF.out.2.1, HF.out.2.2]; rfl, rfl⟩
        · have hg8 := HGV.out
          rw [if_neg e9, if_neg e9] at hg8
          obtain ⟨rfl, rfl⟩ := hg8
          clear e8 e9
          go_enter Try.func82, Try.ntmps82
          go_wp2_with (first
            | (go_at_call 161; (with_reducible refine HC8.out.mono ?_); rintro e w1 ⟨rfl, rfl⟩)
            | (go_at_call 161; (with_reducible refine HC4.out.mono ?_); rintro e w1 ⟨rfl, rfl⟩))
          go_ret3
          exact ⟨by rw [HF.out.1, HF.out.2.1, HF.out.2.2]; rfl, rfl⟩
    · have HV := As.mk (HNO.out (headOk_no2 (fun e => m (HTM.out.1 e))))
      obtain ⟨n0, hn0⟩ : ∃ n0, n0 = n := ⟨_, rfl⟩
      clear hn h ho h1 h2 hl a1 hb hcells hx0 hx1 hx2 hx3 HTM HNO hn0
      by_cases m0 : x0 = 74
      · by_cases m1 : x1 = 82
        · by_cases m2 : x2 = 78
          · have z3 : (x3 != 76) = true := by simp; exact fun e => m ⟨m0, m1, m2, e⟩
            have z3' : (x3 == 76) = false := beq_eq_false_iff_ne.2 (fun e => m ⟨m0, m1, m2, e⟩)
            subst m0 m1 m2
            clear m
            go_enter Try.func82, Try.ntmps82
            go_wp2
            go_ret3
            exact ⟨by rw [HV.out.1, HV.out.2.1, HV.out.2.2]; rfl, rfl⟩
          · have z3 : (x2 != 78) = true := by simp [m2]
            have z3' : (x2 == 78) = false := beq_eq_false_iff_ne.2 m2
            subst m0 m1
            clear m m2
            go_enter Try.func82, Try.ntmps82
            go_wp2
            go_ret3
            exact ⟨by rw [HV.out.1, HV.out.2.1, HV.out.2.2]; rfl, rfl⟩
        · have z3 : (x1 != 82) = true := by simp [m1]
          have z3' : (x1 == 82) = false := beq_eq_false_iff_ne.2 m1
          subst m0
          clear m m1
          go_enter Try.func82, Try.ntmps82
          go_wp2
          go_ret3
          exact ⟨by rw [HV.out.1, HV.out.2.1, HV.out.2.2]; rfl, rfl⟩
      · have z3 : (x0 != 74) = true := by simp [m0]
        have z3' : (x0 == 74) = false := beq_eq_false_iff_ne.2 m0
        clear m m0
        go_enter Try.func82, Try.ntmps82
        go_wp2
        go_ret3
        exact ⟨by rw [HV.out.1, HV.out.2.1, HV.out.2.2]; rfl, rfl⟩
end Go.Proofs.Yteajblfkfmopfaa.Jour
