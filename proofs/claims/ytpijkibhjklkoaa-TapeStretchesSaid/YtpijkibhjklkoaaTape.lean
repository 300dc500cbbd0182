/- tape.Tape: what each method does. -/
import Derived.Test.YtpijkibhjklkoaaCloneB
import Derived.StillTailTactics
import Derived.Laws.Rows
import Derived.Handy
namespace Go.Proofs.Ytpijkibhjklkoaa.Tape
open Go Go.RowKit Go.Proofs.Ytpijkibhjklkoaa.Mem

/-- A tape of bytes b lies at block p, `at_` of them drawn. -/
structure TapeAt (w : World) (p : Nat) (b : List Int) (at_ : Nat) (A : Option Addr) (n c : Nat) : Prop where
  heap : w.heap[p]? = some (.cells #[.slice A n c, .int .i64 at_, .bool true] 79 (0, 0))
  rd : Rd .u8 w A n c b
  apart : ∀ ad, A = some ad → ad.block < p
  le : at_ ≤ n
  top : n ≤ 140737488351232

theorem TapeAt.c0 {w : World} {p : Nat} {b : List Int} {t : Nat} {A : Option Addr} {n c : Nat} (h : TapeAt w p b t A n c) : w.cell? ⟨p, 0, none⟩ = some (.slice A n c) := by simp [World.cell?, h.heap]
theorem TapeAt.c1 {w : World} {p : Nat} {b : List Int} {t : Nat} {A : Option Addr} {n c : Nat} (h : TapeAt w p b t A n c) : w.cell? ⟨p, 1, none⟩ = some (.int .i64 t) := by simp [World.cell?, h.heap]
theorem TapeAt.c2 {w : World} {p : Nat} {b : List Int} {t : Nat} {A : Option Addr} {n c : Nat} (h : TapeAt w p b t A n c) : w.cell? ⟨p, 2, none⟩ = some (.bool true) := by simp [World.cell?, h.heap]
theorem TapeAt.f1 {w : World} {p : Nat} {b : List Int} {t : Nat} {A : Option Addr} {n c : Nat} (h : TapeAt w p b t A n c) : w.frozen? ⟨p, 1, none⟩ = false := by simp [World.frozen?, h.heap]
theorem TapeAt.lt {w : World} {p : Nat} {b : List Int} {t : Nat} {A : Option Addr} {n c : Nat} (h : TapeAt w p b t A n c) : p < w.heap.size := by
  rcases Nat.lt_or_ge p w.heap.size with h1 | h1
  · exact h1
  · have := h.heap; rw [Array.getElem?_eq_none h1] at this; cases this
theorem TapeAt.below {w w' : World} {p : Nat} {b : List Int} {t : Nat} {A : Option Addr} {n c : Nat} (h : TapeAt w p b t A n c) (hb : Below w.heap.size w w') : TapeAt w' p b t A n c :=
  ⟨(hb.block p h.lt).trans h.heap, h.rd.below hb, h.apart, h.le, h.top⟩
theorem TapeAt.drewN {w : World} {p : Nat} {b : List Int} {t : Nat} {A : Option Addr} {n c : Nat} (h : TapeAt w p b t A n c) (m : Nat) : TapeAt (w.drewN m) p b t A n c := ⟨h.heap, h.rd.drewN m, h.apart, h.le, h.top⟩

set_option maxHeartbeats 400000 in
set_option maxRecDepth 100000 in
theorem new_any (x : List Int) (A : Option Addr) (n c : Nat) (w : World) (hn : n ≤ 140737488351232) (h0 : Rd .u8 w A n c x) :
    Calls Try.prog 22 #[.slice A n c] w fun e w' => ∃ p A' c', e = .returned (.pointer (some ⟨p, 0, none⟩)) ∧ w.heap.size ≤ p ∧ TapeAt w' p x 0 A' n c' ∧ (∀ ad, A' = some ad → w.heap.size ≤ ad.block) ∧ Below w.heap.size w w' := by
  have HN := As.mk hn
  clear hn
  go_enter Try.func22, Try.ntmps22
  go_wp2_with (go_at_call 51; (with_reducible refine (CloneB.any x A n c _ HN.out h0).mono ?_); rintro e w1 ⟨A', c', rfl, hown, hb⟩)
  go_ret
  obtain ⟨A2, c2, e2, hr⟩ := own_rd hown
  cases e2
  exact ⟨_, _, _, rfl, hb.size, ⟨heap_alloc_new w1 _, hr.below (below_alloc (Below.refl _ _) _), fun ad h => (own_block hown ad h).2, by omega, HN.out⟩, fun ad h => (own_block hown ad h).1, below_alloc hb _⟩

theorem made_any (w : World) {p : Nat} {b : List Int} {t : Nat} {A : Option Addr} {n c : Nat} (h : TapeAt w p b t A n c) :
    Calls Try.prog 52 #[.pointer (some ⟨p, 0, none⟩)] w fun e w' => e = .returned (.bool true) ∧ w = w' := by
  have h2 := h.c2
  clear h
  go_enter Try.func52, Try.ntmps52
  go_wp2
  go_ret
  exact ⟨rfl, rfl⟩
theorem made_nil (w : World) :
    Calls Try.prog 52 #[.pointer none] w fun e w' => e = .returned (.bool false) ∧ w = w' := by
  go_enter Try.func52, Try.ntmps52
  go_wp2
  go_ret
  exact ⟨rfl, rfl⟩
theorem left_any (w : World) {p : Nat} {b : List Int} {t : Nat} {A : Option Addr} {n c : Nat} (h : TapeAt w p b t A n c) :
    Calls Try.prog 26 #[.pointer (some ⟨p, 0, none⟩)] w fun e w' => e = .returned (.int .i64 ((n : Int) - t)) ∧ ∃ nd, w' = w.drewN nd := by
  have h0 := h.c0
  have h1 := h.c1
  have ht := h.top
  have hl := h.le
  have H := As.mk h
  clear h
  have hs : wrap64 ((n : Int) - t) = (n : Int) - t := by unfold wrap64; omega
  go_enter Try.func26, Try.ntmps26
  go_wp2_with (go_at_call 52; (with_reducible refine (made_any _ H.out).mono ?_); rintro e w1 ⟨rfl, rfl⟩)
  go_quiet (fail)
  go_wp2
  go_ret
  exact ⟨rfl, _, rfl⟩
theorem left_nil (w : World) :
    Calls Try.prog 26 #[.pointer none] w fun e w' => e = .returned (.int .i64 0) ∧ w = w' := by
  go_enter Try.func26, Try.ntmps26
  go_wp2_with (go_at_call 52; (with_reducible refine (made_nil _).mono ?_); rintro e w1 ⟨rfl, rfl⟩)
  go_ret
  exact ⟨rfl, rfl⟩
theorem place_any (w : World) {p : Nat} {b : List Int} {t : Nat} {A : Option Addr} {n c : Nat} (h : TapeAt w p b t A n c) :
    Calls Try.prog 25 #[.pointer (some ⟨p, 0, none⟩)] w fun e w' => e = .returned (.int .i64 t) ∧ w = w' := by
  have h1 := h.c1
  have H := As.mk h
  clear h
  go_enter Try.func25, Try.ntmps25
  go_wp2_with (go_at_call 52; (with_reducible refine (made_any _ H.out).mono ?_); rintro e w1 ⟨rfl, rfl⟩)
  go_ret
  exact ⟨rfl, rfl⟩
theorem place_nil (w : World) :
    Calls Try.prog 25 #[.pointer none] w fun e w' => e = .returned (.int .i64 0) ∧ w = w' := by
  go_enter Try.func25, Try.ntmps25
  go_wp2_with (go_at_call 52; (with_reducible refine (made_nil _).mono ?_); rintro e w1 ⟨rfl, rfl⟩)
  go_ret
  exact ⟨rfl, rfl⟩
/-- Can: may so many be drawn? -/
def can (k : Int) (n t : Nat) : Bool := decide (0 ≤ k) && decide (k ≤ (n : Int) - t)
theorem can_any (w : World) (k : Int) {p : Nat} {b : List Int} {t : Nat} {A : Option Addr} {n c : Nat} (h : TapeAt w p b t A n c) :
    Calls Try.prog 23 #[.pointer (some ⟨p, 0, none⟩), .int .i64 k] w fun e w' => e = .returned (.bool (can k n t)) ∧ ∃ nd, w' = w.drewN nd := by
  have H := As.mk h
  clear h
  by_cases hk : 0 ≤ k
  · have e : can k n t = decide (k ≤ (n : Int) - t) := by unfold can; rw [decide_eq_true hk]; rfl
    rw [e]
    clear e
    go_enter Try.func23, Try.ntmps23
    go_wp2_with (first
      | (go_at_call 52; (with_reducible refine (made_any _ H.out).mono ?_); rintro e w1 ⟨rfl, rfl⟩)
      | (go_at_call 26; (with_reducible refine (left_any _ H.out).mono ?_); rintro e w1 ⟨rfl, n1, rfl⟩))
    go_ret
    exact ⟨rfl, _, rfl⟩
  · have e : can k n t = false := by unfold can; rw [decide_eq_false hk]; rfl
    rw [e]
    clear e
    go_enter Try.func23, Try.ntmps23
    go_wp2_with (go_at_call 52; (with_reducible refine (made_any _ H.out).mono ?_); rintro e w1 ⟨rfl, rfl⟩)
    go_ret
    exact ⟨rfl, 0, rfl⟩
theorem can_nil (w : World) (k : Int) :
    Calls Try.prog 23 #[.pointer none, .int .i64 k] w fun e w' => e = .returned (.bool false) ∧ w = w' := by
  go_enter Try.func23, Try.ntmps23
  go_wp2_with (go_at_call 52; (with_reducible refine (made_nil _).mono ?_); rintro e w1 ⟨rfl, rfl⟩)
  go_ret
  exact ⟨rfl, rfl⟩

theorem draw_nil (w : World) (k : Int) :
    Calls Try.prog 24 #[.pointer none, .int .i64 k] w fun e w' => e = .returned (.tuple #[.slice none 0 0, .int .i64 1]) ∧ w = w' := by
  go_enter Try.func24, Try.ntmps24
  go_wp2_with (go_at_call 52; (with_reducible refine (made_nil _).mono ?_); rintro e w1 ⟨rfl, rfl⟩)
  go_ret2
  exact ⟨rfl, rfl⟩
theorem draw_arg (w : World) (k : Int) {p : Nat} {b : List Int} {t : Nat} {A : Option Addr} {n c : Nat} (h : TapeAt w p b t A n c) (hk : k < 0) :
    Calls Try.prog 24 #[.pointer (some ⟨p, 0, none⟩), .int .i64 k] w fun e w' => e = .returned (.tuple #[.slice none 0 0, .int .i64 2]) ∧ w = w' := by
  have H := As.mk h
  clear h
  go_enter Try.func24, Try.ntmps24
  go_wp2_with (go_at_call 52; (with_reducible refine (made_any _ H.out).mono ?_); rintro e w1 ⟨rfl, rfl⟩)
  go_ret2
  exact ⟨rfl, rfl⟩
theorem draw_dry (w : World) (k : Int) {p : Nat} {b : List Int} {t : Nat} {A : Option Addr} {n c : Nat} (h : TapeAt w p b t A n c) (hk : 0 ≤ k) (hk2 : (n : Int) - t < k) :
    Calls Try.prog 24 #[.pointer (some ⟨p, 0, none⟩), .int .i64 k] w fun e w' => e = .returned (.tuple #[.slice none 0 0, .int .i64 22]) ∧ ∃ nd, w' = w.drewN nd := by
  have H := As.mk h
  have hc : can k n t = false := by unfold can; rw [decide_eq_false (p := k ≤ (n : Int) - t) (by omega)]; simp
  clear h
  have hk0 : ¬ k < 0 := by omega
  go_enter Try.func24, Try.ntmps24
  go_wp2_with (first
    | (go_at_call 52; (with_reducible refine (made_any _ H.out).mono ?_); rintro e w1 ⟨rfl, rfl⟩)
    | (go_at_call 23; (with_reducible refine (can_any _ k H.out).mono ?_); rintro e w1 ⟨rfl, n1, rfl⟩; rw [hc]))
  go_ret2
  exact ⟨rfl, _, rfl⟩
set_option maxRecDepth 100000 in
set_option maxHeartbeats 1000000 in
theorem draw_ok (w : World) (k : Nat) {p : Nat} {b : List Int} {t : Nat} {A : Option Addr} {n c : Nat} (h : TapeAt w p b t A n c) (hk : t + k ≤ n) :
    Calls Try.prog 24 #[.pointer (some ⟨p, 0, none⟩), .int .i64 k] w fun e w' => ∃ A' c', e = .returned (.tuple #[.slice A' k c', .int .i64 0]) ∧
      w.grownBy w' (some p) ∧ TapeAt w' p b (t + k) A n c ∧ w'.ownsRow w.heap.size 5 1 (.slice A' k c') k (((b.drop t).take k).map (Value.int .u8)) := by
  have H := As.mk h
  have hc : can k n t = true := by unfold can; rw [decide_eq_true (p := (k : Int) ≤ (n : Int) - t) (by omega), decide_eq_true (by omega)]; rfl
  have c0 := h.c0
  have c1 := h.c1
  have f1 := h.f1
  have hp := h.lt
  have htop := h.top
  obtain ⟨hi, hhi⟩ : ∃ hi : Nat, hi = t + k := ⟨_, rfl⟩
  have hs : wrap64 ((t : Int) + k) = (hi : Int) := by unfold wrap64; omega
  have hs' : IntKind.i64.wrap ((t : Int) + k) = (hi : Int) := by rw [IntKind.wrap_i64]; omega
  have hsl : ∀ W, (Instr.slice 22 (.slice A n c) (some (.int .i64 (t : Int))) (some (.int .i64 (hi : Int))) none).run Try.prog W = .ok (.slice (cutA A c t 1) k (c - t)) W := fun W => by
    have := run_cut (P := Try.prog) W 22 5 Try.underlying22 CloneB.info A n c t hi .i64 .i64 (by omega) (by have := h.rd.le; omega)
    rwa [show hi - t = k by omega] at this
  have HR := As.mk (h.rd.cut t hi (by omega) (by omega))
  rw [show hi - t = k by omega] at HR
  have HI := As.mk hhi
  have HK := As.mk hk
  clear h hhi hk
  go_enter Try.func24, Try.ntmps24
  go_wp2_with (first
    | (go_at_call 52; (with_reducible refine (made_any _ H.out).mono ?_); rintro e w1 ⟨rfl, rfl⟩)
    | (go_at_call 23; (with_reducible refine (can_any _ k H.out).mono ?_); rintro e w1 ⟨rfl, n1, rfl⟩; rw [hc]))
  refine still_tail 15 (by kernel_rfl) (by kernel_rfl) ?_
  simp only [List.take_succ_cons, List.take_zero, List.drop_succ_cons, List.drop_zero]
  repeat still_step
  refine wpStill_nil ?_
  simp only [World.drewN_drewN]
  go_wp2_with (go_at_call 51; (with_reducible refine (CloneB.any _ _ k _ _ (by have := HK.out; omega) (HR.out.drewN _)).mono ?_); rintro e w2 ⟨A', c', rfl, hown, hb⟩; have c1' := (hb.cell (p := ⟨p, 1, none⟩) (by exact hp)).trans c1; have f1' := (hb.frozen (p := ⟨p, 1, none⟩) (by exact hp)).trans f1; have HB := As.mk hb; have HO := As.mk hown; clear hb hown)
  go_ret2
  refine ⟨_, _, rfl, grown_of_set (below_undrewN HB.out) p 1 _, ⟨?_, ?_, H.out.apart, HK.out, H.out.top⟩, ownsRow_setCell_below HO.out (by exact hp) _⟩
  · rw [← HI.out]
    have := (HB.out.block p hp).trans H.out.heap
    simp [World.setCell, Array.getElem?_modify, this]
  · exact H.out.rd.grown (grown_of_set (below_undrewN HB.out) p 1 _) (fun ad h => by have := H.out.apart ad h; simp; omega)

/-- another row is grown, all of whose blocks lie behind -/
theorem TapeAt.grown {w w' : World} {p : Nat} {b : List Int} {t : Nat} {A : Option Addr} {n c : Nat} {row : Option Nat} (h : TapeAt w p b t A n c) (hg : w.grownBy w' row) (hne : ∀ k, row = some k → k ≠ p ∧ ∀ ad, A = some ad → ad.block ≠ k) : TapeAt w' p b t A n c :=
  ⟨(hg.block p h.lt (fun e => (hne p e.symm).1 rfl)).trans h.heap, h.rd.grown hg (fun ad ha e => (hne _ e.symm).2 ad ha rfl), h.apart, h.le, h.top⟩

theorem TapeAt.belowB {w w' : World} {p B : Nat} {b : List Int} {t : Nat} {A : Option Addr} {n c : Nat} (h : TapeAt w p b t A n c) (hb : Below B w w') (hp : p < B) : TapeAt w' p b t A n c :=
  ⟨(hb.block p hp).trans h.heap, h.rd.belowB hb (fun ad ha => Nat.lt_trans (h.apart ad ha) hp), h.apart, h.le, h.top⟩

end Go.Proofs.Ytpijkibhjklkoaa.Tape
