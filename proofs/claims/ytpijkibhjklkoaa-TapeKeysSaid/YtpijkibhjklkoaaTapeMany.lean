/- tape.many over a tape's own Draw; Keys. -/
import Derived.Test.YtpijkibhjklkoaaTape
namespace Go.Proofs.Ytpijkibhjklkoaa.TapeMany
open Go Go.RowKit Go.Proofs.Ytpijkibhjklkoaa.Mem Go.Proofs.Ytpijkibhjklkoaa.Tape

theorem info22 : (Try.prog.info? 22).map (fun i => (i.zero, i.size, i.bytes)) = some (some (.slice none 0 0), 1, 24) := by kernel_rfl

/-- the bytes of the j-th key -/
def piece (b : List Int) (t sz j : Nat) : List Int := (b.drop (t + j * sz)).take sz

/-- Each of the first k cells is a slice of its own, with its piece. -/
def Pieces (w : World) (base : Nat) (b : List Int) (t sz k : Nat) (cells : List Value) : Prop :=
  ∀ j, j < k → ∃ A c, cells[j]? = some (.slice A sz c) ∧ w.ownsRow base 5 1 (.slice A sz c) sz ((piece b t sz j).map (Value.int .u8))

theorem Pieces.grown_some {w w' : World} {base p : Nat} {b : List Int} {t sz k : Nat} {cells : List Value} (h : Pieces w base b t sz k cells) (hg : w.grownBy w' (some p)) (hp : p < base) : Pieces w' base b t sz k cells := fun j hj => by
  obtain ⟨A, c, h1, h2⟩ := h j hj
  exact ⟨A, c, h1, own_grown_some h2 hg hp⟩
theorem Pieces.below {w w' : World} {base : Nat} {b : List Int} {t sz k : Nat} {cells : List Value} (h : Pieces w base b t sz k cells) (hb : Below w.heap.size w w') : Pieces w' base b t sz k cells := fun j hj => by
  obtain ⟨A, c, h1, h2⟩ := h j hj
  exact ⟨A, c, h1, own_below h2 hb⟩
theorem Pieces.other {w w' : World} {base b' : Nat} {b : List Int} {t sz k : Nat} {cells : List Value} {v' : Value} {s' n' : Nat} {xs' : List Value} (h : Pieces w base b t sz k cells) (ho : w.ownsRow b' 22 s' v' n' xs') (hg : w.grownBy w' v'.ownBlock) : Pieces w' base b t sz k cells := fun j hj => by
  obtain ⟨A, c, h1, h2⟩ := h j hj
  exact ⟨A, c, h1, own_other_type h2 ho (by decide) hg⟩
theorem Pieces.snoc {w : World} {base : Nat} {b : List Int} {t sz k : Nat} {cells : List Value} {A : Option Addr} {c : Nat} (h : Pieces w base b t sz k cells) (hl : cells.length = k) (ho : w.ownsRow base 5 1 (.slice A sz c) sz ((piece b t sz k).map (Value.int .u8))) : Pieces w base b t sz (k + 1) (cells ++ [.slice A sz c]) := fun j hj => by
  by_cases e : j < k
  · obtain ⟨A, c, h1, h2⟩ := h j e
    exact ⟨A, c, by rw [List.getElem?_append_left (by omega)]; exact h1, h2⟩
  · obtain rfl : j = k := by omega
    exact ⟨A, c, by rw [List.getElem?_append_right (by omega), hl]; simp, ho⟩

set_option maxHeartbeats 1000000 in
set_option maxRecDepth 100000 in
theorem many_any (w : World) (k sz : Nat) {p : Nat} {b : List Int} {t : Nat} {A : Option Addr} {n c : Nat} (h : TapeAt w p b t A n c) (hk : t + k * sz ≤ n) (hkk : k ≤ 4096) :
    Calls Try.prog 53 #[.int .i64 k, .int .i64 sz, .func (.func 24) #[.pointer (some ⟨p, 0, none⟩)] #[]] w fun e w' => ∃ A' c' cells, e = .returned (.slice A' k c') ∧
      w.grownBy w' (some p) ∧ TapeAt w' p b (t + k * sz) A n c ∧ w'.ownsRow w.heap.size 22 1 (.slice A' k c') k cells ∧ Pieces w' w.heap.size b t sz k cells := by
  have H := As.mk h
  have HK := As.mk hk
  have hp := h.lt
  clear h hk
  go_enter Try.func53, Try.ntmps53
  go_wp2
  go_loopg [7, 11] k (fun kq v7 v11 wr => ∃ (i : Nat) (cells : List Value), i + kq = k ∧ v11 = .int .i64 i ∧ As (w.grownBy wr (some p)) ∧ As (TapeAt wr p b (t + i * sz) A n c) ∧ As (wr.ownsRow w.heap.size 22 1 v7 i cells) ∧ As (Pieces wr w.heap.size b t sz i cells))
  case atStart => exact ⟨0, [], by omega, rfl, ⟨grown_refl w _⟩, ⟨by simpa using H.out⟩, ⟨World.ownsRow_nil _ _ _ _⟩, ⟨fun j hj => by omega⟩⟩
  case round =>
    obtain ⟨i, cells, hi, rfl, HG, HT, HO, HP⟩ := hrel
    have HI := As.mk hi
    clear hi
    by_cases hlt : i < k
    · have c0 : decide ((i : Int) < (k : Int)) = true := decide_eq_true (by omega)
      have c1 : decide (i < k) = true := decide_eq_true hlt
      have hroom : t + i * sz + sz ≤ n := by
        have : i * sz + sz ≤ k * sz := by rw [← Nat.succ_mul]; exact Nat.mul_le_mul_right _ (by omega)
        have := HK.out
        omega
      have HRM := As.mk hroom
      clear hroom
      have hw : wrap64 ((i : Int) + 1) = ((i + 1 : Nat) : Int) := wrap_up (by omega)
      have HN := As.mk (show i + 1 ≤ 4096 by omega)
      go_wp2_with (first
        | (go_at_call 24; (with_reducible refine (draw_ok _ sz HT.out HRM.out).mono ?_); rintro e w3 ⟨A2, c2, rfl, hg, ht2, ho⟩; have HG3 := As.mk hg; have HT3 := As.mk ht2; have HO3 := As.mk ho; clear hg ht2 ho)
        | (at_builtin; refine wpList_app rfl _ _ 40 rfl w.heap.size 22 (.slice none 0 0) 1 24 Try.underlying40 info22 rfl (by decide) _ i cells rfl ((own_grown_some HO.out HG3.out hp).alloc _) _ 1 [.slice A2 sz c2] rfl (Src.cell (heap_alloc_new w3 _) rfl) ?c1 ?c2 ?c3 (Below.refl w.heap.size _) (Nat.le_refl _) ?_; (case c1 => have := HN.out; unfold maxLen; omega); (case c2 => have := HN.out; omega); (case c3 => have a1 := HG.out.size; have a2 := HG3.out.size; simp; omega); intro v4 w4 hown hg hat hb; have HO4 := As.mk hown; have HG4 := As.mk hg; have HB4 := As.mk hb; clear hown hg hat hb))
      go_roundg (k - (i + 1))
      case measure => have := HI.out; omega
      case rel =>
        have b3 : Below w3.heap.size w3 (w3.alloc (.cells #[.slice A2 sz c2] 22)) := below_alloc (Below.refl _ _) _
        have o7 := (own_grown_some HO.out HG3.out hp).alloc (.cells #[.slice A2 sz c2] 22)
        refine ⟨i + 1, _, by have := HI.out; omega, by go_num, ⟨grownBy_belowB (grownBy_below (grownBy_trans HG.out HG3.out) b3) HB4.out⟩, ⟨?_⟩, HO4, ⟨Pieces.snoc ?_ (by simpa using HO.out.1) ?_⟩⟩
        · rw [show t + (i + 1) * sz = t + i * sz + sz by rw [Nat.succ_mul]; omega]
          exact (HT3.out.below b3).belowB HB4.out hp
        · exact ((HP.out.grown_some HG3.out hp).below b3).other o7 HG4.out
        · exact own_other_type (own_below (own_weaken HO3.out HG.out.size) b3) o7 (by decide) HG4.out
    · have c0 : decide ((i : Int) < (k : Int)) = false := decide_eq_false (by omega)
      have c1 : decide (i < k) = false := decide_eq_false hlt
      obtain rfl : i = k := by have := HI.out; omega
      obtain ⟨A9, c9, rfl⟩ := own_slice HO.out
      clear HI
      go_wp2
      go_ret
      exact ⟨_, _, _, rfl, HG.out, HT.out, HO.out, HP.out⟩

theorem keys_nil (w : World) (k sz : Int) :
    Calls Try.prog 28 #[.pointer none, .int .i64 k, .int .i64 sz] w fun e w' => e = .returned (.tuple #[.slice none 0 0, .int .i64 1]) ∧ w = w' := by
  go_enter Try.func28, Try.ntmps28
  go_wp2_with (go_at_call 52; (with_reducible refine (made_nil _).mono ?_); rintro e w1 ⟨rfl, rfl⟩)
  go_ret2
  exact ⟨rfl, rfl⟩

/-- Which numbers and sizes are none. -/
def bad (k sz : Int) : Prop := k < 0 ∨ 4096 < k ∨ sz < 1 ∨ 64 < sz

theorem keys_arg (w : World) (k sz : Int) {p : Nat} {b : List Int} {t : Nat} {A : Option Addr} {n c : Nat} (h : TapeAt w p b t A n c) (hb : bad k sz) :
    Calls Try.prog 28 #[.pointer (some ⟨p, 0, none⟩), .int .i64 k, .int .i64 sz] w fun e w' => e = .returned (.tuple #[.slice none 0 0, .int .i64 2]) ∧ w = w' := by
  have H := As.mk h
  clear h
  rcases hb with hb | hb | hb | hb
  · have d0 : decide (k < 0) = true := decide_eq_true hb
    go_enter Try.func28, Try.ntmps28
    go_wp2_with (go_at_call 52; (with_reducible refine (made_any _ H.out).mono ?_); rintro e w1 ⟨rfl, rfl⟩)
    go_ret2
    exact ⟨rfl, rfl⟩
  · have d0 : decide (k < 0) = false := decide_eq_false (by omega)
    have d1 : decide (4096 < k) = true := decide_eq_true hb
    go_enter Try.func28, Try.ntmps28
    go_wp2_with (go_at_call 52; (with_reducible refine (made_any _ H.out).mono ?_); rintro e w1 ⟨rfl, rfl⟩)
    go_ret2
    exact ⟨rfl, rfl⟩
  · by_cases h0 : k < 0
    · have d0 : decide (k < 0) = true := decide_eq_true h0
      go_enter Try.func28, Try.ntmps28
      go_wp2_with (go_at_call 52; (with_reducible refine (made_any _ H.out).mono ?_); rintro e w1 ⟨rfl, rfl⟩)
      go_ret2
      exact ⟨rfl, rfl⟩
    · have d0 : decide (k < 0) = false := decide_eq_false h0
      by_cases h1 : 4096 < k
      · have d1 : decide (4096 < k) = true := decide_eq_true h1
        go_enter Try.func28, Try.ntmps28
        go_wp2_with (go_at_call 52; (with_reducible refine (made_any _ H.out).mono ?_); rintro e w1 ⟨rfl, rfl⟩)
        go_ret2
        exact ⟨rfl, rfl⟩
      · have d1 : decide (4096 < k) = false := decide_eq_false h1
        have d2 : decide (sz < 1) = true := decide_eq_true hb
        go_enter Try.func28, Try.ntmps28
        go_wp2_with (go_at_call 52; (with_reducible refine (made_any _ H.out).mono ?_); rintro e w1 ⟨rfl, rfl⟩)
        go_ret2
        exact ⟨rfl, rfl⟩
  · by_cases h0 : k < 0
    · have d0 : decide (k < 0) = true := decide_eq_true h0
      go_enter Try.func28, Try.ntmps28
      go_wp2_with (go_at_call 52; (with_reducible refine (made_any _ H.out).mono ?_); rintro e w1 ⟨rfl, rfl⟩)
      go_ret2
      exact ⟨rfl, rfl⟩
    · have d0 : decide (k < 0) = false := decide_eq_false h0
      by_cases h1 : 4096 < k
      · have d1 : decide (4096 < k) = true := decide_eq_true h1
        go_enter Try.func28, Try.ntmps28
        go_wp2_with (go_at_call 52; (with_reducible refine (made_any _ H.out).mono ?_); rintro e w1 ⟨rfl, rfl⟩)
        go_ret2
        exact ⟨rfl, rfl⟩
      · have d1 : decide (4096 < k) = false := decide_eq_false h1
        have d2 : decide (sz < 1) = false := decide_eq_false (by omega)
        have d3 : decide (64 < sz) = true := decide_eq_true hb
        go_enter Try.func28, Try.ntmps28
        go_wp2_with (go_at_call 52; (with_reducible refine (made_any _ H.out).mono ?_); rintro e w1 ⟨rfl, rfl⟩)
        go_ret2
        exact ⟨rfl, rfl⟩

theorem mul_named (k sz : Nat) (h : k * sz ≤ 140737488351232) : ∃ m : Nat, m = k * sz ∧ IntKind.i64.wrap ((k : Int) * sz) = (m : Int) ∧ wrap64 ((k : Int) * sz) = (m : Int) :=
  ⟨k * sz, rfl, by rw [IntKind.wrap_i64, ← Int.natCast_mul]; omega, by rw [← Int.natCast_mul]; unfold wrap64; omega⟩
theorem small (k sz : Nat) (h1 : k ≤ 4096) (h2 : sz ≤ 64) : k * sz ≤ 262144 := Nat.mul_le_mul h1 h2

theorem keys_dry (w : World) (k sz : Nat) {p : Nat} {b : List Int} {t : Nat} {A : Option Addr} {n c : Nat} (h : TapeAt w p b t A n c) (h1 : k ≤ 4096) (h2 : 1 ≤ sz) (h3 : sz ≤ 64) (hd : n < t + k * sz) :
    Calls Try.prog 28 #[.pointer (some ⟨p, 0, none⟩), .int .i64 k, .int .i64 sz] w fun e w' => e = .returned (.tuple #[.slice none 0 0, .int .i64 22]) ∧ ∃ nd, w' = w.drewN nd := by
  obtain ⟨m, hm, hs', hs⟩ := mul_named k sz (by have := small k sz h1 h3; omega)
  have H := As.mk h
  have hc : can (m : Int) n t = false := by unfold can; rw [decide_eq_false (p := (m : Int) ≤ (n : Int) - t) (by clear hs hs'; omega)]; simp
  have d0 : decide ((k : Int) < 0) = false := decide_eq_false (by clear hs hs'; omega)
  have d1 : decide (4096 < (k : Int)) = false := decide_eq_false (by clear hs hs'; omega)
  have d2 : decide ((sz : Int) < 1) = false := decide_eq_false (by clear hs hs'; omega)
  have d3 : decide (64 < (sz : Int)) = false := decide_eq_false (by clear hs hs'; omega)
  clear h h1 h2 h3 hd hm
  go_enter Try.func28, Try.ntmps28
  go_wp2_with (first
    | (go_at_call 52; (with_reducible refine (made_any _ H.out).mono ?_); rintro e w1 ⟨rfl, rfl⟩)
    | (go_at_call 23; (with_reducible refine (can_any _ (m : Int) H.out).mono ?_); rintro e w1 ⟨rfl, n1, rfl⟩; rw [hc]))
  go_ret2
  exact ⟨rfl, _, rfl⟩

theorem keys_ok (w : World) (k sz : Nat) {p : Nat} {b : List Int} {t : Nat} {A : Option Addr} {n c : Nat} (h : TapeAt w p b t A n c) (h1 : k ≤ 4096) (h2 : 1 ≤ sz) (h3 : sz ≤ 64) (hd : t + k * sz ≤ n) :
    Calls Try.prog 28 #[.pointer (some ⟨p, 0, none⟩), .int .i64 k, .int .i64 sz] w fun e w' => ∃ A' c' cells, e = .returned (.tuple #[.slice A' k c', .int .i64 0]) ∧
      w.grownBy w' (some p) ∧ TapeAt w' p b (t + k * sz) A n c ∧ w'.ownsRow w.heap.size 22 1 (.slice A' k c') k cells ∧ Pieces w' w.heap.size b t sz k cells := by
  obtain ⟨m, hm, hs', hs⟩ := mul_named k sz (by have := small k sz h1 h3; omega)
  have H := As.mk h
  have hc : can (m : Int) n t = true := by unfold can; rw [decide_eq_true (p := (m : Int) ≤ (n : Int) - t) (by clear hs hs'; omega), decide_eq_true (by clear hs hs'; omega)]; rfl
  have d0 : decide ((k : Int) < 0) = false := decide_eq_false (by clear hs hs'; omega)
  have d1 : decide (4096 < (k : Int)) = false := decide_eq_false (by clear hs hs'; omega)
  have d2 : decide ((sz : Int) < 1) = false := decide_eq_false (by clear hs hs'; omega)
  have d3 : decide (64 < (sz : Int)) = false := decide_eq_false (by clear hs hs'; omega)
  have HD := As.mk hd
  have H1 := As.mk h1
  clear h h1 h2 h3 hd hm
  go_enter Try.func28, Try.ntmps28
  go_wp2_with (first
    | (go_at_call 52; (with_reducible refine (made_any _ H.out).mono ?_); rintro e w1 ⟨rfl, rfl⟩)
    | (go_at_call 23; (with_reducible refine (can_any _ (m : Int) H.out).mono ?_); rintro e w1 ⟨rfl, n1, rfl⟩; rw [hc])
    | (go_at_call 53; (with_reducible refine (many_any _ k sz (H.out.drewN _) HD.out H1.out).mono ?_); rintro e w2 ⟨A', c', cells, rfl, hg, ht, ho, hp⟩))
  go_ret2
  exact ⟨_, _, _, rfl, ⟨hg.os, hg.tape, hg.output, hg.size, hg.block⟩, ht, ho, hp⟩

end Go.Proofs.Ytpijkibhjklkoaa.TapeMany
