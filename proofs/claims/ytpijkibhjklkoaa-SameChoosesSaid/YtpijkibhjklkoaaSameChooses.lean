/- SameChooses: the law's walk. -/
import Derived.Test.YtpijkibhjklkoaaSameLessWalk
import Derived.Test.YtpijkibhjklkoaaChoose
import Derived.Test.YtpijkibhjklkoaaRefSame
import Derived.Laws.AppendOwn
import Derived.Deep.Cut
import Derived.Deep.CutBlock
import Derived.Deep.DeepCutAuto
namespace Go.Proofs.Ytpijkibhjklkoaa.SameChooses
open Go Go.RowKit Go.Proofs.Ytpijkibhjklkoaa.Mem Go.Proofs.Ytpijkibhjklkoaa.Choose

theorem awake_true (w : World) : Calls Try.prog 15 #[] w fun e w' => e = .returned (.bool true) ∧ Below w.heap.size w w' := SameLessWalk.awake_true w

set_option maxHeartbeats 400000 in
set_option maxRecDepth 100000 in
theorem far_one (first : Bool) (A B : Option Addr) (n m c d : Nat) (w : World) (h : 300 < n ∨ 300 < m) :
    Calls Try.prog 6 #[.slice A n c, .slice B m d, .bool first] w fun e w' => e = .returned (.bool true) ∧ Below w.heap.size w w' := by
  by_cases h3 : 300 < n
  · have d3 : decide (300 < (n : Int)) = true := decide_eq_true (by omega)
    have d3' : decide (300 < n) = true := decide_eq_true (by omega)
    clear h
    go_enter Try.func6, Try.ntmps6
    go_wp2_with (go_at_call 15; refine (awake_true _).mono ?_; rintro e w1 ⟨rfl, hb⟩)
    go_ret
    exact ⟨rfl, hb⟩
  · have d3 : decide (300 < (n : Int)) = false := decide_eq_false (by omega)
    have d3' : decide (300 < n) = false := decide_eq_false (by omega)
    have d4 : decide (300 < (m : Int)) = true := decide_eq_true (by omega)
    have d4' : decide (300 < m) = true := decide_eq_true (by omega)
    clear h
    go_enter Try.func6, Try.ntmps6
    go_wp2_with (go_at_call 15; refine (awake_true _).mono ?_; rintro e w1 ⟨rfl, hb⟩)
    go_ret
    exact ⟨rfl, hb⟩

set_option maxHeartbeats 400000 in
set_option maxRecDepth 100000 in
theorem unlike_one (first : Bool) (A B : Option Addr) (n m c d : Nat) (w : World) (h3 : n ≤ 300) (h4 : m ≤ 300) (hl : n ≠ m) :
    Calls Try.prog 6 #[.slice A n c, .slice B m d, .bool first] w fun e w' => e = .returned (.bool true) ∧ Below w.heap.size w w' := by
  have c3b0 : ((n : Int) == (m : Int)) = false := beq_eq_false_iff_ne.mpr (by omega)
  have c3b1 : ((n : Int) != (m : Int)) = true := bne_iff_ne.mpr (by omega)
  have c3b2 : (n == m) = false := beq_eq_false_iff_ne.mpr (by omega)
  have HL := As.mk hl
  clear hl
  go_enter Try.func6, Try.ntmps6
  go_wp2_with (first
    | (go_at_call 15; refine (awake_true _).mono ?_; rintro e w1 ⟨rfl, hb⟩)
    | (go_at_call 27; (with_reducible refine (unlike first A B n m c d _ HL.out).mono ?_); rintro e w2 ⟨rfl, rfl⟩))
  go_ret
  exact ⟨rfl, hb⟩

set_option maxHeartbeats 800000 in
set_option maxRecDepth 100000 in
theorem like_one (x y : List Int) (first : Bool) (A B : Option Addr) (n c d : Nat) (w : World) (h3 : n ≤ 300) (hx : Byte x) (hy : Byte y) (h0 : Rd .u8 w A n c x) (h1 : Rd .u8 w B n d y) :
    Calls Try.prog 6 #[.slice A n c, .slice B n d, .bool first] w fun e w' => e = .returned (.bool true) ∧ Below w.heap.size w w' := by
  have d3 : decide (300 < (n : Int)) = false := decide_eq_false (by omega)
  have HX := As.mk hx
  have HY := As.mk hy
  clear hx hy
  obtain ⟨z, Z, cz, hz⟩ : ∃ (z : List Int) (Z : Option Addr) (cz : Nat), z = (if first then x else y) ∧ Z = (if first then A else B) ∧ cz = (if first then c else d) := ⟨_, _, _, rfl, rfl, rfl⟩
  have HZ : As (Rd .u8 w Z n cz z) := by
    obtain ⟨rfl, rfl, rfl⟩ := hz
    cases first
    · exact ⟨h1⟩
    · exact ⟨h0⟩
  have HPZ : As (∀ j, pickd first x y j = nth z j) := by
    obtain ⟨rfl, rfl, rfl⟩ := hz
    exact ⟨fun j => by unfold pickd; cases first <;> rfl⟩
  have HF := As.mk hz
  clear hz
  go_enter Try.func6, Try.ntmps6
  go_upto_if 43 with (first
    | (go_at_call 15; refine (awake_true _).mono ?_; rintro e w1 ⟨rfl, hb⟩; have H0 := As.mk (h0.below hb); have H1 := As.mk (h1.below hb); have H2 := As.mk (HZ.out.below hb); have HB := As.mk hb; clear h0 h1 hb)
    | (go_at_call 27; (with_reducible refine (like first x y A B n c d _ (by omega) HX.out HY.out H0.out H1.out).mono ?_); rintro e w2 ⟨rfl, hb2, hr2⟩; have HB2 := As.mk hb2; have HR2 := As.mk hr2; clear hb2 hr2))
  go_cut [9] (fun v9 wc => v9 = .slice Z n cz ∧ wc = w2)
  case first =>
    cases first
    · go_wp2
      go_meet
      case rel => obtain ⟨rfl, rfl, rfl⟩ := HF.out; exact ⟨rfl, rfl⟩
    · go_wp2
      go_meet
      case rel => obtain ⟨rfl, rfl, rfl⟩ := HF.out; exact ⟨rfl, rfl⟩
  case rest =>
    obtain ⟨rfl, rfl⟩ := hcut
    have HR3 : As (Rd .u8 wc (some ⟨w1.heap.size, 0, none⟩) n n z) := ⟨Rd.of_row HR2.out HZ.out.len (Nat.le_refl _) (Nat.le_refl _) (by unfold maxLen; omega) (fun j _ => by rw [HPZ.out])⟩
    have HZ2 := As.mk (H2.out.below HB2.out)
    have hsz : w1.heap.size < wc.heap.size := HR2.out.lt
    go_wp2_with (first
      | (go_at_call 18; (with_reducible refine (RefSame.same_any z z _ _ n n _ _ _ true (by omega) (by simp) HR4.out HZ4.out).mono ?_); rintro e w4 ⟨rfl, n4, rfl⟩)
      | (at_builtin; (refine wpList_app rfl _ _ 22 rfl wc.heap.size 5 (.int .u8 0) 1 1 Try.underlying22 info5 rfl (by decide) _ 0 [] rfl (World.ownsRow_lit wc #[] 0 (Nat.le_refl _) (by decide) rfl) _ n (z.map (Value.int .u8)) rfl (Src.rd ((HZ2.out.below (below_alloc (Below.refl _ _) _)))) ?c1 ?c2 ?c3 (below_alloc (Below.refl _ wc) _) (Nat.le_refl _) ?_; (case c1 => unfold maxLen; omega); (case c2 => omega); (case c3 => simp); intro v3 w3 hown hg hat hb3; have HB3 := As.mk hb3; clear hg hat hb3; simp only [Nat.zero_add, List.nil_append] at hown; have HO := As.mk hown; clear hown; have HR4 := As.mk (HR3.out.below HB3.out); have HZ4 := As.mk (HZ2.out.below HB3.out); have hsz3 := HB3.out.size)))
    go_loopg [57] n (fun kq v57 wr => ∃ i : Nat, i + kq = n ∧ v57 = .int .i64 i ∧ As (Below w1.heap.size w1 wr) ∧ As (wr.ownsRow wc.heap.size 5 1 v3 n (z.map (Value.int .u8))) ∧ As (∃ h : Nat → Int, wr.rowIs w1.heap.size 5 n (fun j => .int .u8 (h j))))
    case atStart => exact ⟨0, by omega, rfl, ⟨below_drewN (below_step HB2.out HB3.out) _⟩, ⟨own_below HO.out (below_drewN (Below.refl _ _) _)⟩, ⟨_, rowIs_drewN (rowIs_below HR2.out HB3.out) _⟩⟩
    case round =>
      obtain ⟨i, hi, rfl, HBr, HOr, HRr⟩ := hrel
      have HK := As.mk hi
      clear hi
      by_cases hlt : i < n
      · have c0 : decide ((i : Int) < (n : Int)) = true := decide_eq_true (by omega)
        have c1 : decide (i < n) = true := decide_eq_true hlt
        obtain ⟨h, hrow⟩ := HRr.out
        have t1 : wr.cell? ⟨w1.heap.size, i, none⟩ = some (.int .u8 (h i)) := hrow.cell hlt
        have t2 : wr.frozen? ⟨w1.heap.size, i, none⟩ = false := hrow.frozen i
        have HRW := As.mk hrow
        clear hrow
        have hw : wrap64 ((i : Int) + 1) = ((i + 1 : Nat) : Int) := wrap_up (by omega)
        go_wp2
        go_roundg (n - (i + 1))
        case measure => have := HK.out; omega
        case rel => exact ⟨i + 1, by omega, by go_num, ⟨HBr.out.setCell (Nat.le_refl _) _⟩, ⟨ownsRow_setCell_below HOr.out (by show w1.heap.size < wc.heap.size; omega) _⟩, ⟨fun j => if j = i then (h i + 1) % 256 else h j, (HRW.out.set i _).congr (fun j _ => by
          show _ = Value.int .u8 (if j = i then _ else _)
          by_cases e : j = i
          · rw [if_pos e, if_pos e]
          · rw [if_neg e, if_neg e])⟩⟩
      · have c0 : decide ((i : Int) < (n : Int)) = false := decide_eq_false (by omega)
        have c1 : decide (i < n) = false := decide_eq_false hlt
        obtain ⟨AA, ca, rfl, hra⟩ := own_rd HOr.out
        have HRA := As.mk hra
        have HZ5 := As.mk (H2.out.below HBr.out)
        clear hra
        go_wp2_with (go_at_call 18; (with_reducible refine (RefSame.same_any z z _ _ n n _ _ _ true (by omega) (by simp) HZ5.out HRA.out).mono ?_); rintro e w5 ⟨rfl, n5, rfl⟩)
        go_ret
        exact ⟨rfl, below_drewN (below_step HB.out HBr.out) _⟩

theorem law_any (x y : List Int) (first : Bool) (A B : Option Addr) (n m c d : Nat) (w : World) (hx : Byte x) (hy : Byte y) (h0 : Rd .u8 w A n c x) (h1 : Rd .u8 w B m d y) :
    Calls Try.prog 6 #[.slice A n c, .slice B m d, .bool first] w fun e w' => e = .returned (.bool true) ∧ Below w.heap.size w w' := by
  by_cases h : 300 < n ∨ 300 < m
  · exact far_one first A B n m c d w h
  · by_cases hl : n = m
    · subst hl
      exact like_one x y first A B n c d w (by omega) hx hy h0 h1
    · exact unlike_one first A B n m c d w (by omega) (by omega) hl

/-- the walk, as the row wants it -/
theorem walk (a0 : Option Addr) (len0 cap0 : Nat) (x0 : List Int) (a1 : Option Addr) (len1 cap1 : Nat) (x1 : List Int) (first : Bool) (w : World) (f0 : Rd .u8 w a0 len0 cap0 x0) (g0 : ∀ n ∈ x0, (Lit.int .u8 n).wf = true) (_ : len0 * 1 ≤ 140737488351232)
    (f1 : Rd .u8 w a1 len1 cap1 x1) (g1 : ∀ n ∈ x1, (Lit.int .u8 n).wf = true) (_ : len1 * 1 ≤ 140737488351232) :
    Calls Try.prog 6 #[.slice a0 len0 cap0, .slice a1 len1 cap1, .bool first] w fun e w' => e = .returned (.bool true) ∧ Below w.heap.size w w' :=
  law_any x0 x1 first a0 a1 len0 len1 cap0 cap1 w (byte_of g0) (byte_of g1) f0 f1

end Go.Proofs.Ytpijkibhjklkoaa.SameChooses
