/- chatelaineref05: numbers of digits, multiplied; the law in plain functions. -/
import Derived.Test.YtpijkibhjklkoaaShaParts
import Derived.Test.YtpijkibhjklkoaaRefSum
import Derived.Test.YtpijkibhjklkoaaLift
import Derived.Deep.RegionHeld2
namespace Go.Proofs.Ytpijkibhjklkoaa.Roots
set_option linter.unusedVariables false
set_option linter.unusedSimpArgs false
open Go Go.RowKit Go.Proofs.Ytpijkibhjklkoaa.Mem Go.Proofs.Ytpijkibhjklkoaa.Put32 Go.Proofs.Ytpijkibhjklkoaa.Pad Go.Proofs.Ytpijkibhjklkoaa.Sum Go.Proofs.Ytpijkibhjklkoaa.RefWith Go.Proofs.Ytpijkibhjklkoaa.ShaParts

/-- one step of a row: the digits, and what is carried -/
def tin (ai : Int) (b : List Int) (i : Nat) (L : List Int) : Nat → List Int × Int
  | 0 => (L, 0)
  | k + 1 => match tin ai b i L k with
    | (M, c) => (M.set (i + k) (Int.tmod (wrap64 (wrap64 (nth M (i + k) + wrap64 (ai * nth b k)) + c)) 65536), wrap64 (Int.tdiv (wrap64 (wrap64 (nth M (i + k) + wrap64 (ai * nth b k)) + c)) 65536))
def tout (a b : List Int) : Nat → List Int
  | 0 => List.replicate (a.length + b.length) 0
  | i + 1 => match tin (nth a i) b i (tout a b i) b.length with
    | (M, c) => M.set (i + b.length) (wrap64 (nth M (i + b.length) + c))
def timesF (a b : List Int) : List Int := tout a b a.length
theorem tin_len (ai : Int) (b : List Int) (i : Nat) (L : List Int) : ∀ k, (tin ai b i L k).1.length = L.length
  | 0 => rfl
  | k + 1 => by
    have := tin_len ai b i L k
    unfold tin
    split
    next M c h => rw [h] at this; rw [List.length_set]; exact this
theorem tout_len (a b : List Int) : ∀ i, (tout a b i).length = a.length + b.length
  | 0 => by rw [tout, List.length_replicate]
  | i + 1 => by
    have := tout_len a b i
    have h2 := tin_len (nth a i) b i (tout a b i) b.length
    unfold tout
    split
    next M c h => rw [h] at h2; rw [List.length_set, ← this]; exact h2
theorem timesF_len (a b : List Int) : (timesF a b).length = a.length + b.length := tout_len a b _
theorem tin_succ {ai : Int} {b : List Int} {i : Nat} {L : List Int} {k : Nat} {M : List Int} {c : Int} (h : tin ai b i L k = (M, c)) :
    tin ai b i L (k + 1) = (M.set (i + k) (Int.tmod (wrap64 (wrap64 (nth M (i + k) + wrap64 (ai * nth b k)) + c)) 65536), wrap64 (Int.tdiv (wrap64 (wrap64 (nth M (i + k) + wrap64 (ai * nth b k)) + c)) 65536)) := by
  rw [tin, h]
theorem tout_succ {a b : List Int} {i : Nat} {M : List Int} {c : Int} (h : tin (nth a i) b i (tout a b i) b.length = (M, c)) : tout a b (i + 1) = M.set (i + b.length) (wrap64 (nth M (i + b.length) + c)) := by
  rw [tout, h]
/-- a block of whole numbers -/
def intsA (L : List Int) : Array Value := (L.map (Value.int .i64)).toArray
theorem intsA_at (L : List Int) (j : Nat) (h : j < L.length) : (intsA L)[j]? = some (.int .i64 (nth L j)) := by
  rw [intsA, List.getElem?_toArray, List.getElem?_map, List.getElem?_eq_getElem h, nth, List.getD_eq_getElem?_getD, List.getElem?_eq_getElem h]
  rfl
theorem intsA_set (L : List Int) (j : Nat) (v : Int) : (intsA L).setIfInBounds j (.int .i64 v) = intsA (L.set j v) := by
  rw [intsA, intsA, List.setIfInBounds_toArray, List.map_set]
theorem intsA_rd {w : World} {b : Nat} {T : TypeId} {x : List Int} {n : Nat} (h : w.heap[b]? = some (.cells (intsA x) T (0, 0))) (hl : x.length = n) (hn : n ≤ maxLen) : Rd .i64 w (some ⟨b, 0, none⟩) n n x :=
  ⟨hl, Nat.le_refl _, hn, fun _ => ⟨_, rfl, fun j hj => by rw [Addr.add_lit, Nat.zero_add, cell_of_row w b j _ _ _ h, intsA_at x j (by omega)]⟩⟩
theorem infoI : (Try.prog.info? 3).map (fun i => (i.zero, i.size, i.bytes)) = some (some (.int .i64 0), 1, 8) := by kernel_rfl

theorem ints_made (l : Nat) : intsA (List.replicate l 0) = madeCells #[.int .i64 0] l := by
  apply Array.ext
  · simp [intsA, madeCells]
  · intro i h1 h2
    have h3 : i % 1 = 0 := Nat.mod_one i
    simp [intsA, madeCells, h3]
set_option maxHeartbeats 2000000 in
set_option maxRecDepth 100000 in
theorem times_any (a b : List Int) (A B : Option Addr) (n c m d : Nat) (w : World) (hn : n ≤ 1000) (hm : m ≤ 1000) (h0 : Rd .i64 w A n c a) (h1 : Rd .i64 w B m d b) :
    Calls Try.prog 68 #[.slice A n c, .slice B m d] w fun e w' => e = .returned (.slice (some ⟨w.heap.size, 0, none⟩) (n + m) (n + m)) ∧ Below w.heap.size w w' ∧ w'.heap[w.heap.size]? = some (.cells (intsA (timesF a b)) 3 (0, 0)) := by
  obtain ⟨ti, hi, hz, hh1, hh2⟩ := info_parts infoI
  have la := h0.len
  have lb := h1.len
  obtain ⟨l, hl⟩ : ∃ l, l = n + m := ⟨_, rfl⟩
  rw [← hl]
  have el : wrap64 ((n : Int) + (m : Int)) = (l : Int) := by rw [show (n : Int) + (m : Int) = (l : Int) by omega]; exact wid l (by omega)
  have HL := As.mk hl
  have HN := As.mk hn
  have HM := As.mk hm
  have H0 := As.mk h0
  have H1 := As.mk h1
  have LA := As.mk la
  have LB := As.mk lb
  have HB0 := As.mk (below_alloc (Below.refl w.heap.size w) (.cells (madeCells #[.int .i64 0] l) 3))
  have HZ0 : As ((w.alloc (.cells (madeCells #[.int .i64 0] l) 3)).heap[w.heap.size]? = some (.cells (intsA (tout a b 0)) 3 (0, 0))) := ⟨by
    rw [show intsA (tout a b 0) = madeCells #[.int .i64 0] l by rw [tout, la, lb, ← hl]; exact ints_made l]
    exact heap_alloc_new w _⟩
  clear hl hn hm h0 h1 la lb
  go_enter Try.func68, Try.ntmps68
  go_wp2_with (refine wpList_make_row _ rfl _ _ 30 rfl 3 ti (.int .i64 0) Try.underlying30 hi hz hh1 rfl .i64 .i64 l (congrArg (Value.int .i64) el) (congrArg (Value.int .i64) el) (by rw [hh2]; have := HL.out; have := HN.out; have := HM.out; omega) (by have := HL.out; have := HN.out; have := HM.out; omega) ?_; refine As.out ?_)
  refine As.mk ?_
  generalize w.alloc _ = w0 at *
  go_wp2
  clear hi hz hh1 hh2
  go_loopg [6] n (fun kq v6 wr => ∃ i : Nat, i + kq = n ∧ v6 = .int .i64 i ∧ As (wr.heap[w.heap.size]? = some (.cells (intsA (tout a b i)) 3 (0, 0))) ∧ As (Below w.heap.size w wr))
  case atStart => exact ⟨0, by omega, rfl, HZ0, HB0⟩
  case round =>
    clear HZ0 HB0
    obtain ⟨i, hi, rfl, HZ, HB⟩ := hrel
    have HI := As.mk hi
    clear hi
    by_cases hlt : i < n
    · have c0 : decide ((i : Int) < (n : Int)) = true := decide_eq_true (by omega)
      have c1 : decide (i < n) = true := decide_eq_true hlt
      have hw : wrap64 ((i : Int) + 1) = ((i + 1 : Nat) : Int) := wrap_up (by have := HN.out; omega)
      have HLT := As.mk hlt
      obtain ⟨wo, rfl⟩ : ∃ wo : World, wo = wr := ⟨_, rfl⟩
      obtain ⟨L, hL⟩ : ∃ L, L = tout a b i := ⟨_, rfl⟩
      have LL := As.mk (show L.length = l by rw [hL, tout_len, LA.out, LB.out, HL.out])
      rw [← hL] at HZ
      have HTL := As.mk hL
      clear hL hlt
      go_wp2
      go_loopg [7, 8] m (fun kq v7 v8 wr => ∃ (k : Nat) (M : List Int) (cr : Int), k + kq = m ∧ v7 = .int .i64 cr ∧ v8 = .int .i64 k ∧ As (tin (nth a i) b i L k = (M, cr)) ∧ As (wr.heap[w.heap.size]? = some (.cells (intsA M) 3 (0, 0))) ∧ As (Below w.heap.size w wr))
      case atStart => exact ⟨0, L, 0, by omega, rfl, rfl, ⟨rfl⟩, HZ, HB⟩
      case round =>
        clear HZ HB
        obtain ⟨k, M, cr, hk, rfl, rfl, HT, HZ, HB⟩ := hrel
        have HK := As.mk hk
        clear hk
        have LM := As.mk (show M.length = l by have := tin_len (nth a i) b i L k; rw [HT.out] at this; rw [this]; exact LL.out)
        by_cases hlt : k < m
        · have d0 : decide ((k : Int) < (m : Int)) = true := decide_eq_true (by omega)
          have d1 : decide (k < m) = true := decide_eq_true hlt
          have hw2 : wrap64 ((k : Int) + 1) = ((k + 1 : Nat) : Int) := wrap_up (by have := HM.out; omega)
          obtain ⟨s, hs⟩ : ∃ s, s = i + k := ⟨_, rfl⟩
          have es : wrap64 ((i : Int) + (k : Int)) = (s : Int) := by rw [show (i : Int) + (k : Int) = (s : Int) by omega]; exact wid s (by have := HN.out; have := HM.out; have := HLT.out; omega)
          have es' : IntKind.i64.wrap ((i : Int) + (k : Int)) = (s : Int) := by rw [show (i : Int) + (k : Int) = (s : Int) by omega, IntKind.wrap_i64]; have := HN.out; have := HM.out; have := HLT.out; omega
          have ls : s < l := by have := HL.out; have := HLT.out; omega
          have ls' : (s : Int) < (l : Int) := by omega
          have li : i < n := HLT.out
          have li' : (i : Int) < (n : Int) := by omega
          have lk' : (k : Int) < (m : Int) := by omega
          have HR0 := H0.out.below HB.out
          obtain ⟨ad, ea, hx⟩ := HR0.at i li
          cases ea
          have HR1 := H1.out.below HB.out
          obtain ⟨bd, eb, hy⟩ := HR1.at k hlt
          cases eb
          have g0 : wr.cell? ⟨w.heap.size, s, none⟩ = some (.int .i64 (nth M s)) := by rw [cell_of_row wr _ s _ _ _ HZ.out, intsA_at _ _ (by rw [LM.out]; exact ls)]
          have g1 : wr.frozen? ⟨w.heap.size, s, none⟩ = false := frozen_of_row wr _ s _ _ HZ.out
          have HS := As.mk hs
          have HLK := As.mk hlt
          clear HR0 HR1 hs
          go_wp2
          go_region_held2 (fun W : World => W.cell? (ad.add i) = some (.int .i64 (nth a i)) ∧ W.cell? (bd.add k) = some (.int .i64 (nth b k)) ∧ W.cell? ⟨w.heap.size, s, none⟩ = some (.int .i64 (nth M s))) (exact ⟨hx, hy, g0⟩) (fail)
          go_wp2
          go_roundg (m - (k + 1))
          case measure => have := HK.out; have := HLK.out; omega
          case rel =>
            refine ⟨k + 1, M.set s (Int.tmod (wrap64 (wrap64 (nth M s + wrap64 (nth a i * nth b k)) + cr)) 65536), _, by have := HK.out; have := HLK.out; omega, rfl, by go_num, ⟨?_⟩, ⟨?_⟩, ⟨below_drewN (HB.out.setCell (Nat.le_refl _) _) 1⟩⟩
            · rw [tin_succ HT.out, ← HS.out]
            · rw [← intsA_set]
              exact heap_setCell_same _ _ _ _ _ _ HZ.out
        · have d0 : decide ((k : Int) < (m : Int)) = false := decide_eq_false (by omega)
          have d1 : decide (k < m) = false := decide_eq_false hlt
          obtain rfl : k = m := by have := HK.out; omega
          obtain ⟨s, hs⟩ : ∃ s, s = i + k := ⟨_, rfl⟩
          have es : wrap64 ((i : Int) + (k : Int)) = (s : Int) := by rw [show (i : Int) + (k : Int) = (s : Int) by omega]; exact wid s (by have := HN.out; have := HM.out; have := HLT.out; omega)
          have es' : IntKind.i64.wrap ((i : Int) + (k : Int)) = (s : Int) := by rw [show (i : Int) + (k : Int) = (s : Int) by omega, IntKind.wrap_i64]; have := HN.out; have := HM.out; have := HLT.out; omega
          have ls : s < l := by have := HL.out; have := HLT.out; omega
          have ls' : (s : Int) < (l : Int) := by omega
          have g0 : wr.cell? ⟨w.heap.size, s, none⟩ = some (.int .i64 (nth M s)) := by rw [cell_of_row wr _ s _ _ _ HZ.out, intsA_at _ _ (by rw [LM.out]; exact ls)]
          have g1 : wr.frozen? ⟨w.heap.size, s, none⟩ = false := frozen_of_row wr _ s _ _ HZ.out
          have HS := As.mk hs
          clear hs
          go_wp2
          go_roundg (n - (i + 1))
          case measure => have := HI.out; have := HLT.out; omega
          case rel =>
            refine ⟨i + 1, by have := HI.out; have := HLT.out; omega, by go_num, ⟨?_⟩, ⟨HB.out.setCell (Nat.le_refl _) _⟩⟩
            rw [tout_succ (M := M) (c := cr) (by rw [LB.out, ← HTL.out]; exact HT.out), LB.out, ← HS.out, ← intsA_set]
            exact heap_setCell_same _ _ _ _ _ _ HZ.out
    · have c0 : decide ((i : Int) < (n : Int)) = false := decide_eq_false (by omega)
      have c1 : decide (i < n) = false := decide_eq_false hlt
      obtain rfl : i = n := by have := HI.out; omega
      go_wp2
      go_ret
      refine ⟨rfl, HB.out, ?_⟩
      have := HZ.out
      rw [← LA.out] at this
      exact this
end Go.Proofs.Ytpijkibhjklkoaa.Roots
