/- Records of numbers as bytes: plain. Bytes as records of numbers: plain. adminlog.numbers, Bytes. adminlog.Take. chatelaineref26: Numbers, Right, Bytes. -/
import Derived.Test.YtjcofbjfolaoiaaPut
import Derived.Test.YtjcofbjfolaoiaaReader
import Derived.Test.YtjcofbjfolaoiaaField
import Derived.Test.YtjcofbjfolaoiaaMem4
import Derived.Test.YtjcofbjfolaoiaaLayA
import Derived.Test.YtjcofbjfolaoiaaTakeP
import Derived.Test.YtjcofbjfolaoiaaSlotP
namespace Go.Proofs.Ytjcofbjfolaoiaa.Admin
set_option linter.unusedVariables false
set_option linter.unusedSimpArgs false
open Go Go.RowKit Go.Proofs.Ytjcofbjfolaoiaa.Mem Go.Proofs.Ytjcofbjfolaoiaa.Pad Go.Proofs.Ytjcofbjfolaoiaa.Put

/-! ### records -/
def M : Int := 1099511627776
/-- the first i numbers are right -/
def okN (r : List Int) (i : Nat) : Prop := ∀ k, k < i → 0 ≤ nth r k ∧ nth r k ≤ M
def rightR (r : List Int) : Bool := (List.range 6).all fun k => decide (0 ≤ nth r k) && decide (nth r k ≤ M)
theorem rightR_iff (r : List Int) : rightR r = true ↔ okN r 6 := by
  unfold rightR okN
  simp [List.all_eq_true]
/-- the first i numbers' bytes -/
def outN (r : List Int) : Nat → List Int
  | 0 => []
  | i + 1 => outN r i ++ beB 8 (nth r i).toNat
def bytesR (r : List Int) : List Int := outN r 6
theorem outN_len (r : List Int) : ∀ i, (outN r i).length = 8 * i
  | 0 => rfl
  | i + 1 => by rw [outN, List.length_append, outN_len r i, beB_len]; omega
theorem outN_byte (r : List Int) : ∀ i, Byte (outN r i)
  | 0 => fun y hy => by cases hy
  | i + 1 => fun y hy => by
    rw [outN] at hy
    rcases List.mem_append.1 hy with h | h
    · exact outN_byte r i y h
    · exact beB_byte _ _ y h
theorem bytesR_len (r : List Int) : (bytesR r).length = 48 := outN_len r 6
/-- the number at 8 * i -/
def chunk (b : List Int) (i : Nat) : List Int := (b.drop (8 * i)).take 8
theorem chunk_len (b : List Int) (hb : b.length = 48) (i : Nat) (hi : i < 6) : (chunk b i).length = 8 := by
  unfold chunk
  rw [List.length_take, List.length_drop]
  omega
theorem chunk_byte (b : List Int) (hb : Byte b) (i : Nat) : Byte (chunk b i) := fun y hy => hb y (List.mem_of_mem_drop (List.mem_of_mem_take hy))
theorem outN_take (r : List Int) : ∀ i, i < 6 → (bytesR r).take (8 * (i + 1)) = (bytesR r).take (8 * i) ++ chunk (bytesR r) i := fun i hi => by
  unfold chunk
  rw [show 8 * (i + 1) = 8 * i + 8 by omega, List.take_add]
theorem bytesR_pre (r : List Int) : ∀ d i, i + d = 6 → (bytesR r).take (8 * i) = outN r i
  | 0, i, h => by
    obtain rfl : i = 6 := by omega
    exact List.take_of_length_le (by rw [bytesR_len]; omega)
  | d + 1, i, h => by
    have ih := bytesR_pre r d (i + 1) (by omega)
    have h2 : ((bytesR r).take (8 * (i + 1))).take (8 * i) = (bytesR r).take (8 * i) := by rw [List.take_take, Nat.min_eq_left (by omega)]
    rw [← h2, ih, outN, List.take_append_of_le_length (by rw [outN_len]; omega), List.take_of_length_le (by rw [outN_len]; omega)]
theorem chunk_bytes (r : List Int) (i : Nat) (hi : i < 6) : chunk (bytesR r) i = beB 8 (nth r i).toNat := by
  have h1 := outN_take r i hi
  rw [bytesR_pre r (6 - (i + 1)) (i + 1) (by omega), bytesR_pre r (6 - i) i (by omega), outN] at h1
  exact (List.append_cancel_left h1).symm
end Go.Proofs.Ytjcofbjfolaoiaa.Admin
namespace Go.Proofs.Ytjcofbjfolaoiaa.Admin
set_option linter.unusedVariables false
set_option linter.unusedSimpArgs false
open Go Go.RowKit Go.Proofs.Ytjcofbjfolaoiaa.Mem Go.Proofs.Ytjcofbjfolaoiaa.Pad Go.Proofs.Ytjcofbjfolaoiaa.Put Go.Proofs.Ytjcofbjfolaoiaa.Val

/-! ### eight bytes are a number's, and back -/
theorem valB_div (l : List Int) (hb : Byte l) : ∀ d i, i + d = l.length → valB l / 256 ^ d = valB (l.take i)
  | 0, i, h => by rw [Nat.pow_zero, Nat.div_one, List.take_of_length_le (by omega)]
  | d + 1, i, h => by
    have ih := valB_div l hb d (i + 1) (by omega)
    rw [Nat.pow_succ, ← Nat.div_div_eq_div_mul, ih, valB_take l i (by omega)]
    have h1 : nth l i ∈ l := by
      rw [nth_getD, List.getD_eq_getElem?_getD, List.getElem?_eq_getElem (by omega)]
      exact List.getElem_mem _
    have h2 := hb _ h1
    omega
theorem beB_valB (l : List Int) (hb : Byte l) (k : Nat) (hk : l.length = k) : beB k (valB l) = l := by
  refine List.ext_getElem? fun i => ?_
  by_cases hi : i < k
  · rw [beB_at k _ i hi, valB_div l hb (k - 1 - i) (i + 1) (by omega), valB_take l i (by omega)]
    have h1 : nth l i ∈ l := by
      rw [nth_getD, List.getD_eq_getElem?_getD, List.getElem?_eq_getElem (by omega)]
      exact List.getElem_mem _
    have h2 := hb _ h1
    rw [List.getElem?_eq_getElem (by omega)]
    have h3 : nth l i = l[i]'(by omega) := by rw [nth_getD, List.getD_eq_getElem?_getD, List.getElem?_eq_getElem (by omega)]; rfl
    rw [← h3]
    congr 1
    omega
  · rw [List.getElem?_eq_none (by rw [beB_len]; omega), List.getElem?_eq_none (by omega)]

def numAt (b : List Int) (i : Nat) : Nat := valB (chunk b i)
theorem numAt_bytes (r : List Int) (hr : okN r 6) (i : Nat) (hi : i < 6) : numAt (bytesR r) i = (nth r i).toNat := by
  unfold numAt
  rw [chunk_bytes r i hi]
  have := hr i hi
  unfold M at this
  exact valB_beB 8 _ (by omega)
/-- what six numbers of bytes are -/
def numsB (b : List Int) : List Int := (List.range 6).map fun i => (numAt b i : Int)
theorem numsB_nth (b : List Int) (i : Nat) (hi : i < 6) : nth (numsB b) i = numAt b i := by
  unfold numsB
  rw [nth_getD, List.getD_eq_getElem?_getD, List.getElem?_map, List.getElem?_range hi]
  rfl
theorem nums_bytes (r : List Int) (hl : r.length = 6) (hr : okN r 6) : numsB (bytesR r) = r := by
  refine List.ext_getElem? fun i => ?_
  by_cases hi : i < 6
  · unfold numsB
    rw [List.getElem?_map, List.getElem?_range hi]
    simp only [Option.map_some]
    rw [numAt_bytes r hr i hi, List.getElem?_eq_getElem (by omega)]
    have h3 : nth r i = r[i]'(by omega) := by rw [nth_getD, List.getD_eq_getElem?_getD, List.getElem?_eq_getElem (by omega)]; rfl
    have := hr i hi
    rw [← h3]
    congr 1
    omega
  · rw [List.getElem?_eq_none (by simp [numsB]; omega), List.getElem?_eq_none (by omega)]
theorem outN_nums (b : List Int) (hb : Byte b) (hl : b.length = 48) : ∀ i, i ≤ 6 → outN (numsB b) i = b.take (8 * i)
  | 0, _ => by simp [outN]
  | i + 1, h => by
    rw [outN, outN_nums b hb hl i (by omega), numsB_nth b i (by omega)]
    have h1 : ((numAt b i : Nat) : Int).toNat = numAt b i := by omega
    rw [h1, numAt, beB_valB (chunk b i) (chunk_byte b hb i) 8 (chunk_len b hl i (by omega))]
    unfold chunk
    rw [show 8 * (i + 1) = 8 * i + 8 by omega, List.take_add]
theorem bytes_nums (b : List Int) (hb : Byte b) (hl : b.length = 48) : bytesR (numsB b) = b := by
  unfold bytesR
  rw [outN_nums b hb hl 6 (by omega), List.take_of_length_le (by omega)]
/-! ### reading, number by number -/
/-- all of the first i numbers may be -/
def fitN (b : List Int) (i : Nat) : Prop := ∀ k, k < i → (numAt b k : Int) ≤ M
/-- the error behind i numbers -/
def errN (b : List Int) : Nat → Int
  | 0 => 0
  | i + 1 => if errN b i = 0 then (if (numAt b i : Int) ≤ M then 0 else 11) else errN b i
theorem errN_ok {b : List Int} : ∀ i, fitN b i → errN b i = 0
  | 0, _ => rfl
  | i + 1, h => by
    rw [errN, if_pos (errN_ok i fun k hk => h k (by omega)), if_pos (h i (by omega))]
theorem errN_two (b : List Int) : ∀ i, errN b i = 0 ∨ errN b i = 11
  | 0 => .inl rfl
  | i + 1 => by
    rw [errN]
    split
    · split
      · exact .inl rfl
      · exact .inr rfl
    · exact errN_two b i
theorem errN_fit {b : List Int} : ∀ i, errN b i = 0 → fitN b i
  | 0, _ => fun k hk => by omega
  | i + 1, h => fun k hk => by
    rw [errN] at h
    by_cases h0 : errN b i = 0
    · rw [if_pos h0] at h
      by_cases h1 : (numAt b i : Int) ≤ M
      · rcases Nat.lt_succ_iff_lt_or_eq.1 hk with h2 | rfl
        · exact errN_fit i h0 k h2
        · exact h1
      · rw [if_neg h1] at h; omega
    · rw [if_neg h0] at h; exact absurd h h0
theorem errN_bad {b : List Int} (h : errN b 6 ≠ 0) : ∃ k, k < 6 ∧ M < (numAt b k : Int) := by
  by_cases h1 : ∃ k, k < 6 ∧ M < (numAt b k : Int)
  · exact h1
  · exact absurd (errN_ok 6 fun k hk => by
      rcases Int.lt_or_le M (numAt b k) with h2 | h2
      · exact absurd ⟨k, hk, h2⟩ h1
      · exact h2) h
/-! ### what bytes say -/
def takeE (b : List Int) : Int := if b.length < 48 then 10 else if 48 < b.length then 13 else errN b 6
def zero6 : List Int := [0, 0, 0, 0, 0, 0]
def takeR (b : List Int) : List Int := if takeE b = 0 then numsB b else zero6
theorem takeR_bad {b : List Int} (h : takeE b ≠ 0) : takeR b = zero6 := by unfold takeR; rw [if_neg h]
theorem takeR_ok {b : List Int} (h : takeE b = 0) : takeR b = numsB b := by unfold takeR; rw [if_pos h]
theorem takeR_len (b : List Int) : (takeR b).length = 6 := by
  unfold takeR
  split
  · simp [numsB]
  · rfl
theorem take_len {b : List Int} (h : takeE b = 0) : b.length = 48 := by
  unfold takeE at h
  split at h
  · omega
  · split at h
    · omega
    · omega
theorem nums_right {b : List Int} (h : errN b 6 = 0) : rightR (numsB b) = true := by
  rw [rightR_iff]
  intro k hk
  rw [numsB_nth b k hk]
  have := errN_fit 6 h k hk
  omega
open Go.Proofs.Ytjcofbjfolaoiaa.Reader in
theorem numE_at (b : List Int) (i : Nat) (x : List Int) (hx : errN b i = 0 → x = b.drop (8 * i)) : numE (errN b i) 8 M x = errN b (i + 1) := by
  unfold numE
  rw [errN]
  by_cases h : errN b i = 0
  · rw [if_pos h, if_pos h, hx h]
    show (if (numAt b i : Int) ≤ M ∧ numAt b i ≤ 4611686018427387904 then (0 : Int) else 11) = _
    by_cases h1 : (numAt b i : Int) ≤ M
    · have h2 : numAt b i ≤ 4611686018427387904 := by unfold M at h1; omega
      rw [if_pos ⟨h1, h2⟩, if_pos h1]
    · rw [if_neg (fun e => h1 e.1), if_neg h1]
  · rw [if_neg h, if_neg h]
open Go.Proofs.Ytjcofbjfolaoiaa.Reader in
theorem numV_at (b : List Int) (i : Nat) (x : List Int) (hx : errN b i = 0 → x = b.drop (8 * i)) (h : errN b (i + 1) = 0) : numV (errN b i) 8 M x = numAt b i := by
  have h0 : errN b i = 0 := by
    rw [errN] at h
    by_cases h0 : errN b i = 0
    · exact h0
    · rw [if_neg h0] at h; exact h
  have h1 := errN_fit (i + 1) h i (by omega)
  unfold numV
  rw [hx h0]
  show (if errN b i = 0 ∧ (numAt b i : Int) ≤ M ∧ numAt b i ≤ 4611686018427387904 then ((numAt b i : Nat) : Int) else 0) = _
  rw [if_pos ⟨h0, h1, by unfold M at h1; omega⟩]
theorem errN_prev {b : List Int} {i : Nat} (h : errN b (i + 1) = 0) : errN b i = 0 := by
  rw [errN] at h
  by_cases h0 : errN b i = 0
  · exact h0
  · rw [if_neg h0] at h; exact h
end Go.Proofs.Ytjcofbjfolaoiaa.Admin
namespace Go.Proofs.Ytjcofbjfolaoiaa.Admin
set_option linter.unusedVariables false
set_option linter.unusedSimpArgs false
open Go Go.RowKit Go.Proofs.Ytjcofbjfolaoiaa.Mem Go.Proofs.Ytjcofbjfolaoiaa.Field Go.Proofs.Ytjcofbjfolaoiaa.Pad Go.Proofs.Ytjcofbjfolaoiaa.Put

/-- a record's cells -/
def recA (r : List Int) : Array Value := (r.map (Value.int .i64)).toArray
theorem recA_size (r : List Int) : (recA r).size = r.length := by simp [recA]
theorem recA_at (r : List Int) (i : Nat) (h : i < r.length) : (recA r)[i]? = some (.int .i64 (nth r i)) := by
  unfold recA
  rw [List.getElem?_toArray, List.getElem?_map, List.getElem?_eq_getElem h, nth_getD, List.getD_eq_getElem?_getD, List.getElem?_eq_getElem h]
  rfl
theorem recA_one (r : List Int) : (recA r).all (·.oneCell') = true := by
  rw [Array.all_eq_true]
  intro i hi
  simp [recA, Value.oneCell']
theorem info_rec : (Try.prog.info? 101).map (·.size) = some 6 := by kernel_rfl
/-- pointers to a record's numbers -/
def ptrV (b i : Nat) : Value := .pointer (some ⟨b, i, none⟩)
def ptrA (b : Nat) : Array Value := #[ptrV b 0, ptrV b 1, ptrV b 2, ptrV b 3, ptrV b 4, ptrV b 5]
theorem ptrA_at (b i : Nat) (h : i < 6) : (ptrA b)[i]? = some (ptrV b i) := by
  rcases i with _ | _ | _ | _ | _ | _ | i <;> first | rfl | omega
theorem ptrA_one (b : Nat) : (ptrA b).all (·.oneCell') = true := by simp [ptrA, ptrV, Value.oneCell']
def ptr0 : Array Value := #[.pointer none, .pointer none, .pointer none, .pointer none, .pointer none, .pointer none]
theorem ptr0_info : (Try.prog.info? 171).map (fun i => (i.zero, i.size)) = some (some (.agg ptr0), ptr0.size) := by kernel_rfl
theorem ptr_info : (Try.prog.info? 171).map (·.size) = some 6 := by kernel_rfl
theorem numI (B : Nat) (w : World) (A : Option Addr) (n c : Nat) (x : List Int) (h : Wr B w 0 A n c x) (v size : Nat) (z : Int) (hz : z = (size : Int)) (hs : 1 ≤ size ∧ size ≤ 8) (hv : v ≤ 4611686018427387904) (hf : v < 256 ^ size) (hm : n + size ≤ 140737488355328) :
    Calls Try.prog 99 #[.pointer (some ⟨B, 0, none⟩), .int .i64 (v : Int), .int .i64 z] w fun e w' => e = .returned (.tuple #[]) ∧ Put' B w w' A n c size (x ++ beB size v) := hz ▸ number_any B w A n c x h v size hs hv hf hm
theorem putB {B : Nat} {w w' : World} {A : Option Addr} {n c m : Nat} {x z : List Int} (h : Put' B w w' A n c m z) (hw : Wr B w 0 A n c x) : Below B w w' := by
  obtain ⟨A', c', _, hk, _⟩ := h
  exact hk.below (Nat.le_refl _) (Nat.le_of_lt hw.lt) fun k e => Nat.le_of_lt (hw.own_far k e).1
set_option maxHeartbeats 1000000 in
set_option maxRecDepth 100000 in
theorem numbers_any (b : Nat) (w : World) :
    Calls Try.prog 128 #[.pointer (some ⟨b, 0, none⟩)] w fun e w' => e = .returned (.agg (ptrA b)) ∧ Below w.heap.size w w' := by
  go_enter Try.func128, Try.ntmps128
  go_wp2_with (refine wpList_allocArr rfl 171 rfl ptr0 ptr0_info ?_; refine As.out ?_)
  refine As.mk ?_
  have HB := As.mk (below_alloc (Below.refl w.heap.size w) (.cells ptr0 171))
  have HW := As.mk (heap_alloc_new w (.cells ptr0 171))
  generalize w.alloc _ = w1 at *
  generalize hg : w.heap.size = g at HW HB ⊢
  go_wp2
  refine still_tail 18 (by kernel_rfl) (by kernel_rfl) ?_
  simp only [List.take_succ_cons, List.take_zero, List.drop_succ_cons, List.drop_zero]
  repeat still_step
  refine wpStill_nil ?_
  have HW2 : As ((w1.drewN 1).heap[g]? = some (.cells ptr0 171 (0, 0))) := ⟨HW.out⟩
  have HB2 := As.mk (below_drewN HB.out 1)
  generalize w1.drewN 1 = w2 at *
  go_wp2_with (refine wpList_storeArr rfl rfl 171 _ _ rfl g rfl #[.pointer (some ⟨b, 0, none⟩), .pointer (some ⟨b, 1, none⟩), .pointer (some ⟨b, 2, none⟩), .pointer (some ⟨b, 3, none⟩), .pointer (some ⟨b, 4, none⟩), .pointer (some ⟨b, 5, none⟩)] rfl 171 ptr0 HW2.out ptr_info rfl (ptrA_one b) ?_)
  refine bodyPost_ret (v := .agg (ptrA b)) ?_ rfl ⟨rfl, by rw [hg]; exact below_setRow HB2.out (Nat.le_refl _) _⟩
  exact results_cell_row Try.results128 _ _ g 171 (ptrA b) (0, 0) _ rfl (setRow_new w2 g ptr0 (ptrA b) _ HW2.out) Try.underlying171 rfl ptr_info

theorem run_index_ptr (b i : Nat) (hi : i < 6) (W : World) : (Instr.index 171 (.agg (ptrA b)) (.int .i64 (i : Int))).run Try.prog W = .ok (.pointer (some ⟨b, i, none⟩)) W := by
  obtain ⟨inf, hif, hzz⟩ := Option.map_eq_some_iff.1 (show (Try.prog.info? 170).map (·.size) = some 1 by kernel_rfl)
  have ha : (isAgg 170).run Try.prog W = .ok false W := by simp [isAgg, run_underlying Try.underlying170]
  have hz : inf.size = 1 := hzz
  have hv := ptrA_at b i hi
  simp [Instr.index, asIntOf, run_underlying Try.underlying171, sizeOf, typeInfo, hif, hz, part, ha, hv, ptrV]
  omega
def BytesPost (r : List Int) (w : World) (e : Ending) (w' : World) : Prop :=
  (rightR r = true ∧ ∃ A c, e = .returned (.tuple #[.slice A 48 c, .int .i64 0]) ∧ OwnAt w' w.heap.size (.slice A 48 c) 48 ((bytesR r).map (Value.int .u8)) ∧ Below w.heap.size w w') ∨
  (rightR r = false ∧ e = .returned (.tuple #[.slice none 0 0, .int .i64 2]) ∧ Below w.heap.size w w')
theorem not_right {r : List Int} {i : Nat} (hi : i < 6) (h : ¬ (0 ≤ nth r i ∧ nth r i ≤ M)) : rightR r = false := by
  rcases Bool.eq_false_or_eq_true (rightR r) with h1 | h1
  · exact absurd ((rightR_iff r).1 h1 i hi) h
  · exact h1
set_option maxHeartbeats 2000000 in
set_option maxRecDepth 100000 in
theorem abytes_any (r : List Int) (hl : r.length = 6) (w : World) :
    Calls Try.prog 66 #[.agg (recA r)] w (BytesPost r w) := by
  have HL := As.mk hl
  have HB0 := As.mk (below_alloc (Below.refl w.heap.size w) (.cells (recA r) 101))
  have HG0 := As.mk (heap_alloc_new w (.cells (recA r) 101))
  clear hl
  go_enter Try.func66, Try.ntmps66
  go_wp2_with (refine wpList_boxArr rfl 101 _ rfl (recA r) rfl ?_; refine As.out ?_)
  refine As.mk ?_
  have HS0 := As.mk (show w.heap.size < (w.alloc (.cells (recA r) 101)).heap.size by simp)
  generalize w.alloc (.cells (recA r) 101) = w1 at *
  have HB1 := As.mk (below_step HB0.out (below_alloc (Below.refl w1.heap.size w1) (.cells #[.int .i64 0, .slice none 0 0] 146)))
  have HW1 := As.mk (Wr.new w1)
  have HG1 := As.mk (((below_alloc (Below.refl w1.heap.size w1) (.cells #[.int .i64 0, .slice none 0 0] 146)).block _ HS0.out).trans HG0.out)
  go_wp2_with (go_at_call 128; refine As.out ?_)
  refine As.mk ?_
  generalize w1.alloc _ = w2 at *
  refine (numbers_any w.heap.size w2).mono ?_
  rintro e w3 ⟨rfl, hb⟩
  have HB3 := As.mk (below_step HB1.out hb)
  have HW3 := As.mk (HW1.out.below hb)
  have HG3 := As.mk ((hb.block _ (Array.getElem?_eq_some_iff.1 HG1.out).1).trans HG1.out)
  clear hb HB1 HW1 HG1 HB0 HG0
  go_wp2
  go_loopg [8] 6 (fun kq v8 wr => ∃ (i : Nat) (A : Option Addr) (c : Nat), i + kq = 6 ∧ v8 = .int .i64 i ∧ As (okN r i) ∧ As (wr.heap[w.heap.size]? = some (.cells (recA r) 101 (0, 0))) ∧ As (Wr w1.heap.size wr 0 A (8 * i) c (outN r i)) ∧ As (Below w.heap.size w wr))
  case atStart => exact ⟨0, none, 0, by omega, rfl, ⟨fun k hk => by omega⟩, HG3, HW3, HB3⟩
  case round =>
    obtain ⟨i, A, c, hi, rfl, HO, HG, HW, HB⟩ := hrel
    have HI := As.mk hi
    clear hi HW3 HG3 HB3
    by_cases hlt : i < 6
    · have c0 : decide ((i : Int) < 6) = true := decide_eq_true (by omega)
      have c1 : decide (i < 6) = true := decide_eq_true hlt
      have lt' : (i : Int) < 6 := by omega
      have hw : wrap64 ((i : Int) + 1) = ((i + 1 : Nat) : Int) := wrap_up (by omega)
      have hix := run_index_ptr w.heap.size i hlt
      have cc : wr.cell? ⟨w.heap.size, i, none⟩ = some (.int .i64 (nth r i)) := by rw [cell_of_row wr _ i _ _ _ HG.out, recA_at r i (by rw [HL.out]; exact hlt)]
      have HLT := As.mk hlt
      by_cases h0 : nth r i < 0
      · have HNR := As.mk (not_right (r := r) hlt (by omega))
        have d0 : decide (nth r i < 0) = true := decide_eq_true h0
        clear h0 hlt
        go_wp2
        go_ret2
        exact .inr ⟨HNR.out, rfl, HB.out⟩
      · by_cases h1 : 1099511627776 < nth r i
        · have HNR := As.mk (not_right (r := r) hlt (by unfold M; omega))
          have d0 : decide (nth r i < 0) = false := decide_eq_false h0
          have d1 : decide (1099511627776 < nth r i) = true := decide_eq_true h1
          clear h0 h1 hlt
          go_wp2
          go_ret2
          exact .inr ⟨HNR.out, rfl, HB.out⟩
        · have d0 : decide (nth r i < 0) = false := decide_eq_false h0
          have d1 : decide (1099511627776 < nth r i) = false := decide_eq_false h1
          have HOK : As (okN r (i + 1)) := ⟨fun k hk => by
            rcases Nat.lt_succ_iff_lt_or_eq.1 hk with h | rfl
            · exact HO.out k h
            · unfold M; omega⟩
          have HSS : As (outN r (i + 1) = outN r i ++ beB 8 (nth r i).toNat) := ⟨rfl⟩
          obtain ⟨v, hv⟩ := Int.eq_ofNat_of_zero_le (show 0 ≤ nth r i by omega)
          rw [hv] at cc d0 d1 HSS
          have HV := As.mk (show v ≤ 1099511627776 by omega)
          clear h0 h1 hv hlt
          go_wp2_with (go_at_call 99; (with_reducible refine (numI w1.heap.size wr A (8 * i) c _ HW.out v 8 8 rfl (by decide) (by have := HV.out; omega) (by have := HV.out; omega) (by have := HLT.out; omega)).mono ?_); rintro e w4 ⟨rfl, hr⟩; have HR := As.mk hr; clear hr; refine As.out ?_)
          refine As.mk ?_
          have hb := putB HR.out HW.out
          have hsz : w.heap.size < w1.heap.size := HS0.out
          have HB4 := As.mk (HB.out.trans (hb.mono (Nat.le_of_lt hsz)))
          have HG4 := As.mk ((hb.block _ hsz).trans HG.out)
          obtain ⟨A4, c4, hw4, -⟩ := HR.out
          have HW4 : As (Wr w1.heap.size w4 0 A4 (8 * (i + 1)) c4 (outN r (i + 1))) := ⟨by rw [HSS.out, show ((v : Nat) : Int).toNat = v by omega, show 8 * (i + 1) = 8 * i + 8 by omega]; exact hw4⟩
          clear hb hsz hw4
          go_wp2
          go_roundg (6 - (i + 1))
          case measure => have := HI.out; have := HLT.out; omega
          case rel => exact ⟨i + 1, A4, c4, by have := HI.out; have := HLT.out; omega, by go_num, HOK, HG4, HW4, HB4⟩
    · have c0 : decide ((i : Int) < 6) = false := decide_eq_false (by omega)
      have c1 : decide (i < 6) = false := decide_eq_false hlt
      obtain rfl : i = 6 := by have := HI.out; omega
      have HRR := As.mk ((rightR_iff r).2 HO.out)
      have HSZ := As.mk (show w.heap.size ≤ wr.heap.size from HB.out.size)
      have HW48 : As (Wr w1.heap.size wr 0 A 48 c (bytesR r)) := ⟨HW.out⟩
      clear hlt HW
      go_wp2_with (go_at_call 100; (with_reducible refine (out_any w1.heap.size wr A 48 c _ HW48.out (by decide)).mono ?_); rintro e w5 ⟨A5, c5, rfl, ho, hb⟩; have HO5 := As.mk (ho.weaken HSZ.out); have HB5 := As.mk (below_step HB.out hb); clear ho hb)
      go_ret2
      exact .inl ⟨HRR.out, _, _, rfl, HO5.out, HB5.out⟩
theorem abytes_ok (r : List Int) (hl : r.length = 6) (h : rightR r = true) (w : World) :
    Calls Try.prog 66 #[.agg (recA r)] w fun e w' => ∃ A c, e = .returned (.tuple #[.slice A 48 c, .int .i64 0]) ∧ OwnAt w' w.heap.size (.slice A 48 c) 48 ((bytesR r).map (Value.int .u8)) ∧ Below w.heap.size w w' :=
  (abytes_any r hl w).mono fun e w' hp => by
    rcases hp with ⟨_, hp⟩ | ⟨h2, _⟩
    · exact hp
    · rw [h] at h2; cases h2
theorem abytes_bad (r : List Int) (hl : r.length = 6) (h : rightR r = false) (w : World) :
    Calls Try.prog 66 #[.agg (recA r)] w fun e w' => e = .returned (.tuple #[.slice none 0 0, .int .i64 2]) ∧ Below w.heap.size w w' :=
  (abytes_any r hl w).mono fun e w' hp => by
    rcases hp with ⟨h2, _⟩ | ⟨_, hp⟩
    · rw [h] at h2; cases h2
    · exact hp
end Go.Proofs.Ytjcofbjfolaoiaa.Admin
namespace Go.Proofs.Ytjcofbjfolaoiaa.Admin
set_option linter.unusedVariables false
set_option linter.unusedSimpArgs false
open Go Go.RowKit Go.Proofs.Ytjcofbjfolaoiaa.Mem Go.Proofs.Ytjcofbjfolaoiaa.Pad Go.Proofs.Ytjcofbjfolaoiaa.Put Go.Proofs.Ytjcofbjfolaoiaa.Val Go.Proofs.Ytjcofbjfolaoiaa.Reader Go.Proofs.Ytjcofbjfolaoiaa.LayA Go.Proofs.Ytjcofbjfolaoiaa.SlotP

theorem rec0 : recA zero6 = #[.int .i64 0, .int .i64 0, .int .i64 0, .int .i64 0, .int .i64 0, .int .i64 0] := rfl
theorem rec_zero : (Try.prog.info? 101).map (fun i => (i.zero, i.size)) = some (some (.agg (recA zero6)), (recA zero6).size) := by kernel_rfl
theorem one6 (a b c d e f : Int) : (#[Value.int .i64 a, .int .i64 b, .int .i64 c, .int .i64 d, .int .i64 e, .int .i64 f] : Array Value).all (·.oneCell') = true := by simp [Value.oneCell']
theorem recA_set (L : List Int) (i : Nat) (v : Int) : (recA L).setIfInBounds i (.int .i64 v) = recA (L.set i v) := by
  unfold recA
  rw [List.setIfInBounds_toArray, List.map_set]
theorem nth_set_self (L : List Int) (i : Nat) (v : Int) (h : i < L.length) : nth (L.set i v) i = v := by
  rw [nth_getD, List.getD_eq_getElem?_getD, List.getElem?_set]
  simp [h]
theorem nth_set_other (L : List Int) (i k : Nat) (v : Int) (h : i ≠ k) : nth (L.set i v) k = nth L k := by
  rw [nth_getD, nth_getD, List.getD_eq_getElem?_getD, List.getD_eq_getElem?_getD, List.getElem?_set_ne h]
theorem set_heap {w : World} {g i : Nat} {C : Array Value} {T : TypeId} (v : Value) (h : w.heap[g]? = some (.cells C T (0, 0))) : (w.setCell ⟨g, i, none⟩ v).heap[g]? = some (.cells (C.setIfInBounds i v) T (0, 0)) := by
  simp [World.setCell, Array.getElem?_modify, h]
theorem grown_below {B R : Nat} {w w1 w2 : World} (h : Below B w w1) (hg : w1.grownBy w2 (some R)) (hB : B ≤ w1.heap.size) (hR : B ≤ R) : Below B w w2 :=
  h.grown hg hB fun k e => by cases e; exact hR
theorem rr_set {R : Nat} {w : World} {e : Int} {A : Option Addr} {n c : Nat} {x : List Int} (h : Rr R w e A n c x) {g : Nat} (hg : g ≠ R) (ha : ∀ ad, A = some ad → ad.block ≠ g) (i : Nat) (v : Value) : Rr R (w.setCell ⟨g, i, none⟩ v) e A n c x :=
  ⟨(heap_setCell_other _ ⟨g, i, none⟩ _ _ (fun e => hg e.symm)).trans h.at_, h.rd.grown (grown_of_set (Below.refl _ _) g i v) (fun ad e1 e2 => ha ad e1 (Option.some.inj e2)), h.apart⟩
/-- behind i numbers -/
structure Got (b : List Int) (i : Nat) (L : List Int) (x : List Int) (n : Nat) : Prop where
  len : L.length = 6
  byte : Byte x
  vals : errN b i = 0 → ∀ k, k < i → nth L k = numAt b k
  left : errN b i = 0 → x = b.drop (8 * i)
  size : errN b i = 0 → n = 48 - 8 * i
theorem Got.next {b : List Int} {i : Nat} {L x : List Int} {n : Nat} (h : Got b i L x n) (hi : i < 6) : Got b (i + 1) (L.set i (numV (errN b i) 8 M x)) (numX (errN b i) 8 x) (numN (errN b i) 8 n) := by
  refine ⟨by rw [List.length_set]; exact h.len, ?_, fun e k hk => ?_, fun e => ?_, fun e => ?_⟩
  · unfold numX
    split
    · exact byte_drop h.byte 8
    · exact h.byte
  · rcases Nat.lt_succ_iff_lt_or_eq.1 hk with h1 | rfl
    · rw [nth_set_other _ _ _ _ (by omega)]
      exact h.vals (errN_prev e) k h1
    · rw [nth_set_self _ _ _ (by rw [h.len]; exact hi)]
      exact numV_at b k x h.left e
  · unfold numX
    rw [if_pos (errN_prev e), h.left (errN_prev e), List.drop_drop, show 8 * i + 8 = 8 * (i + 1) by omega]
  · unfold numN
    rw [if_pos (errN_prev e), h.size (errN_prev e)]
    omega
theorem Got.fin {b : List Int} {L x : List Int} {n : Nat} (h : Got b 6 L x n) (e : errN b 6 = 0) : L = numsB b := by
  refine List.ext_getElem? fun i => ?_
  by_cases hi : i < 6
  · have h1 := h.vals e i hi
    have h2 := numsB_nth b i hi
    have hl := h.len
    have hl2 : (numsB b).length = 6 := by simp [numsB]
    rw [nth_getD, List.getD_eq_getElem?_getD, List.getElem?_eq_getElem (by omega)] at h1 h2
    rw [List.getElem?_eq_getElem (by omega), List.getElem?_eq_getElem (by omega)]
    simp only [Option.getD_some] at h1 h2
    rw [h1, h2]
  · rw [List.getElem?_eq_none (by have := h.len; omega), List.getElem?_eq_none (by simp [numsB]; omega)]
set_option maxHeartbeats 2000000 in
set_option maxRecDepth 100000 in
theorem atake_any (b : List Int) (hb : Byte b) (A : Option Addr) (n c : Nat) (w : World) (h0 : Rd .u8 w A n c b) :
    Calls Try.prog 67 #[.slice A n c] w fun e w' => e = .returned (.tuple #[.agg (recA (takeR b)), .int .i64 (takeE b)]) ∧ Below w.heap.size w w' := by
  have H0 := As.mk h0
  have HBY := As.mk hb
  have hl := h0.len
  have HB0 := As.mk (below_alloc (Below.refl w.heap.size w) (.cells (recA zero6) 101))
  have HG0 := As.mk (heap_alloc_new w (.cells (recA zero6) 101))
  by_cases h1 : n < 48
  · have HTE : As (takeE b = 10) := ⟨by unfold takeE; rw [if_pos (by omega)]⟩
    have HTR := As.mk (takeR_bad (b := b) (by rw [HTE.out]; decide))
    have d0 : decide ((n : Int) < 48) = true := decide_eq_true (by omega)
    have d1 : decide (n < 48) = true := decide_eq_true h1
    clear h1 hl h0 hb
    go_enter Try.func67, Try.ntmps67
    go_wp2_with (refine wpList_allocArr rfl 101 rfl (recA zero6) rec_zero ?_; refine As.out ?_)
    refine As.mk ?_
    generalize w.alloc _ = w1 at *
    go_wp2_with (refine wpList_storeArr rfl rfl 101 _ _ rfl w.heap.size rfl #[.int .i64 0, .int .i64 0, .int .i64 0, .int .i64 0, .int .i64 0, .int .i64 0] rfl 101 (recA zero6) HG0.out info_rec rfl (one6 _ _ _ _ _ _) ?_)
    refine bodyPost_ret (results_row_tmp Try.results67 _ _ w.heap.size 101 (recA zero6) (0, 0) _ (.int .i64 10) rfl rfl (setRow_new _ _ (recA zero6) _ _ HG0.out) Try.underlying101 rfl info_rec) rfl ⟨by rw [HTE.out, HTR.out], below_setRow HB0.out (Nat.le_refl _) _⟩
  · by_cases h2 : 48 < n
    · have HTE : As (takeE b = 13) := ⟨by unfold takeE; rw [if_neg (by omega), if_pos (by omega)]⟩
      have HTR := As.mk (takeR_bad (b := b) (by rw [HTE.out]; decide))
      have d0 : decide ((n : Int) < 48) = false := decide_eq_false (by omega)
      have d1 : decide (n < 48) = false := decide_eq_false h1
      have d2 : decide (48 < (n : Int)) = true := decide_eq_true (by omega)
      have d3 : decide (48 < n) = true := decide_eq_true h2
      clear h1 h2 hl h0 hb
      go_enter Try.func67, Try.ntmps67
      go_wp2_with (refine wpList_allocArr rfl 101 rfl (recA zero6) rec_zero ?_; refine As.out ?_)
      refine As.mk ?_
      generalize w.alloc _ = w1 at *
      go_wp2_with (refine wpList_storeArr rfl rfl 101 _ _ rfl w.heap.size rfl #[.int .i64 0, .int .i64 0, .int .i64 0, .int .i64 0, .int .i64 0, .int .i64 0] rfl 101 (recA zero6) HG0.out info_rec rfl (one6 _ _ _ _ _ _) ?_)
      refine bodyPost_ret (results_row_tmp Try.results67 _ _ w.heap.size 101 (recA zero6) (0, 0) _ (.int .i64 13) rfl rfl (setRow_new _ _ (recA zero6) _ _ HG0.out) Try.underlying101 rfl info_rec) rfl ⟨by rw [HTE.out, HTR.out], below_setRow HB0.out (Nat.le_refl _) _⟩
    · obtain rfl : n = 48 := by omega
      have HAW : As (∀ ad, A = some ad → ad.block < w.heap.size) := ⟨fun ad e => by subst e; exact Parts.rd_lt h0 (by decide)⟩
      have HTE : As (takeE b = errN b 6) := ⟨by unfold takeE; rw [if_neg (by omega), if_neg (by omega)]⟩
      clear h1 h2 hl h0 hb
      go_enter Try.func67, Try.ntmps67
      go_wp2_with (refine wpList_allocArr rfl 101 rfl (recA zero6) rec_zero ?_; refine As.out ?_)
      refine As.mk ?_
      have HS0 := As.mk (show w.heap.size < (w.alloc (.cells (recA zero6) 101)).heap.size by simp)
      have H1 := As.mk (H0.out.below HB0.out)
      generalize w.alloc _ = w1 at *
      have HB1 := As.mk (below_step HB0.out (below_alloc (Below.refl w1.heap.size w1) (.cells (recA zero6) 101)))
      have HO1 := As.mk (heap_alloc_new w1 (.cells (recA zero6) 101))
      have HG1 := As.mk (g9b (below_alloc (Below.refl w1.heap.size w1) (.cells (recA zero6) 101)) HG0.out)
      have H2 := As.mk (H1.out.below (below_alloc (Below.refl w1.heap.size w1) (.cells (recA zero6) 101)))
      have HS1 := As.mk (show w1.heap.size < (w1.alloc (.cells (recA zero6) 101)).heap.size by simp)
      go_wp2_with (refine wpList_allocArr rfl 101 rfl (recA zero6) rec_zero ?_; refine As.out ?_)
      refine As.mk ?_
      generalize w1.alloc _ = w2 at *
      go_wp2_with (first
        | (go_at_call 105; (with_reducible refine (read_any b A 48 c w2 H2.out (by decide)).mono ?_); rintro e w3 ⟨rfl, hr, hb⟩; have HR3 := As.mk hr; have HB3 := As.mk (below_step HB1.out hb); have HO3 := As.mk (g9b hb HO1.out); have HG3 := As.mk (g9b hb HG1.out); clear hr hb)
        | (go_at_call 128; (with_reducible refine (numbers_any w1.heap.size w3).mono ?_); rintro e w4 ⟨rfl, hb⟩; have HR4 := As.mk (HR3.out.below hb); have HB4 := As.mk (below_step HB3.out hb); have HO4 := As.mk (g9b hb HO3.out); have HG4 := As.mk (g9b hb HG3.out); clear hb; refine As.out ?_))
      refine As.mk ?_
      go_wp2
      clear HB0 HG0 HB1 HO1 HG1 H0 H1 H2 HR3 HB3 HO3 HG3
      have HG6 : As (Got b 0 zero6 b 48) := ⟨⟨rfl, HBY.out, fun _ k hk => by omega, fun _ => rfl, fun _ => rfl⟩⟩
      go_loopg [21] 6 (fun kq v21 wr => ∃ (i : Nat) (L x : List Int) (A' : Option Addr) (n' c' : Nat), i + kq = 6 ∧ v21 = .int .i64 i ∧ As (Got b i L x n') ∧ As (wr.heap[w.heap.size]? = some (.cells (recA zero6) 101 (0, 0))) ∧ As (wr.heap[w1.heap.size]? = some (.cells (recA L) 101 (0, 0))) ∧ As (Rr w2.heap.size wr (errN b i) A' n' c' x) ∧ As (∀ ad, A' = some ad → ad.block < w.heap.size) ∧ As (Below w.heap.size w wr))
      case atStart => exact ⟨0, zero6, b, A, 48, c, by omega, rfl, HG6, HG4, HO4, HR4, HAW, HB4⟩
      case round =>
        obtain ⟨i, L, x, A', n', c', hi, rfl, HT, HG, HO, HR, HAW', HB⟩ := hrel
        have HI := As.mk hi
        clear hi HG4 HO4 HR4 HB4 HG6
        by_cases hlt : i < 6
        · have c0 : decide ((i : Int) < 6) = true := decide_eq_true (by omega)
          have c1 : decide (i < 6) = true := decide_eq_true hlt
          have lt' : (i : Int) < 6 := by omega
          have hw : wrap64 ((i : Int) + 1) = ((i + 1 : Nat) : Int) := wrap_up (by omega)
          have hix := run_index_ptr w1.heap.size i hlt
          have HLT := As.mk hlt
          have HK : As (8 ≤ n' ∨ errN b i ≠ 0) := ⟨by
            by_cases h : errN b i = 0
            · left; have := HT.out.size h; omega
            · exact .inr h⟩
          clear hlt
          go_wp2_with (go_at_call 108; (with_reducible refine (Reader.number_anyS w2.heap.size wr (errN b i) A' n' c' x HT.out.byte HR.out 8 8 rfl (by decide) HK.out 1099511627776).mono ?_); rintro e w5 ⟨rfl, hg, A5, c5, hq, hsb⟩; have HQ := As.mk hq; have HSB := As.mk hsb; have HGG := As.mk hg; clear hg hq hsb; refine As.out ?_)
          refine As.mk ?_
          have HG5 := As.mk ((HGG.out.block w.heap.size (Array.getElem?_eq_some_iff.1 HG.out).1 (fun e => by have := Option.some.inj e; have := HS0.out; have := HS1.out; omega)).trans HG.out)
          have HO5 := As.mk ((HGG.out.block w1.heap.size (Array.getElem?_eq_some_iff.1 HO.out).1 (fun e => by have := Option.some.inj e; have := HS1.out; omega)).trans HO.out)
          have HB5 := As.mk (grown_below HB.out HGG.out HB.out.size (by have := HS0.out; have := HS1.out; omega))
          have HV : As (numE (errN b i) 8 1099511627776 x = errN b (i + 1)) := ⟨numE_at b i x HT.out.left⟩
          rw [HV.out] at HQ
          have HA5 : As (∀ ad, A5 = some ad → ad.block < w.heap.size) := ⟨fun ad e => by obtain ⟨a0, e0, e1⟩ := HSB.out ad e; rw [← e1]; exact HAW'.out a0 e0⟩
          have HN := As.mk (HT.out.next HLT.out)
          have HNV : As (numV (errN b i) 8 M x = numV (errN b i) 8 1099511627776 x) := ⟨rfl⟩
          rw [HNV.out] at HN
          generalize numV (errN b i) 8 1099511627776 x = v at *
          have cc : w5.cell? ⟨w1.heap.size, i, none⟩ = some (.int .i64 (nth L i)) := by rw [cell_of_row w5 _ i _ _ _ HO5.out, recA_at L i (by rw [HT.out.len]; exact HLT.out)]
          have ff : w5.frozen? ⟨w1.heap.size, i, none⟩ = false := frozen_of_row w5 _ i _ _ HO5.out
          have HO6 := As.mk (set_heap (i := i) (.int .i64 v) HO5.out)
          rw [recA_set] at HO6
          have HG6 : As ((w5.setCell ⟨w1.heap.size, i, none⟩ (.int .i64 v)).heap[w.heap.size]? = some (.cells (recA zero6) 101 (0, 0))) := ⟨(heap_setCell_other _ ⟨w1.heap.size, i, none⟩ _ _ (by have := HS0.out; simp; omega)).trans HG5.out⟩
          have HR6 : As (Rr w2.heap.size (w5.setCell ⟨w1.heap.size, i, none⟩ (.int .i64 v)) (errN b (i + 1)) A5 (numN (errN b i) 8 n') c5 (numX (errN b i) 8 x)) := ⟨rr_set HQ.out (by have := HS1.out; omega) (fun ad e => by have := HA5.out ad e; have := HS0.out; omega) i _⟩
          have HB6 := As.mk (HB5.out.setCell (p := ⟨w1.heap.size, i, none⟩) (by have := HS0.out; simp; omega) (.int .i64 v))
          go_wp2
          go_roundg (6 - (i + 1))
          case measure => have := HI.out; have := HLT.out; omega
          case rel => exact ⟨i + 1, _, _, A5, _, c5, by have := HI.out; have := HLT.out; omega, by go_num, HN, HG6, HO6, HR6, HA5, HB6⟩
        · have c0 : decide ((i : Int) < 6) = false := decide_eq_false (by omega)
          have c1 : decide (i < 6) = false := decide_eq_false hlt
          obtain rfl : i = 6 := by have := HI.out; omega
          clear hlt
          by_cases he : errN b 6 = 0
          · have HE := As.mk he
            have HLR := As.mk (show L = takeR b by rw [takeR_ok (by rw [HTE.out]; exact he)]; exact HT.out.fin he)
            rw [HLR.out] at HO
            rw [he] at HR
            have HN0 : As (n' = 0) := ⟨by have := HT.out.size he; omega⟩
            rw [HN0.out] at HR
            have HDE : As (doneE 0 0 = 0) := ⟨rfl⟩
            clear he
            obtain ⟨r, hr⟩ : ∃ r, takeR b = r := ⟨_, rfl⟩
            have HRL : As ((recA r).size = 6) := ⟨by rw [recA_size, ← hr, takeR_len]⟩
            have HRO := As.mk (recA_one r)
            rw [hr] at HO
            have HRE := As.mk hr
            clear hr
            go_wp2_with (first
              | (go_at_call 109; (with_reducible refine (done_any w2.heap.size wr 0 A' 0 c' x HR.out).mono ?_); rintro e w5 ⟨rfl, rfl⟩; rw [HDE.out])
              | (refine wpList_load_row rfl 101 (.tmp 4) rfl w1.heap.size rfl 101 (recA r) (0, 0) _ HO.out Try.underlying101 rfl (by rw [HRL.out]; exact info_rec) ?_)
              | (refine wpList_storeArr rfl rfl 101 _ _ rfl w.heap.size rfl (recA r) rfl 101 (recA zero6) HG.out (by rw [HRL.out]; exact info_rec) (by rw [HRL.out]; rfl) HRO.out ?_))
            refine bodyPost_ret (results_row_tmp Try.results67 _ _ w.heap.size 101 (recA r) (0, 0) _ (.int .i64 0) rfl rfl (setRow_new _ _ (recA zero6) _ _ HG.out) Try.underlying101 rfl (by rw [HRL.out]; exact info_rec)) rfl ⟨by rw [HTE.out, HE.out, HRE.out], below_setRow HB.out (Nat.le_refl _) _⟩
          · have HE : As (errN b 6 = 11) := ⟨(errN_two b 6).resolve_left he⟩
            rw [HE.out] at HR
            have HTR := As.mk (takeR_bad (b := b) (by rw [HTE.out]; exact he))
            have HDE : As (doneE 11 n' = 11) := ⟨rfl⟩
            clear he
            go_wp2_with (first
              | (go_at_call 109; (with_reducible refine (done_any w2.heap.size wr 11 A' n' c' x HR.out).mono ?_); rintro e w5 ⟨rfl, rfl⟩; rw [HDE.out])
              | (refine wpList_storeArr rfl rfl 101 _ _ rfl w.heap.size rfl #[.int .i64 0, .int .i64 0, .int .i64 0, .int .i64 0, .int .i64 0, .int .i64 0] rfl 101 (recA zero6) HG.out info_rec rfl (one6 _ _ _ _ _ _) ?_))
            refine bodyPost_ret (results_row_tmp Try.results67 _ _ w.heap.size 101 (recA zero6) (0, 0) _ (.int .i64 11) rfl rfl (setRow_new _ _ (recA zero6) _ _ HG.out) Try.underlying101 rfl info_rec) rfl ⟨by rw [HTE.out, HE.out, HTR.out], below_setRow HB.out (Nat.le_refl _) _⟩
end Go.Proofs.Ytjcofbjfolaoiaa.Admin
namespace Go.Proofs.Ytjcofbjfolaoiaa.Admin
set_option linter.unusedVariables false
set_option linter.unusedSimpArgs false
open Go Go.RowKit Go.Proofs.Ytjcofbjfolaoiaa.RefPutN Go.Proofs.Ytjcofbjfolaoiaa.Mem Go.Proofs.Ytjcofbjfolaoiaa.Pad Go.Proofs.Ytjcofbjfolaoiaa.Put Go.Proofs.Ytjcofbjfolaoiaa.Val Go.Proofs.Ytjcofbjfolaoiaa.Reader Go.Proofs.Ytjcofbjfolaoiaa.LayA Go.Proofs.Ytjcofbjfolaoiaa.SlotP

theorem six {r : List Int} (h : r.length = 6) : ∃ a b c d e f, r = [a, b, c, d, e, f] := by
  match r, h with
  | [a, b, c, d, e, f], _ => exact ⟨a, b, c, d, e, f, rfl⟩
set_option maxHeartbeats 1000000 in
set_option maxRecDepth 100000 in
theorem numbersR_any (r : List Int) (hl : r.length = 6) (w : World) :
    Calls Try.prog 127 #[.agg (recA r)] w fun e w' => ∃ A c, e = .returned (.slice A 6 c) ∧ Rd .i64 w' A 6 c r ∧ Below w.heap.size w w' := by
  obtain ⟨a, b, c, d, e, f, rfl⟩ := six hl
  have HB0 := As.mk (below_alloc (Below.refl w.heap.size w) (.cells (recA [a, b, c, d, e, f]) 101))
  have HG0 := As.mk (heap_alloc_new w (.cells (recA [a, b, c, d, e, f]) 101))
  clear hl
  go_enter Try.func127, Try.ntmps127
  go_wp2_with (refine wpList_boxArr rfl 101 _ rfl (recA [a, b, c, d, e, f]) rfl ?_; refine As.out ?_)
  refine As.mk ?_
  generalize w.alloc (.cells (recA [a, b, c, d, e, f]) 101) = w1 at *
  generalize hg : w.heap.size = g at HG0 HB0 ⊢
  have c0 : w1.cell? ⟨g, 0, none⟩ = some (.int .i64 a) := cell_of_row _ _ 0 _ _ _ HG0.out
  have c1 : w1.cell? ⟨g, 1, none⟩ = some (.int .i64 b) := cell_of_row _ _ 1 _ _ _ HG0.out
  have c2 : w1.cell? ⟨g, 2, none⟩ = some (.int .i64 c) := cell_of_row _ _ 2 _ _ _ HG0.out
  have c3 : w1.cell? ⟨g, 3, none⟩ = some (.int .i64 d) := cell_of_row _ _ 3 _ _ _ HG0.out
  have c4 : w1.cell? ⟨g, 4, none⟩ = some (.int .i64 e) := cell_of_row _ _ 4 _ _ _ HG0.out
  have c5 : w1.cell? ⟨g, 5, none⟩ = some (.int .i64 f) := cell_of_row _ _ 5 _ _ _ HG0.out
  have HBW : As (Below w.heap.size w w1) := ⟨by rw [hg]; exact HB0.out⟩
  clear hg
  go_wp2
  go_ret
  exact ⟨_, _, rfl, Rd.lit w1 .i64 3 [a, b, c, d, e, f] (by show 6 ≤ maxLen; decide), below_step HBW.out (below_alloc (Below.refl _ _) _)⟩
set_option maxHeartbeats 1000000 in
set_option maxRecDepth 100000 in
theorem rightR_any (r : List Int) (hl : r.length = 6) (q : Bool) (hq : rightR r = q) (w : World) :
    Calls Try.prog 65 #[.agg (recA r)] w fun e w' => e = .returned (.bool q) ∧ Below w.heap.size w w' := by
  have HL := As.mk hl
  have HQ := As.mk hq
  have HB0 := As.mk (below_alloc (Below.refl w.heap.size w) (.cells (recA r) 101))
  have HG0 := As.mk (heap_alloc_new w (.cells (recA r) 101))
  have HRS : As ((recA r).size = 6) := ⟨by rw [recA_size, hl]⟩
  clear hl hq
  go_enter Try.func65, Try.ntmps65
  go_wp2_with (refine wpList_boxArr rfl 101 _ rfl (recA r) rfl ?_; refine As.out ?_)
  refine As.mk ?_
  generalize w.alloc (.cells (recA r) 101) = w1 at *
  go_wp2_with (first
    | (refine wpList_load_row rfl 101 (.tmp 1) rfl w.heap.size rfl 101 (recA r) (0, 0) _ HG0.out Try.underlying101 rfl (by rw [HRS.out]; exact info_rec) ?_)
    | (go_at_call 127; (with_reducible refine (numbersR_any r HL.out w1).mono ?_); rintro e w2 ⟨A, c, rfl, hr, hb⟩; have HR := As.mk hr; have HB2 := As.mk (below_step HB0.out hb); clear hr hb))
  obtain ⟨ad, ea, h1⟩ := HR.out.cells (by decide)
  cases ea
  have H1 := As.mk h1
  clear h1
  go_loopg [4] 6 (fun kq v4 wr => ∃ i : Nat, i + kq = 6 ∧ v4 = .int .i64 i ∧ As (okN r i) ∧ As (w2 = wr))
  case atStart => exact ⟨0, by omega, rfl, ⟨fun k hk => by omega⟩, ⟨rfl⟩⟩
  case round =>
    obtain ⟨i, hi, rfl, HO, HW⟩ := hrel
    have HI := As.mk hi
    obtain rfl := HW.out
    clear hi HW
    by_cases hlt : i < 6
    · have c0 : decide ((i : Int) < 6) = true := decide_eq_true (by omega)
      have c1 : decide (i < 6) = true := decide_eq_true hlt
      have lt' : (i : Int) < 6 := by omega
      have hw : wrap64 ((i : Int) + 1) = ((i + 1 : Nat) : Int) := wrap_up (by omega)
      have cc := H1.out i hlt
      have HLT := As.mk hlt
      obtain ⟨v, hv⟩ : ∃ v, nth r i = v := ⟨_, rfl⟩
      rw [hv] at cc
      have HV := As.mk hv
      clear hv
      by_cases h0 : v < 0
      · have HNR := As.mk (not_right (r := r) hlt (by rw [HV.out]; omega))
        have d0 : decide (v < 0) = true := decide_eq_true h0
        clear h0 hlt
        go_wp2
        go_ret
        exact ⟨by rw [← HQ.out, HNR.out]; rfl, HB2.out⟩
      · by_cases h1 : 1099511627776 < v
        · have HNR := As.mk (not_right (r := r) hlt (by rw [HV.out]; unfold M; omega))
          have d0 : decide (v < 0) = false := decide_eq_false h0
          have d1 : decide (1099511627776 < v) = true := decide_eq_true h1
          clear h0 h1 hlt
          go_wp2
          go_ret
          exact ⟨by rw [← HQ.out, HNR.out]; rfl, HB2.out⟩
        · have d0 : decide (v < 0) = false := decide_eq_false h0
          have d1 : decide (1099511627776 < v) = false := decide_eq_false h1
          have HOK : As (okN r (i + 1)) := ⟨fun k hk => by
            rcases Nat.lt_succ_iff_lt_or_eq.1 hk with h | rfl
            · exact HO.out k h
            · rw [HV.out]; unfold M; omega⟩
          clear h0 h1 hlt
          go_wp2
          go_roundg (6 - (i + 1))
          case measure => have := HI.out; have := HLT.out; omega
          case rel => exact ⟨i + 1, by have := HI.out; have := HLT.out; omega, by go_num, HOK, ⟨rfl⟩⟩
    · have c0 : decide ((i : Int) < 6) = false := decide_eq_false (by omega)
      have c1 : decide (i < 6) = false := decide_eq_false hlt
      obtain rfl : i = 6 := by have := HI.out; omega
      have HRR := As.mk ((rightR_iff r).2 HO.out)
      clear hlt
      go_wp2
      go_ret
      exact ⟨by rw [← HQ.out, HRR.out]; rfl, HB2.out⟩
theorem putRI (size n : Nat) (z : Int) (hz : z = (size : Int)) (hs : 1 ≤ size ∧ size ≤ 8) (hn : n ≤ 4611686018427387904) (hf : n < 256 ^ size) (w : World) :
    Calls Try.prog 118 #[.int .i64 (n : Int), .int .i64 z] w fun e w' => ∃ A c, e = .returned (.tuple #[.slice A size c, .int .i64 0]) ∧ Below w.heap.size w w' ∧ OwnAt w' w.heap.size (.slice A size c) size ((beB size n).map (Value.int .u8)) := hz ▸ putR_ok size n hs hn hf w
set_option maxHeartbeats 1000000 in
set_option maxRecDepth 100000 in
theorem bytesR_any (r : List Int) (hl : r.length = 6) (hr : okN r 6) (w : World) :
    Calls Try.prog 68 #[.agg (recA r)] w fun e w' => ∃ A c, e = .returned (.slice A 48 c) ∧ OwnAt w' w.heap.size (.slice A 48 c) 48 ((bytesR r).map (Value.int .u8)) ∧ Below w.heap.size w w' := by
  have HL := As.mk hl
  have HOK := As.mk hr
  have HB0 := As.mk (below_alloc (Below.refl w.heap.size w) (.cells (recA r) 101))
  have HG0 := As.mk (heap_alloc_new w (.cells (recA r) 101))
  have HRS : As ((recA r).size = 6) := ⟨by rw [recA_size, hl]⟩
  clear hl hr
  go_enter Try.func68, Try.ntmps68
  go_wp2_with (refine wpList_boxArr rfl 101 _ rfl (recA r) rfl ?_; refine As.out ?_)
  refine As.mk ?_
  generalize w.alloc (.cells (recA r) 101) = w1 at *
  go_wp2_with (first
    | (refine wpList_load_row rfl 101 (.tmp 1) rfl w.heap.size rfl 101 (recA r) (0, 0) _ HG0.out Try.underlying101 rfl (by rw [HRS.out]; exact info_rec) ?_)
    | (go_at_call 127; (with_reducible refine (numbersR_any r HL.out w1).mono ?_); rintro e w2 ⟨A, c, rfl, hr, hb⟩; have HR := As.mk hr; have HB2 := As.mk (below_step HB0.out hb); clear hr hb))
  go_loopg [3, 5] 6 (fun kq v3 v5 wr => ∃ (i : Nat) (A' : Option Addr) (c' : Nat), i + kq = 6 ∧ v3 = .slice A' (8 * i) c' ∧ v5 = .int .i64 i ∧ As (OwnAt wr w2.heap.size (.slice A' (8 * i) c') (8 * i) ((outN r i).map (Value.int .u8))) ∧ As (Below w2.heap.size w2 wr))
  case atStart => exact ⟨0, none, 0, by omega, rfl, rfl, ⟨OwnAt.nil _ _⟩, ⟨Below.refl _ _⟩⟩
  case round =>
    obtain ⟨i, A', c', hi, rfl, rfl, HO, HB⟩ := hrel
    have HI := As.mk hi
    clear hi
    by_cases hlt : i < 6
    · have c0 : decide ((i : Int) < 6) = true := decide_eq_true (by omega)
      have c1 : decide (i < 6) = true := decide_eq_true hlt
      have lt' : (i : Int) < 6 := by omega
      have hw : wrap64 ((i : Int) + 1) = ((i + 1 : Nat) : Int) := wrap_up (by omega)
      obtain ⟨ad, ea, cc⟩ := (HR.out.below HB.out).at i hlt
      cases ea
      have HSS : As (outN r (i + 1) = outN r i ++ beB 8 (nth r i).toNat) := ⟨rfl⟩
      have hbd := HOK.out i hlt
      unfold M at hbd
      obtain ⟨v, hv⟩ := Int.eq_ofNat_of_zero_le hbd.1
      rw [hv] at cc HSS
      have HV := As.mk (show v ≤ 1099511627776 by omega)
      have HLT := As.mk hlt
      clear hv hlt hbd
      go_wp2_with (first
        | (go_at_call 118; (with_reducible refine (putRI 8 v 8 rfl (by decide) (by have := HV.out; omega) (by have := HV.out; omega) wr).mono ?_); rintro e w5 ⟨A5, c5, rfl, hb, ho⟩; have HB5 := As.mk hb; have HO5 := As.mk ho; have HS5 := As.mk (Src.own ho (ints_oneCell .u8 _)); have HO6 := As.mk (HO.out.below hb); have HB7 := As.mk (below_step HB.out hb); clear hb ho)
        | (at_builtin; refine wpList_app2 rfl (.tmp 22) (.tmp 23) 32 rfl w2.heap.size 5 (.int .u8 0) 1 Try.underlying32 CloneB.info rfl (.slice A' (8 * i) c') (8 * i) _ rfl HO6.out _ 8 _ rfl HS5.out ?d1 ?d2 HB7.out.size HB7.out (Nat.le_refl _) ?_; (case d1 => have := HLT.out; unfold maxLen; omega); (case d2 => have := HLT.out; omega); intro va wa hown hg hat hb; obtain ⟨Aa, ca, rfl⟩ := hown.slice; have HOa := As.mk hown; have HBa := As.mk hb; clear hown hg hat hb; refine As.out ?_))
      refine As.mk ?_
      have HOb : As (OwnAt wa w2.heap.size (.slice Aa (8 * i + 8) ca) (8 * i + 8) ((outN r (i + 1)).map (Value.int .u8))) := ⟨by rw [HSS.out, List.map_append, show ((v : Nat) : Int).toNat = v by omega]; exact HOa.out⟩
      have he : 8 * i + 8 = 8 * (i + 1) := by omega
      rw [he] at HOb
      rw [he]
      clear he
      go_wp2
      go_roundg (6 - (i + 1))
      case measure => have := HI.out; have := HLT.out; omega
      case rel => exact ⟨i + 1, Aa, ca, by have := HI.out; have := HLT.out; omega, rfl, by go_num, HOb, HBa⟩
    · have c0 : decide ((i : Int) < 6) = false := decide_eq_false (by omega)
      have c1 : decide (i < 6) = false := decide_eq_false hlt
      obtain rfl : i = 6 := by have := HI.out; omega
      have HO6 : As (OwnAt wr w2.heap.size (.slice A' 48 c') 48 ((bytesR r).map (Value.int .u8))) := ⟨HO.out⟩
      have HBF := As.mk (below_step HB2.out HB.out)
      clear hlt
      go_wp2
      go_ret
      exact ⟨_, _, rfl, HO6.out.weaken HB2.out.size, HBF.out⟩
end Go.Proofs.Ytjcofbjfolaoiaa.Admin
