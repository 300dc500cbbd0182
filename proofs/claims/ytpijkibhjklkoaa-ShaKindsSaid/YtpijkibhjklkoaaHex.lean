/- sha.Hex. -/
import Derived.Test.YtpijkibhjklkoaaShaParts
import Derived.Test.YtpijkibhjklkoaaFill
import Derived.Test.YtpijkibhjklkoaaStretch
import Derived.Test.YtpijkibhjklkoaaHmac
import Derived.Lib.ConvBytes
import Derived.Laws.BytesArg
namespace Go.Proofs.Ytpijkibhjklkoaa.Hex
set_option linter.unusedVariables false
set_option linter.unusedSimpArgs false
open Go Go.RowKit Go.Proofs.Ytpijkibhjklkoaa.Mem Go.Proofs.Ytpijkibhjklkoaa.Put32 Go.Proofs.Ytpijkibhjklkoaa.Pad Go.Proofs.Ytpijkibhjklkoaa.Sum Go.Proofs.Ytpijkibhjklkoaa.RefWith Go.Proofs.Ytpijkibhjklkoaa.ShaParts Go.Proofs.Ytpijkibhjklkoaa.Hmac Go.Proofs.Ytpijkibhjklkoaa.ShaAwake Go.Proofs.Ytpijkibhjklkoaa.ShaSums Go.Proofs.Ytpijkibhjklkoaa.RefSum

def dig (n : Nat) : Nat := ([48, 49, 50, 51, 52, 53, 54, 55, 56, 57, 97, 98, 99, 100, 101, 102] : List Nat).getD n 0
def hexB : List Int → List Int
  | [] => []
  | c :: r => ((dig (c.toNat / 16) : Nat) : Int) :: ((dig (c.toNat % 16) : Nat) : Int) :: hexB r
theorem run_dig (h : Nat) (hh : h < 16) (W : World) : (Instr.index 9 (.string ⟨#[48, 49, 50, 51, 52, 53, 54, 55, 56, 57, 97, 98, 99, 100, 101, 102]⟩) (.int .u8 (h : Int))).run Try.prog W = .ok (.int .u8 ((dig h : Nat) : Int)) W := by
  have : h = 0 ∨ h = 1 ∨ h = 2 ∨ h = 3 ∨ h = 4 ∨ h = 5 ∨ h = 6 ∨ h = 7 ∨ h = 8 ∨ h = 9 ∨ h = 10 ∨ h = 11 ∨ h = 12 ∨ h = 13 ∨ h = 14 ∨ h = 15 := by omega
  rcases this with rfl | rfl | rfl | rfl | rfl | rfl | rfl | rfl | rfl | rfl | rfl | rfl | rfl | rfl | rfl | rfl <;> rfl
theorem hexB_len : ∀ t : List Int, (hexB t).length = 2 * t.length
  | [] => rfl
  | c :: r => by simp only [hexB, List.length_cons, hexB_len r]; omega
theorem hexB_even : ∀ (t : List Int) (i : Nat), i < t.length → nth (hexB t) (2 * i) = ((dig ((nth t i).toNat / 16) : Nat) : Int) ∧ nth (hexB t) (2 * i + 1) = ((dig ((nth t i).toNat % 16) : Nat) : Int)
  | [], i, h => by simp at h
  | c :: r, 0, _ => ⟨rfl, rfl⟩
  | c :: r, i + 1, h => hexB_even r i (by simpa using h)

set_option maxHeartbeats 2000000 in
set_option maxRecDepth 100000 in
theorem hex_any (t : List Int) (ht : t.length = 32) (hb : Byte t) (w : World) :
    Calls Try.prog 39 #[.agg (bytesA t)] w fun e w' => e = .returned (.string (strOfNums (hexB t))) ∧ Below w.heap.size w w' := by
  have HT := As.mk ht
  have HB := As.mk hb
  clear ht hb
  go_enter Try.func39, Try.ntmps39
  go_wp2_with (refine wpList_allocArr rfl 59 rfl Z64 z64 ?_; refine As.out ?_)
  refine As.mk ?_
  have HB0 := As.mk (below_alloc (below_alloc (Below.refl w.heap.size w) (.cells (bytesA t) 44)) (.cells Z64 59))
  have HZ0 : As (((w.alloc (.cells (bytesA t) 44)).alloc (.cells Z64 59)).heap[w.heap.size + 1]? = some (.cells (bytesA (fill (hexB t) 64 (2 * 0))) 59 (0, 0))) := ⟨by
    rw [fill_zero, ← z64_list]
    exact al2_1 w _ _⟩
  have A0 := As.mk (al2_0 w (.cells (bytesA t) 44) (.cells Z64 59))
  have VT := As.mk (show (bytesA t).size = 32 by rw [bytesA_size]; exact HT.out)
  generalize (w.alloc _).alloc _ = w0 at *
  go_wp2_with (first
    | (refine wpList_load_row rfl 44 (.tmp 1) rfl w.heap.size rfl 44 (bytesA t) (0, 0) _ A0.out uArr32 rfl (by rw [VT.out]; kernel_rfl) ?_))
  go_loopg [7] 32 (fun kq v7 wr => ∃ i : Nat, i + kq = 32 ∧ v7 = .int .i64 i ∧ As (wr.heap[w.heap.size + 1]? = some (.cells (bytesA (fill (hexB t) 64 (2 * i))) 59 (0, 0))) ∧ As (Below w.heap.size w wr))
  case atStart => exact ⟨0, by omega, rfl, HZ0, HB0⟩
  case round =>
    clear HZ0 HB0 A0
    obtain ⟨i, hi, rfl, HZ, HB1⟩ := hrel
    have HI := As.mk hi
    clear hi
    by_cases hlt : i < 32
    · have e0 : decide ((i : Int) < 32) = true := decide_eq_true (by omega)
      have e1 : decide (i < 32) = true := decide_eq_true hlt
      have Li : (i : Int) < 32 := by omega
      have hw : wrap64 ((i : Int) + 1) = ((i + 1 : Nat) : Int) := wrap_up (by omega)
      obtain ⟨c, hc, c1⟩ := RefGet.byte_lt HB.out i (by rw [HT.out]; exact hlt)
      have hix : ∀ W, (Instr.index 44 (.agg (bytesA t)) (.int .i64 (i : Int))).run Try.prog W = .ok (.int .u8 (c : Int)) W := fun W => run_index_arr (P := Try.prog) W 44 5 32 .u8 _ _ uArr32 Try.underlying5 CloneB.info (bytesA t) i hlt _ (by rw [bytesA_at _ _ (by rw [HT.out]; exact hlt), hc]) .i64
      obtain ⟨a, ha⟩ : ∃ a, a = 2 * i := ⟨_, rfl⟩
      obtain ⟨b, hb⟩ : ∃ b, b = 2 * i + 1 := ⟨_, rfl⟩
      obtain ⟨h, hh⟩ : ∃ h, h = c / 16 := ⟨_, rfl⟩
      obtain ⟨l, hl⟩ : ∃ l, l = c % 16 := ⟨_, rfl⟩
      have h16 : h < 16 := by omega
      have l16 : l < 16 := by omega
      obtain ⟨x, hx⟩ : ∃ x, x = dig h := ⟨_, rfl⟩
      obtain ⟨y, hy⟩ : ∃ y, y = dig l := ⟨_, rfl⟩
      have r1 := run_dig h h16
      have r2 := run_dig l l16
      rw [← hx] at r1
      rw [← hy] at r2
      have ea : wrap64 (2 * (i : Int)) = (a : Int) := by rw [show (2 : Int) * (i : Int) = (a : Int) by omega]; exact wid a (by omega)
      have ea' : IntKind.i64.wrap (2 * (i : Int)) = (a : Int) := by rw [show (2 : Int) * (i : Int) = (a : Int) by omega, IntKind.wrap_i64]; omega
      have eb : wrap64 ((a : Int) + 1) = (b : Int) := by rw [show (a : Int) + 1 = (b : Int) by omega]; exact wid b (by omega)
      have eb' : IntKind.i64.wrap ((a : Int) + 1) = (b : Int) := by rw [show (a : Int) + 1 = (b : Int) by omega, IntKind.wrap_i64]; omega
      have ec : (c : Int) / 16 = (h : Int) := by omega
      have ed : bits .and .u8 (c : Int) 15 = (l : Int) := by
        have h1 := Go.Proofs.Ytpijkibhjklkoaa.Bits.nu8_and c 15 c1 (by decide)
        rw [show c &&& 15 = c % 16 from Nat.and_two_pow_sub_one_eq_mod c 4, ← hl] at h1
        exact h1
      have hne : ¬ a = b := by omega
      have hne' : ¬ b = a := by omega
      have a64 : a < 64 := by omega
      have b64 : b < 64 := by omega
      have a64' : (a : Int) < 64 := by omega
      have b64' : (b : Int) < 64 := by omega
      have LL := fill_len (hexB t) 64 (2 * i) (by rw [hexB_len, HT.out]) (by omega)
      obtain ⟨v0, hv0⟩ : ∃ v, v = nth (fill (hexB t) 64 (2 * i)) a := ⟨_, rfl⟩
      obtain ⟨v1, hv1⟩ : ∃ v, v = nth (fill (hexB t) 64 (2 * i)) b := ⟨_, rfl⟩
      have g0 : wr.cell? ⟨w.heap.size + 1, a, none⟩ = some (.int .u8 v0) := by rw [cell_of_row wr _ a _ _ _ HZ.out, bytesA_at _ _ (by rw [LL]; exact a64), hv0]
      have g1 : wr.cell? ⟨w.heap.size + 1, b, none⟩ = some (.int .u8 v1) := by rw [cell_of_row wr _ b _ _ _ HZ.out, bytesA_at _ _ (by rw [LL]; exact b64), hv1]
      have f0 : wr.frozen? ⟨w.heap.size + 1, a, none⟩ = false := frozen_of_row wr _ a _ _ HZ.out
      have f1 : wr.frozen? ⟨w.heap.size + 1, b, none⟩ = false := frozen_of_row wr _ b _ _ HZ.out
      have HX := As.mk (show (x : Int) = nth (hexB t) a by rw [ha, (hexB_even t i (by rw [HT.out]; exact hlt)).1, hc, hx, hh]; rfl)
      have HY := As.mk (show (y : Int) = nth (hexB t) b by rw [hb, (hexB_even t i (by rw [HT.out]; exact hlt)).2, hc, hy, hl]; rfl)
      have HA := As.mk ha
      have HBB := As.mk hb
      have HLT := As.mk hlt
      clear hc c1 ha hb hh hl h16 l16 hx hy hlt LL hv0 hv1
      go_wp2
      refine wp_region_held_drew (S := fun _ : World => True) (by kernel_rfl) trivial (fun hHeld => ?_)
      refine wpAnyH_take (i := 0) (v := .int .i64 (i : Int)) rfl (by kernel_rfl) (by kernel_rfl) (by kernel_rfl) (fun _ _ _ h => h) (Or.inl ⟨by rfl, fun W hW => by go_simp⟩) hHeld ?_
      try simp only [Act.put, List.setIfInBounds_toArray, List.set_cons_zero, List.set_cons_succ, List.getElem_toArray, List.getElem_cons_zero, List.getElem_cons_succ]
      refine wpAnyH_take (i := 1) (v := .int .i64 (a : Int)) rfl (by kernel_rfl) (by kernel_rfl) (by kernel_rfl) (fun _ _ _ h => h) (Or.inl ⟨by rfl, fun W hW => by go_simp⟩) hHeld ?_
      try simp only [Act.put, List.setIfInBounds_toArray, List.set_cons_zero, List.set_cons_succ, List.getElem_toArray, List.getElem_cons_zero, List.getElem_cons_succ]
      refine wpAnyH_take (i := 2) (v := .int .i64 (i : Int)) rfl (by kernel_rfl) (by kernel_rfl) (by kernel_rfl) (fun _ _ _ h => h) (Or.inl ⟨by rfl, fun W hW => by go_simp⟩) hHeld ?_
      try simp only [Act.put, List.setIfInBounds_toArray, List.set_cons_zero, List.set_cons_succ, List.getElem_toArray, List.getElem_cons_zero, List.getElem_cons_succ]
      refine wpAnyH_take (i := 3) (v := .int .i64 (a : Int)) rfl (by kernel_rfl) (by kernel_rfl) (by kernel_rfl) (fun _ _ _ h => h) (Or.inl ⟨by rfl, fun W hW => by go_simp⟩) hHeld ?_
      try simp only [Act.put, List.setIfInBounds_toArray, List.set_cons_zero, List.set_cons_succ, List.getElem_toArray, List.getElem_cons_zero, List.getElem_cons_succ]
      refine wpAnyH_take (i := 4) (v := .int .i64 (b : Int)) rfl (by kernel_rfl) (by kernel_rfl) (by kernel_rfl) (fun _ _ _ h => h) (Or.inl ⟨by rfl, fun W hW => by go_simp⟩) hHeld ?_
      try simp only [Act.put, List.setIfInBounds_toArray, List.set_cons_zero, List.set_cons_succ, List.getElem_toArray, List.getElem_cons_zero, List.getElem_cons_succ]
      refine wpAnyH_take (i := 5) (v := .int .u8 (c : Int)) rfl (by kernel_rfl) (by kernel_rfl) (by kernel_rfl) (fun _ _ _ h => h) (Or.inl ⟨by rfl, fun W hW => by go_simp⟩) hHeld ?_
      try simp only [Act.put, List.setIfInBounds_toArray, List.set_cons_zero, List.set_cons_succ, List.getElem_toArray, List.getElem_cons_zero, List.getElem_cons_succ]
      refine wpAnyH_take (i := 6) (v := .int .u8 (h : Int)) rfl (by kernel_rfl) (by kernel_rfl) (by kernel_rfl) (fun _ _ _ h => h) (Or.inl ⟨by rfl, fun W hW => by go_simp⟩) hHeld ?_
      try simp only [Act.put, List.setIfInBounds_toArray, List.set_cons_zero, List.set_cons_succ, List.getElem_toArray, List.getElem_cons_zero, List.getElem_cons_succ]
      refine wpAnyH_take (i := 7) (v := .int .u8 (x : Int)) rfl (by kernel_rfl) (by kernel_rfl) (by kernel_rfl) (fun _ _ _ h => h) (Or.inl ⟨by rfl, fun W hW => by go_simp⟩) hHeld ?_
      try simp only [Act.put, List.setIfInBounds_toArray, List.set_cons_zero, List.set_cons_succ, List.getElem_toArray, List.getElem_cons_zero, List.getElem_cons_succ]
      refine wpAnyH_take (i := 8) (v := .int .u8 (c : Int)) rfl (by kernel_rfl) (by kernel_rfl) (by kernel_rfl) (fun _ _ _ h => h) (Or.inl ⟨by rfl, fun W hW => by go_simp⟩) hHeld ?_
      try simp only [Act.put, List.setIfInBounds_toArray, List.set_cons_zero, List.set_cons_succ, List.getElem_toArray, List.getElem_cons_zero, List.getElem_cons_succ]
      refine wpAnyH_take (i := 9) (v := .int .u8 (l : Int)) rfl (by kernel_rfl) (by kernel_rfl) (by kernel_rfl) (fun _ _ _ h => h) (Or.inl ⟨by rfl, fun W hW => by go_simp⟩) hHeld ?_
      try simp only [Act.put, List.setIfInBounds_toArray, List.set_cons_zero, List.set_cons_succ, List.getElem_toArray, List.getElem_cons_zero, List.getElem_cons_succ]
      refine wpAnyH_take (i := 10) (v := .int .u8 (y : Int)) rfl (by kernel_rfl) (by kernel_rfl) (by kernel_rfl) (fun _ _ _ h => h) (Or.inl ⟨by rfl, fun W hW => by go_simp⟩) hHeld ?_
      try simp only [Act.put, List.setIfInBounds_toArray, List.set_cons_zero, List.set_cons_succ, List.getElem_toArray, List.getElem_cons_zero, List.getElem_cons_succ]
      refine wpAnyH_take (i := 11) (v := .pointer (some ⟨w.heap.size + 1, a, none⟩)) rfl (by kernel_rfl) (by kernel_rfl) (by kernel_rfl) (fun _ _ _ h => h) (Or.inl ⟨by rfl, fun W hW => by go_simp⟩) hHeld ?_
      try simp only [Act.put, List.setIfInBounds_toArray, List.set_cons_zero, List.set_cons_succ, List.getElem_toArray, List.getElem_cons_zero, List.getElem_cons_succ]
      refine wpAnyH_ready (rs := [12]) (by kernel_rfl) (by simp) (AllReadyH.cons rfl (fun K' hK => ?_) AllReadyH.nil)
      go_simp
      refine hK.out _ _ trivial (fun hHeld => ?_)
      clear hK
      try simp only [Act.put, List.setIfInBounds_toArray, List.set_cons_zero, List.set_cons_succ, List.getElem_toArray, List.getElem_cons_zero, List.getElem_cons_succ]
      refine wpAnyH_take (i := 13) (v := .pointer (some ⟨w.heap.size + 1, b, none⟩)) rfl (by kernel_rfl) (by kernel_rfl) (by kernel_rfl) (fun _ _ _ h => h) (Or.inl ⟨by rfl, fun W hW => by go_simp⟩) hHeld ?_
      try simp only [Act.put, List.setIfInBounds_toArray, List.set_cons_zero, List.set_cons_succ, List.getElem_toArray, List.getElem_cons_zero, List.getElem_cons_succ]
      refine wpAnyH_ready (rs := [14]) (by kernel_rfl) (by simp) (AllReadyH.cons rfl (fun K' hK => ?_) AllReadyH.nil)
      go_simp
      refine hK.out _ _ trivial (fun hHeld => ?_)
      clear hK
      try simp only [Act.put, List.setIfInBounds_toArray, List.set_cons_zero, List.set_cons_succ, List.getElem_toArray, List.getElem_cons_zero, List.getElem_cons_succ]
      refine wpAnyH_done (by kernel_rfl) ?_ _
      go_wp2
      go_roundg (32 - (i + 1))
      case measure => have := HI.out; have := HLT.out; omega
      case rel =>
        refine ⟨i + 1, by have := HI.out; have := HLT.out; omega, by first | go_num | rfl, ⟨?_⟩, ⟨below_drewN ((HB1.out.setCell (Nat.le_succ _) _).setCell (Nat.le_succ _) _) 1⟩⟩
        have hl : (hexB t).length = 64 := by rw [hexB_len, HT.out]
        have h1 := heap_setCell_same _ _ a _ _ (.int .u8 (x : Int)) HZ.out
        rw [HX.out, HA.out, fill_set (hexB t) 64 (2 * i) hl (by have := HLT.out; omega)] at h1
        have h2 := heap_setCell_same _ _ b _ _ (.int .u8 (y : Int)) h1
        rw [HY.out, HBB.out, fill_set (hexB t) 64 (2 * i + 1) hl (by have := HLT.out; omega)] at h2
        rw [HX.out, HY.out, HA.out, HBB.out]
        exact h2
    · have e0 : decide ((i : Int) < 32) = false := decide_eq_false (by omega)
      have e1 : decide (i < 32) = false := decide_eq_false hlt
      obtain rfl : i = 32 := by have := HI.out; omega
      have hl : (hexB t).length = 64 := by rw [hexB_len, HT.out]
      have hz := HZ.out
      rw [show 2 * 32 = 64 from rfl, fill_all (hexB t) 64 hl] at hz
      have hcv := run_convert_bytes_arg (P := Try.prog) wr 22 5 Try.underlying22 Try.underlying5 (w.heap.size + 1) 0 64 64 (hexB t) hl (fun j hj => by rw [Nat.zero_add, cell_of_row wr _ j _ _ _ hz, bytesA_at _ _ (by rw [hl]; exact hj)]; rfl) 9 Try.underlying9
      clear hl hz hlt
      go_wp2
      go_ret
      exact ⟨rfl, HB1.out⟩
end Go.Proofs.Ytpijkibhjklkoaa.Hex
