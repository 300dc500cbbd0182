/- sha.Sum$1: what stands ahead, and what comes, piece by piece. -/
import Derived.Test.YteajblfkfmopfaaPiece
import Derived.Test.YteajblfkfmopfaaPad
namespace Go.Proofs.Yteajblfkfmopfaa.Take
set_option linter.unusedVariables false
set_option linter.unusedSimpArgs false
open Go Go.RowKit Go.Proofs.Yteajblfkfmopfaa.Mem Go.Proofs.Yteajblfkfmopfaa.W32 Go.Proofs.Yteajblfkfmopfaa.Piece Go.Proofs.Yteajblfkfmopfaa.Schedule

/-- pieces, one behind the other, as long as there are 64 bytes -/
def feed (K : Nat → W) (s : Nat → W) (b : List Int) : (Nat → W) × List Int :=
  if _h : b.length < 64 then (s, b) else feed K (piece K (b.take 64) s) (b.drop 64)
termination_by b.length
decreasing_by rw [List.length_drop]; omega
theorem feed_lo (K s : Nat → W) (b : List Int) (h : b.length < 64) : feed K s b = (s, b) := by rw [feed, dif_pos h]
theorem feed_hi (K s : Nat → W) (b : List Int) (h : ¬ b.length < 64) : feed K s b = feed K (piece K (b.take 64) s) (b.drop 64) := by rw [feed, dif_neg h]
theorem feed_len (K : Nat → W) : ∀ (n : Nat) (s : Nat → W) (b : List Int), b.length ≤ n → (feed K s b).2.length < 64 := by
  intro n
  induction n with
  | zero => intro s b h; rw [feed_lo _ _ _ (by omega)]; show b.length < 64; omega
  | succ n ih =>
    intro s b h
    by_cases h64 : b.length < 64
    · rw [feed_lo _ _ _ h64]; exact h64
    · rw [feed_hi _ _ _ h64]
      exact ih _ _ (by rw [List.length_drop]; omega)
theorem feed_app (K : Nat → W) (c : List Int) : ∀ (n : Nat) (s : Nat → W) (b : List Int), b.length ≤ n → feed K s (b ++ c) = feed K (feed K s b).1 ((feed K s b).2 ++ c) := by
  intro n
  induction n with
  | zero => intro s b h; rw [feed_lo K s b (by omega)]
  | succ n ih =>
    intro s b h
    by_cases h64 : b.length < 64
    · rw [feed_lo K s b h64]
    · rw [feed_hi K s b h64, feed_hi K s (b ++ c) (by rw [List.length_append]; omega), List.take_append_of_le_length (by omega), List.drop_append_of_le_length (by omega)]
      exact ih _ _ (by rw [List.length_drop]; omega)
theorem feed_byte (K : Nat → W) : ∀ (n : Nat) (s : Nat → W) (b : List Int), b.length ≤ n → Byte b → Byte (feed K s b).2 := by
  intro n
  induction n with
  | zero => intro s b h hb; rw [feed_lo _ _ _ (by omega)]; exact hb
  | succ n ih =>
    intro s b h hb
    by_cases h64 : b.length < 64
    · rw [feed_lo _ _ _ h64]; exact hb
    · rw [feed_hi _ _ _ h64]
      exact ih _ _ (by rw [List.length_drop]; omega) (fun x hx => hb x (List.mem_of_mem_drop hx))

/-- Below `base` all is as it was, but blocks L and S. -/
structure But2 (base L S : Nat) (w w' : World) : Prop where
  os : w'.os = w.os
  tape : w'.tape = w.tape
  output : w'.output = w.output
  size : w.heap.size ≤ w'.heap.size
  block : ∀ k, k < base → k ≠ L → k ≠ S → w'.heap[k]? = w.heap[k]?
theorem But2.refl (base L S : Nat) (w : World) : But2 base L S w w := ⟨rfl, rfl, rfl, Nat.le_refl _, fun _ _ _ _ => rfl⟩
theorem But2.trans {base L S : Nat} {a b c : World} (h : But2 base L S a b) (k : But2 base L S b c) : But2 base L S a c :=
  ⟨k.os.trans h.os, k.tape.trans h.tape, k.output.trans h.output, Nat.le_trans h.size k.size, fun i h1 h2 h3 => (k.block i h1 h2 h3).trans (h.block i h1 h2 h3)⟩
theorem But2.of_below {base L S : Nat} {a b : World} (h : Below base a b) : But2 base L S a b := ⟨h.os, h.tape, h.output, h.size, fun k hk _ _ => h.block k hk⟩
theorem But2.setCell {base L S : Nat} {a w : World} (h : But2 base L S a w) (j : Nat) (v : Value) : But2 base L S a (w.setCell ⟨L, j, none⟩ v) :=
  h.trans ⟨rfl, rfl, rfl, by simp [World.setCell], fun k _ hk _ => Below.heap_setCell _ _ _ _ hk⟩
theorem But2.setRow {base L S : Nat} {a w : World} (h : But2 base L S a w) (c : Array Value) : But2 base L S a (w.setRow S c) :=
  h.trans ⟨rfl, rfl, rfl, by simp, fun k _ _ hk => setRow_far _ _ _ _ hk⟩
theorem But2.drewN {base L S : Nat} {a w : World} (h : But2 base L S a w) (n : Nat) : But2 base L S a (w.drewN n) := ⟨h.os, h.tape, h.output, h.size, h.block⟩

/-- What Sum holds between its parts. -/
structure Held (w : World) (base L S Kb : Nat) (K s : Nat → W) (left : List Int) (A : Option Addr) (c : Nat) : Prop where
  l : w.heap[L]? = some (.cells #[.slice A left.length c] 37 (0, 0))
  s : w.heap[S]? = some (.cells (arr s 8) 252 (0, 0))
  k : w.heap[Kb]? = some (.cells (arr K 64) 250 (0, 0))
  own : OwnAt w base (.slice A left.length c) left.length (left.map (Value.int .u8))
  byte : Byte left
  lb : L < base
  sb : S < base
  kb : Kb < base
  ls : L ≠ S
  lk : L ≠ Kb
  sk : S ≠ Kb
  bw : base ≤ w.heap.size

theorem Held.below {w w' : World} {base L S Kb : Nat} {K s : Nat → W} {left : List Int} {A : Option Addr} {c : Nat} (h : Held w base L S Kb K s left A c) (hb : Below w.heap.size w w') : Held w' base L S Kb K s left A c :=
  ⟨(hb.block L (Nat.lt_of_lt_of_le h.lb h.bw)).trans h.l, (hb.block S (Nat.lt_of_lt_of_le h.sb h.bw)).trans h.s, (hb.block Kb (Nat.lt_of_lt_of_le h.kb h.bw)).trans h.k, h.own.below hb, h.byte, h.lb, h.sb, h.kb, h.ls, h.lk, h.sk, Nat.le_trans h.bw hb.size⟩

set_option maxHeartbeats 2000000 in
set_option maxRecDepth 100000 in
theorem take_any (w : World) (base L S Kb : Nat) (K s : Nat → W) (left p : List Int) (A P : Option Addr) (c n cp : Nat) (h : Held w base L S Kb K s left A c) (hp : Rd .u8 w P n cp p) (hpb : Byte p) (hn : left.length + n ≤ 70368744177664) :
    Calls Try.prog 219 #[.slice P n cp, .pointer (some ⟨L, 0, none⟩), .pointer (some ⟨S, 0, none⟩), .pointer (some ⟨Kb, 0, none⟩)] w fun e w' =>
      e = .returned (.tuple #[]) ∧ ∃ A' c', Held w' base L S Kb K (feed K s (left ++ p)).1 (feed K s (left ++ p)).2 A' c' ∧ But2 base L S w w' := by
  have H := As.mk h
  have HN := As.mk hn
  have HPB := As.mk hpb
  have l0 : w.cell? ⟨L, 0, none⟩ = some (.slice A left.length c) := by simp [World.cell?, h.l]
  have l1 : w.frozen? ⟨L, 0, none⟩ = false := by simp [World.frozen?, h.l]
  have hlb := h.lb
  have hbw := h.bw
  clear h hn hpb
  go_enter Try.func219, Try.ntmps219
  go_wp2_with (at_builtin; refine wpList_app2 rfl _ _ 37 rfl base 5 (.int .u8 0) 1 Try.underlying37 CloneB.info rfl _ left.length _ rfl H.out.own _ n _ rfl (Src.rd hp) ?c1 ?c2 hbw (Below.refl base w) (Nat.le_refl _) ?_; (case c1 => have := HN.out; unfold maxLen; omega); (case c2 => have := HN.out; omega); intro v1 w1 hown hg hat hb1; obtain ⟨A1, c1, rfl⟩ := hown.slice; have HB1 := As.mk hb1; have HO1 := As.mk hown; have l0' := (hb1.cell (p := ⟨L, 0, none⟩) hlb).trans l0; have l1' := (hb1.frozen (p := ⟨L, 0, none⟩) hlb).trans l1; clear hown hg hat hb1)
  have hpl := hp.len
  have HST : As (Held (w1.setCell ⟨L, 0, none⟩ (.slice A1 (left.length + n) c1)) base L S Kb K s (left ++ p) A1 c1) := ⟨by
    have e : (left ++ p).length = left.length + n := by rw [List.length_append, hpl]
    have hh := H.out
    refine ⟨?_, ?_, ?_, ?_, ?_, hh.lb, hh.sb, hh.kb, hh.ls, hh.lk, hh.sk, ?_⟩
    · rw [e]
      have := (HB1.out.block L hh.lb).trans hh.l
      exact heap_setCell_same w1 L 0 _ _ _ this
    · rw [Below.heap_setCell _ _ _ _ (fun e => hh.ls e.symm)]
      exact (HB1.out.block S hh.sb).trans hh.s
    · rw [Below.heap_setCell _ _ _ _ (fun e => hh.lk e.symm)]
      exact (HB1.out.block Kb hh.kb).trans hh.k
    · rw [e, List.map_append]
      exact HO1.out.kept fun k hk => Below.heap_setCell _ _ _ _ (fun e => by have := (HO1.out.lt k hk).1; have := hh.lb; simp at e; omega)
    · intro x hx
      rcases List.mem_append.mp hx with h | h
      · exact hh.byte x h
      · exact HPB.out x h
    · have := HB1.out.size
      have := hh.bw
      simp [World.setCell]; omega⟩
  have HBT : As (But2 base L S w (w1.setCell ⟨L, 0, none⟩ (.slice A1 (left.length + n) c1))) := ⟨(But2.of_below HB1.out).setCell 0 _⟩
  clear l0 l1 l0' l1' HO1 HB1 H
  go_loopg [] (left.length + n) (fun kq wr => ∃ (s' : Nat → W) (left' : List Int) (A' : Option Addr) (c' : Nat), left'.length = kq ∧ As (Held wr base L S Kb K s' left' A' c') ∧ As (feed K s' left' = feed K s (left ++ p)) ∧ As (But2 base L S w wr))
  case atStart => exact ⟨s, left ++ p, A1, c1, by rw [List.length_append, hpl], HST, ⟨rfl⟩, HBT⟩
  case round =>
    clear HST HBT hp hpl
    obtain ⟨s', left', A', c', hlen, H, HF, HBT⟩ := hrel
    subst hlen
    have l0 : wr.cell? ⟨L, 0, none⟩ = some (.slice A' left'.length c') := by simp [World.cell?, H.out.l]
    have l1 : wr.frozen? ⟨L, 0, none⟩ = false := by simp [World.frozen?, H.out.l]
    by_cases h64 : 64 ≤ left'.length
    · have d0 : decide (64 ≤ (left'.length : Int)) = true := decide_eq_true (by omega)
      have d1 : decide (64 ≤ left'.length) = true := decide_eq_true h64
      have cs : ∀ j, j < 8 → wr.cell? ⟨S, j, none⟩ = some (.int .u32 ((s' j).toNat : Int)) := fun j hj => by rw [cell_of_row wr _ j _ _ _ H.out.s]; exact arr_at _ _ _ hj
      have x0 := cs 0 (by omega)
      have x1 := cs 1 (by omega)
      have x2 := cs 2 (by omega)
      have x3 := cs 3 (by omega)
      have x4 := cs 4 (by omega)
      have x5 := cs 5 (by omega)
      have x6 := cs 6 (by omega)
      have x7 := cs 7 (by omega)
      obtain ⟨A2, c2, e2, hr2⟩ := H.out.own.rd
      cases e2
      have hcc := hr2.le
      have HR := As.mk (hr2.to 64 h64)
      have hsl : ∀ W, (Instr.slice 37 (.slice A' left'.length c') none (some (.int .i64 64)) none).run Try.prog W = .ok (.slice (cutA A' c' 0 1) 64 c') W := fun W => run_cut_to (P := Try.prog) W 37 5 Try.underlying37 CloneB.info A' left'.length c' 64 .i64 (by omega)
      have hsl2 : ∀ W, (Instr.slice 37 (.slice A' left'.length c') (some (.int .i64 64)) none none).run Try.prog W = .ok (.slice (cutA A' c' 64 1) (left'.length - 64) (c' - 64)) W := fun W => run_cut_from (P := Try.prog) W 37 5 Try.underlying37 CloneB.info A' left'.length c' 64 .i64 h64
      clear cs hr2
      go_wp2
      refine still_tail 3 (by kernel_rfl) (by kernel_rfl) ?_
      simp only [List.take_succ_cons, List.take_zero, List.drop_succ_cons, List.drop_zero]
      repeat still_step
      refine wpStill_nil ?_
      clear x0 x1 x2 x3 x4 x5 x6 x7
      have hkk : ∀ j, j < 64 → (wr.drewN 1).cell? ⟨Kb, j, none⟩ = some (.int .u32 ((K j).toNat : Int)) := fun j hj => by
        show wr.cell? _ = _
        rw [cell_of_row wr _ j _ _ _ H.out.k]; exact arr_at _ _ _ hj
      have HKK := As.mk hkk
      have HB64 : As (Byte (left'.take 64)) := ⟨fun x hx => H.out.byte x (List.mem_of_mem_take hx)⟩
      have HLT : As (Kb < (wr.drewN 1).heap.size) := ⟨by have := H.out.kb; have := H.out.bw; show Kb < wr.heap.size; omega⟩
      clear hkk
      go_wp2_with (first
        | (go_at_call 220; refine (piece_any K s' (left'.take 64) HB64.out _ _ Kb _ (HR.out.drewN 1) HLT.out HKK.out).mono ?_; rintro e w2 ⟨rfl, hb⟩; have HB2 := As.mk (below_undrewN hb); clear hb)
        | (refine wpList_storeArr rfl rfl 252 (.tmp 2) (.tmp 14) rfl S rfl (arr (piece K (left'.take 64) s') 8) rfl 252 (arr s' 8) ((HB2.out.block S (Nat.lt_of_lt_of_le H.out.sb H.out.bw)).trans H.out.s) (n8 _) (by rw [arr_size, arr_size]) (arr_one _ _) ?_; have y0 : (w2.setRow S (arr (piece K (left'.take 64) s') 8)).heap[L]? = some (.cells #[.slice A' left'.length c'] 37 (0, 0)) := (setRow_far _ _ _ _ H.out.ls).trans ((HB2.out.block L (Nat.lt_of_lt_of_le H.out.lb H.out.bw)).trans H.out.l); have y1 : (w2.setRow S (arr (piece K (left'.take 64) s') 8)).cell? ⟨L, 0, none⟩ = some (.slice A' left'.length c') := (cell_of_row _ L 0 _ _ _ y0); have y2 : (w2.setRow S (arr (piece K (left'.take 64) s') 8)).frozen? ⟨L, 0, none⟩ = false := frozen_of_row _ L 0 _ _ y0; have Y0 := As.mk y0; clear y0))
      have e64 : (left'.drop 64).length = left'.length - 64 := by rw [List.length_drop]
      go_roundg (left'.length - 64)
      case measure => omega
      case rel =>
        have hh := H.out
        have hb2 := HB2.out
        have hsz : wr.heap.size ≤ w2.heap.size := hb2.size
        refine ⟨piece K (left'.take 64) s', left'.drop 64, cutA A' c' 64 1, c' - 64, e64, ⟨?_, ?_, ?_, ?_, ?_, hh.lb, hh.sb, hh.kb, hh.ls, hh.lk, hh.sk, ?_⟩, ⟨?_⟩, ⟨(((HBT.out.trans (But2.of_below (hb2.mono hh.bw))).setRow _).setCell 0 _)⟩⟩
        · rw [e64]
          exact heap_setCell_same _ L 0 _ _ _ Y0.out
        · rw [Below.heap_setCell _ _ _ _ (fun e => hh.ls e.symm)]
          exact setRow_new _ _ (arr s' 8) _ _ ((hb2.block S (Nat.lt_of_lt_of_le hh.sb hh.bw)).trans hh.s)
        · rw [Below.heap_setCell _ _ _ _ (fun e => hh.lk e.symm), setRow_far _ _ _ _ (fun e => hh.sk e.symm)]
          exact (hb2.block Kb (Nat.lt_of_lt_of_le hh.kb hh.bw)).trans hh.k
        · have ho := hh.own.from (l := 64) h64
          rw [e64, List.map_drop]
          refine ho.kept fun k hk => ?_
          have hkk := ho.lt k hk
          rw [Below.heap_setCell _ _ _ _ (fun e => by have := hh.lb; simp at e; omega), setRow_far _ _ _ _ (fun e => by have := hh.sb; omega)]
          exact hb2.block k hkk.2
        · exact fun x hx => hh.byte x (List.mem_of_mem_drop hx)
        · have := hh.bw
          simp [World.setCell]; omega
        · rw [← HF.out, feed_hi K s' left' (by omega)]
    · have d0 : decide (64 ≤ (left'.length : Int)) = false := decide_eq_false (by omega)
      have d1 : decide (64 ≤ left'.length) = false := decide_eq_false h64
      go_wp2
      go_end0
      refine ⟨rfl, A', c', ?_, HBT.out⟩
      rw [← HF.out, feed_lo _ _ _ (by omega)]
      exact H.out

end Go.Proofs.Yteajblfkfmopfaa.Take
