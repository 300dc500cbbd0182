/- field.Writer. -/
import Derived.Test.YteajblfkfmopfaaPut
namespace Go.Proofs.Yteajblfkfmopfaa.Field
set_option linter.unusedVariables false
set_option linter.unusedSimpArgs false
open Go Go.RowKit Go.Proofs.Yteajblfkfmopfaa.Mem Go.Proofs.Yteajblfkfmopfaa.Put32 Go.Proofs.Yteajblfkfmopfaa.Pad Go.Proofs.Yteajblfkfmopfaa.Put

/-- everything but a block, and a row's block, lies as it lay -/
structure Wk (B : Nat) (v : Value) (w w' : World) : Prop where
  os : w'.os = w.os
  tape : w'.tape = w.tape
  output : w'.output = w.output
  size : w.heap.size ≤ w'.heap.size
  block : ∀ k, k < w.heap.size → k ≠ B → v.ownBlock ≠ some k → w'.heap[k]? = w.heap[k]?
theorem Wk.below {B : Nat} {v : Value} {w w' : World} (h : Wk B v w w') {b : Nat} (hb : b ≤ B) (hs : b ≤ w.heap.size) (hv : ∀ k, v.ownBlock = some k → b ≤ k) : Below b w w' :=
  ⟨h.os, h.tape, h.output, h.size, fun k hk => h.block k (by omega) (by omega) fun e => by have := hv k e; omega⟩
/-- a writer: what went wrong, what was written -/
structure Wr (B : Nat) (w : World) (e : Int) (A : Option Addr) (n c : Nat) (x : List Int) : Prop where
  at_ : w.heap[B]? = some (.cells #[.int .i64 e, .slice A n c] 192 (0, 0))
  own : OwnAt w (B + 1) (.slice A n c) n (x.map (Value.int .u8))
theorem Wr.lt {B : Nat} {w : World} {e : Int} {A : Option Addr} {n c : Nat} {x : List Int} (h : Wr B w e A n c x) : B < w.heap.size := (Array.getElem?_eq_some_iff.1 h.at_).1
theorem Wr.len {B : Nat} {w : World} {e : Int} {A : Option Addr} {n c : Nat} {x : List Int} (h : Wr B w e A n c x) : x.length = n := by have := h.own.1; simpa using this
theorem Wr.below {B : Nat} {w w' : World} {e : Int} {A : Option Addr} {n c : Nat} {x : List Int} (h : Wr B w e A n c x) (hb : Below w.heap.size w w') : Wr B w' e A n c x :=
  ⟨(hb.block _ h.lt).trans h.at_, h.own.below hb⟩
theorem Wr.new (w : World) : Wr w.heap.size (w.alloc (.cells #[.int .i64 0, .slice none 0 0] 192)) 0 none 0 0 [] :=
  ⟨heap_alloc_new w _, OwnAt.nil _ _⟩
theorem Wr.c0 {B : Nat} {w : World} {e : Int} {A : Option Addr} {n c : Nat} {x : List Int} (h : Wr B w e A n c x) : w.cell? ⟨B, 0, none⟩ = some (.int .i64 e) := cell_of_row w _ 0 _ _ _ h.at_
theorem Wr.c1 {B : Nat} {w : World} {e : Int} {A : Option Addr} {n c : Nat} {x : List Int} (h : Wr B w e A n c x) : w.cell? ⟨B, 1, none⟩ = some (.slice A n c) := cell_of_row w _ 1 _ _ _ h.at_
theorem Wr.f (j : Nat) {B : Nat} {w : World} {e : Int} {A : Option Addr} {n c : Nat} {x : List Int} (h : Wr B w e A n c x) : w.frozen? ⟨B, j, none⟩ = false := frozen_of_row w _ j _ _ h.at_
set_option maxHeartbeats 400000 in
theorem good_any (B : Nat) (w : World) (e : Int) (A : Option Addr) (n c : Nat) (x : List Int) (h : Wr B w e A n c x) (b : Bool) (hb : (e == 0) = b) :
    Calls Try.prog 196 #[.pointer (some ⟨B, 0, none⟩)] w fun e' w' => e' = .returned (.bool b) ∧ w = w' := by
  have h0 := h.c0
  clear h
  go_enter Try.func196, Try.ntmps196
  go_wp2
  go_ret
  exact ⟨rfl, rfl⟩
set_option maxHeartbeats 1000000 in
set_option maxRecDepth 100000 in
theorem put_any (B : Nat) (w : World) (A : Option Addr) (n c : Nat) (x : List Int) (h : Wr B w 0 A n c x) (S : Option Addr) (m d : Nat) (y : List Int) (hs : Rd .u8 w S m d y) (hm : n + m ≤ 140737488355328) :
    Calls Try.prog 194 #[.pointer (some ⟨B, 0, none⟩), .slice S m d, .int .i64 0] w fun e w' => e = .returned (.tuple #[]) ∧ ∃ A' c', Wr B w' 0 A' (n + m) c' (x ++ y) ∧ Wk B (.slice A n c) w w' ∧ ((Value.slice A' (n + m) c').ownBlock = (Value.slice A n c).ownBlock ∨ ∃ k, (Value.slice A' (n + m) c').ownBlock = some k ∧ w.heap.size ≤ k) := by
  have H := As.mk h
  have HS := As.mk (Src.rd hs)
  have HM := As.mk hm
  have h0 := h.c0
  have h1 := h.c1
  clear h hs hm
  go_enter Try.func194, Try.ntmps194
  go_wp2_with (first
    | (go_at_call 196; (refine (good_any B w 0 A n c x H.out true rfl).mono ?_); rintro e w1 ⟨rfl, rfl⟩)
    | (at_builtin; refine wpList_app2 rfl (.tmp 20) (.tmp 21) 37 rfl (B + 1) 5 (.int .u8 0) 1 Try.underlying37 CloneB.info rfl _ n _ rfl H.out.own _ m _ rfl HS.out ?d1 ?d2 H.out.lt (Below.refl _ w) (Nat.zero_le _) ?_; (case d1 => have := HM.out; unfold maxLen; omega); (case d2 => have := HM.out; omega); intro va wa hown hg hat hb; obtain ⟨Aa, ca, rfl⟩ := hown.slice; have HOa := As.mk hown; have HG := As.mk hg; have HA := As.mk hat; have HBa := As.mk ((hg.block B H.out.lt (fun e => by have := (H.out.own.lt B e.symm).1; omega)).trans H.out.at_); clear hown hg hat hb; refine As.out ?_))
  refine As.mk ?_
  have g1 : wa.cell? ⟨B, 1, none⟩ = some (.slice A n c) := cell_of_row wa _ 1 _ _ _ HBa.out
  have f1 : wa.frozen? ⟨B, 1, none⟩ = false := frozen_of_row wa _ 1 _ _ HBa.out
  go_wp2
  go_end0
  refine ⟨rfl, Aa, ca, ⟨?_, ?_⟩, ⟨HG.out.os, HG.out.tape, HG.out.output, ?_, ?_⟩, ?_⟩
  · exact heap_setCell_same _ _ _ _ _ _ HBa.out
  · rw [List.map_append]
    refine HOa.out.kept fun k hk => ?_
    have := (HOa.out.lt k hk).1
    exact heap_setCell_other _ _ _ _ (show k ≠ B by omega)
  · have := HG.out.size
    simpa using this
  · intro k hk hkB hkv
    exact (heap_setCell_other _ _ _ _ hkB).trans (HG.out.block k hk (fun e => hkv e.symm))
  · rcases HA.out with h | h
    · exact .inl h
    · exact .inr ⟨_, h, Nat.le_refl _⟩
/-- what a write leaves -/
def Put' (B : Nat) (w w' : World) (A : Option Addr) (n c m : Nat) (z : List Int) : Prop :=
  ∃ A' c', Wr B w' 0 A' (n + m) c' z ∧ Wk B (.slice A n c) w w' ∧ ((Value.slice A' (n + m) c').ownBlock = (Value.slice A n c).ownBlock ∨ ∃ k, (Value.slice A' (n + m) c').ownBlock = some k ∧ w.heap.size ≤ k)
set_option maxHeartbeats 400000 in
theorem fixed_any (B : Nat) (w : World) (A : Option Addr) (n c : Nat) (x : List Int) (h : Wr B w 0 A n c x) (S : Option Addr) (m d : Nat) (y : List Int) (hs : Rd .u8 w S m d y) (hm : n + m ≤ 140737488355328) :
    Calls Try.prog 146 #[.pointer (some ⟨B, 0, none⟩), .slice S m d] w fun e w' => e = .returned (.tuple #[]) ∧ Put' B w w' A n c m (x ++ y) := by
  have H := As.mk h
  have HS := As.mk hs
  have HM := As.mk hm
  clear h hs hm
  go_enter Try.func146, Try.ntmps146
  go_wp2_with (go_at_call 194; (with_reducible refine (put_any B w A n c x H.out S m d y HS.out HM.out).mono ?_); rintro e w1 ⟨rfl, hr⟩; have HR := As.mk hr; clear hr)
  go_end0
  exact ⟨rfl, HR.out⟩
theorem Wr.own_far {B : Nat} {w : World} {e : Int} {A : Option Addr} {n c : Nat} {x : List Int} (h : Wr B w e A n c x) : ∀ k, (Value.slice A n c).ownBlock = some k → B < k ∧ k < w.heap.size := fun k hk => by
  have := h.own.lt k hk
  omega
set_option maxHeartbeats 400000 in
theorem number_any (B : Nat) (w : World) (A : Option Addr) (n c : Nat) (x : List Int) (h : Wr B w 0 A n c x) (v size : Nat) (hs : 1 ≤ size ∧ size ≤ 8) (hv : v ≤ 4611686018427387904) (hf : v < 256 ^ size) (hm : n + size ≤ 140737488355328) :
    Calls Try.prog 145 #[.pointer (some ⟨B, 0, none⟩), .int .i64 (v : Int), .int .i64 (size : Int)] w fun e w' => e = .returned (.tuple #[]) ∧ Put' B w w' A n c size (x ++ beB size v) := by
  have H := As.mk h
  have HS := As.mk hs
  have HV := As.mk hv
  have HF := As.mk hf
  have HM := As.mk hm
  clear h hs hm hv hf
  go_enter Try.func145, Try.ntmps145
  go_wp2_with (first
    | (go_at_call 195; (with_reducible refine (put_ok size v HS.out HV.out HF.out _).mono ?_); rintro e w1 ⟨S, d, rfl, hb, ho⟩; obtain ⟨S', d', e', hrd⟩ := ho.rd; cases e'; have HB := As.mk hb; have HRD := As.mk hrd; clear hb ho hrd)
    | (go_at_call 194; (with_reducible refine (put_any B w1 A n c x (H.out.below HB.out) S size d _ HRD.out HM.out).mono ?_); rintro e w2 ⟨rfl, hr⟩; have HR := As.mk hr; clear hr))
  go_end0
  refine ⟨rfl, ?_⟩
  obtain ⟨A', c', h1, h2, h3⟩ := HR.out
  have hb := HB.out
  refine ⟨A', c', h1, ⟨h2.os.trans hb.os, h2.tape.trans hb.tape, h2.output.trans hb.output, Nat.le_trans hb.size h2.size, fun k hk h4 h5 => (h2.block k (Nat.lt_of_lt_of_le hk hb.size) h4 h5).trans (hb.block k hk)⟩, ?_⟩
  rcases h3 with h3 | ⟨k, h3, h4⟩
  · exact .inl h3
  · exact .inr ⟨k, h3, Nat.le_trans hb.size h4⟩
set_option maxHeartbeats 400000 in
theorem out_any (B : Nat) (w : World) (A : Option Addr) (n c : Nat) (x : List Int) (h : Wr B w 0 A n c x) (hn : n ≤ 140737488351232) :
    Calls Try.prog 147 #[.pointer (some ⟨B, 0, none⟩)] w fun e w' => ∃ A' c', e = .returned (.tuple #[.slice A' n c', .int .i64 0]) ∧ OwnAt w' w.heap.size (.slice A' n c') n (x.map (Value.int .u8)) ∧ Below w.heap.size w w' := by
  have H := As.mk h
  have HN := As.mk hn
  have h1 := h.c1
  obtain ⟨A', c', e', hrd⟩ := h.own.rd
  cases e'
  have HRD := As.mk hrd
  clear h hn hrd
  go_enter Try.func147, Try.ntmps147
  go_wp2_with (first
    | (go_at_call 196; (with_reducible refine (good_any B w 0 A n c x H.out true rfl).mono ?_); rintro e w1 ⟨rfl, rfl⟩)
    | (go_at_call 128; (with_reducible refine (CloneB.any x A n c w HN.out HRD.out).mono ?_); rintro e w1 ⟨A1, c1, rfl, ho, hb⟩; have HO := As.mk ho; have HB := As.mk hb; clear ho hb))
  go_ret2
  exact ⟨_, _, rfl, OwnAt.of_own HO.out, HB.out⟩
end Go.Proofs.Yteajblfkfmopfaa.Field
