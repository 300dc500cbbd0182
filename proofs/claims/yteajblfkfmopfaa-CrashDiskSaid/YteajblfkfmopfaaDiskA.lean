/- A disk in memory: what it is, what stays. A disk: what it is asked for, the power. -/
import Derived.Test.YteajblfkfmopfaaCrashImg
namespace Go.Proofs.Yteajblfkfmopfaa.Disk
set_option linter.unusedVariables false
set_option linter.unusedSimpArgs false
open Go Go.RowKit Go.Proofs.Yteajblfkfmopfaa.Mem Go.Proofs.Yteajblfkfmopfaa.Put32 Go.Proofs.Yteajblfkfmopfaa.Sum Go.Proofs.Yteajblfkfmopfaa.Hmac Go.Proofs.Yteajblfkfmopfaa.Parts Go.Proofs.Yteajblfkfmopfaa.Entries Go.Proofs.Yteajblfkfmopfaa.CrashApply Go.Proofs.Yteajblfkfmopfaa.LawCrash

/-- nothing that was there has turned, but for some blocks -/
structure Grow (M : Nat → Prop) (w w' : World) : Prop where
  os : w'.os = w.os
  tape : w'.tape = w.tape
  output : w'.output = w.output
  size : w.heap.size ≤ w'.heap.size
  block : ∀ k, k < w.heap.size → ¬ M k → w'.heap[k]? = w.heap[k]?
theorem Grow.refl (M : Nat → Prop) (w : World) : Grow M w w := ⟨rfl, rfl, rfl, Nat.le_refl _, fun _ _ _ => rfl⟩
theorem Grow.trans {M M1 : Nat → Prop} {w w1 w2 : World} (h : Grow M w w1) (k : Grow M1 w1 w2) (hM : ∀ b, M1 b → M b ∨ w.heap.size ≤ b) : Grow M w w2 :=
  ⟨k.os.trans h.os, k.tape.trans h.tape, k.output.trans h.output, Nat.le_trans h.size k.size, fun i hi hm => (k.block i (Nat.lt_of_lt_of_le hi h.size) fun h1 => by
    rcases hM i h1 with h2 | h2
    · exact hm h2
    · omega).trans (h.block i hi hm)⟩
theorem Grow.andThen {M : Nat → Prop} {w w1 w2 : World} (h : Grow M w w1) (k : Grow M w1 w2) : Grow M w w2 := h.trans k fun _ hb => .inl hb
theorem Grow.of_below {M : Nat → Prop} {w w' : World} (h : Below w.heap.size w w') : Grow M w w' := ⟨h.os, h.tape, h.output, h.size, fun k hk _ => h.block k hk⟩
theorem Grow.of_grown {M : Nat → Prop} {w w' : World} {row : Option Nat} (h : w.grownBy w' row) (hr : ∀ b, row = some b → M b) : Grow M w w' :=
  ⟨h.os, h.tape, h.output, h.size, fun k hk hm => h.block k hk fun e => hm (hr k e.symm)⟩
theorem Grow.set {M : Nat → Prop} {w : World} {b : Nat} (h : M b) (o : Nat) (v : Value) : Grow M w (w.setCell ⟨b, o, none⟩ v) :=
  .of_grown (grownBy_setCell w b o v) fun k e => by injection e with e; exact e ▸ h
where grownBy_setCell (w : World) (b o : Nat) (v : Value) : w.grownBy (w.setCell ⟨b, o, none⟩ v) (some b) := ⟨rfl, rfl, rfl, by simp [World.setCell], fun k _ hne => heap_setCell_other _ _ _ _ (fun e => hne (by rw [e]))⟩
theorem Grow.keeps {M : Nat → Prop} {w w' : World} (h : Grow M w w') : KeepsX w w' M := fun a _ hm hc =>
  (World.cell?_of_block (h.block a.block (World.block_lt_of_cell? w _ hc) hm)).trans hc
theorem Grow.below {M : Nat → Prop} {B : Nat} {w w' : World} (h : Grow M w w') (hM : ∀ b, M b → B ≤ b) (hB : B ≤ w.heap.size) : Below B w w' :=
  ⟨h.os, h.tape, h.output, h.size, fun k hk => h.block k (by omega) fun hm => by have := hM k hm; omega⟩
/-- bytes that stay, whatever becomes of those blocks -/
def StR (w : World) (M : Nat → Prop) (A : Option Addr) (n c : Nat) (x : List Int) : Prop := ∀ w', KeepsX w w' M → Rd .u8 w' A n c x
theorem StR.rd {w : World} {M : Nat → Prop} {A : Option Addr} {n c : Nat} {x : List Int} (h : StR w M A n c x) : Rd .u8 w A n c x := h w (KeepsX.refl w M)
theorem StR.step {w w' : World} {M M' : Nat → Prop} {A : Option Addr} {n c : Nat} {x : List Int} (h : StR w M A n c x) (hk : KeepsX w w' M) (hM : ∀ b, M' b → M b ∨ w.heap.size ≤ b) : StR w' M' A n c x :=
  fun w2 h2 => h w2 (hk.trans h2 hM)
theorem StR.fresh {w : World} {M : Nat → Prop} {base : Nat} {A : Option Addr} {n c : Nat} {x : List Int} (h : OwnAt w base (.slice A n c) n (x.map (Value.int .u8))) (hM : ∀ b, M b → b < base) : StR w M A n c x :=
  fun _ hk => rd_keeps (own_rd_at h) hk fun _ ad ea hm => by
    subst ea
    have h1 := (h.lt _ rfl).1
    have h2 := hM _ hm
    omega
theorem StR.old {w0 w : World} {M : Nat → Prop} {A : Option Addr} {n c : Nat} {x : List Int} (h : Rd .u8 w0 A n c x) (hb : Below w0.heap.size w0 w) (hM : ∀ b, M b → w0.heap.size ≤ b) : StR w M A n c x :=
  fun _ hk => rd_keeps (h.below hb) hk fun h0 ad ea hm => by
    subst ea
    have h1 := rd_lt h h0
    have h2 := hM _ hm
    omega
/-- truth values that stay -/
def StB (w : World) (M : Nat → Prop) (A : Option Addr) (n c : Nat) (x : List Bool) : Prop := ∀ w', KeepsX w w' M → RdB w' A n c x
theorem StB.rd {w : World} {M : Nat → Prop} {A : Option Addr} {n c : Nat} {x : List Bool} (h : StB w M A n c x) : RdB w A n c x := h w (KeepsX.refl w M)
theorem StB.step {w w' : World} {M M' : Nat → Prop} {A : Option Addr} {n c : Nat} {x : List Bool} (h : StB w M A n c x) (hk : KeepsX w w' M) (hM : ∀ b, M' b → M b ∨ w.heap.size ≤ b) : StB w' M' A n c x :=
  fun w2 h2 => h w2 (hk.trans h2 hM)
theorem StB.nil (w : World) (M : Nat → Prop) : StB w M none 0 0 [] := fun _ _ => ⟨rfl, Nat.le_refl _, by unfold maxLen; omega, fun h => by omega⟩
/-- what a disk is -/
structure DS where
  n : Nat
  size : Nat
  kept : List (List Int)
  waits : List (Int × List Int)
  off : Bool
  fuse : Nat
  keep : List Bool
  steps : Nat
abbrev dCells (S : DS) (Ak : Option Addr) (ck : Nat) (Aw : Option Addr) (cw : Nat) (Ab : Option Addr) (cb : Nat) : Array Value :=
  #[.slice Ak S.n ck, .int .i64 (S.size : Int), .slice Aw S.waits.length cw, .bool S.off, .int .i64 (S.fuse : Int), .slice Ab S.keep.length cb, .int .i64 (S.steps : Int)]
structure DIn (w : World) (M : Nat → Prop) (P : Nat) (S : DS) (Ak : Option Addr) (ck : Nat) (Aw : Option Addr) (cw : Nat) (Ab : Option Addr) (cb : Nat) (LK LW : List Value) : Prop where
  pb : w.heap[P]? = some (.cells (dCells S Ak ck Aw cw Ab cb) 177 (0, 0))
  mp : M P
  ml : ∀ b, M b → b < w.heap.size
  ko : OwnAt w 0 (.slice Ak S.n ck) S.n LK
  km : ∀ b, (Value.slice Ak S.n ck).ownBlock = some b → M b ∧ b ≠ P
  ke : ∀ j, j < S.n → ∃ A c, LK[j]? = some (.slice A S.size c) ∧ StR w M A S.size c (nthP S.kept j)
  wo : w.ownsRow 0 181 2 (.slice Aw S.waits.length cw) S.waits.length LW
  wm : ∀ b, (Value.slice Aw S.waits.length cw).ownBlock = some b → M b ∧ b ≠ P ∧ (Value.slice Ak S.n ck).ownBlock ≠ some b
  we : ∀ j, j < S.waits.length → ∃ A c, LW[j * 2]? = some (.int .i64 (nthE S.waits j).1) ∧ LW[j * 2 + 1]? = some (.slice A S.size c) ∧ StR w M A S.size c (nthE S.waits j).2
  kb : StB w M Ab S.keep.length cb S.keep
  n1 : 1 ≤ S.n ∧ S.n ≤ 1048576
  sz : S.size ≤ 256
  kl : S.kept.length = S.n
  ws : ∀ j, j < S.waits.length → 0 ≤ (nthE S.waits j).1 ∧ (nthE S.waits j).1 < S.n
  fs : S.fuse ≤ 1099511627777
def DAt (w : World) (M : Nat → Prop) (P : Nat) (S : DS) : Prop := ∃ Ak ck Aw cw Ab cb LK LW, DIn w M P S Ak ck Aw cw Ab cb LK LW
theorem own_keep {w w' : World} {base n : Nat} {e : TypeId} {size : Nat} {v : Value} {xs : List Value} (h : w.ownsRow base e size v n xs) (hb : ∀ k, v.ownBlock = some k → w'.heap[k]? = w.heap[k]?) : w'.ownsRow base e size v n xs := by
  obtain ⟨h1, h2⟩ := h
  refine ⟨h1, ?_⟩
  rcases h2 with h2 | ⟨g, cap, cur, rfl, hg, hh, r⟩
  · exact .inl h2
  · exact .inr ⟨g, cap, cur, rfl, hg, (hb g rfl).trans hh, r⟩
/-- what does not touch it -/
theorem DIn.mv {w w' : World} {M : Nat → Prop} {P : Nat} {S : DS} {Ak : Option Addr} {ck : Nat} {Aw : Option Addr} {cw : Nat} {Ab : Option Addr} {cb : Nat} {LK LW : List Value} (D : DIn w M P S Ak ck Aw cw Ab cb LK LW)
    (hz : w.heap.size ≤ w'.heap.size) (hk : KeepsX w w' M) (hb : ∀ b, M b → w'.heap[b]? = w.heap[b]?) : DIn w' M P S Ak ck Aw cw Ab cb LK LW :=
  { pb := (hb P D.mp).trans D.pb, mp := D.mp, ml := fun b h => Nat.lt_of_lt_of_le (D.ml b h) hz, ko := D.ko.kept fun k h => hb k (D.km k h).1, km := D.km,
    ke := fun j hj => by
      obtain ⟨A, c, e, h⟩ := D.ke j hj
      exact ⟨A, c, e, h.step hk fun b hb => .inl hb⟩,
    wo := own_keep D.wo fun k h => hb k (D.wm k h).1, wm := D.wm,
    we := fun j hj => by
      obtain ⟨A, c, e1, e2, h⟩ := D.we j hj
      exact ⟨A, c, e1, e2, h.step hk fun b hb => .inl hb⟩,
    kb := D.kb.step hk fun b hb => .inl hb, n1 := D.n1, sz := D.sz, kl := D.kl, ws := D.ws, fs := D.fs }
theorem DIn.below {w w' : World} {M : Nat → Prop} {P : Nat} {S : DS} {Ak : Option Addr} {ck : Nat} {Aw : Option Addr} {cw : Nat} {Ab : Option Addr} {cb : Nat} {LK LW : List Value} (D : DIn w M P S Ak ck Aw cw Ab cb LK LW)
    (h : Below w.heap.size w w') : DIn w' M P S Ak ck Aw cw Ab cb LK LW := D.mv h.size (keepsX_below h) fun b hb => h.block b (D.ml b hb)
theorem DAt.below {w w' : World} {M : Nat → Prop} {P : Nat} {S : DS} (D : DAt w M P S) (h : Below w.heap.size w w') : DAt w' M P S := by
  obtain ⟨Ak, ck, Aw, cw, Ab, cb, LK, LW, D⟩ := D
  exact ⟨Ak, ck, Aw, cw, Ab, cb, LK, LW, D.below h⟩
/-- a number or a truth value of it is set -/
theorem DIn.setP {w : World} {M : Nat → Prop} {P : Nat} {S : DS} {Ak : Option Addr} {ck : Nat} {Aw : Option Addr} {cw : Nat} {Ab : Option Addr} {cb : Nat} {LK LW : List Value} (D : DIn w M P S Ak ck Aw cw Ab cb LK LW) (o : Nat) (v : Value) (S2 : DS)
    (e : (dCells S Ak ck Aw cw Ab cb).setIfInBounds o v = dCells S2 Ak ck Aw cw Ab cb) (en : S2.n = S.n) (es : S2.size = S.size) (ek : S2.kept = S.kept) (ew : S2.waits = S.waits) (eb : S2.keep = S.keep) (hf : S2.fuse ≤ 1099511627777) : DIn (w.setCell ⟨P, o, none⟩ v) M P S2 Ak ck Aw cw Ab cb LK LW := by
  obtain ⟨n, size, kept, waits, off, fuse, keep, steps⟩ := S2
  simp only at en es ek ew eb hf
  subst en es ek ew eb
  have hz : w.heap.size ≤ (w.setCell ⟨P, o, none⟩ v).heap.size := by simp [World.setCell]
  have hk : KeepsX w (w.setCell ⟨P, o, none⟩ v) M := keepsX_set D.mp
  have ho : ∀ b, b ≠ P → (w.setCell ⟨P, o, none⟩ v).heap[b]? = w.heap[b]? := fun b hb => heap_setCell_other _ _ _ _ hb
  exact { pb := by
            have h1 := heap_setCell_same w P o _ _ v D.pb
            rw [e] at h1
            exact h1
          mp := D.mp, ml := fun b h => Nat.lt_of_lt_of_le (D.ml b h) hz, ko := D.ko.kept fun k h => ho k (D.km k h).2, km := D.km,
          ke := fun j hj => by
            obtain ⟨A, c, e, h⟩ := D.ke j hj
            exact ⟨A, c, e, h.step hk fun b hb => .inl hb⟩
          wo := own_keep D.wo fun k h => ho k (D.wm k h).2.1, wm := D.wm,
          we := fun j hj => by
            obtain ⟨A, c, e1, e2, h⟩ := D.we j hj
            exact ⟨A, c, e1, e2, h.step hk fun b hb => .inl hb⟩
          kb := D.kb.step hk fun b hb => .inl hb, n1 := D.n1, sz := D.sz, kl := D.kl, ws := D.ws, fs := hf }
/-- what is done to a disk -/
structure Did (w w' : World) (M M' : Nat → Prop) (P : Nat) (S' : DS) : Prop where
  d : DAt w' M' P S'
  g : Grow M w w'
  m : ∀ b, M' b → M b ∨ w.heap.size ≤ b
theorem Did.andThen {w w1 w2 : World} {M M1 M2 : Nat → Prop} {P : Nat} {S1 S2 : DS} (h : Did w w1 M M1 P S1) (k : Did w1 w2 M1 M2 P S2) : Did w w2 M M2 P S2 :=
  ⟨k.d, h.g.trans k.g h.m, fun b hb => by
    rcases k.m b hb with h1 | h1
    · exact h.m b h1
    · exact .inr (Nat.le_trans h.g.size h1)⟩
end Go.Proofs.Yteajblfkfmopfaa.Disk
namespace Go.Proofs.Yteajblfkfmopfaa.Disk
set_option linter.unusedVariables false
set_option linter.unusedSimpArgs false
open Go Go.RowKit Go.Proofs.Yteajblfkfmopfaa.Mem Go.Proofs.Yteajblfkfmopfaa.Put32 Go.Proofs.Yteajblfkfmopfaa.Sum Go.Proofs.Yteajblfkfmopfaa.Hmac Go.Proofs.Yteajblfkfmopfaa.Parts Go.Proofs.Yteajblfkfmopfaa.Entries Go.Proofs.Yteajblfkfmopfaa.CrashApply Go.Proofs.Yteajblfkfmopfaa.LawCrash

theorem DIn.c0 {w : World} {M : Nat → Prop} {P : Nat} {S : DS} {Ak : Option Addr} {ck : Nat} {Aw : Option Addr} {cw : Nat} {Ab : Option Addr} {cb : Nat} {LK LW : List Value} (D : DIn w M P S Ak ck Aw cw Ab cb LK LW) : w.cell? ⟨P, 0, none⟩ = some (.slice Ak S.n ck) := cell_of_row w P 0 _ _ _ D.pb
theorem DIn.c1 {w : World} {M : Nat → Prop} {P : Nat} {S : DS} {Ak : Option Addr} {ck : Nat} {Aw : Option Addr} {cw : Nat} {Ab : Option Addr} {cb : Nat} {LK LW : List Value} (D : DIn w M P S Ak ck Aw cw Ab cb LK LW) : w.cell? ⟨P, 1, none⟩ = some (.int .i64 (S.size : Int)) := cell_of_row w P 1 _ _ _ D.pb
theorem DIn.c2 {w : World} {M : Nat → Prop} {P : Nat} {S : DS} {Ak : Option Addr} {ck : Nat} {Aw : Option Addr} {cw : Nat} {Ab : Option Addr} {cb : Nat} {LK LW : List Value} (D : DIn w M P S Ak ck Aw cw Ab cb LK LW) : w.cell? ⟨P, 2, none⟩ = some (.slice Aw S.waits.length cw) := cell_of_row w P 2 _ _ _ D.pb
theorem DIn.c3 {w : World} {M : Nat → Prop} {P : Nat} {S : DS} {Ak : Option Addr} {ck : Nat} {Aw : Option Addr} {cw : Nat} {Ab : Option Addr} {cb : Nat} {LK LW : List Value} (D : DIn w M P S Ak ck Aw cw Ab cb LK LW) : w.cell? ⟨P, 3, none⟩ = some (.bool S.off) := cell_of_row w P 3 _ _ _ D.pb
theorem DIn.c4 {w : World} {M : Nat → Prop} {P : Nat} {S : DS} {Ak : Option Addr} {ck : Nat} {Aw : Option Addr} {cw : Nat} {Ab : Option Addr} {cb : Nat} {LK LW : List Value} (D : DIn w M P S Ak ck Aw cw Ab cb LK LW) : w.cell? ⟨P, 4, none⟩ = some (.int .i64 (S.fuse : Int)) := cell_of_row w P 4 _ _ _ D.pb
theorem DIn.c5 {w : World} {M : Nat → Prop} {P : Nat} {S : DS} {Ak : Option Addr} {ck : Nat} {Aw : Option Addr} {cw : Nat} {Ab : Option Addr} {cb : Nat} {LK LW : List Value} (D : DIn w M P S Ak ck Aw cw Ab cb LK LW) : w.cell? ⟨P, 5, none⟩ = some (.slice Ab S.keep.length cb) := cell_of_row w P 5 _ _ _ D.pb
theorem DIn.c6 {w : World} {M : Nat → Prop} {P : Nat} {S : DS} {Ak : Option Addr} {ck : Nat} {Aw : Option Addr} {cw : Nat} {Ab : Option Addr} {cb : Nat} {LK LW : List Value} (D : DIn w M P S Ak ck Aw cw Ab cb LK LW) : w.cell? ⟨P, 6, none⟩ = some (.int .i64 (S.steps : Int)) := cell_of_row w P 6 _ _ _ D.pb
theorem DIn.fz {w : World} {M : Nat → Prop} {P : Nat} {S : DS} {Ak : Option Addr} {ck : Nat} {Aw : Option Addr} {cw : Nat} {Ab : Option Addr} {cb : Nat} {LK LW : List Value} (D : DIn w M P S Ak ck Aw cw Ab cb LK LW) (i : Nat) : w.frozen? ⟨P, i, none⟩ = false := frozen_of_row w P i _ _ D.pb

set_option maxHeartbeats 400000 in
theorem is_ok (w : World) (M : Nat → Prop) (P : Nat) (S : DS) (h : DAt w M P S) :
    Calls Try.prog 131 #[.pointer (some ⟨P, 0, none⟩)] w fun e w' => e = .returned (.bool true) ∧ w = w' := by
  obtain ⟨Ak, ck, Aw, cw, Ab, cb, LK, LW, D⟩ := h
  have h0 := D.c0
  have hn : (0 : Int) < (S.n : Int) := by have := D.n1; omega
  have d0 : decide ((0 : Int) < (S.n : Int)) = true := decide_eq_true hn
  have d1 : decide (0 < S.n) = true := decide_eq_true (by omega)
  clear D
  go_enter Try.func131, Try.ntmps131
  go_wp2
  go_ret
  exact ⟨rfl, rfl⟩
set_option maxHeartbeats 400000 in
theorem is_nil (w : World) : Calls Try.prog 131 #[.pointer none] w fun e w' => e = .returned (.bool false) ∧ w = w' := by
  go_enter Try.func131, Try.ntmps131
  go_wp2
  go_ret
  exact ⟨rfl, rfl⟩
/-- may a sector be asked for? -/
def mayD (S : DS) (s : Int) : Int := if S.off = true then 40 else if s < 0 then 41 else if (S.n : Int) ≤ s then 41 else 0
set_option maxHeartbeats 400000 in
theorem dmay_ok (w : World) (M : Nat → Prop) (P : Nat) (S : DS) (s : Int) (h : DAt w M P S) :
    Calls Try.prog 126 #[.pointer (some ⟨P, 0, none⟩), .int .i64 s] w fun e w' => e = .returned (.int .i64 (mayD S s)) ∧ w = w' := by
  have HD := As.mk h
  obtain ⟨Ak, ck, Aw, cw, Ab, cb, LK, LW, D⟩ := h
  have h0 := D.c0
  have h3 := D.c3
  clear D
  cases ho : S.off with
  | true =>
    have HR := As.mk (show mayD S s = 40 by unfold mayD; rw [if_pos ho])
    rw [ho] at h3
    clear ho
    go_enter Try.func126, Try.ntmps126
    go_wp2_with (go_at_call 131; (with_reducible refine (is_ok w M P S HD.out).mono ?_); rintro e w1 ⟨rfl, rfl⟩)
    go_ret
    exact ⟨by rw [HR.out]; rfl, rfl⟩
  | false =>
    rw [ho] at h3
    by_cases hs : s < 0
    · have HR := As.mk (show mayD S s = 41 by unfold mayD; rw [if_neg (by rw [ho]; decide), if_pos hs])
      have d0 : decide (s < 0) = true := decide_eq_true hs
      clear ho
      go_enter Try.func126, Try.ntmps126
      go_wp2_with (go_at_call 131; (with_reducible refine (is_ok w M P S HD.out).mono ?_); rintro e w1 ⟨rfl, rfl⟩)
      go_ret
      exact ⟨by rw [HR.out]; rfl, rfl⟩
    · have d0 : decide (s < 0) = false := decide_eq_false hs
      have hs' : 0 ≤ s := by omega
      by_cases hn : (S.n : Int) ≤ s
      · have HR := As.mk (show mayD S s = 41 by unfold mayD; rw [if_neg (by rw [ho]; decide), if_neg hs, if_pos hn])
        have d1 : decide ((S.n : Int) ≤ s) = true := decide_eq_true hn
        clear ho
        go_enter Try.func126, Try.ntmps126
        go_wp2_with (go_at_call 131; (with_reducible refine (is_ok w M P S HD.out).mono ?_); rintro e w1 ⟨rfl, rfl⟩)
        go_ret
        exact ⟨by rw [HR.out]; rfl, rfl⟩
      · have HR := As.mk (show mayD S s = 0 by unfold mayD; rw [if_neg (by rw [ho]; decide), if_neg hs, if_neg hn])
        have d1 : decide ((S.n : Int) ≤ s) = false := decide_eq_false hn
        clear ho
        go_enter Try.func126, Try.ntmps126
        go_wp2_with (go_at_call 131; (with_reducible refine (is_ok w M P S HD.out).mono ?_); rintro e w1 ⟨rfl, rfl⟩)
        go_ret
        exact ⟨by rw [HR.out]; rfl, rfl⟩
set_option maxHeartbeats 400000 in
theorem dmay_nil (w : World) (s : Int) : Calls Try.prog 126 #[.pointer none, .int .i64 s] w fun e w' => e = .returned (.int .i64 1) ∧ w = w' := by
  go_enter Try.func126, Try.ntmps126
  go_wp2_with (go_at_call 131; (with_reducible refine (is_nil w).mono ?_); rintro e w1 ⟨rfl, rfl⟩)
  go_ret
  exact ⟨rfl, rfl⟩
set_option maxHeartbeats 400000 in
theorem power_ok (w : World) (M : Nat → Prop) (P : Nat) (S : DS) (h : DAt w M P S) :
    Calls Try.prog 60 #[.pointer (some ⟨P, 0, none⟩)] w fun e w' => e = .returned (.tuple #[]) ∧ Did w w' M M P { S with off := false, fuse := 0 } := by
  have HD := As.mk h
  obtain ⟨Ak, ck, Aw, cw, Ab, cb, LK, LW, D⟩ := h
  have h3 := D.c3
  have h4 := D.c4
  have z3 := D.fz 3
  have z4 := D.fz 4
  have HE := As.mk (show Did w ((w.setCell ⟨P, 3, none⟩ (.bool false)).setCell ⟨P, 4, none⟩ (.int .i64 0)) M M P { S with off := false, fuse := 0 } from
    ⟨⟨Ak, ck, Aw, cw, Ab, cb, LK, LW, (D.setP 3 (.bool false) { S with off := false } rfl rfl rfl rfl rfl rfl D.fs).setP 4 (.int .i64 0) { S with off := false, fuse := 0 } rfl rfl rfl rfl rfl rfl (Nat.zero_le _)⟩, (Grow.set D.mp 3 _).andThen (Grow.set D.mp 4 _), fun _ hb => .inl hb⟩)
  clear D
  go_enter Try.func60, Try.ntmps60
  go_wp2_with (go_at_call 131; (with_reducible refine (is_ok w M P S HD.out).mono ?_); rintro e w1 ⟨rfl, rfl⟩)
  go_end0
  exact ⟨rfl, HE.out⟩
end Go.Proofs.Yteajblfkfmopfaa.Disk
