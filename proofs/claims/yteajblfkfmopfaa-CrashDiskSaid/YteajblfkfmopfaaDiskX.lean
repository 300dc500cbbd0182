/- A disk: the power goes; steps; what waits is written. A disk: a sector is written. -/
import Derived.Test.YteajblfkfmopfaaDiskS
import Derived.Deep.DrawnRows
import Derived.Test.YteajblfkfmopfaaCrashLast
namespace Go.Proofs.Yteajblfkfmopfaa.Disk
set_option linter.unusedVariables false
set_option linter.unusedSimpArgs false
open Go Go.RowKit Go.Proofs.Yteajblfkfmopfaa.Mem Go.Proofs.Yteajblfkfmopfaa.Put32 Go.Proofs.Yteajblfkfmopfaa.Sum Go.Proofs.Yteajblfkfmopfaa.Hmac Go.Proofs.Yteajblfkfmopfaa.Parts Go.Proofs.Yteajblfkfmopfaa.Entries Go.Proofs.Yteajblfkfmopfaa.CrashApply Go.Proofs.Yteajblfkfmopfaa.LawCrash

def crashS (S : DS) (bs : List Bool) : DS := { S with kept := doneF (keptF bs) 0 S.kept S.waits, waits := [], off := true, fuse := 0 }
theorem rdb_over {w0 w : World} {A : Option Addr} {n c : Nat} {bs : List Bool} (h : RdB w0 A n c bs) (hb : Below w0.heap.size w0 w) : RdB w A n c bs := h.below hb
set_option maxHeartbeats 1000000 in
set_option maxRecDepth 100000 in
theorem crash_on (w : World) (M : Nat → Prop) (P : Nat) (S : DS) (h : DAt w M P S) (ho : S.off = false) (K : Option Addr) (kn kc : Nat) (bs : List Bool) (hk : StB w M K kn kc bs) :
    Calls Try.prog 59 #[.pointer (some ⟨P, 0, none⟩), .slice K kn kc] w fun e w' => e = .returned (.tuple #[]) ∧ Did w w' M M P (crashS S bs) := by
  have hba := below_alloc (Below.refl w.heap.size w) (.cells #[.slice K kn kc] 74)
  have hvw := heap_alloc_new w (.cells #[.slice K kn kc] 74)
  have HGM := As.mk (show ¬ M w.heap.size from fun hm => by
    obtain ⟨Ak, ck, Aw, cw, Ab, cb, LK, LW, D⟩ := h
    have := D.ml _ hm
    omega)
  have HDa := As.mk (h.below hba)
  have HKa := As.mk (hk.step (M' := M) (keepsX_below hba) fun b hb => .inl hb)
  have HGa := As.mk (Grow.of_below (M := M) hba)
  have h3 : (w.alloc (.cells #[.slice K kn kc] 74)).cell? ⟨P, 3, none⟩ = some (.bool false) := by
    obtain ⟨Ak, ck, Aw, cw, Ab, cb, LK, LW, D⟩ := HDa.out
    rw [D.c3, ho]
  have HGC := As.mk (show (w.alloc (.cells #[.slice K kn kc] 74)).cell? ⟨w.heap.size, 0, none⟩ = some (.slice K kn kc) from cell_of_row _ _ 0 _ _ _ hvw)
  clear h hk hba hvw
  go_enter Try.func59, Try.ntmps59
  go_wp2_with (first
    | (go_at_call 131; (with_reducible refine (is_ok _ M P S HDa.out).mono ?_); rintro e w1 ⟨rfl, rfl⟩)
    | (go_at_call 129; (with_reducible refine (settle_kept _ M P S HDa.out w.heap.size K kn kc bs HGC.out HGM.out HKa.out).mono ?_); rintro e w2 ⟨rfl, hd⟩; have HD2 := As.mk hd; obtain ⟨Ak, ck, Aw, cw, Ab, cb, LK, LW, D⟩ := hd.d; have D2 := As.mk D; have c3 := D.c3; have c4 := D.c4; have z3 := D.fz 3; have z4 := D.fz 4; clear D hd h3))
  go_end0
  refine ⟨rfl, ⟨⟨Ak, ck, Aw, cw, Ab, cb, LK, LW, ?_⟩, (HGa.out.andThen HD2.out.g).andThen ((Grow.set D2.out.mp 3 _).andThen (Grow.set D2.out.mp 4 _)), fun _ hb => .inl hb⟩⟩
  exact (D2.out.setP 3 (.bool true) { (crashS S bs) with fuse := S.fuse } rfl rfl rfl rfl rfl rfl D2.out.fs).setP 4 (.int .i64 0) (crashS S bs) rfl rfl rfl rfl rfl rfl (Nat.zero_le _)
set_option maxHeartbeats 1000000 in
set_option maxRecDepth 100000 in
theorem crash_off (w : World) (M : Nat → Prop) (P : Nat) (S : DS) (h : DAt w M P S) (ho : S.off = true) (K : Option Addr) (kn kc : Nat) :
    Calls Try.prog 59 #[.pointer (some ⟨P, 0, none⟩), .slice K kn kc] w fun e w' => e = .returned (.tuple #[]) ∧ Below w.heap.size w w' := by
  have hba := below_alloc (Below.refl w.heap.size w) (.cells #[.slice K kn kc] 74)
  have HB := As.mk hba
  have HDa := As.mk (h.below hba)
  have h3 : (w.alloc (.cells #[.slice K kn kc] 74)).cell? ⟨P, 3, none⟩ = some (.bool true) := by
    obtain ⟨Ak, ck, Aw, cw, Ab, cb, LK, LW, D⟩ := HDa.out
    rw [D.c3, ho]
  clear h hba
  go_enter Try.func59, Try.ntmps59
  go_wp2_with (go_at_call 131; (with_reducible refine (is_ok _ M P S HDa.out).mono ?_); rintro e w1 ⟨rfl, rfl⟩)
  go_end0
  exact ⟨rfl, HB.out⟩
/-- what a step leaves of it -/
def stepS (S : DS) : DS := { S with fuse := S.fuse - 1, steps := S.steps + 1 }
set_option maxHeartbeats 1000000 in
set_option maxRecDepth 100000 in
theorem step_ok (w : World) (M : Nat → Prop) (P : Nat) (S : DS) (h : DAt w M P S) (hf : S.fuse ≠ 1) (hs : S.steps ≤ 1000000000) :
    Calls Try.prog 127 #[.pointer (some ⟨P, 0, none⟩)] w fun e w' => e = .returned (.int .i64 0) ∧ Did w w' M M P (stepS S) := by
  obtain ⟨Ak, ck, Aw, cw, Ab, cb, LK, LW, D⟩ := h
  have h4 := D.c4
  have h6 := D.c6
  have z4 := D.fz 4
  have z6 := D.fz 6
  have d0 : ((S.fuse : Int) == 1) = false := beq_eq_false_iff_ne.2 (by omega)
  have HF := As.mk D.fs
  have HS := As.mk hs
  have HE : ∀ x y : Int, x = ((S.fuse - 1 : Nat) : Int) → y = ((S.steps + 1 : Nat) : Int) → Did w ((w.setCell ⟨P, 4, none⟩ (.int .i64 x)).setCell ⟨P, 6, none⟩ (.int .i64 y)) M M P (stepS S) := by
    rintro x y rfl rfl
    exact ⟨⟨Ak, ck, Aw, cw, Ab, cb, LK, LW, (D.setP 4 _ { S with fuse := S.fuse - 1 } rfl rfl rfl rfl rfl rfl (by have := D.fs; show S.fuse - 1 ≤ 1099511627777; omega)).setP 6 _ (stepS S) rfl rfl rfl rfl rfl rfl (by have := D.fs; show S.fuse - 1 ≤ _; omega)⟩, (Grow.set D.mp 4 _).andThen (Grow.set D.mp 6 _), fun _ hb => .inl hb⟩
  have HEE := As.mk HE
  have HW1 := As.mk (show wrap64 ((S.fuse : Int) - 1) = (S.fuse : Int) - 1 by have := D.fs; unfold wrap64; omega)
  have HW2 := As.mk (show wrap64 ((S.steps : Int) + 1) = ((S.steps + 1 : Nat) : Int) by unfold wrap64; omega)
  clear D HE hf hs
  have hw1 := HW1.out
  have hw2 := HW2.out
  go_enter Try.func127, Try.ntmps127
  go_wp2
  all_goals
    clear hw1 hw2
    go_ret
    exact ⟨rfl, HEE.out _ _ (by omega) (by omega)⟩
set_option maxHeartbeats 1000000 in
set_option maxRecDepth 100000 in
theorem step_burn (w : World) (M : Nat → Prop) (P : Nat) (S : DS) (h : DAt w M P S) (hf : S.fuse = 1) (ho : S.off = false) :
    Calls Try.prog 127 #[.pointer (some ⟨P, 0, none⟩)] w fun e w' => e = .returned (.int .i64 40) ∧ Did w w' M M P (crashS S S.keep) := by
  have HD := As.mk h
  obtain ⟨Ak, ck, Aw, cw, Ab, cb, LK, LW, D⟩ := h
  have h4 := D.c4
  have h5 := D.c5
  have HK := As.mk D.kb
  rw [hf] at h4
  have HO := As.mk ho
  clear D hf ho
  go_enter Try.func127, Try.ntmps127
  go_wp2_with (go_at_call 59; (with_reducible refine (crash_on w M P S HD.out HO.out Ab S.keep.length cb S.keep HK.out).mono ?_); rintro e w1 ⟨rfl, hd⟩; have HE := As.mk hd; clear hd h4 h5)
  go_ret
  exact ⟨rfl, HE.out⟩
def flushS (S : DS) : DS := { S with kept := doneF allOn 0 S.kept S.waits, waits := [] }
set_option maxHeartbeats 1000000 in
set_option maxRecDepth 100000 in
theorem flush_off (w : World) (M : Nat → Prop) (P : Nat) (S : DS) (h : DAt w M P S) (ho : S.off = true) :
    Calls Try.prog 57 #[.pointer (some ⟨P, 0, none⟩)] w fun e w' => e = .returned (.int .i64 40) ∧ w = w' := by
  have HD := As.mk h
  have HR := As.mk (show mayD S 0 = 40 by unfold mayD; rw [if_pos ho])
  clear h ho
  go_enter Try.func57, Try.ntmps57
  go_wp2_with (go_at_call 126; (with_reducible refine (dmay_ok w M P S 0 HD.out).mono ?_); rintro e w1 ⟨rfl, rfl⟩; rw [HR.out])
  go_ret
  exact ⟨rfl, rfl⟩
theorem may0 {w : World} {M : Nat → Prop} {P : Nat} {S : DS} (h : DAt w M P S) (ho : S.off = false) : mayD S 0 = 0 := by
  obtain ⟨Ak, ck, Aw, cw, Ab, cb, LK, LW, D⟩ := h
  have := D.n1
  unfold mayD
  rw [if_neg (by rw [ho]; decide), if_neg (by omega), if_neg (by omega)]
set_option maxHeartbeats 1000000 in
set_option maxRecDepth 100000 in
theorem flush_burn (w : World) (M : Nat → Prop) (P : Nat) (S : DS) (h : DAt w M P S) (ho : S.off = false) (hf : S.fuse = 1) :
    Calls Try.prog 57 #[.pointer (some ⟨P, 0, none⟩)] w fun e w' => e = .returned (.int .i64 40) ∧ Did w w' M M P (crashS S S.keep) := by
  have HD := As.mk h
  have HR := As.mk (may0 h ho)
  have HF := As.mk hf
  have HO := As.mk ho
  clear h ho hf
  go_enter Try.func57, Try.ntmps57
  go_wp2_with (first
    | (go_at_call 126; (with_reducible refine (dmay_ok w M P S 0 HD.out).mono ?_); rintro e w1 ⟨rfl, rfl⟩; rw [HR.out])
    | (go_at_call 127; (with_reducible refine (step_burn w M P S HD.out HF.out HO.out).mono ?_); rintro e w1 ⟨rfl, hd⟩; have HE := As.mk hd; clear hd))
  go_ret
  exact ⟨rfl, HE.out⟩
set_option maxHeartbeats 1000000 in
set_option maxRecDepth 100000 in
theorem flush_ok (w : World) (M : Nat → Prop) (P : Nat) (S : DS) (h : DAt w M P S) (ho : S.off = false) (hf : S.fuse ≠ 1) (hs : S.steps ≤ 1000000000) :
    Calls Try.prog 57 #[.pointer (some ⟨P, 0, none⟩)] w fun e w' => e = .returned (.int .i64 0) ∧ Did w w' M M P (flushS (stepS S)) := by
  have HD := As.mk h
  have HR := As.mk (may0 h ho)
  have HF := As.mk hf
  have HS := As.mk hs
  clear h ho hf hs
  go_enter Try.func57, Try.ntmps57
  go_wp2_with (first
    | (go_at_call 126; (with_reducible refine (dmay_ok w M P S 0 HD.out).mono ?_); rintro e w1 ⟨rfl, rfl⟩; rw [HR.out])
    | (go_at_call 127; (with_reducible refine (step_ok w M P S HD.out HF.out HS.out).mono ?_); rintro e w1 ⟨rfl, hd⟩; have HE := As.mk hd; clear hd)
    | (go_at_call 129; (with_reducible refine (settle_all w1 M P (stepS S) HE.out.d).mono ?_); rintro e w2 ⟨rfl, hd⟩; have HE2 := As.mk (HE.out.andThen hd); clear hd))
  go_ret
  exact ⟨rfl, HE2.out⟩
set_option maxHeartbeats 1000000 in
set_option maxRecDepth 100000 in
theorem write_may (w : World) (M : Nat → Prop) (P : Nat) (S : DS) (h : DAt w M P S) (s : Int) (r : Int) (hr : mayD S s = r) (hne : ¬ r = 0) (A : Option Addr) (l c : Nat) :
    Calls Try.prog 56 #[.pointer (some ⟨P, 0, none⟩), .int .i64 s, .slice A l c] w fun e w' => e = .returned (.int .i64 r) ∧ w = w' := by
  have HD := As.mk h
  have HR := As.mk hr
  have d0 : decide (r = 0) = false := decide_eq_false hne
  have d1 : (r == 0) = false := beq_eq_false_iff_ne.2 hne
  have d2 : (r != 0) = true := by rw [bne, d1]; rfl
  clear h hr hne
  go_enter Try.func56, Try.ntmps56
  go_wp2_with (go_at_call 126; (with_reducible refine (dmay_ok w M P S s HD.out).mono ?_); rintro e w1 ⟨rfl, rfl⟩; rw [HR.out])
  go_ret
  exact ⟨rfl, rfl⟩
set_option maxHeartbeats 1000000 in
set_option maxRecDepth 100000 in
theorem write_len (w : World) (M : Nat → Prop) (P : Nat) (S : DS) (h : DAt w M P S) (s : Int) (hr : mayD S s = 0) (A : Option Addr) (l c : Nat) (hl : l ≠ S.size) :
    Calls Try.prog 56 #[.pointer (some ⟨P, 0, none⟩), .int .i64 s, .slice A l c] w fun e w' => e = .returned (.int .i64 2) ∧ w = w' := by
  have HD := As.mk h
  have HR := As.mk hr
  have d1 : ((l : Int) == (S.size : Int)) = false := beq_eq_false_iff_ne.2 (by omega)
  have d2 : ((l : Int) != (S.size : Int)) = true := by rw [bne, d1]; rfl
  have d3 : (l == S.size) = false := beq_eq_false_iff_ne.2 hl
  obtain ⟨Ak, ck, Aw, cw, Ab, cb, LK, LW, D⟩ := h
  have h1 := D.c1
  clear D hr hl
  go_enter Try.func56, Try.ntmps56
  go_wp2_with (go_at_call 126; (with_reducible refine (dmay_ok w M P S s HD.out).mono ?_); rintro e w1 ⟨rfl, rfl⟩; rw [HR.out])
  go_ret
  exact ⟨rfl, rfl⟩
set_option maxHeartbeats 1000000 in
set_option maxRecDepth 100000 in
theorem write_burn (w : World) (M : Nat → Prop) (P : Nat) (S : DS) (h : DAt w M P S) (s : Int) (hr : mayD S s = 0) (ho : S.off = false) (hf : S.fuse = 1) (A : Option Addr) (l c : Nat) (hl : l = S.size) :
    Calls Try.prog 56 #[.pointer (some ⟨P, 0, none⟩), .int .i64 s, .slice A l c] w fun e w' => e = .returned (.int .i64 40) ∧ Did w w' M M P (crashS S S.keep) := by
  have HD := As.mk h
  have HR := As.mk hr
  have HF := As.mk hf
  have HO := As.mk ho
  obtain ⟨Ak, ck, Aw, cw, Ab, cb, LK, LW, D⟩ := h
  have h1 := D.c1
  rw [← hl] at h1
  have d2 : ((l : Int) != (l : Int)) = false := by simp
  clear D hr hl hf ho
  go_enter Try.func56, Try.ntmps56
  go_wp2_with (first
    | (go_at_call 126; (with_reducible refine (dmay_ok w M P S s HD.out).mono ?_); rintro e w1 ⟨rfl, rfl⟩; rw [HR.out])
    | (go_at_call 127; (with_reducible refine (step_burn w M P S HD.out HF.out HO.out).mono ?_); rintro e w1 ⟨rfl, hd⟩; have HE := As.mk hd; clear hd h1))
  go_ret
  exact ⟨rfl, HE.out⟩
end Go.Proofs.Yteajblfkfmopfaa.Disk
namespace Go.Proofs.Yteajblfkfmopfaa.Disk
set_option linter.unusedVariables false
set_option linter.unusedSimpArgs false
open Go Go.RowKit Go.Proofs.Yteajblfkfmopfaa.Mem Go.Proofs.Yteajblfkfmopfaa.Put32 Go.Proofs.Yteajblfkfmopfaa.Sum Go.Proofs.Yteajblfkfmopfaa.Hmac Go.Proofs.Yteajblfkfmopfaa.Parts Go.Proofs.Yteajblfkfmopfaa.Entries Go.Proofs.Yteajblfkfmopfaa.CrashApply Go.Proofs.Yteajblfkfmopfaa.LawCrash
attribute [local go_sem ↓] Go.wp_at_zero Go.wp_at_succ

theorem infoW2 : (Try.prog.info? 181).map (fun i => (i.zero, i.size, i.bytes)) = some (some (.agg #[.int .i64 0, .slice none 0 0]), 2, 32) := by kernel_rfl
def writeS (S : DS) (s : Int) (q : List Int) : DS := { S with waits := S.waits ++ [(s, q)] }
theorem write_end {w1 W w5 : World} {M : Nat → Prop} {P : Nat} {S : DS} {Ak : Option Addr} {ck : Nat} {Aw : Option Addr} {cw : Nat} {Ab : Option Addr} {cb : Nat} {LK LW : List Value} {m l c' c5 base : Nat} {A5 A' : Option Addr} {s : Int} {q : List Int}
    (D : DIn w1 M P S Ak ck Aw cw Ab cb LK LW) (HB : Below w1.heap.size w1 W) (hm : m = S.waits.length) (hs : 0 ≤ s ∧ s < S.n) (hl : l = S.size) (HWM : ∀ b, (Value.slice Aw m cw).ownBlock = some b → M b ∧ b ≠ P ∧ (Value.slice Ak S.n ck).ownBlock ≠ some b)
    (HO : OwnAt W base (.slice A' l c') l (q.map (Value.int .u8))) (hbase : w1.heap.size ≤ base) (hg : W.grownBy w5 (Value.slice Aw m cw).ownBlock) (hown : w5.ownsRow 0 181 2 (.slice A5 (m + 1) c5) (m + 1) (LW ++ [.int .i64 s, .slice A' l c']))
    (hat : (Value.slice A5 (m + 1) c5).ownBlock = (Value.slice Aw m cw).ownBlock ∨ (Value.slice A5 (m + 1) c5).ownBlock = some W.heap.size) :
    Did w1 (w5.setCell ⟨P, 2, none⟩ (.slice A5 (m + 1) c5)) M (fun b => M b ∨ (Value.slice A5 (m + 1) c5).ownBlock = some b) P (writeS S s q) := by
  subst hm hl
  have hPlt := D.ml P D.mp
  have hz := HB.size
  have hnew : ∀ b, (Value.slice A5 (S.waits.length + 1) c5).ownBlock = some b → M b ∧ b ≠ P ∧ (Value.slice Ak S.n ck).ownBlock ≠ some b ∨ b = W.heap.size := fun b hb => by
    rcases hat with e | e
    · rw [e] at hb
      exact .inl (HWM b hb)
    · rw [e] at hb
      injection hb with hb
      exact .inr hb.symm
  have hM' : ∀ b, (M b ∨ (Value.slice A5 (S.waits.length + 1) c5).ownBlock = some b) → M b ∨ w1.heap.size ≤ b := fun b hb => by
    rcases hb with h | h
    · exact .inl h
    · rcases hnew b h with h1 | h1
      · exact .inl h1.1
      · exact .inr (by omega)
  have hpW : W.heap[P]? = w1.heap[P]? := HB.block P hPlt
  have hp5 : w5.heap[P]? = W.heap[P]? := hg.block P (by omega) fun e => (HWM P e.symm).2.1 rfl
  have hG5 : Grow M w1 w5 := (Grow.of_below HB).andThen (Grow.of_grown hg fun b e => (HWM b e).1)
  have hG6 : Grow M w1 (w5.setCell ⟨P, 2, none⟩ (.slice A5 (S.waits.length + 1) c5)) := hG5.andThen (Grow.set D.mp 2 _)
  have hset : ∀ b, b ≠ P → (w5.setCell ⟨P, 2, none⟩ (.slice A5 (S.waits.length + 1) c5)).heap[b]? = w5.heap[b]? := fun b hb => heap_setCell_other _ _ _ _ hb
  have hsz6 : w5.heap.size ≤ (w5.setCell ⟨P, 2, none⟩ (.slice A5 (S.waits.length + 1) c5)).heap.size := by simp [World.setCell]
  refine ⟨⟨Ak, ck, A5, c5, Ab, cb, LK, LW ++ [.int .i64 s, .slice A' S.size c'], ?_⟩, hG6, hM'⟩
  have hwl : (writeS S s q).waits.length = S.waits.length + 1 := by simp [writeS]
  have hxl : LW.length = S.waits.length * 2 := D.wo.1
  exact {
    pb := by
      have h1 := heap_setCell_same w5 P 2 _ _ (.slice A5 (S.waits.length + 1) c5) (hp5.trans (hpW.trans D.pb))
      rw [h1]
      unfold dCells
      rw [hwl]
      rfl
    mp := .inl D.mp
    ml := fun b hb => by
      rcases hb with h | h
      · have := D.ml b h; have := hG6.size; omega
      · have := (hown.lt b h).2; omega
    ko := D.ko.kept fun k h => by
      have h1 := D.km k h
      have h2 := D.ml k h1.1
      rw [hset k h1.2, hg.block k (by omega) fun e => (HWM k e.symm).2.2 h]
      exact HB.block k h2
    km := fun b h => ⟨.inl (D.km b h).1, (D.km b h).2⟩
    ke := fun j hj => by
      obtain ⟨A, c, e, h⟩ := D.ke j hj
      exact ⟨A, c, e, h.step hG6.keeps hM'⟩
    wo := by
      rw [hwl]
      exact own_keep hown fun k hk => hset k fun e => by
        rcases hnew k hk with h | h
        · exact h.2.1 e
        · omega
    wm := fun b h => by
      rw [hwl] at h
      refine ⟨.inr h, ?_, ?_⟩
      · rcases hnew b h with h1 | h1
        · exact h1.2.1
        · omega
      · rcases hnew b h with h1 | h1
        · exact h1.2.2
        · intro e
          have := D.ml b (D.km b e).1
          omega
    we := fun j hj => by
      rw [hwl] at hj
      by_cases hjn : j < S.waits.length
      · obtain ⟨A, c, e1, e2, h⟩ := D.we j hjn
        have hn : nthE (writeS S s q).waits j = nthE S.waits j := nthE_l _ _ _ hjn
        rw [hn]
        exact ⟨A, c, by rw [List.getElem?_append_left (by omega)]; exact e1, by rw [List.getElem?_append_left (by omega)]; exact e2, h.step hG6.keeps hM'⟩
      · obtain rfl : j = S.waits.length := by omega
        have hn : nthE (writeS S s q).waits S.waits.length = (s, q) := nthE_r _ _
        rw [hn]
        refine ⟨A', c', ?_, ?_, ?_⟩
        · rw [List.getElem?_append_right (by omega), hxl, Nat.sub_self]; rfl
        · rw [List.getElem?_append_right (by omega), hxl, show S.waits.length * 2 + 1 - S.waits.length * 2 = 1 by omega]; rfl
        · have hO5 : OwnAt w5 base (.slice A' S.size c') S.size (q.map (Value.int .u8)) := HO.kept fun k hk => hg.block k (HO.lt k hk).2 fun e => by
            have := D.ml k (HWM k e.symm).1
            have := (HO.lt k hk).1
            omega
          have hO6 : OwnAt (w5.setCell ⟨P, 2, none⟩ (.slice A5 (S.waits.length + 1) c5)) base (.slice A' S.size c') S.size (q.map (Value.int .u8)) := hO5.kept fun k hk => hset k fun e => by
            have := (HO.lt k hk).1
            omega
          intro w' hk
          refine rd_keeps (own_rd_at hO6) hk fun _ ad ea hm => ?_
          subst ea
          have h1 := HO.lt _ rfl
          rcases hm with h2 | h2
          · have := D.ml _ h2; omega
          · rcases hnew _ h2 with h3 | h3
            · have := D.ml _ h3.1; omega
            · omega
    kb := D.kb.step hG6.keeps hM'
    n1 := D.n1
    sz := D.sz
    kl := D.kl
    ws := fun j hj => by
      rw [hwl] at hj
      by_cases hjn : j < S.waits.length
      · have hn : nthE (writeS S s q).waits j = nthE S.waits j := nthE_l _ _ _ hjn
        rw [hn]
        exact D.ws j hjn
      · obtain rfl : j = S.waits.length := by omega
        have hn : nthE (writeS S s q).waits S.waits.length = (s, q) := nthE_r _ _
        rw [hn]
        exact hs
    fs := D.fs }
set_option maxHeartbeats 2000000 in
set_option maxRecDepth 100000 in
theorem write_ok (w : World) (M : Nat → Prop) (P : Nat) (S : DS) (h : DAt w M P S) (s : Int) (hr : mayD S s = 0) (hf : S.fuse ≠ 1) (hs : S.steps ≤ 1000000000) (hw : S.waits.length ≤ 1000000) (A : Option Addr) (l c : Nat) (q : List Int) (hl : l = S.size) (hq : StR w M A l c q) :
    Calls Try.prog 56 #[.pointer (some ⟨P, 0, none⟩), .int .i64 s, .slice A l c] w fun e w' => ∃ M', e = .returned (.int .i64 0) ∧ Did w w' M M' P (writeS (stepS S) s q) := by
  have HD := As.mk h
  have HR := As.mk hr
  have HF := As.mk hf
  have HS := As.mk hs
  have HQ0 := As.mk hq
  have HL := As.mk hl
  have HWL := As.mk hw
  have hss : 0 ≤ s ∧ s < S.n := by
    unfold mayD at hr
    split at hr
    · omega
    · split at hr
      · omega
      · split at hr
        · omega
        · omega
  have HSS := As.mk hss
  obtain ⟨Ak0, ck0, Aw0, cw0, Ab0, cb0, LK0, LW0, D⟩ := h
  have h1 := D.c1
  rw [← hl] at h1
  have d2 : ((l : Int) != (l : Int)) = false := by simp
  have HLB := As.mk (show l ≤ 140737488351232 by rw [hl]; have := D.sz; omega)
  clear D hr hl hf hs hq hss hw
  go_enter Try.func56, Try.ntmps56
  go_wp2_with (first
    | (go_at_call 126; (with_reducible refine (dmay_ok w M P S s HD.out).mono ?_); rintro e w1 ⟨rfl, rfl⟩; rw [HR.out])
    | (go_at_call 127; (with_reducible refine (step_ok w M P S HD.out HF.out HS.out).mono ?_); rintro e w1 ⟨rfl, hd⟩; have HD1 := As.mk hd; clear hd h1))
  obtain ⟨Ak, ck, Aw, cw, Ab, cb, LK, LW, D⟩ := HD1.out.d
  have D1 := As.mk D
  have HQ := As.mk (HQ0.out.step (M' := M) HD1.out.g.keeps fun b hb => .inl hb)
  obtain ⟨m, hm⟩ : ∃ m, m = (stepS S).waits.length := ⟨_, rfl⟩
  have HMM := As.mk hm
  have p2 := D.c2
  rw [← hm] at p2
  have HWM := As.mk D.wm
  have HWO := As.mk D.wo
  rw [← hm] at HWM HWO
  have HA1 := As.mk (show m + 1 ≤ maxLen by have := HWL.out; have h2 : m = S.waits.length := hm; unfold maxLen; omega)
  have HA2 := As.mk (show (m + 1) * 32 ≤ 140737488355328 by have := HWL.out; have h2 : m = S.waits.length := hm; omega)
  clear D hm
  refine wp_region_held_drew (S := fun W : World => Grow M w1 W) (by kernel_rfl) (Grow.of_below (below_drewN (Below.refl w1.heap.size w1) 1)) (fun hHeld => ?_)
  refine wpAnyH_take (i := 0) (v := .pointer (some ⟨P, 0, none⟩)) rfl (by kernel_rfl) (by kernel_rfl) (by kernel_rfl) (fun _ _ _ h => h) (Or.inl ⟨by rfl, fun W hW => by go_simp⟩) hHeld ?_
  try simp only [Act.put, List.setIfInBounds_toArray, List.set_cons_zero, List.set_cons_succ, List.getElem_toArray, List.getElem_cons_zero, List.getElem_cons_succ]
  refine wpAnyH_take (i := 1) (v := .pointer (some ⟨P, 0, none⟩)) rfl (by kernel_rfl) (by kernel_rfl) (by kernel_rfl) (fun _ _ _ h => h) (Or.inl ⟨by rfl, fun W hW => by go_simp⟩) hHeld ?_
  try simp only [Act.put, List.setIfInBounds_toArray, List.set_cons_zero, List.set_cons_succ, List.getElem_toArray, List.getElem_cons_zero, List.getElem_cons_succ]
  refine wpAnyH_take (i := 2) (v := .pointer (some ⟨P, 0, none⟩)) rfl (by kernel_rfl) (by kernel_rfl) (by kernel_rfl) (fun _ _ _ h => h) (Or.inl ⟨by rfl, fun W hW => by go_simp⟩) hHeld ?_
  try simp only [Act.put, List.setIfInBounds_toArray, List.set_cons_zero, List.set_cons_succ, List.getElem_toArray, List.getElem_cons_zero, List.getElem_cons_succ]
  refine wpAnyH_take (i := 3) (v := .pointer (some ⟨P, 2, none⟩)) rfl (by kernel_rfl) (by kernel_rfl) (by kernel_rfl) (fun _ _ _ h => h) (Or.inl ⟨by rfl, fun W hW => by go_simp⟩) hHeld ?_
  try simp only [Act.put, List.setIfInBounds_toArray, List.set_cons_zero, List.set_cons_succ, List.getElem_toArray, List.getElem_cons_zero, List.getElem_cons_succ]
  refine wpAnyH_take (i := 5) (v := .int .i64 (s : Int)) rfl (by kernel_rfl) (by kernel_rfl) (by kernel_rfl) (fun _ _ _ h => h) (Or.inl ⟨by rfl, fun W hW => by go_simp⟩) hHeld ?_
  try simp only [Act.put, List.setIfInBounds_toArray, List.set_cons_zero, List.set_cons_succ, List.getElem_toArray, List.getElem_cons_zero, List.getElem_cons_succ]
  refine wpAnyH_take (i := 6) (v := .slice A l c) rfl (by kernel_rfl) (by kernel_rfl) (by kernel_rfl) (fun _ _ _ h => h) (Or.inl ⟨by rfl, fun W hW => by go_simp⟩) hHeld ?_
  try simp only [Act.put, List.setIfInBounds_toArray, List.set_cons_zero, List.set_cons_succ, List.getElem_toArray, List.getElem_cons_zero, List.getElem_cons_succ]
  have HB0 := As.mk (show Below w1.heap.size w1 w1.drew from below_drewN (Below.refl w1.heap.size w1) 1)
  refine wpAnyH_ready (rs := [4, 7]) (by kernel_rfl) (by simp) (AllReadyH.cons rfl (fun K' hK => ?_) (AllReadyH.cons rfl (fun K' hK => ?_) AllReadyH.nil))
  · have tok := True.intro
    have p2W := cell_keep p2 HB0.out
    go_simp
    refine hK.out _ _ (Grow.of_below HB0.out) (fun hHeld => ?_)
    clear hK p2W
    try simp only [Act.put, List.setIfInBounds_toArray, List.set_cons_zero, List.set_cons_succ, List.getElem_toArray, List.getElem_cons_zero, List.getElem_cons_succ]
    refine wpAnyH_ready (rs := [7]) (by kernel_rfl) (by simp) (AllReadyH.cons rfl (fun K' hK => ?_) AllReadyH.nil)
    go_simp
    refine (CloneB.any q A l c _ HLB.out (HQ.out _ (Grow.of_below HB0.out).keeps)).mono ?_
    rintro e W2 ⟨A', c', rfl, ho, hb⟩
    have HO := As.mk (OwnAt.of_own ho)
    have HSZ := As.mk HB0.out.size
    have HB2 := As.mk (HB0.out.trans (hb.mono HB0.out.size))
    clear ho hb
    refine hK.out _ _ (Grow.of_below HB2.out) (fun hHeld => ?_)
    clear hK
    try simp only [Act.put, List.setIfInBounds_toArray, List.set_cons_zero, List.set_cons_succ, List.getElem_toArray, List.getElem_cons_zero, List.getElem_cons_succ]
    refine wpAnyH_take (i := 8) (v := .agg #[.int .i64 (s : Int), .slice A' l c']) rfl (by kernel_rfl) (by kernel_rfl) (by kernel_rfl) (fun _ _ _ h => h) (Or.inl ⟨by rfl, fun W hW => by go_simp⟩) hHeld ?_
    try simp only [Act.put, List.setIfInBounds_toArray, List.set_cons_zero, List.set_cons_succ, List.getElem_toArray, List.getElem_cons_zero, List.getElem_cons_succ]
    refine wpAnyH_ready (rs := [9]) (by kernel_rfl) (by simp) (AllReadyH.cons rfl (fun K' hK => ?_) AllReadyH.nil)
    rw [if_pos (by rfl)]
    go_simp
    have hba := below_alloc (Below.refl W2.heap.size W2) (.cells #[.int .i64 (s : Int), .slice A' l c'] 181)
    have HV := As.mk (heap_alloc_new W2 (.cells #[.int .i64 (s : Int), .slice A' l c'] 181))
    have HB3 := As.mk (HB2.out.trans (hba.mono HB2.out.size))
    have HO2 := As.mk (HO.out.below hba)
    clear HO hba
    have HO := HO2
    clear HO2
    generalize hg3 : W2.alloc _ = W3 at *
    generalize hb3 : W2.heap.size = b3 at *
    clear hg3
    refine hK.out _ _ (Grow.of_below HB3.out) (fun hHeld => ?_)
    clear hK
    try simp only [Act.put, List.setIfInBounds_toArray, List.set_cons_zero, List.set_cons_succ, List.getElem_toArray, List.getElem_cons_zero, List.getElem_cons_succ]
    refine wpAnyH_ready (rs := [10]) (by kernel_rfl) (by simp) (AllReadyH.cons rfl (fun K' hK => ?_) AllReadyH.nil)
    rw [if_pos (by rfl)]
    refine wp_app (.tmp 31) (.tmp 36) 175 rfl 0 181 (.agg #[.int .i64 0, .slice none 0 0]) 2 32 Try.underlying175 infoW2 rfl (by decide) _ m LW rfl (own_below HWO.out HB3.out) _ 1 [.int .i64 (s : Int), .slice A' l c'] rfl (src_two HV.out rfl rfl) HA1.out HA2.out (Nat.zero_le _) (B := 0) (w0 := W3) (Below.refl 0 W3) (Nat.le_refl _) ?_
    intro v' w5 hown hg hat _
    obtain ⟨A5, c5, rfl⟩ := own_slice hown
    have HG5 := As.mk ((Grow.of_below (M := M) HB3.out).andThen (Grow.of_grown (M := M) hg fun b e => (HWM.out b e).1))
    have HN5 := As.mk hown
    have HAT := As.mk hat
    have HGG := As.mk hg
    clear hown hg hat
    refine hK.out _ _ HG5.out (fun hHeld => ?_)
    clear hK
    try simp only [Act.put, List.setIfInBounds_toArray, List.set_cons_zero, List.set_cons_succ, List.getElem_toArray, List.getElem_cons_zero, List.getElem_cons_succ]
    refine wpAnyH_take (i := 11) (v := .pointer (some ⟨P, 0, none⟩)) rfl (by kernel_rfl) (by kernel_rfl) (by kernel_rfl) (fun _ _ _ h => h) (Or.inl ⟨by rfl, fun W hW => by go_simp⟩) hHeld ?_
    try simp only [Act.put, List.setIfInBounds_toArray, List.set_cons_zero, List.set_cons_succ, List.getElem_toArray, List.getElem_cons_zero, List.getElem_cons_succ]
    refine wpAnyH_take (i := 12) (v := .pointer (some ⟨P, 2, none⟩)) rfl (by kernel_rfl) (by kernel_rfl) (by kernel_rfl) (fun _ _ _ h => h) (Or.inl ⟨by rfl, fun W hW => by go_simp⟩) hHeld ?_
    try simp only [Act.put, List.setIfInBounds_toArray, List.set_cons_zero, List.set_cons_succ, List.getElem_toArray, List.getElem_cons_zero, List.getElem_cons_succ]
    have HPB5 := As.mk (show w5.heap[P]? = _ from (HGG.out.block P (Nat.lt_of_lt_of_le (D1.out.ml P D1.out.mp) HB3.out.size) (fun e => (HWM.out P e.symm).2.1 rfl)).trans ((HB3.out.block P (D1.out.ml P D1.out.mp)).trans D1.out.pb))
    have z2 : w5.frozen? ⟨P, 2, none⟩ = false := frozen_of_row w5 P 2 _ _ HPB5.out
    have p25 : w5.cell? ⟨P, 2, none⟩ = some (.slice Aw m cw) := by have := cell_of_row w5 P 2 _ _ _ HPB5.out; rw [HMM.out]; exact this
    refine wpAnyH_ready (rs := [13]) (by kernel_rfl) (by simp) (AllReadyH.cons rfl (fun K' hK => ?_) AllReadyH.nil)
    go_simp
    refine hK.out _ _ (HG5.out.andThen (Grow.set D1.out.mp 2 _)) (fun hHeld => ?_)
    clear hK
    try simp only [Act.put, List.setIfInBounds_toArray, List.set_cons_zero, List.set_cons_succ, List.getElem_toArray, List.getElem_cons_zero, List.getElem_cons_succ]
    refine wpAnyH_done (by kernel_rfl) ?_ _
    have HF := As.mk (write_end D1.out HB3.out HMM.out HSS.out HL.out HWM.out HO.out HSZ.out HGG.out HN5.out HAT.out)
    clear z2 p25 hHeld
    go_wp2
    go_ret
    exact ⟨_, rfl, HD1.out.andThen HF.out⟩
  · have tok := True.intro
    go_simp
    refine (CloneB.any q A l c _ HLB.out (HQ.out _ (Grow.of_below HB0.out).keeps)).mono ?_
    rintro e W5 ⟨A', c', rfl, ho, hb⟩
    have HO := As.mk (OwnAt.of_own ho)
    have HSZ := As.mk HB0.out.size
    have HB5 := As.mk (HB0.out.trans (hb.mono HB0.out.size))
    clear ho hb
    refine hK.out _ _ (Grow.of_below HB5.out) (fun hHeld => ?_)
    clear hK
    try simp only [Act.put, List.setIfInBounds_toArray, List.set_cons_zero, List.set_cons_succ, List.getElem_toArray, List.getElem_cons_zero, List.getElem_cons_succ]
    refine wpAnyH_take (i := 8) (v := .agg #[.int .i64 (s : Int), .slice A' l c']) rfl (by kernel_rfl) (by kernel_rfl) (by kernel_rfl) (fun _ _ _ h => h) (Or.inl ⟨by rfl, fun W hW => by go_simp⟩) hHeld ?_
    try simp only [Act.put, List.setIfInBounds_toArray, List.set_cons_zero, List.set_cons_succ, List.getElem_toArray, List.getElem_cons_zero, List.getElem_cons_succ]
    refine wpAnyH_ready (rs := [4, 9]) (by kernel_rfl) (by simp) (AllReadyH.cons rfl (fun K' hK => ?_) (AllReadyH.cons rfl (fun K' hK => ?_) AllReadyH.nil))
    · have tok := True.intro
      have p2W := cell_keep p2 HB5.out
      go_simp
      refine hK.out _ _ (Grow.of_below HB5.out) (fun hHeld => ?_)
      clear hK p2W
      try simp only [Act.put, List.setIfInBounds_toArray, List.set_cons_zero, List.set_cons_succ, List.getElem_toArray, List.getElem_cons_zero, List.getElem_cons_succ]
      refine wpAnyH_ready (rs := [9]) (by kernel_rfl) (by simp) (AllReadyH.cons rfl (fun K' hK => ?_) AllReadyH.nil)
      rw [if_pos (by rfl)]
      go_simp
      have hba := below_alloc (Below.refl W5.heap.size W5) (.cells #[.int .i64 (s : Int), .slice A' l c'] 181)
      have HV := As.mk (heap_alloc_new W5 (.cells #[.int .i64 (s : Int), .slice A' l c'] 181))
      have HB7 := As.mk (HB5.out.trans (hba.mono HB5.out.size))
      have HO2 := As.mk (HO.out.below hba)
      clear HO hba
      have HO := HO2
      clear HO2
      generalize hg7 : W5.alloc _ = W7 at *
      generalize hb7 : W5.heap.size = b7 at *
      clear hg7
      refine hK.out _ _ (Grow.of_below HB7.out) (fun hHeld => ?_)
      clear hK
      try simp only [Act.put, List.setIfInBounds_toArray, List.set_cons_zero, List.set_cons_succ, List.getElem_toArray, List.getElem_cons_zero, List.getElem_cons_succ]
      refine wpAnyH_ready (rs := [10]) (by kernel_rfl) (by simp) (AllReadyH.cons rfl (fun K' hK => ?_) AllReadyH.nil)
      rw [if_pos (by rfl)]
      refine wp_app (.tmp 31) (.tmp 36) 175 rfl 0 181 (.agg #[.int .i64 0, .slice none 0 0]) 2 32 Try.underlying175 infoW2 rfl (by decide) _ m LW rfl (own_below HWO.out HB7.out) _ 1 [.int .i64 (s : Int), .slice A' l c'] rfl (src_two HV.out rfl rfl) HA1.out HA2.out (Nat.zero_le _) (B := 0) (w0 := W7) (Below.refl 0 W7) (Nat.le_refl _) ?_
      intro v' w5 hown hg hat _
      obtain ⟨A5, c5, rfl⟩ := own_slice hown
      have HG5 := As.mk ((Grow.of_below (M := M) HB7.out).andThen (Grow.of_grown (M := M) hg fun b e => (HWM.out b e).1))
      have HN5 := As.mk hown
      have HAT := As.mk hat
      have HGG := As.mk hg
      clear hown hg hat
      refine hK.out _ _ HG5.out (fun hHeld => ?_)
      clear hK
      try simp only [Act.put, List.setIfInBounds_toArray, List.set_cons_zero, List.set_cons_succ, List.getElem_toArray, List.getElem_cons_zero, List.getElem_cons_succ]
      refine wpAnyH_take (i := 11) (v := .pointer (some ⟨P, 0, none⟩)) rfl (by kernel_rfl) (by kernel_rfl) (by kernel_rfl) (fun _ _ _ h => h) (Or.inl ⟨by rfl, fun W hW => by go_simp⟩) hHeld ?_
      try simp only [Act.put, List.setIfInBounds_toArray, List.set_cons_zero, List.set_cons_succ, List.getElem_toArray, List.getElem_cons_zero, List.getElem_cons_succ]
      refine wpAnyH_take (i := 12) (v := .pointer (some ⟨P, 2, none⟩)) rfl (by kernel_rfl) (by kernel_rfl) (by kernel_rfl) (fun _ _ _ h => h) (Or.inl ⟨by rfl, fun W hW => by go_simp⟩) hHeld ?_
      try simp only [Act.put, List.setIfInBounds_toArray, List.set_cons_zero, List.set_cons_succ, List.getElem_toArray, List.getElem_cons_zero, List.getElem_cons_succ]
      have HPB5 := As.mk (show w5.heap[P]? = _ from (HGG.out.block P (Nat.lt_of_lt_of_le (D1.out.ml P D1.out.mp) HB7.out.size) (fun e => (HWM.out P e.symm).2.1 rfl)).trans ((HB7.out.block P (D1.out.ml P D1.out.mp)).trans D1.out.pb))
      have z2 : w5.frozen? ⟨P, 2, none⟩ = false := frozen_of_row w5 P 2 _ _ HPB5.out
      have p25 : w5.cell? ⟨P, 2, none⟩ = some (.slice Aw m cw) := by have := cell_of_row w5 P 2 _ _ _ HPB5.out; rw [HMM.out]; exact this
      refine wpAnyH_ready (rs := [13]) (by kernel_rfl) (by simp) (AllReadyH.cons rfl (fun K' hK => ?_) AllReadyH.nil)
      go_simp
      refine hK.out _ _ (HG5.out.andThen (Grow.set D1.out.mp 2 _)) (fun hHeld => ?_)
      clear hK
      try simp only [Act.put, List.setIfInBounds_toArray, List.set_cons_zero, List.set_cons_succ, List.getElem_toArray, List.getElem_cons_zero, List.getElem_cons_succ]
      refine wpAnyH_done (by kernel_rfl) ?_ _
      have HF := As.mk (write_end D1.out HB7.out HMM.out HSS.out HL.out HWM.out HO.out HSZ.out HGG.out HN5.out HAT.out)
      clear z2 p25 hHeld
      go_wp2
      go_ret
      exact ⟨_, rfl, HD1.out.andThen HF.out⟩
    · have tok := True.intro
      rw [if_pos (by rfl)]
      go_simp
      have hba := below_alloc (Below.refl W5.heap.size W5) (.cells #[.int .i64 (s : Int), .slice A' l c'] 181)
      have HV := As.mk (heap_alloc_new W5 (.cells #[.int .i64 (s : Int), .slice A' l c'] 181))
      have HB9 := As.mk (HB5.out.trans (hba.mono HB5.out.size))
      have HO2 := As.mk (HO.out.below hba)
      clear HO hba
      have HO := HO2
      clear HO2
      generalize hg9 : W5.alloc _ = W9 at *
      generalize hb9 : W5.heap.size = b9 at *
      clear hg9
      refine hK.out _ _ (Grow.of_below HB9.out) (fun hHeld => ?_)
      clear hK
      try simp only [Act.put, List.setIfInBounds_toArray, List.set_cons_zero, List.set_cons_succ, List.getElem_toArray, List.getElem_cons_zero, List.getElem_cons_succ]
      refine wpAnyH_ready (rs := [4]) (by kernel_rfl) (by simp) (AllReadyH.cons rfl (fun K' hK => ?_) AllReadyH.nil)
      have p2W := cell_keep p2 HB9.out
      go_simp
      refine hK.out _ _ (Grow.of_below HB9.out) (fun hHeld => ?_)
      clear hK p2W
      try simp only [Act.put, List.setIfInBounds_toArray, List.set_cons_zero, List.set_cons_succ, List.getElem_toArray, List.getElem_cons_zero, List.getElem_cons_succ]
      refine wpAnyH_ready (rs := [10]) (by kernel_rfl) (by simp) (AllReadyH.cons rfl (fun K' hK => ?_) AllReadyH.nil)
      rw [if_pos (by rfl)]
      refine wp_app (.tmp 31) (.tmp 36) 175 rfl 0 181 (.agg #[.int .i64 0, .slice none 0 0]) 2 32 Try.underlying175 infoW2 rfl (by decide) _ m LW rfl (own_below HWO.out HB9.out) _ 1 [.int .i64 (s : Int), .slice A' l c'] rfl (src_two HV.out rfl rfl) HA1.out HA2.out (Nat.zero_le _) (B := 0) (w0 := W9) (Below.refl 0 W9) (Nat.le_refl _) ?_
      intro v' w5 hown hg hat _
      obtain ⟨A5, c5, rfl⟩ := own_slice hown
      have HG5 := As.mk ((Grow.of_below (M := M) HB9.out).andThen (Grow.of_grown (M := M) hg fun b e => (HWM.out b e).1))
      have HN5 := As.mk hown
      have HAT := As.mk hat
      have HGG := As.mk hg
      clear hown hg hat
      refine hK.out _ _ HG5.out (fun hHeld => ?_)
      clear hK
      try simp only [Act.put, List.setIfInBounds_toArray, List.set_cons_zero, List.set_cons_succ, List.getElem_toArray, List.getElem_cons_zero, List.getElem_cons_succ]
      refine wpAnyH_take (i := 11) (v := .pointer (some ⟨P, 0, none⟩)) rfl (by kernel_rfl) (by kernel_rfl) (by kernel_rfl) (fun _ _ _ h => h) (Or.inl ⟨by rfl, fun W hW => by go_simp⟩) hHeld ?_
      try simp only [Act.put, List.setIfInBounds_toArray, List.set_cons_zero, List.set_cons_succ, List.getElem_toArray, List.getElem_cons_zero, List.getElem_cons_succ]
      refine wpAnyH_take (i := 12) (v := .pointer (some ⟨P, 2, none⟩)) rfl (by kernel_rfl) (by kernel_rfl) (by kernel_rfl) (fun _ _ _ h => h) (Or.inl ⟨by rfl, fun W hW => by go_simp⟩) hHeld ?_
      try simp only [Act.put, List.setIfInBounds_toArray, List.set_cons_zero, List.set_cons_succ, List.getElem_toArray, List.getElem_cons_zero, List.getElem_cons_succ]
      have HPB5 := As.mk (show w5.heap[P]? = _ from (HGG.out.block P (Nat.lt_of_lt_of_le (D1.out.ml P D1.out.mp) HB9.out.size) (fun e => (HWM.out P e.symm).2.1 rfl)).trans ((HB9.out.block P (D1.out.ml P D1.out.mp)).trans D1.out.pb))
      have z2 : w5.frozen? ⟨P, 2, none⟩ = false := frozen_of_row w5 P 2 _ _ HPB5.out
      have p25 : w5.cell? ⟨P, 2, none⟩ = some (.slice Aw m cw) := by have := cell_of_row w5 P 2 _ _ _ HPB5.out; rw [HMM.out]; exact this
      refine wpAnyH_ready (rs := [13]) (by kernel_rfl) (by simp) (AllReadyH.cons rfl (fun K' hK => ?_) AllReadyH.nil)
      go_simp
      refine hK.out _ _ (HG5.out.andThen (Grow.set D1.out.mp 2 _)) (fun hHeld => ?_)
      clear hK
      try simp only [Act.put, List.setIfInBounds_toArray, List.set_cons_zero, List.set_cons_succ, List.getElem_toArray, List.getElem_cons_zero, List.getElem_cons_succ]
      refine wpAnyH_done (by kernel_rfl) ?_ _
      have HF := As.mk (write_end D1.out HB9.out HMM.out HSS.out HL.out HWM.out HO.out HSZ.out HGG.out HN5.out HAT.out)
      clear z2 p25 hHeld
      go_wp2
      go_ret
      exact ⟨_, rfl, HD1.out.andThen HF.out⟩
end Go.Proofs.Yteajblfkfmopfaa.Disk
