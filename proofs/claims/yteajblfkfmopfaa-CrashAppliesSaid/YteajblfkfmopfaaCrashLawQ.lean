/- The statement CrashOutcomes, where no image is told, or where they are many. The statement CrashOutcomes, where all images are told. The statement CrashOutcomes. -/
import Derived.Test.YteajblfkfmopfaaCrashAwake
import Derived.Test.YteajblfkfmopfaaCrashDoneO
namespace Go.Proofs.Yteajblfkfmopfaa.LawCrash
set_option linter.unusedVariables false
set_option linter.unusedSimpArgs false
open Go Go.RowKit Go.Proofs.Yteajblfkfmopfaa.Mem Go.Proofs.Yteajblfkfmopfaa.Put32 Go.Proofs.Yteajblfkfmopfaa.Sum Go.Proofs.Yteajblfkfmopfaa.Hmac Go.Proofs.Yteajblfkfmopfaa.Parts Go.Proofs.Yteajblfkfmopfaa.Entries Go.Proofs.Yteajblfkfmopfaa.CrashApply

set_option maxHeartbeats 2000000 in
set_option maxRecDepth 100000 in
theorem outc_few (w : World) (A E F : Option Addr) (n c m d q qc : Nat) (ps : List (List Int)) (es : List (Int × List Int)) (hn : n ≤ 9223372036854775807) (hm : m ≤ 9223372036854775807) (h0 : RdP w A n c ps) (h1 : RdE w E m d es) (hf : few34 ps es = false) :
    Calls Try.prog 8 #[.slice A n c, .slice E m d, .slice F q qc] w fun e w' => e = .returned (.bool true) ∧ Below w.heap.size w w' := by
  have HN := As.mk hn
  have HM := As.mk hm
  have H0 := As.mk h0
  have H1 := As.mk h1
  have HF := As.mk hf
  clear hn hm h0 h1 hf
  go_enter Try.func8, Try.ntmps8
  go_wp2_with (first
    | (go_at_call 43; (with_reducible refine (awake_true _).mono ?_); rintro e w1 ⟨rfl, hb⟩; have HB1 := As.mk hb; clear hb)
    | (go_at_call 44; (with_reducible refine (few34_any w1 A E n c m d ps es HN.out HM.out (H0.out.below HB1.out) (H1.out.below HB1.out) false HF.out).mono ?_); rintro e w2 ⟨rfl, hb⟩; have HB2 := As.mk (below_step HB1.out hb); clear hb))
  go_ret
  exact ⟨rfl, HB2.out⟩
set_option maxHeartbeats 2000000 in
set_option maxRecDepth 100000 in
theorem outc_out (w : World) (A E F : Option Addr) (n c m d q qc : Nat) (ps : List (List Int)) (es : List (Int × List Int)) (hn : n ≤ 12) (hm : m ≤ 14) (h0 : RdP w A n c ps) (h1 : RdE w E m d es) (hf : few34 ps es = true) (hr : mayF n m es = 41) (hw : (!(es.any (outE n))) = false) :
    Calls Try.prog 8 #[.slice A n c, .slice E m d, .slice F q qc] w fun e w' => e = .returned (.bool true) ∧ Below w.heap.size w w' := by
  have HN := As.mk hn
  have HM := As.mk hm
  have H0 := As.mk h0
  have H1 := As.mk h1
  have HF := As.mk hf
  have HR := As.mk hr
  have HW := As.mk hw
  clear hn hm h0 h1 hf hr hw
  go_enter Try.func8, Try.ntmps8
  go_wp2_with (first
    | (go_at_call 43; (with_reducible refine (awake_true _).mono ?_); rintro e w1 ⟨rfl, hb⟩; have HB1 := As.mk hb; clear hb)
    | (go_at_call 44; (with_reducible refine (few34_any w1 A E n c m d ps es (by have := HN.out; omega) (by have := HM.out; omega) (H0.out.below HB1.out) (H1.out.below HB1.out) true HF.out).mono ?_); rintro e w2 ⟨rfl, hb⟩; have HB2 := As.mk (below_step HB1.out hb); clear hb)
    | (go_at_call 51; (with_reducible refine (outcomes_bad w2 es A E n c m d (by have := HM.out; omega) (H1.out.below HB2.out) 41 HR.out (by decide)).mono ?_); rintro e w3 ⟨rfl, hb⟩; have HB3 := As.mk (below_step HB2.out hb); clear hb)
    | (go_at_call 46; (with_reducible refine (within_any w3 n E m d es (by have := HM.out; omega) (H1.out.below HB3.out)).mono ?_); rintro e w4 ⟨rfl, hb⟩; rw [HW.out]; have HB4 := As.mk (below_step HB3.out hb); clear hb))
  go_ret
  exact ⟨rfl, HB4.out⟩
set_option maxHeartbeats 2000000 in
set_option maxRecDepth 100000 in
theorem outc_many (w : World) (A E F : Option Addr) (n c m d q qc : Nat) (ps : List (List Int)) (es : List (Int × List Int)) (hn : n ≤ 12) (hm : m ≤ 14) (h10 : 10 < m) (h0 : RdP w A n c ps) (h1 : RdE w E m d es) (hf : few34 ps es = true) (hr : mayF n m es = 0) (hw : (!(es.any (outE n))) = true) :
    Calls Try.prog 8 #[.slice A n c, .slice E m d, .slice F q qc] w fun e w' => e = .returned (.bool true) ∧ Below w.heap.size w w' := by
  have HN := As.mk hn
  have HM := As.mk hm
  have HTEN := As.mk h10
  have H0 := As.mk h0
  have H1 := As.mk h1
  have HF := As.mk hf
  have HR := As.mk hr
  have HW := As.mk hw
  have hm' : (10 : Int) < (m : Int) := by omega
  have c0 : decide ((10 : Int) < (m : Int)) = true := decide_eq_true hm'
  have c1 : decide (10 < m) = true := decide_eq_true h10
  clear hn hm h0 h1 hf hr hw
  go_enter Try.func8, Try.ntmps8
  go_wp2_with (first
    | (go_at_call 43; (with_reducible refine (awake_true _).mono ?_); rintro e w1 ⟨rfl, hb⟩; have HB1 := As.mk hb; clear hb)
    | (go_at_call 44; (with_reducible refine (few34_any w1 A E n c m d ps es (by have := HN.out; omega) (by have := HM.out; omega) (H0.out.below HB1.out) (H1.out.below HB1.out) true HF.out).mono ?_); rintro e w2 ⟨rfl, hb⟩; have HB2 := As.mk (below_step HB1.out hb); clear hb)
    | (go_at_call 51; (with_reducible refine (outcomes_many w2 es A E n c m d (by have := HM.out; omega) HTEN.out (H1.out.below HB2.out) HR.out).mono ?_); rintro e w3 ⟨rfl, hb⟩; have HB3 := As.mk (below_step HB2.out hb); clear hb)
    | (go_at_call 46; (with_reducible refine (within_any w3 n E m d es (by have := HM.out; omega) (H1.out.below HB3.out)).mono ?_); rintro e w4 ⟨rfl, hb⟩; rw [HW.out]; have HB4 := As.mk (below_step HB3.out hb); clear hb))
  go_ret
  exact ⟨rfl, HB4.out⟩
set_option maxHeartbeats 2000000 in
set_option maxRecDepth 100000 in
theorem outc_ten (w : World) (A E F : Option Addr) (n c m d q qc : Nat) (ps : List (List Int)) (es : List (Int × List Int)) (hn : n ≤ 12) (h6 : 6 < m) (h10 : m ≤ 10) (h0 : RdP w A n c ps) (h1 : RdE w E m d es) (hf : few34 ps es = true) (hr : mayF n m es = 0) (hw : (!(es.any (outE n))) = true) (hlp : ∀ p ∈ ps, p.length ≤ 1000000) (hle : ∀ e ∈ es, e.2.length ≤ 1000000) (bp : ∀ p ∈ ps, Byte p) (be : ∀ e ∈ es, Byte e.2) :
    Calls Try.prog 8 #[.slice A n c, .slice E m d, .slice F q qc] w fun e w' => e = .returned (.bool true) ∧ Below w.heap.size w w' := by
  have HN := As.mk hn
  have HTEN := As.mk h10
  have H0 := As.mk h0
  have H1 := As.mk h1
  have HF := As.mk hf
  have HR := As.mk hr
  have HW := As.mk hw
  have HLP := As.mk hlp
  have HLE := As.mk hle
  have HBP := As.mk bp
  have HBE := As.mk be
  have hm' : ¬ (10 : Int) < (m : Int) := by omega
  have hm6 : (6 : Int) < (m : Int) := by omega
  have c0 : decide ((10 : Int) < (m : Int)) = false := decide_eq_false hm'
  have c1 : decide (10 < m) = false := decide_eq_false (by omega)
  have c2 : decide ((6 : Int) < (m : Int)) = true := decide_eq_true hm6
  have c3 : decide (6 < m) = true := decide_eq_true h6
  clear hn h0 h1 hf hr hw hlp hle bp be
  go_enter Try.func8, Try.ntmps8
  go_wp2_with (first
    | (go_at_call 43; (with_reducible refine (awake_true _).mono ?_); rintro e w1 ⟨rfl, hb⟩; have HB1 := As.mk hb; clear hb)
    | (go_at_call 44; (with_reducible refine (few34_any w1 A E n c m d ps es (by have := HN.out; omega) (by have := HTEN.out; omega) (H0.out.below HB1.out) (H1.out.below HB1.out) true HF.out).mono ?_); rintro e w2 ⟨rfl, hb⟩; have HB2 := As.mk (below_step HB1.out hb); clear hb)
    | (go_at_call 51; (with_reducible refine (outcomes_ok w2 ps es A E n c m d (2 ^ m) (by have := HN.out; omega) HTEN.out rfl (H0.out.below HB2.out) (H1.out.below HB2.out) HLP.out HLE.out HBP.out HBE.out HR.out).mono ?_); rintro e w3 ⟨A3, c3', k3, rfl, hri, hb⟩; have HB3 := As.mk (below_step HB2.out hb); clear hb hri)
    | (go_at_call 46; (with_reducible refine (within_any w3 n E m d es (by have := HTEN.out; omega) (H1.out.below HB3.out)).mono ?_); rintro e w4 ⟨rfl, hb⟩; rw [HW.out]; have HB4 := As.mk (below_step HB3.out hb); clear hb))
  go_ret
  exact ⟨rfl, HB4.out⟩
end Go.Proofs.Yteajblfkfmopfaa.LawCrash
namespace Go.Proofs.Yteajblfkfmopfaa.LawCrash
set_option linter.unusedVariables false
set_option linter.unusedSimpArgs false
open Go Go.RowKit Go.Proofs.Yteajblfkfmopfaa.Mem Go.Proofs.Yteajblfkfmopfaa.Put32 Go.Proofs.Yteajblfkfmopfaa.Sum Go.Proofs.Yteajblfkfmopfaa.Hmac Go.Proofs.Yteajblfkfmopfaa.Parts Go.Proofs.Yteajblfkfmopfaa.Entries Go.Proofs.Yteajblfkfmopfaa.CrashApply

theorem infoBo : (Try.prog.info? 4).map (fun i => (i.zero, i.size, i.bytes)) = some (some (.bool false), 1, 1) := by kernel_rfl
/-- an image whose rows lay there before, in a row of one's own -/
theorem elem_old {wA w : World} {base n c : Nat} {A : Option Addr} {L : List Value} {ps : List (List Int)} {X : Nat → Prop} (h : Parts w base (.slice A n c) n L ps) (ho : OldP wA L n ps) (hA : Below wA.heap.size wA w) (hX : ∀ b, X b → wA.heap.size ≤ b ∧ b < base) : ElemI w X n (.slice A n c) ps := by
  refine ⟨A, c, rfl, fun w' hk => ?_⟩
  have hcp := own_caps h.own
  refine ⟨h.len, hcp.1, hcp.2, fun h0 => ?_⟩
  obtain ⟨g, off, ea, hg, _⟩ := own_shape h.own h0
  subst ea
  refine ⟨_, rfl, fun j hj => ?_⟩
  obtain ⟨Aj, cj, e1, hr⟩ := ho j hj
  obtain ⟨ad1, e2, hc1⟩ := h.own.cell j _ e1
  cases e2
  refine ⟨Aj, cj, hk _ _ (fun hx => ?_) hc1, rd_keeps (hr.below hA) hk fun h1 ad ea hx => ?_⟩
  · rw [Addr.add_mid] at hx
    have := (hX _ hx).2
    simp only at this
    omega
  · subst ea
    have h2 := rd_lt hr h1
    have h3 := (hX _ hx).1
    omega
theorem bits_plain2 (i n : Nat) (hi : i ≤ 60) (hn : n ≤ 1099511627776) : (bits BinOp.and IntKind.i64 ((n : Int) / 2 ^ i) 1 == 1) = bitF n i := by
  have h := bits_plain i n hi hn
  have h1 : (IntKind.u64.wrap (i : Int)).toNat = i := by
    rw [Bits.wrap_u .u64 rfl i (Nat.lt_of_le_of_lt hi (by decide))]; rfl
  rwa [h1, Nat.min_eq_left (by omega)] at h
def bitsL (i m : Nat) : List Bool := (List.range m).map (bitF i)
theorem bitsL_succ (i j : Nat) : (bitsL i (j + 1)).map Value.bool = (bitsL i j).map Value.bool ++ [.bool (bitF i j)] := by
  unfold bitsL
  rw [List.range_succ]
  simp
theorem bitsL_len (i m : Nat) : (bitsL i m).length = m := by simp [bitsL]
theorem rdb_own {w : World} {base n c : Nat} {A : Option Addr} {bs : List Bool} (h : OwnAt w base (.slice A n c) n (bs.map Value.bool)) : RdB w A n c bs := by
  have hcp := own_caps h
  have hl : bs.length = n := by have := h.1; simpa using this
  refine ⟨hl, hcp.1, hcp.2, fun h0 => ?_⟩
  obtain ⟨g, off, ea, _, _⟩ := own_shape h h0
  subst ea
  refine ⟨_, rfl, fun j hj => ?_⟩
  obtain ⟨ad1, e2, hc1⟩ := h.cell j (.bool (bs.getD j false)) (by rw [List.getElem?_map, List.getD_eq_getElem?_getD, List.getElem?_eq_getElem (by omega)]; rfl)
  cases e2
  exact hc1
theorem done_bits (ps : List (List Int)) (es : List (Int × List Int)) (i m : Nat) (h : es.length = m) : doneF (keptF (bitsL i m)) 0 ps es = outN ps es i :=
  doneF_congr _ _ es 0 ps fun t ht => by
    unfold keptF bitsL
    rw [List.getD_eq_getElem?_getD, Nat.zero_add, List.getElem?_map, List.getElem?_range (by omega)]
    rfl
theorem imgs_more {w w5 : World} {base n k : Nat} {v v' u : Value} {x : Img} {L : List Value} {is : List Img} {tmp : Obj} (hi : Imgs w base v (fun b => v.ownBlock = some b) k n L is) (he : ElemI w (fun b => v.ownBlock = some b) n u x)
    (hown : w5.ownsRow base 50 1 v' (k + 1) (L ++ [u])) (hg : (w.alloc tmp).grownBy w5 v.ownBlock) (hat : v'.ownBlock = v.ownBlock ∨ v'.ownBlock = some (w.alloc tmp).heap.size) : Imgs w5 base v' (fun b => v'.ownBlock = some b) (k + 1) n (L ++ [u]) (is ++ [x]) := by
  have hb2 : Below w.heap.size w (w.alloc tmp) := below_alloc (Below.refl _ _) tmp
  refine (hi.below hb2).app (he.step (X' := fun b => v.ownBlock = some b) (keepsX_below hb2) fun b h => .inl h) hown (keepsX_grown hg fun b e => e) fun b h => ?_
  rcases hat with e | e
  · exact .inl (e ▸ h)
  · have h2 : v'.ownBlock = some b := h
    rw [e] at h2
    injection h2 with h2
    exact .inr (by omega)
set_option maxHeartbeats 4000000 in
set_option maxRecDepth 100000 in
theorem outc_all (w : World) (A E F : Option Addr) (n c m d q qc N : Nat) (ps ls : List (List Int)) (es : List (Int × List Int)) (hn : n ≤ 12) (h6 : m ≤ 6) (hN : 2 ^ m = N) (h0 : RdP w A n c ps) (h1 : RdE w E m d es) (h2 : RdP w F q qc ls) (hf : few34 ps es = true) (hr : mayF n m es = 0) (hw : (!(es.any (outE n))) = true) (hlp : ∀ p ∈ ps, p.length ≤ 1000000) (hle : ∀ e ∈ es, e.2.length ≤ 1000000) (bp : ∀ p ∈ ps, Byte p) (be : ∀ e ∈ es, Byte e.2) (bl : ∀ p ∈ ls, Byte p) :
    Calls Try.prog 8 #[.slice A n c, .slice E m d, .slice F q qc] w fun e w' => e = .returned (.bool true) ∧ Below w.heap.size w w' := by
  have HN := As.mk hn
  have H6 := As.mk h6
  have HNN := As.mk hN
  have H0 := As.mk h0
  have H1 := As.mk h1
  have H2 := As.mk h2
  have HF := As.mk hf
  have HR := As.mk hr
  have HW := As.mk hw
  have HLP := As.mk hlp
  have HLE := As.mk hle
  have HBP := As.mk bp
  have HBE := As.mk be
  have HBL := As.mk bl
  have HEL := As.mk h1.len
  have HIN := As.mk (in_of_may hr h1.len)
  have hm' : ¬ (10 : Int) < (m : Int) := by omega
  have hm6 : ¬ (6 : Int) < (m : Int) := by omega
  have c0 : decide ((10 : Int) < (m : Int)) = false := decide_eq_false hm'
  have c1 : decide (10 < m) = false := decide_eq_false (by omega)
  have c2 : decide ((6 : Int) < (m : Int)) = false := decide_eq_false hm6
  have c3 : decide (6 < m) = false := decide_eq_false (by omega)
  have hs : wrap64 ((2 : Int) ^ min m 64) = (N : Int) := shl_plain m N (by omega) hN
  have hs2 : wrap64 ((2 : Int) ^ m) = (N : Int) := by rw [← hs, Nat.min_eq_left (by omega)]
  have HN4 := As.mk (two_le m N (by omega) hN)
  clear hn h0 h1 h2 hf hr hw hlp hle bp be bl hN
  go_enter Try.func8, Try.ntmps8
  go_wp2_with (first
    | (go_at_call 43; (with_reducible refine (awake_true _).mono ?_); rintro e w1 ⟨rfl, hb⟩; have HB1 := As.mk hb; clear hb)
    | (go_at_call 44; (with_reducible refine (few34_any w1 A E n c m d ps es (by have := HN.out; omega) (by have := H6.out; omega) (H0.out.below HB1.out) (H1.out.below HB1.out) true HF.out).mono ?_); rintro e w2 ⟨rfl, hb⟩; have HB2 := As.mk (below_step HB1.out hb); clear hb)
    | (go_at_call 51; (with_reducible refine (outcomes_ok w2 ps es A E n c m d N (by have := HN.out; omega) (by have := H6.out; omega) HNN.out (H0.out.below HB2.out) (H1.out.below HB2.out) HLP.out HLE.out HBP.out HBE.out HR.out).mono ?_); rintro e w3 ⟨A3, c3', k3, rfl, hri, hb⟩; have HB3 := As.mk (below_step HB2.out hb); have HI3 := As.mk hri; clear hb hri)
    | (go_at_call 46; (with_reducible refine (within_any w3 n E m d es (by have := H6.out; omega) (H1.out.below HB3.out)).mono ?_); rintro e wA ⟨rfl, hb⟩; rw [HW.out]; have HBA := As.mk (below_step HB3.out hb); have HIA := As.mk (HI3.out.below hb); clear hb))
  rw [hs2]
  clear hs hs2
  have H0A := As.mk (H0.out.below HBA.out)
  have H1A := As.mk (H1.out.below HBA.out)
  have H2A := As.mk (H2.out.below HBA.out)
  clear H0 H1 H2 HI3 HB3 HB2 HB1 hm' hm6 c0 c1 c2 c3
  go_loopg [9, 61] N (fun kq v9 v61 wr => ∃ (i k cv : Nat) (Av : Option Addr) (L : List Value), i + kq = N ∧ v61 = .int .i64 (i : Int) ∧ v9 = .slice Av k cv ∧ As (k = (outF ps es i).length) ∧ As (Imgs wr wA.heap.size (.slice Av k cv) (fun b => (Value.slice Av k cv).ownBlock = some b) k n L (outF ps es i)) ∧ As (Below wA.heap.size wA wr))
  case atStart => exact ⟨0, 0, 0, none, [], by omega, rfl, rfl, ⟨rfl⟩, ⟨Imgs.nil _ _ _ _⟩, ⟨Below.refl _ _⟩⟩
  case round =>
    obtain ⟨i, k, cv, Av, L, hi, rfl, rfl, HK, HI, HB⟩ := hrel
    have HII := As.mk hi
    clear hi
    by_cases hlt : i < N
    · have b0 : decide ((i : Int) < (N : Int)) = true := decide_eq_true (by omega)
      have b1 : decide (i < N) = true := decide_eq_true hlt
      have lt' : (i : Int) < (N : Int) := by omega
      have hw : wrap64 ((i : Int) + 1) = ((i + 1 : Nat) : Int) := wrap_up (by have := HN4.out; omega)
      have HLT := As.mk hlt
      have HKL := As.mk (show k ≤ 4096 by rw [HK.out]; have := outF_le ps es i; have := HN4.out; omega)
      have HOS := As.mk (outF_succ ps es i)
      obtain ⟨outs, houts⟩ : ∃ outs, outs = outF ps es i := ⟨_, rfl⟩
      obtain ⟨x, hx⟩ : ∃ x, x = outN ps es i := ⟨_, rfl⟩
      have HDB := As.mk (done_bits ps es i m HEL.out)
      rw [← houts] at HK HI HOS
      rw [← hx] at HOS HDB
      have HOU := As.mk houts
      have HX := As.mk hx
      have HXB := As.mk (show ∀ p ∈ x, p.length ≤ 1000000 by rw [hx]; exact doneF_all _ (fun p => p.length ≤ 1000000) es 0 ps HLP.out HLE.out)
      have HXL := As.mk (show x.length = n by rw [hx]; exact (doneF_len _ _ _ _).trans H0A.out.len)
      clear hlt houts hx
      obtain ⟨wo, rfl⟩ : ∃ wo : World, wo = wr := ⟨_, rfl⟩
      go_wp2
      go_loopg [11, 66] m (fun kq v11 v66 wr => ∃ (j ck : Nat) (Ak : Option Addr), j + kq = m ∧ v66 = .int .i64 (j : Int) ∧ v11 = .slice Ak j ck ∧ As (wr.ownsRow wo.heap.size 4 1 (.slice Ak j ck) j ((bitsL i j).map Value.bool)) ∧ As (Below wo.heap.size wo wr))
      case atStart => exact ⟨0, 0, none, by omega, rfl, rfl, ⟨World.ownsRow_nil _ _ _ _⟩, ⟨Below.refl _ _⟩⟩
      case round =>
        obtain ⟨j, ck, Ak, hj, rfl, rfl, HO, HBB⟩ := hrel
        have HJ := As.mk hj
        clear hj
        by_cases hlt : j < m
        · have e0 : decide ((j : Int) < (m : Int)) = true := decide_eq_true (by omega)
          have e1 : decide (j < m) = true := decide_eq_true hlt
          have lt2 : (j : Int) < (m : Int) := by omega
          have hw2 : wrap64 ((j : Int) + 1) = ((j + 1 : Nat) : Int) := wrap_up (by have := H6.out; omega)
          have hbit := bits_plain2 j i (by have := H6.out; omega) (by have := HLT.out; have := HN4.out; omega)
          have HLJ := As.mk hlt
          clear hlt
          go_wp2_with (at_builtin; refine Go.Proofs.Yteajblfkfmopfaa.Mem.wpList_app rfl (.tmp 69) (.tmp 76) 74 rfl wo.heap.size 4 (.bool false) 1 1 Try.underlying74 infoBo (by rfl) (by decide) _ j ((bitsL i j).map Value.bool) rfl (own_below HO.out (below_alloc (Below.refl _ _) _)) _ 1 [_] rfl (Src.cell (heap_alloc_new _ _) rfl) ?b1 ?b2 ?b3 (HB := below_alloc HBB.out _) (Nat.le_refl _) ?_; (case b1 => have := H6.out; have := HLJ.out; unfold maxLen; omega); (case b2 => have := H6.out; have := HLJ.out; omega); (case b3 => have := HBB.out.size; simp; omega); intro v' w5 hown hg hat hb; rw [← bitsL_succ] at hown; obtain ⟨A5, c5, rfl⟩ := own_slice hown; have HO5 := As.mk hown; have HB5 := As.mk hb; clear hown hg hat hb)
          clear hbit
          go_roundg (m - (j + 1))
          case measure => have := HJ.out; have := HLJ.out; omega
          case rel => exact ⟨j + 1, c5, A5, by have := HJ.out; have := HLJ.out; omega, by go_num, rfl, HO5, HB5⟩
        · have e0 : decide ((j : Int) < (m : Int)) = false := decide_eq_false (by omega)
          have e1 : decide (j < m) = false := decide_eq_false hlt
          obtain rfl : m = j := by have := HJ.out; omega
          clear hlt
          have HRB := As.mk (rdb_own (OwnAt.of_own HO.out))
          have HBW := As.mk (HB.out.trans (HBB.out.mono HB.out.size))
          have HI2 := As.mk (HI.out.below HBB.out)
          clear HO HI HJ
          go_wp2_with (go_at_call 48; (with_reducible refine (done34_old wA wr ps es (bitsL i m) A E Ak n c m d m ck (by have := HN.out; omega) (by have := H6.out; omega) HBW.out H0A.out H1A.out HRB.out HIN.out).mono ?_); rintro e w6 ⟨A6, c6, L6, rfl, hp, hb, ho⟩; rw [HDB.out] at hp ho; have HB6 := As.mk (HBW.out.trans (hb.mono HBW.out.size)); have HI6 := As.mk (HI2.out.below hb); have HE6 := As.mk (elem_old (X := fun b => (Value.slice Av k cv).ownBlock = some b) hp ho (HBW.out.trans (hb.mono HBW.out.size)) (fun b hb => HI2.out.own.lt b hb)); have HR6 := As.mk hp.rdp; clear hp hb ho HI2)
          clear HBW HRB
          have HIR := As.mk HI6.out.rdi
          go_loopg [14, 85] k (fun kq v14 v85 wr => ∃ (j : Nat) (b : Bool), j + kq = k ∧ v85 = .int .i64 (j : Int) ∧ v14 = .bool b ∧ As (b = (outs.take j).any fun y => decide (x = y)) ∧ As (Below w6.heap.size w6 wr))
          case atStart => exact ⟨0, false, by omega, rfl, rfl, ⟨rfl⟩, ⟨Below.refl _ _⟩⟩
          case round =>
            obtain ⟨j, b, hj, rfl, rfl, HBJ, HBL6⟩ := hrel
            have HJ := As.mk hj
            clear hj
            by_cases hlt : j < k
            · have f0 : decide ((j : Int) < (k : Int)) = true := decide_eq_true (by omega)
              have f1 : decide (j < k) = true := decide_eq_true hlt
              have lt3 : (j : Int) < (k : Int) := by omega
              have hw3 : wrap64 ((j : Int) + 1) = ((j + 1 : Nat) : Int) := wrap_up (by have := HKL.out; omega)
              obtain ⟨ad, Aj, cj, ea, h3, h4⟩ := HIR.out.at j hlt
              cases ea
              have h3' := cell_keep h3 HBL6.out
              have HRJ := As.mk (h4.below HBL6.out)
              have HRX := As.mk (HR6.out.below HBL6.out)
              have HLJ := As.mk hlt
              have HSN := As.mk (show ((outs.take (j + 1)).any fun y => decide (x = y)) = (((outs.take j).any fun y => decide (x = y)) || decide (x = nthI outs j)) by
                rw [List.take_succ_eq_append_getElem (by rw [← HK.out]; exact hlt), List.any_append, nthI, List.getD_eq_getElem?_getD, List.getElem?_eq_getElem (by rw [← HK.out]; exact hlt)]
                simp)
              rw [← HBJ.out] at HSN
              clear h3 h4 hlt
              cases b with
              | true =>
                go_wp2
                go_roundg (k - (j + 1))
                case measure => have := HJ.out; have := HLJ.out; omega
                case rel => exact ⟨j + 1, true, by have := HJ.out; have := HLJ.out; omega, by go_num, rfl, ⟨HSN.out.symm⟩, HBL6⟩
              | false =>
                obtain ⟨t, ht⟩ : ∃ t, t = decide (x = nthI outs j) := ⟨_, rfl⟩
                rw [← ht] at HSN
                have HT := As.mk (show t = true ↔ x = nthI outs j by rw [ht, decide_eq_true_eq])
                clear ht
                go_wp2_with (go_at_call 49; (with_reducible refine (same34_any wr A6 Aj n c6 n cj x (nthI outs j) (by have := HN.out; omega) HXB.out HRX.out HRJ.out t HT.out).mono ?_); rintro e w7 ⟨rfl, hb⟩; have HB7 := As.mk (below_step HBL6.out hb); clear hb)
                go_roundg (k - (j + 1))
                case measure => have := HJ.out; have := HLJ.out; omega
                case rel => exact ⟨j + 1, t, by have := HJ.out; have := HLJ.out; omega, by go_num, rfl, ⟨by rw [HSN.out]; rfl⟩, HB7⟩
            · have f0 : decide ((j : Int) < (k : Int)) = false := decide_eq_false (by omega)
              have f1 : decide (j < k) = false := decide_eq_false hlt
              obtain rfl : k = j := by have := HJ.out; omega
              have HBE2 := As.mk (show b = outs.any fun y => decide (x = y) by rw [HBJ.out, HK.out, List.take_length])
              rw [← HBE2.out] at HOS
              clear hlt HBJ HJ
              have HI8 := As.mk (HI6.out.below HBL6.out)
              have HE8 := As.mk (HE6.out.step (keepsX_below HBL6.out) (X' := fun b => (Value.slice Av k cv).ownBlock = some b) (fun b h => .inl h))
              have HB8 := As.mk (HB6.out.trans (HBL6.out.mono HB6.out.size))
              cases b with
              | true =>
                go_wp2
                go_roundg (N - (i + 1))
                case measure => have := HII.out; have := HLT.out; omega
                case rel => exact ⟨i + 1, k, cv, Av, L, by have := HII.out; have := HLT.out; omega, by go_num, rfl, ⟨by rw [HOS.out]; simpa using HK.out⟩, ⟨by rw [HOS.out]; simpa using HI8.out⟩, HB8⟩
              | false =>
                go_wp2_with (at_builtin; refine Go.Proofs.Yteajblfkfmopfaa.Mem.wpList_app rfl (.tmp 98) (.tmp 100) 83 rfl wA.heap.size 50 (.slice none 0 0) 1 24 Try.underlying83 infoPP (by rfl) (by decide) _ k L rfl (own_below HI8.out.own (below_alloc (Below.refl _ _) _)) _ 1 [.slice A6 n c6] rfl (Src.cell (heap_alloc_new _ _) rfl) ?b1 ?b2 ?b3 (HB := HB8.out.alloc HB8.out.size _) (Nat.le_refl _) ?_; (case b1 => have := HKL.out; unfold maxLen; omega); (case b2 => have := HKL.out; omega); (case b3 => have := HB8.out.size; simp; omega); intro v' w5 hown hg hat hb; obtain ⟨A5, c5, rfl⟩ := own_slice hown; have HI5 := As.mk (imgs_more HI8.out HE8.out hown hg hat); have HB5 := As.mk hb; clear hown hg hat hb)
                go_roundg (N - (i + 1))
                case measure => have := HII.out; have := HLT.out; omega
                case rel => exact ⟨i + 1, k + 1, c5, A5, L ++ [.slice A6 n c6], by have := HII.out; have := HLT.out; omega, by go_num, rfl, ⟨by rw [HOS.out, if_neg (by simp), List.length_append, ← HK.out]; rfl⟩, ⟨by rw [HOS.out, if_neg (by simp)]; exact HI5.out⟩, HB5⟩
    · have b0 : decide ((i : Int) < (N : Int)) = false := decide_eq_false (by omega)
      have b1 : decide (i < N) = false := decide_eq_false hlt
      obtain rfl : N = i := by have := HII.out; omega
      have ek : k3 = k := by rw [HK.out]; exact HIA.out.len.symm
      subst ek
      have g1 : ((k3 : Int) != (k3 : Int)) = false := by simp
      clear hlt
      obtain ⟨outs, houts⟩ : ∃ outs, outs = outF ps es N := ⟨_, rfl⟩
      rw [← houts] at HI HIA HK
      have hes0 : ∀ e ∈ es, 0 ≤ e.1 := fun e he => by
        obtain ⟨t, ht, rfl⟩ := mem_nthE he
        exact (HIN.out t (by rw [← HEL.out]; exact ht)).1
      have HLF := As.mk (show ∀ j, j < k3 → leftF es ps (nthI outs j) n = true from fun j hj => by
        have hm2 : nthI outs j ∈ outF ps es (2 ^ es.length) := by
          rw [HEL.out, HNN.out, ← houts]
          exact nthI_mem (by rw [← HK.out]; exact hj)
        exact (left_iff es ps _ n H0A.out.len ((out_len ps es _ _ hm2).trans H0A.out.len) hes0).2 hm2)
      have HBY := As.mk (show ∀ j, j < k3 → ∀ p ∈ nthI outs j, Byte p ∧ p.length ≤ 1000000 from fun j hj => by
        have hm2 : nthI outs j ∈ outF ps es N := by
          rw [← houts]
          exact nthI_mem (by rw [← HK.out]; exact hj)
        obtain ⟨t, _, ht⟩ := (outF_mem ps es N _).1 hm2
        rw [← ht]
        exact doneF_all _ (fun p => Byte p ∧ p.length ≤ 1000000) es 0 ps (fun p hp => ⟨HBP.out p hp, HLP.out p hp⟩) (fun e he => ⟨HBE.out e he, HLE.out e he⟩))
      have HFD := As.mk (show (outs.any fun y => decide (y = ls)) = (decide (ls.length = n) && leftF es ps ls n) by
        rw [houts, ← HNN.out, ← HEL.out]
        exact left_found es ps ls n H0A.out.len hes0)
      have HK4 := As.mk (show k3 ≤ 4096 by rw [HK.out, houts]; exact Nat.le_trans (outF_le ps es N) HN4.out)
      clear hes0 houts
      obtain ⟨wo, rfl⟩ : ∃ wo : World, wo = wr := ⟨_, rfl⟩
      have HRW := As.mk HI.out.rdi
      have HRL := As.mk (HIA.out.below HB.out)
      have H0B := As.mk (H0A.out.below HB.out)
      have H1B := As.mk (H1A.out.below HB.out)
      have H2B := As.mk (H2A.out.below HB.out)
      have HBW := As.mk (below_step HBA.out HB.out)
      clear HI HIA H0A H1A H2A HB HBA HII
      go_wp2
      clear g1
      go_loopg [17, 114] k3 (fun kq v17 v114 wr => ∃ (j : Nat) (b : Bool), j + kq = k3 ∧ v114 = .int .i64 (j : Int) ∧ v17 = .bool b ∧ As (b = (outs.take j).any fun y => decide (y = ls)) ∧ As (Below wo.heap.size wo wr))
      case atStart => exact ⟨0, false, by omega, rfl, rfl, ⟨rfl⟩, ⟨Below.refl _ _⟩⟩
      case round =>
        obtain ⟨j, b, hj, rfl, rfl, HBJ, HB⟩ := hrel
        have HJ := As.mk hj
        clear hj
        by_cases hlt : j < k3
        · have e0 : decide ((j : Int) < (k3 : Int)) = true := decide_eq_true (by omega)
          have e1 : decide (j < k3) = true := decide_eq_true hlt
          have lt2 : (j : Int) < (k3 : Int) := by omega
          have hw2 : wrap64 ((j : Int) + 1) = ((j + 1 : Nat) : Int) := wrap_up (by have := HK4.out; omega)
          obtain ⟨a3, Al, cl, ea, h3, h4⟩ := HRL.out.at j hlt
          cases ea
          obtain ⟨av, Aw, cw, ea, g3, g4⟩ := HRW.out.at j hlt
          cases ea
          have h3 := cell_keep h3 HB.out
          have g3 := cell_keep g3 HB.out
          have H4 := As.mk (h4.below HB.out)
          have G4 := As.mk (g4.below HB.out)
          have HLJ := As.mk hlt
          have HSN := As.mk (show ((outs.take (j + 1)).any fun y => decide (y = ls)) = (((outs.take j).any fun y => decide (y = ls)) || decide (nthI outs j = ls)) by
            rw [List.take_succ_eq_append_getElem (by rw [← HK.out]; exact hlt), List.any_append, nthI, List.getD_eq_getElem?_getD, List.getElem?_eq_getElem (by rw [← HK.out]; exact hlt)]
            simp)
          rw [← HBJ.out] at HSN
          have HLFJ := As.mk (HLF.out j hlt)
          have HBYJ := As.mk (HBY.out j hlt)
          obtain ⟨y, hy⟩ : ∃ y, y = nthI outs j := ⟨_, rfl⟩
          rw [← hy] at H4 G4 HSN HLFJ HBYJ
          clear h4 g4 hlt hy
          go_wp2
          refine wp_region_held_drew (S := fun W : World => Below wr.heap.size wr W) (by kernel_rfl) (below_drewN (Below.refl _ _) 1) (fun hHeld => ?_)
          refine wpAnyH_take (i := 0) (v := .slice (some a3) k3 c3') rfl (by kernel_rfl) (by kernel_rfl) (by kernel_rfl) (fun _ _ _ h => h) (Or.inl ⟨by rfl, fun W hW => by go_simp⟩) hHeld ?_
          try simp only [Act.put, List.setIfInBounds_toArray, List.set_cons_zero, List.set_cons_succ, List.getElem_toArray, List.getElem_cons_zero, List.getElem_cons_succ]
          refine wpAnyH_take (i := 1) (v := .int .i64 (j : Int)) rfl (by kernel_rfl) (by kernel_rfl) (by kernel_rfl) (fun _ _ _ h => h) (Or.inl ⟨by rfl, fun W hW => by go_simp⟩) hHeld ?_
          try simp only [Act.put, List.setIfInBounds_toArray, List.set_cons_zero, List.set_cons_succ, List.getElem_toArray, List.getElem_cons_zero, List.getElem_cons_succ]
          refine wpAnyH_take (i := 2) (v := .pointer (some (a3.add j))) rfl (by kernel_rfl) (by kernel_rfl) (by kernel_rfl) (fun _ _ _ h => h) (Or.inl ⟨by rfl, fun W hW => by go_simp⟩) hHeld ?_
          try simp only [Act.put, List.setIfInBounds_toArray, List.set_cons_zero, List.set_cons_succ, List.getElem_toArray, List.getElem_cons_zero, List.getElem_cons_succ]
          refine wpAnyH_take (i := 3) (v := .slice Al n cl) rfl (by kernel_rfl) (by kernel_rfl) (by kernel_rfl) (fun _ _ _ h => h) (Or.inl ⟨by rfl, fun W hW => by (have q := cell_keep h3 hW; go_simp)⟩) hHeld ?_
          try simp only [Act.put, List.setIfInBounds_toArray, List.set_cons_zero, List.set_cons_succ, List.getElem_toArray, List.getElem_cons_zero, List.getElem_cons_succ]
          refine wpAnyH_take (i := 4) (v := .slice (some av) k3 cv) rfl (by kernel_rfl) (by kernel_rfl) (by kernel_rfl) (fun _ _ _ h => h) (Or.inl ⟨by rfl, fun W hW => by go_simp⟩) hHeld ?_
          try simp only [Act.put, List.setIfInBounds_toArray, List.set_cons_zero, List.set_cons_succ, List.getElem_toArray, List.getElem_cons_zero, List.getElem_cons_succ]
          refine wpAnyH_take (i := 5) (v := .int .i64 (j : Int)) rfl (by kernel_rfl) (by kernel_rfl) (by kernel_rfl) (fun _ _ _ h => h) (Or.inl ⟨by rfl, fun W hW => by go_simp⟩) hHeld ?_
          try simp only [Act.put, List.setIfInBounds_toArray, List.set_cons_zero, List.set_cons_succ, List.getElem_toArray, List.getElem_cons_zero, List.getElem_cons_succ]
          refine wpAnyH_take (i := 6) (v := .pointer (some (av.add j))) rfl (by kernel_rfl) (by kernel_rfl) (by kernel_rfl) (fun _ _ _ h => h) (Or.inl ⟨by rfl, fun W hW => by go_simp⟩) hHeld ?_
          try simp only [Act.put, List.setIfInBounds_toArray, List.set_cons_zero, List.set_cons_succ, List.getElem_toArray, List.getElem_cons_zero, List.getElem_cons_succ]
          refine wpAnyH_take (i := 7) (v := .slice Aw n cw) rfl (by kernel_rfl) (by kernel_rfl) (by kernel_rfl) (fun _ _ _ h => h) (Or.inl ⟨by rfl, fun W hW => by (have q := cell_keep g3 hW; go_simp)⟩) hHeld ?_
          try simp only [Act.put, List.setIfInBounds_toArray, List.set_cons_zero, List.set_cons_succ, List.getElem_toArray, List.getElem_cons_zero, List.getElem_cons_succ]
          refine wpAnyH_ready (rs := [8]) (by kernel_rfl) (by simp) (AllReadyH.cons rfl (fun K' hK => ?_) AllReadyH.nil)
          go_simp
          refine (same34_any _ Al Aw n cl n cw y y (by have := HN.out; omega) (fun p hp => (HBYJ.out p hp).2) (H4.out.below hHeld) (G4.out.below hHeld) true (iff_of_true rfl rfl)).mono ?_
          rintro e wq ⟨rfl, hb⟩
          refine hK.out _ _ (below_step hHeld hb) (fun hHeld => ?_)
          clear hK
          try simp only [Act.put, List.setIfInBounds_toArray, List.set_cons_zero, List.set_cons_succ, List.getElem_toArray, List.getElem_cons_zero, List.getElem_cons_succ]
          refine wpAnyH_take (i := 9) (v := .bool false) rfl (by kernel_rfl) (by kernel_rfl) (by kernel_rfl) (fun _ _ _ h => h) (Or.inl ⟨by rfl, fun W hW => by go_simp⟩) hHeld ?_
          try simp only [Act.put, List.setIfInBounds_toArray, List.set_cons_zero, List.set_cons_succ, List.getElem_toArray, List.getElem_cons_zero, List.getElem_cons_succ]
          refine wpAnyH_take (i := 10) (v := .bool false) rfl (by kernel_rfl) (by kernel_rfl) (by kernel_rfl) (fun _ _ _ h => h) (Or.inl ⟨by rfl, fun W hW => by go_simp⟩) hHeld ?_
          try simp only [Act.put, List.setIfInBounds_toArray, List.set_cons_zero, List.set_cons_succ, List.getElem_toArray, List.getElem_cons_zero, List.getElem_cons_succ]
          refine wpAnyH_take (i := 11) (v := .slice A n c) rfl (by kernel_rfl) (by kernel_rfl) (by kernel_rfl) (fun _ _ _ h => h) (Or.inl ⟨by rfl, fun W hW => by go_simp⟩) hHeld ?_
          try simp only [Act.put, List.setIfInBounds_toArray, List.set_cons_zero, List.set_cons_succ, List.getElem_toArray, List.getElem_cons_zero, List.getElem_cons_succ]
          refine wpAnyH_take (i := 12) (v := .slice E m d) rfl (by kernel_rfl) (by kernel_rfl) (by kernel_rfl) (fun _ _ _ h => h) (Or.inl ⟨by rfl, fun W hW => by go_simp⟩) hHeld ?_
          try simp only [Act.put, List.setIfInBounds_toArray, List.set_cons_zero, List.set_cons_succ, List.getElem_toArray, List.getElem_cons_zero, List.getElem_cons_succ]
          refine wpAnyH_take (i := 13) (v := .slice (some a3) k3 c3') rfl (by kernel_rfl) (by kernel_rfl) (by kernel_rfl) (fun _ _ _ h => h) (Or.inl ⟨by rfl, fun W hW => by go_simp⟩) hHeld ?_
          try simp only [Act.put, List.setIfInBounds_toArray, List.set_cons_zero, List.set_cons_succ, List.getElem_toArray, List.getElem_cons_zero, List.getElem_cons_succ]
          refine wpAnyH_take (i := 14) (v := .int .i64 (j : Int)) rfl (by kernel_rfl) (by kernel_rfl) (by kernel_rfl) (fun _ _ _ h => h) (Or.inl ⟨by rfl, fun W hW => by go_simp⟩) hHeld ?_
          try simp only [Act.put, List.setIfInBounds_toArray, List.set_cons_zero, List.set_cons_succ, List.getElem_toArray, List.getElem_cons_zero, List.getElem_cons_succ]
          refine wpAnyH_take (i := 15) (v := .pointer (some (a3.add j))) rfl (by kernel_rfl) (by kernel_rfl) (by kernel_rfl) (fun _ _ _ h => h) (Or.inl ⟨by rfl, fun W hW => by go_simp⟩) hHeld ?_
          try simp only [Act.put, List.setIfInBounds_toArray, List.set_cons_zero, List.set_cons_succ, List.getElem_toArray, List.getElem_cons_zero, List.getElem_cons_succ]
          refine wpAnyH_take (i := 16) (v := .slice Al n cl) rfl (by kernel_rfl) (by kernel_rfl) (by kernel_rfl) (fun _ _ _ h => h) (Or.inl ⟨by rfl, fun W hW => by (have q := cell_keep h3 hW; go_simp)⟩) hHeld ?_
          try simp only [Act.put, List.setIfInBounds_toArray, List.set_cons_zero, List.set_cons_succ, List.getElem_toArray, List.getElem_cons_zero, List.getElem_cons_succ]
          clear hb
          refine wpAnyH_ready (rs := [17]) (by kernel_rfl) (by simp) (AllReadyH.cons rfl (fun K' hK => ?_) AllReadyH.nil)
          go_simp
          refine (mayL_any _ ps y es A E Al n c m d n cl (by have := HN.out; omega) (by have := H6.out; omega) (H0B.out.below (below_step HB.out hHeld)) (H1B.out.below (below_step HB.out hHeld)) (H4.out.below hHeld) HR.out HBP.out (fun p hp => (HBYJ.out p hp).1) HBE.out).mono ?_
          rintro e wz ⟨rfl, hb⟩
          rw [HLFJ.out]
          refine hK.out _ _ (below_step hHeld hb) (fun hHeld => ?_)
          clear hK
          try simp only [Act.put, List.setIfInBounds_toArray, List.set_cons_zero, List.set_cons_succ, List.getElem_toArray, List.getElem_cons_zero, List.getElem_cons_succ]
          refine wpAnyH_take (i := 18) (v := .bool false) rfl (by kernel_rfl) (by kernel_rfl) (by kernel_rfl) (fun _ _ _ h => h) (Or.inl ⟨by rfl, fun W hW => by go_simp⟩) hHeld ?_
          try simp only [Act.put, List.setIfInBounds_toArray, List.set_cons_zero, List.set_cons_succ, List.getElem_toArray, List.getElem_cons_zero, List.getElem_cons_succ]
          refine wpAnyH_take (i := 19) (v := .bool false) rfl (by kernel_rfl) (by kernel_rfl) (by kernel_rfl) (fun _ _ _ h => h) (Or.inl ⟨by rfl, fun W hW => by go_simp⟩) hHeld ?_
          try simp only [Act.put, List.setIfInBounds_toArray, List.set_cons_zero, List.set_cons_succ, List.getElem_toArray, List.getElem_cons_zero, List.getElem_cons_succ]
          clear hb
          refine wpAnyH_done (by kernel_rfl) ?_ _
          have HBZ := As.mk (below_step HB.out hHeld)
          have gz := cell_keep g3 hHeld
          have GZ := As.mk (G4.out.below hHeld)
          have FZ := As.mk (H2B.out.below HBZ.out)
          clear h3 g3 hHeld
          cases b with
          | true =>
            go_wp2
            go_roundg (k3 - (j + 1))
            case measure => have := HJ.out; have := HLJ.out; omega
            case rel => exact ⟨j + 1, true, by have := HJ.out; have := HLJ.out; omega, by go_num, rfl, ⟨by rw [HSN.out]; rfl⟩, HBZ⟩
          | false =>
            obtain ⟨t, ht⟩ : ∃ t, t = decide (y = ls) := ⟨_, rfl⟩
            rw [← ht] at HSN
            have HT := As.mk (show t = true ↔ y = ls by rw [ht, decide_eq_true_eq])
            clear ht
            go_wp2_with (go_at_call 49; (with_reducible refine (same34_any wz Aw F n cw q qc y ls (by have := HN.out; omega) (fun p hp => (HBYJ.out p hp).2) GZ.out FZ.out t HT.out).mono ?_); rintro e w7 ⟨rfl, hb⟩; have HB7 := As.mk (below_step HBZ.out hb); clear hb)
            go_roundg (k3 - (j + 1))
            case measure => have := HJ.out; have := HLJ.out; omega
            case rel => exact ⟨j + 1, t, by have := HJ.out; have := HLJ.out; omega, by go_num, rfl, ⟨by rw [HSN.out]; rfl⟩, HB7⟩
        · have e0 : decide ((j : Int) < (k3 : Int)) = false := decide_eq_false (by omega)
          have e1 : decide (j < k3) = false := decide_eq_false hlt
          obtain rfl : k3 = j := by have := HJ.out; omega
          have HB0 := As.mk (show b = (decide (ls.length = n) && leftF es ps ls n) by rw [HBJ.out, HK.out, List.take_length, HFD.out])
          have hq := H2B.out.len
          clear hlt HBJ HJ
          by_cases hqn : q = n
          · subst hqn
            obtain ⟨y, hy⟩ : ∃ y, y = leftF es ps ls q := ⟨_, rfl⟩
            have HY := As.mk hy
            have hby : b = y := by rw [HB0.out, ← hy, decide_eq_true hq]; rfl
            subst hby
            clear hy hq
            go_wp2_with (go_at_call 47; (with_reducible refine (mayL_any wr ps ls es A E F q c m d q qc (by have := HN.out; omega) (by have := H6.out; omega) (H0B.out.below HB.out) (H1B.out.below HB.out) (H2B.out.below HB.out) HR.out HBP.out HBL.out HBE.out).mono ?_); rintro e w7 ⟨rfl, hb⟩; rw [← HY.out]; have HB7 := As.mk (below_step HBW.out (below_step HB.out hb)); clear hb)
            go_ret
            exact ⟨by simp, HB7.out⟩
          · have hb0 : b = false := by rw [HB0.out, decide_eq_false (by rw [hq]; exact hqn)]; rfl
            subst hb0
            have HQN := As.mk hqn
            clear hq hqn
            go_wp2_with (go_at_call 47; (with_reducible refine (may_bad wr es A E F n c m d q qc (by have := H6.out; omega) (H1B.out.below HB.out) (.inr ⟨HR.out, HQN.out⟩)).mono ?_); rintro e w7 ⟨rfl, hb⟩; have HB7 := As.mk (below_step HBW.out (below_step HB.out hb)); clear hb)
            go_ret
            exact ⟨by simp, HB7.out⟩
end Go.Proofs.Yteajblfkfmopfaa.LawCrash
namespace Go.Proofs.Yteajblfkfmopfaa.LawCrash
set_option linter.unusedVariables false
set_option linter.unusedSimpArgs false
open Go Go.RowKit Go.Proofs.Yteajblfkfmopfaa.Mem Go.Proofs.Yteajblfkfmopfaa.Put32 Go.Proofs.Yteajblfkfmopfaa.Sum Go.Proofs.Yteajblfkfmopfaa.Hmac Go.Proofs.Yteajblfkfmopfaa.Parts Go.Proofs.Yteajblfkfmopfaa.Entries Go.Proofs.Yteajblfkfmopfaa.CrashApply

theorem few_parts {ps : List (List Int)} {es : List (Int × List Int)} (h : few34 ps es = true) : (∀ p ∈ ps, p.length ≤ 1000000) ∧ (∀ e ∈ es, e.2.length ≤ 1000000) ∧ ps.length ≤ 12 ∧ es.length ≤ 14 := by
  unfold few34 at h
  simp only [Bool.and_eq_true, decide_eq_true_eq, List.all_eq_true] at h
  exact ⟨fun p hp => Nat.le_trans (h.1 p hp) (by decide), fun e he => Nat.le_trans (h.2.1 e he) (by decide), h.2.2.1, h.2.2.2⟩
theorem within_of {n m : Nat} {es : List (Int × List Int)} (hn : n ≤ 4096) (hm : m ≤ 4096) (r : Int) (h : mayF n m es = r) : (!(es.any (outE n))) = decide (r = 0) := by rw [mayF_within hn hm, h]
theorem outcomes_walk (A : Option Addr) (n c : Nat) (ps : List (List Int)) (E : Option Addr) (m d : Nat) (es : List (Int × List Int)) (F : Option Addr) (q qc : Nat) (ls : List (List Int)) (w : World) (h0 : RdP w A n c ps) (bp : ∀ p ∈ ps, ∀ i ∈ p, (Lit.int .u8 i).wf = true) (h1 : RdE w E m d es) (be : ∀ e ∈ es, ∀ i ∈ e.2, (Lit.int .u8 i).wf = true) (h2 : RdP w F q qc ls) (bl : ∀ p ∈ ls, ∀ i ∈ p, (Lit.int .u8 i).wf = true) :
    Calls Try.prog 8 #[.slice A n c, .slice E m d, .slice F q qc] w fun e w' => e = .returned (.bool true) ∧ Below w.heap.size w w' := by
  have hn : n ≤ 9223372036854775807 := by have h3 := h0.le; have h4 := h0.cap; unfold maxLen at h4; omega
  have hm : m ≤ 9223372036854775807 := by have h3 := h1.le; have h4 := h1.cap; unfold maxLen at h4; omega
  cases hf : few34 ps es with
  | false => exact outc_few w A E F n c m d q qc ps es hn hm h0 h1 hf
  | true =>
    obtain ⟨hlp, hle, hpn, hem⟩ := few_parts hf
    rw [h0.len] at hpn
    rw [h1.len] at hem
    have bp' : ∀ p ∈ ps, Byte p := fun p hp => Go.Proofs.Yteajblfkfmopfaa.Mem.byte_of (bp p hp)
    have be' : ∀ e ∈ es, Byte e.2 := fun e he => Go.Proofs.Yteajblfkfmopfaa.Mem.byte_of (be e he)
    have bl' : ∀ p ∈ ls, Byte p := fun p hp => Go.Proofs.Yteajblfkfmopfaa.Mem.byte_of (bl p hp)
    rcases mayF_few (n := n) (m := m) (es := es) (by omega) (by omega) with hr | hr
    · have hw := within_of (n := n) (m := m) (es := es) (by omega) (by omega) _ hr
      by_cases h10 : 10 < m
      · exact outc_many w A E F n c m d q qc ps es hpn hem h10 h0 h1 hf hr hw
      · by_cases h6 : 6 < m
        · exact outc_ten w A E F n c m d q qc ps es hpn h6 (by omega) h0 h1 hf hr hw hlp hle bp' be'
        · exact outc_all w A E F n c m d q qc (2 ^ m) ps ls es hpn (by omega) rfl h0 h1 h2 hf hr hw hlp hle bp' be' bl'
    · have hw := within_of (n := n) (m := m) (es := es) (by omega) (by omega) _ hr
      exact outc_out w A E F n c m d q qc ps es hpn hem h0 h1 hf hr hw
end Go.Proofs.Yteajblfkfmopfaa.LawCrash
