/- A slot, in plain terms. super.Put. chatelaineref01.Put, of a number that fits. chatelaineref18.Front. chatelaineref18.Put. -/
import Derived.Test.YtjcofbjfolaoiaaField
import Derived.Test.YtjcofbjfolaoiaaLayA
import Derived.Test.YtjcofbjfolaoiaaHmac
import Derived.Test.YtjcofbjfolaoiaaPut
import Derived.Test.YtjcofbjfolaoiaaGeo
import Derived.Test.YtjcofbjfolaoiaaRefHmac
namespace Go.Proofs.Ytjcofbjfolaoiaa.SlotP
set_option linter.unusedVariables false
set_option linter.unusedSimpArgs false
open Go Go.RowKit Go.Proofs.Ytjcofbjfolaoiaa.Mem Go.Proofs.Ytjcofbjfolaoiaa.Put32 Go.Proofs.Ytjcofbjfolaoiaa.Put Go.Proofs.Ytjcofbjfolaoiaa.Sum Go.Proofs.Ytjcofbjfolaoiaa.Geo Go.Proofs.Ytjcofbjfolaoiaa.Stretch Go.Proofs.Ytjcofbjfolaoiaa.ShaParts Go.Proofs.Ytjcofbjfolaoiaa.Hmac Go.Proofs.Ytjcofbjfolaoiaa.RefSum Go.Proofs.Ytjcofbjfolaoiaa.ShaSums

def mark : List Int := [67, 72, 65, 84]
def frontB (s t p d v : Nat) : List Int := mark ++ beB 8 v ++ beB 2 s ++ beB 2 t ++ beB 2 p ++ beB 4 d
theorem frontB_len (s t p d v : Nat) : (frontB s t p d v).length = 22 := by
  unfold frontB
  simp [beB_len, mark]
theorem mark_byte : Byte mark := by
  intro x hx
  simp [mark] at hx
  omega
theorem byte_app {x y : List Int} (hx : Byte x) (hy : Byte y) : Byte (x ++ y) := fun v h => (List.mem_append.1 h).elim (hx v) (hy v)
theorem frontB_byte (s t p d v : Nat) : Byte (frontB s t p d v) :=
  byte_app (byte_app (byte_app (byte_app (byte_app mark_byte (beB_byte _ _)) (beB_byte _ _)) (beB_byte _ _)) (beB_byte _ _)) (beB_byte _ _)
def slotB (s t p d v : Nat) : List Int := frontB s t p d v ++ sumB (frontB s t p d v) ++ List.replicate (s - 54) 0
theorem slotB_len (s t p d v : Nat) (h : 54 ≤ s) : (slotB s t p d v).length = s := by
  unfold slotB
  rw [List.length_append, List.length_append, frontB_len, sumB_len, List.length_replicate]
  omega
theorem slotB_byte (s t p d v : Nat) : Byte (slotB s t p d v) :=
  byte_app (byte_app (frontB_byte _ _ _ _ _) (sumB_byte _)) fun y hy => by rw [List.eq_of_mem_replicate hy]; omega
/-- the front and its sum laid over noughts -/
theorem slot_splice (s t p d v : Nat) (h : 54 ≤ s) : splice ((List.replicate s (0 : Int)).map (Value.int .u8)) 0 ((frontB s t p d v ++ sumB (frontB s t p d v)).map (Value.int .u8)) = (slotB s t p d v).map (Value.int .u8) := by
  unfold splice slotB
  rw [List.length_map, List.length_append, frontB_len, sumB_len, List.take_zero, List.nil_append, ← List.map_drop, List.drop_replicate, List.map_append, List.map_append, List.map_append, Nat.zero_add]
end Go.Proofs.Ytjcofbjfolaoiaa.SlotP
namespace Go.Proofs.Ytjcofbjfolaoiaa.SlotP
set_option linter.unusedVariables false
set_option linter.unusedSimpArgs false
open Go Go.RowKit Go.Proofs.Ytjcofbjfolaoiaa.Mem Go.Proofs.Ytjcofbjfolaoiaa.Put32 Go.Proofs.Ytjcofbjfolaoiaa.Pad Go.Proofs.Ytjcofbjfolaoiaa.Put Go.Proofs.Ytjcofbjfolaoiaa.Sum Go.Proofs.Ytjcofbjfolaoiaa.Geo Go.Proofs.Ytjcofbjfolaoiaa.LayA Go.Proofs.Ytjcofbjfolaoiaa.Field Go.Proofs.Ytjcofbjfolaoiaa.Hmac Go.Proofs.Ytjcofbjfolaoiaa.RefSum Go.Proofs.Ytjcofbjfolaoiaa.Stretch Go.Proofs.Ytjcofbjfolaoiaa.ShaParts

set_option maxHeartbeats 400000 in
theorem mark_any (w : World) : Calls Try.prog 98 #[] w fun e w' => ∃ A c, e = .returned (.slice A 4 c) ∧ Rd .u8 w' A 4 c mark ∧ Below w.heap.size w w' := by
  go_enter Try.func98, Try.ntmps98
  go_wp2
  go_ret
  exact ⟨_, _, rfl, Rd.lit w .u8 5 mark (by show 4 ≤ maxLen; decide), below_alloc (Below.refl _ _) _⟩
theorem number_anyI (B : Nat) (w : World) (A : Option Addr) (n c : Nat) (x : List Int) (h : Wr B w 0 A n c x) (v size : Nat) (z : Int) (hz : z = (size : Int)) (hs : 1 ≤ size ∧ size ≤ 8) (hv : v ≤ 4611686018427387904) (hf : v < 256 ^ size) (hm : n + size ≤ 140737488355328) :
    Calls Try.prog 99 #[.pointer (some ⟨B, 0, none⟩), .int .i64 (v : Int), .int .i64 z] w fun e w' => e = .returned (.tuple #[]) ∧ Put' B w w' A n c size (x ++ beB size v) := hz ▸ number_any B w A n c x h v size hs hv hf hm
theorem put_below {B : Nat} {w w' : World} {A : Option Addr} {n c m : Nat} {x z : List Int} (h : Put' B w w' A n c m z) (hw : Wr B w 0 A n c x) : Below B w w' := by
  obtain ⟨A', c', _, hk, _⟩ := h
  exact hk.below (Nat.le_refl _) (Nat.le_of_lt hw.lt) fun k e => Nat.le_of_lt (hw.own_far k e).1
theorem info8' : (Try.prog.info? 5).map (·.size) = some 1 := by kernel_rfl
set_option maxHeartbeats 1000000 in
set_option maxRecDepth 100000 in
theorem slot_bad (s t p d v : Int) (h : rightB s t p d = false ∨ (decide (0 ≤ v) && decide (v ≤ 1099511627776)) = false) (w : World) :
    Calls Try.prog 35 #[.agg #[.int .i64 s, .int .i64 t, .int .i64 p, .int .i64 d], .int .i64 v] w fun e w' => e = .returned (.tuple #[.slice none 0 0, .int .i64 2]) ∧ Below w.heap.size w w' := by
  have HB := As.mk (below_alloc (Below.refl w.heap.size w) (.cells #[.int .i64 s, .int .i64 t, .int .i64 p, .int .i64 d] 53))
  obtain ⟨b, hb⟩ : ∃ b, rightB s t p d = b := ⟨_, rfl⟩
  obtain ⟨b2, hb2⟩ : ∃ b, (decide (0 ≤ v) && decide (v ≤ 1099511627776)) = b := ⟨_, rfl⟩
  rw [hb, hb2] at h
  have H := As.mk hb
  have H2 := As.mk hb2
  clear hb hb2
  rcases (by cases b <;> cases b2 <;> simp_all : b = false ∨ (b = true ∧ b2 = false)) with rfl | ⟨rfl, rfl⟩
  all_goals
    clear h
    go_enter Try.func35, Try.ntmps35
    go_wp2_with (first
      | (go_at_call 36; (with_reducible refine (right_any s t p d _ H.out _).mono ?_); rintro e w1 ⟨rfl, hb⟩; have HB1 := As.mk (below_step HB.out hb); clear hb)
      | (go_at_call 96; (with_reducible refine (within_any v 0 1099511627776 _ H2.out _).mono ?_); rintro e w1 ⟨rfl, rfl⟩))
    go_ret2
    exact ⟨rfl, HB1.out⟩
set_option maxHeartbeats 1000000 in
set_option maxRecDepth 100000 in
theorem slot_ok (s t p d v : Nat) (h : rightB s t p d = true) (hv : v ≤ 1099511627776) (w : World) :
    Calls Try.prog 35 #[.agg #[.int .i64 (s : Int), .int .i64 (t : Int), .int .i64 (p : Int), .int .i64 (d : Int)], .int .i64 (v : Int)] w fun e w' => ∃ A c, e = .returned (.tuple #[.slice A s c, .int .i64 0]) ∧ OwnAt w' w.heap.size (.slice A s c) s ((slotB s t p d v).map (Value.int .u8)) ∧ Below w.heap.size w w' := by
  have hR := (rightB_iff _ _ _ _).1 h
  have BS := As.mk (show 64 ≤ s ∧ s ≤ 256 ∧ t ≤ 16 ∧ p ≤ 64 ∧ d ≤ 4096 by have := hR.s0; have := hR.s1; have := hR.t1; have := hR.p1; have := hR.d1; omega)
  clear hR
  have H := As.mk h
  have HV := As.mk hv
  have HWI := As.mk (show (decide ((0 : Int) ≤ (v : Int)) && decide ((v : Int) ≤ 1099511627776)) = true by simp only [Bool.and_eq_true, decide_eq_true_eq]; omega)
  have E8 := As.mk (show (8 : Int) = ((8 : Nat) : Int) from rfl)
  have E2 := As.mk (show (2 : Int) = ((2 : Nat) : Int) from rfl)
  have E4 := As.mk (show (4 : Int) = ((4 : Nat) : Int) from rfl)
  have N8 := As.mk (show 1 ≤ 8 ∧ 8 ≤ 8 by omega)
  have N2 := As.mk (show 1 ≤ 2 ∧ 2 ≤ 8 by omega)
  have N4 := As.mk (show 1 ≤ 4 ∧ 4 ≤ 8 by omega)
  have V8 := As.mk (show v ≤ 4611686018427387904 ∧ v < 256 ^ 8 by omega)
  have VS := As.mk (show s ≤ 4611686018427387904 ∧ s < 256 ^ 2 by have := BS.out; omega)
  have VT := As.mk (show t ≤ 4611686018427387904 ∧ t < 256 ^ 2 by have := BS.out; omega)
  have VP := As.mk (show p ≤ 4611686018427387904 ∧ p < 256 ^ 2 by have := BS.out; omega)
  have VD := As.mk (show d ≤ 4611686018427387904 ∧ d < 256 ^ 4 by have := BS.out; omega)
  have HB0 := As.mk (below_alloc (Below.refl w.heap.size w) (.cells #[.int .i64 (s : Int), .int .i64 (t : Int), .int .i64 (p : Int), .int .i64 (d : Int)] 53))
  have HG0 := As.mk (heap_alloc_new w (.cells #[.int .i64 (s : Int), .int .i64 (t : Int), .int .i64 (p : Int), .int .i64 (d : Int)] 53))
  clear h hv
  go_enter Try.func35, Try.ntmps35
  go_wp2_with (first
    | (go_at_call 36; (with_reducible refine (right_any s t p d _ H.out _).mono ?_); rintro e w1 ⟨rfl, hb⟩; have HB1 := As.mk (below_step HB0.out hb); have HG1 := As.mk ((hb.block w.heap.size (by simp)).trans HG0.out); have HS1 := As.mk (show w.heap.size < w1.heap.size by have := hb.size; simp at this; omega); clear hb)
    | (go_at_call 96; (with_reducible refine (within_any v 0 1099511627776 _ HWI.out _).mono ?_); rintro e w2 ⟨rfl, rfl⟩; refine As.out ?_))
  refine As.mk ?_
  have HW2 := As.mk (Wr.new w1)
  have HBW := As.mk (below_alloc (Below.refl w1.heap.size w1) (.cells #[.int .i64 0, .slice none 0 0] 146))
  have HX2 := As.mk (show (w1.alloc (.cells #[.int .i64 0, .slice none 0 0] 146)).heap.size = w1.heap.size + 1 by simp)
  go_wp2_with (first
    | (go_at_call 98; (with_reducible refine (mark_any _).mono ?_); rintro e w2 ⟨A2, c2, rfl, hrd, hb⟩; have HB2 := As.mk (below_step HBW.out hb); have HRM := As.mk hrd; have HW3 := As.mk (HW2.out.below hb); clear hb hrd)
    | (go_at_call 97; (with_reducible refine (fixed_any w1.heap.size w2 none 0 0 [] HW3.out A2 4 c2 mark HRM.out (by decide)).mono ?_); rintro e w3 ⟨rfl, hr⟩; have HR := As.mk hr; clear hr; refine As.out ?_))
  refine As.mk ?_
  have hb3 := put_below HR.out HW3.out
  have HB3 := As.mk (HB2.out.trans hb3)
  obtain ⟨A3, c3, hw3, -⟩ := HR.out
  have HW4 : As (Wr w1.heap.size w3 0 A3 4 c3 mark) := ⟨hw3⟩
  clear hb3 hw3 HR HB2 HW3 HW2 HRM HX2 HBW
  have HG3 := As.mk ((HB3.out.block w.heap.size HS1.out).trans HG1.out)
  go_wp2_with (first
    | (go_at_call 99; (with_reducible refine (number_anyI w1.heap.size w3 A3 4 c3 _ HW4.out v 8 8 E8.out N8.out V8.out.1 V8.out.2 (by decide)).mono ?_); rintro e w4 ⟨rfl, hr⟩; have HR := As.mk hr; clear hr; refine As.out ?_))
  refine As.mk ?_
  have hb := put_below HR.out HW4.out
  have HB4 := As.mk (HB3.out.trans hb)
  obtain ⟨A4, c4, hw, -⟩ := HR.out
  have HW5 : As (Wr w1.heap.size w4 0 A4 12 c4 (mark ++ beB 8 v)) := ⟨hw⟩
  clear hb hw HR HB3 HW4 HG3
  have HG4 := As.mk ((HB4.out.block w.heap.size HS1.out).trans HG1.out)
  have cc := cell_of_row _ _ 0 _ _ _ HG4.out
  go_wp2_with (first
    | (go_at_call 99; (with_reducible refine (number_anyI w1.heap.size w4 A4 12 c4 _ HW5.out s 2 2 E2.out N2.out VS.out.1 VS.out.2 (by decide)).mono ?_); rintro e w5 ⟨rfl, hr⟩; have HR := As.mk hr; clear hr; refine As.out ?_))
  refine As.mk ?_
  have hb := put_below HR.out HW5.out
  have HB5 := As.mk (HB4.out.trans hb)
  obtain ⟨A5, c5, hw, -⟩ := HR.out
  have HW6 : As (Wr w1.heap.size w5 0 A5 14 c5 (mark ++ beB 8 v ++ beB 2 s)) := ⟨hw⟩
  clear hb hw HR HB4 HW5 cc HG4
  have HG5 := As.mk ((HB5.out.block w.heap.size HS1.out).trans HG1.out)
  have cc := cell_of_row _ _ 1 _ _ _ HG5.out
  go_wp2_with (first
    | (go_at_call 99; (with_reducible refine (number_anyI w1.heap.size w5 A5 14 c5 _ HW6.out t 2 2 E2.out N2.out VT.out.1 VT.out.2 (by decide)).mono ?_); rintro e w6 ⟨rfl, hr⟩; have HR := As.mk hr; clear hr; refine As.out ?_))
  refine As.mk ?_
  have hb := put_below HR.out HW6.out
  have HB6 := As.mk (HB5.out.trans hb)
  obtain ⟨A6, c6, hw, -⟩ := HR.out
  have HW7 : As (Wr w1.heap.size w6 0 A6 16 c6 (mark ++ beB 8 v ++ beB 2 s ++ beB 2 t)) := ⟨hw⟩
  clear hb hw HR HB5 HW6 cc HG5
  have HG6 := As.mk ((HB6.out.block w.heap.size HS1.out).trans HG1.out)
  have cc := cell_of_row _ _ 2 _ _ _ HG6.out
  go_wp2_with (first
    | (go_at_call 99; (with_reducible refine (number_anyI w1.heap.size w6 A6 16 c6 _ HW7.out p 2 2 E2.out N2.out VP.out.1 VP.out.2 (by decide)).mono ?_); rintro e w7 ⟨rfl, hr⟩; have HR := As.mk hr; clear hr; refine As.out ?_))
  refine As.mk ?_
  have hb := put_below HR.out HW7.out
  have HB7 := As.mk (HB6.out.trans hb)
  obtain ⟨A7, c7, hw, -⟩ := HR.out
  have HW8 : As (Wr w1.heap.size w7 0 A7 18 c7 (mark ++ beB 8 v ++ beB 2 s ++ beB 2 t ++ beB 2 p)) := ⟨hw⟩
  clear hb hw HR HB6 HW7 cc HG6
  have HG7 := As.mk ((HB7.out.block w.heap.size HS1.out).trans HG1.out)
  have cc := cell_of_row _ _ 3 _ _ _ HG7.out
  go_wp2_with (first
    | (go_at_call 99; (with_reducible refine (number_anyI w1.heap.size w7 A7 18 c7 _ HW8.out d 4 4 E4.out N4.out VD.out.1 VD.out.2 (by decide)).mono ?_); rintro e w8 ⟨rfl, hr⟩; have HR := As.mk hr; clear hr; refine As.out ?_))
  refine As.mk ?_
  have hb := put_below HR.out HW8.out
  have HB8 := As.mk (HB7.out.trans hb)
  obtain ⟨A8, c8, hw, -⟩ := HR.out
  have HW9 : As (Wr w1.heap.size w8 0 A8 22 c8 (mark ++ beB 8 v ++ beB 2 s ++ beB 2 t ++ beB 2 p ++ beB 4 d)) := ⟨hw⟩
  clear hb hw HR HB7 HW8 cc HG7
  have HFR : As (Wr w1.heap.size w8 0 A8 22 c8 (frontB s t p d v)) := ⟨HW9.out⟩
  obtain ⟨F, hF⟩ : ∃ F, frontB s t p d v = F := ⟨_, rfl⟩
  rw [hF] at HFR
  obtain ⟨S, hS⟩ : ∃ S, sumB F = S := ⟨_, rfl⟩
  have HFF := As.mk hF
  have HSS := As.mk hS
  have HSV := As.mk hS
  have HFB := As.mk (show Byte F by rw [← hF]; exact frontB_byte _ _ _ _ _)
  have HFL := As.mk (show F.length = 22 by rw [← hF]; exact frontB_len _ _ _ _ _)
  have HSL := As.mk (show S.length = 32 by rw [← hS]; exact sumB_len _)
  have VS := As.mk (show (S.map (Value.int .u8)).toArray.size = 32 by rw [List.size_toArray, List.length_map]; exact HSL.out)
  clear hF hS HW9
  go_wp2_with (first
    | (go_at_call 100; (with_reducible refine (out_any w1.heap.size w8 A8 22 c8 F HFR.out (by decide)).mono ?_); rintro e w9 ⟨A9, c9, rfl, ho, hb⟩; have HO9 := As.mk ho; have HB9 := As.mk hb; obtain ⟨A9', c9', e9, hrd⟩ := ho.rd; cases e9; have HRD9 := As.mk hrd; clear ho hb hrd)
    | (go_at_call 101; (with_reducible refine (sum_oneS F S HSS.out HFB.out A9 22 c9 32 w9 (by decide) HRD9.out).mono ?_); rintro e w10 ⟨rfl, hb⟩; have HB10 := As.mk hb; clear hb)
    | (refine wpList_allocArr rfl 102 rfl Z32 z32 ?_)
    | (refine wpList_storeNew rfl rfl 102 _ _ rfl rfl (S.map (Value.int .u8)).toArray rfl 102 Z32 (by rw [VS.out]; kernel_rfl) (by rw [VS.out]; kernel_rfl) (bytesA_one S) ?_; refine As.out ?_))
  refine As.mk ?_
  have HB11 : As (Below w8.heap.size w8 (w10.alloc (.cells (S.map (Value.int .u8)).toArray 102))) := ⟨below_alloc (below_step HB9.out HB10.out) _⟩
  have HRS : As (Rd .u8 (w10.alloc (.cells (S.map (Value.int .u8)).toArray 102)) (some ⟨w10.heap.size, 0, none⟩) 32 32 S) := ⟨by have := Rd.lit w10 .u8 102 S (by rw [HSL.out]; decide); rw [HSL.out] at this; exact this⟩
  have HO11 := As.mk (HO9.out.below (below_alloc HB10.out (.cells (S.map (Value.int .u8)).toArray 102)))
  have HG11 := As.mk ((HB11.out.block w.heap.size (by have := HB8.out.size; have := HS1.out; omega)).trans ((HB8.out.block w.heap.size HS1.out).trans HG1.out))
  have HBB : As (Below w.heap.size w w8) := ⟨below_step HB1.out HB8.out⟩
  clear HB9 HB10 HO9 HRD9 HFR HB8 VS HG1 HB0 HG0
  generalize w10.alloc _ = w11 at *
  generalize w10.heap.size = b10 at *
  have c0 := cell_of_row _ _ 0 _ _ _ HG11.out
  have bs := BS.out.1
  have bs2 := BS.out.2.1
  obtain ⟨ti, hi, hz, h1, h2⟩ := info_parts CloneB.info
  go_wp2_with (refine wpList_make_row _ rfl _ _ 32 rfl 5 ti (.int .u8 0) Try.underlying32 hi hz h1 rfl .i64 .i64 s rfl rfl (by rw [h2]; omega) (by omega) ?_; refine As.out ?_)
  refine As.mk ?_
  clear hi hz h1 h2 ti c0 HG11
  have HM : As ((w11.alloc (.cells (madeCells #[.int .u8 0] s) 5)).heap[w11.heap.size]? = some (.cells ((List.replicate s (0 : Int)).map (Value.int .u8)).toArray 5 (0, 0))) := ⟨by
    rw [made_zero]; exact heap_alloc_new w11 _⟩
  have HO12 := As.mk (HO11.out.below (below_alloc (Below.refl w11.heap.size w11) (.cells (madeCells #[.int .u8 0] s) 5)))
  have HRS2 := As.mk (Src.rd (HRS.out.below (below_alloc (Below.refl w11.heap.size w11) (.cells (madeCells #[.int .u8 0] s) 5))))
  have HB12 := As.mk (below_alloc (HB11.out) (.cells (madeCells #[.int .u8 0] s) 5))
  have HZ12 := As.mk (show w11.heap.size < (w11.alloc (.cells (madeCells #[.int .u8 0] s) 5)).heap.size by simp)
  have HZ8 := As.mk HB11.out.size
  have HNE := As.mk (HO11.out.lt)
  clear HO11 HRS HB11
  generalize w11.alloc _ = w12 at *
  generalize w11.heap.size = o11 at *
  go_wp2_with (at_builtin; refine wpList_app2 rfl (.tmp 46) (.tmp 47) 32 rfl w8.heap.size 5 (.int .u8 0) 1 Try.underlying32 CloneB.info rfl _ 22 _ rfl HO12.out _ 32 _ rfl HRS2.out (by decide) (by decide) HB12.out.size HB12.out (Nat.le_refl _) ?_; intro va wa hown hg hat hb; obtain ⟨Aa, ca, rfl⟩ := hown.slice; have HOa := As.mk hown; have HGa := As.mk hg; have HAa := As.mk hat; have HBa := As.mk hb; clear hown hg hat hb; refine As.out ?_)
  refine As.mk ?_
  have HMa := As.mk ((HGa.out.block o11 HZ12.out (fun e => by have := (HNE.out o11 e.symm).2; omega)).trans HM.out)
  have hoa := HOa.out
  rw [← List.map_append] at hoa
  obtain ⟨Aa', ca', ea, hra⟩ := hoa.rd
  cases ea
  have HRA := As.mk hra
  have HBF := As.mk (below_step HBB.out HBa.out)
  have HFS := As.mk (show (F ++ S).length = 54 by rw [List.length_append, HFL.out, HSL.out])
  have HOG : As (w.heap.size ≤ o11) := ⟨by have := HZ8.out; have := HBB.out.size; omega⟩
  clear hoa hra HOa HGa HAa HBa HM HZ12 HNE HRS2 HO12 HB12 HZ8 HBB
  go_wp2_with (refine wpList_copy_splice rfl _ _ 32 32 rfl 5 Try.underlying32 info8' _ _ s s (22 + 32) ca rfl rfl o11 0 ((List.replicate s (0 : Int)).map (Value.int .u8)) 5 HMa.out ((F ++ S).map (Value.int .u8)) (by rw [List.length_map, HFS.out]; exact (Nat.min_eq_left (by omega)).symm) (fun h => ⟨rfl, rd_src HRA.out h⟩) (by rw [List.length_map, List.length_map, List.length_replicate, HFS.out]; omega) (ints_oneCell .u8 _) w.heap.size w HBF.out HOG.out ?_; intro w4 hc4 hb4; have HC4 := As.mk hc4; have HB4 := As.mk hb4; clear hc4 hb4)
  go_ret2
  refine ⟨_, _, rfl, ?_, HB4.out⟩
  have hc : w4.heap[o11]? = some (.cells (splice ((List.replicate s (0 : Int)).map (Value.int .u8)) 0 ((F ++ S).map (Value.int .u8))).toArray 5 (0, 0)) := HC4.out
  rw [← HSV.out, ← HFF.out, slot_splice s t p d v (by omega)] at hc
  exact own_block' hc (slotB_len s t p d v (by omega)) HOG.out (by unfold maxLen; omega)
end Go.Proofs.Ytjcofbjfolaoiaa.SlotP
namespace Go.Proofs.Ytjcofbjfolaoiaa.RefPutN
set_option linter.unusedVariables false
set_option linter.unusedSimpArgs false
open Go Go.RowKit Go.Proofs.Ytjcofbjfolaoiaa.Mem Go.Proofs.Ytjcofbjfolaoiaa.Put32 Go.Proofs.Ytjcofbjfolaoiaa.Pad Go.Proofs.Ytjcofbjfolaoiaa.Put Go.Proofs.Ytjcofbjfolaoiaa.Geo

theorem infoI : (Try.prog.info? 3).map (fun i => (i.zero, i.size, i.bytes)) = some (some (.int .i64 0), 1, 8) := by kernel_rfl
theorem take_snoc (L : List Int) (k : IntKind) (i : Nat) (h : i < L.length) : (L.take (i + 1)).map (Value.int k) = (L.take i).map (Value.int k) ++ [.int k (nth L i)] := by
  rw [List.take_succ_eq_append_getElem h, List.map_append, nth_getD, List.getD_eq_getElem?_getD, List.getElem?_eq_getElem h]
  rfl
/-- a number's bytes, the lowest first -/
def lowB (size n : Nat) : List Int := (List.range size).map fun j => ((n / 256 ^ j % 256 : Nat) : Int)
theorem lowB_len (size n : Nat) : (lowB size n).length = size := by simp [lowB]
theorem lowB_at (size n j : Nat) (h : j < size) : nth (lowB size n) j = ((n / 256 ^ j % 256 : Nat) : Int) := by
  simp [lowB, nth, List.getD_eq_getElem?_getD, h]
theorem beB_nth (size n j : Nat) (h : j < size) : nth (beB size n) j = ((n / 256 ^ (size - 1 - j) % 256 : Nat) : Int) := by
  simp [nth, List.getD_eq_getElem?_getD, beB_at size n j h]
set_option maxHeartbeats 1000000 in
set_option maxRecDepth 100000 in
theorem putR_ok (size n : Nat) (hs : 1 ≤ size ∧ size ≤ 8) (hn : n ≤ 4611686018427387904) (hf : n < 256 ^ size) (w : World) :
    Calls Try.prog 118 #[.int .i64 (n : Int), .int .i64 (size : Int)] w fun e w' => ∃ A c, e = .returned (.tuple #[.slice A size c, .int .i64 0]) ∧ Below w.heap.size w w' ∧ OwnAt w' w.heap.size (.slice A size c) size ((beB size n).map (Value.int .u8)) := by
  have HS := As.mk hs
  have HN := As.mk hn
  have HF := As.mk hf
  have d0 : decide ((size : Int) < 1) = false := decide_eq_false (by omega)
  have d1 : decide (8 < (size : Int)) = false := decide_eq_false (by omega)
  have d2 : decide ((n : Int) < 0) = false := decide_eq_false (by omega)
  have d3 : decide (4611686018427387904 < (n : Int)) = false := decide_eq_false (by omega)
  have d1' : decide (8 < size) = false := decide_eq_false (by omega)
  have d0' : decide (size < 1) = false := decide_eq_false (by omega)
  have d3' : decide (4611686018427387904 < n) = false := decide_eq_false (by omega)
  clear hs hn hf
  go_enter Try.func118, Try.ntmps118
  go_wp2
  clear d0 d1 d2 d3 d1' d0' d3'
  go_loopg [0, 6, 7] size (fun kq v0 v6 v7 wr => ∃ (i m : Nat) (A : Option Addr) (c : Nat), i + kq = size ∧ m = n / 256 ^ i ∧ v0 = .int .i64 (m : Int) ∧ v6 = .slice A i c ∧ v7 = .int .i64 i ∧ As (OwnAt wr w.heap.size (.slice A i c) i (((lowB size n).take i).map (Value.int .i64))) ∧ As (Below w.heap.size w wr))
  case atStart => exact ⟨0, n, none, 0, by omega, by simp, rfl, rfl, rfl, ⟨OwnAt.nil _ _⟩, ⟨Below.refl _ _⟩⟩
  case round =>
    obtain ⟨i, m, A, c, hi, hm, rfl, rfl, rfl, HO, HB⟩ := hrel
    have HI := As.mk hi
    have HM := As.mk hm
    have hmn : m ≤ n := by rw [hm]; exact Nat.div_le_self _ _
    have HMN := As.mk (show m ≤ 4611686018427387904 from Nat.le_trans hmn HN.out)
    clear hi hm hmn
    by_cases hlt : i < size
    · have e0 : decide ((i : Int) < (size : Int)) = true := decide_eq_true (by omega)
      have e1 : decide (i < size) = true := decide_eq_true hlt
      have hw : wrap64 ((i : Int) + 1) = ((i + 1 : Nat) : Int) := wrap_up (by have := HS.out; omega)
      obtain ⟨b, hb⟩ : ∃ b : Nat, b = m % 256 := ⟨_, rfl⟩
      obtain ⟨q, hq⟩ : ∃ q : Nat, q = m / 256 := ⟨_, rfl⟩
      have t0 : (m : Int).tmod 256 = (b : Int) := by rw [hb, Int.ofNat_tmod]; rfl
      have t1 : (m : Int).tdiv 256 = (q : Int) := by rw [hq, Int.ofNat_tdiv]; rfl
      have t2 : (m : Int) % 256 = (b : Int) := by omega
      have t3 : (m : Int) / 256 = (q : Int) := by omega
      have k0 : wrap64 (b : Int) = (b : Int) := wn _ rfl (by omega)
      have k1 : wrap64 (q : Int) = (q : Int) := by
        have := HMN.out
        exact (show wrap64 (q : Int) = (q : Int) by unfold wrap64; omega)
      have HLT := As.mk hlt
      have HBB := As.mk hb
      have HQ := As.mk hq
      clear hlt hb hq
      go_wp2_with (at_builtin; refine wpList_app_one rfl (.tmp 29) (.tmp 32) 38 rfl w.heap.size 3 (.int .i64 0) 8 Try.underlying38 infoI rfl _ i _ rfl HO.out _ _ rfl rfl ?c1 ?c2 HB.out.size HB.out (Nat.le_refl _) ?_; (case c1 => have := HS.out; have := HLT.out; unfold maxLen; omega); (case c2 => have := HS.out; have := HLT.out; omega); intro A1 c1 w3 hown hg hat hb; have HO1 := As.mk hown; have HB3 := As.mk hb; clear hown hg hat hb)
      go_roundg (size - (i + 1))
      case measure => have := HI.out; have := HLT.out; omega
      case rel =>
        refine ⟨i + 1, q, A1, c1, by have := HI.out; have := HLT.out; omega, ?_, by rw [k1], rfl, by go_num, ⟨?_⟩, HB3⟩
        · rw [HQ.out, HM.out, Nat.pow_succ, Nat.div_div_eq_div_mul]
        · rw [take_snoc _ _ i (by rw [lowB_len]; exact HLT.out), lowB_at _ _ _ HLT.out, ← HM.out, ← HBB.out]
          exact HO1.out
    · have e0 : decide ((i : Int) < (size : Int)) = false := decide_eq_false (by omega)
      have e1 : decide (i < size) = false := decide_eq_false hlt
      obtain rfl : i = size := by have := HI.out; omega
      have hm0 : m = 0 := by rw [HM.out]; exact Nat.div_eq_of_lt HF.out
      subst hm0
      have hO := HO.out
      rw [List.take_of_length_le (by rw [lowB_len]; exact Nat.le_refl _)] at hO
      obtain ⟨A', c', e', hrd⟩ := hO.rd
      cases e'
      have HRD := As.mk hrd
      have HI1 := As.mk HS.out.1
      have z1 : wrap64 ((i : Int) - 1) = (i : Int) - 1 := Geo.wr _ (by have := HS.out; omega)
      have Z1 := As.mk z1
      clear hO hrd HO hlt HM HI
      go_wp2
      clear z1 e0 e1
      obtain ⟨w1, rfl⟩ : ∃ w1 : World, w1 = wr := ⟨_, rfl⟩
      go_loopg [8, 9] (i + 1) (fun kq v8 v9 wr => ∃ (k : Nat) (y : Int) (A3 : Option Addr) (c3 : Nat), k + kq = i + 1 ∧ k ≤ i ∧ y = (i : Int) - 1 - (k : Int) ∧ v8 = .slice A3 k c3 ∧ v9 = .int .i64 y ∧ As (OwnAt wr w1.heap.size (.slice A3 k c3) k (((beB i n).take k).map (Value.int .u8))) ∧ As (Below w1.heap.size w1 wr))
      case atStart => exact ⟨0, (i : Int) - 1, none, 0, by omega, by omega, by omega, rfl, by rw [Z1.out], ⟨OwnAt.nil _ _⟩, ⟨Below.refl _ _⟩⟩
      case round =>
        obtain ⟨k, y, A3, c3, hk, hki, hy, rfl, rfl, HO3, HB3⟩ := hrel
        have HK := As.mk hk
        have HKI := As.mk hki
        have HY := As.mk hy
        clear hk
        by_cases hlt : k < i
        · have e0 : decide (0 ≤ y) = true := decide_eq_true (by omega)
          obtain ⟨j, hj⟩ : ∃ j : Nat, j = i - 1 - k := ⟨_, rfl⟩
          obtain rfl : y = (j : Int) := by omega
          have hji : j < i := by omega
          have hj2 : j < i ∧ (j : Int) < (i : Int) := by omega
          have hj3 : (j : Int) < (i : Int) := by omega
          obtain ⟨ad, hA, hcell0⟩ := HRD.out.at j hji
          subst hA
          have hcell := (HB3.out.cell (World.block_lt_of_cell? _ _ hcell0)).trans hcell0
          obtain ⟨b, hb⟩ : ∃ b : Nat, b = n / 256 ^ j % 256 := ⟨_, rfl⟩
          have hb2 : b < 256 := by rw [hb]; exact Nat.mod_lt _ (by decide)
          rw [lowB_at _ _ _ hji, ← hb] at hcell
          have k2 : IntKind.u8.wrap (b : Int) = (b : Int) := Go.Proofs.Ytjcofbjfolaoiaa.Bits.wrap_u .u8 rfl b (by show b < 256; exact hb2)
          have z1 : wrap64 ((j : Int) - 1) = (j : Int) - 1 := Geo.wr _ (by have := HS.out; omega)
          have HBB := As.mk hb
          have HJ := As.mk hj
          have HLT := As.mk hlt
          clear hb hj hcell0 hy hki
          go_wp2_with (at_builtin; refine wpList_app_one rfl (.tmp 44) (.tmp 50) 32 rfl w1.heap.size 5 (.int .u8 0) 1 Try.underlying32 CloneB.info rfl _ k _ rfl HO3.out _ _ rfl rfl ?c1 ?c2 HB3.out.size HB3.out (Nat.le_refl _) ?_; (case c1 => have := HS.out; have := HLT.out; unfold maxLen; omega); (case c2 => have := HS.out; have := HLT.out; omega); intro A4 c4 w4 hown hg hat hb; have HO4 := As.mk hown; have HB4 := As.mk hb; clear hown hg hat hb)
          go_roundg (i + 1 - (k + 1))
          case measure => have := HK.out; have := HLT.out; omega
          case rel =>
            refine ⟨k + 1, (j : Int) - 1, A4, c4, by have := HK.out; have := HLT.out; omega, HLT.out, by have := HJ.out; have := HLT.out; omega, rfl, by rw [z1], ⟨?_⟩, HB4⟩
            rw [take_snoc _ _ k (by rw [beB_len]; exact HLT.out), beB_nth _ _ _ HLT.out, show i - 1 - k = j from HJ.out.symm, ← HBB.out]
            exact HO4.out
        · obtain rfl : k = i := by have := HKI.out; omega
          obtain rfl : y = -1 := by omega
          have e0 : decide ((0 : Int) ≤ -1) = false := by decide
          have hO := HO3.out
          rw [List.take_of_length_le (by rw [beB_len]; exact Nat.le_refl _)] at hO
          have HOF := As.mk hO
          have HBF := As.mk (below_step HB.out HB3.out)
          clear hO hy hki hlt
          go_wp2
          go_ret2
          exact ⟨_, _, rfl, HBF.out, HOF.out.weaken HB.out.size⟩
end Go.Proofs.Ytjcofbjfolaoiaa.RefPutN
namespace Go.Proofs.Ytjcofbjfolaoiaa.SlotP
set_option linter.unusedVariables false
set_option linter.unusedSimpArgs false
open Go Go.RowKit Go.Proofs.Ytjcofbjfolaoiaa.Mem Go.Proofs.Ytjcofbjfolaoiaa.Put32 Go.Proofs.Ytjcofbjfolaoiaa.Pad Go.Proofs.Ytjcofbjfolaoiaa.Put Go.Proofs.Ytjcofbjfolaoiaa.Sum Go.Proofs.Ytjcofbjfolaoiaa.Geo Go.Proofs.Ytjcofbjfolaoiaa.LayA Go.Proofs.Ytjcofbjfolaoiaa.RefPutN Go.Proofs.Ytjcofbjfolaoiaa.Hmac Go.Proofs.Ytjcofbjfolaoiaa.Stretch Go.Proofs.Ytjcofbjfolaoiaa.RefSum Go.Proofs.Ytjcofbjfolaoiaa.RefHmac

def szs : List Nat := [8, 2, 2, 2, 4]
def vals (s t p d v : Nat) : List Nat := [v, s, t, p, d]
def outF (s t p d v i : Nat) : List Int := mark ++ ((List.range i).map fun j => beB (szs.getD j 1) ((vals s t p d v).getD j 0)).flatten
theorem outF_all (s t p d v : Nat) : outF s t p d v 5 = frontB s t p d v := by
  unfold outF frontB
  simp [List.range_succ, szs, vals]
theorem outF_succ (s t p d v i : Nat) : outF s t p d v (i + 1) = outF s t p d v i ++ beB (szs.getD i 1) ((vals s t p d v).getD i 0) := by
  unfold outF
  rw [List.range_succ, List.map_append, List.flatten_append, List.append_assoc]
  simp
theorem szs_at (i : Nat) : 1 ≤ szs.getD i 1 ∧ szs.getD i 1 ≤ 8 := by
  rcases i with _ | _ | _ | _ | _ | i <;> simp [szs]
theorem vals_at (s t p d v i : Nat) (hs : s ≤ 256) (ht : t ≤ 16) (hp : p ≤ 64) (hd : d ≤ 4096) (hv : v ≤ 1099511627776) (hi : i < 5) : (vals s t p d v).getD i 0 ≤ 4611686018427387904 ∧ (vals s t p d v).getD i 0 < 256 ^ szs.getD i 1 := by
  rcases i with _ | _ | _ | _ | _ | i <;> simp [szs, vals] <;> omega
def szC : Array Value := #[.int .i64 8, .int .i64 2, .int .i64 2, .int .i64 2, .int .i64 4]
def valC (s t p d v : Nat) : Array Value := #[.int .i64 (v : Int), .int .i64 (s : Int), .int .i64 (t : Int), .int .i64 (p : Int), .int .i64 (d : Int)]
theorem szC_at (i : Nat) (hi : i < 5) : szC[i]? = some (.int .i64 ((szs.getD i 1 : Nat) : Int)) := by
  rcases i with _ | _ | _ | _ | _ | i <;> first | rfl | omega
theorem valC_at (s t p d v i : Nat) (hi : i < 5) : (valC s t p d v)[i]? = some (.int .i64 (((vals s t p d v).getD i 0 : Nat) : Int)) := by
  rcases i with _ | _ | _ | _ | _ | i <;> first | rfl | omega
set_option maxHeartbeats 1000000 in
set_option maxRecDepth 100000 in
theorem front_any (s t p d v : Nat) (hs : s ≤ 256) (ht : t ≤ 16) (hp : p ≤ 64) (hd : d ≤ 4096) (hv : v ≤ 1099511627776) (w : World) :
    Calls Try.prog 102 #[.agg #[.int .i64 (s : Int), .int .i64 (t : Int), .int .i64 (p : Int), .int .i64 (d : Int)], .int .i64 (v : Int)] w fun e w' => ∃ A c, e = .returned (.slice A 22 c) ∧ Below w.heap.size w w' ∧ OwnAt w' w.heap.size (.slice A 22 c) 22 ((frontB s t p d v).map (Value.int .u8)) := by
  have HBD := As.mk (And.intro hs (And.intro ht (And.intro hp (And.intro hd hv))))
  clear hs ht hp hd hv
  obtain ⟨w1, h1⟩ : ∃ w1, w1 = w.alloc (.cells #[.int .i64 (s : Int), .int .i64 (t : Int), .int .i64 (p : Int), .int .i64 (d : Int)] 53) := ⟨_, rfl⟩
  obtain ⟨w2, h2⟩ : ∃ w2, w2 = w1.alloc (.cells #[.int .u8 67, .int .u8 72, .int .u8 65, .int .u8 84] 5) := ⟨_, rfl⟩
  obtain ⟨w3, h3⟩ : ∃ w3, w3 = w2.alloc (.cells szC 3) := ⟨_, rfl⟩
  obtain ⟨w4, h4⟩ : ∃ w4, w4 = w3.alloc (.cells (valC s t p d v) 3) := ⟨_, rfl⟩
  have z1 : w1.heap.size = w.heap.size + 1 := by rw [h1]; simp
  have z2 : w2.heap.size = w.heap.size + 2 := by rw [h2]; simp [z1]
  have z3 : w3.heap.size = w.heap.size + 3 := by rw [h3]; simp [z2]
  have z4 : w4.heap.size = w.heap.size + 4 := by rw [h4]; simp [z3]
  have HO : As (OwnAt w4 w.heap.size (.slice (some ⟨w.heap.size + 1, 0, none⟩) 4 4) 4 ((outF s t p d v 0).map (Value.int .u8))) := ⟨by
    have a : OwnAt w2 w1.heap.size (.slice (some ⟨w1.heap.size, 0, none⟩) 4 4) 4 (mark.map (Value.int .u8)) := by rw [h2]; exact OwnAt.lit w1 5 (mark.map (Value.int .u8)) (by show 4 ≤ maxLen; decide)
    rw [z1] at a
    have b := (a.below (show Below w2.heap.size w2 w4 by rw [h4, h3]; exact below_alloc (below_alloc (Below.refl _ _) _) _)).weaken (show w.heap.size ≤ w.heap.size + 1 by omega)
    simpa [outF] using b⟩
  have HS2 : As (w4.heap[w.heap.size + 2]? = some (.cells szC 3 (0, 0))) := ⟨by
    rw [h4, heap_alloc_old w3 _ (show w.heap.size + 2 < w3.heap.size by omega), h3, ← z2]; exact heap_alloc_new w2 _⟩
  have HV3 : As (w4.heap[w.heap.size + 3]? = some (.cells (valC s t p d v) 3 (0, 0))) := ⟨by
    rw [h4, ← z3]; exact heap_alloc_new w3 _⟩
  have HBW : As (Below w.heap.size w w4) := ⟨by
    rw [h4, h3, h2, h1]; exact below_alloc (below_alloc (below_alloc (below_alloc (Below.refl _ _) _) _) _) _⟩
  have HW4 : As (w4 = (((w.alloc (.cells #[.int .i64 (s : Int), .int .i64 (t : Int), .int .i64 (p : Int), .int .i64 (d : Int)] 53)).alloc (.cells #[.int .u8 67, .int .u8 72, .int .u8 65, .int .u8 84] 5)).alloc (.cells #[.int .i64 8, .int .i64 2, .int .i64 2, .int .i64 2, .int .i64 4] 3)).alloc (.cells #[.int .i64 (v : Int), .int .i64 (s : Int), .int .i64 (t : Int), .int .i64 (p : Int), .int .i64 (d : Int)] 3)) := ⟨by rw [h4, h3, h2, h1]; rfl⟩
  have HZ4 := As.mk z4
  clear h1 h2 h3 h4 z1 z2 z3 z4 w1 w2 w3
  go_enter Try.func102, Try.ntmps102
  go_wp2
  rw [← HW4.out]
  go_loopg [5, 8] 5 (fun kq v5 v8 wr => ∃ (i r : Nat) (A : Option Addr) (c : Nat), i + kq = 5 ∧ r ≤ 4 + 8 * i ∧ v5 = .slice A r c ∧ v8 = .int .i64 i ∧ As (OwnAt wr w.heap.size (.slice A r c) r ((outF s t p d v i).map (Value.int .u8))) ∧ As (wr.heap[w.heap.size + 2]? = some (.cells szC 3 (0, 0))) ∧ As (wr.heap[w.heap.size + 3]? = some (.cells (valC s t p d v) 3 (0, 0))) ∧ As (∀ k, (Value.slice A r c).ownBlock = some k → k ≠ w.heap.size + 2 ∧ k ≠ w.heap.size + 3) ∧ As (Below w.heap.size w wr) ∧ As (w.heap.size + 4 ≤ wr.heap.size))
  case atStart => exact ⟨0, 4, _, 4, by omega, by omega, rfl, rfl, HO, HS2, HV3, ⟨fun k hk => by have e : some (w.heap.size + 1) = some k := hk; have := Option.some.inj e; omega⟩, HBW, ⟨by rw [HZ4.out]; exact Nat.le_refl _⟩⟩
  case round =>
    clear HO HS2 HV3 HBW HW4 HZ4
    obtain ⟨i, r, A, c, hi, hr, rfl, rfl, HO, HS, HV, HN, HB, HZ⟩ := hrel
    have HI := As.mk hi
    have HR := As.mk hr
    clear hi hr
    by_cases hlt : i < 5
    · have e0 : decide ((i : Int) < 5) = true := decide_eq_true (by omega)
      have e1 : decide (i < 5) = true := decide_eq_true hlt
      have Li : (i : Int) < 5 := by omega
      have hw : wrap64 ((i : Int) + 1) = ((i + 1 : Nat) : Int) := wrap_up (by omega)
      have hw2 : IntKind.i64.wrap ((i : Int) + 1) = ((i + 1 : Nat) : Int) := iwn _ (by omega) (by omega)
      obtain ⟨z, hz⟩ : ∃ z, szs.getD i 1 = z := ⟨_, rfl⟩
      obtain ⟨a, ha⟩ : ∃ a, (vals s t p d v).getD i 0 = a := ⟨_, rfl⟩
      have c0 : wr.cell? ⟨w.heap.size + 2, i, none⟩ = some (.int .i64 (z : Int)) := by rw [cell_of_row _ _ i _ _ _ HS.out, szC_at i hlt, hz]
      have c1 : wr.cell? ⟨w.heap.size + 3, i, none⟩ = some (.int .i64 (a : Int)) := by rw [cell_of_row _ _ i _ _ _ HV.out, valC_at _ _ _ _ _ i hlt, ha]
      have HZZ : As (1 ≤ z ∧ z ≤ 8) := ⟨by rw [← hz]; exact szs_at i⟩
      have HAA : As (a ≤ 4611686018427387904 ∧ a < 256 ^ z) := ⟨by rw [← hz, ← ha]; exact vals_at s t p d v i HBD.out.1 HBD.out.2.1 HBD.out.2.2.1 HBD.out.2.2.2.1 HBD.out.2.2.2.2 hlt⟩
      have Hz := As.mk hz
      have Ha := As.mk ha
      have HLT := As.mk hlt
      have HC := As.mk (And.intro c0 c1)
      clear hz ha hlt
      obtain ⟨wo, rfl⟩ : ∃ wo : World, wo = wr := ⟨_, rfl⟩
      go_wp2
      go_region_held2 (fun W : World => W.cell? ⟨w.heap.size + 2, i, none⟩ = some (.int .i64 (z : Int)) ∧ W.cell? ⟨w.heap.size + 3, i, none⟩ = some (.int .i64 (a : Int)))
        (first | exact HC.out | exact ⟨(HB5.out.cell (World.block_lt_of_cell? _ _ c0)).trans c0, (HB5.out.cell (World.block_lt_of_cell? _ _ c1)).trans c1⟩)
        (first | (go_at_call 118; ((with_reducible refine (putR_ok z a HZZ.out HAA.out.1 HAA.out.2 _).mono ?_); rintro e w5 ⟨A5, c5, rfl, hb, ho⟩; have HB5 := As.mk hb; have HO5 := As.mk ho; clear hb ho)))
      have HB6 : As (Below wo.heap.size wo w5) := ⟨below_undrewN (n := 1) HB5.out⟩
      have HSrc := As.mk (Src.own HO5.out (ints_oneCell .u8 _))
      have HO6 := As.mk (HO.out.below HB6.out)
      have HB7 := As.mk (below_step HB.out HB6.out)
      have HS7 := As.mk ((HB6.out.block _ (by have := HZ.out; omega)).trans HS.out)
      have HV7 := As.mk ((HB6.out.block _ (by have := HZ.out; omega)).trans HV.out)
      have HZ7 := As.mk (Nat.le_trans HZ.out HB6.out.size)
      clear HB5 HO5 c0 c1 HC HB HO HS HV HZ
      go_wp2_with (at_builtin; refine wpList_app2 rfl (.tmp 39) (.tmp 40) 32 rfl w.heap.size 5 (.int .u8 0) 1 Try.underlying32 CloneB.info rfl (.slice A r c) r _ rfl HO6.out _ z _ rfl HSrc.out ?d1 ?d2 HB7.out.size HB7.out (Nat.le_refl _) ?_; (case d1 => have := HR.out; have := HZZ.out; have := HLT.out; unfold maxLen; omega); (case d2 => have := HR.out; have := HZZ.out; have := HLT.out; omega); intro va wa hown hg hat hb; obtain ⟨Aa, ca, rfl⟩ := hown.slice; have HOa := As.mk hown; have HGa := As.mk hg; have HAa := As.mk hat; have HBa := As.mk hb; clear hown hg hat hb)
      go_roundg (5 - (i + 1))
      case measure => have := HI.out; have := HLT.out; omega
      case rel =>
        refine ⟨i + 1, r + z, Aa, ca, by have := HI.out; have := HLT.out; omega, by have := HR.out; have := HZZ.out; omega, rfl, by go_num, ⟨?_⟩, ⟨?_⟩, ⟨?_⟩, ⟨?_⟩, HBa, ⟨?_⟩⟩
        · rw [outF_succ, Hz.out, Ha.out, List.map_append]
          exact HOa.out
        · exact (HGa.out.block _ (by have := HZ7.out; omega) (fun e => (HN.out _ e.symm).1 rfl)).trans HS7.out
        · exact (HGa.out.block _ (by have := HZ7.out; omega) (fun e => (HN.out _ e.symm).2 rfl)).trans HV7.out
        · intro k hk
          rcases HAa.out with h | h
          · exact HN.out k (h ▸ hk)
          · rw [h] at hk
            have := Option.some.inj hk
            have := HZ7.out
            omega
        · exact Nat.le_trans HZ7.out HGa.out.size
    · have e0 : decide ((i : Int) < 5) = false := decide_eq_false (by omega)
      have e1 : decide (i < 5) = false := decide_eq_false hlt
      obtain rfl : i = 5 := by have := HI.out; omega
      have hO := HO.out
      rw [outF_all] at hO
      obtain rfl : r = 22 := by have := hO.1; rw [List.length_map, frontB_len] at this; exact this.symm
      have HOF := As.mk hO
      clear hO HO hlt
      go_wp2
      go_ret
      exact ⟨_, _, rfl, HB.out, HOF.out⟩
end Go.Proofs.Ytjcofbjfolaoiaa.SlotP
namespace Go.Proofs.Ytjcofbjfolaoiaa.SlotP
set_option linter.unusedVariables false
set_option linter.unusedSimpArgs false
open Go Go.RowKit Go.Proofs.Ytjcofbjfolaoiaa.Mem Go.Proofs.Ytjcofbjfolaoiaa.Put32 Go.Proofs.Ytjcofbjfolaoiaa.Pad Go.Proofs.Ytjcofbjfolaoiaa.Put Go.Proofs.Ytjcofbjfolaoiaa.Sum Go.Proofs.Ytjcofbjfolaoiaa.Geo Go.Proofs.Ytjcofbjfolaoiaa.LayA Go.Proofs.Ytjcofbjfolaoiaa.RefPutN Go.Proofs.Ytjcofbjfolaoiaa.Hmac Go.Proofs.Ytjcofbjfolaoiaa.Stretch Go.Proofs.Ytjcofbjfolaoiaa.RefSum Go.Proofs.Ytjcofbjfolaoiaa.RefHmac

theorem slot_nth (s t p d v k : Nat) (h0 : 54 ≤ k) (h1 : k < s) : nth (slotB s t p d v) k = 0 := by
  unfold slotB
  rw [nth_getD, List.getD_eq_getElem?_getD, List.getElem?_append_right (by rw [List.length_append, frontB_len, sumB_len]; exact h0), List.length_append, frontB_len, sumB_len, List.getElem?_replicate]
  rw [if_pos (by omega)]
  rfl
theorem slot_take (s t p d v : Nat) : (slotB s t p d v).take 54 = frontB s t p d v ++ sumB (frontB s t p d v) := by
  unfold slotB
  rw [List.take_append_of_le_length (by rw [List.length_append, frontB_len, sumB_len]; exact Nat.le_refl _), List.take_of_length_le (by rw [List.length_append, frontB_len, sumB_len]; exact Nat.le_refl _)]
theorem sum_refS (y S : List Int) (hS : sumB y = S) (hy : Byte y) (A : Option Addr) (n c : Nat) (w : World) (hn : n ≤ 1099511627776) (h0 : Rd .u8 w A n c y) :
    Calls Try.prog 104 #[.slice A n c] w fun e w' => e = .returned (.agg (bytesA S)) ∧ Below w.heap.size w w' := by
  have h := sum_ref y hy A n c w hn h0
  rw [show sumA y = bytesA S by rw [← hS]; rfl] at h
  exact h
set_option maxHeartbeats 1000000 in
set_option maxRecDepth 100000 in
theorem slotR_any (s t p d v : Nat) (hs : 64 ≤ s ∧ s ≤ 256) (ht : t ≤ 16) (hp : p ≤ 64) (hd : d ≤ 4096) (hv : v ≤ 1099511627776) (w : World) :
    Calls Try.prog 41 #[.agg #[.int .i64 (s : Int), .int .i64 (t : Int), .int .i64 (p : Int), .int .i64 (d : Int)], .int .i64 (v : Int)] w fun e w' => ∃ A c, e = .returned (.slice A s c) ∧ Below w.heap.size w w' ∧ OwnAt w' w.heap.size (.slice A s c) s ((slotB s t p d v).map (Value.int .u8)) := by
  have HS := As.mk hs
  have HT := As.mk ht
  have HP := As.mk hp
  have HD := As.mk hd
  have HV := As.mk hv
  obtain ⟨F, hF⟩ : ∃ F, frontB s t p d v = F := ⟨_, rfl⟩
  obtain ⟨S, hS⟩ : ∃ S, sumB F = S := ⟨_, rfl⟩
  have HFF := As.mk hF
  have HSS := As.mk hS
  have HFB := As.mk (show Byte F by rw [← hF]; exact frontB_byte _ _ _ _ _)
  have HSL := As.mk (show S.length = 32 by rw [← hS]; exact sumB_len _)
  have HTK := As.mk (show (slotB s t p d v).take 54 = F ++ S by rw [slot_take, hF, hS])
  have HB0 := As.mk (below_alloc (Below.refl w.heap.size w) (.cells #[.int .i64 (s : Int), .int .i64 (t : Int), .int .i64 (p : Int), .int .i64 (d : Int)] 53))
  have HG0 := As.mk (heap_alloc_new w (.cells #[.int .i64 (s : Int), .int .i64 (t : Int), .int .i64 (p : Int), .int .i64 (d : Int)] 53))
  have HZ0 := As.mk (show w.heap.size < (w.alloc (.cells #[.int .i64 (s : Int), .int .i64 (t : Int), .int .i64 (p : Int), .int .i64 (d : Int)] 53)).heap.size by simp)
  clear hs ht hp hd hv hF hS
  go_enter Try.func41, Try.ntmps41
  go_wp2_with (first
    | (go_at_call 102; (with_reducible refine (front_any s t p d v HS.out.2 HT.out HP.out HD.out HV.out _).mono ?_); rintro e w1 ⟨A1, c1, rfl, hb, ho⟩; refine As.out ?_))
  refine As.mk ?_
  generalize w.alloc _ = w0 at *
  rw [HFF.out] at ho
  obtain ⟨A1', c1', e1, hrd⟩ := ho.rd
  cases e1
  have HO1 := As.mk ho
  have HB1 := As.mk hb
  have HRD := As.mk hrd
  clear hb ho hrd
  go_wp2_with (first
    | (go_at_call 104; (with_reducible refine (sum_refS F S HSS.out HFB.out A1 22 c1 w1 (by decide) HRD.out).mono ?_); rintro e w2 ⟨rfl, hb⟩; have HB2 := As.mk hb; clear hb)
    | (go_at_call 103; (with_reducible refine (list_any S HSL.out w2).mono ?_); rintro e w3 ⟨A3, c3, rfl, hb, ho⟩; have HB3 := As.mk (below_step HB2.out hb); have HSrc := As.mk (Src.own ho (ints_oneCell .u8 _)); have HO3 := As.mk (HO1.out.below HB3.out); have HBW := As.mk (below_step HB1.out HB3.out); clear hb ho)
    | (at_builtin; refine wpList_app2 rfl (.tmp 9) (.tmp 12) 32 rfl w0.heap.size 5 (.int .u8 0) 1 Try.underlying32 CloneB.info rfl (.slice A1 22 c1) 22 _ rfl HO3.out _ 32 _ rfl HSrc.out (by decide) (by decide) HBW.out.size HBW.out (Nat.le_refl _) ?_; intro va wa hown hg hat hb; obtain ⟨Aa, ca, rfl⟩ := hown.slice; rw [← List.map_append, ← HTK.out] at hown; have HOa := As.mk hown; have HBa := As.mk hb; clear hown hg hat hb))
  clear HO1 HB1 HRD HB2 HB3 HSrc HO3 HBW HTK HSS HFB HSL HFF
  go_loopg [5] s (fun kq v5 wr => ∃ (k : Nat) (A : Option Addr) (c : Nat), k + kq = s + 54 ∧ 54 ≤ k ∧ k ≤ s ∧ v5 = .slice A k c ∧ As (OwnAt wr w0.heap.size (.slice A k c) k (((slotB s t p d v).take k).map (Value.int .u8))) ∧ As (Below w0.heap.size w0 wr))
  case atStart => exact ⟨54, Aa, ca, by omega, by omega, by have := HS.out; omega, rfl, HOa, HBa⟩
  case round =>
    clear HOa HBa
    obtain ⟨k, A, c, hk, h54, hks, rfl, HO, HB⟩ := hrel
    have HK := As.mk hk
    have H54 := As.mk h54
    have HKS := As.mk hks
    have hsb := HS.out.2
    have c0 : wr.cell? ⟨w.heap.size, 0, none⟩ = some (.int .i64 (s : Int)) := cell_of_row _ _ 0 _ _ _ ((HB.out.block _ HZ0.out).trans HG0.out)
    clear hk h54 hks
    by_cases hlt : k < s
    · have e0 : decide ((k : Int) < (s : Int)) = true := decide_eq_true (by omega)
      have e1 : decide (k < s) = true := decide_eq_true hlt
      have HLT := As.mk hlt
      clear hlt
      go_wp2_with (at_builtin; refine wpList_app_one rfl (.tmp 19) (.tmp 20) 32 rfl w0.heap.size 5 (.int .u8 0) 1 Try.underlying32 CloneB.info rfl _ k _ rfl HO.out _ _ rfl rfl ?c1 ?c2 HB.out.size HB.out (Nat.le_refl _) ?_; (case c1 => have := HS.out; have := HLT.out; unfold maxLen; omega); (case c2 => have := HS.out; have := HLT.out; omega); intro A4 c4 w4 hown hg hat hb; have HO4 := As.mk hown; have HB4 := As.mk hb; clear hown hg hat hb)
      go_roundg (s + 54 - (k + 1))
      case measure => have := HK.out; have := HLT.out; omega
      case rel =>
        refine ⟨k + 1, A4, c4, by have := HK.out; have := HLT.out; omega, by have := H54.out; omega, HLT.out, rfl, ⟨?_⟩, HB4⟩
        rw [take_snoc _ _ k (by rw [slotB_len _ _ _ _ _ (by have := HS.out; omega)]; exact HLT.out), slot_nth _ _ _ _ _ _ H54.out HLT.out]
        exact HO4.out
    · have e0 : decide ((k : Int) < (s : Int)) = false := decide_eq_false (by omega)
      have e1 : decide (k < s) = false := decide_eq_false hlt
      obtain rfl : k = s := by have := HKS.out; omega
      have hO := HO.out
      rw [List.take_of_length_le (by rw [slotB_len _ _ _ _ _ (by have := HS.out; omega)]; exact Nat.le_refl _)] at hO
      have HOF := As.mk hO
      clear hO HO hlt
      go_wp2
      go_ret
      exact ⟨_, _, rfl, below_step HB0.out HB.out, HOF.out.weaken HB0.out.size⟩
end Go.Proofs.Ytjcofbjfolaoiaa.SlotP
