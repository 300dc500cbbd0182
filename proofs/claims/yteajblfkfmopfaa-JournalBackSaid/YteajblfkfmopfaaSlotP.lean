/- A slot, in plain terms. super.Put. chatelaineref01.Put, of a number that fits. chatelaineref18.Front. chatelaineref18.Put. -/
import Derived.Test.YteajblfkfmopfaaField
import Derived.Test.YteajblfkfmopfaaLayA
import Derived.Test.YteajblfkfmopfaaHmac
import Derived.Test.YteajblfkfmopfaaPut
import Derived.Test.YteajblfkfmopfaaGeo
import Derived.Test.YteajblfkfmopfaaRefHmac
namespace Go.Proofs.Yteajblfkfmopfaa.SlotP
set_option linter.unusedVariables false
set_option linter.unusedSimpArgs false
open Go Go.RowKit Go.Proofs.Yteajblfkfmopfaa.Mem Go.Proofs.Yteajblfkfmopfaa.Put32 Go.Proofs.Yteajblfkfmopfaa.Put Go.Proofs.Yteajblfkfmopfaa.Sum Go.Proofs.Yteajblfkfmopfaa.Geo Go.Proofs.Yteajblfkfmopfaa.Stretch Go.Proofs.Yteajblfkfmopfaa.ShaParts Go.Proofs.Yteajblfkfmopfaa.Hmac Go.Proofs.Yteajblfkfmopfaa.RefSum Go.Proofs.Yteajblfkfmopfaa.ShaSums

def mark : List Int := [67, 72, 65, 84]
def frontB (s t p d v : Nat) : List Int := mark ++ beB 8 v ++ beB 2 s ++ beB 2 t ++ beB 2 p ++ beB 4 d
theorem frontB_len (s t p d v : Nat) : (frontB s t p d v).length = 22 := by
  unfold frontB
  simp [beB_len, mark]
theorem mark_byte : Byte mark := by
  intro x hx
  simp [mark] at hx
  omega
theorem byte_app {x y : List Int} (hx : Byte x) (hy : Byte y) : Byte (x ++ y) := fun v h => (List.mem_append.1 h).elim (hx v) (hy v)
theorem frontB_byte (s t p d v : Nat) : Byte (frontB s t p d v) :=
  byte_app (byte_app (byte_app (byte_app (byte_app mark_byte (beB_byte _ _)) (beB_byte _ _)) (beB_byte _ _)) (beB_byte _ _)) (beB_byte _ _)
def slotB (s t p d v : Nat) : List Int := frontB s t p d v ++ sumB (frontB s t p d v) ++ List.replicate (s - 54) 0
theorem slotB_len (s t p d v : Nat) (h : 54 ≤ s) : (slotB s t p d v).length = s := by
  unfold slotB
  rw [List.length_append, List.length_append, frontB_len, sumB_len, List.length_replicate]
  omega
theorem slotB_byte (s t p d v : Nat) : Byte (slotB s t p d v) :=
  byte_app (byte_app (frontB_byte _ _ _ _ _) (sumB_byte _)) fun y hy => by rw [List.eq_of_mem_replicate hy]; omega
/-- the front and its sum laid over noughts -/
theorem slot_splice (s t p d v : Nat) (h : 54 ≤ s) : splice ((List.replicate s (0 : Int)).map (Value.int .u8)) 0 ((frontB s t p d v ++ sumB (frontB s t p d v)).map (Value.int .u8)) = (slotB s t p d v).map (Value.int .u8) := by
  unfold splice slotB
  rw [List.length_map, List.length_append, frontB_len, sumB_len, List.take_zero, List.nil_append, ← List.map_drop, List.drop_replicate, List.map_append, List.map_append, List.map_append, Nat.zero_add]
end Go.Proofs.Yteajblfkfmopfaa.SlotP
namespace Go.Proofs.Yteajblfkfmopfaa.SlotP
set_option linter.unusedVariables false
set_option linter.unusedSimpArgs false
open Go Go.RowKit Go.Proofs.Yteajblfkfmopfaa.Mem Go.Proofs.Yteajblfkfmopfaa.Put32 Go.Proofs.Yteajblfkfmopfaa.Pad Go.Proofs.Yteajblfkfmopfaa.Put Go.Proofs.Yteajblfkfmopfaa.Sum Go.Proofs.Yteajblfkfmopfaa.Geo Go.Proofs.Yteajblfkfmopfaa.LayA Go.Proofs.Yteajblfkfmopfaa.Field Go.Proofs.Yteajblfkfmopfaa.Hmac Go.Proofs.Yteajblfkfmopfaa.RefSum Go.Proofs.Yteajblfkfmopfaa.Stretch Go.Proofs.Yteajblfkfmopfaa.ShaParts

theorem number_anyI (B : Nat) (w : World) (A : Option Addr) (n c : Nat) (x : List Int) (h : Wr B w 0 A n c x) (v size : Nat) (z : Int) (hz : z = (size : Int)) (hs : 1 ≤ size ∧ size ≤ 8) (hv : v ≤ 4611686018427387904) (hf : v < 256 ^ size) (hm : n + size ≤ 140737488355328) :
    Calls Try.prog 145 #[.pointer (some ⟨B, 0, none⟩), .int .i64 (v : Int), .int .i64 z] w fun e w' => e = .returned (.tuple #[]) ∧ Put' B w w' A n c size (x ++ beB size v) := hz ▸ number_any B w A n c x h v size hs hv hf hm
theorem put_below {B : Nat} {w w' : World} {A : Option Addr} {n c m : Nat} {x z : List Int} (h : Put' B w w' A n c m z) (hw : Wr B w 0 A n c x) : Below B w w' := by
  obtain ⟨A', c', _, hk, _⟩ := h
  exact hk.below (Nat.le_refl _) (Nat.le_of_lt hw.lt) fun k e => Nat.le_of_lt (hw.own_far k e).1
theorem info8' : (Try.prog.info? 5).map (·.size) = some 1 := by kernel_rfl
end Go.Proofs.Yteajblfkfmopfaa.SlotP
namespace Go.Proofs.Yteajblfkfmopfaa.RefPutN
set_option linter.unusedVariables false
set_option linter.unusedSimpArgs false
open Go Go.RowKit Go.Proofs.Yteajblfkfmopfaa.Mem Go.Proofs.Yteajblfkfmopfaa.Put32 Go.Proofs.Yteajblfkfmopfaa.Pad Go.Proofs.Yteajblfkfmopfaa.Put Go.Proofs.Yteajblfkfmopfaa.Geo

theorem infoI : (Try.prog.info? 3).map (fun i => (i.zero, i.size, i.bytes)) = some (some (.int .i64 0), 1, 8) := by kernel_rfl
theorem take_snoc (L : List Int) (k : IntKind) (i : Nat) (h : i < L.length) : (L.take (i + 1)).map (Value.int k) = (L.take i).map (Value.int k) ++ [.int k (nth L i)] := by
  rw [List.take_succ_eq_append_getElem h, List.map_append, nth_getD, List.getD_eq_getElem?_getD, List.getElem?_eq_getElem h]
  rfl
/-- a number's bytes, the lowest first -/
def lowB (size n : Nat) : List Int := (List.range size).map fun j => ((n / 256 ^ j % 256 : Nat) : Int)
theorem lowB_len (size n : Nat) : (lowB size n).length = size := by simp [lowB]
theorem lowB_at (size n j : Nat) (h : j < size) : nth (lowB size n) j = ((n / 256 ^ j % 256 : Nat) : Int) := by
  simp [lowB, nth, List.getD_eq_getElem?_getD, h]
theorem beB_nth (size n j : Nat) (h : j < size) : nth (beB size n) j = ((n / 256 ^ (size - 1 - j) % 256 : Nat) : Int) := by
  simp [nth, List.getD_eq_getElem?_getD, beB_at size n j h]
set_option maxHeartbeats 1000000 in
set_option maxRecDepth 100000 in
theorem putR_ok (size n : Nat) (hs : 1 ≤ size ∧ size ≤ 8) (hn : n ≤ 4611686018427387904) (hf : n < 256 ^ size) (w : World) :
    Calls Try.prog 152 #[.int .i64 (n : Int), .int .i64 (size : Int)] w fun e w' => ∃ A c, e = .returned (.tuple #[.slice A size c, .int .i64 0]) ∧ Below w.heap.size w w' ∧ OwnAt w' w.heap.size (.slice A size c) size ((beB size n).map (Value.int .u8)) := by
  have HS := As.mk hs
  have HN := As.mk hn
  have HF := As.mk hf
  have d0 : decide ((size : Int) < 1) = false := decide_eq_false (by omega)
  have d1 : decide (8 < (size : Int)) = false := decide_eq_false (by omega)
  have d2 : decide ((n : Int) < 0) = false := decide_eq_false (by omega)
  have d3 : decide (4611686018427387904 < (n : Int)) = false := decide_eq_false (by omega)
  have d1' : decide (8 < size) = false := decide_eq_false (by omega)
  have d0' : decide (size < 1) = false := decide_eq_false (by omega)
  have d3' : decide (4611686018427387904 < n) = false := decide_eq_false (by omega)
  clear hs hn hf
  go_enter Try.func152, Try.ntmps152
  go_wp2
  clear d0 d1 d2 d3 d1' d0' d3'
  go_loopg [0, 6, 7] size (fun kq v0 v6 v7 wr => ∃ (i m : Nat) (A : Option Addr) (c : Nat), i + kq = size ∧ m = n / 256 ^ i ∧ v0 = .int .i64 (m : Int) ∧ v6 = .slice A i c ∧ v7 = .int .i64 i ∧ As (OwnAt wr w.heap.size (.slice A i c) i (((lowB size n).take i).map (Value.int .i64))) ∧ As (Below w.heap.size w wr))
  case atStart => exact ⟨0, n, none, 0, by omega, by simp, rfl, rfl, rfl, ⟨OwnAt.nil _ _⟩, ⟨Below.refl _ _⟩⟩
  case round =>
    obtain ⟨i, m, A, c, hi, hm, rfl, rfl, rfl, HO, HB⟩ := hrel
    have HI := As.mk hi
    have HM := As.mk hm
    have hmn : m ≤ n := by rw [hm]; exact Nat.div_le_self _ _
    have HMN := As.mk (show m ≤ 4611686018427387904 from Nat.le_trans hmn HN.out)
    clear hi hm hmn
    by_cases hlt : i < size
    · have e0 : decide ((i : Int) < (size : Int)) = true := decide_eq_true (by omega)
      have e1 : decide (i < size) = true := decide_eq_true hlt
      have hw : wrap64 ((i : Int) + 1) = ((i + 1 : Nat) : Int) := wrap_up (by have := HS.out; omega)
      obtain ⟨b, hb⟩ : ∃ b : Nat, b = m % 256 := ⟨_, rfl⟩
      obtain ⟨q, hq⟩ : ∃ q : Nat, q = m / 256 := ⟨_, rfl⟩
      have t0 : (m : Int).tmod 256 = (b : Int) := by rw [hb, Int.ofNat_tmod]; rfl
      have t1 : (m : Int).tdiv 256 = (q : Int) := by rw [hq, Int.ofNat_tdiv]; rfl
      have t2 : (m : Int) % 256 = (b : Int) := by omega
      have t3 : (m : Int) / 256 = (q : Int) := by omega
      have k0 : wrap64 (b : Int) = (b : Int) := wn _ rfl (by omega)
      have k1 : wrap64 (q : Int) = (q : Int) := by
        have := HMN.out
        exact (show wrap64 (q : Int) = (q : Int) by unfold wrap64; omega)
      have HLT := As.mk hlt
      have HBB := As.mk hb
      have HQ := As.mk hq
      clear hlt hb hq
      go_wp2_with (at_builtin; refine wpList_app_one rfl (.tmp 29) (.tmp 32) 24 rfl w.heap.size 3 (.int .i64 0) 8 Try.underlying24 infoI rfl _ i _ rfl HO.out _ _ rfl rfl ?c1 ?c2 HB.out.size HB.out (Nat.le_refl _) ?_; (case c1 => have := HS.out; have := HLT.out; unfold maxLen; omega); (case c2 => have := HS.out; have := HLT.out; omega); intro A1 c1 w3 hown hg hat hb; have HO1 := As.mk hown; have HB3 := As.mk hb; clear hown hg hat hb)
      go_roundg (size - (i + 1))
      case measure => have := HI.out; have := HLT.out; omega
      case rel =>
        refine ⟨i + 1, q, A1, c1, by have := HI.out; have := HLT.out; omega, ?_, by rw [k1], rfl, by go_num, ⟨?_⟩, HB3⟩
        · rw [HQ.out, HM.out, Nat.pow_succ, Nat.div_div_eq_div_mul]
        · rw [take_snoc _ _ i (by rw [lowB_len]; exact HLT.out), lowB_at _ _ _ HLT.out, ← HM.out, ← HBB.out]
          exact HO1.out
    · have e0 : decide ((i : Int) < (size : Int)) = false := decide_eq_false (by omega)
      have e1 : decide (i < size) = false := decide_eq_false hlt
      obtain rfl : i = size := by have := HI.out; omega
      have hm0 : m = 0 := by rw [HM.out]; exact Nat.div_eq_of_lt HF.out
      subst hm0
      have hO := HO.out
      rw [List.take_of_length_le (by rw [lowB_len]; exact Nat.le_refl _)] at hO
      obtain ⟨A', c', e', hrd⟩ := hO.rd
      cases e'
      have HRD := As.mk hrd
      have HI1 := As.mk HS.out.1
      have z1 : wrap64 ((i : Int) - 1) = (i : Int) - 1 := Geo.wr _ (by have := HS.out; omega)
      have Z1 := As.mk z1
      clear hO hrd HO hlt HM HI
      go_wp2
      clear z1 e0 e1
      obtain ⟨w1, rfl⟩ : ∃ w1 : World, w1 = wr := ⟨_, rfl⟩
      go_loopg [8, 9] (i + 1) (fun kq v8 v9 wr => ∃ (k : Nat) (y : Int) (A3 : Option Addr) (c3 : Nat), k + kq = i + 1 ∧ k ≤ i ∧ y = (i : Int) - 1 - (k : Int) ∧ v8 = .slice A3 k c3 ∧ v9 = .int .i64 y ∧ As (OwnAt wr w1.heap.size (.slice A3 k c3) k (((beB i n).take k).map (Value.int .u8))) ∧ As (Below w1.heap.size w1 wr))
      case atStart => exact ⟨0, (i : Int) - 1, none, 0, by omega, by omega, by omega, rfl, by rw [Z1.out], ⟨OwnAt.nil _ _⟩, ⟨Below.refl _ _⟩⟩
      case round =>
        obtain ⟨k, y, A3, c3, hk, hki, hy, rfl, rfl, HO3, HB3⟩ := hrel
        have HK := As.mk hk
        have HKI := As.mk hki
        have HY := As.mk hy
        clear hk
        by_cases hlt : k < i
        · have e0 : decide (0 ≤ y) = true := decide_eq_true (by omega)
          obtain ⟨j, hj⟩ : ∃ j : Nat, j = i - 1 - k := ⟨_, rfl⟩
          obtain rfl : y = (j : Int) := by omega
          have hji : j < i := by omega
          have hj2 : j < i ∧ (j : Int) < (i : Int) := by omega
          have hj3 : (j : Int) < (i : Int) := by omega
          obtain ⟨ad, hA, hcell0⟩ := HRD.out.at j hji
          subst hA
          have hcell := (HB3.out.cell (World.block_lt_of_cell? _ _ hcell0)).trans hcell0
          obtain ⟨b, hb⟩ : ∃ b : Nat, b = n / 256 ^ j % 256 := ⟨_, rfl⟩
          have hb2 : b < 256 := by rw [hb]; exact Nat.mod_lt _ (by decide)
          rw [lowB_at _ _ _ hji, ← hb] at hcell
          have k2 : IntKind.u8.wrap (b : Int) = (b : Int) := Go.Proofs.Yteajblfkfmopfaa.Bits.wrap_u .u8 rfl b (by show b < 256; exact hb2)
          have z1 : wrap64 ((j : Int) - 1) = (j : Int) - 1 := Geo.wr _ (by have := HS.out; omega)
          have HBB := As.mk hb
          have HJ := As.mk hj
          have HLT := As.mk hlt
          clear hb hj hcell0 hy hki
          go_wp2_with (at_builtin; refine wpList_app_one rfl (.tmp 44) (.tmp 50) 37 rfl w1.heap.size 5 (.int .u8 0) 1 Try.underlying37 CloneB.info rfl _ k _ rfl HO3.out _ _ rfl rfl ?c1 ?c2 HB3.out.size HB3.out (Nat.le_refl _) ?_; (case c1 => have := HS.out; have := HLT.out; unfold maxLen; omega); (case c2 => have := HS.out; have := HLT.out; omega); intro A4 c4 w4 hown hg hat hb; have HO4 := As.mk hown; have HB4 := As.mk hb; clear hown hg hat hb)
          go_roundg (i + 1 - (k + 1))
          case measure => have := HK.out; have := HLT.out; omega
          case rel =>
            refine ⟨k + 1, (j : Int) - 1, A4, c4, by have := HK.out; have := HLT.out; omega, HLT.out, by have := HJ.out; have := HLT.out; omega, rfl, by rw [z1], ⟨?_⟩, HB4⟩
            rw [take_snoc _ _ k (by rw [beB_len]; exact HLT.out), beB_nth _ _ _ HLT.out, show i - 1 - k = j from HJ.out.symm, ← HBB.out]
            exact HO4.out
        · obtain rfl : k = i := by have := HKI.out; omega
          obtain rfl : y = -1 := by omega
          have e0 : decide ((0 : Int) ≤ -1) = false := by decide
          have hO := HO3.out
          rw [List.take_of_length_le (by rw [beB_len]; exact Nat.le_refl _)] at hO
          have HOF := As.mk hO
          have HBF := As.mk (below_step HB.out HB3.out)
          clear hO hy hki hlt
          go_wp2
          go_ret2
          exact ⟨_, _, rfl, HBF.out, HOF.out.weaken HB.out.size⟩
end Go.Proofs.Yteajblfkfmopfaa.RefPutN
namespace Go.Proofs.Yteajblfkfmopfaa.SlotP
set_option linter.unusedVariables false
set_option linter.unusedSimpArgs false
open Go Go.RowKit Go.Proofs.Yteajblfkfmopfaa.Mem Go.Proofs.Yteajblfkfmopfaa.Put32 Go.Proofs.Yteajblfkfmopfaa.Pad Go.Proofs.Yteajblfkfmopfaa.Put Go.Proofs.Yteajblfkfmopfaa.Sum Go.Proofs.Yteajblfkfmopfaa.Geo Go.Proofs.Yteajblfkfmopfaa.LayA Go.Proofs.Yteajblfkfmopfaa.RefPutN Go.Proofs.Yteajblfkfmopfaa.Hmac Go.Proofs.Yteajblfkfmopfaa.Stretch Go.Proofs.Yteajblfkfmopfaa.RefSum Go.Proofs.Yteajblfkfmopfaa.RefHmac

def szs : List Nat := [8, 2, 2, 2, 4]
def vals (s t p d v : Nat) : List Nat := [v, s, t, p, d]
def outF (s t p d v i : Nat) : List Int := mark ++ ((List.range i).map fun j => beB (szs.getD j 1) ((vals s t p d v).getD j 0)).flatten
theorem outF_all (s t p d v : Nat) : outF s t p d v 5 = frontB s t p d v := by
  unfold outF frontB
  simp [List.range_succ, szs, vals]
theorem outF_succ (s t p d v i : Nat) : outF s t p d v (i + 1) = outF s t p d v i ++ beB (szs.getD i 1) ((vals s t p d v).getD i 0) := by
  unfold outF
  rw [List.range_succ, List.map_append, List.flatten_append, List.append_assoc]
  simp
theorem szs_at (i : Nat) : 1 ≤ szs.getD i 1 ∧ szs.getD i 1 ≤ 8 := by
  rcases i with _ | _ | _ | _ | _ | i <;> simp [szs]
theorem vals_at (s t p d v i : Nat) (hs : s ≤ 256) (ht : t ≤ 16) (hp : p ≤ 64) (hd : d ≤ 4096) (hv : v ≤ 1099511627776) (hi : i < 5) : (vals s t p d v).getD i 0 ≤ 4611686018427387904 ∧ (vals s t p d v).getD i 0 < 256 ^ szs.getD i 1 := by
  rcases i with _ | _ | _ | _ | _ | i <;> simp [szs, vals] <;> omega
def szC : Array Value := #[.int .i64 8, .int .i64 2, .int .i64 2, .int .i64 2, .int .i64 4]
def valC (s t p d v : Nat) : Array Value := #[.int .i64 (v : Int), .int .i64 (s : Int), .int .i64 (t : Int), .int .i64 (p : Int), .int .i64 (d : Int)]
theorem szC_at (i : Nat) (hi : i < 5) : szC[i]? = some (.int .i64 ((szs.getD i 1 : Nat) : Int)) := by
  rcases i with _ | _ | _ | _ | _ | i <;> first | rfl | omega
theorem valC_at (s t p d v i : Nat) (hi : i < 5) : (valC s t p d v)[i]? = some (.int .i64 (((vals s t p d v).getD i 0 : Nat) : Int)) := by
  rcases i with _ | _ | _ | _ | _ | i <;> first | rfl | omega
end Go.Proofs.Yteajblfkfmopfaa.SlotP
namespace Go.Proofs.Yteajblfkfmopfaa.SlotP
set_option linter.unusedVariables false
set_option linter.unusedSimpArgs false
open Go Go.RowKit Go.Proofs.Yteajblfkfmopfaa.Mem Go.Proofs.Yteajblfkfmopfaa.Put32 Go.Proofs.Yteajblfkfmopfaa.Pad Go.Proofs.Yteajblfkfmopfaa.Put Go.Proofs.Yteajblfkfmopfaa.Sum Go.Proofs.Yteajblfkfmopfaa.Geo Go.Proofs.Yteajblfkfmopfaa.LayA Go.Proofs.Yteajblfkfmopfaa.RefPutN Go.Proofs.Yteajblfkfmopfaa.Hmac Go.Proofs.Yteajblfkfmopfaa.Stretch Go.Proofs.Yteajblfkfmopfaa.RefSum Go.Proofs.Yteajblfkfmopfaa.RefHmac

theorem slot_nth (s t p d v k : Nat) (h0 : 54 ≤ k) (h1 : k < s) : nth (slotB s t p d v) k = 0 := by
  unfold slotB
  rw [nth_getD, List.getD_eq_getElem?_getD, List.getElem?_append_right (by rw [List.length_append, frontB_len, sumB_len]; exact h0), List.length_append, frontB_len, sumB_len, List.getElem?_replicate]
  rw [if_pos (by omega)]
  rfl
theorem slot_take (s t p d v : Nat) : (slotB s t p d v).take 54 = frontB s t p d v ++ sumB (frontB s t p d v) := by
  unfold slotB
  rw [List.take_append_of_le_length (by rw [List.length_append, frontB_len, sumB_len]; exact Nat.le_refl _), List.take_of_length_le (by rw [List.length_append, frontB_len, sumB_len]; exact Nat.le_refl _)]
theorem sum_refS (y S : List Int) (hS : sumB y = S) (hy : Byte y) (A : Option Addr) (n c : Nat) (w : World) (hn : n ≤ 1099511627776) (h0 : Rd .u8 w A n c y) :
    Calls Try.prog 200 #[.slice A n c] w fun e w' => e = .returned (.agg (bytesA S)) ∧ Below w.heap.size w w' := by
  have h := sum_ref y hy A n c w hn h0
  rw [show sumA y = bytesA S by rw [← hS]; rfl] at h
  exact h
end Go.Proofs.Yteajblfkfmopfaa.SlotP
