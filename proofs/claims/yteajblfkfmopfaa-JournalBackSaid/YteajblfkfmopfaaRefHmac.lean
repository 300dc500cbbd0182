/- chatelaineref06: flip, List, Key, Tag. -/
import Derived.Test.YteajblfkfmopfaaHmacTag
import Derived.Test.YteajblfkfmopfaaSteps
import Derived.Deep.DeepCutAuto
namespace Go.Proofs.Yteajblfkfmopfaa.RefHmac
set_option linter.unusedVariables false
set_option linter.unusedSimpArgs false
open Go Go.RowKit Go.Proofs.Yteajblfkfmopfaa.Mem Go.Proofs.Yteajblfkfmopfaa.Put32 Go.Proofs.Yteajblfkfmopfaa.Pad Go.Proofs.Yteajblfkfmopfaa.Sum Go.Proofs.Yteajblfkfmopfaa.RefWith Go.Proofs.Yteajblfkfmopfaa.RefSum Go.Proofs.Yteajblfkfmopfaa.ShaAwake Go.Proofs.Yteajblfkfmopfaa.ShaSums Go.Proofs.Yteajblfkfmopfaa.ShaParts Go.Proofs.Yteajblfkfmopfaa.Stretch Go.Proofs.Yteajblfkfmopfaa.Hmac

theorem flip_any (a b p : Nat) (ha : a < 256) (hb : b < 256) (hp : a ^^^ b = p) (w : World) :
    Calls Try.prog 223 #[.int .u8 (a : Int), .int .u8 (b : Int)] w fun e w' => e = .returned (.int .u8 (p : Int)) ∧ w = w' := by
  have x1 : bits .xor .u8 (a : Int) (b : Int) = (p : Int) := by rw [← hp]; exact Go.Proofs.Yteajblfkfmopfaa.Bits.nu8_xor a b ha hb
  clear ha hb hp
  go_enter Try.func223, Try.ntmps223
  go_wp2
  go_ret
  exact ⟨rfl, rfl⟩

set_option maxHeartbeats 1000000 in
set_option maxRecDepth 100000 in
theorem list_any (x : List Int) (hx : x.length = 32) (w : World) :
    Calls Try.prog 153 #[.agg (bytesA x)] w fun e w' => ∃ A c, e = .returned (.slice A 32 c) ∧ Below w.heap.size w w' ∧ OwnAt w' w.heap.size (.slice A 32 c) 32 (x.map (Value.int .u8)) := by
  have HX := As.mk hx
  clear hx
  go_enter Try.func153, Try.ntmps153
  go_wp2_with (refine wpList_boxArr rfl 43 _ rfl (bytesA x) rfl ?_; refine As.out ?_)
  refine As.mk ?_
  have HB := As.mk (below_alloc (Below.refl w.heap.size w) (.cells (bytesA x) 43))
  have HG := As.mk (heap_alloc_new w (.cells (bytesA x) 43))
  have HS := As.mk (show w.heap.size + 1 = (w.alloc (.cells (bytesA x) 43)).heap.size by simp)
  generalize w.alloc _ = w0 at *
  go_wp2
  go_loopg [3, 4] 32 (fun kq v3 v4 wr => ∃ (i : Nat) (A : Option Addr) (c : Nat), i + kq = 32 ∧ v3 = .slice A i c ∧ v4 = .int .i64 i ∧ As (OwnAt wr w0.heap.size (.slice A i c) i ((x.take i).map (Value.int .u8))) ∧ As (Below w0.heap.size w0 wr))
  case atStart => exact ⟨0, none, 0, by omega, rfl, rfl, ⟨OwnAt.nil _ _⟩, ⟨Below.refl _ _⟩⟩
  case round =>
    obtain ⟨i, A, c, hi, rfl, rfl, HO, HB2⟩ := hrel
    have HI := As.mk hi
    clear hi
    by_cases hlt : i < 32
    · have e0 : decide ((i : Int) < 32) = true := decide_eq_true (by omega)
      have e1 : decide (i < 32) = true := decide_eq_true hlt
      have Li : (i : Int) < 32 := by omega
      have hw : wrap64 ((i : Int) + 1) = ((i + 1 : Nat) : Int) := wrap_up (by omega)
      have g0 : wr.cell? ⟨w.heap.size, i, none⟩ = some (.int .u8 (nth x i)) := by rw [cell_of_row wr _ i _ _ _ ((HB2.out.block _ (by have := HS.out; omega)).trans HG.out), bytesA_at _ _ (by rw [HX.out]; exact hlt)]
      have HLT := As.mk hlt
      clear hlt
      go_wp2_with (at_builtin; refine wpList_app_one rfl _ _ 37 rfl w0.heap.size 5 (.int .u8 0) 1 Try.underlying37 CloneB.info rfl _ i _ rfl HO.out _ _ rfl rfl ?c1 ?c2 HB2.out.size HB2.out (Nat.le_refl _) ?_; (case c1 => have := HLT.out; unfold maxLen; omega); (case c2 => have := HLT.out; omega); intro A1 c1 w1 hown hg hat hb; have HO1 := As.mk hown; have HB1 := As.mk hb; clear hown hg hat hb)
      go_roundg (32 - (i + 1))
      case measure => have := HI.out; have := HLT.out; omega
      case rel =>
        refine ⟨i + 1, A1, c1, by have := HI.out; have := HLT.out; omega, rfl, by go_num, ⟨?_⟩, HB1⟩
        have := HO1.out
        rwa [show nth x i = x[i]'(by rw [HX.out]; exact HLT.out) by rw [nth_getD, List.getD_eq_getElem?_getD, List.getElem?_eq_getElem (by rw [HX.out]; exact HLT.out)]; rfl, show ((x.take i).map (Value.int .u8)) ++ [Value.int .u8 (x[i]'(by rw [HX.out]; exact HLT.out))] = ((x.take (i + 1)).map (Value.int .u8)) by rw [List.take_succ_eq_append_getElem (by rw [HX.out]; exact HLT.out), List.map_append]; rfl] at this
    · have e0 : decide ((i : Int) < 32) = false := decide_eq_false (by omega)
      have e1 : decide (i < 32) = false := decide_eq_false hlt
      obtain rfl : i = 32 := by have := HI.out; omega
      go_wp2
      go_ret
      refine ⟨_, _, rfl, below_step HB.out HB2.out, ?_⟩
      have := HO.out
      rw [List.take_of_length_le (by rw [HX.out]; omega)] at this
      exact this.weaken (by have := HS.out; omega)
theorem take_snoc_map (L : List Int) (i : Nat) (h : i < L.length) : (L.take (i + 1)).map (Value.int .u8) = (L.take i).map (Value.int .u8) ++ [.int .u8 (nth L i)] := by
  rw [List.take_succ_eq_append_getElem h, List.map_append, nth_getD, List.getD_eq_getElem?_getD, List.getElem?_eq_getElem h]
  rfl
theorem nth_left (x y : List Int) (i : Nat) (h : i < x.length) : nth (x ++ y) i = nth x i := by
  simp [nth_getD, List.getD_eq_getElem?_getD, List.getElem?_append_left h]
theorem nth_right (x y : List Int) (i : Nat) (h : x.length ≤ i) : nth (x ++ y) i = nth y (i - x.length) := by
  simp [nth_getD, List.getD_eq_getElem?_getD, List.getElem?_append_right h]
/-- what Key pads: the key itself, or its sum -/
def keyK (key : List Int) : List Int := if 64 < key.length then sumB key else key
theorem keyK_len (key : List Int) : (keyK key).length ≤ 64 := by
  unfold keyK
  split
  · rw [sumB_len]; omega
  · omega
theorem keyK_pad (key : List Int) : padKey key = keyK key ++ List.replicate (64 - (keyK key).length) 0 := by
  unfold padKey keyK
  split
  · rw [sumB_len]
  · rfl
theorem keyK_byte (key : List Int) (h : Byte key) : Byte (keyK key) := by
  unfold keyK
  split
  · exact sumB_byte _
  · exact h
set_option maxHeartbeats 2000000 in
set_option maxRecDepth 100000 in
theorem key_any (key : List Int) (hk : Byte key) (A : Option Addr) (n c by_ : Nat) (hb : by_ < 256) (w : World) (hn : n ≤ 1099511627776) (h0 : Rd .u8 w A n c key) :
    Calls Try.prog 199 #[.slice A n c, .int .u8 (by_ : Int)] w fun e w' => ∃ A' c', e = .returned (.slice A' 64 c') ∧ Below w.heap.size w w' ∧ OwnAt w' w.heap.size (.slice A' 64 c') 64 ((flip by_ (padKey key)).map (Value.int .u8)) := by
  have HK := As.mk hk
  have HN := As.mk hn
  have H0 := As.mk h0
  have HBY := As.mk hb
  clear hk hn h0 hb
  go_enter Try.func199, Try.ntmps199
  go_upto_if 13 with (fail)
  go_cut [5] (fun s5 wx => ∃ (Ak : Option Addr) (nk ck : Nat), s5 = .slice Ak nk ck ∧ As (Rd .u8 wx Ak nk ck (keyK key)) ∧ As (Below w.heap.size w wx))
  case first =>
    by_cases hbig : 64 < n
    · have d0 : decide (64 < (n : Int)) = true := decide_eq_true (by omega)
      have d1 : decide (64 < n) = true := decide_eq_true hbig
      have HE := As.mk (show keyK key = sumB key by unfold keyK; rw [if_pos (by rw [H0.out.len]; exact hbig)])
      obtain ⟨S, hS⟩ : ∃ S, S = sumB key := ⟨_, rfl⟩
      have HSL := As.mk (show S.length = 32 by rw [hS]; exact sumB_len _)
      have VS := As.mk (show (bytesA S).size = 32 by rw [bytesA_size]; exact HSL.out)
      have HS := As.mk (show sumA key = bytesA S by rw [hS]; rfl)
      have HSS := As.mk hS
      clear hS hbig
      rw [d0]
      go_wp2_with (first
        | (go_at_call 200; (refine (RefSum.sum_ref key HK.out A n c _ HN.out H0.out).mono ?_); rintro e w1 ⟨rfl, hb⟩; rw [HS.out]; have HB1 := As.mk hb; clear hb)
        | (refine wpList_allocArr rfl 43 rfl Z32 z32 ?_)
        | (refine wpList_storeNew rfl rfl 43 _ _ rfl rfl (bytesA S) rfl 43 Z32 (by rw [VS.out]; kernel_rfl) (by rw [VS.out]; kernel_rfl) (bytesA_one S) ?_; refine As.out ?_))
      refine As.mk ?_
      have HG := As.mk (heap_alloc_new w1 (.cells (bytesA S) 43))
      have HB2 := As.mk (below_alloc HB1.out (.cells (bytesA S) 43))
      have HLT := As.mk (show w1.heap.size < (w1.alloc (.cells (bytesA S) 43)).heap.size by simp)
      generalize w1.alloc _ = w2 at *
      generalize w1.heap.size = g at *
      go_wp2
      go_loopg [5, 7] 32 (fun kq v5 v7 wr => ∃ (i : Nat) (A' : Option Addr) (c' : Nat), i + kq = 32 ∧ v5 = .slice A' i c' ∧ v7 = .int .i64 i ∧ As (OwnAt wr w2.heap.size (.slice A' i c') i ((S.take i).map (Value.int .u8))) ∧ As (Below w2.heap.size w2 wr))
      case atStart => exact ⟨0, none, 0, by omega, rfl, rfl, ⟨OwnAt.nil _ _⟩, ⟨Below.refl _ _⟩⟩
      case round =>
        obtain ⟨i, A', c', hi, rfl, rfl, HO, HB⟩ := hrel
        have HI := As.mk hi
        clear hi
        by_cases hlt : i < 32
        · have e0 : decide ((i : Int) < 32) = true := decide_eq_true (by omega)
          have e1 : decide (i < 32) = true := decide_eq_true hlt
          have Li : (i : Int) < 32 := by omega
          have hw : wrap64 ((i : Int) + 1) = ((i + 1 : Nat) : Int) := wrap_up (by omega)
          have g0 : wr.cell? ⟨g, i, none⟩ = some (.int .u8 (nth S i)) := by rw [cell_of_row wr _ i _ _ _ ((HB.out.block _ HLT.out).trans HG.out), bytesA_at _ _ (by rw [HSL.out]; exact hlt)]
          have HLI := As.mk hlt
          clear hlt
          go_wp2_with (at_builtin; refine wpList_app_one rfl (.tmp 20) (.tmp 24) 37 rfl w2.heap.size 5 (.int .u8 0) 1 Try.underlying37 CloneB.info rfl _ i _ rfl HO.out _ _ rfl rfl ?c1 ?c2 HB.out.size HB.out (Nat.le_refl _) ?_; (case c1 => have := HLI.out; unfold maxLen; omega); (case c2 => have := HLI.out; omega); intro A1 c1 w3 hown hg hat hb; have HO1 := As.mk hown; have HB3 := As.mk hb; clear hown hg hat hb)
          go_roundg (32 - (i + 1))
          case measure => have := HI.out; have := HLI.out; omega
          case rel =>
            refine ⟨i + 1, A1, c1, by have := HI.out; have := HLI.out; omega, rfl, by go_num, ⟨?_⟩, HB3⟩
            rw [take_snoc_map S i (by rw [HSL.out]; exact HLI.out)]
            exact HO1.out
        · have e0 : decide ((i : Int) < 32) = false := decide_eq_false (by omega)
          have e1 : decide (i < 32) = false := decide_eq_false hlt
          obtain rfl : i = 32 := by have := HI.out; omega
          go_wp2
          go_meet
          refine ⟨A', 32, c', rfl, ⟨?_⟩, ⟨below_step HB2.out HB.out⟩⟩
          have h := HO.out
          rw [List.take_of_length_le (by rw [HSL.out]; omega), HSS.out, ← HE.out] at h
          obtain ⟨A2, c2, e2, hr⟩ := OwnAt.rd h
          cases e2
          exact hr
    · have d0 : decide (64 < (n : Int)) = false := decide_eq_false (by omega)
      have d1 : decide (64 < n) = false := decide_eq_false hbig
      have HE := As.mk (show keyK key = key by unfold keyK; rw [if_neg (by rw [H0.out.len]; exact hbig)])
      rw [d0]
      go_wp2
      go_meet
      exact ⟨A, n, c, rfl, ⟨by rw [HE.out]; exact H0.out⟩, ⟨Below.refl _ _⟩⟩
  case rest =>
    obtain ⟨Ak, nk, ck, rfl, HR, HB⟩ := hcut
    obtain ⟨F, hF⟩ : ∃ F, F = flip by_ (padKey key) := ⟨_, rfl⟩
    have HFL := As.mk (show F.length = 64 by rw [hF, flip_len, padKey_len])
    have HF := As.mk hF
    have hnk : nk ≤ 64 := by rw [← HR.out.len]; exact keyK_len key
    clear hF
    go_wp2
    go_loopg [8, 9] 64 (fun kq v8 v9 wr => ∃ (i : Nat) (A' : Option Addr) (c' : Nat), i + kq = 64 ∧ v8 = .slice A' i c' ∧ v9 = .int .i64 i ∧ As (OwnAt wr wc.heap.size (.slice A' i c') i ((F.take i).map (Value.int .u8))) ∧ As (Below wc.heap.size wc wr))
    case atStart => exact ⟨0, none, 0, by omega, rfl, rfl, ⟨OwnAt.nil _ _⟩, ⟨Below.refl _ _⟩⟩
    case round =>
      obtain ⟨i, A', c', hi, rfl, rfl, HO, HBr⟩ := hrel
      have HI := As.mk hi
      clear hi
      by_cases hlt : i < 64
      · have e0 : decide ((i : Int) < 64) = true := decide_eq_true (by omega)
        have e1 : decide (i < 64) = true := decide_eq_true hlt
        have hw : wrap64 ((i : Int) + 1) = ((i + 1 : Nat) : Int) := wrap_up (by omega)
        have HLI := As.mk hlt
        by_cases hik : i < nk
        · have z0 : decide ((i : Int) < (nk : Int)) = true := decide_eq_true (by omega)
          obtain ⟨ad, ea, hcell⟩ := (HR.out.below HBr.out).at i hik
          obtain ⟨a, ha, a1⟩ := RefGet.byte_lt (keyK_byte key HK.out) i (by rw [HR.out.len]; exact hik)
          rw [ha] at hcell
          obtain ⟨p, hp⟩ : ∃ p : Nat, a ^^^ by_ = p := ⟨_, rfl⟩
          have HP := As.mk hp
          have HA := As.mk (show a < 256 from a1)
          have HFI := As.mk (show nth F i = (p : Int) by
            rw [HF.out, ← hp]
            refine flip_at by_ (padKey key) i (by rw [padKey_len]; exact hlt) a ?_
            rw [keyK_pad, nth_left _ _ _ (by rw [HR.out.len]; exact hik), ha])
          clear hp ha a1
          cases ea
          go_wp2_with (first
            | (go_at_call 223; (with_reducible refine (flip_any a by_ p HA.out HBY.out HP.out _).mono ?_); rintro e w' ⟨rfl, rfl⟩)
            | (at_builtin; refine wpList_app_one rfl (.tmp 34) (.tmp 41) 37 rfl wc.heap.size 5 (.int .u8 0) 1 Try.underlying37 CloneB.info rfl _ i _ rfl HO.out _ _ rfl rfl ?c3 ?c4 HBr.out.size HBr.out (Nat.le_refl _) ?_; (case c3 => have := HLI.out; unfold maxLen; omega); (case c4 => have := HLI.out; omega); intro A1 c1 w3 hown hg hat hb; have HO1 := As.mk hown; have HB3 := As.mk hb; clear hown hg hat hb))
          go_roundg (64 - (i + 1))
          case measure => have := HI.out; have := HLI.out; omega
          case rel =>
            refine ⟨i + 1, A1, c1, by have := HI.out; have := HLI.out; omega, rfl, by go_num, ⟨?_⟩, HB3⟩
            rw [take_snoc_map F i (by rw [HFL.out]; exact HLI.out), HFI.out]
            exact HO1.out
        · have z0 : decide ((i : Int) < (nk : Int)) = false := decide_eq_false (by omega)
          have z1 : decide (i < nk) = false := decide_eq_false hik
          have HFI := As.mk (show nth F i = (by_ : Int) by
            rw [HF.out]
            have h1 := flip_at by_ (padKey key) i (by rw [padKey_len]; exact hlt) 0 (by
              rw [keyK_pad, nth_right _ _ _ (by rw [HR.out.len]; omega)]
              rw [nth_getD, List.getD_eq_getElem?_getD, List.getElem?_replicate]
              split <;> rfl)
            rw [h1, Nat.zero_xor])
          go_wp2_with (at_builtin; refine wpList_app_one rfl (.tmp 43) (.tmp 45) 37 rfl wc.heap.size 5 (.int .u8 0) 1 Try.underlying37 CloneB.info rfl _ i _ rfl HO.out _ _ rfl rfl ?c5 ?c6 HBr.out.size HBr.out (Nat.le_refl _) ?_; (case c5 => have := HLI.out; unfold maxLen; omega); (case c6 => have := HLI.out; omega); intro A1 c1 w3 hown hg hat hb; have HO1 := As.mk hown; have HB3 := As.mk hb; clear hown hg hat hb)
          go_roundg (64 - (i + 1))
          case measure => have := HI.out; have := HLI.out; omega
          case rel =>
            refine ⟨i + 1, A1, c1, by have := HI.out; have := HLI.out; omega, rfl, by go_num, ⟨?_⟩, HB3⟩
            rw [take_snoc_map F i (by rw [HFL.out]; exact HLI.out), HFI.out]
            exact HO1.out
      · have e0 : decide ((i : Int) < 64) = false := decide_eq_false (by omega)
        have e1 : decide (i < 64) = false := decide_eq_false hlt
        obtain rfl : i = 64 := by have := HI.out; omega
        go_wp2
        go_ret
        refine ⟨_, _, rfl, below_step HB.out HBr.out, ?_⟩
        have h := HO.out
        rw [List.take_of_length_le (by rw [HFL.out]; omega), HF.out] at h
        exact h.weaken HB.out.size
end Go.Proofs.Yteajblfkfmopfaa.RefHmac
