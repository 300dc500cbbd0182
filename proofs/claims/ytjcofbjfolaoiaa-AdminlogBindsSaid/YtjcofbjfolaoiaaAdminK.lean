/- The example's head, reckoned: it is not nought. adminlog.Key, Next; chatelaineref26.Key, Next. chatelainelaw26.awake tells true. AdminlogBytes: the statement. chatelaineref26.Next. -/
import Derived.Test.YtjcofbjfolaoiaaAdminA
import Derived.Test.YtjcofbjfolaoiaaRefDerive
import Derived.Test.YtjcofbjfolaoiaaChain
import Derived.Test.YtjcofbjfolaoiaaEval
import Derived.Test.YtjcofbjfolaoiaaMem5
import Derived.Test.YtjcofbjfolaoiaaGuard
import Derived.Lib.SlBytesConst
import Derived.Test.YtjcofbjfolaoiaaRefSame
import Derived.DeepKeys
import Derived.Deep.RegionHeld2
namespace Go.Proofs.Ytjcofbjfolaoiaa.Admin
set_option linter.unusedVariables false
set_option linter.unusedSimpArgs false
open Go Go.RowKit Go.Proofs.Ytjcofbjfolaoiaa.Mem Go.Proofs.Ytjcofbjfolaoiaa.Pad Go.Proofs.Ytjcofbjfolaoiaa.Put Go.Proofs.Ytjcofbjfolaoiaa.Put32 Go.Proofs.Ytjcofbjfolaoiaa.Sum Go.Proofs.Ytjcofbjfolaoiaa.Eval Go.Proofs.Ytjcofbjfolaoiaa.Hmac Go.Proofs.Ytjcofbjfolaoiaa.Parts Go.Proofs.Ytjcofbjfolaoiaa.Derive Go.Proofs.Ytjcofbjfolaoiaa.Chain Go.Proofs.Ytjcofbjfolaoiaa.RefSum Go.Proofs.Ytjcofbjfolaoiaa.ShaSums

def logS : ByteArray := { data := #[108, 111, 103] }
/-- the log's key -/
def logK (key : List Int) : List Int := deriveB key (strB logS) [] 32
def adm : List Int := [97, 100, 109, 105, 110, 105, 115, 116, 114, 97, 116, 111, 114]
def z32 : List Int := List.replicate 32 0
def rec1 : List Int := [1, 0, 0, 0, 0, 0]
def kL : List Int := [146, 59, 5, 80, 55, 164, 63, 213, 208, 201, 110, 64, 32, 15, 153, 84, 48, 137, 145, 148, 163, 111, 181, 207, 186, 199, 132, 139, 52, 205, 222, 251]
def msg1 : List Int := headB 1 (strB logS) ++ (partsP 32 []).flatten
def tagF (n : Nat) (key b : List Int) : List Int := sumF 2 (flip 92 (padKey key) ++ sumF n (flip 54 (padKey key) ++ b))
theorem tag_eval (n : Nat) (key b : List Int) (h : (flip 54 (padKey key) ++ b ++ pad (flip 54 (padKey key) ++ b).length).length = 64 * n) : tagB key b = tagF n key b := by
  unfold tagB tagF
  rw [sum_eq n _ h]
  refine sum_eq 2 _ ?_
  have h1 : (flip 92 (padKey key)).length = 64 := by rw [flip_len, padKey_len]
  have h2 : (sumF n (flip 54 (padKey key) ++ b)).length = 32 := by rw [← sum_eq n _ h, sumB_len]
  rw [List.length_append, pad_len, List.length_append, h1, h2]
  rfl
theorem kL_eq : tagF 2 adm msg1 = kL := by kernel_rfl
theorem logK_adm : logK adm = kL := by
  unfold logK deriveB
  rw [show (4 : Nat) = 1 + 3 from rfl, outB_take _ _ _ _ _ (by decide)]
  have h1 : outB adm (strB logS) [] 32 1 = blockB adm (strB logS) [] 32 1 := by
    unfold outB
    simp
  have h2 : blockB adm (strB logS) [] 32 1 = kL := by
    rw [← kL_eq]
    exact tag_eval 2 adm msg1 (by kernel_rfl)
  rw [h1, h2]
  rfl
theorem head_first : (tagF 3 kL (z32 ++ (bytes8 48 ++ bytesR rec1))).take 1 = [88] := by kernel_rfl
theorem head_ne : link (logK adm) z32 (bytesR rec1) ≠ z32 := by
  intro e
  have h : link (logK adm) z32 (bytesR rec1) = tagF 3 kL (z32 ++ (bytes8 48 ++ bytesR rec1)) := by
    rw [logK_adm]
    unfold link
    rw [bytesR_len]
    exact tag_eval 3 kL _ (by kernel_rfl)
  rw [h] at e
  have h2 := head_first
  rw [e] at h2
  exact absurd h2 (by decide)
theorem rec1_ok : rightR rec1 = true := by decide
theorem adm_byte : Byte adm := by
  intro y hy
  simp [adm] at hy
  omega
theorem logK_len (key : List Int) : (logK key).length = 32 := by
  unfold logK deriveB
  rw [List.length_take, outB_len]
  rfl
theorem logK_byte (key : List Int) : Byte (logK key) := by
  intro y hy
  unfold logK deriveB outB at hy
  obtain ⟨j, _, h⟩ := List.mem_flatMap.1 (List.mem_of_mem_take hy)
  exact sumB_byte _ y h
end Go.Proofs.Ytjcofbjfolaoiaa.Admin
namespace Go.Proofs.Ytjcofbjfolaoiaa.Admin
set_option linter.unusedVariables false
set_option linter.unusedSimpArgs false
open Go Go.RowKit Go.Proofs.Ytjcofbjfolaoiaa.LayA Go.Proofs.Ytjcofbjfolaoiaa.Mem Go.Proofs.Ytjcofbjfolaoiaa.Pad Go.Proofs.Ytjcofbjfolaoiaa.Put Go.Proofs.Ytjcofbjfolaoiaa.Put32 Go.Proofs.Ytjcofbjfolaoiaa.Sum Go.Proofs.Ytjcofbjfolaoiaa.Hmac Go.Proofs.Ytjcofbjfolaoiaa.Parts Go.Proofs.Ytjcofbjfolaoiaa.Derive Go.Proofs.Ytjcofbjfolaoiaa.RefDerive Go.Proofs.Ytjcofbjfolaoiaa.Chain Go.Proofs.Ytjcofbjfolaoiaa.RefSum Go.Proofs.Ytjcofbjfolaoiaa.ShaSums Go.Proofs.Ytjcofbjfolaoiaa.HmacKeys

def credB (s : Nat) : Bool := decide (8 ≤ s) && decide (s ≤ 64)
set_option maxHeartbeats 400000 in
theorem cred_any (A : Option Addr) (s c : Nat) (b : Bool) (h : credB s = b) (w : World) :
    Calls Try.prog 124 #[.slice A s c] w fun e w' => e = .returned (.bool b) ∧ w = w' := by
  unfold credB at h
  by_cases h1 : 8 ≤ s
  · have d0 : decide ((8 : Int) ≤ (s : Int)) = true := decide_eq_true (by omega)
    have d1 : decide (8 ≤ s) = true := decide_eq_true h1
    have d2 : decide ((s : Int) ≤ 64) = decide (s ≤ 64) := by rw [decide_eq_decide]; omega
    have HB : As (b = decide (s ≤ 64)) := ⟨by rw [← h, d1]; rfl⟩
    clear h h1
    go_enter Try.func124, Try.ntmps124
    go_wp2
    go_ret
    exact ⟨by rw [HB.out]; rfl, rfl⟩
  · have d0 : decide ((8 : Int) ≤ (s : Int)) = false := decide_eq_false (by omega)
    have d1 : decide (8 ≤ s) = false := decide_eq_false h1
    have HB : As (b = false) := ⟨by rw [← h, d1]; rfl⟩
    clear h h1
    go_enter Try.func124, Try.ntmps124
    go_wp2
    go_ret
    exact ⟨by rw [HB.out]; rfl, rfl⟩
set_option maxHeartbeats 400000 in
theorem credR_any (A : Option Addr) (s c : Nat) (b : Bool) (h : credB s = b) (w : World) :
    Calls Try.prog 61 #[.slice A s c] w fun e w' => e = .returned (.bool b) ∧ w = w' := by
  unfold credB at h
  by_cases h1 : 8 ≤ s
  · have d0 : decide ((8 : Int) ≤ (s : Int)) = true := decide_eq_true (by omega)
    have d1 : decide (8 ≤ s) = true := decide_eq_true h1
    have d2 : decide ((s : Int) ≤ 64) = decide (s ≤ 64) := by rw [decide_eq_decide]; omega
    have HB : As (b = decide (s ≤ 64)) := ⟨by rw [← h, d1]; rfl⟩
    clear h h1
    go_enter Try.func61, Try.ntmps61
    go_wp2
    go_ret
    exact ⟨by rw [HB.out]; rfl, rfl⟩
  · have d0 : decide ((8 : Int) ≤ (s : Int)) = false := decide_eq_false (by omega)
    have d1 : decide (8 ≤ s) = false := decide_eq_false h1
    have HB : As (b = false) := ⟨by rw [← h, d1]; rfl⟩
    clear h h1
    go_enter Try.func61, Try.ntmps61
    go_wp2
    go_ret
    exact ⟨by rw [HB.out]; rfl, rfl⟩
theorem credB_iff (s : Nat) : credB s = true ↔ 8 ≤ s ∧ s ≤ 64 := by simp [credB]
theorem rdp_nil (w : World) : RdP w none 0 0 [] := ⟨rfl, Nat.le_refl _, by simp [maxLen], fun h => by omega⟩
theorem deriveI (key : List Int) (A : Option Addr) (s c : Nat) (z : Int) (hz : z = ((32 : Nat) : Int)) (w : World) (hk : Byte key) (hs : 1 ≤ s ∧ s ≤ 1000) (h0 : Rd .u8 w A s c key) :
    Calls Try.prog 125 #[.slice A s c, .string logS, .int .i64 z, .slice none 0 0] w fun e w' => ∃ A' c', e = .returned (.tuple #[.slice A' 32 c', .int .i64 0]) ∧ Rd .u8 w' A' 32 c' (logK key) ∧ Below w.heap.size w w' :=
  hz ▸ derive_ok key [] A s c logS 32 none 0 0 w hk hs h0 (by decide) (by decide) (by decide) (by simp) (by decide) (rdp_nil w)
theorem deriveRI (key : List Int) (A : Option Addr) (s c : Nat) (z : Int) (hz : z = ((32 : Nat) : Int)) (w : World) (hk : Byte key) (hs : 1 ≤ s ∧ s ≤ 1000) (h0 : Rd .u8 w A s c key) :
    Calls Try.prog 126 #[.slice A s c, .string logS, .int .i64 z, .slice none 0 0] w fun e w' => ∃ A' c', e = .returned (.tuple #[.slice A' 32 c', .int .i64 0]) ∧ Rd .u8 w' A' 32 c' (logK key) ∧ Below w.heap.size w w' :=
  hz ▸ r_derive_ok key [] A s c logS 32 none 0 0 w hk hs h0 (by decide) (by decide) (by decide) (by simp) (by decide) (rdp_nil w)
set_option maxHeartbeats 400000 in
theorem akey_ok (key : List Int) (hk : Byte key) (A : Option Addr) (s c : Nat) (hs : credB s = true) (w : World) (h0 : Rd .u8 w A s c key) :
    Calls Try.prog 60 #[.slice A s c] w fun e w' => ∃ A' c', e = .returned (.tuple #[.slice A' 32 c', .int .i64 0]) ∧ Rd .u8 w' A' 32 c' (logK key) ∧ Below w.heap.size w w' := by
  have HK := As.mk hk
  have H0 := As.mk h0
  have HC := As.mk hs
  have HS := As.mk ((credB_iff s).1 hs)
  clear hk h0 hs
  go_enter Try.func60, Try.ntmps60
  go_wp2_with (first
    | (go_at_call 124; (with_reducible refine (cred_any A s c true HC.out w).mono ?_); rintro e w1 ⟨rfl, rfl⟩)
    | (go_at_call 125; refine As.out ?_))
  refine As.mk ?_
  refine (deriveI key A s c 32 rfl w HK.out (by have := HS.out; omega) H0.out).mono ?_
  rintro e w1 ⟨A1, c1, rfl, hr, hb⟩
  have HR := As.mk hr
  have HB := As.mk hb
  clear hr hb
  go_wp2
  go_ret2
  exact ⟨_, _, rfl, HR.out, HB.out⟩
set_option maxHeartbeats 400000 in
theorem akey_bad (A : Option Addr) (s c : Nat) (hs : credB s = false) (w : World) :
    Calls Try.prog 60 #[.slice A s c] w fun e w' => e = .returned (.tuple #[.slice none 0 0, .int .i64 30]) ∧ w = w' := by
  have HC := As.mk hs
  clear hs
  go_enter Try.func60, Try.ntmps60
  go_wp2_with (go_at_call 124; (with_reducible refine (cred_any A s c false HC.out w).mono ?_); rintro e w1 ⟨rfl, rfl⟩)
  go_ret2
  exact ⟨rfl, rfl⟩
set_option maxHeartbeats 400000 in
theorem rkey_ok (key : List Int) (hk : Byte key) (A : Option Addr) (s c : Nat) (hs : 1 ≤ s ∧ s ≤ 1000) (w : World) (h0 : Rd .u8 w A s c key) :
    Calls Try.prog 64 #[.slice A s c] w fun e w' => ∃ A' c', e = .returned (.slice A' 32 c') ∧ Rd .u8 w' A' 32 c' (logK key) ∧ Below w.heap.size w w' := by
  have HK := As.mk hk
  have H0 := As.mk h0
  have HS := As.mk hs
  clear hk h0 hs
  go_enter Try.func64, Try.ntmps64
  go_wp2_with (go_at_call 126; refine As.out ?_)
  refine As.mk ?_
  refine (deriveRI key A s c 32 rfl w HK.out HS.out H0.out).mono ?_
  rintro e w1 ⟨A1, c1, rfl, hr, hb⟩
  have HR := As.mk hr
  have HB := As.mk hb
  clear hr hb
  go_wp2
  go_ret
  exact ⟨_, _, rfl, HR.out, HB.out⟩
theorem z32_bytes : bytesA z32 = Z32 := by kernel_rfl
theorem arr_info : (Try.prog.info? 102).map (·.size) = some 32 := by kernel_rfl
theorem bytesA32 {t : List Int} (h : t.length = 32) : (bytesA t).size = 32 := by rw [bytesA_size]; exact h
theorem chunk0 {w : World} {base g n c : Nat} {l : List (List Int)} (h : w.ownsRow base 102 32 (.slice (some ⟨g, 0, none⟩) n c) n (flat l)) (hl : ∀ u ∈ l, u.length = 32) (j : Nat) :
    ∀ i v, ((nthP l j).map (Value.int .u8))[i]? = some v → w.cell? ((⟨g, j * 32, none⟩ : Addr).add i) = some v := fun i v hv => by
  have := own_row_at h hl j i v hv
  rwa [Addr.add_lit]
set_option maxHeartbeats 1000000 in
set_option maxRecDepth 100000 in
/-- no credential, or no record: why not -/
theorem next_bad (key : List Int) (hk : Byte key) (A : Option Addr) (s c : Nat) (t : List Int) (ht : t.length = 32) (r : List Int) (hl : r.length = 6) (k : Int) (hq : (credB s = false ∧ k = 30) ∨ (credB s = true ∧ rightR r = false ∧ k = 2)) (w : World) (h0 : Rd .u8 w A s c key) :
    Calls Try.prog 62 #[.slice A s c, .agg (bytesA t), .agg (recA r)] w fun e w' => e = .returned (.tuple #[.agg (bytesA z32), .int .i64 k]) ∧ Below w.heap.size w w' := by
  have HK := As.mk hk
  have HT := As.mk ht
  have HL := As.mk hl
  have HRS : As ((recA r).size = 6) := ⟨by rw [recA_size, hl]⟩
  have HB0 := As.mk (below_alloc (below_alloc (below_alloc (Below.refl w.heap.size w) (.cells (bytesA t) 102)) (.cells (recA r) 101)) (.cells Z32 102))
  have A1 := As.mk (alloc3_1 w (.cells (bytesA t) 102) (.cells (recA r) 101) (.cells Z32 102))
  have A2 := As.mk (alloc3_2 w (.cells (bytesA t) 102) (.cells (recA r) 101) (.cells Z32 102))
  have H1 := As.mk (h0.below HB0.out)
  clear hk ht hl h0
  rcases hq with ⟨hc, rfl⟩ | ⟨hc, hr, rfl⟩
  · have HC := As.mk hc
    clear hc
    go_enter Try.func62, Try.ntmps62
    go_wp2_with (first
      | (refine wpList_boxArr rfl 101 _ rfl (recA r) rfl ?_)
      | (refine wpList_allocArr rfl 102 rfl Z32 Go.Proofs.Ytjcofbjfolaoiaa.Sum.z32 ?_; refine As.out ?_))
    refine As.mk ?_
    generalize ((w.alloc _).alloc _).alloc _ = w0 at *
    go_wp2_with (first
      | (go_at_call 60; (with_reducible refine (akey_bad A s c HC.out w0).mono ?_); rintro e w1 ⟨rfl, rfl⟩)
      | (refine wpList_storeArr rfl rfl 102 _ _ rfl (w.heap.size + 1 + 1) rfl Z32 rfl 102 Z32 A2.out (by kernel_rfl) rfl (by kernel_rfl) ?_))
    refine bodyPost_ret (results_row_tmp Try.results62 _ _ (w.heap.size + 1 + 1) 102 Z32 (0, 0) _ (.int .i64 30) rfl rfl (setRow_new _ _ Z32 _ _ A2.out) uArr32 rfl (by kernel_rfl)) rfl ⟨by rw [z32_bytes], below_setRow HB0.out (by omega) _⟩
  · have HC := As.mk hc
    have HR := As.mk hr
    clear hc hr
    go_enter Try.func62, Try.ntmps62
    go_wp2_with (first
      | (refine wpList_boxArr rfl 101 _ rfl (recA r) rfl ?_)
      | (refine wpList_allocArr rfl 102 rfl Z32 Go.Proofs.Ytjcofbjfolaoiaa.Sum.z32 ?_; refine As.out ?_))
    refine As.mk ?_
    generalize ((w.alloc _).alloc _).alloc _ = w0 at *
    go_wp2_with (first
      | (go_at_call 60; (with_reducible refine (akey_ok key HK.out A s c HC.out w0 H1.out).mono ?_); rintro e w1 ⟨A1', c1, rfl, hr, hb⟩; have HB1 := As.mk (below_step HB0.out hb); have A11 := As.mk ((hb.block _ (Array.getElem?_eq_some_iff.1 A1.out).1).trans A1.out); have A21 := As.mk ((hb.block _ (Array.getElem?_eq_some_iff.1 A2.out).1).trans A2.out); clear hr hb)
      | (refine wpList_load_row rfl 101 (.tmp 5) rfl (w.heap.size + 1) rfl 101 (recA r) (0, 0) _ A11.out Try.underlying101 rfl (by rw [HRS.out]; exact info_rec) ?_)
      | (go_at_call 66; (with_reducible refine (abytes_bad r HL.out HR.out w1).mono ?_); rintro e w2 ⟨rfl, hb⟩; have HB2 := As.mk (below_step HB1.out hb); have A22 := As.mk ((hb.block _ (Array.getElem?_eq_some_iff.1 A21.out).1).trans A21.out); clear hb)
      | (refine wpList_storeArr rfl rfl 102 _ _ rfl (w.heap.size + 1 + 1) rfl Z32 rfl 102 Z32 A22.out (by kernel_rfl) rfl (by kernel_rfl) ?_))
    refine bodyPost_ret (results_row_tmp Try.results62 _ _ (w.heap.size + 1 + 1) 102 Z32 (0, 0) _ (.int .i64 2) rfl rfl (setRow_new _ _ Z32 _ _ A22.out) uArr32 rfl (by kernel_rfl)) rfl ⟨by rw [z32_bytes], below_setRow HB2.out (by omega) _⟩
theorem link32 (key t p : List Int) : (link key t p).length = 32 := link_len key t p
set_option maxHeartbeats 2000000 in
set_option maxRecDepth 100000 in
theorem next_ok (key : List Int) (hk : Byte key) (A : Option Addr) (s c : Nat) (t : List Int) (ht : t.length = 32) (hbt : Byte t) (r : List Int) (hl : r.length = 6) (hc : credB s = true) (hr : rightR r = true) (w : World) (h0 : Rd .u8 w A s c key) (T : List Int) (hT : link (logK key) t (bytesR r) = T) :
    Calls Try.prog 62 #[.slice A s c, .agg (bytesA t), .agg (recA r)] w fun e w' => e = .returned (.tuple #[.agg (bytesA T), .int .i64 0]) ∧ Below w.heap.size w w' := by
  have HK := As.mk hk
  have HT := As.mk ht
  have HBT := As.mk hbt
  have HL := As.mk hl
  have HC := As.mk hc
  have HR := As.mk hr
  have HTT := As.mk hT
  have HT32 := As.mk (show T.length = 32 by rw [← hT]; exact link_len _ _ _)
  have HRS : As ((recA r).size = 6) := ⟨by rw [recA_size, hl]⟩
  have HKS := As.mk (bytesA32 ht)
  have HB0 := As.mk (below_alloc (below_alloc (below_alloc (Below.refl w.heap.size w) (.cells (bytesA t) 102)) (.cells (recA r) 101)) (.cells Z32 102))
  have A0 := As.mk (alloc3_0 w (.cells (bytesA t) 102) (.cells (recA r) 101) (.cells Z32 102))
  have A1 := As.mk (alloc3_1 w (.cells (bytesA t) 102) (.cells (recA r) 101) (.cells Z32 102))
  have A2 := As.mk (alloc3_2 w (.cells (bytesA t) 102) (.cells (recA r) 101) (.cells Z32 102))
  have H1 := As.mk (h0.below HB0.out)
  clear hk ht hbt hl h0 hc hr hT
  go_enter Try.func62, Try.ntmps62
  go_wp2_with (first
    | (refine wpList_boxArr rfl 101 _ rfl (recA r) rfl ?_)
    | (refine wpList_allocArr rfl 102 rfl Z32 Go.Proofs.Ytjcofbjfolaoiaa.Sum.z32 ?_; refine As.out ?_))
  refine As.mk ?_
  generalize ((w.alloc _).alloc _).alloc _ = w0 at *
  go_wp2_with (first
    | (go_at_call 60; (with_reducible refine (akey_ok key HK.out A s c HC.out w0 H1.out).mono ?_); rintro e w1 ⟨A1', c1, rfl, hr, hb⟩; have HK1 := As.mk hr; have HB1 := As.mk (below_step HB0.out hb); have A01 := As.mk ((hb.block _ (Array.getElem?_eq_some_iff.1 A0.out).1).trans A0.out); have A11 := As.mk ((hb.block _ (Array.getElem?_eq_some_iff.1 A1.out).1).trans A1.out); have A21 := As.mk ((hb.block _ (Array.getElem?_eq_some_iff.1 A2.out).1).trans A2.out); clear hr hb)
    | (refine wpList_load_row rfl 101 (.tmp 5) rfl (w.heap.size + 1) rfl 101 (recA r) (0, 0) _ A11.out Try.underlying101 rfl (by rw [HRS.out]; exact info_rec) ?_)
    | (go_at_call 66; (with_reducible refine (abytes_ok r HL.out HR.out w1).mono ?_); rintro e w2 ⟨A2', c2, rfl, ho, hb⟩; have HO2 := As.mk ho; have HK2 := As.mk (HK1.out.below hb); have HB2 := As.mk (below_step HB1.out hb); have A02 := As.mk ((hb.block _ (Array.getElem?_eq_some_iff.1 A01.out).1).trans A01.out); have A22 := As.mk ((hb.block _ (Array.getElem?_eq_some_iff.1 A21.out).1).trans A21.out); clear ho hb)
    | (refine wpList_load_row rfl 102 (.tmp 4) rfl w.heap.size rfl 102 (bytesA t) (0, 0) _ A02.out uArr32 rfl (by rw [HKS.out]; exact arr_info) ?_)
    | (go_at_call 122; refine As.out ?_))
  refine As.mk ?_
  have hba := below_alloc (Below.refl w2.heap.size w2) (.cells #[.slice A2' 48 c2] 32)
  have HP3 := As.mk (Parts.one (T := 32) HO2.out)
  have HK3 := As.mk (HK2.out.below hba)
  have HB3 := As.mk (below_step HB2.out hba)
  have A23 := As.mk ((hba.block _ (Array.getElem?_eq_some_iff.1 A22.out).1).trans A22.out)
  clear hba
  generalize w2.alloc (.cells #[.slice A2' 48 c2] 32) = w3 at *
  generalize w2.heap.size = g2 at *
  refine (chain_any (logK key) (logK_byte key) t HT.out HBT.out [bytesR r] (by intro p hp; simp at hp; subst hp; exact outN_byte r 6) (by intro p hp; simp at hp; subst hp; rw [bytesR_len]; decide) A1' 32 c1 (some ⟨g2, 0, none⟩) 1 1 w3 (by decide) (by decide) HK3.out HP3.out.rdp).mono ?_
  rintro e w4 ⟨A4, c4, rfl, hb, ho⟩
  obtain ⟨g4, rfl, hg4, hg4l, hc4⟩ := own_shape ho (by decide)
  have HTV := As.mk (show nthP (chainB (logK key) t [bytesR r]) 0 = T from HTT.out)
  have HC4 : As (∀ i v, (T.map (Value.int .u8))[i]? = some v → w4.cell? ((⟨g4, 0, none⟩ : Addr).add i) = some v) := ⟨fun i v hv => by
    have := chunk0 ho (fun u hu => (chainB_all (logK key) _ _ u hu).1) 0 i v (by rw [HTV.out]; exact hv)
    rwa [Nat.zero_mul] at this⟩
  have A24 := As.mk ((hb.block _ (Array.getElem?_eq_some_iff.1 A23.out).1).trans A23.out)
  have HB4 := As.mk (below_step HB3.out hb)
  have VT := As.mk (show (T.map (Value.int .u8)).length = 32 by rw [List.length_map]; exact HT32.out)
  have VT2 := As.mk (bytesA32 HT32.out)
  clear hb ho hg4 hg4l hc4 A0 A1 A2 A01 A11 A21 A02 A22 A23
  go_wp2_with (first
    | (refine wpList_load_at rfl 102 (.tmp 34) rfl ⟨g4, 0, none⟩ rfl (T.map (Value.int .u8)) _ HC4.out uArr32 rfl (by rw [VT.out]; exact arr_info) ?_)
    | (refine wpList_storeArr rfl rfl 102 _ _ rfl (w.heap.size + 1 + 1) rfl (bytesA T) rfl 102 Z32 A24.out (by rw [VT2.out]; exact arr_info) (by rw [VT2.out]; rfl) (bytesA_one T) ?_))
  refine bodyPost_ret (results_row_tmp Try.results62 _ _ (w.heap.size + 1 + 1) 102 (bytesA T) (0, 0) _ (.int .i64 0) rfl rfl (setRow_new _ _ Z32 _ _ A24.out) uArr32 rfl (by rw [VT2.out]; exact arr_info)) rfl ⟨rfl, below_setRow HB4.out (by omega) _⟩
end Go.Proofs.Ytjcofbjfolaoiaa.Admin
namespace Go.Proofs.Ytjcofbjfolaoiaa.Admin
set_option linter.unusedVariables false
set_option linter.unusedSimpArgs false
open Go Go.RowKit Go.Proofs.Ytjcofbjfolaoiaa.LayA Go.Proofs.Ytjcofbjfolaoiaa.Mem Go.Proofs.Ytjcofbjfolaoiaa.Pad Go.Proofs.Ytjcofbjfolaoiaa.Put Go.Proofs.Ytjcofbjfolaoiaa.Put32 Go.Proofs.Ytjcofbjfolaoiaa.Sum Go.Proofs.Ytjcofbjfolaoiaa.Hmac Go.Proofs.Ytjcofbjfolaoiaa.Parts Go.Proofs.Ytjcofbjfolaoiaa.Derive Go.Proofs.Ytjcofbjfolaoiaa.RefDerive Go.Proofs.Ytjcofbjfolaoiaa.Chain Go.Proofs.Ytjcofbjfolaoiaa.RefSum Go.Proofs.Ytjcofbjfolaoiaa.ShaSums Go.Proofs.Ytjcofbjfolaoiaa.HmacKeys

theorem wpList_buildR {ops : Array Oper} {rest : List Oper} {o : Oper} {a : Act} {w : World} {Q : Exit → Act → World → Prop} (hgd : o.guard = none) (ho : o.op = .build 101 #[(0, .const (.int .i64 1))])
    (h : wpList Try.prog ops Q rest (a.put o.dst (.agg (recA rec1))) w) : wpList Try.prog ops Q (o :: rest) a w := by
  refine wpList_run hgd _ ?_ h
  unfold execOp
  simp only [ho]
  kernel_rfl
theorem wpList_build32 {ops : Array Oper} {rest : List Oper} {o : Oper} {a : Act} {w : World} {Q : Exit → Act → World → Prop} (hgd : o.guard = none) (ho : o.op = .build 102 #[])
    (h : wpList Try.prog ops Q rest (a.put o.dst (.agg (bytesA z32))) w) : wpList Try.prog ops Q (o :: rest) a w := by
  refine wpList_run hgd _ ?_ h
  unfold execOp
  simp only [ho]
  kernel_rfl
theorem wpList_build32G {ops : Array Oper} {rest : List Oper} {o : Oper} {a : Act} {w : World} {Q : Exit → Act → World → Prop} (hw : Region.wanted o (yielded ops a.tmps) = true) (ho : o.op = .build 102 #[])
    (h : wpList Try.prog ops Q rest (a.put o.dst (.agg (bytesA z32))) w) : wpList Try.prog ops Q (o :: rest) a w := by
  refine wpList_runG hw _ ?_ h
  unfold execOp
  simp only [ho]
  kernel_rfl
theorem z32_len : z32.length = 32 := rfl
theorem z32_byte : Byte z32 := by
  intro y hy
  rw [List.eq_of_mem_replicate hy]
  omega
theorem rd_marked (w : World) (T : TypeId) (xs : List Int) (a b : Nat) (hm : xs.length ≤ maxLen) : Rd .u8 (w.alloc (.cells (xs.map (Value.int .u8)).toArray T (a, b))) (some ⟨w.heap.size, 0, none⟩) xs.length xs.length xs :=
  ⟨rfl, Nat.le_refl _, hm, fun _ => ⟨_, rfl, fun j hj => by
    rw [add0]
    have : (w.alloc (.cells (xs.map (Value.int .u8)).toArray T (a, b))).heap[w.heap.size]? = some (.cells (xs.map (Value.int .u8)).toArray T (a, b)) := heap_alloc_new w _
    unfold World.cell?
    simp only [this]
    simp [nth, List.getD_eq_getElem?_getD, List.getElem?_eq_getElem hj]⟩⟩
set_option maxHeartbeats 1000000 in
set_option maxRecDepth 100000 in
theorem awake_true (w : World) : Calls Try.prog 57 #[] w fun e w' => e = .returned (.bool true) ∧ Below w.heap.size w w' := by
  obtain ⟨T, hT⟩ : ∃ T, link (logK adm) z32 (bytesR rec1) = T := ⟨_, rfl⟩
  have HT := As.mk hT
  have HNE := As.mk (show T ≠ z32 by rw [← hT]; exact head_ne)
  have HT32 := As.mk (show T.length = 32 by rw [← hT]; exact link_len _ _ _)
  clear hT
  have kc := fun (w : World) (C : Array Value) (n c : Nat) => Lib.run_convert_bytes_const (P := Try.prog) w 32 5 C n c Try.underlying32 Try.underlying5
  go_enter Try.func57, Try.ntmps57
  go_wp2_with (first
    | (refine wpList_buildR rfl rfl ?_)
    | (refine wpList_build32 rfl rfl ?_)
    | (go_at_call 66; (with_reducible refine (abytes_ok rec1 rfl rec1_ok w).mono ?_); rintro e w1 ⟨A1, c1, rfl, ho, hb⟩; have HB1 := As.mk hb; clear ho hb)
    | (go_at_call 62; refine As.out ?_))
  refine As.mk ?_
  have HB2 := As.mk (below_step HB1.out (below_alloc (Below.refl w1.heap.size w1) (.cells (adm.map (Value.int .u8)).toArray 5 (13, 14))))
  have HR2 := As.mk (rd_marked w1 5 adm 13 14 (by show 13 ≤ maxLen; decide))
  have hwd : w1.alloc (.cells (adm.map (Value.int .u8)).toArray 5 (13, 14)) = w1.alloc (.cells #[.int .u8 97, .int .u8 100, .int .u8 109, .int .u8 105, .int .u8 110, .int .u8 105, .int .u8 115, .int .u8 116, .int .u8 114, .int .u8 97, .int .u8 116, .int .u8 111, .int .u8 114] 5 (13, 14)) := rfl
  rw [hwd] at HB2 HR2
  clear hwd kc
  generalize w1.alloc _ = w2 at *
  refine (next_ok adm adm_byte (some ⟨w1.heap.size, 0, none⟩) 13 13 z32 z32_len z32_byte rec1 rfl (by decide) rec1_ok w2 HR2.out T HT.out).mono ?_
  rintro e w3 ⟨rfl, hb⟩
  have HB3 := As.mk (below_step HB2.out hb)
  clear hb
  have hq : ∀ W, (Op.equalIn 10000 102 (.agg (bytesA T)) (.agg (bytesA z32))).run Try.prog W = .ok false W := fun W => by
    have h := run_eq_ints (P := Try.prog) W 102 5 32 uArr32 Try.underlying5 info8 T z32 (by rw [← HT.out]; exact link_byte _ _ _) z32_byte HT32.out z32_len
    rw [decide_eq_false HNE.out] at h
    exact h
  have VT := As.mk (bytesA32 HT32.out)
  go_wp2_with (first
    | (refine wpList_allocArr rfl 102 rfl Z32 Go.Proofs.Ytjcofbjfolaoiaa.Sum.z32 ?_)
    | (refine wpList_storeNew rfl rfl 102 _ _ rfl rfl (bytesA T) rfl 102 Z32 (by rw [VT.out]; exact arr_info) (by rw [VT.out]; rfl) (bytesA_one T) ?_; refine As.out ?_))
  refine As.mk ?_
  have HB4 := As.mk (below_step HB3.out (below_alloc (Below.refl w3.heap.size w3) (.cells (bytesA T) 102)))
  have HT4 := As.mk (heap_alloc_new w3 (.cells (bytesA T) 102))
  generalize w3.alloc _ = w4 at *
  generalize w3.heap.size = g3 at *
  go_wp2_with (first
    | (refine wpList_load_rowG (by rfl) 102 (.tmp 3) rfl g3 rfl 102 (bytesA T) (0, 0) _ HT4.out uArr32 rfl (by rw [VT.out]; exact arr_info) ?_)
    | (refine wpList_build32G (by rfl) rfl ?_))
  go_ret
  exact ⟨rfl, HB4.out⟩
end Go.Proofs.Ytjcofbjfolaoiaa.Admin
namespace Go.Proofs.Ytjcofbjfolaoiaa.Admin
set_option linter.unusedVariables false
set_option linter.unusedSimpArgs false
open Go Go.RowKit Go.Proofs.Ytjcofbjfolaoiaa.LayA Go.Proofs.Ytjcofbjfolaoiaa.SlotP Go.Proofs.Ytjcofbjfolaoiaa.Mem Go.Proofs.Ytjcofbjfolaoiaa.Pad Go.Proofs.Ytjcofbjfolaoiaa.Put Go.Proofs.Ytjcofbjfolaoiaa.Val Go.Proofs.Ytjcofbjfolaoiaa.Reader

theorem int_eq (d : Nat) (W : World) (a b : Int) : (Op.equalIn (d + 1) 3 (.int .i64 a) (.int .i64 b)).run Try.prog W = .ok (a == b) W := by
  rw [run_equalIn_int W d 3 .i64 .i64 _ _ Try.underlying3]
def eqR (r s : List Int) : Bool := nth r 0 == nth s 0 && (nth r 1 == nth s 1 && (nth r 2 == nth s 2 && (nth r 3 == nth s 3 && (nth r 4 == nth s 4 && nth r 5 == nth s 5))))
theorem eqR_self (r : List Int) : eqR r r = true := by simp [eqR]
theorem part_rec (r : List Int) (hl : r.length = 6) (i : Nat) (hi : i < 6) (W : World) : (part 3 (recA r) i).run Try.prog W = .ok (.int .i64 (nth r i)) W := run_part_plain W (by kernel_rfl) (recA_at r i (by omega))
theorem rec_eq (r s : List Int) (h1 : r.length = 6) (h2 : s.length = 6) (W : World) : (Op.equalIn 10000 101 (.agg (recA r)) (.agg (recA s))).run Try.prog W = .ok (eqR r s) W := by
  rw [run_equalIn_struct W 9999 101 _ _ (by kernel_rfl) (by kernel_rfl)]
  rw [show Try.prog.fieldsOf 101 = _ from by unfold Program.fieldsOf; rw [Try.underlying101]]
  have p0 := fun W => part_rec r h1 0 (by decide) W
  have p1 := fun W => part_rec r h1 1 (by decide) W
  have p2 := fun W => part_rec r h1 2 (by decide) W
  have p3 := fun W => part_rec r h1 3 (by decide) W
  have p4 := fun W => part_rec r h1 4 (by decide) W
  have p5 := fun W => part_rec r h1 5 (by decide) W
  have q0 := fun W => part_rec s h2 0 (by decide) W
  have q1 := fun W => part_rec s h2 1 (by decide) W
  have q2 := fun W => part_rec s h2 2 (by decide) W
  have q3 := fun W => part_rec s h2 3 (by decide) W
  have q4 := fun W => part_rec s h2 4 (by decide) W
  have q5 := fun W => part_rec s h2 5 (by decide) W
  obtain ⟨b0, e0⟩ : ∃ b, (nth r 0 == nth s 0) = b := ⟨_, rfl⟩
  have i0 : ∀ W, (Op.equalIn 9999 3 (.int .i64 (nth r 0)) (.int .i64 (nth s 0))).run Try.prog W = .ok b0 W := fun W => by rw [int_eq 9998, e0]
  obtain ⟨b1, e1⟩ : ∃ b, (nth r 1 == nth s 1) = b := ⟨_, rfl⟩
  have i1 : ∀ W, (Op.equalIn 9999 3 (.int .i64 (nth r 1)) (.int .i64 (nth s 1))).run Try.prog W = .ok b1 W := fun W => by rw [int_eq 9998, e1]
  obtain ⟨b2, e2⟩ : ∃ b, (nth r 2 == nth s 2) = b := ⟨_, rfl⟩
  have i2 : ∀ W, (Op.equalIn 9999 3 (.int .i64 (nth r 2)) (.int .i64 (nth s 2))).run Try.prog W = .ok b2 W := fun W => by rw [int_eq 9998, e2]
  obtain ⟨b3, e3⟩ : ∃ b, (nth r 3 == nth s 3) = b := ⟨_, rfl⟩
  have i3 : ∀ W, (Op.equalIn 9999 3 (.int .i64 (nth r 3)) (.int .i64 (nth s 3))).run Try.prog W = .ok b3 W := fun W => by rw [int_eq 9998, e3]
  obtain ⟨b4, e4⟩ : ∃ b, (nth r 4 == nth s 4) = b := ⟨_, rfl⟩
  have i4 : ∀ W, (Op.equalIn 9999 3 (.int .i64 (nth r 4)) (.int .i64 (nth s 4))).run Try.prog W = .ok b4 W := fun W => by rw [int_eq 9998, e4]
  obtain ⟨b5, e5⟩ : ∃ b, (nth r 5 == nth s 5) = b := ⟨_, rfl⟩
  have i5 : ∀ W, (Op.equalIn 9999 3 (.int .i64 (nth r 5)) (.int .i64 (nth s 5))).run Try.prog W = .ok b5 W := fun W => by rw [int_eq 9998, e5]
  have he : eqR r s = (b0 && (b1 && (b2 && (b3 && (b4 && b5))))) := by unfold eqR; rw [e0, e1, e2, e3, e4, e5]
  rw [he]
  clear he e0 e1 e2 e3 e4 e5
  cases b0 with
  | false => simp [Op.eqFields, p0, p1, p2, p3, p4, p5, q0, q1, q2, q3, q4, q5, i0, i1, i2, i3, i4, i5]
  | true =>
    cases b1 with
    | false => simp [Op.eqFields, p0, p1, p2, p3, p4, p5, q0, q1, q2, q3, q4, q5, i0, i1, i2, i3, i4, i5]
    | true =>
      cases b2 with
      | false => simp [Op.eqFields, p0, p1, p2, p3, p4, p5, q0, q1, q2, q3, q4, q5, i0, i1, i2, i3, i4, i5]
      | true =>
        cases b3 with
        | false => simp [Op.eqFields, p0, p1, p2, p3, p4, p5, q0, q1, q2, q3, q4, q5, i0, i1, i2, i3, i4, i5]
        | true =>
          cases b4 with
          | false => simp [Op.eqFields, p0, p1, p2, p3, p4, p5, q0, q1, q2, q3, q4, q5, i0, i1, i2, i3, i4, i5]
          | true =>
            cases b5 with
            | false => simp [Op.eqFields, p0, p1, p2, p3, p4, p5, q0, q1, q2, q3, q4, q5, i0, i1, i2, i3, i4, i5]
            | true =>
              simp [Op.eqFields, p0, p1, p2, p3, p4, p5, q0, q1, q2, q3, q4, q5, i0, i1, i2, i3, i4, i5]
/-- among the first k numbers one may not be -/
def badN (b : List Int) : Nat → Bool
  | 0 => false
  | k + 1 => badN b k || decide (M < (numAt b k : Int))
theorem badN_yes {b : List Int} {k : Nat} (h : M < (numAt b k : Int)) : ∀ n, k < n → badN b n = true
  | 0, hk => by omega
  | n + 1, hk => by
    rw [badN]
    rcases Nat.lt_succ_iff_lt_or_eq.1 hk with h1 | rfl
    · rw [badN_yes h n h1]; rfl
    · rw [decide_eq_true h]; simp
theorem badN_six {b : List Int} (h : errN b 6 ≠ 0) : badN b 6 = true := by
  obtain ⟨k, hk, h1⟩ := errN_bad h
  exact badN_yes h1 6 hk
set_option maxHeartbeats 400000 in
set_option maxRecDepth 100000 in
theorem ab_far (r : List Int) (hl : r.length = 6) (A : Option Addr) (n c : Nat) (h : 100 < n) (w : World) :
    Calls Try.prog 13 #[.agg (recA r), .slice A n c] w fun e w' => e = .returned (.bool true) ∧ Below w.heap.size w w' := by
  have HB0 := As.mk (below_alloc (Below.refl w.heap.size w) (.cells (recA r) 101))
  have d0 : decide (100 < (n : Int)) = true := decide_eq_true (by omega)
  have d1 : decide (100 < n) = true := decide_eq_true h
  clear h hl
  go_enter Try.func13, Try.ntmps13
  go_wp2_with (first
    | (refine wpList_boxArr rfl 101 _ rfl (recA r) rfl ?_)
    | (go_at_call 57; (refine (awake_true _).mono ?_); rintro e w1 ⟨rfl, hb⟩; have HB1 := As.mk (below_step HB0.out hb); clear hb))
  go_ret
  exact ⟨rfl, HB1.out⟩
theorem wpList_buildR0 {ops : Array Oper} {rest : List Oper} {o : Oper} {a : Act} {w : World} {Q : Exit → Act → World → Prop} (hgd : o.guard = none) (ho : o.op = .build 101 #[])
    (h : wpList Try.prog ops Q rest (a.put o.dst (.agg (recA zero6))) w) : wpList Try.prog ops Q (o :: rest) a w := by
  refine wpList_run hgd _ ?_ h
  unfold execOp
  simp only [ho]
  kernel_rfl
set_option maxHeartbeats 4000000 in
set_option maxRecDepth 100000 in
theorem ab_wrong_lt (r : List Int) (hl : r.length = 6) (hr : rightR r = false) (b : List Int) (hby : Byte b) (A : Option Addr) (n c : Nat) (hc : n < 48) (w : World) (h0 : Rd .u8 w A n c b) :
    Calls Try.prog 13 #[.agg (recA r), .slice A n c] w fun e w' => e = .returned (.bool true) ∧ Below w.heap.size w w' := by
  have HL := As.mk hl
  have HR := As.mk hr
  have HBY := As.mk hby
  have HRS : As ((recA r).size = 6) := ⟨by rw [recA_size, hl]⟩
  have HB0 := As.mk (below_alloc (Below.refl w.heap.size w) (.cells (recA r) 101))
  have HG0 := As.mk (heap_alloc_new w (.cells (recA r) 101))
  have H0 := As.mk (h0.below HB0.out)
  have hlb := h0.len
  have d0 : decide (100 < (n : Int)) = false := decide_eq_false (by omega)
  have d1 : decide (100 < n) = false := decide_eq_false (by omega)
  have hge : takeE b = 10 := by unfold takeE; rw [if_pos (by omega)]
  have htr : takeR b = zero6 := takeR_bad (by rw [hge]; decide)
  have e0 : decide ((n : Int) < 48) = true := decide_eq_true (by omega)
  have e1 : decide (n < 48) = true := decide_eq_true hc
  obtain ⟨t, hte⟩ : ∃ t, t = zero6 := ⟨_, rfl⟩
  have HTV := As.mk hte
  rw [← hte] at htr
  have HT := As.mk htr
  have HG := As.mk hge
  have HTL : As (t.length = 6) := ⟨by rw [← htr]; exact takeR_len b⟩
  have HTS : As ((recA t).size = 6) := ⟨by rw [recA_size]; exact HTL.out⟩
  clear hte htr hge hl hr hby h0 hlb hc
  go_enter Try.func13, Try.ntmps13
  go_wp2_with (first
    | (refine wpList_boxArr rfl 101 _ rfl (recA r) rfl ?_)
    | (go_at_call 57; (with_reducible refine (awake_true _).mono ?_); rintro e w1 ⟨rfl, hb⟩; have HB1 := As.mk (below_step HB0.out hb); have HG1 := As.mk ((hb.block _ (Array.getElem?_eq_some_iff.1 HG0.out).1).trans HG0.out); have H1 := As.mk (H0.out.below hb); clear hb)
    | (refine wpList_load_rowG (by rfl) 101 (.tmp 2) rfl w.heap.size rfl 101 (recA r) (0, 0) _ HG1.out Try.underlying101 rfl (by rw [HRS.out]; exact info_rec) ?_)
    | (go_at_call 66; (with_reducible refine (abytes_bad r HL.out HR.out w1).mono ?_); rintro e w2 ⟨rfl, hb⟩; have HB2 := As.mk (below_step HB1.out hb); have HG2 := As.mk ((hb.block _ (Array.getElem?_eq_some_iff.1 HG1.out).1).trans HG1.out); have H2 := As.mk (H1.out.below hb); clear hb; refine As.out ?_))
  refine As.mk ?_
  go_wp2_with (first
    | (refine wpList_load_rowG (by rfl) 101 (.tmp 2) rfl w.heap.size rfl 101 (recA r) (0, 0) _ HG2.out Try.underlying101 rfl (by rw [HRS.out]; exact info_rec) ?_)
    | (go_at_call 65; (with_reducible refine (rightR_any r HL.out false HR.out w2).mono ?_); rintro e wz ⟨rfl, hb⟩; have HZ := As.mk (below_step HB2.out hb); have HBZ := As.mk (H2.out.below hb); clear hb)
    | (go_at_call 67; refine As.out ?_))
  refine As.mk ?_
  refine (atake_any b HBY.out A n c wz HBZ.out).mono ?_
  rintro e wy ⟨rfl, hb⟩
  have HY := As.mk (below_step HZ.out hb)
  have HBB := As.mk (HBZ.out.below hb)
  clear hb HZ HBZ
  rw [HT.out, HG.out]
  have hq := fun W => rec_eq t zero6 HTL.out rfl W
  obtain ⟨q, hqq⟩ : ∃ q, eqR t zero6 = q := ⟨_, rfl⟩
  rw [hqq] at hq
  have HQ := As.mk hqq
  clear hqq
  go_wp2_with (first
    | (refine wpList_allocArr rfl 101 rfl (recA zero6) rec_zero ?_)
    | (refine wpList_storeNew rfl rfl 101 _ _ rfl rfl (recA t) rfl 101 (recA zero6) (by rw [HTS.out]; exact info_rec) (by rw [HTS.out]; rfl) (recA_one t) ?_; refine As.out ?_))
  refine As.mk ?_
  have hba := below_alloc (Below.refl wy.heap.size wy) (.cells (recA t) 101)
  have HX := As.mk (below_step HY.out hba)
  have HBX := As.mk (HBB.out.below hba)
  have HTX := As.mk (heap_alloc_new wy (.cells (recA t) 101))
  clear hba HY HBB
  generalize wy.alloc (.cells (recA t) 101) = wx at *
  generalize wy.heap.size = gx at *
  have HQT : As (q = true) := ⟨by rw [← HQ.out, HTV.out]; rfl⟩
  obtain rfl := HQT.out
  clear HQT
  go_wp2_with (first
    | (refine wpList_load_rowG (by rfl) 101 (.tmp 9) rfl gx rfl 101 (recA t) (0, 0) _ HTX.out Try.underlying101 rfl (by rw [HTS.out]; exact info_rec) ?_)
    | (refine wpList_buildR0 rfl rfl ?_))
  go_ret
  exact ⟨rfl, HX.out⟩
set_option maxHeartbeats 4000000 in
set_option maxRecDepth 100000 in
theorem ab_wrong_gt (r : List Int) (hl : r.length = 6) (hr : rightR r = false) (b : List Int) (hby : Byte b) (A : Option Addr) (n c : Nat) (hc : 48 < n ∧ n ≤ 100) (w : World) (h0 : Rd .u8 w A n c b) :
    Calls Try.prog 13 #[.agg (recA r), .slice A n c] w fun e w' => e = .returned (.bool true) ∧ Below w.heap.size w w' := by
  have HL := As.mk hl
  have HR := As.mk hr
  have HBY := As.mk hby
  have HRS : As ((recA r).size = 6) := ⟨by rw [recA_size, hl]⟩
  have HB0 := As.mk (below_alloc (Below.refl w.heap.size w) (.cells (recA r) 101))
  have HG0 := As.mk (heap_alloc_new w (.cells (recA r) 101))
  have H0 := As.mk (h0.below HB0.out)
  have hlb := h0.len
  have d0 : decide (100 < (n : Int)) = false := decide_eq_false (by omega)
  have d1 : decide (100 < n) = false := decide_eq_false (by omega)
  have hge : takeE b = 13 := by unfold takeE; rw [if_neg (by omega), if_pos (by omega)]
  have htr : takeR b = zero6 := takeR_bad (by rw [hge]; decide)
  have e0 : decide ((n : Int) < 48) = false := decide_eq_false (by omega)
  have e1 : decide (n < 48) = false := decide_eq_false (by omega)
  have e2 : decide (48 < (n : Int)) = true := decide_eq_true (by omega)
  have e3 : decide (48 < n) = true := decide_eq_true hc.1
  obtain ⟨t, hte⟩ : ∃ t, t = zero6 := ⟨_, rfl⟩
  have HTV := As.mk hte
  rw [← hte] at htr
  have HT := As.mk htr
  have HG := As.mk hge
  have HTL : As (t.length = 6) := ⟨by rw [← htr]; exact takeR_len b⟩
  have HTS : As ((recA t).size = 6) := ⟨by rw [recA_size]; exact HTL.out⟩
  clear hte htr hge hl hr hby h0 hlb hc
  go_enter Try.func13, Try.ntmps13
  go_wp2_with (first
    | (refine wpList_boxArr rfl 101 _ rfl (recA r) rfl ?_)
    | (go_at_call 57; (with_reducible refine (awake_true _).mono ?_); rintro e w1 ⟨rfl, hb⟩; have HB1 := As.mk (below_step HB0.out hb); have HG1 := As.mk ((hb.block _ (Array.getElem?_eq_some_iff.1 HG0.out).1).trans HG0.out); have H1 := As.mk (H0.out.below hb); clear hb)
    | (refine wpList_load_rowG (by rfl) 101 (.tmp 2) rfl w.heap.size rfl 101 (recA r) (0, 0) _ HG1.out Try.underlying101 rfl (by rw [HRS.out]; exact info_rec) ?_)
    | (go_at_call 66; (with_reducible refine (abytes_bad r HL.out HR.out w1).mono ?_); rintro e w2 ⟨rfl, hb⟩; have HB2 := As.mk (below_step HB1.out hb); have HG2 := As.mk ((hb.block _ (Array.getElem?_eq_some_iff.1 HG1.out).1).trans HG1.out); have H2 := As.mk (H1.out.below hb); clear hb; refine As.out ?_))
  refine As.mk ?_
  go_wp2_with (first
    | (refine wpList_load_rowG (by rfl) 101 (.tmp 2) rfl w.heap.size rfl 101 (recA r) (0, 0) _ HG2.out Try.underlying101 rfl (by rw [HRS.out]; exact info_rec) ?_)
    | (go_at_call 65; (with_reducible refine (rightR_any r HL.out false HR.out w2).mono ?_); rintro e wz ⟨rfl, hb⟩; have HZ := As.mk (below_step HB2.out hb); have HBZ := As.mk (H2.out.below hb); clear hb)
    | (go_at_call 67; refine As.out ?_))
  refine As.mk ?_
  refine (atake_any b HBY.out A n c wz HBZ.out).mono ?_
  rintro e wy ⟨rfl, hb⟩
  have HY := As.mk (below_step HZ.out hb)
  have HBB := As.mk (HBZ.out.below hb)
  clear hb HZ HBZ
  rw [HT.out, HG.out]
  have hq := fun W => rec_eq t zero6 HTL.out rfl W
  obtain ⟨q, hqq⟩ : ∃ q, eqR t zero6 = q := ⟨_, rfl⟩
  rw [hqq] at hq
  have HQ := As.mk hqq
  clear hqq
  go_wp2_with (first
    | (refine wpList_allocArr rfl 101 rfl (recA zero6) rec_zero ?_)
    | (refine wpList_storeNew rfl rfl 101 _ _ rfl rfl (recA t) rfl 101 (recA zero6) (by rw [HTS.out]; exact info_rec) (by rw [HTS.out]; rfl) (recA_one t) ?_; refine As.out ?_))
  refine As.mk ?_
  have hba := below_alloc (Below.refl wy.heap.size wy) (.cells (recA t) 101)
  have HX := As.mk (below_step HY.out hba)
  have HBX := As.mk (HBB.out.below hba)
  have HTX := As.mk (heap_alloc_new wy (.cells (recA t) 101))
  clear hba HY HBB
  generalize wy.alloc (.cells (recA t) 101) = wx at *
  generalize wy.heap.size = gx at *
  have HQT : As (q = true) := ⟨by rw [← HQ.out, HTV.out]; rfl⟩
  obtain rfl := HQT.out
  clear HQT
  go_wp2_with (first
    | (refine wpList_load_rowG (by rfl) 101 (.tmp 9) rfl gx rfl 101 (recA t) (0, 0) _ HTX.out Try.underlying101 rfl (by rw [HTS.out]; exact info_rec) ?_)
    | (refine wpList_buildR0 rfl rfl ?_))
  go_ret
  exact ⟨rfl, HX.out⟩
set_option maxHeartbeats 4000000 in
set_option maxRecDepth 100000 in
theorem ab_wrong_form (r : List Int) (hl : r.length = 6) (hr : rightR r = false) (b : List Int) (hby : Byte b) (A : Option Addr) (n c : Nat) (hc : n = 48 ∧ errN b 6 ≠ 0) (w : World) (h0 : Rd .u8 w A n c b) :
    Calls Try.prog 13 #[.agg (recA r), .slice A n c] w fun e w' => e = .returned (.bool true) ∧ Below w.heap.size w w' := by
  have HL := As.mk hl
  have HR := As.mk hr
  have HBY := As.mk hby
  have HRS : As ((recA r).size = 6) := ⟨by rw [recA_size, hl]⟩
  have HB0 := As.mk (below_alloc (Below.refl w.heap.size w) (.cells (recA r) 101))
  have HG0 := As.mk (heap_alloc_new w (.cells (recA r) 101))
  have H0 := As.mk (h0.below HB0.out)
  have hlb := h0.len
  have d0 : decide (100 < (n : Int)) = false := decide_eq_false (by omega)
  have d1 : decide (100 < n) = false := decide_eq_false (by omega)
  obtain ⟨rfl, hne⟩ := hc
  have hge : takeE b = 11 := by unfold takeE; rw [if_neg (by omega), if_neg (by omega)]; exact (errN_two b 6).resolve_left hne
  have htr : takeR b = zero6 := takeR_bad (by rw [hge]; decide)
  have HNE := As.mk (badN_six hne)
  clear hne
  obtain ⟨t, hte⟩ : ∃ t, t = zero6 := ⟨_, rfl⟩
  have HTV := As.mk hte
  rw [← hte] at htr
  have HT := As.mk htr
  have HG := As.mk hge
  have HTL : As (t.length = 6) := ⟨by rw [← htr]; exact takeR_len b⟩
  have HTS : As ((recA t).size = 6) := ⟨by rw [recA_size]; exact HTL.out⟩
  clear hte htr hge hl hr hby h0 hlb
  go_enter Try.func13, Try.ntmps13
  go_wp2_with (first
    | (refine wpList_boxArr rfl 101 _ rfl (recA r) rfl ?_)
    | (go_at_call 57; (with_reducible refine (awake_true _).mono ?_); rintro e w1 ⟨rfl, hb⟩; have HB1 := As.mk (below_step HB0.out hb); have HG1 := As.mk ((hb.block _ (Array.getElem?_eq_some_iff.1 HG0.out).1).trans HG0.out); have H1 := As.mk (H0.out.below hb); clear hb)
    | (refine wpList_load_rowG (by rfl) 101 (.tmp 2) rfl w.heap.size rfl 101 (recA r) (0, 0) _ HG1.out Try.underlying101 rfl (by rw [HRS.out]; exact info_rec) ?_)
    | (go_at_call 66; (with_reducible refine (abytes_bad r HL.out HR.out w1).mono ?_); rintro e w2 ⟨rfl, hb⟩; have HB2 := As.mk (below_step HB1.out hb); have HG2 := As.mk ((hb.block _ (Array.getElem?_eq_some_iff.1 HG1.out).1).trans HG1.out); have H2 := As.mk (H1.out.below hb); clear hb; refine As.out ?_))
  refine As.mk ?_
  go_wp2_with (first
    | (refine wpList_load_rowG (by rfl) 101 (.tmp 2) rfl w.heap.size rfl 101 (recA r) (0, 0) _ HG2.out Try.underlying101 rfl (by rw [HRS.out]; exact info_rec) ?_)
    | (go_at_call 65; (with_reducible refine (rightR_any r HL.out false HR.out w2).mono ?_); rintro e wz ⟨rfl, hb⟩; have HZ := As.mk (below_step HB2.out hb); have HBZ := As.mk (H2.out.below hb); clear hb)
    | (go_at_call 67; refine As.out ?_))
  refine As.mk ?_
  refine (atake_any b HBY.out A 48 c wz HBZ.out).mono ?_
  rintro e wy ⟨rfl, hb⟩
  have HY := As.mk (below_step HZ.out hb)
  have HBB := As.mk (HBZ.out.below hb)
  clear hb HZ HBZ
  rw [HT.out, HG.out]
  have hq := fun W => rec_eq t zero6 HTL.out rfl W
  obtain ⟨q, hqq⟩ : ∃ q, eqR t zero6 = q := ⟨_, rfl⟩
  rw [hqq] at hq
  have HQ := As.mk hqq
  clear hqq
  go_wp2_with (first
    | (refine wpList_allocArr rfl 101 rfl (recA zero6) rec_zero ?_)
    | (refine wpList_storeNew rfl rfl 101 _ _ rfl rfl (recA t) rfl 101 (recA zero6) (by rw [HTS.out]; exact info_rec) (by rw [HTS.out]; rfl) (recA_one t) ?_; refine As.out ?_))
  refine As.mk ?_
  have hba := below_alloc (Below.refl wy.heap.size wy) (.cells (recA t) 101)
  have HX := As.mk (below_step HY.out hba)
  have HBX := As.mk (HBB.out.below hba)
  have HTX := As.mk (heap_alloc_new wy (.cells (recA t) 101))
  clear hba HY HBB
  generalize wy.alloc (.cells (recA t) 101) = wx at *
  generalize wy.heap.size = gx at *
  have HQT : As (q = true) := ⟨by rw [← HQ.out, HTV.out]; rfl⟩
  obtain rfl := HQT.out
  clear HQT
  go_wp2_with (first
    | (refine wpList_load_rowG (by rfl) 101 (.tmp 9) rfl gx rfl 101 (recA t) (0, 0) _ HTX.out Try.underlying101 rfl (by rw [HTS.out]; exact info_rec) ?_)
    | (refine wpList_buildR0 rfl rfl ?_))
  go_loopg [12, 13] 6 (fun kq v12 v13 wr => ∃ (k j : Nat), k + kq = 6 ∧ v12 = .bool (badN b k) ∧ v13 = .int .i64 (j : Int) ∧ As (j = 8 * k) ∧ As (wx = wr))
  case atStart => exact ⟨0, 0, by omega, rfl, rfl, ⟨rfl⟩, ⟨rfl⟩⟩
  case round =>
    obtain ⟨k, j, hk, rfl, rfl, HJ, HW⟩ := hrel
    have HK := As.mk hk
    obtain rfl := HW.out
    clear hk HW
    by_cases hlt : k < 6
    · have c0 : decide ((j : Int) < 48) = true := decide_eq_true (by have := HJ.out; omega)
      have c1 : decide (j < 48) = true := decide_eq_true (by have := HJ.out; omega)
      have lt' : (j : Int) < 48 := by have := HJ.out; omega
      have hw : wrap64 ((j : Int) + 8) = ((j + 8 : Nat) : Int) := by unfold wrap64; omega
      have hle := HBX.out.le
      have hsl : ∀ W, (Instr.slice 32 (.slice A 48 c) (some (.int .i64 (j : Int))) (some (.int .i64 ((j + 8 : Nat) : Int))) none).run Try.prog W = .ok (.slice (cutA A c j 1) 8 (c - j)) W := fun W => by
        have := run_cut (P := Try.prog) W 32 5 Try.underlying32 CloneB.info A 48 c j (j + 8) .i64 .i64 (by omega) (by have := HJ.out; omega)
        rwa [show j + 8 - j = 8 by omega] at this
      have hsl2 : ∀ W, (Instr.slice 32 (.slice A 48 c) (some (.int .i64 (j : Int))) (some (.int .i64 ((j : Int) + 8))) none).run Try.prog W = .ok (.slice (cutA A c j 1) 8 (c - j)) W := fun W => by
        have := hsl W
        rwa [show ((j + 8 : Nat) : Int) = (j : Int) + 8 by omega] at this
      have HC := As.mk (HBX.out.cut j (j + 8) (by omega) (by have := HJ.out; omega))
      rw [show j + 8 - j = 8 by omega] at HC
      have hgo := get_of (x := b.drop j) (k := 8) (n := 48 - j) (by rw [List.length_drop, HBX.out.len]) (by have := HJ.out; omega) (by decide) (by decide)
      obtain ⟨v, hv⟩ : ∃ v, valB ((b.drop j).take 8) = v := ⟨_, rfl⟩
      rw [hv] at hgo
      have HVN : As (numAt b k = v) := ⟨by rw [← hv, HJ.out]; rfl⟩
      have HBS : As (badN b (k + 1) = (badN b k || decide (M < (numAt b k : Int)))) := ⟨rfl⟩
      rw [HVN.out] at HBS
      have HLT := As.mk hlt
      have HGO := As.mk hgo
      clear hv hgo hlt hle
      go_wp2_with (go_at_call 69; (with_reducible refine (getR_any _ (byte_take (byte_drop HBY.out j) 8) (cutA A c j 1) 8 (c - j) wx HC.out).mono ?_); rintro e w9 ⟨rfl, rfl⟩; refine As.out ?_)
      refine As.mk ?_
      rw [HGO.out.1, HGO.out.2]
      by_cases h62 : v ≤ 4611686018427387904
      · rw [if_pos h62, if_pos h62]
        by_cases hM : (v : Int) ≤ 1099511627776
        · have f0 : decide (1099511627776 < (v : Int)) = false := decide_eq_false (by omega)
          have f1 : decide (1099511627776 < v) = false := decide_eq_false (by omega)
          have HBT : As (badN b (k + 1) = badN b k) := ⟨by rw [HBS.out, decide_eq_false (by unfold M; omega), Bool.or_false]⟩
          obtain ⟨bb, hbb⟩ : ∃ bb, badN b k = bb := ⟨_, rfl⟩
          rw [hbb] at HBT ⊢
          clear h62 hM hbb
          cases bb with
          | true =>
            go_wp2
            go_roundg (6 - (k + 1))
            case measure => have := HK.out; have := HLT.out; omega
            case rel => exact ⟨k + 1, j + 8, by have := HK.out; have := HLT.out; omega, by rw [HBT.out], by go_num, ⟨by have := HJ.out; omega⟩, ⟨rfl⟩⟩
          | false =>
            go_wp2
            go_roundg (6 - (k + 1))
            case measure => have := HK.out; have := HLT.out; omega
            case rel => exact ⟨k + 1, j + 8, by have := HK.out; have := HLT.out; omega, by rw [HBT.out], by go_num, ⟨by have := HJ.out; omega⟩, ⟨rfl⟩⟩
        · have f0 : decide (1099511627776 < (v : Int)) = true := decide_eq_true (by omega)
          have f1 : decide (1099511627776 < v) = true := decide_eq_true (by omega)
          have HBT : As (badN b (k + 1) = true) := ⟨by rw [HBS.out, decide_eq_true (by unfold M; omega), Bool.or_true]⟩
          obtain ⟨bb, hbb⟩ : ∃ bb, badN b k = bb := ⟨_, rfl⟩
          rw [hbb]
          clear h62 hM hbb
          cases bb with
          | true =>
            go_wp2
            go_roundg (6 - (k + 1))
            case measure => have := HK.out; have := HLT.out; omega
            case rel => exact ⟨k + 1, j + 8, by have := HK.out; have := HLT.out; omega, by rw [HBT.out], by go_num, ⟨by have := HJ.out; omega⟩, ⟨rfl⟩⟩
          | false =>
            go_wp2
            go_roundg (6 - (k + 1))
            case measure => have := HK.out; have := HLT.out; omega
            case rel => exact ⟨k + 1, j + 8, by have := HK.out; have := HLT.out; omega, by rw [HBT.out], by go_num, ⟨by have := HJ.out; omega⟩, ⟨rfl⟩⟩
      · rw [if_neg h62, if_neg h62]
        have HBT : As (badN b (k + 1) = true) := ⟨by rw [HBS.out, decide_eq_true (by unfold M; omega), Bool.or_true]⟩
        obtain ⟨bb, hbb⟩ : ∃ bb, badN b k = bb := ⟨_, rfl⟩
        rw [hbb]
        clear h62 hbb
        cases bb with
        | true =>
          go_wp2
          go_roundg (6 - (k + 1))
          case measure => have := HK.out; have := HLT.out; omega
          case rel => exact ⟨k + 1, j + 8, by have := HK.out; have := HLT.out; omega, by rw [HBT.out], by go_num, ⟨by have := HJ.out; omega⟩, ⟨rfl⟩⟩
        | false =>
          go_wp2
          go_roundg (6 - (k + 1))
          case measure => have := HK.out; have := HLT.out; omega
          case rel => exact ⟨k + 1, j + 8, by have := HK.out; have := HLT.out; omega, by rw [HBT.out], by go_num, ⟨by have := HJ.out; omega⟩, ⟨rfl⟩⟩
    · obtain rfl : k = 6 := by have := HK.out; omega
      have c0 : decide ((j : Int) < 48) = false := decide_eq_false (by have := HJ.out; omega)
      have c1 : decide (j < 48) = false := decide_eq_false (by have := HJ.out; omega)
      rw [HNE.out]
      clear hlt
      go_wp2
      go_ret
      exact ⟨rfl, HX.out⟩
set_option maxHeartbeats 4000000 in
set_option maxRecDepth 100000 in
theorem ab_wrong_ok (r : List Int) (hl : r.length = 6) (hr : rightR r = false) (b : List Int) (hby : Byte b) (A : Option Addr) (n c : Nat) (hc : n = 48 ∧ errN b 6 = 0) (w : World) (h0 : Rd .u8 w A n c b) :
    Calls Try.prog 13 #[.agg (recA r), .slice A n c] w fun e w' => e = .returned (.bool true) ∧ Below w.heap.size w w' := by
  have HL := As.mk hl
  have HR := As.mk hr
  have HBY := As.mk hby
  have HRS : As ((recA r).size = 6) := ⟨by rw [recA_size, hl]⟩
  have HB0 := As.mk (below_alloc (Below.refl w.heap.size w) (.cells (recA r) 101))
  have HG0 := As.mk (heap_alloc_new w (.cells (recA r) 101))
  have H0 := As.mk (h0.below HB0.out)
  have hlb := h0.len
  have d0 : decide (100 < (n : Int)) = false := decide_eq_false (by omega)
  have d1 : decide (100 < n) = false := decide_eq_false (by omega)
  obtain ⟨rfl, hne⟩ := hc
  have hge : takeE b = 0 := by unfold takeE; rw [if_neg (by omega), if_neg (by omega)]; exact hne
  have htr : takeR b = numsB b := takeR_ok hge
  have HNR := As.mk (nums_right hne)
  have HBN := As.mk (bytes_nums b hby hlb)
  clear hne
  obtain ⟨t, hte⟩ : ∃ t, t = (numsB b) := ⟨_, rfl⟩
  have HTV := As.mk hte
  rw [← hte] at htr HNR HBN
  have HT := As.mk htr
  have HG := As.mk hge
  have HTL : As (t.length = 6) := ⟨by rw [← htr]; exact takeR_len b⟩
  have HTS : As ((recA t).size = 6) := ⟨by rw [recA_size]; exact HTL.out⟩
  clear hte htr hge hl hr hby h0 hlb
  go_enter Try.func13, Try.ntmps13
  go_wp2_with (first
    | (refine wpList_boxArr rfl 101 _ rfl (recA r) rfl ?_)
    | (go_at_call 57; (with_reducible refine (awake_true _).mono ?_); rintro e w1 ⟨rfl, hb⟩; have HB1 := As.mk (below_step HB0.out hb); have HG1 := As.mk ((hb.block _ (Array.getElem?_eq_some_iff.1 HG0.out).1).trans HG0.out); have H1 := As.mk (H0.out.below hb); clear hb)
    | (refine wpList_load_rowG (by rfl) 101 (.tmp 2) rfl w.heap.size rfl 101 (recA r) (0, 0) _ HG1.out Try.underlying101 rfl (by rw [HRS.out]; exact info_rec) ?_)
    | (go_at_call 66; (with_reducible refine (abytes_bad r HL.out HR.out w1).mono ?_); rintro e w2 ⟨rfl, hb⟩; have HB2 := As.mk (below_step HB1.out hb); have HG2 := As.mk ((hb.block _ (Array.getElem?_eq_some_iff.1 HG1.out).1).trans HG1.out); have H2 := As.mk (H1.out.below hb); clear hb; refine As.out ?_))
  refine As.mk ?_
  go_wp2_with (first
    | (refine wpList_load_rowG (by rfl) 101 (.tmp 2) rfl w.heap.size rfl 101 (recA r) (0, 0) _ HG2.out Try.underlying101 rfl (by rw [HRS.out]; exact info_rec) ?_)
    | (go_at_call 65; (with_reducible refine (rightR_any r HL.out false HR.out w2).mono ?_); rintro e wz ⟨rfl, hb⟩; have HZ := As.mk (below_step HB2.out hb); have HBZ := As.mk (H2.out.below hb); clear hb)
    | (go_at_call 67; refine As.out ?_))
  refine As.mk ?_
  refine (atake_any b HBY.out A 48 c wz HBZ.out).mono ?_
  rintro e wy ⟨rfl, hb⟩
  have HY := As.mk (below_step HZ.out hb)
  have HBB := As.mk (HBZ.out.below hb)
  clear hb HZ HBZ
  rw [HT.out, HG.out]
  have hq := fun W => rec_eq t zero6 HTL.out rfl W
  obtain ⟨q, hqq⟩ : ∃ q, eqR t zero6 = q := ⟨_, rfl⟩
  rw [hqq] at hq
  have HQ := As.mk hqq
  clear hqq
  go_wp2_with (first
    | (refine wpList_allocArr rfl 101 rfl (recA zero6) rec_zero ?_)
    | (refine wpList_storeNew rfl rfl 101 _ _ rfl rfl (recA t) rfl 101 (recA zero6) (by rw [HTS.out]; exact info_rec) (by rw [HTS.out]; rfl) (recA_one t) ?_; refine As.out ?_))
  refine As.mk ?_
  have hba := below_alloc (Below.refl wy.heap.size wy) (.cells (recA t) 101)
  have HX := As.mk (below_step HY.out hba)
  have HBX := As.mk (HBB.out.below hba)
  have HTX := As.mk (heap_alloc_new wy (.cells (recA t) 101))
  clear hba HY HBB
  generalize wy.alloc (.cells (recA t) 101) = wx at *
  generalize wy.heap.size = gx at *
  have HOK2 := As.mk ((rightR_iff t).1 HNR.out)
  go_wp2_with (first
    | (refine wpList_load_rowG (by rfl) 101 (.tmp 9) rfl gx rfl 101 (recA t) (0, 0) _ HTX.out Try.underlying101 rfl (by rw [HTS.out]; exact info_rec) ?_)
    | (refine wpList_buildR0 rfl rfl ?_)
    | (go_at_call 65; (with_reducible refine (rightR_any t HTL.out true HNR.out wx).mono ?_); rintro e v1 ⟨rfl, hb⟩; have HV1 := As.mk (below_step HX.out hb); have HT1 := As.mk ((hb.block _ (Array.getElem?_eq_some_iff.1 HTX.out).1).trans HTX.out); have HD1 := As.mk (HBX.out.below hb); clear hb; refine As.out ?_))
  refine As.mk ?_
  go_wp2_with (first
    | (refine wpList_load_rowG (by rfl) 101 (.tmp 9) rfl gx rfl 101 (recA t) (0, 0) _ HT1.out Try.underlying101 rfl (by rw [HTS.out]; exact info_rec) ?_)
    | (go_at_call 68; (with_reducible refine (bytesR_any t HTL.out HOK2.out v1).mono ?_); rintro e v2 ⟨A6, c6, rfl, ho, hb⟩; rw [HBN.out] at ho; have HP6 := As.mk (Parts.own_rd_at ho); have HV2 := As.mk (below_step HV1.out hb); have HD2 := As.mk (HD1.out.below hb); clear ho hb)
    | (go_at_call 24; (with_reducible refine (RefSame.same_any _ _ _ _ 48 48 _ _ v2 true (by decide) (by simp) HP6.out HD2.out).mono ?_); rintro e v3 ⟨rfl, nd, rfl⟩))
  go_ret
  exact ⟨rfl, below_drewN HV2.out nd⟩
end Go.Proofs.Ytjcofbjfolaoiaa.Admin
namespace Go.Proofs.Ytjcofbjfolaoiaa.Admin
set_option linter.unusedVariables false
set_option linter.unusedSimpArgs false
open Go Go.RowKit Go.Proofs.Ytjcofbjfolaoiaa.LayA Go.Proofs.Ytjcofbjfolaoiaa.Mem Go.Proofs.Ytjcofbjfolaoiaa.Pad Go.Proofs.Ytjcofbjfolaoiaa.Put Go.Proofs.Ytjcofbjfolaoiaa.Put32 Go.Proofs.Ytjcofbjfolaoiaa.Sum Go.Proofs.Ytjcofbjfolaoiaa.Hmac Go.Proofs.Ytjcofbjfolaoiaa.Parts Go.Proofs.Ytjcofbjfolaoiaa.Derive Go.Proofs.Ytjcofbjfolaoiaa.RefDerive Go.Proofs.Ytjcofbjfolaoiaa.Chain Go.Proofs.Ytjcofbjfolaoiaa.RefSum Go.Proofs.Ytjcofbjfolaoiaa.ShaSums Go.Proofs.Ytjcofbjfolaoiaa.HmacKeys

theorem range_below {w w' : World} {b o : Nat} {L : List Value} (h : w.rangeAt b o L) (hb : Below w.heap.size w w') : w'.rangeAt b o L := fun i v hv => (hb.cell (World.block_lt_of_cell? w _ (h i v hv))).trans (h i v hv)
theorem range_row {w : World} {b : Nat} {C : Array Value} {T : TypeId} (h : w.heap[b]? = some (.cells C T (0, 0))) : w.rangeAt b 0 C.toList := fun i v hv => by
  rw [Nat.zero_add, cell_of_row w b i _ _ _ h]
  simpa using hv
theorem wp_storeArr {P : Program} {w : World} {o : Oper} {a : Act} {K : Act → World → Prop} {Q : Exit → Act → World → Prop} (hd : o.dst = none) (ty : TypeId) (p x : Operand) (ho : o.op = .store ty p x)
    (g : Nat) (hp : a.eval p = .pointer (some ⟨g, 0, none⟩)) (c : Array Value) (hx : a.eval x = .agg c) (t : TypeId) (old : Array Value) (hg : w.heap[g]? = some (.cells old t (0, 0))) (hi : (P.info? ty).map (·.size) = some c.size) (hs : old.size = c.size) (h1 : c.all (·.oneCell') = true)
    (h : K a (w.setRow g c)) : o.wp P a w K Q := by
  refine wp_run_skip hd ?_ h
  unfold execOp
  simp only [ho, hp, hx, Instr.storeAt, Instr.sureAddr, Sem.run_bind, Sem.run_pure, Result.andThen_ok, run_storeVar_row w g t ty old c hg hi hs h1]
set_option maxHeartbeats 2000000 in
set_option maxRecDepth 100000 in
theorem rnext_ok (key : List Int) (hk : Byte key) (A : Option Addr) (s c : Nat) (hs : 1 ≤ s ∧ s ≤ 1000) (t : List Int) (ht : t.length = 32) (hbt : Byte t) (r : List Int) (hl : r.length = 6) (hr : okN r 6) (w : World) (h0 : Rd .u8 w A s c key) (T : List Int) (hT : link (logK key) t (bytesR r) = T) :
    Calls Try.prog 59 #[.slice A s c, .agg (bytesA t), .agg (recA r)] w fun e w' => e = .returned (.agg (bytesA T)) ∧ Below w.heap.size w w' := by
  have HK := As.mk hk
  have HS := As.mk hs
  have HT := As.mk ht
  have HBT := As.mk hbt
  have HL := As.mk hl
  have HR := As.mk hr
  have HTT := As.mk hT
  have HT32 := As.mk (show T.length = 32 by rw [← hT]; exact link_len _ _ _)
  have VT2 := As.mk (bytesA32 HT32.out)
  have HRS : As ((r.map (Value.int .i64)).length = 6) := ⟨by rw [List.length_map, hl]⟩
  have HKS : As ((t.map (Value.int .u8)).length = 32) := ⟨by rw [List.length_map, ht]⟩
  have HB0 := As.mk (below_alloc (below_alloc (below_alloc (Below.refl w.heap.size w) (.cells (bytesA t) 102)) (.cells (recA r) 101)) (.cells Z32 102))
  have A0 := As.mk (alloc3_0 w (.cells (bytesA t) 102) (.cells (recA r) 101) (.cells Z32 102))
  have A1 := As.mk (alloc3_1 w (.cells (bytesA t) 102) (.cells (recA r) 101) (.cells Z32 102))
  have A2 := As.mk (alloc3_2 w (.cells (bytesA t) 102) (.cells (recA r) 101) (.cells Z32 102))
  have H1 := As.mk (h0.below HB0.out)
  clear hk hs ht hbt hl h0 hr hT
  go_enter Try.func59, Try.ntmps59
  go_wp2_with (first
    | (refine wpList_boxArr rfl 101 _ rfl (recA r) rfl ?_)
    | (refine wpList_allocArr rfl 102 rfl Z32 Go.Proofs.Ytjcofbjfolaoiaa.Sum.z32 ?_; refine As.out ?_))
  refine As.mk ?_
  generalize ((w.alloc _).alloc _).alloc _ = w0 at *
  have R0 : w0.rangeAt w.heap.size 0 (t.map (Value.int .u8)) := range_row A0.out
  have R1 : w0.rangeAt (w.heap.size + 1) 0 (r.map (Value.int .i64)) := range_row A1.out
  have HBD := As.mk (below_drewN HB0.out 1)
  have A2D : As ((w0.drewN 1).heap[w.heap.size + 1 + 1]? = some (.cells Z32 102 (0, 0))) := ⟨A2.out⟩
  have H1D := As.mk (H1.out.drewN 1)
  have R0D : As ((w0.drewN 1).rangeAt w.heap.size 0 (t.map (Value.int .u8))) := ⟨R0⟩
  have R1D : As ((w0.drewN 1).rangeAt (w.heap.size + 1) 0 (r.map (Value.int .i64))) := ⟨R1⟩
  go_wp2
  refine wp_region_held_drew (S := fun W : World => W.rangeAt w.heap.size 0 (t.map (Value.int .u8)) ∧ W.rangeAt (w.heap.size + 1) 0 (r.map (Value.int .i64))) (by kernel_rfl) ⟨R0D.out, R1D.out⟩ (fun hHeld => ?_)
  refine wpAnyH_take (i := 0) (v := .slice A s c) rfl (by kernel_rfl) (by kernel_rfl) (by kernel_rfl) (fun _ _ _ h => h) (Or.inl ⟨by rfl, fun W hW => by go_simp⟩) hHeld ?_
  try simp only [Act.put, List.setIfInBounds_toArray, List.set_cons_zero, List.set_cons_succ, List.getElem_toArray, List.getElem_cons_zero, List.getElem_cons_succ]
  refine wpAnyH_take (i := 2) (v := .agg (t.map (Value.int .u8)).toArray) rfl (by kernel_rfl) (by kernel_rfl) (by kernel_rfl) (fun _ _ _ h => h) (yieldsIf_load_mid (by rfl) _ _ rfl _ _ rfl (t.map (Value.int .u8)) _ (fun W h => h.1) uArr32 rfl (by rw [HKS.out]; exact arr_info)) hHeld ?_
  try simp only [Act.put, List.setIfInBounds_toArray, List.set_cons_zero, List.set_cons_succ, List.getElem_toArray, List.getElem_cons_zero, List.getElem_cons_succ]
  refine wpAnyH_take (i := 3) (v := .agg (r.map (Value.int .i64)).toArray) rfl (by kernel_rfl) (by kernel_rfl) (by kernel_rfl) (fun _ _ _ h => h) (yieldsIf_load_mid (by rfl) _ _ rfl _ _ rfl (r.map (Value.int .i64)) _ (fun W h => h.2) Try.underlying101 rfl (by rw [HRS.out]; exact info_rec)) hHeld ?_
  try simp only [Act.put, List.setIfInBounds_toArray, List.set_cons_zero, List.set_cons_succ, List.getElem_toArray, List.getElem_cons_zero, List.getElem_cons_succ]
  refine wpAnyH_ready (rs := [1]) (by kernel_rfl) (by simp) (AllReadyH.cons rfl (fun K' hK => ?_) AllReadyH.nil)
  go_simp
  refine (rkey_ok key HK.out A s c HS.out _ H1D.out).mono ?_
  rintro e w2 ⟨A2', c2, rfl, hr2, hb2⟩
  have HK2 := As.mk hr2
  have HB2 := As.mk (below_step HBD.out hb2)
  have A22 := As.mk ((hb2.block _ (Array.getElem?_eq_some_iff.1 A2D.out).1).trans A2D.out)
  have S2 := As.mk (And.intro (range_below R0D.out hb2) (range_below R1D.out hb2))
  clear hr2 hb2
  refine hK.out _ _ S2.out (fun hHeld => ?_)
  clear hK
  try simp only [Act.put, List.setIfInBounds_toArray, List.set_cons_zero, List.set_cons_succ, List.getElem_toArray, List.getElem_cons_zero, List.getElem_cons_succ]
  refine wpAnyH_ready (rs := [4]) (by kernel_rfl) (by simp) (AllReadyH.cons rfl (fun K' hK => ?_) AllReadyH.nil)
  go_simp
  refine (bytesR_any r HL.out HR.out w2).mono ?_
  rintro e w3 ⟨A3, c3, rfl, ho3, hb3⟩
  have HO3 := As.mk (own_rd_at ho3)
  have HK3 := As.mk (HK2.out.below hb3)
  have HB3 := As.mk (below_step HB2.out hb3)
  have A23 := As.mk ((hb3.block _ (Array.getElem?_eq_some_iff.1 A22.out).1).trans A22.out)
  have S3 := As.mk (And.intro (range_below S2.out.1 hb3) (range_below S2.out.2 hb3))
  clear ho3 hb3
  refine hK.out _ _ S3.out (fun hHeld => ?_)
  clear hK
  try simp only [Act.put, List.setIfInBounds_toArray, List.set_cons_zero, List.set_cons_succ, List.getElem_toArray, List.getElem_cons_zero, List.getElem_cons_succ]
  refine wpAnyH_ready (rs := [5]) (by kernel_rfl) (by simp) (AllReadyH.cons rfl (fun K' hK => ?_) AllReadyH.nil)
  go_simp
  refine (next_any (logK key) t (bytesR r) (logK_byte key) HBT.out (outN_byte r 6) HT.out A2' A3 32 c2 48 c3 w3 (by decide) (by decide) HK3.out HO3.out T HTT.out).mono ?_
  rintro e w4 ⟨rfl, hb4⟩
  have HB4 := As.mk (below_step HB3.out hb4)
  have A24 := As.mk ((hb4.block _ (Array.getElem?_eq_some_iff.1 A23.out).1).trans A23.out)
  have S4 := As.mk (And.intro (range_below S3.out.1 hb4) (range_below S3.out.2 hb4))
  clear hb4
  refine hK.out _ _ S4.out (fun hHeld => ?_)
  clear hK
  try simp only [Act.put, List.setIfInBounds_toArray, List.set_cons_zero, List.set_cons_succ, List.getElem_toArray, List.getElem_cons_zero, List.getElem_cons_succ]
  refine wpAnyH_ready (rs := [6]) (by kernel_rfl) (by simp) (AllReadyH.cons rfl (fun K' hK => ?_) AllReadyH.nil)
  rw [if_pos (by rfl)]
  refine wp_storeArr rfl 102 _ _ rfl (w.heap.size + 1 + 1) rfl (bytesA T) rfl 102 Z32 A24.out (by rw [VT2.out]; exact arr_info) (by rw [VT2.out]; rfl) (bytesA_one T) ?_
  have S5 : (w4.setRow (w.heap.size + 1 + 1) (bytesA T)).rangeAt w.heap.size 0 (t.map (Value.int .u8)) ∧ (w4.setRow (w.heap.size + 1 + 1) (bytesA T)).rangeAt (w.heap.size + 1) 0 (r.map (Value.int .i64)) := by
    refine ⟨fun i v hv => ?_, fun i v hv => ?_⟩
    · have h := S4.out.1 i v hv
      have e := setRow_far w4 (w.heap.size + 1 + 1) w.heap.size (bytesA T) (by omega)
      simp only [World.cell?] at h ⊢
      rw [e]
      exact h
    · have h := S4.out.2 i v hv
      have e := setRow_far w4 (w.heap.size + 1 + 1) (w.heap.size + 1) (bytesA T) (by omega)
      simp only [World.cell?] at h ⊢
      rw [e]
      exact h
  refine hK.out _ _ S5 (fun hHeld => ?_)
  clear hK
  refine wpAnyH_done (by kernel_rfl) ?_ _
  go_wp2
  refine bodyPost_ret (v := .agg (bytesA T)) ?_ rfl ⟨rfl, below_setRow HB4.out (by omega) _⟩
  exact results_cell_row Try.results59 _ _ (w.heap.size + 1 + 1) 102 (bytesA T) (0, 0) _ rfl (setRow_new w4 (w.heap.size + 1 + 1) Z32 (bytesA T) _ A24.out) uArr32 rfl (by rw [VT2.out]; exact arr_info)
end Go.Proofs.Ytjcofbjfolaoiaa.Admin
