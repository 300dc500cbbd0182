/- chatelaineref05.Kinds, Begin. -/
import Derived.Test.YtpijkibhjklkoaaRefPrimes
import Derived.Test.YtpijkibhjklkoaaRefRootsA
import Derived.Test.YtpijkibhjklkoaaRefRootsB
namespace Go.Proofs.Ytpijkibhjklkoaa.Roots
set_option linter.unusedVariables false
set_option linter.unusedSimpArgs false
open Go Go.RowKit Go.Proofs.Ytpijkibhjklkoaa.Mem Go.Proofs.Ytpijkibhjklkoaa.Put32 Go.Proofs.Ytpijkibhjklkoaa.Pad Go.Proofs.Ytpijkibhjklkoaa.Sum Go.Proofs.Ytpijkibhjklkoaa.RefWith Go.Proofs.Ytpijkibhjklkoaa.ShaParts Go.Proofs.Ytpijkibhjklkoaa.Kinds
theorem infoU : (Try.prog.info? 51).map (fun i => (i.zero, i.size, i.bytes)) = some (some (.int .u32 0), 1, 4) := by kernel_rfl

def kindsN : List Nat := [1116352408, 1899447441, 3049323471, 3921009573, 961987163, 1508970993, 2453635748, 2870763221, 3624381080, 310598401, 607225278, 1426881987, 1925078388, 2162078206, 2614888103, 3248222580, 3835390401, 4022224774, 264347078, 604807628, 770255983, 1249150122, 1555081692, 1996064986, 2554220882, 2821834349, 2952996808, 3210313671, 3336571891, 3584528711, 113926993, 338241895, 666307205, 773529912, 1294757372, 1396182291, 1695183700, 1986661051, 2177026350, 2456956037, 2730485921, 2820302411, 3259730800, 3345764771, 3516065817, 3600352804, 4094571909, 275423344, 430227734, 506948616, 659060556, 883997877, 958139571, 1322822218, 1537002063, 1747873779, 1955562222, 2024104815, 2227730452, 2361852424, 2428436474, 2756734187, 3204031479, 3329325298]
def beginN : List Nat := [1779033703, 3144134277, 1013904242, 2773480762, 1359893119, 2600822924, 528734635, 1541459225]
theorem kinds_N : toI kindsN = kindsL := by kernel_rfl
theorem begin_N : toI beginN = beginL := by kernel_rfl
theorem prm310 : prm 310 = [2, 3, 5, 7, 11, 13, 17, 19, 23, 29, 31, 37, 41, 43, 47, 53, 59, 61, 67, 71, 73, 79, 83, 89, 97, 101, 103, 107, 109, 113, 127, 131, 137, 139, 149, 151, 157, 163, 167, 173, 179, 181, 191, 193, 197, 199, 211, 223, 227, 229, 233, 239, 241, 251, 257, 263, 269, 271, 277, 281, 283, 293, 307, 311] := by kernel_rfl
theorem prm18 : prm 18 = [2, 3, 5, 7, 11, 13, 17, 19] := by kernel_rfl
theorem len309 : (prm 309).length = 63 := by kernel_rfl
theorem len17 : (prm 17).length = 7 := by kernel_rfl
theorem rootsAre_app {k : Nat} : ∀ {a b c d : List Nat}, a.length = c.length → rootsAre k a c = true → rootsAre k b d = true → rootsAre k (a ++ b) (c ++ d) = true
  | [], _, [], _, _, _, h => h
  | x :: a, b, y :: c, d, hl, h1, h2 => by
    simp only [rootsAre, Bool.and_eq_true] at h1
    show (_ && _) = true
    rw [Bool.and_eq_true]
    exact ⟨h1.1, rootsAre_app (by simpa using hl) h1.2 h2⟩
  | [], _, _ :: _, _, hl, _, _ => by simp at hl
  | _ :: _, _, [], _, hl, _, _ => by simp at hl
theorem rootsAre_at {k : Nat} : ∀ {ps vs : List Nat} (i p v : Nat), rootsAre k ps vs = true → ps[i]? = some p → vs[i]? = some v → rootF (p : Int) k = v
  | [], _, i, p, v, _, h, _ => by simp at h
  | _ :: _, [], i, p, v, _, _, h => by simp at h
  | x :: ps, y :: vs, 0, p, v, h, h1, h2 => by
    simp only [rootsAre, Bool.and_eq_true, beq_iff_eq] at h
    simp at h1 h2
    subst h1 h2
    exact h.1
  | x :: ps, y :: vs, i + 1, p, v, h, h1, h2 => by
    simp only [rootsAre, Bool.and_eq_true] at h
    exact rootsAre_at i p v h.2 (by simpa using h1) (by simpa using h2)
theorem all64 : rootsAre 3 (prm 310) kindsN = true := by
  rw [prm310]
  exact (rootsAre_app (by rfl) third0 (rootsAre_app (by rfl) third8 (rootsAre_app (by rfl) third16 (rootsAre_app (by rfl) third24 (rootsAre_app (by rfl) fourth0 (rootsAre_app (by rfl) fourth8 (rootsAre_app (by rfl) fourth16 fourth24)))))))
theorem all8 : rootsAre 2 (prm 18) beginN = true := by
  rw [prm18]
  exact second0
theorem less310 (d : Nat) (h : d < 310) : (prm d).length < 64 := by
  have := prm_mono (309 - d) d
  rw [show d + (309 - d) = 309 by omega, len309] at this
  omega
theorem less18 (d : Nat) (h : d < 18) : (prm d).length < 8 := by
  have := prm_mono (17 - d) d
  rw [show d + (17 - d) = 17 by omega, len17] at this
  omega
theorem len310 : (prm 310).length = 64 := by rw [prm310]; rfl
theorem len18 : (prm 18).length = 8 := by rw [prm18]; rfl
theorem take_app_one (l : List Nat) (i v : Nat) (h : l[i]? = some v) : ((toI l).take (i + 1)).map (Value.int .u32) = ((toI l).take i).map (Value.int .u32) ++ [.int .u32 (v : Int)] := by
  have hi := (List.getElem?_eq_some_iff.1 h).1
  have hv := (List.getElem?_eq_some_iff.1 h).2
  rw [List.take_succ_eq_append_getElem (by rw [toI, List.length_map]; exact hi), List.map_append, List.map_cons, List.map_nil]
  congr 3
  simp [toI, hv]

set_option maxHeartbeats 2000000 in
set_option maxRecDepth 100000 in
theorem kinds_ref (w : World) : Calls Try.prog 35 #[] w fun r w' => ∃ A c, r = .returned (.slice A 64 c) ∧ Below w.heap.size w w' ∧ OwnAt w' w.heap.size (.slice A 64 c) 64 (kindsL.map (Value.int .u32)) := by
  go_enter Try.func35, Try.ntmps35
  go_wp2_with (go_at_call 59; (refine (primes_any 64 310 (by decide) len310 less310 w).mono ?_); rintro e w1 ⟨A1, c1, rfl, hb, ho⟩; have HB1 := As.mk hb; have HO1 := As.mk ho; clear hb ho; refine As.out ?_)
  refine As.mk ?_
  go_wp2
  go_loopg [1, 3] 64 (fun kq v1 v3 wr => ∃ (i : Nat) (A' : Option Addr) (c' : Nat), i + kq = 64 ∧ v1 = .slice A' i c' ∧ v3 = .int .i64 i ∧ As (OwnAt wr w1.heap.size (.slice A' i c') i (((toI kindsN).take i).map (Value.int .u32))) ∧ As (Below w1.heap.size w1 wr))
  case atStart => exact ⟨0, none, 0, by omega, rfl, rfl, ⟨OwnAt.nil _ _⟩, ⟨Below.refl _ _⟩⟩
  case round =>
    obtain ⟨i, A', c', hi, rfl, rfl, HO, HB⟩ := hrel
    have HI := As.mk hi
    clear hi
    by_cases hlt : i < 64
    · have e0 : decide ((i : Int) < 64) = true := decide_eq_true (by omega)
      have e1 : decide (i < 64) = true := decide_eq_true hlt
      have Li : (i : Int) < 64 := by omega
      have hw : wrap64 ((i : Int) + 1) = ((i + 1 : Nat) : Int) := wrap_up (by omega)
      obtain ⟨q, hq⟩ : ∃ q, (prm 310)[i]? = some q := ⟨_, List.getElem?_eq_getElem (by rw [len310]; exact hlt)⟩
      obtain ⟨v, hv⟩ : ∃ v, kindsN[i]? = some v := ⟨_, List.getElem?_eq_getElem (show i < kindsN.length from hlt)⟩
      obtain ⟨ad, ea, hx⟩ := (HO1.out.below HB.out).cell i (.int .i64 (q : Int)) (by rw [List.getElem?_map, toI, List.getElem?_map, hq]; rfl)
      cases ea
      have HV := As.mk (rootsAre_at i q v all64 hq hv)
      have HT := As.mk (take_app_one kindsN i v hv)
      have HLI := As.mk hlt
      clear hq hv hlt
      go_wp2_with (first
        | (go_at_call 60; (refine (root_any (q : Int) 3 (by decide) wr).mono ?_); rintro e w2 ⟨rfl, hb⟩; rw [HV.out]; have HB2 := As.mk (below_step HB.out hb); have HO2 := As.mk (HO.out.below hb); clear hb)
        | (at_builtin; refine wpList_app_one rfl (.tmp 9) (.tmp 15) 54 rfl w1.heap.size 51 (.int .u32 0) 4 Try.underlying54 infoU rfl _ i _ rfl HO2.out _ _ rfl rfl ?c1 ?c2 HB2.out.size HB2.out (Nat.le_refl _) ?_; (case c1 => have := HLI.out; unfold maxLen; omega); (case c2 => have := HLI.out; omega); intro A3 c3 w3 hown hg hat hb; have HO3 := As.mk hown; have HB3 := As.mk hb; clear hown hg hat hb))
      go_roundg (64 - (i + 1))
      case measure => have := HI.out; have := HLI.out; omega
      case rel =>
        refine ⟨i + 1, A3, c3, by have := HI.out; have := HLI.out; omega, rfl, by go_num, ⟨?_⟩, HB3⟩
        rw [HT.out]
        exact HO3.out
    · have e0 : decide ((i : Int) < 64) = false := decide_eq_false (by omega)
      have e1 : decide (i < 64) = false := decide_eq_false hlt
      obtain rfl : i = 64 := by have := HI.out; omega
      go_wp2
      go_ret
      refine ⟨A', c', rfl, below_step HB1.out HB.out, ?_⟩
      have h := HO.out
      rw [List.take_of_length_le (by decide), kinds_N] at h
      exact h.weaken HB1.out.size

set_option maxHeartbeats 2000000 in
set_option maxRecDepth 100000 in
theorem begin_ref (w : World) : Calls Try.prog 38 #[] w fun r w' => ∃ A c, r = .returned (.slice A 8 c) ∧ Below w.heap.size w w' ∧ OwnAt w' w.heap.size (.slice A 8 c) 8 (beginL.map (Value.int .u32)) := by
  go_enter Try.func38, Try.ntmps38
  go_wp2_with (go_at_call 59; (refine (primes_any 8 18 (by decide) len18 less18 w).mono ?_); rintro e w1 ⟨A1, c1, rfl, hb, ho⟩; have HB1 := As.mk hb; have HO1 := As.mk ho; clear hb ho; refine As.out ?_)
  refine As.mk ?_
  go_wp2
  go_loopg [1, 3] 8 (fun kq v1 v3 wr => ∃ (i : Nat) (A' : Option Addr) (c' : Nat), i + kq = 8 ∧ v1 = .slice A' i c' ∧ v3 = .int .i64 i ∧ As (OwnAt wr w1.heap.size (.slice A' i c') i (((toI beginN).take i).map (Value.int .u32))) ∧ As (Below w1.heap.size w1 wr))
  case atStart => exact ⟨0, none, 0, by omega, rfl, rfl, ⟨OwnAt.nil _ _⟩, ⟨Below.refl _ _⟩⟩
  case round =>
    obtain ⟨i, A', c', hi, rfl, rfl, HO, HB⟩ := hrel
    have HI := As.mk hi
    clear hi
    by_cases hlt : i < 8
    · have e0 : decide ((i : Int) < 8) = true := decide_eq_true (by omega)
      have e1 : decide (i < 8) = true := decide_eq_true hlt
      have Li : (i : Int) < 8 := by omega
      have hw : wrap64 ((i : Int) + 1) = ((i + 1 : Nat) : Int) := wrap_up (by omega)
      obtain ⟨q, hq⟩ : ∃ q, (prm 18)[i]? = some q := ⟨_, List.getElem?_eq_getElem (by rw [len18]; exact hlt)⟩
      obtain ⟨v, hv⟩ : ∃ v, beginN[i]? = some v := ⟨_, List.getElem?_eq_getElem (show i < beginN.length from hlt)⟩
      obtain ⟨ad, ea, hx⟩ := (HO1.out.below HB.out).cell i (.int .i64 (q : Int)) (by rw [List.getElem?_map, toI, List.getElem?_map, hq]; rfl)
      cases ea
      have HV := As.mk (rootsAre_at i q v all8 hq hv)
      have HT := As.mk (take_app_one beginN i v hv)
      have HLI := As.mk hlt
      clear hq hv hlt
      go_wp2_with (first
        | (go_at_call 60; (refine (root_any (q : Int) 2 (by decide) wr).mono ?_); rintro e w2 ⟨rfl, hb⟩; rw [HV.out]; have HB2 := As.mk (below_step HB.out hb); have HO2 := As.mk (HO.out.below hb); clear hb)
        | (at_builtin; refine wpList_app_one rfl (.tmp 9) (.tmp 15) 54 rfl w1.heap.size 51 (.int .u32 0) 4 Try.underlying54 infoU rfl _ i _ rfl HO2.out _ _ rfl rfl ?c1 ?c2 HB2.out.size HB2.out (Nat.le_refl _) ?_; (case c1 => have := HLI.out; unfold maxLen; omega); (case c2 => have := HLI.out; omega); intro A3 c3 w3 hown hg hat hb; have HO3 := As.mk hown; have HB3 := As.mk hb; clear hown hg hat hb))
      go_roundg (8 - (i + 1))
      case measure => have := HI.out; have := HLI.out; omega
      case rel =>
        refine ⟨i + 1, A3, c3, by have := HI.out; have := HLI.out; omega, rfl, by go_num, ⟨?_⟩, HB3⟩
        rw [HT.out]
        exact HO3.out
    · have e0 : decide ((i : Int) < 8) = false := decide_eq_false (by omega)
      have e1 : decide (i < 8) = false := decide_eq_false hlt
      obtain rfl : i = 8 := by have := HI.out; omega
      go_wp2
      go_ret
      refine ⟨A', c', rfl, below_step HB1.out HB.out, ?_⟩
      have h := HO.out
      rw [List.take_of_length_le (by decide), begin_N] at h
      exact h.weaken HB1.out.size

end Go.Proofs.Ytpijkibhjklkoaa.Roots
