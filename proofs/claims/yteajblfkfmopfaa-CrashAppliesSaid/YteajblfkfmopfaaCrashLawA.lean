/- The statement CrashApplies. -/
import Derived.Test.YteajblfkfmopfaaCrashLawQ
namespace Go.Proofs.Yteajblfkfmopfaa.LawCrash
set_option linter.unusedVariables false
set_option linter.unusedSimpArgs false
open Go Go.RowKit Go.Proofs.Yteajblfkfmopfaa.Mem Go.Proofs.Yteajblfkfmopfaa.Put32 Go.Proofs.Yteajblfkfmopfaa.Sum Go.Proofs.Yteajblfkfmopfaa.Hmac Go.Proofs.Yteajblfkfmopfaa.Parts Go.Proofs.Yteajblfkfmopfaa.Entries Go.Proofs.Yteajblfkfmopfaa.CrashApply

set_option maxHeartbeats 2000000 in
set_option maxRecDepth 100000 in
theorem appl_few (w : World) (A E K : Option Addr) (n c m d kn kc : Nat) (ps : List (List Int)) (es : List (Int × List Int)) (hn : n ≤ 9223372036854775807) (hm : m ≤ 9223372036854775807) (h0 : RdP w A n c ps) (h1 : RdE w E m d es) (hf : few34 ps es = false) :
    Calls Try.prog 7 #[.slice A n c, .slice E m d, .slice K kn kc] w fun e w' => e = .returned (.bool true) ∧ Below w.heap.size w w' := by
  have HN := As.mk hn
  have HM := As.mk hm
  have H0 := As.mk h0
  have H1 := As.mk h1
  have HF := As.mk hf
  clear hn hm h0 h1 hf
  go_enter Try.func7, Try.ntmps7
  go_wp2_with (first
    | (go_at_call 43; (with_reducible refine (awake_true _).mono ?_); rintro e w1 ⟨rfl, hb⟩; have HB1 := As.mk hb; clear hb)
    | (go_at_call 44; (with_reducible refine (few34_any w1 A E n c m d ps es HN.out HM.out (H0.out.below HB1.out) (H1.out.below HB1.out) false HF.out).mono ?_); rintro e w2 ⟨rfl, hb⟩; have HB2 := As.mk (below_step HB1.out hb); clear hb))
  go_ret
  exact ⟨rfl, HB2.out⟩
set_option maxHeartbeats 2000000 in
set_option maxRecDepth 100000 in
theorem appl_forty (w : World) (A E K : Option Addr) (n c m d kn kc : Nat) (ps : List (List Int)) (es : List (Int × List Int)) (hn : n ≤ 12) (hm : m ≤ 14) (hk : 40 < kn) (h0 : RdP w A n c ps) (h1 : RdE w E m d es) (hf : few34 ps es = true) :
    Calls Try.prog 7 #[.slice A n c, .slice E m d, .slice K kn kc] w fun e w' => e = .returned (.bool true) ∧ Below w.heap.size w w' := by
  have HN := As.mk hn
  have HM := As.mk hm
  have H0 := As.mk h0
  have H1 := As.mk h1
  have HF := As.mk hf
  have hk' : (40 : Int) < (kn : Int) := by omega
  have c0 : decide ((40 : Int) < (kn : Int)) = true := decide_eq_true hk'
  have c1 : decide (40 < kn) = true := decide_eq_true hk
  clear hn hm h0 h1 hf
  go_enter Try.func7, Try.ntmps7
  go_wp2_with (first
    | (go_at_call 43; (with_reducible refine (awake_true _).mono ?_); rintro e w1 ⟨rfl, hb⟩; have HB1 := As.mk hb; clear hb)
    | (go_at_call 44; (with_reducible refine (few34_any w1 A E n c m d ps es (by have := HN.out; omega) (by have := HM.out; omega) (H0.out.below HB1.out) (H1.out.below HB1.out) true HF.out).mono ?_); rintro e w2 ⟨rfl, hb⟩; have HB2 := As.mk (below_step HB1.out hb); clear hb))
  go_ret
  exact ⟨rfl, HB2.out⟩
set_option maxHeartbeats 2000000 in
set_option maxRecDepth 100000 in
theorem appl_out (w : World) (A E K : Option Addr) (n c m d kn kc : Nat) (ps : List (List Int)) (es : List (Int × List Int)) (hn : n ≤ 12) (hm : m ≤ 14) (hk : kn ≤ 40) (h0 : RdP w A n c ps) (h1 : RdE w E m d es) (hf : few34 ps es = true) (hr : mayF n m es = 41) (hw : (!(es.any (outE n))) = false) :
    Calls Try.prog 7 #[.slice A n c, .slice E m d, .slice K kn kc] w fun e w' => e = .returned (.bool true) ∧ Below w.heap.size w w' := by
  have HN := As.mk hn
  have HM := As.mk hm
  have H0 := As.mk h0
  have H1 := As.mk h1
  have HF := As.mk hf
  have HR := As.mk hr
  have HW := As.mk hw
  have hk' : ¬ (40 : Int) < (kn : Int) := by omega
  have c0 : decide ((40 : Int) < (kn : Int)) = false := decide_eq_false hk'
  have c1 : decide (40 < kn) = false := decide_eq_false (by omega)
  clear hn hm h0 h1 hf hr hw
  go_enter Try.func7, Try.ntmps7
  go_wp2_with (first
    | (go_at_call 43; (with_reducible refine (awake_true _).mono ?_); rintro e w1 ⟨rfl, hb⟩; have HB1 := As.mk hb; clear hb)
    | (go_at_call 44; (with_reducible refine (few34_any w1 A E n c m d ps es (by have := HN.out; omega) (by have := HM.out; omega) (H0.out.below HB1.out) (H1.out.below HB1.out) true HF.out).mono ?_); rintro e w2 ⟨rfl, hb⟩; have HB2 := As.mk (below_step HB1.out hb); clear hb)
    | (go_at_call 45; (with_reducible refine (apply_bad w2 es A E K n c m d kn kc (by have := HM.out; omega) (H1.out.below HB2.out) 41 HR.out (by decide)).mono ?_); rintro e w3 ⟨rfl, hb⟩; have HB3 := As.mk (below_step HB2.out hb); clear hb)
    | (go_at_call 46; (with_reducible refine (within_any w3 n E m d es (by have := HM.out; omega) (H1.out.below HB3.out)).mono ?_); rintro e w4 ⟨rfl, hb⟩; rw [HW.out]; have HB4 := As.mk (below_step HB3.out hb); clear hb)
    | (go_at_call 47; (with_reducible refine (may_bad w4 es A E A n c m d n c (by have := HM.out; omega) (H1.out.below HB4.out) (.inl (by rw [HR.out]; decide))).mono ?_); rintro e w5 ⟨rfl, hb⟩; have HB5 := As.mk (below_step HB4.out hb); clear hb))
  go_ret
  exact ⟨rfl, HB5.out⟩
/-- bytes of one's own that are written over -/
def Soft (w : World) (A : Option Addr) (l lo hi : Nat) (ex : Option Nat) : Prop := 0 < l → ∃ g off, A = some ⟨g, off, none⟩ ∧ lo ≤ g ∧ g < hi ∧ some g ≠ ex ∧ ∀ t, t < l → (∃ z : Int, w.cell? ⟨g, off + t, none⟩ = some (.int .u8 z)) ∧ w.frozen? ⟨g, off + t, none⟩ = false
theorem Soft.of_own {w : World} {base l c : Nat} {A : Option Addr} {x : List Int} {ex : Option Nat} (h : OwnAt w base (.slice A l c) l (x.map (Value.int .u8))) (hx : x.length = l) (hne : ∀ b, (Value.slice A l c).ownBlock = some b → some b ≠ ex) : Soft w A l base w.heap.size ex := fun h0 => by
  obtain ⟨g, off, ea, hg, hh⟩ := own_shape h h0
  subst ea
  refine ⟨g, off, rfl, hg, hh, hne g rfl, fun t ht => ⟨?_, OwnAt.frozen h _⟩⟩
  obtain ⟨ad, e, hc⟩ := h.cell t (.int .u8 (x.getD t 0)) (by rw [List.getElem?_map, List.getD_eq_getElem?_getD, List.getElem?_eq_getElem (by omega)]; rfl)
  cases e
  rw [Addr.add_mid] at hc
  exact ⟨_, hc⟩
theorem Soft.below {w w' : World} {A : Option Addr} {l lo hi : Nat} {ex : Option Nat} (h : Soft w A l lo hi ex) (hb : Below w.heap.size w w') : Soft w' A l lo hi ex := fun h0 => by
  obtain ⟨g, off, ea, h1, h2, h3, h4⟩ := h h0
  refine ⟨g, off, ea, h1, h2, h3, fun t ht => ?_⟩
  obtain ⟨⟨z, hz⟩, hf⟩ := h4 t ht
  have hlt := World.block_lt_of_cell? w _ hz
  exact ⟨⟨z, (hb.cell hlt).trans hz⟩, (hb.frozen hlt).trans hf⟩
theorem Soft.set {w : World} {A : Option Addr} {l lo hi : Nat} {ex : Option Nat} (h : Soft w A l lo hi ex) (p : Addr) (y : Int) : Soft (w.setCell p (.int .u8 y)) A l lo hi ex := fun h0 => by
  obtain ⟨g, off, ea, h1, h2, h3, h4⟩ := h h0
  refine ⟨g, off, ea, h1, h2, h3, fun t ht => ?_⟩
  obtain ⟨⟨z, hz⟩, hf⟩ := h4 t ht
  refine ⟨?_, by rw [World.frozen?_setCell]; exact hf⟩
  by_cases e : p = ⟨g, off + t, none⟩
  · subst e
    exact ⟨y, World.cell?_setCell_same' _ _ _ (by rw [hz]; rfl)⟩
  · rw [World.cell?_setCell_other _ _ _ _ e]
    exact ⟨z, hz⟩
/-- all rows are one's own -/
def SoftAll (w : World) (L : List Value) (ps : List (List Int)) (n lo hi : Nat) (ex : Option Nat) : Prop := ∀ j, j < n → ∃ A c, L[j]? = some (.slice A (nthP ps j).length c) ∧ Soft w A (nthP ps j).length lo hi ex
theorem SoftAll.of_fresh {w : World} {base n : Nat} {v : Value} {L : List Value} {ps : List (List Int)} (h : Fresh w base v L ps n) : SoftAll w L ps n base w.heap.size v.ownBlock := fun j hj => by
  obtain ⟨A, c, e, ho, hn⟩ := h j hj
  exact ⟨A, c, e, Soft.of_own ho rfl hn⟩
theorem SoftAll.below {w w' : World} {L : List Value} {ps : List (List Int)} {n lo hi : Nat} {ex : Option Nat} (h : SoftAll w L ps n lo hi ex) (hb : Below w.heap.size w w') : SoftAll w' L ps n lo hi ex := fun j hj => by
  obtain ⟨A, c, e, hs⟩ := h j hj
  exact ⟨A, c, e, hs.below hb⟩
theorem SoftAll.set {w : World} {L : List Value} {ps : List (List Int)} {n lo hi : Nat} {ex : Option Nat} (h : SoftAll w L ps n lo hi ex) (p : Addr) (y : Int) : SoftAll (w.setCell p (.int .u8 y)) L ps n lo hi ex := fun j hj => by
  obtain ⟨A, c, e, hs⟩ := h j hj
  exact ⟨A, c, e, hs.set p y⟩
theorem rdp_old {w0 w : World} {base n c : Nat} {A : Option Addr} {L : List Value} {ps : List (List Int)} (h : OwnAt w base (.slice A n c) n L) (hl : ps.length = n) (ho : OldP w0 L n ps) (hb : Below w0.heap.size w0 w) : RdP w A n c ps :=
  rdp_of_own h hl (own_caps h) fun j hj => by
    obtain ⟨Aj, cj, e, hr⟩ := ho j hj
    exact ⟨Aj, cj, e, hr.below hb⟩
end Go.Proofs.Yteajblfkfmopfaa.LawCrash
