/- rows of the call's own whose elements are slices of bytes that are read. -/
import Derived.Test.YtpijkibhjklkoaaHmacTag
import Derived.Test.YtpijkibhjklkoaaMem6
import Derived.Test.YtpijkibhjklkoaaPut
namespace Go.Proofs.Ytpijkibhjklkoaa.Parts
set_option linter.unusedVariables false
set_option linter.unusedSimpArgs false
open Go Go.RowKit Go.Proofs.Ytpijkibhjklkoaa.Mem Go.Proofs.Ytpijkibhjklkoaa.Put32 Go.Proofs.Ytpijkibhjklkoaa.Sum Go.Proofs.Ytpijkibhjklkoaa.Hmac

/-- an element: a slice of bytes, read, apart from a row -/
def Elem (w : World) (row : Option Nat) (v : Value) (p : List Int) : Prop :=
  ∃ Aj cj, v = .slice Aj p.length cj ∧ Rd .u8 w Aj p.length cj p ∧ (0 < p.length → ∀ ad, Aj = some ad → some ad.block ≠ row)
theorem rd_empty {w w' : World} {A : Option Addr} {n c : Nat} {x : List Int} (h : Rd .u8 w A n c x) (h0 : n = 0) : Rd .u8 w' A n c x := ⟨h.len, h.le, h.cap, fun hn => by omega⟩
theorem rd_lt {w : World} {ad : Addr} {n c : Nat} {x : List Int} (h : Rd .u8 w (some ad) n c x) (h0 : 0 < n) : ad.block < w.heap.size := by
  obtain ⟨ad', e, hc⟩ := h.cells h0
  cases e
  have := World.block_lt_of_cell? w _ (hc 0 h0)
  have hb : (ad.add 0).block = ad.block := by unfold Addr.add; split <;> rfl
  rwa [hb] at this
theorem Elem.below {w w' : World} {row : Option Nat} {v : Value} {p : List Int} (h : Elem w row v p) (hb : Below w.heap.size w w') : Elem w' row v p := by
  obtain ⟨A, c, e, hr, ha⟩ := h
  exact ⟨A, c, e, hr.below hb, ha⟩
theorem Elem.step {w w' : World} {row row' : Option Nat} {v : Value} {p : List Int} (h : Elem w row v p) (hg : w.grownBy w' row) (hat : row' = row ∨ row' = some w.heap.size) : Elem w' row' v p := by
  obtain ⟨A, c, e, hr, ha⟩ := h
  rcases Nat.eq_zero_or_pos p.length with h0 | h0
  · exact ⟨A, c, e, rd_empty hr h0, fun hp => by omega⟩
  · refine ⟨A, c, e, hr.grown hg (ha h0), fun _ ad ea => ?_⟩
    rcases hat with rfl | rfl
    · exact ha h0 ad ea
    · subst ea
      have := rd_lt hr h0
      intro he
      injection he with he
      omega
/-- an element whose block stands already is apart from a row that is new -/
theorem Elem.of_rd {w : World} {A : Option Addr} {c : Nat} {p : List Int} (row : Option Nat) (hr : Rd .u8 w A p.length c p) (h : ∀ ad, A = some ad → ad.block < w.heap.size → some ad.block ≠ row) : Elem w row (.slice A p.length c) p :=
  ⟨A, c, rfl, hr, fun h0 ad ea => h ad ea (by subst ea; exact rd_lt hr h0)⟩
theorem Elem.mk' {w : World} {A : Option Addr} {n c : Nat} {p : List Int} {row : Option Nat} (hr : Rd .u8 w A n c p) (h : 0 < n → ∀ ad, A = some ad → some ad.block ≠ row) : Elem w row (.slice A n c) p := by
  have := hr.len
  subst this
  exact ⟨A, c, rfl, hr, h⟩
theorem own_apart {w1 : World} {B n m c : Nat} {A : Option Addr} {x : List Value} {row : Option Nat} (h : OwnAt w1 B (.slice A n c) m x) (hrow : ∀ k, row = some k → k < B) : ∀ ad, A = some ad → some ad.block ≠ row := by
  rintro ad rfl e
  have h1 := (h.lt ad.block rfl).1
  have h2 := hrow _ e.symm
  omega
theorem old_apart {w : World} {n c : Nat} {A : Option Addr} {x : List Int} {row : Option Nat} (h : Rd .u8 w A n c x) (hrow : ∀ k, row = some k → w.heap.size ≤ k) : 0 < n → ∀ ad, A = some ad → some ad.block ≠ row := by
  rintro h0 ad rfl e
  have h1 := rd_lt h h0
  have h2 := hrow _ e.symm
  omega
theorem Elem.newrow {w W : World} {row row' : Option Nat} {v : Value} {p : List Int} (h : Elem w row v p) (hb : Below w.heap.size w W) (hrow : ∀ k, row' = some k → w.heap.size ≤ k) : Elem W row' v p := by
  obtain ⟨A, c, e, hr, _⟩ := h
  exact ⟨A, c, e, hr.below hb, fun h0 => old_apart hr hrow h0⟩
structure Parts (w : World) (base : Nat) (v : Value) (n : Nat) (L : List Value) (ps : List (List Int)) : Prop where
  len : ps.length = n
  own : OwnAt w base v n L
  each : ∀ j, j < n → ∃ u, L[j]? = some u ∧ Elem w v.ownBlock u (nthP ps j)
theorem Parts.nil (w : World) (base : Nat) : Parts w base (.slice none 0 0) 0 [] [] := ⟨rfl, OwnAt.nil _ _, fun j hj => by omega⟩
theorem Parts.below {w w' : World} {base : Nat} {v : Value} {n : Nat} {L : List Value} {ps : List (List Int)} (h : Parts w base v n L ps) (hb : Below w.heap.size w w') : Parts w' base v n L ps :=
  ⟨h.len, h.own.below hb, fun j hj => by
    obtain ⟨u, e, he⟩ := h.each j hj
    exact ⟨u, e, he.below hb⟩⟩
theorem nthP_left (ps qs : List (List Int)) (j : Nat) (h : j < ps.length) : nthP (ps ++ qs) j = nthP ps j := by
  simp [nthP, List.getD_eq_getElem?_getD, List.getElem?_append_left h]
theorem nthP_right (ps qs : List (List Int)) (j : Nat) (h : ps.length ≤ j) : nthP (ps ++ qs) j = nthP qs (j - ps.length) := by
  simp [nthP, List.getD_eq_getElem?_getD, List.getElem?_append_right h]
/-- some more elements -/
theorem Parts.app {w w' : World} {base : Nat} {v v' : Value} {n m : Nat} {L vs : List Value} {ps qs : List (List Int)} (h : Parts w base v n L ps) (hq : qs.length = m)
    (hv : ∀ j, j < m → ∃ u, vs[j]? = some u ∧ Elem w v.ownBlock u (nthP qs j)) (hown : OwnAt w' base v' (n + m) (L ++ vs)) (hg : w.grownBy w' v.ownBlock) (hat : v'.ownBlock = v.ownBlock ∨ v'.ownBlock = some w.heap.size) :
    Parts w' base v' (n + m) (L ++ vs) (ps ++ qs) := by
  have hL : L.length = n := h.own.1
  refine ⟨by rw [List.length_append, h.len, hq], hown, fun j hj => ?_⟩
  by_cases hjn : j < n
  · obtain ⟨u, e, he⟩ := h.each j hjn
    exact ⟨u, by rw [List.getElem?_append_left (by omega)]; exact e, by rw [nthP_left _ _ _ (by rw [h.len]; exact hjn)]; exact he.step hg hat⟩
  · obtain ⟨u, e, he⟩ := hv (j - n) (by omega)
    exact ⟨u, by rw [List.getElem?_append_right (by omega), hL]; exact e, by rw [nthP_right _ _ _ (by rw [h.len]; omega), h.len]; exact he.step hg hat⟩
theorem Parts.rdp {w : World} {base : Nat} {A : Option Addr} {c n : Nat} {L : List Value} {ps : List (List Int)} (h : Parts w base (.slice A n c) n L ps) : RdP w A n c ps :=
  rdp_of_own h.own h.len (own_caps h.own) fun j hj => by
    obtain ⟨u, e, Aj, cj, rfl, hr, _⟩ := h.each j hj
    exact ⟨Aj, cj, e, hr⟩
theorem Parts.src {w : World} {base : Nat} {A : Option Addr} {c n : Nat} {L : List Value} {ps : List (List Int)} (h : Parts w base (.slice A n c) n L ps) : Go.Proofs.Ytpijkibhjklkoaa.Mem.Src w (.slice A n c) n 1 L :=
  Src.own h.own fun u hu => by
    obtain ⟨j, hj, rfl⟩ := List.mem_iff_getElem.1 hu
    obtain ⟨u, e, Aj, cj, rfl, hr, _⟩ := h.each j (by rw [← h.own.1]; exact hj)
    rw [List.getElem?_eq_getElem hj] at e
    injection e with e
    rw [e]; rfl
theorem own_rd_at {w : World} {base n c : Nat} {A : Option Addr} {x : List Int} (h : OwnAt w base (.slice A n c) n (x.map (Value.int .u8))) : Rd .u8 w A n c x := by
  obtain ⟨A', c', e, hr⟩ := OwnAt.rd h
  cases e
  exact hr
theorem Parts.newrow {w W : World} {base : Nat} {v : Value} {n : Nat} {L : List Value} {ps : List (List Int)} (h : Parts w base v n L ps) (hb : Below w.heap.size w W) (row' : Option Nat) (hrow : ∀ k, row' = some k → w.heap.size ≤ k) :
    ∀ j, j < n → ∃ u, L[j]? = some u ∧ Elem W row' u (nthP ps j) := fun j hj => by
  obtain ⟨u, e, he⟩ := h.each j hj
  exact ⟨u, e, he.newrow hb hrow⟩
theorem Parts.one {w : World} {B n c : Nat} {A : Option Addr} {x : List Int} {T : TypeId} (h : OwnAt w B (.slice A n c) n (x.map (Value.int .u8))) :
    Parts (w.alloc (.cells #[.slice A n c] T)) w.heap.size (.slice (some ⟨w.heap.size, 0, none⟩) 1 1) 1 [.slice A n c] [x] :=
  ⟨rfl, OwnAt.lit w T [.slice A n c] (by show 1 ≤ maxLen; decide), fun j hj => by
    obtain rfl : j = 0 := by omega
    refine ⟨_, rfl, Elem.below ?_ (below_alloc (Below.refl w.heap.size w) _)⟩
    refine Elem.mk' (own_rd_at h) fun _ ad ea e => ?_
    subst ea
    have h1 := (h.lt ad.block rfl).2
    injection e with e
    simp at e
    omega⟩
end Go.Proofs.Ytpijkibhjklkoaa.Parts
