/- chatelainelaw06.awake tells true. HmacKeys: the law's walk. chatelaineref06.Tag. hmac.Chain: tags, one out of the other. chatelaineref06.Next Rows of arrays of 32 bytes: one element read; a row of parts, cut; chains, plain. -/
import Derived.Test.YteajblfkfmopfaaHmacTag
import Derived.Test.YteajblfkfmopfaaSteps
import Derived.Test.YteajblfkfmopfaaRefHmac
import Derived.Test.YteajblfkfmopfaaParts
import Derived.Great.BuildSlice
namespace Go.Proofs.Yteajblfkfmopfaa.HmacAwake
set_option linter.unusedVariables false
set_option linter.unusedSimpArgs false
open Go Go.RowKit Go.Proofs.Yteajblfkfmopfaa.Mem Go.Proofs.Yteajblfkfmopfaa.Put32 Go.Proofs.Yteajblfkfmopfaa.Pad Go.Proofs.Yteajblfkfmopfaa.Sum Go.Proofs.Yteajblfkfmopfaa.Eval Go.Proofs.Yteajblfkfmopfaa.RefWith Go.Proofs.Yteajblfkfmopfaa.RefSum Go.Proofs.Yteajblfkfmopfaa.ShaAwake Go.Proofs.Yteajblfkfmopfaa.ShaSums Go.Proofs.Yteajblfkfmopfaa.ShaParts Go.Proofs.Yteajblfkfmopfaa.Stretch Go.Proofs.Yteajblfkfmopfaa.Hmac

def hiKey : List Int := List.replicate 20 11
def hiMsg : List Int := [72, 105, 32, 84, 104, 101, 114, 101]
theorem inner : sumB (flip 54 (padKey hiKey) ++ hiMsg) = sumF 2 (flip 54 (padKey hiKey) ++ hiMsg) := sum_eq 2 _ (by kernel_rfl)
theorem outer (S : List Int) (h : S.length = 32) : sumB (flip 92 (padKey hiKey) ++ S) = sumF 2 (flip 92 (padKey hiKey) ++ S) := sum_eq 2 _ (by
  have h1 : (flip 92 (padKey hiKey)).length = 64 := by rw [flip_len, padKey_len]
  rw [List.length_append, pad_len, List.length_append, h1, h]
  rfl)
theorem hi4 : (sumF 2 (flip 92 (padKey hiKey) ++ sumF 2 (flip 54 (padKey hiKey) ++ hiMsg))).take 4 = [0xb0, 0x34, 0x4c, 0x61] := by kernel_rfl
theorem tag4 : (tagB hiKey hiMsg).take 4 = [0xb0, 0x34, 0x4c, 0x61] := by
  unfold tagB
  rw [outer _ (sumB_len _), inner]
  exact hi4
theorem msg_byte : ∀ p ∈ ([[72, 105, 32, 84, 104], [101, 114, 101]] : List (List Int)), Byte p := by
  intro p hp y hy
  simp at hp
  rcases hp with rfl | rfl
  · simp at hy; omega
  · simp at hy; omega
end Go.Proofs.Yteajblfkfmopfaa.HmacAwake
namespace Go.Proofs.Yteajblfkfmopfaa.HmacKeys
set_option linter.unusedVariables false
set_option linter.unusedSimpArgs false
open Go Go.RowKit Go.Proofs.Yteajblfkfmopfaa.Mem Go.Proofs.Yteajblfkfmopfaa.Put32 Go.Proofs.Yteajblfkfmopfaa.Pad Go.Proofs.Yteajblfkfmopfaa.Sum Go.Proofs.Yteajblfkfmopfaa.RefWith Go.Proofs.Yteajblfkfmopfaa.RefSum Go.Proofs.Yteajblfkfmopfaa.ShaAwake Go.Proofs.Yteajblfkfmopfaa.ShaSums Go.Proofs.Yteajblfkfmopfaa.ShaParts Go.Proofs.Yteajblfkfmopfaa.Stretch Go.Proofs.Yteajblfkfmopfaa.Hmac

theorem pad_more (key : List Int) (m : Nat) (h : key.length + m ≤ 64) : padKey (key ++ List.replicate m 0) = padKey key := by
  unfold padKey
  rw [if_neg (by rw [List.length_append, List.length_replicate]; omega), if_neg (by omega), List.length_append, List.length_replicate, List.append_assoc, List.replicate_append_replicate]
  congr 2
  omega
theorem tag_more (key b : List Int) (m : Nat) (h : key.length + m ≤ 64) : tagB (key ++ List.replicate m 0) b = tagB key b := by
  unfold tagB
  rw [pad_more key m h]

theorem byte_app {x y : List Int} (hx : Byte x) (hy : Byte y) : Byte (x ++ y) := fun v h => (List.mem_append.1 h).elim (hx v) (hy v)
theorem tag_one (key b T : List Int) (hT : tagB key b = T) (hk : Byte key) (hb : Byte b) (A B : Option Addr) (s c m d : Nat) (hs : s ≤ 1099511627776) (hm : m ≤ 1000000000) (W : World) (bl : Nat) (t : TypeId)
    (hg : W.heap[bl]? = some (.cells #[.slice B m d] t (0, 0))) (h0 : Rd .u8 W A s c key) (h1 : Rd .u8 W B m d b) :
    Calls Try.prog 150 #[.slice A s c, .slice (some ⟨bl, 0, none⟩) 1 1] W fun e w' => e = .returned (.agg (T.map (Value.int .u8)).toArray) ∧ Below W.heap.size W w' := by
  have hp : RdP W (some ⟨bl, 0, none⟩) 1 1 [b] := ⟨rfl, Nat.le_refl _, by decide, fun _ => ⟨_, rfl, fun j hj => by
    obtain rfl : j = 0 := by omega
    rw [Addr.add_lit, cell_of_row W bl 0 _ _ _ hg]
    exact ⟨B, d, congrArg (fun m => some (Value.slice B m d)) h1.len.symm, h1.len.symm ▸ h1⟩⟩⟩
  exact tag_any key hk A s c [b] (by intro p hp; simp at hp; subst hp; exact hb) _ 1 1 W hs (by decide) (by simp [h1.len]; omega) h0 hp T (by simpa using hT)
theorem rdp_three (W : World) (b : Nat) (T : TypeId) (p0 p1 p2 : List Int) (A0 A1 A2 : Option Addr) (n0 n1 n2 c0 c1 c2 : Nat) (hg : W.heap[b]? = some (.cells #[.slice A0 n0 c0, .slice A1 n1 c1, .slice A2 n2 c2] T (0, 0)))
    (h0 : Rd .u8 W A0 n0 c0 p0) (h1 : Rd .u8 W A1 n1 c1 p1) (h2 : Rd .u8 W A2 n2 c2 p2) : RdP W (some ⟨b, 0, none⟩) 3 3 [p0, p1, p2] :=
  ⟨rfl, Nat.le_refl _, by decide, fun _ => ⟨_, rfl, fun j hj => by
    have hc := fun k => cell_of_row W b k _ _ _ hg
    rw [Addr.add_lit, Nat.zero_add, hc j]
    rcases (show j = 0 ∨ j = 1 ∨ j = 2 by omega) with rfl | rfl | rfl
    · exact ⟨A0, c0, congrArg (fun m => some (Value.slice A0 m c0)) h0.len.symm, h0.len.symm ▸ h0⟩
    · exact ⟨A1, c1, congrArg (fun m => some (Value.slice A1 m c1)) h1.len.symm, h1.len.symm ▸ h1⟩
    · exact ⟨A2, c2, congrArg (fun m => some (Value.slice A2 m c2)) h2.len.symm, h2.len.symm ▸ h2⟩⟩⟩
theorem tag_three (key b T : List Int) (hT : tagB key b = T) (hk : Byte key) (hb : Byte b) (A B : Option Addr) (s c m d i : Nat) (hs : s ≤ 1099511627776) (hm : m ≤ 1000000000) (hi : i ≤ m) (W : World) (bl : Nat) (t : TypeId)
    (hg : W.heap[bl]? = some (.cells #[.slice (cutA B d 0 1) i d, .slice none 0 0, .slice (cutA B d i 1) (m - i) (d - i)] t (0, 0))) (h0 : Rd .u8 W A s c key) (h1 : Rd .u8 W B m d b) :
    Calls Try.prog 150 #[.slice A s c, .slice (some ⟨bl, 0, none⟩) 3 3] W fun e w' => e = .returned (.agg (T.map (Value.int .u8)).toArray) ∧ Below W.heap.size W w' := by
  have h3 := h1.cut i m hi (Nat.le_refl _)
  have e3 : (b.drop i).take (m - i) = b.drop i := List.take_of_length_le (by rw [List.length_drop, h1.len]; exact Nat.le_refl _)
  rw [e3] at h3
  have hp := rdp_three W bl t _ _ _ _ _ _ _ _ _ _ _ _ hg (h1.to i hi) (Rd.nil _ _ _ _ (by decide)) h3
  have hf : [b.take i, [], b.drop i].flatten = b := by simp
  exact tag_any key hk A s c [b.take i, [], b.drop i] (by
    intro p hp y hy
    simp only [List.mem_cons, List.not_mem_nil, or_false] at hp
    rcases hp with rfl | rfl | rfl
    · exact hb y (List.mem_of_mem_take hy)
    · simp at hy
    · exact hb y (List.mem_of_mem_drop hy)) _ 3 3 W hs (by decide) (by rw [hf, h1.len]; omega) h0 hp T (by rw [hf]; exact hT)

end Go.Proofs.Yteajblfkfmopfaa.HmacKeys
namespace Go.Proofs.Yteajblfkfmopfaa.RefHmac
set_option linter.unusedVariables false
set_option linter.unusedSimpArgs false
open Go Go.RowKit Go.Proofs.Yteajblfkfmopfaa.Mem Go.Proofs.Yteajblfkfmopfaa.Put32 Go.Proofs.Yteajblfkfmopfaa.Pad Go.Proofs.Yteajblfkfmopfaa.Sum Go.Proofs.Yteajblfkfmopfaa.RefWith Go.Proofs.Yteajblfkfmopfaa.RefSum Go.Proofs.Yteajblfkfmopfaa.ShaAwake Go.Proofs.Yteajblfkfmopfaa.ShaSums Go.Proofs.Yteajblfkfmopfaa.ShaParts Go.Proofs.Yteajblfkfmopfaa.Stretch Go.Proofs.Yteajblfkfmopfaa.Hmac Go.Proofs.Yteajblfkfmopfaa.Parts

theorem sumA_bytesA (x S : List Int) (h : sumB x = S) : sumA x = bytesA S := by rw [← h]; rfl
theorem byte_app' {x y : List Int} (hx : Byte x) (hy : Byte y) : Byte (x ++ y) := fun v h => (List.mem_append.1 h).elim (hx v) (hy v)
theorem src_at {w : World} {A : Option Addr} {n c : Nat} {x : List Int} (h : Rd .u8 w A n c x) : Go.Proofs.Yteajblfkfmopfaa.Mem.Src w (.slice A n c) n 1 (x.map (Value.int .u8)) := Src.rd h
theorem key_54 (key : List Int) (hk : Byte key) (A : Option Addr) (n c : Nat) (w : World) (hn : n ≤ 1099511627776) (h0 : Rd .u8 w A n c key) :
    Calls Try.prog 199 #[.slice A n c, .int .u8 54] w fun e w' => ∃ A' c', e = .returned (.slice A' 64 c') ∧ Below w.heap.size w w' ∧ OwnAt w' w.heap.size (.slice A' 64 c') 64 ((flip 54 (padKey key)).map (Value.int .u8)) :=
  key_any key hk A n c 54 (by decide) w hn h0
theorem key_92 (key : List Int) (hk : Byte key) (A : Option Addr) (n c : Nat) (w : World) (hn : n ≤ 1099511627776) (h0 : Rd .u8 w A n c key) :
    Calls Try.prog 199 #[.slice A n c, .int .u8 92] w fun e w' => ∃ A' c', e = .returned (.slice A' 64 c') ∧ Below w.heap.size w w' ∧ OwnAt w' w.heap.size (.slice A' 64 c') 64 ((flip 92 (padKey key)).map (Value.int .u8)) :=
  key_any key hk A n c 92 (by decide) w hn h0
set_option maxHeartbeats 2000000 in
set_option maxRecDepth 100000 in
theorem tag_ref (key b : List Int) (hk : Byte key) (hbb : Byte b) (A B : Option Addr) (n c m d : Nat) (w : World) (hn : n ≤ 1099511627776) (hm : m ≤ 1000000000) (h0 : Rd .u8 w A n c key) (h1 : Rd .u8 w B m d b) (T : List Int) (hT : tagB key b = T) :
    Calls Try.prog 154 #[.slice A n c, .slice B m d] w fun e w' => e = .returned (.agg (bytesA T)) ∧ Below w.heap.size w w' := by
  have HK := As.mk hk
  have HBB := As.mk hbb
  have HN := As.mk hn
  have HMM := As.mk hm
  have HT := As.mk hT
  have HTL := As.mk (show T.length = 32 by rw [← hT]; exact tagB_len _ _)
  have VT := As.mk (show (bytesA T).size = 32 by rw [bytesA_size]; exact HTL.out)
  have HB0 := As.mk (below_alloc (Below.refl w.heap.size w) (.cells Z32 43))
  have HZ0 := As.mk (heap_alloc_new w (.cells Z32 43))
  have HS0 := As.mk (show w.heap.size < (w.alloc (.cells Z32 43)).heap.size by simp)
  have H0 := As.mk (h0.below HB0.out)
  have H1 := As.mk (h1.below HB0.out)
  obtain ⟨I, hI⟩ : ∃ I, I = flip 54 (padKey key) := ⟨_, rfl⟩
  obtain ⟨O, hO⟩ : ∃ O, O = flip 92 (padKey key) := ⟨_, rfl⟩
  obtain ⟨S, hS⟩ : ∃ S, sumB (I ++ b) = S := ⟨_, rfl⟩
  have HI := As.mk hI
  have HO := As.mk hO
  have HS := As.mk hS
  have HSL := As.mk (show S.length = 32 by rw [← hS]; exact sumB_len _)
  have HIB := As.mk (show Byte I by rw [hI]; exact flip_byte 54 _ (padKey_byte _ hk) (by omega))
  have HOB := As.mk (show Byte O by rw [hO]; exact flip_byte 92 _ (padKey_byte _ hk) (by omega))
  have HSB := As.mk (show Byte S by rw [← hS]; exact sumB_byte _)
  have HTT := As.mk (show sumB (O ++ S) = T by rw [← hT, hO, ← hS, hI]; rfl)
  clear hk hbb hn hm hT h0 h1 hI hO hS
  go_enter Try.func154, Try.ntmps154
  go_wp2_with (refine wpList_allocArr rfl 43 rfl Z32 z32 ?_; refine As.out ?_)
  refine As.mk ?_
  generalize w.alloc _ = w0 at *
  go_wp2_with (first
    | (go_at_call 199; (with_reducible refine (key_54 key HK.out A n c w0 HN.out H0.out).mono ?_); rintro e w1 ⟨A1, c1, rfl, hb, ho⟩; rw [← HI.out] at ho; have HO1 := As.mk ho; have HB1 := As.mk hb; have H11 := As.mk (H1.out.below hb); have H01 := As.mk (H0.out.below hb); clear hb ho)
    | (at_builtin; refine wpList_app2 rfl (.tmp 9) (.tmp 10) 37 rfl w0.heap.size 5 (.int .u8 0) 1 Try.underlying37 CloneB.info rfl _ 64 _ rfl HO1.out _ m _ rfl (src_at H11.out) ?c1 ?c2 HB1.out.size HB1.out (Nat.le_refl _) ?_; (case c1 => have := HMM.out; unfold maxLen; omega); (case c2 => have := HMM.out; omega); intro v2 w2 hown hg hat hb; obtain ⟨A2, c2, rfl⟩ := hown.slice; rw [← List.map_append] at hown; have HO2 := As.mk hown; have HB2 := As.mk hb; have H02 := As.mk (H0.out.below hb); clear hown hg hat hb)
    | (go_at_call 199; refine As.out ?_))
  refine As.mk ?_
  refine (key_92 key HK.out A n c w2 HN.out H02.out).mono ?_
  rintro e w3 ⟨A3, c3, rfl, hb, ho⟩
  rw [← HO.out] at ho
  have HO3 := As.mk ho
  have HR3 := As.mk (own_rd_at (HO2.out.below hb))
  have HB3 := As.mk hb
  clear hb ho
  go_wp2_with (first
    | (go_at_call 200; (with_reducible refine (RefSum.sum_ref (I ++ b) (byte_app' HIB.out HBB.out) A2 (64 + m) c2 w3 ?c3 HR3.out).mono ?_); (case c3 => have := HMM.out; omega); rintro e w4 ⟨rfl, hb⟩; rw [sumA_bytesA _ S HS.out]; have HB4 := As.mk (below_step HB3.out hb); have HO4 := As.mk (HO3.out.below hb); clear hb)
    | (go_at_call 153; (with_reducible refine (list_any S HSL.out w4).mono ?_); rintro e w5 ⟨A5, c5, rfl, hb, ho⟩; have HB5 := As.mk (below_step HB4.out hb); have HO5 := As.mk (HO4.out.below hb); have HL5 := As.mk (own_rd_at ho); clear hb ho)
    | (at_builtin; refine wpList_app2 rfl (.tmp 14) (.tmp 17) 37 rfl w2.heap.size 5 (.int .u8 0) 1 Try.underlying37 CloneB.info rfl _ 64 _ rfl HO5.out _ 32 _ rfl (src_at HL5.out) ?c4 ?c5 HB5.out.size HB5.out (Nat.le_refl _) ?_; (case c4 => unfold maxLen; omega); (case c5 => omega); intro v6 w6 hown hg hat hb; obtain ⟨A6, c6, rfl⟩ := hown.slice; rw [← List.map_append] at hown; have HO6 := As.mk (own_rd_at hown); have HB6 := As.mk hb; clear hown hg hat hb; refine As.out ?_))
  refine As.mk ?_
  have HBW := As.mk (below_step HB2.out HB6.out)
  clear HB3 HB4 HB5 HO3 HO4 HO5 HR3 HL5
  go_wp2_with (first
    | (go_at_call 200; (refine (RefSum.sum_ref (O ++ S) (byte_app' HOB.out HSB.out) A6 (64 + 32) c6 w6 (by decide) HO6.out).mono ?_); rintro e w7 ⟨rfl, hb⟩; rw [sumA_bytesA _ T HTT.out]; have HB7 := As.mk (below_step HBW.out hb); clear hb)
    | (refine wpList_storeArr rfl rfl 43 _ _ rfl w.heap.size rfl (bytesA T) rfl 43 Z32 ?c6 (by rw [VT.out]; kernel_rfl) (by rw [VT.out]; kernel_rfl) (bytesA_one T) ?_; (case c6 => exact (HB7.out.block _ HS0.out).trans HZ0.out); refine As.out ?_))
  refine As.mk ?_
  go_wp2
  refine bodyPost_ret (v := .agg (bytesA T)) ?_ rfl ⟨rfl, below_setRow (below_step' (Nat.le_of_lt HS0.out) HB0.out HB7.out) (Nat.le_refl _) _⟩
  exact results_cell_row Try.results154 _ _ w.heap.size 43 (bytesA T) (0, 0) _ rfl (setRow_new w7 w.heap.size Z32 (bytesA T) _ ((HB7.out.block _ HS0.out).trans HZ0.out)) uArr32 rfl (by rw [VT.out]; kernel_rfl)
end Go.Proofs.Yteajblfkfmopfaa.RefHmac
namespace Go.Proofs.Yteajblfkfmopfaa.Chain
set_option linter.unusedVariables false
set_option linter.unusedSimpArgs false
open Go Go.RowKit Go.Proofs.Yteajblfkfmopfaa.Mem Go.Proofs.Yteajblfkfmopfaa.Put32 Go.Proofs.Yteajblfkfmopfaa.Pad Go.Proofs.Yteajblfkfmopfaa.Sum Go.Proofs.Yteajblfkfmopfaa.RefWith Go.Proofs.Yteajblfkfmopfaa.RefSum Go.Proofs.Yteajblfkfmopfaa.ShaAwake Go.Proofs.Yteajblfkfmopfaa.ShaSums Go.Proofs.Yteajblfkfmopfaa.ShaParts Go.Proofs.Yteajblfkfmopfaa.Stretch Go.Proofs.Yteajblfkfmopfaa.Hmac Go.Proofs.Yteajblfkfmopfaa.HmacKeys Go.Proofs.Yteajblfkfmopfaa.Parts

/-- one link -/
def link (key t p : List Int) : List Int := tagB key (t ++ (bytes8 p.length ++ p))
/-- the last tag behind items -/
def lastB (key : List Int) : List Int → List (List Int) → List Int
  | t, [] => t
  | t, p :: ps => lastB key (link key t p) ps
/-- all tags -/
def chainB (key : List Int) : List Int → List (List Int) → List (List Int)
  | _, [] => []
  | t, p :: ps => link key t p :: chainB key (link key t p) ps
theorem link_len (key t p : List Int) : (link key t p).length = 32 := tagB_len _ _
theorem link_byte (key t p : List Int) : Byte (link key t p) := sumB_byte _
theorem lastB_snoc (key : List Int) : ∀ (ps : List (List Int)) (t p : List Int), lastB key t (ps ++ [p]) = link key (lastB key t ps) p
  | [], _, _ => rfl
  | q :: ps, t, p => lastB_snoc key ps (link key t q) p
theorem chainB_snoc (key : List Int) : ∀ (ps : List (List Int)) (t p : List Int), chainB key t (ps ++ [p]) = chainB key t ps ++ [link key (lastB key t ps) p]
  | [], _, _ => rfl
  | q :: ps, t, p => by
    show _ :: chainB key _ (ps ++ [p]) = _ :: (chainB key _ ps ++ [_])
    rw [chainB_snoc key ps]
    rfl
theorem chainB_app (key : List Int) : ∀ (ps qs : List (List Int)) (t : List Int), chainB key t (ps ++ qs) = chainB key t ps ++ chainB key (lastB key t ps) qs
  | [], _, _ => rfl
  | q :: ps, qs, t => by
    show _ :: chainB key _ (ps ++ qs) = _ :: (chainB key _ ps ++ _)
    rw [chainB_app key ps]
    rfl
theorem chainB_len (key : List Int) : ∀ (ps : List (List Int)) (t : List Int), (chainB key t ps).length = ps.length
  | [], _ => rfl
  | q :: ps, t => congrArg (· + 1) (chainB_len key ps _)
theorem lastB_len (key : List Int) : ∀ (ps : List (List Int)) (t : List Int), t.length = 32 → (lastB key t ps).length = 32
  | [], _, h => h
  | q :: ps, t, _ => lastB_len key ps _ (link_len _ _ _)
theorem lastB_byte (key : List Int) : ∀ (ps : List (List Int)) (t : List Int), Byte t → Byte (lastB key t ps)
  | [], _, h => h
  | q :: ps, t, _ => lastB_byte key ps _ (link_byte _ _ _)
theorem chainB_all (key : List Int) : ∀ (ps : List (List Int)) (t : List Int), ∀ u ∈ chainB key t ps, u.length = 32 ∧ Byte u
  | [], _, u, h => by cases h
  | q :: ps, t, u, h => by
    rcases List.mem_cons.1 h with rfl | h
    · exact ⟨link_len _ _ _, link_byte _ _ _⟩
    · exact chainB_all key ps _ u h
/-- a row of arrays, cell by cell -/
def flat (l : List (List Int)) : List Value := l.flatten.map (Value.int .u8)
theorem flat_snoc (l : List (List Int)) (u : List Int) : flat (l ++ [u]) = flat l ++ u.map (Value.int .u8) := by
  unfold flat
  rw [List.flatten_append, List.map_append, List.flatten_cons, List.flatten_nil, List.append_nil]
theorem infoA : (Try.prog.info? 43).map (fun i => (i.zero, i.size, i.bytes)) = some (some (.agg Z32), 32, 32) := by kernel_rfl
theorem z32_cells : (Value.agg Z32).cells.size = 32 := by kernel_rfl
theorem take_snoc (ps : List (List Int)) (i : Nat) (h : i < ps.length) : ps.take (i + 1) = ps.take i ++ [nthP ps i] := by
  rw [List.take_succ_eq_append_getElem h, nthP, List.getD_eq_getElem?_getD, List.getElem?_eq_getElem h]
  rfl
/-- an array's cells in a block of their own, as one element -/
theorem src_arr {w : World} {b : Nat} {T : TypeId} {x : List Int} (h : w.heap[b]? = some (.cells (bytesA x) T (0, 0))) (hx : x.length = 32) : Go.Proofs.Yteajblfkfmopfaa.Mem.Src w (.slice (some ⟨b, 0, none⟩) 1 1) 1 32 (x.map (Value.int .u8)) :=
  ⟨by rw [List.length_map, hx], ints_oneCell .u8 x, .inl ⟨_, _, rfl, fun j v hv => by
    rw [Addr.add_lit, Nat.zero_add, cell_of_row w b j _ _ _ h, bytesA, List.getElem?_toArray]
    exact hv⟩⟩

theorem tag_link (key t p : List Int) (hk : Byte key) (ht : Byte t) (hp : Byte p) (lt : t.length = 32) (m : Nat) (hm : m = p.length) (hmm : m ≤ 1000000) (b : Nat) (A : Option Addr) (n c : Nat) (Aj : Option Addr) (cj : Nat) (A2 : Option Addr) (c2 : Nat) (wr w2 : World) (hn : n ≤ 1099511627776)
    (h0 : Rd .u8 wr A n c key) (hz : wr.heap[b]? = some (.cells (bytesA t) 43 (0, 0))) (hr : Rd .u8 wr Aj m cj p) (hb : Below wr.heap.size wr w2) (h2 : Rd .u8 w2 A2 8 c2 (bytes8 m)) :
    Calls Try.prog 150 #[.slice A n c, .slice (some ⟨w2.heap.size, 0, none⟩) 3 3] (w2.alloc (.cells #[.slice (some ⟨b, 0, none⟩) 32 32, .slice A2 8 c2, .slice Aj m cj] 37)) fun e w' => e = .returned (.agg (bytesA (link key t p))) ∧ Below wr.heap.size wr w' := by
  have hba := below_alloc hb (.cells #[.slice (some ⟨b, 0, none⟩) 32 32, .slice A2 8 c2, .slice Aj m cj] 37)
  have hbb := below_alloc (Below.refl w2.heap.size w2) (.cells #[.slice (some ⟨b, 0, none⟩) 32 32, .slice A2 8 c2, .slice Aj m cj] 37)
  have hrt := rd_block hz lt (by decide)
  have hq := rdp_three _ w2.heap.size 37 t (bytes8 m) p _ _ _ _ _ _ _ _ _ (heap_alloc_new w2 (.cells #[.slice (some ⟨b, 0, none⟩) 32 32, .slice A2 8 c2, .slice Aj m cj] 37)) (hrt.below hba) (h2.below hbb) (hr.below hba)
  refine (tag_any key hk A n c [t, bytes8 m, p] (by
    intro q hq y hy
    simp only [List.mem_cons, List.not_mem_nil, or_false] at hq
    rcases hq with rfl | rfl | rfl
    · exact ht y hy
    · exact bytes8_byte m y hy
    · exact hp y hy) _ 3 3 _ hn (by decide) (by have := bytes8_len m; simp [lt]; omega) (h0.below hba) hq (link key t p) (by rw [link, hm]; simp)).mono ?_
  rintro e w' ⟨rfl, hb'⟩
  exact ⟨rfl, below_step hba hb'⟩

theorem there_x {W : World} {b : Nat} {T : TypeId} {x : List Int} (h : W.heap[b]? = some (.cells (bytesA x) T (0, 0))) (hx : x.length = 32) : W.there b 0 32 := fun j hj => by
  rw [Nat.zero_add]
  refine ⟨?_, frozen_of_row W b j _ _ h⟩
  rw [cell_of_row W b j _ _ _ h]
  have : j < (bytesA x).size := by rw [bytesA_size, hx]; exact hj
  simp [this]
theorem set_x {W : World} {b : Nat} {T : TypeId} {x : List Int} (h : W.heap[b]? = some (.cells (bytesA x) T (0, 0))) (hx : x.length = 32) (L : List Value) (hL : L.length = 32) : (W.setCells b 0 L).heap[b]? = some (.cells L.toArray T (0, 0)) := by
  obtain ⟨cur, h1, h2, h3⟩ := setCells_heap b L 0 W _ T h (by rw [bytesA_size, hx, hL]; exact Nat.le_refl _)
  rw [h1]
  congr 2
  refine Array.ext_getElem? fun i => ?_
  rw [h3 i]
  by_cases hi : i < 32
  · rw [if_pos ⟨Nat.zero_le _, by omega⟩, List.getElem?_toArray]; rfl
  · rw [if_neg (by omega), Array.getElem?_eq_none (by rw [bytesA_size, hx]; omega), Array.getElem?_eq_none (by rw [List.size_toArray]; omega)]
theorem grown_setCells {w w1 : World} (h : Below w.heap.size w w1) (b o : Nat) (L : List Value) : w.grownBy (w1.setCells b o L) (some b) := by
  obtain ⟨h1, h2, h3, h4⟩ := setCells_rest b L o w1
  exact ⟨h1.trans h.os, h2.trans h.tape, h3.trans h.output, by rw [h4]; exact h.size, fun k hk hne => (setCells_other b L o w1 k (fun e => hne (by rw [e]))).trans (h.block k hk)⟩

/-- a slice literal of one array -/
theorem wpList_build_one {P : Program} {ops : Array Oper} {rest : List Oper} {o : Oper} {a : Act} {w : World} {Q : Exit → Act → World → Prop} (hg : o.guard = none) (t e : TypeId) (x : Operand) (ho : o.op = .buildSlice t 1 #[(0, x)])
    (cs : Array Value) (n : Nat) (z : Value) (bytes : Nat) (hu : P.underlying t = some (.slice e)) (hinfo : (P.info? e).map (fun i => (i.zero, i.size, i.bytes)) = some (some z, n, bytes)) (hn : 0 < n ∧ n ≤ 16777216)
    (hx : a.eval x = .agg cs) (hc : cs.size = n)
    (h : wpList P ops Q rest (a.put o.dst (.slice (some ⟨w.heap.size, 0, none⟩) 1 1)) (w.alloc (.cells cs e))) : wpList P ops Q (o :: rest) a w := by
  obtain ⟨i, hi, hz, h1, h2⟩ := info_parts hinfo
  refine wpList_buildSlice hg t e 1 #[(0, x)] ho cs i z hu hi hz (by rw [h1]; omega) (by rw [h1]; omega) ?_ h
  rw [h1]
  have := Great.fill_whole (s := n) hn.1 [.agg cs] ((Array.range (1 * n)).map (z.cells[· % z.cells.size]!)) (by intro v hv; simp at hv; subst hv; exact hc) (by simp)
  simp only [List.map_toArray, List.map_cons, List.map_nil, hx]
  refine this.trans ?_
  simp [Value.cells]
end Go.Proofs.Yteajblfkfmopfaa.Chain
namespace Go.Proofs.Yteajblfkfmopfaa.Chain
set_option linter.unusedVariables false
set_option linter.unusedSimpArgs false
open Go Go.RowKit Go.Proofs.Yteajblfkfmopfaa.Mem Go.Proofs.Yteajblfkfmopfaa.Put32 Go.Proofs.Yteajblfkfmopfaa.Pad Go.Proofs.Yteajblfkfmopfaa.Sum Go.Proofs.Yteajblfkfmopfaa.RefWith Go.Proofs.Yteajblfkfmopfaa.RefSum Go.Proofs.Yteajblfkfmopfaa.ShaAwake Go.Proofs.Yteajblfkfmopfaa.ShaSums Go.Proofs.Yteajblfkfmopfaa.ShaParts Go.Proofs.Yteajblfkfmopfaa.Stretch Go.Proofs.Yteajblfkfmopfaa.Hmac Go.Proofs.Yteajblfkfmopfaa.HmacKeys Go.Proofs.Yteajblfkfmopfaa.Parts Go.Proofs.Yteajblfkfmopfaa.RefHmac

end Go.Proofs.Yteajblfkfmopfaa.Chain
namespace Go.Proofs.Yteajblfkfmopfaa.Chain
set_option linter.unusedVariables false
set_option linter.unusedSimpArgs false
open Go Go.RowKit Go.Proofs.Yteajblfkfmopfaa.Mem Go.Proofs.Yteajblfkfmopfaa.Put32 Go.Proofs.Yteajblfkfmopfaa.Pad Go.Proofs.Yteajblfkfmopfaa.Sum Go.Proofs.Yteajblfkfmopfaa.Hmac Go.Proofs.Yteajblfkfmopfaa.HmacKeys Go.Proofs.Yteajblfkfmopfaa.Parts

theorem flat_at : ∀ (l : List (List Int)) (j i : Nat) (v : Value), (∀ u ∈ l, u.length = 32) → ((nthP l j).map (Value.int .u8))[i]? = some v → (flat l)[j * 32 + i]? = some v
  | [], j, i, v, _, h => by simp [nthP] at h
  | u :: r, 0, i, v, hl, h => by
    have h1 : (u.map (Value.int .u8))[i]? = some v := h
    have h2 : i < (u.map (Value.int .u8)).length := (List.getElem?_eq_some_iff.1 h1).1
    show ((u ++ r.flatten).map (Value.int .u8))[0 * 32 + i]? = some v
    rw [List.map_append, Nat.zero_mul, Nat.zero_add, List.getElem?_append_left h2, h1]
  | u :: r, j + 1, i, v, hl, h => by
    have := flat_at r j i v (fun q hq => hl q (List.mem_cons_of_mem _ hq)) h
    have hu : (u.map (Value.int .u8)).length = 32 := by rw [List.length_map]; exact hl u (List.mem_cons_self ..)
    show ((u ++ r.flatten).map (Value.int .u8))[(j + 1) * 32 + i]? = some v
    rw [List.map_append, List.getElem?_append_right (by rw [hu]; omega), hu, show (j + 1) * 32 + i - 32 = j * 32 + i by omega]
    exact this
/-- the one shape of a row that the call owns and that is not empty -/
theorem own_shape {w : World} {base : Nat} {e : TypeId} {size n c : Nat} {A : Option Addr} {xs : List Value} (h : w.ownsRow base e size (.slice A n c) n xs) (hn : 0 < n) : ∃ g, A = some ⟨g, 0, none⟩ ∧ base ≤ g ∧ g < w.heap.size ∧ n ≤ c := by
  have hlt := h.lt
  rcases h.2 with ⟨_, h0⟩ | ⟨g, cap, cur, hv, hg, hh, hnc, _⟩
  · omega
  · injection hv with e1 e2 e3
    subst e1
    exact ⟨g, rfl, hg, (Array.getElem?_eq_some_iff.1 hh).1, by omega⟩
theorem own_kept {w w1 : World} {base : Nat} {e : TypeId} {size n : Nat} {v : Value} {xs : List Value} (h : w.ownsRow base e size v n xs) (hk : ∀ k, v.ownBlock = some k → w1.heap[k]? = w.heap[k]?) : w1.ownsRow base e size v n xs := by
  obtain ⟨h1, h2⟩ := h
  refine ⟨h1, ?_⟩
  rcases h2 with h2 | ⟨g, cap, cur, rfl, hg, hh, r⟩
  · exact .inl h2
  · exact .inr ⟨g, cap, cur, rfl, hg, (hk g rfl).trans hh, r⟩
theorem own_row_at {w : World} {base : Nat} {e : TypeId} {n c g : Nat} {l : List (List Int)} (h : w.ownsRow base e 32 (.slice (some ⟨g, 0, none⟩) n c) n (flat l)) (hl : ∀ u ∈ l, u.length = 32) (j : Nat) : w.rangeAt g (j * 32) ((nthP l j).map (Value.int .u8)) := by
  intro i v hv
  have := h.cells (g := g) rfl (j * 32 + i) v (flat_at l j i v hl hv)
  rwa [add0] at this
theorem own_src {w : World} {base : Nat} {e : TypeId} {size n c : Nat} {A : Option Addr} {xs : List Value} (h : w.ownsRow base e size (.slice A n c) n xs) (h1 : ∀ u ∈ xs, u.oneCell' = true) : Go.Proofs.Yteajblfkfmopfaa.Mem.Src w (.slice A n c) n size xs := by
  refine ⟨h.1, h1, ?_⟩
  rcases h.2 with ⟨hv, h0⟩ | ⟨g, cap, cur, hv, hg, hh, hnc, _⟩
  · injection hv with e1 e2 e3
    subst e1
    exact .inr ⟨c, by rw [h0], h0⟩
  · injection hv with e1 e2 e3
    subst e1
    exact .inl ⟨_, c, rfl, h.cells rfl⟩
theorem flat_one (l : List (List Int)) : ∀ u ∈ flat l, u.oneCell' = true := ints_oneCell .u8 _
theorem flat_app (a b : List (List Int)) : flat (a ++ b) = flat a ++ flat b := by unfold flat; rw [List.flatten_append, List.map_append]
theorem chainB_at (key : List Int) : ∀ (ps : List (List Int)) (t : List Int) (j : Nat), j < ps.length → nthP (chainB key t ps) j = link key (lastB key t (ps.take j)) (nthP ps j)
  | [], _, j, h => by simp at h
  | p :: ps, t, 0, _ => rfl
  | p :: ps, t, j + 1, h => chainB_at key ps (link key t p) j (by simpa using h)
theorem chainB_last (key : List Int) (ps : List (List Int)) (t : List Int) (k : Nat) (hk : k < ps.length) : nthP (chainB key t (ps.take (k + 1))) k = lastB key t (ps.take (k + 1)) := by
  rw [chainB_at key _ t k (by rw [List.length_take]; omega), List.take_take, Nat.min_eq_left (Nat.le_succ _), take_snoc ps k hk, lastB_snoc]
  congr 1
  exact Parts.nthP_right _ _ k (by rw [List.length_take]; omega) |>.trans (by rw [List.length_take, Nat.min_eq_left (by omega), Nat.sub_self]; rfl)
theorem nthP_take (ps : List (List Int)) (k j : Nat) (h : j < k) : nthP (ps.take k) j = nthP ps j := by
  rw [nthP, nthP, List.getD_eq_getElem?_getD, List.getD_eq_getElem?_getD, List.getElem?_take_of_lt h]
theorem nthP_drop (ps : List (List Int)) (k j : Nat) : nthP (ps.drop k) j = nthP ps (k + j) := by
  rw [nthP, nthP, List.getD_eq_getElem?_getD, List.getD_eq_getElem?_getD, List.getElem?_drop]
theorem RdP.to {w : World} {A : Option Addr} {n c : Nat} {ps : List (List Int)} (r : RdP w A n c ps) (k : Nat) (hk : k ≤ n) : RdP w (cutA A c 0 1) k c (ps.take k) := by
  refine ⟨by rw [List.length_take, r.len]; omega, by have := r.le; omega, r.cap, fun hp => ?_⟩
  obtain ⟨ad, rfl, hc⟩ := r.cells (by omega)
  have := r.le
  refine ⟨ad, by unfold cutA; rw [if_neg (by omega)]; show some (ad.add (0 * 1)) = some ad; rw [Nat.zero_mul]; congr 1, fun j hj => ?_⟩
  rw [nthP_take ps k j hj]
  exact hc j (by omega)
theorem RdP.from {w : World} {A : Option Addr} {n c : Nat} {ps : List (List Int)} (r : RdP w A n c ps) (k : Nat) (hk : k ≤ n) : RdP w (cutA A c k 1) (n - k) (c - k) (ps.drop k) := by
  refine ⟨by rw [List.length_drop, r.len], by have := r.le; omega, by have := r.cap; omega, fun hp => ?_⟩
  obtain ⟨ad, rfl, hc⟩ := r.cells (by omega)
  have := r.le
  refine ⟨ad.add k, by unfold cutA; rw [if_neg (by omega), Nat.mul_one]; rfl, fun j hj => ?_⟩
  rw [add_add, nthP_drop]
  exact hc (k + j) (by omega)
end Go.Proofs.Yteajblfkfmopfaa.Chain
