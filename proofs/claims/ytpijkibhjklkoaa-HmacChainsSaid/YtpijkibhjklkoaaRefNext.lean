/- chatelaineref06.Next -/
import Derived.Test.YtpijkibhjklkoaaChain
import Derived.Test.YtpijkibhjklkoaaRefTag
namespace Go.Proofs.Ytpijkibhjklkoaa.Chain
set_option linter.unusedVariables false
set_option linter.unusedSimpArgs false
open Go Go.RowKit Go.Proofs.Ytpijkibhjklkoaa.Mem Go.Proofs.Ytpijkibhjklkoaa.Put32 Go.Proofs.Ytpijkibhjklkoaa.Pad Go.Proofs.Ytpijkibhjklkoaa.Sum Go.Proofs.Ytpijkibhjklkoaa.RefWith Go.Proofs.Ytpijkibhjklkoaa.RefSum Go.Proofs.Ytpijkibhjklkoaa.ShaAwake Go.Proofs.Ytpijkibhjklkoaa.ShaSums Go.Proofs.Ytpijkibhjklkoaa.ShaParts Go.Proofs.Ytpijkibhjklkoaa.Stretch Go.Proofs.Ytpijkibhjklkoaa.Hmac Go.Proofs.Ytpijkibhjklkoaa.HmacKeys Go.Proofs.Ytpijkibhjklkoaa.Parts Go.Proofs.Ytpijkibhjklkoaa.RefHmac

set_option maxHeartbeats 2000000 in
set_option maxRecDepth 100000 in
theorem next_any (key t p : List Int) (hk : Byte key) (ht : Byte t) (hp : Byte p) (lt : t.length = 32) (A B : Option Addr) (n c m d : Nat) (w : World) (hn : n ≤ 1099511627776) (hm : m ≤ 1000000) (h0 : Rd .u8 w A n c key) (h1 : Rd .u8 w B m d p) (T : List Int) (hT : link key t p = T) :
    Calls Try.prog 46 #[.slice A n c, .agg (bytesA t), .slice B m d] w fun e w' => e = .returned (.agg (bytesA T)) ∧ Below w.heap.size w w' := by
  have HK := As.mk hk
  have HT := As.mk ht
  have HP := As.mk hp
  have LT := As.mk lt
  have HN := As.mk hn
  have HMM := As.mk hm
  have H0 := As.mk h0
  have H1 := As.mk h1
  have HM := As.mk (show m = p.length from h1.len.symm)
  have HTT := As.mk hT
  have e9 : IntKind.u64.wrap (m : Int) = (m : Int) := by rw [IntKind.wrap_u64]; omega
  clear hk ht hp lt hn hm h0 h1 hT
  go_enter Try.func46, Try.ntmps46
  have HB0 := As.mk (below_alloc (below_alloc (Below.refl w.heap.size w) (.cells (bytesA t) 44)) (.cells Z32 44))
  have A0 := As.mk (al2_0 w (.cells (bytesA t) 44) (.cells Z32 44))
  have A1 := As.mk (al2_1 w (.cells (bytesA t) 44) (.cells Z32 44))
  have S1 := As.mk (Array.getElem?_eq_some_iff.1 A1.out).1
  have KL := As.mk (show (bytesA t).size = 32 by rw [bytesA_size]; exact LT.out)
  have H00 := As.mk (H0.out.below HB0.out)
  have H10 := As.mk (H1.out.below HB0.out)
  go_wp2_with (refine wpList_allocArr rfl 44 rfl Z32 z32 ?_; refine As.out ?_)
  refine As.mk ?_
  generalize (w.alloc _).alloc _ = w0 at *
  clear H0 H1
  go_wp2_with (first
    | (refine wpList_load_row rfl 44 (.tmp 4) rfl w.heap.size rfl 44 (bytesA t) (0, 0) _ A0.out uArr32 rfl (by rw [KL.out]; kernel_rfl) ?_)
    | (go_at_call 64; (with_reducible refine (list_any t LT.out w0).mono ?_); rintro e w1 ⟨C1, c1, rfl, hb, ho⟩; have HB1 := As.mk hb; have HO1 := As.mk ho; clear hb ho)
    | (go_at_call 48; (with_reducible refine (RefPad.put64 m (by have := HMM.out; omega) _).mono ?_); rintro e w2 ⟨A2, c2, rfl, hb, ho⟩; have HR2 := As.mk (own_rd_at ho); have HO2 := As.mk (HO1.out.below hb); have HB2 := As.mk (below_step HB1.out hb); clear hb ho)
    | (at_builtin; refine wpList_app2 rfl (.tmp 10) (.tmp 14) 22 rfl w0.heap.size 5 (.int .u8 0) 1 Try.underlying22 CloneB.info rfl _ 32 _ rfl HO2.out _ 8 _ rfl (src_at HR2.out) ?c1 ?c2 HB2.out.size HB2.out (Nat.le_refl _) ?_; (case c1 => unfold maxLen; omega); (case c2 => omega); intro v3 w3 hown hg hat hb; obtain ⟨A3, c3, rfl⟩ := hown.slice; rw [← List.map_append] at hown; have HO3 := As.mk hown; have HB3 := As.mk hb; have H13 := As.mk (H10.out.below hb); clear hown hg hat hb; refine As.out ?_))
  refine As.mk ?_
  have HBW := As.mk (below_step HB0.out HB3.out)
  have H03 := As.mk (H00.out.below HB3.out)
  have VT := As.mk (show (bytesA T).size = 32 by rw [bytesA_size, ← HTT.out]; exact link_len _ _ _)
  have A13 := As.mk ((HB3.out.block _ S1.out).trans A1.out)
  have S3 := As.mk (Nat.lt_of_lt_of_le S1.out HB3.out.size)
  clear HB1 HB2 HO1 HO2 HR2
  go_wp2_with (first
    | (at_builtin; refine wpList_app2 rfl (.tmp 17) (.tmp 18) 22 rfl w0.heap.size 5 (.int .u8 0) 1 Try.underlying22 CloneB.info rfl _ 40 _ rfl HO3.out _ m _ rfl (src_at H13.out) ?c1 ?c2 HB3.out.size HB3.out (Nat.le_refl _) ?_; (case c1 => have := HMM.out; unfold maxLen; omega); (case c2 => have := HMM.out; omega); intro v4 w4 hown hg hat hb; obtain ⟨A4, c4, rfl⟩ := hown.slice; rw [← List.map_append] at hown; have HR4 := As.mk (own_rd_at hown); have HB4 := As.mk hb; have H04 := As.mk (H00.out.below hb); clear hown hg hat hb)
    | (go_at_call 42; (with_reducible refine (tag_ref key (t ++ bytes8 m ++ p) HK.out ?c3 A A4 n c (40 + m) c4 w4 HN.out ?c4 H04.out HR4.out T ?c5).mono ?_); (case c3 => exact byte_app (byte_app HT.out (bytes8_byte m)) HP.out); (case c4 => have := HMM.out; omega); (case c5 => rw [← HTT.out, link, HM.out, List.append_assoc]); rintro e w5 ⟨rfl, hb⟩; have HB5 := As.mk (below_step HB4.out hb); clear hb)
    | (refine wpList_storeArr rfl rfl 44 _ _ rfl (w.heap.size + 1) rfl (bytesA T) rfl 44 Z32 ?c6 (by rw [VT.out]; kernel_rfl) (by rw [VT.out]; kernel_rfl) (bytesA_one T) ?_; (case c6 => exact (HB5.out.block _ S1.out).trans A1.out); refine As.out ?_))
  refine As.mk ?_
  go_wp2
  refine bodyPost_ret (v := .agg (bytesA T)) ?_ rfl ⟨rfl, below_setRow (below_step HB0.out HB5.out) (Nat.le_succ _) _⟩
  exact results_cell_row Try.results46 _ _ (w.heap.size + 1) 44 (bytesA T) (0, 0) _ rfl (setRow_new w5 (w.heap.size + 1) Z32 (bytesA T) _ ((HB5.out.block _ S1.out).trans A1.out)) uArr32 rfl (by rw [VT.out]; kernel_rfl)
end Go.Proofs.Ytpijkibhjklkoaa.Chain
