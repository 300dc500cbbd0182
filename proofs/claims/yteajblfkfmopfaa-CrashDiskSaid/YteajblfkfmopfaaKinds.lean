/- sha.Kinds, sha.begin: the numbers. -/
import Derived.Test.YteajblfkfmopfaaPut32
import Derived.Test.YteajblfkfmopfaaMem3
namespace Go.Proofs.Yteajblfkfmopfaa.Kinds
set_option linter.unusedVariables false
set_option linter.unusedSimpArgs false
open Go Go.RowKit Go.Proofs.Yteajblfkfmopfaa.Mem Go.Proofs.Yteajblfkfmopfaa.W32

def kindsL : List Int := [1116352408, 1899447441, 3049323471, 3921009573, 961987163, 1508970993, 2453635748, 2870763221, 3624381080, 310598401, 607225278, 1426881987, 1925078388, 2162078206, 2614888103, 3248222580, 3835390401, 4022224774, 264347078, 604807628, 770255983, 1249150122, 1555081692, 1996064986, 2554220882, 2821834349, 2952996808, 3210313671, 3336571891, 3584528711, 113926993, 338241895, 666307205, 773529912, 1294757372, 1396182291, 1695183700, 1986661051, 2177026350, 2456956037, 2730485921, 2820302411, 3259730800, 3345764771, 3516065817, 3600352804, 4094571909, 275423344, 430227734, 506948616, 659060556, 883997877, 958139571, 1322822218, 1537002063, 1747873779, 1955562222, 2024104815, 2227730452, 2361852424, 2428436474, 2756734187, 3204031479, 3329325298]
def beginL : List Int := [1779033703, 3144134277, 1013904242, 2773480762, 1359893119, 2600822924, 528734635, 1541459225]
/-- words as values -/
def vals (l : List Int) : List Value := l.map (Value.int .u32)
def Z64 : Array Value := (vals (List.replicate 64 0)).toArray
def kindsA : Array Value := (vals kindsL).toArray

set_option maxHeartbeats 1000000 in
set_option maxRecDepth 100000 in
theorem begin_any (w : World) :
    Calls Try.prog 218 #[] w fun e w' => e = .returned (.agg (vals beginL).toArray) ∧ Below w.heap.size w w' := by
  go_enter Try.func218, Try.ntmps218
  go_wp2
  exact bodyPost_ret (v := .agg (vals beginL).toArray) (by simp [results, Try.results218, go_sem]; rfl) rfl ⟨rfl, below_alloc (Below.refl _ _) _⟩

theorem z64 : (Try.prog.info? 250).map (fun i => (i.zero, i.size)) = some (some (.agg Z64), Z64.size) := by kernel_rfl
theorem uArr64 : Try.prog.underlying 250 = some (.array 64 240) := by kernel_rfl
set_option maxHeartbeats 1000000 in
set_option maxRecDepth 100000 in
theorem kinds_any (w : World) :
    Calls Try.prog 217 #[] w fun e w' => e = .returned (.agg kindsA) ∧ Below w.heap.size w w' := by
  go_enter Try.func217, Try.ntmps217
  go_wp2_with (first
    | (refine wpList_allocArr rfl 250 rfl Z64 z64 ?_)
    | (refine wpList_run rfl (.agg kindsA) (by kernel_rfl) ?_)
    | (refine wpList_storeNew rfl rfl 250 _ _ rfl rfl kindsA rfl 250 Z64 (by kernel_rfl) (by kernel_rfl) (by kernel_rfl) ?_))
  refine bodyPost_ret (v := .agg kindsA) ?_ rfl ⟨rfl, below_alloc (Below.refl _ _) _⟩
  exact results_cell_row Try.results217 _ _ w.heap.size 250 kindsA (0, 0) _ rfl (heap_alloc_last w _) uArr64 rfl (by kernel_rfl)

end Go.Proofs.Yteajblfkfmopfaa.Kinds
