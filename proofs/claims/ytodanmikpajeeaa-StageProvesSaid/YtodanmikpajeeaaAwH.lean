/- The page's example of layer 33 answers true: the walk. -/
import Derived.Test.YtodanmikpajeeaaAwG
namespace Go.Proofs.Ytodanmikpajeeaa
open Go Go.Proofs Go.RowKit

set_option maxHeartbeats 2000000 in
set_option maxRecDepth 100000 in
theorem awake_true (w : World) : Calls Try.prog 5 #[] w (RetV w (.bool true)) := by
  have E := Lib.hid entry_xyz
  have N := Lib.hid new_fetch
  have X := Lib.hid jnext_2
  have T := Lib.hid jTake
  have D := Lib.hid jdone_3
  have B := Lib.hid jbytes_3
  go_enter Try.func5, Try.ntmps5
  go_wp2_with (first
    | (go_at_call 18; refine (E.out _ (by rfl) _).mono ?_; rintro e w1 ⟨hi, lo, s0, s1, s2, s3, s4, s5, s6, s7, p, rfl, hv, hb1⟩; have HV := Lib.hid hv; have HE := Lib.hid hb1; clear hb1 hv)
    | (go_at_call 17; refine (N.out 3 hi lo s0 s1 s2 s3 s4 s5 s6 s7 p _ _ _).mono ?_; rintro e w2 ⟨b, rfl, hge, hB, hb2⟩; have HB := Lib.hid hB; have HE2 := Lib.hid (HE.out.trans hb2); clear hb2 hB)
    | (go_at_call 19; refine (X.out b 3 hi lo s0 s1 s2 s3 s4 s5 s6 s7 p _ _ _ HB.out).mono ?_; rintro e w3 ⟨rfl, hb3⟩; have HB3 := Lib.hid (Ext.block hb3 HB.out); have HE3 := Lib.hid (HE2.out.trans hb3); have l3 := blk_lt HB3.out; clear hb3)
    | (go_at_call 20; refine (T.out b hi lo s0 s1 s2 s3 s4 s5 s6 s7 p _ (by rfl) _ (blk_alloc _ HB3.out) HV.out.1 HV.out.2).mono ?_; rintro e w4 ⟨rfl, hB4, hO4⟩; have hq := Off.cellsOf hO4 (k := w3.heap.size) (heap_new w3 _) (by omega); have lq := blk_lt (Off.block hO4 (k := w3.heap.size) (heap_new w3 _) (by omega)); have HB4 := Lib.hid hB4; have HE4 := Lib.hid (show Ext w w4 from Below.trans (HE3.out.alloc _) (Only.below hO4 (by have := HE3.out.size; simp; omega) (by have := HE.out.size; omega))); clear hB4 hO4)
    | (go_at_call 21; refine (D.out b 3 hi lo s0 s1 s2 s3 s4 s5 s6 s7 p _ _ _ _ HB4.out).mono ?_; rintro e w5 ⟨rfl, hb5⟩; have HB5 := Lib.hid (Ext.block hb5 HB4.out); have HE5 := Lib.hid (HE4.out.trans hb5); clear hb5)
    | (go_at_call 22; refine (B.out b 3 hi lo s0 s1 s2 s3 s4 s5 s6 s7 p _ _ _ _ HB5.out).mono ?_; rintro e w6 ⟨rfl, hb6⟩; have HE6 := Lib.hid (HE5.out.trans hb6); clear hb6))
  go_ret
  exact ⟨rfl, HE6.out⟩
end Go.Proofs.Ytodanmikpajeeaa
