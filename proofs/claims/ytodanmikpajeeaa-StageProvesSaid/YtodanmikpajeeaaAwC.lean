/- Whether bytes are those that are wanted (layer 18), of the text xyz: the walks. -/
import Derived.Test.YtodanmikpajeeaaAwB
namespace Go.Proofs.Ytodanmikpajeeaa
open Go Go.Proofs Go.RowKit

set_option maxHeartbeats 1000000 in
set_option maxRecDepth 100000 in
theorem mix_xyz (g off c : Nat) (w : World)
    (h0 : w.cell? ⟨g, off, none⟩ = some (.int .u8 120)) (h1 : w.cell? ⟨g, off + 1, none⟩ = some (.int .u8 121)) (h2 : w.cell? ⟨g, off + 2, none⟩ = some (.int .u8 122)) :
    Calls Try.prog 51 #[.slice (some ⟨g, off, none⟩) 3 c] w (RetV w (.agg #[.int .u64 (mix3 2611923443488327891 1376283091369227076 8026488).1, .int .u64 (mix3 2611923443488327891 1376283091369227076 8026488).2])) := by
  have hg : g < w.heap.size := by
    rcases Nat.lt_or_ge g w.heap.size with hb | hb
    · exact hb
    · simp [World.cell?, Array.getElem?_eq_none hb] at h0
  have H0 := Lib.hid h0; clear h0
  have H1 := Lib.hid h1; clear h1
  have H2 := Lib.hid h2; clear h2
  have E := Lib.hid (fun (b o : Nat) (v : Value) (hb : b < w.heap.size) (h : w.cell? ⟨b, o, none⟩ = some v) (x y : Obj) => (Ext.cell (((Ext.refl w).alloc x).alloc y) (o := o) hb).trans h)
  go_enter Try.func51, Try.ntmps51
  go_wp2_with (first
    | (go_at_call 62; refine (write_3 (w.heap.size + 1) g off c _ (heap_at _ _ (by simp)) (by simp; omega) (by omega) (E.out _ _ _ hg H0.out _ _) (E.out _ _ _ hg H1.out _ _) (E.out _ _ _ hg H2.out _ _)).mono ?_; rintro e w1 ⟨⟨v, rfl⟩, g1, c1, cur, hB, hg1, hG, hx0, hx1, hx2, hO⟩; have SS := Lib.hid (sum_3 (w.heap.size + 1) g1 c1 _ _ w1 hB cur hG hx0 hx1 hx2); have HK := Lib.hid (Off.block hO (blk_alloc _ (heap_new w _)) (by omega)); have HO := Lib.hid hO; clear hB hG hx0 hx1 hx2 hO)
    | (go_at_call 63; refine SS.out.mono ?_; rintro e w2 ⟨rfl, hb2⟩; have HK2 := Lib.hid (Ext.block hb2 HK.out); have HE2 := Lib.hid hb2; clear hb2)
    | (refine wpList_store_blk rfl rfl rfl rfl HK2.out (by rfl) (by kernel_rfl) (by simp [Value.oneCell']) ?_))
  refine bodyPost_ret (res_cell rfl rfl (putBlk_same _ (blk_lt HK2.out)) (by kernel_rfl) (by kernel_rfl)) rfl ?_
  have e1 : Below w.heap.size w w1 := Below.trans (((Ext.refl w).alloc _).alloc _) (Only.below HO.out (by simp; omega) (by omega))
  exact ⟨rfl, Ext.putNew (Ext.trans e1 HE2.out) (Nat.le_refl _) _⟩

set_option maxHeartbeats 1000000 in
set_option maxRecDepth 100000 in
theorem fits_xyz (hi lo : Int) (g off c : Nat) (w : World) (hhi : hi = (mix3 2611923443488327891 1376283091369227076 8026488).1) (hlo : lo = (mix3 2611923443488327891 1376283091369227076 8026488).2)
    (h0 : w.cell? ⟨g, off, none⟩ = some (.int .u8 120)) (h1 : w.cell? ⟨g, off + 1, none⟩ = some (.int .u8 121)) (h2 : w.cell? ⟨g, off + 2, none⟩ = some (.int .u8 122)) :
    Calls Try.prog 57 #[.agg #[.int .u64 hi, .int .u64 lo], .int .i64 3, .slice (some ⟨g, off, none⟩) 3 c] w (RetV w (.bool true)) := by
  have hg : g < w.heap.size := by
    rcases Nat.lt_or_ge g w.heap.size with hb | hb
    · exact hb
    · simp [World.cell?, Array.getElem?_eq_none hb] at h0
  have M := Lib.hid (fun w h0 h1 h2 => mix_xyz g off c w h0 h1 h2)
  rw [← hhi, ← hlo] at M
  have H0 := Lib.hid h0; clear h0
  have H1 := Lib.hid h1; clear h1
  have H2 := Lib.hid h2; clear h2
  clear hhi hlo
  have E := Lib.hid (fun (b o : Nat) (v : Value) (hb : b < w.heap.size) (h : w.cell? ⟨b, o, none⟩ = some v) (x : Obj) => (Ext.cell (((Ext.refl w).alloc x).drew) (o := o) hb).trans h)
  go_enter Try.func57, Try.ntmps57
  go_wp2
  refine wp_draw_stages 17 10 [false, false, false, false, false, false, false, false, true, true] [([true, true, true, true, true, true, false, true], 6)] Ext Ext.refl (fun _ _ _ => Ext.trans) (by kernel_rfl) (by kernel_rfl) ?_
  apply wpStages_cons (by simp)
  · intro w1 hw1
    simp only [sel_true, sel_false, sel_nil]
    have d0 := hw1.cellsOf (b := w.heap.size) (blk_drew (heap_new w _))
    repeat still_step
    exact wpStill_nil rfl
  simp only [List.getD_cons_succ, List.getD_cons_zero]
  go_wp2_with (go_at_call 51; refine (M.out _ (E.out _ _ _ hg H0.out _) (E.out _ _ _ hg H1.out _) (E.out _ _ _ hg H2.out _)).mono ?_; rintro e w2 ⟨rfl, hb2⟩; have d0 := Ext.cellsOf hb2 (b := w.heap.size) (blk_drew (heap_new w _)); have HE := Lib.hid hb2; clear hb2)
  refine ⟨HE.out, ?_⟩
  refine wpStages_nil ?_
  simp only [sel_true, sel_false, sel_nil]
  repeat still_step
  refine wpStill_nil ?_
  simp only [List.drop_succ_cons, List.drop_zero]
  go_wp2
  go_ret
  exact ⟨rfl, Ext.trans ((Ext.refl w).alloc _).drew HE.out⟩
end Go.Proofs.Ytodanmikpajeeaa
