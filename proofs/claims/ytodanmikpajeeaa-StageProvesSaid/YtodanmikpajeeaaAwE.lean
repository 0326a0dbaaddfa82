/- A job that fetches three bytes (layer 33), its last walks. -/
import Derived.Test.YtodanmikpajeeaaAwD
import Derived.Laws.IdiomStrings
namespace Go.Proofs.Ytodanmikpajeeaa
open Go Go.Proofs Go.RowKit

/-- The bytes of xyz as a row of its own, with whatever lies behind them. -/
def xRow (c : Nat) : Obj := .cells (bytesRow ⟨#[120, 121, 122]⟩ c) 5 ((bytesRow ⟨#[120, 121, 122]⟩ c).size, (bytesRow ⟨#[120, 121, 122]⟩ c).size + 1)
theorem conv_xyz (s : ByteArray) (hs : s.data = #[120, 121, 122]) : ∀ w, (convert 9 92 (.string s)).run Try.prog w = .ok (.slice (some ⟨w.heap.size, 0, none⟩) 3 (grownCap w 3 0 5)) (w.drew.alloc (xRow (grownCap w 3 0 5))) := fun w => by
  obtain rfl : s = ⟨#[120, 121, 122]⟩ := ByteArray.ext hs
  exact run_bytes_of_string w _ _ _ _ (by kernel_rfl) (by kernel_rfl) (by kernel_rfl)
theorem xRow_cell {w : World} {g c : Nat} (h : w.heap[g]? = some (xRow c)) : w.cell? ⟨g, 0, none⟩ = some (.int .u8 120) ∧ w.cell? ⟨g, 0 + 1, none⟩ = some (.int .u8 121) ∧ w.cell? ⟨g, 0 + 2, none⟩ = some (.int .u8 122) := by
  unfold xRow bytesRow at h
  exact ⟨blk_cell h (app_at (by simp)), blk_cell h (app_at (by simp)), blk_cell h (app_at (by simp))⟩

theorem xRow_0 {w : World} {g c : Nat} (h : w.heap[g]? = some (xRow c)) : w.cell? ⟨g, 0, none⟩ = some (.int .u8 120) := (xRow_cell h).1
theorem xRow_1 {w : World} {g c : Nat} (h : w.heap[g]? = some (xRow c)) : w.cell? ⟨g, 0 + 1, none⟩ = some (.int .u8 121) := (xRow_cell h).2.1
theorem xRow_2 {w : World} {g c : Nat} (h : w.heap[g]? = some (xRow c)) : w.cell? ⟨g, 0 + 2, none⟩ = some (.int .u8 122) := (xRow_cell h).2.2
set_option maxHeartbeats 2000000 in
set_option maxRecDepth 100000 in
theorem jfetch (b : Nat) (hi lo s0 s1 s2 s3 s4 s5 s6 s7 : Int) (p s : ByteArray) (hs : s.data = #[120, 121, 122]) (w : World) (h : w.heap[b]? = some (jBlk 2 3 hi lo s0 s1 s2 s3 s4 s5 s6 s7 p ByteArray.empty ByteArray.empty 0))
    (hhi : hi = (mix3 2611923443488327891 1376283091369227076 8026488).1) (hlo : lo = (mix3 2611923443488327891 1376283091369227076 8026488).2) :
    Calls Try.prog 46 #[.pointer (some ⟨b, 0, none⟩), .agg #[.int .i64 6, .int .i64 0, .int .i64 0, .int .i64 0, .bool false, .int .i64 0, .string s, .int .i64 0, .slice none 0 0, .int .i64 0, .int .u32 0, .int .u64 0, .int .u64 0, .slice none 0 0]] w
      (fun e w' => e = .returned (.int .i64 0) ∧ w'.heap[b]? = some (jBlk 3 3 hi lo s0 s1 s2 s3 s4 s5 s6 s7 p s s 3) ∧ Off b w w') := by
  have lb := blk_lt h
  have hs3 : s.size = 3 := by show s.data.size = 3; rw [hs]; rfl
  have M := Lib.hid (fun w h => jmore b hi lo s0 s1 s2 s3 s4 s5 s6 s7 p s hs3 w h)
  have F := Lib.hid (fun g off c w h0 h1 h2 => fits_xyz hi lo g off c w hhi hlo h0 h1 h2)
  have hcv := conv_xyz s hs
  clear hs
  clear hhi hlo
  have hc : ∀ o, w.cell? ⟨b, o, none⟩ = _ := fun o => (Ext.refl w).cellsOf h o
  have HC := Lib.hid hc; clear hc
  have H := Lib.hid h; clear h
  go_enter Try.func46, Try.ntmps46
  go_wp2
  refine wp_draw_stages 63 9 [] [([true, true, true, true, true, true, true, true], 8)] (JOff b) (JOff.refl b) (fun _ _ _ => JOff.trans) (by kernel_rfl) (by kernel_rfl) ?_
  apply wpStages_cons (by simp)
  · intro w1 hw1
    simp only [sel_true, sel_nil]
    have d0 := hw1.1.cellsOf (k := w.heap.size) (blk_drew (heap_new w _)) (by omega); have d1 := (fun o ho => (hw1.2 o ho).trans ((((Ext.refl w).alloc _).drew.cell lb).trans (HC.out o))); have d2 := d1 7 (by decide)
    repeat still_step
    exact wpStill_nil rfl
  simp only [List.getD_cons_succ, List.getD_cons_zero]
  go_wp2_with (go_at_call 53; refine (M.out _ (blk_drew (blk_alloc _ H.out))).mono ?_; rintro e w1 ⟨rfl, hw1⟩; have HW := Lib.hid hw1; clear hw1)
  refine ⟨⟨by rw [HW.out]; exact (Off.refl b _).setCell _ _, fun o ho => by rw [HW.out]; exact set_cell_ne ho⟩, ?_⟩
  have hB1 : w1.heap[b]? = some (jBlk 2 3 hi lo s0 s1 s2 s3 s4 s5 s6 s7 p s ByteArray.empty 0) := by rw [HW.out]; exact blk_set _ (blk_drew (blk_alloc _ H.out))
  have hO1 : Off b (w.alloc (mBox s)).drew w1 := by rw [HW.out]; exact (Off.refl b _).setCell _ _
  have hm : ∀ o, w1.cell? ⟨w.heap.size, o, none⟩ = _ := hO1.cellsOf (k := w.heap.size) (blk_drew (heap_new w _)) (by omega)
  have lm : w.heap.size < w1.heap.size := blk_lt (Off.block hO1 (k := w.heap.size) (blk_drew (heap_new w _)) (by omega))
  have hOw : Off b w w1 := Off.trans (Off.of_ext ((Ext.refl w).alloc (mBox s)).drew) hO1
  have HO := Lib.hid hOw; clear hOw hO1 HW
  have hc : ∀ o, w1.cell? ⟨b, o, none⟩ = _ := fun o => (Ext.refl w1).cellsOf hB1 o
  have hf := (Ext.refl w1).freeOf hB1
  have l1 := blk_lt hB1
  have HB := Lib.hid hB1; clear hB1
  refine wpStages_nil ?_
  simp only [sel_nil]
  repeat still_step
  refine wpStill_nil ?_
  simp only [List.drop_succ_cons, List.drop_zero]
  go_wp2
  refine wp_draw_tail 10 (by kernel_rfl) (by kernel_rfl) ?_
  simp only [List.take_succ_cons, List.take_zero, List.drop_succ_cons, List.drop_zero]
  repeat still_step
  refine wpStill_nil ?_
  go_wp2
  refine wp_draw_all (by kernel_rfl) (by kernel_rfl) ?_
  repeat still_step
  refine wpStill_nil ?_
  go_wp2
  refine wp_draw_stages 63 16 [] [([true, true, true, true, true, true, true, true, true, true, true, true, true, true], 14), ([], 15)] Ext Ext.refl (fun _ _ _ => Ext.trans) (by kernel_rfl) (by kernel_rfl) ?_
  apply wpStages_cons (by simp)
  · intro w1 hw1
    simp only [sel_true, sel_nil]
    have d1 := hw1.cellsOf (b := b) (blk_drew (blk_drew (blk_set _ HB.out)))
    repeat still_step
    exact wpStill_nil rfl
  simp only [List.getD_cons_succ, List.getD_cons_zero]
  go_wp2
  refine ⟨((Ext.refl _).drew.alloc _), ?_⟩
  apply wpStages_cons (by simp)
  · intro w1 hw1
    simp only [sel_nil]
    repeat still_step
    exact wpStill_nil rfl
  simp only [List.getD_cons_succ, List.getD_cons_zero]
  go_wp2_with (go_at_call 57; refine (F.out _ _ _ _ (xRow_0 (by (repeat with_reducible refine blk_drew ?_); exact heap_at _ _ (by simp))) (xRow_1 (by (repeat with_reducible refine blk_drew ?_); exact heap_at _ _ (by simp))) (xRow_2 (by (repeat with_reducible refine blk_drew ?_); exact heap_at _ _ (by simp)))).mono ?_; rintro e w2 ⟨rfl, hb2⟩; have HT := Lib.hid hb2; clear hb2)
  refine ⟨HT.out, ?_⟩
  have hB2 : w2.heap[b]? = some (jBlk 2 3 hi lo s0 s1 s2 s3 s4 s5 s6 s7 p s ByteArray.empty 3) := Ext.block HT.out (by (repeat with_reducible first | refine blk_drew ?_ | refine blk_alloc _ ?_); exact blk_set _ HB.out)
  have hO2 : Off b w w2 := Off.trans (Off.trans HO.out ((Off.setCell (Off.refl b w1) _ _).drew.drew.drew.drew.alloc _)) (Off.of_ext HT.out)
  have d2 := (Ext.refl w2).cellsOf hB2
  have f2 := (Ext.refl w2).freeOf hB2
  have l2 := blk_lt hB2
  have HB2 := Lib.hid hB2; clear hB2
  have HO2 := Lib.hid hO2; clear hO2 hc hf HT
  refine wpStages_nil ?_
  simp only [sel_nil]
  repeat still_step
  refine wpStill_nil ?_
  simp only [List.drop_succ_cons, List.drop_zero]
  go_wp2
  go_ret
  exact ⟨rfl, blk_set _ (blk_set _ HB2.out), Off.setCell (Off.setCell HO2.out _ _) _ _⟩
end Go.Proofs.Ytodanmikpajeeaa
