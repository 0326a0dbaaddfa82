/- What a proof makes of an answer: the document's Told. -/
import Derived.Test.YtodanmikpajeeaaStageD
namespace Go.Proofs.Ytodanmikpajeeaa
open Go Go.Proofs Go.RowKit

set_option maxHeartbeats 1000000 in
set_option maxRecDepth 100000 in
theorem told_done (n pc at_ : Int) (data : ByteArray) (same : Bool) (w : World) 
    (k mn ma tt : Int) (y : Bool) (c : Int) (s : ByteArray) (sz : Int) (bl : Value) (tl lw lh ll : Int) (en : Value) (hbl : IsSl bl) (hen : IsSl en)  :
    Calls Try.prog 14 #[pRef n pc data at_ true same, msgV k mn ma tt y c s sz bl tl lw lh ll en] w (RetV w (.tuple #[pRef n pc data at_ true same, .int .i64 15])) := by
  obtain ⟨_, _, _, rfl⟩ := hbl
  obtain ⟨_, _, _, rfl⟩ := hen
  unfold msgV
  have N := fun w => ask_done n pc at_ data same w
  unfold pRef zMsg at *
  have HN := Lib.hid N; clear N
  go_enter Try.func14, Try.ntmps14
  go_wp2_with (first | (refine wpList_store_blk rfl rfl rfl rfl (by (repeat with_reducible first | refine blk_drew ?_ | refine blk_alloc _ ?_ | refine blk_off (by omega) ?_ | refine blk_put (by omega) ?_); exact (HE1.out.block (b := w.heap.size + 1 + 1) (heap_at _ _ (by simp)))) (by rfl) (by kernel_rfl) (by simp [Value.oneCell']) ?_) | (go_at_call 10; refine (HN.out _).mono ?_; rintro e w' ⟨rfl, hb1⟩; have hE1 : Ext _ w' := hb1; clear hb1; have hE1c0 := hE1.cellsOf (b := w.heap.size) (heap_before _ _ (heap_before _ _ (heap_at _ _ (by simp)))); have hE1l0 := hE1.blt (b := w.heap.size) (heap_before _ _ (heap_before _ _ (heap_at _ _ (by simp)))); have hE1f0 := hE1.freeOf (b := w.heap.size) (heap_before _ _ (heap_before _ _ (heap_at _ _ (by simp)))); have hE1c1 := hE1.cellsOf (b := w.heap.size + 1) (heap_before _ _ (heap_at _ _ (by simp))); have hE1l1 := hE1.blt (b := w.heap.size + 1) (heap_before _ _ (heap_at _ _ (by simp))); have hE1f1 := hE1.freeOf (b := w.heap.size + 1) (heap_before _ _ (heap_at _ _ (by simp))); have hE1c2 := hE1.cellsOf (b := w.heap.size + 1 + 1) (heap_at _ _ (by simp)); have hE1l2 := hE1.blt (b := w.heap.size + 1 + 1) (heap_at _ _ (by simp)); have hE1f2 := hE1.freeOf (b := w.heap.size + 1 + 1) (heap_at _ _ (by simp)); have HE1 := Lib.hid hE1; clear hE1))
  refine bodyPost_ret (res_cell_tmp rfl rfl rfl ((by (repeat with_reducible first | refine blk_drew ?_ | refine blk_alloc _ ?_); exact putBlk_same _ (by (repeat with_reducible first | refine lt_drew ?_ | refine lt_alloc ?_ | refine lt_set ?_ | refine lt_put ?_); omega))) (by kernel_rfl) (by kernel_rfl)) rfl ?_
  exact ⟨rfl, (by show Ext _ _; (repeat with_reducible first | refine Ext.setNew ?_ (by omega) _ | refine Ext.drew ?_ | refine Ext.alloc ?_ _ | refine Ext.putNew ?_ (by omega) _); exact (((((Ext.refl w).alloc _).alloc _).alloc _).trans HE1.out))⟩
set_option maxHeartbeats 1000000 in
set_option maxRecDepth 100000 in
theorem told_bad (n pc at_ : Int) (data : ByteArray) (same : Bool) (w : World) (h1 : 0 ≤ at_) (h2 : at_ ≤ data.size) (h3 : 1 ≤ pc) (h4 : pc ≤ 512) (hs : data.size ≤ 150)
    (k mn ma tt : Int) (y : Bool) (c : Int) (s : ByteArray) (sz : Int) (bl : Value) (tl lw lh ll : Int) (en : Value) (hbl : IsSl bl) (hen : IsSl en) (hk : k ≠ 11) (hk8 : k ≠ 8) :
    Calls Try.prog 14 #[pRef n pc data at_ false same, msgV k mn ma tt y c s sz bl tl lw lh ll en] w (RetV w (.tuple #[pRef n pc data at_ false same, .int .i64 13])) := by
  obtain ⟨_, _, _, rfl⟩ := hbl
  obtain ⟨_, _, _, rfl⟩ := hen
  unfold msgV
  have N := fun w => ask_any n pc at_ data same w h1 h2 h3 h4 hs
  generalize (piece at_ pc data).1 = py at N
  generalize (piece at_ pc data).2 = ps at N
  unfold pRef askMsg at *
  have HN := Lib.hid N; clear N h1 h2 h3 h4 hs
  have k1 : (k == 11) = false := by simp [hk]
  have k2 : (k != 8) = true := by simp [hk8]
  clear hk hk8
  go_enter Try.func14, Try.ntmps14
  go_wp2_with (first | (refine wpList_store_blk rfl rfl rfl rfl (by (repeat with_reducible first | refine blk_drew ?_ | refine blk_alloc _ ?_ | refine blk_off (by omega) ?_ | refine blk_put (by omega) ?_); exact (HE1.out.block (b := w.heap.size + 1 + 1) (heap_at _ _ (by simp)))) (by rfl) (by kernel_rfl) (by simp [Value.oneCell']) ?_) | (go_at_call 10; refine (HN.out _).mono ?_; rintro e w' ⟨rfl, hb1⟩; have hE1 : Ext _ w' := hb1; clear hb1; have hE1c0 := hE1.cellsOf (b := w.heap.size) (heap_before _ _ (heap_before _ _ (heap_at _ _ (by simp)))); have hE1l0 := hE1.blt (b := w.heap.size) (heap_before _ _ (heap_before _ _ (heap_at _ _ (by simp)))); have hE1f0 := hE1.freeOf (b := w.heap.size) (heap_before _ _ (heap_before _ _ (heap_at _ _ (by simp)))); have hE1c1 := hE1.cellsOf (b := w.heap.size + 1) (heap_before _ _ (heap_at _ _ (by simp))); have hE1l1 := hE1.blt (b := w.heap.size + 1) (heap_before _ _ (heap_at _ _ (by simp))); have hE1f1 := hE1.freeOf (b := w.heap.size + 1) (heap_before _ _ (heap_at _ _ (by simp))); have hE1c2 := hE1.cellsOf (b := w.heap.size + 1 + 1) (heap_at _ _ (by simp)); have hE1l2 := hE1.blt (b := w.heap.size + 1 + 1) (heap_at _ _ (by simp)); have hE1f2 := hE1.freeOf (b := w.heap.size + 1 + 1) (heap_at _ _ (by simp)); have HE1 := Lib.hid hE1; clear hE1))
  refine bodyPost_ret (res_cell_tmp rfl rfl rfl ((by (repeat with_reducible first | refine blk_drew ?_ | refine blk_alloc _ ?_); exact putBlk_same _ (by (repeat with_reducible first | refine lt_drew ?_ | refine lt_alloc ?_ | refine lt_set ?_ | refine lt_put ?_); omega))) (by kernel_rfl) (by kernel_rfl)) rfl ?_
  exact ⟨rfl, (by show Ext _ _; (repeat with_reducible first | refine Ext.setNew ?_ (by omega) _ | refine Ext.drew ?_ | refine Ext.alloc ?_ _ | refine Ext.putNew ?_ (by omega) _); exact (((((Ext.refl w).alloc _).alloc _).alloc _).trans HE1.out))⟩
set_option maxHeartbeats 1000000 in
set_option maxRecDepth 100000 in
theorem told_err (n pc at_ : Int) (data : ByteArray) (same : Bool) (w : World) (h1 : 0 ≤ at_) (h2 : at_ ≤ data.size) (h3 : 1 ≤ pc) (h4 : pc ≤ 512) (hs : data.size ≤ 150)
    (k mn ma tt : Int) (y : Bool) (c : Int) (s : ByteArray) (sz : Int) (bl : Value) (tl lw lh ll : Int) (en : Value) (hbl : IsSl bl) (hen : IsSl en) (hk : k = 11) :
    Calls Try.prog 14 #[pRef n pc data at_ false same, msgV k mn ma tt y c s sz bl tl lw lh ll en] w (RetV w (.tuple #[pRef n pc data at_ false same, .int .i64 c])) := by
  obtain ⟨_, _, _, rfl⟩ := hbl
  obtain ⟨_, _, _, rfl⟩ := hen
  unfold msgV
  have N := fun w => ask_any n pc at_ data same w h1 h2 h3 h4 hs
  generalize (piece at_ pc data).1 = py at N
  generalize (piece at_ pc data).2 = ps at N
  unfold pRef askMsg at *
  have HN := Lib.hid N; clear N h1 h2 h3 h4 hs
  subst hk
  go_enter Try.func14, Try.ntmps14
  go_wp2_with (first | (refine wpList_store_blk rfl rfl rfl rfl (by (repeat with_reducible first | refine blk_drew ?_ | refine blk_alloc _ ?_ | refine blk_off (by omega) ?_ | refine blk_put (by omega) ?_); exact (HE1.out.block (b := w.heap.size + 1 + 1) (heap_at _ _ (by simp)))) (by rfl) (by kernel_rfl) (by simp [Value.oneCell']) ?_) | (go_at_call 10; refine (HN.out _).mono ?_; rintro e w' ⟨rfl, hb1⟩; have hE1 : Ext _ w' := hb1; clear hb1; have hE1c0 := hE1.cellsOf (b := w.heap.size) (heap_before _ _ (heap_before _ _ (heap_at _ _ (by simp)))); have hE1l0 := hE1.blt (b := w.heap.size) (heap_before _ _ (heap_before _ _ (heap_at _ _ (by simp)))); have hE1f0 := hE1.freeOf (b := w.heap.size) (heap_before _ _ (heap_before _ _ (heap_at _ _ (by simp)))); have hE1c1 := hE1.cellsOf (b := w.heap.size + 1) (heap_before _ _ (heap_at _ _ (by simp))); have hE1l1 := hE1.blt (b := w.heap.size + 1) (heap_before _ _ (heap_at _ _ (by simp))); have hE1f1 := hE1.freeOf (b := w.heap.size + 1) (heap_before _ _ (heap_at _ _ (by simp))); have hE1c2 := hE1.cellsOf (b := w.heap.size + 1 + 1) (heap_at _ _ (by simp)); have hE1l2 := hE1.blt (b := w.heap.size + 1 + 1) (heap_at _ _ (by simp)); have hE1f2 := hE1.freeOf (b := w.heap.size + 1 + 1) (heap_at _ _ (by simp)); have HE1 := Lib.hid hE1; clear hE1))
  refine wp_draw_stages 42 4 [] [([true, true, true], 3)] (Off (w.heap.size+1+1)) (Off.refl (w.heap.size+1+1)) (fun _ _ _ => Off.trans) (by kernel_rfl) (by kernel_rfl) ?_
  apply wpStages_cons (by simp)
  · intro w1 hw1
    have d0 := hw1.cellsOf (k := w.heap.size) (by (repeat with_reducible first | refine blk_drew ?_ | refine blk_alloc _ ?_ | refine blk_off (by omega) ?_ | refine blk_put (by omega) ?_); exact (HE1.out.block (b := w.heap.size) (heap_before _ _ (heap_before _ _ (heap_at _ _ (by simp)))))) (by omega)
    have d1 := hw1.cellsOf (k := w.heap.size + 1) (by (repeat with_reducible first | refine blk_drew ?_ | refine blk_alloc _ ?_ | refine blk_off (by omega) ?_ | refine blk_put (by omega) ?_); exact (HE1.out.block (b := w.heap.size + 1) (heap_before _ _ (heap_at _ _ (by simp))))) (by omega)
    clear hw1
    simp only [sel_true, sel_nil]
    repeat still_step
    exact wpStill_nil rfl
  simp only [List.getD_cons_succ, List.getD_cons_zero]
  go_wp2_with (refine wpList_store_blk rfl rfl rfl rfl (by (repeat with_reducible first | refine blk_drew ?_ | refine blk_alloc _ ?_ | refine blk_off (by omega) ?_ | refine blk_put (by omega) ?_); exact (HE1.out.block (b := w.heap.size + 1 + 1) (heap_at _ _ (by simp)))) (by rfl) (by kernel_rfl) (by simp [Value.oneCell']) ?_)
  refine ⟨(Off.refl _ _).put _, ?_⟩
  refine wpStages_nil ?_
  simp only [sel_nil]
  repeat still_step
  refine wpStill_nil ?_
  simp only [List.drop_succ_cons, List.drop_zero]
  go_wp2
  refine bodyPost_ret (res_cell_tmp rfl rfl rfl ((by (repeat with_reducible first | refine blk_drew ?_ | refine blk_alloc _ ?_); exact putBlk_same _ (by (repeat with_reducible first | refine lt_drew ?_ | refine lt_alloc ?_ | refine lt_set ?_ | refine lt_put ?_); omega))) (by kernel_rfl) (by kernel_rfl)) rfl ?_
  exact ⟨rfl, (by show Ext _ _; (repeat with_reducible first | refine Ext.setNew ?_ (by omega) _ | refine Ext.drew ?_ | refine Ext.alloc ?_ _ | refine Ext.putNew ?_ (by omega) _); exact (((((Ext.refl w).alloc _).alloc _).alloc _).trans HE1.out))⟩

set_option maxHeartbeats 2000000 in
set_option maxRecDepth 100000 in
theorem told_ok (n pc at_ : Int) (data : ByteArray) (w : World) (h1 : 0 ≤ at_) (h2 : at_ ≤ data.size) (h3 : 1 ≤ pc) (h4 : pc ≤ 512) (hs : data.size ≤ 150)
    (mn ma tt : Int) (y : Bool) (c : Int) (s : ByteArray) (sz : Int) (bl : Value) (tl lw lh ll : Int) (en : Value) (hbl : IsSl bl) (hen : IsSl en) :
    Calls Try.prog 14 #[pRef n pc data at_ false false, msgV 8 mn ma tt y c s sz bl tl lw lh ll en] w (RetV w (.tuple #[pRef n pc data (at_ + (piece at_ pc data).2.size) (!y || (piece at_ pc data).1) (y && (piece at_ pc data).1), .int .i64 0])) := by
  obtain ⟨_, _, _, rfl⟩ := hbl
  obtain ⟨_, _, _, rfl⟩ := hen
  unfold msgV
  have N := fun w => ask_any n pc at_ data false w h1 h2 h3 h4 hs
  have hps := piece_size at_ pc data h1 h2 h3
  generalize (piece at_ pc data).1 = py at *
  generalize (piece at_ pc data).2 = ps at *
  unfold pRef askMsg at *
  have HN := Lib.hid N; clear N
  have hps' : at_ + (ps.size : Int) ≤ 150 := by omega
  clear h2 h3 h4 hs hps
  cases y
  · go_enter Try.func14, Try.ntmps14
    go_wp2_with (first | (refine wpList_store_blk rfl rfl rfl rfl (by (repeat with_reducible first | refine blk_drew ?_ | refine blk_alloc _ ?_ | refine blk_off (by omega) ?_ | refine blk_put (by omega) ?_); exact (HE1.out.block (b := w.heap.size + 1 + 1) (heap_at _ _ (by simp)))) (by rfl) (by kernel_rfl) (by simp [Value.oneCell']) ?_) | (go_at_call 10; refine (HN.out _).mono ?_; rintro e w' ⟨rfl, hb1⟩; have hE1 : Ext _ w' := hb1; clear hb1; have hE1c0 := hE1.cellsOf (b := w.heap.size) (heap_before _ _ (heap_before _ _ (heap_at _ _ (by simp)))); have hE1l0 := hE1.blt (b := w.heap.size) (heap_before _ _ (heap_before _ _ (heap_at _ _ (by simp)))); have hE1f0 := hE1.freeOf (b := w.heap.size) (heap_before _ _ (heap_before _ _ (heap_at _ _ (by simp)))); have hE1c1 := hE1.cellsOf (b := w.heap.size + 1) (heap_before _ _ (heap_at _ _ (by simp))); have hE1l1 := hE1.blt (b := w.heap.size + 1) (heap_before _ _ (heap_at _ _ (by simp))); have hE1f1 := hE1.freeOf (b := w.heap.size + 1) (heap_before _ _ (heap_at _ _ (by simp))); have hE1c2 := hE1.cellsOf (b := w.heap.size + 1 + 1) (heap_at _ _ (by simp)); have hE1l2 := hE1.blt (b := w.heap.size + 1 + 1) (heap_at _ _ (by simp)); have hE1f2 := hE1.freeOf (b := w.heap.size + 1 + 1) (heap_at _ _ (by simp)); have HE1 := Lib.hid hE1; clear hE1))
    refine bodyPost_ret (res_cell_tmp rfl rfl rfl ((by (repeat with_reducible first | refine blk_drew ?_ | refine blk_alloc _ ?_); exact putBlk_same _ (by (repeat with_reducible first | refine lt_drew ?_ | refine lt_alloc ?_ | refine lt_set ?_ | refine lt_put ?_); omega))) (by kernel_rfl) (by kernel_rfl)) rfl ?_
    exact ⟨rfl, (by show Ext _ _; (repeat with_reducible first | refine Ext.setNew ?_ (by omega) _ | refine Ext.drew ?_ | refine Ext.alloc ?_ _ | refine Ext.putNew ?_ (by omega) _); exact (((((Ext.refl w).alloc _).alloc _).alloc _).trans HE1.out))⟩
  · cases py
    · go_enter Try.func14, Try.ntmps14
      go_wp2_with (first | (refine wpList_store_blk rfl rfl rfl rfl (by (repeat with_reducible first | refine blk_drew ?_ | refine blk_alloc _ ?_ | refine blk_off (by omega) ?_ | refine blk_put (by omega) ?_); exact (HE1.out.block (b := w.heap.size + 1 + 1) (heap_at _ _ (by simp)))) (by rfl) (by kernel_rfl) (by simp [Value.oneCell']) ?_) | (go_at_call 10; refine (HN.out _).mono ?_; rintro e w' ⟨rfl, hb1⟩; have hE1 : Ext _ w' := hb1; clear hb1; have hE1c0 := hE1.cellsOf (b := w.heap.size) (heap_before _ _ (heap_before _ _ (heap_at _ _ (by simp)))); have hE1l0 := hE1.blt (b := w.heap.size) (heap_before _ _ (heap_before _ _ (heap_at _ _ (by simp)))); have hE1f0 := hE1.freeOf (b := w.heap.size) (heap_before _ _ (heap_before _ _ (heap_at _ _ (by simp)))); have hE1c1 := hE1.cellsOf (b := w.heap.size + 1) (heap_before _ _ (heap_at _ _ (by simp))); have hE1l1 := hE1.blt (b := w.heap.size + 1) (heap_before _ _ (heap_at _ _ (by simp))); have hE1f1 := hE1.freeOf (b := w.heap.size + 1) (heap_before _ _ (heap_at _ _ (by simp))); have hE1c2 := hE1.cellsOf (b := w.heap.size + 1 + 1) (heap_at _ _ (by simp)); have hE1l2 := hE1.blt (b := w.heap.size + 1 + 1) (heap_at _ _ (by simp)); have hE1f2 := hE1.freeOf (b := w.heap.size + 1 + 1) (heap_at _ _ (by simp)); have HE1 := Lib.hid hE1; clear hE1))
      refine bodyPost_ret (res_cell_tmp rfl rfl rfl ((by (repeat with_reducible first | refine blk_drew ?_ | refine blk_alloc _ ?_); exact putBlk_same _ (by (repeat with_reducible first | refine lt_drew ?_ | refine lt_alloc ?_ | refine lt_set ?_ | refine lt_put ?_); omega))) (by kernel_rfl) (by kernel_rfl)) rfl ?_
      exact ⟨rfl, (by show Ext _ _; (repeat with_reducible first | refine Ext.setNew ?_ (by omega) _ | refine Ext.drew ?_ | refine Ext.alloc ?_ _ | refine Ext.putNew ?_ (by omega) _); exact (((((Ext.refl w).alloc _).alloc _).alloc _).trans HE1.out))⟩
    · go_enter Try.func14, Try.ntmps14
      go_wp2_with (first | (refine wpList_store_blk rfl rfl rfl rfl (by (repeat with_reducible first | refine blk_drew ?_ | refine blk_alloc _ ?_ | refine blk_off (by omega) ?_ | refine blk_put (by omega) ?_); exact (HE1.out.block (b := w.heap.size + 1 + 1) (heap_at _ _ (by simp)))) (by rfl) (by kernel_rfl) (by simp [Value.oneCell']) ?_) | (go_at_call 10; refine (HN.out _).mono ?_; rintro e w' ⟨rfl, hb1⟩; have hE1 : Ext _ w' := hb1; clear hb1; have hE1c0 := hE1.cellsOf (b := w.heap.size) (heap_before _ _ (heap_before _ _ (heap_at _ _ (by simp)))); have hE1l0 := hE1.blt (b := w.heap.size) (heap_before _ _ (heap_before _ _ (heap_at _ _ (by simp)))); have hE1f0 := hE1.freeOf (b := w.heap.size) (heap_before _ _ (heap_before _ _ (heap_at _ _ (by simp)))); have hE1c1 := hE1.cellsOf (b := w.heap.size + 1) (heap_before _ _ (heap_at _ _ (by simp))); have hE1l1 := hE1.blt (b := w.heap.size + 1) (heap_before _ _ (heap_at _ _ (by simp))); have hE1f1 := hE1.freeOf (b := w.heap.size + 1) (heap_before _ _ (heap_at _ _ (by simp))); have hE1c2 := hE1.cellsOf (b := w.heap.size + 1 + 1) (heap_at _ _ (by simp)); have hE1l2 := hE1.blt (b := w.heap.size + 1 + 1) (heap_at _ _ (by simp)); have hE1f2 := hE1.freeOf (b := w.heap.size + 1 + 1) (heap_at _ _ (by simp)); have HE1 := Lib.hid hE1; clear hE1))
      refine bodyPost_ret (res_cell_tmp rfl rfl rfl ((by (repeat with_reducible first | refine blk_drew ?_ | refine blk_alloc _ ?_); exact putBlk_same _ (by (repeat with_reducible first | refine lt_drew ?_ | refine lt_alloc ?_ | refine lt_set ?_ | refine lt_put ?_); omega))) (by kernel_rfl) (by kernel_rfl)) rfl ?_
      exact ⟨rfl, (by show Ext _ _; (repeat with_reducible first | refine Ext.setNew ?_ (by omega) _ | refine Ext.drew ?_ | refine Ext.alloc ?_ _ | refine Ext.putNew ?_ (by omega) _); exact (((((Ext.refl w).alloc _).alloc _).alloc _).trans HE1.out))⟩
end Go.Proofs.Ytodanmikpajeeaa
