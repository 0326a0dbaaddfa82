/- What a proof makes of an answer: the program's Take, the document's Told. -/
import Derived.Test.YtodanmikpajeeaaStageC
namespace Go.Proofs.Ytodanmikpajeeaa
open Go Go.Proofs Go.RowKit

set_option maxHeartbeats 1000000 in
set_option maxRecDepth 100000 in
theorem take_done (b : Nat) (n pc at_ sh : Int) (data : ByteArray) (same : Bool) (w : World) (h : w.heap[b]? = some (pBlk n pc data at_ sh true same))
    (k mn ma tt : Int) (y : Bool) (c : Int) (s : ByteArray) (sz : Int) (bl : Value) (tl lw lh ll : Int) (en : Value) (hbl : IsSl bl) (hen : IsSl en) :
    Calls Try.prog 13 #[.pointer (some ⟨b, 0, none⟩), msgV k mn ma tt y c s sz bl tl lw lh ll en] w (RetV w (.int .i64 15)) := by
  obtain ⟨_, _, _, rfl⟩ := hbl
  obtain ⟨_, _, _, rfl⟩ := hen
  unfold msgV
  go_enter Try.func13, Try.ntmps13
  go_wp2_with (go_at_call 9; refine (next_done b n pc at_ sh data same _ (blk_alloc _ h)).mono ?_; unfold zMsg; rintro e w' ⟨rfl, hb1⟩; have hE1 : Ext _ w' := hb1; clear hb1)
  go_ret
  exact ⟨rfl, (((Ext.refl w).alloc _).trans hE1).alloc _⟩

set_option maxHeartbeats 1000000 in
set_option maxRecDepth 100000 in
theorem take_err (b : Nat) (n pc at_ sh : Int) (data : ByteArray) (same : Bool) (w : World) (h : w.heap[b]? = some (pBlk n pc data at_ sh false same))
    (h1 : 0 ≤ at_) (h2 : at_ ≤ data.size) (h3 : 1 ≤ pc) (h4 : pc ≤ 512) (hs : data.size ≤ 150)
    (k mn ma tt : Int) (y : Bool) (c : Int) (s : ByteArray) (sz : Int) (bl : Value) (tl lw lh ll : Int) (en : Value) (hbl : IsSl bl) (hen : IsSl en) (hne : toldOf k c 8 ≠ 0) :
    Calls Try.prog 13 #[.pointer (some ⟨b, 0, none⟩), msgV k mn ma tt y c s sz bl tl lw lh ll en] w (RetV w (.int .i64 (toldOf k c 8))) := by
  have T := fun w => told_any k mn ma tt y c s sz bl tl lw lh ll en 8 w hbl hen
  obtain ⟨_, _, _, rfl⟩ := hbl
  obtain ⟨_, _, _, rfl⟩ := hen
  unfold msgV at *
  have N := fun o => next_any b n pc at_ sh data same (w.alloc o) (blk_alloc o h) h1 h2 h3 h4 hs
  unfold askMsg at N
  generalize (piece at_ pc data).1 = py at N
  generalize (piece at_ pc data).2 = ps at N
  have HN := Lib.hid N; clear N
  have HT := Lib.hid T; clear T
  clear h h1 h2 h3 h4 hs
  generalize toldOf k c 8 = code at *
  have hne' : (code != 0) = true := by simp [hne]
  clear hne
  go_enter Try.func13, Try.ntmps13
  go_wp2_with (first | (go_at_call 9; refine (HN.out _).mono ?_; rintro e w' ⟨rfl, hb1⟩; have hE1 : Ext _ w' := hb1; have hc1 := fun o => hE1.cell (b := w.heap.size) (o := o) (by simp); have hlt : w.heap.size < w'.heap.size := (by have := hE1.size; simp only [World.size_alloc] at this; omega); clear hb1) | (go_at_call 30; refine (HT.out _).mono ?_; rintro e w' ⟨rfl, hb2⟩; have hE2 : Ext _ w' := hb2; clear hb2))
  go_ret
  exact ⟨rfl, ((((Ext.refl w).alloc _).trans hE1).alloc _).trans hE2⟩

set_option maxHeartbeats 2000000 in
set_option maxRecDepth 100000 in
theorem take_ok (b : Nat) (n pc at_ sh : Int) (data : ByteArray) (same : Bool) (w : World) (h : w.heap[b]? = some (pBlk n pc data at_ sh false same))
    (h1 : 0 ≤ at_) (h2 : at_ ≤ data.size) (h3 : 1 ≤ pc) (h4 : pc ≤ 512) (hs : data.size ≤ 150) (hsh : sh = at_)
    (mn ma tt : Int) (y : Bool) (c : Int) (s : ByteArray) (sz : Int) (bl : Value) (tl lw lh ll : Int) (en : Value) (hbl : IsSl bl) (hen : IsSl en) :
    Calls Try.prog 13 #[.pointer (some ⟨b, 0, none⟩), msgV 8 mn ma tt y c s sz bl tl lw lh ll en] w
     (fun e w' => e = .returned (.int .i64 0) ∧ w'.heap[b]? = some (pBlk n pc data (at_ + (piece at_ pc data).2.size) (at_ + (piece at_ pc data).2.size) (!y || (piece at_ pc data).1) (y && (piece at_ pc data).1)) ∧ Only w.heap.size b w w') := by
  have T := fun w => told_any 8 mn ma tt y c s sz bl tl lw lh ll en 8 w hbl hen
  rw [show toldOf 8 c 8 = 0 from rfl] at T
  obtain ⟨_, _, _, rfl⟩ := hbl
  obtain ⟨_, _, _, rfl⟩ := hen
  have N := fun o => next_any b n pc at_ sh data same (w.alloc o) (blk_alloc o h) h1 h2 h3 h4 hs
  have hps := piece_size at_ pc data h1 h2 h3
  generalize (piece at_ pc data).1 = py at *
  generalize (piece at_ pc data).2 = ps at *
  unfold askMsg at N
  unfold msgV at *
  have HN := Lib.hid N; clear N
  have HT := Lib.hid T; clear T
  have HH := Lib.hid h; clear h
  have hbw := blk_lt HH.out
  subst hsh
  have wr : IntKind.i64.wrap (sh + ps.size) = sh + ps.size := IntWalk.i64_in _ (by omega)
  have Hps := Lib.hid hps; clear hps
  clear h3 h4 hs
  go_enter Try.func13, Try.ntmps13
  go_wp2_with (first | (go_at_call 9; refine (HN.out _).mono ?_; rintro e w' ⟨rfl, hb1⟩; have hE1 : Ext _ w' := hb1; have hc1 := fun o => hE1.cell (b := w.heap.size) (o := o) (by simp); have hlt : w.heap.size < w'.heap.size := (by have := hE1.size; simp only [World.size_alloc] at this; omega); clear hb1) | (go_at_call 30; refine (HT.out _).mono ?_; rintro e w2 ⟨rfl, hb2⟩; have hE2 : Ext _ w2 := hb2; clear hb2; have hcm := fun o => hE2.cell (b := w.heap.size) (o := o) (by simp; omega); have hcq := fun o => hE2.cell (b := w'.heap.size) (o := o) (by simp)))
  have hbE : w2.heap[b]? = some (pBlk n pc data sh sh false same) := hE2.block (blk_alloc _ (hE1.block (blk_alloc _ HH.out)))
  have hs2 : w'.heap.size < w2.heap.size := (by have := hE2.size; simp only [World.size_alloc] at this; omega)
  have m4 : w2.cell? ⟨w.heap.size, 4, none⟩ = some (.bool y) := by rw [hcm, World.cell?_alloc_past _ _ _ (by exact hlt), hc1]; simp [go_sem]
  have q4 : w2.cell? ⟨w'.heap.size, 4, none⟩ = some (.bool py) := by rw [hcq]; simp [go_sem]
  have q6 : w2.cell? ⟨w'.heap.size, 6, none⟩ = some (.string ps) := by rw [hcq]; simp [go_sem]
  have b3 : w2.cell? ⟨b, 3, none⟩ = some (.int .i64 sh) := blk_cell hbE rfl
  have b4 : w2.cell? ⟨b, 4, none⟩ = some (.int .i64 sh) := blk_cell hbE rfl
  have b5 : w2.cell? ⟨b, 5, none⟩ = some (.bool false) := blk_cell hbE rfl
  have b6 : w2.cell? ⟨b, 6, none⟩ = some (.bool same) := blk_cell hbE rfl
  have f3 : w2.frozen? ⟨b, 3, none⟩ = false := blk_free hbE
  have f4 : w2.frozen? ⟨b, 4, none⟩ = false := blk_free hbE
  have f5 : w2.frozen? ⟨b, 5, none⟩ = false := blk_free hbE
  have f6 : w2.frozen? ⟨b, 6, none⟩ = false := blk_free hbE
  have n1 : ¬ w.heap.size = b := by omega
  have n2 : ¬ w'.heap.size = b := by omega
  have H2 := Lib.hid (And.intro hbE (And.intro hE1 hE2))
  clear hcm hcq hc1 hE1 hE2 hbE HN HT HH
  refine wp_draw_tail 10 (by kernel_rfl) (by kernel_rfl) ?_
  simp only [List.take_succ_cons, List.take_zero, List.drop_succ_cons, List.drop_zero]
  repeat still_step
  refine wpStill_nil ?_
  go_wp2
  refine wp_draw_tail 10 (by kernel_rfl) (by kernel_rfl) ?_
  simp only [List.take_succ_cons, List.take_zero, List.drop_succ_cons, List.drop_zero]
  repeat still_step
  refine wpStill_nil ?_
  go_wp2
  cases y
  · refine wp_draw_stages 59 20 [false, false, false, false, false, false, false, false, false, false, false, false, false, false, false, false, false, false, true, true] [([true, true, true, true, true, true, true, true, true, true, true, true, true, true, true, true, true], 17)] (Off b) (Off.refl b) (fun _ _ _ => Off.trans) (by kernel_rfl) (by kernel_rfl) ?_
    apply wpStages_cons (by simp)
    · intro w1 hw1
      have m4' : w1.cell? ⟨w.heap.size, 4, none⟩ = some (.bool false) := by rw [hw1.cell (by simp; omega) n1]; show ((w2.setCell _ _).setCell _ _).cell? _ = _; rw [set_cell_other n1, set_cell_other n1]; exact m4
      have q4' : w1.cell? ⟨w'.heap.size, 4, none⟩ = some (.bool py) := by rw [hw1.cell (by simp; omega) n2]; show ((w2.setCell _ _).setCell _ _).cell? _ = _; rw [set_cell_other n2, set_cell_other n2]; exact q4
      clear hw1
      simp only [sel_true, sel_nil]
      repeat still_step
      exact wpStill_nil rfl
    simp only [List.getD_cons_succ, List.getD_cons_zero]
    go_wp2
    refine ⟨((Off.refl b _).setCell _ _), ?_⟩
    refine wpStages_nil ?_
    simp only [sel_true, sel_false, sel_nil]
    repeat still_step
    refine wpStill_nil ?_
    simp only [List.drop_succ_cons, List.drop_zero]
    go_wp2
    go_ret
    obtain ⟨hbE, hE1, hE2⟩ := H2.out
    exact ⟨rfl, blk_set _ (blk_set _ (blk_set _ (blk_set _ hbE))), Off.drew (Off.drew (Off.drew (Off.setCell (Off.setCell (Off.setCell (Off.setCell (Off.of_ext ((((Ext.refl w).alloc _).trans hE1).alloc _ |>.trans hE2)) _ _) _ _) _ _) _ _)))⟩
  · refine wp_draw_stages 59 20 [false, false, false, false, false, false, false, false, false, false, false, false, false, false, false, false, false, false, true, true] [([true, true, true, true, true, true, true, true, true, true, true, true, true, true, true, true, true], 17)] (Off b) (Off.refl b) (fun _ _ _ => Off.trans) (by kernel_rfl) (by kernel_rfl) ?_
    apply wpStages_cons (by simp)
    · intro w1 hw1
      have m4' : w1.cell? ⟨w.heap.size, 4, none⟩ = some (.bool true) := by rw [hw1.cell (by simp; omega) n1]; show ((w2.setCell _ _).setCell _ _).cell? _ = _; rw [set_cell_other n1, set_cell_other n1]; exact m4
      have q4' : w1.cell? ⟨w'.heap.size, 4, none⟩ = some (.bool py) := by rw [hw1.cell (by simp; omega) n2]; show ((w2.setCell _ _).setCell _ _).cell? _ = _; rw [set_cell_other n2, set_cell_other n2]; exact q4
      clear hw1
      simp only [sel_true, sel_nil]
      repeat still_step
      exact wpStill_nil rfl
    simp only [List.getD_cons_succ, List.getD_cons_zero]
    go_wp2
    refine ⟨((Off.refl b _).setCell _ _), ?_⟩
    refine wpStages_nil ?_
    simp only [sel_true, sel_false, sel_nil]
    repeat still_step
    refine wpStill_nil ?_
    simp only [List.drop_succ_cons, List.drop_zero]
    go_wp2
    go_ret
    obtain ⟨hbE, hE1, hE2⟩ := H2.out
    exact ⟨rfl, blk_set _ (blk_set _ (blk_set _ (blk_set _ hbE))), Off.drew (Off.drew (Off.drew (Off.setCell (Off.setCell (Off.setCell (Off.setCell (Off.of_ext ((((Ext.refl w).alloc _).trans hE1).alloc _ |>.trans hE2)) _ _) _ _) _ _) _ _)))⟩
end Go.Proofs.Ytodanmikpajeeaa
