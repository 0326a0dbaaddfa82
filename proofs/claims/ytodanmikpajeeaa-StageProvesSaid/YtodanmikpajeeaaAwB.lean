/- The program's strong sum (layer 6), of three bytes: the walks. -/
import Derived.Test.YtodanmikpajeeaaAwA
import Derived.Laws.AppendOwn
import Derived.Laws.AppendOwnNone
namespace Go.Proofs.Ytodanmikpajeeaa
open Go Go.Proofs Go.RowKit

set_option maxRecDepth 100000 in
theorem mstart_any (w : World) : Calls Try.prog 79 #[] w (RetV w (.agg #[.int .u64 2611923443488327891, .int .u64 1376283091369227076])) := by
  go_enter Try.func79, Try.ntmps79
  go_wp2
  refine bodyPost_ret (res_cell rfl rfl ((heap_new w _)) (by kernel_rfl) (by kernel_rfl)) rfl ?_
  exact ⟨rfl, below_alloc1 _ _⟩

/-- A hash in memory. -/
abbrev hBlk (hi lo : Int) (begun : Bool) (left : Value) (n : Int) : Obj := .cells #[.int .u64 hi, .int .u64 lo, .bool begun, left, .int .i64 n] 127
abbrev mBlk (h l : Int) : Obj := .cells #[.int .u64 h, .int .u64 l] 125
theorem blk_cell' {w : World} {b : Nat} {cs : Array Value} {T : TypeId} {fz : Nat × Nat} (h : w.heap[b]? = some (.cells cs T fz)) (o : Nat) : w.cell? ⟨b, o, none⟩ = cs[o]? := (Ext.refl w).cellsOf h o
/-- A call that hands back nothing that is looked at, and turns block b alone to o. -/
def TurnsTo (b : Nat) (o : Obj) (w : World) (e : Ending) (w' : World) : Prop := (∃ v, e = .returned v) ∧ w'.heap[b]? = some o ∧ Off b w w'

set_option maxRecDepth 100000 in
theorem begin_new (b : Nat) (L : Value) (n : Int) (w : World) (h : w.heap[b]? = some (hBlk 0 0 false L n)) :
    Calls Try.prog 72 #[.pointer (some ⟨b, 0, none⟩)] w (TurnsTo b (hBlk 2611923443488327891 1376283091369227076 true L n) w) := by
  have S := Lib.hid mstart_any
  have hl := blk_lt h
  have hc : ∀ o, w.cell? ⟨b, o, none⟩ = _ := fun o => (Ext.refl w).cellsOf h o
  have H := Lib.hid h; clear h
  go_enter Try.func72, Try.ntmps72
  go_wp2_with (go_at_call 79; refine (S.out _).mono ?_; rintro e w1 ⟨rfl, hb1⟩; have hc1 := Ext.cellsOf hb1 H.out; have hf1 := Ext.freeOf hb1 H.out; have hl1 := Ext.blt hb1 H.out; have hE := Lib.hid hb1; clear hb1)
  go_end0
  exact ⟨⟨_, rfl⟩, blk_set _ (blk_set _ (blk_set _ (Ext.block hE.out H.out))), Off.setCell (Off.setCell (Off.setCell (Off.of_ext hE.out) _ _) _ _) _ _⟩
set_option maxRecDepth 100000 in
theorem begin_old (b : Nat) (hi lo : Int) (L : Value) (n : Int) (w : World) (h : w.heap[b]? = some (hBlk hi lo true L n)) :
    Calls Try.prog 72 #[.pointer (some ⟨b, 0, none⟩)] w (fun e w' => (∃ v, e = .returned v) ∧ w = w') := by
  have hc : ∀ o, w.cell? ⟨b, o, none⟩ = _ := fun o => (Ext.refl w).cellsOf h o
  have H := Lib.hid h; clear h
  go_enter Try.func72, Try.ntmps72
  go_wp2
  go_end0
  exact ⟨⟨_, rfl⟩, rfl⟩

set_option maxRecDepth 100000 in
theorem word_3 (b off c : Nat) (w : World) (h0 : w.cell? ⟨b, off, none⟩ = some (.int .u8 120)) (h1 : w.cell? ⟨b, off + 1, none⟩ = some (.int .u8 121)) (h2 : w.cell? ⟨b, off + 2, none⟩ = some (.int .u8 122)) :
    Calls Try.prog 74 #[.slice (some ⟨b, off, none⟩) 3 c] w (fun e w' => e = .returned (.int .u64 8026488) ∧ w = w') := by
  go_enter Try.func74, Try.ntmps74
  go_wp2
  refine wp_loop_rounds 4 ?_
  rw [rounds_succ]
  go_wp2
  simp only [rounds_succ]
  go_wp2
  simp only [rounds_succ]
  go_wp2
  simp only [rounds_succ]
  go_wp2
  go_ret
  exact ⟨rfl, rfl⟩

theorem app_at {xs ys : Array Value} {i : Nat} {v : Value} (h : xs[i]? = some v) : (xs ++ ys)[i]? = some v := by
  rw [Array.getElem?_append_left (by
    rcases Nat.lt_or_ge i xs.size with hb | hb
    · exact hb
    · simp [Array.getElem?_eq_none hb] at h)]
  exact h
/-- What a sum of three bytes leaves of its hash: the bytes in a row of its own. -/
def WroteTo (b : Nat) (w : World) (e : Ending) (w' : World) : Prop := (∃ v, e = .returned v) ∧ ∃ g c cur, w'.heap[b]? = some (hBlk 2611923443488327891 1376283091369227076 true (.slice (some ⟨g, 0, none⟩) 3 c) 3) ∧ w.heap.size ≤ g ∧
  w'.heap[g]? = some (.cells cur 5 (0, 0)) ∧ cur[0]? = some (.int .u8 120) ∧ cur[1]? = some (.int .u8 121) ∧ cur[2]? = some (.int .u8 122) ∧ Off b w w'
set_option maxHeartbeats 1000000 in
set_option maxRecDepth 100000 in
theorem write_3 (b g off c : Nat) (w : World) (h : w.heap[b]? = some (hBlk 0 0 false (.slice none 0 0) 0)) (hg : g < w.heap.size) (hgb : g ≠ b)
    (h0 : w.cell? ⟨g, off, none⟩ = some (.int .u8 120)) (h1 : w.cell? ⟨g, off + 1, none⟩ = some (.int .u8 121)) (h2 : w.cell? ⟨g, off + 2, none⟩ = some (.int .u8 122)) :
    Calls Try.prog 62 #[.pointer (some ⟨b, 0, none⟩), .slice (some ⟨g, off, none⟩) 3 c] w (WroteTo b w) := by
  have B := Lib.hid (begin_new b (.slice none 0 0) 0 w h)
  have H := Lib.hid h; clear h
  go_enter Try.func62, Try.ntmps62
  go_wp2_with (first
    | (go_at_call 72; refine (B.out).mono ?_; rintro e w1 ⟨⟨v, rfl⟩, hB1, hO1⟩; have hc1 : ∀ o, w1.cell? ⟨b, o, none⟩ = _ := (fun o => (Ext.refl w1).cellsOf hB1 o); have hf1 := (Ext.refl w1).freeOf hB1; have l1 := blk_lt hB1; have lg : g < w1.heap.size := Nat.lt_of_lt_of_le hg hO1.size; have hO := Lib.hid hO1; have g0 := (hO1.cell (k := g) (o := off) hg hgb).trans h0; have g1 := (hO1.cell (k := g) (o := off + 1) hg hgb).trans h1; have g2 := (hO1.cell (k := g) (o := off + 2) hg hgb).trans h2; have HB1 := Lib.hid hB1; clear hB1 hO1))
  refine wp_loop_rounds 1 ?_
  rw [rounds_succ]
  have hB1 := HB1.out
  have lb := blk_lt hB1
  go_wp2
  go_end0
  exact ⟨⟨_, rfl⟩, w1.heap.size + 1, _, _, blk_drew (blk_alloc _ (blk_alloc _ (blk_set _ (blk_set _ HB1.out)))), by have := hO.out.size; omega, blk_drew (heap_at _ _ (by simp)), app_at rfl, app_at rfl, app_at rfl, Off.drew (Off.alloc (Off.alloc (Off.setCell (Off.setCell hO.out _ _) _ _) _) _)⟩

/-- What a round of the program's tells, its numbers under names. -/
def MixTold (hi lo x : Int) (w : World) (e : Ending) (w' : World) : Prop := ∃ h l : Int, e = .returned (.agg #[.int .u64 h, .int .u64 l]) ∧ (h = mixHi hi lo x ∧ l = mixLo hi lo x) ∧ Ext w w'
theorem mround_told (hi lo x : Int) (w : World) : Calls Try.prog 73 #[.agg #[.int .u64 hi, .int .u64 lo], .int .u64 x] w (MixTold hi lo x w) :=
  (mround_any hi lo x w).mono fun _ _ ⟨h, hE⟩ => ⟨_, _, h, ⟨rfl, rfl⟩, hE⟩
theorem mix3_of {A B x a1 b1 a2 b2 a3 b3 a4 b4 a5 b5 : Int} (e1 : a1 = mixHi A B x) (f1 : b1 = mixLo A B x) (e2 : a2 = mixHi a1 b1 3) (f2 : b2 = mixLo a1 b1 3)
    (e3 : a3 = mixHi a2 b2 18446744073709551615) (f3 : b3 = mixLo a2 b2 18446744073709551615) (e4 : a4 = mixHi a3 b3 0) (f4 : b4 = mixLo a3 b3 0) (e5 : a5 = mixHi a4 b4 0) (f5 : b5 = mixLo a4 b4 0) :
    Ending.returned (.agg #[.int .u64 a5, .int .u64 b5]) = Ending.returned (.agg #[.int .u64 (mix3 A B x).1, .int .u64 (mix3 A B x).2]) := by
  have g1 : mrnd (A, B) x = (a1, b1) := by rw [e1, f1, mrnd]
  have g2 : mrnd (a1, b1) 3 = (a2, b2) := by rw [e2, f2, mrnd]
  have g3 : mrnd (a2, b2) 18446744073709551615 = (a3, b3) := by rw [e3, f3, mrnd]
  have g4 : mrnd (a3, b3) 0 = (a4, b4) := by rw [e4, f4, mrnd]
  have g5 : mrnd (a4, b4) 0 = (a5, b5) := by rw [e5, f5, mrnd]
  rw [mix3, g1, g2, g3, g4, g5]

set_option maxHeartbeats 2000000 in
set_option maxRecDepth 100000 in
theorem sum_3 (b g c : Nat) (hi lo : Int) (w : World) (hb : w.heap[b]? = some (hBlk hi lo true (.slice (some ⟨g, 0, none⟩) 3 c) 3)) (cur : Array Value) (hg : w.heap[g]? = some (.cells cur 5 (0, 0)))
    (h0 : cur[0]? = some (.int .u8 120)) (h1 : cur[1]? = some (.int .u8 121)) (h2 : cur[2]? = some (.int .u8 122)) :
    Calls Try.prog 63 #[.pointer (some ⟨b, 0, none⟩)] w (RetV w (.agg #[.int .u64 (mix3 hi lo 8026488).1, .int .u64 (mix3 hi lo 8026488).2])) := by
  have R := Lib.hid mround_told
  have BG := Lib.hid (fun w hb => begin_old b hi lo (.slice (some ⟨g, 0, none⟩) 3 c) 3 w hb)
  have HB := Lib.hid hb; clear hb
  have HG := Lib.hid hg; clear hg
  have lb := blk_lt HB.out
  have lg := blk_lt HG.out
  have H0 := Lib.hid h0; clear h0
  have H1 := Lib.hid h1; clear h1
  have H2 := Lib.hid h2; clear h2
  go_enter Try.func63, Try.ntmps63
  have hc : ∀ o, w.cell? ⟨b, o, none⟩ = _ := fun o => (Ext.refl w).cellsOf HB.out o
  go_wp2_with (first
    | (go_at_call 72; refine (BG.out _ (blk_alloc _ HB.out)).mono ?_; rintro e w1 ⟨⟨v, rfl⟩, rfl⟩))
  refine wp_draw_stages 42 7 [] [([true, true, true, true, true], 5), ([], 6)] Ext Ext.refl (fun _ _ _ => Ext.trans) (by kernel_rfl) (by kernel_rfl) ?_
  apply wpStages_cons (by simp)
  · intro w1 hw1
    simp only [sel_true, sel_nil]
    have d0 := hw1.cellsOf (b := b) (blk_drew (blk_alloc _ (blk_alloc _ HB.out))); have d1 := hw1.cellsOf (b := w.heap.size + 1) (blk_drew (heap_at _ _ (by simp)))
    repeat still_step
    exact wpStill_nil rfl
  simp only [List.getD_cons_succ, List.getD_cons_zero]
  go_wp2_with (go_at_call 74; refine (word_3 g 0 c _ ((blk_cell (blk_drew (blk_alloc _ (blk_alloc _ HG.out))) H0.out)) (blk_cell (blk_drew (blk_alloc _ (blk_alloc _ HG.out))) H1.out) (blk_cell (blk_drew (blk_alloc _ (blk_alloc _ HG.out))) H2.out)).mono ?_; rintro e w2 ⟨rfl, rfl⟩)
  refine ⟨Ext.refl _, ?_⟩
  apply wpStages_cons (by simp)
  · intro w1 hw1
    simp only [sel_nil]
    have d0 := hw1.cellsOf (b := b) (blk_drew (blk_alloc _ (blk_alloc _ HB.out))); have d1 := hw1.cellsOf (b := w.heap.size + 1) (blk_drew (heap_at _ _ (by simp)))
    repeat still_step
    exact wpStill_nil rfl
  simp only [List.getD_cons_succ, List.getD_cons_zero]
  go_wp2_with (go_at_call 73; refine (R.out _ _ _ _).mono ?_; rintro e wn ⟨h1, l1, rfl, hx1, hbn⟩; have H := Lib.hid hx1; clear hx1)
  refine ⟨hbn, ?_⟩
  have HE := Lib.hid (Ext.trans (((Ext.refl w).alloc _).alloc _).drew hbn)
  have HS := Lib.hid (Ext.block hbn (b := w.heap.size + 1) (blk_drew (heap_at _ _ (by simp))))
  have HK := Lib.hid (Ext.block hbn (b := w.heap.size) (blk_drew (blk_alloc _ (heap_new _ _))))
  have HBn := Lib.hid (Ext.block hbn (b := b) (blk_drew (blk_alloc _ (blk_alloc _ HB.out))))
  have l0 := blk_lt HS.out
  clear hbn hc
  refine wpStages_nil ?_
  simp only [sel_nil]
  repeat still_step
  refine wpStill_nil ?_
  simp only [List.drop_succ_cons, List.drop_zero]
  go_wp2_with (first
    | ((refine wpList_store_blk rfl rfl rfl rfl (by (repeat with_reducible first | refine blk_drew ?_ | refine blk_alloc _ ?_ | refine blk_off (by omega) ?_ | refine blk_put (by omega) ?_); with_reducible exact HS.out) (by rfl) (by kernel_rfl) (by simp [Value.oneCell']) ?_); have hcc : ∀ o, (putBlk wn (w.heap.size + 1) (.cells #[.int .u64 h1, .int .u64 l1] 125)).cell? ⟨w.heap.size + 1, o, none⟩ = _ := (fun o => putBlk_cell l0); have hcb := (fun o => (putBlk_cell_other wn (.cells #[.int .u64 h1, .int .u64 l1] 125) ⟨b, o, none⟩ (by show b ≠ w.heap.size + 1; omega)).trans (blk_cell' HBn.out o)); have HS := Lib.hid (putBlk_same (mBlk h1 l1) l0); have HE := Lib.hid (HE.out.putNew (b := w.heap.size + 1) (by omega) (mBlk h1 l1)); have HK := Lib.hid (blk_put (x := mBlk h1 l1) (b := w.heap.size + 1) (by omega) HK.out); have HBn := Lib.hid (blk_put (x := mBlk h1 l1) (b := w.heap.size + 1) (by omega) HBn.out))
    | ((refine wpList_store_blk rfl rfl rfl rfl (by (repeat with_reducible first | refine blk_drew ?_ | refine blk_alloc _ ?_ | refine blk_off (by omega) ?_ | refine blk_put (by omega) ?_); with_reducible exact HK.out) (by rfl) (by kernel_rfl) (by simp [Value.oneCell']) ?_))
    | (go_at_call 73; refine (R.out _ _ _ _).mono ?_; rintro e wn ⟨h1, l1, rfl, hx1, hbn⟩; have H := Lib.hid (And.intro H.out hx1); clear hx1; have l0 := Ext.blt hbn HS.out; have HS := Lib.hid (Ext.block hbn HS.out); have HE := Lib.hid (HE.out.trans hbn); have HK := Lib.hid (Ext.block hbn HK.out); have HBn := Lib.hid (Ext.block hbn HBn.out); clear hbn))
  have i0 : ∀ w, (Instr.index 144 (.agg #[.int .u64 3, .int .u64 18446744073709551615, .int .u64 0, .int .u64 0]) (.int .i64 0)).run Try.prog w = .ok (.int .u64 3) w := fun _ => by kernel_rfl
  have i1 : ∀ w, (Instr.index 144 (.agg #[.int .u64 3, .int .u64 18446744073709551615, .int .u64 0, .int .u64 0]) (.int .i64 1)).run Try.prog w = .ok (.int .u64 18446744073709551615) w := fun _ => by kernel_rfl
  have i2 : ∀ w, (Instr.index 144 (.agg #[.int .u64 3, .int .u64 18446744073709551615, .int .u64 0, .int .u64 0]) (.int .i64 2)).run Try.prog w = .ok (.int .u64 0) w := fun _ => by kernel_rfl
  have i3 : ∀ w, (Instr.index 144 (.agg #[.int .u64 3, .int .u64 18446744073709551615, .int .u64 0, .int .u64 0]) (.int .i64 3)).run Try.prog w = .ok (.int .u64 0) w := fun _ => by kernel_rfl
  clear hcb HBn
  refine wp_loop_rounds 5 ?_
  rw [rounds_succ]
  go_wp2_with (first
    | ((refine wpList_store_blk rfl rfl rfl rfl (by (repeat with_reducible first | refine blk_drew ?_ | refine blk_alloc _ ?_ | refine blk_off (by omega) ?_ | refine blk_put (by omega) ?_); with_reducible exact HS.out) (by rfl) (by kernel_rfl) (by simp [Value.oneCell']) ?_); have hcc : ∀ o, (putBlk wn (w.heap.size + 1) (.cells #[.int .u64 h1, .int .u64 l1] 125)).cell? ⟨w.heap.size + 1, o, none⟩ = _ := (fun o => putBlk_cell l0); have HT := Lib.hid (putBlk_same (mBlk h1 l1) l0); clear HS; have HS := Lib.hid HT.out; clear HT; have HT := Lib.hid (HE.out.putNew (b := w.heap.size + 1) (by omega) (mBlk h1 l1)); clear HE; have HE := Lib.hid HT.out; clear HT; have HT := Lib.hid (blk_put (x := mBlk h1 l1) (b := w.heap.size + 1) (by omega) HK.out); clear HK; have HK := Lib.hid HT.out; clear HT)
    | (refine wpList_store_blk rfl rfl rfl rfl HK.out (by rfl) (by kernel_rfl) (by simp [Value.oneCell']) ?_)
    | (go_at_call 73; refine (R.out _ _ _ _).mono ?_; rintro e wn ⟨h1, l1, rfl, hx1, hbn⟩; clear hcc; have HT := Lib.hid (And.intro H.out hx1); clear hx1 H; have H := Lib.hid HT.out; clear HT; clear l0; have l0 := Ext.blt hbn HS.out; have HT := Lib.hid (Ext.block hbn HS.out); clear HS; have HS := Lib.hid HT.out; clear HT; have HT := Lib.hid (HE.out.trans hbn); clear HE; have HE := Lib.hid HT.out; clear HT; have HT := Lib.hid (Ext.block hbn HK.out); clear HK; have HK := Lib.hid HT.out; clear HT; clear hbn))
  simp only [rounds_succ]
  go_wp2_with (first
    | ((refine wpList_store_blk rfl rfl rfl rfl (by (repeat with_reducible first | refine blk_drew ?_ | refine blk_alloc _ ?_ | refine blk_off (by omega) ?_ | refine blk_put (by omega) ?_); with_reducible exact HS.out) (by rfl) (by kernel_rfl) (by simp [Value.oneCell']) ?_); have hcc : ∀ o, (putBlk wn (w.heap.size + 1) (.cells #[.int .u64 h1, .int .u64 l1] 125)).cell? ⟨w.heap.size + 1, o, none⟩ = _ := (fun o => putBlk_cell l0); have HT := Lib.hid (putBlk_same (mBlk h1 l1) l0); clear HS; have HS := Lib.hid HT.out; clear HT; have HT := Lib.hid (HE.out.putNew (b := w.heap.size + 1) (by omega) (mBlk h1 l1)); clear HE; have HE := Lib.hid HT.out; clear HT; have HT := Lib.hid (blk_put (x := mBlk h1 l1) (b := w.heap.size + 1) (by omega) HK.out); clear HK; have HK := Lib.hid HT.out; clear HT)
    | (refine wpList_store_blk rfl rfl rfl rfl HK.out (by rfl) (by kernel_rfl) (by simp [Value.oneCell']) ?_)
    | (go_at_call 73; refine (R.out _ _ _ _).mono ?_; rintro e wn ⟨h1, l1, rfl, hx1, hbn⟩; clear hcc; have HT := Lib.hid (And.intro H.out hx1); clear hx1 H; have H := Lib.hid HT.out; clear HT; clear l0; have l0 := Ext.blt hbn HS.out; have HT := Lib.hid (Ext.block hbn HS.out); clear HS; have HS := Lib.hid HT.out; clear HT; have HT := Lib.hid (HE.out.trans hbn); clear HE; have HE := Lib.hid HT.out; clear HT; have HT := Lib.hid (Ext.block hbn HK.out); clear HK; have HK := Lib.hid HT.out; clear HT; clear hbn))
  simp only [rounds_succ]
  go_wp2_with (first
    | ((refine wpList_store_blk rfl rfl rfl rfl (by (repeat with_reducible first | refine blk_drew ?_ | refine blk_alloc _ ?_ | refine blk_off (by omega) ?_ | refine blk_put (by omega) ?_); with_reducible exact HS.out) (by rfl) (by kernel_rfl) (by simp [Value.oneCell']) ?_); have hcc : ∀ o, (putBlk wn (w.heap.size + 1) (.cells #[.int .u64 h1, .int .u64 l1] 125)).cell? ⟨w.heap.size + 1, o, none⟩ = _ := (fun o => putBlk_cell l0); have HT := Lib.hid (putBlk_same (mBlk h1 l1) l0); clear HS; have HS := Lib.hid HT.out; clear HT; have HT := Lib.hid (HE.out.putNew (b := w.heap.size + 1) (by omega) (mBlk h1 l1)); clear HE; have HE := Lib.hid HT.out; clear HT; have HT := Lib.hid (blk_put (x := mBlk h1 l1) (b := w.heap.size + 1) (by omega) HK.out); clear HK; have HK := Lib.hid HT.out; clear HT)
    | (refine wpList_store_blk rfl rfl rfl rfl HK.out (by rfl) (by kernel_rfl) (by simp [Value.oneCell']) ?_)
    | (go_at_call 73; refine (R.out _ _ _ _).mono ?_; rintro e wn ⟨h1, l1, rfl, hx1, hbn⟩; clear hcc; have HT := Lib.hid (And.intro H.out hx1); clear hx1 H; have H := Lib.hid HT.out; clear HT; clear l0; have l0 := Ext.blt hbn HS.out; have HT := Lib.hid (Ext.block hbn HS.out); clear HS; have HS := Lib.hid HT.out; clear HT; have HT := Lib.hid (HE.out.trans hbn); clear HE; have HE := Lib.hid HT.out; clear HT; have HT := Lib.hid (Ext.block hbn HK.out); clear HK; have HK := Lib.hid HT.out; clear HT; clear hbn))
  simp only [rounds_succ]
  go_wp2_with (first
    | ((refine wpList_store_blk rfl rfl rfl rfl (by (repeat with_reducible first | refine blk_drew ?_ | refine blk_alloc _ ?_ | refine blk_off (by omega) ?_ | refine blk_put (by omega) ?_); with_reducible exact HS.out) (by rfl) (by kernel_rfl) (by simp [Value.oneCell']) ?_); have hcc : ∀ o, (putBlk wn (w.heap.size + 1) (.cells #[.int .u64 h1, .int .u64 l1] 125)).cell? ⟨w.heap.size + 1, o, none⟩ = _ := (fun o => putBlk_cell l0); have HT := Lib.hid (putBlk_same (mBlk h1 l1) l0); clear HS; have HS := Lib.hid HT.out; clear HT; have HT := Lib.hid (HE.out.putNew (b := w.heap.size + 1) (by omega) (mBlk h1 l1)); clear HE; have HE := Lib.hid HT.out; clear HT; have HT := Lib.hid (blk_put (x := mBlk h1 l1) (b := w.heap.size + 1) (by omega) HK.out); clear HK; have HK := Lib.hid HT.out; clear HT)
    | (refine wpList_store_blk rfl rfl rfl rfl HK.out (by rfl) (by kernel_rfl) (by simp [Value.oneCell']) ?_)
    | (go_at_call 73; refine (R.out _ _ _ _).mono ?_; rintro e wn ⟨h1, l1, rfl, hx1, hbn⟩; clear hcc; have HT := Lib.hid (And.intro H.out hx1); clear hx1 H; have H := Lib.hid HT.out; clear HT; clear l0; have l0 := Ext.blt hbn HS.out; have HT := Lib.hid (Ext.block hbn HS.out); clear HS; have HS := Lib.hid HT.out; clear HT; have HT := Lib.hid (HE.out.trans hbn); clear HE; have HE := Lib.hid HT.out; clear HT; have HT := Lib.hid (Ext.block hbn HK.out); clear HK; have HK := Lib.hid HT.out; clear HT; clear hbn))
  simp only [rounds_succ]
  go_wp2_with (first
    | ((refine wpList_store_blk rfl rfl rfl rfl (by (repeat with_reducible first | refine blk_drew ?_ | refine blk_alloc _ ?_ | refine blk_off (by omega) ?_ | refine blk_put (by omega) ?_); with_reducible exact HS.out) (by rfl) (by kernel_rfl) (by simp [Value.oneCell']) ?_); have hcc : ∀ o, (putBlk wn (w.heap.size + 1) (.cells #[.int .u64 h1, .int .u64 l1] 125)).cell? ⟨w.heap.size + 1, o, none⟩ = _ := (fun o => putBlk_cell l0); have HT := Lib.hid (putBlk_same (mBlk h1 l1) l0); clear HS; have HS := Lib.hid HT.out; clear HT; have HT := Lib.hid (HE.out.putNew (b := w.heap.size + 1) (by omega) (mBlk h1 l1)); clear HE; have HE := Lib.hid HT.out; clear HT; have HT := Lib.hid (blk_put (x := mBlk h1 l1) (b := w.heap.size + 1) (by omega) HK.out); clear HK; have HK := Lib.hid HT.out; clear HT)
    | (refine wpList_store_blk rfl rfl rfl rfl HK.out (by rfl) (by kernel_rfl) (by simp [Value.oneCell']) ?_)
    | (go_at_call 73; refine (R.out _ _ _ _).mono ?_; rintro e wn ⟨h1, l1, rfl, hx1, hbn⟩; clear hcc; have HT := Lib.hid (And.intro H.out hx1); clear hx1 H; have H := Lib.hid HT.out; clear HT; clear l0; have l0 := Ext.blt hbn HS.out; have HT := Lib.hid (Ext.block hbn HS.out); clear HS; have HS := Lib.hid HT.out; clear HT; have HT := Lib.hid (HE.out.trans hbn); clear HE; have HE := Lib.hid HT.out; clear HT; have HT := Lib.hid (Ext.block hbn HK.out); clear HK; have HK := Lib.hid HT.out; clear HT; clear hbn))
  obtain ⟨⟨⟨⟨⟨ha1, hb1⟩, ha2, hb2⟩, ha3, hb3⟩, ha4, hb4⟩, ha5, hb5⟩ := H.out
  refine bodyPost_ret (res_cell rfl rfl (putBlk_same _ (blk_lt HK.out)) (by kernel_rfl) (by kernel_rfl)) rfl ?_
  exact ⟨mix3_of ha1 hb1 ha2 hb2 ha3 hb3 ha4 hb4 ha5 hb5, HE.out.putNew (Nat.le_refl _) _⟩
end Go.Proofs.Ytodanmikpajeeaa
