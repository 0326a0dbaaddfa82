/- The document's sketch (layer 8) of three bytes: the walks; it is enough that it answers. -/
import Derived.Test.YtodanmikpajeeaaAwB
namespace Go.Proofs.Ytodanmikpajeeaa
open Go Go.Proofs Go.RowKit

/-- A row of one word. -/
def OneWord (w : World) (e : Ending) (w' : World) : Prop := ∃ g c x, e = .returned (.slice (some ⟨g, 0, none⟩) 1 c) ∧ w.heap.size ≤ g ∧ g < w'.heap.size ∧ w'.cell? ⟨g, 0, none⟩ = some (.int .u64 x) ∧ Ext w w'
set_option maxHeartbeats 1000000 in
set_option maxRecDepth 100000 in
theorem shingles_3 (s : ByteArray) (hs : s.size = 3) (w : World) : Calls Try.prog 39 #[.string s] w (OneWord w) := by
  go_enter Try.func39, Try.ntmps39
  go_wp2
  refine wp_loop_rounds 2 ?_
  rw [rounds_succ]
  go_wp2
  refine wp_loop_rounds 4 ?_
  rw [rounds_succ]
  go_wp2
  simp only [rounds_succ]
  go_wp2
  simp only [rounds_succ]
  go_wp2
  simp only [rounds_succ]
  go_wp2
  simp only [rounds_succ]
  go_wp2
  all_goals go_ret
  all_goals exact ⟨_, _, _, rfl, by omega, by simp, blk_cell (blk_drew (heap_at _ _ (by simp))) (app_at rfl), (((Ext.refl w).alloc _).alloc _).drew⟩

/-- A word, whichever. -/
def SomeWord (w : World) (e : Ending) (w' : World) : Prop := ∃ z, e = .returned (.int .u64 z) ∧ Ext w w'
set_option maxHeartbeats 1000000 in
set_option maxRecDepth 100000 in
theorem least_1 (g c : Nat) (x k : Int) (w : World) (hx : w.cell? ⟨g, 0, none⟩ = some (.int .u64 x)) : Calls Try.prog 40 #[.slice (some ⟨g, 0, none⟩) 1 c, .int .i64 k] w (SomeWord w) := by
  have R := Lib.hid round_told
  have hfl : ∀ (h l : Int) (w : World), (Instr.field 40 (.agg #[.int .u64 h, .int .u64 l]) 1).run Try.prog w = .ok (.int .u64 l) w := fun _ _ _ => by kernel_rfl
  go_enter Try.func40, Try.ntmps40
  go_wp2
  refine wp_loop_rounds 2 ?_
  rw [rounds_succ]
  go_wp2_with (go_at_call 38; refine (R.out _ _ _ _).mono ?_; rintro e wn ⟨h1, l1, rfl, hx1, hbn⟩; have HE := Lib.hid hbn; clear hbn hx1)
  all_goals simp only [rounds_succ]
  all_goals go_wp2
  all_goals go_ret
  all_goals exact ⟨_, rfl, HE.out⟩
/-- A sketch, whichever. -/
abbrev skBlk (s0 s1 s2 s3 s4 s5 s6 s7 : Int) : Obj := .cells #[.int .u64 s0, .int .u64 s1, .int .u64 s2, .int .u64 s3, .int .u64 s4, .int .u64 s5, .int .u64 s6, .int .u64 s7] 71
def SomeSketch (w : World) (e : Ending) (w' : World) : Prop := ∃ s0 s1 s2 s3 s4 s5 s6 s7 : Int, e = .returned (.agg #[.int .u64 s0, .int .u64 s1, .int .u64 s2, .int .u64 s3, .int .u64 s4, .int .u64 s5, .int .u64 s6, .int .u64 s7]) ∧ Ext w w'
def SkInv (w0 : World) (b g : Nat) (x : Int) (w : World) : Prop := (∃ s0 s1 s2 s3 s4 s5 s6 s7 : Int, w.heap[b]? = some (skBlk s0 s1 s2 s3 s4 s5 s6 s7)) ∧ w.heap[w0.heap.size]? = some (skBlk 0 0 0 0 0 0 0 0) ∧ g < w.heap.size ∧ w.cell? ⟨g, 0, none⟩ = some (.int .u64 x) ∧ Ext w0 w
theorem sk_set {w : World} {b k : Nat} {s0 s1 s2 s3 s4 s5 s6 s7 z : Int} (hk : k < 8) (h : w.heap[b]? = some (skBlk s0 s1 s2 s3 s4 s5 s6 s7)) :
    ∃ s0 s1 s2 s3 s4 s5 s6 s7 : Int, (w.setCell ⟨b, k, none⟩ (.int .u64 z)).heap[b]? = some (skBlk s0 s1 s2 s3 s4 s5 s6 s7) := by
  have h' := blk_set (i := k) (.int .u64 z) h
  match k, hk with
  | 0, _ => exact ⟨_, _, _, _, _, _, _, _, h'⟩
  | 1, _ => exact ⟨_, _, _, _, _, _, _, _, h'⟩
  | 2, _ => exact ⟨_, _, _, _, _, _, _, _, h'⟩
  | 3, _ => exact ⟨_, _, _, _, _, _, _, _, h'⟩
  | 4, _ => exact ⟨_, _, _, _, _, _, _, _, h'⟩
  | 5, _ => exact ⟨_, _, _, _, _, _, _, _, h'⟩
  | 6, _ => exact ⟨_, _, _, _, _, _, _, _, h'⟩
  | 7, _ => exact ⟨_, _, _, _, _, _, _, _, h'⟩
set_option maxHeartbeats 1000000 in
set_option maxRecDepth 100000 in
theorem sketch_3 (s : ByteArray) (hs : s.size = 3) (w : World) : Calls Try.prog 32 #[.string s] w (SomeSketch w) := by
  have S := Lib.hid (fun w => shingles_3 s hs w)
  have L := Lib.hid least_1
  clear hs
  go_enter Try.func32, Try.ntmps32
  go_wp2_with (go_at_call 39; refine (S.out _).mono ?_; rintro e w1 ⟨g, c, x, rfl, gge, lg, hg, hb1⟩; have GNE : Hid (g ≠ w.heap.size + 1) := Lib.hid (by simp at gge; omega); have HG := Lib.hid hg; clear hg; have HE := Lib.hid hb1; clear hb1)
  go_loopw [5] (fun i w' => ∃ k : Nat, k ≤ 8 ∧ i = .int .i64 k ∧ SkInv w (w.heap.size + 1) g x w') (fun i _ => 8 - (intOf i).toNat)
  case atStart => exact ⟨0, Nat.zero_le _, rfl, ⟨_, _, _, _, _, _, _, _, Ext.block HE.out (heap_at _ _ (by simp))⟩, Ext.block HE.out (blk_alloc _ (heap_new _ _)), lg, HG.out, ((((Ext.refl w).alloc _).alloc _).trans HE.out)⟩
  case round =>
    obtain ⟨k, hk, rfl, ⟨s0, s1, s2, s3, s4, s5, s6, s7, hb⟩, hk0, lg, hg, hE⟩ := hrel
    have hc : ∀ o, wr.cell? ⟨w.heap.size + 1, o, none⟩ = _ := fun o => (Ext.refl wr).cellsOf hb o
    have lb := blk_lt hb
    have HB := Lib.hid hb; clear hb
    have HG := Lib.hid hg; clear hg
    have HK := Lib.hid hk0; clear hk0
    have HE := Lib.hid hE; clear hE
    by_cases hlt : k < 8
    · have wr4 : IntKind.i64.wrap ((k : Int) + 1) = (k : Int) + 1 := IntWalk.i64_in _ (by omega)
      go_wp2_with (go_at_call 40; refine (L.out _ _ _ _ _ HG.out).mono ?_; rintro e w2 ⟨z, rfl, hb2⟩; have hc2 := Ext.cellsOf hb2 HB.out; have hf2 := Ext.freeOf hb2 HB.out; have l2 := Ext.blt hb2 HB.out; have HE2 := Lib.hid hb2; clear hb2)
      go_roundw
      case rel => exact ⟨k + 1, by omega, by go_num, sk_set (by omega) (Ext.block HE2.out HB.out), (blk_off (by omega) (Ext.block HE2.out HK.out)), by simp [World.setCell]; exact Nat.lt_of_lt_of_le lg HE2.out.size, (set_cell_other GNE.out).trans ((Ext.cell HE2.out lg).trans HG.out), Ext.setNew (HE.out.trans HE2.out) (by omega) _⟩
      case measure => simp [intOf]; omega
    · obtain rfl : k = 8 := by omega
      go_wp2_with (refine wpList_store_blk rfl rfl rfl rfl HK.out (by rfl) (by kernel_rfl) (by simp [Value.oneCell']) ?_)
      refine bodyPost_ret (res_cell rfl rfl (putBlk_same _ (blk_lt HK.out)) (by kernel_rfl) (by kernel_rfl)) rfl ?_
      exact ⟨_, _, _, _, _, _, _, _, rfl, Ext.putNew HE.out (Nat.le_refl _) _⟩
end Go.Proofs.Ytodanmikpajeeaa
