/- The page's example of layer 33: a job that fetches xyz: the walks. -/
import Derived.Test.YtodanmikpajeeaaAwE
import Derived.Test.YtodanmikpajeeaaAwF
namespace Go.Proofs.Ytodanmikpajeeaa
open Go Go.Proofs Go.RowKit

/-- What comes of a job that is told xyz. -/
def TakenTo (b : Nat) (o : Obj) (w : World) (e : Ending) (w' : World) : Prop := e = .returned (.int .i64 0) ∧ w'.heap[b]? = some o ∧ Off b w w'
set_option maxHeartbeats 1000000 in
set_option maxRecDepth 100000 in
theorem jtake (b : Nat) (hi lo s0 s1 s2 s3 s4 s5 s6 s7 : Int) (p s : ByteArray) (hs : s.data = #[120, 121, 122]) (w : World) (h : w.heap[b]? = some (jBlk 2 3 hi lo s0 s1 s2 s3 s4 s5 s6 s7 p ByteArray.empty ByteArray.empty 0))
    (hhi : hi = (mix3 2611923443488327891 1376283091369227076 8026488).1) (hlo : lo = (mix3 2611923443488327891 1376283091369227076 8026488).2) :
    Calls Try.prog 34 #[.pointer (some ⟨b, 0, none⟩), .agg #[.int .i64 6, .int .i64 0, .int .i64 0, .int .i64 0, .bool false, .int .i64 0, .string s, .int .i64 0, .slice none 0 0, .int .i64 0, .int .u32 0, .int .u64 0, .int .u64 0, .slice none 0 0]] w
      (TakenTo b (jBlk 3 3 hi lo s0 s1 s2 s3 s4 s5 s6 s7 p s s 3) w) := by
  have lb := blk_lt h
  have F := Lib.hid (fun w h => jfetch b hi lo s0 s1 s2 s3 s4 s5 s6 s7 p s hs w h hhi hlo)
  have T := fun w => told_any 6 0 0 0 false 0 s 0 (.slice none 0 0) 0 0 0 0 (.slice none 0 0) 6 w ⟨_, _, _, rfl⟩ ⟨_, _, _, rfl⟩
  rw [show toldOf 6 0 6 = 0 from rfl] at T
  unfold msgV at T
  have HT := Lib.hid T; clear T hs hhi hlo
  have hc : ∀ o, w.cell? ⟨b, o, none⟩ = _ := fun o => (Ext.refl w).cellsOf h o
  have H := Lib.hid h; clear h
  go_enter Try.func34, Try.ntmps34
  go_wp2_with (first
    | (go_at_call 30; refine (HT.out _).mono ?_; rintro e w1 ⟨rfl, hb1⟩; have hm := Ext.cellsOf hb1 (heap_new w (mBox s)); have lm := Ext.blt hb1 (heap_new w (mBox s)); have HE := Lib.hid (Ext.trans ((Ext.refl w).alloc (mBox s)) hb1); have H1 := Lib.hid (Ext.block hb1 (blk_alloc (mBox s) H.out)); clear hb1 hc)
    | (go_at_call 46; refine (F.out _ H1.out).mono ?_; rintro e w2 ⟨rfl, hB2, hO2⟩; have HB2 := Lib.hid hB2; have HO2 := Lib.hid hO2; clear hB2 hO2))
  go_ret
  exact ⟨rfl, HB2.out, Off.trans (Off.of_ext HE.out) HO2.out⟩

set_option maxHeartbeats 1000000 in
set_option maxRecDepth 100000 in
theorem jTake (b : Nat) (hi lo s0 s1 s2 s3 s4 s5 s6 s7 : Int) (p s : ByteArray) (hs : s.data = #[120, 121, 122]) (w : World) (h : w.heap[b]? = some (jBlk 2 3 hi lo s0 s1 s2 s3 s4 s5 s6 s7 p ByteArray.empty ByteArray.empty 0))
    (hhi : hi = (mix3 2611923443488327891 1376283091369227076 8026488).1) (hlo : lo = (mix3 2611923443488327891 1376283091369227076 8026488).2) :
    Calls Try.prog 20 #[.pointer (some ⟨b, 0, none⟩), .agg #[.int .i64 6, .int .i64 0, .int .i64 0, .int .i64 0, .bool false, .int .i64 0, .string s, .int .i64 0, .slice none 0 0, .int .i64 0, .int .u32 0, .int .u64 0, .int .u64 0, .slice none 0 0]] w
      (TakenTo b (jBlk 3 3 hi lo s0 s1 s2 s3 s4 s5 s6 s7 p s s 3) w) := by
  have lb := blk_lt h
  have F := Lib.hid (fun w h => jtake b hi lo s0 s1 s2 s3 s4 s5 s6 s7 p s hs w h hhi hlo)
  clear hs hhi hlo
  have hc : ∀ o, w.cell? ⟨b, o, none⟩ = _ := fun o => (Ext.refl w).cellsOf h o
  have H := Lib.hid h; clear h
  go_enter Try.func20, Try.ntmps20
  go_wp2_with (go_at_call 34; refine (F.out _ (blk_alloc _ H.out)).mono ?_; rintro e w2 ⟨rfl, hB2, hO2⟩; have HB2 := Lib.hid hB2; have HO2 := Lib.hid hO2; clear hB2 hO2)
  go_ret
  exact ⟨rfl, HB2.out, Off.trans (Off.of_ext ((Ext.refl w).alloc _)) HO2.out⟩

/-- The entry of xyz. -/
def EntTold (w : World) (e : Ending) (w' : World) : Prop := ∃ hi lo s0 s1 s2 s3 s4 s5 s6 s7 p, e = .returned (.agg #[.string p, .int .i64 2, .int .i64 0, .int .i64 0, .int .i64 3, .int .u64 hi, .int .u64 lo, .string ByteArray.empty, .int .u64 s0, .int .u64 s1, .int .u64 s2, .int .u64 s3, .int .u64 s4, .int .u64 s5, .int .u64 s6, .int .u64 s7]) ∧
  (hi = (mix3 2611923443488327891 1376283091369227076 8026488).1 ∧ lo = (mix3 2611923443488327891 1376283091369227076 8026488).2) ∧ Ext w w'
set_option maxHeartbeats 1000000 in
set_option maxRecDepth 100000 in
theorem entry_xyz (s : ByteArray) (hs : s.data = #[120, 121, 122]) (w : World) : Calls Try.prog 18 #[.string s] w (EntTold w) := by
  have hs3 : s.size = 3 := by show s.data.size = 3; rw [hs]; rfl
  have R := fun w => ref_xyz s hs3 w
  rw [wW_xyz s hs, sums_same] at R
  have HR := Lib.hid R; clear R
  have SK := Lib.hid (fun w => sketch_3 s hs3 w)
  clear hs
  obtain ⟨hi, hhi⟩ : ∃ hi, hi = (mix3 2611923443488327891 1376283091369227076 8026488).1 := ⟨_, rfl⟩
  obtain ⟨lo, hlo⟩ : ∃ lo, lo = (mix3 2611923443488327891 1376283091369227076 8026488).2 := ⟨_, rfl⟩
  rw [← hhi, ← hlo] at HR
  have HH := Lib.hid (And.intro hhi hlo); clear hhi hlo
  go_enter Try.func18, Try.ntmps18
  go_wp2_with (first
    | (go_at_call 31; refine (HR.out _).mono ?_; rintro e w1 ⟨rfl, hb1⟩; have H0 := Lib.hid (Ext.block hb1 (heap_new w _)); have HE := Lib.hid (Ext.trans ((Ext.refl w).alloc _) hb1); clear hb1)
    | (go_at_call 32; refine (SK.out _).mono ?_; rintro e w2 ⟨s0, s1, s2, s3, s4, s5, s6, s7, rfl, hb2⟩; have H2 := Lib.hid (Ext.block hb2 H0.out); have HE2 := Lib.hid (HE.out.trans hb2); clear hb2)
    | (refine wpList_store_blk rfl rfl rfl rfl H2.out (by rfl) (by kernel_rfl) (by simp [Value.oneCell']) ?_))
  refine bodyPost_ret (res_cell rfl rfl (putBlk_same _ (blk_lt H2.out)) (by kernel_rfl) (by kernel_rfl)) rfl ?_
  exact ⟨_, _, _, _, _, _, _, _, _, _, _, rfl, HH.out, Ext.putNew HE2.out (Nat.le_refl _) _⟩
end Go.Proofs.Ytodanmikpajeeaa
