/- The document's strong sum (layer 6), of the text xyz: the walks. -/
import Derived.Test.YtodanmikpajeeaaStageB
import Derived.Handy
namespace Go.Proofs.Ytodanmikpajeeaa
open Go Go.Proofs Go.RowKit

/-- One place turned up. -/
def rot1 (y : Int) : Int := IntKind.u64.wrap (IntKind.u64.wrap (y * 2) + IntKind.u64.wrap (y.tdiv 9223372036854775808))
def rotF : Nat → Int → Int
  | 0, y => y
  | n + 1, y => rot1 (rotF n y)
theorem rotF_succ (n : Nat) (y : Int) : rotF (n + 1) y = IntKind.u64.wrap (IntKind.u64.wrap (rotF n y * 2) + IntKind.u64.wrap ((rotF n y).tdiv 9223372036854775808)) := rfl

set_option maxHeartbeats 1000000 in
set_option maxRecDepth 100000 in
theorem turn_any (x : Int) (n : Nat) (w : World) (hn : n ≤ 64) :
    Calls Try.prog 48 #[.int .u64 x, .int .i64 n] w (fun e w' => e = .returned (.int .u64 (rotF n x)) ∧ w = w') := by
  go_enter Try.func48, Try.ntmps48
  go_wp2
  go_loop [0, 5] (fun v i => ∃ k : Nat, k ≤ n ∧ i = .int .i64 k ∧ v = .int .u64 (rotF k x)) (fun _ i => n - (intOf i).toNat)
  case atStart => exact ⟨0, Nat.zero_le _, rfl, rfl⟩
  case round =>
    obtain ⟨k, hk, rfl, rfl⟩ := hrel
    by_cases hlt : k < n
    · go_wp2
      go_round
      case rel => exact ⟨k + 1, by omega, by go_num, by rw [rotF_succ]⟩
      case measure => simp [intOf]; omega
    · obtain rfl : k = n := by omega
      go_wp2
      go_ret
      exact ⟨rfl, rfl⟩

/-- A round of the document's. -/
def rndHi (hi lo x : Int) : Int := IntKind.u64.wrap (rotF 29 (IntKind.u64.wrap (bits BinOp.xor .u64 hi x * 11400714819323198485)) + lo)
def rndLo (hi lo x : Int) : Int := bits BinOp.xor .u64 (rotF 41 (IntKind.u64.wrap (IntKind.u64.wrap (lo + x) * 14029467366897019727))) (rndHi hi lo x)

set_option maxHeartbeats 1000000 in
set_option maxRecDepth 100000 in
theorem round_any (hi lo x : Int) (w : World) :
    Calls Try.prog 38 #[.agg #[.int .u64 hi, .int .u64 lo], .int .u64 x] w (RetV w (.agg #[.int .u64 (rndHi hi lo x), .int .u64 (rndLo hi lo x)])) := by
  have T29 := Lib.hid (fun y w => turn_any y 29 w (by decide))
  have T41 := Lib.hid (fun y w => turn_any y 41 w (by decide))
  go_enter Try.func38, Try.ntmps38
  go_wp2
  refine wp_draw_stages 27 9 [false, false, false, false, false, false, false, false, true] [([true, true, true, true, true, false, true, true], 5)] Ext Ext.refl (fun _ _ _ => Ext.trans) (by kernel_rfl) (by kernel_rfl) ?_
  apply wpStages_cons (by simp)
  · intro w1 hw1
    simp only [sel_true, sel_false, sel_nil]
    have hc := fun o => hw1.cell (b := w.heap.size) (o := o) (by simp; omega)
    repeat still_step
    exact wpStill_nil rfl
  simp only [List.getD_cons_succ, List.getD_cons_zero]
  go_wp2_with (go_at_call 48; refine (T29.out _ _).mono ?_; rintro e w' ⟨rfl, rfl⟩)
  refine ⟨Ext.refl _, ?_⟩
  refine wpStages_nil ?_
  simp only [sel_true, sel_false, sel_nil]
  repeat still_step
  refine wpStill_nil ?_
  simp only [List.drop_succ_cons, List.drop_zero]
  go_wp2_with (go_at_call 48; refine (T41.out _ _).mono ?_; rintro e w' ⟨rfl, rfl⟩)
  refine bodyPost_ret (res_cell rfl rfl ((by refine blk_drew ?_; exact heap_at _ _ (by simp))) (by kernel_rfl) (by kernel_rfl)) rfl ?_
  exact ⟨rfl, (((Ext.refl w).alloc _).alloc _).drew⟩

set_option maxRecDepth 100000 in
theorem start_any (w : World) : Calls Try.prog 37 #[] w (RetV w (.agg #[.int .u64 2611923443488327891, .int .u64 1376283091369227076])) := by
  go_enter Try.func37, Try.ntmps37
  go_wp2
  refine bodyPost_ret (res_cell rfl rfl ((heap_new w _)) (by kernel_rfl) (by kernel_rfl)) rfl ?_
  exact ⟨rfl, below_alloc1 _ _⟩

theorem and29 : bits BinOp.and IntKind.u64 29 63 = 29 := by decide
theorem and41 : bits BinOp.and IntKind.u64 41 63 = 41 := by decide
/-- Places turned up, as the library does it. -/
def up29 (x : Int) : Int := bits BinOp.or IntKind.u64 (IntKind.u64.wrap (x * 536870912)) (x / 34359738368)
def up41 (x : Int) : Int := bits BinOp.or IntKind.u64 (IntKind.u64.wrap (x * 2199023255552)) (x / 8388608)
set_option maxRecDepth 100000 in
theorem rotl_29 (x : Int) (w : World) :
    Calls Try.prog 80 #[.int .u64 x, .int .i64 29] w (fun e w' => e = .returned (.int .u64 (up29 x)) ∧ w = w') := by
  have a29 := and29
  go_enter Try.func80, Try.ntmps80
  go_wp2
  go_ret
  exact ⟨rfl, rfl⟩
set_option maxRecDepth 100000 in
theorem rotl_41 (x : Int) (w : World) :
    Calls Try.prog 80 #[.int .u64 x, .int .i64 41] w (fun e w' => e = .returned (.int .u64 (up41 x)) ∧ w = w') := by
  have a41 := and41
  go_enter Try.func80, Try.ntmps80
  go_wp2
  go_ret
  exact ⟨rfl, rfl⟩

/-- A round of the program's. -/
def mixHi (hi lo x : Int) : Int := IntKind.u64.wrap (up29 (IntKind.u64.wrap (bits BinOp.xor .u64 hi x * 11400714819323198485)) + lo)
def mixLo (hi lo x : Int) : Int := bits BinOp.xor .u64 (up41 (IntKind.u64.wrap (IntKind.u64.wrap (lo + x) * 14029467366897019727))) (mixHi hi lo x)

set_option maxHeartbeats 1000000 in
set_option maxRecDepth 100000 in
theorem mround_any (hi lo x : Int) (w : World) :
    Calls Try.prog 73 #[.agg #[.int .u64 hi, .int .u64 lo], .int .u64 x] w (RetV w (.agg #[.int .u64 (mixHi hi lo x), .int .u64 (mixLo hi lo x)])) := by
  have T29 := Lib.hid rotl_29
  have T41 := Lib.hid rotl_41
  go_enter Try.func73, Try.ntmps73
  go_wp2
  refine wp_draw_stages 26 10 [false, false, false, false, false, false, false, false, true, true] [([true, true, true, true, true, false, true, true], 5)] Ext Ext.refl (fun _ _ _ => Ext.trans) (by kernel_rfl) (by kernel_rfl) ?_
  apply wpStages_cons (by simp)
  · intro w1 hw1
    simp only [sel_true, sel_false, sel_nil]
    have hc := fun o => hw1.cell (b := w.heap.size) (o := o) (by simp; omega)
    repeat still_step
    exact wpStill_nil rfl
  simp only [List.getD_cons_succ, List.getD_cons_zero]
  go_wp2_with (go_at_call 80; refine (T29.out _ _).mono ?_; rintro e w' ⟨rfl, rfl⟩)
  refine ⟨Ext.refl _, ?_⟩
  refine wpStages_nil ?_
  simp only [sel_true, sel_false, sel_nil]
  repeat still_step
  refine wpStill_nil ?_
  simp only [List.drop_succ_cons, List.drop_zero]
  go_wp2
  refine wp_draw_stages 26 10 [false, false, false, false, false, false, false, false, true, true] [([true, true, true, true, true, false, true, true], 5)] Ext Ext.refl (fun _ _ _ => Ext.trans) (by kernel_rfl) (by kernel_rfl) ?_
  apply wpStages_cons (by simp)
  · intro w1 hw1
    simp only [sel_true, sel_false, sel_nil]
    have hc := fun o => hw1.cell (b := w.heap.size) (o := o) (by simp; omega)
    repeat still_step
    exact wpStill_nil rfl
  simp only [List.getD_cons_succ, List.getD_cons_zero]
  go_wp2_with (go_at_call 80; refine (T41.out _ _).mono ?_; rintro e w' ⟨rfl, rfl⟩)
  refine ⟨Ext.refl _, ?_⟩
  refine wpStages_nil ?_
  simp only [sel_true, sel_false, sel_nil]
  repeat still_step
  refine wpStill_nil ?_
  simp only [List.drop_succ_cons, List.drop_zero]
  go_wp2
  refine bodyPost_ret (res_cell rfl rfl ((by refine blk_drew ?_; refine blk_drew ?_; exact heap_at _ _ (by simp))) (by kernel_rfl) (by kernel_rfl)) rfl ?_
  exact ⟨rfl, (((Ext.refl w).alloc _).alloc _).drew.drew⟩

theorem byte_at (s : ByteArray) (k : Nat) (h : k < s.size) : s.data.getD k 0 = s[k] := by
  have h' : k < s.data.size := h
  unfold Array.getD
  rw [dif_pos h']
  rfl
/-- The sum of a text of three bytes, of which x is the word: the document's, and the program's. -/
def rnd (p : Int × Int) (x : Int) : Int × Int := (rndHi p.1 p.2 x, rndLo p.1 p.2 x)
def ref3 (A B x : Int) : Int × Int := rnd (rnd (rnd (rnd (rnd (A, B) x) 3) 18446744073709551615) 0) 0
def mrnd (p : Int × Int) (x : Int) : Int × Int := (mixHi p.1 p.2 x, mixLo p.1 p.2 x)
def mix3 (A B x : Int) : Int × Int := mrnd (mrnd (mrnd (mrnd (mrnd (A, B) x) 3) 18446744073709551615) 0) 0

theorem ref3_of {A B x a1 b1 a2 b2 a3 b3 a4 b4 a5 b5 : Int} (e1 : a1 = rndHi A B x) (f1 : b1 = rndLo A B x) (e2 : a2 = rndHi a1 b1 3) (f2 : b2 = rndLo a1 b1 3)
    (e3 : a3 = rndHi a2 b2 18446744073709551615) (f3 : b3 = rndLo a2 b2 18446744073709551615) (e4 : a4 = rndHi a3 b3 0) (f4 : b4 = rndLo a3 b3 0) (e5 : a5 = rndHi a4 b4 0) (f5 : b5 = rndLo a4 b4 0) :
    Ending.returned (.agg #[.int .u64 a5, .int .u64 b5]) = Ending.returned (.agg #[.int .u64 (ref3 A B x).1, .int .u64 (ref3 A B x).2]) := by
  have g1 : rnd (A, B) x = (a1, b1) := by rw [e1, f1, rnd]
  have g2 : rnd (a1, b1) 3 = (a2, b2) := by rw [e2, f2, rnd]
  have g3 : rnd (a2, b2) 18446744073709551615 = (a3, b3) := by rw [e3, f3, rnd]
  have g4 : rnd (a3, b3) 0 = (a4, b4) := by rw [e4, f4, rnd]
  have g5 : rnd (a4, b4) 0 = (a5, b5) := by rw [e5, f5, rnd]
  rw [ref3, g1, g2, g3, g4, g5]
/-- What a round of the document's tells, its numbers under names. -/
def RndTold (hi lo x : Int) (w : World) (e : Ending) (w' : World) : Prop := ∃ h l : Int, e = .returned (.agg #[.int .u64 h, .int .u64 l]) ∧ (h = rndHi hi lo x ∧ l = rndLo hi lo x) ∧ Ext w w'
theorem round_told (hi lo x : Int) (w : World) : Calls Try.prog 38 #[.agg #[.int .u64 hi, .int .u64 lo], .int .u64 x] w (RndTold hi lo x w) :=
  (round_any hi lo x w).mono fun _ _ ⟨h, hE⟩ => ⟨_, _, h, ⟨rfl, rfl⟩, hE⟩
abbrev sBlk (h l : Int) : Obj := .cells #[.int .u64 h, .int .u64 l] 40

def wU : Nat → Int
  | 0 => 1
  | k + 1 => IntKind.u64.wrap (wU k * 256)
def wW (s : ByteArray) : Nat → Int
  | 0 => 0
  | k + 1 => IntKind.u64.wrap (wW s k + IntKind.u64.wrap (wU k * ((s.data.getD k 0).toNat : Int)))

set_option maxHeartbeats 1000000 in
set_option maxRecDepth 100000 in
theorem ref_xyz (s : ByteArray) (hs : s.size = 3) (w : World) : Calls Try.prog 31 #[.string s] w (RetV w (.agg #[.int .u64 (ref3 2611923443488327891 1376283091369227076 (wW s 3)).1, .int .u64 (ref3 2611923443488327891 1376283091369227076 (wW s 3)).2])) := by
  have S := Lib.hid start_any
  have R := Lib.hid round_told
  go_enter Try.func31, Try.ntmps31
  go_wp2_with (go_at_call 37; refine (S.out _).mono ?_; rintro e w' ⟨rfl, hb1⟩)
  refine wp_loop_rounds 2 ?_; rw [rounds_succ]
  go_wp2
  go_loop [5, 6, 7] (fun v u i => ∃ k : Nat, k ≤ 3 ∧ i = .int .i64 k ∧ v = .int .u64 (wW s k) ∧ u = .int .u64 (wU k)) (fun _ _ i => 3 - (intOf i).toNat)
  case atStart => exact ⟨0, Nat.zero_le _, rfl, rfl, rfl⟩
  case round =>
    obtain ⟨k, hk, rfl, rfl, rfl⟩ := hrel
    by_cases hlt : k < 3
    · go_wp2
      go_round
      case rel => exact ⟨k + 1, by omega, by go_num, by rw [wW, byte_at s k (by omega), IntWalk.u64_in (s[k].toNat : Int) ⟨by omega, by have := s[k].toNat_lt; omega⟩], rfl⟩
      case measure => simp [intOf]; omega
    · obtain rfl : k = 3 := by omega
      obtain ⟨x, hwx⟩ : ∃ x, wW s 3 = x := ⟨_, rfl⟩
      rw [hwx]
      have HWX := Lib.hid hwx; clear hwx
      have HB := Lib.hid (heap_new w' (.cells #[.int .u64 2611923443488327891, .int .u64 1376283091369227076] 40))
      have l0 := blk_lt HB.out
      have HE := Lib.hid (show Ext w _ from (((Ext.refl w).alloc _).trans hb1).alloc (.cells #[.int .u64 2611923443488327891, .int .u64 1376283091369227076] 40))
      have HK := Lib.hid (Ext.block (show Ext (w.alloc _) w' from hb1) (heap_new w _))
      have lk : w.heap.size < w'.heap.size := blk_lt HK.out
      have HK := Lib.hid (blk_alloc (.cells #[.int .u64 2611923443488327891, .int .u64 1376283091369227076] 40) HK.out)
      clear hb1
      have H := Lib.hid True.intro
      go_wp2_with (first
        | ((refine wpList_store_blk rfl rfl rfl rfl (by (repeat with_reducible first | refine blk_drew ?_ | refine blk_alloc _ ?_ | refine blk_off (by omega) ?_ | refine blk_put (by omega) ?_); with_reducible exact HB.out) (by rfl) (by kernel_rfl) (by simp [Value.oneCell']) ?_); have hcc : ∀ o, (putBlk wn w'.heap.size (.cells #[.int .u64 h1, .int .u64 l1] 40)).cell? ⟨w'.heap.size, o, none⟩ = _ := (fun o => putBlk_cell l0); have HB := Lib.hid (putBlk_same (sBlk h1 l1) l0); have HE := Lib.hid (HE.out.putNew (b := w'.heap.size) (by omega) (sBlk h1 l1)); have HK := Lib.hid (blk_put (x := sBlk h1 l1) (b := w'.heap.size) (by omega) HK.out))
        | (go_at_call 38; refine (R.out _ _ _ _).mono ?_; rintro e wn ⟨h1, l1, rfl, hx1, hbn⟩; have H := Lib.hid (And.intro H.out hx1); clear hx1; have l0 := Ext.blt hbn HB.out; have HB := Lib.hid (Ext.block hbn HB.out); have HE := Lib.hid (HE.out.trans hbn); have HK := Lib.hid (Ext.block hbn HK.out); clear hbn))
      simp only [rounds_succ]
      go_wp2_with (first
        | ((refine wpList_store_blk rfl rfl rfl rfl (by (repeat with_reducible first | refine blk_drew ?_ | refine blk_alloc _ ?_ | refine blk_off (by omega) ?_ | refine blk_put (by omega) ?_); with_reducible exact HB.out) (by rfl) (by kernel_rfl) (by simp [Value.oneCell']) ?_); have hcc : ∀ o, (putBlk wn w'.heap.size (.cells #[.int .u64 h1, .int .u64 l1] 40)).cell? ⟨w'.heap.size, o, none⟩ = _ := (fun o => putBlk_cell l0); have HB := Lib.hid (putBlk_same (sBlk h1 l1) l0); have HE := Lib.hid (HE.out.putNew (b := w'.heap.size) (by omega) (sBlk h1 l1)); have HK := Lib.hid (blk_put (x := sBlk h1 l1) (b := w'.heap.size) (by omega) HK.out))
        | ((refine wpList_store_blk rfl rfl rfl rfl (by (repeat with_reducible first | refine blk_drew ?_ | refine blk_alloc _ ?_ | refine blk_off (by omega) ?_ | refine blk_put (by omega) ?_); with_reducible exact HK.out) (by rfl) (by kernel_rfl) (by simp [Value.oneCell']) ?_))
        | (go_at_call 38; refine (R.out _ _ _ _).mono ?_; rintro e wn ⟨h1, l1, rfl, hx1, hbn⟩; have H := Lib.hid (And.intro H.out hx1); clear hx1; have l0 := Ext.blt hbn HB.out; have HB := Lib.hid (Ext.block hbn HB.out); have HE := Lib.hid (HE.out.trans hbn); have HK := Lib.hid (Ext.block hbn HK.out); clear hbn))
      obtain ⟨⟨⟨⟨⟨_, ha1, hb1⟩, ha2, hb2⟩, ha3, hb3⟩, ha4, hb4⟩, ha5, hb5⟩ := H.out
      refine bodyPost_ret (res_cell rfl rfl (putBlk_same _ (blk_lt HK.out)) (by kernel_rfl) (by kernel_rfl)) rfl ?_
      refine ⟨?_, HE.out.putNew (Nat.le_refl _) _⟩
      rw [HWX.out]
      exact ref3_of ha1 hb1 ha2 hb2 ha3 hb3 ha4 hb4 ha5 hb5

theorem sums_same : ref3 2611923443488327891 1376283091369227076 8026488 = mix3 2611923443488327891 1376283091369227076 8026488 := by kernel_rfl
theorem wW_xyz (s : ByteArray) (h : s.data = #[120, 121, 122]) : wW s 3 = 8026488 := by
  obtain rfl : s = ⟨#[120, 121, 122]⟩ := ByteArray.ext h
  kernel_rfl
end Go.Proofs.Ytodanmikpajeeaa
