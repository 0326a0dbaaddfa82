/- The law of the proof (layer 33): the walk. -/
import Derived.Test.YtodanmikpajeeaaLawA
import Derived.Test.YtodanmikpajeeaaMsgS
import Derived.Test.YtodanmikpajeeaaAwH
namespace Go.Proofs.Ytodanmikpajeeaa
open Go Go.Proofs Go.RowKit

/-- A task, as a value. -/
abbrev taskV (k n : Int) (data old : ByteArray) (d1 d2 d3 : Bool) (ra : Option Addr) (rn rc : Nat) (bl pc : Int) : Value := .agg #[.int .i64 k, .int .i64 n, .string data, .string old, .bool d1, .bool d2, .bool d3, .slice ra rn rc, .int .i64 bl, .int .i64 pc]
/-- The document's proof in memory. -/
abbrev rBlk (n pc : Int) (data : ByteArray) (at_ : Int) (done same : Bool) : Obj := .cells #[.int .i64 n, .int .i64 pc, .string data, .int .i64 at_, .bool done, .bool same] 33
/-- What holds ahead of each answer. -/
def LawInv (w : World) (bx bp bw : Nat) (n pc : Int) (data : ByteArray) (tx : Array Value) (wr : World) : Prop := ∃ at_ done same, wr.heap[bp]? = some (pBlk n pc data at_ at_ done same) ∧ wr.heap[bw]? = some (rBlk n pc data at_ done same) ∧
  0 ≤ at_ ∧ at_ ≤ data.size ∧ (done = false → same = false) ∧ wr.heap[bx]? = some (.cells tx 26 (0, 0)) ∧ Ext w wr

theorem LawInv.keep {w wr w' : World} {bx bp bw : Nat} {n pc : Int} {data : ByteArray} {tx : Array Value} {pa : Int} {done same : Bool} (hP : wr.heap[bp]? = some (pBlk n pc data pa pa done same)) (hR : wr.heap[bw]? = some (rBlk n pc data pa done same))
    (h0 : 0 ≤ pa) (h1 : pa ≤ data.size) (hds : done = false → same = false) (hX : wr.heap[bx]? = some (.cells tx 26 (0, 0))) (hE : Ext w wr) (hE2 : Ext wr w') : LawInv w bx bp bw n pc data tx w' :=
  ⟨pa, done, same, hE2.block hP, hE2.block hR, h0, h1, hds, hE2.block hX, hE.trans hE2⟩

set_option maxHeartbeats 4000000 in
set_option maxRecDepth 100000 in
theorem law_true (k n : Int) (data old : ByteArray) (d1 d2 d3 : Bool) (ra : Option Addr) (rn rc : Nat) (bl pc : Int) (la : Option Addr) (ln lc : Nat) (w : World) (hl : ln ≤ maxLen) (hrow : MsgRow w la ln) :
    Calls Try.prog 3 #[taskV k n data old d1 d2 d3 ra rn rc bl pc, .slice la ln lc] w (RetV w (.bool true)) := by
  have HROW := Lib.hid hrow; clear hrow
  have A := Lib.hid awake_true
  have F := Lib.hid (fun w => few_any k n data old d1 d2 d3 (.slice ra rn rc) bl pc w)
  unfold maxLen at hl
  by_cases h30 : 30 < ln
  · go_enter Try.func3, Try.ntmps3
    go_wp2_with (first
      | (go_at_call 4; refine (F.out _).mono ?_; rintro e w1 ⟨b, rfl, hb, hb1⟩; have HE := Lib.hid (((Ext.refl w).alloc _).trans hb1); clear hb hb1; cases b)
      | (go_at_call 5; refine (A.out _).mono ?_; rintro e w2 ⟨rfl, hb2⟩; have HE2 := Lib.hid (HE.out.trans hb2); clear hb2))
    all_goals go_ret
    all_goals exact ⟨rfl, HE2.out⟩
  · have h30' : ln ≤ 30 := by omega
    go_enter Try.func3, Try.ntmps3
    go_upto_region 5 with (first
      | (go_at_call 4; refine (F.out _).mono ?_; rintro e w1 ⟨b, rfl, hb, hb1⟩; have HX := Lib.hid (Ext.block hb1 (heap_new w _)); have HE := Lib.hid (((Ext.refl w).alloc _).trans hb1); have hxc := Ext.cellsOf hb1 (heap_new w _); have hxl := Ext.blt hb1 (heap_new w _); clear hb1; cases b; all_goals (try obtain ⟨hd150, ho, hn0, hn1, hbl0, hbl1, hpc0, hpc1⟩ := hb rfl); all_goals clear hb)
      | (go_at_call 5; refine (A.out _).mono ?_; rintro e w2 ⟨rfl, hb2⟩; have HE2 := Lib.hid (HE.out.trans hb2); clear hb2)
      | (go_at_call 6; refine (prove_any n pc data _ (by omega)).mono ?_; rintro e w2 ⟨rfl, rfl⟩))
    · go_ret
      exact ⟨rfl, HE2.out⟩
    have I : LawInv w w.heap.size w1.heap.size (w1.heap.size + 1) n pc data #[.int .i64 k, .int .i64 n, .string data, .string old, .bool d1, .bool d2, .bool d3, .slice ra rn rc, .int .i64 bl, .int .i64 pc] ((w1.alloc (pBlk n pc data 0 0 false false)).alloc (rBlk n pc data 0 false false)) :=
      ⟨0, false, false, blk_alloc _ (heap_new _ _), heap_at _ _ (by simp), by omega, by omega, fun _ => rfl, blk_alloc _ (blk_alloc _ HX.out), (HE.out.alloc _).alloc _⟩
    have HI := Lib.hid I; clear I
    clear hxc HX
    obtain ⟨bp, hbp⟩ : ∃ bp, bp = w1.heap.size := ⟨_, rfl⟩
    rw [← hbp]
    have gp : w.heap.size < bp := by omega
    clear hxl
    have HI : Hid (LawInv w w.heap.size bp (bp + 1) n pc data #[.int .i64 k, .int .i64 n, .string data, .string old, .bool d1, .bool d2, .bool d3, .slice ra rn rc, .int .i64 bl, .int .i64 pc] ((w1.alloc (pBlk n pc data 0 0 false false)).alloc (rBlk n pc data 0 false false))) := Lib.hid (by rw [hbp]; exact HI.out)
    clear hbp
    go_wp2
    go_loopw [7] (fun i w' => ∃ j : Nat, j ≤ ln ∧ i = .int .i64 j ∧ LawInv w w.heap.size bp (bp + 1) n pc data #[.int .i64 k, .int .i64 n, .string data, .string old, .bool d1, .bool d2, .bool d3, .slice ra rn rc, .int .i64 bl, .int .i64 pc] w') (fun i _ => ln - (intOf i).toNat)
    case atStart => exact ⟨0, Nat.zero_le _, rfl, HI.out⟩
    case round =>
      obtain ⟨j, hj, rfl, pa, done, same, hP, hR, ha0, ha1, hds, hX, hE⟩ := hrel
      have HP := Lib.hid hP; clear hP
      have HR := Lib.hid hR; clear hR
      have HXX := Lib.hid hX; clear hX
      have HER := Lib.hid hE; clear hE HE
      have HDS := Lib.hid hds; clear hds
      have lp := blk_lt HP.out
      have lw' := blk_lt HR.out
      by_cases hlt : j < ln
      · have wr4 : IntKind.i64.wrap ((j : Int) + 1) = (j : Int) + 1 := IntWalk.i64_in _ (by omega)
        obtain h0 | ⟨lb, off, rfl, hlb, hall⟩ := HROW.out
        · omega
        obtain ⟨mk, mn, ma, tt, y, c, s, sz, sa, sn, sc, tl, lw, lh, ll, ea, en, ec, hcells, hsz, hsig, hent⟩ := hall j hlt
        have HALL := Lib.hid hall; clear hall
        have HCE := Lib.hid hcells; clear hcells
        have HSIG := Lib.hid hsig; clear hsig
        have HENT := Lib.hid (EntsRaw.ext hent HER.out); clear hent
        clear hsz
        obtain ⟨qk, qn, qa, qy, qs, hnx, hak⟩ := next_ask bp n pc pa data done same ha0 ha1 (by omega) hpc1 hd150
        have NX := Lib.hid hnx; clear hnx
        have AK := Lib.hid hak; clear hak
        have lb1 : lb < wr.heap.size := Nat.lt_of_lt_of_le hlb HER.out.size
        have ji : ((j : Int)).toNat = j := by omega
        have hc0 : World.cell? wr ⟨lb, off + j * 14, none⟩ = some (.int .i64 mk) := ((HER.out.cell hlb)).trans (HCE.out 0 _ rfl); have hc1 : World.cell? wr ⟨lb, off + j * 14 + 1, none⟩ = some (.int .i64 mn) := ((HER.out.cell hlb)).trans (HCE.out 1 _ rfl); have hc2 : World.cell? wr ⟨lb, off + j * 14 + 2, none⟩ = some (.int .i64 ma) := ((HER.out.cell hlb)).trans (HCE.out 2 _ rfl); have hc3 : World.cell? wr ⟨lb, off + j * 14 + 3, none⟩ = some (.int .i64 tt) := ((HER.out.cell hlb)).trans (HCE.out 3 _ rfl); have hc4 : World.cell? wr ⟨lb, off + j * 14 + 4, none⟩ = some (.bool y) := ((HER.out.cell hlb)).trans (HCE.out 4 _ rfl); have hc5 : World.cell? wr ⟨lb, off + j * 14 + 5, none⟩ = some (.int .i64 c) := ((HER.out.cell hlb)).trans (HCE.out 5 _ rfl); have hc6 : World.cell? wr ⟨lb, off + j * 14 + 6, none⟩ = some (.string s) := ((HER.out.cell hlb)).trans (HCE.out 6 _ rfl); have hc7 : World.cell? wr ⟨lb, off + j * 14 + 7, none⟩ = some (.int .i64 sz) := ((HER.out.cell hlb)).trans (HCE.out 7 _ rfl); have hc8 : World.cell? wr ⟨lb, off + j * 14 + 8, none⟩ = some (.slice sa sn sc) := ((HER.out.cell hlb)).trans (HCE.out 8 _ rfl); have hc9 : World.cell? wr ⟨lb, off + j * 14 + 9, none⟩ = some (.int .i64 tl) := ((HER.out.cell hlb)).trans (HCE.out 9 _ rfl); have hc10 : World.cell? wr ⟨lb, off + j * 14 + 10, none⟩ = some (.int .u32 lw) := ((HER.out.cell hlb)).trans (HCE.out 10 _ rfl); have hc11 : World.cell? wr ⟨lb, off + j * 14 + 11, none⟩ = some (.int .u64 lh) := ((HER.out.cell hlb)).trans (HCE.out 11 _ rfl); have hc12 : World.cell? wr ⟨lb, off + j * 14 + 12, none⟩ = some (.int .u64 ll) := ((HER.out.cell hlb)).trans (HCE.out 12 _ rfl); have hc13 : World.cell? wr ⟨lb, off + j * 14 + 13, none⟩ = some (.slice ea en ec) := ((HER.out.cell hlb)).trans (HCE.out 13 _ rfl)
        go_upto_region 11 with (first
          | (go_at_call 7; refine (small_any mk mn ma tt y c s sz sa sn sc tl lw lh ll (.slice ea en ec) _ HENT.out).mono ?_; rintro e w2 ⟨b, rfl, hsm, hb2⟩; have HSM := Lib.hid hsm; clear hsm; have HE2 := Lib.hid (show Ext wr w2 from hb2); have lb2 : lb < w2.heap.size := Nat.lt_of_lt_of_le lb1 HE2.out.size; clear hb2; have hd0 : World.cell? w2 ⟨lb, off + j * 14, none⟩ = some (.int .i64 mk) := (((HE2.out.cell lb1).trans (HER.out.cell hlb))).trans (HCE.out 0 _ rfl); have hd1 : World.cell? w2 ⟨lb, off + j * 14 + 1, none⟩ = some (.int .i64 mn) := (((HE2.out.cell lb1).trans (HER.out.cell hlb))).trans (HCE.out 1 _ rfl); have hd2 : World.cell? w2 ⟨lb, off + j * 14 + 2, none⟩ = some (.int .i64 ma) := (((HE2.out.cell lb1).trans (HER.out.cell hlb))).trans (HCE.out 2 _ rfl); have hd3 : World.cell? w2 ⟨lb, off + j * 14 + 3, none⟩ = some (.int .i64 tt) := (((HE2.out.cell lb1).trans (HER.out.cell hlb))).trans (HCE.out 3 _ rfl); have hd4 : World.cell? w2 ⟨lb, off + j * 14 + 4, none⟩ = some (.bool y) := (((HE2.out.cell lb1).trans (HER.out.cell hlb))).trans (HCE.out 4 _ rfl); have hd5 : World.cell? w2 ⟨lb, off + j * 14 + 5, none⟩ = some (.int .i64 c) := (((HE2.out.cell lb1).trans (HER.out.cell hlb))).trans (HCE.out 5 _ rfl); have hd6 : World.cell? w2 ⟨lb, off + j * 14 + 6, none⟩ = some (.string s) := (((HE2.out.cell lb1).trans (HER.out.cell hlb))).trans (HCE.out 6 _ rfl); have hd7 : World.cell? w2 ⟨lb, off + j * 14 + 7, none⟩ = some (.int .i64 sz) := (((HE2.out.cell lb1).trans (HER.out.cell hlb))).trans (HCE.out 7 _ rfl); have hd8 : World.cell? w2 ⟨lb, off + j * 14 + 8, none⟩ = some (.slice sa sn sc) := (((HE2.out.cell lb1).trans (HER.out.cell hlb))).trans (HCE.out 8 _ rfl); have hd9 : World.cell? w2 ⟨lb, off + j * 14 + 9, none⟩ = some (.int .i64 tl) := (((HE2.out.cell lb1).trans (HER.out.cell hlb))).trans (HCE.out 9 _ rfl); have hd10 : World.cell? w2 ⟨lb, off + j * 14 + 10, none⟩ = some (.int .u32 lw) := (((HE2.out.cell lb1).trans (HER.out.cell hlb))).trans (HCE.out 10 _ rfl); have hd11 : World.cell? w2 ⟨lb, off + j * 14 + 11, none⟩ = some (.int .u64 lh) := (((HE2.out.cell lb1).trans (HER.out.cell hlb))).trans (HCE.out 11 _ rfl); have hd12 : World.cell? w2 ⟨lb, off + j * 14 + 12, none⟩ = some (.int .u64 ll) := (((HE2.out.cell lb1).trans (HER.out.cell hlb))).trans (HCE.out 12 _ rfl); have hd13 : World.cell? w2 ⟨lb, off + j * 14 + 13, none⟩ = some (.slice ea en ec) := (((HE2.out.cell lb1).trans (HER.out.cell hlb))).trans (HCE.out 13 _ rfl); clear hc0 hc1 hc2 hc3 hc4 hc5 hc6 hc7 hc8 hc9 hc10 hc11 hc12 hc13; cases b; all_goals (try have HES := Lib.hid ((HSM.out rfl).2.2.ext HE2.out)))
          | (go_at_call 8; refine (right_told mk mn ma tt y c s sz (.slice sa sn sc) tl lw lh ll (.slice ea en ec) _ ⟨_, _, _, rfl⟩ HES.out).mono ?_; rintro e w3 ⟨b, rfl, hri, hb3⟩; have HRI := Lib.hid hri; clear hri; have HE3 := Lib.hid (show Ext wr w3 from HE2.out.trans hb3); clear hb3; have HP3 := Lib.hid (HE3.out.block HP.out); have lp3 := blk_lt HP3.out; cases b)
          | (go_at_call 9; refine (NX.out _ HP3.out).mono ?_; rintro e w4 ⟨rfl, hb4⟩; have HE4 := Lib.hid (show Ext wr w4 from HE3.out.trans hb4); have hr4 := HE4.out.cellsOf HR.out; have lr4 := HE4.out.blt HR.out; clear hb4)
          | (go_at_call 10; refine (AK.out _).mono ?_; rintro e w5 ⟨rfl, hb5⟩; have HQ5 := Lib.hid (Ext.block hb5 (heap_new w4 (.cells #[.int .i64 qk, .int .i64 qn, .int .i64 qa, .int .i64 0, .bool qy, .int .i64 0, .string qs, .int .i64 0, .slice none 0 0, .int .i64 0, .int .u32 0, .int .u64 0, .int .u64 0, .slice none 0 0] 53))); have HE5 := Lib.hid (show Ext wr w5 from (HE4.out.alloc _).trans hb5); have hq5 := Ext.cellsOf hb5 (heap_new w4 _); have lq5 := blk_lt HQ5.out; clear hb5 hr4))
        · go_roundw
          case rel => first | exact ⟨j + 1, by omega, by go_num, LawInv.keep HP.out HR.out ha0 ha1 HDS.out HXX.out HER.out HE2.out⟩ | ((repeat apply Exists.intro); exact ⟨⟨j + 1, by omega, by go_num, LawInv.keep HP.out HR.out ha0 ha1 HDS.out HXX.out HER.out HE2.out⟩, rfl⟩)
          case measure => simp [intOf]; omega
        · go_roundw
          case rel => first | exact ⟨j + 1, by omega, by go_num, LawInv.keep HP.out HR.out ha0 ha1 HDS.out HXX.out HER.out HE3.out⟩ | ((repeat apply Exists.intro); exact ⟨⟨j + 1, by omega, by go_num, LawInv.keep HP.out HR.out ha0 ha1 HDS.out HXX.out HER.out HE3.out⟩, rfl⟩)
          case measure => simp [intOf]; omega
        clear hd0 hd1 hd2 hd3 hd4 hd5 hd6 hd7 hd8 hd9 hd10 hd11 hd12 hd13
        refine wp_draw_stages 163 9 [false, false, false, false, false, false, false, false, true] [([true, true, true, true, true, true], 6), ([], 7)] Ext Ext.refl (fun _ _ _ => Ext.trans) (by kernel_rfl) (by kernel_rfl) ?_
        apply wpStages_cons (by simp)
        · intro w1 hw1
          simp only [sel_true, sel_nil]
          have x1 := hw1.cellsOf (b := w5.heap.size) (blk_drew (heap_new w5 _)); have x2 := hw1.cellsOf (b := w4.heap.size) (blk_drew (blk_alloc _ HQ5.out))
          repeat still_step
          exact wpStill_nil rfl
        simp only [List.getD_cons_succ, List.getD_cons_zero]
        go_wp2_with (go_at_call 12; refine (to_nil qk qn qa 0 qy 0 qs 0 0 0 0 0 _).mono ?_; rintro e w6 ⟨rfl, hb6⟩; have H6 := Lib.hid hb6; clear hb6)
        refine ⟨H6.out, ?_⟩
        apply wpStages_cons (by simp)
        · intro w1 hw1
          simp only [sel_nil]
          repeat still_step
          exact wpStill_nil rfl
        simp only [List.getD_cons_succ, List.getD_cons_zero]
        go_wp2_with (go_at_call 11; refine (same_self qk qn qa qy qs _).mono ?_; rintro e w7 ⟨rfl, hb7⟩; have H7 := Lib.hid hb7; clear hb7)
        refine ⟨H7.out, ?_⟩
        have HE7 := Lib.hid (show Ext wr w7 from (((HE5.out.alloc _).drew.trans H6.out).trans H7.out))
        have HP7 := Lib.hid (HE7.out.block HP.out)
        have lp7 := blk_lt HP7.out
        have lb7 : lb < w7.heap.size := Nat.lt_of_lt_of_le lb1 HE7.out.size
        clear hq5
        have hd0 : World.cell? w7 ⟨lb, off + j * 14, none⟩ = some (.int .i64 mk) := (((HE7.out.cell lb1).trans (HER.out.cell hlb))).trans (HCE.out 0 _ rfl); have hd1 : World.cell? w7 ⟨lb, off + j * 14 + 1, none⟩ = some (.int .i64 mn) := (((HE7.out.cell lb1).trans (HER.out.cell hlb))).trans (HCE.out 1 _ rfl); have hd2 : World.cell? w7 ⟨lb, off + j * 14 + 2, none⟩ = some (.int .i64 ma) := (((HE7.out.cell lb1).trans (HER.out.cell hlb))).trans (HCE.out 2 _ rfl); have hd3 : World.cell? w7 ⟨lb, off + j * 14 + 3, none⟩ = some (.int .i64 tt) := (((HE7.out.cell lb1).trans (HER.out.cell hlb))).trans (HCE.out 3 _ rfl); have hd4 : World.cell? w7 ⟨lb, off + j * 14 + 4, none⟩ = some (.bool y) := (((HE7.out.cell lb1).trans (HER.out.cell hlb))).trans (HCE.out 4 _ rfl); have hd5 : World.cell? w7 ⟨lb, off + j * 14 + 5, none⟩ = some (.int .i64 c) := (((HE7.out.cell lb1).trans (HER.out.cell hlb))).trans (HCE.out 5 _ rfl); have hd6 : World.cell? w7 ⟨lb, off + j * 14 + 6, none⟩ = some (.string s) := (((HE7.out.cell lb1).trans (HER.out.cell hlb))).trans (HCE.out 6 _ rfl); have hd7 : World.cell? w7 ⟨lb, off + j * 14 + 7, none⟩ = some (.int .i64 sz) := (((HE7.out.cell lb1).trans (HER.out.cell hlb))).trans (HCE.out 7 _ rfl); have hd8 : World.cell? w7 ⟨lb, off + j * 14 + 8, none⟩ = some (.slice sa sn sc) := (((HE7.out.cell lb1).trans (HER.out.cell hlb))).trans (HCE.out 8 _ rfl); have hd9 : World.cell? w7 ⟨lb, off + j * 14 + 9, none⟩ = some (.int .i64 tl) := (((HE7.out.cell lb1).trans (HER.out.cell hlb))).trans (HCE.out 9 _ rfl); have hd10 : World.cell? w7 ⟨lb, off + j * 14 + 10, none⟩ = some (.int .u32 lw) := (((HE7.out.cell lb1).trans (HER.out.cell hlb))).trans (HCE.out 10 _ rfl); have hd11 : World.cell? w7 ⟨lb, off + j * 14 + 11, none⟩ = some (.int .u64 lh) := (((HE7.out.cell lb1).trans (HER.out.cell hlb))).trans (HCE.out 11 _ rfl); have hd12 : World.cell? w7 ⟨lb, off + j * 14 + 12, none⟩ = some (.int .u64 ll) := (((HE7.out.cell lb1).trans (HER.out.cell hlb))).trans (HCE.out 12 _ rfl); have hd13 : World.cell? w7 ⟨lb, off + j * 14 + 13, none⟩ = some (.slice ea en ec) := (((HE7.out.cell lb1).trans (HER.out.cell hlb))).trans (HCE.out 13 _ rfl)
        refine wpStages_nil ?_
        simp only [sel_true, sel_false, sel_nil]
        repeat still_step
        refine wpStill_nil ?_
        simp only [List.drop_succ_cons, List.drop_zero]
        go_upto_region 15 with (first
          | (go_at_call 12; refine (to_any mk mn ma tt y c s sz sa sn sc tl lw lh ll (.slice ea en ec) _ (HSIG.out.small (HSM.out rfl).2.1 (HER.out.trans HE7.out)) ⟨_, _, _, rfl⟩).mono ?_; rintro e w8 ⟨blv, hblv, rfl, hb8⟩; have HBL := Lib.hid hblv; clear hblv; have HE8 := Lib.hid (show Ext wr w8 from HE7.out.trans hb8); clear hb8; have HP8 := Lib.hid (HE8.out.block HP.out); have HR8 := Lib.hid (HE8.out.block HR.out); clear hd0 hd1 hd2 hd3 hd4 hd5 hd6 hd7 hd8 hd9 hd10 hd11 hd12 hd13)
          | (go_at_call 13; refine (take_step bp n pc pa data done same _ HP8.out ha0 ha1 (by omega) hpc1 hd150 mk mn ma tt y c s sz _ tl lw lh ll _ HBL.out ⟨_, _, _, rfl⟩ (HRI.out trivial)).mono ?_; rintro e w9 ⟨rfl, hB9, hO9⟩; have HO9 := Lib.hid hO9; have HB9 := Lib.hid hB9; clear hB9 hO9))
        have HR9 := Lib.hid (Off.block HO9.out HR8.out (by omega))
        have HX9 := Lib.hid (Off.block HO9.out (HE8.out.block HXX.out) (by omega))
        have lb8 : lb < w8.heap.size := Nat.lt_of_lt_of_le lb1 HE8.out.size
        have lb9 : lb < w9.heap.size := Nat.lt_of_lt_of_le lb8 HO9.out.size
        have hne : lb ≠ bp := by omega
        have lr9 := blk_lt HR9.out
        have T := Lib.hid (fun W => told_step n pc pa data done same W HDS.out ha0 ha1 (by omega) hpc1 hd150 mk mn ma tt y c s sz (.slice sa sn sc) tl lw lh ll (.slice ea en ec) ⟨_, _, _, rfl⟩ ⟨_, _, _, rfl⟩ (HRI.out trivial))
        refine wp_draw_stages 163 10 [] [([false, true, true, true, true], 0), ([], 5), ([false, false, false, false, false, false, true, true, true], 9)] (Off (bp+1)) (Off.refl (bp+1)) (fun _ _ _ => Off.trans) (by kernel_rfl) (by kernel_rfl) ?_
        apply wpStages_cons (by simp)
        · intro w1 hw1
          simp only [sel_true, sel_false, sel_nil]
          have hd0 : World.cell? w1 ⟨lb, off + j * 14, none⟩ = some (.int .i64 mk) := (((hw1.cell (k := lb) lb9 (by omega)).trans ((HO9.out.cell (k := lb) lb8 hne).trans ((HE8.out.cell lb1).trans (HER.out.cell hlb))))).trans (HCE.out 0 _ rfl); have hd1 : World.cell? w1 ⟨lb, off + j * 14 + 1, none⟩ = some (.int .i64 mn) := (((hw1.cell (k := lb) lb9 (by omega)).trans ((HO9.out.cell (k := lb) lb8 hne).trans ((HE8.out.cell lb1).trans (HER.out.cell hlb))))).trans (HCE.out 1 _ rfl); have hd2 : World.cell? w1 ⟨lb, off + j * 14 + 2, none⟩ = some (.int .i64 ma) := (((hw1.cell (k := lb) lb9 (by omega)).trans ((HO9.out.cell (k := lb) lb8 hne).trans ((HE8.out.cell lb1).trans (HER.out.cell hlb))))).trans (HCE.out 2 _ rfl); have hd3 : World.cell? w1 ⟨lb, off + j * 14 + 3, none⟩ = some (.int .i64 tt) := (((hw1.cell (k := lb) lb9 (by omega)).trans ((HO9.out.cell (k := lb) lb8 hne).trans ((HE8.out.cell lb1).trans (HER.out.cell hlb))))).trans (HCE.out 3 _ rfl); have hd4 : World.cell? w1 ⟨lb, off + j * 14 + 4, none⟩ = some (.bool y) := (((hw1.cell (k := lb) lb9 (by omega)).trans ((HO9.out.cell (k := lb) lb8 hne).trans ((HE8.out.cell lb1).trans (HER.out.cell hlb))))).trans (HCE.out 4 _ rfl); have hd5 : World.cell? w1 ⟨lb, off + j * 14 + 5, none⟩ = some (.int .i64 c) := (((hw1.cell (k := lb) lb9 (by omega)).trans ((HO9.out.cell (k := lb) lb8 hne).trans ((HE8.out.cell lb1).trans (HER.out.cell hlb))))).trans (HCE.out 5 _ rfl); have hd6 : World.cell? w1 ⟨lb, off + j * 14 + 6, none⟩ = some (.string s) := (((hw1.cell (k := lb) lb9 (by omega)).trans ((HO9.out.cell (k := lb) lb8 hne).trans ((HE8.out.cell lb1).trans (HER.out.cell hlb))))).trans (HCE.out 6 _ rfl); have hd7 : World.cell? w1 ⟨lb, off + j * 14 + 7, none⟩ = some (.int .i64 sz) := (((hw1.cell (k := lb) lb9 (by omega)).trans ((HO9.out.cell (k := lb) lb8 hne).trans ((HE8.out.cell lb1).trans (HER.out.cell hlb))))).trans (HCE.out 7 _ rfl); have hd8 : World.cell? w1 ⟨lb, off + j * 14 + 8, none⟩ = some (.slice sa sn sc) := (((hw1.cell (k := lb) lb9 (by omega)).trans ((HO9.out.cell (k := lb) lb8 hne).trans ((HE8.out.cell lb1).trans (HER.out.cell hlb))))).trans (HCE.out 8 _ rfl); have hd9 : World.cell? w1 ⟨lb, off + j * 14 + 9, none⟩ = some (.int .i64 tl) := (((hw1.cell (k := lb) lb9 (by omega)).trans ((HO9.out.cell (k := lb) lb8 hne).trans ((HE8.out.cell lb1).trans (HER.out.cell hlb))))).trans (HCE.out 9 _ rfl); have hd10 : World.cell? w1 ⟨lb, off + j * 14 + 10, none⟩ = some (.int .u32 lw) := (((hw1.cell (k := lb) lb9 (by omega)).trans ((HO9.out.cell (k := lb) lb8 hne).trans ((HE8.out.cell lb1).trans (HER.out.cell hlb))))).trans (HCE.out 10 _ rfl); have hd11 : World.cell? w1 ⟨lb, off + j * 14 + 11, none⟩ = some (.int .u64 lh) := (((hw1.cell (k := lb) lb9 (by omega)).trans ((HO9.out.cell (k := lb) lb8 hne).trans ((HE8.out.cell lb1).trans (HER.out.cell hlb))))).trans (HCE.out 11 _ rfl); have hd12 : World.cell? w1 ⟨lb, off + j * 14 + 12, none⟩ = some (.int .u64 ll) := (((hw1.cell (k := lb) lb9 (by omega)).trans ((HO9.out.cell (k := lb) lb8 hne).trans ((HE8.out.cell lb1).trans (HER.out.cell hlb))))).trans (HCE.out 12 _ rfl); have hd13 : World.cell? w1 ⟨lb, off + j * 14 + 13, none⟩ = some (.slice ea en ec) := (((hw1.cell (k := lb) lb9 (by omega)).trans ((HO9.out.cell (k := lb) lb8 hne).trans ((HE8.out.cell lb1).trans (HER.out.cell hlb))))).trans (HCE.out 13 _ rfl)
          repeat still_step
          exact wpStill_nil rfl
        simp only [List.getD_cons_succ, List.getD_cons_zero]
        have hr9 := (Ext.refl w9).cellsOf HR9.out
        go_wp2
        refine ⟨Off.refl _ _, ?_⟩
        clear hr9
        apply wpStages_cons (by simp)
        · intro w1 hw1
          simp only [sel_nil]
          repeat still_step
          exact wpStill_nil rfl
        simp only [List.getD_cons_succ, List.getD_cons_zero]
        go_wp2_with (go_at_call 14; refine (T.out _).mono ?_; rintro e w10 ⟨rfl, hb10⟩; have HE10 := Lib.hid (show Ext w9 w10 from Ext.trans (Ext.refl w9).drew hb10); have HR10 := Lib.hid (Ext.block hb10 (blk_drew HR9.out)); have HB10 := Lib.hid (Ext.block hb10 (blk_drew HB9.out)); have HT := Lib.hid hb10; clear hb10)
        refine ⟨Off.of_ext HT.out, ?_⟩
        apply wpStages_cons (by simp)
        · intro w1 hw1
          simp only [sel_true, sel_false, sel_nil]
          repeat still_step
          exact wpStill_nil rfl
        simp only [List.getD_cons_succ, List.getD_cons_zero]
        go_wp2_with (refine wpList_store_blk rfl rfl rfl rfl HR10.out (by rfl) (by kernel_rfl) (by simp [Value.oneCell']) ?_)
        refine ⟨(Off.refl _ _).put _, ?_⟩
        have hst := step_at done mk c pa pc data ha0 ha1 (by omega)
        have hsd := step_ds done same mk c pa pc data y HDS.out
        have HSD := Lib.hid hsd; clear hsd
        have HB11 := Lib.hid (blk_put (x := rBlk n pc data (stepAt done mk c pa pc data) (stepD done mk c pa pc data y) (stepS done same mk c pa pc data y)) (b := bp + 1) (by omega) HB10.out)
        have HR11 := Lib.hid (putBlk_same (rBlk n pc data (stepAt done mk c pa pc data) (stepD done mk c pa pc data y) (stepS done same mk c pa pc data y)) (blk_lt HR10.out))
        have HX11 := Lib.hid (blk_put (x := rBlk n pc data (stepAt done mk c pa pc data) (stepD done mk c pa pc data y) (stepS done same mk c pa pc data y)) (b := bp + 1) (by omega) (HE10.out.block HX9.out))
        have HE11 := Lib.hid (Ext.putNew (b := bp + 1) (show Ext w w10 from Ext.trans (Below.trans (HER.out.trans HE8.out) (Only.below HO9.out (by have := HER.out.size; have := HE8.out.size; omega) (by omega))) HE10.out) (by omega) (rBlk n pc data (stepAt done mk c pa pc data) (stepD done mk c pa pc data y) (stepS done same mk c pa pc data y)))
        refine wpStages_nil ?_
        simp only [sel_nil]
        repeat still_step
        refine wpStill_nil ?_
        simp only [List.drop_succ_cons, List.drop_zero]
        go_upto_region 17 with (go_at_call 15; refine (done_any bp n pc _ _ data _ _ _ HB11.out).mono ?_; rintro e w12 ⟨rfl, hb12⟩; have HB12 := Lib.hid (Ext.block hb12 HB11.out); have HR12 := Lib.hid (Ext.block hb12 HR11.out); have HX12 := Lib.hid (Ext.block hb12 HX11.out); have HE12 := Lib.hid (HE11.out.trans hb12); clear hb12)
        refine wp_draw_stages 163 21 [false, false, false, false, false, false, false, false, false, false, false, false, false, false, false, false, false, false, false, false, true] [([true, true, true, true, true, true, true, true, true, true, true, true, true, true, true, true, true, false, true, true], 17)] Ext Ext.refl (fun _ _ _ => Ext.trans) (by kernel_rfl) (by kernel_rfl) ?_
        apply wpStages_cons (by simp)
        · intro w1 hw1
          simp only [sel_true, sel_false, sel_nil]
          have x1 := hw1.cellsOf (b := bp + 1) (blk_drew HR12.out)
          repeat still_step
          exact wpStill_nil rfl
        simp only [List.getD_cons_succ, List.getD_cons_zero]
        go_wp2_with (go_at_call 16; refine (shown_any bp n pc _ _ data _ _ _ (blk_drew HB12.out)).mono ?_; rintro e w13 ⟨rfl, hb13⟩; have H13 := Lib.hid hb13; clear hb13)
        refine ⟨H13.out, ?_⟩
        have l13 := blk_lt (Ext.block H13.out (blk_drew HR12.out))
        have hr13 := Ext.cellsOf H13.out (blk_drew HR12.out)
        refine wpStages_nil ?_
        simp only [sel_true, sel_false, sel_nil]
        repeat still_step
        refine wpStill_nil ?_
        simp only [List.drop_succ_cons, List.drop_zero]
        go_wp2
        have HN := Lib.hid (show LawInv w w.heap.size bp (bp + 1) n pc data #[.int .i64 k, .int .i64 n, .string data, .string old, .bool d1, .bool d2, .bool d3, .slice ra rn rc, .int .i64 bl, .int .i64 pc] w13 from ⟨_, _, _, Ext.block H13.out (blk_drew HB12.out), Ext.block H13.out (blk_drew HR12.out), hst.1, hst.2, HSD.out, Ext.block H13.out (blk_drew HX12.out), Ext.trans HE12.out.drew H13.out⟩)
        go_roundw
        case rel => first | exact ⟨j + 1, by omega, by go_num, HN.out⟩ | ((repeat apply Exists.intro); exact ⟨⟨j + 1, by omega, by go_num, HN.out⟩, rfl⟩)
        case measure => simp [intOf]; omega
      · obtain rfl : j = ln := by omega
        have D1 := Lib.hid next_nil
        have D2 := Lib.hid done_nil
        have D3 := Lib.hid take_nil
        have D4 := Lib.hid shown_nil
        unfold zMsg at D1 D3
        go_wp2_with (first
          | (go_at_call 9; refine (D1.out _).mono ?_; rintro e w2 ⟨rfl, hb2⟩; have HE2 := Lib.hid (HER.out.trans hb2); clear hb2)
          | (go_at_call 15; refine (D2.out _).mono ?_; rintro e w3 ⟨rfl, hb3⟩; have HE3 := Lib.hid ((HE2.out.alloc _).trans hb3); clear hb3)
          | (go_at_call 5; refine (A.out _).mono ?_; rintro e w4 ⟨rfl, hb4⟩; have HE4 := Lib.hid (HE3.out.trans hb4); clear hb4)
          | (go_at_call 13; refine (D3.out _).mono ?_; rintro e w5 ⟨rfl, hb5⟩; have HE5 := Lib.hid (HE4.out.trans hb5); clear hb5)
          | (go_at_call 16; refine (D4.out _).mono ?_; rintro e w6 ⟨rfl, hb6⟩; have HE6 := Lib.hid (HE5.out.trans hb6); clear hb6))
        go_ret
        exact ⟨rfl, HE6.out⟩
end Go.Proofs.Ytodanmikpajeeaa
