/- The document's right messages (layer 20): the walk; it answers, and a right message that tells an error tells one. -/
import Derived.Test.YtodanmikpajeeaaMsgE
import Derived.Test.YtodanmikpajeeaaGroup
import Derived.Deep.DeepCutAuto
namespace Go.Proofs.Ytodanmikpajeeaa
open Go Go.Proofs Go.RowKit

theorem below_cells_r {B : Nat} {x y : World} (h : Below B x y) {b : Nat} {cs : Array Value} {T : TypeId} {fz : Nat × Nat} (hb : x.heap[b]? = some (.cells cs T fz)) (hlt : b < B) : ∀ o, y.cell? ⟨b, o, none⟩ = cs[o]? := fun o => by
  have := (Below.block h b hlt).trans hb
  simp [World.cell?, this]
/-- What lies in memory behind the first tests: the message, and which fields its kind has. -/
def RightMem (k n at_ tt : Int) (y : Bool) (c : Int) (s : ByteArray) (sz : Int) (bl : Value) (tl lw lh ll : Int) (en : Value) (w w1 : World) (h0 h1 h2 h3 h4 h5 h6 h7 : Bool) (wx : World) : Prop :=
  wx.heap[w.heap.size]? = some (.cells #[.int .i64 k, .int .i64 n, .int .i64 at_, .int .i64 tt, .bool y, .int .i64 c, .string s, .int .i64 sz, bl, .int .i64 tl, .int .u32 lw, .int .u64 lh, .int .u64 ll, en] 47 (0, 0)) ∧
  wx.heap[w1.heap.size]? = some (.cells #[.bool h0, .bool h1, .bool h2, .bool h3, .bool h4, .bool h5, .bool h6, .bool h7] 78 (0, 0)) ∧ Ext w wx

set_option maxHeartbeats 4000000 in
set_option maxRecDepth 100000 in
theorem right_any (k n at_ tt : Int) (y : Bool) (c : Int) (s : ByteArray) (sz : Int) (bl : Value) (tl lw lh ll : Int) (en : Value) (w : World) (hbl : IsSl bl) (hen : Ents w en) (h1 : 1 ≤ k) (h11 : k ≤ 11) (kb cb : Bool) (hkb : (k == 11) = kb) (hcb : (c == 0) = cb) (hcb' : (c != 0) = !cb)
    (h0 h1' h2 h3 h4 h5 h6 h7 : Bool) (H : ∀ w, Calls Try.prog 23 #[.int .i64 k] w (RetV w (.agg #[.bool h0, .bool h1', .bool h2, .bool h3, .bool h4, .bool h5, .bool h6, .bool h7]))) :
    Calls Try.prog 8 #[msgV k n at_ tt y c s sz bl tl lw lh ll en] w (RetB w (fun b => b = true → kb = true → cb = false)) := by
  obtain ⟨ba, bn, bc, rfl⟩ := hbl
  unfold msgV
  obtain ⟨ea, el, ec, rfl, hel, hrow⟩ := hen
  have HROW := Lib.hid hrow; clear hrow
  have HH := Lib.hid H; clear H
  go_enter Try.func8, Try.ntmps8
  go_upto_region 4 with (go_at_call 23; refine (HH.out _).mono ?_; rintro e w1 ⟨rfl, hb1⟩; have hE : Ext _ w1 := hb1; clear hb1; have hEc0 := hE.cellsOf (b := w.heap.size) (heap_at _ _ (by simp)); have hEl0 := hE.blt (b := w.heap.size) (heap_at _ _ (by simp)); have hEf0 := hE.freeOf (b := w.heap.size) (heap_at _ _ (by simp)); have HB := Lib.hid (hE.block (b := w.heap.size) (heap_at _ _ rfl)); have HE := Lib.hid hE; clear hE)
  go_cut [75] (fun v wx => ∃ b, v = .bool b ∧ (b = false → kb = true → cb = false) ∧ RightMem k n at_ tt y c s sz (.slice ba bn bc) tl lw lh ll (.slice ea el ec) w w1 h0 h1' h2 h3 h4 h5 h6 h7 wx)
  case first =>
    refine wp_region_lit ?_
    refine wpList_group 8 (fun _ => True) [16, 17, 18, 19, 20, 21, 22] 23 ?_ ?_
    · simp only [List.take_succ_cons, List.take_zero]
      all_goals go_wp2
      all_goals exact ⟨rfl, [_, _, _, _, _, _, _], _, rfl, trivial, by simp only [puts, Act.put, List.setIfInBounds_toArray, List.set_cons_succ, List.set_cons_zero]; rfl⟩
    simp only [List.drop_succ_cons, List.drop_zero, allPuts]
    intro z16 z17 z18 z19 z20 z21 z22 b _
    refine wpList_group 5 (fun _ => True) [24, 25, 26, 27] 28 ?_ ?_
    · simp only [List.take_succ_cons, List.take_zero]
      cases b
      all_goals go_wp2
      all_goals exact ⟨rfl, [_, _, _, _], _, rfl, trivial, by simp only [puts, Act.put, List.setIfInBounds_toArray, List.set_cons_succ, List.set_cons_zero]; rfl⟩
    simp only [List.drop_succ_cons, List.drop_zero, allPuts]
    intro z24 z25 z26 z27 b _
    refine wpList_group 5 (fun _ => True) [29, 30, 31, 32] 33 ?_ ?_
    · simp only [List.take_succ_cons, List.take_zero]
      cases b
      all_goals go_wp2
      all_goals exact ⟨rfl, [_, _, _, _], _, rfl, trivial, by simp only [puts, Act.put, List.setIfInBounds_toArray, List.set_cons_succ, List.set_cons_zero]; rfl⟩
    simp only [List.drop_succ_cons, List.drop_zero, allPuts]
    intro z29 z30 z31 z32 b _
    refine wpList_group 5 (fun _ => True) [34, 35, 36, 37] 38 ?_ ?_
    · simp only [List.take_succ_cons, List.take_zero]
      cases b
      all_goals go_wp2
      all_goals exact ⟨rfl, [_, _, _, _], _, rfl, trivial, by simp only [puts, Act.put, List.setIfInBounds_toArray, List.set_cons_succ, List.set_cons_zero]; rfl⟩
    simp only [List.drop_succ_cons, List.drop_zero, allPuts]
    intro z34 z35 z36 z37 b _
    refine wpList_group 5 (fun _ => True) [39, 40, 41, 42] 43 ?_ ?_
    · simp only [List.take_succ_cons, List.take_zero]
      cases b
      all_goals go_wp2
      all_goals exact ⟨rfl, [_, _, _, _], _, rfl, trivial, by simp only [puts, Act.put, List.setIfInBounds_toArray, List.set_cons_succ, List.set_cons_zero]; rfl⟩
    simp only [List.drop_succ_cons, List.drop_zero, allPuts]
    intro z39 z40 z41 z42 b _
    refine wpList_group 6 (fun _ => True) [44, 45, 46, 47, 48] 49 ?_ ?_
    · simp only [List.take_succ_cons, List.take_zero]
      cases b
      all_goals go_wp2
      all_goals exact ⟨rfl, [_, _, _, _, _], _, rfl, trivial, by simp only [puts, Act.put, List.setIfInBounds_toArray, List.set_cons_succ, List.set_cons_zero]; rfl⟩
    simp only [List.drop_succ_cons, List.drop_zero, allPuts]
    intro z44 z45 z46 z47 z48 b _
    refine wpList_group 6 (fun _ => True) [50, 51, 52, 53, 54] 55 ?_ ?_
    · simp only [List.take_succ_cons, List.take_zero]
      cases b
      all_goals go_wp2
      all_goals exact ⟨rfl, [_, _, _, _, _], _, rfl, trivial, by simp only [puts, Act.put, List.setIfInBounds_toArray, List.set_cons_succ, List.set_cons_zero]; rfl⟩
    simp only [List.drop_succ_cons, List.drop_zero, allPuts]
    intro z50 z51 z52 z53 z54 b _
    refine wpList_group 5 (fun _ => True) [56, 57, 58, 59] 60 ?_ ?_
    · simp only [List.take_succ_cons, List.take_zero]
      cases b
      all_goals go_wp2
      all_goals exact ⟨rfl, [_, _, _, _], _, rfl, trivial, by simp only [puts, Act.put, List.setIfInBounds_toArray, List.set_cons_succ, List.set_cons_zero]; rfl⟩
    simp only [List.drop_succ_cons, List.drop_zero, allPuts]
    intro z56 z57 z58 z59 b _
    refine wpList_group 5 (fun _ => True) [61, 62, 63, 64] 65 ?_ ?_
    · simp only [List.take_succ_cons, List.take_zero]
      cases b
      all_goals go_wp2
      all_goals exact ⟨rfl, [_, _, _, _], _, rfl, trivial, by simp only [puts, Act.put, List.setIfInBounds_toArray, List.set_cons_succ, List.set_cons_zero]; rfl⟩
    simp only [List.drop_succ_cons, List.drop_zero, allPuts]
    intro z61 z62 z63 z64 b _
    cases b
    all_goals go_wp2
    all_goals go_meet
    all_goals exact ⟨_, rfl, by simp_all, blk_alloc _ HB.out, heap_new _ _, (((Ext.refl w).alloc _).trans HE.out).alloc _⟩
  case rest =>
    obtain ⟨b4, rfl, hb4, hm, hh, hE⟩ := hcut
    have HC := Lib.hid hb4; clear hb4
    have lm := blk_lt hm
    have lh' := blk_lt hh
    clear hEc0 hEf0 HB HE hkb hcb hcb' HH
    have hmc : ∀ o, wc.cell? ⟨w.heap.size, o, none⟩ = _ := fun o => below_cells_r (Below.refl _ wc) hm (Nat.lt_succ_self _) o
    have hhc : ∀ o, wc.cell? ⟨w1.heap.size, o, none⟩ = _ := fun o => below_cells_r (Below.refl _ wc) hh (Nat.lt_succ_self _) o
    have HM := Lib.hid hm; clear hm
    have HX := Lib.hid hE; clear hE
    cases b4
    · go_upto_region 6 with fail
      have HH := Lib.hid hh; clear hh
      go_cut [143] (fun v wx => ∃ b, v = .bool b ∧ wx = wc)
      case first =>
        refine wp_region_lit ?_
        simp only [List.append_eq, List.cons_append, List.nil_append]
        refine wpList_group 8 (fun _ => True) [76, 77, 78, 79, 80, 81, 82] 83 ?_ ?_
        · simp only [List.take_succ_cons, List.take_zero]
          all_goals go_wp2
          all_goals exact ⟨rfl, [_, _, _, _, _, _, _], _, rfl, trivial, by simp only [puts, Act.put, List.setIfInBounds_toArray, List.set_cons_succ, List.set_cons_zero]; rfl⟩
        simp only [List.drop_succ_cons, List.drop_zero, allPuts]
        intro z76 z77 z78 z79 z80 z81 z82 b _
        refine wpList_group 10 (fun _ => True) [84, 85, 86, 87, 88, 89, 90, 91, 92] 93 ?_ ?_
        · simp only [List.take_succ_cons, List.take_zero]
          cases b
          all_goals go_wp2
          all_goals exact ⟨rfl, [_, _, _, _, _, _, _, _, _], _, rfl, trivial, by simp only [puts, Act.put, List.setIfInBounds_toArray, List.set_cons_succ, List.set_cons_zero]; rfl⟩
        simp only [List.drop_succ_cons, List.drop_zero, allPuts]
        intro z84 z85 z86 z87 z88 z89 z90 z91 z92 b _
        refine wpList_group 10 (fun _ => True) [94, 95, 96, 97, 98, 99, 100, 101, 102] 103 ?_ ?_
        · simp only [List.take_succ_cons, List.take_zero]
          cases b
          all_goals go_wp2
          all_goals exact ⟨rfl, [_, _, _, _, _, _, _, _, _], _, rfl, trivial, by simp only [puts, Act.put, List.setIfInBounds_toArray, List.set_cons_succ, List.set_cons_zero]; rfl⟩
        simp only [List.drop_succ_cons, List.drop_zero, allPuts]
        intro z94 z95 z96 z97 z98 z99 z100 z101 z102 b _
        refine wpList_group 9 (fun _ => True) [104, 105, 106, 107, 108, 109, 110, 111] 112 ?_ ?_
        · simp only [List.take_succ_cons, List.take_zero]
          cases b
          all_goals go_wp2
          all_goals exact ⟨rfl, [_, _, _, _, _, _, _, _], _, rfl, trivial, by simp only [puts, Act.put, List.setIfInBounds_toArray, List.set_cons_succ, List.set_cons_zero]; rfl⟩
        simp only [List.drop_succ_cons, List.drop_zero, allPuts]
        intro z104 z105 z106 z107 z108 z109 z110 z111 b _
        refine wpList_group 10 (fun _ => True) [113, 114, 115, 116, 117, 118, 119, 120, 121] 122 ?_ ?_
        · simp only [List.take_succ_cons, List.take_zero]
          cases b
          all_goals go_wp2
          all_goals exact ⟨rfl, [_, _, _, _, _, _, _, _, _], _, rfl, trivial, by simp only [puts, Act.put, List.setIfInBounds_toArray, List.set_cons_succ, List.set_cons_zero]; rfl⟩
        simp only [List.drop_succ_cons, List.drop_zero, allPuts]
        intro z113 z114 z115 z116 z117 z118 z119 z120 z121 b _
        refine wpList_group 10 (fun _ => True) [123, 124, 125, 126, 127, 128, 129, 130, 131] 132 ?_ ?_
        · simp only [List.take_succ_cons, List.take_zero]
          cases b
          all_goals go_wp2
          all_goals exact ⟨rfl, [_, _, _, _, _, _, _, _, _], _, rfl, trivial, by simp only [puts, Act.put, List.setIfInBounds_toArray, List.set_cons_succ, List.set_cons_zero]; rfl⟩
        simp only [List.drop_succ_cons, List.drop_zero, allPuts]
        intro z123 z124 z125 z126 z127 z128 z129 z130 z131 b _
        cases b
        all_goals go_wp2
        all_goals go_meet
        all_goals exact ⟨_, rfl, rfl⟩
      case rest =>
        obtain ⟨b6, rfl, rfl⟩ := hcut
        cases b6
        · go_upto_region 8 with fail
          go_cut [163] (fun v wx => ∃ b, v = .bool b ∧ Ext wc wx)
          case first =>
            cases h6
            · go_wp2_with (go_at_call 25; refine (sig_same sz ba bn bc tl lw lh ll _).mono ?_; rintro e w2 ⟨b, rfl, _, hb2⟩; have hE2 := Lib.hid (show Ext _ w2 from hb2); clear hb2)
              go_meet
              exact ⟨_, rfl, hE2.out⟩
            · go_wp2_with (go_at_call 24; refine (sig_right sz _ tl lw lh ll _ ⟨_, _, _, rfl⟩).mono ?_; rintro e w2 ⟨b, rfl, _, hb2⟩; have hxx := Ext.cellsOf hb2 HH.out; have hxl := Ext.blt hb2 HH.out; have hE2 := Lib.hid (show Ext _ w2 from hb2); clear hb2; cases b)
              all_goals go_meet
              all_goals exact ⟨_, rfl, hE2.out⟩
          case rest =>
            obtain ⟨b8, rfl, hE8⟩ := hcut
            have hmc := hE8.cellsOf HM.out
            have hml := hE8.blt HM.out
            clear hhc
            have HX := Lib.hid (HX.out.trans hE8)
            have HM := Lib.hid (hE8.block HM.out)
            clear hE8
            cases b8
            · go_wp2
              clear hmc hml
              go_loopw [4] (fun i w' => ∃ j : Nat, j ≤ el ∧ i = .int .i64 j ∧ Ext wc w') (fun i _ => el - (intOf i).toNat)
              case atStart => exact ⟨0, Nat.zero_le _, rfl, Ext.refl wc⟩
              case round =>
                obtain ⟨j, hj, rfl, hE3⟩ := hrel
                have HY := Lib.hid (HX.out.trans hE3)
                have hE3c0 := hE3.cellsOf HM.out
                have hE3l0 := hE3.blt HM.out
                have HE3 := Lib.hid hE3; clear hE3
                by_cases hlt : j < el
                · obtain h0 | ⟨b, off, rfl, hb, hall⟩ := HROW.out
                  · omega
                  obtain ⟨p, k, m, t, ez, hi, lo, d, s0, s1, s2, s3, s4, s5, s6, s7, hp, hd, hcells⟩ := hall j hlt
                  have wr4 : IntKind.i64.wrap ((j : Int) + 1) = (j : Int) + 1 := IntWalk.i64_in _ (by omega)
                  have hrb : b < wr.heap.size := Nat.lt_of_lt_of_le hb HY.out.size
                  have hc0 : wr.cell? ⟨b, off + j * 16, none⟩ = some (.string p) := (HY.out.cell hb).trans (hcells 0 _ rfl)
                  have hc1 : wr.cell? ⟨b, off + j * 16 + 1, none⟩ = some (.int .i64 k) := (HY.out.cell hb).trans (hcells 1 _ rfl)
                  have hc2 : wr.cell? ⟨b, off + j * 16 + 2, none⟩ = some (.int .i64 m) := (HY.out.cell hb).trans (hcells 2 _ rfl)
                  have hc3 : wr.cell? ⟨b, off + j * 16 + 3, none⟩ = some (.int .i64 t) := (HY.out.cell hb).trans (hcells 3 _ rfl)
                  have hc4 : wr.cell? ⟨b, off + j * 16 + 4, none⟩ = some (.int .i64 ez) := (HY.out.cell hb).trans (hcells 4 _ rfl)
                  have hc5 : wr.cell? ⟨b, off + j * 16 + 5, none⟩ = some (.int .u64 hi) := (HY.out.cell hb).trans (hcells 5 _ rfl)
                  have hc6 : wr.cell? ⟨b, off + j * 16 + 6, none⟩ = some (.int .u64 lo) := (HY.out.cell hb).trans (hcells 6 _ rfl)
                  have hc7 : wr.cell? ⟨b, off + j * 16 + 7, none⟩ = some (.string d) := (HY.out.cell hb).trans (hcells 7 _ rfl)
                  have hc8 : wr.cell? ⟨b, off + j * 16 + 8, none⟩ = some (.int .u64 s0) := (HY.out.cell hb).trans (hcells 8 _ rfl)
                  have hc9 : wr.cell? ⟨b, off + j * 16 + 9, none⟩ = some (.int .u64 s1) := (HY.out.cell hb).trans (hcells 9 _ rfl)
                  have hc10 : wr.cell? ⟨b, off + j * 16 + 10, none⟩ = some (.int .u64 s2) := (HY.out.cell hb).trans (hcells 10 _ rfl)
                  have hc11 : wr.cell? ⟨b, off + j * 16 + 11, none⟩ = some (.int .u64 s3) := (HY.out.cell hb).trans (hcells 11 _ rfl)
                  have hc12 : wr.cell? ⟨b, off + j * 16 + 12, none⟩ = some (.int .u64 s4) := (HY.out.cell hb).trans (hcells 12 _ rfl)
                  have hc13 : wr.cell? ⟨b, off + j * 16 + 13, none⟩ = some (.int .u64 s5) := (HY.out.cell hb).trans (hcells 13 _ rfl)
                  have hc14 : wr.cell? ⟨b, off + j * 16 + 14, none⟩ = some (.int .u64 s6) := (HY.out.cell hb).trans (hcells 14 _ rfl)
                  have hc15 : wr.cell? ⟨b, off + j * 16 + 15, none⟩ = some (.int .u64 s7) := (HY.out.cell hb).trans (hcells 15 _ rfl)
                  have HALL := Lib.hid hall; clear hall
                  have HCE := Lib.hid hcells; clear hcells
                  go_wp2_with (go_at_call 26; refine (entry_some p k m t ez hi lo d s0 s1 s2 s3 s4 s5 s6 s7 _ hp hd).mono ?_; rintro e w3 ⟨b, rfl, _, hb3⟩; have HE4 := Lib.hid (show Ext _ w3 from hb3); clear hb3; cases b)
                  · go_ret
                    exact ⟨_, rfl, fun h => absurd h (by decide), HY.out.trans HE4.out⟩
                  · go_roundw
                    case rel => first | exact ⟨j + 1, by omega, by go_num, HE3.out.trans HE4.out⟩ | ((repeat apply Exists.intro); exact ⟨⟨j + 1, by omega, by go_num, HE3.out.trans HE4.out⟩, rfl⟩)
                    case measure => simp [intOf]; omega
                · obtain rfl : j = el := by omega
                  go_wp2
                  go_ret
                  exact ⟨_, rfl, fun _ => by have := HC.out; simpa using this, HY.out⟩
            · go_wp2
              go_ret
              exact ⟨_, rfl, fun h => absurd h (by decide), HX.out⟩
        · go_wp2
          go_ret
          exact ⟨_, rfl, fun h => absurd h (by decide), HX.out⟩
    · go_wp2
      go_ret
      exact ⟨_, rfl, fun h => absurd h (by decide), HX.out⟩
end Go.Proofs.Ytodanmikpajeeaa
