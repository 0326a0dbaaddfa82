/- The program's strong sum (layer 6), what it comes to: that it answers: the walks. -/
import Derived.Test.YtiopahkigbdmcaaGreatBj
import Derived.Deep.CutBlock
import Derived.Deep.DeepCutAuto
import Derived.Laws.IdiomStrings
import Derived.Lib.AppendStr
import Derived.Maps.OwnOps
import Derived.Maps.OwnSet
import Derived.Maps.AppendAt
namespace Go.Proofs.YtiopahkigbdmcaaGreat
open Go Go.Proofs Go.RowKit

theorem idx4u (i : Int) (a b c d : Value) (w : World) (v : Value) (h1 : 0 ≤ i ∧ i < 4) (h2 : #[a, b, c, d][i.toNat]? = some v) : (Instr.index 169 (.agg #[a, b, c, d]) (.int .i64 i)).run Tryz.prog w = .ok v w := by
  have h : Tryz.prog.underlying 169 = some (.array 4 56) := by kernel_rfl
  simp [Instr.index, run_underlying h, asIntOf, h1, go_sem]
  have h3 : [a, b, c, d][i.toNat]? = some v := by simpa using h2
  exact (List.getElem?_eq_some_iff.1 h3).2
def SumOff (b : Nat) (w : World) (e : Ending) (w' : World) : Prop := ∃ h l : Int, e = .returned (.agg #[.int .u64 h, .int .u64 l]) ∧ Off b w w'
theorem Off.of_new {b s : Nat} {x y z : World} (h : Ext x y) (k : Off s y z) (hs : x.heap.size ≤ s) : Off b x z := Off.of_ext ⟨k.os.trans h.os, k.tape.trans h.tape, k.output.trans h.output, Nat.le_trans h.size k.size, fun i hi => (Only.block k i (Nat.lt_of_lt_of_le hi h.size) (by omega)).trans (Below.block h i hi)⟩
theorem Off.new_trans {b s : Nat} {x y z : World} (h : Off b x y) (k : Off s y z) (hs : x.heap.size ≤ s) : Off b x z :=
  ⟨k.os.trans h.os, k.tape.trans h.tape, k.output.trans h.output, Nat.le_trans h.size k.size, fun i hi hb => (Only.block k i (Nat.lt_of_lt_of_le hi h.size) (by omega)).trans (Only.block h i hi hb)⟩
theorem Off.setNew {b r i : Nat} {x y : World} (h : Off b x y) (hr : x.heap.size ≤ r) (v : Value) : Off b x (y.setCell ⟨r, i, none⟩ v) :=
  h.new_trans ((Off.refl r y).setCell _ _) hr
set_option maxHeartbeats 4000000 in
set_option maxRecDepth 100000 in
theorem sumW (b : Nat) (w : World) (hH : HashAt b w) : Calls Tryz.prog 102 #[.pointer (some ⟨b, 0, none⟩)] w (SumOff b w) := by
  obtain ⟨hi, lo, v, n, l, hB, ⟨a, c, rfl, hlc, hA, hab⟩, hl8⟩ := hH
  have HW := Lib.hid (fun a l c w hl hb => mwordW a l c w hl hb)
  have HR := Lib.hid (fun hi lo x w => mroundW hi lo x w)
  have hb := blk_lt hB
  obtain ⟨m, hm⟩ : ∃ m, l.length = m := ⟨_, rfl⟩
  rw [hm] at hB hlc hl8
  have HBG := Lib.hid (fun w' (h : w'.heap[b]? = _) => beginW b hi lo true (.slice a m c) n w' h)
  have HB := Lib.hid hB; clear hB
  have HA := Lib.hid hA; clear hA
  have HM := Lib.hid hm; clear hm
  go_enter Tryz.func102, Tryz.ntmps102
  go_wp2_with fail
  refine (HBG.out _ (blk_alloc _ HB.out)).mono ?_
  rintro e w1 ⟨⟨v1, rfl⟩, ⟨hi1, lo1, hB1⟩, hO1⟩
  have hR1 : w1.heap[w.heap.size]? = some (.cells #[.int .u64 0, .int .u64 0] 81 (0, 0)) := hO1.block (heap_new w _) (by omega)
  have hO1' : Off b w w1 := (Off.alloc (Off.refl b w) _).trans hO1
  have hA1 := RestB.keep HA.out hO1' hab
  have hb1 := blk_lt hB1
  have hr1 := blk_lt hR1
  have c0 := blk_cell hB1 (i := 0) rfl
  have c1 := blk_cell hB1 (i := 1) rfl
  have c3 := blk_cell hB1 (i := 3) rfl
  have H1 := Lib.hid (And.intro hB1 (And.intro hR1 (And.intro hO1' hA1))); clear hB1 hR1 hO1 hO1' hA1
  go_upto_region 5 with fail
  obtain ⟨w2, hw2⟩ : ∃ w2, w1.alloc (.cells #[.int .u64 hi1, .int .u64 lo1] 143) = w2 := ⟨_, rfl⟩
  have hE2 : Ext w1 w2 := by rw [← hw2]; exact (Ext.refl w1).alloc _
  have hS2 : w2.heap[w1.heap.size]? = some (.cells #[.int .u64 hi1, .int .u64 lo1] 143 (0, 0)) := by rw [← hw2]; exact heap_new w1 _
  rw [hw2]
  have hs2 := blk_lt hS2
  have d3 := (hE2.cell (o := 3) hb1).trans c3
  have H2 := Lib.hid (And.intro hE2 hS2); clear hE2 hS2 hw2 c0 c1 c3
  go_upto_if 20 with fail
  go_cut [27] (fun _ w' => (∃ h z, w'.heap[w1.heap.size]? = some (.cells #[.int .u64 h, .int .u64 z] 143 (0, 0))) ∧ Off w1.heap.size w2 w')
  case first =>
    by_cases hm0 : (0 : Int) < m
    · have hA2 := H1.out.2.2.2.ext H2.out.1
      have hW := HW.out a l c w2.drew (by rw [HM.out]; omega) (ListAt.ext hA2 (Ext.refl w2).drew)
      rw [HM.out] at hW
      have HW2 := Lib.hid hW; clear hW hA2
      have s0 := blk_cell H2.out.2 (i := 0) rfl
      have s1 := blk_cell H2.out.2 (i := 1) rfl
      have hb2 : b < w2.heap.size := Nat.lt_of_lt_of_le hb1 H2.out.1.size
      go_upto_region 6 with fail
      refine wp_draw_stages 42 7 [] [([true, true, true, true, true], 5), ([], 6)] Ext Ext.refl (fun _ _ _ => Ext.trans) (by kernel_rfl) (by kernel_rfl) ?_
      apply wpStages_cons (by simp)
      · intro w1 hw1
        simp only [sel_true, sel_nil]
        have e0 := (hw1.cell (x := w2.drew) (o := 0) hs2).trans s0; have e1 := (hw1.cell (x := w2.drew) (o := 1) hs2).trans s1; have e3 := (hw1.cell (x := w2.drew) (o := 3) hb2).trans d3
        repeat ((with_reducible refine wpStill_step (fun K hK => ?_)); go_simp; refine hK _ ?_; clear hK K)
        exact wpStill_nil rfl
      try simp only [List.getD_cons_succ, List.getD_cons_zero]
      go_wp2_with (go_at_call 125; refine (HW2.out).mono ?_; rintro e w5 ⟨z5, rfl, rfl⟩)
      refine ⟨Ext.refl _, ?_⟩
      apply wpStages_cons (by simp)
      · intro w1 hw1
        simp only [sel_nil]
        repeat ((with_reducible refine wpStill_step (fun K hK => ?_)); go_simp; refine hK _ ?_; clear hK K)
        exact wpStill_nil rfl
      try simp only [List.getD_cons_succ, List.getD_cons_zero]
      go_wp2_with (go_at_call 105; refine (HR.out _ _ _ _).mono ?_; rintro e w6 ⟨h6, l6, rfl, hE6⟩; have hE6 : Ext w2.drew w6 := hE6)
      refine ⟨hE6, ?_⟩
      have e0 := (hE6.cell (x := w2.drew) (o := 0) hs2).trans s0
      have e1 := (hE6.cell (x := w2.drew) (o := 1) hs2).trans s1
      have e3 := (hE6.cell (x := w2.drew) (o := 3) hb2).trans d3
      have hE6' : Ext w2 w6 := Ext.trans (Ext.refl w2).drew hE6
      have hB6 := hE6'.block H2.out.2
      have f0 : ∀ i, w6.frozen? ⟨w1.heap.size, i, none⟩ = false := fun i => blk_free hB6
      have hB7 := blk_set (i := 1) (.int .u64 l6) (blk_set (i := 0) (.int .u64 h6) hB6)
      have hO7 : Off w1.heap.size w2 ((w6.setCell ⟨w1.heap.size, 0, none⟩ (.int .u64 h6)).setCell ⟨w1.heap.size, 1, none⟩ (.int .u64 l6)) := ((Off.of_ext hE6').setCell _ _).setCell _ _
      have H7 := Lib.hid (And.intro hB7 hO7); clear hB7 hO7 hB6
      refine wpStages_nil ?_
      simp only [sel_nil]
      repeat ((with_reducible refine wpStill_step (fun K hK => ?_)); go_simp; refine hK _ ?_; clear hK K)
      refine wpStill_nil ?_
      try simp only [List.drop_succ_cons, List.drop_zero]
      go_wp2
      go_meet
      exact ⟨⟨_, _, H7.out.1⟩, H7.out.2⟩
    · go_wp2
      go_meet
      exact ⟨⟨_, _, H2.out.2⟩, Off.refl _ _⟩
  case rest =>
    obtain ⟨⟨h3, z3, hS3⟩, hO3⟩ := hcut
    have hBc := hO3.block (H2.out.1.block H1.out.1) (by omega)
    have hRc := hO3.block (H2.out.1.block H1.out.2.1) (by omega)
    have d4 := blk_cell hBc (i := 4) rfl
    have hOc : Off b w wc := H1.out.2.2.1.trans (Off.of_new H2.out.1 hO3 (Nat.le_refl _))
    have HC := Lib.hid (And.intro hS3 (And.intro hRc hOc)); clear hS3 hRc hOc hO3 hBc
    go_wp2_with fail
    go_loopw [34] (fun i w' => ∃ k : Nat, k ≤ 4 ∧ i = .int .i64 k ∧ (∃ h z, w'.heap[w1.heap.size]? = some (.cells #[.int .u64 h, .int .u64 z] 143 (0, 0))) ∧ Off w1.heap.size wc w') (fun i _ => 4 - (intOf i).toNat)
    case atStart => exact ⟨0, by omega, rfl, ⟨_, _, HC.out.1⟩, Off.refl _ _⟩
    case round =>
      obtain ⟨k, hk, rfl, ⟨h4, z4, hS4⟩, hO4⟩ := hrel
      have hs4 := blk_lt hS4
      have s0 := blk_cell hS4 (i := 0) rfl
      have s1 := blk_cell hS4 (i := 1) rfl
      have HS4 := Lib.hid hS4; clear hS4
      have HO4 := Lib.hid hO4; clear hO4
      by_cases hlt : k < 4
      · obtain ⟨y, hy⟩ : ∃ y, #[Value.int .u64 (IntKind.u64.wrap n), .int .u64 18446744073709551615, .int .u64 0, .int .u64 0][k]? = some (.int .u64 y) := by
          rcases (by omega : k = 0 ∨ k = 1 ∨ k = 2 ∨ k = 3) with rfl | rfl | rfl | rfl <;> exact ⟨_, rfl⟩
        have hix := fun w => idx4u (k : Int) _ _ _ _ w _ (by omega) (by simpa using hy)
        clear hy
        go_wp2_with fail
        refine (HR.out _ _ _ _).mono ?_
        rintro e w6 ⟨h6, l6, rfl, hE6⟩
        have hB6 := hE6.block HS4.out
        have f0 : ∀ i, w6.frozen? ⟨w1.heap.size, i, none⟩ = false := fun i => blk_free hB6
        have g0 := blk_cell hB6 (i := 0) rfl
        have g1 := blk_cell hB6 (i := 1) rfl
        have hB7 := blk_set (i := 1) (.int .u64 l6) (blk_set (i := 0) (.int .u64 h6) hB6)
        have hO7 : Off w1.heap.size wc ((w6.setCell ⟨w1.heap.size, 0, none⟩ (.int .u64 h6)).setCell ⟨w1.heap.size, 1, none⟩ (.int .u64 l6)) := ((HO4.out.trans (Off.of_ext hE6)).setCell _ _).setCell _ _
        have H7 := Lib.hid (And.intro hB7 hO7); clear hB7 hO7 hB6
        go_wp2
        go_roundw
        case rel => exact ⟨k + 1, by omega, by go_num, ⟨_, _, H7.out.1⟩, H7.out.2⟩
        case measure => simp [intOf]; omega
      · obtain rfl : k = 4 := by omega
        have hRr := HO4.out.block HC.out.2.1 (by omega)
        have r0 := blk_cell hRr (i := 0) rfl
        have r1 := blk_cell hRr (i := 1) rfl
        have fr : ∀ i, wr.frozen? ⟨w.heap.size, i, none⟩ = false := fun i => blk_free hRr
        have hB7 := blk_set (i := 1) (.int .u64 z4) (blk_set (i := 0) (.int .u64 h4) hRr)
        have hO7 : Off b w ((wr.setCell ⟨w.heap.size, 0, none⟩ (.int .u64 h4)).setCell ⟨w.heap.size, 1, none⟩ (.int .u64 z4)) :=
          ((HC.out.2.2.new_trans HO4.out (by have := H1.out.2.2.1.size; omega)).setNew (Nat.le_refl _) _).setNew (Nat.le_refl _) _
        have H7 := Lib.hid (And.intro hB7 hO7); clear hB7 hO7 hRr
        go_wp2
        refine bodyPost_ret (res_cell rfl rfl (H7.out.1) (by kernel_rfl) (by kernel_rfl)) rfl ?_
        exact ⟨_, _, rfl, H7.out.2⟩
end Go.Proofs.YtiopahkigbdmcaaGreat
/- The program's strong sum of bytes, and a node's (layers 6, 21): that they answer: the walks. -/
namespace Go.Proofs.YtiopahkigbdmcaaGreat
open Go Go.Proofs Go.RowKit

theorem Off.new {b : Nat} {w x y : World} (h : Off b x y) (k : Ext w x) (hb : w.heap.size ≤ b) : Ext w y :=
  ⟨h.os.trans k.os, h.tape.trans k.tape, h.output.trans k.output, Nat.le_trans k.size h.size, fun i hi => (Only.block h i (Nat.lt_of_lt_of_le hi k.size) (by omega)).trans (Below.block k i hi)⟩
/-- Bytes handed over. -/
def BytesIn (w : World) (a : Option Addr) (l : List Int) (c : Nat) : Prop := l.length ≤ 100000 ∧ BytesL w a l ∧ l.length ≤ c ∧ ((a = none ∧ c = 0) ∨ ∃ g off, a = some ⟨g, off, none⟩ ∧ g < w.heap.size)
set_option maxHeartbeats 1000000 in
set_option maxRecDepth 100000 in
theorem mixOfW (a : Option Addr) (l : List Int) (c : Nat) (w : World) (h : BytesIn w a l c) : Calls Tryz.prog 84 #[.slice a l.length c] w (SumTold w) := by
  obtain ⟨hl, hA, hc, ha⟩ := h
  have hB := heap_at (w.alloc (.cells #[.int .u64 0, .int .u64 0] 81)) (hBlk 0 0 false (.slice none 0 0) 0) (n := w.heap.size + 1) (by simp)
  have hEw : Ext w ((w.alloc (.cells #[.int .u64 0, .int .u64 0] 81)).alloc (hBlk 0 0 false (.slice none 0 0) 0)) := ((Ext.refl w).alloc _).alloc _
  have hW := writeW (w.heap.size + 1) a l c 0 0 _ hB hl (hA.ext hEw) hc (by
    rcases ha with h | ⟨g, off, h, hg⟩
    · exact Or.inl h
    · exact Or.inr ⟨g, off, h, by omega⟩)
  have hR := blk_alloc (hBlk 0 0 false (.slice none 0 0) 0) (heap_new w (.cells #[.int .u64 0, .int .u64 0] 81))
  obtain ⟨n, hn⟩ : ∃ n, l.length = n := ⟨_, rfl⟩
  rw [hn] at hW ⊢
  have HW := Lib.hid hW; clear hW
  have HR := Lib.hid hR
  have HE := Lib.hid hEw; clear hEw hA ha hB hR
  have HS := Lib.hid (fun w' h => sumW (w.heap.size + 1) w' h)
  go_enter Tryz.func84, Tryz.ntmps84
  go_wp2_with fail
  refine HW.out.mono ?_
  rintro e w1 ⟨⟨v, rfl⟩, hH, hO⟩
  have hR1 := hO.block HR.out (by omega)
  have hE1 : Ext w w1 := Off.new hO HE.out (by omega)
  have H1 := Lib.hid (And.intro hH (And.intro hR1 hE1)); clear hH hR1 hE1 hO
  go_wp2_with fail
  refine (HS.out _ H1.out.1).mono ?_
  rintro e w2 ⟨h, z, rfl, hO⟩
  have hR2 := hO.block H1.out.2.1 (by omega)
  have hE2 : Ext w w2 := Off.new hO H1.out.2.2 (by omega)
  have c0 := blk_cell hR2 (i := 0) rfl
  have c1 := blk_cell hR2 (i := 1) rfl
  have fr : ∀ i, w2.frozen? ⟨w.heap.size, i, none⟩ = false := fun i => blk_free hR2
  have hB7 := blk_set (i := 1) (.int .u64 z) (blk_set (i := 0) (.int .u64 h) hR2)
  have hE7 := (hE2.setNew (i := 0) (Nat.le_refl _) (.int .u64 h)).setNew (i := 1) (Nat.le_refl _) (.int .u64 z)
  have H7 := Lib.hid (And.intro hB7 hE7); clear hB7 hE7 hR2 hO hE2
  go_wp2
  refine bodyPost_ret (res_cell rfl rfl (H7.out.1) (by kernel_rfl) (by kernel_rfl)) rfl ?_
  exact ⟨_, _, rfl, H7.out.2⟩
theorem bytesL_of {w : World} {g : Nat} {s : ByteArray} {c : Nat} {fz : Nat × Nat} (h : w.heap[g]? = some (.cells (bytesRow s c) 5 fz)) : BytesL w (some ⟨g, 0, none⟩) (txt s) := by
  refine Or.inr ⟨g, 0, _, (_, fz), rfl, h, fun i hi j v hj => ?_⟩
  have hj0 : j = 0 := by
    have := (List.getElem?_eq_some_iff.1 hj).1
    rw [byteC_len] at this
    omega
  subst hj0
  rw [txt_len] at hi
  have hv : v = .int .u8 ((s[i].toNat : Nat) : Int) := by
    have e : (byteC (txt s)[i])[0]? = some v := hj
    rw [txt_at s i hi] at e
    exact (Option.some.inj e).symm
  have hi' : i < s.data.size := hi
  unfold bytesRow
  rw [Nat.zero_add, Nat.mul_one, Nat.add_zero, Array.getElem?_append_left (by simpa using hi'), Array.getElem?_map, Array.getElem?_eq_getElem hi', hv]
  rfl
set_option maxRecDepth 100000 in
theorem wpList_bytes_of {ops : Array Oper} {rest : List Oper} {o : Oper} {a : Act} {Q : Exit → Act → World → Prop} {w : World} (hgd : o.guard = none) (x : Operand) (ho : o.op = .convert 9 105 x) (s : ByteArray) (hx : a.eval x = .string s) (hs : s.size ≤ 100000)
    (h : ∀ g c w', BytesIn w' (some ⟨g, 0, none⟩) (txt s) c → Ext w w' → wpList Tryz.prog ops Q rest (a.put o.dst (.slice (some ⟨g, 0, none⟩) s.size c)) w') : wpList Tryz.prog ops Q (o :: rest) a w := by
  refine wpList_plain hgd fun K hK => ?_
  have hrun := run_bytes_of_string (P := Tryz.prog) w 9 105 5 s (by kernel_rfl) (by kernel_rfl) (by kernel_rfl)
  have hb := heap_new w.drew (.cells (bytesRow s (grownCap w s.size 0 5)) 5 ((bytesRow s (grownCap w s.size 0 5)).size, (bytesRow s (grownCap w s.size 0 5)).size + 1))
  have hK2 := hK _ _ (h w.heap.size (grownCap w s.size 0 5) _ ⟨by rw [txt_len]; exact hs, bytesL_of hb, by rw [txt_len]; exact grownCap_ge _ _ _ _, Or.inr ⟨_, _, rfl, blk_lt hb⟩⟩ (Ext.alloc (Ext.refl w).drew _))
  unfold Oper.wp
  simp [execOp, ho, hx, hrun, Result.andThen]
  exact hK2
set_option maxHeartbeats 1000000 in
set_option maxRecDepth 100000 in
theorem dataW (x : NodeV) (w : World) (hd : x.data.size ≤ 1000) : Calls Tryz.prog 79 #[x.val] w (SumTold w) := by
  unfold NodeV.val
  have HM := Lib.hid (fun a l c w h => mixOfW a l c w h)
  go_enter Tryz.func79, Tryz.ntmps79
  go_wp2_with (refine wpList_bytes_of rfl _ rfl _ rfl (by omega) ?_; intro g c w2 hBi hE2; have HBi := Lib.hid (And.intro hBi hE2); clear hBi hE2)
  have hM := HM.out (some ⟨g, 0, none⟩) (txt x.data) c w2 HBi.out.1
  rw [txt_len] at hM
  refine hM.mono ?_
  rintro e w3 ⟨h, z, rfl, hE3⟩
  have hR3 := hE3.block (HBi.out.2.block (heap_at (w.alloc (.cells #[.string x.path, .int .i64 x.kind, .int .i64 x.mode, .int .i64 x.time, .string x.data] 42)) (.cells #[.int .u64 0, .int .u64 0] 81) (n := w.heap.size + 1) (by simp)))
  have hEw : Ext w w3 := Ext.trans (Ext.trans (((Ext.refl w).alloc _).alloc _) HBi.out.2) hE3
  have c0 := blk_cell hR3 (i := 0) rfl
  have c1 := blk_cell hR3 (i := 1) rfl
  have fr : ∀ i, w3.frozen? ⟨w.heap.size + 1, i, none⟩ = false := fun i => blk_free hR3
  have hB7 := blk_set (i := 1) (.int .u64 z) (blk_set (i := 0) (.int .u64 h) hR3)
  have hE7 := (hEw.setNew (i := 0) (Nat.le_succ w.heap.size) (.int .u64 h)).setNew (i := 1) (Nat.le_succ w.heap.size) (.int .u64 z)
  have H7 := Lib.hid (And.intro hB7 hE7); clear hB7 hE7 hR3 hEw hM
  go_wp2
  refine bodyPost_ret (res_cell rfl rfl (H7.out.1) (by kernel_rfl) (by kernel_rfl)) rfl ?_
  exact ⟨_, _, rfl, H7.out.2⟩
end Go.Proofs.YtiopahkigbdmcaaGreat
/- Numbers and texts in bytes (layer 4): that they answer: the walks. -/
namespace Go.Proofs.YtiopahkigbdmcaaGreat
open Go Go.Proofs Go.RowKit

theorem byte_append {ops : Array Oper} {rest : List Oper} {o : Oper} {a : Act} {Q : Exit → Act → World → Prop} {w : World} (hgd : o.guard = none) (s x : Operand)
    (ho : o.op = .call { callee := .builtin .append, args := #[s, x], argTypes := #[105, 105] })
    (w0 : World) (v : Value) (L : List Int) (hs : a.eval s = v) (hO : OwnB w0 v L w)
    (y : Int) (g c : Nat) (hx : a.eval x = .slice (some ⟨g, 0, none⟩) 1 c) (hM : ∀ j u, (byteC y)[j]? = some u → w.cell? ((⟨g, 0, none⟩ : Addr).add j) = some u) (h63 : L.length ≤ 90000)
    (h : ∀ v' w', OwnB w0 v' (L ++ [y]) w' → Ext w0 w' → wpList Tryz.prog ops Q rest (a.put o.dst v') w') : wpList Tryz.prog ops Q (o :: rest) a w := by
  obtain ⟨i, h1, h2, h3, h4⟩ := byte_info
  exact wpList_append_one hgd s x 105 ho byteC_len i (.int .u8 0) 1 (by kernel_rfl) h1 h2 h3 h4 rfl (by decide) w0 v L hs hO y g c hx hM (fun u hu => by simp only [byteC, List.mem_singleton] at hu; subst hu; rfl) (by omega) (by decide) h
def BytesTold (m : Nat) (w : World) (e : Ending) (w' : World) : Prop := ∃ v L, e = .returned v ∧ OwnB w v L w' ∧ L.length ≤ m
set_option maxHeartbeats 2000000 in
set_option maxRecDepth 100000 in
theorem numW (a : Option Addr) (l : List Int) (c : Nat) (n : Nat) (w : World) (h : BytesIn w a l c) (hl : l.length ≤ 80000) (hn : n < 18446744073709551616) :
    Calls Tryz.prog 82 #[.slice a l.length c, .int .u64 n] w (BytesTold (l.length + 11) w) := by
  obtain ⟨-, hA, hc, ha⟩ := h
  have HA := Lib.hid (And.intro hA ha); clear hA ha
  obtain ⟨m, hm⟩ : ∃ m, l.length = m := ⟨_, rfl⟩
  rw [hm] at hl hc ⊢
  have HM := Lib.hid hm; clear hm
  go_enter Tryz.func82, Tryz.ntmps82
  go_upto_region 1 with fail
  go_cut [5] (fun v w' => OwnB w v l w')
  case first =>
    rcases HA.out.2 with ⟨rfl, rfl⟩ | ⟨g, off, rfl, hgb⟩
    · obtain rfl : m = 0 := by omega
      have hl0 : l = [] := List.eq_nil_of_length_eq_zero HM.out
      go_wp2
      go_meet
      rw [hl0]
      exact OwnL.empty (Ext.refl w)
    · have hlen : ([] : List Int).length + l.length ≤ 100000 := by rw [HM.out, List.length_nil]; omega
      go_wp2_with (at_builtin; refine bytes_append rfl _ _ rfl w _ ([] : List Int) rfl (OwnL.empty (Ext.refl w)) g off _ _ l HM.out.symm rfl (HA.out.1.ext ((Ext.refl w).alloc _)) hlen ?_; intro v' w' hown hBw)
      go_meet
      exact hown
  case rest =>
    have HC := Lib.hid hcut; clear hcut
    go_wp2_with fail
    go_loopw [1, 5] (fun nv v w' => ∃ (n' k : Nat) (L : List Int), nv = .int .u64 n' ∧ OwnB w v L w' ∧ L.length ≤ m + k ∧ n' * 128 ^ k ≤ n ∧ k ≤ 10) (fun nv _ _ => (intOf nv).toNat)
    case atStart => exact ⟨n, 0, l, rfl, HC.out, by rw [HM.out]; omega, by omega, by omega⟩
    case round =>
      obtain ⟨n', k, L, rfl, hown, hLk, hnk, hk⟩ := hrel
      have HO := Lib.hid hown; clear hown
      by_cases h128 : 128 ≤ n'
      · have h128i : (128 : Int) ≤ n' := by omega
        have hk9 : k + 1 ≤ 10 := by
          rcases Nat.lt_or_ge k 10 with h | h
          · omega
          · obtain rfl : k = 10 := by omega
            have : (128 : Nat) ^ 10 = 1180591620717411303424 := by decide
            rw [this] at hnk
            omega
        have hnext : n' / 128 * 128 ^ (k + 1) ≤ n := by
          rw [Nat.pow_succ, Nat.mul_comm (128 ^ k) 128, ← Nat.mul_assoc]
          exact Nat.le_trans (Nat.mul_le_mul_right _ (Nat.div_mul_le_self n' 128)) hnk
        have hL9 : L.length ≤ 90000 := by omega
        have HN := Lib.hid (And.intro hk9 (And.intro hnext hLk)); clear hk9 hnext hLk hnk
        go_wp2_with (at_builtin; refine byte_append rfl _ _ rfl w _ L rfl (HO.out.alloc _) _ _ 1 rfl (cells_at _ _ _ (by simp)) hL9 ?_; intro v' w4 hown' hE4; have HO4 := Lib.hid hown'; clear hown')
        go_roundw
        case rel => exact ⟨n' / 128, k + 1, _, by simp, HO4.out, by rw [List.length_append, List.length_singleton]; have := HN.out.2.2; omega, HN.out.2.1, HN.out.1⟩
        case measure => simp [intOf]; omega
      · have h128i : ¬ (128 : Int) ≤ n' := by omega
        have hL9 : L.length ≤ 90000 := by omega
        go_wp2_with (at_builtin; refine byte_append rfl _ _ rfl w _ L rfl (HO.out.alloc _) _ _ 1 rfl (cells_at _ _ _ (by simp)) hL9 ?_; intro v' w4 hown' hE4; have HO4 := Lib.hid hown'; clear hown')
        go_ret
        exact ⟨_, _, rfl, HO4.out, by rw [List.length_append, List.length_singleton]; omega⟩
theorem BytesTold.into {m : Nat} {w w' : World} {v : Value} {L : List Int} (h : OwnB w v L w') (hm : m ≤ 100000) (hl : L.length ≤ m) : ∃ a c, v = .slice a L.length c ∧ BytesIn w' a L c := by
  obtain ⟨a, c, rfl, hc⟩ := h.slice
  refine ⟨a, c, rfl, by omega, h.done byteC_len, hc, ?_⟩
  obtain ⟨_, _, ⟨hv, h0⟩ | ⟨g, cap, cur, hv, hg, hb, _⟩⟩ := h
  · simp only [Value.slice.injEq] at hv
    exact Or.inl ⟨hv.1, hv.2.2⟩
  · simp only [Value.slice.injEq] at hv
    exact Or.inr ⟨g, 0, hv.1, blk_lt hb⟩
set_option maxHeartbeats 1000000 in
set_option maxRecDepth 100000 in
theorem textW (a : Option Addr) (l : List Int) (c : Nat) (s : ByteArray) (w : World) (h : BytesIn w a l c) (hl : l.length ≤ 80000) (hs : s.size ≤ 1000) :
    Calls Tryz.prog 80 #[.slice a l.length c, .string s] w (BytesTold (l.length + 11 + s.size) w) := by
  have HN := Lib.hid (numW a l c s.size w h hl (by omega))
  obtain ⟨m, hm⟩ : ∃ m, l.length = m := ⟨_, rfl⟩
  rw [hm] at hl HN ⊢
  clear hm h
  have wu : IntKind.u64.wrap (s.size : Int) = (s.size : Int) := by rw [IntKind.wrap_u64]; omega
  go_enter Tryz.func80, Tryz.ntmps80
  go_wp2_with fail
  refine HN.out.mono ?_
  rintro e w1 ⟨v, L, rfl, hown, hLm⟩
  have HO := Lib.hid hown
  have hbase := hown.1.size; clear hown
  obtain ⟨i, h1, h2, h3, h4⟩ := byte_info
  have HI := Lib.hid (And.intro h1 (And.intro h2 (And.intro h3 h4))); clear h1 h2 h3 h4
  have h63 : L.length + s.size ≤ 100000 := by omega
  go_wp2_with (at_builtin; refine Lib.wpList_append_own_string _ rfl _ _ 105 9 rfl w.heap.size 5 i (by kernel_rfl) (by kernel_rfl) HI.out.1 HI.out.2.1 HI.out.2.2.1 HI.out.2.2.2 v L.length (L.flatMap byteC) rfl HO.out.2 s rfl (by unfold maxLen; omega) (by omega) hbase ?_; intro v' w4 hown' hgrow _; have HO4 := Lib.hid (And.intro hown' hgrow); clear hown' hgrow)
  go_ret
  refine ⟨v', L ++ txt s, rfl, ⟨Below.trans HO.out.1 (grown_below HO4.out.2 (fun k hk => (HO.out.2.lt k hk).1) hbase), ?_⟩, by rw [List.length_append, txt_len]; omega⟩
  rw [List.length_append, txt_len, List.flatMap_append]
  have hst : (txt s).flatMap byteC = Lib.strCells s := by
    unfold txt Lib.strCells byteC
    rw [List.flatMap_map]
    induction s.data.toList with
    | nil => rfl
    | cons b t ih => rw [List.flatMap_cons, ih]; rfl
  rw [hst]
  exact HO4.out.1
theorem OwnL.from_ {α : Type} {f : α → List Value} {T : TypeId} {n : Nat} {w w0 w' : World} {v : Value} {L : List α} (h : OwnL f T n w0 v L w') (hE : Ext w w0) : OwnL f T n w v L w' := by
  refine ⟨hE.trans h.1, h.2.1, ?_⟩
  rcases h.2.2 with h | ⟨g, cap, cur, hv, hg, rest⟩
  · exact .inl h
  · exact .inr ⟨g, cap, cur, hv, Nat.le_trans hE.size hg, rest⟩
theorem idx2u (i : Int) (a b : Value) (w : World) (v : Value) (h1 : 0 ≤ i ∧ i < 2) (h2 : #[a, b][i.toNat]? = some v) : (Instr.index 142 (.agg #[a, b]) (.int .i64 i)).run Tryz.prog w = .ok v w := by
  have h : Tryz.prog.underlying 142 = some (.array 2 56) := by kernel_rfl
  simp [Instr.index, run_underlying h, asIntOf, h1, go_sem]
  have h3 : [a, b][i.toNat]? = some v := by simpa using h2
  exact (List.getElem?_eq_some_iff.1 h3).2
set_option maxHeartbeats 2000000 in
set_option maxRecDepth 100000 in
theorem sumVW (a : Option Addr) (l : List Int) (c : Nat) (hi lo : Int) (w : World) (h : BytesIn w a l c) (hl : l.length ≤ 80000) :
    Calls Tryz.prog 83 #[.slice a l.length c, .agg #[.int .u64 hi, .int .u64 lo]] w (BytesTold (l.length + 16) w) := by
  obtain ⟨-, hA, hc, ha⟩ := h
  have HA := Lib.hid (And.intro hA ha); clear hA ha
  obtain ⟨m, hm⟩ : ∃ m, l.length = m := ⟨_, rfl⟩
  rw [hm] at hl hc ⊢
  have HM := Lib.hid hm; clear hm
  go_enter Tryz.func83, Tryz.ntmps83
  go_upto_region 1 with fail
  obtain ⟨w1, hw1⟩ : ∃ w1, w.alloc (.cells #[.int .u64 hi, .int .u64 lo] 81) = w1 := ⟨_, rfl⟩
  have hE1 : Ext w w1 := by rw [← hw1]; exact (Ext.refl w).alloc _
  have hB1 : w1.heap[w.heap.size]? = some (.cells #[.int .u64 hi, .int .u64 lo] 81 (0, 0)) := by rw [← hw1]; exact heap_new w _
  rw [hw1]
  clear hw1
  go_cut [5] (fun v w' => OwnB w1 v l w')
  case first =>
    rcases HA.out.2 with ⟨rfl, rfl⟩ | ⟨g, off, rfl, hgb⟩
    · obtain rfl : m = 0 := by omega
      have hl0 : l = [] := List.eq_nil_of_length_eq_zero HM.out
      go_wp2
      go_meet
      rw [hl0]
      exact OwnL.empty (Ext.refl w1)
    · have hlen : ([] : List Int).length + l.length ≤ 100000 := by rw [HM.out, List.length_nil]; omega
      go_wp2_with (at_builtin; refine bytes_append rfl _ _ rfl w1 _ ([] : List Int) rfl (OwnL.empty (Ext.refl w1)) g off _ _ l HM.out.symm rfl (HA.out.1.ext (hE1.alloc _)) hlen ?_; intro v' w' hown hBw)
      go_meet
      exact hown
  case rest =>
    have HC := Lib.hid hcut
    have hBc := hcut.1.block hB1
    have c0 := blk_cell hBc (i := 0) rfl
    have c1 := blk_cell hBc (i := 1) rfl
    clear hcut hBc
    go_wp2_with fail
    go_loopw [5, 17] (fun v i w' => ∃ (k : Nat) (L : List Int), k ≤ 2 ∧ i = .int .i64 k ∧ OwnB w1 v L w' ∧ L.length ≤ m + 8 * k) (fun _ i _ => 2 - (intOf i).toNat)
    case atStart => exact ⟨0, l, by omega, rfl, HC.out, by rw [HM.out]; omega⟩
    case round =>
      obtain ⟨k, L, hk, rfl, hown, hLk⟩ := hrel
      have HO := Lib.hid hown; clear hown
      by_cases hlt : k < 2
      · obtain ⟨y, hy⟩ : ∃ y, #[Value.int .u64 hi, .int .u64 lo][k]? = some (.int .u64 y) := by
          rcases (by omega : k = 0 ∨ k = 1) with rfl | rfl <;> exact ⟨_, rfl⟩
        have hix := fun w => idx2u (k : Int) _ _ w _ (by omega) (by simpa using hy)
        clear hy
        have hk2i : (k : Int) < 2 := by omega
        go_wp2_with fail
        go_loopw [5, 20] (fun v i w' => ∃ (j : Nat) (M : List Int), j ≤ 8 ∧ i = .int .i64 j ∧ OwnB w1 v M w' ∧ M.length ≤ m + 8 * k + j) (fun _ i _ => 8 - (intOf i).toNat)
        case atStart => exact ⟨0, L, by omega, rfl, HO.out, by omega⟩
        case round =>
          obtain ⟨j, M, hj, rfl, hownM, hMk⟩ := hrel
          have HOM := Lib.hid hownM; clear hownM
          by_cases hlt8 : j < 8
          · have hj8i : (j : Int) < 8 := by omega
            have hM9 : M.length ≤ 90000 := by omega
            have h56 : (0 : Int) ≤ 56 - 8 * (j : Int) := by omega
            have w8 : IntKind.i64.wrap (8 * (j : Int)) = 8 * (j : Int) := IntWalk.i64_in _ (by omega)
            have w56 : IntKind.i64.wrap (56 - 8 * (j : Int)) = 56 - 8 * (j : Int) := IntWalk.i64_in _ (by omega)
            go_wp2_with (at_builtin; refine byte_append rfl _ _ rfl w1 _ M rfl (HOM.out.alloc _) _ _ 1 rfl (cells_at _ _ _ (by simp)) hM9 ?_; intro v' w4 hown' hE4; have HO4 := Lib.hid hown'; clear hown')
            go_roundw
            case rel => exact ⟨j + 1, _, by omega, by go_num, HO4.out, by rw [List.length_append, List.length_singleton]; omega⟩
            case measure => simp [intOf]; omega
          · obtain rfl : j = 8 := by omega
            go_wp2
            refine ⟨⟨k + 1, M, by omega, by go_num, HOM.out, by omega⟩, by simp [intOf]; omega⟩
      · obtain rfl : k = 2 := by omega
        go_wp2
        go_ret
        exact ⟨_, L, rfl, HO.out.from_ hE1, by omega⟩
end Go.Proofs.YtiopahkigbdmcaaGreat
/- A path's parent and its last name (layer 1), the program's side: the walks. -/
namespace Go.Proofs.YtiopahkigbdmcaaGreat
open Go Go.Proofs Go.RowKit

theorem last_bounds (s : ByteArray) (c : Int) : -1 ≤ Lib.lastIndexByte s c ∧ Lib.lastIndexByte s c < s.size := by
  rcases Lib.lastIndexByte_spec s c with h | ⟨i, hi, h, _⟩
  · rw [h.1]; omega
  · rw [h]; omega
def UpTold (p : ByteArray) (w : World) (e : Ending) (w' : World) : Prop := ∃ up ok, e = .returned (.tuple #[.string up, .bool ok]) ∧ up.size ≤ p.size ∧ (ok = true → up.size < p.size) ∧ Ext w w'
theorem up_told {p up : ByteArray} {ok : Bool} {w w' : World} (h1 : up.size ≤ p.size) (h2 : ok = true → up.size < p.size) (hE : Ext w w') : UpTold p w (.returned (.tuple #[.string up, .bool ok])) w' := ⟨up, ok, rfl, h1, h2, hE⟩
set_option maxHeartbeats 1000000 in
set_option maxRecDepth 100000 in
theorem parentPW (p : ByteArray) (w : World) (hp : p.size ≤ 1000) : Calls Tryz.prog 71 #[.string p] w (UpTold p w) := by
  have HRI := Lib.hid (fun w => rightP_any p w (by omega))
  have hL := fun w => Tryz.strings_LastIndexByte p 47 (by omega) w
  have hbd := last_bounds p 47
  obtain ⟨i, hi⟩ : ∃ i, Lib.lastIndexByte p 47 = i := ⟨_, rfl⟩
  rw [hi] at hL hbd
  have HL := Lib.hid hL; clear hL hi
  obtain ⟨r, hr⟩ : ∃ r, rightF (txt p) = r := ⟨_, rfl⟩
  rw [hr] at HRI
  clear hr
  by_cases hp0 : p.size = 0
  · have e0 := empty_is hp0
    go_enter Tryz.func71, Tryz.ntmps71
    go_wp2
    go_ret2
    exact up_told (up := ByteArray.empty) (Nat.zero_le _) (fun h => by cases h) (Ext.refl w)
  · have e0 := empty_not hp0
    go_enter Tryz.func71, Tryz.ntmps71
    go_wp2_with fail
    refine (HRI.out _).mono ?_
    rintro e w1 ⟨rfl, hE1⟩
    have HE1 := Lib.hid hE1; clear hE1
    cases r
    · go_wp2
      go_ret2
      exact up_told (up := ByteArray.empty) (Nat.zero_le _) (fun h => by cases h) HE1.out
    · go_wp2_with fail
      refine (HL.out _).mono ?_
      rintro e w2 ⟨rfl, rfl⟩
      by_cases hi0 : i < 0
      · have hm : max i 0 = 0 := by omega
        go_wp2
        go_ret2
        exact up_told (up := ByteArray.empty) (Nat.zero_le _) (fun _ => by show 0 < p.size; omega) HE1.out
      · have hm : max i 0 = i := by omega
        obtain ⟨k, rfl⟩ : ∃ k : Nat, i = k := ⟨i.toNat, by omega⟩
        have hz : (p.extract 0 k).size = k := by rw [ByteArray.size_extract]; omega
        go_wp2
        go_ret2
        exact up_told (up := p.extract 0 k) (by rw [hz]; omega) (fun _ => by rw [hz]; omega) HE1.out
set_option maxHeartbeats 1000000 in
set_option maxRecDepth 100000 in
theorem basePW (p : ByteArray) (w : World) (hp : p.size ≤ 1000) : Calls Tryz.prog 81 #[.string p] w (fun e w' => ∃ s, e = .returned (.string s) ∧ s.size ≤ p.size ∧ Ext w w') := by
  have HRI := Lib.hid (fun w => rightP_any p w (by omega))
  have hL := fun w => Tryz.strings_LastIndexByte p 47 (by omega) w
  have hbd := last_bounds p 47
  obtain ⟨i, hi⟩ : ∃ i, Lib.lastIndexByte p 47 = i := ⟨_, rfl⟩
  rw [hi] at hL hbd
  have HL := Lib.hid hL; clear hL hi
  obtain ⟨r, hr⟩ : ∃ r, rightF (txt p) = r := ⟨_, rfl⟩
  rw [hr] at HRI
  clear hr
  go_enter Tryz.func81, Tryz.ntmps81
  go_wp2_with fail
  refine (HRI.out _).mono ?_
  rintro e w1 ⟨rfl, hE1⟩
  have HE1 := Lib.hid hE1; clear hE1
  cases r
  · go_wp2
    go_ret
    exact ⟨ByteArray.empty, rfl, Nat.zero_le _, HE1.out⟩
  · go_wp2_with fail
    refine (HL.out _).mono ?_
    rintro e w2 ⟨rfl, rfl⟩
    obtain ⟨k, hk⟩ : ∃ k : Nat, i + 1 = k := ⟨(i + 1).toNat, by omega⟩
    have wk : IntKind.i64.wrap (i + 1) = (k : Int) := by rw [IntWalk.i64_in _ (by omega), hk]
    have hkp : k ≤ p.size := by omega
    clear hbd
    have hz : (p.extract k p.size).size ≤ p.size := by rw [ByteArray.size_extract]; omega
    go_wp2
    go_ret
    exact ⟨_, rfl, hz, HE1.out⟩
end Go.Proofs.YtiopahkigbdmcaaGreat
/- Maps with texts as keys: which map it is, exactly; what a look-up and a store do. -/
namespace Go.Proofs.YtiopahkigbdmcaaGreat
open Go Go.Proofs Go.RowKit

theorem str_key : Maps.Keyed Tryz.prog 9 := Maps.string_keyed (by kernel_rfl)
theorem key_of (s : ByteArray) (hs : s.size ≤ 100000) : keyOf Tryz.prog 9 (.string s) = some (.string s.data.toList) := WideMaps.keyOf_string_mk (by kernel_rfl) (by unfold maxLen; omega)
/-- Block b is the map F. -/
def MapIs (w : World) (b : Nat) (F : ByteArray → Option Value) : Prop := ∃ es clock, w.heap[b]? = some (.map es clock) ∧ (es.toList.map (·.key)).Nodup ∧
  (∀ e ∈ es.toList, ∃ s : ByteArray, s.size ≤ 100000 ∧ e.key = .string s ∧ F s = some e.val) ∧ ∀ s v, F s = some v → ∃ e ∈ es.toList, e.key = .string s
theorem MapIs.keys {es : Array MapEntry} {F : ByteArray → Option Value} (h : ∀ e ∈ es.toList, ∃ s : ByteArray, s.size ≤ 100000 ∧ e.key = .string s ∧ F s = some e.val) : ∀ e ∈ es.toList, ∃ l, keyOf Tryz.prog 9 e.key = some l := fun e he => by
  obtain ⟨s, hs, hk, _⟩ := h e he
  exact ⟨_, by rw [hk]; exact key_of s hs⟩
theorem MapIs.new (w : World) : MapIs (w.alloc (.map #[] 0)) w.heap.size (fun _ => none) := ⟨#[], 0, heap_new w _, by simp, fun e he => by simp at he, fun s v h => by cases h⟩
theorem MapIs.lt {w : World} {b : Nat} {F : ByteArray → Option Value} (h : MapIs w b F) : b < w.heap.size := by
  obtain ⟨es, clock, hb, _⟩ := h
  exact blk_lt hb
theorem MapIs.at_ {w w' : World} {b : Nat} {F : ByteArray → Option Value} (h : MapIs w b F) (hb : w'.heap[b]? = w.heap[b]?) : MapIs w' b F := by
  obtain ⟨es, clock, h1, h2⟩ := h
  exact ⟨es, clock, hb.trans h1, h2⟩
theorem MapIs.ext {w w' : World} {b : Nat} {F : ByteArray → Option Value} (h : MapIs w b F) (hE : Ext w w') : MapIs w' b F := h.at_ (Below.block hE b h.lt)
set_option maxRecDepth 100000 in
theorem MapIs.look {w : World} {b : Nat} {F : ByteArray → Option Value} (h : MapIs w b F) (c : Bool) {t e : TypeId} (ht : Tryz.prog.underlying t = some (.map 9 e)) {z : Value} (hz : ∀ w, (zeroValue e).run Tryz.prog w = .ok z w) (s : ByteArray) (hs : s.size ≤ 100000) :
    (Instr.lookup t (.map (some b)) (.string s) c).run Tryz.prog w = .ok (if c then .tuple #[(F s).getD z, .bool (F s).isSome] else (F s).getD z) w := by
  obtain ⟨es, clock, hb, hnd, hall, hall'⟩ := h
  have g := MapKept.run_getObj_map (P := Tryz.prog) hb
  have ck := str_key.check w es.isEmpty (key_of s hs)
  rcases str_key.find w (key_of s hs) es.toList (MapIs.keys hall) with ⟨h1, h2⟩ | ⟨j, x, h1, h2, h3⟩
  · have hF : F s = none := by
      cases hf : F s with
      | none => rfl
      | some v => obtain ⟨e, he, hk⟩ := hall' s v hf; exact absurd hk (h2 e he)
    rw [hF]
    unfold Instr.lookup
    simp [run_underlying ht, g, ck, h1, hz, Result.andThen]
  · obtain ⟨s', _, hk, hv⟩ := hall x (List.mem_of_getElem? h2)
    have hss : s' = s := by rw [h3] at hk; injection hk with hk; exact hk.symm
    subst hss
    rw [hv]
    unfold Instr.lookup
    simp [run_underlying ht, g, ck, h1, Result.andThen]
set_option maxRecDepth 100000 in
theorem MapIs.put {w : World} {b : Nat} {F : ByteArray → Option Value} (h : MapIs w b F) {t e : TypeId} (ht : Tryz.prog.underlying t = some (.map 9 e)) (s : ByteArray) (hs : s.size ≤ 100000) (v : Value) :
    ∃ o, (Instr.mapUpdate t (.map (some b)) (.string s) v).run Tryz.prog w = .ok () (putBlk w b o) ∧ MapIs (putBlk w b o) b (fun s' => if s' = s then some v else F s') := by
  obtain ⟨es, clock, hb, hnd, hall, hall'⟩ := h
  have g := MapKept.run_getObj_map (P := Tryz.prog) hb
  have ck := str_key.check w false (key_of s hs)
  have hlt := blk_lt hb
  rcases str_key.find w (key_of s hs) es.toList (MapIs.keys hall) with ⟨h1, hno⟩ | ⟨j, x, h1, h2, h3⟩
  · refine ⟨.map (es.push ⟨.string s, v, clock⟩) (clock + 1), ?_, _, _, putBlk_same _ hlt, ?_, fun y hy => ?_, fun s' v' hv' => ?_⟩
    · unfold Instr.mapUpdate
      simp [run_underlying ht, g, ck, h1, MapKept.run_setObj_map _ hb, Result.andThen, putBlk]
    · rw [Array.toList_push, List.map_append, List.nodup_append]
      refine ⟨hnd, by simp, fun a ha c hc => ?_⟩
      obtain ⟨y, hy, rfl⟩ := List.mem_map.1 ha
      simp only [List.map_cons, List.map_nil, List.mem_singleton] at hc
      rw [hc]
      exact hno y hy
    · rw [Array.toList_push, List.mem_append, List.mem_singleton] at hy
      rcases hy with hy | rfl
      · obtain ⟨s1, h4, h5, h6⟩ := hall y hy
        have hne : s1 ≠ s := fun e => hno y hy (by rw [h5, e])
        exact ⟨s1, h4, h5, (if_neg hne).trans h6⟩
      · exact ⟨s, hs, rfl, if_pos rfl⟩
    · rw [Array.toList_push]
      by_cases hss : s' = s
      · exact ⟨_, List.mem_append.2 (Or.inr (List.mem_singleton.2 rfl)), by rw [hss]⟩
      · have hv' : F s' = some v' := (if_neg hss).symm.trans hv'
        obtain ⟨y, hy, hk⟩ := hall' s' v' hv'
        exact ⟨y, List.mem_append.2 (Or.inl hy), hk⟩
  · have hj : es[j]? = some x := by simpa using h2
    have hjl : j < es.toList.length := (List.getElem?_eq_some_iff.1 h2).1
    have hkeys : (es.modify j fun y => { y with key := .string s, val := v }).toList.map (·.key) = es.toList.map (·.key) := by
      apply List.ext_getElem
      · simp
      · intro i hi1 hi2
        rw [List.getElem_map, List.getElem_map]
        simp only [Array.toList_modify, List.getElem_modify]
        split
        · rename_i hji
          subst hji
          have := (List.getElem?_eq_some_iff.1 h2).2
          rw [this, h3]
        · rfl
    refine ⟨.map (es.modify j fun y => { y with key := .string s, val := v }) clock, ?_, _, _, putBlk_same _ hlt, by rw [hkeys]; exact hnd, fun y hy => ?_, fun s' v' hv' => ?_⟩
    · unfold Instr.mapUpdate
      simp [run_underlying ht, g, ck, h1, hj, h3, str_key.stays w (key_of s hs), MapKept.run_setObj_map _ hb, Result.andThen, putBlk]
    · rw [Array.toList_modify] at hy
      obtain ⟨i, hi, rfl⟩ := List.getElem_of_mem hy
      rw [List.length_modify] at hi
      rw [List.getElem_modify]
      split
      · exact ⟨s, hs, rfl, if_pos rfl⟩
      · rename_i hji
        obtain ⟨s1, h4, h5, h6⟩ := hall _ (List.getElem_mem hi)
        have hne : s1 ≠ s := fun e => by
          apply hji
          have e1 : (es.toList.map (·.key))[j]'(by simpa using hjl) = (es.toList.map (·.key))[i]'(by simpa using hi) := by
            rw [List.getElem_map, List.getElem_map, h5, (List.getElem?_eq_some_iff.1 h2).2, h3, e]
          exact (List.getElem_inj hnd).1 e1
        exact ⟨s1, h4, h5, (if_neg hne).trans h6⟩
    · have hmem : ∀ k, k ∈ es.toList.map (·.key) → ∃ y ∈ (es.modify j fun y => { y with key := .string s, val := v }).toList, y.key = k := fun k hk => by
        rw [← hkeys] at hk
        obtain ⟨y, hy, rfl⟩ := List.mem_map.1 hk
        exact ⟨y, hy, rfl⟩
      apply hmem
      by_cases hss : s' = s
      · rw [hss, ← h3]; exact List.mem_map_of_mem (List.mem_of_getElem? h2)
      · have hv' : F s' = some v' := (if_neg hss).symm.trans hv'
        obtain ⟨y, hy, hk⟩ := hall' s' v' hv'
        rw [← hk]; exact List.mem_map_of_mem hy
theorem wpList_lookup_is {ops : Array Oper} {rest : List Oper} {o : Oper} {a : Act} {Q : Exit → Act → World → Prop} {w : World} (hg : o.guard = none) (m x : Operand) (t : TypeId) (c : Bool) (hop : o.op = Op.lookup t m x c)
    (e : TypeId) (ht : Tryz.prog.underlying t = some (.map 9 e)) (z : Value) (hz : ∀ w, (zeroValue e).run Tryz.prog w = .ok z w) (b : Nat) (F : ByteArray → Option Value) (hm : a.eval m = .map (some b)) (hF : MapIs w b F)
    (s : ByteArray) (hx : a.eval x = .string s) (hs : s.size ≤ 100000)
    (hK : wpList Tryz.prog ops Q rest (a.put o.dst (if c then .tuple #[(F s).getD z, .bool (F s).isSome] else (F s).getD z)) w) : wpList Tryz.prog ops Q (o :: rest) a w := by
  refine wpList_plain hg fun K' hK' => ?_
  have hrun := hF.look c ht hz s hs
  have hk := hK' _ _ hK
  unfold Oper.wp
  simp [execOp, hop, hm, hx, hrun, Result.andThen]
  exact hk
theorem wpList_update_is {ops : Array Oper} {rest : List Oper} {o : Oper} {a : Act} {Q : Exit → Act → World → Prop} {w : World} (hg : o.guard = none) (m x v : Operand) (t : TypeId) (hop : o.op = Op.mapUpdate t m x v)
    (e : TypeId) (ht : Tryz.prog.underlying t = some (.map 9 e)) (b : Nat) (F : ByteArray → Option Value) (hm : a.eval m = .map (some b)) (hF : MapIs w b F)
    (s : ByteArray) (hx : a.eval x = .string s) (hs : s.size ≤ 100000) (val : Value) (hv : a.eval v = val)
    (hK : ∀ o', MapIs (putBlk w b o') b (fun s' => if s' = s then some val else F s') → wpList Tryz.prog ops Q rest (a.put o.dst undef) (putBlk w b o')) : wpList Tryz.prog ops Q (o :: rest) a w := by
  refine wpList_plain hg fun K' hK' => ?_
  obtain ⟨o', hrun, h1⟩ := hF.put ht s hs val
  have hk := hK' _ _ (hK o' h1)
  unfold Oper.wp
  simp [execOp, hop, hm, hx, hv, hrun, Result.andThen]
  exact hk
end Go.Proofs.YtiopahkigbdmcaaGreat
/- The prints' tables (layer 21): the walk of merkle.open. -/
namespace Go.Proofs.YtiopahkigbdmcaaGreat
open Go Go.Proofs Go.RowKit

/-- What a table of kids holds: rows of their own, each at its parent. -/
def KidsF (base : Nat) (w : World) (L : List NodeV) (m : Nat) (F : ByteArray → Option Value) : Prop :=
  (∀ s v, F s = some v → ∃ K : List NodeV, w.ownsRow base 42 5 v K.length (K.flatMap NodeV.cells) ∧ K.length ≤ m ∧ 0 < K.length ∧ ∀ x ∈ K, x ∈ L ∧ s.size < x.path.size) ∧
  ∀ s s' v v', s ≠ s' → F s = some v → F s' = some v' → v.ownBlock ≠ v'.ownBlock
theorem KidsF.ext {base : Nat} {w w' : World} {L : List NodeV} {m : Nat} {F : ByteArray → Option Value} (h : KidsF base w L m F) (hE : Ext w w') : KidsF base w' L m F :=
  ⟨fun s v hv => by obtain ⟨K, h1, h2⟩ := h.1 s v hv; exact ⟨K, own_ext h1 hE, h2⟩, h.2⟩
theorem KidsF.mono {base : Nat} {w : World} {L : List NodeV} {m m' : Nat} {F : ByteArray → Option Value} (h : KidsF base w L m F) (hm : m ≤ m') : KidsF base w L m' F :=
  ⟨fun s v hv => by obtain ⟨K, h1, h2, h3⟩ := h.1 s v hv; exact ⟨K, h1, Nat.le_trans h2 hm, h3⟩, h.2⟩
theorem KidsF.off {base b : Nat} {w w' : World} {L : List NodeV} {m : Nat} {F : ByteArray → Option Value} (h : KidsF base w L m F) (hg : w.grownBy w' (some b)) (hb : b < base) : KidsF base w' L m F :=
  ⟨fun s v hv => by
    obtain ⟨K, h1, h2⟩ := h.1 s v hv
    refine ⟨K, h1.kept hg ?_, h2⟩
    cases hv : v.ownBlock with
    | none => exact Or.inl rfl
    | some g => right; intro e; injection e with e; have := (h1.lt g hv).1; omega, h.2⟩
theorem grown_put (b : Nat) (w : World) (o : Obj) : w.grownBy (putBlk w b o) (some b) := ⟨rfl, rfl, rfl, by rw [putBlk_size]; exact Nat.le_refl _, fun k _ hne => putBlk_other w o (fun e => hne (by rw [e]))⟩
def Grown (row : Option Nat) (x y : World) : Prop := x.grownBy y row
theorem Grown.refl (row : Option Nat) (x : World) : Grown row x x := ⟨rfl, rfl, rfl, Nat.le_refl _, fun _ _ _ => rfl⟩
theorem Grown.trans {row : Option Nat} {x y z : World} (h : Grown row x y) (k : Grown row y z) : Grown row x z := World.grownBy.trans h k
theorem Grown.of_ext {row : Option Nat} {x y : World} (h : Ext x y) : Grown row x y := ⟨h.os, h.tape, h.output, h.size, fun k hk _ => Below.block h k hk⟩
theorem Grown.block {row : Option Nat} {x y : World} (h : Grown row x y) {b : Nat} {o : Obj} (hb : x.heap[b]? = some o) (hne : some b ≠ row) : y.heap[b]? = some o := (World.grownBy.block h b (blk_lt hb) hne).trans hb
theorem Grown.map {row : Option Nat} {x y : World} (h : Grown row x y) {b : Nat} {F : ByteArray → Option Value} (hF : MapIs x b F) (hne : some b ≠ row) : MapIs y b F := hF.at_ (World.grownBy.block h b hF.lt hne)
theorem Grown.ext {row : Option Nat} {w x y : World} (h : Grown row x y) (hE : Ext w x) (hr : ∀ g, row = some g → w.heap.size ≤ g) : Ext w y :=
  ⟨h.os.trans hE.os, h.tape.trans hE.tape, h.output.trans hE.output, Nat.le_trans hE.size h.size, fun k hk => (World.grownBy.block h k (Nat.lt_of_lt_of_le hk hE.size) (fun e => by have := hr k e.symm; omega)).trans (Below.block hE k hk)⟩
/-- The nodes of a value, which is a row of the call's own, or nil. -/
theorem kids_at {base : Nat} {w : World} {L : List NodeV} {m : Nat} {F : ByteArray → Option Value} (h : KidsF base w L m F) (s : ByteArray) : ∃ K : List NodeV, w.ownsRow base 42 5 ((F s).getD (.slice none 0 0)) K.length (K.flatMap NodeV.cells) ∧ K.length ≤ m ∧ ∀ x ∈ K, x ∈ L ∧ s.size < x.path.size := by
  cases hF : F s with
  | none => exact ⟨[], World.ownsRow_nil _ _ _ _, Nat.zero_le _, fun x hx => by simp at hx⟩
  | some v => obtain ⟨K, h1, h2, _, h3⟩ := h.1 s v hF; exact ⟨K, h1, h2, h3⟩
theorem KidsF.put {base : Nat} {w w' : World} {L : List NodeV} {m : Nat} {F : ByteArray → Option Value} (h : KidsF base w L m F) (s : ByteArray) (v' : Value) (K : List NodeV) (x : NodeV)
    (hown : w'.ownsRow base 42 5 v' (K.length + 1) ((K ++ [x]).flatMap NodeV.cells)) (hg : Grown ((F s).getD (.slice none 0 0)).ownBlock w w') (hat : v'.ownBlock = ((F s).getD (.slice none 0 0)).ownBlock ∨ v'.ownBlock = some w.heap.size)
    (hK : K.length ≤ m) (hKm : ∀ y ∈ K, y ∈ L ∧ s.size < y.path.size) (hx : x ∈ L ∧ s.size < x.path.size) : KidsF base w' L (m + 1) (fun s' => if s' = s then some v' else F s') := by
  have hsome : ∀ s1 v1, F s1 = some v1 → ∃ g, v1.ownBlock = some g ∧ g < w.heap.size := fun s1 v1 h1 => by
    obtain ⟨K1, hr, _, h0, _⟩ := h.1 s1 v1 h1
    obtain ⟨_, ⟨rfl, hz⟩ | ⟨g, cap, cur, rfl, _, hb, _⟩⟩ := hr
    · omega
    · exact ⟨g, rfl, blk_lt hb⟩
  have hoth : ∀ s1 v1, s1 ≠ s → F s1 = some v1 → v1.ownBlock ≠ ((F s).getD (.slice none 0 0)).ownBlock := fun s1 v1 hne h1 => by
    cases hF : F s with
    | none =>
      obtain ⟨g, hg1, _⟩ := hsome s1 v1 h1
      rw [hg1]
      intro e
      cases e
    | some v => exact h.2 s1 s v1 v hne h1 hF
  have hnew : ∀ s1 v1, s1 ≠ s → F s1 = some v1 → v1.ownBlock ≠ v'.ownBlock := fun s1 v1 hne h1 => by
    rcases hat with e | e
    · rw [e]; exact hoth s1 v1 hne h1
    · obtain ⟨g, hg1, hg2⟩ := hsome s1 v1 h1
      rw [hg1, e]
      intro e
      injection e with e
      omega
  constructor
  · intro s1 v1 h1
    by_cases hs : s1 = s
    · have h1 : v' = v1 := by have := (if_pos hs).symm.trans h1; exact Option.some.inj this
      subst h1 hs
      exact ⟨K ++ [x], by rw [List.length_append]; exact hown, by rw [List.length_append, List.length_singleton]; omega, by simp, fun y hy => by
        rw [List.mem_append, List.mem_singleton] at hy
        rcases hy with hy | rfl
        · exact hKm y hy
        · exact hx⟩
    · have h1 : F s1 = some v1 := (if_neg hs).symm.trans h1
      obtain ⟨K1, hr, hk, h0, hm⟩ := h.1 s1 v1 h1
      exact ⟨K1, hr.kept hg (Or.inr (hoth s1 v1 hs h1)), by omega, h0, hm⟩
  · intro s1 s2 v1 v2 hne h1 h2
    by_cases hs1 : s1 = s
    · have h1 : v' = v1 := by have := (if_pos hs1).symm.trans h1; exact Option.some.inj this
      have hs2 : s2 ≠ s := fun e => hne (hs1.trans e.symm)
      have h2 : F s2 = some v2 := (if_neg hs2).symm.trans h2
      rw [← h1]
      exact fun e => hnew s2 v2 hs2 h2 e.symm
    · have h1 : F s1 = some v1 := (if_neg hs1).symm.trans h1
      by_cases hs2 : s2 = s
      · have h2 : v' = v2 := by have := (if_pos hs2).symm.trans h2; exact Option.some.inj this
        rw [← h2]
        exact hnew s1 v1 hs1 h1
      · exact h.2 s1 s2 v1 v2 hne h1 ((if_neg hs2).symm.trans h2)
/-- A printer in memory. -/
def PrintAt (base : Nat) (L : List NodeV) (pb kb mb : Nat) (w : World) : Prop := w.heap[pb]? = some (.cells #[.map (some kb), .map (some mb)] 113 (0, 0)) ∧
  (∃ F, MapIs w kb F ∧ KidsF base w L 40 F) ∧ (∃ G, MapIs w mb G ∧ ∀ s v, G s = some v → ∃ h l : Int, v = .agg #[.int .u64 h, .int .u64 l]) ∧ pb < base ∧ kb < base ∧ mb < base ∧ kb ≠ mb ∧ pb ≠ mb ∧ pb ≠ kb
def OpenPTold (L : List NodeV) (w : World) (e : Ending) (w' : World) : Prop := ∃ base pb kb mb, e = .returned (.pointer (some ⟨pb, 0, none⟩)) ∧ Ext w w' ∧ PrintAt base L pb kb mb w' ∧ w.heap.size ≤ mb ∧ base ≤ w'.heap.size
theorem grown_ad (row : Option Nat) (w : World) (o : Obj) : Grown row w.drew (w.alloc o).drew := Grown.of_ext (below_ad w o)
theorem node_append_at {ops : Array Oper} {rest : List Oper} {o : Oper} {a : Act} {Q : Exit → Act → World → Prop} {w : World} (hgd : o.guard = none) (s x : Operand)
    (ho : o.op = .call { callee := .builtin .append, args := #[s, x], argTypes := #[22, 22] })
    (base : Nat) (v : Value) (K : List NodeV) (hs : a.eval s = v) (hown : w.ownsRow base 42 5 v K.length (K.flatMap NodeV.cells))
    (y : NodeV) (g c : Nat) (hx : a.eval x = .slice (some ⟨g, 0, none⟩) 1 c) (hM : ∀ j u, y.cells[j]? = some u → w.cell? ((⟨g, 0, none⟩ : Addr).add j) = some u) (h63 : K.length ≤ 90000) (hbase : base ≤ w.heap.size)
    (h : ∀ v' w', w'.ownsRow base 42 5 v' (K.length + 1) ((K ++ [y]).flatMap NodeV.cells) → Grown v.ownBlock w w' → (v'.ownBlock = v.ownBlock ∨ v'.ownBlock = some w.heap.size) → wpList Tryz.prog ops Q rest (a.put o.dst v') w') : wpList Tryz.prog ops Q (o :: rest) a w := by
  obtain ⟨i, h1, h2, h3, h4⟩ := node_info
  refine wpList_append_own_at _ hgd s x 22 ho base 42 i nodeZ 5 56 (by kernel_rfl) h1 h2 h3 h4 rfl (by decide) v K.length (K.flatMap NodeV.cells) hs hown ⟨g, 0, none⟩ 1 c y.cells hx rfl hM y.one (by unfold maxLen; omega) (by omega) hbase ?_
  intro v' w' hown' hg _ hat
  exact h v' w' (by rw [List.flatMap_append, List.flatMap_cons, List.flatMap_nil, List.append_nil]; exact hown') hg hat
set_option maxHeartbeats 4000000 in
set_option maxRecDepth 100000 in
theorem openW (a : Option Addr) (L : List NodeV) (c : Nat) (w : World) (hL : SmallL L) (h40 : L.length ≤ 40) (hA : NodesAt w a L) :
    Calls Tryz.prog 64 #[.slice a L.length c] w (OpenPTold L w) := by
  have HA := Lib.hid hA; clear hA
  have HLL := Lib.hid hL.2
  have hl := hL.1; clear hL
  obtain ⟨n, hn⟩ : ∃ n, L.length = n := ⟨_, rfl⟩
  rw [hn] at hl h40 ⊢
  have HN := Lib.hid hn; clear hn
  have hmm := @run_makeMap Tryz.prog
  go_enter Tryz.func64, Tryz.ntmps64
  go_wp2
  obtain ⟨wl, hwl⟩ : ∃ wl, ((w.alloc (.map #[] 0)).alloc (.map #[] 0)).alloc (.cells #[.map (some w.heap.size), .map (some (w.heap.size + 1))] 113) = wl := ⟨_, rfl⟩
  have hEl : Ext w wl := by rw [← hwl]; exact (((Ext.refl w).alloc _).alloc _).alloc _
  have hk0 : MapIs wl w.heap.size (fun _ => none) := by
    rw [← hwl]; exact ((MapIs.new w).ext ((Ext.refl _).alloc _)).ext ((Ext.refl _).alloc _)
  have hm0 : MapIs wl (w.heap.size + 1) (fun _ => none) := by
    have h := (MapIs.new (w.alloc (.map #[] 0))).ext ((Ext.refl _).alloc (.cells #[.map (some w.heap.size), .map (some (w.heap.size + 1))] 113))
    rw [World.size_alloc] at h
    rw [← hwl]; exact h
  have hp0 : wl.heap[w.heap.size + 1 + 1]? = some (.cells #[.map (some w.heap.size), .map (some (w.heap.size + 1))] 113 (0, 0)) := by rw [← hwl]; exact heap_at _ _ (by simp)
  have hlz : w.heap.size + 3 ≤ wl.heap.size := by have := blk_lt hp0; omega
  rw [hwl]
  clear hwl
  have H0 := Lib.hid (And.intro hEl (And.intro hk0 (And.intro hm0 hp0))); clear hEl hk0 hm0 hp0
  go_loopw [14] (fun i w' => ∃ (k : Nat) (F : ByteArray → Option Value), k ≤ n ∧ i = .int .i64 k ∧ MapIs w' w.heap.size F ∧ KidsF (w.heap.size + 3) w' L k F ∧ MapIs w' (w.heap.size + 1) (fun _ => none) ∧ w'.heap[w.heap.size + 1 + 1]? = some (.cells #[.map (some w.heap.size), .map (some (w.heap.size + 1))] 113 (0, 0)) ∧ Ext w w') (fun i _ => n - (intOf i).toNat)
  case atStart => exact ⟨0, _, Nat.zero_le _, rfl, H0.out.2.1, ⟨(fun s v h => by cases h), (fun s s' v v' _ h => by cases h)⟩, H0.out.2.2.1, H0.out.2.2.2, H0.out.1⟩
  case round =>
    obtain ⟨k, F, hk, rfl, hF, hKF, hM, hP, hE⟩ := hrel
    have hpl := blk_lt hP
    have HR := Lib.hid (And.intro hF (And.intro hKF (And.intro hM (And.intro hP hE)))); clear hF hKF hM hP hE
    by_cases hlt : k < n
    · have hkl : k < L.length := by rw [HN.out]; exact hlt
      have hmem := List.getElem_mem hkl
      obtain ⟨bl, off, rfl, hb, c0, c1, c2, c3, c4⟩ := NodesAt.node (HA.out.ext HR.out.2.2.2.2) hkl
      obtain ⟨x, hx⟩ : ∃ x, L[k] = x := ⟨_, rfl⟩
      rw [hx] at c0 c1 c2 c3 c4 hmem
      have HX := Lib.hid hmem
      have hxz := (HLL.out x hmem).1
      clear hx hmem
      have HPa := Lib.hid (fun w' => parentPW x.path w' hxz)
      go_wp2_with fail
      refine (HPa.out _).mono ?_
      rintro e w2 ⟨up, ok, rfl, hup1, hup2, hE2⟩
      obtain ⟨d0, d1, d2, d3, d4⟩ := node_new x hE2
      have hNB : w2.heap[wr.heap.size]? = some (.cells #[.string x.path, .int .i64 x.kind, .int .i64 x.mode, .int .i64 x.time, .string x.data] 42 (0, 0)) := hE2.block (heap_at wr _ rfl)
      have HNB := Lib.hid hNB; clear hNB
      have hE2 := Ext.trans ((Ext.refl wr).alloc _) hE2
      have HE2 := Lib.hid hE2; clear hE2
      cases ok
      · go_wp2
        refine ⟨⟨k + 1, F, by omega, by go_num, HR.out.1.ext HE2.out, (HR.out.2.1.ext HE2.out).mono (by omega), HR.out.2.2.1.ext HE2.out, HE2.out.block HR.out.2.2.2.1, HR.out.2.2.2.2.trans HE2.out⟩, by simp [intOf]; omega⟩
      · obtain ⟨v0, hv0⟩ : ∃ v0, (F up).getD (.slice none 0 0) = v0 := ⟨_, rfl⟩
        obtain ⟨K, hrow, hKk, hKm⟩ := kids_at (HR.out.2.1.ext HE2.out) up
        rw [hv0] at hrow
        have hlt0 := hrow.lt
        obtain ⟨K', hrow', -, -⟩ := kids_at HR.out.2.1 up
        rw [hv0] at hrow'
        have hlt1 := hrow'.lt
        have nkb : some w.heap.size ≠ v0.ownBlock := fun e => by have := (hlt0 _ e.symm).1; omega
        have nmb : some (w.heap.size + 1) ≠ v0.ownBlock := fun e => by have := (hlt0 _ e.symm).1; omega
        have npb : some (w.heap.size + 1 + 1) ≠ v0.ownBlock := fun e => by have := (hlt0 _ e.symm).1; omega
        have nnb : some wr.heap.size ≠ v0.ownBlock := fun e => by have := (hlt1 _ e.symm).2; omega
        have hgr : ∀ g, v0.ownBlock = some g → w.heap.size ≤ g := fun g e => by have := (hlt0 _ e).1; omega
        have HN0 := Lib.hid (And.intro nkb (And.intro nmb (And.intro npb (And.intro nnb hgr)))); clear nkb nmb npb nnb hgr hlt0 hlt1 hrow'
        have HRow := Lib.hid (And.intro hrow (And.intro hKk hKm)); clear hrow hKk hKm
        have ht : Tryz.prog.underlying 110 = some (.map 9 22) := by kernel_rfl
        have hz : ∀ w, (zeroValue 22).run Tryz.prog w = .ok (.slice none 0 0) w := fun w => by kernel_rfl
        have hups : up.size ≤ 100000 := by omega
        have HLk := Lib.hid (fun w1 (h : MapIs w1 w.heap.size F) => by have := h.look false ht hz up hups; simp only [Bool.false_eq_true, if_false, hv0] at this; exact this)
        have hF2 := HR.out.1.ext HE2.out
        have hP2 := HE2.out.block HR.out.2.2.2.1
        have H2 := Lib.hid (And.intro hF2 hP2); clear hF2 hP2
        go_wp2
        refine wp_draw_stages 41 14 [] [([true, true, true, true, true, true, true, true, true, true, true, true], 12), ([], 13)] (Grown (v0.ownBlock)) (Grown.refl (v0.ownBlock)) (fun _ _ _ => Grown.trans) (by kernel_rfl) (by kernel_rfl) ?_
        apply wpStages_cons (by simp)
        · intro w1 hw1
          simp only [sel_true, sel_nil]
          have e0 := blk_cell (Grown.block hw1 (blk_drew H2.out.2) HN0.out.2.2.1) (i := 0) rfl; have hlk := HLk.out w1 (Grown.map hw1 H2.out.1 HN0.out.1); have nbk := Grown.block hw1 (blk_drew HNB.out) HN0.out.2.2.2.1; have n0 := blk_cell nbk (i := 0) rfl; have n1 := blk_cell nbk (i := 1) rfl; have n2 := blk_cell nbk (i := 2) rfl; have n3 := blk_cell nbk (i := 3) rfl; have n4 := blk_cell nbk (i := 4) rfl
          repeat ((with_reducible refine wpStill_step (fun K hK => ?_)); go_simp; refine hK _ ?_; clear hK K)
          exact wpStill_nil rfl
        try simp only [List.getD_cons_succ, List.getD_cons_zero]
        go_wp2_with fail
        refine ⟨grown_ad _ w2 _, ?_⟩
        apply wpStages_cons (by simp)
        · intro w1 hw1
          simp only [sel_nil]
          repeat ((with_reducible refine wpStill_step (fun K hK => ?_)); go_simp; refine hK _ ?_; clear hK K)
          exact wpStill_nil rfl
        try simp only [List.getD_cons_succ, List.getD_cons_zero]
        go_wp2_with (at_builtin; refine node_append_at rfl _ _ rfl (w.heap.size + 3) _ K rfl (HRow.out.1.alloc _) x _ 1 rfl (cells_at _ _ _ (by simp)) (by have := HRow.out.2.1; omega) (by have := HE2.out.size; have := HR.out.2.2.2.2.size; simp; omega) ?_; intro v' w4 hown' hgrow hat; have H4 := Lib.hid (And.intro hown' (And.intro hgrow hat)); clear hown' hgrow hat)
        refine ⟨H4.out.2.1, ?_⟩
        have hG4 : Grown v0.ownBlock w2 w4 := Grown.trans (Grown.of_ext ((Ext.refl w2).alloc _).drew) H4.out.2.1
        have HG4 := Lib.hid hG4; clear hG4
        have HF4 := Lib.hid (HG4.out.map H2.out.1 HN0.out.1)
        simp only [Act.put, List.setIfInBounds_toArray, List.set_cons_succ, List.set_cons_zero]
        refine wpStages_nil ?_
        simp only [sel_nil]
        repeat ((with_reducible refine wpStill_step (fun K hK => ?_)); go_simp; refine hK _ ?_; clear hK K)
        refine wpStill_nil ?_
        try simp only [List.drop_succ_cons, List.drop_zero]
        go_wp2_with (refine wpList_update_is rfl _ _ _ 110 rfl _ ht w.heap.size F rfl HF4.out up rfl hups v' rfl ?_; intro o' hm'; have HM' := Lib.hid hm'; clear hm')
        have hput := KidsF.put (((HR.out.2.1.ext HE2.out).ext ((Ext.refl w2).alloc (.cells #[.string x.path, .int .i64 x.kind, .int .i64 x.mode, .int .i64 x.time, .string x.data] 42))).ext (Ext.refl _).drew) up v' K x H4.out.1 (by rw [hv0]; exact H4.out.2.1) (by rw [hv0]; exact H4.out.2.2) HRow.out.2.1 HRow.out.2.2 ⟨HX.out, hup2 (by simp)⟩
        have hgp : Grown (some w.heap.size) w4 (putBlk w4 w.heap.size o') := grown_put _ _ _
        have hE4 : Ext w w4 := HG4.out.ext (HR.out.2.2.2.2.trans HE2.out) HN0.out.2.2.2.2
        refine ⟨⟨k + 1, _, by omega, by go_num, HM'.out, hput.off hgp (by omega), hgp.map (HG4.out.map (HR.out.2.2.1.ext HE2.out) HN0.out.2.1) (by simp), hgp.block (HG4.out.block H2.out.2 HN0.out.2.2.1) (by simp; omega), hE4.putNew (Nat.le_refl _) _⟩, by simp [intOf]; omega⟩
    · obtain rfl : k = n := by omega
      go_wp2
      go_ret
      refine ⟨w.heap.size + 3, w.heap.size + 1 + 1, w.heap.size, w.heap.size + 1, rfl, HR.out.2.2.2.2, ⟨HR.out.2.2.2.1, ⟨F, HR.out.1, HR.out.2.1.mono (by omega)⟩, ⟨_, HR.out.2.2.1, fun s v h => by cases h⟩, by omega, by omega, by omega, by omega, by omega, by omega⟩, by omega, by have := blk_lt HR.out.2.2.2.1; omega⟩
end Go.Proofs.YtiopahkigbdmcaaGreat
