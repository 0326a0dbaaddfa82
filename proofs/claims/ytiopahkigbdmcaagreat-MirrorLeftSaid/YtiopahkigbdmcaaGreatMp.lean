/- The mirror at a place (layer 14): the walk, way by way. -/
import Derived.Test.YtiopahkigbdmcaaGreatMo
namespace Go.Proofs.YtiopahkigbdmcaaGreat
open Go Go.Proofs Go.RowKit

def cellV (c : NodeV × Bool) : Value := .agg #[.string c.1.path, .int .i64 c.1.kind, .int .i64 c.1.mode, .int .i64 c.1.time, .string c.1.data, .bool c.2]
theorem one_told {w w2 : World} (x : NodeV) (o : Bool) (hE : Ext w w2) : CellsTold [(x, o)] w (.returned (.slice (some ⟨w2.heap.size, 0, none⟩) 1 1)) (w2.alloc (.cells #[.string x.path, .int .i64 x.kind, .int .i64 x.mode, .int .i64 x.time, .string x.data, .bool o] 65)) :=
  ⟨_, 1, rfl, hE.alloc _, Or.inr ⟨_, 0, _, (_, _), rfl, heap_at _ _ rfl, one_cells x o⟩, Nat.le_refl _⟩
section
variable (jb : Nat) (s d : List NodeV) (rs : Rules) (del : Bool)
set_option maxRecDepth 100000 in
set_option maxHeartbeats 4000000 in
theorem at_outW (sx dx : NodeV) (w : World) (hSs : Sides' rs s d) (hJ : JobAt w jb s d rs del) (sent : Bool) (hdx : dx ∈ d) (ho : outF rs dx = true) : Calls Tryz.prog 55 #[.pointer (some ⟨jb, 0, none⟩), sx.val, .bool sent, dx.val, .bool true] w (CellsTold (theirsL (subF d (nm dx))) w) := by
  have hdp := (hSs.dsm.2 dx hdx).1
  obtain ⟨bs, bd, ta, tc, ra, rc, hjb, hBs, hBd, hTa, hRa⟩ := hJ.mem
  have hjl := hJ.lt
  have hj2 := heap_before (w.alloc (nodeObj sx)) (nodeObj dx) (heap_before w (nodeObj sx) hjb)
  have hs2 := heap_before (w.alloc (nodeObj sx)) (nodeObj dx) (heap_at w (nodeObj sx) rfl)
  have hd2 := heap_at (w.alloc (nodeObj sx)) (nodeObj dx) (n := w.heap.size + 1) (by simp)
  have hE2 : Ext w ((w.alloc (nodeObj sx)).alloc (nodeObj dx)) := ((Ext.refl w).alloc _).alloc _
  have HE := Lib.hid hE2; clear hE2
  have HShut := Lib.hid (fun w' (h : Ext w w') => shutNodeP ra rs rc dx w' hdp hSs.short (hRa.ext h))
  have HSub := Lib.hid (fun w' (h : Ext w w') => subP_any ta d tc dx.path w' hSs.dsm hdp (hTa.ext h))
  obtain ⟨n, hn⟩ : ∃ n, d.length = n := ⟨_, rfl⟩
  obtain ⟨r, hr⟩ : ∃ r, rs.length = r := ⟨_, rfl⟩
  rw [hn, hr] at hj2
  have HB := Lib.hid (And.intro hj2 (And.intro hs2 hd2)); clear hj2 hs2 hd2 hjb
  have hoF : shutF rs (txt dx.path) (dx.kind == 1) = true := ho
  rw [hr, hoF] at HShut
  clear hoF
  rw [hn] at HSub
  rw [sub_nodes hSs.sides.dd hdx] at HSub
  have hml : (subF d (nm dx)).length ≤ 2000 := Nat.le_trans (List.length_filter_le _ _) (by have := hSs.dsm.1; omega)
  obtain ⟨M, hM⟩ : ∃ M, subF d (nm dx) = M := ⟨_, rfl⟩
  rw [hM] at HSub hml ⊢
  obtain ⟨ml, hmm⟩ : ∃ ml, M.length = ml := ⟨_, rfl⟩
  have HM := Lib.hid hmm
  have HAll := Lib.hid (fun a c w h => allCW a M c w hml h)
  rw [hmm] at HAll
  clear hM hmm hn hr hJ hBs hBd hTa hRa hSs ho hdx hml
  obtain ⟨kd, hkd⟩ : ∃ b, (dx.kind == 1) = b := ⟨_, rfl⟩
  unfold NodeV.val at HShut ⊢
  go_enter Tryz.func55, Tryz.ntmps55
  go_wp2
  refine wp_draw_stages 76 9 [false, false, false, false, false, false, false, false, true] [([true, true, true, true, true, true, true], 7)] Ext Ext.refl (fun _ _ _ => Ext.trans) (by kernel_rfl) (by kernel_rfl) ?_
  apply wpStages_cons (by simp)
  · intro w1 hw1
    simp only [sel_true, sel_nil]
    have hc := hw1.cellsOf (blk_drew HB.out.1); have hd := hw1.cellsOf (blk_drew HB.out.2.2)
    repeat ((with_reducible refine wpStill_step (fun K hK => ?_)); go_simp; refine hK _ ?_; clear hK K)
    exact wpStill_nil rfl
  try simp only [List.getD_cons_succ, List.getD_cons_zero]
  go_wp2_with (go_at_call 51; refine (HShut.out _ HE.out.drew).mono ?_; rintro e w2 ⟨rfl, hE2⟩; have HE2 := Lib.hid hE2; clear hE2)
  refine ⟨HE2.out, ?_⟩
  have hE2 : Ext ((w.alloc (nodeObj sx)).alloc (nodeObj dx)).drew w2 := HE2.out
  have HB2 := Lib.hid (And.intro (hE2.block (blk_drew HB.out.1)) (And.intro (hE2.block (blk_drew HB.out.2.1)) (hE2.block (blk_drew HB.out.2.2))))
  have HE3 := Lib.hid (HE.out.drew.trans hE2); clear hE2
  refine wpStages_nil ?_
  simp only [sel_true, sel_false, sel_nil]
  repeat ((with_reducible refine wpStill_step (fun K hK => ?_)); go_simp; refine hK _ ?_; clear hK K)
  refine wpStill_nil ?_
  try simp only [List.drop_succ_cons, List.drop_zero]
  go_wp2
  refine wp_draw_stages 76 8 [] [([true, true, true, true, true, true], 6), ([], 7)] Ext Ext.refl (fun _ _ _ => Ext.trans) (by kernel_rfl) (by kernel_rfl) ?_
  apply wpStages_cons (by simp)
  · intro w1 hw1
    simp only [sel_true, sel_nil]
    have hc := hw1.cellsOf (blk_drew HB2.out.1); have hd := hw1.cellsOf (blk_drew HB2.out.2.2)
    repeat ((with_reducible refine wpStill_step (fun K hK => ?_)); go_simp; refine hK _ ?_; clear hK K)
    exact wpStill_nil rfl
  try simp only [List.getD_cons_succ, List.getD_cons_zero]
  go_wp2_with (go_at_call 58; refine (HSub.out _ HE3.out.drew).mono ?_; rintro e w3 ⟨a2, c2, rfl, hE2, hA2, hc2⟩; have H2 := Lib.hid (And.intro hE2 hA2); clear hE2 hA2 hc2)
  refine ⟨H2.out.1, ?_⟩
  rw [HM.out]
  apply wpStages_cons (by simp)
  · intro w1 hw1
    simp only [sel_nil]
    repeat ((with_reducible refine wpStill_step (fun K hK => ?_)); go_simp; refine hK _ ?_; clear hK K)
    exact wpStill_nil rfl
  try simp only [List.getD_cons_succ, List.getD_cons_zero]
  go_wp2_with (go_at_call 74; refine (HAll.out _ _ _ H2.out.2).mono ?_; rintro e w4 ⟨a3, c3, rfl, hE4, hA4, hc4⟩; have H4 := Lib.hid (And.intro hE4 (And.intro hA4 hc4)); clear hE4 hA4 hc4)
  refine ⟨H4.out.1, ?_⟩
  refine wpStages_nil ?_
  simp only [sel_nil]
  repeat ((with_reducible refine wpStill_step (fun K hK => ?_)); go_simp; refine hK _ ?_; clear hK K)
  refine wpStill_nil ?_
  try simp only [List.drop_succ_cons, List.drop_zero]
  go_wp2
  go_ret
  exact ⟨a3, c3, rfl, Ext.trans HE3.out.drew (Ext.trans H2.out.1 H4.out.1), H4.out.2.1, H4.out.2.2⟩
set_option maxRecDepth 100000 in
set_option maxHeartbeats 4000000 in
theorem at_one0W (sx dx : NodeV) (w : World) (_hSs : Sides' rs s d) (hJ : JobAt w jb s d rs del) (hk : sx.kind ≠ 1) : Calls Tryz.prog 55 #[.pointer (some ⟨jb, 0, none⟩), sx.val, .bool true, dx.val, .bool false] w (CellsTold [(sx, true)] w) := by
  obtain ⟨bs, bd, ta, tc, ra, rc, hjb, hBs, hBd, hTa, hRa⟩ := hJ.mem
  have hjl := hJ.lt
  have hj2 := heap_before (w.alloc (nodeObj sx)) (nodeObj dx) (heap_before w (nodeObj sx) hjb)
  have hs2 := heap_before (w.alloc (nodeObj sx)) (nodeObj dx) (heap_at w (nodeObj sx) rfl)
  have hd2 := heap_at (w.alloc (nodeObj sx)) (nodeObj dx) (n := w.heap.size + 1) (by simp)
  have hE2 : Ext w ((w.alloc (nodeObj sx)).alloc (nodeObj dx)) := ((Ext.refl w).alloc _).alloc _
  have HE := Lib.hid hE2; clear hE2
  obtain ⟨n, hn⟩ : ∃ n, d.length = n := ⟨_, rfl⟩
  obtain ⟨r, hr⟩ : ∃ r, rs.length = r := ⟨_, rfl⟩
  rw [hn, hr] at hj2
  have HB := Lib.hid (And.intro hj2 (And.intro hs2 hd2)); clear hj2 hs2 hd2 hjb
  clear hn hr hJ hBs hBd hTa hRa _hSs
  have g1 : (sx.kind == 1) = false := beq_eq_false_iff_ne.2 hk
  clear hk
  unfold NodeV.val
  go_enter Tryz.func55, Tryz.ntmps55
  go_wp2
  refine wp_draw_stages 76 9 [false, false, false, false, false, false, false, false, true] [([true, true, true, true, true, true, true], 7)] Ext Ext.refl (fun _ _ _ => Ext.trans) (by kernel_rfl) (by kernel_rfl) ?_
  apply wpStages_cons (by simp)
  · intro w1 hw1
    simp only [sel_true, sel_nil]
    repeat ((with_reducible refine wpStill_step (fun K hK => ?_)); go_simp; refine hK _ ?_; clear hK K)
    exact wpStill_nil rfl
  try simp only [List.getD_cons_succ, List.getD_cons_zero]
  go_wp2_with fail
  refine ⟨Ext.refl _, ?_⟩
  obtain ⟨w2, hw2⟩ : ∃ w2, ((w.alloc (nodeObj sx)).alloc (nodeObj dx)).drew = w2 := ⟨_, rfl⟩
  have HE3 := Lib.hid (show Ext w w2 by rw [← hw2]; exact HE.out.drew)
  have HB2 := Lib.hid (show w2.heap[jb]? = some (jobObj bs bd ta n tc ra r rc del) ∧ w2.heap[w.heap.size]? = some (nodeObj sx) ∧ w2.heap[w.heap.size + 1]? = some (nodeObj dx) by rw [← hw2]; exact ⟨blk_drew HB.out.1, blk_drew HB.out.2.1, blk_drew HB.out.2.2⟩)
  unfold nodeObj at hw2
  refine wpStages_nil ?_
  simp only [sel_true, sel_false, sel_nil]
  repeat ((with_reducible refine wpStill_step (fun K hK => ?_)); go_simp; refine hK _ ?_; clear hK K)
  refine wpStill_nil ?_
  try simp only [List.drop_succ_cons, List.drop_zero]
  rw [hw2]
  clear hw2
  have hjb2 := HB2.out.1
  have hsb2 := HB2.out.2.1
  have hdb2 := HB2.out.2.2
  have s0 := blk_cell hsb2 (i := 0) rfl
  have s1 := blk_cell hsb2 (i := 1) rfl
  have s2 := blk_cell hsb2 (i := 2) rfl
  have s3 := blk_cell hsb2 (i := 3) rfl
  have s4 := blk_cell hsb2 (i := 4) rfl
  have d0 := blk_cell hdb2 (i := 0) rfl
  have d1 := blk_cell hdb2 (i := 1) rfl
  have d2 := blk_cell hdb2 (i := 2) rfl
  have d3 := blk_cell hdb2 (i := 3) rfl
  have d4 := blk_cell hdb2 (i := 4) rfl
  clear hjb2 hsb2 hdb2
  go_wp2
  go_ret
  exact one_told sx true HE3.out
set_option maxRecDepth 100000 in
set_option maxHeartbeats 4000000 in
theorem at_one1W (sx dx : NodeV) (w : World) (hSs : Sides' rs s d) (hJ : JobAt w jb s d rs del) (hk : sx.kind ≠ 1) (hdp : dx.path.size ≤ 1000) (ho : outF rs dx = false) (hkd : dx.kind ≠ 1) : Calls Tryz.prog 55 #[.pointer (some ⟨jb, 0, none⟩), sx.val, .bool true, dx.val, .bool true] w (CellsTold [(sx, true)] w) := by
  obtain ⟨bs, bd, ta, tc, ra, rc, hjb, hBs, hBd, hTa, hRa⟩ := hJ.mem
  have hjl := hJ.lt
  have hj2 := heap_before (w.alloc (nodeObj sx)) (nodeObj dx) (heap_before w (nodeObj sx) hjb)
  have hs2 := heap_before (w.alloc (nodeObj sx)) (nodeObj dx) (heap_at w (nodeObj sx) rfl)
  have hd2 := heap_at (w.alloc (nodeObj sx)) (nodeObj dx) (n := w.heap.size + 1) (by simp)
  have hE2 : Ext w ((w.alloc (nodeObj sx)).alloc (nodeObj dx)) := ((Ext.refl w).alloc _).alloc _
  have HE := Lib.hid hE2; clear hE2
  have HShut := Lib.hid (fun w' (h : Ext w w') => shutNodeP ra rs rc dx w' hdp hSs.short (hRa.ext h))
  obtain ⟨n, hn⟩ : ∃ n, d.length = n := ⟨_, rfl⟩
  obtain ⟨r, hr⟩ : ∃ r, rs.length = r := ⟨_, rfl⟩
  rw [hn, hr] at hj2
  have HB := Lib.hid (And.intro hj2 (And.intro hs2 hd2)); clear hj2 hs2 hd2 hjb
  have hoF : shutF rs (txt dx.path) (dx.kind == 1) = false := ho
  rw [hr, hoF] at HShut
  clear hoF
  clear hn hr hJ hBs hBd hTa hRa hSs ho
  have g1 : (sx.kind == 1) = false := beq_eq_false_iff_ne.2 hk
  have g2 : (dx.kind == 1) = false := beq_eq_false_iff_ne.2 hkd
  clear hk hkd
  unfold NodeV.val at HShut ⊢
  go_enter Tryz.func55, Tryz.ntmps55
  go_wp2
  refine wp_draw_stages 76 9 [false, false, false, false, false, false, false, false, true] [([true, true, true, true, true, true, true], 7)] Ext Ext.refl (fun _ _ _ => Ext.trans) (by kernel_rfl) (by kernel_rfl) ?_
  apply wpStages_cons (by simp)
  · intro w1 hw1
    simp only [sel_true, sel_nil]
    have hc := hw1.cellsOf (blk_drew HB.out.1); have hd := hw1.cellsOf (blk_drew HB.out.2.2)
    repeat ((with_reducible refine wpStill_step (fun K hK => ?_)); go_simp; refine hK _ ?_; clear hK K)
    exact wpStill_nil rfl
  try simp only [List.getD_cons_succ, List.getD_cons_zero]
  go_wp2_with (go_at_call 51; refine (HShut.out _ HE.out.drew).mono ?_; rintro e w2 ⟨rfl, hE2⟩; have HE2 := Lib.hid hE2; clear hE2)
  refine ⟨HE2.out, ?_⟩
  have hE2 : Ext ((w.alloc (nodeObj sx)).alloc (nodeObj dx)).drew w2 := HE2.out
  have HB2 := Lib.hid (And.intro (hE2.block (blk_drew HB.out.1)) (And.intro (hE2.block (blk_drew HB.out.2.1)) (hE2.block (blk_drew HB.out.2.2))))
  have HE3 := Lib.hid (HE.out.drew.trans hE2); clear hE2
  refine wpStages_nil ?_
  simp only [sel_true, sel_false, sel_nil]
  repeat ((with_reducible refine wpStill_step (fun K hK => ?_)); go_simp; refine hK _ ?_; clear hK K)
  refine wpStill_nil ?_
  try simp only [List.drop_succ_cons, List.drop_zero]
  have hjb2 := HB2.out.1
  have hsb2 := HB2.out.2.1
  have hdb2 := HB2.out.2.2
  have s0 := blk_cell hsb2 (i := 0) rfl
  have s1 := blk_cell hsb2 (i := 1) rfl
  have s2 := blk_cell hsb2 (i := 2) rfl
  have s3 := blk_cell hsb2 (i := 3) rfl
  have s4 := blk_cell hsb2 (i := 4) rfl
  have d0 := blk_cell hdb2 (i := 0) rfl
  have d1 := blk_cell hdb2 (i := 1) rfl
  have d2 := blk_cell hdb2 (i := 2) rfl
  have d3 := blk_cell hdb2 (i := 3) rfl
  have d4 := blk_cell hdb2 (i := 4) rfl
  clear hjb2 hsb2 hdb2
  go_wp2
  go_ret
  exact one_told sx true HE3.out
set_option maxRecDepth 100000 in
set_option maxHeartbeats 4000000 in
theorem at_noneW (sx dx : NodeV) (w : World) (hSs : Sides' rs s d) (hJ : JobAt w jb s d rs del) (hk : sx.kind ≠ 1) (hdx : dx ∈ d) (ho : outF rs dx = false) (hkd : dx.kind = 1) (hl : leftF rs del d (nm dx) = []) : Calls Tryz.prog 55 #[.pointer (some ⟨jb, 0, none⟩), sx.val, .bool true, dx.val, .bool true] w (CellsTold [(sx, true)] w) := by
  have hdp := (hSs.dsm.2 dx hdx).1
  obtain ⟨bs, bd, ta, tc, ra, rc, hjb, hBs, hBd, hTa, hRa⟩ := hJ.mem
  have hjl := hJ.lt
  have hj2 := heap_before (w.alloc (nodeObj sx)) (nodeObj dx) (heap_before w (nodeObj sx) hjb)
  have hs2 := heap_before (w.alloc (nodeObj sx)) (nodeObj dx) (heap_at w (nodeObj sx) rfl)
  have hd2 := heap_at (w.alloc (nodeObj sx)) (nodeObj dx) (n := w.heap.size + 1) (by simp)
  have hE2 : Ext w ((w.alloc (nodeObj sx)).alloc (nodeObj dx)) := ((Ext.refl w).alloc _).alloc _
  have HE := Lib.hid hE2; clear hE2
  have HShut := Lib.hid (fun w' (h : Ext w w') => shutNodeP ra rs rc dx w' hdp hSs.short (hRa.ext h))
  have HLf := Lib.hid (fun w' (h : Ext w w') => leftW jb s d rs del hSs 17 dx w' hdx (by omega) (hJ.ext h))
  obtain ⟨n, hn⟩ : ∃ n, d.length = n := ⟨_, rfl⟩
  obtain ⟨r, hr⟩ : ∃ r, rs.length = r := ⟨_, rfl⟩
  rw [hn, hr] at hj2
  have HB := Lib.hid (And.intro hj2 (And.intro hs2 hd2)); clear hj2 hs2 hd2 hjb
  have hoF : shutF rs (txt dx.path) (dx.kind == 1) = false := ho
  rw [hr, hoF] at HShut
  clear hoF
  rw [hl] at HLf
  clear hn hr hJ hBs hBd hTa hRa hSs ho hl hdx
  have g1 : (sx.kind == 1) = false := beq_eq_false_iff_ne.2 hk
  have g2 : (dx.kind == 1) = true := by rw [hkd]; rfl
  clear hk hkd
  unfold NodeV.val at HShut HLf ⊢
  go_enter Tryz.func55, Tryz.ntmps55
  go_wp2
  refine wp_draw_stages 76 9 [false, false, false, false, false, false, false, false, true] [([true, true, true, true, true, true, true], 7)] Ext Ext.refl (fun _ _ _ => Ext.trans) (by kernel_rfl) (by kernel_rfl) ?_
  apply wpStages_cons (by simp)
  · intro w1 hw1
    simp only [sel_true, sel_nil]
    have hc := hw1.cellsOf (blk_drew HB.out.1); have hd := hw1.cellsOf (blk_drew HB.out.2.2)
    repeat ((with_reducible refine wpStill_step (fun K hK => ?_)); go_simp; refine hK _ ?_; clear hK K)
    exact wpStill_nil rfl
  try simp only [List.getD_cons_succ, List.getD_cons_zero]
  go_wp2_with (go_at_call 51; refine (HShut.out _ HE.out.drew).mono ?_; rintro e w2 ⟨rfl, hE2⟩; have HE2 := Lib.hid hE2; clear hE2)
  refine ⟨HE2.out, ?_⟩
  have hE2 : Ext ((w.alloc (nodeObj sx)).alloc (nodeObj dx)).drew w2 := HE2.out
  have HB2 := Lib.hid (And.intro (hE2.block (blk_drew HB.out.1)) (And.intro (hE2.block (blk_drew HB.out.2.1)) (hE2.block (blk_drew HB.out.2.2))))
  have HE3 := Lib.hid (HE.out.drew.trans hE2); clear hE2
  refine wpStages_nil ?_
  simp only [sel_true, sel_false, sel_nil]
  repeat ((with_reducible refine wpStill_step (fun K hK => ?_)); go_simp; refine hK _ ?_; clear hK K)
  refine wpStill_nil ?_
  try simp only [List.drop_succ_cons, List.drop_zero]
  have hjb2 := HB2.out.1
  have hsb2 := HB2.out.2.1
  have hdb2 := HB2.out.2.2
  have s0 := blk_cell hsb2 (i := 0) rfl
  have s1 := blk_cell hsb2 (i := 1) rfl
  have s2 := blk_cell hsb2 (i := 2) rfl
  have s3 := blk_cell hsb2 (i := 3) rfl
  have s4 := blk_cell hsb2 (i := 4) rfl
  have d0 := blk_cell hdb2 (i := 0) rfl
  have d1 := blk_cell hdb2 (i := 1) rfl
  have d2 := blk_cell hdb2 (i := 2) rfl
  have d3 := blk_cell hdb2 (i := 3) rfl
  have d4 := blk_cell hdb2 (i := 4) rfl
  clear hjb2 hsb2 hdb2
  go_wp2_with fail
  refine (HLf.out _ HE3.out).mono ?_
  rintro e w3 ⟨a2, c2, rfl, hE3, hA3, hc3⟩
  have hsb3 := hE3.block HB2.out.2.1
  clear s0 s1 s2 s3 s4
  have s0 := blk_cell hsb3 (i := 0) rfl
  have s1 := blk_cell hsb3 (i := 1) rfl
  have s2 := blk_cell hsb3 (i := 2) rfl
  have s3 := blk_cell hsb3 (i := 3) rfl
  have s4 := blk_cell hsb3 (i := 4) rfl
  have HE4 := Lib.hid (HE3.out.trans hE3); clear hE3 hA3 hc3 hsb3
  rw [List.length_nil]
  go_wp2
  go_ret
  exact one_told sx true HE4.out
set_option maxRecDepth 100000 in
set_option maxHeartbeats 4000000 in
theorem at_left0W (sx dx : NodeV) (w : World) (hSs : Sides' rs s d) (hJ : JobAt w jb s d rs del) (hdx : dx ∈ d) (ho : outF rs dx = false) : Calls Tryz.prog 55 #[.pointer (some ⟨jb, 0, none⟩), sx.val, .bool false, dx.val, .bool true] w (CellsTold (theirsL (leftF rs del d (nm dx))) w) := by
  have hdp := (hSs.dsm.2 dx hdx).1
  obtain ⟨bs, bd, ta, tc, ra, rc, hjb, hBs, hBd, hTa, hRa⟩ := hJ.mem
  have hjl := hJ.lt
  have hj2 := heap_before (w.alloc (nodeObj sx)) (nodeObj dx) (heap_before w (nodeObj sx) hjb)
  have hs2 := heap_before (w.alloc (nodeObj sx)) (nodeObj dx) (heap_at w (nodeObj sx) rfl)
  have hd2 := heap_at (w.alloc (nodeObj sx)) (nodeObj dx) (n := w.heap.size + 1) (by simp)
  have hE2 : Ext w ((w.alloc (nodeObj sx)).alloc (nodeObj dx)) := ((Ext.refl w).alloc _).alloc _
  have HE := Lib.hid hE2; clear hE2
  have HShut := Lib.hid (fun w' (h : Ext w w') => shutNodeP ra rs rc dx w' hdp hSs.short (hRa.ext h))
  have HLf := Lib.hid (fun w' (h : Ext w w') => leftW jb s d rs del hSs 17 dx w' hdx (by omega) (hJ.ext h))
  obtain ⟨n, hn⟩ : ∃ n, d.length = n := ⟨_, rfl⟩
  obtain ⟨r, hr⟩ : ∃ r, rs.length = r := ⟨_, rfl⟩
  rw [hn, hr] at hj2
  have HB := Lib.hid (And.intro hj2 (And.intro hs2 hd2)); clear hj2 hs2 hd2 hjb
  have hoF : shutF rs (txt dx.path) (dx.kind == 1) = false := ho
  rw [hr, hoF] at HShut
  clear hoF
  have hml : (leftF rs del d (nm dx)).length ≤ 2000 := Nat.le_trans (List.length_filter_le _ _) (by have := hSs.dsm.1; omega)
  obtain ⟨M, hM⟩ : ∃ M, leftF rs del d (nm dx) = M := ⟨_, rfl⟩
  rw [hM] at HLf hml ⊢
  obtain ⟨ml, hmm⟩ : ∃ ml, M.length = ml := ⟨_, rfl⟩
  have HM := Lib.hid hmm
  have HAll := Lib.hid (fun a c w h => allCW a M c w hml h)
  rw [hmm] at HAll
  clear hM hmm hn hr hJ hBs hBd hTa hRa hSs ho hdx hml
  obtain ⟨kd, hkd⟩ : ∃ b, (dx.kind == 1) = b := ⟨_, rfl⟩
  unfold NodeV.val at HShut HLf ⊢
  go_enter Tryz.func55, Tryz.ntmps55
  go_wp2
  refine wp_draw_stages 76 9 [false, false, false, false, false, false, false, false, true] [([true, true, true, true, true, true, true], 7)] Ext Ext.refl (fun _ _ _ => Ext.trans) (by kernel_rfl) (by kernel_rfl) ?_
  apply wpStages_cons (by simp)
  · intro w1 hw1
    simp only [sel_true, sel_nil]
    have hc := hw1.cellsOf (blk_drew HB.out.1); have hd := hw1.cellsOf (blk_drew HB.out.2.2)
    repeat ((with_reducible refine wpStill_step (fun K hK => ?_)); go_simp; refine hK _ ?_; clear hK K)
    exact wpStill_nil rfl
  try simp only [List.getD_cons_succ, List.getD_cons_zero]
  go_wp2_with (go_at_call 51; refine (HShut.out _ HE.out.drew).mono ?_; rintro e w2 ⟨rfl, hE2⟩; have HE2 := Lib.hid hE2; clear hE2)
  refine ⟨HE2.out, ?_⟩
  have hE2 : Ext ((w.alloc (nodeObj sx)).alloc (nodeObj dx)).drew w2 := HE2.out
  have HB2 := Lib.hid (And.intro (hE2.block (blk_drew HB.out.1)) (And.intro (hE2.block (blk_drew HB.out.2.1)) (hE2.block (blk_drew HB.out.2.2))))
  have HE3 := Lib.hid (HE.out.drew.trans hE2); clear hE2
  refine wpStages_nil ?_
  simp only [sel_true, sel_false, sel_nil]
  repeat ((with_reducible refine wpStill_step (fun K hK => ?_)); go_simp; refine hK _ ?_; clear hK K)
  refine wpStill_nil ?_
  try simp only [List.drop_succ_cons, List.drop_zero]
  have hjb2 := HB2.out.1
  have hsb2 := HB2.out.2.1
  have hdb2 := HB2.out.2.2
  have s0 := blk_cell hsb2 (i := 0) rfl
  have s1 := blk_cell hsb2 (i := 1) rfl
  have s2 := blk_cell hsb2 (i := 2) rfl
  have s3 := blk_cell hsb2 (i := 3) rfl
  have s4 := blk_cell hsb2 (i := 4) rfl
  have d0 := blk_cell hdb2 (i := 0) rfl
  have d1 := blk_cell hdb2 (i := 1) rfl
  have d2 := blk_cell hdb2 (i := 2) rfl
  have d3 := blk_cell hdb2 (i := 3) rfl
  have d4 := blk_cell hdb2 (i := 4) rfl
  clear hjb2 hsb2 hdb2
  go_wp2_with fail
  refine (HLf.out _ HE3.out).mono ?_
  rintro e w3 ⟨a2, c2, rfl, hE3, hA3, hc3⟩
  have H3 := Lib.hid (And.intro (HE3.out.trans hE3) hA3); clear hE3 hA3 hc3
  rw [HM.out]
  go_wp2_with (go_at_call 74; refine (HAll.out _ _ _ H3.out.2).mono ?_; rintro e w4 ⟨a3, c3, rfl, hE4, hA4, hc4⟩; have H4 := Lib.hid (And.intro hE4 (And.intro hA4 hc4)); clear hE4 hA4 hc4)
  go_ret
  exact ⟨a3, c3, rfl, H3.out.1.trans H4.out.1, H4.out.2.1, H4.out.2.2⟩
set_option maxRecDepth 100000 in
set_option maxHeartbeats 4000000 in
theorem at_left1W (sx dx : NodeV) (w : World) (hSs : Sides' rs s d) (hJ : JobAt w jb s d rs del) (hk : sx.kind ≠ 1) (hdx : dx ∈ d) (ho : outF rs dx = false) (hkd : dx.kind = 1) (hl : leftF rs del d (nm dx) ≠ []) : Calls Tryz.prog 55 #[.pointer (some ⟨jb, 0, none⟩), sx.val, .bool true, dx.val, .bool true] w (CellsTold (theirsL (leftF rs del d (nm dx))) w) := by
  have hdp := (hSs.dsm.2 dx hdx).1
  obtain ⟨bs, bd, ta, tc, ra, rc, hjb, hBs, hBd, hTa, hRa⟩ := hJ.mem
  have hjl := hJ.lt
  have hj2 := heap_before (w.alloc (nodeObj sx)) (nodeObj dx) (heap_before w (nodeObj sx) hjb)
  have hs2 := heap_before (w.alloc (nodeObj sx)) (nodeObj dx) (heap_at w (nodeObj sx) rfl)
  have hd2 := heap_at (w.alloc (nodeObj sx)) (nodeObj dx) (n := w.heap.size + 1) (by simp)
  have hE2 : Ext w ((w.alloc (nodeObj sx)).alloc (nodeObj dx)) := ((Ext.refl w).alloc _).alloc _
  have HE := Lib.hid hE2; clear hE2
  have HShut := Lib.hid (fun w' (h : Ext w w') => shutNodeP ra rs rc dx w' hdp hSs.short (hRa.ext h))
  have HLf := Lib.hid (fun w' (h : Ext w w') => leftW jb s d rs del hSs 17 dx w' hdx (by omega) (hJ.ext h))
  obtain ⟨n, hn⟩ : ∃ n, d.length = n := ⟨_, rfl⟩
  obtain ⟨r, hr⟩ : ∃ r, rs.length = r := ⟨_, rfl⟩
  rw [hn, hr] at hj2
  have HB := Lib.hid (And.intro hj2 (And.intro hs2 hd2)); clear hj2 hs2 hd2 hjb
  have hoF : shutF rs (txt dx.path) (dx.kind == 1) = false := ho
  rw [hr, hoF] at HShut
  clear hoF
  have hml : (leftF rs del d (nm dx)).length ≤ 2000 := Nat.le_trans (List.length_filter_le _ _) (by have := hSs.dsm.1; omega)
  obtain ⟨M, hM⟩ : ∃ M, leftF rs del d (nm dx) = M := ⟨_, rfl⟩
  rw [hM] at HLf hml hl ⊢
  obtain ⟨ml, hmm⟩ : ∃ ml, M.length = ml := ⟨_, rfl⟩
  have HM := Lib.hid hmm
  have HAll := Lib.hid (fun a c w h => allCW a M c w hml h)
  rw [hmm] at HAll
  have g3 : ((ml : Int) == 0) = false := by
    rw [beq_eq_false_iff_ne]
    intro e
    exact hl (List.eq_nil_of_length_eq_zero (by omega))
  clear hl
  clear hM hmm hn hr hJ hBs hBd hTa hRa hSs ho hdx hml
  have g1 : (sx.kind == 1) = false := beq_eq_false_iff_ne.2 hk
  have g2 : (dx.kind == 1) = true := by rw [hkd]; rfl
  clear hk hkd
  unfold NodeV.val at HShut HLf ⊢
  go_enter Tryz.func55, Tryz.ntmps55
  go_wp2
  refine wp_draw_stages 76 9 [false, false, false, false, false, false, false, false, true] [([true, true, true, true, true, true, true], 7)] Ext Ext.refl (fun _ _ _ => Ext.trans) (by kernel_rfl) (by kernel_rfl) ?_
  apply wpStages_cons (by simp)
  · intro w1 hw1
    simp only [sel_true, sel_nil]
    have hc := hw1.cellsOf (blk_drew HB.out.1); have hd := hw1.cellsOf (blk_drew HB.out.2.2)
    repeat ((with_reducible refine wpStill_step (fun K hK => ?_)); go_simp; refine hK _ ?_; clear hK K)
    exact wpStill_nil rfl
  try simp only [List.getD_cons_succ, List.getD_cons_zero]
  go_wp2_with (go_at_call 51; refine (HShut.out _ HE.out.drew).mono ?_; rintro e w2 ⟨rfl, hE2⟩; have HE2 := Lib.hid hE2; clear hE2)
  refine ⟨HE2.out, ?_⟩
  have hE2 : Ext ((w.alloc (nodeObj sx)).alloc (nodeObj dx)).drew w2 := HE2.out
  have HB2 := Lib.hid (And.intro (hE2.block (blk_drew HB.out.1)) (And.intro (hE2.block (blk_drew HB.out.2.1)) (hE2.block (blk_drew HB.out.2.2))))
  have HE3 := Lib.hid (HE.out.drew.trans hE2); clear hE2
  refine wpStages_nil ?_
  simp only [sel_true, sel_false, sel_nil]
  repeat ((with_reducible refine wpStill_step (fun K hK => ?_)); go_simp; refine hK _ ?_; clear hK K)
  refine wpStill_nil ?_
  try simp only [List.drop_succ_cons, List.drop_zero]
  have hjb2 := HB2.out.1
  have hsb2 := HB2.out.2.1
  have hdb2 := HB2.out.2.2
  have s0 := blk_cell hsb2 (i := 0) rfl
  have s1 := blk_cell hsb2 (i := 1) rfl
  have s2 := blk_cell hsb2 (i := 2) rfl
  have s3 := blk_cell hsb2 (i := 3) rfl
  have s4 := blk_cell hsb2 (i := 4) rfl
  have d0 := blk_cell hdb2 (i := 0) rfl
  have d1 := blk_cell hdb2 (i := 1) rfl
  have d2 := blk_cell hdb2 (i := 2) rfl
  have d3 := blk_cell hdb2 (i := 3) rfl
  have d4 := blk_cell hdb2 (i := 4) rfl
  clear hjb2 hsb2 hdb2
  go_wp2_with fail
  refine (HLf.out _ HE3.out).mono ?_
  rintro e w3 ⟨a2, c2, rfl, hE3, hA3, hc3⟩
  have H3 := Lib.hid (And.intro (HE3.out.trans hE3) hA3); clear hE3 hA3 hc3
  rw [HM.out]
  go_wp2_with (go_at_call 74; refine (HAll.out _ _ _ H3.out.2).mono ?_; rintro e w4 ⟨a3, c3, rfl, hE4, hA4, hc4⟩; have H4 := Lib.hid (And.intro hE4 (And.intro hA4 hc4)); clear hE4 hA4 hc4)
  go_ret
  exact ⟨a3, c3, rfl, H3.out.1.trans H4.out.1, H4.out.2.1, H4.out.2.2⟩
set_option maxRecDepth 100000 in
set_option maxHeartbeats 4000000 in
theorem at_dir0W (sx dx : NodeV) (w : World) (_hSs : Sides' rs s d) (hJ : JobAt w jb s d rs del) (hk : sx.kind = 1) (hW : ∀ w', Ext w w' → Calls Tryz.prog 37 #[.pointer (some ⟨jb, 0, none⟩), .string sx.path, .bool false] w' (fun e w2 => ∃ R, R.length ≤ 2000 ∧ BelowIs rs del s d (nm sx) R ∧ CellsTold R w' e w2)) : Calls Tryz.prog 55 #[.pointer (some ⟨jb, 0, none⟩), sx.val, .bool true, dx.val, .bool false] w (fun e w2 => ∃ R, R.length ≤ 2000 ∧ BelowIs rs del s d (nm sx) R ∧ CellsTold ((sx, true) :: R) w e w2) := by
  obtain ⟨bs, bd, ta, tc, ra, rc, hjb, hBs, hBd, hTa, hRa⟩ := hJ.mem
  have hjl := hJ.lt
  have hj2 := heap_before (w.alloc (nodeObj sx)) (nodeObj dx) (heap_before w (nodeObj sx) hjb)
  have hs2 := heap_before (w.alloc (nodeObj sx)) (nodeObj dx) (heap_at w (nodeObj sx) rfl)
  have hd2 := heap_at (w.alloc (nodeObj sx)) (nodeObj dx) (n := w.heap.size + 1) (by simp)
  have hE2 : Ext w ((w.alloc (nodeObj sx)).alloc (nodeObj dx)) := ((Ext.refl w).alloc _).alloc _
  have HE := Lib.hid hE2; clear hE2
  obtain ⟨n, hn⟩ : ∃ n, d.length = n := ⟨_, rfl⟩
  obtain ⟨r, hr⟩ : ∃ r, rs.length = r := ⟨_, rfl⟩
  rw [hn, hr] at hj2
  have HB := Lib.hid (And.intro hj2 (And.intro hs2 hd2)); clear hj2 hs2 hd2 hjb
  clear hn hr hJ hBs hBd hTa hRa _hSs
  have g1 : (sx.kind == 1) = true := by rw [hk]; rfl
  have HW := Lib.hid hW
  clear hk hW
  unfold NodeV.val
  go_enter Tryz.func55, Tryz.ntmps55
  go_wp2
  refine wp_draw_stages 76 9 [false, false, false, false, false, false, false, false, true] [([true, true, true, true, true, true, true], 7)] Ext Ext.refl (fun _ _ _ => Ext.trans) (by kernel_rfl) (by kernel_rfl) ?_
  apply wpStages_cons (by simp)
  · intro w1 hw1
    simp only [sel_true, sel_nil]
    repeat ((with_reducible refine wpStill_step (fun K hK => ?_)); go_simp; refine hK _ ?_; clear hK K)
    exact wpStill_nil rfl
  try simp only [List.getD_cons_succ, List.getD_cons_zero]
  go_wp2_with fail
  refine ⟨Ext.refl _, ?_⟩
  obtain ⟨w2, hw2⟩ : ∃ w2, ((w.alloc (nodeObj sx)).alloc (nodeObj dx)).drew = w2 := ⟨_, rfl⟩
  have HE3 := Lib.hid (show Ext w w2 by rw [← hw2]; exact HE.out.drew)
  have HB2 := Lib.hid (show w2.heap[jb]? = some (jobObj bs bd ta n tc ra r rc del) ∧ w2.heap[w.heap.size]? = some (nodeObj sx) ∧ w2.heap[w.heap.size + 1]? = some (nodeObj dx) by rw [← hw2]; exact ⟨blk_drew HB.out.1, blk_drew HB.out.2.1, blk_drew HB.out.2.2⟩)
  unfold nodeObj at hw2
  refine wpStages_nil ?_
  simp only [sel_true, sel_false, sel_nil]
  repeat ((with_reducible refine wpStill_step (fun K hK => ?_)); go_simp; refine hK _ ?_; clear hK K)
  refine wpStill_nil ?_
  try simp only [List.drop_succ_cons, List.drop_zero]
  rw [hw2]
  clear hw2
  have hjb2 := HB2.out.1
  have hsb2 := HB2.out.2.1
  have hdb2 := HB2.out.2.2
  have s0 := blk_cell hsb2 (i := 0) rfl
  have s1 := blk_cell hsb2 (i := 1) rfl
  have s2 := blk_cell hsb2 (i := 2) rfl
  have s3 := blk_cell hsb2 (i := 3) rfl
  have s4 := blk_cell hsb2 (i := 4) rfl
  have d0 := blk_cell hdb2 (i := 0) rfl
  have d1 := blk_cell hdb2 (i := 1) rfl
  have d2 := blk_cell hdb2 (i := 2) rfl
  have d3 := blk_cell hdb2 (i := 3) rfl
  have d4 := blk_cell hdb2 (i := 4) rfl
  clear hjb2 hsb2 hdb2
  go_wp2
  clear s0 s1 s2 s3 s4 d0 d1 d2 d3 d4
  apply wp_draw_fork 76 9 [true, true, false, true, true, true, true] 2 7 [] [([], 7), ([], 8)] [] [([], 2), ([], 8)] (Below w2.heap.size) (Below.refl w2.heap.size) (fun _ _ _ => Below.trans) (by kernel_rfl) (by kernel_rfl) (by simp)
  · intro w1 hw1
    simp only [sel_true, sel_false, sel_nil]
    have hc := (show Ext w2.drew w1 from hw1).cellsOf (blk_drew HB2.out.2.1)
    repeat ((with_reducible refine wpStill_step (fun K hK => ?_)); go_simp; refine hK _ ?_; clear hK K)
    exact wpStill_nil rfl
  · try simp only [List.getD_cons_succ, List.getD_cons_zero]
    go_wp2_with fail
    refine ⟨below_ad w2 _, ?_⟩
    have hO : OwnC w (.slice (some ⟨w2.heap.size, 0, none⟩) 1 1) [(sx, true)] (w2.alloc (.cells #[.string sx.path, .int .i64 sx.kind, .int .i64 sx.mode, .int .i64 sx.time, .string sx.data, .bool true] 65)).drew := OwnL.drew (OwnL.one HE3.out (sx, true) #[.string sx.path, .int .i64 sx.kind, .int .i64 sx.mode, .int .i64 sx.time, .string sx.data, .bool true] rfl (cellC_len _))
    have HO := Lib.hid hO; clear hO
    apply wpStages_cons (by simp)
    · intro w1 hw1
      simp only [sel_nil]
      exact wpStill_nil rfl
    try simp only [List.getD_cons_succ, List.getD_cons_zero]
    go_wp2_with (go_at_call 37; refine (HW.out _ (HE3.out.alloc _).drew).mono ?_; rintro e w5 ⟨R, hRl, hRb, a5, c5, rfl, hE5, hA5, hc5⟩; have H5 := Lib.hid (And.intro hE5 (And.intro hA5 (And.intro hRl hRb))); clear hE5 hA5 hc5 hRl hRb)
    refine ⟨Below.mono H5.out.1 (by show w2.heap.size ≤ (w2.alloc _).heap.size; rw [World.size_alloc]; exact Nat.le_succ _), ?_⟩
    obtain ⟨ml, hml⟩ : ∃ ml, R.length = ml := ⟨_, rfl⟩
    rw [hml]
    have HMl := Lib.hid hml; clear hml
    apply wpStages_cons (by simp)
    · intro w1 hw1
      simp only [sel_nil]
      exact wpStill_nil rfl
    try simp only [List.getD_cons_succ, List.getD_cons_zero]
    go_wp2_with (at_builtin; refine cells_app rfl _ _ rfl w _ [(sx, true)] rfl (HO.out.ext H5.out.1) a5 c5 ml R HMl.out.symm rfl H5.out.2.1 (by rw [List.length_singleton]; have := H5.out.2.2.1; omega) ?_; intro v6 w6 hown6 hg6; have H6 := Lib.hid (And.intro hown6 hg6); clear hown6 hg6)
    refine ⟨grown_below H6.out.2 (fun g hg => by have hg' : (Value.slice (some ⟨w2.heap.size, 0, none⟩) 1 1).ownBlock = some g := hg; have h : w2.heap.size = g := by injection hg'
                                                 omega) (by have := H5.out.1.size; have h0 : (w2.alloc (.cells #[.string sx.path, .int .i64 sx.kind, .int .i64 sx.mode, .int .i64 sx.time, .string sx.data, .bool true] 65)).drew.heap.size = w2.heap.size + 1 := World.size_alloc _ _; omega), ?_⟩
    simp only [Act.put, List.setIfInBounds_toArray, List.set_cons_succ, List.set_cons_zero]
    refine wpStages_nil ?_
    simp only [sel_nil]
    refine wpStill_nil ?_
    try simp only [List.drop_succ_cons, List.drop_zero]
    go_wp2
    go_ret
    exact ⟨R, H5.out.2.2.1, H5.out.2.2.2, cells_told H6.out.1⟩
  · try simp only [List.getD_cons_succ, List.getD_cons_zero]
    go_wp2_with (go_at_call 37; refine (HW.out _ HE3.out.drew).mono ?_; rintro e w5 ⟨R, hRl, hRb, a5, c5, rfl, hE5, hA5, hc5⟩; have H5 := Lib.hid (And.intro hE5 (And.intro hA5 (And.intro hRl hRb))); clear hE5 hA5 hc5 hRl hRb)
    refine ⟨H5.out.1, ?_⟩
    obtain ⟨ml, hml⟩ : ∃ ml, R.length = ml := ⟨_, rfl⟩
    rw [hml]
    have HMl := Lib.hid hml; clear hml
    apply wpStages_cons (by simp)
    · intro w1 hw1
      simp only [sel_nil]
      exact wpStill_nil rfl
    try simp only [List.getD_cons_succ, List.getD_cons_zero]
    go_wp2_with fail
    have h25 : w2.heap.size ≤ w5.heap.size := H5.out.1.size
    refine ⟨(Below.refl _ _).alloc h25 _, ?_⟩
    have hO : OwnC w (.slice (some ⟨w5.heap.size, 0, none⟩) 1 1) [(sx, true)] (w5.alloc (.cells #[.string sx.path, .int .i64 sx.kind, .int .i64 sx.mode, .int .i64 sx.time, .string sx.data, .bool true] 65)) := OwnL.one (HE3.out.drew.trans H5.out.1) (sx, true) #[.string sx.path, .int .i64 sx.kind, .int .i64 sx.mode, .int .i64 sx.time, .string sx.data, .bool true] rfl (cellC_len _)
    have HO := Lib.hid hO; clear hO
    apply wpStages_cons (by simp)
    · intro w1 hw1
      simp only [sel_nil]
      exact wpStill_nil rfl
    try simp only [List.getD_cons_succ, List.getD_cons_zero]
    go_wp2_with (at_builtin; refine cells_app rfl _ _ rfl w _ [(sx, true)] rfl HO.out a5 c5 ml R HMl.out.symm rfl (H5.out.2.1.ext ((Ext.refl _).alloc _)) (by rw [List.length_singleton]; have := H5.out.2.2.1; omega) ?_; intro v6 w6 hown6 hg6; have H6 := Lib.hid (And.intro hown6 hg6); clear hown6 hg6)
    refine ⟨grown_below H6.out.2 (fun g hg => by have hg' : (Value.slice (some ⟨w5.heap.size, 0, none⟩) 1 1).ownBlock = some g := hg; have h : w5.heap.size = g := by injection hg'
                                                 omega) (by rw [World.size_alloc]; omega), ?_⟩
    simp only [Act.put, List.setIfInBounds_toArray, List.set_cons_succ, List.set_cons_zero]
    refine wpStages_nil ?_
    simp only [sel_nil]
    refine wpStill_nil ?_
    try simp only [List.drop_succ_cons, List.drop_zero]
    go_wp2
    go_ret
    exact ⟨R, H5.out.2.2.1, H5.out.2.2.2, cells_told H6.out.1⟩
set_option maxRecDepth 100000 in
set_option maxHeartbeats 4000000 in
theorem at_dir1W (sx dx : NodeV) (w : World) (hSs : Sides' rs s d) (hJ : JobAt w jb s d rs del) (hk : sx.kind = 1) (hdp : dx.path.size ≤ 1000) (ho : outF rs dx = false) (kd : Bool) (hkd : (dx.kind == 1) = kd) (hW : ∀ w', Ext w w' → Calls Tryz.prog 37 #[.pointer (some ⟨jb, 0, none⟩), .string sx.path, .bool kd] w' (fun e w2 => ∃ R, R.length ≤ 2000 ∧ BelowIs rs del s d (nm sx) R ∧ CellsTold R w' e w2)) : Calls Tryz.prog 55 #[.pointer (some ⟨jb, 0, none⟩), sx.val, .bool true, dx.val, .bool true] w (fun e w2 => ∃ R, R.length ≤ 2000 ∧ BelowIs rs del s d (nm sx) R ∧ CellsTold ((sx, true) :: R) w e w2) := by
  obtain ⟨bs, bd, ta, tc, ra, rc, hjb, hBs, hBd, hTa, hRa⟩ := hJ.mem
  have hjl := hJ.lt
  have hj2 := heap_before (w.alloc (nodeObj sx)) (nodeObj dx) (heap_before w (nodeObj sx) hjb)
  have hs2 := heap_before (w.alloc (nodeObj sx)) (nodeObj dx) (heap_at w (nodeObj sx) rfl)
  have hd2 := heap_at (w.alloc (nodeObj sx)) (nodeObj dx) (n := w.heap.size + 1) (by simp)
  have hE2 : Ext w ((w.alloc (nodeObj sx)).alloc (nodeObj dx)) := ((Ext.refl w).alloc _).alloc _
  have HE := Lib.hid hE2; clear hE2
  have HShut := Lib.hid (fun w' (h : Ext w w') => shutNodeP ra rs rc dx w' hdp hSs.short (hRa.ext h))
  obtain ⟨n, hn⟩ : ∃ n, d.length = n := ⟨_, rfl⟩
  obtain ⟨r, hr⟩ : ∃ r, rs.length = r := ⟨_, rfl⟩
  rw [hn, hr] at hj2
  have HB := Lib.hid (And.intro hj2 (And.intro hs2 hd2)); clear hj2 hs2 hd2 hjb
  have hoF : shutF rs (txt dx.path) (dx.kind == 1) = false := ho
  rw [hr, hoF] at HShut
  clear hoF
  clear hn hr hJ hBs hBd hTa hRa hSs ho
  have g1 : (sx.kind == 1) = true := by rw [hk]; rfl
  have HW := Lib.hid hW
  clear hk hW
  unfold NodeV.val at HShut ⊢
  go_enter Tryz.func55, Tryz.ntmps55
  go_wp2
  refine wp_draw_stages 76 9 [false, false, false, false, false, false, false, false, true] [([true, true, true, true, true, true, true], 7)] Ext Ext.refl (fun _ _ _ => Ext.trans) (by kernel_rfl) (by kernel_rfl) ?_
  apply wpStages_cons (by simp)
  · intro w1 hw1
    simp only [sel_true, sel_nil]
    have hc := hw1.cellsOf (blk_drew HB.out.1); have hd := hw1.cellsOf (blk_drew HB.out.2.2)
    repeat ((with_reducible refine wpStill_step (fun K hK => ?_)); go_simp; refine hK _ ?_; clear hK K)
    exact wpStill_nil rfl
  try simp only [List.getD_cons_succ, List.getD_cons_zero]
  go_wp2_with (go_at_call 51; refine (HShut.out _ HE.out.drew).mono ?_; rintro e w2 ⟨rfl, hE2⟩; have HE2 := Lib.hid hE2; clear hE2)
  refine ⟨HE2.out, ?_⟩
  have hE2 : Ext ((w.alloc (nodeObj sx)).alloc (nodeObj dx)).drew w2 := HE2.out
  have HB2 := Lib.hid (And.intro (hE2.block (blk_drew HB.out.1)) (And.intro (hE2.block (blk_drew HB.out.2.1)) (hE2.block (blk_drew HB.out.2.2))))
  have HE3 := Lib.hid (HE.out.drew.trans hE2); clear hE2
  refine wpStages_nil ?_
  simp only [sel_true, sel_false, sel_nil]
  repeat ((with_reducible refine wpStill_step (fun K hK => ?_)); go_simp; refine hK _ ?_; clear hK K)
  refine wpStill_nil ?_
  try simp only [List.drop_succ_cons, List.drop_zero]
  have hjb2 := HB2.out.1
  have hsb2 := HB2.out.2.1
  have hdb2 := HB2.out.2.2
  have s0 := blk_cell hsb2 (i := 0) rfl
  have s1 := blk_cell hsb2 (i := 1) rfl
  have s2 := blk_cell hsb2 (i := 2) rfl
  have s3 := blk_cell hsb2 (i := 3) rfl
  have s4 := blk_cell hsb2 (i := 4) rfl
  have d0 := blk_cell hdb2 (i := 0) rfl
  have d1 := blk_cell hdb2 (i := 1) rfl
  have d2 := blk_cell hdb2 (i := 2) rfl
  have d3 := blk_cell hdb2 (i := 3) rfl
  have d4 := blk_cell hdb2 (i := 4) rfl
  clear hjb2 hsb2 hdb2
  go_wp2
  clear s0 s1 s2 s3 s4 d0 d1 d2 d3 d4
  apply wp_draw_fork 76 9 [true, true, false, true, true, true, true] 2 7 [] [([], 7), ([], 8)] [] [([], 2), ([], 8)] (Below w2.heap.size) (Below.refl w2.heap.size) (fun _ _ _ => Below.trans) (by kernel_rfl) (by kernel_rfl) (by simp)
  · intro w1 hw1
    simp only [sel_true, sel_false, sel_nil]
    have hc := (show Ext w2.drew w1 from hw1).cellsOf (blk_drew HB2.out.2.1)
    repeat ((with_reducible refine wpStill_step (fun K hK => ?_)); go_simp; refine hK _ ?_; clear hK K)
    exact wpStill_nil rfl
  · try simp only [List.getD_cons_succ, List.getD_cons_zero]
    go_wp2_with fail
    refine ⟨below_ad w2 _, ?_⟩
    have hO : OwnC w (.slice (some ⟨w2.heap.size, 0, none⟩) 1 1) [(sx, true)] (w2.alloc (.cells #[.string sx.path, .int .i64 sx.kind, .int .i64 sx.mode, .int .i64 sx.time, .string sx.data, .bool true] 65)).drew := OwnL.drew (OwnL.one HE3.out (sx, true) #[.string sx.path, .int .i64 sx.kind, .int .i64 sx.mode, .int .i64 sx.time, .string sx.data, .bool true] rfl (cellC_len _))
    have HO := Lib.hid hO; clear hO
    apply wpStages_cons (by simp)
    · intro w1 hw1
      simp only [sel_nil]
      exact wpStill_nil rfl
    try simp only [List.getD_cons_succ, List.getD_cons_zero]
    go_wp2_with (go_at_call 37; refine (HW.out _ (HE3.out.alloc _).drew).mono ?_; rintro e w5 ⟨R, hRl, hRb, a5, c5, rfl, hE5, hA5, hc5⟩; have H5 := Lib.hid (And.intro hE5 (And.intro hA5 (And.intro hRl hRb))); clear hE5 hA5 hc5 hRl hRb)
    refine ⟨Below.mono H5.out.1 (by show w2.heap.size ≤ (w2.alloc _).heap.size; rw [World.size_alloc]; exact Nat.le_succ _), ?_⟩
    obtain ⟨ml, hml⟩ : ∃ ml, R.length = ml := ⟨_, rfl⟩
    rw [hml]
    have HMl := Lib.hid hml; clear hml
    apply wpStages_cons (by simp)
    · intro w1 hw1
      simp only [sel_nil]
      exact wpStill_nil rfl
    try simp only [List.getD_cons_succ, List.getD_cons_zero]
    go_wp2_with (at_builtin; refine cells_app rfl _ _ rfl w _ [(sx, true)] rfl (HO.out.ext H5.out.1) a5 c5 ml R HMl.out.symm rfl H5.out.2.1 (by rw [List.length_singleton]; have := H5.out.2.2.1; omega) ?_; intro v6 w6 hown6 hg6; have H6 := Lib.hid (And.intro hown6 hg6); clear hown6 hg6)
    refine ⟨grown_below H6.out.2 (fun g hg => by have hg' : (Value.slice (some ⟨w2.heap.size, 0, none⟩) 1 1).ownBlock = some g := hg; have h : w2.heap.size = g := by injection hg'
                                                 omega) (by have := H5.out.1.size; have h0 : (w2.alloc (.cells #[.string sx.path, .int .i64 sx.kind, .int .i64 sx.mode, .int .i64 sx.time, .string sx.data, .bool true] 65)).drew.heap.size = w2.heap.size + 1 := World.size_alloc _ _; omega), ?_⟩
    simp only [Act.put, List.setIfInBounds_toArray, List.set_cons_succ, List.set_cons_zero]
    refine wpStages_nil ?_
    simp only [sel_nil]
    refine wpStill_nil ?_
    try simp only [List.drop_succ_cons, List.drop_zero]
    go_wp2
    go_ret
    exact ⟨R, H5.out.2.2.1, H5.out.2.2.2, cells_told H6.out.1⟩
  · try simp only [List.getD_cons_succ, List.getD_cons_zero]
    go_wp2_with (go_at_call 37; refine (HW.out _ HE3.out.drew).mono ?_; rintro e w5 ⟨R, hRl, hRb, a5, c5, rfl, hE5, hA5, hc5⟩; have H5 := Lib.hid (And.intro hE5 (And.intro hA5 (And.intro hRl hRb))); clear hE5 hA5 hc5 hRl hRb)
    refine ⟨H5.out.1, ?_⟩
    obtain ⟨ml, hml⟩ : ∃ ml, R.length = ml := ⟨_, rfl⟩
    rw [hml]
    have HMl := Lib.hid hml; clear hml
    apply wpStages_cons (by simp)
    · intro w1 hw1
      simp only [sel_nil]
      exact wpStill_nil rfl
    try simp only [List.getD_cons_succ, List.getD_cons_zero]
    go_wp2_with fail
    have h25 : w2.heap.size ≤ w5.heap.size := H5.out.1.size
    refine ⟨(Below.refl _ _).alloc h25 _, ?_⟩
    have hO : OwnC w (.slice (some ⟨w5.heap.size, 0, none⟩) 1 1) [(sx, true)] (w5.alloc (.cells #[.string sx.path, .int .i64 sx.kind, .int .i64 sx.mode, .int .i64 sx.time, .string sx.data, .bool true] 65)) := OwnL.one (HE3.out.drew.trans H5.out.1) (sx, true) #[.string sx.path, .int .i64 sx.kind, .int .i64 sx.mode, .int .i64 sx.time, .string sx.data, .bool true] rfl (cellC_len _)
    have HO := Lib.hid hO; clear hO
    apply wpStages_cons (by simp)
    · intro w1 hw1
      simp only [sel_nil]
      exact wpStill_nil rfl
    try simp only [List.getD_cons_succ, List.getD_cons_zero]
    go_wp2_with (at_builtin; refine cells_app rfl _ _ rfl w _ [(sx, true)] rfl HO.out a5 c5 ml R HMl.out.symm rfl (H5.out.2.1.ext ((Ext.refl _).alloc _)) (by rw [List.length_singleton]; have := H5.out.2.2.1; omega) ?_; intro v6 w6 hown6 hg6; have H6 := Lib.hid (And.intro hown6 hg6); clear hown6 hg6)
    refine ⟨grown_below H6.out.2 (fun g hg => by have hg' : (Value.slice (some ⟨w5.heap.size, 0, none⟩) 1 1).ownBlock = some g := hg; have h : w5.heap.size = g := by injection hg'
                                                 omega) (by rw [World.size_alloc]; omega), ?_⟩
    simp only [Act.put, List.setIfInBounds_toArray, List.set_cons_succ, List.set_cons_zero]
    refine wpStages_nil ?_
    simp only [sel_nil]
    refine wpStill_nil ?_
    try simp only [List.drop_succ_cons, List.drop_zero]
    go_wp2
    go_ret
    exact ⟨R, H5.out.2.2.1, H5.out.2.2.2, cells_told H6.out.1⟩
end
end Go.Proofs.YtiopahkigbdmcaaGreat
/- The mirror at a place (layer 14): all ways together. -/
namespace Go.Proofs.YtiopahkigbdmcaaGreat
open Go Go.Proofs Go.RowKit

def zeroN : NodeV := ⟨⟨#[]⟩, 0, 0, 0, ⟨#[]⟩⟩
/-- What a look among the children tells. -/
structure Found (T : List NodeV) (q : ByteArray) (x : NodeV) (b : Bool) : Prop where
  yes : b = true → x ∈ T ∧ x.path = q
  no : b = false → ∀ z ∈ T, nm z ≠ keyP q
theorem found_kid {T : List NodeV} (hT : TreeL T) {p q : ByteArray} (hd : (keyP q).dropLast = keyP p) : ∃ x b, (kidsF T p q).getD nodeZ' = x.val ∧ (kidsF T p q).isSome = b ∧ Found T q x b := by
  cases h : kidsF T p q with
  | none =>
    refine ⟨zeroN, false, rfl, rfl, (fun e => by cases e), fun _ z hz e => ?_⟩
    have hp : z.path = q := txt_inj (cut_inj e)
    have := kids_of hT.sorted hz (p := p) (by rw [e]; exact hd)
    rw [hp, h] at this
    cases this
  | some v =>
    obtain ⟨x, hx, hq, _, rfl⟩ := kids_some h
    exact ⟨x, true, rfl, rfl, (fun _ => ⟨hx, hq⟩), fun e => by cases e⟩
theorem inmo_mem {rs : Rules} {del : Bool} {s d : List NodeV} {c : NodeV × Bool} (h : InMo rs del s d c) : c.1 ∈ s ++ d := by
  unfold InMo at h
  rw [List.mem_append]
  split at h
  · exact Or.inl h.1
  · exact Or.inr h.1
theorem cells_len {s d : List NodeV} {R : List (NodeV × Bool)} (hs : SortedC R) (hm : ∀ c ∈ R, c.1 ∈ s ++ d) (h1 : s.length ≤ 1000) (h2 : d.length ≤ 1000) : R.length ≤ 2000 := by
  haveI : DecidableEq NodeV := fun a b => Classical.propDecidable (a = b)
  have := nodup_len (L := R.map Prod.fst) (U := s ++ d) (List.pairwise_map.2 (hs.imp fun {a b} h e => by rw [e] at h; exact cmp_irr _ h)) (fun x hx => by
    obtain ⟨c, hc, rfl⟩ := List.mem_map.1 hx
    exact hm c hc)
  rw [List.length_map, List.length_append] at this
  omega
theorem at_len {rs : Rules} {del : Bool} {s d : List NodeV} (hS : Sides' rs s d) {P : Pth} {R : List (NodeV × Bool)} (h : AtIs rs del s d P R) : R.length ≤ 2000 :=
  cells_len h.1 (fun c hc => inmo_mem ((h.2 c).1 hc).1) hS.ssm.1 hS.dsm.1
theorem below_len {rs : Rules} {del : Bool} {s d : List NodeV} (hS : Sides' rs s d) {P : Pth} {R : List (NodeV × Bool)} (h : BelowIs rs del s d P R) : R.length ≤ 2000 :=
  cells_len h.1 (fun c hc => inmo_mem ((h.2 c).1 hc).1) hS.ssm.1 hS.dsm.1
def AtTold (rs : Rules) (del : Bool) (s d : List NodeV) (P : Pth) (w : World) (e : Ending) (w' : World) : Prop := ∃ R, R.length ≤ 2000 ∧ AtIs rs del s d P R ∧ CellsTold R w e w'
def BelowTold (rs : Rules) (del : Bool) (s d : List NodeV) (P : Pth) (w : World) (e : Ending) (w' : World) : Prop := ∃ R, R.length ≤ 2000 ∧ BelowIs rs del s d P R ∧ CellsTold R w e w'
theorem atW (jb : Nat) (s d : List NodeV) (rs : Rules) (del : Bool) (hS : Sides' rs s d) (q : ByteArray) (hq0 : keyP q ≠ []) (hop : openM rs s d (keyP q)) (sx dx : NodeV) (sent there : Bool) (w : World) (hJ : JobAt w jb s d rs del) (hs : Found s q sx sent) (hd : Found d q dx there) (hor : sent = true ∨ there = true)
    (hW : ∀ mine, (mine = true ↔ dirAt d (keyP q)) → dirAt s (keyP q) → ¬ outAt rs d (keyP q) → ∀ w', Ext w w' → Calls Tryz.prog 37 #[.pointer (some ⟨jb, 0, none⟩), .string q, .bool mine] w' (BelowTold rs del s d (keyP q) w')) :
    Calls Tryz.prog 55 #[.pointer (some ⟨jb, 0, none⟩), sx.val, .bool sent, dx.val, .bool there] w (AtTold rs del s d (keyP q) w) := by
  have done : ∀ {R e w'}, AtIs rs del s d (keyP q) R → CellsTold R w e w' → AtTold rs del s d (keyP q) w e w' := fun h1 h2 => ⟨_, at_len hS h1, h1, h2⟩
  have hdx : there = true → dx ∈ d ∧ nm dx = keyP q := fun h => ⟨(hd.yes h).1, by unfold nm keyP; rw [(hd.yes h).2]⟩
  have hsx : sent = true → sx ∈ s ∧ nm sx = keyP q := fun h => ⟨(hs.yes h).1, by unfold nm keyP; rw [(hs.yes h).2]⟩
  have hT := hS.sides
  have hnout : there = false ∨ outF rs dx = false → ¬ outAt rs d (keyP q) := fun h ⟨y, hy, h1, h2⟩ => by
    cases hth : there
    · exact hd.no hth y hy h1
    · obtain ⟨h3, h4⟩ := hdx hth
      have := hT.dd.sorted.uniq hy h3 (by rw [h1, h4])
      subst this
      rcases h with h | h
      · rw [hth] at h; cases h
      · rw [h2] at h; cases h
  have hdir : there = true → (dirAt d (keyP q) ↔ dx.kind = 1) := fun h => by
    obtain ⟨h3, h4⟩ := hdx h
    constructor
    · rintro ⟨y, hy, h1, h2⟩
      have := hT.dd.sorted.uniq hy h3 (by rw [h1, h4])
      subst this; exact h2
    · intro h5; exact ⟨dx, h3, h4, h5⟩
  have hns : sent = false → ∀ z ∈ s, nm z ≠ keyP q := hs.no
  have hnd : there = false → ¬ dirAt d (keyP q) := fun h ⟨y, hy, h1, _⟩ => hd.no h y hy h1
  cases there
  · -- the receiver has nothing here
    have hst : sent = true := by
      rcases hor with h | h
      · exact h
      · cases h
    subst hst
    obtain ⟨h1, h2⟩ := hsx rfl
    have hno := hnout (Or.inl rfl)
    by_cases hk : sx.kind = 1
    · refine (at_dir0W jb s d rs del sx dx w hS hJ hk (fun w' hw' => ?_)).mono ?_
      · rw [(hs.yes rfl).2, h2]
        exact hW false ⟨(fun e => by cases e), fun e => (hnd rfl e).elim⟩ ⟨sx, h1, h2, hk⟩ hno w' hw'
      · rintro e w2 ⟨R, _, hR, hc⟩
        rw [h2] at hR
        exact done (at_dir hT hop h1 h2 hk hno hR) hc
    · refine (at_one0W jb s d rs del sx dx w hS hJ hk).mono fun e w2 hc => ?_
      exact done (at_one hT hq0 hop h1 h2 hk hno (Or.inl fun y hy h => (hd.no rfl y hy h).elim)) hc
  · obtain ⟨h3, h4⟩ := hdx rfl
    cases ho : outF rs dx
    · have hno := hnout (Or.inr ho)
      cases sent
      · refine (at_left0W jb s d rs del sx dx w hS hJ h3 ho).mono fun e w2 hc => ?_
        rw [h4] at hc
        exact done (at_left hT hq0 hop h3 h4 hno (Or.inl (hns rfl))) hc
      · obtain ⟨h1, h2⟩ := hsx rfl
        by_cases hk : sx.kind = 1
        · refine (at_dir1W jb s d rs del sx dx w hS hJ hk (hS.dsm.2 dx h3).1 ho (dx.kind == 1) rfl (fun w' hw' => ?_)).mono ?_
          · rw [(hs.yes rfl).2, h2]
            exact hW (dx.kind == 1) (by rw [hdir rfl, beq_iff_eq]) ⟨sx, h1, h2, hk⟩ hno w' hw'
          · rintro e w2 ⟨R, _, hR, hc⟩
            rw [h2] at hR
            exact done (at_dir hT hop h1 h2 hk hno hR) hc
        · by_cases hkd : dx.kind = 1
          · by_cases hl : leftF rs del d (nm dx) = []
            · refine (at_noneW jb s d rs del sx dx w hS hJ hk h3 ho hkd hl).mono fun e w2 hc => ?_
              rw [h4] at hl
              exact done (at_one hT hq0 hop h1 h2 hk hno (Or.inr hl)) hc
            · refine (at_left1W jb s d rs del sx dx w hS hJ hk h3 ho hkd hl).mono fun e w2 hc => ?_
              rw [h4] at hl hc
              refine done (at_left hT hq0 hop h3 h4 hno (Or.inr ⟨?_, hkd, hl⟩)) hc
              rintro ⟨z, hz, h5, h6⟩
              have := hT.ss.sorted.uniq hz h1 (by rw [h5, h2])
              subst this; exact hk h6
          · refine (at_one1W jb s d rs del sx dx w hS hJ hk (hS.dsm.2 dx h3).1 ho hkd).mono fun e w2 hc => ?_
            refine done (at_one hT hq0 hop h1 h2 hk hno (Or.inl fun y hy h => ?_)) hc
            have := hT.dd.sorted.uniq hy h3 (by rw [h, h4])
            subst this; exact hkd
    · refine (at_outW jb s d rs del sx dx w hS hJ sent h3 ho).mono fun e w2 hc => ?_
      rw [h4] at hc
      exact done (at_out hT hq0 hop h3 h4 ho) hc
end Go.Proofs.YtiopahkigbdmcaaGreat
/- The mirror beneath a place (layer 14): the walk. -/
namespace Go.Proofs.YtiopahkigbdmcaaGreat
open Go Go.Proofs Go.RowKit

theorem Upto.len {rs : Rules} {del : Bool} {s d : List NodeV} {Ks : List ByteArray} {k : Nat} {R : List (NodeV × Bool)} (hS : Sides' rs s d) (h : Upto Prod.fst (InMo rs del s d) Ks k R) : R.length ≤ 2000 :=
  cells_len h.1 (fun c hc => inmo_mem ((h.2 c).1 hc).1) hS.ssm.1 hS.dsm.1
theorem open_kid {rs : Rules} {s d : List NodeV} {P Q : Pth} (h : P = [] ∨ (dirAt s P ∧ openM rs s d P ∧ ¬ outAt rs d P)) (hQ : Q.dropLast = P) : openM rs s d Q := by
  intro U h0 hU hne
  have hUP : U <+: P := by rw [← hQ]; exact pre_drop hU hne
  rcases h with h | ⟨h1, h2, h3⟩
  · rw [h, List.prefix_nil] at hUP; exact absurd hUP h0
  · by_cases e : U = P
    · rw [e]; exact ⟨h1, h3⟩
    · exact h2 U h0 hUP e
theorem kids_not {d : List NodeV} (hd : TreeL d) {p : ByteArray} (h : ¬ (keyP p = [] ∨ dirAt d (keyP p))) : kidsF d p = fun _ => none := by
  funext q
  cases hk : kidsF d p q with
  | none => rfl
  | some v =>
    obtain ⟨x, hx, _, h2, _⟩ := kids_some hk
    exfalso
    have h0 : keyP p ≠ [] := fun e => h (Or.inl e)
    obtain ⟨y, hy, h3, h4⟩ := hd.anc hx h0 (by rw [← h2]; exact drop_pre _) (by rw [← h2]; exact drop_ne (nm_ne (hd.good x hx)))
    exact h (Or.inr ⟨y, hy, h3, h4⟩)
set_option maxRecDepth 100000 in
set_option maxHeartbeats 4000000 in
theorem walkW (jb : Nat) (s d : List NodeV) (rs : Rules) (del : Bool) (hS : Sides' rs s d) : ∀ (f : Nat) (p : ByteArray) (mine : Bool) (w : World), p.size ≤ 1000 → 17 ≤ f + (keyP p).length →
    (keyP p = [] ∨ (dirAt s (keyP p) ∧ openM rs s d (keyP p) ∧ ¬ outAt rs d (keyP p))) → (mine = true ↔ keyP p = [] ∨ dirAt d (keyP p)) → JobAt w jb s d rs del →
    Calls Tryz.prog 37 #[.pointer (some ⟨jb, 0, none⟩), .string p, .bool mine] w (BelowTold rs del s d (keyP p) w) := by
  intro f
  induction f with
  | zero =>
    intro p mine w _ hf hop _ _
    exfalso
    rcases hop with h | ⟨⟨y, hy, h, _⟩, _⟩
    · rw [h] at hf; simp at hf
    · have := nm_len (hS.sides.ss.good y hy)
      rw [← h] at hf
      omega
  | succ f ih =>
    intro p mine w hps hf hop hmine hJ
    have HIH := Lib.hid ih; clear ih
    have HSs := Lib.hid hS
    have hjl := hJ.lt
    obtain ⟨bs, bd, ta, tc, ra, rc, hjb, hBs, hBd, hTa, hRa⟩ := hJ.mem
    obtain ⟨Is, hIs1, hIs2⟩ := hBs
    obtain ⟨I, hI1, hI2⟩ := hBd
    have hm : ∃ m : Option Nat, (mine = true → I p = m) ∧ (mine = false → m = none) ∧ MapV w m (kidsF d p) := by
      cases hmi : mine
      · exact ⟨none, (fun e => by cases e), fun _ => rfl, by rw [kids_not hS.sides.dd (fun h => by rw [← hmine, hmi] at h; cases h)]; exact fun _ => rfl⟩
      · exact ⟨I p, fun _ => rfl, (fun e => by cases e), hI2 p⟩
    obtain ⟨m, hm1, hm2, hmv⟩ := hm
    have HMV := Lib.hid hmv
    have HBo := Lib.hid (bothW (Is p) m (kidsF s p) (kidsF d p) (s.map NodeV.path ++ d.map NodeV.path) w (hIs2 p) hmv ((few_kids s hS.ssm p).mono fun q h => List.mem_append.2 (Or.inl h)) ((few_kids d hS.dsm p).mono fun q h => List.mem_append.2 (Or.inr h)) (by rw [List.length_append, List.length_map, List.length_map]; have := hS.dsm.1; have := hS.ssm.1; omega))
    clear hmv
    have HP := Lib.hid (And.intro hps (And.intro hf hop))
    have HI := Lib.hid (And.intro hIs1 hIs2)
    have HJ := Lib.hid (And.intro hJ hjb)
    have hlk := MapIs.look hI1 false outer_under zero_inner p (by omega)
    have hlks := MapIs.look hIs1 false outer_under zero_inner p (by omega)
    simp only [map_getD, Bool.false_eq_true, if_false] at hlk hlks
    have j0 := blk_cell hjb (i := 0) rfl
    have j1 := blk_cell hjb (i := 1) rfl
    clear hTa hRa hJ hjb hIs1 hI1 hIs2 hI2 hf hop hps hmine hS
    obtain ⟨ms, hms⟩ : ∃ m, Is p = m := ⟨_, rfl⟩
    rw [hms] at hlks HBo
    have HMs := Lib.hid hms; clear hms
    cases mine
    case' false => obtain rfl := hm2 rfl
    case' true => rw [hm1 rfl] at hlk
    all_goals
      clear hm1 hm2
      go_enter Tryz.func37, Tryz.ntmps37
      go_wp2_with (first | (go_at_call 54; refine (HBo.out).mono ?_; rintro e w5 ⟨ka, kc, Ks, rfl, hKA, hE5, hKs, hKm⟩; have H5 := Lib.hid (And.intro hKA (And.intro hE5 (And.intro hKs hKm))); clear hKA hE5 hKs hKm))
      have HK := Lib.hid (keys_of HSs.out.sides.ss HSs.out.sides.dd H5.out.2.2.1 H5.out.2.2.2)
      clear hlk hlks j0 j1
      obtain ⟨N, hN⟩ : ∃ N, Ks.length = N := ⟨_, rfl⟩
      have hNb : N ≤ 2000 := by
        have h1 : Ks.Nodup := H5.out.2.2.1.imp (fun {a b} h e => by rw [e] at h; exact cmp_irr _ h)
        have h2 := nodup_len (U := s.map NodeV.path ++ d.map NodeV.path) h1 (fun q hq => by
          rw [List.mem_append]
          rcases (HK.out.mem q).1 hq with ⟨x, hx, rfl, _⟩ | ⟨x, hx, rfl, _⟩
          · exact Or.inl (List.mem_map_of_mem hx)
          · exact Or.inr (List.mem_map_of_mem hx))
        rw [List.length_append, List.length_map, List.length_map, hN] at h2
        have := HSs.out.dsm.1; have := HSs.out.ssm.1; omega
      rw [hN]
      have HNn := Lib.hid hN; clear hN
      go_loopw [7, 10, 11, 12, 13, 14, 32] (fun v _ _ _ _ _ i wr => ∃ (k : Nat) (L : List (NodeV × Bool)), k ≤ N ∧ i = .int .i64 k ∧ OwnC w v L wr ∧ OwnT w (.slice ka Ks.length kc) Ks wr ∧ Upto Prod.fst (InMo rs del s d) Ks k L) (fun _ _ _ _ _ _ i _ => N - (intOf i).toNat)
      case atStart => exact ⟨0, [], Nat.zero_le _, rfl, ⟨H5.out.2.1, World.ownsRow_nil _ _ _ _⟩, H5.out.1, Upto.start⟩
      case round =>
        obtain ⟨k, L, hkN, rfl, hown, hE5r, hup⟩ := hrel
        have hLd : L.length ≤ 2000 := hup.len HSs.out
        obtain ⟨av, cv, rfl, hcv⟩ := hown.slice
        have HR := Lib.hid (And.intro hown (And.intro hE5r hup)); clear hown hE5r hup
        obtain ⟨l, hl⟩ : ∃ l, L.length = l := ⟨_, rfl⟩
        rw [hl] at hcv hLd ⊢
        have HLn := Lib.hid hl; clear hl
        by_cases hlt : k < N
        · have hkl : k < Ks.length := by rw [HNn.out]; exact hlt
          obtain ⟨kb, ko, rfl, hkb, hkall⟩ := ListAt.block (HR.out.2.1.done strC_len) hkl
          have hq0 := hkall 0 _ rfl
          rw [Nat.mul_one, Nat.add_zero] at hq0
          clear hkall
          obtain ⟨q, hq⟩ : ∃ q, Ks[k] = q := ⟨_, rfl⟩
          have hQ := hq
          have hkey := HK.out.key (List.getElem_mem hkl)
          rw [hq] at hq0 hkey
          have hqm : q ∈ Ks := by rw [← hq]; exact List.getElem_mem hkl
          have HQ := Lib.hid (And.intro hQ (And.intro hqm hkey)); clear hq hQ
          have hqs : q.size ≤ 1000 := by
            rcases (HK.out.mem q).1 hqm with ⟨x, hx, rfl, _⟩ | ⟨x, hx, rfl, _⟩
            · exact (HSs.out.ssm.2 x hx).1
            · exact (HSs.out.dsm.2 x hx).1
          obtain ⟨sx, sent, hsv, hsi, hsf⟩ := found_kid HSs.out.sides.ss hkey.2
          obtain ⟨dx, there, hdv, hdi, hdf⟩ := found_kid HSs.out.sides.dd hkey.2
          have hor : sent = true ∨ there = true := by rw [← hsi, ← hdi]; exact (H5.out.2.2.2 q).1 hqm
          have hEr : Ext w wr := HR.out.1.1
          have hlk0 := MapIs.look (HI.out.1.ext hEr) false outer_under zero_inner p (by have := HP.out.1; omega)
          simp only [map_getD, Bool.false_eq_true, if_false] at hlk0
          rw [HMs.out] at hlk0
          have hlk1 := MapV.look (show MapV wr ms (kidsF s p) by rw [← HMs.out]; exact (HI.out.2 p).ext hEr) true map_under zero_node q (by omega)
          rw [hsv, hsi] at hlk1
          simp only [if_true] at hlk1
          have j0 := blk_cell (hEr.block HJ.out.2) (i := 0) rfl
          have HOp := Lib.hid (open_kid HP.out.2.2 hkey.2)
          have HC := Lib.hid (fun w' (h : Ext wr w') => atW jb s d rs del HSs.out q hkey.1 HOp.out sx dx sent there w' (HJ.out.1.ext (hEr.trans h)) hsf hdf hor (fun mine hmi hds hno w2 hw2 => HIH.out q mine w2 (by omega) (by have := HP.out.2.1; have := child_len hkey.1 hkey.2; omega) (Or.inr ⟨hds, HOp.out, hno⟩) (by rw [hmi]; exact ⟨Or.inr, fun h => h.resolve_left hkey.1⟩) (HJ.out.1.ext ((hEr.trans h).trans hw2))))
          clear hkey hqm hsf hdf hor
          have hlk2 := MapV.look (HMV.out.ext (hEr.trans ((Ext.refl wr).alloc (nodeObj sx)))) true map_under zero_node q (by omega)
          rw [hdv, hdi] at hlk2
          simp only [if_true] at hlk2
          clear hsv hdv hsi hdi
          unfold NodeV.val at hlk1 HC hlk2
          unfold nodeObj at hlk2
          have hO' : OwnC w (.slice av l cv) L wr := by have h := HR.out.1; rw [HLn.out] at h; exact h
          have HO' := Lib.hid hO'; clear hO'
          go_wp2_with (first | (go_at_call 55; refine (HC.out _ (((Ext.refl wr).alloc _).alloc _)).mono ?_; rintro e w6 ⟨M, hMl, hMb, a6, c6, rfl, hE6, hA6, hc6⟩; have H6 := Lib.hid (And.intro hE6 (And.intro hA6 (And.intro hMl hMb))); clear hE6 hA6 hMl hMb hc6; obtain ⟨ml, hml⟩ : ∃ ml, M.length = ml := ⟨_, rfl⟩; rw [hml]; have HMl := Lib.hid hml; clear hml) | (at_builtin; refine cells_app rfl _ _ rfl w _ L rfl (HO'.out.ext ((((Ext.refl wr).alloc _).alloc _).trans H6.out.1)) a6 c6 ml M HMl.out.symm rfl H6.out.2.1 (by have := H6.out.2.2.1; rw [HLn.out]; omega) ?_; intro v7 w7 hown7 hE7; have H7 := Lib.hid (And.intro hown7 hE7); clear hown7 hE7))
          have hT7 : OwnT w (.slice (some ⟨kb, ko, none⟩) Ks.length kc) Ks w7 := by
            have hEE := (((Ext.refl wr).alloc _).alloc _).trans H6.out.1
            have h6 := HR.out.2.1.ext hEE
            have h6o := HO'.out.ext hEE
            exact h6.kept H7.out.2 (Below.trans h6.1 (grown_below H7.out.2 (fun g hg => (h6o.2.lt g hg).1) h6.1.size)) (own_two h6 h6o (by decide))
          have hat := H6.out.2.2.2
          refine ⟨⟨k + 1, L ++ M, by omega, by go_num, H7.out.1, hT7, Upto.next HK.out hkl HR.out.2.2 hat.1 (fun c => by rw [HQ.out.1]; exact hat.2 c)⟩, by simp [intOf]; omega⟩
        · obtain rfl : k = N := by omega
          have hup2 := upto_below HSs.out.sides HK.out (by have h := HR.out.2.2; rw [← HNn.out] at h; exact h)
          have HB := Lib.hid (And.intro hup2 (below_len HSs.out hup2)); clear hup2
          go_wp2
          go_ret
          exact ⟨L, HB.out.2, HB.out.1, av, cv, by rw [HLn.out]; rfl, HR.out.1.1, HR.out.1.done cellC_len, by rw [HLn.out]; exact hcv⟩
end Go.Proofs.YtiopahkigbdmcaaGreat
/- The mirror, and what is left of a node (layer 14): the walks. -/
namespace Go.Proofs.YtiopahkigbdmcaaGreat
open Go Go.Proofs Go.RowKit

def OfIs (rs : Rules) (del : Bool) (s d M : List NodeV) : Prop := SortedN M ∧ ∀ x, x ∈ M ↔ Mir rs del s d x
theorem OfIs.uniq {rs rs' : Rules} {del del' : Bool} {s d s' d' M N : List NodeV} (h : OfIs rs del s d M) (k : OfIs rs' del' s' d' N) (hm : ∀ x, Mir rs del s d x ↔ Mir rs' del' s' d' x) : M = N :=
  SortedN.ext h.1 k.1 fun x => by rw [h.2, k.2, hm]
theorem OfIs.is {rs : Rules} {del : Bool} {s d M N : List NodeV} (h : OfIs rs del s d M) (hN : SortedN N) (hm : ∀ x, Mir rs del s d x ↔ x ∈ N) : M = N :=
  SortedN.ext h.1 hN fun x => by rw [h.2, hm]
theorem of_below {rs : Rules} {del : Bool} {s d : List NodeV} (hS : Sides rs s d) {R : List (NodeV × Bool)} (h : BelowIs rs del s d [] R) : OfIs rs del s d (R.map Prod.fst) := by
  refine ⟨List.pairwise_map.2 h.1, fun x => ?_⟩
  rw [List.mem_map]
  constructor
  · rintro ⟨c, hc, rfl⟩
    have := ((h.2 c).1 hc).1
    unfold InMo at this
    split at this
    · exact Or.inl this
    · exact Or.inr this
  · intro hx
    have hne : [] ≠ nm x := by
      rcases hx with hx | hx
      · exact (nm_ne (hS.ss.good x hx.1)).symm
      · exact (nm_ne (hS.dd.good x hx.1)).symm
    rcases hx with hx | hx
    · exact ⟨(x, true), (h.2 _).2 ⟨hx, List.nil_prefix, hne⟩, rfl⟩
    · exact ⟨(x, false), (h.2 _).2 ⟨hx, List.nil_prefix, hne⟩, rfl⟩
theorem tree_pick {rs : Rules} {L : List NodeV} (h : TreeL L) : TreeL (pickF rs false L) := by
  refine ⟨h.sorted.filter _, fun x hx => h.good x ((List.mem_filter.1 hx).1), fun x hx => ?_⟩
  obtain ⟨h1, h2⟩ := List.mem_filter.1 hx
  simp only [Bool.and_eq_true, Bool.not_eq_true', beq_iff_eq] at h2
  rcases h.up x h1 with e | ⟨y, hy, h3, h4⟩
  · exact Or.inl e
  · refine Or.inr ⟨y, List.mem_filter.2 ⟨hy, ?_⟩, h3, h4⟩
    have hx0 := nm_ne (h.good x h1)
    have hp : nm y <+: nm x := by rw [h3]; exact drop_pre _
    have hne : nm y ≠ nm x := by rw [h3]; exact drop_ne hx0
    simp only [Bool.and_eq_true, Bool.not_eq_true', beq_iff_eq]
    constructor
    · cases hi : inF y
      · rfl
      · rw [in_below (h.good x h1) hp hi] at h2; exact h2.1
    · cases ho : outF rs y
      · rfl
      · rw [out_below (h.good x h1) (h.good y hy) hp hne h4 ho] at h2; exact h2.2
theorem mem_shown {L : List NodeV} {x : NodeV} : x ∈ shownF L ↔ x ∈ L ∧ inF x = false := by
  unfold shownF nodesIn
  rw [List.mem_filter, beq_iff_eq]
  exact Iff.rfl
theorem tree_shown {L : List NodeV} (h : TreeL L) : TreeL (shownF L) := by
  refine ⟨h.sorted.filter _, fun x hx => h.good x ((List.mem_filter.1 hx).1), fun x hx => ?_⟩
  obtain ⟨h1, h2⟩ := List.mem_filter.1 hx
  rcases h.up x h1 with e | ⟨y, hy, h3, h4⟩
  · exact Or.inl e
  · refine Or.inr ⟨y, mem_shown.2 ⟨hy, ?_⟩, h3, h4⟩
    have hp : nm y <+: nm x := by rw [h3]; exact drop_pre _
    have e1 : inF x = false := (mem_shown.1 hx).2
    cases hi : inF y
    · rfl
    · rw [in_below (h.good x h1) hp hi] at e1; cases e1
theorem sides_of {rs : Rules} {S D : List NodeV} (hS : SmallL S) (hD : SmallL D) (hsh : Short rs) (hTS : TreeL S) (hTD : TreeL D) : Sides' rs (pickF rs false S) (shownF D) := by
  refine ⟨⟨tree_pick hTS, tree_shown hTD, fun x hx => ?_, fun x hx => ?_, fun x hx => ?_⟩, hS.filter _, hD.filter _, hsh⟩
  · have := (List.mem_filter.1 hx).2
    simp only [Bool.and_eq_true, Bool.not_eq_true', beq_iff_eq] at this
    exact this.2
  · have := (List.mem_filter.1 hx).2
    simp only [Bool.and_eq_true, Bool.not_eq_true', beq_iff_eq] at this
    exact this.1
  · exact (mem_shown.1 hx).2
def OfMTold (rs : Rules) (del : Bool) (s d : List NodeV) (w : World) (e : Ending) (w' : World) : Prop := ∃ M, OfIs rs del s d M ∧ M.length ≤ 2000 ∧ NodesTold M w e w'
theorem key_nil : keyP ⟨#[]⟩ = [] := by decide
set_option maxRecDepth 100000 in
set_option maxHeartbeats 4000000 in
set_option maxRecDepth 100000 in
theorem ofMW (sa da ra : Option Addr) (S D : List NodeV) (rs : Rules) (sc dc rc : Nat) (del : Bool) (w : World) (hS : SmallL S) (hD : SmallL D) (hSh : Short rs) (hTs : TreeL S) (hTd : TreeL D) (hAs : NodesAt w sa S) (hAd : NodesAt w da D) (hR : RulesAt w ra rs) :
    Calls Tryz.prog 16 #[.slice sa S.length sc, .slice da D.length dc, .slice ra rs.length rc, .bool del] w (OfMTold rs del (pickF rs false S) (shownF D) w) := by
  have HSd := Lib.hid (sides_of hS hD hSh hTs hTd)
  have HO := Lib.hid (openMW sa da ra S D rs sc dc rc del w hS hD hSh (tree_pick hTs) (tree_shown hTd) hAs hAd hR)
  have HW := Lib.hid (fun jb w' (h : JobAt w' jb (pickF rs false S) (shownF D) rs del) => walkW jb _ _ rs del HSd.out 17 ⟨#[]⟩ true w' (by decide) (by rw [key_nil]; decide) (Or.inl key_nil) ⟨fun _ => Or.inl key_nil, fun _ => rfl⟩ h)
  rw [key_nil] at HW
  clear hS hD hSh hTs hTd hAs hAd hR
  obtain ⟨n, hn⟩ : ∃ n, S.length = n := ⟨_, rfl⟩
  obtain ⟨m, hm⟩ : ∃ m, D.length = m := ⟨_, rfl⟩
  obtain ⟨r, hr⟩ : ∃ r, rs.length = r := ⟨_, rfl⟩
  rw [hn, hm, hr] at HO
  rw [hn, hm, hr]
  clear hn hm hr
  obtain ⟨s, hs⟩ : ∃ s, pickF rs false S = s := ⟨_, rfl⟩
  obtain ⟨d, hd⟩ : ∃ d, shownF D = d := ⟨_, rfl⟩
  rw [hs, hd] at HO HW HSd
  rw [hs, hd]
  clear hs hd
  go_enter Tryz.func16, Tryz.ntmps16
  go_wp2_with (first | (go_at_call 36; refine (HO.out).mono ?_; rintro e w1 ⟨jb, rfl, hJ, hE1⟩; have H1 := Lib.hid (And.intro hJ hE1); clear hJ hE1) | (go_at_call 37; refine (HW.out jb _ H1.out.1).mono ?_; rintro e w2 ⟨R, hRl, hRb, a2, c2, rfl, hE2, hA2, hc2⟩; have H2 := Lib.hid (And.intro hE2 (And.intro hA2 (And.intro hRl hRb))); clear hE2 hA2 hc2 hRl hRb))
  have hE2 : Ext w w2 := Ext.trans H1.out.2 H2.out.1
  have HE2 := Lib.hid hE2; clear hE2
  have hN := H2.out.2.2.1
  obtain ⟨N, hNn⟩ : ∃ N, R.length = N := ⟨_, rfl⟩
  rw [hNn] at hN ⊢
  have HN := Lib.hid hNn; clear hNn
  go_loopw [9, 11, 19] (fun v _ i wr => ∃ (k : Nat), k ≤ N ∧ i = .int .i64 k ∧ OwnN w2 v ((R.take k).map Prod.fst) wr) (fun _ _ i _ => N - (intOf i).toNat)
  case atStart => exact ⟨0, Nat.zero_le _, rfl, OwnL.start w2⟩
  case round =>
    obtain ⟨k, hkN, rfl, hown⟩ := hrel
    have hE := hown.1
    have HR := Lib.hid hown; clear hown
    by_cases hlt : k < N
    · have hkl : k < R.length := by rw [HN.out]; exact hlt
      have hkp : ((R.take k).map Prod.fst).length ≤ 90000 := by rw [List.length_map, List.length_take]; omega
      obtain ⟨kb, ko, rfl, hkb, hkall⟩ := ListAt.block (H2.out.2.1.ext hE) hkl
      have c0 := hkall 0 _ rfl
      have c1 := hkall 1 _ rfl
      have c2' := hkall 2 _ rfl
      have c3 := hkall 3 _ rfl
      have c4 := hkall 4 _ rfl
      have c5 := hkall 5 _ rfl
      rw [Nat.add_zero] at c0
      clear hkall hE
      have HP := Lib.hid (List.take_succ_eq_append_getElem hkl)
      obtain ⟨x, hx⟩ : ∃ x, R[k] = x := ⟨_, rfl⟩
      rw [hx] at HP c0 c1 c2' c3 c4 c5
      clear hx hkl
      obtain ⟨y, o⟩ := x
      simp only at c0 c1 c2' c3 c4 c5
      go_wp2_with (at_builtin; refine node_append rfl _ _ rfl w2 _ _ rfl ((HR.out.alloc _).alloc _) y _ 1 rfl (cells_at _ _ _ (by simp)) hkp ?_; intro v' w4 hown' hE4)
      go_roundw
      case rel => exact ⟨k + 1, by omega, by go_num, by rw [HP.out, List.map_append]; exact hown'⟩
      case measure => simp [intOf]; omega
    · obtain rfl : k = N := by omega
      have HB := Lib.hid (of_below HSd.out.sides H2.out.2.2.2)
      go_wp2
      go_ret
      have h := HR.out
      rw [← HN.out, List.take_length] at h
      exact ⟨_, HB.out, by rw [List.length_map, HN.out]; exact hN, NodesTold.trans HE2.out (nodes_told h)⟩
end Go.Proofs.YtiopahkigbdmcaaGreat
