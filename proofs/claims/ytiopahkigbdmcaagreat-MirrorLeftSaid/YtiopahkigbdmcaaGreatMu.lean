/- WHAT IS LEFT OF ANY NODE OF THE RECEIVER'S; of what is left all is left: the law of layer 14 returns true for every input. -/
import Derived.Test.YtiopahkigbdmcaaGreatMt
import Derived.Test.YtiopahkigbdmcaaGreatMq
import Derived.Test.YtiopahkigbdmcaaGreatRows
import Derived.ProofKit
import Derived.Carry
/- WHAT IS LEFT OF ANY NODE OF THE RECEIVER'S .. (layer 14): the law's walk. -/
namespace Go.Proofs.YtiopahkigbdmcaaGreat
open Go Go.Proofs Go.RowKit

theorem find_none {M : List NodeV} {p : ByteArray} (h : findF M p = none) : ∀ x ∈ M, x.path ≠ p := by
  unfold findF at h
  rw [List.find?_eq_none] at h
  intro x hx e
  have := h x hx
  rw [e] at this; simp at this
/-- Of what is left all is left. -/
theorem left_rest {rs : Rules} {del : Bool} {d M : List NodeV} (hS : Sides rs [] d) (hM : OfIs rs del [] d M) {p : ByteArray} (hp : p.size ≠ 0) : leftP rs del M p = nodesIn p true M := by
  have hT := mir_tree hS hM.1 hM.2
  have hst : ∀ y ∈ M, staysB rs del M y = true := fun y hy => by
    rcases (hM.2 y).1 hy with h | h
    · exact absurd h.1 (by simp)
    · exact stays_mir hS hM.2 h
  unfold leftP
  cases hf : findF M p with
  | some x =>
    obtain ⟨hx, hxp⟩ := find_mem hf
    show leftF rs del M (nm x) = nodesIn p true M
    rw [← hxp, sub_nodes hT hx]
    unfold leftF subF
    apply List.filter_congr
    intro y hy
    rw [hst y hy, Bool.and_true]
  | none =>
    show [] = nodesIn p true M
    symm
    rw [List.eq_nil_iff_forall_not_mem]
    intro y hy
    obtain ⟨hyM, h⟩ := List.mem_filter.1 hy
    rw [beq_iff_eq] at h
    have hg := hT.good y hyM
    unfold withinF at h
    simp only [Bool.and_eq_true, List.isPrefixOf_iff_prefix] at h
    have hne : keyP p ≠ [] := by
      unfold keyP cutF
      rw [if_neg (fun e => hp (txt_nil.1 e))]
      exact splitF_ne _
    have hno := find_none hf
    have hpre : keyP p <+: nm y := h.2
    by_cases e : keyP p = nm y
    · exact hno y hyM (txt_inj (cut_inj e.symm))
    · obtain ⟨z, hz, h1, _⟩ := hT.anc hyM hne hpre e
      exact hno z hz (txt_inj (cut_inj h1))
theorem nodes_all {M : List NodeV} (hg : ∀ x ∈ M, goodN x) {p : ByteArray} (hp : p.size = 0) : nodesIn p true M = M := by
  unfold nodesIn
  rw [List.filter_eq_self]
  intro x hx
  have h0 : txt p = [] := txt_nil.2 hp
  rw [beq_iff_eq]
  unfold withinF
  rw [h0, (hg x hx).2.1]
  rfl
theorem leftP_nil {rs : Rules} {del : Bool} {M : List NodeV} (hg : ∀ x ∈ M, goodN x) {p : ByteArray} (hp : p.size = 0) : leftP rs del M p = [] := by
  unfold leftP
  cases hf : findF M p with
  | none => rfl
  | some x =>
    obtain ⟨hx, hxp⟩ := find_mem hf
    exfalso
    refine (hg x hx).1 (txt_nil.2 ?_)
    rw [hxp]; exact hp
set_option maxRecDepth 100000 in
set_option maxHeartbeats 8000000 in
set_option maxRecDepth 100000 in
theorem leftLaw (da ra : Option Addr) (D : List NodeV) (rs : Rules) (dc rc : Nat) (del dry trust : Bool) (block piece : Int) (p : ByteArray) (w : World) (hD : NodesAt w da D) (hR : RulesAt w ra rs) :
    Calls Tryz.prog 6 #[.slice da D.length dc, .agg #[.bool del, .bool dry, .bool trust, .slice ra rs.length rc, .int .i64 block, .int .i64 piece], .string p] w (RetV w (.bool true)) := by
  have HF := Lib.hid (fun w' (h : Ext w w') => show Calls Tryz.prog 14 #[.slice none 0 0, .slice da D.length dc, .slice ra rs.length rc] w' (BoolTold (TinyL [] ∧ TinyL D ∧ TinyR rs) w') from fewW none da ra [] D rs 0 dc rc w' ListAt.nil (hD.ext h) (hR.ext h))
  have HAw := Lib.hid (fun w => awakeM w)
  have HMem := Lib.hid (And.intro hD hR)
  have HOd := Lib.hid (fun w' (hs : SmallL D) (h : Ext w w') => ofT_any da D dc w' hs (hD.ext h))
  clear hD hR
  obtain ⟨m, hm⟩ : ∃ m, D.length = m := ⟨_, rfl⟩
  obtain ⟨r, hr⟩ : ∃ r, rs.length = r := ⟨_, rfl⟩
  rw [hm, hr] at HF
  rw [hm] at HOd
  rw [hm, hr]
  have HN := Lib.hid (And.intro hm hr); clear hm hr
  obtain ⟨ob, hob⟩ : ∃ o : Obj, o = .cells #[.bool del, .bool dry, .bool trust, .slice ra r rc, .int .i64 block, .int .i64 piece] 25 := ⟨_, rfl⟩
  have HOb : Hid (Ext w (w.alloc ob) ∧ (w.alloc ob).heap[w.heap.size]? = some ob) := Lib.hid ⟨(Ext.refl w).alloc ob, heap_at w ob rfl⟩
  rw [hob] at HOb
  clear hob
  have o0 := blk_cell HOb.out.2 (i := 0) rfl
  have o3 := blk_cell HOb.out.2 (i := 3) rfl
  go_enter Tryz.func6, Tryz.ntmps6
  go_wp2_with fail
  refine (HF.out _ HOb.out.1).mono ?_
  rintro e w1 ⟨b, rfl, hb, hE1⟩
  clear o0 o3
  have H1 := Lib.hid (And.intro (HOb.out.1.trans hE1) (hE1.block HOb.out.2)); clear hE1
  have HG := Lib.hid hb; clear hb
  cases b
  · go_wp2_with fail
    refine (HAw.out _).mono ?_
    rintro e w2 ⟨rfl, hE2⟩
    have HE2 := Lib.hid (H1.out.1.trans hE2); clear hE2
    go_wp2
    go_ret
    exact ⟨rfl, HE2.out⟩
  · have hG0 : TinyL [] ∧ TinyL D ∧ TinyR rs := HG.out (by simp)
    have HTin := Lib.hid hG0; clear hG0 HG
    by_cases hlong : (200 : Int) < p.size
    · go_wp2_with fail
      refine (HAw.out _).mono ?_
      rintro e w2 ⟨rfl, hE2⟩
      have HE2 := Lib.hid (H1.out.1.trans hE2); clear hE2
      go_wp2
      go_ret
      exact ⟨rfl, HE2.out⟩
    · have hps : p.size ≤ 1000 := by omega
      have hSh : Short rs := HTin.out.2.2.short
      have HSh := Lib.hid hSh; clear hSh
      go_wp2_with fail
      refine (HOd.out _ HTin.out.2.1.small H1.out.1).mono ?_
      rintro e w3 ⟨B, ⟨ab, cb, rfl, hE3, hB3, -⟩, hBl, hBm, hBt⟩
      have HLb := Lib.hid (Nat.le_trans hBl HTin.out.2.1.1)
      have H3 := Lib.hid (And.intro (H1.out.1.trans hE3) (And.intro hB3 (And.intro (HTin.out.2.1.sub hBl hBm) (And.intro hBt (hE3.block H1.out.2))))); clear hE3 hB3 hBl hBm hBt
      have hBs := H3.out.2.2.1
      have hBt := H3.out.2.2.2.1
      have hn0 : SmallL [] := ⟨by decide, fun x hx => by simp at hx⟩
      have hSd0 : Sides' rs [] (shownF B) := sides_of hn0 hBs HSh.out TreeL.nil hBt
      have HSd := Lib.hid hSd0
      have HL1 := Lib.hid (fun w' (h : Ext w3 w') => leftMW ab ra B rs cb rc del p w' hBs HSh.out hBt (H3.out.2.1.ext h) (HMem.out.2.ext (H3.out.1.trans h)) hps)
      have HS1 := Lib.hid (fun w' (h : Ext w3 w') => shownD_any ab B cb w' hBs (H3.out.2.1.ext h))
      have HL2 := Lib.hid (fun a5 c5 w' (h : Ext w3 w') (hA : NodesAt w' a5 (shownF B)) => leftD a5 ra (shownF B) rs c5 rc del p w' HSd.out.dsm HSh.out (tree_shown hBt) hA (HMem.out.2.ext (H3.out.1.trans h)) hps)
      have HO1 := Lib.hid (fun w' (h : Ext w3 w') => show Calls Tryz.prog 16 #[.slice none 0 0, .slice ab B.length cb, .slice ra rs.length rc, .bool del] w' (OfMTold rs del [] (shownF B) w') from ofMW none ab ra [] B rs 0 cb rc del w' hn0 hBs HSh.out TreeL.nil hBt ListAt.nil (H3.out.2.1.ext h) (HMem.out.2.ext (H3.out.1.trans h)))
      have HO2 := Lib.hid (fun aM M cM (hM : OfIs rs del [] (shownF B) M) w' (h : Ext w3 w') (hMA : NodesAt w' aM M) => show Calls Tryz.prog 16 #[.slice none 0 0, .slice aM M.length cM, .slice ra rs.length rc, .bool del] w' (OfMTold rs del [] (shownF M) w') from ofMW none aM ra [] M rs 0 cM rc del w' hn0 (of_small hM hn0 HSd.out.dsm (by simp) (few_shown HLb.out)).1 HSh.out TreeL.nil (mir_tree HSd.out.sides hM.1 hM.2) ListAt.nil hMA (HMem.out.2.ext (H3.out.1.trans h)))
      have HL3 := Lib.hid (fun aM M cM (hM : OfIs rs del [] (shownF B) M) w' (h : Ext w3 w') (hMA : NodesAt w' aM M) => leftMW aM ra M rs cM rc del p w' (of_small hM hn0 HSd.out.dsm (by simp) (few_shown HLb.out)).1 HSh.out (mir_tree HSd.out.sides hM.1 hM.2) hMA (HMem.out.2.ext (H3.out.1.trans h)) hps)
      have HW3 := Lib.hid (fun aM M cM (hM : OfIs rs del [] (shownF B) M) w' (hMA : NodesAt w' aM M) => nodesInD aM M cM p true w' (of_small hM hn0 HSd.out.dsm (by simp) (few_shown HLb.out)).1 hps hMA)
      clear hBs hBt hn0 hSd0
      rw [HN.out.2] at HL1 HL2 HO1 HO2 HL3
      obtain ⟨lb, hlb⟩ : ∃ n, B.length = n := ⟨_, rfl⟩
      rw [hlb] at HL1 HS1 HO1
      rw [hlb]
      clear hlb
      have o0 := blk_cell H3.out.2.2.2.2 (i := 0) rfl
      have o3 := blk_cell H3.out.2.2.2.2 (i := 3) rfl
      go_wp2_with fail
      refine (HL1.out _ (Ext.refl w3)).mono ?_
      rintro e w4 ⟨a4, c4, rfl, hE4, hA4, -⟩
      clear o0 o3
      have H4 := Lib.hid (And.intro hE4 (And.intro hA4 (hE4.block H3.out.2.2.2.2))); clear hE4 hA4
      go_wp2
      refine wp_draw_stages 79 10 [] [([true, true, false, true, true, true, true, true], 2), ([], 8), ([], 9)] Ext Ext.refl (fun _ _ _ => Ext.trans) (by kernel_rfl) (by kernel_rfl) ?_
      apply wpStages_cons (by simp)
      · intro w1 hw1
        simp only [sel_true, sel_false, sel_nil]
        have hc := hw1.cellsOf (blk_drew H4.out.2.2)
        repeat ((with_reducible refine wpStill_step (fun K hK => ?_)); go_simp; refine hK _ ?_; clear hK K)
        exact wpStill_nil rfl
      try simp only [List.getD_cons_succ, List.getD_cons_zero]
      go_wp2_with (go_at_call 20; refine (HS1.out _ H4.out.1.drew).mono ?_; rintro e w5 ⟨a5, c5, rfl, hE5, hA5, hc5⟩; clear hc5)
      have hE5 : Ext w4.drew w5 := hE5
      refine ⟨hE5, ?_⟩
      have H5 := Lib.hid (And.intro (H4.out.1.drew.trans hE5) (And.intro hA5 (And.intro (H4.out.2.1.ext (Ext.trans (Ext.refl w4).drew hE5)) (hE5.block (blk_drew H4.out.2.2))))); clear hE5 hA5
      have HL2' := Lib.hid (HL2.out a5 c5 w5 H5.out.1 H5.out.2.1)
      apply wpStages_cons (by simp)
      · intro w1 hw1
        simp only [sel_nil]
        have hc := hw1.cellsOf H5.out.2.2.2
        repeat ((with_reducible refine wpStill_step (fun K hK => ?_)); go_simp; refine hK _ ?_; clear hK K)
        exact wpStill_nil rfl
      try simp only [List.getD_cons_succ, List.getD_cons_zero]
      go_wp2_with (go_at_call 23; refine (HL2'.out).mono ?_; rintro e w6 ⟨a6, c6, rfl, hE6, hA6, hc6⟩; clear hc6)
      refine ⟨hE6, ?_⟩
      have H6 := Lib.hid (And.intro (H5.out.1.trans hE6) (And.intro hA6 (And.intro (H5.out.2.2.1.ext hE6) (hE6.block H5.out.2.2.2)))); clear hE6 hA6
      have hll : (leftP rs del (shownF B) p).length ≤ 90000 := by
        unfold leftP
        split
        · exact Nat.le_trans (List.length_filter_le _ _) (by have := HSd.out.dsm.1; omega)
        · exact Nat.zero_le _
      have HSm := Lib.hid (sameD a4 a6 _ _ c4 c6 w6 H6.out.2.2.1 H6.out.2.1 hll)
      apply wpStages_cons (by simp)
      · intro w1 hw1
        simp only [sel_nil]
        repeat ((with_reducible refine wpStill_step (fun K hK => ?_)); go_simp; refine hK _ ?_; clear hK K)
        exact wpStill_nil rfl
      try simp only [List.getD_cons_succ, List.getD_cons_zero]
      go_wp2_with (go_at_call 17; refine (HSm.out).mono ?_; rintro e w7 ⟨b7, rfl, hb7, hE7⟩; obtain rfl : b7 = true := hb7.2 rfl)
      refine ⟨hE7, ?_⟩
      have H7 := Lib.hid (And.intro (H6.out.1.trans hE7) (hE7.block H6.out.2.2.2)); clear hE7 hb7
      refine wpStages_nil ?_
      simp only [sel_nil]
      repeat ((with_reducible refine wpStill_step (fun K hK => ?_)); go_simp; refine hK _ ?_; clear hK K)
      refine wpStill_nil ?_
      try simp only [List.drop_succ_cons, List.drop_zero]
      have o0 := blk_cell H7.out.2 (i := 0) rfl
      have o3 := blk_cell H7.out.2 (i := 3) rfl
      go_wp2_with fail
      refine (HO1.out _ H7.out.1).mono ?_
      rintro e w8 ⟨M, hM, hMl, a8, c8, rfl, hE8, hA8, -⟩
      clear o0 o3 hMl
      have hTM := mir_tree HSd.out.sides hM.1 hM.2
      have hMs := of_small hM (⟨by decide, fun x hx => by simp at hx⟩ : SmallL []) HSd.out.dsm (by simp) (few_shown HLb.out)
      have hshM := shown_self HSd.out.sides hM
      have H8 := Lib.hid (And.intro (H7.out.1.trans hE8) (And.intro hA8 (And.intro hM (And.intro hTM (And.intro hMs (And.intro hshM (hE8.block H7.out.2))))))); clear hE8 hA8 hM hTM hshM
      have hMl := hMs.2
      clear hMs
      go_wp2_with fail
      refine (HAw.out _).mono ?_
      rintro e w9 ⟨rfl, hE9⟩
      have hE9 : Ext w8 w9 := hE9
      have H9 := Lib.hid (And.intro (H8.out.1.trans hE9) (And.intro (H8.out.2.1.ext hE9) (hE9.block H8.out.2.2.2.2.2.2))); clear hE9
      have o0 := blk_cell H9.out.2.2 (i := 0) rfl
      have o3 := blk_cell H9.out.2.2 (i := 3) rfl
      go_wp2_with fail
      refine (HO2.out a8 M c8 H8.out.2.2.1 _ H9.out.1 H9.out.2.1).mono ?_
      rintro e wA ⟨M', hM', hMl', aA, cA, rfl, hEA, hAA, -⟩
      clear o0 o3
      rw [H8.out.2.2.2.2.2.1] at hM'
      obtain rfl : M' = M := hM'.is H8.out.2.2.1.1 (fun x => mir_again HSd.out.sides H8.out.2.2.1.1 H8.out.2.2.1.2 x)
      have HA := Lib.hid (And.intro (H9.out.1.trans hEA) (And.intro (H9.out.2.1.ext hEA) (And.intro hAA (hEA.block H9.out.2.2)))); clear hEA hAA hM' hMl'
      go_wp2_with fail
      refine (sameD aA a8 M' M' cA c8 wA HA.out.2.2.1 HA.out.2.1 (by omega)).mono ?_
      rintro e wB ⟨bB, rfl, hbB, hEB⟩
      obtain rfl : bB = true := hbB.2 rfl
      have HB := Lib.hid (And.intro (HA.out.1.trans hEB) (And.intro (HA.out.2.1.ext hEB) (hEB.block HA.out.2.2.2))); clear hEB hbB
      have o0 := blk_cell HB.out.2.2 (i := 0) rfl
      have o3 := blk_cell HB.out.2.2 (i := 3) rfl
      have hl3 := HL3.out a8 M' c8 H8.out.2.2.1 wB HB.out.1 HB.out.2.1
      rw [H8.out.2.2.2.2.2.1] at hl3
      go_wp2_with fail
      refine hl3.mono ?_
      rintro e wC ⟨aC, cC, rfl, hEC, hAC, -⟩
      clear o0 o3 hl3
      have HC := Lib.hid (And.intro (HB.out.1.trans hEC) (And.intro (HB.out.2.1.ext hEC) hAC)); clear hEC hAC
      go_wp2_with fail
      refine (HW3.out a8 M' c8 H8.out.2.2.1 wC HC.out.2.1).mono ?_
      rintro e wD ⟨aD, cD, rfl, hED, hAD, -⟩
      have HD := Lib.hid (And.intro (HC.out.1.trans hED) (And.intro (HC.out.2.2.ext hED) hAD)); clear hED hAD
      have hll2 : (leftP rs del M' p).length ≤ 90000 := by
        unfold leftP
        split
        · exact Nat.le_trans (List.length_filter_le _ _) (by omega)
        · exact Nat.zero_le _
      go_wp2_with fail
      refine (sameD aC aD _ _ cC cD wD HD.out.2.1 HD.out.2.2 hll2).mono ?_
      rintro e wE ⟨bE, rfl, hbE, hEE⟩
      have HE := Lib.hid (H3.out.1.trans (HD.out.1.trans hEE)); clear hEE
      by_cases hp0 : p.size = 0
      · have e0 := empty_is hp0
        rw [leftP_nil H8.out.2.2.2.1.good hp0, nodes_all H8.out.2.2.2.1.good hp0] at hbE
        obtain ⟨lm, hlm⟩ : ∃ n, M'.length = n := ⟨_, rfl⟩
        have hiff : bE = true ↔ lm = 0 := by
          rw [hbE, ← hlm]
          exact ⟨fun h => by rw [← h]; rfl, fun h => (List.eq_nil_of_length_eq_zero h).symm⟩
        rw [hlm]
        have HI := Lib.hid hiff; clear hiff hbE
        by_cases h0 : lm = 0
        · obtain rfl : bE = true := HI.out.2 h0
          subst h0
          go_wp2
          go_ret
          exact ⟨rfl, HE.out⟩
        · obtain rfl : bE = false := by
            cases bE
            · rfl
            · exact absurd (HI.out.1 rfl) h0
          have g0 : ((lm : Int) == 0) = false := by rw [beq_eq_false_iff_ne]; omega
          go_wp2
          go_ret
          exact ⟨rfl, HE.out⟩
      · have e0 := empty_not hp0
        obtain rfl : bE = true := hbE.2 (left_rest HSd.out.sides H8.out.2.2.1 hp0)
        clear hbE
        go_wp2
        go_ret
        exact ⟨rfl, HE.out⟩
end Go.Proofs.YtiopahkigbdmcaaGreat
namespace Go.Proofs.YtiopahkigbdmcaaGreat
open Go Go.Proofs Go.ChangeShapes Go.WideShapes Go.ChangeAt Go.RowKit Go.Deep

theorem Tryz.own : ownKnob Tryz.prog.godebug = none := by kernel_rfl
theorem Tryz.laidOut : laidOutB Tryz.prog = true := by kernel_rfl

set_option maxRecDepth 100000 in
theorem left_lifted (os : Os) (started : os.Started) (H : Type) (enc : TypeId × Value → H) :
    ReturnsInHanded {} Tryz.checked os 6 .any (Rows.mirrorLeftSpec.pre6 enc Tryz.prog Tryz.f6 Rows.mirrorLeftRow.domain false) (Rows.mirrorLeftSpec.post enc Tryz.prog Tryz.f6 false true false false) := by
  refine returnsInHanded_of_change (C := Tryz.checked) Tryz.own started (by kernel_rfl) Tryz.func6
    (ChangeSpec.witness6 (enc := enc) (C := Tryz.checked) false ⟨#[], #[.slice none 0 0, .agg #[.bool false, .bool false, .bool false, .slice none 0 0, .int .i64 0, .int .i64 0], .string ⟨#[]⟩], []⟩ 12 (by kernel_rfl) (by kernel_rfl) (by kernel_rfl) (by kernel_rfl)) ?_
  intro W base args ds gs before hval0 hW _ _
  have hval : ∀ (j : Nat) t v, Tryz.f6.params[j]? = some t → args[j]? = some v → Value.okWide Tryz.prog W .any base t v := hval0
  have hW' := hW
  obtain ⟨p, q, hA0, hV, rfl, _, _⟩ := hW
  have hA : DataW.TrodAll enc Tryz.prog W 0 (fun _ => true) true Tryz.f6.params.toList args.toList ds p := hA0
  rw [Tryz.params6] at hA hval
  obtain ⟨v0, v1, v2, d0, d1, d2, p0, p1, p2, rfl, rfl, rfl, h0, h1, h2⟩ := trodAll_three hA
  obtain ⟨rfl, rfl⟩ := trodVars_none hV
  have h0k := h0
  have h1k := h1
  have h2k := h2
  obtain ⟨da, dn, dc, rfl⟩ := okWide_slice Tryz.underlying22 (hval 0 22 v0 rfl rfl)
  obtain ⟨cs2, rfl, hsz2⟩ := okWide_struct Tryz.underlying25 (hval 1 25 v1 rfl rfl)
  obtain ⟨pp, rfl⟩ := okWide_string Tryz.underlying9 (hval 2 9 v2 rfl rfl)
  obtain ⟨fu0, h0⟩ := h0
  obtain ⟨fu1, h1⟩ := h1
  obtain ⟨fu2, h2⟩ := h2
  clear hA0 hval0
  simp only [List.append_nil, List.append_assoc] at hW'
  have hlt : ∀ x ∈ p0 ++ (p1 ++ p2), x.block < W.heap.size := fun x hx => hW'.lt x hx
  obtain ⟨D, rfl, hD⟩ := nodes_of h0
  obtain ⟨o1, o2, o3, ra, rn, rc, bl, pc, hcs, ⟨_, _, q3⟩⟩ := open_opts h1
  obtain rfl : cs2 = #[.bool o1, .bool o2, .bool o3, .slice ra rn rc, .int .i64 bl, .int .i64 pc] := by
    have : cs2.toList = _ := hcs
    exact Array.toList_inj.1 this
  obtain ⟨rs, rfl, hR⟩ := rules_of q3
  refine (leftLaw da ra D rs dc rc o1 o2 o3 bl pc pp W hD hR).mono fun e W' ⟨he, hE⟩ => ?_
  subst he
  refine ⟨_, rfl, _, _, _, [], p0 ++ (p1 ++ p2), [], hW', ?_, ?_, rfl, Below.frame hE _, fun h => by cases h⟩
  · exact trodAll_mk1 (shut_bool Tryz.underlying4 true)
  · exact trodAll_mk3 (Below.trod Tryz.laidOut (by kernel_rfl) (of_decide_eq_true (by kernel_rfl)) h0k hE (fun x hx => hlt x (by simp [hx])))
      (Below.trod Tryz.laidOut (by kernel_rfl) (of_decide_eq_true (by kernel_rfl)) h1k hE (fun x hx => hlt x (by simp [hx])))
      (Below.trod Tryz.laidOut (by kernel_rfl) (of_decide_eq_true (by kernel_rfl)) h2k hE (fun x hx => hlt x (by simp [hx])))

theorem left_holds : Rows.MirrorLeftSaid :=
  OpenClaim.holds_of_wide 6 Tryz.f6 rfl rfl rfl rfl rfl rfl rfl ⟨rfl, rfl, rfl, rfl, rfl⟩ rfl rfl rfl rfl rfl (by kernel_rfl) Tryz.func6 (by kernel_rfl)
    (of_decide_eq_true (by kernel_rfl)) (by unfold Func.isWrapper; first | (rw [if_pos (by decide +kernel)]; kernel_rfl) | (rw [if_neg (by decide +kernel)]; exact ⟨rfl, rfl⟩))
    (fun os started H enc _ => left_lifted os started H enc)
#print axioms left_holds
end Go.Proofs.YtiopahkigbdmcaaGreat
