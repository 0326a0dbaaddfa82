/- A mirror's opening, and what is left of a node (layer 14): the walks. -/
import Derived.Test.YtiopahkigbdmcaaGreatMn
import Derived.Test.YtiopahkigbdmcaaGreatMa
namespace Go.Proofs.YtiopahkigbdmcaaGreat
open Go Go.Proofs Go.RowKit

def OpenJ (s d : List NodeV) (rs : Rules) (del : Bool) (w : World) (e : Ending) (w' : World) : Prop := ∃ jb, e = .returned (.pointer (some ⟨jb, 0, none⟩)) ∧ JobAt w' jb s d rs del ∧ Ext w w'
set_option maxHeartbeats 2000000 in
set_option maxRecDepth 100000 in
theorem openMW (sa da ra : Option Addr) (S D : List NodeV) (rs : Rules) (sc dc rc : Nat) (del : Bool) (w : World) (hS : SmallL S) (hD : SmallL D) (hSh : Short rs) (hTs : TreeL (pickF rs false S)) (hTd : TreeL (shownF D)) (hAs : NodesAt w sa S) (hAd : NodesAt w da D) (hR : RulesAt w ra rs) :
    Calls Tryz.prog 36 #[.slice sa S.length sc, .slice da D.length dc, .slice ra rs.length rc, .bool del] w (OpenJ (pickF rs false S) (shownF D) rs del w) := by
  have HSh := Lib.hid (shownP_any da D dc w hD hAd)
  have HSe := Lib.hid (fun w' (h : Ext w w') => sentP_any sa ra S rs sc rc w' hS hSh (hAs.ext h) (hR.ext h))
  have HR := Lib.hid hR; clear hR
  have hps : SmallL (pickF rs false S) := hS.filter _
  have hpd : SmallL (shownF D) := hD.filter _
  obtain ⟨P, hP⟩ : ∃ P, pickF rs false S = P := ⟨_, rfl⟩
  obtain ⟨X, hX⟩ : ∃ X, shownF D = X := ⟨_, rfl⟩
  rw [hP] at HSe hTs hps ⊢
  rw [hX] at HSh hTd hpd ⊢
  have HBs := Lib.hid (fun a c w h => beneathW a P c w hTs hps h)
  have HBd := Lib.hid (fun a c w h => beneathW a X c w hTd hpd h)
  clear hS hD hSh hTs hTd hAs hAd hP hX hps hpd
  obtain ⟨n, hn⟩ : ∃ n, S.length = n := ⟨_, rfl⟩
  obtain ⟨m, hm⟩ : ∃ m, D.length = m := ⟨_, rfl⟩
  obtain ⟨r, hr⟩ : ∃ r, rs.length = r := ⟨_, rfl⟩
  rw [hn, hr] at HSe
  rw [hm] at HSh
  rw [hn, hm, hr]
  have HN := Lib.hid hr; clear hn hm hr
  obtain ⟨x, hx⟩ : ∃ x, X.length = x := ⟨_, rfl⟩
  obtain ⟨p, hp⟩ : ∃ p, P.length = p := ⟨_, rfl⟩
  rw [hx] at HBd
  rw [hp] at HBs
  have HX := Lib.hid (And.intro hx hp); clear hx hp
  go_enter Tryz.func36, Tryz.ntmps36
  go_wp2_with fail
  refine HSh.out.mono ?_
  rintro e w1 ⟨a1, c1, rfl, hE1, hA1, -⟩
  have H1 := Lib.hid (And.intro hE1 hA1); clear hE1 hA1
  rw [HX.out.1]
  go_wp2_with fail
  refine (HSe.out _ H1.out.1).mono ?_
  rintro e w2 ⟨a2, c2, rfl, hE2, hA2, -⟩
  have H2 := Lib.hid (And.intro (H1.out.1.trans hE2) (And.intro hA2 hE2)); clear hE2 hA2
  rw [HX.out.2]
  go_wp2_with fail
  refine (HBs.out _ _ _ H2.out.2.1).mono ?_
  rintro e w3 ⟨b3, rfl, hB3, hE3⟩
  have H3 := Lib.hid (And.intro (H2.out.1.trans hE3) (And.intro hB3 (H2.out.2.2.trans hE3))); clear hB3 hE3
  go_wp2_with fail
  refine (HBd.out _ _ _ (H1.out.2.ext H3.out.2.2)).mono ?_
  rintro e w4 ⟨b4, rfl, hB4, hE4⟩
  have H4 := Lib.hid (And.intro (H3.out.1.trans hE4) (And.intro hB4 (And.intro (H3.out.2.1.ext hE4) (H1.out.2.ext (H3.out.2.2.trans hE4))))); clear hB4 hE4
  go_wp2
  go_ret
  refine ⟨w4.heap.size, rfl, ⟨⟨b3, b4, a1, c1, ra, rc, ?_, H4.out.2.2.1.ext ((Ext.refl w4).alloc _), H4.out.2.1.ext ((Ext.refl w4).alloc _), H4.out.2.2.2.ext ((Ext.refl w4).alloc _), HR.out.ext (H4.out.1.alloc _)⟩⟩, H4.out.1.alloc _⟩
  rw [HX.out.1, HN.out]
  exact heap_at _ _ rfl

theorem within_pre {x u : NodeV} (hx : goodN x) (hu : goodN u) : withinF (txt x.path) (txt u.path) = (nm u).isPrefixOf (nm x) := by
  unfold withinF
  rw [hx.2.1, hu.2.1]
  rfl
theorem sub_nodes {d : List NodeV} (hd : TreeL d) {u : NodeV} (hu : u ∈ d) : nodesIn u.path true d = subF d (nm u) := by
  unfold nodesIn subF
  apply List.filter_congr
  intro x hx
  rw [within_pre (hd.good x hx) (hd.good u hu)]
  simp
theorem map_getD (I : ByteArray → Option Nat) (p : ByteArray) : (((I p).map fun i => Value.map (some i)).getD (.map none)) = .map (I p) := by
  cases I p <;> rfl
/-- What is told of a job's lists. -/
structure Sides' (rs : Rules) (s d : List NodeV) : Prop where
  sides : Sides rs s d
  ssm : SmallL s
  dsm : SmallL d
  short : Short rs
theorem nm_len {x : NodeV} (h : goodN x) : (nm x).length ≤ 16 := by
  have := h.2.1
  unfold rightF at this
  simp only [Bool.and_eq_true, decide_eq_true_eq] at this
  exact this.2
theorem few_kids (T : List NodeV) (hT : SmallL T) (p : ByteArray) : FewF (kidsF T p) (T.map NodeV.path) := by
  refine ⟨fun s v h => ?_, fun s v h => ?_, fun s v h => ?_⟩
  · obtain ⟨x, _, _, _, hv⟩ := kids_some h; exact ⟨x, hv⟩
  · obtain ⟨x, hx, rfl, _⟩ := kids_some h; exact (hT.2 x hx).1
  · obtain ⟨x, hx, rfl, _⟩ := kids_some h; exact List.mem_map_of_mem hx
theorem few_none (U : List ByteArray) : FewF (fun _ => none) U := ⟨(fun s v h => by cases h), (fun s v h => by cases h), (fun s v h => by cases h)⟩
theorem FewF.mono {F : ByteArray → Option Value} {U V : List ByteArray} (h : FewF F U) (hm : ∀ q ∈ U, q ∈ V) : FewF F V := ⟨h.val, h.size, fun s v hv => hm s (h.mem s v hv)⟩
/-- The children's paths, as both tells them. -/
theorem keys_of {s d : List NodeV} (hs : TreeL s) (hd : TreeL d) {p : ByteArray} {Ks : List ByteArray} (h1 : Ks.Pairwise fun p q => cmpF (keyP p) (keyP q) < 0) (h2 : ∀ q, q ∈ Ks ↔ (kidsF s p q).isSome = true ∨ (kidsF d p q).isSome = true) : Keys s d (keyP p) Ks := by
  have key : ∀ T, TreeL T → ∀ q, (kidsF T p q).isSome = true ↔ ∃ x ∈ T, x.path = q ∧ nm x ≠ [] ∧ (nm x).dropLast = keyP p := fun T hT q => by
    constructor
    · intro h
      obtain ⟨v, hv⟩ := Option.isSome_iff_exists.1 h
      obtain ⟨x, hx, hq, hd, _⟩ := kids_some hv
      exact ⟨x, hx, hq, nm_ne (hT.good x hx), hd⟩
    · rintro ⟨x, hx, rfl, _, hdl⟩
      rw [kids_of hT.sorted hx hdl]; rfl
  exact ⟨h1, fun q => by rw [h2, key s hs, key d hd]⟩
/-- A child of the tree, by its path. -/
theorem kid_at {T : List NodeV} {p q : ByteArray} (h : (kidsF T p q).isSome = true) : ∃ x ∈ T, x.path = q ∧ (nm x).dropLast = keyP p ∧ kidsF T p q = some x.val := by
  obtain ⟨v, hv⟩ := Option.isSome_iff_exists.1 h
  obtain ⟨x, hx, hq, hd, rfl⟩ := kids_some hv
  exact ⟨x, hx, hq, hd, hv⟩
theorem sorted_len {L d : List NodeV} (hs : L.Pairwise fun a b => cmpF (nm (id a)) (nm (id b)) < 0) (hm : ∀ y ∈ L, y ∈ d) : L.length ≤ d.length := by
  haveI : DecidableEq NodeV := fun a b => Classical.propDecidable (a = b)
  refine nodup_len (hs.imp fun {a b} h e => ?_) hm
  rw [e] at h
  exact cmp_irr _ h
def nodeObj (u : NodeV) : Obj := .cells #[.string u.path, .int .i64 u.kind, .int .i64 u.mode, .int .i64 u.time, .string u.data] 42
set_option maxRecDepth 100000 in
set_option maxHeartbeats 4000000 in
theorem leftW (jb : Nat) (s d : List NodeV) (rs : Rules) (del : Bool) (hS : Sides' rs s d) : ∀ (f : Nat) (u : NodeV) (w : World), u ∈ d → 17 ≤ f + (nm u).length → JobAt w jb s d rs del →
    Calls Tryz.prog 40 #[.pointer (some ⟨jb, 0, none⟩), u.val] w (NodesTold (leftF rs del d (nm u)) w) := by
  intro f
  induction f with
  | zero =>
    intro u w hu hf _
    have := nm_len (hS.sides.dd.good u hu)
    omega
  | succ f ih =>
    intro u w hu hf hJ
    have HIH := Lib.hid ih; clear ih
    have HSs := Lib.hid hS
    have HU := Lib.hid (And.intro hu hf)
    have hups := (hS.dsm.2 u hu).1
    obtain ⟨bs, bd, ta, tc, ra, rc, hjb, hBs, hBd, hTa, hRa⟩ := hJ.mem
    have hJ1 : JobAt (w.alloc (nodeObj u)) jb s d rs del := hJ.ext ((Ext.refl w).alloc _)
    have HSub := Lib.hid (fun w' (h : Ext w w') => subP_any ta d tc u.path w' hS.dsm hups (hTa.ext h))
    have HShut := Lib.hid (fun w' (h : Ext w w') => shutNodeP ra rs rc u w' hups hS.short (hRa.ext h))
    have hjn : jb ≠ w.heap.size := by have := hJ.lt; omega
    have hj1 := heap_before w (nodeObj u) hjb
    have hu1 := heap_at w (nodeObj u) rfl
    have HB1 := Lib.hid (And.intro hj1 hu1); clear hj1 hu1
    have j4 := blk_cell hjb (i := 4) rfl
    have hjl := hJ.lt
    have HMem := Lib.hid (And.intro hJ (And.intro hBd (And.intro hTa hJ1))); clear hJ hBs hBd hTa hRa hJ1 hS hjb hu hf
    obtain ⟨n, hn⟩ : ∃ n, d.length = n := ⟨_, rfl⟩
    obtain ⟨r, hr⟩ : ∃ r, rs.length = r := ⟨_, rfl⟩
    rw [hn] at HB1 HSub
    rw [hr] at HB1 HShut
    have HN := Lib.hid (And.intro hn hr); clear hn hr
    unfold NodeV.val at HShut ⊢
    cases del
    · have hL : leftF rs false d (nm u) = nodesIn u.path true d := by rw [sub_nodes HSs.out.sides.dd HU.out.1]; exact left_sub HSs.out.sides.dd HU.out.1 rfl (Or.inl rfl)
      rw [hL]
      clear hL
      go_enter Tryz.func40, Tryz.ntmps40
      go_wp2
      refine wp_draw_stages 60 7 [] [([true, true, true, true, true, true], 6)] Ext Ext.refl (fun _ _ _ => Ext.trans) (by kernel_rfl) (by kernel_rfl) ?_
      apply wpStages_cons (by simp)
      · intro w1 hw1
        simp only [sel_true, sel_nil]
        have hc := hw1.cellsOf (blk_drew HB1.out.1); have hd := hw1.cellsOf (blk_drew HB1.out.2)
        repeat ((with_reducible refine wpStill_step (fun K hK => ?_)); go_simp; refine hK _ ?_; clear hK K)
        exact wpStill_nil rfl
      try simp only [List.getD_cons_succ, List.getD_cons_zero]
      go_wp2_with (go_at_call 58; refine (HSub.out _ ((Ext.refl w).alloc _).drew).mono ?_; rintro e w2 ⟨a2, c2, rfl, hE2, hA2, hc2⟩; have H2 := Lib.hid (And.intro hE2 (And.intro hA2 hc2)); clear hE2 hA2 hc2)
      refine ⟨H2.out.1, ?_⟩
      obtain ⟨m, hm⟩ : ∃ m, (nodesIn u.path true d).length = m := ⟨_, rfl⟩
      rw [hm]
      have HM := Lib.hid hm; clear hm
      refine wpStages_nil ?_
      simp only [sel_nil]
      repeat ((with_reducible refine wpStill_step (fun K hK => ?_)); go_simp; refine hK _ ?_; clear hK K)
      refine wpStill_nil ?_
      try simp only [List.drop_succ_cons, List.drop_zero]
      go_wp2
      go_ret
      exact ⟨a2, c2, by rw [HM.out]; rfl, Ext.trans ((Ext.refl w).alloc _).drew H2.out.1, H2.out.2.1, H2.out.2.2⟩
    · obtain ⟨o, ho⟩ : ∃ o, outF rs u = o := ⟨_, rfl⟩
      have hoF : shutF rs (txt u.path) (u.kind == 1) = o := ho
      rw [hoF] at HShut
      clear hoF
      have HO := Lib.hid ho; clear ho
      cases o
      · by_cases hk1 : u.kind = 1
        · have g1 : (u.kind != 1) = false := by rw [hk1]; rfl
          obtain ⟨I, hI1, hI2⟩ := HMem.out.2.1
          have HI := Lib.hid (And.intro hI1 hI2); clear hI1 hI2
          have HK1 := Lib.hid hk1; clear hk1
          go_enter Tryz.func40, Tryz.ntmps40
          go_wp2
          refine wp_draw_stages 60 6 [] [([true, true, true, true, true], 5)] Ext Ext.refl (fun _ _ _ => Ext.trans) (by kernel_rfl) (by kernel_rfl) ?_
          apply wpStages_cons (by simp)
          · intro w1 hw1
            simp only [sel_true, sel_nil]
            have hc := hw1.cellsOf (blk_drew HB1.out.1); have hd := hw1.cellsOf (blk_drew HB1.out.2)
            repeat ((with_reducible refine wpStill_step (fun K hK => ?_)); go_simp; refine hK _ ?_; clear hK K)
            exact wpStill_nil rfl
          try simp only [List.getD_cons_succ, List.getD_cons_zero]
          go_wp2_with (go_at_call 51; refine (HShut.out _ ((Ext.refl w).alloc _).drew).mono ?_; rintro e w2 ⟨rfl, hE2⟩; have HE2 := Lib.hid hE2; clear hE2)
          refine ⟨HE2.out, ?_⟩
          have hE2 : Ext (w.alloc (nodeObj u)).drew w2 := HE2.out
          have hjb2 := hE2.block (blk_drew HB1.out.1)
          have hub2 := hE2.block (blk_drew HB1.out.2)
          have j1 := blk_cell hjb2 (i := 1) rfl
          have n0 := blk_cell hub2 (i := 0) rfl
          have n1 := blk_cell hub2 (i := 1) rfl
          have n2 := blk_cell hub2 (i := 2) rfl
          have n3 := blk_cell hub2 (i := 3) rfl
          have n4 := blk_cell hub2 (i := 4) rfl
          have hj2 := blk_lt hjb2
          have hw2 := blk_lt hub2
          have hE3 : Ext w w2 := ((Ext.refl w).alloc (nodeObj u)).drew.trans hE2
          have hEX : Ext w (w2.alloc (nodeObj u)).drew := (hE3.alloc _).drew
          have hlk := MapIs.look (HI.out.1.ext hEX) false outer_under zero_inner u.path (by omega)
          simp only [map_getD, Bool.false_eq_true, if_false] at hlk
          have HE3 := Lib.hid (And.intro hE3 hEX); clear hE3 hEX hE2 hjb2 hub2
          obtain ⟨m, hm⟩ : ∃ m, I u.path = m := ⟨_, rfl⟩
          rw [hm] at hlk
          have HM := Lib.hid hm; clear hm
          refine wpStages_nil ?_
          simp only [sel_nil]
          repeat ((with_reducible refine wpStill_step (fun K hK => ?_)); go_simp; refine hK _ ?_; clear hK K)
          refine wpStill_nil ?_
          try simp only [List.drop_succ_cons, List.drop_zero]
          unfold nodeObj at hlk
          go_wp2
          refine wp_draw_all (by kernel_rfl) (by kernel_rfl) ?_
          repeat ((with_reducible refine wpStill_step (fun K hK => ?_)); go_simp; refine hK _ ?_; clear hK K)
          refine wpStill_nil ?_
          have HBo := Lib.hid (bothW m none (kidsF d u.path) (fun _ => none) (d.map NodeV.path) (w2.alloc (nodeObj u)).drew (by have h := (HI.out.2 u.path).ext HE3.out.2; rw [HM.out] at h; exact h) (fun s => rfl) (few_kids d HSs.out.dsm u.path) (few_none _) (by rw [List.length_map]; have := HSs.out.dsm.1; omega))
          clear hlk
          go_wp2_with (go_at_call 54; refine (HBo.out).mono ?_; rintro e w5 ⟨ka, kc, Ks, rfl, hKA, hE5, hKs, hKm⟩; have H5 := Lib.hid (And.intro hKA (And.intro hE5 (And.intro hKs hKm))); clear hKA hE5 hKs hKm)
          have hK : Keys d [] (nm u) Ks := keys_of HSs.out.sides.dd TreeL.nil H5.out.2.2.1 (fun q => by
            rw [H5.out.2.2.2 q]
            constructor
            · rintro (h | h)
              · exact Or.inl h
              · cases h
            · rintro (h | h)
              · exact Or.inl h
              · cases h)
          have HK := Lib.hid hK; clear hK
          have hNb : Ks.length ≤ 1000 := by
            have h1 : Ks.Nodup := H5.out.2.2.1.imp (fun {a b} h e => by rw [e] at h; exact cmp_irr _ h)
            have h2 := nodup_len (U := d.map NodeV.path) h1 (fun q hq => by
              rcases (HK.out.mem q).1 hq with ⟨x, hx, rfl, _⟩ | ⟨x, hx, _⟩
              · exact List.mem_map_of_mem hx
              · simp at hx)
            rw [List.length_map] at h2
            exact Nat.le_trans h2 HSs.out.dsm.1
          have hO5 : OwnN w (.slice (some ⟨w2.heap.size, 0, none⟩) 1 1) [u] w5 := ((OwnL.one HE3.out.1 u #[.string u.path, .int .i64 u.kind, .int .i64 u.mode, .int .i64 u.time, .string u.data] rfl (NodeV.len u)).drew).ext H5.out.2.1
          have HO5 := Lib.hid hO5; clear hO5
          clear j1 n0 n1 n2 n3 n4 hj2 hw2
          obtain ⟨N, hN⟩ : ∃ N, Ks.length = N := ⟨_, rfl⟩
          rw [hN] at hNb ⊢
          have HNn := Lib.hid hN; clear hN
          go_loopw [5, 8, 44] (fun v _ i wr => ∃ (k : Nat) (L : List NodeV), k ≤ N ∧ i = .int .i64 k ∧ OwnN w v (u :: L) wr ∧ OwnT w (.slice ka Ks.length kc) Ks wr ∧ Upto id (fun y => y ∈ d ∧ staysB rs true d y = true) Ks k L) (fun _ _ i _ => N - (intOf i).toNat)
          case atStart => exact ⟨0, [], Nat.zero_le _, rfl, HO5.out, H5.out.1.rebase HE3.out.2, Upto.start⟩
          case round =>
            obtain ⟨k, L, hkN, rfl, hown, hE5r, hup⟩ := hrel
            have hLd : L.length ≤ 1000 := Nat.le_trans (sorted_len hup.1 (fun y hy => ((hup.2 y).1 hy).1.1)) HSs.out.dsm.1
            obtain ⟨av, cv, rfl, hcv⟩ := hown.slice
            have HR := Lib.hid (And.intro hown (And.intro hE5r hup)); clear hown hE5r hup
            rw [List.length_cons] at hcv ⊢
            obtain ⟨l, hl⟩ : ∃ l, L.length = l := ⟨_, rfl⟩
            rw [hl] at hcv hLd ⊢
            have HLn := Lib.hid hl; clear hl
            by_cases hlt : k < N
            · have hkl : k < Ks.length := by rw [HNn.out]; exact hlt
              obtain ⟨kb, ko, rfl, hkb, hkall⟩ := ListAt.block (HR.out.2.1.done strC_len) hkl
              have hq0 := hkall 0 _ rfl
              rw [Nat.mul_one, Nat.add_zero] at hq0
              clear hkall
              have hkid := (H5.out.2.2.2 Ks[k]).1 (List.getElem_mem hkl)
              obtain ⟨q, hq⟩ : ∃ q, Ks[k] = q := ⟨_, rfl⟩
              have hQ := hq
              rw [hq] at hq0 hkid
              have HQ := Lib.hid hQ; clear hq hQ
              have hkid' : (kidsF d u.path q).isSome = true := by
                rcases hkid with h | h
                · exact h
                · cases h
              obtain ⟨x, hx, hxq, hxd, hxv⟩ := kid_at hkid'
              have hqs := (HSs.out.dsm.2 x hx).1
              rw [hxq] at hqs
              have hmv : MapV wr m (kidsF d u.path) := by
                have h := (HI.out.2 u.path).ext HR.out.1.1
                rw [HM.out] at h; exact h
              have hlk := MapV.look hmv false map_under zero_node q (by omega)
              rw [hxv] at hlk
              simp only [Option.getD_some, Bool.false_eq_true, if_false] at hlk
              have hxl : (nm x).length = (nm u).length + 1 := child_len (nm_ne (HSs.out.sides.dd.good x hx)) hxd
              have HX := Lib.hid (And.intro hx (And.intro hxq hxl))
              have HC := Lib.hid (HIH.out x wr hx (by have := HU.out.2; omega) (HMem.out.1.ext HR.out.1.1))
              unfold NodeV.val at hlk HC
              clear hkid hkid' hx hxq hxd hxv hmv hxl
              have hO' : OwnN w (.slice av (l + 1) cv) (u :: L) wr := by have h := HR.out.1; rw [List.length_cons, HLn.out] at h; exact h
              have HO' := Lib.hid hO'; clear hO'
              have hMl : (leftF rs true d (nm x)).length ≤ 1000 := Nat.le_trans (List.length_filter_le _ _) HSs.out.dsm.1
              obtain ⟨M, hM⟩ : ∃ M, leftF rs true d (nm x) = M := ⟨_, rfl⟩
              rw [hM] at HC hMl
              have HMm := Lib.hid hM; clear hM
              obtain ⟨ml, hml⟩ : ∃ ml, M.length = ml := ⟨_, rfl⟩
              rw [hml] at hMl
              have HMl := Lib.hid hml; clear hml
              have HC := Lib.hid (show Calls Tryz.prog 40 #[.pointer (some ⟨jb, 0, none⟩), .agg #[.string x.path, .int .i64 x.kind, .int .i64 x.mode, .int .i64 x.time, .string x.data]] wr (fun e w' => ∃ a c, e = .returned (.slice a ml c) ∧ Ext wr w' ∧ NodesAt w' a M) from HC.out.mono fun e w' ⟨a, c, h1, h2, h3, h4⟩ => ⟨a, c, by rw [h1, HMl.out], h2, h3⟩)
              go_wp2_with (first | (go_at_call 40; refine (HC.out).mono ?_; rintro e w6 ⟨a6, c6, rfl, hE6, hA6⟩; have H6 := Lib.hid (And.intro hE6 hA6); clear hE6 hA6) | (at_builtin; refine nodes_app rfl _ _ rfl w _ (u :: L) rfl (HO'.out.ext H6.out.1) a6 c6 ml M HMl.out.symm rfl H6.out.2 (by rw [List.length_cons, HLn.out, HMl.out]; omega) ?_; intro v7 w7 hown7 hE7; have H7 := Lib.hid (And.intro hown7 hE7); clear hown7 hE7))
              have hMset : (M.Pairwise fun a b => cmpF (nm (id a)) (nm (id b)) < 0) ∧ ∀ c, c ∈ M ↔ (c ∈ d ∧ staysB rs true d c = true) ∧ keyP Ks[k] <+: nm (id c) := by
                refine ⟨by rw [← HMm.out]; exact HSs.out.sides.dd.sorted.filter _, fun c => ?_⟩
                rw [← HMm.out, mem_leftF, HQ.out, ← HX.out.2.1]
                exact ⟨fun ⟨a, b, c⟩ => ⟨⟨a, c⟩, b⟩, fun ⟨⟨a, c⟩, b⟩ => ⟨a, b, c⟩⟩
              have hT7 : OwnT w (.slice (some ⟨kb, ko, none⟩) Ks.length kc) Ks w7 := by
                have h6 := HR.out.2.1.ext H6.out.1
                have h6o := HO'.out.ext H6.out.1
                exact h6.kept H7.out.2 (Below.trans h6.1 (grown_below H7.out.2 (fun g hg => (h6o.2.lt g hg).1) h6.1.size)) (own_two h6 h6o (by decide))
              refine ⟨⟨k + 1, L ++ M, by omega, by go_num, by rw [List.cons_append] at H7; exact H7.out.1, hT7, Upto.next HK.out hkl HR.out.2.2 hMset.1 hMset.2⟩, by simp [intOf]; omega⟩
            · obtain rfl : k = N := by omega
              have hup2 := upto_left HSs.out.sides.dd HK.out (by have h := HR.out.2.2; rw [← HNn.out] at h; exact h)
              have hld := left_dir HSs.out.sides.dd HU.out.1 rfl rfl HO.out HK1.out hup2.1 hup2.2
              have HLD := Lib.hid hld; clear hup2 hld
              by_cases hl0 : l = 0
              · subst hl0
                have hL0 : L = [] := List.eq_nil_of_length_eq_zero HLn.out
                have HL0 := Lib.hid hL0; clear hL0
                go_wp2
                go_ret
                exact ⟨none, 0, by rw [HLD.out, if_pos HL0.out]; rfl, HR.out.1.1, by rw [HLD.out, if_pos HL0.out]; exact ListAt.nil, by rw [HLD.out, if_pos HL0.out]; exact Nat.le_refl _⟩
              · have g2 : (((l + 1 : Nat) : Int) == 1) = false := by rw [beq_eq_false_iff_ne]; omega
                have hL0 : L ≠ [] := fun e => hl0 (by rw [← HLn.out, e]; rfl)
                have HL0 := Lib.hid hL0; clear hL0
                go_wp2
                go_ret
                have hown := HR.out.1
                refine ⟨av, cv, by rw [HLD.out, if_neg HL0.out, List.length_cons, HLn.out]; rfl, HR.out.1.1, ?_, ?_⟩
                · rw [HLD.out, if_neg HL0.out]
                  exact hown.done NodeV.len
                · rw [HLD.out, if_neg HL0.out, List.length_cons, HLn.out]; exact hcv
        · have g1 : (u.kind != 1) = true := by simpa using hk1
          have HK1 := Lib.hid hk1; clear hk1
          rw [left_file HSs.out.sides.dd HU.out.1 rfl rfl HO.out HK1.out]
          go_enter Tryz.func40, Tryz.ntmps40
          go_wp2
          refine wp_draw_stages 60 6 [] [([true, true, true, true, true], 5)] Ext Ext.refl (fun _ _ _ => Ext.trans) (by kernel_rfl) (by kernel_rfl) ?_
          apply wpStages_cons (by simp)
          · intro w1 hw1
            simp only [sel_true, sel_nil]
            have hc := hw1.cellsOf (blk_drew HB1.out.1); have hd := hw1.cellsOf (blk_drew HB1.out.2)
            repeat ((with_reducible refine wpStill_step (fun K hK => ?_)); go_simp; refine hK _ ?_; clear hK K)
            exact wpStill_nil rfl
          try simp only [List.getD_cons_succ, List.getD_cons_zero]
          go_wp2_with (go_at_call 51; refine (HShut.out _ ((Ext.refl w).alloc _).drew).mono ?_; rintro e w2 ⟨rfl, hE2⟩; have HE2 := Lib.hid hE2; clear hE2)
          refine ⟨HE2.out, ?_⟩
          have hE2 : Ext (w.alloc (nodeObj u)).drew w2 := HE2.out
          have n1 := blk_cell (hE2.block (blk_drew HB1.out.2)) (i := 1) rfl
          have HE3 := Lib.hid (((Ext.refl w).alloc (nodeObj u)).drew.trans hE2); clear hE2
          refine wpStages_nil ?_
          simp only [sel_nil]
          repeat ((with_reducible refine wpStill_step (fun K hK => ?_)); go_simp; refine hK _ ?_; clear hK K)
          refine wpStill_nil ?_
          try simp only [List.drop_succ_cons, List.drop_zero]
          go_wp2
          go_ret
          exact ⟨none, 0, rfl, HE3.out, ListAt.nil, Nat.le_refl _⟩
      · have hL : leftF rs true d (nm u) = nodesIn u.path true d := by rw [sub_nodes HSs.out.sides.dd HU.out.1]; exact left_sub HSs.out.sides.dd HU.out.1 rfl (Or.inr HO.out)
        rw [hL]
        clear hL
        go_enter Tryz.func40, Tryz.ntmps40
        go_wp2
        refine wp_draw_stages 60 6 [] [([true, true, true, true, true], 5)] Ext Ext.refl (fun _ _ _ => Ext.trans) (by kernel_rfl) (by kernel_rfl) ?_
        apply wpStages_cons (by simp)
        · intro w1 hw1
          simp only [sel_true, sel_nil]
          have hc := hw1.cellsOf (blk_drew HB1.out.1); have hd := hw1.cellsOf (blk_drew HB1.out.2)
          repeat ((with_reducible refine wpStill_step (fun K hK => ?_)); go_simp; refine hK _ ?_; clear hK K)
          exact wpStill_nil rfl
        try simp only [List.getD_cons_succ, List.getD_cons_zero]
        go_wp2_with (go_at_call 51; refine (HShut.out _ ((Ext.refl w).alloc _).drew).mono ?_; rintro e w2 ⟨rfl, hE2⟩; have HE2 := Lib.hid hE2; clear hE2)
        refine ⟨HE2.out, ?_⟩
        have hE2 : Ext (w.alloc (nodeObj u)).drew w2 := HE2.out
        have HB2 := Lib.hid (And.intro (hE2.block (blk_drew HB1.out.1)) (hE2.block (blk_drew HB1.out.2)))
        have HE3 := Lib.hid (((Ext.refl w).alloc (nodeObj u)).drew.trans hE2); clear hE2
        refine wpStages_nil ?_
        simp only [sel_nil]
        repeat ((with_reducible refine wpStill_step (fun K hK => ?_)); go_simp; refine hK _ ?_; clear hK K)
        refine wpStill_nil ?_
        try simp only [List.drop_succ_cons, List.drop_zero]
        go_wp2
        refine wp_draw_stages 60 7 [] [([true, true, true, true, true, true], 6)] Ext Ext.refl (fun _ _ _ => Ext.trans) (by kernel_rfl) (by kernel_rfl) ?_
        apply wpStages_cons (by simp)
        · intro w1 hw1
          simp only [sel_true, sel_nil]
          have hc := hw1.cellsOf (blk_drew HB2.out.1); have hd := hw1.cellsOf (blk_drew HB2.out.2)
          repeat ((with_reducible refine wpStill_step (fun K hK => ?_)); go_simp; refine hK _ ?_; clear hK K)
          exact wpStill_nil rfl
        try simp only [List.getD_cons_succ, List.getD_cons_zero]
        go_wp2_with (go_at_call 58; refine (HSub.out _ HE3.out.drew).mono ?_; rintro e w3 ⟨a2, c2, rfl, hE2, hA2, hc2⟩; have H2 := Lib.hid (And.intro hE2 (And.intro hA2 hc2)); clear hE2 hA2 hc2)
        refine ⟨H2.out.1, ?_⟩
        obtain ⟨m, hm⟩ : ∃ m, (nodesIn u.path true d).length = m := ⟨_, rfl⟩
        rw [hm]
        have HM := Lib.hid hm; clear hm
        refine wpStages_nil ?_
        simp only [sel_nil]
        repeat ((with_reducible refine wpStill_step (fun K hK => ?_)); go_simp; refine hK _ ?_; clear hK K)
        refine wpStill_nil ?_
        try simp only [List.drop_succ_cons, List.drop_zero]
        go_wp2
        go_ret
        exact ⟨a2, c2, by rw [HM.out]; rfl, Ext.trans HE3.out.drew H2.out.1, H2.out.2.1, H2.out.2.2⟩
end Go.Proofs.YtiopahkigbdmcaaGreat
/- A region that draws its order where two calls may come in either order: it is enough to walk both orders. No program is named here. -/
namespace Go.Proofs.YtiopahkigbdmcaaGreat
open Go Go.Proofs Go.RowKit
section
variable {P : Program} {ops : Array Oper} {md : Region.Mode} {R : World → World → Prop}
theorem opR_of_list {c : Nat} {a : Act} {w : World} {K K' : Act → World → Prop} {o : Oper}
    (ho : ops[c]? = some o) (h : wpList P ops (Exit.then K noExit) [o] a w) (hK : ∀ a' w', K a' w' → K' a' w') : opR P ops c K' a w := by
  refine ⟨o, ho, ?_⟩
  unfold wpList at h
  split
  · rename_i hw
    simp only [hw, if_true] at h
    rcases h with h | ⟨_, _, _, hf⟩
    · unfold Oper.wp at *
      generalize (execOp a.eval o).run P w = r at *
      cases r with
      | ok x w' =>
        cases x <;> simp only [Oper.upon] at h ⊢ <;> first
          | exact hK _ _ h
          | exact Calls.mono h (fun e w'' he => by
              cases e with
              | returned v => exact hK _ _ he
              | panicked c => exact False.elim he
              | outgrown => exact (let ⟨_, _, hf⟩ := he; False.elim hf))
          | exact Rows.mono h (fun _ _ he => hK _ _ he)
      | halt x w' => cases x <;> simp only [Oper.upon] at h ⊢; exact False.elim h
    · exact False.elim hf
  · rename_i hw
    simp only [hw] at h
    exact hK _ _ h
theorem anyR_fork {n c1 c2 : Nat} {L : Array Bool → Act → World → Prop} {listed : Array Bool} {a : Act} {w : World} {K1 K2 : Act → World → Prop} {f : Nat} {o1 o2 : Oper}
    (hr : Region.ready md ops listed = [c1, c2]) (hc1 : c1 < n) (hc2 : c2 < n) (ho1 : ops[c1]? = some o1) (ho2 : ops[c2]? = some o2)
    (h1 : wpList P ops (Exit.then K1 noExit) [o1] a w) (h2 : wpList P ops (Exit.then K2 noExit) [o2] a w)
    (hK1 : ∀ a' w', K1 a' w' → R w w' ∧ wpAnyR P md ops R n L f (listed.setIfInBounds c1 true) a' w')
    (hK2 : ∀ a' w', K2 a' w' → R w w' ∧ wpAnyR P md ops R n L f (listed.setIfInBounds c2 true) a' w') : wpAnyR P md ops R n L (f + 1) listed a w := by
  refine ⟨by rw [hr]; simp, fun i hi => ?_⟩
  rw [hr] at hi
  have hi' : i = c1 ∨ i = c2 := by simpa using hi
  rcases hi' with rfl | rfl
  · exact ⟨hc1, opR_of_list ho1 h1 hK1⟩
  · exact ⟨hc2, opR_of_list ho2 h2 hK2⟩

def forkB (md : Region.Mode) (ops : Array Oper) (N n : Nat) (m0 : List Bool) (c1 c2 : Nat) (ml1 : List Bool) (st1 : List (List Bool × Nat)) (ml2 : List Bool) (st2 : List (List Bool × Nat)) : Bool :=
  Region.noSelect ops && decide (n < ops.size) && Region.sinkB md ops n && Region.chainB md ops n && decide (total ml1 st1 + 1 + count m0 = n) && decide (total ml2 st2 = total ml1 st1) &&
    decide (m0.length ≤ ops.size) && dstsB N (sel m0 ops.toList) && decide (c1 < n) && decide (c2 < n) && match stillB md ops n m0 0 (Array.replicate ops.size false) with
    | some listed' => decide (Region.ready md ops listed' = [c1, c2]) && stagesGo md ops N n ml1 st1 (listed'.setIfInBounds c1 true) && stagesGo md ops N n ml2 st2 (listed'.setIfInBounds c2 true)
    | none => false

theorem wp_draw_fork {id : Nat} {Q : Exit → Act → World → Prop} {a a1 : Act} {w : World} {l : List Oper} (N n : Nat) (m0 : List Bool) (c1 c2 : Nat) (ml1 : List Bool) (st1 : List (List Bool × Nat)) (ml2 : List Bool) (st2 : List (List Bool × Nat)) (R : World → World → Prop) (hrf : ∀ x, R x x) (htr : ∀ x y z, R x y → R y z → R x z)
    (hm : P.follows .mixedOrders = true) (hB : forkB .any l.toArray N n m0 c1 c2 ml1 st1 ml2 st2 = true) (hN : N ≤ a.tmps.size)
    (h0 : ∀ w1, R w.drew w1 → wpStill P l.toArray w1 (fun a' => a' = a1) (sel m0 l) a)
    (h1 : wpList P l.toArray (Exit.then (fun a2 w2 => R w.drew w2 ∧ wpStages P l.toArray N R (fun a' w' => wpList P l.toArray Q (l.drop n) a' w') l ml1 st1 a2 w2) noExit) [l.getD c1 default] a1 w.drew)
    (h2 : wpList P l.toArray (Exit.then (fun a2 w2 => R w.drew w2 ∧ wpStages P l.toArray N R (fun a' w' => wpList P l.toArray Q (l.drop n) a' w') l ml2 st2 a2 w2) noExit) [l.getD c2 default] a1 w.drew) :
    (Code.region id l.toArray true).wp P Q a w := by
  simp only [forkB, Bool.and_eq_true, decide_eq_true_eq] at hB
  obtain ⟨⟨⟨⟨⟨⟨⟨⟨⟨⟨hsel, hn⟩, hs⟩, hc⟩, htot⟩, htot2⟩, hm0⟩, hd⟩, hc1⟩, hc2⟩, hB⟩ := hB
  split at hB
  · rename_i listed' he
    simp only [Bool.and_eq_true, decide_eq_true_eq] at hB
    obtain ⟨⟨hr, hB1⟩, hB2⟩ := hB
    have hdl : (l.drop n).length = l.toArray.size - n := by simp
    have inv0 : HeadInv .any l.toArray n (Array.replicate l.toArray.size false) :=
      ⟨by simp, fun j oj _ hl => (by rw [getD_replicate_false] at hl; cases hl), fun t _ ht => getD_in (by simpa using ht) (getD_replicate_false _ _)⟩
    have hl : ∀ j, l[j]? = l.toArray[0 + j]? := by simp
    have hco : ∀ c, c < n → l.toArray[c]? = some (l.getD c default) := fun c hcn => by
      have hcl : c < l.length := by have := hn; simp at this; omega
      simp [List.getD_eq_getElem?_getD, hcl]
    refine wp_region_any hm ?_
    have key : wpAnyR P .any l.toArray R n (fun x a' w' => Region.seqB .any l.toArray (l.toArray.size - n) n x = true ∧ wpList P l.toArray Q (l.drop n) a' w') ((total ml1 st1 + 1) + count m0) (Array.replicate l.toArray.size false) a w.drew := by
      refine stage_still hrf htr hsel hs hc hn (fun x a' w' hL => seqB_ready hL.1) m0 l 0 _ a hl (by simpa using hm0) inv0 hd hN he h0 (fun inv' => ?_)
      refine anyR_fork hr hc1 hc2 (hco c1 hc1) (hco c2 hc2) h1 h2 (fun a' w' h3 => ⟨h3.1, ?_⟩) (fun a' w' h3 => ⟨h3.1, ?_⟩)
      · exact stages_sound hrf htr hl (by simp) (by simp) rfl hsel hs hc hn st1 _ a' w' (inv'.set (by rw [hr]; simp) hc1) hB1 h3.2
      · rw [← htot2]
        exact stages_sound hrf htr hl (by simp) (by simp) rfl hsel hs hc hn st2 _ a' w' (inv'.set (by rw [hr]; simp) hc2) hB2 h3.2
    have := wpAny_of_anyR (Q := Q) (g := l.toArray.size - n) (fun listed a' w' hL => by
      have := wpAny_of_seq (md := .any) (Q' := Q) (l.drop n) n listed a' w' (fun j => by simp [List.getElem?_drop]) (by rw [hdl]; exact hL.1) hL.2
      rwa [hdl] at this) _ _ _ _ key
    rw [htot, show n + (l.toArray.size - n) = l.toArray.size by omega] at this
    exact this
  · cases hB
end
end Go.Proofs.YtiopahkigbdmcaaGreat
