/- The paths of two maps, in order (layer 14): the walk. -/
import Derived.Test.YtiopahkigbdmcaaGreatMm
import Derived.Deep.DeepCutAuto
namespace Go.Proofs.YtiopahkigbdmcaaGreat
open Go Go.Proofs Go.RowKit

def nodeZ' : Value := .agg #[.string ⟨#[]⟩, .int .i64 0, .int .i64 0, .int .i64 0, .string ⟨#[]⟩]
theorem zero_node (w : World) : (zeroValue 42).run Tryz.prog w = .ok nodeZ' w := by kernel_rfl
theorem map_under : Tryz.prog.underlying 92 = some (.map 9 42) := by kernel_rfl
/-- A map whose values are nodes, of few keys, none long. -/
structure FewF (F : ByteArray → Option Value) (U : List ByteArray) : Prop where
  val : ∀ s v, F s = some v → ∃ x : NodeV, v = x.val
  size : ∀ s v, F s = some v → s.size ≤ 1000
  mem : ∀ s v, F s = some v → s ∈ U
theorem MapV.look {w : World} {m : Option Nat} {F : ByteArray → Option Value} (h : MapV w m F) (c : Bool) {t e : TypeId} (ht : Tryz.prog.underlying t = some (.map 9 e)) {z : Value} (hz : ∀ w, (zeroValue e).run Tryz.prog w = .ok z w) (s : ByteArray) (hs : s.size ≤ 100000) :
    (Instr.lookup t (.map m) (.string s) c).run Tryz.prog w = .ok (if c then .tuple #[(F s).getD z, .bool (F s).isSome] else (F s).getD z) w := by
  cases m with
  | some b => exact MapIs.look h c ht hz s hs
  | none =>
    have hF : F s = none := h s
    have ck := str_key.check w true (key_of s hs)
    rw [hF]
    unfold Instr.lookup
    rcases str_key.find w (key_of s hs) [] (fun e he => by simp at he) with ⟨h1, _⟩ | ⟨j, x, _, h2, _⟩
    · simp [run_underlying ht, ck, h1, hz, Result.andThen]
    · simp at h2
theorem nodup_len {α : Type} [DecidableEq α] : ∀ {L U : List α}, L.Nodup → (∀ x ∈ L, x ∈ U) → L.length ≤ U.length
  | [], _, _, _ => Nat.zero_le _
  | a :: L, U, h, hm => by
    rw [List.nodup_cons] at h
    have ha := hm a (by simp)
    have := nodup_len (U := U.erase a) h.2 (fun x hx => (List.mem_erase_of_ne (fun e => h.1 (by rw [← e]; exact hx))).2 (hm x (by simp [hx])))
    rw [List.length_erase_of_mem ha] at this
    have := List.length_pos_of_mem ha
    rw [List.length_cons]; omega
def KeysTold (Fa Fb : ByteArray → Option Value) (w : World) (e : Ending) (w' : World) : Prop := ∃ a c, ∃ Ks : List ByteArray, e = .returned (.slice a Ks.length c) ∧ OwnT w (.slice a Ks.length c) Ks w' ∧ Ext w w' ∧ (Ks.Pairwise fun p q => cmpF (keyP p) (keyP q) < 0) ∧ ∀ q, q ∈ Ks ↔ (Fa q).isSome = true ∨ (Fb q).isSome = true

theorem iter_append {w0 w w' : World} {v : Value} {L : List ByteArray} {m : Option Nat} {r : Nat} {F : ByteArray → Option Value} {seen : List ByteArray} {left : Nat} (h : Iter w m r F seen left) (hO : OwnT w0 v L w) (hg : w.grownBy w' v.ownBlock) : Iter w' m r F seen left := by
  obtain ⟨o, ho, hc⟩ := h.blk
  refine h.kept hg (own_ne hO ho hc) (fun b e => ?_)
  subst e
  obtain ⟨o', ho', hc'⟩ := MapIs.blk (Iter.mapV h)
  exact own_ne hO ho' hc'
set_option maxHeartbeats 4000000 in
set_option maxRecDepth 100000 in
theorem bothW (ma mb : Option Nat) (Fa Fb : ByteArray → Option Value) (U : List ByteArray) (w : World) (hA : MapV w ma Fa) (hB : MapV w mb Fb) (hFa : FewF Fa U) (hFb : FewF Fb U) (hU : U.length ≤ 2000) :
    Calls Tryz.prog 54 #[.map ma, .map mb] w (KeysTold Fa Fb w) := by
  have hla : ∀ b, ma = some b → b < w.heap.size := fun b e => by subst e; exact MapIs.lt hA
  have hlb : ∀ b, mb = some b → b < w.heap.size := fun b e => by subst e; exact MapIs.lt hB
  have HLt := Lib.hid (And.intro hla hlb); clear hla hlb
  have HM := Lib.hid (And.intro hA hB); clear hA hB
  have HF := Lib.hid (And.intro hFa hFb); clear hFa hFb
  have HU := Lib.hid hU; clear hU
  go_enter Tryz.func54, Tryz.ntmps54
  go_wp2_with (refine wpList_range_is rfl _ _ rfl _ map_under ma Fa rfl HM.out.1 ?_; intro o1 left1 hIt; have HI := Lib.hid hIt; clear hIt)
  obtain ⟨w1, hw1⟩ : ∃ w1, w.alloc o1 = w1 := ⟨_, rfl⟩
  have hE1 : Ext w w1 := by rw [← hw1]; exact (Ext.refl w).alloc o1
  rw [hw1] at HI ⊢
  clear hw1
  have HE1 := Lib.hid hE1; clear hE1
  go_frame
  go_loopw [5, 6] (fun v _ wr => ∃ (L sn : List ByteArray) (left : Nat), OwnT w v L wr ∧ L.Nodup ∧ (∀ q, q ∈ sn ↔ q ∈ L) ∧ Iter wr ma w.heap.size Fa sn left) (fun _ _ wr => leftN wr w.heap.size)
  case atStart => exact ⟨[], [], left1, ⟨HE1.out, World.ownsRow_nil _ _ _ _⟩, List.nodup_nil, fun q => Iff.rfl, HI.out⟩
  case round =>
    obtain ⟨wa, hwa⟩ : ∃ wa, wa = wr := ⟨_, rfl⟩
    subst hwa
    obtain ⟨L, sn, left, hown, hnd, hsn, hit⟩ := hrel
    have hleft := hit.left
    have hLa : ∀ q ∈ L, (Fa q).isSome = true := fun q hq => hit.isSome q ((hsn q).2 hq)
    have hLl : L.length ≤ 2000 := Nat.le_trans (nodup_len hnd (fun q hq => by
      obtain ⟨v, hv⟩ := Option.isSome_iff_exists.1 (hLa q hq)
      exact HF.out.1.mem q v hv)) HU.out
    have HR := Lib.hid (And.intro hown (And.intro hnd (And.intro hsn (And.intro hit (And.intro hleft hLa))))); clear hown hnd hsn hit hleft hLa
    go_wp2_with (refine wpList_next_is rfl _ rfl ma w.heap.size Fa sn left rfl HR.out.2.2.2.1 ?_ ?_)
    · intro hall
      have HAll := Lib.hid hall; clear hall
      have hMB : MapV wa mb Fb := HM.out.2.ext HR.out.1.1
      have HMB := Lib.hid hMB; clear hMB
      go_wp2_with (refine wpList_range_is rfl _ _ rfl _ map_under mb Fb rfl HMB.out ?_; intro o2 left2 hIt; have HI2 := Lib.hid hIt; clear hIt)
      obtain ⟨w5, hw5⟩ : ∃ w5, wa.alloc o2 = w5 := ⟨_, rfl⟩
      have hE5 : Ext wa w5 := by rw [← hw5]; exact (Ext.refl wa).alloc o2
      rw [hw5] at HI2 ⊢
      clear hw5
      have HE5 := Lib.hid hE5; clear hE5
      have HL := Lib.hid (fun q => show q ∈ L ↔ (Fa q).isSome = true from ⟨HR.out.2.2.2.2.2 q, fun h => by
        obtain ⟨v, hv⟩ := Option.isSome_iff_exists.1 h
        exact (HR.out.2.2.1 q).1 (HAll.out q v hv)⟩)
      go_frame
      go_loopw [5, 7, 8, 9] (fun v _ _ _ ws => ∃ (L2 sn2 : List ByteArray) (left : Nat), OwnT w v L2 ws ∧ L2.Nodup ∧ (∀ q, q ∈ L2 ↔ q ∈ L ∨ q ∈ sn2) ∧ Iter ws mb wa.heap.size Fb sn2 left) (fun _ _ _ _ ws => leftN ws wa.heap.size)
      case atStart => exact ⟨L, [], left2, HR.out.1.ext HE5.out, HR.out.2.1, fun q => by simp, HI2.out⟩
      case round =>
        obtain ⟨L2, sn2, left3, hown, hnd, hsn, hit⟩ := hrel
        have hleft := hit.left
        have hLs : ∀ q ∈ L2, (Fa q).isSome = true ∨ (Fb q).isSome = true := fun q hq => by
          rcases (hsn q).1 hq with h | h
          · exact Or.inl ((HL.out q).1 h)
          · exact Or.inr (hit.isSome q h)
        have hLu : ∀ q ∈ L2, q ∈ U ∧ q.size ≤ 1000 := fun q hq => by
          rcases hLs q hq with h | h
          · obtain ⟨v, hv⟩ := Option.isSome_iff_exists.1 h
            exact ⟨HF.out.1.mem q v hv, HF.out.1.size q v hv⟩
          · obtain ⟨v, hv⟩ := Option.isSome_iff_exists.1 h
            exact ⟨HF.out.2.mem q v hv, HF.out.2.size q v hv⟩
        have hLl2 : L2.length ≤ 2000 := Nat.le_trans (nodup_len hnd (fun q hq => (hLu q hq).1)) HU.out
        have HS := Lib.hid (And.intro hown (And.intro hnd (And.intro hsn (And.intro hit (And.intro hleft (And.intro hLs hLu)))))); clear hown hnd hsn hit hleft hLs hLu
        go_wp2_with (refine wpList_next_is rfl _ rfl mb wa.heap.size Fb sn2 left3 rfl HS.out.2.2.2.1 ?_ ?_)
        · intro hall
          have HAll2 := Lib.hid hall; clear hall
          obtain ⟨av, cv, rfl, hcv⟩ := HS.out.1.slice
          go_wp2_with (go_at_call 72; refine (sortS w _ av L2.length cv L2 HS.out.1 rfl (fun q hq => (HS.out.2.2.2.2.2.2 q hq).2) HS.out.2.1 (by omega)).mono ?_; rintro e w6 ⟨L', rfl, hl', hm', hs', hL'⟩; have H6 := Lib.hid (And.intro hl' (And.intro hm' (And.intro hs' hL'))); clear hl' hm' hs' hL')
          go_ret
          refine ⟨av, cv, L', by rw [H6.out.1]; rfl, by rw [H6.out.1]; exact H6.out.2.2.2, H6.out.2.2.2.1, H6.out.2.2.1, fun q => ?_⟩
          rw [H6.out.2.1]
          constructor
          · exact HS.out.2.2.2.2.2.1 q
          · rintro (h | h)
            · exact (HS.out.2.2.1 q).2 (Or.inl ((HL.out q).2 h))
            · obtain ⟨v, hv⟩ := Option.isSome_iff_exists.1 h
              exact (HS.out.2.2.1 q).2 (Or.inr (HAll2.out q v hv))
        · intro s v w2 left' hv hns hs hit2 hlt hg hsz hent
          obtain ⟨x, rfl⟩ := HF.out.2.val s v hv
          unfold NodeV.val at hent ⊢
          obtain ⟨ob, hob, hoc⟩ := HS.out.2.2.2.1.blk
          have hne := own_ne HS.out.1 hob hoc
          have hrw : w.heap.size ≤ wa.heap.size := HR.out.1.1.size
          have hE2 : Ext w w2 := Below.trans HS.out.1.1 (grown_below hg (fun k hk => by injection hk with hk; omega) HS.out.1.1.size)
          have hO2 : OwnT w _ L2 w2 := HS.out.1.kept hg hE2 (Or.inr (Ne.symm hne))
          have hMA2 : MapV w2 ma Fa := HM.out.1.ext hE2
          have H2 := Lib.hid (And.intro hO2 (And.intro hit2 (And.intro hlt (And.intro hns hv)))); clear hO2 hit2 hlt hns hv hg hsz hob hoc hne
          have HE2 := Lib.hid hE2; clear hE2
          have hlk := MapV.look hMA2 true map_under zero_node s hs
          clear hMA2
          simp only [if_true] at hlk
          cases hFa : Fa s with
          | none =>
            rw [hFa] at hlk
            simp only [Option.getD_none, Option.isSome_none] at hlk
            unfold nodeZ' at hlk
            have HFa := Lib.hid hFa; clear hFa
            go_wp2_with (at_builtin; refine str_append rfl _ _ rfl w _ L2 rfl ((H2.out.1.alloc _).alloc _) s _ 1 rfl (cells_at _ _ _ (by simp) 0 _ rfl) (by omega) ?_; intro v' w4 hown' hg4; have H4 := Lib.hid (And.intro hown' hg4); clear hown' hg4)
            have hit4 := iter_append ((H2.out.2.1.kept (grown_of_ext ((Ext.refl w2).alloc _)) (by simp) (by simp)).kept (grown_of_ext ((Ext.refl _).alloc _)) (by simp) (by simp)) ((H2.out.1.alloc _).alloc _) H4.out.2
            refine ⟨⟨L2 ++ [s], s :: sn2, left', H4.out.1, ?_, fun q => ?_, hit4⟩, ?_⟩
            · rw [List.nodup_append]
              refine ⟨HS.out.2.1, by simp, fun a ha c hc e => ?_⟩
              rw [List.mem_singleton] at hc
              subst hc
              subst e
              rcases (HS.out.2.2.1 a).1 ha with h | h
              · have := (HL.out a).1 h
                rw [HFa.out] at this
                cases this
              · exact H2.out.2.2.2.1 h
            · rw [List.mem_append, List.mem_singleton, HS.out.2.2.1, List.mem_cons, or_assoc]
              constructor
              · rintro (h | h | h)
                · exact Or.inl h
                · exact Or.inr (Or.inr h)
                · exact Or.inr (Or.inl h)
              · rintro (h | h | h)
                · exact Or.inl h
                · exact Or.inr (Or.inr h)
                · exact Or.inr (Or.inl h)
            · rw [Iter.left hit4, HS.out.2.2.2.2.1]
              exact H2.out.2.2.1
          | some v0 =>
            rw [hFa] at hlk
            obtain ⟨x0, rfl⟩ := HF.out.1.val s v0 hFa
            simp only [Option.getD_some, Option.isSome_some] at hlk
            unfold NodeV.val at hlk
            have HFa := Lib.hid hFa; clear hFa
            go_wp2
            have hit4 := H2.out.2.1.kept (grown_of_ext ((Ext.refl w2).alloc (.cells #[.string x0.path, .int .i64 x0.kind, .int .i64 x0.mode, .int .i64 x0.time, .string x0.data] 42))) (by simp) (by simp)
            refine ⟨⟨L2, s :: sn2, left', H2.out.1.alloc _, HS.out.2.1, fun q => ?_, hit4⟩, ?_⟩
            · rw [HS.out.2.2.1, List.mem_cons]
              constructor
              · rintro (h | h)
                · exact Or.inl h
                · exact Or.inr (Or.inr h)
              · rintro (h | rfl | h)
                · exact Or.inl h
                · exact Or.inl ((HL.out q).2 (by rw [HFa.out]; rfl))
                · exact Or.inr h
            · rw [Iter.left hit4, HS.out.2.2.2.2.1]
              exact H2.out.2.2.1
    · intro s v w2 left' hv hns hs hit2 hlt hg hsz hent
      obtain ⟨x, rfl⟩ := HF.out.1.val s v hv
      unfold NodeV.val at hent ⊢
      obtain ⟨ob, hob, hoc⟩ := HR.out.2.2.2.1.blk
      have hne := own_ne HR.out.1 hob hoc
      have hE2 : Ext w w2 := Below.trans HR.out.1.1 (grown_below hg (fun k hk => by injection hk with hk; omega) HR.out.1.1.size)
      have hO2 : OwnT w _ L w2 := HR.out.1.kept hg hE2 (Or.inr (Ne.symm hne))
      have H2 := Lib.hid (And.intro hO2 (And.intro hit2 (And.intro hlt (And.intro hns hv)))); clear hO2 hit2 hlt hns hv hg hsz hob hoc hne
      have HE2 := Lib.hid hE2; clear hE2
      go_wp2_with (at_builtin; refine str_append rfl _ _ rfl w _ L rfl (H2.out.1.alloc _) s _ 1 rfl (blk_cell (heap_new w2 _) rfl) (by omega) ?_; intro v' w4 hown' hg4; have H4 := Lib.hid (And.intro hown' hg4); clear hown' hg4)
      refine ⟨⟨L ++ [s], s :: sn, left', H4.out.1, ?_, fun q => ?_, iter_append (H2.out.2.1.kept (grown_of_ext ((Ext.refl w2).alloc _)) (by simp) (by simp)) (H2.out.1.alloc _) H4.out.2⟩, ?_⟩
      · rw [List.nodup_append]
        exact ⟨HR.out.2.1, by simp, fun a ha c hc e => by rw [List.mem_singleton] at hc; subst hc; subst e; exact H2.out.2.2.2.1 ((HR.out.2.2.1 a).2 ha)⟩
      · rw [List.mem_cons, List.mem_append, List.mem_singleton, HR.out.2.2.1]; exact Or.comm
      · rw [Iter.left (iter_append (H2.out.2.1.kept (grown_of_ext ((Ext.refl w2).alloc _)) (by simp) (by simp)) (H2.out.1.alloc _) H4.out.2), HR.out.2.2.2.2.1]
        exact H2.out.2.2.1
end Go.Proofs.YtiopahkigbdmcaaGreat
/- Nodes by their parents' paths (layer 14): the walk. -/
namespace Go.Proofs.YtiopahkigbdmcaaGreat
open Go Go.Proofs Go.RowKit

theorem glue_ne {L : Pth} (h0 : L ≠ []) (h : ∀ a ∈ L, a ≠ []) : glueF L ≠ [] := by
  cases L with
  | nil => exact absurd rfl h0
  | cons a r =>
    have ha := h a (by simp)
    cases r with
    | nil => exact ha
    | cons b r =>
      intro e
      have : a ++ 47 :: glueF (b :: r) = [] := e
      simp at this
theorem nm_names {x : NodeV} (h : goodN x) : ∀ a ∈ nm x, a ≠ [] ∧ 47 ∉ a := by
  intro a ha
  have h1 : nm x = splitF (txt x.path) := by unfold nm cutF; rw [if_neg h.1]
  refine ⟨fun e => ?_, split_mem _ a (by rw [← h1]; exact ha)⟩
  have hr := h.2.1
  unfold rightF at hr
  simp only [Bool.and_eq_true, List.all_eq_true] at hr
  have := hr.1 a ha
  subst e
  simp [nameF] at this
theorem up_key {x : NodeV} (h : goodN x) {up : ByteArray} (hu : txt up = upF (txt x.path)) : keyP up = (nm x).dropLast := by
  unfold keyP
  rw [hu]
  unfold upF
  rw [names_good h]
  by_cases h0 : (nm x).dropLast = []
  · rw [h0]; rfl
  · have hd : ∀ a ∈ (nm x).dropLast, a ≠ [] ∧ 47 ∉ a := fun a ha => nm_names h a ((List.dropLast_sublist _).mem ha)
    unfold cutF
    rw [if_neg (glue_ne h0 fun a ha => (hd a ha).1), split_glue _ h0 fun a ha => (hd a ha).2]
/-- The nodes whose parent is a place, by their paths. -/
def kidsF (T : List NodeV) (p q : ByteArray) : Option Value := (T.find? fun x => decide (x.path = q) && decide ((nm x).dropLast = keyP p)).map NodeV.val
theorem kids_snoc (L : List NodeV) (x : NodeV) (p q : ByteArray) (hx : ∀ y ∈ L, y.path ≠ x.path) : kidsF (L ++ [x]) p q = if q = x.path ∧ (nm x).dropLast = keyP p then some x.val else kidsF L p q := by
  unfold kidsF
  rw [List.find?_append]
  by_cases hq : q = x.path
  · subst hq
    have : L.find? (fun y => decide (y.path = x.path) && decide ((nm y).dropLast = keyP p)) = none := by
      rw [List.find?_eq_none]
      intro y hy
      simp [hx y hy]
    rw [this]
    by_cases hd : (nm x).dropLast = keyP p
    · rw [if_pos ⟨rfl, hd⟩]; simp [hd]
    · rw [if_neg (fun h => hd h.2)]; simp [hd]
  · have : [x].find? (fun y => decide (y.path = q) && decide ((nm y).dropLast = keyP p)) = none := by
      rw [List.find?_eq_none]
      intro y hy
      rw [List.mem_singleton] at hy
      subst hy
      simp [Ne.symm hq]
    rw [this, if_neg (fun h => hq h.1)]
    simp
theorem kids_some {T : List NodeV} {p q : ByteArray} {v : Value} (h : kidsF T p q = some v) : ∃ x ∈ T, x.path = q ∧ (nm x).dropLast = keyP p ∧ v = x.val := by
  unfold kidsF at h
  cases hf : T.find? (fun x => decide (x.path = q) && decide ((nm x).dropLast = keyP p)) with
  | none => rw [hf] at h; cases h
  | some x =>
    rw [hf] at h
    have h1 := List.find?_some hf
    simp only [Bool.and_eq_true, decide_eq_true_eq] at h1
    exact ⟨x, List.mem_of_find?_eq_some hf, h1.1, h1.2, by injection h with h; exact h.symm⟩
theorem kids_of {T : List NodeV} (hT : SortedN T) {x : NodeV} (hx : x ∈ T) {p : ByteArray} (hd : (nm x).dropLast = keyP p) : kidsF T p x.path = some x.val := by
  unfold kidsF
  cases hf : T.find? (fun y => decide (y.path = x.path) && decide ((nm y).dropLast = keyP p)) with
  | none =>
    rw [List.find?_eq_none] at hf
    have := hf x hx
    simp [hd] at this
  | some y =>
    have h1 := List.find?_some hf
    simp only [Bool.and_eq_true, decide_eq_true_eq] at h1
    have : nm y = nm x := by unfold nm; rw [h1.1]
    rw [hT.uniq (List.mem_of_find?_eq_some hf) hx this]; rfl
/-- Block b lists the nodes of T by their parents' paths. -/
def Ben (w : World) (b : Nat) (T : List NodeV) : Prop := ∃ I : ByteArray → Option Nat, MapIs w b (fun p => (I p).map fun i => .map (some i)) ∧ ∀ p, MapV w (I p) (kidsF T p)
theorem Ben.ext {w w' : World} {b : Nat} {T : List NodeV} (h : Ben w b T) (hE : Ext w w') : Ben w' b T := by
  obtain ⟨I, h1, h2⟩ := h
  exact ⟨I, h1.ext hE, fun p => (h2 p).ext hE⟩
def BenTold (T : List NodeV) (w : World) (e : Ending) (w' : World) : Prop := ∃ b, e = .returned (.map (some b)) ∧ Ben w' b T ∧ Ext w w'
def BenL (b : Nat) (w : World) (L : List NodeV) (I : ByteArray → Option Nat) : Prop := MapIs w b (fun p => (I p).map fun i => .map (some i)) ∧ (∀ p, MapV w (I p) (kidsF L p)) ∧ (∀ p i, I p = some i → b < i) ∧ ∀ p q i, I p = some i → I q = some i → p = q
theorem outer_under : Tryz.prog.underlying 68 = some (.map 9 92) := by kernel_rfl
theorem zero_inner (w : World) : (zeroValue 92).run Tryz.prog w = .ok (.map none) w := by kernel_rfl
theorem BenL.ext {b : Nat} {w w' : World} {L : List NodeV} {I : ByteArray → Option Nat} (h : BenL b w L I) (hE : Ext w w') : BenL b w' L I := ⟨h.1.ext hE, fun p => (h.2.1 p).ext hE, h.2.2⟩
theorem putBlk_map {w : World} {b i : Nat} {o : Obj} {F : ByteArray → Option Value} (h : MapIs w i F) (hne : i ≠ b) : MapIs (putBlk w b o) i F := h.at_ (putBlk_other w o hne)
/-- A new, empty list at a place. -/
theorem BenL.open {b : Nat} {w : World} {L : List NodeV} {I : ByteArray → Option Nat} (h : BenL b w L I) (up : ByteArray) (hn : I up = none) {o' : Obj}
    (hm : MapIs (putBlk (w.alloc (.map #[] 0)) b o') b (fun s' => if s' = up then some (.map (some w.heap.size)) else (I s').map fun i => .map (some i))) :
    BenL b (putBlk (w.alloc (.map #[] 0)) b o') L (fun p => if p = up then some w.heap.size else I p) := by
  have hb := h.1.lt
  refine ⟨?_, fun p => ?_, fun p i hp => ?_, fun p q i hp hq => ?_⟩
  · have e : (fun p => (if p = up then some w.heap.size else I p).map fun i => Value.map (some i)) = fun s' => if s' = up then some (.map (some w.heap.size)) else (I s').map fun i => .map (some i) := by
      funext p
      by_cases hpu : p = up
      · rw [if_pos hpu, if_pos hpu]; rfl
      · rw [if_neg hpu, if_neg hpu]
    rw [e]; exact hm
  · dsimp only
    by_cases hpu : p = up
    · rw [if_pos hpu]
      have hnone := h.2.1 p
      rw [hpu, hn] at hnone
      have e : kidsF L p = fun _ => none := by rw [hpu]; funext q; exact hnone q
      rw [e]
      exact putBlk_map (MapIs.new w) (by omega)
    · rw [if_neg hpu]
      have h2 := h.2.1 p
      cases hI : I p with
      | none => rw [hI] at h2; exact h2
      | some i =>
        rw [hI] at h2
        have := h.2.2.1 p i hI
        exact putBlk_map (MapIs.ext h2 ((Ext.refl w).alloc _)) (by omega)
  · dsimp only at hp
    by_cases hpu : p = up
    · rw [if_pos hpu] at hp; injection hp with hp; omega
    · rw [if_neg hpu] at hp; exact h.2.2.1 p i hp
  · have hlt : ∀ p i, I p = some i → i < w.heap.size := fun p i hI => by
      have h2 := h.2.1 p
      rw [hI] at h2
      exact MapIs.lt h2
    dsimp only at hp hq
    by_cases hpu : p = up <;> by_cases hqu : q = up
    · rw [hpu, hqu]
    · rw [if_pos hpu] at hp; rw [if_neg hqu] at hq
      injection hp with hp
      have := hlt q i hq
      omega
    · rw [if_neg hpu] at hp; rw [if_pos hqu] at hq
      injection hq with hq
      have := hlt p i hp
      omega
    · rw [if_neg hpu] at hp; rw [if_neg hqu] at hq
      exact h.2.2.2 p q i hp hq
/-- One node more. -/
theorem BenL.put {b : Nat} {w : World} {L : List NodeV} {I : ByteArray → Option Nat} (h : BenL b w L I) {x : NodeV} {up : ByteArray} (hk : keyP up = (nm x).dropLast) (hx : ∀ y ∈ L, y.path ≠ x.path) {i : Nat} (hi : I up = some i) {o' : Obj}
    (hm : MapIs (putBlk w i o') i (fun s' => if s' = x.path then some x.val else kidsF L up s')) : BenL b (putBlk w i o') (L ++ [x]) I := by
  have hbi := h.2.2.1 up i hi
  refine ⟨putBlk_map h.1 (by omega), fun p => ?_, h.2.2⟩
  by_cases hpu : p = up
  · subst hpu
    rw [hi]
    have e : kidsF (L ++ [x]) p = fun s' => if s' = x.path then some x.val else kidsF L p s' := by
      funext q
      rw [kids_snoc L x p q hx]
      by_cases hq : q = x.path
      · rw [if_pos ⟨hq, hk.symm⟩, if_pos hq]
      · rw [if_neg (fun h => hq h.1), if_neg hq]
    rw [e]; exact hm
  · have e : kidsF (L ++ [x]) p = kidsF L p := by
      funext q
      rw [kids_snoc L x p q hx, if_neg (fun h => hpu (key_inj (by rw [hk, h.2])))]
    rw [e]
    have h2 := h.2.1 p
    cases hI : I p with
    | none => rw [hI] at h2; exact h2
    | some j =>
      rw [hI] at h2
      exact putBlk_map h2 (fun e => hpu (h.2.2.2 p up i (by rw [hI, e]) hi))
theorem take_fresh {T : List NodeV} (hT : SortedN T) {k : Nat} (hk : k < T.length) : ∀ y ∈ T.take k, y.path ≠ T[k].path := by
  intro y hy e
  obtain ⟨j, hj, rfl⟩ := List.getElem_of_mem hy
  rw [List.length_take] at hj
  rw [List.getElem_take] at e
  have h := (List.pairwise_iff_getElem.1 hT) j k (by omega) hk (by omega)
  have : nm T[j] = nm T[k] := by unfold nm; rw [e]
  rw [this] at h
  exact cmp_irr _ h
theorem ben_look {b : Nat} {w : World} {L : List NodeV} {I : ByteArray → Option Nat} (h : BenL b w L I) {up : ByteArray} (hups : up.size ≤ 100000) {i : Nat} (hi : I up = some i) : (Instr.lookup 68 (.map (some b)) (.string up) false).run Tryz.prog w = .ok (.map (some i)) w := by
  have hlk := MapIs.look h.1 false outer_under zero_inner up hups
  rw [hi] at hlk
  simpa using hlk
theorem ben_in {b : Nat} {w : World} {L : List NodeV} {I : ByteArray → Option Nat} (h : BenL b w L I) {up : ByteArray} {i : Nat} (hi : I up = some i) : MapIs w i (kidsF L up) := by
  have h2 := h.2.1 up
  rw [hi] at h2
  exact h2
theorem eql_none (w : World) : (binOp BinOp.eql 92 (.map none) (.map none)).run Tryz.prog w = .ok (.bool true) w := by kernel_rfl
theorem eql_some (i : Nat) (w : World) : (binOp BinOp.eql 92 (.map (some i)) (.map none)).run Tryz.prog w = .ok (.bool false) w := by kernel_rfl
set_option maxHeartbeats 4000000 in
set_option maxRecDepth 100000 in
theorem beneathW (a : Option Addr) (T : List NodeV) (c : Nat) (w : World) (hT : TreeL T) (hS : SmallL T) (hA : NodesAt w a T) :
    Calls Tryz.prog 53 #[.slice a T.length c] w (BenTold T w) := by
  have HSm := Lib.hid hS.2
  have hl := hS.1; clear hS
  have HT := Lib.hid hT; clear hT
  have HA := Lib.hid hA; clear hA
  obtain ⟨n, hn⟩ : ∃ n, T.length = n := ⟨_, rfl⟩
  rw [hn] at hl ⊢
  have HN := Lib.hid hn; clear hn
  have HPa := Lib.hid (fun p w h => parentQ p w h)
  have hmm := @run_makeMap Tryz.prog
  have hq0 := eql_none
  have hq1 := eql_some
  go_enter Tryz.func53, Tryz.ntmps53
  go_wp2
  go_loopw [5, 6, 7, 11] (fun _ _ _ i wr => ∃ (k : Nat) (I : ByteArray → Option Nat), k ≤ n ∧ i = .int .i64 k ∧ BenL w.heap.size wr (T.take k) I ∧ Ext w wr) (fun _ _ _ i _ => n - (intOf i).toNat)
  case atStart => exact ⟨0, fun _ => none, Nat.zero_le _, rfl, ⟨MapIs.new w, fun p q => rfl, (fun p i h => by cases h), (fun p q i h => by cases h)⟩, (Ext.refl w).alloc _⟩
  case round =>
    obtain ⟨k, I, hk, rfl, hB, hE⟩ := hrel
    by_cases hlt : k < n
    · have hkl : k < T.length := by rw [HN.out]; exact hlt
      obtain ⟨bl, off, rfl, hb, c0, c1, c2, c3, c4⟩ := NodesAt.node (HA.out.ext hE) hkl
      have hmem := List.getElem_mem hkl
      have HFr := Lib.hid (take_fresh HT.out.sorted hkl)
      have HTk := Lib.hid (List.take_succ_eq_append_getElem hkl)
      have HG := Lib.hid (HT.out.good _ hmem)
      have hxs := (HSm.out _ hmem).1
      obtain ⟨x, hx⟩ : ∃ x, T[k] = x := ⟨_, rfl⟩
      rw [hx] at HFr HTk HG hxs c0 c1 c2 c3 c4
      clear hx hmem
      have HB := Lib.hid hB; clear hB
      have HE := Lib.hid hE; clear hE
      go_wp2_with fail
      refine (HPa.out _ _ hxs).mono ?_
      rintro e w2 ⟨up, ok, rfl, hok, hup, husz, hE2⟩
      have HUp := Lib.hid (And.intro hok (And.intro hup hE2)); clear hok hup hE2
      have hne0 : namesF (txt x.path) ≠ [] := by rw [names_good HG.out]; exact nm_ne HG.out
      obtain rfl : ok = true := HUp.out.1.2 hne0
      have hku := up_key HG.out (HUp.out.2.1 rfl)
      have hE2 : Ext wr w2 := ((Ext.refl wr).alloc _).trans HUp.out.2.2
      have hB2 := HB.out.ext hE2
      obtain ⟨d0, d1, d2, d3, d4⟩ := node_new x HUp.out.2.2
      have hups : up.size ≤ 100000 := by omega
      have hxp : x.path.size ≤ 100000 := by omega
      have H2 := Lib.hid (And.intro hku (And.intro hE2 hB2)); clear hku hE2 hB2 hne0 c0 c1 c2 c3 c4
      cases hI : I up with
      | none =>
        have HI := Lib.hid hI; clear hI
        have hlk := (MapIs.look H2.out.2.2.1 false outer_under zero_inner up hups)
        rw [HI.out] at hlk
        simp only [Option.map_none, Option.getD_none, Bool.false_eq_true, if_false] at hlk
        have hnb : w2.heap[wr.heap.size]? = some (.cells #[.string x.path, .int .i64 x.kind, .int .i64 x.mode, .int .i64 x.time, .string x.data] 42 (0, 0)) := HUp.out.2.2.block (heap_at wr _ rfl)
        have HNb := Lib.hid hnb; clear hnb d0 d1 d2 d3 d4
        have hwr : w.heap.size < wr.heap.size := HB.out.1.lt
        have hz2 := blk_lt HNb.out
        go_wp2_with (first | (refine wpList_update_is rfl _ _ _ 68 rfl _ outer_under w.heap.size _ rfl (H2.out.2.2.1.ext ((Ext.refl w2).alloc (.map #[] 0))) up rfl hups _ rfl ?_; intro o' hm'; have HB1 := Lib.hid (BenL.open H2.out.2.2 up HI.out hm'); clear hm'; have hlk1 := (ben_look HB1.out hups (if_pos rfl)); have nb := (blk_put (x := o') (b := w.heap.size) (by omega) (heap_before w2 (.map #[] 0) HNb.out)); have n0 := (blk_cell nb (i := 0) rfl); have n1 := (blk_cell nb (i := 1) rfl); have n2 := (blk_cell nb (i := 2) rfl); have n3 := (blk_cell nb (i := 3) rfl); have n4 := (blk_cell nb (i := 4) rfl); have HIn1 := Lib.hid (ben_in HB1.out (i := w2.heap.size) (if_pos rfl)); clear nb) | (refine wpList_update_is rfl _ _ _ 92 rfl _ map_under w2.heap.size _ rfl HIn1.out x.path rfl hxp x.val rfl ?_; intro o2 hm2; have HM2 := Lib.hid hm2; clear hm2))
        refine ⟨⟨k + 1, _, by omega, by go_num, by rw [HTk.out]; exact BenL.put HB1.out H2.out.1 HFr.out (i := w2.heap.size) (if_pos rfl) HM2.out, Ext.putNew (Ext.putNew ((HE.out.trans H2.out.2.1).alloc _) (by omega) _) (by omega) _⟩, by simp [intOf]; omega⟩
      | some ib =>
        have HI := Lib.hid hI; clear hI
        have hlk := (MapIs.look H2.out.2.2.1 false outer_under zero_inner up hups)
        rw [HI.out] at hlk
        simp only [Option.map_some, Option.getD_some, Bool.false_eq_true, if_false] at hlk
        have hin := H2.out.2.2.2.1 up
        rw [HI.out] at hin
        have HIn := Lib.hid hin; clear hin
        go_wp2_with (refine wpList_update_is rfl _ _ _ 92 rfl _ map_under ib _ rfl HIn.out x.path rfl hxp x.val rfl ?_; intro o' hm'; have HM' := Lib.hid hm'; clear hm')
        have hbi := H2.out.2.2.2.2.1 up ib HI.out
        refine ⟨⟨k + 1, I, by omega, by go_num, by rw [HTk.out]; exact BenL.put H2.out.2.2 H2.out.1 HFr.out HI.out HM'.out, Ext.putNew (HE.out.trans H2.out.2.1) (by omega) _⟩, by simp [intOf]; omega⟩
    · obtain rfl : k = n := by omega
      go_wp2
      go_ret
      have hB' := hB
      rw [List.take_of_length_le (by rw [HN.out]; exact Nat.le_refl _)] at hB'
      exact ⟨w.heap.size, rfl, ⟨I, hB'.1, hB'.2.1⟩, hE⟩
end Go.Proofs.YtiopahkigbdmcaaGreat
/- The nodes within a path; the node at a path (layer 10), the program's side: the walks. -/
namespace Go.Proofs.YtiopahkigbdmcaaGreat
open Go Go.Proofs Go.RowKit

set_option maxRecDepth 100000 in
theorem sub1P (p q : ByteArray) (g : Nat) (w : World) (hq : q.size ≤ 1000) (hp : p.size ≤ 1000) (hg : w.cell? ⟨g, 0, none⟩ = some (.string p)) :
    Calls Tryz.prog 76 #[.string q, .pointer (some ⟨g, 0, none⟩)] w (RetV w (.bool (withinF (txt q) (txt p)))) := by
  have HW := Lib.hid (fun w => withinP_any q p w hq hp)
  go_enter Tryz.func76, Tryz.ntmps76
  go_wp2_with fail
  refine (HW.out _).mono ?_
  rintro e w1 ⟨rfl, hE1⟩
  have HE1 := Lib.hid hE1; clear hE1
  go_wp2
  go_ret
  exact ⟨rfl, HE1.out⟩
set_option maxHeartbeats 2000000 in
set_option maxRecDepth 100000 in
theorem pickSP (a : Option Addr) (L : List NodeV) (c g : Nat) (p : ByteArray) (w : World) (hL : SmallL L) (hp : p.size ≤ 1000) (hA : NodesAt w a L) (hg : w.cell? ⟨g, 0, none⟩ = some (.string p)) (hgb : g < w.heap.size) :
    Calls Tryz.prog 68 #[.slice a L.length c, .func (.func 76) #[] #[.pointer (some ⟨g, 0, none⟩)]] w (NodesTold (nodesIn p true L) w) := by
  have HA := Lib.hid hA; clear hA
  have HLL := Lib.hid hL.2
  have hl := hL.1; clear hL
  have HW := Lib.hid (fun (x : NodeV) (hx : x ∈ L) w' (h : Ext w w') => sub1P p x.path g w' (HLL.out x hx).1 hp ((h.cell hgb).trans hg))
  clear hg hgb
  obtain ⟨n, hn⟩ : ∃ n, L.length = n := ⟨_, rfl⟩
  rw [hn] at hl ⊢
  have HN := Lib.hid hn; clear hn
  go_enter Tryz.func68, Tryz.ntmps68
  go_wp2
  go_loopw [5, 7, 10] (fun v _ i w' => ∃ k : Nat, k ≤ n ∧ i = .int .i64 k ∧ OwnN w v (nodesIn p true (L.take k)) w') (fun _ _ i _ => n - (intOf i).toNat)
  case atStart => exact ⟨0, Nat.zero_le _, rfl, OwnL.start w⟩
  case round =>
    obtain ⟨k, hk, rfl, hown⟩ := hrel
    by_cases hlt : k < n
    · have hkl : k < L.length := by rw [HN.out]; exact hlt
      have hE := hown.1
      have HO := Lib.hid hown; clear hown
      have hkp : (nodesIn p true (L.take k)).length ≤ 90000 := by
        have h1 := List.length_filter_le (fun x : NodeV => withinF (txt x.path) (txt p) == true) (L.take k)
        rw [List.length_take] at h1
        unfold nodesIn
        omega
      have HP := Lib.hid (filter_take (fun x : NodeV => withinF (txt x.path) (txt p) == true) L k hkl)
      have HWk := Lib.hid (HW.out _ (List.getElem_mem hkl))
      obtain ⟨bl, off, rfl, hb, c0, c1, c2, c3, c4⟩ := NodesAt.node (HA.out.ext hE) hkl
      have HE := Lib.hid hE; clear hE
      obtain ⟨x, hx⟩ : ∃ x, L[k] = x := ⟨_, rfl⟩
      rw [hx] at HP HWk c0 c1 c2 c3 c4
      clear hx hkl
      obtain ⟨f, hf⟩ : ∃ f, withinF (txt x.path) (txt p) = f := ⟨_, rfl⟩
      simp only [hf] at HP
      have HWk := Lib.hid (fun w' h' => by have h := HWk.out w' h'; rw [hf] at h; exact h)
      clear hf
      go_wp2_with fail
      refine (HWk.out _ (Ext.trans HE.out ((Ext.refl wr).alloc _))).mono ?_
      rintro e w2 ⟨rfl, hE2⟩
      obtain ⟨d0, d1, d2, d3, d4⟩ := node_new x hE2
      clear c0 c1 c2 c3 c4
      have hE2 := Ext.trans ((Ext.refl wr).alloc _) hE2
      have HE2 := Lib.hid hE2; clear hE2
      cases f
      · have hP : nodesIn p true (L.take (k + 1)) = nodesIn p true (L.take k) := by rw [nodesIn, HP.out]; rfl
        have HP := Lib.hid hP; clear hP
        go_wp2
        go_roundw
        case rel => exact ⟨k + 1, by omega, by go_num, by rw [HP.out]; exact HO.out.ext HE2.out⟩
        case measure => simp [intOf]; omega
      · have hP : nodesIn p true (L.take (k + 1)) = nodesIn p true (L.take k) ++ [x] := by rw [nodesIn, HP.out]; rfl
        have HP := Lib.hid hP; clear hP
        go_wp2_with (at_builtin; refine node_append rfl _ _ rfl w _ _ rfl ((HO.out.ext HE2.out).alloc _) x _ 1 rfl (cells_at _ _ _ (by simp)) hkp ?_; intro v' w4 hown' hE4)
        go_roundw
        case rel => exact ⟨k + 1, by omega, by go_num, by rw [HP.out]; exact hown'⟩
        case measure => simp [intOf]; omega
    · obtain rfl : k = n := by omega
      have HO := Lib.hid hown; clear hown
      go_wp2
      go_ret
      exact nodes_told (by have h := HO.out; rw [List.take_of_length_le (by rw [HN.out]; exact Nat.le_refl _)] at h; exact h)
set_option maxRecDepth 100000 in
theorem subP_any (a : Option Addr) (L : List NodeV) (c : Nat) (p : ByteArray) (w : World) (hL : SmallL L) (hp : p.size ≤ 1000) (hA : NodesAt w a L) :
    Calls Tryz.prog 58 #[.slice a L.length c, .string p] w (NodesTold (nodesIn p true L) w) := by
  obtain ⟨w1, hw1⟩ : ∃ w1, w.alloc (.cells #[.string p] 9) = w1 := ⟨_, rfl⟩
  have hE1 : Ext w w1 := by rw [← hw1]; exact (Ext.refl w).alloc _
  have hb := (by rw [← hw1]; exact heap_at w _ rfl : w1.heap[w.heap.size]? = some (.cells #[.string p] 9 (0, 0)))
  have HW := Lib.hid (pickSP a L c w.heap.size p w1 hL hp (hA.ext hE1) (blk_cell hb rfl) (blk_lt hb))
  have HE1 := Lib.hid hE1
  have HW1 := Lib.hid hw1
  clear hL hA hb hE1 hw1
  go_enter Tryz.func58, Tryz.ntmps58
  go_wp2_with fail
  rw [HW1.out]
  refine HW.out.mono ?_
  rintro e w2 ⟨a2, c2, rfl, hE2, hA2, hc2⟩
  have H2 := Lib.hid (And.intro (Ext.trans HE1.out hE2) (And.intro hA2 hc2))
  clear hE2 hA2 hc2
  obtain ⟨m, hm⟩ : ∃ m, (nodesIn p true L).length = m := ⟨_, rfl⟩
  rw [hm]
  have HM := Lib.hid hm; clear hm
  go_wp2
  go_ret
  exact ⟨a2, c2, by rw [← HM.out]; rfl, H2.out.1, H2.out.2.1, H2.out.2.2⟩
/-- The first node with a path. -/
def findF (L : List NodeV) (p : ByteArray) : Option NodeV := L.find? fun x => decide (x.path = p)
def FindTold (L : List NodeV) (p : ByteArray) (w : World) (e : Ending) (w' : World) : Prop :=
  Ext w w' ∧ ((∃ x, findF L p = some x ∧ e = .returned (.tuple #[x.val, .bool true])) ∨ (findF L p = none ∧ e = .returned (.tuple #[nodeZ', .bool false])))
set_option maxHeartbeats 2000000 in
set_option maxRecDepth 100000 in
theorem findP_any (a : Option Addr) (L : List NodeV) (c : Nat) (p : ByteArray) (w : World) (hl : L.length ≤ 1000) (hA : NodesAt w a L) : Calls Tryz.prog 19 #[.slice a L.length c, .string p] w (FindTold L p w) := by
  have HA := Lib.hid hA; clear hA
  obtain ⟨n, hn⟩ : ∃ n, L.length = n := ⟨_, rfl⟩
  rw [hn] at hl ⊢
  have HN := Lib.hid hn; clear hn
  have hR0 : (w.alloc (.cells #[.string ⟨#[]⟩, .int .i64 0, .int .i64 0, .int .i64 0, .string ⟨#[]⟩] 42)).heap[w.heap.size]? = some (.cells #[.string ⟨#[]⟩, .int .i64 0, .int .i64 0, .int .i64 0, .string ⟨#[]⟩] 42 (0, 0)) := heap_at w _ rfl
  have HR0 := Lib.hid hR0; clear hR0
  go_enter Tryz.func19, Tryz.ntmps19
  go_wp2
  go_loopw [7, 10] (fun _ i w' => ∃ k : Nat, k ≤ n ∧ i = .int .i64 k ∧ (∀ j (hj : j < L.length), j < k → L[j].path ≠ p) ∧ Ext (w.alloc (.cells #[.string ⟨#[]⟩, .int .i64 0, .int .i64 0, .int .i64 0, .string ⟨#[]⟩] 42)) w') (fun _ i _ => n - (intOf i).toNat)
  case atStart => exact ⟨0, Nat.zero_le _, rfl, fun j _ h => by omega, Ext.refl _⟩
  case round =>
    obtain ⟨k, hk, rfl, hall, hE⟩ := hrel
    have HAll := Lib.hid hall; clear hall
    have hRb := hE.block HR0.out
    have hEw : Ext w wr := ((Ext.refl w).alloc _).trans hE
    have hwl := blk_lt hRb
    have HRb := Lib.hid (And.intro hRb (And.intro hE hEw)); clear hE
    clear hRb
    by_cases hlt : k < n
    · have hkl : k < L.length := by rw [HN.out]; exact hlt
      obtain ⟨bl, off, rfl, hb, c0, c1, c2, c3, c4⟩ := NodesAt.node (HA.out.ext hEw) hkl
      clear hEw
      obtain ⟨x, hx⟩ : ∃ x, L[k] = x := ⟨_, rfl⟩
      rw [hx] at c0 c1 c2 c3 c4
      have HX := Lib.hid hx; clear hx
      by_cases hqp : x.path = p
      · have hfind : findF L p = some x := by
          unfold findF
          rw [List.find?_eq_some_iff_getElem]
          refine ⟨by simpa using hqp, k, hkl, HX.out, fun j hj => ?_⟩
          have := HAll.out j (by omega) hj
          simpa using this
        have HFi := Lib.hid hfind; clear hfind
        have hqe : (x.path.toList == p.toList) = true := by rw [hqp]; simp
        have HQ := Lib.hid hqp; clear hqp
        go_wp2_with (refine wpList_store_blk rfl rfl rfl rfl (heap_before wr _ HRb.out.1) (by rfl) (by kernel_rfl) (by simp [Value.oneCell']) ?_)
        refine bodyPost_ret (res_cell_tmp rfl rfl rfl (putBlk_same _ (lt_alloc hwl)) (by kernel_rfl) (by kernel_rfl)) rfl ?_
        refine ⟨?_, Or.inl ⟨x, HFi.out, rfl⟩⟩
        exact Ext.putNew (HRb.out.2.2.alloc _) (Nat.le_refl _) _
      · have hne := list_ne hqp
        go_wp2
        go_roundw
        case rel =>
          refine ⟨k + 1, by omega, by go_num, fun j hj h1 => ?_, HRb.out.2.1.alloc _⟩
          by_cases hjk : j < k
          · exact HAll.out j hj hjk
          · obtain rfl : j = k := by omega
            rw [HX.out]; exact hqp
        case measure => simp [intOf]; omega
    · obtain rfl : k = n := by omega
      clear hEw
      have hfind : findF L p = none := by
        unfold findF
        rw [List.find?_eq_none]
        intro x hx
        obtain ⟨j, hj, rfl⟩ := List.getElem_of_mem hx
        simpa using HAll.out j hj (by rw [HN.out] at hj; exact hj)
      have HFi := Lib.hid hfind; clear hfind
      go_wp2_with (refine wpList_store_blk rfl rfl rfl rfl HRb.out.1 (by rfl) (by kernel_rfl) (by simp [Value.oneCell']) ?_)
      refine bodyPost_ret (res_cell_tmp rfl rfl rfl (putBlk_same _ hwl) (by kernel_rfl) (by kernel_rfl)) rfl ?_
      refine ⟨?_, Or.inr ⟨HFi.out, rfl⟩⟩
      exact Ext.putNew HRb.out.2.2 (Nat.le_refl _) _
end Go.Proofs.YtiopahkigbdmcaaGreat
/- What a mirror is made of (layer 14): lists behind lists; a job's memory; its opening: the walks. -/
namespace Go.Proofs.YtiopahkigbdmcaaGreat
open Go Go.Proofs Go.RowKit

section
variable {α : Type} {f : α → List Value} {T : TypeId} {n : Nat} {P : Program}
/-- append(a list that is being built, whatever list ..). -/
theorem wpList_append_any {ops : Array Oper} {rest : List Oper} {o : Oper} {a : Act} {Q : Exit → Act → World → Prop} {w : World} (hgd : o.guard = none) (s x : Operand) (t : TypeId)
    (ho : o.op = .call { callee := .builtin .append, args := #[s, x], argTypes := #[t, t] }) (hf : ∀ x, (f x).length = n)
    (i : TypeInfo) (z : Value) (bytes : Nat) (ht : P.underlying t = some (.slice T)) (hi : P.info? T = some i) (hz : i.zero = some z)
    (hsize : i.size = n) (hby : i.bytes = bytes) (hzs : z.cells.size = n) (hsz : 0 < n)
    (w0 : World) (v : Value) (L : List α) (hs : a.eval s = v) (hO : OwnL f T n w0 v L w)
    (ad : Option Addr) (c m : Nat) (M : List α) (hm : m = M.length) (hx : a.eval x = .slice ad m c) (hM : ListAt f T n w ad M) (h1 : ∀ x ∈ M, ∀ u ∈ f x, u.oneCell' = true)
    (h63 : L.length + M.length ≤ 100000) (hbytes : bytes ≤ 1000000)
    (h : ∀ v' w', OwnL f T n w0 v' (L ++ M) w' → w.grownBy w' v.ownBlock → wpList P ops Q rest (a.put o.dst v') w') : wpList P ops Q (o :: rest) a w := by
  cases ad with
  | none =>
    have hM0 : M = [] := by
      rcases hM with h | ⟨b, off, cs, fz, ha, _⟩
      · exact h
      · cases ha
    subst hM0
    subst hm
    have hrun : (Builtin.append_ #[t, t] o.type #[v, .slice none 0 c]).run P w = .ok v w := by
      rcases hO.2.2 with ⟨rfl, h0⟩ | ⟨g, cap, cur, rfl, _, _, hnc, _⟩
      · simp [Builtin.append_, run_underlying ht, sizeOf, typeInfo, hi, Builtin.lenOf, Builtin.firstCells]
      · simp [Builtin.append_, run_underlying ht, sizeOf, typeInfo, hi, Builtin.lenOf, Builtin.firstCells, hnc, storeCells]
    refine wpList_plain hgd fun K hK => ?_
    have hk := hK _ _ (h v w (by rw [List.append_nil]; exact hO) (World.grownBy.refl w _))
    unfold Oper.wp execOp
    simp only [ho, resolve, invoke, builtin, Sem.run_bind, Sem.run_pure, Result.andThen_ok, List.map_toArray, List.map_cons, List.map_nil, hs, hx, List.length_nil, hrun]
    exact hk
  | some ad =>
    subst hm
    refine wpList_append_own _ hgd s x t ho w0.heap.size T i z n bytes ht hi hz hsize hby hzs hsz v L.length (L.flatMap f) hs hO.2 ad M.length c (M.flatMap f) hx (flat_len hf M) ?_ ?_ (by unfold maxLen; omega) ?_ hO.1.size ?_
    · rcases hM with h0 | ⟨b, off, cs, fz, ha, hb, hall⟩
      · subst h0; intro j u hj; simp at hj
      · injection ha with ha
        subst ha
        exact ListAt.flat (T := T) hf hsz (Or.inr ⟨b, off, cs, fz, rfl, hb, hall⟩)
    · intro u hu
      obtain ⟨y, hy, hu⟩ := List.mem_flatMap.1 hu
      exact h1 y hy u hu
    · calc (L.length + M.length) * bytes ≤ 100000 * 1000000 := Nat.mul_le_mul h63 hbytes
        _ ≤ 140737488355328 := by decide
    · intro v' w' hown hg _
      exact h v' w' ⟨Below.trans hO.1 (grown_below hg (fun k hk => (hO.2.lt k hk).1) hO.1.size), by rw [List.length_append, List.flatMap_append]; exact hown⟩ hg
end
theorem nodes_app {ops : Array Oper} {rest : List Oper} {o : Oper} {a : Act} {Q : Exit → Act → World → Prop} {w : World} (hgd : o.guard = none) (s x : Operand)
    (ho : o.op = .call { callee := .builtin .append, args := #[s, x], argTypes := #[22, 22] })
    (w0 : World) (v : Value) (L : List NodeV) (hs : a.eval s = v) (hO : OwnN w0 v L w)
    (ad : Option Addr) (c m : Nat) (M : List NodeV) (hm : m = M.length) (hx : a.eval x = .slice ad m c) (hM : NodesAt w ad M) (h63 : L.length + M.length ≤ 90000)
    (h : ∀ v' w', OwnN w0 v' (L ++ M) w' → w.grownBy w' v.ownBlock → wpList Tryz.prog ops Q rest (a.put o.dst v') w') : wpList Tryz.prog ops Q (o :: rest) a w := by
  obtain ⟨i, h1, h2, h3, h4⟩ := node_info
  exact wpList_append_any hgd s x 22 ho NodeV.len i nodeZ 56 (by kernel_rfl) h1 h2 h3 h4 rfl (by decide) w0 v L hs hO ad c m M hm hx hM (fun y _ => y.one) (by omega) (by decide) h
theorem OwnL.one {α : Type} {f : α → List Value} {T : TypeId} {n : Nat} {w0 w : World} (hE : Ext w0 w) (x : α) (cs : Array Value) (hc : cs.toList = f x) (hn : (f x).length = n) : OwnL f T n w0 (.slice (some ⟨w.heap.size, 0, none⟩) 1 1) [x] (w.alloc (.cells cs T)) := by
  have hcs : cs.size = n := by rw [← hn, ← hc]; simp
  refine ⟨hE.alloc _, by simp [hn], Or.inr ⟨w.heap.size, 1, cs, rfl, hE.size, heap_new w _, Nat.le_refl _, by unfold maxLen; omega, by rw [hcs, Nat.one_mul], ?_⟩⟩
  show cs.toList.take (1 * n) = [x].flatMap f
  rw [Nat.one_mul, hc, List.flatMap_cons, List.flatMap_nil, List.append_nil, ← hn, List.take_length]
theorem OwnL.rebase {α : Type} {f : α → List Value} {T : TypeId} {n : Nat} {w0 w1 w : World} {v : Value} {L : List α} (h : OwnL f T n w1 v L w) (hE : Ext w0 w1) : OwnL f T n w0 v L w := by
  obtain ⟨h1, h2, h3⟩ := h
  refine ⟨Ext.trans hE h1, h2, ?_⟩
  rcases h3 with h3 | ⟨g, cap, cur, hv, hb, h4⟩
  · exact Or.inl h3
  · exact Or.inr ⟨g, cap, cur, hv, Nat.le_trans hE.size hb, h4⟩
/-- Two rows of two kinds of elements are two rows. -/
theorem own_two {α β : Type} {f : α → List Value} {g : β → List Value} {T S : TypeId} {n m : Nat} {w0 w1 w : World} {v u : Value} {L : List α} {M : List β} (h : OwnL f T n w0 v L w) (k : OwnL g S m w1 u M w) (hne : T ≠ S) : v.ownBlock = none ∨ v.ownBlock ≠ u.ownBlock := by
  obtain ⟨_, _, ⟨rfl, _⟩ | ⟨b, cap, cur, rfl, _, hb, _⟩⟩ := h
  · exact Or.inl rfl
  · right
    intro e
    obtain ⟨_, _, ⟨rfl, _⟩ | ⟨b', cap', cur', rfl, _, hb', _⟩⟩ := k
    · cases e
    · have : b = b' := by injection e
      subst this
      rw [hb] at hb'
      injection hb' with hb'
      injection hb' with _ h2 _
      exact hne h2
/-- A cell of the mirror. -/
def cellC (c : NodeV × Bool) : List Value := [.string c.1.path, .int .i64 c.1.kind, .int .i64 c.1.mode, .int .i64 c.1.time, .string c.1.data, .bool c.2]
theorem cellC_len (c : NodeV × Bool) : (cellC c).length = 6 := rfl
theorem cellC_one (c : NodeV × Bool) : ∀ u ∈ cellC c, u.oneCell' = true := by
  intro u hu
  simp only [cellC, List.mem_cons, List.mem_nil_iff, or_false] at hu
  rcases hu with rfl | rfl | rfl | rfl | rfl | rfl <;> rfl
abbrev CellsAt := ListAt cellC 65 6
abbrev OwnC := OwnL cellC 65 6
def cellZ : Value := .agg #[.string ByteArray.empty, .int .i64 0, .int .i64 0, .int .i64 0, .string ByteArray.empty, .bool false]
theorem cell_info : ∃ i, Tryz.prog.info? 65 = some i ∧ i.zero = some cellZ ∧ i.size = 6 ∧ i.bytes = 64 := info_parts (by kernel_rfl)
theorem cells_app {ops : Array Oper} {rest : List Oper} {o : Oper} {a : Act} {Q : Exit → Act → World → Prop} {w : World} (hgd : o.guard = none) (s x : Operand)
    (ho : o.op = .call { callee := .builtin .append, args := #[s, x], argTypes := #[60, 60] })
    (w0 : World) (v : Value) (L : List (NodeV × Bool)) (hs : a.eval s = v) (hO : OwnC w0 v L w)
    (ad : Option Addr) (c m : Nat) (M : List (NodeV × Bool)) (hm : m = M.length) (hx : a.eval x = .slice ad m c) (hM : CellsAt w ad M) (h63 : L.length + M.length ≤ 90000)
    (h : ∀ v' w', OwnC w0 v' (L ++ M) w' → w.grownBy w' v.ownBlock → wpList Tryz.prog ops Q rest (a.put o.dst v') w') : wpList Tryz.prog ops Q (o :: rest) a w := by
  obtain ⟨i, h1, h2, h3, h4⟩ := cell_info
  exact wpList_append_any hgd s x 60 ho cellC_len i cellZ 64 (by kernel_rfl) h1 h2 h3 h4 rfl (by decide) w0 v L hs hO ad c m M hm hx hM (fun y _ => cellC_one y) (by omega) (by decide) h
def CellsTold (R : List (NodeV × Bool)) (w : World) (e : Ending) (w' : World) : Prop := ∃ a c, e = .returned (.slice a R.length c) ∧ Ext w w' ∧ CellsAt w' a R ∧ R.length ≤ c
theorem cells_told {w w' : World} {v : Value} {R : List (NodeV × Bool)} (h : OwnC w v R w') : CellsTold R w (.returned v) w' := by
  obtain ⟨a, c, rfl, hc⟩ := h.slice
  exact ⟨a, c, rfl, h.1, OwnL.done cellC_len h, hc⟩
theorem one_cells (x : NodeV) (o : Bool) : ∀ i (h : i < [(x, o)].length) j v, (cellC [(x, o)][i])[j]? = some v → #[Value.string x.path, .int .i64 x.kind, .int .i64 x.mode, .int .i64 x.time, .string x.data, .bool o][0 + i * 6 + j]? = some v := by
  intro i h j v hv
  have hi : i = 0 := by simpa using h
  subst hi
  rw [Nat.zero_mul, Nat.add_zero, Nat.zero_add, List.getElem?_toArray]
  exact hv
/-- A job. -/
def jobObj (bs bd : Nat) (ta : Option Addr) (n tc : Nat) (ra : Option Addr) (r rc : Nat) (del : Bool) : Obj := .cells #[.map (some bs), .map (some bd), .slice ta n tc, .slice ra r rc, .bool del] 70
structure JobAt (w : World) (jb : Nat) (s d : List NodeV) (rs : Rules) (del : Bool) : Prop where
  mem : ∃ bs bd ta tc ra rc, w.heap[jb]? = some (jobObj bs bd ta d.length tc ra rs.length rc del) ∧ Ben w bs s ∧ Ben w bd d ∧ NodesAt w ta d ∧ RulesAt w ra rs
theorem JobAt.ext {w w' : World} {jb : Nat} {s d : List NodeV} {rs : Rules} {del : Bool} (h : JobAt w jb s d rs del) (hE : Ext w w') : JobAt w' jb s d rs del := by
  obtain ⟨bs, bd, ta, tc, ra, rc, h1, h2, h3, h4, h5⟩ := h.mem
  exact ⟨⟨bs, bd, ta, tc, ra, rc, hE.block h1, h2.ext hE, h3.ext hE, h4.ext hE, h5.ext hE⟩⟩
theorem JobAt.lt {w : World} {jb : Nat} {s d : List NodeV} {rs : Rules} {del : Bool} (h : JobAt w jb s d rs del) : jb < w.heap.size := by
  obtain ⟨bs, bd, ta, tc, ra, rc, h1, _⟩ := h.mem
  exact blk_lt h1
set_option maxHeartbeats 2000000 in
set_option maxRecDepth 100000 in
theorem allCW (a : Option Addr) (L : List NodeV) (c : Nat) (w : World) (hl : L.length ≤ 2000) (hA : NodesAt w a L) : Calls Tryz.prog 74 #[.slice a L.length c] w (CellsTold (theirsL L) w) := by
  have HA := Lib.hid hA; clear hA
  obtain ⟨n, hn⟩ : ∃ n, L.length = n := ⟨_, rfl⟩
  rw [hn] at hl ⊢
  have HN := Lib.hid hn; clear hn
  go_enter Tryz.func74, Tryz.ntmps74
  go_wp2
  go_loopw [3, 5, 8] (fun v _ i w' => ∃ k : Nat, k ≤ n ∧ i = .int .i64 k ∧ OwnC w v (theirsL (L.take k)) w') (fun _ _ i _ => n - (intOf i).toNat)
  case atStart => exact ⟨0, Nat.zero_le _, rfl, OwnL.start w⟩
  case round =>
    obtain ⟨k, hk, rfl, hown⟩ := hrel
    by_cases hlt : k < n
    · have hkl : k < L.length := by rw [HN.out]; exact hlt
      have hE := hown.1
      have HO := Lib.hid hown; clear hown
      have hkp : (theirsL (L.take k)).length ≤ 2000 := by
        unfold theirsL
        rw [List.length_map, List.length_take]
        omega
      have HP := Lib.hid (List.take_succ_eq_append_getElem hkl)
      obtain ⟨bl, off, rfl, hb, c0, c1, c2, c3, c4⟩ := NodesAt.node (HA.out.ext hE) hkl
      clear hE
      obtain ⟨x, hx⟩ : ∃ x, L[k] = x := ⟨_, rfl⟩
      rw [hx] at HP c0 c1 c2 c3 c4
      clear hx hkl
      go_wp2_with (at_builtin; (refine cells_app rfl _ _ rfl w _ (theirsL (L.take k)) rfl ((HO.out.alloc _).alloc _) _ 1 1 [(x, false)] rfl rfl (Or.inr ⟨_, 0, _, (_, _), rfl, heap_at _ _ (by simp), one_cells x false⟩) (by rw [List.length_singleton]; omega) ?_); intro v' w4 hown' hE4)
      go_roundw
      case rel => exact ⟨k + 1, by omega, by go_num, by rw [HP.out]; unfold theirsL; rw [List.map_append]; exact hown'⟩
      case measure => simp [intOf]; omega
    · obtain rfl : k = n := by omega
      have HO := Lib.hid hown; clear hown
      go_wp2
      go_ret
      exact cells_told (by have h := HO.out; rw [List.take_of_length_le (by rw [HN.out]; exact Nat.le_refl _)] at h; exact h)
end Go.Proofs.YtiopahkigbdmcaaGreat
