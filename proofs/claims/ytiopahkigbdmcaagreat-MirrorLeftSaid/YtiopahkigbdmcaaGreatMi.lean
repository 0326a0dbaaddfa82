/- A path's parent (layer 1), a node's place, and whether a node is right (layers 9, 10), the document's side: the walks. -/
import Derived.Test.YtiopahkigbdmcaaGreatMh
import Derived.Deep.DeepCutAuto
import Derived.Deep.CutBlock
import Derived.Laws.AppendOwnNone
namespace Go.Proofs.YtiopahkigbdmcaaGreat
open Go Go.Proofs Go.RowKit

/-- A path's parent. -/
def upF (l : List Int) : List Int := glueF (namesF l).dropLast
def ParentTold (p : ByteArray) (w : World) (e : Ending) (w' : World) : Prop := ∃ s, e = .returned (.tuple #[.string s, .bool (!(namesF (txt p)).isEmpty)]) ∧ txt s = upF (txt p) ∧ s.size ≤ p.size ∧ Ext w w'
theorem up_len (l : List Int) : (upF l).length ≤ l.length := by
  unfold upF
  rcases ups_cases l with ⟨h, _⟩ | ⟨h, _⟩
  · rw [h]; exact Nat.zero_le _
  · rw [h, List.dropLast_eq_take]
    by_cases h1 : (splitF l).length = 1
    · rw [h1]; exact Nat.zero_le _
    · have h0 := List.length_pos_iff.2 (splitF_ne l)
      have := glue_take_len l ((splitF l).length - 1) (by omega) (by rw [h]; omega)
      rw [h] at this
      exact this
theorem parent_told {p s : ByteArray} {b : Bool} {w w' : World} (hb : (!(namesF (txt p)).isEmpty) = b) (hs : txt s = upF (txt p)) (hE : Ext w w') : ParentTold p w (.returned (.tuple #[.string s, .bool b])) w' :=
  ⟨s, by rw [hb], hs, by have h := up_len (txt p); rw [← hs, txt_len, txt_len] at h; exact h, hE⟩
set_option maxHeartbeats 1000000 in
set_option maxRecDepth 100000 in
theorem parentD_any (p : ByteArray) (w : World) (hp : p.size ≤ 1000) : Calls Tryz.prog 46 #[.string p] w (ParentTold p w) := by
  have HNm := Lib.hid (fun w => namesD_any p w hp)
  go_enter Tryz.func46, Tryz.ntmps46
  go_wp2_with fail
  refine (HNm.out _).mono ?_
  rintro e w2 ⟨a, cp, L, rfl, hE2, hL, hLt, hcp⟩
  have HL := Lib.hid hL; clear hL
  obtain ⟨hl1, hl2⟩ := names_len hLt
  have HL2 := Lib.hid hl2; clear hl2
  have HLT := Lib.hid hLt; clear hLt
  have HE2 := Lib.hid hE2; clear hE2
  obtain ⟨n, hn⟩ : ∃ n, L.length = n := ⟨_, rfl⟩
  rw [hn] at hcp hl1 ⊢
  have HN := Lib.hid hn; clear hn
  by_cases h0 : n = 0
  · have h0' : ((n : Int) == 0) = true := by rw [h0]; rfl
    have he : Hid (namesF (txt p) = []) := Lib.hid (by rw [← HLT.out, List.map_eq_nil_iff]; exact List.eq_nil_of_length_eq_zero (by rw [HN.out, h0]))
    go_wp2
    go_ret2
    exact parent_told (by rw [he.out]; rfl) (by rw [upF, he.out]; rfl) HE2.out
  · have h0' : ((n : Int) == 0) = false := by rw [beq_eq_false_iff_ne]; omega
    have hn1 : 0 < L.length := by rw [HN.out]; omega
    obtain ⟨b, off, rfl, hb, -⟩ := HL.out.cell hn1
    have hne : Hid ((!(namesF (txt p)).isEmpty) = true) := Lib.hid (by
      rw [← HLT.out]
      cases L with
      | nil => simp at hn1
      | cons x L => rfl)
    have wq : IntKind.i64.wrap ((n : Int) - 1) = (n : Int) - 1 := IntWalk.i64_in _ (by omega)
    have hG := fun w' (h : Ext w2 w') => glueD_any _ (L.take (n - 1)) cp w' (by rw [List.length_take, HN.out]; omega) (fun x hx => Nat.le_trans (HL2.out x (List.mem_of_mem_take hx)) (by omega)) ((HL.out.take (n - 1)).ext h)
    rw [List.length_take, HN.out, Nat.min_eq_left (by omega)] at hG
    have HG := Lib.hid hG; clear hG
    go_wp2_with fail
    refine (HG.out _ (Ext.refl _)).mono ?_
    rintro e w5 ⟨s, rfl, hst, rfl⟩
    rw [List.map_take, HLT.out] at hst
    have hu : Hid (txt s = upF (txt p)) := Lib.hid (by
      rw [hst, upF, List.dropLast_eq_take]
      have : (namesF (txt p)).length = n := by rw [← HLT.out, List.length_map, HN.out]
      rw [this])
    clear hst
    go_wp2
    go_ret2
    exact parent_told hne.out hu.out HE2.out

/-- The place of the first node with a path. -/
def atF (L : List NodeV) (p : ByteArray) : Int := match L.findIdx? (fun x => decide (x.path = p)) with
  | some i => i
  | none => -1
theorem at_from (L : List NodeV) (p : ByteArray) (k : Nat) (hk : k < L.length) (h : ∀ j (hj : j < k), L[j].path ≠ p) (hp : L[k].path = p) : atF L p = k := by
  unfold atF
  have : L.findIdx? (fun x => decide (x.path = p)) = some k := by
    rw [List.findIdx?_eq_some_iff_getElem]
    exact ⟨hk, by simpa using hp, fun j hj => by simpa using h j hj⟩
  rw [this]
theorem at_none (L : List NodeV) (p : ByteArray) (h : ∀ j (hj : j < L.length), L[j].path ≠ p) : atF L p = -1 := by
  unfold atF
  have : L.findIdx? (fun x => decide (x.path = p)) = none := by
    rw [List.findIdx?_eq_none_iff]
    intro x hx
    obtain ⟨j, hj, rfl⟩ := List.getElem_of_mem hx
    simpa using h j hj
  rw [this]
set_option maxHeartbeats 1000000 in
set_option maxRecDepth 100000 in
theorem atD_any (a : Option Addr) (L : List NodeV) (c : Nat) (p : ByteArray) (w : World) (hl : L.length ≤ 1000) (hA : NodesAt w a L) : Calls Tryz.prog 21 #[.slice a L.length c, .string p] w (RetV w (.int .i64 (atF L p))) := by
  have HA := Lib.hid hA; clear hA
  obtain ⟨n, hn⟩ : ∃ n, L.length = n := ⟨_, rfl⟩
  rw [hn] at hl ⊢
  have HN := Lib.hid hn; clear hn
  go_enter Tryz.func21, Tryz.ntmps21
  go_wp2
  go_loopw [5] (fun i w' => ∃ k : Nat, k ≤ n ∧ i = .int .i64 k ∧ (∀ j (hj : j < L.length), j < k → L[j].path ≠ p) ∧ Ext w w') (fun i _ => n - (intOf i).toNat)
  case atStart => exact ⟨0, Nat.zero_le _, rfl, fun j _ h => by omega, Ext.refl w⟩
  case round =>
    obtain ⟨k, hk, rfl, hall, hE⟩ := hrel
    have HAll := Lib.hid hall; clear hall
    by_cases hlt : k < n
    · have hkl : k < L.length := by rw [HN.out]; exact hlt
      obtain ⟨bl, off, rfl, hb, c0, c1, c2, c3, c4⟩ := NodesAt.node (HA.out.ext hE) hkl
      have HE := Lib.hid hE; clear hE
      obtain ⟨q, hq⟩ : ∃ q, L[k].path = q := ⟨_, rfl⟩
      rw [hq] at c0
      have HQ := Lib.hid hq; clear hq
      clear c1 c2 c3 c4
      by_cases hqp : q = p
      · have hv : Hid (atF L p = k) := Lib.hid (at_from L p k hkl (fun j hj => HAll.out j (by omega) hj) (by rw [HQ.out, hqp]))
        subst hqp
        go_wp2
        go_ret
        exact ⟨by rw [hv.out]; rfl, HE.out⟩
      · have hne := list_ne hqp
        go_wp2
        go_roundw
        case rel =>
          refine ⟨k + 1, by omega, by go_num, fun j hj h1 => ?_, HE.out⟩
          by_cases hjk : j < k
          · exact HAll.out j hj hjk
          · obtain rfl : j = k := by omega
            rw [HQ.out]; exact hqp
        case measure => simp [intOf]; omega
    · obtain rfl : k = n := by omega
      have hv : Hid (atF L p = -1) := Lib.hid (at_none L p (fun j hj => HAll.out j hj (by rw [HN.out] at hj; exact hj)))
      go_wp2
      go_ret
      exact ⟨by rw [hv.out]; rfl, hE⟩
theorem at_case (L : List NodeV) (p : ByteArray) : (atF L p = -1 ∧ ∀ x ∈ L, x.path ≠ p) ∨ ∃ k : Nat, ∃ h : k < L.length, atF L p = k ∧ L[k].path = p := by
  unfold atF
  cases h : L.findIdx? (fun x => decide (x.path = p)) with
  | none =>
    left
    rw [List.findIdx?_eq_none_iff] at h
    exact ⟨rfl, fun x hx => by simpa using h x hx⟩
  | some k =>
    right
    rw [List.findIdx?_eq_some_iff_getElem] at h
    obtain ⟨h1, h2, _⟩ := h
    exact ⟨k, h1, rfl, by simpa using h2⟩
/-- What is wrong with a path's parent: nothing, if it is the root, or a directory that is there. -/
def upOk (L : List NodeV) (p : List Int) : Prop := upF p = [] ∨ ∃ x ∈ L, txt x.path = upF p ∧ x.kind = 1
set_option maxHeartbeats 1000000 in
set_option maxRecDepth 100000 in
theorem parentND (a : Option Addr) (L : List NodeV) (c : Nat) (p : ByteArray) (w : World) (hl : L.length ≤ 1000) (hp : p.size ≤ 1000) (hA : NodesAt w a L) : Calls Tryz.prog 29 #[.slice a L.length c, .string p] w (fun e w' => ∃ z, e = .returned (.int .i64 z) ∧ (z = 0 → upOk L (txt p)) ∧ Ext w w') := by
  have HP := Lib.hid (fun w => parentD_any p w hp)
  have HAt := Lib.hid (fun q w' (h : Ext w w') => atD_any a L c q w' hl (hA.ext h))
  have HA := Lib.hid hA; clear hA
  obtain ⟨n, hn⟩ : ∃ n, L.length = n := ⟨_, rfl⟩
  rw [hn] at hl HAt ⊢
  have HN := Lib.hid hn; clear hn
  go_enter Tryz.func29, Tryz.ntmps29
  go_wp2_with fail
  refine (HP.out _).mono ?_
  rintro e w1 ⟨s, rfl, hs, hsz, hE1⟩
  obtain ⟨ok, hok⟩ : ∃ ok, (!(namesF (txt p)).isEmpty) = ok := ⟨_, rfl⟩
  rw [hok]
  clear hok
  have HS := Lib.hid hs; clear hs
  have HE1 := Lib.hid hE1; clear hE1
  go_wp2_with fail
  refine (HAt.out _ _ HE1.out).mono ?_
  rintro e w2 ⟨rfl, hE2⟩
  have HE2 := Lib.hid (Ext.trans HE1.out hE2); clear hE2
  have hcase := at_case L s
  obtain ⟨z, hz⟩ : ∃ z, atF L s = z := ⟨_, rfl⟩
  rw [hz] at hcase ⊢
  clear hz
  by_cases hs0 : s.size = 0
  · have e0 := empty_is hs0
    clear hcase
    go_wp2
    go_ret
    exact ⟨0, rfl, fun _ => Or.inl (by rw [← HS.out]; exact txt_nil.2 hs0), HE2.out⟩
  · have e0 := empty_not hs0
    rcases hcase with ⟨rfl, _⟩ | ⟨k, hk, rfl, hkp⟩
    · go_wp2
      go_ret
      exact ⟨6, rfl, (fun h => by cases h), HE2.out⟩
    · have hkn : k < n := by rw [← HN.out]; exact hk
      obtain ⟨bl, off, rfl, hb, c0, c1, c2, c3, c4⟩ := NodesAt.node (HA.out.ext HE2.out) hk
      obtain ⟨kd, hkd⟩ : ∃ kd, L[k].kind = kd := ⟨_, rfl⟩
      rw [hkd] at c1
      have HK := Lib.hid (And.intro hkp hkd); clear hkp hkd
      clear c0 c2 c3 c4
      by_cases h1 : kd = 1
      · have g1 : (kd != 1) = false := by rw [h1]; rfl
        go_wp2
        go_ret
        exact ⟨0, rfl, fun _ => Or.inr ⟨_, List.getElem_mem hk, by rw [HK.out.1, HS.out], by rw [HK.out.2, h1]⟩, HE2.out⟩
      · have g1 : (kd != 1) = true := by simpa using h1
        go_wp2
        go_ret
        exact ⟨8, rfl, (fun h => by cases h), HE2.out⟩
end Go.Proofs.YtiopahkigbdmcaaGreat
/- Whether a node is right (layer 9), the document's side: the walk. -/
namespace Go.Proofs.YtiopahkigbdmcaaGreat
open Go Go.Proofs Go.RowKit

/-- What a node that is right has. -/
def goodN (x : NodeV) : Prop := txt x.path ≠ [] ∧ rightF (txt x.path) = true ∧ (x.kind = 1 ∨ x.kind = 2 ∨ x.kind = 3)
def IntTold (G : Prop) (w : World) (e : Ending) (w' : World) : Prop := ∃ z, e = .returned (.int .i64 z) ∧ (z = 0 → G) ∧ Ext w w'
theorem int_told {G : Prop} {w w' : World} {z : Int} (h : G) (hE : Ext w w') : IntTold G w (.returned (.int .i64 z)) w' := ⟨z, rfl, fun _ => h, hE⟩
theorem int_bad {G : Prop} {w w' : World} {z : Int} (h : z ≠ 0) (hE : Ext w w') : IntTold G w (.returned (.int .i64 z)) w' := ⟨z, rfl, fun h0 => absurd h0 h, hE⟩
theorem data_nil {b : ByteArray} (h : b.size = 0) : b = ByteArray.empty := ByteArray.ext (Array.eq_empty_of_size_eq_zero h)
set_option maxHeartbeats 4000000 in
set_option maxRecDepth 100000 in
theorem checkND (x : NodeV) (w : World) (hp : x.path.size ≤ 1000) (hd : x.data.size ≤ 1000) : Calls Tryz.prog 27 #[x.val] w (IntTold (goodN x) w) := by
  unfold NodeV.val
  obtain ⟨r, hr⟩ : ∃ r, rightF (txt x.path) = r := ⟨_, rfl⟩
  have HR := Lib.hid (fun w => by have h := rightD_any x.path w hp; rw [hr] at h; exact h)
  have HG : Hid (goodN x ↔ txt x.path ≠ [] ∧ r = true ∧ (x.kind = 1 ∨ x.kind = 2 ∨ x.kind = 3)) := Lib.hid (by unfold goodN; rw [hr])
  clear hr
  have HN := Lib.hid (fun w2 h => node_new (w := w) (w2 := w2) x h)
  go_enter Tryz.func27, Tryz.ntmps27
  by_cases h0 : x.path.size = 0
  · have e0 := empty_is h0
    go_wp2
    go_ret
    exact int_bad (by decide) ((Ext.refl w).alloc _)
  · have e0 := empty_not h0
    have HZ := Lib.hid h0; clear h0
    go_wp2_with fail
    refine (HR.out _).mono ?_
    rintro e w1 ⟨rfl, hE1⟩
    obtain ⟨d0, d1, d2, d3, d4⟩ := HN.out _ hE1
    have HE1 := Lib.hid (Ext.trans ((Ext.refl w).alloc _) hE1); clear hE1 HN
    cases r
    · go_wp2
      go_ret
      exact int_bad (by decide) HE1.out
    · have HG : Hid ((x.kind = 1 ∨ x.kind = 2 ∨ x.kind = 3) → goodN x) := Lib.hid (fun h => HG.out.2 ⟨fun h => HZ.out (txt_nil.1 h), rfl, h⟩)
      obtain ⟨kd, hkd⟩ : ∃ kd, x.kind = kd := ⟨_, rfl⟩
      rw [hkd] at HG d1
      by_cases k1 : kd = 1
      · have HG1 := Lib.hid (HG.out (Or.inl k1))
        clear HG
        subst k1
        by_cases z1 : x.data.size = 0
        · have z2 : x.data = ByteArray.empty := data_nil z1
          rw [z2] at d4
          go_wp2
          all_goals go_ret
          all_goals exact int_told HG1.out HE1.out
        · have z2 : (0 : Int) < x.data.size := by omega
          clear z1
          go_wp2
          all_goals go_ret
          all_goals exact int_told HG1.out HE1.out
      · by_cases k2 : kd = 2
        · have HG1 := Lib.hid (HG.out (Or.inr (Or.inl k2)))
          clear HG
          subst k2
          have z2 : ¬ (16384 : Int) < x.data.size := by omega
          go_wp2
          all_goals go_ret
          all_goals exact int_told HG1.out HE1.out
        · by_cases k3 : kd = 3
          · have HG1 := Lib.hid (HG.out (Or.inr (Or.inr k3)))
            clear HG
            subst k3
            by_cases z1 : 64 < x.data.size
            · have z2 : (64 : Int) < x.data.size := by omega
              go_wp2
              all_goals go_ret
              all_goals exact int_told HG1.out HE1.out
            · have z2 : ¬ (64 : Int) < x.data.size := by omega
              by_cases z3 : x.data.size = 0
              · have z4 : ((x.data.size : Int) == 0) = true := by rw [z3]; rfl
                go_wp2
                all_goals go_ret
                all_goals exact int_told HG1.out HE1.out
              · have z4 : ((x.data.size : Int) == 0) = false := by rw [beq_eq_false_iff_ne]; omega
                go_wp2
                all_goals try (go_ret; exact int_told HG1.out HE1.out)
                go_loop [3] (fun i => ∃ k : Nat, k ≤ x.data.size ∧ i = .int .i64 k) (fun i => x.data.size - (intOf i).toNat)
                case atStart => exact ⟨0, Nat.zero_le _, rfl⟩
                case round =>
                  obtain ⟨k, hk, rfl⟩ := hrel
                  by_cases hlt : k < x.data.size
                  · by_cases b1 : ((x.data[k].toNat : Nat) : Int) < 33
                    · go_wp2
                      go_ret
                      exact int_told HG1.out HE1.out
                    · by_cases b2 : ((x.data[k].toNat : Nat) : Int) > 126
                      · go_wp2
                        go_ret
                        exact int_told HG1.out HE1.out
                      · go_wp2
                        go_round
                        case rel => exact ⟨k + 1, by omega, by go_num⟩
                        case measure => simp [intOf]; omega
                  · obtain rfl : k = x.data.size := by omega
                    go_wp2
                    go_ret
                    exact int_told HG1.out HE1.out
          · have g1 : (kd != 1) = true := by simpa using k1
            have g2 : (kd != 2) = true := by simpa using k2
            have g3 : (kd != 3) = true := by simpa using k3
            go_wp2
            go_ret
            exact int_bad (by decide) HE1.out
end Go.Proofs.YtiopahkigbdmcaaGreat
/- Whether a tree is right (layer 10), the document's side: that it answers: the walk. -/
namespace Go.Proofs.YtiopahkigbdmcaaGreat
open Go Go.Proofs Go.RowKit

set_option maxHeartbeats 4000000 in
set_option maxRecDepth 100000 in
theorem checkTD (a : Option Addr) (L : List NodeV) (c : Nat) (w : World) (hL : SmallL L) (hA : NodesAt w a L) : Calls Tryz.prog 43 #[.slice a L.length c] w (IntTold True w) := by
  have HCh := Lib.hid (fun (x : NodeV) (hx : x ∈ L) w' => checkND x w' (hL.2 x hx).1 (hL.2 x hx).2)
  have HCm := Lib.hid (fun (x y : NodeV) (hx : x ∈ L) (hy : y ∈ L) w' => cmpD_any x.path y.path w' (hL.2 x hx).1 (hL.2 y hy).1)
  have HPa := Lib.hid (fun (x : NodeV) (hx : x ∈ L) w' (h : Ext w w') => parentND a L c x.path w' hL.1 (hL.2 x hx).1 (hA.ext h))
  have hl := hL.1
  have HA := Lib.hid hA; clear hA hL
  obtain ⟨n, hn⟩ : ∃ n, L.length = n := ⟨_, rfl⟩
  rw [hn] at hl HPa ⊢
  have HN := Lib.hid hn; clear hn
  go_enter Tryz.func43, Tryz.ntmps43
  by_cases h5 : (512 : Int) < n
  · go_wp2
    go_ret
    exact int_told trivial (Ext.refl w)
  · go_wp2
    go_loopw [3] (fun i w' => ∃ k : Nat, k ≤ n ∧ i = .int .i64 k ∧ Ext w w') (fun i _ => n - (intOf i).toNat)
    case atStart => exact ⟨0, Nat.zero_le _, rfl, Ext.refl w⟩
    case round =>
      obtain ⟨k, hk, rfl, hE⟩ := hrel
      by_cases hlt : k < n
      · have hkl : k < L.length := by rw [HN.out]; exact hlt
        obtain ⟨bl, off, rfl, hb, c0, c1, c2, c3, c4⟩ := NodesAt.node (HA.out.ext hE) hkl
        have HC := Lib.hid (fun w2 (h : Ext w w2) => NodesAt.node (HA.out.ext h) hkl)
        have hmem := List.getElem_mem hkl
        have HC1 := Lib.hid (HCh.out _ hmem)
        have HC3 := Lib.hid (HPa.out _ hmem)
        have HK := Lib.hid (fun w2 (h : Ext wr w2) => And.intro ((h.cell hb).trans c0) (And.intro ((h.cell hb).trans c1) (And.intro ((h.cell hb).trans c2) (And.intro ((h.cell hb).trans c3) ((h.cell hb).trans c4)))))
        obtain ⟨x, hx⟩ : ∃ x, L[k] = x := ⟨_, rfl⟩
        rw [hx] at HC1 HC3 HK c0 c1 c2 c3 c4
        clear HC
        have HE := Lib.hid hE; clear hE
        have HX := Lib.hid hx; clear hx hmem
        go_wp2_with fail
        refine (HC1.out _).mono ?_
        rintro e w2 ⟨z, rfl, -, hE2⟩
        obtain ⟨d0, d1, d2, d3, d4⟩ := HK.out _ hE2
        clear c0 c1 c2 c3 c4
        have HE2 := Lib.hid hE2; clear hE2
        by_cases hz : z = 0
        · have hz1 : (z != 0) = false := by rw [hz]; rfl
          clear hz
          go_wp2
          go_cut [40] (fun v w' => (∃ b, v = .bool b) ∧ Ext w2 w')
          case first =>
            by_cases hk0 : k = 0
            · subst hk0
              refine wp_draw_stages 56 16 [false, false, false, false, false, false, false, false, false, false, false, false, false, false, false, true] [([true, true, true, true, true, true, true, true, true, true, true, true, true, true], 14)] Ext Ext.refl (fun _ _ _ => Ext.trans) (by kernel_rfl) (by kernel_rfl) ?_
              apply wpStages_cons (by simp)
              · intro w1 hw1
                simp only [sel_true, sel_nil]
                repeat ((with_reducible refine wpStill_step (fun K hK => ?_)); go_simp; refine hK _ ?_; clear hK K)
                exact wpStill_nil rfl
              try simp only [List.getD_cons_succ, List.getD_cons_zero]
              go_wp2_with fail
              refine ⟨Ext.refl _, ?_⟩
              refine wpStages_nil ?_
              simp only [sel_true, sel_false, sel_nil]
              repeat ((with_reducible refine wpStill_step (fun K hK => ?_)); go_simp; refine hK _ ?_; clear hK K)
              refine wpStill_nil ?_
              try simp only [List.drop_succ_cons, List.drop_zero]
              go_wp2
              go_meet
              exact ⟨⟨_, rfl⟩, (Ext.refl w2).drew⟩
            · have hk1 : 0 < k := by omega
              have hm : k - 1 < L.length := by omega
              obtain ⟨b', o', hbo, hb', e0, -⟩ := NodesAt.node (HA.out.ext HE.out) hm
              injection hbo with hbo
              injection hbo with h1 h2
              subst h1 h2
              have HCC := Lib.hid (fun w' => HCm.out L[k - 1] x (List.getElem_mem hm) (by rw [← HX.out]; exact List.getElem_mem _) w')
              obtain ⟨y, hy⟩ : ∃ y, L[k - 1].path = y := ⟨_, rfl⟩
              rw [hy] at HCC e0
              clear hy hm
              have wq : IntKind.i64.wrap ((k : Int) - 1) = (k : Int) - 1 := IntWalk.i64_in _ (by omega)
              have hk3 : k - 1 < n := by omega
              have hk2 : (k : Int) - 1 < n := by omega
              have hk5 : (1 : Int) ≤ (k : Int) := by omega
              have hE2d : Ext wr w2.drew := HE2.out.drew
              refine wp_draw_stages 56 16 [false, false, false, false, false, false, false, false, false, false, false, false, false, false, false, true] [([true, true, true, true, true, true, true, true, true, true, true, true, true, true], 14)] Ext Ext.refl (fun _ _ _ => Ext.trans) (by kernel_rfl) (by kernel_rfl) ?_
              apply wpStages_cons (by simp)
              · intro w1 hw1
                simp only [sel_true, sel_nil]
                have f0 := ((Ext.trans hE2d hw1).cell (o := off + (k - 1) * 5) hb).trans e0; have f1 := (HK.out _ (Ext.trans hE2d hw1)).1
                repeat ((with_reducible refine wpStill_step (fun K hK => ?_)); go_simp; refine hK _ ?_; clear hK K)
                exact wpStill_nil rfl
              try simp only [List.getD_cons_succ, List.getD_cons_zero]
              go_wp2_with (go_at_call 45; refine (HCC.out _).mono ?_; rintro e w5 ⟨rfl, hE5⟩; have hE5 : Ext w2.drew w5 := hE5)
              refine ⟨hE5, ?_⟩
              have f0 := ((Ext.trans hE2d hE5).cell (o := off + (k - 1) * 5) hb).trans e0
              have f1 := (HK.out _ (Ext.trans hE2d hE5)).1
              refine wpStages_nil ?_
              simp only [sel_true, sel_false, sel_nil]
              repeat ((with_reducible refine wpStill_step (fun K hK => ?_)); go_simp; refine hK _ ?_; clear hK K)
              refine wpStill_nil ?_
              try simp only [List.drop_succ_cons, List.drop_zero]
              go_wp2
              go_meet
              exact ⟨⟨_, rfl⟩, (Ext.refl w2).drew.trans hE5⟩
          case rest =>
            obtain ⟨⟨b, rfl⟩, hEc⟩ := hcut
            cases b
            · have HEC := Lib.hid (Ext.trans HE2.out hEc)
              clear d0 d1 d2 d3 d4
              obtain ⟨d0, d1, d2, d3, d4⟩ := HK.out _ HEC.out
              clear hEc
              go_wp2_with fail
              refine (HC3.out _ (HE.out.trans HEC.out)).mono ?_
              rintro e w6 ⟨z6, rfl, -, hE6⟩
              clear d0 d1 d2 d3 d4
              obtain ⟨d0, d1, d2, d3, d4⟩ := HK.out _ (Ext.trans HEC.out hE6)
              have HE6 := Lib.hid (Ext.trans HEC.out hE6); clear hE6
              by_cases hz6 : z6 = 0
              · have hz7 : (z6 != 0) = false := by rw [hz6]; rfl
                go_wp2
                go_roundw
                case rel => exact ⟨k + 1, by omega, by go_num, HE.out.trans HE6.out⟩
                case measure => simp [intOf]; omega
              · have hz7 : (z6 != 0) = true := by simpa using hz6
                go_wp2_with fail
                refine (HC3.out _ (HE.out.trans HE6.out)).mono ?_
                rintro e w7 ⟨z7, rfl, -, hE7⟩
                have HE7 := Lib.hid (Ext.trans HE6.out hE7); clear hE7
                go_wp2
                go_ret
                exact int_told trivial (HE.out.trans HE7.out)
            · have HEC := Lib.hid hEc; clear hEc
              go_wp2
              go_ret
              exact int_told trivial (HE.out.trans (HE2.out.trans HEC.out))
        · have hz1 : (z != 0) = true := by simpa using hz
          clear hz
          go_wp2_with fail
          refine (HC1.out _).mono ?_
          rintro e w3 ⟨z3, rfl, -, hE3⟩
          have HE3 := Lib.hid hE3; clear hE3
          go_wp2
          go_ret
          exact int_told trivial (HE.out.trans (HE2.out.trans HE3.out))
      · obtain rfl : k = n := by omega
        have HE := Lib.hid hE; clear hE
        go_wp2
        go_ret
        exact int_told trivial HE.out
end Go.Proofs.YtiopahkigbdmcaaGreat
/- A node put into its place in a list (layer 10), the document's side: the walk. -/
namespace Go.Proofs.YtiopahkigbdmcaaGreat
open Go Go.Proofs Go.RowKit

def cmpP (a b : NodeV) : Int := cmpF (cutF (txt a.path)) (cutF (txt b.path))
def InsTold (L : List NodeV) (x : NodeV) (w : World) (e : Ending) (w' : World) : Prop :=
  ∃ at_, at_ ≤ L.length ∧ (∀ j (h : j < L.length), j < at_ → cmpP L[j] x ≤ 0) ∧ (∀ h : at_ < L.length, 0 < cmpP L[at_] x) ∧ NodesTold (L.take at_ ++ [x] ++ L.drop at_) w e w'
theorem nodes_append_none {ops : Array Oper} {rest : List Oper} {o : Oper} {a : Act} {Q : Exit → Act → World → Prop} {w : World} (hgd : o.guard = none) (s x : Operand)
    (ho : o.op = .call { callee := .builtin .append, args := #[s, x], argTypes := #[22, 22] })
    (w0 : World) (v : Value) (L : List NodeV) (hs : a.eval s = v) (hO : OwnN w0 v L w) (hx : a.eval x = .slice none 0 0)
    (h : wpList Tryz.prog ops Q rest (a.put o.dst v) w) : wpList Tryz.prog ops Q (o :: rest) a w := by
  obtain ⟨i, h1, h2, h3, h4⟩ := node_info
  exact wpList_append_own_none hgd s x 22 ho _ 42 i 5 (by kernel_rfl) h1 v _ _ hs hO.2 hx h
set_option maxHeartbeats 4000000 in
set_option maxRecDepth 100000 in
theorem insertD (a : Option Addr) (L : List NodeV) (c : Nat) (x : NodeV) (w : World) (hL : SmallL L) (hx : x.path.size ≤ 1000) (hc : L.length ≤ c) (hLa : L = [] → a = none ∧ c = 0) (hA : NodesAt w a L) : Calls Tryz.prog 28 #[.slice a L.length c, x.val] w (InsTold L x w) := by
  have HCm := Lib.hid (fun (y : NodeV) (hy : y ∈ L) w' => cmpD_any y.path x.path w' (hL.2 y hy).1 hx)
  have hl := hL.1
  have HA := Lib.hid hA; clear hA hL
  have HLA := Lib.hid hLa; clear hLa
  obtain ⟨n, hn⟩ : ∃ n, L.length = n := ⟨_, rfl⟩
  rw [hn] at hl hc ⊢
  have HN := Lib.hid hn; clear hn
  have HX := Lib.hid (fun w2 h => node_new (w := w) (w2 := w2) x h)
  unfold NodeV.val
  obtain ⟨w1, hw1⟩ : ∃ w1, w.alloc (.cells #[.string x.path, .int .i64 x.kind, .int .i64 x.mode, .int .i64 x.time, .string x.data] 42) = w1 := ⟨_, rfl⟩
  have hE1 : Ext w w1 := by rw [← hw1]; exact (Ext.refl w).alloc _
  rw [hw1] at HX
  have HE1 := Lib.hid hE1; clear hE1
  have HW1 := Lib.hid hw1; clear hw1
  go_enter Tryz.func28, Tryz.ntmps28
  go_upto_region 1 with fail
  rw [HW1.out]
  go_upto_block 0 with fail
  go_cut [5] (fun i w' => ∃ k : Nat, k ≤ n ∧ i = .int .i64 k ∧ (∀ j (h : j < L.length), j < k → cmpP L[j] x ≤ 0) ∧ (∀ h : k < L.length, 0 < cmpP L[k] x) ∧ Ext w1 w')
  case first =>
    go_wp2_with fail
    go_loopw [5] (fun i w' => ∃ k : Nat, k ≤ n ∧ i = .int .i64 k ∧ (∀ j (h : j < L.length), j < k → cmpP L[j] x ≤ 0) ∧ Ext w1 w') (fun i _ => n - (intOf i).toNat)
    case atStart => exact ⟨0, Nat.zero_le _, rfl, fun j _ h => by omega, Ext.refl _⟩
    case round =>
      obtain ⟨k, hk, rfl, hall, hE⟩ := hrel
      have HAll := Lib.hid hall; clear hall
      by_cases hlt : k < n
      · have hkl : k < L.length := by rw [HN.out]; exact hlt
        obtain ⟨bl, off, rfl, hb, c0, -⟩ := NodesAt.node ((HA.out.ext HE1.out).ext hE) hkl
        have HK := Lib.hid (fun w2 (h : Ext wr w2) => (h.cell hb).trans c0)
        have HXX := Lib.hid (fun w2 (h : Ext wr w2) => (HX.out w2 (Ext.trans hE h)).1)
        have HE := Lib.hid hE; clear hE
        obtain ⟨z, hz⟩ : ∃ z, cmpP L[k] x = z := ⟨_, rfl⟩
        have HC1 := Lib.hid (fun w' => by have h := HCm.out _ (List.getElem_mem hkl) w'; rw [show cmpF (cutF (txt L[k].path)) (cutF (txt x.path)) = z from hz] at h; exact h)
        have HZ := Lib.hid hz; clear hz
        obtain ⟨y, hy⟩ : ∃ y, L[k].path = y := ⟨_, rfl⟩
        rw [hy] at HK HC1 c0
        clear hy
        by_cases hz0 : z ≤ 0
        · go_wp2
          refine wp_draw_stages 38 14 [false, false, false, false, false, false, false, false, false, false, false, false, false, true] [([true, true, true, true, true, true, true, true, true, true, true, true], 12)] Ext Ext.refl (fun _ _ _ => Ext.trans) (by kernel_rfl) (by kernel_rfl) ?_
          apply wpStages_cons (by simp)
          · intro w1 hw1
            simp only [sel_true, sel_nil]
            have f0 := HK.out _ (Ext.trans (Ext.refl wr).drew hw1); have f1 := HXX.out _ (Ext.trans (Ext.refl wr).drew hw1)
            repeat ((with_reducible refine wpStill_step (fun K hK => ?_)); go_simp; refine hK _ ?_; clear hK K)
            exact wpStill_nil rfl
          try simp only [List.getD_cons_succ, List.getD_cons_zero]
          go_wp2_with (go_at_call 45; refine (HC1.out _).mono ?_; rintro e w5 ⟨rfl, hE5⟩; have hE5 : Ext wr.drew w5 := hE5)
          refine ⟨hE5, ?_⟩
          have f0 := HK.out _ (Ext.trans (Ext.refl wr).drew hE5)
          have f1 := HXX.out _ (Ext.trans (Ext.refl wr).drew hE5)
          have HE5 := Lib.hid (Ext.trans (Ext.refl wr).drew hE5); clear hE5
          refine wpStages_nil ?_
          simp only [sel_true, sel_false, sel_nil]
          repeat ((with_reducible refine wpStill_step (fun K hK => ?_)); go_simp; refine hK _ ?_; clear hK K)
          refine wpStill_nil ?_
          try simp only [List.drop_succ_cons, List.drop_zero]
          go_wp2
          go_roundw
          case rel =>
            refine ⟨k + 1, by omega, by go_num, fun j hj h1 => ?_, HE.out.trans HE5.out⟩
            by_cases hjk : j < k
            · exact HAll.out j hj hjk
            · obtain rfl : j = k := by omega
              rw [HZ.out]; exact hz0
          case measure => simp [intOf]; omega
        · go_wp2
          refine wp_draw_stages 38 14 [false, false, false, false, false, false, false, false, false, false, false, false, false, true] [([true, true, true, true, true, true, true, true, true, true, true, true], 12)] Ext Ext.refl (fun _ _ _ => Ext.trans) (by kernel_rfl) (by kernel_rfl) ?_
          apply wpStages_cons (by simp)
          · intro w1 hw1
            simp only [sel_true, sel_nil]
            have f0 := HK.out _ (Ext.trans (Ext.refl wr).drew hw1); have f1 := HXX.out _ (Ext.trans (Ext.refl wr).drew hw1)
            repeat ((with_reducible refine wpStill_step (fun K hK => ?_)); go_simp; refine hK _ ?_; clear hK K)
            exact wpStill_nil rfl
          try simp only [List.getD_cons_succ, List.getD_cons_zero]
          go_wp2_with (go_at_call 45; refine (HC1.out _).mono ?_; rintro e w5 ⟨rfl, hE5⟩; have hE5 : Ext wr.drew w5 := hE5)
          refine ⟨hE5, ?_⟩
          have f0 := HK.out _ (Ext.trans (Ext.refl wr).drew hE5)
          have f1 := HXX.out _ (Ext.trans (Ext.refl wr).drew hE5)
          have HE5 := Lib.hid (Ext.trans (Ext.refl wr).drew hE5); clear hE5
          refine wpStages_nil ?_
          simp only [sel_true, sel_false, sel_nil]
          repeat ((with_reducible refine wpStill_step (fun K hK => ?_)); go_simp; refine hK _ ?_; clear hK K)
          refine wpStill_nil ?_
          try simp only [List.drop_succ_cons, List.drop_zero]
          go_wp2
          go_meet
          exact ⟨k, by omega, rfl, HAll.out, fun _ => by rw [HZ.out]; omega, HE.out.trans HE5.out⟩
      · obtain rfl : k = n := by omega
        have HE := Lib.hid hE; clear hE
        have hnn : (k : Int) = (k : Int) := rfl
        go_wp2
        refine wp_draw_stages 38 14 [false, false, false, false, false, false, false, false, false, false, false, false, false, true] [([true, true, true, true, true, true, true, true, true, true, true, true], 12)] Ext Ext.refl (fun _ _ _ => Ext.trans) (by kernel_rfl) (by kernel_rfl) ?_
        apply wpStages_cons (by simp)
        · intro w1 hw1
          simp only [sel_true, sel_nil]
          repeat ((with_reducible refine wpStill_step (fun K hK => ?_)); go_simp; refine hK _ ?_; clear hK K)
          exact wpStill_nil rfl
        try simp only [List.getD_cons_succ, List.getD_cons_zero]
        go_wp2_with fail
        refine ⟨Ext.refl _, ?_⟩
        refine wpStages_nil ?_
        simp only [sel_true, sel_false, sel_nil]
        repeat ((with_reducible refine wpStill_step (fun K hK => ?_)); go_simp; refine hK _ ?_; clear hK K)
        refine wpStill_nil ?_
        try simp only [List.drop_succ_cons, List.drop_zero]
        go_wp2
        go_meet
        exact ⟨k, Nat.le_refl _, rfl, HAll.out, fun h => by rw [HN.out] at h; omega, HE.out.drew⟩
  case rest =>
    obtain ⟨k, hk, rfl, hall, hnext, hE⟩ := hcut
    have HAll := Lib.hid (And.intro hall hnext); clear hall hnext
    have hd0 := (HX.out _ hE)
    obtain ⟨d0, d1, d2, d3, d4⟩ := hd0
    have HAc := HA.out.ext (Ext.trans HE1.out hE)
    have HAC := Lib.hid HAc; clear HAc
    have HE := Lib.hid hE; clear hE
    by_cases hn0 : n = 0
    · obtain ⟨rfl, rfl⟩ := HLA.out (List.eq_nil_of_length_eq_zero (by rw [HN.out, hn0]))
      subst hn0
      have hk0 : k = 0 := by omega
      subst hk0
      clear d0 d1 d2 d3 d4
      obtain ⟨d0, d1, d2, d3, d4⟩ := HX.out (wc.alloc (.cells #[] 42)) (HE.out.alloc _)
      go_upto_region 5 with fail
      go_upto_region 6 with (at_builtin; refine node_append rfl _ _ rfl wc _ [] rfl ((OwnL.empty (Ext.refl wc)).alloc _) x _ 1 rfl (cells_at _ _ _ (by simp)) (by simp) ?_; intro v' w4 hown' hE4)
      have HO4 := Lib.hid hown'
      go_wp2_with (at_builtin; refine nodes_append_none rfl _ _ rfl wc _ _ rfl HO4.out rfl ?_)
      go_ret
      refine ⟨0, Nat.zero_le _, HAll.out.1, HAll.out.2, ?_⟩
      have hLn : L = [] := List.eq_nil_of_length_eq_zero HN.out
      subst hLn
      exact NodesTold.trans (Ext.trans HE1.out HE.out) (nodes_told hown')
    · have h0 : 0 < L.length := by rw [HN.out]; omega
      obtain ⟨b, off, rfl, hb, -⟩ := NodesAt.node HAC.out h0
      have htl : (L.take k).length = k := by rw [List.length_take, HN.out]; omega
      have hdl : (L.drop k).length = n - k := by rw [List.length_drop, HN.out]
      clear d0 d1 d2 d3 d4
      go_upto_region 5 with (at_builtin; refine nodes_append rfl _ _ rfl wc _ [] rfl (OwnL.empty (Ext.refl wc)) b off _ _ (L.take k) htl.symm rfl ((ListAt.take k HAC.out).ext ((Ext.refl wc).alloc _)) (by simp; omega) ?_; intro v' w4 hown' hE4)
      obtain ⟨d0, d1, d2, d3, d4⟩ := HX.out w4 (HE.out.trans hE4)
      have HO4 := Lib.hid hown'
      go_upto_region 6 with (at_builtin; refine node_append rfl _ _ rfl wc _ _ rfl (HO4.out.alloc _) x _ 1 rfl (cells_at _ _ _ (by simp)) (by simp; omega) ?_; intro v5 w5 hown5 hE5)
      have HO5 := Lib.hid hown5
      have HAd := Lib.hid ((ListAt.drop k HAC.out).ext hE5)
      clear hown' hown5 d0 d1 d2 d3 d4
      have hfin : ∀ v6 w6, OwnN wc v6 ([] ++ L.take k ++ [x] ++ L.drop k) w6 → InsTold L x w (.returned v6) w6 := fun v6 w6 h =>
        ⟨k, by rw [HN.out]; exact hk, HAll.out.1, HAll.out.2, NodesTold.trans (Ext.trans HE1.out HE.out) (nodes_told (by rw [List.nil_append] at h; exact h))⟩
      have HFin := Lib.hid hfin; clear hfin
      have hlen : ([] ++ L.take k ++ [x]).length + (L.drop k).length ≤ 90000 := by
        rw [List.nil_append, List.length_append, htl, hdl, List.length_singleton]; omega
      by_cases hck : c = k
      · have hdn : L.drop k = [] := List.drop_eq_nil_of_le (by rw [HN.out]; omega)
        go_wp2_with (at_builtin; refine nodes_append rfl _ _ rfl wc _ _ rfl HO5.out b off _ _ (L.drop k) hdl.symm rfl (Or.inl hdn) hlen ?_; intro v6 w6 hown6 hE6)
        go_ret
        exact HFin.out _ _ hown6
      · go_wp2_with (at_builtin; refine nodes_append rfl _ _ rfl wc _ _ rfl HO5.out b (off + k * 5) _ _ (L.drop k) hdl.symm rfl HAd.out hlen ?_; intro v6 w6 hown6 hE6)
        go_ret
        exact HFin.out _ _ hown6
end Go.Proofs.YtiopahkigbdmcaaGreat
/- What can be taken of nodes (layer 10), the document's side: the walk. -/
namespace Go.Proofs.YtiopahkigbdmcaaGreat
open Go Go.Proofs Go.RowKit

/-- A list in memory, as a value. -/
def Holds (w : World) (v : Value) (S : List NodeV) : Prop := ∃ a c, v = .slice a S.length c ∧ S.length ≤ c ∧ (S = [] → a = none ∧ c = 0) ∧ NodesAt w a S
/-- What can be taken of nodes: some of them, right ones, each with its parent ahead. -/
def OfTold (L : List NodeV) (w : World) (e : Ending) (w' : World) : Prop := ∃ R, NodesTold R w e w' ∧ R.length ≤ L.length ∧ (∀ x ∈ R, x ∈ L ∧ goodN x)
theorem OwnL.holds {w0 w : World} {v : Value} {S : List NodeV} (h : OwnN w0 v S w) : ∃ a c, v = .slice a S.length c ∧ S.length ≤ c ∧ NodesAt w a S := by
  obtain ⟨a, c, rfl, hc⟩ := h.slice
  exact ⟨a, c, rfl, hc, h.done NodeV.len⟩
theorem ins_len (S : List NodeV) (x : NodeV) (i : Nat) : (S.take i ++ [x] ++ S.drop i).length = S.length + 1 := by
  simp only [List.length_append, List.length_take, List.length_drop, List.length_singleton]; omega
theorem ins_mem {S : List NodeV} {x : NodeV} {i : Nat} {y : NodeV} (h : y ∈ S.take i ++ [x] ++ S.drop i) : y ∈ S ∨ y = x := by
  rw [List.mem_append, List.mem_append, List.mem_singleton] at h
  rcases h with (h | h) | h
  · exact Or.inl (List.mem_of_mem_take h)
  · exact Or.inr h
  · exact Or.inl (List.mem_of_mem_drop h)
set_option maxHeartbeats 4000000 in
set_option maxRecDepth 100000 in
theorem ofD_any (a : Option Addr) (L : List NodeV) (c : Nat) (w : World) (hL : SmallL L) (hA : NodesAt w a L) : Calls Tryz.prog 9 #[.slice a L.length c] w (OfTold L w) := by
  have HCh := Lib.hid (fun (x : NodeV) (hx : x ∈ L) w' => checkND x w' (hL.2 x hx).1 (hL.2 x hx).2)
  have HLL := Lib.hid hL.2
  have hl := hL.1
  have HA := Lib.hid hA; clear hA hL
  obtain ⟨n, hn⟩ : ∃ n, L.length = n := ⟨_, rfl⟩
  rw [hn] at hl ⊢
  have HN := Lib.hid hn; clear hn
  go_enter Tryz.func9, Tryz.ntmps9
  go_upto_block 0 with fail
  go_cut [3] (fun v w' => ∃ S, Holds w' v S ∧ S.length ≤ n ∧ (∀ x ∈ S, x ∈ L ∧ goodN x) ∧ Ext w w')
  case first =>
    go_wp2_with fail
    go_loopw [3, 4] (fun v i w' => ∃ k S, k ≤ n ∧ i = .int .i64 (k : Nat) ∧ Holds w' v S ∧ S.length ≤ k ∧ (∀ x ∈ S, x ∈ L ∧ goodN x) ∧ Ext w w') (fun _ i _ => n - (intOf i).toNat)
    case atStart => exact ⟨0, [], Nat.zero_le _, rfl, ⟨none, 0, rfl, Nat.le_refl _, fun _ => ⟨rfl, rfl⟩, Or.inl rfl⟩, Nat.le_refl _, fun x hx => by simp at hx, Ext.refl w⟩
    case round =>
      obtain ⟨k, S, hk, rfl, ⟨sa, sc, rfl, hsc, hs0, hSA⟩, hSk, hSm, hE⟩ := hrel
      have HS := Lib.hid (And.intro hs0 (And.intro hSA hSm)); clear hs0 hSA hSm
      by_cases hlt : k < n
      · have hkl : k < L.length := by rw [HN.out]; exact hlt
        have hmem := List.getElem_mem hkl
        obtain ⟨bl, off, rfl, hb, c0, c1, c2, c3, c4⟩ := NodesAt.node (HA.out.ext hE) hkl
        have HK := Lib.hid (fun w2 (h : Ext wr w2) => And.intro ((h.cell hb).trans c0) (And.intro ((h.cell hb).trans c1) (And.intro ((h.cell hb).trans c2) (And.intro ((h.cell hb).trans c3) ((h.cell hb).trans c4)))))
        have HC1 := Lib.hid (HCh.out _ hmem)
        obtain ⟨x, hx⟩ : ∃ x, L[k] = x := ⟨_, rfl⟩
        rw [hx] at HC1 HK c0 c1 c2 c3 c4 hmem
        have HX := Lib.hid hmem; clear hx hmem
        have HE := Lib.hid hE; clear hE
        have hxs := (HLL.out x HX.out)
        have hS1000 : SmallL S := ⟨by omega, fun y hy => HLL.out y (HS.out.2.2 y hy).1⟩
        have HSm := Lib.hid hS1000; clear hS1000
        have HAt := Lib.hid (fun w' (h : Ext wr w') => atD_any sa S sc x.path w' HSm.out.1 (HS.out.2.1.ext h))
        have HIns := Lib.hid (fun w' (h : Ext wr w') => insertD sa S sc x w' HSm.out hxs.1 hsc HS.out.1 (HS.out.2.1.ext h))
        have hcase := at_case S x.path
        obtain ⟨sn, hsn⟩ : ∃ sn, S.length = sn := ⟨_, rfl⟩
        rw [hsn] at HAt HIns hsc hSk ⊢
        have HSN := Lib.hid hsn; clear hsn
        go_wp2_with fail
        refine (HC1.out _).mono ?_
        rintro e w2 ⟨z, rfl, hz, hE2⟩
        obtain ⟨d0, d1, d2, d3, d4⟩ := HK.out _ hE2
        clear c0 c1 c2 c3 c4
        have HE2 := Lib.hid hE2; clear hE2
        by_cases hz0 : z = 0
        · have hz1 : (z == 0) = true := by rw [hz0]; rfl
          have HG := Lib.hid (hz hz0)
          clear hz hz0
          go_wp2_with fail
          refine (HAt.out _ HE2.out).mono ?_
          rintro e w3 ⟨rfl, hE3⟩
          clear d0 d1 d2 d3 d4
          obtain ⟨d0, d1, d2, d3, d4⟩ := HK.out _ (Ext.trans HE2.out hE3)
          have HE3 := Lib.hid (Ext.trans HE2.out hE3); clear hE3
          obtain ⟨t, ht⟩ : ∃ t, atF S x.path = t := ⟨_, rfl⟩
          rw [ht] at hcase ⊢
          clear ht
          rcases hcase with ⟨rfl, hno⟩ | ⟨j, hj, rfl, -⟩
          · have HNo := Lib.hid hno; clear hno
            go_wp2_with fail
            refine (HIns.out _ HE3.out).mono ?_
            rintro e w4 ⟨at_, hat, -, -, a4, c4', rfl, hE4, hA4, hc4⟩
            have hil := ins_len S x at_
            rw [HSN.out] at hil
            have HIL := Lib.hid hil
            rw [hil] at hc4
            have H4 := Lib.hid hA4; clear hA4
            have HE4 := Lib.hid (Ext.trans HE3.out hE4); clear hE4
            have HIM : Hid (∀ y ∈ S.take at_ ++ [x] ++ S.drop at_, y ∈ L ∧ goodN y) := Lib.hid (fun y hy => by
              rcases ins_mem hy with h | rfl
              · exact HS.out.2.2 y h
              · exact ⟨HX.out, HG.out⟩)
            have hine : S.take at_ ++ [x] ++ S.drop at_ ≠ [] := by simp
            obtain ⟨S', hS'⟩ : ∃ S', S.take at_ ++ [x] ++ S.drop at_ = S' := ⟨_, rfl⟩
            rw [hS'] at HIL HIM H4 hine ⊢
            rw [HIL.out]
            clear hil hS'
            go_wp2
            go_roundw
            case rel => exact ⟨k + 1, S', by omega, by go_num, ⟨a4, c4', by rw [HIL.out], by rw [HIL.out]; exact hc4, fun h => absurd h hine, H4.out⟩, by rw [HIL.out]; omega, HIM.out, HE.out.trans HE4.out⟩
            case measure => simp [intOf]; omega
          · go_wp2
            go_roundw
            case rel => exact ⟨k + 1, S, by omega, by go_num, ⟨sa, sc, by rw [HSN.out], by rw [HSN.out]; exact hsc, HS.out.1, HS.out.2.1.ext HE3.out⟩, by rw [HSN.out]; omega, HS.out.2.2, HE.out.trans HE3.out⟩
            case measure => simp [intOf]; omega
        · have hz1 : (z == 0) = false := beq_eq_false_iff_ne.2 hz0
          clear hz hz0 hcase
          go_wp2
          go_roundw
          case rel => exact ⟨k + 1, S, by omega, by go_num, ⟨sa, sc, by rw [HSN.out], by rw [HSN.out]; exact hsc, HS.out.1, HS.out.2.1.ext HE2.out⟩, by rw [HSN.out]; omega, HS.out.2.2, HE.out.trans HE2.out⟩
          case measure => simp [intOf]; omega
      · obtain rfl : k = n := by omega
        obtain ⟨sn, hsn⟩ : ∃ sn, S.length = sn := ⟨_, rfl⟩
        rw [hsn] at hsc hSk ⊢
        have HSN := Lib.hid hsn; clear hsn
        have HE := Lib.hid hE; clear hE
        go_wp2
        go_meet
        exact ⟨S, ⟨sa, sc, by rw [HSN.out], by rw [HSN.out]; exact hsc, HS.out.1, HS.out.2.1⟩, by rw [HSN.out]; exact hSk, HS.out.2.2, HE.out⟩
  case rest =>
    obtain ⟨S, ⟨sa, sc, rfl, hsc, -, hSA⟩, hSn, hSm, hE⟩ := hcut
    have HS := Lib.hid (And.intro hSA hSm); clear hSA hSm
    have HSs : Hid (SmallL S) := Lib.hid ⟨by omega, fun y hy => HLL.out y (HS.out.2 y hy).1⟩
    have HEc := Lib.hid hE; clear hE
    obtain ⟨m, hm⟩ : ∃ m, S.length = m := ⟨_, rfl⟩
    rw [hm] at hsc hSn ⊢
    have HM := Lib.hid hm; clear hm
    go_wp2_with fail
    go_loopw [5, 6] (fun v i w' => ∃ (k : Nat) (R : List NodeV), k ≤ m ∧ i = .int .i64 (k : Nat) ∧ OwnN wc v R w' ∧ R.length ≤ k ∧ (∀ x ∈ R, x ∈ S)) (fun _ i _ => m - (intOf i).toNat)
    case atStart => exact ⟨0, [], Nat.zero_le _, rfl, OwnL.start wc, Nat.le_refl _, fun x hx => by simp at hx⟩
    case round =>
      obtain ⟨k, R, hk, rfl, hown, hRk, hRS⟩ := hrel
      by_cases hlt : k < m
      · have hkl : k < S.length := by rw [HM.out]; exact hlt
        have hE := hown.1
        obtain ⟨ra, rc, rfl, hrc, hRA⟩ := OwnL.holds hown
        have HO := Lib.hid hown; clear hown
        have HRA := Lib.hid hRA; clear hRA
        have HRS := Lib.hid hRS; clear hRS
        have hmem := List.getElem_mem hkl
        obtain ⟨bl, off, rfl, hb, c0, c1, c2, c3, c4⟩ := NodesAt.node (HS.out.1.ext hE) hkl
        have HK := Lib.hid (fun w2 (h : Ext wr w2) => And.intro ((h.cell hb).trans c0) (And.intro ((h.cell hb).trans c1) (And.intro ((h.cell hb).trans c2) (And.intro ((h.cell hb).trans c3) ((h.cell hb).trans c4)))))
        obtain ⟨x, hx⟩ : ∃ x, S[k] = x := ⟨_, rfl⟩
        rw [hx] at HK c0 c1 c2 c3 c4 hmem
        have HX := Lib.hid hmem; clear hx hmem
        have HE := Lib.hid hE; clear hE
        have HPa := Lib.hid (parentND ra R rc x.path wr (by omega) (HSs.out.2 x HX.out).1 HRA.out)
        obtain ⟨rn, hrn⟩ : ∃ rn, R.length = rn := ⟨_, rfl⟩
        rw [hrn] at HPa HO hrc hRk ⊢
        have HRN := Lib.hid hrn; clear hrn
        go_wp2_with fail
        refine HPa.out.mono ?_
        rintro e w2 ⟨z, rfl, -, hE2⟩
        obtain ⟨d0, d1, d2, d3, d4⟩ := HK.out _ hE2
        clear c0 c1 c2 c3 c4
        have HE2 := Lib.hid hE2; clear hE2
        by_cases hz : z = 0
        · have hz1 : (z == 0) = true := by rw [hz]; rfl
          by_cases h5 : rn < 512
          · have hR9 : R.length ≤ 90000 := by rw [HRN.out]; omega
            go_wp2_with (at_builtin; refine node_append rfl _ _ rfl wc _ R rfl ((HO.out.ext HE2.out).alloc _) x _ 1 rfl (cells_at _ _ _ (by simp)) hR9 ?_; intro v' w4 hown' hE4)
            go_roundw
            case rel => exact ⟨k + 1, R ++ [x], by omega, by go_num, hown', by rw [List.length_append, HRN.out]; simp; omega, fun y hy => by
              rw [List.mem_append, List.mem_singleton] at hy
              rcases hy with h | rfl
              · exact HRS.out y h
              · exact HX.out⟩
            case measure => simp [intOf]; omega
          · go_wp2
            go_roundw
            case rel => exact ⟨k + 1, R, by omega, by go_num, HO.out.ext HE2.out, by rw [HRN.out]; omega, HRS.out⟩
            case measure => simp [intOf]; omega
        · have hz1 : (z == 0) = false := beq_eq_false_iff_ne.2 hz
          go_wp2
          go_roundw
          case rel => exact ⟨k + 1, R, by omega, by go_num, HO.out.ext HE2.out, by rw [HRN.out]; omega, HRS.out⟩
          case measure => simp [intOf]; omega
      · obtain rfl : k = m := by omega
        have HO := Lib.hid hown; clear hown
        have HRS := Lib.hid hRS; clear hRS
        go_wp2
        go_ret
        exact ⟨R, NodesTold.trans HEc.out (nodes_told HO.out), by rw [HN.out]; omega, fun x hx => HS.out.2 x (HRS.out x hx)⟩
end Go.Proofs.YtiopahkigbdmcaaGreat
/- Paths as lists of names, their order, and trees as lists in that order (layers 1, 10), in plain words. -/
namespace Go.Proofs.YtiopahkigbdmcaaGreat
open Go Go.Proofs Go.RowKit

abbrev Pth := List (List Int)
/-- A node's names. -/
def nm (x : NodeV) : Pth := cutF (txt x.path)
theorem glue_cut (l : List Int) : glueF (cutF l) = l := by
  unfold cutF
  split
  · rename_i h; rw [h]; rfl
  · exact glue_split l
theorem cut_inj {l m : List Int} (h : cutF l = cutF m) : l = m := by rw [← glue_cut l, h, glue_cut m]
theorem nm_path {x y : NodeV} (h : nm x = nm y) : x.path = y.path := txt_inj (cut_inj h)

theorem text_self (l : List Int) : textF l l = 0 := by
  induction l with
  | nil => rfl
  | cons a l ih => rw [textF, if_neg (by omega), if_neg (by omega), ih]
theorem text_anti (l m : List Int) : textF m l = - textF l m := by
  induction l generalizing m with
  | nil => cases m <;> rfl
  | cons a l ih =>
    cases m with
    | nil => rfl
    | cons b m =>
      rw [textF, textF]
      by_cases h1 : a < b
      · rw [if_neg (by omega), if_pos (by omega), if_pos h1]
        rfl
      · by_cases h2 : b < a
        · rw [if_pos h2, if_neg (by omega), if_pos (by omega)]
        · rw [if_neg h2, if_neg (by omega), if_neg h1, if_neg (by omega), ih]
theorem text_eq {l m : List Int} (h : textF l m = 0) : l = m := by
  induction l generalizing m with
  | nil => cases m with
    | nil => rfl
    | cons b m => simp [textF] at h
  | cons a l ih =>
    cases m with
    | nil => simp [textF] at h
    | cons b m =>
      rw [textF] at h
      by_cases h1 : a < b
      · rw [if_pos h1] at h; omega
      · by_cases h2 : a > b
        · rw [if_neg h1, if_pos h2] at h; omega
        · rw [if_neg h1, if_neg h2] at h
          rw [ih h, show a = b by omega]
theorem text_cons (a b : Int) (l m : List Int) : textF (a :: l) (b :: m) < 0 ↔ a < b ∨ (a = b ∧ textF l m < 0) := by
  rw [textF]
  by_cases h1 : a < b
  · rw [if_pos h1]; constructor
    · intro _; exact Or.inl h1
    · intro _; omega
  · by_cases h2 : a > b
    · rw [if_neg h1, if_pos h2]; constructor
      · intro h; omega
      · rintro (h | ⟨h, _⟩) <;> omega
    · rw [if_neg h1, if_neg h2]; constructor
      · intro h; exact Or.inr ⟨by omega, h⟩
      · rintro (h | ⟨_, h⟩)
        · omega
        · exact h
theorem text_trans {a b c : List Int} (h1 : textF a b < 0) (h2 : textF b c < 0) : textF a c < 0 := by
  induction a generalizing b c with
  | nil =>
    cases c with
    | nil => cases b <;> simp [textF] at h1 h2
    | cons _ _ => simp [textF]
  | cons x a ih =>
    cases b with
    | nil => simp [textF] at h1
    | cons y b =>
      cases c with
      | nil => simp [textF] at h2
      | cons z c =>
        rw [text_cons] at *
        rcases h1 with h1 | ⟨h1, h3⟩ <;> rcases h2 with h2 | ⟨h2, h4⟩
        · left; omega
        · left; omega
        · left; omega
        · right; exact ⟨by omega, ih h3 h4⟩
theorem text_irr (l : List Int) : ¬ textF l l < 0 := by rw [text_self]; omega

theorem cmp_cons (a b : List Int) (A B : Pth) : cmpF (a :: A) (b :: B) < 0 ↔ textF a b < 0 ∨ (a = b ∧ cmpF A B < 0) := by
  rw [cmpF]
  by_cases h : textF a b = 0
  · rw [if_neg (by simp [h])]
    have := text_eq h
    subst this
    constructor
    · intro h'; exact Or.inr ⟨rfl, h'⟩
    · rintro (h' | ⟨_, h'⟩)
      · exact absurd h' (text_irr a)
      · exact h'
  · rw [if_pos h]
    constructor
    · exact Or.inl
    · rintro (h' | ⟨h', _⟩)
      · exact h'
      · subst h'; exact absurd (text_self a) h
theorem cmp_self (p : Pth) : cmpF p p = 0 := by
  induction p with
  | nil => rfl
  | cons a p ih => rw [cmpF, text_self, if_neg (by simp), ih]
theorem cmp_anti (p q : Pth) : cmpF q p = - cmpF p q := by
  induction p generalizing q with
  | nil => cases q <;> rfl
  | cons a p ih =>
    cases q with
    | nil => rfl
    | cons b q =>
      rw [cmpF, cmpF, text_anti a b]
      by_cases h : textF a b = 0
      · rw [h, if_neg (by omega), if_neg (by omega), ih]
      · rw [if_pos (by omega), if_pos h]
theorem cmp_eq {p q : Pth} (h : cmpF p q = 0) : p = q := by
  induction p generalizing q with
  | nil => cases q with
    | nil => rfl
    | cons b q => simp [cmpF] at h
  | cons a p ih =>
    cases q with
    | nil => simp [cmpF] at h
    | cons b q =>
      rw [cmpF] at h
      by_cases ht : textF a b = 0
      · rw [if_neg (by simp [ht])] at h
        rw [ih h, text_eq ht]
      · rw [if_pos ht] at h; exact absurd h ht
theorem cmp_irr (p : Pth) : ¬ cmpF p p < 0 := by rw [cmp_self]; omega
theorem cmp_trans {p q r : Pth} (h1 : cmpF p q < 0) (h2 : cmpF q r < 0) : cmpF p r < 0 := by
  induction p generalizing q r with
  | nil =>
    cases r with
    | nil => cases q <;> simp [cmpF] at h1 h2
    | cons _ _ => simp [cmpF]
  | cons x p ih =>
    cases q with
    | nil => simp [cmpF] at h1
    | cons y q =>
      cases r with
      | nil => simp [cmpF] at h2
      | cons z r =>
        rw [cmp_cons] at *
        rcases h1 with h1 | ⟨rfl, h3⟩ <;> rcases h2 with h2 | ⟨rfl, h4⟩
        · exact Or.inl (text_trans h1 h2)
        · exact Or.inl h1
        · exact Or.inl h2
        · exact Or.inr ⟨rfl, ih h3 h4⟩
theorem cmp_total (p q : Pth) : cmpF p q < 0 ∨ p = q ∨ cmpF q p < 0 := by
  have h := cmp_anti p q
  by_cases h0 : cmpF p q = 0
  · exact Or.inr (Or.inl (cmp_eq h0))
  · by_cases h1 : cmpF p q < 0
    · exact Or.inl h1
    · right; right; omega
theorem cmp_pre {p q : Pth} (h : p <+: q) (hne : p ≠ q) : cmpF p q < 0 := by
  obtain ⟨t, rfl⟩ := h
  induction p with
  | nil => cases t with
    | nil => exact absurd rfl hne
    | cons a t => simp [cmpF]
  | cons a p ih =>
    rw [List.cons_append, cmp_cons]
    exact Or.inr ⟨rfl, ih (fun e => hne (by rw [List.cons_append, ← e]))⟩
/-- What is within the one comes ahead of what is within the other. -/
theorem cmp_sib {p q : Pth} (h : cmpF p q < 0) (hn : ¬ p <+: q) {x y : Pth} (hx : p <+: x) (hy : q <+: y) : cmpF x y < 0 := by
  obtain ⟨t, rfl⟩ := hx
  obtain ⟨u, rfl⟩ := hy
  induction p generalizing q with
  | nil => exact absurd List.nil_prefix hn
  | cons a p ih =>
    cases q with
    | nil => simp [cmpF] at h
    | cons b q =>
      rw [List.cons_append, List.cons_append, cmp_cons]
      rw [cmp_cons] at h
      rcases h with h | ⟨rfl, h⟩
      · exact Or.inl h
      · exact Or.inr ⟨rfl, ih h (fun hp => hn (List.cons_prefix_cons.2 ⟨rfl, hp⟩))⟩

/-! ### Lists in order -/
/-- Two lists in order, of the same members, are one. -/
theorem sorted_ext {α : Type} {r : α → α → Prop} (hi : ∀ x, ¬ r x x) (ht : ∀ x y z, r x y → r y z → r x z) : ∀ {L M : List α}, L.Pairwise r → M.Pairwise r → (∀ x, x ∈ L ↔ x ∈ M) → L = M
  | [], [], _, _, _ => rfl
  | [], b :: M, _, _, h => by have := (h b).2 (by simp); simp at this
  | a :: L, [], _, _, h => by have := (h a).1 (by simp); simp at this
  | a :: L, b :: M, hL, hM, h => by
    rw [List.pairwise_cons] at hL hM
    have hab : a = b := by
      rcases List.mem_cons.1 ((h a).1 (by simp)) with e | ha
      · exact e
      · rcases List.mem_cons.1 ((h b).2 (by simp)) with e | hb
        · exact e.symm
        · exact absurd (ht _ _ _ (hL.1 b hb) (hM.1 a ha)) (hi a)
    subst hab
    rw [sorted_ext hi ht hL.2 hM.2 fun x => ?_]
    constructor
    · intro hx
      rcases List.mem_cons.1 ((h x).1 (List.mem_cons_of_mem _ hx)) with e | hm
      · subst e; exact absurd (hL.1 x hx) (hi x)
      · exact hm
    · intro hx
      rcases List.mem_cons.1 ((h x).2 (List.mem_cons_of_mem _ hx)) with e | hm
      · subst e; exact absurd (hM.1 x hx) (hi x)
      · exact hm
theorem pair_mem {α : Type} {r : α → α → Prop} {L : List α} (h : L.Pairwise r) {x y : α} (hx : x ∈ L) (hy : y ∈ L) : x = y ∨ r x y ∨ r y x := by
  induction h with
  | nil => simp at hx
  | cons hr _ ih =>
    rcases List.mem_cons.1 hx with e1 | hx1 <;> rcases List.mem_cons.1 hy with e2 | hy1
    · exact Or.inl (e1.trans e2.symm)
    · subst e1; exact Or.inr (Or.inl (hr _ hy1))
    · subst e2; exact Or.inr (Or.inr (hr _ hx1))
    · exact ih hx1 hy1
def SortedN (T : List NodeV) : Prop := T.Pairwise fun x y => cmpF (nm x) (nm y) < 0
theorem SortedN.ext {L M : List NodeV} (hL : SortedN L) (hM : SortedN M) (h : ∀ x, x ∈ L ↔ x ∈ M) : L = M :=
  sorted_ext (r := fun x y : NodeV => cmpF (nm x) (nm y) < 0) (fun x => cmp_irr (nm x)) (fun _ _ _ => cmp_trans) hL hM h
theorem SortedN.uniq {T : List NodeV} (hT : SortedN T) {x y : NodeV} (hx : x ∈ T) (hy : y ∈ T) (h : nm x = nm y) : x = y := by
  rcases pair_mem hT hx hy with e | hr | hr
  · exact e
  · rw [h] at hr; exact absurd hr (cmp_irr _)
  · rw [h] at hr; exact absurd hr (cmp_irr _)
theorem SortedN.filter {T : List NodeV} (hT : SortedN T) (p : NodeV → Bool) : SortedN (T.filter p) := List.Pairwise.filter p hT

/-! ### Trees -/
/-- A tree: in order, each node right, with its parent. -/
structure TreeL (T : List NodeV) : Prop where
  sorted : SortedN T
  good : ∀ x ∈ T, goodN x
  up : ∀ x ∈ T, (nm x).dropLast = [] ∨ ∃ y ∈ T, nm y = (nm x).dropLast ∧ y.kind = 1
theorem nm_ne {x : NodeV} (h : goodN x) : nm x ≠ [] := by
  unfold nm cutF
  rw [if_neg h.1]
  exact splitF_ne _
theorem TreeL.nil : TreeL [] := ⟨List.Pairwise.nil, fun x hx => by simp at hx, fun x hx => by simp at hx⟩
theorem pre_len_lt {p q : Pth} (h : p <+: q) (hne : p ≠ q) : p.length < q.length := by
  have h1 := h.length_le
  rcases Nat.lt_or_ge p.length q.length with h2 | h2
  · exact h2
  · exact absurd (List.IsPrefix.eq_of_length_le h h2) hne
theorem pre_drop {p q : Pth} (h : p <+: q) (hne : p ≠ q) : p <+: q.dropLast := by
  have hl := pre_len_lt h hne
  rw [List.prefix_iff_eq_take] at h ⊢
  rw [List.dropLast_eq_take, List.take_take, Nat.min_eq_left (by omega)]
  exact h
theorem drop_pre (q : Pth) : q.dropLast <+: q := List.dropLast_prefix q
theorem drop_ne {q : Pth} (h : q ≠ []) : q.dropLast ≠ q := by
  intro e
  have := congrArg List.length e
  rw [List.length_dropLast] at this
  have := List.length_pos_iff.2 h
  omega
/-- What is above a node is a directory. -/
theorem TreeL.anc {T : List NodeV} (hT : TreeL T) {x : NodeV} (hx : x ∈ T) {U : Pth} (h0 : U ≠ []) (h : U <+: nm x) (hne : U ≠ nm x) : ∃ y ∈ T, nm y = U ∧ y.kind = 1 := by
  induction hn : (nm x).length using Nat.strongRecOn generalizing x with
  | _ n ih =>
    have hd := pre_drop h hne
    rcases hT.up x hx with e | ⟨y, hy, h1, h2⟩
    · rw [e] at hd; exact absurd (List.prefix_nil.1 hd) h0
    · by_cases hU : U = (nm x).dropLast
      · exact ⟨y, hy, by rw [h1, hU], h2⟩
      · refine ih (nm y).length ?_ hy (by rw [h1]; exact hd) (by rw [h1]; exact hU) rfl
        rw [h1, List.length_dropLast]
        have := List.length_pos_iff.2 (nm_ne (hT.good x hx))
        omega
theorem TreeL.file {T : List NodeV} (hT : TreeL T) {x y : NodeV} (hx : x ∈ T) (hy : y ∈ T) (h : nm y <+: nm x) (hk : y.kind ≠ 1) : x = y := by
  by_cases e : nm y = nm x
  · exact hT.sorted.uniq hx hy e.symm
  · obtain ⟨z, hz, h1, h2⟩ := hT.anc hx (nm_ne (hT.good y hy)) h e
    have := hT.sorted.uniq hz hy h1
    subst this
    exact absurd h2 hk
end Go.Proofs.YtiopahkigbdmcaaGreat
