/- The document's rules (layer 3): a pattern's core: the walk. -/
import Derived.Test.YtiopahkigbdmcaaGreatMd
import Derived.Test.YtiopahkigbdmcaaGreatMf
import Derived.Test.YtiopahkigbdmcaaGreatMc
import Derived.Deep.DeepCutAuto
namespace Go.Proofs.YtiopahkigbdmcaaGreat
open Go Go.Proofs Go.RowKit

theorem head_yes (s : ByteArray) (h : 0 < s.size) (h47 : ((s[0].toNat : Nat) : Int) = 47) : headF (txt s) = (txt (s.extract 1 s.size), true) := by
  have e : txt s = 47 :: (txt s).drop 1 := by
    conv => lhs; rw [← List.drop_zero (l := txt s), List.drop_eq_getElem_cons (by rw [txt_len]; exact h), txt_at s 0 h, h47]
  unfold headF
  rw [txt_extract, List.take_of_length_le (by rw [txt_len]; exact Nat.le_refl _)]
  rw [if_pos (by rw [e]; rfl), List.drop_one]
theorem head_no (s : ByteArray) (h : ∀ h : 0 < s.size, ((s[0].toNat : Nat) : Int) ≠ 47) : headF (txt s) = (txt s, false) := by
  unfold headF
  rw [if_neg]
  intro hh
  rw [List.head?_eq_getElem?] at hh
  by_cases h0 : 0 < s.size
  · rw [List.getElem?_eq_getElem (by rw [txt_len]; exact h0), txt_at s 0 h0] at hh
    exact h h0 (Option.some.inj hh)
  · rw [List.getElem?_eq_none (by rw [txt_len]; omega)] at hh; cases hh
theorem last_yes (s : ByteArray) (m : Nat) (h : s.size = m + 1) (h47 : ((s[m].toNat : Nat) : Int) = 47) : lastF (txt s) = (txt (s.extract 0 m), true) := by
  unfold lastF
  rw [if_pos (by rw [List.getLast?_eq_getElem?, txt_len, h, Nat.add_sub_cancel, List.getElem?_eq_getElem (by rw [txt_len]; omega), txt_at s m (by omega), h47])]
  rw [txt_extract, List.drop_zero, List.dropLast_eq_take, txt_len, h, Nat.add_sub_cancel]
theorem last_no (s : ByteArray) (h : ∀ m (h : s.size = m + 1), ((s[m].toNat : Nat) : Int) ≠ 47) : lastF (txt s) = (txt s, false) := by
  unfold lastF
  rw [if_neg]
  intro hh
  rw [List.getLast?_eq_getElem?, txt_len] at hh
  by_cases h0 : s.size = 0
  · rw [List.getElem?_eq_none (by rw [txt_len]; omega)] at hh; cases hh
  · rw [List.getElem?_eq_getElem (by rw [txt_len]; omega), txt_at s _ (by omega)] at hh
    exact h (s.size - 1) (by omega) (Option.some.inj hh)
/-- The core. -/
def CoreTold (pat : ByteArray) (w : World) (e : Ending) (w' : World) : Prop := ∃ c : ByteArray, e = .returned (.tuple #[.string c, .bool (headF (txt pat)).2, .bool (lastF (headF (txt pat)).1).2]) ∧ txt c = (lastF (headF (txt pat)).1).1 ∧ w = w'
theorem core_told {pat q c : ByteArray} {wh d : Bool} {w : World} (h1 : headF (txt pat) = (txt q, wh)) (h2 : lastF (txt q) = (txt c, d)) : CoreTold pat w (.returned (.tuple #[.string c, .bool wh, .bool d])) w :=
  ⟨c, by rw [h1]; show _ = Ending.returned (.tuple #[.string c, .bool wh, .bool (lastF (txt q)).2]); rw [h2], by rw [h1]; show _ = (lastF (txt q)).1; rw [h2], rfl⟩
set_option maxHeartbeats 1000000 in
set_option maxRecDepth 100000 in
theorem coreD_any (pat : ByteArray) (w : World) (hs : pat.size ≤ 1000) : Calls Tryz.prog 99 #[.string pat] w (CoreTold pat w) := by
  obtain ⟨q, wh, hq, hqs, hcase⟩ : ∃ (q : ByteArray) (wh : Bool), headF (txt pat) = (txt q, wh) ∧ q.size ≤ 1000 ∧ ((∃ h : 0 < pat.size, ((pat[0].toNat : Nat) : Int) = 47 ∧ q = pat.extract 1 pat.size ∧ wh = true) ∨ ((∀ h : 0 < pat.size, ((pat[0].toNat : Nat) : Int) ≠ 47) ∧ q = pat ∧ wh = false)) := by
    by_cases h : ∃ h : 0 < pat.size, ((pat[0].toNat : Nat) : Int) = 47
    · exact ⟨_, _, head_yes pat h.1 h.2, by rw [ByteArray.size_extract]; omega, Or.inl ⟨h.1, h.2, rfl, rfl⟩⟩
    · exact ⟨_, _, head_no pat (fun h1 h2 => h ⟨h1, h2⟩), hs, Or.inr ⟨fun h1 h2 => h ⟨h1, h2⟩, rfl, rfl⟩⟩
  have HQ := Lib.hid hq; clear hq
  have HC := Lib.hid hcase; clear hcase
  go_enter Tryz.func99, Tryz.ntmps99
  go_upto_region 2 with fail
  go_cut [14] (fun v wx => v = .bool wh ∧ wx = w)
  case first =>
    rcases HC.out with ⟨h0, h47, h1, h2⟩ | ⟨h47, h1, h2⟩
    · have H1 := Lib.hid h1; clear h1
      have H2 := Lib.hid h2; clear h2
      have g47 : (((pat[0].toNat : Nat) : Int) == 47) = true := by rw [h47]; rfl
      have h0' : (0 : Int) < pat.size := by omega
      clear h47
      go_wp2
      go_meet
      exact ⟨by rw [H2.out], rfl⟩
    · have H1 := Lib.hid h1; clear h1
      have H2 := Lib.hid h2; clear h2
      by_cases h0 : 0 < pat.size
      · have g47 : (((pat[0].toNat : Nat) : Int) == 47) = false := by simp [h47 h0]
        have h0' : (0 : Int) < pat.size := by omega
        clear h47
        go_wp2
        go_meet
        exact ⟨by rw [H2.out], rfl⟩
      · have h0' : ¬ (0 : Int) < pat.size := by omega
        clear h47
        go_wp2
        go_meet
        exact ⟨by rw [H2.out], rfl⟩
  case rest =>
    obtain ⟨rfl, rfl⟩ := hcut
    go_upto_if 14 with fail
    go_cut [0, 5] (fun v b wx => v = .string q ∧ b = .bool wh ∧ wx = wc)
    case first =>
      rcases HC.out with ⟨h0, h47, h1, h2⟩ | ⟨h47, h1, h2⟩
      · have H1 := Lib.hid h1; clear h1
        subst h2
        have h0' : (1 : Int) ≤ pat.size := by omega
        clear h47
        go_wp2
        go_meet
        exact ⟨by rw [H1.out], rfl, rfl⟩
      · have H1 := Lib.hid h1; clear h1
        subst h2
        clear h47
        go_wp2
        go_meet
        exact ⟨by rw [H1.out], rfl, rfl⟩
    case rest =>
      obtain ⟨rfl, rfl, rfl⟩ := hcut
      by_cases hl : ∃ m, ∃ h : q.size = m + 1, ((q[m].toNat : Nat) : Int) = 47
      · obtain ⟨m, hm, h47⟩ := hl
        have HL := Lib.hid (last_yes q m hm h47)
        have h0 : 0 < q.size := by omega
        have hi : ((q[q.size - 1]'(Nat.sub_lt h0 Nat.one_pos)).toNat : Int) = 47 := by
          have e : q.size - 1 = m := by omega
          simp only [e]; exact h47
        have g47 : (((q[q.size - 1]'(Nat.sub_lt h0 Nat.one_pos)).toNat : Int) == 47) = true := by rw [hi]; rfl
        have h0' : (0 : Int) < q.size := by omega
        have wq : IntKind.i64.wrap ((q.size : Int) - 1) = (q.size : Int) - 1 := IntWalk.i64_in _ (by omega)
        clear hi h47
        have HM := Lib.hid hm; clear hm
        go_wp2
        go_ret3
        exact core_told HQ.out (by rw [HL.out, HM.out, Nat.add_sub_cancel])
      · have HL := Lib.hid (last_no q (fun m hm h47 => hl ⟨m, hm, h47⟩))
        by_cases h0 : 0 < q.size
        · have g47 : (((q[q.size - 1]'(Nat.sub_lt h0 Nat.one_pos)).toNat : Int) == 47) = false := by
            rw [beq_eq_false_iff_ne]
            exact fun h => hl ⟨q.size - 1, by omega, h⟩
          have h0' : (0 : Int) < q.size := by omega
          have wq : IntKind.i64.wrap ((q.size : Int) - 1) = (q.size : Int) - 1 := IntWalk.i64_in _ (by omega)
          clear hl
          go_wp2
          go_ret3
          exact core_told HQ.out HL.out
        · have h0' : ¬ (0 : Int) < q.size := by omega
          clear hl
          go_wp2
          go_ret3
          exact core_told HQ.out HL.out
end Go.Proofs.YtiopahkigbdmcaaGreat
/- The document's rules (layer 3): is a rule right: the walk. -/
namespace Go.Proofs.YtiopahkigbdmcaaGreat
open Go Go.Proofs Go.RowKit

theorem core_len (l : List Int) : (lastF (headF l).1).1.length ≤ l.length := by
  have h1 : ∀ l, (headF l).1.length ≤ l.length := by intro l; unfold headF; split <;> simp
  have h2 : ∀ l, (lastF l).1.length ≤ l.length := by intro l; unfold lastF; split <;> simp
  exact Nat.le_trans (h2 _) (h1 _)
/-- Whether a rule is right. -/
def CheckTold (pat : ByteArray) (w : World) (e : Ending) (w' : World) : Prop := ∃ code, e = .returned (.int .i64 code) ∧ Ext w w' ∧ (code = 0 ↔ (patF (txt pat)).isSome = true)
set_option maxHeartbeats 1000000 in
set_option maxRecDepth 100000 in
theorem checkD_any (keep : Bool) (pat : ByteArray) (w : World) (hs : pat.size ≤ 1000) : Calls Tryz.prog 78 #[.agg #[.bool keep, .string pat]] w (CheckTold pat w) := by
  have HC := Lib.hid (fun w => coreD_any pat w hs)
  have HP := Lib.hid (fun s w => parse_any s w)
  by_cases hz : 64 < pat.size
  · have hz' : (64 : Int) < pat.size := by omega
    go_enter Tryz.func78, Tryz.ntmps78
    go_wp2
    go_ret
    exact ⟨5, rfl, (Ext.refl w).alloc _, by simp [patF, txt_len, hz]⟩
  · have hz' : ¬ (64 : Int) < pat.size := by omega
    obtain ⟨w1, hw1⟩ : ∃ w1, w.alloc (.cells #[.bool keep, .string pat] 89) = w1 := ⟨_, rfl⟩
    have hE1 : Ext w w1 := by rw [← hw1]; exact (Ext.refl w).alloc _
    have HE1 := Lib.hid hE1; clear hE1
    have HW1 := Lib.hid hw1; clear hw1
    go_enter Tryz.func78, Tryz.ntmps78
    go_wp2_with fail
    rw [HW1.out]
    refine (HC.out _).mono ?_
    rintro e w2 ⟨c, rfl, hct, rfl⟩
    have HCT := Lib.hid hct; clear hct
    go_wp2_with fail
    refine (HP.out _ _).mono ?_
    rintro e w2 ⟨a, n, cp, code, rfl, hE2, ht⟩
    have HE2 := Lib.hid (HE1.out.trans hE2); clear hE2
    have hcl : c.size ≤ 64 := by
      have h := congrArg List.length HCT.out
      have h2 := core_len (txt pat)
      rw [txt_len] at h h2
      omega
    rw [if_neg (by omega : ¬ c.size > 64), HCT.out] at ht
    have HPF : Hid (patF (txt pat) = if (lastF (headF (txt pat)).1).1 = [] then none else (allF (lastF (headF (txt pat)).1).1).map fun gs => (gs, (headF (txt pat)).2, (lastF (headF (txt pat)).1).2)) := Lib.hid (by unfold patF; rw [if_neg (by rw [txt_len]; exact hz)])
    cases hall : allF (lastF (headF (txt pat)).1).1 with
    | none =>
      rw [hall] at ht
      have hne : (code != 0) = true := by simpa using ht
      have HN : Hid (patF (txt pat) = none) := Lib.hid (by rw [HPF.out, hall]; simp)
      clear hall HPF
      go_wp2
      go_ret
      exact ⟨3, rfl, HE2.out, by rw [HN.out]; simp⟩
    | some gs =>
      rw [hall] at ht
      have hne : (code != 0) = false := by simp [ht.1]
      clear ht
      by_cases hce : c.size = 0
      · have hc0 : c.toList.isEmpty = true := by rw [(toList_txt c []).2 (txt_nil.2 hce)]; rfl
        have HN : Hid (patF (txt pat) = none) := Lib.hid (by rw [HPF.out, if_pos (by rw [← HCT.out]; exact txt_nil.2 hce)])
        clear hall HPF
        go_wp2
        go_ret
        exact ⟨3, rfl, HE2.out, by rw [HN.out]; simp⟩
      · have hc0 : c.toList.isEmpty = false := by
          rw [← Bool.not_eq_true, List.isEmpty_iff, toList_txt]
          exact fun h => hce (txt_nil.1 h)
        have HN : Hid ((patF (txt pat)).isSome = true) := Lib.hid (by rw [HPF.out, if_neg (by rw [← HCT.out]; exact fun h => hce (txt_nil.1 h)), hall]; rfl)
        clear hall HPF
        go_wp2
        go_ret
        exact ⟨0, rfl, HE2.out, by simp [HN.out]⟩
end Go.Proofs.YtiopahkigbdmcaaGreat
/- The document's rules (layer 3): whether a rule matches a path: the walk. -/
namespace Go.Proofs.YtiopahkigbdmcaaGreat
open Go Go.Proofs Go.RowKit

theorem PartsAt.ext {w w' : World} {a : Option Addr} {gs : List GPart} (h : PartsAt w a gs) (hE : Ext w w') : PartsAt w' a gs := by
  rcases h with h | ⟨b, off, cs, ha, hb, hall⟩
  · exact Or.inl h
  · refine Or.inr ⟨b, off, cs, ha, hE.block hb, fun i h => ?_⟩
    obtain ⟨r, hr, hc⟩ := hall i h
    exact ⟨r, hr.ext hE, hc⟩
theorem StrsAt.drop {w : World} {b off : Nat} {L : List ByteArray} (k : Nat) (h : StrsAt w (some ⟨b, off, none⟩) L) : StrsAt w (some ⟨b, off + k, none⟩) (L.drop k) := by
  rcases h with h | ⟨b', off', cs, ha, hb, hall⟩
  · subst h; left; simp
  · obtain ⟨rfl, rfl⟩ : b = b' ∧ off = off' := by
      injection ha with ha; injection ha with h1 h2; exact ⟨h1, h2⟩
    right
    refine ⟨b, off + k, cs, rfl, hb, fun i h => ?_⟩
    rw [List.length_drop] at h
    rw [Nat.add_assoc, hall (k + i) (by omega), List.getElem_drop]
theorem ends_drop (N : List (List Int)) (f : List Int → Bool) (k : Nat) (h : k < N.length) : (endsOf (N.drop k)).any f = (f (glueF (N.drop k)) || (endsOf (N.drop (k + 1))).any f) := by
  rw [List.drop_eq_getElem_cons h, endsOf, List.any_cons]
theorem glue_drop (N : List (List Int)) (k : Nat) : (glueF (N.drop k)).length ≤ (glueF N).length := by
  induction k generalizing N with
  | zero => exact Nat.le_refl _
  | succ k ih =>
    cases N with
    | nil => exact Nat.le_refl _
    | cons a r =>
      refine Nat.le_trans (ih r) ?_
      by_cases hr : r = []
      · subst hr; exact Nat.zero_le _
      · rw [glueF_cons a r hr, List.length_append, List.length_cons]; omega
theorem strs_small {L : List ByteArray} {p : ByteArray} (h : L.map txt = splitF (txt p)) : ∀ x ∈ L, x.size ≤ p.size := by
  intro x hx
  have h1 : txt x ∈ splitF (txt p) := by rw [← h]; exact List.mem_map_of_mem hx
  have := split_mem_len _ _ h1
  rw [txt_len, txt_len] at this
  exact this
theorem names_case (l : List Int) : (namesF l = [] ∧ (l = [] ∨ rightF l = false)) ∨ (namesF l = splitF l ∧ l ≠ [] ∧ rightF l = true) := by
  unfold namesF cutF
  cases h : rightF l
  · simp
  · by_cases hl : l = []
    · simp [hl]
    · right; simp [hl]
theorem patF_some {l : List Int} {gs : List GPart} {wh di : Bool} (h : patF l = some (gs, wh, di)) : l.length ≤ 64 ∧ allF (lastF (headF l).1).1 = some gs ∧ (headF l).2 = wh ∧ (lastF (headF l).1).2 = di := by
  unfold patF at h
  split at h
  · cases h
  · split at h
    · cases h
    · rename_i h64 _
      rw [Option.map_eq_some_iff] at h
      obtain ⟨g, hg, he⟩ := h
      injection he with h1 h2
      injection h2 with h2 h3
      subst h1
      exact ⟨by omega, hg, h2, h3⟩
set_option maxHeartbeats 2000000 in
set_option maxRecDepth 100000 in
theorem matchesD_any (keep : Bool) (pat p : ByteArray) (dir : Bool) (w : World) (hs : pat.size ≤ 1000) (hp : p.size ≤ 1000) : Calls Tryz.prog 97 #[.agg #[.bool keep, .string pat], .string p, .bool dir] w (RetV w (.bool (matchF (txt pat) (txt p) dir))) := by
  have HC := Lib.hid (fun w => coreD_any pat w hs)
  have HK := Lib.hid (fun w => checkD_any keep pat w hs)
  have HNm := Lib.hid (fun w => namesD_any p w hp)
  have HP := Lib.hid (fun s w => parse_any s w)
  obtain ⟨w1, hw1⟩ : ∃ w1, w.alloc (.cells #[.bool keep, .string pat] 89) = w1 := ⟨_, rfl⟩
  have hE1 : Ext w w1 := by rw [← hw1]; exact (Ext.refl w).alloc _
  have hb1 : w1.heap[w.heap.size]? = some (.cells #[.bool keep, .string pat] 89 (0, 0)) := by rw [← hw1]; exact heap_at _ _ rfl
  have HE1 := Lib.hid hE1; clear hE1
  have HB1 := Lib.hid hb1; clear hb1
  have HW1 := Lib.hid hw1; clear hw1
  go_enter Tryz.func97, Tryz.ntmps97
  go_wp2_with fail
  rw [HW1.out]
  refine (HC.out _).mono ?_
  rintro e w2 ⟨c, rfl, hct, rfl⟩
  have HCT := Lib.hid hct; clear hct
  obtain ⟨wh, hwh⟩ : ∃ wh, (headF (txt pat)).2 = wh := ⟨_, rfl⟩
  obtain ⟨di, hdi⟩ : ∃ di, (lastF (headF (txt pat)).1).2 = di := ⟨_, rfl⟩
  rw [hwh, hdi]
  have HD := Lib.hid (And.intro hwh hdi); clear hwh hdi
  go_wp2_with fail
  refine (HNm.out _).mono ?_
  rintro e w2 ⟨a, cp, L, rfl, hE2, hL, hLt, hcp⟩
  have HL := Lib.hid hL; clear hL
  have HLT := Lib.hid hLt; clear hLt
  have c0 := blk_cell (hE2.block HB1.out) (i := 0) rfl
  have c1 := blk_cell (hE2.block HB1.out) (i := 1) rfl
  have HE2 := Lib.hid (HE1.out.trans hE2); clear hE2
  obtain ⟨n, hn⟩ : ∃ n, L.length = n := ⟨_, rfl⟩
  rw [hn]
  have HN := Lib.hid hn; clear hn
  go_wp2_with fail
  refine (HK.out _).mono ?_
  rintro e w3 ⟨code, rfl, hE3, hcode⟩
  have HL := Lib.hid (HL.out.ext hE3)
  have HE2 := Lib.hid (HE2.out.trans hE3); clear hE3
  clear c0 c1
  cases hpf : patF (txt pat) with
  | none =>
    rw [hpf] at hcode
    have hne : (code != 0) = true := by simpa using hcode
    have HM : Hid (matchF (txt pat) (txt p) dir = false) := Lib.hid (by unfold matchF; rw [hpf])
    clear hpf hcode
    go_wp2
    go_ret
    exact ⟨ret_bool HM.out.symm, HE2.out⟩
  | some x =>
    obtain ⟨gs, wh', di'⟩ := x
    rw [hpf] at hcode
    have hne : (code != 0) = false := by simpa using hcode
    obtain ⟨h64, hall, h1, h2⟩ := patF_some hpf
    have hw' : wh = wh' := by rw [← h1, HD.out.1]
    have hd' : di = di' := by rw [← h2, HD.out.2]
    have HM : Hid (matchF (txt pat) (txt p) dir = if txt p = [] then false else if rightF (txt p) = false then false else if di = true ∧ dir = false then false else hitsF gs wh (txt p)) := Lib.hid (by unfold matchF; rw [hpf, hw', hd'])
    have HA := Lib.hid hall
    clear hpf hcode hall h1 h2 hw' hd' HD
    rw [txt_len] at h64
    rcases names_case (txt p) with ⟨hnm, hcase⟩ | ⟨hnm, hp0, hr⟩
    · have hn0 : n = 0 := by rw [← HN.out]; have h := congrArg List.length (HLT.out.trans hnm); simpa using h
      have hn0' : ((n : Int) == 0) = true := by rw [hn0]; rfl
      have HM : Hid (matchF (txt pat) (txt p) dir = false) := Lib.hid (by rw [HM.out]; rcases hcase with h | h <;> simp [h])
      clear hcase hnm hn0
      go_wp2
      go_ret
      exact ⟨ret_bool HM.out.symm, HE2.out⟩
    · have HLS := Lib.hid (HLT.out.trans hnm)
      have hlen : n = (splitF (txt p)).length := by rw [← HN.out, ← HLS.out, List.length_map]
      have hnp : 0 < n := by rw [hlen]; exact List.length_pos_iff.2 (splitF_ne _)
      have hnz : n ≤ 1001 := by rw [hlen]; have := split_len (txt p); rw [txt_len] at this; omega
      have hn0' : ((n : Int) == 0) = false := by rw [beq_eq_false_iff_ne]; omega
      have HM : Hid (matchF (txt pat) (txt p) dir = if di = true ∧ dir = false then false else hitsF gs wh (txt p)) := Lib.hid (by rw [HM.out, if_neg hp0, if_neg (by simp [hr])])
      clear hnm hp0 hr hlen
      have hdd : (di = true ∧ dir = false) ∨ di = false ∨ (di = true ∧ dir = true) := by cases di <;> cases dir <;> simp
      rcases hdd with ⟨rfl, rfl⟩ | hdd
      · have HM : Hid (matchF (txt pat) (txt p) false = false) := Lib.hid (by rw [HM.out]; rfl)
        go_wp2
        go_ret
        exact ⟨ret_bool HM.out.symm, HE2.out⟩
      · have HMf : Hid (matchF (txt pat) (txt p) dir = hitsF gs wh (txt p)) := Lib.hid (by rw [HM.out, if_neg]; rcases hdd with rfl | ⟨rfl, rfl⟩ <;> simp)
        rcases hdd with rfl | ⟨rfl, rfl⟩
        all_goals
          go_wp2_with fail
          refine (HP.out _ _).mono ?_
          rintro e w4 ⟨a4, n4, c4, code4, rfl, hE4, ht⟩
          have hcl : c.size ≤ 64 := by
            have h := congrArg List.length HCT.out
            have h2 := core_len (txt pat)
            rw [txt_len] at h h2
            omega
          rw [if_neg (by omega : ¬ c.size > 64), HCT.out, HA.out] at ht
          obtain ⟨rfl, rfl, hgn, hPA⟩ := ht
          have HPA := Lib.hid hPA
          have HL4 := Lib.hid (HL.out.ext hE4)
          have HE4 := Lib.hid (HE2.out.trans hE4)
          have hgz : gs.length ≤ 1000 := by omega
          obtain ⟨ng, hng⟩ : ∃ ng, gs.length = ng := ⟨_, rfl⟩
          rw [hng]
          have HNG := Lib.hid (And.intro hng hgz)
          clear hE4 hPA hgn hcl hgz hng
          have hncp : n ≤ cp := by rw [← HN.out]; exact hcp
          clear hcp h64 hne
          go_wp2
          go_loopw [13] (fun i w' => ∃ k : Nat, k ≤ n ∧ i = .int .i64 k ∧ (k = 0 ∨ wh = false) ∧ (endsOf (splitF (txt p))).any (gmatch gs) = (endsOf ((splitF (txt p)).drop k)).any (gmatch gs) ∧ Ext w4 w') (fun i _ => n - (intOf i).toNat)
          case atStart => exact ⟨0, Nat.zero_le _, rfl, Or.inl rfl, rfl, Ext.refl _⟩
          case round =>
            obtain ⟨k, hk, rfl, hk0, hany, hE⟩ := hrel
            have HK0 := Lib.hid (And.intro hk0 hany); clear hk0 hany
            by_cases hlt : k < n
            · have hkl : k < L.length := by rw [HN.out]; exact hlt
              obtain ⟨b, off, rfl, hb, -⟩ := HL4.out.cell hkl
              have HLk := Lib.hid ((HL4.out.drop k).ext hE)
              have HE := Lib.hid hE; clear hE
              have hG := fun w' (h : Ext wr w') => glueD_any _ (L.drop k) (cp - k) w' (by rw [List.length_drop, HN.out]; omega) (fun x hx => Nat.le_trans (strs_small HLS.out x (List.mem_of_mem_drop hx)) (by omega)) (HLk.out.ext h)
              rw [List.length_drop, HN.out] at hG
              have HG := Lib.hid hG; clear hG
              go_wp2_with fail
              refine (HG.out _ (Ext.refl _)).mono ?_
              rintro e w5 ⟨s, rfl, hst, rfl⟩
              rw [List.map_drop, HLS.out] at hst
              have hkN : k < (splitF (txt p)).length := by rw [← HLS.out, List.length_map]; exact hkl
              have hss : s.size ≤ 1000 := by
                have h := glue_drop (splitF (txt p)) k
                rw [← hst, glue_split, txt_len, txt_len] at h
                omega
              have hM := match_any s a4 gs c4 wr hss HNG.out.2 (HPA.out.ext HE.out)
              rw [HNG.out.1] at hM
              obtain ⟨m, hm⟩ : ∃ m, gmatch gs (txt s) = m := ⟨_, rfl⟩
              rw [hm] at hM
              have HMM := Lib.hid hM; clear hM
              have HST := Lib.hid (And.intro hst hm); clear hst hm
              have HD := Lib.hid (ends_drop (splitF (txt p)) (gmatch gs) k hkN); clear hkN
              go_wp2_with fail
              refine (HMM.out).mono ?_
              rintro e w6 ⟨rfl, hE6⟩
              have HE6 := Lib.hid (HE.out.trans hE6); clear hE6
              cases m
              · cases wh
                · go_wp2
                  go_roundw
                  case rel => exact ⟨k + 1, by omega, by go_num, by simp, by rw [HK0.out.2, HD.out, ← HST.out.1, HST.out.2]; rfl, HE6.out⟩
                  case measure => simp [intOf]; omega
                · have hk : k = 0 := by rcases HK0.out.1 with h | h; exact h; cases h
                  have hv : Hid (hitsF gs true (txt p) = false) := Lib.hid (by
                    show gmatch gs (txt p) = false
                    rw [← HST.out.2, HST.out.1, hk, List.drop_zero, glue_split])
                  go_wp2
                  go_ret
                  exact ⟨ret_bool (by rw [HMf.out, hv.out]), HE4.out.trans HE6.out⟩
              · have hv : Hid (hitsF gs wh (txt p) = true) := Lib.hid (by
                  unfold hitsF
                  cases wh
                  · show (endsOf (splitF (txt p))).any (gmatch gs) = true
                    rw [HK0.out.2, HD.out, ← HST.out.1, HST.out.2]; rfl
                  · have hk : k = 0 := by rcases HK0.out.1 with h | h; exact h; cases h
                    show gmatch gs (txt p) = true
                    rw [← HST.out.2, HST.out.1, hk, List.drop_zero, glue_split])
                go_wp2
                go_ret
                exact ⟨ret_bool (by rw [HMf.out, hv.out]), HE4.out.trans HE6.out⟩
            · obtain rfl : k = n := by omega
              have HE := Lib.hid hE; clear hE
              have hv : Hid (hitsF gs wh (txt p) = false) := Lib.hid (by
                rcases HK0.out.1 with h | h
                · omega
                · subst h
                  show (endsOf (splitF (txt p))).any (gmatch gs) = false
                  rw [HK0.out.2, List.drop_eq_nil_of_le (by rw [← HLS.out, List.length_map, HN.out]; exact Nat.le_refl _)]
                  rfl)
              go_wp2
              go_ret
              exact ⟨ret_bool (by rw [HMf.out, hv.out]), HE4.out.trans HE.out⟩
end Go.Proofs.YtiopahkigbdmcaaGreat
/- The paths that a path is under, handed out one by one; what rules shut out (layer 3): the walks. -/
namespace Go.Proofs.YtiopahkigbdmcaaGreat
open Go Go.Proofs Go.RowKit
attribute [local go_sem] Oper.semAt_some

/-- What stands ahead of each slash from a place on. -/
def preFrom (l : List Int) (i : Nat) : List (List Int) := ((List.range' i (l.length - i)).filter fun j => l[j]? == some 47).map fun j => l.take j
def upsF (l : List Int) : List (List Int) := if l = [] then [] else if rightF l = false then [] else [] :: preFrom l 0
theorem pre_end (l : List Int) (i : Nat) (h : l.length ≤ i) : preFrom l i = [] := by
  unfold preFrom; rw [show l.length - i = 0 by omega]; rfl
theorem pre_yes (l : List Int) (i : Nat) (h : i < l.length) (h47 : l[i] = 47) : preFrom l i = l.take i :: preFrom l (i + 1) := by
  unfold preFrom
  rw [show l.length - i = (l.length - (i + 1)) + 1 by omega, List.range'_succ, List.filter_cons, if_pos (by rw [List.getElem?_eq_getElem h, h47]; rfl)]
  rfl
theorem pre_no (l : List Int) (i : Nat) (h : i < l.length) (h47 : l[i] ≠ 47) : preFrom l i = preFrom l (i + 1) := by
  unfold preFrom
  rw [show l.length - i = (l.length - (i + 1)) + 1 by omega, List.range'_succ, List.filter_cons, if_neg (by rw [List.getElem?_eq_getElem h]; simpa using h47)]
/-- The same as values. -/
def upVals (p : ByteArray) : List Value := (upsF (txt p)).map fun l => .string (strOf l)
theorem grown_of_ext {W W' : World} (h : Ext W W') : W.grownBy W' none := ⟨h.os, h.tape, h.output, h.size, fun k hk _ => Below.block h k hk⟩

set_option maxRecDepth 100000 in
set_option maxHeartbeats 4000000 in
theorem ups_hands (n bc : Nat) (p : ByteArray) (w : World) (hp : p.size ≤ 100000) (hb : w.heap[bc]? = some (.cells #[.string p] 9 (0, 0))) :
    Hands n Tryz.prog 107 #[.pointer (some ⟨bc, 0, none⟩)] bc (upVals p) w := by
  intro l J Jx W hW hJ hJx hS hY h0
  have hbl := blk_lt hb
  have hbW : W.heap[bc]? = some (.cells #[.string p] 9 (0, 0)) := (Below.block hW bc hbl).trans hb
  obtain ⟨hc0, hf0⟩ := cell_blk hbW
  have hJe : ∀ k A B, J k A → Ext A B → J k B := fun k A B h hE => hJ k A _ none h (grown_of_ext hE) (fun r e => by cases e)
  have HJE := Lib.hid hJe; clear hJe
  have HY := Lib.hid hY; clear hY
  clear hS
  have HRI := Lib.hid (rightP_any p W hp)
  refine callsIn_of_wp Tryz.func107 rfl trivial ?_
  simp only [Tryz.ntmps107, List.size_toArray, List.length_cons, List.length_nil, Nat.reduceAdd, Nat.reduceSub, Array.replicate_succ, Array.replicate_zero, List.push_toArray, List.append_toArray, List.nil_append, List.cons_append]
  by_cases hpe : txt p = []
  · have he : p.toList = [] := by rw [toList_txt]; exact hpe
    have he' : p.toList.isEmpty = true := by rw [he]; rfl
    have HL : Hid ((upVals p).length = 0) := Lib.hid (by simp [upVals, upsF, hpe])
    clear hpe
    gi_wp2
    refine ⟨trivial, ?_⟩
    gi_wp2
    refine ⟨fun _ h => (by cases h), ?_⟩
    gi_wp2
    refine bodyPost_ret (results_none rfl _ _ _) rfl ?_
    exact ⟨⟨_, rfl⟩, Or.inl (by rw [HL.out]; exact h0)⟩
  · have he : ¬ p.toList = [] := by rw [toList_txt]; exact hpe
    have he' : p.toList.isEmpty = false := by simpa using he
    obtain ⟨rt, hrt⟩ : ∃ b, rightF (txt p) = b := ⟨_, rfl⟩
    have hr1 := HRI.out
    rw [hrt] at hr1
    have HR1 := Lib.hid hr1; clear hr1
    have HUP : Hid (upsF (txt p) = if rt = false then [] else [] :: preFrom (txt p) 0) := Lib.hid (by unfold upsF; rw [if_neg hpe, hrt])
    clear hpe hrt
    cases rt
    · have HL : Hid ((upVals p).length = 0) := Lib.hid (by rw [upVals, HUP.out]; rfl)
      gi_wp2_with (refine ⟨trivial, (fun h => by cases h), ?_⟩; gi_at_call 91; refine (callsIn_wide.2 HR1.out).mono ?_; rintro e W2 ⟨rfl, hE2⟩; have HE2 := Lib.hid hE2; clear hE2)
      refine ⟨fun _ h => (by cases h), ?_⟩
      gi_wp2
      refine bodyPost_ret (results_none rfl _ _ _) rfl ?_
      exact ⟨⟨_, rfl⟩, Or.inl (by rw [HL.out]; exact HJE.out _ _ _ h0 HE2.out)⟩
    · have hE : (upVals p) = (.string (strOf [])) :: (preFrom (txt p) 0).map fun l => .string (strOf l) := by rw [upVals, HUP.out]; rfl
      have hlen : (upVals p).length = (preFrom (txt p) 0).length + 1 := by rw [hE]; simp
      have hk0 : 0 < (upVals p).length := by omega
      have hp0 : (upVals p)[0] = .string ⟨#[]⟩ := by
        have : (upVals p)[0]? = some (.string ⟨#[]⟩) := by rw [hE]; rfl
        rw [List.getElem?_eq_getElem hk0] at this
        exact Option.some.inj this
      have HUV := Lib.hid hE; clear hE
      have HLEN := Lib.hid hlen; clear hlen
      have hy0 : ∀ W1, J 0 W1 → _ := fun W1 h => HY.out 0 hk0 W1 h
      rw [hp0] at hy0
      have HY0 := Lib.hid hy0; clear hy0 hp0
      gi_wp2_with (first | (refine ⟨trivial, (fun h => by cases h), ?_⟩; gi_at_call 91; refine (callsIn_wide.2 HR1.out).mono ?_; rintro e W2 ⟨rfl, hE2⟩; have hb2 := Ext.block hE2 hbW; obtain ⟨hc2, hf2⟩ := cell_blk hb2; have HE2 := Lib.hid hE2; clear hE2; obtain ⟨fn, tmps, assign, body, hy, hR⟩ := HY0.out W2 (HJE.out _ _ _ h0 HE2.out); have HR := Lib.hid hR; clear hR) | (refine ⟨(fun h => by cases h), HR.out.mono ?_⟩; rintro e W3 (⟨rfl, hJ3, hk3⟩ | ⟨rfl, hJ3⟩); have hb3 := hk3.1.trans hb2; obtain ⟨hc3, hf3⟩ := cell_blk hb3; have HJ3 := Lib.hid hJ3; clear hJ3; have HB3 := Lib.hid hb3; clear hb3 hk3))
      · clear hy
        gi_loopw [18] (fun iv wr => ∃ (i k : Nat), iv = .int .i64 i ∧ i ≤ p.size ∧ wr.heap[bc]? = some (.cells #[.string p] 9 (0, 0)) ∧ (preFrom (txt p) 0).drop k = preFrom (txt p) i ∧ k ≤ (preFrom (txt p) 0).length ∧ J (k + 1) wr) (fun iv _ => p.size - (intOf iv).toNat)
        case atStart => exact ⟨0, 0, rfl, Nat.zero_le _, HB3.out, rfl, Nat.zero_le _, HJ3.out⟩
        case round =>
          obtain ⟨i, k, rfl, hi, hbr, hdr, hkl, hj⟩ := hrel
          obtain ⟨hc, hf⟩ := cell_blk hbr
          have HJ := Lib.hid hj; clear hj
          have HDR := Lib.hid hdr; clear hdr
          by_cases hlt : i < p.size
          · have hlt' : i < (txt p).length := by rw [txt_len]; exact hlt
            by_cases h47 : ((p[i].toNat : Nat) : Int) = 47
            · have g47 : (((p[i].toNat : Nat) : Int) == 47) = true := by rw [h47]; rfl
              have hstep : Hid ((preFrom (txt p) 0).drop k = (txt p).take i :: preFrom (txt p) (i + 1)) := Lib.hid (by rw [HDR.out]; exact pre_yes (txt p) i hlt' (by rw [txt_at p i hlt]; exact h47))
              have hkl2 : k + 1 < (upVals p).length := by
                have h := congrArg List.length hstep.out
                rw [List.length_drop] at h
                have := HLEN.out
                simp at h; omega
              have hpk : (upVals p)[k + 1] = .string (p.extract 0 i) := by
                have h1 : (preFrom (txt p) 0)[k]? = some ((txt p).take i) := by rw [← List.head?_drop, hstep.out]; rfl
                have : (upVals p)[k + 1]? = some (.string (p.extract 0 i)) := by
                  rw [HUV.out, List.getElem?_cons_succ, List.getElem?_map, h1]
                  have e : (txt p).take i = txt (p.extract 0 i) := by rw [txt_extract, List.drop_zero]
                  rw [e]; simp [strOf_txt]
                rw [List.getElem?_eq_getElem hkl2] at this
                exact Option.some.inj this
              have hy := HY.out (k + 1) hkl2 wr HJ.out
              rw [hpk] at hy
              clear hpk h47
              obtain ⟨fn', tmps', assign', body', hy, hR⟩ := hy
              have HR := Lib.hid hR; clear hR
              have hq1 : (i : Int) ≤ (p.size : Int) := by omega
              gi_wp2_with (refine ⟨(fun h => by cases h), HR.out.mono ?_⟩; rintro e W4 (⟨rfl, hJ4, hk4⟩ | ⟨rfl, hJ4⟩); have hb4 := hk4.1.trans hbr; obtain ⟨hc4, hf4⟩ := cell_blk hb4; have HJ4 := Lib.hid hJ4; clear hJ4; have HB4 := Lib.hid hb4; clear hb4 hk4)
              · refine ⟨⟨i + 1, k + 1, by go_num, by omega, HB4.out, ?_, by have := HLEN.out; omega, HJ4.out⟩, by simp [intOf]; omega⟩
                rw [← List.drop_drop, hstep.out]; rfl
              · refine bodyPost_ret (results_none rfl _ _ _) rfl ?_
                exact ⟨⟨_, rfl⟩, Or.inr ⟨k + 1, hkl2, hJ4⟩⟩
            · have g47 : (((p[i].toNat : Nat) : Int) == 47) = false := by simp [h47]
              have hstep : Hid ((preFrom (txt p) 0).drop k = preFrom (txt p) (i + 1)) := Lib.hid (by rw [HDR.out]; exact pre_no (txt p) i hlt' (by rw [txt_at p i hlt]; exact h47))
              clear h47
              gi_wp2
              refine ⟨fun _ h => (by cases h), ?_⟩
              gi_wp2
              exact ⟨⟨i + 1, k, by go_num, by omega, hbr, hstep.out, hkl, HJ.out⟩, by simp [intOf]; omega⟩
          · have hie : i = p.size := by omega
            have hke : Hid (k + 1 = (upVals p).length) := Lib.hid (by
              have h := congrArg List.length HDR.out
              rw [List.length_drop, pre_end (txt p) i (by rw [txt_len]; omega)] at h
              have := HLEN.out
              simp at h; omega)
            clear hie
            gi_wp2
            go_end0
            exact ⟨⟨_, rfl⟩, Or.inl (by rw [← hke.out]; exact HJ.out)⟩
      · refine bodyPost_ret (results_none rfl _ _ _) rfl ?_
        exact ⟨⟨_, rfl⟩, Or.inr ⟨0, hk0, hJ3⟩⟩
end Go.Proofs.YtiopahkigbdmcaaGreat
/- What rules shut out (layer 3): the walk. -/
namespace Go.Proofs.YtiopahkigbdmcaaGreat
open Go Go.Proofs Go.RowKit
attribute [local go_sem] Oper.semAt_some

theorem run_store_func {P : Program} {w : World} {a : Addr} {m : Mode} (f : Fn) (b c : Array Value) : (store a (.func f b c) m).run P w = stored P w a (.func f b c) m := run_store P w a _ m rfl
attribute [local go_sem] run_store_func

def shutF (rs : List (Bool × ByteArray)) (p : List Int) (dir : Bool) : Bool := !keepsF rs p dir || (upsF p).any fun u => !keepsF rs u true

set_option maxRecDepth 100000 in
theorem shuts_any (a : Option Addr) (rs : List (Bool × ByteArray)) (c : Nat) (p : ByteArray) (w : World) (hp : p.size ≤ 1000) (hr : rs.length ≤ 100000) (hR : RulesAt w a rs) : Calls Tryz.prog 89 #[.slice a rs.length c, .string p] w (RetV w (.bool (!keepsF rs (txt p) true))) := by
  have HK := Lib.hid (keepsP_any a rs c p true w hp hr hR)
  obtain ⟨b, hb⟩ : ∃ b, keepsF rs (txt p) true = b := ⟨_, rfl⟩
  rw [hb] at HK ⊢
  clear hb
  go_enter Tryz.func89, Tryz.ntmps89
  go_wp2_with (go_at_call 88; refine (HK.out).mono ?_; rintro e w2 ⟨rfl, hE2⟩)
  go_ret
  exact ⟨rfl, hE2⟩
set_option maxRecDepth 100000 in
theorem upsP_any (p : ByteArray) (w : World) : Calls Tryz.prog 90 #[.string p] w (fun e w' => e = .returned (.func (.func 107) #[] #[.pointer (some ⟨w.heap.size, 0, none⟩)]) ∧ w' = w.alloc (.cells #[.string p] 9)) := by
  go_enter Tryz.func90, Tryz.ntmps90
  go_wp2
  go_ret
  exact ⟨rfl, rfl⟩
theorem pre_len (l : List Int) (i : Nat) : ∀ x ∈ preFrom l i, x.length ≤ l.length ∧ ∀ y ∈ x, y ∈ l := by
  intro x hx
  unfold preFrom at hx
  obtain ⟨j, _, rfl⟩ := List.mem_map.1 hx
  exact ⟨by simp; omega, fun y hy => List.mem_of_mem_take hy⟩
theorem ups_mem (l : List Int) : ∀ x ∈ upsF l, x.length ≤ l.length ∧ ∀ y ∈ x, y ∈ l := by
  intro x hx
  unfold upsF at hx
  split at hx
  · simp at hx
  · split at hx
    · simp at hx
    · rcases List.mem_cons.1 hx with rfl | hx
      · exact ⟨Nat.zero_le _, fun y hy => by simp at hy⟩
      · exact pre_len l 0 x hx

set_option maxRecDepth 100000 in
set_option maxHeartbeats 1000000 in
theorem shutP_any (a : Option Addr) (rs : List (Bool × ByteArray)) (c : Nat) (p : ByteArray) (dir : Bool) (w : World) (hp : p.size ≤ 1000) (hr : rs.length ≤ 100000) (hR : RulesAt w a rs) :
    Calls Tryz.prog 67 #[.slice a rs.length c, .string p, .bool dir] w (RetV w (.bool (shutF rs (txt p) dir))) := by
  have HR := Lib.hid hR; clear hR
  have HK := Lib.hid (keepsP_any a rs c p dir (w.alloc (.cells #[.bool false] 4)) hp hr (HR.out.ext ((Ext.refl w).alloc _)))
  have HS := Lib.hid (fun q w' (hq : q.size ≤ 1000) (h : Ext w w') => shuts_any a rs c q w' hq hr (HR.out.ext h))
  obtain ⟨n, hn⟩ : ∃ n, rs.length = n := ⟨_, rfl⟩
  rw [hn] at HK HS ⊢
  clear hn hr
  obtain ⟨kp, hkp⟩ : ∃ b, keepsF rs (txt p) dir = b := ⟨_, rfl⟩
  rw [hkp] at HK
  have hb0 : (w.alloc (.cells #[.bool false] 4)).heap[w.heap.size]? = some (.cells #[.bool false] 4 (0, 0)) := heap_at _ _ rfl
  have HB0 := Lib.hid hb0; clear hb0
  refine (callsIn_wide (n := 3)).1 ?_
  refine callsIn_of_wp_marks Tryz.func67 rfl trivial ?_ rfl
  simp only [Tryz.ntmps67, List.size_toArray, List.length_cons, List.length_nil, Nat.reduceAdd, Nat.reduceSub, Array.replicate_succ, Array.replicate_zero, List.push_toArray, List.append_toArray, List.nil_append, List.cons_append]
  cases kp
  · have hres : Hid (shutF rs (txt p) dir = true) := Lib.hid (by unfold shutF; rw [hkp]; rfl)
    clear hkp
    gi_wp2_with (refine ⟨trivial, ?_⟩; gi_at_call 88; refine (callsIn_wide.2 HK.out).mono ?_; rintro e w2 ⟨rfl, hE2⟩; have hb2 := Ext.block hE2 HB0.out; obtain ⟨hc2, hf2⟩ := cell_blk hb2; have HB2 := Lib.hid hb2; clear hb2; have HE2 := Lib.hid hE2; clear hE2)
    have hc5 := (cell_blk (blk_set (i := 0) (.bool true) HB2.out)).1
    have hE2 : Ext (w.alloc (.cells #[.bool false] 4)) w2 := HE2.out
    refine ⟨.bool true, ?_, by rw [hres.out], Ext.setNew (((Ext.refl w).alloc _).trans hE2) (Nat.le_refl _) _⟩
    simp [results, Tryz.f67, go_sem, hc5]
  · obtain ⟨S, hSS⟩ : ∃ S, upsF (txt p) = S := ⟨_, rfl⟩
    have hres : Hid (shutF rs (txt p) dir = S.any fun u => !keepsF rs u true) := Lib.hid (by unfold shutF; rw [hkp, hSS]; rfl)
    have hpl : (upVals p).length = S.length := by rw [upVals, hSS, List.length_map]
    have hpk : ∀ k (hk : k < (upVals p).length), (upVals p)[k] = .string (strOf (S.getD k [])) := by
      intro k hk
      have hk' : k < S.length := by omega
      have : (upVals p)[k]? = some (.string (strOf (S.getD k []))) := by rw [upVals, hSS, List.getElem?_map, List.getElem?_eq_getElem hk', List.getD_eq_getElem?_getD, List.getElem?_eq_getElem hk']; rfl
      rw [List.getElem?_eq_getElem hk] at this
      exact Option.some.inj this
    have hnm : ∀ k (hk : k < S.length), txt (strOf (S.getD k [])) = S[k] ∧ (strOf (S.getD k [])).size ≤ 1000 := by
      intro k hk
      rw [List.getD_eq_getElem?_getD, List.getElem?_eq_getElem hk]
      have hm : S[k] ∈ upsF (txt p) := by rw [hSS]; exact List.getElem_mem hk
      have h2 := ups_mem _ _ hm
      refine ⟨txt_strOf _ (fun x hx => txt_byte p x (h2.2 x hx)), ?_⟩
      have := h2.1
      rw [txt_len] at this
      show (strOf S[k]).size ≤ 1000
      rw [strOf_size]; omega
    have HPK := Lib.hid hpk; clear hpk
    have HNM := Lib.hid hnm; clear hnm
    have HPL := Lib.hid hpl; clear hpl
    clear hSS hkp
    gi_wp2_with (first | (refine ⟨trivial, ?_⟩; gi_at_call 88; refine (callsIn_wide.2 HK.out).mono ?_; rintro e w2 ⟨rfl, hE2⟩; have hb2 := Ext.block hE2 HB0.out; have HB2 := Lib.hid hb2; clear hb2; have HE2 := Lib.hid hE2; clear hE2) | (refine ⟨trivial, ?_⟩; gi_at_call 90; refine (callsIn_wide.2 (upsP_any _ _)).mono ?_; rintro e w' ⟨rfl, rfl⟩))
    obtain ⟨wo, hwo⟩ : ∃ wo, ((w2.alloc (.cells #[.func (.func 89) #[.slice a n c] #[]] 74)).alloc (.cells #[.string p] 9)) = wo := ⟨_, rfl⟩
    have hE2 : Ext (w.alloc (.cells #[.bool false] 4)) w2 := HE2.out
    have hz2 := hE2.size
    simp only [World.size_alloc] at hz2
    have hzo : wo.heap.size = w2.heap.size + 2 := by rw [← hwo]; simp
    have hEo : Ext w2 wo := by rw [← hwo]; exact ((Ext.refl w2).alloc _).alloc _
    have hb0 : wo.heap[w.heap.size]? = some (.cells #[.bool false] 4 (0, 0)) := hEo.block HB2.out
    have hb1 : wo.heap[w2.heap.size]? = some (.cells #[.func (.func 89) #[.slice a n c] #[]] 74 (0, 0)) := by rw [← hwo]; exact heap_before _ _ (heap_at _ _ rfl)
    have hb2 : wo.heap[w2.heap.size + 1]? = some (.cells #[.string p] 9 (0, 0)) := by rw [← hwo]; exact heap_at _ _ (by simp)
    have hE0 : Below w.heap.size w wo := ((Ext.refl w).alloc _).trans (hE2.trans hEo)
    clear hE2 hEo
    rw [hwo]
    have hh := ups_hands 2 (w2.heap.size + 1) p wo (by omega) hb2
    refine range_list (by omega) (gf := 107) (lb := #[.pointer (some ⟨w2.heap.size + 1, 0, none⟩)]) (by simp [go_sem]) (enters_of Tryz.func107 (by kernel_rfl) rfl) hh rfl (by omega)
      (fun k W => W.heap[w2.heap.size]? = some (.cells #[.func (.func 89) #[.slice a n c] #[]] 74 (0, 0)) ∧ W.heap[w.heap.size]? = some (.cells #[.bool false] 4 (0, 0)) ∧ ((S.take k).any fun u => !keepsF rs u true) = false ∧ w2.heap.size + 1 < W.heap.size ∧ Below w.heap.size w W)
      (fun _ W => W.heap[w.heap.size]? = some (.cells #[.bool true] 4 (0, 0)) ∧ shutF rs (txt p) dir = true ∧ Below w.heap.size w W)
      (OwnFrom.and own_blk (OwnFrom.and own_blk (OwnFrom.and own_pure (OwnFrom.and own_size (own_below (Nat.le_refl _) (by omega))))))
      (OwnFrom.and own_blk (OwnFrom.and own_pure (own_below (Nat.le_refl _) (by omega))))
      ((stays_blk (by omega)).and ((stays_blk (by omega)).and (stays_pure.and (stays_size.and (stays_below (by omega))))))
      ⟨hb1, hb0, rfl, by omega, hE0⟩
      (fun k => { tmps := #[.slice a n c, .string p, .bool dir, undef, undef, undef, .pointer (some ⟨w.heap.size, 0, none⟩), .pointer (some ⟨w2.heap.size, 0, none⟩), .string (strOf (S.getD k [])), .slice a n c, .string p, .bool dir, .bool true, .bool false, .slice a n c, .func (.func 89) #[.slice a n c] #[], .string p, .func (.func 107) #[] #[.pointer (some ⟨w2.heap.size + 1, 0, none⟩)], .string (strOf (S.getD k [])), undef, undef, undef], defers := [] })
      ?assign ?body ?done ?stop
    case assign =>
      intro l k hk W K hK
      rw [HPK.out k hk]
      gi_wp2
      exact hK
    case body =>
      rintro l k W hk ⟨h0, h1, hany, hsz, hB⟩
      have hkS : k < S.length := by have := HPL.out; omega
      obtain ⟨hx1, hx2⟩ := HNM.out k hkS
      have hc0 := (cell_blk h0).1
      have hbl1 := blk_lt h1
      have HAT := Lib.hid (any_take S (fun u => !keepsF rs u true) k hkS)
      obtain ⟨b, hb⟩ : ∃ b, (!keepsF rs S[k] true) = b := ⟨_, rfl⟩
      have hm := HS.out (strOf (S.getD k [])) W hx2 hB
      rw [hx1, hb] at hm
      simp only [hb] at HAT
      obtain ⟨x, hx⟩ : ∃ x, strOf (S.getD k []) = x := ⟨_, rfl⟩
      rw [hx] at hm ⊢
      have HM1 := Lib.hid hm; clear hm
      clear hx hx1 hx2 hb
      have H0 := Lib.hid h0; clear h0
      have H1 := Lib.hid h1; clear h1
      have HB := Lib.hid hB; clear hB
      have HANY := Lib.hid hany; clear hany
      cases b
      · gi_wp2_with (refine ⟨trivial, ?_⟩; gi_at_call 89; refine (CallsIn.inRound l (callsIn_wide.2 HM1.out)).mono ?_; rintro e w3 ⟨rfl, hE2⟩; have HE2 := Lib.hid hE2; clear hE2)
        have hE2 : Ext W w3 := HE2.out
        exact ⟨keeps_ext hE2, KeepB.of_ext hE2 hsz, hE2.block H0.out, hE2.block H1.out, by rw [HAT.out, HANY.out]; rfl, Nat.lt_of_lt_of_le hsz hE2.size, Below.trans HB.out (Below.mono hE2 HB.out.size)⟩
      · gi_wp2_with (refine ⟨trivial, ?_⟩; gi_at_call 89; refine (CallsIn.inRound l (callsIn_wide.2 HM1.out)).mono ?_; rintro e w3 ⟨rfl, hE2⟩; have hb2 := Ext.block hE2 H1.out; obtain ⟨hc2, hf2⟩ := cell_blk hb2; have HB2' := Lib.hid hb2; clear hb2; have HE2 := Lib.hid hE2; clear hE2)
        have hE2 : Ext W w3 := HE2.out
        have hyes : shutF rs (txt p) dir = true := by
          rw [hres.out]
          have h := HAT.out
          rw [Bool.or_true, List.any_eq_true] at h
          obtain ⟨y, hy, hy2⟩ := h
          rw [List.any_eq_true]
          exact ⟨y, List.mem_of_mem_take hy, hy2⟩
        exact ⟨(keeps_ext hE2).trans (KeepsOthers.setCell _ _ _), blk_set _ HB2'.out, hyes, (Below.trans HB.out (Below.mono hE2 HB.out.size)).setCell (p := ⟨w.heap.size, 0, none⟩) (Nat.le_refl _) _⟩
    case done =>
      rintro D W hD ⟨h0, h1, hany, hsz, hB⟩ hK
      obtain ⟨c0, f0⟩ := cell_blk h1
      have hgood : Hid (shutF rs (txt p) dir = false) := Lib.hid (by
        rw [HPL.out, List.take_of_length_le (Nat.le_refl _)] at hany
        rw [hres.out, hany])
      have H1 := Lib.hid h1; clear h1
      have HB := Lib.hid hB; clear hB
      have HK := Lib.hid hK; clear hK
      clear h0 hany
      gi_wp2
      have hK' := (KeepsOthers.setCell W ⟨w.heap.size, 0, none⟩ (.bool false)).same D _ HK.out rfl
      refine ⟨by simp, .inl ⟨_, _, rfl, run_takeDeferred hK', ?_⟩⟩
      have hc5 := cell_kept ((cell_blk (blk_set (i := 0) (.bool false) H1.out)).1) (grownBy_putObj' _ D (.deferred none)) (fun r e => by cases e; exact ⟨_, hK', rfl⟩)
      refine ⟨.bool false, ?_, by rw [hgood.out], (HB.out.setCell (p := ⟨w.heap.size, 0, none⟩) (Nat.le_refl _) _).trans (belowK_b (w := w) (Nat.le_refl _) _ D _ _ (by omega) hK' rfl rfl)⟩
      simp [results, Tryz.f67, go_sem, hc5]
    case stop =>
      rintro D k W hD hk ⟨h0, h1, hB⟩ hK
      have HB := Lib.hid hB; clear hB
      have HK := Lib.hid hK; clear hK
      have H1 := Lib.hid h1; clear h1
      obtain ⟨c0, f0⟩ := cell_blk h0
      clear h0
      gi_wp2
      refine ⟨by simp, .inl ⟨_, _, rfl, run_takeDeferred HK.out, ?_⟩⟩
      have hc5 := cell_kept c0 (grownBy_putObj' _ D (.deferred none)) (fun r e => by cases e; exact ⟨_, HK.out, rfl⟩)
      refine ⟨.bool true, ?_, by rw [H1.out], HB.out.trans (belowK_b (w := w) (Nat.le_refl _) W D _ _ (by omega) HK.out rfl rfl)⟩
      simp [results, Tryz.f67, go_sem, hc5]
end Go.Proofs.YtiopahkigbdmcaaGreat
/- The document's rules (layer 3): what rules keep, and what they shut out: the walks. -/
namespace Go.Proofs.YtiopahkigbdmcaaGreat
open Go Go.Proofs Go.RowKit

theorem pre_iff (l x : List Int) : x ∈ preFrom l 0 ↔ ∃ j, l[j]? = some 47 ∧ x = l.take j := by
  unfold preFrom
  simp only [List.mem_map, List.mem_filter, List.mem_range'_1, Nat.sub_zero, Nat.zero_add, beq_iff_eq]
  constructor
  · rintro ⟨j, ⟨_, h⟩, rfl⟩; exact ⟨j, h, rfl⟩
  · rintro ⟨j, h, rfl⟩
    refine ⟨j, ⟨⟨Nat.zero_le _, ?_⟩, h⟩, rfl⟩
    by_cases hj : j < l.length
    · exact hj
    · rw [List.getElem?_eq_none (by omega)] at h; cases h
theorem take_ne {α : Type} {L : List α} {i : Nat} (h1 : 1 ≤ i) (h2 : i < L.length) : L.take i ≠ [] := by
  intro h
  have := congrArg List.length h
  rw [List.length_take, List.length_nil] at this
  omega
theorem take_app (a r : List Int) (d : Nat) : (a ++ 47 :: r).take (a.length + 1 + d) = a ++ 47 :: r.take d := by
  rw [Nat.add_assoc, List.take_length_add_append, Nat.add_comm 1 d, List.take_succ_cons]
theorem pre_names (n : Nat) : ∀ l : List Int, l.length ≤ n → ∀ x, x ∈ preFrom l 0 ↔ ∃ j, 1 ≤ j ∧ j < (splitF l).length ∧ x = glueF ((splitF l).take j) := by
  induction n with
  | zero =>
    intro l hl x
    have : l = [] := List.eq_nil_of_length_eq_zero (by omega)
    subst this
    rw [pre_iff]
    constructor
    · rintro ⟨j, h, _⟩; simp at h
    · rintro ⟨j, h1, h2, _⟩
      rw [splitF_none [] (by simp)] at h2
      simp at h2; omega
  | succ n ih =>
    intro l hl x
    rw [pre_iff]
    rcases first_slash l with h | ⟨a, r, rfl, ha⟩
    · rw [splitF_none l h]
      constructor
      · rintro ⟨j, hj, _⟩; exact absurd (List.mem_of_getElem? hj) h
      · rintro ⟨j, h1, h2, _⟩; simp at h2; omega
    · rw [splitF_at a r ha]
      have hr : r.length ≤ n := by rw [List.length_append, List.length_cons] at hl; omega
      have ih := ih r hr
      constructor
      · rintro ⟨j, hj, rfl⟩
        rcases Nat.lt_trichotomy j a.length with h | h | h
        · rw [List.getElem?_append_left h] at hj
          exact absurd (List.mem_of_getElem? hj) ha
        · subst h
          refine ⟨1, Nat.le_refl _, by have := List.length_pos_iff.2 (splitF_ne r); simpa using this, ?_⟩
          simp [glueF]
        · obtain ⟨d, rfl⟩ : ∃ d, j = a.length + 1 + d := ⟨j - (a.length + 1), by omega⟩
          have hd : r[d]? = some 47 := by
            rw [List.getElem?_append_right (by omega), show a.length + 1 + d - a.length = d + 1 by omega, List.getElem?_cons_succ] at hj
            exact hj
          obtain ⟨i, h1, h2, h3⟩ := (ih (r.take d)).1 ((pre_iff r _).2 ⟨d, hd, rfl⟩)
          refine ⟨i + 1, by omega, by simpa using h2, ?_⟩
          rw [List.take_succ_cons, glueF_cons _ _ (take_ne h1 h2), ← h3, take_app]
      · rintro ⟨j, h1, h2, rfl⟩
        obtain ⟨i, rfl⟩ : ∃ i, j = i + 1 := ⟨j - 1, by omega⟩
        by_cases hi : i = 0
        · subst hi
          exact ⟨a.length, by simp, by simp [glueF]⟩
        · have h2' : i < (splitF r).length := by simpa using h2
          obtain ⟨d, hd, hx⟩ := (pre_iff r _).1 ((ih (glueF ((splitF r).take i))).2 ⟨i, by omega, h2', rfl⟩)
          refine ⟨a.length + 1 + d, ?_, ?_⟩
          · rw [List.getElem?_append_right (by omega), show a.length + 1 + d - a.length = d + 1 by omega, List.getElem?_cons_succ]; exact hd
          · rw [List.take_succ_cons, glueF_cons _ _ (take_ne (by omega) h2'), hx, take_app]
/-- Rules whose patterns are not long. -/
def Short (rs : List (Bool × ByteArray)) : Prop := rs.length ≤ 1000 ∧ ∀ r ∈ rs, r.2.size ≤ 1000

set_option maxHeartbeats 2000000 in
set_option maxRecDepth 100000 in
theorem keepsD_any (a : Option Addr) (rs : List (Bool × ByteArray)) (c : Nat) (p : ByteArray) (dir : Bool) (w : World) (hp : p.size ≤ 1000) (hS : Short rs) (hR : RulesAt w a rs) : Calls Tryz.prog 75 #[.slice a rs.length c, .string p, .bool dir] w (RetV w (.bool (keepsF rs (txt p) dir))) := by
  have HR := Lib.hid hR; clear hR
  have hr := hS.1
  have HS := Lib.hid hS.2; clear hS
  obtain ⟨n, hn⟩ : ∃ n, rs.length = n := ⟨_, rfl⟩
  rw [hn] at hr ⊢
  have HN := Lib.hid hn; clear hn
  go_enter Tryz.func75, Tryz.ntmps75
  go_wp2
  go_loopw [7] (fun i w' => ∃ k : Nat, k ≤ n ∧ i = .int .i64 k ∧ keepsF rs (txt p) dir = keepsF (rs.drop k) (txt p) dir ∧ Ext w w') (fun i _ => n - (intOf i).toNat)
  case atStart => exact ⟨0, Nat.zero_le _, rfl, rfl, Ext.refl w⟩
  case round =>
    obtain ⟨k, hk, rfl, hkf, hE⟩ := hrel
    have HKF := Lib.hid hkf; clear hkf
    by_cases hlt : k < n
    · have hkl : k < rs.length := by rw [HN.out]; exact hlt
      obtain ⟨b, off, rfl, hb, c0, c1⟩ := (HR.out.ext hE).cells hkl
      obtain ⟨kp, hkp⟩ : ∃ kp, rs[k].1 = kp := ⟨_, rfl⟩
      obtain ⟨pt, hpt⟩ : ∃ pt, rs[k].2 = pt := ⟨_, rfl⟩
      have hps : pt.size ≤ 1000 := by rw [← hpt]; exact HS.out _ (List.getElem_mem _)
      obtain ⟨m, hm⟩ : ∃ m, matchF (txt pt) (txt p) dir = m := ⟨_, rfl⟩
      have hstep : Hid (keepsF (rs.drop k) (txt p) dir = if m then kp else keepsF (rs.drop (k + 1)) (txt p) dir) := Lib.hid (by rw [List.drop_eq_getElem_cons hkl, keepsF, hpt, hm, hkp])
      rw [hkp] at c0
      rw [hpt] at c1
      have HM := Lib.hid (fun w => by have h := matchesD_any kp pt p dir w hps hp; rw [hm] at h; exact h)
      have HC0 := Lib.hid (fun w2 (h : Ext wr w2) => (h.cell hb).trans c0)
      have HE := Lib.hid hE; clear hE
      clear hkp hpt hm
      cases m
      · go_wp2_with (go_at_call 97; refine (HM.out _).mono ?_; rintro e w2 ⟨rfl, hE2⟩; have hE2 : Ext _ w2 := hE2)
        go_roundw
        case rel => exact ⟨k + 1, by omega, by go_num, by rw [HKF.out, hstep.out]; rfl, HE.out.trans hE2⟩
        case measure => simp [intOf]; omega
      · go_wp2_with (go_at_call 97; refine (HM.out _).mono ?_; rintro e w2 ⟨rfl, hE2⟩; have hE2 : Ext _ w2 := hE2; have hc0 := HC0.out _ hE2)
        go_ret
        exact ⟨ret_bool (by rw [HKF.out, hstep.out]; rfl), HE.out.trans hE2⟩
    · obtain rfl : k = n := by omega
      have HE := Lib.hid hE; clear hE
      go_wp2
      go_ret
      exact ⟨ret_bool (by rw [HKF.out, List.drop_eq_nil_of_le (by rw [HN.out]; exact Nat.le_refl _)]; rfl), HE.out⟩
end Go.Proofs.YtiopahkigbdmcaaGreat
/- The document's rules (layer 3): what they shut out: the walk. -/
namespace Go.Proofs.YtiopahkigbdmcaaGreat
open Go Go.Proofs Go.RowKit

theorem keeps_nil (rs : List (Bool × ByteArray)) (dir : Bool) : keepsF rs [] dir = true := by
  induction rs with
  | nil => rfl
  | cons r rs ih =>
    have h : matchF (txt r.2) [] dir = false := by
      unfold matchF
      cases patF (txt r.2) with
      | none => rfl
      | some x => obtain ⟨gs, wh, di⟩ := x; simp
    rw [keepsF, h]; exact ih
theorem ups_cases (l : List Int) : (namesF l = [] ∧ upsF l = []) ∨ (namesF l = splitF l ∧ upsF l = [] :: preFrom l 0) := by
  rcases names_case l with ⟨h, h1 | h1⟩ | ⟨h, h0, hr⟩
  · left; exact ⟨h, by simp [upsF, h1]⟩
  · left; refine ⟨h, ?_⟩; unfold upsF; simp [h1]
  · right; exact ⟨h, by unfold upsF; rw [if_neg h0, if_neg (by simp [hr])]⟩
theorem shut_yes {rs : List (Bool × ByteArray)} {l : List Int} {dir : Bool} {k : Nat} (h1 : 1 ≤ k) (h2 : k < (namesF l).length) (h : keepsF rs (glueF ((namesF l).take k)) true = false) : shutF rs l dir = true := by
  unfold shutF
  rw [Bool.or_eq_true]
  right
  rcases ups_cases l with ⟨hn, _⟩ | ⟨hn, hu⟩
  · rw [hn] at h2; simp at h2
  · rw [hn] at h2 h
    rw [hu, List.any_cons, Bool.or_eq_true]
    right
    rw [List.any_eq_true]
    exact ⟨_, (pre_names _ l (Nat.le_refl _) _).2 ⟨k, h1, h2, rfl⟩, by rw [h]; rfl⟩
theorem shut_no {rs : List (Bool × ByteArray)} {l : List Int} {dir : Bool} (h : ∀ j, 1 ≤ j → j < (namesF l).length → keepsF rs (glueF ((namesF l).take j)) true = true) : shutF rs l dir = !keepsF rs l dir := by
  unfold shutF
  have : (upsF l).any (fun u => !keepsF rs u true) = false := by
    rcases ups_cases l with ⟨_, hu⟩ | ⟨hn, hu⟩
    · rw [hu]; rfl
    · rw [hn] at h
      rw [hu, List.any_cons, keeps_nil, ← Bool.not_eq_true, Bool.not_true, Bool.false_or, List.any_eq_true]
      rintro ⟨x, hx, hk⟩
      obtain ⟨j, h1, h2, rfl⟩ := (pre_names _ l (Nat.le_refl _) _).1 hx
      rw [h j h1 h2] at hk
      cases hk
  rw [this, Bool.or_false]
theorem glue_take_len (l : List Int) (k : Nat) (h1 : 1 ≤ k) (h2 : k < (namesF l).length) : (glueF ((namesF l).take k)).length ≤ l.length := by
  rcases ups_cases l with ⟨hn, _⟩ | ⟨hn, hu⟩
  · rw [hn] at h2; simp at h2
  · rw [hn] at h2 ⊢
    exact (pre_len l 0 _ ((pre_names _ l (Nat.le_refl _) _).2 ⟨k, h1, h2, rfl⟩)).1
theorem StrsAt.take {w : World} {a : Option Addr} {L : List ByteArray} (k : Nat) (h : StrsAt w a L) : StrsAt w a (L.take k) := by
  rcases h with h | ⟨b, off, cs, ha, hb, hall⟩
  · subst h; left; simp
  · right
    refine ⟨b, off, cs, ha, hb, fun i h => ?_⟩
    rw [List.length_take] at h
    rw [hall i (by omega), List.getElem_take]
theorem names_len {p : ByteArray} {L : List ByteArray} (h : L.map txt = namesF (txt p)) : L.length ≤ p.size + 1 ∧ ∀ x ∈ L, x.size ≤ p.size := by
  rcases names_case (txt p) with ⟨hn, _⟩ | ⟨hn, _⟩
  · rw [hn, List.map_eq_nil_iff] at h; subst h; simp
  · rw [hn] at h
    refine ⟨?_, strs_small h⟩
    have h1 := congrArg List.length h
    rw [List.length_map] at h1
    have := split_len (txt p)
    rw [txt_len] at this
    omega

set_option maxHeartbeats 2000000 in
set_option maxRecDepth 100000 in
theorem shutD_any (a : Option Addr) (rs : List (Bool × ByteArray)) (c : Nat) (p : ByteArray) (dir : Bool) (w : World) (hp : p.size ≤ 1000) (hS : Short rs) (hR : RulesAt w a rs) : Calls Tryz.prog 57 #[.slice a rs.length c, .string p, .bool dir] w (RetV w (.bool (shutF rs (txt p) dir))) := by
  have HR := Lib.hid hR; clear hR
  have HK := Lib.hid (fun q d w' (hq : q.size ≤ 1000) (h : Ext w w') => keepsD_any a rs c q d w' hq hS (HR.out.ext h))
  have HNm := Lib.hid (fun w => namesD_any p w hp)
  obtain ⟨r, hr⟩ : ∃ r, rs.length = r := ⟨_, rfl⟩
  rw [hr] at HK ⊢
  clear hS hr
  go_enter Tryz.func57, Tryz.ntmps57
  go_wp2_with fail
  refine (HNm.out _).mono ?_
  rintro e w2 ⟨an, cp, L, rfl, hE2, hL, hLt, hcp⟩
  have HL := Lib.hid hL; clear hL
  obtain ⟨hl1, hl2⟩ := names_len hLt
  have HL2 := Lib.hid hl2; clear hl2
  have HLT := Lib.hid hLt; clear hLt
  have HE2 := Lib.hid hE2; clear hE2
  obtain ⟨n, hn⟩ : ∃ n, L.length = n := ⟨_, rfl⟩
  rw [hn] at hcp hl1 ⊢
  have HN := Lib.hid hn; clear hn
  go_wp2
  go_loopw [8] (fun i w' => ∃ k : Nat, 1 ≤ k ∧ k ≤ n + 1 ∧ i = .int .i64 k ∧ (∀ j, 1 ≤ j → j < k → j < n → keepsF rs (glueF ((namesF (txt p)).take j)) true = true) ∧ Ext w2 w') (fun i _ => n - (intOf i).toNat)
  case atStart => exact ⟨1, Nat.le_refl _, by omega, rfl, fun j _ _ => by omega, Ext.refl _⟩
  case round =>
    obtain ⟨k, hk1, hkn, rfl, hall, hE⟩ := hrel
    have HA := Lib.hid hall; clear hall
    by_cases hlt : k < n
    · have hkl : k < L.length := by rw [HN.out]; exact hlt
      obtain ⟨b, off, rfl, hb, -⟩ := HL.out.cell hkl
      have hG := glueD_any _ (L.take k) cp wr (by rw [List.length_take, HN.out]; omega) (fun x hx => Nat.le_trans (HL2.out x (List.mem_of_mem_take hx)) (by omega)) ((HL.out.take k).ext hE)
      rw [List.length_take, HN.out, Nat.min_eq_left (by omega)] at hG
      have HG := Lib.hid hG; clear hG
      have HE := Lib.hid hE; clear hE
      go_wp2_with fail
      refine (HG.out).mono ?_
      rintro e w5 ⟨s, rfl, hst, rfl⟩
      rw [List.map_take, HLT.out] at hst
      have hkN : k < (namesF (txt p)).length := by rw [← HLT.out, List.length_map]; exact hkl
      have hss : s.size ≤ 1000 := by
        have h := glue_take_len (txt p) k hk1 hkN
        rw [← hst, txt_len, txt_len] at h
        omega
      obtain ⟨m, hm⟩ : ∃ m, keepsF rs (txt s) true = m := ⟨_, rfl⟩
      have hM := HK.out s true wr hss (HE2.out.trans HE.out)
      rw [hm] at hM
      have HM := Lib.hid hM; clear hM
      rw [hst] at hm
      have HMM := Lib.hid hm; clear hm hst
      go_wp2_with fail
      refine (HM.out).mono ?_
      rintro e w6 ⟨rfl, hE6⟩
      have HE6 := Lib.hid (HE.out.trans hE6); clear hE6
      cases m
      · have hv := Lib.hid (shut_yes (dir := dir) hk1 hkN HMM.out)
        go_wp2
        go_ret
        exact ⟨ret_bool hv.out.symm, HE2.out.trans HE6.out⟩
      · go_wp2
        go_roundw
        case rel =>
          refine ⟨k + 1, by omega, by omega, by go_num, fun j h1 h2 h3 => ?_, HE6.out⟩
          by_cases hj : j < k
          · exact HA.out j h1 hj h3
          · obtain rfl : j = k := by omega
            exact HMM.out
        case measure => simp [intOf]; omega
    · have HE := Lib.hid hE; clear hE
      have hv : Hid (shutF rs (txt p) dir = !keepsF rs (txt p) dir) := Lib.hid (shut_no (fun j h1 h2 => HA.out j h1 (by
        rw [← HLT.out, List.length_map, HN.out] at h2; omega) (by rw [← HLT.out, List.length_map, HN.out] at h2; exact h2)))
      obtain ⟨m, hm⟩ : ∃ m, keepsF rs (txt p) dir = m := ⟨_, rfl⟩
      have hM := HK.out p dir wr hp (HE2.out.trans HE.out)
      rw [hm] at hM
      have HM := Lib.hid hM; clear hM
      have hv : Hid (shutF rs (txt p) dir = !m) := Lib.hid (by rw [hv.out, hm])
      clear hm
      go_wp2_with fail
      refine (HM.out).mono ?_
      rintro e w6 ⟨rfl, hE6⟩
      have HE6 := Lib.hid (HE.out.trans hE6); clear hE6
      go_wp2
      go_ret
      exact ⟨ret_bool hv.out.symm, HE2.out.trans HE6.out⟩
end Go.Proofs.YtiopahkigbdmcaaGreat
/- Whether a path is within another one (layer 1), both sides: the walks. -/
namespace Go.Proofs.YtiopahkigbdmcaaGreat
open Go Go.Proofs Go.RowKit

def withinF (p q : List Int) : Bool := rightF p && rightF q && (cutF q).isPrefixOf (cutF p)

theorem list_ne {a b : ByteArray} (h : a ≠ b) : (a.toList == b.toList) = false := by
  rw [beq_eq_false_iff_ne, ByteArray.toList_eq, ByteArray.toList_eq]
  exact fun e => h (ByteArray.ext (Array.toList_inj.1 e))
theorem txt_ne {a b : ByteArray} (h : a ≠ b) : txt a ≠ txt b := fun e => h (txt_inj e)
theorem cut_size {L : List ByteArray} {p : ByteArray} (h : L.map txt = cutF (txt p)) (hp : p.size ≤ 1000) : L.length ≤ 2000 := by
  have h1 := congrArg List.length h
  rw [List.length_map] at h1
  have h2 := split_len (txt p)
  rw [txt_len] at h2
  have h3 : (cutF (txt p)).length ≤ (splitF (txt p)).length := by unfold cutF; split <;> simp
  omega
set_option maxHeartbeats 2000000 in
set_option maxRecDepth 100000 in
theorem withinD_any (p q : ByteArray) (w : World) (hp : p.size ≤ 1000) (hq : q.size ≤ 1000) : Calls Tryz.prog 38 #[.string p, .string q] w (RetV w (.bool (withinF (txt p) (txt q)))) := by
  have HCP := Lib.hid (fun w => cutD_any p w hp)
  have HCQ := Lib.hid (fun w => cutD_any q w hq)
  obtain ⟨rp, hrp⟩ : ∃ rp, rightF (txt p) = rp := ⟨_, rfl⟩
  obtain ⟨rq, hrq⟩ : ∃ rq, rightF (txt q) = rq := ⟨_, rfl⟩
  have HRP := Lib.hid (fun w => by have h := rightD_any p w hp; rw [hrp] at h; exact h)
  have HRQ := Lib.hid (fun w => by have h := rightD_any q w hq; rw [hrq] at h; exact h)
  have HF : Hid (withinF (txt p) (txt q) = (rp && rq && (cutF (txt q)).isPrefixOf (cutF (txt p)))) := Lib.hid (by unfold withinF; rw [hrp, hrq])
  clear hrp hrq
  go_enter Tryz.func38, Tryz.ntmps38
  go_wp2_with fail
  refine (HCP.out _).mono ?_
  rintro e w1 ⟨a1, c1, L1, rfl, hE1, hL1, hT1, -⟩
  have HL1 := Lib.hid hL1; clear hL1
  have hl1 := cut_size hT1 hp
  have HT1 := Lib.hid hT1; clear hT1
  go_wp2_with fail
  refine (HCQ.out _).mono ?_
  rintro e w2 ⟨a2, c2, L2, rfl, hE2, hL2, hT2, -⟩
  have HL2 := Lib.hid hL2; clear hL2
  have hl2 := cut_size hT2 hq
  have HT2 := Lib.hid hT2; clear hT2
  have HL1 := Lib.hid (HL1.out.ext hE2)
  have HE2 := Lib.hid (hE1.trans hE2); clear hE1 hE2
  obtain ⟨n1, hn1⟩ : ∃ n1, L1.length = n1 := ⟨_, rfl⟩
  obtain ⟨n2, hn2⟩ : ∃ n2, L2.length = n2 := ⟨_, rfl⟩
  rw [hn1] at hl1
  rw [hn2] at hl2
  rw [hn1, hn2]
  have HN := Lib.hid (And.intro hn1 hn2); clear hn1 hn2
  go_wp2_with fail
  refine (HRP.out _).mono ?_
  rintro e w3 ⟨rfl, hE3⟩
  have HL1 := Lib.hid (HL1.out.ext hE3)
  have HL2 := Lib.hid (HL2.out.ext hE3)
  have HE2 := Lib.hid (HE2.out.trans hE3); clear hE3
  cases rp
  · have hv : Hid (withinF (txt p) (txt q) = false) := Lib.hid (by rw [HF.out]; rfl)
    go_wp2
    go_ret
    exact ⟨ret_bool hv.out.symm, HE2.out⟩
  · go_wp2_with fail
    refine (HRQ.out _).mono ?_
    rintro e w4 ⟨rfl, hE4⟩
    have HL1 := Lib.hid (HL1.out.ext hE4)
    have HL2 := Lib.hid (HL2.out.ext hE4)
    have HE2 := Lib.hid (HE2.out.trans hE4); clear hE4
    cases rq
    · have hv : Hid (withinF (txt p) (txt q) = false) := Lib.hid (by rw [HF.out]; rfl)
      go_wp2
      go_ret
      exact ⟨ret_bool hv.out.symm, HE2.out⟩
    · have HF : Hid (withinF (txt p) (txt q) = (cutF (txt q)).isPrefixOf (cutF (txt p))) := Lib.hid (by rw [HF.out]; rfl)
      by_cases hl : n1 < n2
      · have hv : Hid (withinF (txt p) (txt q) = false) := Lib.hid (by
          rw [HF.out, ← Bool.not_eq_true, List.isPrefixOf_iff_prefix]
          intro h
          have h := h.length_le
          rw [← HT1.out, ← HT2.out, List.length_map, List.length_map, HN.out.1, HN.out.2] at h
          omega)
        go_wp2
        go_ret
        exact ⟨ret_bool hv.out.symm, HE2.out⟩
      · go_wp2
        go_loopw [7] (fun i w' => ∃ k : Nat, k ≤ n2 ∧ i = .int .i64 k ∧ (cutF (txt q)).take k = (cutF (txt p)).take k ∧ Ext w4 w') (fun i _ => n2 - (intOf i).toNat)
        case atStart => exact ⟨0, Nat.zero_le _, rfl, rfl, Ext.refl _⟩
        case round =>
          obtain ⟨k, hk, rfl, htk, hE⟩ := hrel
          have HTK := Lib.hid htk; clear htk
          by_cases hlt : k < n2
          · have hk1 : k < L1.length := by rw [HN.out.1]; omega
            have hk2 : k < L2.length := by rw [HN.out.2]; exact hlt
            obtain ⟨b1, o1, rfl, hb1, d1⟩ := (HL1.out.ext hE).cell hk1
            obtain ⟨b2, o2, rfl, hb2, d2⟩ := (HL2.out.ext hE).cell hk2
            have HE := Lib.hid hE; clear hE
            obtain ⟨x1, hx1⟩ : ∃ x, L1[k] = x := ⟨_, rfl⟩
            obtain ⟨x2, hx2⟩ : ∃ x, L2[k] = x := ⟨_, rfl⟩
            rw [hx1] at d1
            rw [hx2] at d2
            have g1 : (cutF (txt p))[k]? = some (txt x1) := by rw [← HT1.out, List.getElem?_map, List.getElem?_eq_getElem hk1, hx1]; rfl
            have g2 : (cutF (txt q))[k]? = some (txt x2) := by rw [← HT2.out, List.getElem?_map, List.getElem?_eq_getElem hk2, hx2]; rfl
            have HG := Lib.hid (And.intro g1 g2); clear g1 g2 hx1 hx2
            have hlt1 : k < n1 := by omega
            by_cases hx : x1 = x2
            · subst hx
              go_wp2
              refine wp_draw_all (by kernel_rfl) (by kernel_rfl) ?_
              repeat ((with_reducible refine wpStill_step (fun K hK => ?_)); go_simp; refine hK _ ?_; clear hK K)
              refine wpStill_nil ?_
              go_wp2
              go_roundw
              case rel => exact ⟨k + 1, by omega, by go_num, by rw [List.take_add_one, List.take_add_one, HTK.out, HG.out.1, HG.out.2], HE.out.drew⟩
              case measure => simp [intOf]; omega
            · have hbb : (x1.toList == x2.toList) = false := list_ne hx
              go_wp2
              refine wp_draw_all (by kernel_rfl) (by kernel_rfl) ?_
              repeat ((with_reducible refine wpStill_step (fun K hK => ?_)); go_simp; refine hK _ ?_; clear hK K)
              refine wpStill_nil ?_
              have hv : Hid (withinF (txt p) (txt q) = false) := Lib.hid (by
                rw [HF.out, ← Bool.not_eq_true, List.isPrefixOf_iff_prefix]
                rintro ⟨r, hr⟩
                have h1 := HG.out.1
                rw [← hr, List.getElem?_append_left (by rw [← HT2.out, List.length_map]; exact hk2), HG.out.2] at h1
                exact txt_ne hx (Option.some.inj h1).symm)
              go_wp2
              go_ret
              exact ⟨ret_bool hv.out.symm, HE2.out.trans HE.out.drew⟩
          · obtain rfl : k = n2 := by omega
            have hv : Hid (withinF (txt p) (txt q) = true) := Lib.hid (by
              rw [HF.out, List.isPrefixOf_iff_prefix, List.prefix_iff_eq_take]
              have : (cutF (txt q)).length = k := by rw [← HT2.out, List.length_map, HN.out.2]
              rw [this, ← HTK.out, List.take_of_length_le (by omega)])
            have HE := Lib.hid hE; clear hE
            go_wp2
            go_ret
            exact ⟨ret_bool hv.out.symm, HE2.out.trans HE.out⟩
end Go.Proofs.YtiopahkigbdmcaaGreat
