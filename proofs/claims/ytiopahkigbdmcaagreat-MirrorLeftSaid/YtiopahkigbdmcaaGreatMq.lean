/- What is left of a node (layer 14): the walk. -/
import Derived.Test.YtiopahkigbdmcaaGreatMp
import Derived.Test.YtiopahkigbdmcaaGreatMh
import Derived.Test.YtiopahkigbdmcaaGreatMj
import Derived.Test.YtiopahkigbdmcaaGreatMi
import Derived.Test.YtiopahkigbdmcaaGreatMn
import Derived.Laws.StructEq
namespace Go.Proofs.YtiopahkigbdmcaaGreat
open Go Go.Proofs Go.RowKit

def leftP (rs : Rules) (del : Bool) (d : List NodeV) (p : ByteArray) : List NodeV := match findF d p with
  | some x => leftF rs del d (nm x)
  | none => []
theorem find_mem {L : List NodeV} {p : ByteArray} {x : NodeV} (h : findF L p = some x) : x ∈ L ∧ x.path = p := by
  unfold findF at h
  exact ⟨List.mem_of_find?_eq_some h, by simpa using List.find?_some h⟩
/-- What a look for a path tells, in one. -/
theorem find_one {L : List NodeV} {p : ByteArray} {w : World} {e : Ending} {w' : World} (h : FindTold L p w e w') : ∃ (x : NodeV) (ok : Bool), e = .returned (.tuple #[x.val, .bool ok]) ∧ (ok = true → findF L p = some x) ∧ (ok = false → findF L p = none) ∧ Ext w w' := by
  obtain ⟨hE, ⟨x, hx, rfl⟩ | ⟨hx, rfl⟩⟩ := h
  · exact ⟨x, true, rfl, (fun _ => hx), (fun h => by cases h), hE⟩
  · exact ⟨zeroN, false, rfl, (fun h => by cases h), (fun _ => hx), hE⟩
set_option maxRecDepth 100000 in
set_option maxHeartbeats 4000000 in
set_option maxRecDepth 100000 in
theorem leftMW (da ra : Option Addr) (D : List NodeV) (rs : Rules) (dc rc : Nat) (del : Bool) (p : ByteArray) (w : World) (hD : SmallL D) (hSh : Short rs) (hTd : TreeL D) (hAd : NodesAt w da D) (hR : RulesAt w ra rs) (_hp : p.size ≤ 1000) :
    Calls Tryz.prog 22 #[.slice da D.length dc, .slice ra rs.length rc, .bool del, .string p] w (NodesTold (leftP rs del (shownF D) p) w) := by
  have hS0 : SmallL [] := ⟨by decide, fun x hx => by simp at hx⟩
  have hSd : Sides' rs [] (shownF D) := sides_of hS0 hD hSh TreeL.nil hTd
  have HSd := Lib.hid hSd
  have HO := Lib.hid (show Calls Tryz.prog 36 #[.slice none 0 0, .slice da D.length dc, .slice ra rs.length rc, .bool del] w (OpenJ [] (shownF D) rs del w) from openMW none da ra [] D rs 0 dc rc del w hS0 hD hSh TreeL.nil (tree_shown hTd) ListAt.nil hAd hR)
  have HLf := Lib.hid (fun jb u w' hu (h : JobAt w' jb [] (shownF D) rs del) => leftW jb [] (shownF D) rs del hSd 17 u w' hu (by omega) h)
  clear hD hSh hTd hAd hR hSd hS0
  obtain ⟨m, hm⟩ : ∃ m, D.length = m := ⟨_, rfl⟩
  obtain ⟨r, hr⟩ : ∃ r, rs.length = r := ⟨_, rfl⟩
  rw [hm, hr] at HO
  rw [hm, hr]
  clear hm hr
  obtain ⟨d, hd⟩ : ∃ d, shownF D = d := ⟨_, rfl⟩
  rw [hd] at HO HLf HSd
  rw [hd]
  clear hd
  have hdl := HSd.out.dsm.1
  go_enter Tryz.func22, Tryz.ntmps22
  go_upto_region 2 with (go_at_call 36; refine (HO.out).mono ?_; rintro e w1 ⟨jb, rfl, hJ, hE1⟩; have H1 := Lib.hid (And.intro hJ hE1); clear hJ hE1)
  obtain ⟨bs, bd, ta, tc, ra', rc', hjb, hBs, hBd, hTa, hRa⟩ := H1.out.1.mem
  have HFi := Lib.hid (findP_any ta d tc p w1 (by omega) hTa)
  have HLf1 := Lib.hid (fun x (hx : findF d p = some x) w' (h : Ext w1 w') => HLf.out jb x w' (find_mem hx).1 (H1.out.1.ext h))
  have HLP : Hid (leftP rs del d p = match findF d p with
    | some x => leftF rs del d (nm x)
    | none => []) := Lib.hid rfl
  have j2 := blk_cell hjb (i := 2) rfl
  clear hBs hBd hTa hRa hjb
  obtain ⟨n, hn⟩ : ∃ n, d.length = n := ⟨_, rfl⟩
  rw [hn] at HFi j2
  clear hn
  have HFi := Lib.hid (HFi.out.mono fun e w' h => find_one h)
  unfold NodeV.val at HFi
  go_upto_region 3 with (go_at_call 19; refine (HFi.out).mono ?_; rintro e w2 ⟨x, ok, rfl, hx1, hx2, hE2⟩; have HX := Lib.hid (And.intro hx1 hx2); have HE2 := Lib.hid hE2; clear hE2 hx1 hx2)
  cases ok
  · have HX := Lib.hid (HX.out.2 rfl)
    have HQ := Lib.hid (show leftP rs del d p = [] by rw [HLP.out, HX.out])
    go_wp2
    go_ret
    show NodesTold _ w _ _
    rw [HQ.out]
    exact ⟨none, 0, rfl, Ext.trans H1.out.2 (HE2.out.alloc _), ListAt.nil, Nat.le_refl _⟩
  · have HX := Lib.hid (HX.out.1 rfl)
    have HLf2 := Lib.hid (HLf1.out x HX.out _ (HE2.out.alloc (nodeObj x)))
    unfold NodeV.val at HLf2
    unfold nodeObj at HLf2
    have HQ := Lib.hid (show leftP rs del d p = leftF rs del d (nm x) by rw [HLP.out, HX.out])
    go_wp2_with (first | (go_at_call 40; refine (HLf2.out).mono ?_; rintro e w3 ⟨a3, c3, rfl, hE3, hA3, hc3⟩))
    go_ret
    show NodesTold _ w _ _
    rw [HQ.out]
    exact ⟨a3, c3, rfl, Ext.trans H1.out.2 (Ext.trans (HE2.out.alloc _) hE3), hA3, hc3⟩
end Go.Proofs.YtiopahkigbdmcaaGreat
/- The sender's nodes that are not in the mirror (layer 14): the walk. -/
namespace Go.Proofs.YtiopahkigbdmcaaGreat
open Go Go.Proofs Go.RowKit

theorem int_under : Tryz.prog.underlying 90 = some (.map 9 3) := by kernel_rfl
theorem zero_int (w : World) : (zeroValue 3).run Tryz.prog w = .ok (.int .i64 0) w := by kernel_rfl
theorem ListAt.off_map {α : Type} {f : α → List Value} {T : TypeId} {n mb : Nat} {w w' : World} {a : Option Addr} {L : List α} {G : ByteArray → Option Value} (h : ListAt f T n w a L) (hG : MapIs w mb G) (hO : Off mb w w') : ListAt f T n w' a L := by
  rcases h with h | ⟨b, off, cs, fz, ha, hb, hall⟩
  · exact Or.inl h
  · refine Or.inr ⟨b, off, cs, fz, ha, hO.block hb (fun e => ?_), hall⟩
    obtain ⟨es, clock, hm, _⟩ := hG
    rw [e, hm] at hb
    cases hb
def oursAt (R : List (NodeV × Bool)) (p : ByteArray) : Bool := R.any fun c => c.2 && decide (c.1.path = p)
def sentOneF (R : List (NodeV × Bool)) (p : ByteArray) : Option Value := if oursAt R p = true then some (.int .i64 1) else none
theorem one_snoc (R : List (NodeV × Bool)) (y : NodeV) : (fun s' => if s' = y.path then some (Value.int .i64 1) else sentOneF R s') = sentOneF (R ++ [(y, true)]) := by
  funext p
  unfold sentOneF oursAt
  rw [List.any_append]
  have e : List.any [(y, true)] (fun c => c.2 && decide (c.1.path = p)) = decide (y.path = p) := by
    show (true && decide (y.path = p) || false) = _
    rw [Bool.or_false, Bool.true_and]
  rw [e]
  by_cases h : p = y.path
  · rw [if_pos h, h]; simp
  · rw [if_neg h, decide_eq_false (fun k => h k.symm), Bool.or_false]
theorem one_not (R : List (NodeV × Bool)) (y : NodeV) : sentOneF R = sentOneF (R ++ [(y, false)]) := by
  funext p
  unfold sentOneF oursAt
  rw [List.any_append]
  have e : List.any [(y, false)] (fun c => c.2 && decide (c.1.path = p)) = false := by
    show (false && decide (y.path = p) || false) = _
    rw [Bool.or_false, Bool.false_and]
  rw [e, Bool.or_false]
def blockF (R : List (NodeV × Bool)) (L : List NodeV) : List NodeV := L.filter fun x => !oursAt R x.path
def BlTold (rs : Rules) (del : Bool) (s d : List NodeV) (w : World) (e : Ending) (w' : World) : Prop := ∃ R, BelowIs rs del s d [] R ∧ NodesTold (blockF R s) w e w'
set_option maxRecDepth 100000 in
set_option maxHeartbeats 4000000 in
set_option maxRecDepth 100000 in
theorem blMW (sa da ra : Option Addr) (S D : List NodeV) (rs : Rules) (sc dc rc : Nat) (del : Bool) (w : World) (hS : SmallL S) (hD : SmallL D) (hSh : Short rs) (hTs : TreeL S) (hTd : TreeL D) (hAs : NodesAt w sa S) (hAd : NodesAt w da D) (hR : RulesAt w ra rs) :
    Calls Tryz.prog 35 #[.slice sa S.length sc, .slice da D.length dc, .slice ra rs.length rc, .bool del] w (BlTold rs del (pickF rs false S) (shownF D) w) := by
  have HSd := Lib.hid (sides_of hS hD hSh hTs hTd)
  have HO := Lib.hid (fun w' (h : Ext w w') => openMW sa da ra S D rs sc dc rc del w' hS hD hSh (tree_pick hTs) (tree_shown hTd) (hAs.ext h) (hAd.ext h) (hR.ext h))
  have HSe := Lib.hid (fun w' (h : Ext w w') => sentP_any sa ra S rs sc rc w' hS hSh (hAs.ext h) (hR.ext h))
  have HW := Lib.hid (fun jb w' (h : JobAt w' jb (pickF rs false S) (shownF D) rs del) => walkW jb _ _ rs del HSd.out 17 ⟨#[]⟩ true w' (by decide) (by rw [key_nil]; decide) (Or.inl key_nil) ⟨fun _ => Or.inl key_nil, fun _ => rfl⟩ h)
  rw [key_nil] at HW
  clear hS hD hSh hTs hTd hAs hAd hR
  obtain ⟨n, hn⟩ : ∃ n, S.length = n := ⟨_, rfl⟩
  obtain ⟨m, hm⟩ : ∃ m, D.length = m := ⟨_, rfl⟩
  obtain ⟨r, hr⟩ : ∃ r, rs.length = r := ⟨_, rfl⟩
  rw [hn, hr] at HSe
  rw [hn, hm, hr] at HO
  rw [hn, hm, hr]
  clear hn hm hr
  obtain ⟨s, hs⟩ : ∃ s, pickF rs false S = s := ⟨_, rfl⟩
  obtain ⟨d, hd⟩ : ∃ d, shownF D = d := ⟨_, rfl⟩
  rw [hs] at HSe
  rw [hs, hd] at HO HW HSd
  rw [hs, hd]
  clear hs hd
  have hmm := @run_makeMap Tryz.prog
  have hM0 := MapIs.new w
  have hE0 : Ext w (w.alloc (.map #[] 0)) := (Ext.refl w).alloc _
  have hmb : w.heap.size < (w.alloc (.map #[] 0)).heap.size := by rw [World.size_alloc]; exact Nat.lt_succ_self _
  have H0 := Lib.hid (And.intro hE0 (And.intro hM0 hmb)); clear hE0 hM0 hmb
  go_enter Tryz.func35, Tryz.ntmps35
  go_wp2_with (first | (go_at_call 36; refine (HO.out _ H0.out.1).mono ?_; rintro e w1 ⟨jb, rfl, hJ, hE1⟩; have H1 := Lib.hid (And.intro hJ hE1); clear hJ hE1) | (go_at_call 37; refine (HW.out jb _ H1.out.1).mono ?_; rintro e w2 ⟨R, hRl, hRb, a2, c2, rfl, hE2, hA2, hc2⟩; have H2 := Lib.hid (And.intro hE2 (And.intro hA2 (And.intro hRl hRb))); clear hE2 hA2 hc2 hRl hRb))
  clear hmm
  have hE2 : Ext (w.alloc (.map #[] 0)) w2 := Ext.trans H1.out.2 H2.out.1
  have H3 := Lib.hid (And.intro (H0.out.1.trans hE2) (H0.out.2.1.ext hE2)); clear hE2
  have hN := H2.out.2.2.1
  obtain ⟨N, hNn⟩ : ∃ N, R.length = N := ⟨_, rfl⟩
  rw [hNn] at hN ⊢
  have HN := Lib.hid hNn; clear hNn
  go_loopw [11, 23] (fun _ i wr => ∃ (k : Nat), k ≤ N ∧ i = .int .i64 k ∧ MapIs wr w.heap.size (sentOneF (R.take k)) ∧ Off w.heap.size w2 wr ∧ Ext w wr) (fun _ i _ => N - (intOf i).toNat)
  case atStart => exact ⟨0, Nat.zero_le _, rfl, H3.out.2, Off.refl _ _, H3.out.1⟩
  case round =>
    obtain ⟨k, hkN, rfl, hM, hO, hE⟩ := hrel
    have HR := Lib.hid (And.intro hM (And.intro hO hE)); clear hM hO hE
    by_cases hlt : k < N
    · have hkl : k < R.length := by rw [HN.out]; exact hlt
      obtain ⟨kb, ko, rfl, hkb, hkall⟩ := ListAt.block (H2.out.2.1.off_map H3.out.2 HR.out.2.1) hkl
      have c0 := hkall 0 _ rfl
      have c1 := hkall 1 _ rfl
      have c2' := hkall 2 _ rfl
      have c3 := hkall 3 _ rfl
      have c4 := hkall 4 _ rfl
      have c5 := hkall 5 _ rfl
      rw [Nat.add_zero] at c0
      clear hkall
      have HP := Lib.hid (List.take_succ_eq_append_getElem hkl)
      have hmem := inmo_mem ((H2.out.2.2.2.2 _).1 (List.getElem_mem hkl)).1
      obtain ⟨x, hx⟩ : ∃ x, R[k] = x := ⟨_, rfl⟩
      rw [hx] at HP c0 c1 c2' c3 c4 c5 hmem
      clear hx hkl
      obtain ⟨y, o⟩ := x
      have hys : y.path.size ≤ 100000 := by
        rcases List.mem_append.1 hmem with h | h
        · have := (HSd.out.ssm.2 y h).1; omega
        · have := (HSd.out.dsm.2 y h).1; omega
      clear hmem
      simp only at c0 c1 c2' c3 c4 c5
      have HM := Lib.hid (HR.out.1.ext ((Ext.refl wr).alloc (.cells #[.string y.path, .int .i64 y.kind, .int .i64 y.mode, .int .i64 y.time, .string y.data, .bool o] 65)))
      cases o
      · go_wp2
        go_roundw
        case rel => exact ⟨k + 1, by omega, by go_num, by rw [HP.out, ← one_not]; exact HM.out, HR.out.2.1.alloc _, HR.out.2.2.alloc _⟩
        case measure => simp [intOf]; omega
      · go_wp2_with (refine wpList_update_is rfl _ _ _ _ rfl _ int_under w.heap.size _ rfl HM.out y.path rfl hys _ rfl ?_; intro o' hM')
        go_roundw
        case rel => exact ⟨k + 1, by omega, by go_num, by rw [HP.out, ← one_snoc]; exact hM', (HR.out.2.1.alloc _).put _, (HR.out.2.2.alloc _).putNew (Nat.le_refl _) _⟩
        case measure => simp [intOf]; omega
    · obtain rfl : k = N := by omega
      have hM : MapIs wr w.heap.size (sentOneF R) := by have h := HR.out.1; rw [← HN.out, List.take_length] at h; exact h
      have HE := Lib.hid HR.out.2.2
      have HM := Lib.hid hM; clear hM
      clear HR
      obtain ⟨wa, hwa⟩ : ∃ wa, wa = wr := ⟨_, rfl⟩
      subst hwa
      go_wp2_with (go_at_call 31; refine (HSe.out _ HE.out).mono ?_; rintro e w5 ⟨a5, c5, rfl, hE5, hA5, hc5⟩; have H5 := Lib.hid (And.intro hE5 (And.intro hA5 (HM.out.ext hE5))); clear hE5 hA5 hc5)
      have hsl := HSd.out.ssm.1
      obtain ⟨q, hq⟩ : ∃ q, s.length = q := ⟨_, rfl⟩
      rw [hq] at hsl ⊢
      have HQ := Lib.hid hq; clear hq
      go_loopw [12, 14, 38] (fun v _ i wr => ∃ (j : Nat), j ≤ q ∧ i = .int .i64 j ∧ OwnN w5 v (blockF R (s.take j)) wr) (fun _ _ i _ => q - (intOf i).toNat)
      case atStart => exact ⟨0, Nat.zero_le _, rfl, OwnL.start w5⟩
      case round =>
        obtain ⟨j, hjq, rfl, hown⟩ := hrel
        have hE := hown.1
        have HR := Lib.hid hown; clear hown
        by_cases hlt2 : j < q
        · have hjl : j < s.length := by rw [HQ.out]; exact hlt2
          have hkp : (blockF R (s.take j)).length ≤ 90000 := by
            have h1 := List.length_filter_le (fun x : NodeV => !oursAt R x.path) (s.take j)
            rw [List.length_take] at h1
            unfold blockF
            omega
          obtain ⟨bl, off, rfl, hb, c0, c1, c2', c3, c4⟩ := NodesAt.node (H5.out.2.1.ext hE) hjl
          have hys := (HSd.out.ssm.2 _ (List.getElem_mem hjl)).1
          have HP := Lib.hid (filter_take (fun x : NodeV => !oursAt R x.path) s j hjl)
          obtain ⟨y, hy⟩ : ∃ y, s[j] = y := ⟨_, rfl⟩
          rw [hy] at HP c0 c1 c2' c3 c4 hys
          clear hy hjl
          have hlk := MapIs.look (H5.out.2.2.ext (hE.alloc (nodeObj y))) false int_under zero_int y.path (by omega)
          simp only [Bool.false_eq_true, if_false] at hlk
          unfold nodeObj at hlk
          obtain ⟨f, hf⟩ : ∃ f, oursAt R y.path = f := ⟨_, rfl⟩
          have HF := Lib.hid hf
          unfold sentOneF at hlk
          rw [hf] at hlk
          clear hf
          cases f
          · have hP : blockF R (s.take (j + 1)) = blockF R (s.take j) ++ [y] := by rw [blockF, HP.out, HF.out]; simp [blockF]
            have HP := Lib.hid hP; clear hP
            simp only [Bool.false_eq_true, if_false, Option.getD_none] at hlk
            go_wp2_with (at_builtin; refine node_append rfl _ _ rfl w5 _ _ rfl ((HR.out.alloc _).alloc _) y _ 1 rfl (cells_at _ _ _ (by simp)) hkp ?_; intro v' w7 hown' hE7)
            go_roundw
            case rel => exact ⟨j + 1, by omega, by go_num, by rw [HP.out]; exact hown'⟩
            case measure => simp [intOf]; omega
          · have hP : blockF R (s.take (j + 1)) = blockF R (s.take j) := by rw [blockF, HP.out, HF.out]; simp [blockF]
            have HP := Lib.hid hP; clear hP
            simp only [if_true, Option.getD_some] at hlk
            go_wp2
            go_roundw
            case rel => exact ⟨j + 1, by omega, by go_num, by rw [HP.out]; exact HR.out.alloc _⟩
            case measure => simp [intOf]; omega
        · obtain rfl : j = q := by omega
          go_wp2
          go_ret
          have h := HR.out
          rw [← HQ.out, List.take_length] at h
          exact ⟨R, H2.out.2.2.2, NodesTold.trans (HE.out.trans H5.out.1) (nodes_told h)⟩
end Go.Proofs.YtiopahkigbdmcaaGreat
/- Two lists of nodes held against each other (layer 10), the document's side: the walk. -/

namespace Go.Proofs.YtiopahkigbdmcaaGreat
open Go Go.Proofs Go.RowKit

def SameTold (A B : List NodeV) (w : World) (e : Ending) (w' : World) : Prop := ∃ b, e = .returned (.bool b) ∧ (b = true ↔ A = B) ∧ Ext w w'
def eqNB (p : ByteArray) (k m t : Int) (d : ByteArray) (p' : ByteArray) (k' m' t' : Int) (d' : ByteArray) : Bool := p == p' && k == k' && m == m' && t == t' && d == d'
theorem beq_bytes (a b : ByteArray) : (a == b) = true ↔ a = b := by
  rw [beq_toListBytes, ByteArray.toList_eq, ByteArray.toList_eq, beq_iff_eq]
  constructor
  · intro h
    exact ByteArray.ext (Array.toList_inj.1 h)
  · intro h; rw [h]
theorem eqNB_iff (x y : NodeV) : eqNB x.path x.kind x.mode x.time x.data y.path y.kind y.mode y.time y.data = true ↔ x = y := by
  obtain ⟨p, k, m, t, d⟩ := x
  obtain ⟨p', k', m', t', d'⟩ := y
  simp only [eqNB, Bool.and_eq_true, beq_iff_eq, beq_bytes, NodeV.mk.injEq, and_assoc]
@[go_sem high] theorem eq_node (p : ByteArray) (k m t : Int) (d : ByteArray) (p' : ByteArray) (k' m' t' : Int) (d' : ByteArray) (w : World) : (Op.equalIn 10000 42 (.agg #[.string p, .int .i64 k, .int .i64 m, .int .i64 t, .string d]) (.agg #[.string p', .int .i64 k', .int .i64 m', .int .i64 t', .string d'])).run Tryz.prog w = .ok (eqNB p k m t d p' k' m' t' d') w := by
  unfold eqNB
  rw [show (10000 : Nat) = 9999 + 1 from rfl, Op.equalIn]
  simp only [Sem.run_bind, run_underlying Tryz.underlying42, Result.andThen_ok]
  go_simp
  have key : ∀ a b : ByteArray, (a == b) = decide (a.toList = b.toList) := fun a b => by
    rw [beq_toListBytes, Bool.eq_iff_iff, beq_iff_eq, decide_eq_true_iff]
  rw [key p p', key d d']
  by_cases e1 : p.toList = p'.toList
  · by_cases e2 : k = k'
    · by_cases e3 : m = m'
      · by_cases e4 : t = t'
        · by_cases e5 : d.toList = d'.toList
          · simp [e1, e2, e3, e4, e5]
          · simp [e1, e2, e3, e4, e5]
        · simp [e4]
      · simp [e3]
    · simp [e2]
  · simp [e1]
set_option maxHeartbeats 2000000 in
set_option maxRecDepth 100000 in
theorem sameD (a b : Option Addr) (A B : List NodeV) (ca cb : Nat) (w : World) (hA : NodesAt w a A) (hB : NodesAt w b B) (hl : A.length ≤ 90000) :
    Calls Tryz.prog 17 #[.slice a A.length ca, .slice b B.length cb] w (SameTold A B w) := by
  have HA := Lib.hid hA; clear hA
  have HB := Lib.hid hB; clear hB
  obtain ⟨n, hn⟩ : ∃ n, A.length = n := ⟨_, rfl⟩
  obtain ⟨m, hm⟩ : ∃ m, B.length = m := ⟨_, rfl⟩
  rw [hn] at hl
  rw [hn, hm]
  have HN := Lib.hid (And.intro hn hm); clear hn hm
  by_cases hnm : n = m
  · subst hnm
    go_enter Tryz.func17, Tryz.ntmps17
    go_wp2
    go_loopw [5] (fun i wr => ∃ k : Nat, k ≤ n ∧ i = .int .i64 k ∧ A.take k = B.take k ∧ Ext w wr) (fun i _ => n - (intOf i).toNat)
    case atStart => exact ⟨0, Nat.zero_le _, rfl, rfl, Ext.refl w⟩
    case round =>
      obtain ⟨k, hk, rfl, heq, hE⟩ := hrel
      have HR := Lib.hid (And.intro heq hE); clear heq
      by_cases hlt : k < n
      · have hka : k < A.length := by rw [HN.out.1]; exact hlt
        have hkb : k < B.length := by rw [HN.out.2]; exact hlt
        obtain ⟨bl, off, rfl, hb, c0, c1, c2, c3, c4⟩ := NodesAt.node (HA.out.ext hE.drew) hka
        obtain ⟨bl', off', rfl, hb', d0, d1, d2, d3, d4⟩ := NodesAt.node (HB.out.ext hE.drew) hkb
        have HTa := Lib.hid (List.take_succ_eq_append_getElem hka)
        have HTb := Lib.hid (List.take_succ_eq_append_getElem hkb)
        have HNe := Lib.hid (fun (h : A = B) => show A[k] = B[k] by subst h; rfl)
        obtain ⟨x, hx⟩ : ∃ x, A[k] = x := ⟨_, rfl⟩
        obtain ⟨y, hy⟩ : ∃ y, B[k] = y := ⟨_, rfl⟩
        rw [hx] at HTa HNe c0 c1 c2 c3 c4
        rw [hy] at HTb HNe d0 d1 d2 d3 d4
        clear hx hy hE hka hkb
        have hiff := eqNB_iff x y
        cases hq : eqNB x.path x.kind x.mode x.time x.data y.path y.kind y.mode y.time y.data
        · rw [hq] at hiff
          have HI := Lib.hid hiff; clear hiff
          go_wp2
          refine wp_draw_all (by kernel_rfl) (by kernel_rfl) ?_
          repeat ((with_reducible refine wpStill_step (fun K hK => ?_)); go_simp; refine hK _ ?_; clear hK K)
          refine wpStill_nil ?_
          go_wp2
          go_ret
          exact ⟨false, rfl, ⟨(fun h => by cases h), fun h => HI.out.2 (HNe.out h)⟩, HR.out.2.drew⟩
        · rw [hq] at hiff
          have HI := Lib.hid hiff; clear hiff
          go_wp2
          refine wp_draw_all (by kernel_rfl) (by kernel_rfl) ?_
          repeat ((with_reducible refine wpStill_step (fun K hK => ?_)); go_simp; refine hK _ ?_; clear hK K)
          refine wpStill_nil ?_
          go_wp2
          go_roundw
          case rel => exact ⟨k + 1, by omega, by go_num, by rw [HTa.out, HTb.out, HI.out.1 (by simp), HR.out.1], HR.out.2.drew⟩
          case measure => simp [intOf]; omega
      · obtain rfl : k = n := by omega
        go_wp2
        go_ret
        have h := HR.out.1
        rw [List.take_of_length_le (by rw [HN.out.1]; exact Nat.le_refl _), List.take_of_length_le (by rw [HN.out.2]; exact Nat.le_refl _)] at h
        exact ⟨true, rfl, ⟨fun _ => h, fun _ => rfl⟩, HR.out.2⟩
  · have g1 : ((n : Int) != (m : Int)) = true := by
      rw [bne_iff_ne]; omega
    have hne : A ≠ B := fun h => hnm (by rw [← HN.out.1, ← HN.out.2, h])
    have HNe := Lib.hid hne; clear hne hnm
    go_enter Tryz.func17, Tryz.ntmps17
    go_wp2
    go_ret
    exact ⟨false, rfl, ⟨(fun h => by cases h), fun h => (HNe.out h).elim⟩, Ext.refl w⟩
end Go.Proofs.YtiopahkigbdmcaaGreat
/- The page's example (layer 14), and the law's guard: the walks. -/
namespace Go.Proofs.YtiopahkigbdmcaaGreat
open Go Go.Proofs Go.RowKit

theorem out_nil (x : NodeV) : outF [] x = false := by
  unfold outF shutF
  simp [keepsF]
set_option maxRecDepth 100000 in
theorem fewW (a d ra : Option Addr) (L M : List NodeV) (rs : Rules) (c cd rc : Nat) (w : World) (hA : NodesAt w a L) (hD : NodesAt w d M) (hR : RulesAt w ra rs) :
    Calls Tryz.prog 14 #[.slice a L.length c, .slice d M.length cd, .slice ra rs.length rc] w (BoolTold (TinyL L ∧ TinyL M ∧ TinyR rs) w) := by
  have HA := Lib.hid (tinyN a L c w hA)
  have HD := Lib.hid (fun w' (h : Ext w w') => tinyN d M cd w' (hD.ext h))
  have HR := Lib.hid (fun w' (h : Ext w w') => tinyR ra rs rc w' (hR.ext h))
  clear hA hD hR
  obtain ⟨n, hn⟩ : ∃ n, L.length = n := ⟨_, rfl⟩
  obtain ⟨m, hm⟩ : ∃ m, M.length = m := ⟨_, rfl⟩
  obtain ⟨r, hr⟩ : ∃ r, rs.length = r := ⟨_, rfl⟩
  rw [hn] at HA ⊢
  rw [hm] at HD ⊢
  rw [hr] at HR ⊢
  clear hn hm hr
  go_enter Tryz.func14, Tryz.ntmps14
  go_wp2_with fail
  refine HA.out.mono ?_
  rintro e w1 ⟨b1, rfl, h1, hE1⟩
  have HE1 := Lib.hid hE1; clear hE1
  have H1 := Lib.hid h1; clear h1
  cases b1
  · go_wp2
    go_ret
    exact bool_told (fun h => by cases h) HE1.out
  · go_wp2_with fail
    refine (HD.out _ HE1.out).mono ?_
    rintro e w2 ⟨b2, rfl, h2, hE2⟩
    have HE2 := Lib.hid (Ext.trans HE1.out hE2); clear hE2
    have H2 := Lib.hid h2; clear h2
    cases b2
    · go_wp2
      go_ret
      exact bool_told (fun h => by cases h) HE2.out
    · go_wp2_with fail
      refine (HR.out _ HE2.out).mono ?_
      rintro e w3 ⟨b3, rfl, h3, hE3⟩
      have HE3 := Lib.hid (Ext.trans HE2.out hE3); clear hE3
      have H3 := Lib.hid h3; clear h3
      go_wp2
      go_ret
      exact bool_told (fun h => ⟨H1.out (by simp), H2.out (by simp), H3.out (by simpa using h)⟩) HE3.out

def fileA : NodeV := ⟨⟨#[97]⟩, 2, 0, 0, ⟨#[]⟩⟩
def dirA : NodeV := ⟨⟨#[97]⟩, 1, 0, 0, ⟨#[]⟩⟩
def fileX : NodeV := ⟨⟨#[97, 47, 120]⟩, 2, 0, 0, ⟨#[]⟩⟩
theorem nm_fileA : nm fileA = [[97]] := by decide
theorem nm_dirA : nm dirA = [[97]] := by decide
theorem nm_fileX : nm fileX = [[97], [120]] := by decide
theorem good_fileA : goodN fileA := ⟨by decide, by decide, by decide⟩
theorem good_dirA : goodN dirA := ⟨by decide, by decide, by decide⟩
theorem good_fileX : goodN fileX := ⟨by decide, by decide, by decide⟩
theorem tree_s : TreeL [fileA] := ⟨List.pairwise_singleton _ _, (fun x hx => by rw [List.mem_singleton.1 hx]; exact good_fileA), fun x hx => by rw [List.mem_singleton.1 hx, nm_fileA]; exact Or.inl rfl⟩
theorem tree_d : TreeL [dirA, fileX] := by
  refine ⟨?_, fun x hx => ?_, fun x hx => ?_⟩
  · unfold SortedN
    rw [List.pairwise_cons]
    refine ⟨fun y hy => ?_, List.pairwise_singleton _ _⟩
    rw [List.mem_singleton.1 hy, nm_dirA, nm_fileX]
    exact cmp_pre ⟨[[120]], rfl⟩ (by decide)
  · rcases List.mem_cons.1 hx with rfl | h
    · exact good_dirA
    · rw [List.mem_singleton.1 h]; exact good_fileX
  · rcases List.mem_cons.1 hx with rfl | h
    · exact Or.inl (by rw [nm_dirA]; rfl)
    · rw [List.mem_singleton.1 h]
      exact Or.inr ⟨dirA, by simp, by rw [nm_dirA, nm_fileX]; rfl, rfl⟩
theorem pick_s : pickF [] false [fileA] = [fileA] := by
  have h1 : inF fileA = false := by decide
  simp [pickF, out_nil, h1]
theorem shown_d : shownF [dirA, fileX] = [dirA, fileX] := by
  have h1 : withinF (txt dirA.path) (txt flitB) = false := by decide
  have h2 : withinF (txt fileX.path) (txt flitB) = false := by decide
  simp [shownF, nodesIn, h1, h2]
theorem sides_ex : Sides' [] [fileA] [dirA, fileX] := by
  have hsm : SmallL [fileA] := ⟨by decide, fun x hx => by rw [List.mem_singleton.1 hx]; decide⟩
  have hdm : SmallL [dirA, fileX] := ⟨by decide, fun x hx => by
    rcases List.mem_cons.1 hx with rfl | h
    · decide
    · rw [List.mem_singleton.1 h]; decide⟩
  have h := sides_of (rs := []) hsm hdm ⟨by decide, fun x hx => by simp at hx⟩ tree_s tree_d
  rw [pick_s, shown_d] at h
  exact h
theorem open_a : openM [] [fileA] [dirA, fileX] [[97]] := by
  intro U h0 hU hne
  have := pre_len_lt hU hne
  exact absurd (List.length_pos_iff.2 h0) (by rw [List.length_singleton] at this; omega)
theorem not_out (T : List NodeV) (P : Pth) : ¬ outAt [] T P := fun ⟨y, _, _, h⟩ => by rw [out_nil] at h; cases h
theorem stays_nil (del : Bool) (d : List NodeV) (x : NodeV) : staysB [] del d x = !del := by
  unfold staysB
  rw [out_nil]
  have : (d.any fun y => (nm x).isPrefixOf (nm y) && (nm x != nm y) && outF [] y) = false := by
    rw [List.any_eq_false]
    intro y _
    rw [out_nil]; simp
  rw [this]; simp
theorem ours_ex (del : Bool) : Ours [] del [fileA] [dirA, fileX] fileA ↔ del = true := by
  constructor
  · rintro ⟨_, _, _, h | h⟩
    · exact absurd h (by decide)
    · have h1 := h dirA (by simp) (by rw [nm_dirA, nm_fileA]) rfl
      cases del
      · have : dirA ∈ leftF [] false [dirA, fileX] (nm dirA) := mem_leftF.2 ⟨by simp, List.prefix_rfl, by rw [stays_nil]; rfl⟩
        rw [h1] at this; simp at this
      · rfl
  · rintro rfl
    refine ⟨by simp, by rw [nm_fileA]; exact open_a, not_out _ _, Or.inr fun y _ _ _ => ?_⟩
    rw [List.eq_nil_iff_forall_not_mem]
    intro z hz
    have := (mem_leftF.1 hz).2.2
    rw [stays_nil] at this; cases this
theorem mir_keep (x : NodeV) : Mir [] false [fileA] [dirA, fileX] x ↔ x ∈ [dirA, fileX] := by
  constructor
  · rintro (h | h)
    · have h1 := h.1
      rw [List.mem_singleton] at h1
      subst h1
      exact absurd ((ours_ex false).1 h) (by decide)
    · exact h.1
  · intro hx
    have hu : nm dirA <+: nm x := by
      rcases List.mem_cons.1 hx with rfl | h
      · exact List.prefix_rfl
      · rw [List.mem_singleton.1 h, nm_dirA, nm_fileX]; exact ⟨[[120]], rfl⟩
    refine Or.inr ⟨hx, by rw [stays_nil]; rfl, dirA, by simp, hu, by rw [nm_dirA]; exact open_a, Or.inr ⟨?_, Or.inr rfl⟩⟩
    rintro ⟨y, hy, _, h⟩
    rw [List.mem_singleton.1 hy] at h
    exact absurd h (by decide)
theorem block_ex {del : Bool} {R : List (NodeV × Bool)} (h : BelowIs [] del [fileA] [dirA, fileX] [] R) : (blockF R [fileA]).length = if del = true then 0 else 1 := by
  have key : oursAt R fileA.path = del := by
    unfold oursAt
    rw [Bool.eq_iff_iff, List.any_eq_true]
    constructor
    · rintro ⟨c, hc, h1⟩
      simp only [Bool.and_eq_true, decide_eq_true_eq] at h1
      have h2 := ((h.2 c).1 hc).1
      unfold InMo at h2
      rw [if_pos h1.1] at h2
      have h3 := h2.1
      rw [List.mem_singleton] at h3
      rw [h3] at h2
      exact (ours_ex del).1 h2
    · intro hd
      refine ⟨(fileA, true), (h.2 _).2 ⟨?_, List.nil_prefix, (nm_ne good_fileA).symm⟩, by simp⟩
      unfold InMo
      rw [if_pos rfl]
      exact (ours_ex del).2 hd
  unfold blockF
  rw [List.filter_cons, key]
  cases del <;> simp
set_option maxHeartbeats 2000000 in
set_option maxRecDepth 100000 in
theorem awakeM (w : World) : Calls Tryz.prog 15 #[] w (RetV w (.bool true)) := by
  have hsm : SmallL [fileA] := ⟨by decide, fun x hx => by rw [List.mem_singleton.1 hx]; decide⟩
  have hdm : SmallL [dirA, fileX] := ⟨by decide, fun x hx => by
    rcases List.mem_cons.1 hx with rfl | h
    · decide
    · rw [List.mem_singleton.1 h]; decide⟩
  have hsh : Short [] := ⟨by decide, fun x hx => by simp at hx⟩
  have HO := Lib.hid (fun sa da del w' (h1 : NodesAt w' sa [fileA]) (h2 : NodesAt w' da [dirA, fileX]) => by
    have h := ofMW sa da none [fileA] [dirA, fileX] [] 1 2 0 del w' hsm hdm hsh tree_s tree_d h1 h2 (Or.inl rfl)
    rw [pick_s, shown_d] at h
    exact h)
  have HB := Lib.hid (fun sa da del w' (h1 : NodesAt w' sa [fileA]) (h2 : NodesAt w' da [dirA, fileX]) => by
    have h := blMW sa da none [fileA] [dirA, fileX] [] 1 2 0 del w' hsm hdm hsh tree_s tree_d h1 h2 (Or.inl rfl)
    rw [pick_s, shown_d] at h
    exact h)
  obtain ⟨w1, hw1⟩ : ∃ w1, (w.alloc (.cells #[.string ⟨#[97]⟩, .int .i64 2, .int .i64 0, .int .i64 0, .string ⟨#[]⟩] 42)).alloc (.cells #[.string ⟨#[97]⟩, .int .i64 1, .int .i64 0, .int .i64 0, .string ⟨#[]⟩, .string ⟨#[97, 47, 120]⟩, .int .i64 2, .int .i64 0, .int .i64 0, .string ⟨#[]⟩] 42) = w1 := ⟨_, rfl⟩
  have hE1 : Ext w w1 := by rw [← hw1]; exact ((Ext.refl w).alloc _).alloc _
  have hs1 : NodesAt w1 (some ⟨w.heap.size, 0, none⟩) [fileA] := by
    rw [← hw1]
    refine Or.inr ⟨_, 0, _, (_, _), rfl, heap_before _ _ (heap_at _ _ rfl), fun i hi j v hv => ?_⟩
    obtain rfl : i = 0 := by simp at hi; omega
    rcases j with _ | _ | _ | _ | _ | j
    all_goals simp [NodeV.cells, fileA] at hv ⊢
    all_goals exact hv
  have hd1 : NodesAt w1 (some ⟨w.heap.size + 1, 0, none⟩) [dirA, fileX] := by
    rw [← hw1]
    refine Or.inr ⟨_, 0, _, (_, _), rfl, heap_at _ _ (by simp), fun i hi j v hv => ?_⟩
    rcases i with _ | _ | i
    · rcases j with _ | _ | _ | _ | _ | j
      all_goals simp [NodeV.cells, dirA] at hv ⊢
      all_goals exact hv
    · rcases j with _ | _ | _ | _ | _ | j
      all_goals simp [NodeV.cells, fileX] at hv ⊢
      all_goals exact hv
    · exact absurd hi (by simp)
  have HM1 := Lib.hid (And.intro hE1 (And.intro hs1 hd1)); clear hE1 hs1 hd1 hsm hdm hsh
  have hSt : SortedN [fileA] := tree_s.sorted
  have hDt : SortedN [dirA, fileX] := tree_d.sorted
  have HT := Lib.hid (And.intro hSt hDt); clear hSt hDt
  go_enter Tryz.func15, Tryz.ntmps15
  go_wp2_with fail
  refine (HO.out _ _ true _ HM1.out.2.1 HM1.out.2.2).mono ?_
  rintro e w2 ⟨M, hM, hMl, a2, c2, rfl, hE2, hA2, hc2⟩
  obtain rfl : M = [fileA] := hM.is HT.out.1 (fun x => mir_plain sides_ex.sides out_nil x)
  have H2 := Lib.hid (And.intro (HM1.out.1.trans hE2) (And.intro (HM1.out.2.1.ext hE2) (And.intro (HM1.out.2.2.ext hE2) hA2))); clear hE2 hA2 hc2 hM hMl
  go_wp2_with fail
  refine (sameD _ _ [fileA] [fileA] _ _ _ H2.out.2.2.2 H2.out.2.1 (by decide)).mono ?_
  rintro e w3 ⟨b3, rfl, hb3, hE3⟩
  obtain rfl : b3 = true := hb3.2 rfl
  have H3 := Lib.hid (And.intro (H2.out.1.trans hE3) (And.intro (H2.out.2.1.ext hE3) (H2.out.2.2.1.ext hE3))); clear hE3 hb3
  go_wp2_with fail
  refine (HO.out _ _ false _ H3.out.2.1 H3.out.2.2).mono ?_
  rintro e w4 ⟨M, hM, hMl, a4, c4, rfl, hE4, hA4, hc4⟩
  obtain rfl : M = [dirA, fileX] := hM.is HT.out.2 mir_keep
  have H4 := Lib.hid (And.intro (H3.out.1.trans hE4) (And.intro (H3.out.2.1.ext hE4) (And.intro (H3.out.2.2.ext hE4) hA4))); clear hE4 hA4 hc4 hM hMl
  go_wp2_with fail
  refine (sameD _ _ [dirA, fileX] [dirA, fileX] _ _ _ H4.out.2.2.2 H4.out.2.2.1 (by decide)).mono ?_
  rintro e w5 ⟨b5, rfl, hb5, hE5⟩
  obtain rfl : b5 = true := hb5.2 rfl
  have H5 := Lib.hid (And.intro (H4.out.1.trans hE5) (And.intro (H4.out.2.1.ext hE5) (H4.out.2.2.1.ext hE5))); clear hE5 hb5
  go_wp2_with fail
  refine (HB.out _ _ false _ H5.out.2.1 H5.out.2.2).mono ?_
  rintro e w6 ⟨R, hR, a6, c6, rfl, hE6, hA6, hc6⟩
  have hl6 := block_ex hR
  rw [if_neg (by decide)] at hl6
  rw [hl6]
  have H6 := Lib.hid (And.intro (H5.out.1.trans hE6) (And.intro (H5.out.2.1.ext hE6) (H5.out.2.2.ext hE6))); clear hE6 hA6 hc6 hR hl6
  go_wp2_with fail
  refine (HB.out _ _ true _ H6.out.2.1 H6.out.2.2).mono ?_
  rintro e w7 ⟨R', hR, a7, c7, rfl, hE7, hA7, hc7⟩
  have hl7 := block_ex hR
  rw [if_pos rfl] at hl7
  rw [hl7]
  have H7 := Lib.hid (H6.out.1.trans hE7); clear hE7 hA7 hc7 hR hl7
  go_wp2
  go_ret
  exact ⟨rfl, H7.out⟩
end Go.Proofs.YtiopahkigbdmcaaGreat
/- What can be taken of nodes (layer 10), the document's side: it is a tree. -/
namespace Go.Proofs.YtiopahkigbdmcaaGreat
open Go Go.Proofs Go.RowKit

def OfTreeTold (L : List NodeV) (w : World) (e : Ending) (w' : World) : Prop := ∃ R, NodesTold R w e w' ∧ R.length ≤ L.length ∧ (∀ x ∈ R, x ∈ L) ∧ TreeL R
/-- Some of a list's nodes, right ones, in order. -/
def Picked (L S : List NodeV) : Prop := (∀ x ∈ S, x ∈ L ∧ goodN x) ∧ SortedN S
theorem ins_picked {L S : List NodeV} (h : Picked L S) {x : NodeV} (hx : x ∈ L) (hg : goodN x) (hno : ∀ y ∈ S, y.path ≠ x.path) {at_ : Nat} (hlo : ∀ j (h : j < S.length), j < at_ → cmpP S[j] x ≤ 0) (hhi : ∀ h : at_ < S.length, 0 < cmpP S[at_] x) :
    Picked L (S.take at_ ++ [x] ++ S.drop at_) := by
  have hne : ∀ y ∈ S, cmpP y x ≠ 0 := fun y hy e => hno y hy (nm_path (cmp_eq e))
  have hlow : ∀ y ∈ S.take at_, cmpF (nm y) (nm x) < 0 := fun y hy => by
    obtain ⟨j, hj, rfl⟩ := List.getElem_of_mem hy
    rw [List.length_take] at hj
    rw [List.getElem_take]
    have h1 := hlo j (by omega) (by omega)
    have h2 := hne S[j] (List.getElem_mem (by omega))
    have : cmpP S[j] x < 0 := by omega
    exact this
  have hhigh : ∀ y ∈ S.drop at_, cmpF (nm x) (nm y) < 0 := fun y hy => by
    obtain ⟨j, hj, rfl⟩ := List.getElem_of_mem hy
    rw [List.length_drop] at hj
    rw [List.getElem_drop]
    have h1 : cmpF (nm x) (nm (S[at_]'(by omega))) < 0 := by
      have h := hhi (by omega)
      have h' : 0 < cmpF (nm (S[at_]'(by omega))) (nm x) := h
      rw [cmp_anti]; omega
    rcases Nat.eq_zero_or_pos j with h0 | h0
    · subst h0; exact h1
    · exact cmp_trans h1 ((List.pairwise_iff_getElem.1 h.2) at_ (at_ + j) (by omega) (by omega) (by omega))
  refine ⟨fun y hy => ?_, ?_⟩
  · rcases ins_mem hy with h1 | rfl
    · exact h.1 y h1
    · exact ⟨hx, hg⟩
  · have hsp := h.2
    unfold SortedN at hsp ⊢
    rw [← List.take_append_drop at_ S, List.pairwise_append] at hsp
    rw [List.append_assoc, List.pairwise_append]
    refine ⟨hsp.1, ?_, fun a ha b hb => ?_⟩
    · rw [List.singleton_append, List.pairwise_cons]
      exact ⟨hhigh, hsp.2.1⟩
    · rcases List.mem_append.1 hb with h1 | h1
      · rw [List.mem_singleton.1 h1]; exact hlow a ha
      · exact hsp.2.2 a ha b h1
def Grows (S : List NodeV) (k : Nat) (R : List NodeV) : Prop := (∀ x ∈ R, x ∈ S.take k) ∧ TreeL R
theorem up_tree {R : List NodeV} {x : NodeV} (hg : goodN x) (h : upOk R (txt x.path)) : (nm x).dropLast = [] ∨ ∃ y ∈ R, nm y = (nm x).dropLast ∧ y.kind = 1 := by
  rcases h with h | ⟨y, hy, h1, h2⟩
  · left
    have : txt (⟨#[]⟩ : ByteArray) = upF (txt x.path) := by rw [h]; rfl
    rw [← up_key hg this]; decide
  · exact Or.inr ⟨y, hy, up_key hg h1, h2⟩
theorem grows_next {L S : List NodeV} (hS : Picked L S) {k : Nat} {R : List NodeV} (h : Grows S k R) {x : NodeV} (ht : S.take (k + 1) = S.take k ++ [x]) (hx : x ∈ S) (hu : upOk R (txt x.path)) : Grows S (k + 1) (R ++ [x]) := by
  have hsp : SortedN (S.take (k + 1)) := hS.2.sublist (List.take_sublist _ _)
  unfold SortedN at hsp
  rw [ht, List.pairwise_append] at hsp
  refine ⟨fun y hy => ?_, ?_, fun y hy => ?_, fun y hy => ?_⟩
  · rw [ht, List.mem_append]
    rcases List.mem_append.1 hy with h1 | h1
    · exact Or.inl (h.1 y h1)
    · exact Or.inr h1
  · unfold SortedN
    rw [List.pairwise_append]
    exact ⟨h.2.sorted, List.pairwise_singleton _ _, fun a ha b hb => hsp.2.2 a (h.1 a ha) b hb⟩
  · rcases List.mem_append.1 hy with h1 | h1
    · exact h.2.good y h1
    · rw [List.mem_singleton.1 h1]; exact (hS.1 x hx).2
  · have key : ∀ {P : Pth}, (∃ z ∈ R, nm z = P ∧ z.kind = 1) → ∃ z ∈ R ++ [x], nm z = P ∧ z.kind = 1 := fun ⟨z, hz, h1⟩ => ⟨z, List.mem_append.2 (Or.inl hz), h1⟩
    rcases List.mem_append.1 hy with h1 | h1
    · exact (h.2.up y h1).imp id key
    · rw [List.mem_singleton.1 h1]; exact (up_tree (hS.1 x hx).2 hu).imp id key
theorem grows_skip {S : List NodeV} {k : Nat} {R : List NodeV} (h : Grows S k R) : Grows S (k + 1) R := ⟨fun x hx => (List.take_sublist_take_left (by omega)).subset (h.1 x hx), h.2⟩
set_option maxHeartbeats 4000000 in
set_option maxRecDepth 100000 in
theorem ofT_any (a : Option Addr) (L : List NodeV) (c : Nat) (w : World) (hL : SmallL L) (hA : NodesAt w a L) : Calls Tryz.prog 9 #[.slice a L.length c] w (OfTreeTold L w) := by
  have HCh := Lib.hid (fun (x : NodeV) (hx : x ∈ L) w' => checkND x w' (hL.2 x hx).1 (hL.2 x hx).2)
  have HLL := Lib.hid hL.2
  have hl := hL.1
  have HA := Lib.hid hA; clear hA hL
  obtain ⟨n, hn⟩ : ∃ n, L.length = n := ⟨_, rfl⟩
  rw [hn] at hl ⊢
  have HN := Lib.hid hn; clear hn
  go_enter Tryz.func9, Tryz.ntmps9
  go_upto_block 0 with fail
  go_cut [3] (fun v w' => ∃ S, Holds w' v S ∧ S.length ≤ n ∧ Picked L S ∧ Ext w w')
  case first =>
    go_wp2_with fail
    go_loopw [3, 4] (fun v i w' => ∃ k S, k ≤ n ∧ i = .int .i64 (k : Nat) ∧ Holds w' v S ∧ S.length ≤ k ∧ Picked L S ∧ Ext w w') (fun _ i _ => n - (intOf i).toNat)
    case atStart => exact ⟨0, [], Nat.zero_le _, rfl, ⟨none, 0, rfl, Nat.le_refl _, fun _ => ⟨rfl, rfl⟩, Or.inl rfl⟩, Nat.le_refl _, ⟨fun x hx => (by simp at hx), List.Pairwise.nil⟩, Ext.refl w⟩
    case round =>
      obtain ⟨k, S, hk, rfl, ⟨sa, sc, rfl, hsc, hs0, hSA⟩, hSk, hSm, hE⟩ := hrel
      have HS := Lib.hid (And.intro hs0 (And.intro hSA hSm)); clear hs0 hSA hSm
      by_cases hlt : k < n
      · have hkl : k < L.length := by rw [HN.out]; exact hlt
        have hmem := List.getElem_mem hkl
        obtain ⟨bl, off, rfl, hb, c0, c1, c2, c3, c4⟩ := NodesAt.node (HA.out.ext hE) hkl
        have HK := Lib.hid (fun w2 (h : Ext wr w2) => And.intro ((h.cell hb).trans c0) (And.intro ((h.cell hb).trans c1) (And.intro ((h.cell hb).trans c2) (And.intro ((h.cell hb).trans c3) ((h.cell hb).trans c4)))))
        have HC1 := Lib.hid (HCh.out _ hmem)
        obtain ⟨x, hx⟩ : ∃ x, L[k] = x := ⟨_, rfl⟩
        rw [hx] at HC1 HK c0 c1 c2 c3 c4 hmem
        have HX := Lib.hid hmem; clear hx hmem
        have HE := Lib.hid hE; clear hE
        have hxs := (HLL.out x HX.out)
        have hS1000 : SmallL S := ⟨by omega, fun y hy => HLL.out y (HS.out.2.2.1 y hy).1⟩
        have HSm := Lib.hid hS1000; clear hS1000
        have HAt := Lib.hid (fun w' (h : Ext wr w') => atD_any sa S sc x.path w' HSm.out.1 (HS.out.2.1.ext h))
        have HIns := Lib.hid (fun w' (h : Ext wr w') => insertD sa S sc x w' HSm.out hxs.1 hsc HS.out.1 (HS.out.2.1.ext h))
        have hcase := at_case S x.path
        obtain ⟨sn, hsn⟩ : ∃ sn, S.length = sn := ⟨_, rfl⟩
        rw [hsn] at HAt HIns hsc hSk ⊢
        have HSN := Lib.hid hsn; clear hsn
        go_wp2_with fail
        refine (HC1.out _).mono ?_
        rintro e w2 ⟨z, rfl, hz, hE2⟩
        obtain ⟨d0, d1, d2, d3, d4⟩ := HK.out _ hE2
        clear c0 c1 c2 c3 c4
        have HE2 := Lib.hid hE2; clear hE2
        by_cases hz0 : z = 0
        · have hz1 : (z == 0) = true := by rw [hz0]; rfl
          have HG := Lib.hid (hz hz0)
          clear hz hz0
          go_wp2_with fail
          refine (HAt.out _ HE2.out).mono ?_
          rintro e w3 ⟨rfl, hE3⟩
          clear d0 d1 d2 d3 d4
          obtain ⟨d0, d1, d2, d3, d4⟩ := HK.out _ (Ext.trans HE2.out hE3)
          have HE3 := Lib.hid (Ext.trans HE2.out hE3); clear hE3
          obtain ⟨t, ht⟩ : ∃ t, atF S x.path = t := ⟨_, rfl⟩
          rw [ht] at hcase ⊢
          clear ht
          rcases hcase with ⟨rfl, hno⟩ | ⟨j, hj, rfl, -⟩
          · have HNo := Lib.hid hno; clear hno
            go_wp2_with fail
            refine (HIns.out _ HE3.out).mono ?_
            rintro e w4 ⟨at_, hat, hlo, hhi, a4, c4', rfl, hE4, hA4, hc4⟩
            have hil := ins_len S x at_
            rw [HSN.out] at hil
            have HIL := Lib.hid hil
            rw [hil] at hc4
            have H4 := Lib.hid hA4; clear hA4
            have HE4 := Lib.hid (Ext.trans HE3.out hE4); clear hE4
            have HIM : Hid (Picked L (S.take at_ ++ [x] ++ S.drop at_)) := Lib.hid (ins_picked HS.out.2.2 HX.out HG.out HNo.out hlo hhi)
            clear hlo hhi
            have hine : S.take at_ ++ [x] ++ S.drop at_ ≠ [] := by simp
            obtain ⟨S', hS'⟩ : ∃ S', S.take at_ ++ [x] ++ S.drop at_ = S' := ⟨_, rfl⟩
            rw [hS'] at HIL HIM H4 hine ⊢
            rw [HIL.out]
            clear hil hS'
            go_wp2
            go_roundw
            case rel => exact ⟨k + 1, S', by omega, by go_num, ⟨a4, c4', by rw [HIL.out], by rw [HIL.out]; exact hc4, fun h => absurd h hine, H4.out⟩, by rw [HIL.out]; omega, HIM.out, HE.out.trans HE4.out⟩
            case measure => simp [intOf]; omega
          · go_wp2
            go_roundw
            case rel => exact ⟨k + 1, S, by omega, by go_num, ⟨sa, sc, by rw [HSN.out], by rw [HSN.out]; exact hsc, HS.out.1, HS.out.2.1.ext HE3.out⟩, by rw [HSN.out]; omega, HS.out.2.2, HE.out.trans HE3.out⟩
            case measure => simp [intOf]; omega
        · have hz1 : (z == 0) = false := beq_eq_false_iff_ne.2 hz0
          clear hz hz0 hcase
          go_wp2
          go_roundw
          case rel => exact ⟨k + 1, S, by omega, by go_num, ⟨sa, sc, by rw [HSN.out], by rw [HSN.out]; exact hsc, HS.out.1, HS.out.2.1.ext HE2.out⟩, by rw [HSN.out]; omega, HS.out.2.2, HE.out.trans HE2.out⟩
          case measure => simp [intOf]; omega
      · obtain rfl : k = n := by omega
        obtain ⟨sn, hsn⟩ : ∃ sn, S.length = sn := ⟨_, rfl⟩
        rw [hsn] at hsc hSk ⊢
        have HSN := Lib.hid hsn; clear hsn
        have HE := Lib.hid hE; clear hE
        go_wp2
        go_meet
        exact ⟨S, ⟨sa, sc, by rw [HSN.out], by rw [HSN.out]; exact hsc, HS.out.1, HS.out.2.1⟩, by rw [HSN.out]; exact hSk, HS.out.2.2, HE.out⟩
  case rest =>
    obtain ⟨S, ⟨sa, sc, rfl, hsc, -, hSA⟩, hSn, hSm, hE⟩ := hcut
    have HS := Lib.hid (And.intro hSA hSm); clear hSA hSm
    have HSs : Hid (SmallL S) := Lib.hid ⟨by omega, fun y hy => HLL.out y (HS.out.2.1 y hy).1⟩
    have HEc := Lib.hid hE; clear hE
    obtain ⟨m, hm⟩ : ∃ m, S.length = m := ⟨_, rfl⟩
    rw [hm] at hsc hSn ⊢
    have HM := Lib.hid hm; clear hm
    go_wp2_with fail
    go_loopw [5, 6] (fun v i w' => ∃ (k : Nat) (R : List NodeV), k ≤ m ∧ i = .int .i64 (k : Nat) ∧ OwnN wc v R w' ∧ R.length ≤ k ∧ Grows S k R) (fun _ i _ => m - (intOf i).toNat)
    case atStart => exact ⟨0, [], Nat.zero_le _, rfl, OwnL.start wc, Nat.le_refl _, ⟨fun x hx => (by simp at hx), TreeL.nil⟩⟩
    case round =>
      obtain ⟨k, R, hk, rfl, hown, hRk, hRS⟩ := hrel
      by_cases hlt : k < m
      · have hkl : k < S.length := by rw [HM.out]; exact hlt
        have hE := hown.1
        obtain ⟨ra, rc, rfl, hrc, hRA⟩ := OwnL.holds hown
        have HO := Lib.hid hown; clear hown
        have HRA := Lib.hid hRA; clear hRA
        have HRS := Lib.hid hRS; clear hRS
        have hmem := List.getElem_mem hkl
        obtain ⟨bl, off, rfl, hb, c0, c1, c2, c3, c4⟩ := NodesAt.node (HS.out.1.ext hE) hkl
        have HK := Lib.hid (fun w2 (h : Ext wr w2) => And.intro ((h.cell hb).trans c0) (And.intro ((h.cell hb).trans c1) (And.intro ((h.cell hb).trans c2) (And.intro ((h.cell hb).trans c3) ((h.cell hb).trans c4)))))
        have HTk := Lib.hid (List.take_succ_eq_append_getElem hkl)
        obtain ⟨x, hx⟩ : ∃ x, S[k] = x := ⟨_, rfl⟩
        rw [hx] at HTk HK c0 c1 c2 c3 c4 hmem
        have HX := Lib.hid hmem; clear hx hmem
        have HE := Lib.hid hE; clear hE
        have HPa := Lib.hid (parentND ra R rc x.path wr (by omega) (HSs.out.2 x HX.out).1 HRA.out)
        obtain ⟨rn, hrn⟩ : ∃ rn, R.length = rn := ⟨_, rfl⟩
        rw [hrn] at HPa HO hrc hRk ⊢
        have HRN := Lib.hid hrn; clear hrn
        go_wp2_with fail
        refine HPa.out.mono ?_
        rintro e w2 ⟨z, rfl, hup, hE2⟩
        have HUp := Lib.hid hup; clear hup
        obtain ⟨d0, d1, d2, d3, d4⟩ := HK.out _ hE2
        clear c0 c1 c2 c3 c4
        have HE2 := Lib.hid hE2; clear hE2
        by_cases hz : z = 0
        · have hz1 : (z == 0) = true := by rw [hz]; rfl
          by_cases h5 : rn < 512
          · have hR9 : R.length ≤ 90000 := by rw [HRN.out]; omega
            go_wp2_with (at_builtin; refine node_append rfl _ _ rfl wc _ R rfl ((HO.out.ext HE2.out).alloc _) x _ 1 rfl (cells_at _ _ _ (by simp)) hR9 ?_; intro v' w4 hown' hE4)
            go_roundw
            case rel => exact ⟨k + 1, R ++ [x], by omega, by go_num, hown', by rw [List.length_append, HRN.out]; simp; omega, grows_next HS.out.2 HRS.out HTk.out HX.out (HUp.out hz)⟩
            case measure => simp [intOf]; omega
          · go_wp2
            go_roundw
            case rel => exact ⟨k + 1, R, by omega, by go_num, HO.out.ext HE2.out, by rw [HRN.out]; omega, grows_skip HRS.out⟩
            case measure => simp [intOf]; omega
        · have hz1 : (z == 0) = false := beq_eq_false_iff_ne.2 hz
          go_wp2
          go_roundw
          case rel => exact ⟨k + 1, R, by omega, by go_num, HO.out.ext HE2.out, by rw [HRN.out]; omega, grows_skip HRS.out⟩
          case measure => simp [intOf]; omega
      · obtain rfl : k = m := by omega
        have HO := Lib.hid hown; clear hown
        have HRS := Lib.hid hRS; clear hRS
        go_wp2
        go_ret
        exact ⟨R, NodesTold.trans HEc.out (nodes_told HO.out), by rw [HN.out]; omega, fun x hx => (HS.out.2.1 x (List.mem_of_mem_take (HRS.out.1 x hx))).1, HRS.out.2⟩
end Go.Proofs.YtiopahkigbdmcaaGreat
/- Without rules, with deletion, the mirror is the sender's tree .. (layer 14): the law's walk. -/
namespace Go.Proofs.YtiopahkigbdmcaaGreat
open Go Go.Proofs Go.RowKit

theorem pick_nil (S : List NodeV) : pickF [] false S = shownF S := by
  unfold pickF shownF nodesIn
  apply List.filter_congr
  intro x _
  rw [out_nil]
  show (!inF x && (false == false)) = (inF x == false)
  cases inF x <;> rfl
/-- Among few: what is found at a node's path in a list with distinct paths. -/
theorem find_is {M : List NodeV} (hM : SortedN M) {x : NodeV} (hx : x ∈ M) {p : ByteArray} (hp : p = x.path) : findF M p = some x := by
  cases hf : findF M p with
  | none =>
    unfold findF at hf
    rw [List.find?_eq_none] at hf
    have := hf x hx
    rw [hp] at this; simp at this
  | some y =>
    obtain ⟨h1, h2⟩ := find_mem hf
    rw [hM.uniq h1 hx (by unfold nm; rw [h2, hp])]
theorem keep_find {rs : Rules} {s d M : List NodeV} (hS : Sides rs s d) (hM : OfIs rs false s d M) {x : NodeV} (hx : x ∈ d) : ∃ n, findF M x.path = some n ∧ (n = x ∨ n.kind = 1 ∨ ∃ z ∈ s, z.path = x.path) := by
  obtain ⟨n, h1, h2, h3⟩ := mir_keeps hS hx
  refine ⟨n, find_is hM.1 ((hM.2 n).2 h1) (nm_path h2).symm, ?_⟩
  rcases h3 with h | h | ⟨z, hz, h⟩
  · exact Or.inl h
  · exact Or.inr (Or.inl h)
  · exact Or.inr (Or.inr ⟨z, hz, nm_path h⟩)
theorem TinyL.sub {L R : List NodeV} (h : TinyL L) (hl : R.length ≤ L.length) (hm : ∀ x ∈ R, x ∈ L) : SmallL R := ⟨by have := h.1; omega, fun x hx => by have := h.2 x (hm x hx); omega⟩
theorem of_len {rs : Rules} {del : Bool} {s d M : List NodeV} (h : OfIs rs del s d M) : M.length ≤ s.length + d.length := by
  haveI : DecidableEq NodeV := fun a b => Classical.propDecidable (a = b)
  have := nodup_len (L := M) (U := s ++ d) (h.1.imp (fun {a b} h e => by rw [e] at h; exact cmp_irr _ h)) (fun x hx => by
    rcases (h.2 x).1 hx with h | h
    · exact List.mem_append.2 (Or.inl h.1)
    · exact List.mem_append.2 (Or.inr h.1))
  rwa [List.length_append] at this
theorem few_pick {rs : Rules} {A : List NodeV} (h : A.length ≤ 24) : (pickF rs false A).length ≤ 24 := Nat.le_trans (List.length_filter_le _ _) h
theorem few_shown {A : List NodeV} (h : A.length ≤ 24) : (shownF A).length ≤ 24 := Nat.le_trans (List.length_filter_le _ _) h
set_option maxRecDepth 100000 in
set_option maxHeartbeats 8000000 in
set_option maxRecDepth 100000 in
theorem plainLaw (sa da ra : Option Addr) (S D : List NodeV) (rs : Rules) (sc dc rc : Nat) (w : World) (hS : NodesAt w sa S) (hD : NodesAt w da D) (hR : RulesAt w ra rs) :
    Calls Tryz.prog 5 #[.slice sa S.length sc, .slice da D.length dc, .slice ra rs.length rc] w (RetV w (.bool true)) := by
  have HF := Lib.hid (fewW sa da ra S D rs sc dc rc w hS hD hR)
  have HAw := Lib.hid (fun w => awakeM w)
  have HMem := Lib.hid (And.intro hS (And.intro hD hR))
  have HOs := Lib.hid (fun w' (hs : SmallL S) (h : Ext w w') => ofT_any sa S sc w' hs (hS.ext h))
  have HOd := Lib.hid (fun w' (hs : SmallL D) (h : Ext w w') => ofT_any da D dc w' hs (hD.ext h))
  clear hS hD hR
  obtain ⟨n, hn⟩ : ∃ n, S.length = n := ⟨_, rfl⟩
  obtain ⟨m, hm⟩ : ∃ m, D.length = m := ⟨_, rfl⟩
  obtain ⟨r, hr⟩ : ∃ r, rs.length = r := ⟨_, rfl⟩
  rw [hn, hm, hr] at HF
  rw [hn] at HOs
  rw [hm] at HOd
  rw [hn, hm, hr]
  have HN := Lib.hid (And.intro hn (And.intro hm hr)); clear hn hm hr
  go_enter Tryz.func5, Tryz.ntmps5
  go_wp2_with fail
  refine HF.out.mono ?_
  rintro e w1 ⟨b, rfl, hb, hE1⟩
  have H1 := Lib.hid hE1; clear hE1
  have HG := Lib.hid hb; clear hb
  cases b
  · go_wp2_with fail
    refine (HAw.out _).mono ?_
    rintro e w2 ⟨rfl, hE2⟩
    have HE2 := Lib.hid (H1.out.trans hE2); clear hE2
    go_wp2
    go_ret
    exact ⟨rfl, HE2.out⟩
  · have hG0 : TinyL S ∧ TinyL D ∧ TinyR rs := HG.out (by simp)
    have HTin := Lib.hid hG0; clear hG0 HG
    have hSh : Short rs := HTin.out.2.2.short
    have HSh := Lib.hid hSh; clear hSh
    go_wp2_with fail
    refine (HOs.out _ HTin.out.1.small H1.out).mono ?_
    rintro e w2 ⟨A, ⟨aa, ca, rfl, hE2, hA2, -⟩, hAl, hAm, hAt⟩
    have HLa := Lib.hid (Nat.le_trans hAl HTin.out.1.1)
    have H2 := Lib.hid (And.intro (H1.out.trans hE2) (And.intro hA2 (And.intro (HTin.out.1.sub hAl hAm) hAt))); clear hE2 hA2 hAl hAm hAt
    go_wp2_with fail
    refine (HOd.out _ HTin.out.2.1.small H2.out.1).mono ?_
    rintro e w3 ⟨B, ⟨ab, cb, rfl, hE3, hB3, -⟩, hBl, hBm, hBt⟩
    have HLb := Lib.hid (Nat.le_trans hBl HTin.out.2.1.1)
    have H3 := Lib.hid (And.intro (H2.out.1.trans hE3) (And.intro (H2.out.2.1.ext hE3) (And.intro hB3 (And.intro (HTin.out.2.1.sub hBl hBm) hBt)))); clear hE3 hB3 hBl hBm hBt
    -- what is known
    have hAs := H2.out.2.2.1
    have hAt := H2.out.2.2.2
    have hBs := H3.out.2.2.2.1
    have hBt := H3.out.2.2.2.2
    have hn0 : SmallL [] := ⟨by decide, fun x hx => by simp at hx⟩
    have hsh0 : Short [] := ⟨by decide, fun x hx => by simp at hx⟩
    have HO1 := Lib.hid (fun w' (h : Ext w3 w') => ofMW aa ab none A B [] ca cb 0 true w' hAs hBs hsh0 hAt hBt (H3.out.2.1.ext h) (H3.out.2.2.1.ext h) (Or.inl rfl))
    have HO2 := Lib.hid (fun w' (h : Ext w3 w') => ofMW aa none ra A [] rs ca 0 rc true w' hAs hn0 HSh.out hAt TreeL.nil (H3.out.2.1.ext h) ListAt.nil (HMem.out.2.2.ext (H3.out.1.trans h)))
    have HO3 := Lib.hid (fun w' (h : Ext w3 w') => ofMW aa ab ra A B rs ca cb rc false w' hAs hBs HSh.out hAt hBt (H3.out.2.1.ext h) (H3.out.2.2.1.ext h) (HMem.out.2.2.ext (H3.out.1.trans h)))
    have HO4 := Lib.hid (fun w' (h : Ext w3 w') => ofMW none ab ra [] B rs 0 cb rc false w' hn0 hBs HSh.out TreeL.nil hBt ListAt.nil (H3.out.2.2.1.ext h) (HMem.out.2.2.ext (H3.out.1.trans h)))
    have HS1 := Lib.hid (fun w' (h : Ext w3 w') => shownD_any aa A ca w' hAs (H3.out.2.1.ext h))
    have HS2 := Lib.hid (fun w' (h : Ext w3 w') => shownD_any ab B cb w' hBs (H3.out.2.2.1.ext h))
    have HP1 := Lib.hid (fun w' (h : Ext w3 w') => pickD_any aa ra A rs ca rc false w' hAs HSh.out (H3.out.2.1.ext h) (HMem.out.2.2.ext (H3.out.1.trans h)))
    have HSd1 := Lib.hid (sides_of hAs hBs hsh0 hAt hBt)
    have HSd2 := Lib.hid (sides_of hAs hn0 HSh.out hAt TreeL.nil)
    have HSd3 := Lib.hid (sides_of hAs hBs HSh.out hAt hBt)
    have HSd4 := Lib.hid (sides_of hn0 hBs HSh.out TreeL.nil hBt)
    have HAtD := Lib.hid (fun p w' (h : Ext w3 w') => atD_any aa A ca p w' (by have := hAs.1; omega) (H3.out.2.1.ext h))
    have hAl := hAs.1
    have hBl := hBs.1
    clear hAs hAt hBs hBt hn0 hsh0
    rw [HN.out.2.2] at HO2 HO3 HO4 HP1
    rw [pick_nil] at HO1 HSd1
    obtain ⟨la, hla⟩ : ∃ n, A.length = n := ⟨_, rfl⟩
    obtain ⟨lb, hlb⟩ : ∃ n, B.length = n := ⟨_, rfl⟩
    rw [hla] at HO1 HO2 HO3 HS1 HP1 HAtD hAl
    rw [hlb] at HO1 HO3 HO4 HS2 hBl
    rw [hla, hlb]
    clear hla hlb
    go_wp2_with fail
    refine (HO1.out _ (Ext.refl w3)).mono ?_
    rintro e w4 ⟨M, hM, hMl, a4, c4, rfl, hE4, hA4, -⟩
    obtain rfl : M = shownF A := hM.is (tree_shown H2.out.2.2.2).sorted (fun x => mir_plain HSd1.out.sides out_nil x)
    have H4 := Lib.hid (And.intro hE4 hA4); clear hM hE4 hA4
    go_wp2_with fail
    refine (HS1.out _ H4.out.1).mono ?_
    rintro e w5 ⟨a5, c5, rfl, hE5, hA5, -⟩
    have H5 := Lib.hid (And.intro (H4.out.1.trans hE5) (And.intro (H4.out.2.ext hE5) hA5)); clear hE5 hA5
    go_wp2_with fail
    refine (sameD _ _ _ _ _ _ _ H5.out.2.1 H5.out.2.2 (by omega)).mono ?_
    rintro e w6 ⟨b6, rfl, hb6, hE6⟩
    obtain rfl : b6 = true := hb6.2 rfl
    have H6 := Lib.hid (H5.out.1.trans hE6); clear hE6 hb6 hMl
    go_wp2_with fail
    refine (HO2.out _ H6.out).mono ?_
    rintro e w7 ⟨M, hM, hMl, a7, c7, rfl, hE7, hA7, -⟩
    obtain rfl : M = pickF rs false A := hM.is (tree_pick H2.out.2.2.2).sorted (fun x => mir_empty HSd2.out.sides x)
    have H7 := Lib.hid (And.intro (H6.out.trans hE7) hA7); clear hM hE7 hA7
    go_wp2_with fail
    refine (HP1.out _ H7.out.1).mono ?_
    rintro e w8 ⟨a8, c8, rfl, hE8, hA8, -⟩
    have H8 := Lib.hid (And.intro (H7.out.1.trans hE8) (And.intro (H7.out.2.ext hE8) hA8)); clear hE8 hA8
    go_wp2_with fail
    refine (sameD _ _ _ _ _ _ _ H8.out.2.1 H8.out.2.2 (by omega)).mono ?_
    rintro e w9 ⟨b9, rfl, hb9, hE9⟩
    obtain rfl : b9 = true := hb9.2 rfl
    have H9 := Lib.hid (H8.out.1.trans hE9); clear hE9 hb9 hMl
    go_wp2_with fail
    refine (HO3.out _ H9.out).mono ?_
    rintro e wA ⟨M, hM, hMl, aA, cA, rfl, hEA, hAA, -⟩
    have HA := Lib.hid (And.intro (H9.out.trans hEA) (And.intro hAA hM)); clear hM hEA hAA
    go_wp2_with fail
    refine (HS2.out _ HA.out.1).mono ?_
    rintro e wB ⟨aB, cB, rfl, hEB, hAB, -⟩
    have HB := Lib.hid (And.intro (HA.out.1.trans hEB) (And.intro (HA.out.2.1.ext hEB) hAB)); clear hEB hAB
    have hlm : (shownF B).length ≤ 1000 := HSd3.out.dsm.1
    obtain ⟨lm, hlme⟩ : ∃ lm, M.length = lm := ⟨_, rfl⟩
    obtain ⟨q, hq⟩ : ∃ q, (shownF B).length = q := ⟨_, rfl⟩
    rw [hlme] at hMl ⊢
    rw [hq] at hlm ⊢
    have HL := Lib.hid (And.intro hlme hq); clear hlme hq
    go_wp2
    go_loopw [11, 12, 13] (fun i _ _ wr => ∃ k : Nat, k ≤ q ∧ i = .int .i64 k ∧ Ext wB wr) (fun i _ _ _ => q - (intOf i).toNat)
    case atStart => exact ⟨0, Nat.zero_le _, rfl, Ext.refl wB⟩
    case round =>
      obtain ⟨k, hk, rfl, hE⟩ := hrel
      by_cases hlt : k < q
      · have hkl : k < (shownF B).length := by rw [HL.out.2]; exact hlt
        obtain ⟨bl, off, rfl, hb, c0, c1, c2, c3, c4⟩ := NodesAt.node (HB.out.2.2.ext hE) hkl
        have HK := Lib.hid (fun w2 (h : Ext wr w2) => And.intro ((h.cell hb).trans c0) (And.intro ((h.cell hb).trans c1) (And.intro ((h.cell hb).trans c2) (And.intro ((h.cell hb).trans c3) ((h.cell hb).trans c4)))))
        have hkeep := keep_find HSd3.out.sides HA.out.2.2 (List.getElem_mem hkl)
        have hps := (HSd3.out.dsm.2 _ (List.getElem_mem hkl)).1
        obtain ⟨x, hx⟩ : ∃ x, (shownF B)[k] = x := ⟨_, rfl⟩
        rw [hx] at hkeep HK c0 c1 c2 c3 c4 hps
        clear hx
        obtain ⟨nn, hn1, hn2⟩ := hkeep
        have HFi := Lib.hid ((findP_any aA M cA x.path wr (by have h1 := of_len HA.out.2.2; have h2 := few_pick (rs := rs) HLa.out; have h3 := few_shown HLb.out; omega) (HB.out.2.1.ext hE)).mono fun e w' h => find_one h)
        rw [HL.out.1] at HFi
        have HE := Lib.hid hE; clear hE
        unfold NodeV.val at HFi
        go_upto_region 12 with (go_at_call 19; refine (HFi.out).mono ?_; rintro e w2 ⟨x', ok, rfl, hx1, hx2, hE2⟩; have HX := Lib.hid (And.intro hx1 hx2); have HE2 := Lib.hid hE2; clear hE2 hx1 hx2)
        obtain ⟨rfl, rfl⟩ : ok = true ∧ x' = nn := by
          cases ok
          · have := HX.out.2 rfl
            rw [hn1] at this; cases this
          · have := HX.out.1 rfl
            rw [hn1] at this; injection this with this; exact ⟨rfl, this.symm⟩
        have HNb := Lib.hid (heap_at w2 (nodeObj x') rfl)
        unfold nodeObj at HNb
        have hiff := eqNB_iff x' x
        clear c0 c1 c2 c3 c4
        cases hq : eqNB x'.path x'.kind x'.mode x'.time x'.data x.path x.kind x.mode x.time x.data
        · rw [hq] at hiff
          have hne : x' ≠ x := fun e => by have := hiff.2 e; cases this
          clear hiff
          by_cases hk1 : x'.kind = 1
          · have g1 : (x'.kind != 1) = false := by rw [hk1]; rfl
            clear hk1 hn2 hne
            refine wp_draw_stages 96 24 [false, false, false, false, false, false, false, false, false, false, false, false, false, false, false, false, false, false, false, false, false, false, true, true] [([true, true, true, true, true, true, true, true, true, true, true, true, true, true, true, true, true, true, true, true, true], 21)] Ext Ext.refl (fun _ _ _ => Ext.trans) (by kernel_rfl) (by kernel_rfl) ?_
            apply wpStages_cons (by simp)
            · intro w1 hw1
              simp only [sel_true, sel_nil]
              have hc := hw1.cellsOf (blk_drew HNb.out); obtain ⟨d0, d1, d2, d3, d4⟩ := HK.out _ (Ext.trans (HE2.out.alloc _).drew hw1)
              repeat ((with_reducible refine wpStill_step (fun K hK => ?_)); go_simp; refine hK _ ?_; clear hK K)
              exact wpStill_nil rfl
            try simp only [List.getD_cons_succ, List.getD_cons_zero]
            go_wp2_with fail
            refine ⟨Ext.refl _, ?_⟩
            refine wpStages_nil ?_
            simp only [sel_true, sel_false, sel_nil]
            repeat ((with_reducible refine wpStill_step (fun K hK => ?_)); go_simp; refine hK _ ?_; clear hK K)
            refine wpStill_nil ?_
            try simp only [List.drop_succ_cons, List.drop_zero]
            go_wp2
            go_roundw
            case rel => exact ⟨k + 1, by omega, by go_num, HE.out.trans (HE2.out.alloc _).drew⟩
            case measure => simp [intOf]; omega

          · have g1 : (x'.kind != 1) = true := by simpa using hk1
            have hz : ∃ z ∈ A, z.path = x.path := by
              rcases hn2 with h | h | ⟨z, hz, h⟩
              · exact absurd h hne
              · exact absurd h hk1
              · exact ⟨z, (List.mem_filter.1 hz).1, h⟩
            have hat : ∃ j : Nat, atF A x.path = j := by
              rcases at_case A x.path with ⟨_, h⟩ | ⟨j, _, h, _⟩
              · obtain ⟨z, hz, h1⟩ := hz
                exact absurd h1 (h z hz)
              · exact ⟨j, h⟩
            obtain ⟨j, hj⟩ := hat
            have HAt1 := Lib.hid (fun w' (h : Ext w3 w') => by have h1 := HAtD.out x.path w' h; rw [hj] at h1; exact h1)
            clear hk1 hn2 hne hz hj
            refine wp_draw_stages 96 24 [false, false, false, false, false, false, false, false, false, false, false, false, false, false, false, false, false, false, false, false, false, false, true, true] [([true, true, true, true, true, true, true, true, true, true, true, true, true, true, true, true, true, true, true, true, true], 21)] Ext Ext.refl (fun _ _ _ => Ext.trans) (by kernel_rfl) (by kernel_rfl) ?_
            apply wpStages_cons (by simp)
            · intro w1 hw1
              simp only [sel_true, sel_nil]
              have hc := hw1.cellsOf (blk_drew HNb.out); obtain ⟨d0, d1, d2, d3, d4⟩ := HK.out _ (Ext.trans (HE2.out.alloc _).drew hw1)
              repeat ((with_reducible refine wpStill_step (fun K hK => ?_)); go_simp; refine hK _ ?_; clear hK K)
              exact wpStill_nil rfl
            try simp only [List.getD_cons_succ, List.getD_cons_zero]
            go_wp2_with (go_at_call 21; refine (HAt1.out _ (HB.out.1.trans (HE.out.trans (HE2.out.alloc _).drew))).mono ?_; rintro e w5' ⟨rfl, hE5'⟩; have HE5' := Lib.hid hE5'; clear hE5')
            refine ⟨HE5'.out, ?_⟩
            refine wpStages_nil ?_
            simp only [sel_true, sel_false, sel_nil]
            repeat ((with_reducible refine wpStill_step (fun K hK => ?_)); go_simp; refine hK _ ?_; clear hK K)
            refine wpStill_nil ?_
            try simp only [List.drop_succ_cons, List.drop_zero]
            go_wp2
            go_roundw
            case rel => exact ⟨k + 1, by omega, by go_num, HE.out.trans ((HE2.out.alloc _).drew.trans HE5'.out)⟩
            case measure => simp [intOf]; omega
        · clear hiff hn2
          refine wp_draw_stages 96 24 [false, false, false, false, false, false, false, false, false, false, false, false, false, false, false, false, false, false, false, false, false, false, true, true] [([true, true, true, true, true, true, true, true, true, true, true, true, true, true, true, true, true, true, true, true, true], 21)] Ext Ext.refl (fun _ _ _ => Ext.trans) (by kernel_rfl) (by kernel_rfl) ?_
          apply wpStages_cons (by simp)
          · intro w1 hw1
            simp only [sel_true, sel_nil]
            have hc := hw1.cellsOf (blk_drew HNb.out); obtain ⟨d0, d1, d2, d3, d4⟩ := HK.out _ (Ext.trans (HE2.out.alloc _).drew hw1)
            repeat ((with_reducible refine wpStill_step (fun K hK => ?_)); go_simp; refine hK _ ?_; clear hK K)
            exact wpStill_nil rfl
          try simp only [List.getD_cons_succ, List.getD_cons_zero]
          go_wp2_with fail
          refine ⟨Ext.refl _, ?_⟩
          refine wpStages_nil ?_
          simp only [sel_true, sel_false, sel_nil]
          repeat ((with_reducible refine wpStill_step (fun K hK => ?_)); go_simp; refine hK _ ?_; clear hK K)
          refine wpStill_nil ?_
          try simp only [List.drop_succ_cons, List.drop_zero]
          go_wp2
          go_roundw
          case rel => exact ⟨k + 1, by omega, by go_num, HE.out.trans (HE2.out.alloc _).drew⟩
          case measure => simp [intOf]; omega
      · obtain rfl : k = q := by omega
        have HE := Lib.hid hE; clear hE
        have H10 := Lib.hid (HB.out.1.trans HE.out)
        go_wp2_with fail
        refine (HAw.out _).mono ?_
        rintro e wC ⟨rfl, hEC⟩
        have HC := Lib.hid (H10.out.trans hEC)
        have HCs := Lib.hid ((HB.out.2.2.ext HE.out).ext hEC); clear hEC
        go_wp2_with fail
        refine (HO4.out _ HC.out).mono ?_
        rintro e wD ⟨M', hM', hMl', aD, cD, rfl, hED, hAD, -⟩
        obtain rfl : M' = shownF B := hM'.is (tree_shown H3.out.2.2.2.2).sorted (fun x => mir_none HSd4.out.sides x)
        have HD := Lib.hid (And.intro (HC.out.trans hED) (And.intro hAD (HCs.out.ext hED))); clear hM' hED hAD
        go_wp2_with fail
        have hsm := sameD aD aB (shownF B) (shownF B) cD cB wD HD.out.2.1 HD.out.2.2 (by omega)
        rw [HL.out.2] at hsm ⊢
        refine hsm.mono ?_
        rintro e wE ⟨bE, rfl, hbE, hEE⟩
        obtain rfl : bE = true := hbE.2 rfl
        have HF := Lib.hid (HD.out.1.trans hEE); clear hEE hbE hsm
        go_wp2
        go_ret
        exact ⟨rfl, H3.out.1.trans HF.out⟩
end Go.Proofs.YtiopahkigbdmcaaGreat
