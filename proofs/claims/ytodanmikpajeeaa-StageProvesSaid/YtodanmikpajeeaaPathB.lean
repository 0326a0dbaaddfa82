/- The document's cuts (layer 1): the walk; of the pieces it is enough to know that they are short texts. -/
import Derived.Test.YtodanmikpajeeaaPathA
import Derived.OwnWalk
import Derived.Laws.AppendOwn
namespace Go.Proofs.Ytodanmikpajeeaa
open Go Go.Proofs Go.RowKit

/-- A row of k or fewer texts of the call's own, each short. -/
def CutRow (w0 : World) (k : Nat) (v : Value) (w : World) : Prop := ∃ g n cap cur, v = .slice (some ⟨g, 0, none⟩) n cap ∧ w0.heap.size ≤ g ∧ w.heap[g]? = some (.cells cur 9 (0, 0)) ∧ 1 ≤ n ∧ n ≤ k + 1 ∧ n ≤ cap ∧ cap ≤ maxLen ∧ cur.size = cap ∧
  (∀ j, j < n → ∃ s : ByteArray, cur[j]? = some (.string s) ∧ s.size ≤ k) ∧ Ext w0 w

theorem CutRow.start (w0 : World) : CutRow w0 0 (.slice (some ⟨w0.heap.size, 0, none⟩) 1 1) (w0.alloc (.cells #[.string ByteArray.empty] 9)) := by
  refine ⟨w0.heap.size, 1, 1, _, rfl, Nat.le_refl _, heap_new _ _, by omega, by omega, by omega, by unfold maxLen; omega, rfl, ?_, (Ext.refl w0).alloc _⟩
  intro j hj
  obtain rfl : j = 0 := by omega
  exact ⟨_, rfl, Nat.le_refl _⟩

theorem CutRow.own {w0 w : World} {g n cap : Nat} {cur : Array Value} (hg : w0.heap.size ≤ g) (hb : w.heap[g]? = some (.cells cur 9 (0, 0))) (h1 : n ≤ cap) (h2 : cap ≤ maxLen) (h3 : cur.size = cap) :
    w.ownsRow w0.heap.size 9 1 (.slice (some ⟨g, 0, none⟩) n cap) n (cur.toList.take n) := by
  refine ⟨by simp; omega, .inr ⟨g, cap, cur, rfl, hg, hb, h1, h2, by omega, by simp⟩⟩

theorem CutRow.appended {w0 w w' : World} {k g n cap : Nat} {cur : Array Value} {v' : Value} (hE : Ext w0 w) (hg : w0.heap.size ≤ g) (hn1 : 1 ≤ n) (hn : n ≤ k + 1) (hcap : n ≤ cap) (h3 : cur.size = cap)
    (hall : ∀ j, j < n → ∃ s : ByteArray, cur[j]? = some (.string s) ∧ s.size ≤ k)
    (hown : w'.ownsRow w0.heap.size 9 1 v' (n + 1) (cur.toList.take n ++ [.string ByteArray.empty])) (hgr : w.grownBy w' (some g)) : CutRow w0 (k + 1) v' w' := by
  obtain ⟨_, ⟨_, h0⟩ | ⟨g', cap', cur', rfl, hg', hb', hc', hm', hs', hx⟩⟩ := hown
  · omega
  refine ⟨g', n + 1, cap', cur', rfl, hg', hb', by omega, by omega, hc', hm', by omega, ?_, ?_⟩
  · intro j hj
    have e : cur'.toList[j]? = (cur.toList.take n ++ [Value.string ByteArray.empty])[j]? := by
      rw [← hx, List.getElem?_take]
      simp; omega
    rw [Array.getElem?_toList] at e
    rw [e]
    by_cases hjn : j < n
    · obtain ⟨s, hs, hl⟩ := hall j hjn
      refine ⟨s, ?_, by omega⟩
      rw [List.getElem?_append_left (by simp; omega), List.getElem?_take_of_lt hjn, Array.getElem?_toList, hs]
    · obtain rfl : j = n := by omega
      refine ⟨ByteArray.empty, ?_, by simp⟩
      rw [List.getElem?_append_right (by simp; omega)]
      simp [show min j cur.size = j by omega]
  · refine ⟨hgr.os.trans hE.os, hgr.tape.trans hE.tape, hgr.output.trans hE.output, Nat.le_trans hE.size hgr.size, fun b hb => ?_⟩
    have h1 := Below.block hE b hb
    have := hE.size
    exact (hgr.block b (by omega) (by intro e; cases e; omega)).trans h1
theorem CutRow.stored {w0 w : World} {k g n cap : Nat} {cur : Array Value} {t : ByteArray} (hE : Ext w0 w) (hg : w0.heap.size ≤ g) (hb : w.heap[g]? = some (.cells cur 9 (0, 0))) (hn1 : 1 ≤ n) (hn : n ≤ k + 1) (hcap : n ≤ cap) (hm : cap ≤ maxLen) (h3 : cur.size = cap)
    (hall : ∀ j, j < n → ∃ s : ByteArray, cur[j]? = some (.string s) ∧ s.size ≤ k) (ht : t.size ≤ k + 1) :
    CutRow w0 (k + 1) (.slice (some ⟨g, 0, none⟩) n cap) (w.setCell ⟨g, n - 1, none⟩ (.string t)) := by
  refine ⟨g, n, cap, _, rfl, hg, blk_set _ hb, hn1, by omega, hcap, hm, by simpa using h3, ?_, hE.setNew hg _⟩
  intro j hj
  by_cases hjn : j = n - 1
  · subst hjn
    refine ⟨t, ?_, ht⟩
    rw [Array.getElem?_setIfInBounds_self_of_lt (by omega)]
  · obtain ⟨s, hs, hl⟩ := hall j hj
    refine ⟨s, ?_, by omega⟩
    rw [Array.getElem?_setIfInBounds_ne (by omega)]
    exact hs
theorem CutRow.drew {w0 w : World} {k : Nat} {v : Value} (h : CutRow w0 k v w) : CutRow w0 k v w.drew := by
  obtain ⟨g, n, cap, cur, hv, hg, hb, h1, h2, h3, h4, h5, h6, hE⟩ := h
  exact ⟨g, n, cap, cur, hv, hg, hb, h1, h2, h3, h4, h5, h6, hE.drew⟩

/-- What a cut hands back. -/
def CutTold (p : ByteArray) (w : World) (e : Ending) (w' : World) : Prop := ∃ v, e = .returned v ∧ Ext w w' ∧ (v = .slice none 0 0 ∨ CutRow w p.size v w')

set_option maxHeartbeats 2000000 in
set_option maxRecDepth 100000 in
theorem cut_some (p : ByteArray) (w : World) (hs : p.size ≤ 1000) :
    Calls Try.prog 58 #[.string p] w (CutTold p w) := by
  obtain ⟨i0, hi, hz0, hz1, hz2⟩ := info_parts (P := Try.prog) (e := 9) (z := .string ByteArray.empty) (size := 1) (bytes := 16) (by kernel_rfl)
  go_enter Try.func58, Try.ntmps58
  go_wp2
  · go_ret
    exact ⟨_, rfl, Ext.refl w, Or.inl rfl⟩
  have hpe : p.toList.isEmpty = false := by assumption
  rw [hpe]
  clear hpe
  have HI := Lib.hid hi; clear hi
  go_loopw [3, 4] (fun v i w' => ∃ k : Nat, k ≤ p.size ∧ i = .int .i64 k ∧ CutRow w k v w') (fun _ i _ => p.size - (intOf i).toNat)
  case atStart => exact ⟨0, Nat.zero_le _, rfl, CutRow.start w⟩
  case round =>
    obtain ⟨k, hk, rfl, g, n, cap, cur, rfl, hg, hb, hn1, hn2, hcap, hm, hcs, hall, hE⟩ := hrel
    by_cases hlt : k < p.size
    · obtain ⟨m, rfl⟩ : ∃ m, n = m + 1 := ⟨n - 1, by omega⟩
      obtain ⟨sl, hsl, hsls⟩ := hall m (by omega)
      have hcell : wr.cell? ⟨g, m, none⟩ = some (.string sl) := blk_cell hb hsl
      have hfree : wr.frozen? ⟨g, m, none⟩ = false := blk_free hb
      have hglt := blk_lt hb
      have hown := Lib.hid (CutRow.own hg hb hcap hm hcs)
      have wr1 : IntKind.i64.wrap (((m + 1 : Nat) : Int) - 1) = (m : Int) := by rw [IntWalk.i64_in _ (by unfold maxLen at hm; omega)]; omega
      have wr2 : IntKind.i64.wrap ((m : Int) + 1 - 1) = (m : Int) := by rw [IntWalk.i64_in _ (by unfold maxLen at hm; omega)]; omega
      have wr3 : IntKind.i64.wrap (m : Int) = (m : Int) := IntWalk.i64_in _ (by unfold maxLen at hm; omega)
      have wr4 : IntKind.i64.wrap ((k : Int) + 1) = (k : Int) + 1 := IntWalk.i64_in _ (by omega)
      have e1 : (m : Int) < (m : Int) + 1 := by omega
      have e2 : (k : Int) ≤ (k : Int) + 1 := by omega
      have e3 : (k : Int) + 1 ≤ (p.size : Int) := by omega
      have e4 : (0 : Int) ≤ (k : Int) := by omega
      have e5 : (0 : Int) ≤ (m : Int) := by omega
      have e6 : ¬ 9223372036854775807 < sl.size + (min (k + 1) p.size - k) := by omega
      have e7 : (sl ++ p.extract k (k + 1)).size ≤ k + 1 := by simp only [ByteArray.size_append, ByteArray.size_extract]; omega
      have hcelld : wr.drew.cell? ⟨g, m, none⟩ = some (.string sl) := hcell
      have hfreed : wr.drew.frozen? ⟨g, m, none⟩ = false := hfree
      have HB := Lib.hid hb; clear hb
      have HALL := Lib.hid hall; clear hall
      have HE := Lib.hid hE; clear hE
      go_wp2_with (at_builtin; refine wpList_append_own _ rfl _ _ 120 rfl w.heap.size 9 i0 (.string ByteArray.empty) 1 16 (by kernel_rfl) HI.out hz0 hz1 hz2 rfl (by decide) _ _ _ rfl (hown.out.alloc _) ⟨wr.heap.size, 0, none⟩ 1 1 [.string ByteArray.empty] rfl rfl (cell_one_new _ _ _) (fun x hx => by simp at hx; subst hx; rfl) (by unfold maxLen; omega) (by omega) (by have := HE.out.size; simp; omega) ?_; intro v' w1 hown' hgrow' _; have hgrow1 : wr.grownBy w1 (some g) := ⟨hgrow'.os, hgrow'.tape, hgrow'.output, by have := hgrow'.size; simp at this; omega, fun b hb hne => (hgrow'.block b (lt_alloc hb) hne).trans (Below.heap_alloc wr _ b hb)⟩)
      · go_roundw
        case rel => first | exact ⟨k + 1, by omega, by go_num, CutRow.appended HE.out hg hn1 hn2 hcap hcs HALL.out hown' hgrow1⟩ | ((repeat apply Exists.intro); exact ⟨⟨k + 1, by omega, by go_num, CutRow.appended HE.out hg hn1 hn2 hcap hcs HALL.out hown' hgrow1⟩, rfl⟩)
        case measure => simp [intOf]; omega
      · refine wp_draw_tail 17 (by kernel_rfl) (by kernel_rfl) ?_
        simp only [List.take_succ_cons, List.take_zero, List.drop_succ_cons, List.drop_zero]
        repeat still_step
        refine wpStill_nil ?_
        go_wp2
        go_roundw
        case rel => first | exact ⟨k + 1, by omega, by go_num, (CutRow.stored HE.out hg HB.out hn1 hn2 hcap hm hcs HALL.out e7).drew⟩ | ((repeat apply Exists.intro); exact ⟨⟨k + 1, by omega, by go_num, (CutRow.stored HE.out hg HB.out hn1 hn2 hcap hm hcs HALL.out e7).drew⟩, rfl⟩)
        case measure => simp [intOf]; omega
    · obtain rfl : k = p.size := by omega
      go_wp2
      go_ret
      exact ⟨_, rfl, hE, Or.inr ⟨g, n, cap, cur, rfl, hg, hb, hn1, hn2, hcap, hm, hcs, hall, hE⟩⟩
end Go.Proofs.Ytodanmikpajeeaa
