/- The document's right paths (layer 1) and right nodes (layer 9): the walks; it is enough that they answer. -/
import Derived.Test.YtodanmikpajeeaaPathB
namespace Go.Proofs.Ytodanmikpajeeaa
open Go Go.Proofs Go.RowKit

/-- The call hands back an int; old memory is as it was. -/
def RetI (w : World) (e : Ending) (w' : World) : Prop := ∃ z : Int, e = .returned (.int .i64 z) ∧ Below w.heap.size w w'

set_option maxHeartbeats 2000000 in
set_option maxRecDepth 100000 in
theorem path_some (p : ByteArray) (w : World) (hs : p.size ≤ 1000) :
    Calls Try.prog 47 #[.string p] w (RetB w fun _ => True) := by
  go_enter Try.func47, Try.ntmps47
  go_wp2_with (go_at_call 58; refine (cut_some p _ hs).mono ?_; rintro e w1 ⟨v, rfl, hE, hv⟩)
  obtain rfl | ⟨g, n, cap, cur, rfl, hg, hb, hn1, hn2, hcap, hm, hcs, hall, _⟩ := hv
  · refine wp_loop_once ?_
    go_wp2
    go_ret
    exact ⟨_, rfl, trivial, hE⟩
  · go_loopw [4] (fun i w' => ∃ k : Nat, k ≤ n ∧ i = .int .i64 k ∧ Ext w1 w') (fun i _ => n - (intOf i).toNat)
    case atStart => exact ⟨0, Nat.zero_le _, rfl, Ext.refl w1⟩
    case round =>
      obtain ⟨k, hk, rfl, hE1⟩ := hrel
      by_cases hlt : k < n
      · obtain ⟨sl, hsl, hsls⟩ := hall k hlt
        have hcell : wr.cell? ⟨g, k, none⟩ = some (.string sl) := (hE1.cellsOf hb k).trans hsl
        have hfree : wr.frozen? ⟨g, k, none⟩ = false := hE1.freeOf hb k
        have wr4 : IntKind.i64.wrap ((k : Int) + 1) = (k : Int) + 1 := IntWalk.i64_in _ (by omega)
        have HB := Lib.hid hb; clear hb
        have HALL := Lib.hid hall; clear hall
        have HE := Lib.hid hE; clear hE
        have HE1 := Lib.hid hE1; clear hE1
        go_wp2_with (go_at_call 59; refine (name_some sl _ (by unfold maxLen; omega)).mono ?_; rintro e w2 ⟨b, rfl, _, hb2⟩; have HE2 := Lib.hid (show Ext _ w2 from hb2); clear hb2; cases b)
        · go_ret
          exact ⟨_, rfl, trivial, HE.out.trans (HE1.out.trans HE2.out)⟩
        · go_roundw
          case rel => first | exact ⟨k + 1, by omega, by go_num, HE1.out.trans HE2.out⟩ | ((repeat apply Exists.intro); exact ⟨⟨k + 1, by omega, by go_num, HE1.out.trans HE2.out⟩, rfl⟩)
          case measure => simp [intOf]; omega
      · obtain rfl : k = n := by omega
        go_wp2
        go_ret
        exact ⟨_, rfl, trivial, hE.trans hE1⟩

theorem empty_or (d : ByteArray) : d = ByteArray.empty ∨ (0 < d.size ∧ (0 : Int) < d.size ∧ ¬ d = ByteArray.empty ∧ ((d.size : Int) == 0) = false) := by
  rcases Nat.eq_zero_or_pos d.size with h | h
  · exact Or.inl (ByteArray.ext (Array.eq_empty_of_size_eq_zero h))
  · refine Or.inr ⟨h, by omega, ?_, by rw [beq_eq_false_iff_ne]; omega⟩
    rintro rfl
    exact absurd h (by decide)

set_option maxHeartbeats 4000000 in
set_option maxRecDepth 100000 in
theorem check_some (p : ByteArray) (k m t : Int) (d : ByteArray) (w : World) (hs : p.size ≤ 1000) (hd : d.size ≤ 1000) :
    Calls Try.prog 35 #[.agg #[.string p, .int .i64 k, .int .i64 m, .int .i64 t, .string d]] w (RetI w) := by
  have hd9 : (d.size : Int) ≤ 16384 := by omega
  obtain rfl | ⟨hd0, hd1, hd2, hd3⟩ := empty_or d
  all_goals by_cases hk1 : k = 1
  all_goals first | subst hk1 | (by_cases hk2 : k = 2; all_goals first | subst hk2 | (by_cases hk3 : k = 3; all_goals first | subst hk3 | skip))
  all_goals
    go_enter Try.func35, Try.ntmps35
    go_wp2_with (go_at_call 47; refine (path_some p _ hs).mono ?_; rintro e w1 ⟨b, rfl, _, hb2⟩; have hE2 : Ext _ w1 := hb2; clear hb2; have hE2c0 := hE2.cellsOf (b := w.heap.size) (heap_at _ _ (by simp)); have hE2l0 := hE2.blt (b := w.heap.size) (heap_at _ _ (by simp)); have hE2f0 := hE2.freeOf (b := w.heap.size) (heap_at _ _ (by simp)); cases b)
  all_goals try (go_ret; first | exact ⟨_, rfl, ((Ext.refl w).alloc _).trans hE2⟩ | exact ⟨_, rfl, (Ext.refl w).alloc _⟩)
  go_loop [3] (fun i => ∃ j : Nat, j ≤ d.size ∧ i = .int .i64 j) (fun i => d.size - (intOf i).toNat)
  case atStart => exact ⟨0, Nat.zero_le _, rfl⟩
  case round =>
    obtain ⟨j, hj, rfl⟩ := hrel
    by_cases hlt : j < d.size
    · go_wp2
      all_goals first
        | (go_round
           case rel => exact ⟨j + 1, by omega, by go_num⟩
           case measure => simp [intOf]; omega)
        | (go_ret
           exact ⟨_, rfl, ((Ext.refl w).alloc _).trans hE2⟩)
    · obtain rfl : j = d.size := by omega
      go_wp2
      go_ret
      exact ⟨_, rfl, ((Ext.refl w).alloc _).trans hE2⟩
end Go.Proofs.Ytodanmikpajeeaa
