/- The law's own turning of a message that holds a signature: the walk. -/
import Derived.Test.YtodanmikpajeeaaMsgE
import Derived.Test.YtodanmikpajeeaaStageB
import Derived.OwnWalk
import Derived.Laws.AppendOwn
namespace Go.Proofs.Ytodanmikpajeeaa
open Go Go.Proofs Go.RowKit

/-- A row of signs that lie below. -/
def Signs (w : World) (a : Option Addr) (n : Nat) : Prop := n ≤ 20 ∧ (n = 0 ∨ ∃ b off, a = some ⟨b, off, none⟩ ∧ b < w.heap.size ∧
  ∀ j, j < n → ∃ x y z, w.cell? ⟨b, off + j * 3, none⟩ = some (.int .u32 x) ∧ w.cell? ⟨b, off + j * 3 + 1, none⟩ = some (.int .u64 y) ∧ w.cell? ⟨b, off + j * 3 + 2, none⟩ = some (.int .u64 z))

theorem Signs.ext {w w' : World} {a : Option Addr} {n : Nat} (h : Signs w a n) (hE : Ext w w') : Signs w' a n := by
  obtain ⟨hn, h0 | ⟨b, off, ha, hb, hall⟩⟩ := h
  · exact ⟨hn, Or.inl h0⟩
  · refine ⟨hn, Or.inr ⟨b, off, ha, Nat.lt_of_lt_of_le hb hE.size, fun j hj => ?_⟩⟩
    obtain ⟨x, y, z, h1, h2, h3⟩ := hall j hj
    exact ⟨x, y, z, (hE.cell hb).trans h1, (hE.cell hb).trans h2, (hE.cell hb).trans h3⟩

/-- The out of the loop: the row of its own. -/
def SignInv (w0 : World) (sz tl lw lh ll : Int) (a : Option Addr) (n c : Nat) (j : Nat) (w : World) : Prop := ∃ v xs, w.ownsRow (w0.heap.size + 3) 49 3 v j xs ∧
  w.heap[w0.heap.size]? = some (.cells #[.int .i64 sz, .slice a n c, .int .i64 tl, .int .u32 lw, .int .u64 lh, .int .u64 ll] 44 (0, 0)) ∧
  w.heap[w0.heap.size + 1]? = some (.cells #[.int .i64 0, .slice none 0 0, .int .i64 0, .int .u32 0, .int .u64 0, .int .u64 0] 51 (0, 0)) ∧
  w.heap[w0.heap.size + 2]? = some (.cells #[.int .i64 sz, v, .int .i64 tl, .int .u32 lw, .int .u64 lh, .int .u64 ll] 51 (0, 0)) ∧ Ext w0 w

/-- What the turning of a signature tells. -/
def SignTold (sz tl lw lh ll : Int) (w : World) (e : Ending) (w' : World) : Prop := ∃ v, IsSl v ∧ e = .returned (.agg #[.int .i64 sz, v, .int .i64 tl, .int .u32 lw, .int .u64 lh, .int .u64 ll]) ∧ Ext w w'

theorem below_cells {B : Nat} {x y : World} (h : Below B x y) {b : Nat} {cs : Array Value} {T : TypeId} {fz : Nat × Nat} (hb : x.heap[b]? = some (.cells cs T fz)) (hlt : b < B) : ∀ o, y.cell? ⟨b, o, none⟩ = cs[o]? := fun o => by
  have := (Below.block h b hlt).trans hb
  simp [World.cell?, this]
theorem below_frees {B : Nat} {x y : World} (h : Below B x y) {b : Nat} {cs : Array Value} {T : TypeId} (hb : x.heap[b]? = some (.cells cs T (0, 0))) (hlt : b < B) : ∀ o, y.frozen? ⟨b, o, none⟩ = false := fun o => by
  have := (Below.block h b hlt).trans hb
  exact blk_free this
theorem below_at {B : Nat} {x y : World} (h : Below B x y) {b o : Nat} {v : Value} (hb : x.cell? ⟨b, o, none⟩ = some v) (hlt : b < B) : y.cell? ⟨b, o, none⟩ = some v := (Below.cell (p := ⟨b, o, none⟩) h hlt).trans hb
theorem owns_slice {w : World} {base n : Nat} {e : TypeId} {size : Nat} {v : Value} {xs : List Value} (h : w.ownsRow base e size v n xs) : IsSl v := by
  obtain ⟨_, ⟨rfl, _⟩ | ⟨g, cap, _, rfl, _⟩⟩ := h
  · exact ⟨_, _, _, rfl⟩
  · exact ⟨_, _, _, rfl⟩

theorem grown_below {w w' : World} {row : Option Nat} {B : Nat} (hg : w.grownBy w' row) (hrow : ∀ k, row = some k → B ≤ k) (hB : B ≤ w.heap.size) : Below B w w' :=
  ⟨hg.os, hg.tape, hg.output, hg.size, fun k hk => hg.block k (by omega) (fun e => by have := hrow k e.symm; omega)⟩
theorem three_new (w : World) (x y z : Value) (T : TypeId) : ∀ j u, [x, y, z][j]? = some u → (w.alloc (.cells #[x, y, z] T)).cell? ((⟨w.heap.size, 0, none⟩ : Addr).add j) = some u := fun j u h => by
  have h1 : (w.alloc (.cells #[x, y, z] T)).cell? ⟨w.heap.size, j, none⟩ = some u := blk_cell (heap_new w _) (by simpa using h)
  have h2 : (⟨w.heap.size, 0, none⟩ : Addr).add j = ⟨w.heap.size, j, none⟩ := by
    cases j <;> simp [Addr.add]
  rw [h2]
  exact h1
theorem owns_set {w : World} {base n : Nat} {e : TypeId} {size : Nat} {v u : Value} {xs : List Value} {b i : Nat} (h : w.ownsRow base e size v n xs) (hb : b < base) : (w.setCell ⟨b, i, none⟩ u).ownsRow base e size v n xs := by
  obtain ⟨h0, h1 | ⟨g, cap, cur, hv, hg, hbl, rest⟩⟩ := h
  · exact ⟨h0, .inl h1⟩
  · exact ⟨h0, .inr ⟨g, cap, cur, hv, hg, (blk_set_other u (by omega)).trans hbl, rest⟩⟩
theorem SignInv.next {w0 wr w1 : World} {sz tl lw lh ll : Int} {a : Option Addr} {n c j : Nat} {v v' : Value} {xs' : List Value}
    (hB0 : wr.heap[w0.heap.size]? = some (.cells #[.int .i64 sz, .slice a n c, .int .i64 tl, .int .u32 lw, .int .u64 lh, .int .u64 ll] 44 (0, 0)))
    (hB1 : wr.heap[w0.heap.size + 1]? = some (.cells #[.int .i64 0, .slice none 0 0, .int .i64 0, .int .u32 0, .int .u64 0, .int .u64 0] 51 (0, 0)))
    (hB2 : wr.heap[w0.heap.size + 2]? = some (.cells #[.int .i64 sz, v, .int .i64 tl, .int .u32 lw, .int .u64 lh, .int .u64 ll] 51 (0, 0))) (hE : Ext w0 wr)
    (hR : Below (w0.heap.size + 3) wr w1) (hown : w1.ownsRow (w0.heap.size + 3) 49 3 v' (j + 1) xs') : SignInv w0 sz tl lw lh ll a n c (j + 1) (w1.setCell ⟨w0.heap.size + 2, 1, none⟩ v') := by
  refine ⟨v', xs', owns_set hown (by omega), ?_, ?_, ?_, ?_⟩
  · rw [blk_set_other _ (by omega), Below.block hR _ (by omega)]; exact hB0
  · rw [blk_set_other _ (by omega), Below.block hR _ (by omega)]; exact hB1
  · rw [blk_set _ ((Below.block hR _ (by omega)).trans hB2)]; rfl
  · exact Ext.setNew (show Ext w0 w1 from Below.trans hE (Below.mono hR (by omega))) (by omega) _

set_option maxHeartbeats 4000000 in
set_option maxRecDepth 100000 in
theorem sign_any (sz tl lw lh ll : Int) (a : Option Addr) (n c : Nat) (w : World) (hs : Signs w a n) :
    Calls Try.prog 29 #[.agg #[.int .i64 sz, .slice a n c, .int .i64 tl, .int .u32 lw, .int .u64 lh, .int .u64 ll]] w (SignTold sz tl lw lh ll w) := by
  obtain ⟨hn, hrow⟩ := hs
  have HROW := Lib.hid hrow; clear hrow
  obtain ⟨i0, hi, hz0, hz1, hz2⟩ := info_parts (P := Try.prog) (e := 49) (z := .agg #[.int .u32 0, .int .u64 0, .int .u64 0]) (size := 3) (bytes := 24) (by kernel_rfl)
  have HI := Lib.hid hi; clear hi
  go_enter Try.func29, Try.ntmps29
  go_wp2
  go_loopw [4] (fun i w' => ∃ j : Nat, j ≤ n ∧ i = .int .i64 j ∧ SignInv w sz tl lw lh ll a n c j w') (fun i _ => n - (intOf i).toNat)
  case atStart => exact ⟨0, Nat.zero_le _, rfl, .slice none 0 0, [], World.ownsRow_nil _ _ _ _, blk_alloc _ (blk_alloc _ (heap_new _ _)), blk_alloc _ (heap_at _ _ (by simp)), heap_at _ _ (by simp), (((Ext.refl w).alloc _).alloc _).alloc _⟩
  case round =>
    obtain ⟨j, hj, rfl, v, xs, hown, hB0, hB1, hB2, hE⟩ := hrel
    obtain ⟨va, vn, vc, rfl⟩ := owns_slice hown
    have f1 : ∀ o, wr.frozen? ⟨w.heap.size + 1, o, none⟩ = false := fun o => below_frees (Below.refl _ wr) hB1 (Nat.lt_succ_self _) o
    have f2 : ∀ o, wr.frozen? ⟨w.heap.size + 2, o, none⟩ = false := fun o => below_frees (Below.refl _ wr) hB2 (Nat.lt_succ_self _) o
    have k0 : ∀ o, wr.cell? ⟨w.heap.size, o, none⟩ = _ := fun o => below_cells (Below.refl _ wr) hB0 (Nat.lt_succ_self _) o
    have k2 : ∀ o, wr.cell? ⟨w.heap.size + 2, o, none⟩ = _ := fun o => below_cells (Below.refl _ wr) hB2 (Nat.lt_succ_self _) o
    have HB0 := Lib.hid hB0; clear hB0
    have HB1 := Lib.hid hB1; clear hB1
    have HB2 := Lib.hid hB2; clear hB2
    have HE := Lib.hid hE; clear hE
    have HOWN := Lib.hid hown; clear hown
    have l2 := blk_lt HB2.out
    by_cases hlt : j < n
    · obtain h0 | ⟨b, off, rfl, hb, hall⟩ := HROW.out
      · omega
      obtain ⟨x, y, z, hx, hy, hz⟩ := hall j hlt
      have hx := HE.out.cell (o := off + j * 3) hb ▸ hx
      have hy := HE.out.cell (o := off + j * 3 + 1) hb ▸ hy
      have hz := HE.out.cell (o := off + j * 3 + 2) hb ▸ hz
      have HALL := Lib.hid hall; clear hall
      have HX := Lib.hid hx; clear hx
      have HY := Lib.hid hy; clear hy
      have HZ := Lib.hid hz; clear hz
      have hb3 : b < w.heap.size + 3 := by omega
      have e1 : (j : Int) < (n : Int) := by omega
      go_wp2
      refine wp_draw_stages 43 18 [false, false, false, false, false, false, false, false, false, false, false, false, false, false, false, false, false, true] [([true, true, true, true, true, true, true, true, true, true, true, true, true, true, true], 15), ([], 16)] (Below (w.heap.size+3)) (Below.refl (w.heap.size+3)) (fun _ _ _ => Below.trans) (by kernel_rfl) (by kernel_rfl) ?_
      apply wpStages_cons (by simp)
      · intro w1 hw1
        simp only [sel_true, sel_nil]
        have f0 := below_cells hw1 (blk_drew HB0.out) (by omega); have f2 := below_cells hw1 (blk_drew HB2.out) (by omega); have fx := below_at hw1 (x := wr.drew) HX.out hb3; have fy := below_at hw1 (x := wr.drew) HY.out hb3; have fz := below_at hw1 (x := wr.drew) HZ.out hb3
        repeat still_step
        exact wpStill_nil rfl
      simp only [List.getD_cons_succ, List.getD_cons_zero]
      go_wp2
      refine ⟨(Below.refl _ _).alloc (by show _ ≤ wr.heap.size; omega) _, ?_⟩
      apply wpStages_cons (by simp)
      · intro w1 hw1
        simp only [sel_nil]
        repeat still_step
        exact wpStill_nil rfl
      simp only [List.getD_cons_succ, List.getD_cons_zero]
      go_wp2_with (at_builtin; refine wpList_append_own _ rfl _ _ 48 rfl (w.heap.size + 3) 49 i0 (.agg #[.int .u32 0, .int .u64 0, .int .u64 0]) 3 24 (by kernel_rfl) HI.out hz0 hz1 hz2 rfl (by decide) _ _ _ rfl (HOWN.out.drew.alloc _) ⟨wr.heap.size, 0, none⟩ 1 1 [.int .u32 x, .int .u64 y, .int .u64 z] rfl rfl (three_new wr.drew _ _ _ _) (fun x hx => by simp at hx; rcases hx with rfl | rfl | rfl <;> rfl) (by unfold maxLen; omega) (by omega) (lt_alloc (lt_drew l2)) ?_; intro v' w1 hown' hgrow' _)
      have hR : Below (w.heap.size + 3) wr w1 := Below.trans ((Below.refl _ wr).drew.alloc (by show _ ≤ wr.heap.size; omega) _) (grown_below hgrow' (fun k hk => (HOWN.out.lt k hk).1) (lt_alloc (lt_drew l2)))
      have g1 := below_cells hR HB2.out (by omega) 1
      have g2 := below_frees hR HB2.out (by omega) 1
      refine ⟨grown_below hgrow' (fun k hk => (HOWN.out.lt k hk).1) (lt_alloc (lt_drew l2)), ?_⟩
      obtain ⟨va', vn', vc', rfl⟩ := owns_slice hown'
      refine wpStages_nil ?_
      simp only [sel_true, sel_false, sel_nil]
      repeat still_step
      refine wpStill_nil ?_
      simp only [List.drop_succ_cons, List.drop_zero]
      go_wp2
      go_roundw
      case rel => first | exact ⟨j + 1, by omega, by go_num, SignInv.next HB0.out HB1.out HB2.out HE.out hR hown'⟩ | ((repeat apply Exists.intro); exact ⟨⟨j + 1, by omega, by go_num, SignInv.next HB0.out HB1.out HB2.out HE.out hR hown'⟩, rfl⟩)
      case measure => simp [intOf]; omega
    · obtain rfl : j = n := by omega
      go_wp2_with (refine wpList_store_blk rfl rfl rfl rfl (by (repeat with_reducible first | refine blk_drew ?_ | refine blk_alloc _ ?_ | refine blk_off (by omega) ?_ | refine blk_put (by omega) ?_); exact HB1.out) (by rfl) (by kernel_rfl) (by simp [Value.oneCell']) ?_)
      refine bodyPost_ret (res_cell rfl rfl (putBlk_same _ (by omega)) (by kernel_rfl) (by kernel_rfl)) rfl ?_
      exact ⟨_, ⟨_, _, _, rfl⟩, rfl, HE.out.putNew (by omega) _⟩

set_option maxHeartbeats 2000000 in
set_option maxRecDepth 100000 in
theorem to_any (k n at_ tt : Int) (y : Bool) (c : Int) (s : ByteArray) (sz : Int) (a : Option Addr) (bn bc : Nat) (tl lw lh ll : Int) (en : Value) (w : World) (hs : Signs w a bn) (hen : IsSl en) :
    Calls Try.prog 12 #[msgV k n at_ tt y c s sz (.slice a bn bc) tl lw lh ll en] w (fun e w' => ∃ bl, IsSl bl ∧ e = .returned (msgV k n at_ tt y c s sz bl tl lw lh ll en) ∧ Ext w w') := by
  obtain ⟨_, _, _, rfl⟩ := hen
  unfold msgV
  go_enter Try.func12, Try.ntmps12
  go_wp2
  refine wp_draw_stages 23 20 [false, false, false, false, false, false, false, false, false, false, false, false, false, false, false, false, false, false, false, true] [([true, true, true, true, true, true, true, true, true, true, true, true, true, true, true, true, false, true, true], 16)] Ext Ext.refl (fun _ _ _ => Ext.trans) (by kernel_rfl) (by kernel_rfl) ?_
  apply wpStages_cons (by simp)
  · intro w1 hw1
    simp only [sel_true, sel_false, sel_nil]
    have hc := fun o => hw1.cell (b := w.heap.size) (o := o) (by simp; omega)
    repeat still_step
    exact wpStill_nil rfl
  simp only [List.getD_cons_succ, List.getD_cons_zero]
  go_wp2_with (go_at_call 29; refine (sign_any _ _ _ _ _ _ _ _ _ (hs.ext (((Ext.refl w).alloc _).alloc _).drew)).mono ?_; rintro e w' ⟨v, ⟨_, _, _, rfl⟩, rfl, hE⟩)
  refine ⟨hE, ?_⟩
  refine wpStages_nil ?_
  simp only [sel_true, sel_false, sel_nil]
  repeat still_step
  refine wpStill_nil ?_
  simp only [List.drop_succ_cons, List.drop_zero]
  refine wpList_store_blk rfl rfl rfl rfl (hE.block (heap_at _ _ (by simp))) rfl (by kernel_rfl) (by simp [Value.oneCell']) ?_
  go_wp2
  have hlt : w.heap.size + 1 < w'.heap.size := blk_lt (hE.block (heap_at _ _ (by simp)))
  refine bodyPost_ret (res_cell rfl rfl (putBlk_same _ hlt) (by kernel_rfl) (by kernel_rfl)) rfl ?_
  exact ⟨_, ⟨_, _, _, rfl⟩, rfl, Ext.putNew ((((Ext.refl w).alloc _).alloc _).drew.trans hE) (by omega) _⟩
end Go.Proofs.Ytodanmikpajeeaa
