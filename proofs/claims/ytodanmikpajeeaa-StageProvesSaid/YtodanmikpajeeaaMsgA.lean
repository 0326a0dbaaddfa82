/- The document's right entries (layer 20): the walk; it is enough that it answers. -/
import Derived.Test.YtodanmikpajeeaaPathC
namespace Go.Proofs.Ytodanmikpajeeaa
open Go Go.Proofs Go.RowKit

/-- An entry, cell by cell. -/
def entL (p : ByteArray) (k m t sz hi lo : Int) (d : ByteArray) (s0 s1 s2 s3 s4 s5 s6 s7 : Int) : Array Value := #[.string p, .int .i64 k, .int .i64 m, .int .i64 t, .int .i64 sz, .int .u64 hi, .int .u64 lo, .string d, .int .u64 s0, .int .u64 s1, .int .u64 s2, .int .u64 s3, .int .u64 s4, .int .u64 s5, .int .u64 s6, .int .u64 s7]

@[go_sem] theorem eq_eight (a0 a1 a2 a3 a4 a5 a6 a7 b0 b1 b2 b3 b4 b5 b6 b7 : Int) (w : World) : (Op.equalIn 10000 71 (.agg #[.int .u64 a0, .int .u64 a1, .int .u64 a2, .int .u64 a3, .int .u64 a4, .int .u64 a5, .int .u64 a6, .int .u64 a7]) (.agg #[.int .u64 b0, .int .u64 b1, .int .u64 b2, .int .u64 b3, .int .u64 b4, .int .u64 b5, .int .u64 b6, .int .u64 b7])).run Try.prog w = .ok (a0 == b0 && a1 == b1 && a2 == b2 && a3 == b3 && a4 == b4 && a5 == b5 && a6 == b6 && a7 == b7) w := by
  rw [show (10000 : Nat) = 9999 + 1 from rfl, Op.equalIn]
  simp only [Sem.run_bind, run_underlying (show Try.prog.underlying 71 = some (.array 8 38) by kernel_rfl), Result.andThen_ok]
  simp only [Std.Legacy.Range.forIn_eq_forIn_range', Std.Legacy.Range.size, Nat.sub_zero, Nat.add_sub_cancel, Nat.div_one, List.range'_succ, List.range'_zero, List.forIn_cons, List.forIn_nil]
  go_simp
  repeat' split
  all_goals simp [*]

set_option maxHeartbeats 8000000 in
set_option maxRecDepth 100000 in
theorem entry_some (p : ByteArray) (k m t sz hi lo : Int) (d : ByteArray) (s0 s1 s2 s3 s4 s5 s6 s7 : Int) (w : World) (hs : p.size ≤ 1000) (hd : d.size ≤ 1000) :
    Calls Try.prog 26 #[.agg (entL p k m t sz hi lo d s0 s1 s2 s3 s4 s5 s6 s7)] w (RetB w fun _ => True) := by
  unfold entL
  by_cases hk1 : k = 1
  · subst hk1
    go_enter Try.func26, Try.ntmps26
    go_wp2_with (go_at_call 35; refine (check_some p 1 m t ByteArray.empty _ hs (by decide)).mono ?_; rintro e w1 ⟨z, rfl, hb2⟩; have hE2 : Ext _ w1 := hb2; clear hb2; have hE2c0 := hE2.cellsOf (b := w.heap.size) (heap_before _ _ (heap_at _ _ (by simp))); have hE2l0 := hE2.blt (b := w.heap.size) (heap_before _ _ (heap_at _ _ (by simp))); have hE2f0 := hE2.freeOf (b := w.heap.size) (heap_before _ _ (heap_at _ _ (by simp))); have hE2c1 := hE2.cellsOf (b := w.heap.size + 1) (heap_at _ _ (by simp)); have hE2l1 := hE2.blt (b := w.heap.size + 1) (heap_at _ _ (by simp)); have hE2f1 := hE2.freeOf (b := w.heap.size + 1) (heap_at _ _ (by simp)))
    all_goals go_ret
    all_goals first | exact ⟨_, rfl, trivial, (((Ext.refl w).alloc _).alloc _).trans hE2⟩ | exact ⟨_, rfl, trivial, ((((Ext.refl w).alloc _).alloc _).trans hE2).alloc _⟩
  by_cases hk2 : k = 2
  · subst hk2
    go_enter Try.func26, Try.ntmps26
    go_wp2_with (go_at_call 35; refine (check_some p 2 m t ByteArray.empty _ hs (by decide)).mono ?_; rintro e w1 ⟨z, rfl, hb2⟩; have hE2 : Ext _ w1 := hb2; clear hb2; have hE2c0 := hE2.cellsOf (b := w.heap.size) (heap_before _ _ (heap_at _ _ (by simp))); have hE2l0 := hE2.blt (b := w.heap.size) (heap_before _ _ (heap_at _ _ (by simp))); have hE2f0 := hE2.freeOf (b := w.heap.size) (heap_before _ _ (heap_at _ _ (by simp))); have hE2c1 := hE2.cellsOf (b := w.heap.size + 1) (heap_at _ _ (by simp)); have hE2l1 := hE2.blt (b := w.heap.size + 1) (heap_at _ _ (by simp)); have hE2f1 := hE2.freeOf (b := w.heap.size + 1) (heap_at _ _ (by simp)))
    all_goals go_ret
    all_goals first | exact ⟨_, rfl, trivial, (((Ext.refl w).alloc _).alloc _).trans hE2⟩ | exact ⟨_, rfl, trivial, ((((Ext.refl w).alloc _).alloc _).trans hE2).alloc _⟩
  by_cases hk3 : k = 3
  · subst hk3
    go_enter Try.func26, Try.ntmps26
    go_wp2_with (go_at_call 35; refine (check_some p 3 m t d _ hs hd).mono ?_; rintro e w1 ⟨z, rfl, hb2⟩; have hE2 : Ext _ w1 := hb2; clear hb2; have hE2c0 := hE2.cellsOf (b := w.heap.size) (heap_before _ _ (heap_at _ _ (by simp))); have hE2l0 := hE2.blt (b := w.heap.size) (heap_before _ _ (heap_at _ _ (by simp))); have hE2f0 := hE2.freeOf (b := w.heap.size) (heap_before _ _ (heap_at _ _ (by simp))); have hE2c1 := hE2.cellsOf (b := w.heap.size + 1) (heap_at _ _ (by simp)); have hE2l1 := hE2.blt (b := w.heap.size + 1) (heap_at _ _ (by simp)); have hE2f1 := hE2.freeOf (b := w.heap.size + 1) (heap_at _ _ (by simp)))
    all_goals go_ret
    all_goals first | exact ⟨_, rfl, trivial, (((Ext.refl w).alloc _).alloc _).trans hE2⟩ | exact ⟨_, rfl, trivial, ((((Ext.refl w).alloc _).alloc _).trans hE2).alloc _⟩
  ·
    go_enter Try.func26, Try.ntmps26
    go_wp2_with (go_at_call 35; refine (check_some p k m t ByteArray.empty _ hs (by decide)).mono ?_; rintro e w1 ⟨z, rfl, hb2⟩; have hE2 : Ext _ w1 := hb2; clear hb2; have hE2c0 := hE2.cellsOf (b := w.heap.size) (heap_before _ _ (heap_at _ _ (by simp))); have hE2l0 := hE2.blt (b := w.heap.size) (heap_before _ _ (heap_at _ _ (by simp))); have hE2f0 := hE2.freeOf (b := w.heap.size) (heap_before _ _ (heap_at _ _ (by simp))); have hE2c1 := hE2.cellsOf (b := w.heap.size + 1) (heap_at _ _ (by simp)); have hE2l1 := hE2.blt (b := w.heap.size + 1) (heap_at _ _ (by simp)); have hE2f1 := hE2.freeOf (b := w.heap.size + 1) (heap_at _ _ (by simp)))
    all_goals go_ret
    all_goals first | exact ⟨_, rfl, trivial, (((Ext.refl w).alloc _).alloc _).trans hE2⟩ | exact ⟨_, rfl, trivial, ((((Ext.refl w).alloc _).alloc _).trans hE2).alloc _⟩
end Go.Proofs.Ytodanmikpajeeaa
