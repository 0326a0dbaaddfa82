/- Which fields a message has (layer 20), kind by kind: the walks. Entries that lie in the arguments. -/
import Derived.Test.YtodanmikpajeeaaMsgB
namespace Go.Proofs.Ytodanmikpajeeaa
open Go Go.Proofs Go.RowKit

/-- A row of entries that lie below: each short. -/
def Ents (w : World) (en : Value) : Prop := ∃ a n c, en = .slice a n c ∧ n ≤ 20 ∧ (n = 0 ∨ ∃ b off, a = some ⟨b, off, none⟩ ∧ b < w.heap.size ∧
  ∀ j, j < n → ∃ p k m t sz hi lo d s0 s1 s2 s3 s4 s5 s6 s7, p.size ≤ 1000 ∧ d.size ≤ 1000 ∧ ∀ i u, (entL p k m t sz hi lo d s0 s1 s2 s3 s4 s5 s6 s7)[i]? = some u → w.cell? ⟨b, off + j * 16 + i, none⟩ = some u)
theorem Ents.ext {w w' : World} {en : Value} (h : Ents w en) (hE : Ext w w') : Ents w' en := by
  obtain ⟨a, n, c, he, hn, h0 | ⟨b, off, ha, hb, hall⟩⟩ := h
  · exact ⟨a, n, c, he, hn, Or.inl h0⟩
  · refine ⟨a, n, c, he, hn, Or.inr ⟨b, off, ha, Nat.lt_of_lt_of_le hb hE.size, fun j hj => ?_⟩⟩
    obtain ⟨p, k, m, t, sz, hi, lo, d, s0, s1, s2, s3, s4, s5, s6, s7, h1, h2, h3⟩ := hall j hj
    exact ⟨p, k, m, t, sz, hi, lo, d, s0, s1, s2, s3, s4, s5, s6, s7, h1, h2, fun i u hu => (hE.cell hb).trans (h3 i u hu)⟩
set_option maxHeartbeats 1000000 in
set_option maxRecDepth 100000 in
theorem has_1 (w : World) : Calls Try.prog 23 #[.int .i64 1] w (RetV w (.agg #[.bool true, .bool false, .bool false, .bool false, .bool false, .bool false, .bool false, .bool false])) := by
  go_enter Try.func23, Try.ntmps23
  go_wp2
  refine bodyPost_ret (res_cell rfl rfl ((heap_new w _)) (by kernel_rfl) (by kernel_rfl)) rfl ?_
  exact ⟨rfl, below_alloc1 _ _⟩
set_option maxHeartbeats 1000000 in
set_option maxRecDepth 100000 in
theorem has_2 (w : World) : Calls Try.prog 23 #[.int .i64 2] w (RetV w (.agg #[.bool false, .bool false, .bool true, .bool false, .bool false, .bool false, .bool false, .bool true])) := by
  go_enter Try.func23, Try.ntmps23
  go_wp2
  refine bodyPost_ret (res_cell rfl rfl ((heap_new w _)) (by kernel_rfl) (by kernel_rfl)) rfl ?_
  exact ⟨rfl, below_alloc1 _ _⟩
set_option maxHeartbeats 1000000 in
set_option maxRecDepth 100000 in
theorem has_3 (w : World) : Calls Try.prog 23 #[.int .i64 3] w (RetV w (.agg #[.bool true, .bool true, .bool false, .bool false, .bool false, .bool false, .bool true, .bool false])) := by
  go_enter Try.func23, Try.ntmps23
  go_wp2
  refine bodyPost_ret (res_cell rfl rfl ((heap_new w _)) (by kernel_rfl) (by kernel_rfl)) rfl ?_
  exact ⟨rfl, below_alloc1 _ _⟩
set_option maxHeartbeats 1000000 in
set_option maxRecDepth 100000 in
theorem has_4 (w : World) : Calls Try.prog 23 #[.int .i64 4] w (RetV w (.agg #[.bool false, .bool false, .bool true, .bool false, .bool false, .bool true, .bool false, .bool false])) := by
  go_enter Try.func23, Try.ntmps23
  go_wp2
  refine bodyPost_ret (res_cell rfl rfl ((heap_new w _)) (by kernel_rfl) (by kernel_rfl)) rfl ?_
  exact ⟨rfl, below_alloc1 _ _⟩
set_option maxHeartbeats 1000000 in
set_option maxRecDepth 100000 in
theorem has_5 (w : World) : Calls Try.prog 23 #[.int .i64 5] w (RetV w (.agg #[.bool true, .bool true, .bool false, .bool false, .bool false, .bool false, .bool false, .bool false])) := by
  go_enter Try.func23, Try.ntmps23
  go_wp2
  refine bodyPost_ret (res_cell rfl rfl ((heap_new w _)) (by kernel_rfl) (by kernel_rfl)) rfl ?_
  exact ⟨rfl, below_alloc1 _ _⟩
set_option maxHeartbeats 1000000 in
set_option maxRecDepth 100000 in
theorem has_6 (w : World) : Calls Try.prog 23 #[.int .i64 6] w (RetV w (.agg #[.bool false, .bool false, .bool false, .bool false, .bool false, .bool true, .bool false, .bool false])) := by
  go_enter Try.func23, Try.ntmps23
  go_wp2
  refine bodyPost_ret (res_cell rfl rfl ((heap_new w _)) (by kernel_rfl) (by kernel_rfl)) rfl ?_
  exact ⟨rfl, below_alloc1 _ _⟩
set_option maxHeartbeats 1000000 in
set_option maxRecDepth 100000 in
theorem has_7 (w : World) : Calls Try.prog 23 #[.int .i64 7] w (RetV w (.agg #[.bool true, .bool true, .bool false, .bool true, .bool false, .bool true, .bool false, .bool false])) := by
  go_enter Try.func23, Try.ntmps23
  go_wp2
  refine bodyPost_ret (res_cell rfl rfl ((heap_new w _)) (by kernel_rfl) (by kernel_rfl)) rfl ?_
  exact ⟨rfl, below_alloc1 _ _⟩
set_option maxHeartbeats 1000000 in
set_option maxRecDepth 100000 in
theorem has_8 (w : World) : Calls Try.prog 23 #[.int .i64 8] w (RetV w (.agg #[.bool false, .bool false, .bool false, .bool true, .bool false, .bool false, .bool false, .bool false])) := by
  go_enter Try.func23, Try.ntmps23
  go_wp2
  refine bodyPost_ret (res_cell rfl rfl ((heap_new w _)) (by kernel_rfl) (by kernel_rfl)) rfl ?_
  exact ⟨rfl, below_alloc1 _ _⟩
set_option maxHeartbeats 1000000 in
set_option maxRecDepth 100000 in
theorem has_9 (w : World) : Calls Try.prog 23 #[.int .i64 9] w (RetV w (.agg #[.bool false, .bool false, .bool false, .bool false, .bool true, .bool false, .bool false, .bool false])) := by
  go_enter Try.func23, Try.ntmps23
  go_wp2
  refine bodyPost_ret (res_cell rfl rfl ((heap_new w _)) (by kernel_rfl) (by kernel_rfl)) rfl ?_
  exact ⟨rfl, below_alloc1 _ _⟩
set_option maxHeartbeats 1000000 in
set_option maxRecDepth 100000 in
theorem has_10 (w : World) : Calls Try.prog 23 #[.int .i64 10] w (RetV w (.agg #[.bool false, .bool false, .bool false, .bool false, .bool false, .bool false, .bool false, .bool false])) := by
  go_enter Try.func23, Try.ntmps23
  go_wp2
  refine bodyPost_ret (res_cell rfl rfl ((heap_new w _)) (by kernel_rfl) (by kernel_rfl)) rfl ?_
  exact ⟨rfl, below_alloc1 _ _⟩
set_option maxHeartbeats 1000000 in
set_option maxRecDepth 100000 in
theorem has_11 (w : World) : Calls Try.prog 23 #[.int .i64 11] w (RetV w (.agg #[.bool false, .bool false, .bool false, .bool false, .bool true, .bool false, .bool false, .bool false])) := by
  go_enter Try.func23, Try.ntmps23
  go_wp2
  refine bodyPost_ret (res_cell rfl rfl ((heap_new w _)) (by kernel_rfl) (by kernel_rfl)) rfl ?_
  exact ⟨rfl, below_alloc1 _ _⟩
end Go.Proofs.Ytodanmikpajeeaa
