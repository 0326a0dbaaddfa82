/- The proof of layer 33 (the program's) and the document's, function by function. -/
import Derived.Test.YtodanmikpajeeaaKit
namespace Go.Proofs.Ytodanmikpajeeaa
open Go Go.Proofs Go.RowKit

theorem few_any (k n : Int) (data old : ByteArray) (d1 d2 d3 : Bool) (rules : Value) (bl pc : Int) (w : World) :
    Calls Try.prog 4 #[.agg #[.int .i64 k, .int .i64 n, .string data, .string old, .bool d1, .bool d2, .bool d3, rules, .int .i64 bl, .int .i64 pc]] w
      (RetB w fun b => b = true → data.size ≤ 150 ∧ old.size ≤ 150 ∧ 0 ≤ n ∧ n ≤ 511 ∧ 4 ≤ bl ∧ bl ≤ 64 ∧ 16 ≤ pc ∧ pc ≤ 512) := by
  go_enter Try.func4, Try.ntmps4
  go_wp2
  all_goals go_ret
  all_goals refine ⟨_, rfl, fun h => ?_, below_alloc1 _ _⟩
  all_goals first | (exact absurd h (by decide)) | (have := of_decide_eq_true h; omega)

theorem prove_any (n pc : Int) (data : ByteArray) (w : World) (hp : 1 ≤ pc) :
    Calls Try.prog 6 #[.int .i64 n, .string data, .int .i64 pc] w fun e w' => e = .returned (.pointer (some ⟨w.heap.size, 0, none⟩)) ∧ w' = w.alloc (.cells #[.int .i64 n, .int .i64 pc, .string data, .int .i64 0, .int .i64 0, .bool false, .bool false] 77) := by
  have h : ¬ pc < 1 := by omega
  go_enter Try.func6, Try.ntmps6
  go_wp2
  go_ret
  exact ⟨rfl, rfl⟩

def zMsg : Value := .agg #[.int .i64 0, .int .i64 0, .int .i64 0, .int .i64 0, .bool false, .int .i64 0, .string ByteArray.empty, .int .i64 0, .slice none 0 0, .int .i64 0, .int .u32 0, .int .u64 0, .int .u64 0, .slice none 0 0]
def askMsg (n at_ : Int) (yes : Bool) (s : ByteArray) : Value := .agg #[.int .i64 7, .int .i64 n, .int .i64 at_, .int .i64 0, .bool yes, .int .i64 0, .string s, .int .i64 0, .slice none 0 0, .int .i64 0, .int .u32 0, .int .u64 0, .int .u64 0, .slice none 0 0]
/-- Where the piece of a proof ends. -/
def endOf (at_ pc : Int) (size : Nat) : Int := if pc < size - at_ then at_ + pc else size
def pBlk (n pc : Int) (data : ByteArray) (at_ sh : Int) (done same : Bool) : Obj := .cells #[.int .i64 n, .int .i64 pc, .string data, .int .i64 at_, .int .i64 sh, .bool done, .bool same] 77

set_option maxRecDepth 100000 in
theorem next_done (b : Nat) (n pc at_ sh : Int) (data : ByteArray) (same : Bool) (w : World) (h : w.heap[b]? = some (pBlk n pc data at_ sh true same)) :
    Calls Try.prog 9 #[.pointer (some ⟨b, 0, none⟩)] w (RetV w (.tuple #[zMsg, .bool false])) := by
  have hb := blk_lt h
  have c5 : w.cell? ⟨b, 5, none⟩ = some (.bool true) := blk_cell h rfl
  clear h
  go_enter Try.func9, Try.ntmps9
  go_wp2
  refine bodyPost_ret (v := (.tuple #[zMsg, .bool false])) (by simp [results, Try.results9, go_sem] <;> rfl) rfl ?_
  exact ⟨rfl, below_alloc1 _ _⟩
set_option maxHeartbeats 1000000 in
set_option maxRecDepth 100000 in
theorem next_more (b : Nat) (n pc at_ sh : Int) (data : ByteArray) (same : Bool) (w : World) (h : w.heap[b]? = some (pBlk n pc data at_ sh false same))
   (h1 : 0 ≤ at_) (h2 : at_ ≤ data.size) (h3 : 1 ≤ pc) (h4 : pc ≤ 512) (hs : data.size ≤ 150) (hlt : pc < data.size - at_) :
    Calls Try.prog 9 #[.pointer (some ⟨b, 0, none⟩)] w (RetV w (.tuple #[askMsg n at_ (at_ + pc == data.size) (data.extract at_.toNat (at_ + pc).toNat), .bool true])) := by
  have hb := blk_lt h
  have c0 : w.cell? ⟨b, 0, none⟩ = some (.int .i64 n) := blk_cell h rfl
  have c1 : w.cell? ⟨b, 1, none⟩ = some (.int .i64 pc) := blk_cell h rfl
  have c2 : w.cell? ⟨b, 2, none⟩ = some (.string data) := blk_cell h rfl
  have c3 : w.cell? ⟨b, 3, none⟩ = some (.int .i64 at_) := blk_cell h rfl
  have c5 : w.cell? ⟨b, 5, none⟩ = some (.bool false) := blk_cell h rfl
  clear h
  have wr : IntKind.i64.wrap (at_ + pc) = at_ + pc := IntWalk.i64_in _ (by omega)
  have wr2 : IntKind.i64.wrap (data.size - at_) = data.size - at_ := IntWalk.i64_in _ (by omega)
  have e1 : at_ ≤ at_ + pc := by omega
  have e2 : 0 ≤ at_ + pc := by omega
  have e3 : at_ + pc ≤ data.size := by omega
  go_enter Try.func9, Try.ntmps9
  go_wp2
  refine wp_draw_all (by kernel_rfl) (by kernel_rfl) ?_
  repeat still_step
  refine wpStill_nil ?_
  go_wp2
  refine wp_draw_tail 9 (by kernel_rfl) (by kernel_rfl) ?_
  simp only [List.take_succ_cons, List.take_zero, List.drop_succ_cons, List.drop_zero]
  repeat still_step
  refine wpStill_nil ?_
  go_wp2
  refine wp_draw_tail 26 (by kernel_rfl) (by kernel_rfl) ?_
  simp only [List.take_succ_cons, List.take_zero, List.drop_succ_cons, List.drop_zero]
  repeat still_step
  refine wpStill_nil ?_
  go_wp2
  refine bodyPost_ret (v := (.tuple #[askMsg n at_ (at_ + pc == data.size) (data.extract at_.toNat (at_ + pc).toNat), .bool true])) (by simp [results, Try.results9, go_sem] <;> rfl) rfl ?_
  exact ⟨rfl, (below_alloc1 _ _).drew.drew.drew⟩
set_option maxHeartbeats 1000000 in
set_option maxRecDepth 100000 in
theorem next_last (b : Nat) (n pc at_ sh : Int) (data : ByteArray) (same : Bool) (w : World) (h : w.heap[b]? = some (pBlk n pc data at_ sh false same))
   (h1 : 0 ≤ at_) (h2 : at_ ≤ data.size) (hs : data.size ≤ 150) (hlt : ¬ pc < data.size - at_) :
    Calls Try.prog 9 #[.pointer (some ⟨b, 0, none⟩)] w (RetV w (.tuple #[askMsg n at_ true (data.extract at_.toNat data.size), .bool true])) := by
  have hb := blk_lt h
  have c0 : w.cell? ⟨b, 0, none⟩ = some (.int .i64 n) := blk_cell h rfl
  have c1 : w.cell? ⟨b, 1, none⟩ = some (.int .i64 pc) := blk_cell h rfl
  have c2 : w.cell? ⟨b, 2, none⟩ = some (.string data) := blk_cell h rfl
  have c3 : w.cell? ⟨b, 3, none⟩ = some (.int .i64 at_) := blk_cell h rfl
  have c5 : w.cell? ⟨b, 5, none⟩ = some (.bool false) := blk_cell h rfl
  clear h
  have wr2 : IntKind.i64.wrap (data.size - at_) = data.size - at_ := IntWalk.i64_in _ (by omega)
  go_enter Try.func9, Try.ntmps9
  go_wp2
  refine wp_draw_all (by kernel_rfl) (by kernel_rfl) ?_
  repeat still_step
  refine wpStill_nil ?_
  go_wp2
  refine wp_draw_tail 26 (by kernel_rfl) (by kernel_rfl) ?_
  simp only [List.take_succ_cons, List.take_zero, List.drop_succ_cons, List.drop_zero]
  repeat still_step
  refine wpStill_nil ?_
  go_wp2
  refine bodyPost_ret (v := (.tuple #[askMsg n at_ true (data.extract at_.toNat data.size), .bool true])) (by simp [results, Try.results9, go_sem] <;> rfl) rfl ?_
  exact ⟨rfl, (below_alloc1 _ _).drew.drew⟩

def pRef (n pc : Int) (data : ByteArray) (at_ : Int) (done same : Bool) : Value := .agg #[.int .i64 n, .int .i64 pc, .string data, .int .i64 at_, .bool done, .bool same]
set_option maxRecDepth 100000 in
theorem ask_done (n pc at_ : Int) (data : ByteArray) (same : Bool) (w : World) :
    Calls Try.prog 10 #[pRef n pc data at_ true same] w (RetV w (.tuple #[zMsg, .bool false])) := by
  unfold pRef
  go_enter Try.func10, Try.ntmps10
  go_wp2
  refine bodyPost_ret (v := (.tuple #[zMsg, .bool false])) (by simp [results, Try.results10, go_sem] <;> rfl) rfl ?_
  exact ⟨rfl, (below_alloc1 _ _).alloc (by simp) _⟩
set_option maxHeartbeats 1000000 in
set_option maxRecDepth 100000 in
theorem ask_more (n pc at_ : Int) (data : ByteArray) (same : Bool) (w : World) (h1 : 0 ≤ at_) (h2 : at_ ≤ data.size) (h3 : 1 ≤ pc) (h4 : pc ≤ 512) (hs : data.size ≤ 150) (hlt : pc < data.size - at_) :
    Calls Try.prog 10 #[pRef n pc data at_ false same] w (RetV w (.tuple #[askMsg n at_ (at_ + pc == data.size) (data.extract at_.toNat (at_ + pc).toNat), .bool true])) := by
  have e1 : at_ ≤ at_ + pc := by omega
  have e2 : 0 ≤ at_ + pc := by omega
  have e3 : at_ + pc ≤ data.size := by omega
  unfold pRef
  go_enter Try.func10, Try.ntmps10
  go_wp2
  refine wp_draw_tail 16 (by kernel_rfl) (by kernel_rfl) ?_
  simp only [List.take_succ_cons, List.take_zero, List.drop_succ_cons, List.drop_zero]
  repeat still_step
  refine wpStill_nil ?_
  go_wp2
  refine bodyPost_ret (v := (.tuple #[askMsg n at_ (at_ + pc == data.size) (data.extract at_.toNat (at_ + pc).toNat), .bool true])) (by simp [results, Try.results10, go_sem] <;> rfl) rfl ?_
  exact ⟨rfl, ((below_alloc1 _ _).alloc (by simp) _).drew⟩
set_option maxHeartbeats 1000000 in
set_option maxRecDepth 100000 in
theorem ask_last (n pc at_ : Int) (data : ByteArray) (same : Bool) (w : World) (h1 : 0 ≤ at_) (h2 : at_ ≤ data.size) (h3 : 1 ≤ pc) (h4 : pc ≤ 512) (hs : data.size ≤ 150) (hlt : ¬ pc < data.size - at_) :
    Calls Try.prog 10 #[pRef n pc data at_ false same] w (RetV w (.tuple #[askMsg n at_ true (data.extract at_.toNat data.size), .bool true])) := by
  unfold pRef
  by_cases h5 : data.size < at_ + pc
  · go_enter Try.func10, Try.ntmps10
    go_wp2
    refine wp_draw_tail 16 (by kernel_rfl) (by kernel_rfl) ?_
    simp only [List.take_succ_cons, List.take_zero, List.drop_succ_cons, List.drop_zero]
    repeat still_step
    refine wpStill_nil ?_
    go_wp2
    refine bodyPost_ret (v := (.tuple #[askMsg n at_ true (data.extract at_.toNat data.size), .bool true])) (by simp [results, Try.results10, go_sem] <;> rfl) rfl ?_
    exact ⟨rfl, ((below_alloc1 _ _).alloc (by simp) _).drew⟩
  · obtain rfl : pc = data.size - at_ := by omega
    have e4 : at_ + (data.size - at_) = (data.size : Int) := by omega
    have h6 : ¬ (data.size : Int) < data.size := by omega
    go_enter Try.func10, Try.ntmps10
    go_wp2
    refine wp_draw_tail 16 (by kernel_rfl) (by kernel_rfl) ?_
    simp only [List.take_succ_cons, List.take_zero, List.drop_succ_cons, List.drop_zero]
    repeat still_step
    refine wpStill_nil ?_
    go_wp2
    refine bodyPost_ret (v := (.tuple #[askMsg n at_ true (data.extract at_.toNat data.size), .bool true])) (by simp [results, Try.results10, go_sem] <;> rfl) rfl ?_
    exact ⟨rfl, ((below_alloc1 _ _).alloc (by simp) _).drew⟩
end Go.Proofs.Ytodanmikpajeeaa
