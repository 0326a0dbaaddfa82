/- A job that fetches three bytes (layer 33): the walks. -/
import Derived.Test.YtodanmikpajeeaaAwC
import Derived.Test.YtodanmikpajeeaaStageE
namespace Go.Proofs.Ytodanmikpajeeaa
open Go Go.Proofs Go.RowKit

/-- The entry of the file f. -/
abbrev entF (sz hi lo s0 s1 s2 s3 s4 s5 s6 s7 : Int) (p : ByteArray) : List Value := [.string p, .int .i64 2, .int .i64 0, .int .i64 0, .int .i64 sz, .int .u64 hi, .int .u64 lo, .string ByteArray.empty, .int .u64 s0, .int .u64 s1, .int .u64 s2, .int .u64 s3, .int .u64 s4, .int .u64 s5, .int .u64 s6, .int .u64 s7]
/-- A job of that entry in memory. -/
abbrev jBlk (st : Int) (sz hi lo s0 s1 s2 s3 s4 s5 s6 s7 : Int) (p got bytes : ByteArray) (lit : Int) : Obj := .cells #[.pointer none, .int .i64 st, .int .i64 0, .string p, .int .i64 2, .int .i64 0, .int .i64 0, .int .i64 sz, .int .u64 hi, .int .u64 lo, .string ByteArray.empty, .int .u64 s0, .int .u64 s1, .int .u64 s2, .int .u64 s3, .int .u64 s4, .int .u64 s5, .int .u64 s6, .int .u64 s7,
  .string ByteArray.empty, .bool false, .bool false, .bool false, .slice none 0 0, .int .i64 4, .int .i64 16, .int .i64 (-1), .string got, .string bytes, .int .i64 lit, .bool false] 88

set_option maxHeartbeats 1000000 in
set_option maxRecDepth 100000 in
theorem new_fetch (sz hi lo s0 s1 s2 s3 s4 s5 s6 s7 : Int) (p q r : ByteArray) (w : World) :
    Calls Try.prog 17 #[.agg #[.int .i64 3, .string r, .string q, .int .i64 0], .agg (entF sz hi lo s0 s1 s2 s3 s4 s5 s6 s7 p).toArray, .string ByteArray.empty, .agg #[.bool false, .bool false, .bool false, .slice none 0 0, .int .i64 4, .int .i64 16]] w
      (fun e w' => ∃ b, e = .returned (.pointer (some ⟨b, 0, none⟩)) ∧ w.heap.size ≤ b ∧ w'.heap[b]? = some (jBlk 2 sz hi lo s0 s1 s2 s3 s4 s5 s6 s7 p ByteArray.empty ByteArray.empty 0) ∧ Ext w w') := by
  go_enter Try.func17, Try.ntmps17
  go_wp2
  go_ret
  exact ⟨w.heap.size + 1 + 1 + 1, rfl, by omega, heap_at _ _ (by simp), ((((Ext.refl w).alloc _).alloc _).alloc _).alloc _⟩

set_option maxRecDepth 100000 in
theorem jdone_3 (b : Nat) (sz hi lo s0 s1 s2 s3 s4 s5 s6 s7 : Int) (p got bytes : ByteArray) (lit : Int) (w : World) (h : w.heap[b]? = some (jBlk 3 sz hi lo s0 s1 s2 s3 s4 s5 s6 s7 p got bytes lit)) :
    Calls Try.prog 21 #[.pointer (some ⟨b, 0, none⟩)] w (RetV w (.bool true)) := by
  have hc : ∀ o, w.cell? ⟨b, o, none⟩ = _ := fun o => (Ext.refl w).cellsOf h o
  clear h
  go_enter Try.func21, Try.ntmps21
  go_wp2
  go_ret
  exact ⟨rfl, Ext.refl _⟩
set_option maxRecDepth 100000 in
theorem jbytes_3 (b : Nat) (sz hi lo s0 s1 s2 s3 s4 s5 s6 s7 : Int) (p got bytes : ByteArray) (lit : Int) (w : World) (h : w.heap[b]? = some (jBlk 3 sz hi lo s0 s1 s2 s3 s4 s5 s6 s7 p got bytes lit)) :
    Calls Try.prog 22 #[.pointer (some ⟨b, 0, none⟩)] w (RetV w (.string bytes)) := by
  have D := Lib.hid (jdone_3 b sz hi lo s0 s1 s2 s3 s4 s5 s6 s7 p got bytes lit w h)
  have H := Lib.hid h; clear h
  go_enter Try.func22, Try.ntmps22
  go_wp2_with (go_at_call 21; refine D.out.mono ?_; rintro e w1 ⟨rfl, hb1⟩; have hc := Ext.cellsOf hb1 H.out; have HE := Lib.hid hb1; clear hb1)
  go_ret
  exact ⟨rfl, HE.out⟩

set_option maxRecDepth 100000 in
theorem jnext_2 (b : Nat) (sz hi lo s0 s1 s2 s3 s4 s5 s6 s7 : Int) (p bytes : ByteArray) (lit : Int) (w : World) (h : w.heap[b]? = some (jBlk 2 sz hi lo s0 s1 s2 s3 s4 s5 s6 s7 p ByteArray.empty bytes lit)) :
    Calls Try.prog 19 #[.pointer (some ⟨b, 0, none⟩)] w (RetV w (.tuple #[.agg #[.int .i64 5, .int .i64 0, .int .i64 0, .int .i64 0, .bool false, .int .i64 0, .string ByteArray.empty, .int .i64 0, .slice none 0 0, .int .i64 0, .int .u32 0, .int .u64 0, .int .u64 0, .slice none 0 0], .bool true])) := by
  have lb := blk_lt h
  have hc : ∀ o, w.cell? ⟨b, o, none⟩ = _ := fun o => (Ext.refl w).cellsOf h o
  clear h
  go_enter Try.func19, Try.ntmps19
  go_wp2
  refine wp_draw_tail 10 (by kernel_rfl) (by kernel_rfl) ?_
  simp only [List.take_succ_cons, List.take_zero, List.drop_succ_cons, List.drop_zero]
  repeat still_step
  refine wpStill_nil ?_
  go_wp2
  refine bodyPost_ret (v := (.tuple #[.agg #[.int .i64 5, .int .i64 0, .int .i64 0, .int .i64 0, .bool false, .int .i64 0, .string ByteArray.empty, .int .i64 0, .slice none 0 0, .int .i64 0, .int .u32 0, .int .u64 0, .int .u64 0, .slice none 0 0], .bool true])) (by simp [results, Try.results19, go_sem] <;> rfl) rfl ?_
  exact ⟨rfl, ((Ext.refl w).alloc _).drew⟩

set_option maxHeartbeats 1000000 in
set_option maxRecDepth 100000 in
theorem jmore (b : Nat) (hi lo s0 s1 s2 s3 s4 s5 s6 s7 : Int) (p s : ByteArray) (hs : s.size = 3) (w : World) (h : w.heap[b]? = some (jBlk 2 3 hi lo s0 s1 s2 s3 s4 s5 s6 s7 p ByteArray.empty ByteArray.empty 0)) :
    Calls Try.prog 53 #[.pointer (some ⟨b, 0, none⟩), .string s, .int .i64 3] w
      (fun e w' => e = .returned (.bool true) ∧ w' = w.setCell ⟨b, 27, none⟩ (.string s)) := by
  have lb := blk_lt h
  have hc : ∀ o, w.cell? ⟨b, o, none⟩ = _ := fun o => (Ext.refl w).cellsOf h o
  have hf := (Ext.refl w).freeOf h
  clear h
  have hap : ByteArray.empty ++ s = s := ByteArray.empty_append
  go_enter Try.func53, Try.ntmps53
  go_wp2
  all_goals go_ret
  all_goals exact ⟨rfl, rfl⟩

theorem set_cell_ne {w : World} {b i j : Nat} {v : Value} (h : j ≠ i) : (w.setCell ⟨b, i, none⟩ v).cell? ⟨b, j, none⟩ = w.cell? ⟨b, j, none⟩ := by
  simp only [World.cell?, World.setCell, Array.getElem?_modify, if_true]
  cases hb : w.heap[b]? with
  | none => rfl
  | some o => cases o <;> simp [Array.getElem?_setIfInBounds_ne (Ne.symm h)]
/-- The message of three bytes, boxed. -/
abbrev mBox (s : ByteArray) : Obj := .cells #[.int .i64 6, .int .i64 0, .int .i64 0, .int .i64 0, .bool false, .int .i64 0, .string s, .int .i64 0, .slice none 0 0, .int .i64 0, .int .u32 0, .int .u64 0, .int .u64 0, .slice none 0 0] 53
/-- Block b alone may have turned, and of it no cell but what came. -/
def JOff (b : Nat) (x y : World) : Prop := Off b x y ∧ ∀ o, o ≠ 27 → y.cell? ⟨b, o, none⟩ = x.cell? ⟨b, o, none⟩
theorem JOff.refl (b : Nat) (x : World) : JOff b x x := ⟨Off.refl b x, fun _ _ => rfl⟩
theorem JOff.trans {b : Nat} {x y z : World} (h : JOff b x y) (k : JOff b y z) : JOff b x z := ⟨h.1.trans k.1, fun o ho => (k.2 o ho).trans (h.2 o ho)⟩

end Go.Proofs.Ytodanmikpajeeaa
