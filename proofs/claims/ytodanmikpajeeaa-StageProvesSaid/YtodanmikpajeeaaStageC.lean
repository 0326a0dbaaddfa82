/- What a proof makes of an answer. -/
import Derived.Test.YtodanmikpajeeaaStageB
namespace Go.Proofs.Ytodanmikpajeeaa
open Go Go.Proofs Go.RowKit

/-- The piece that is shown next: is it the last, and its bytes. -/
def piece (at_ pc : Int) (data : ByteArray) : Bool × ByteArray := if pc < data.size - at_ then ((at_ + pc == data.size), data.extract at_.toNat (at_ + pc).toNat) else (true, data.extract at_.toNat data.size)
theorem piece_size (at_ pc : Int) (data : ByteArray) (h1 : 0 ≤ at_) (h2 : at_ ≤ data.size) (h3 : 1 ≤ pc) : at_ + ((piece at_ pc data).2.size : Int) ≤ data.size := by
  unfold piece
  split <;> simp <;> omega
theorem next_any (b : Nat) (n pc at_ sh : Int) (data : ByteArray) (same : Bool) (w : World) (h : w.heap[b]? = some (pBlk n pc data at_ sh false same))
   (h1 : 0 ≤ at_) (h2 : at_ ≤ data.size) (h3 : 1 ≤ pc) (h4 : pc ≤ 512) (hs : data.size ≤ 150) :
    Calls Try.prog 9 #[.pointer (some ⟨b, 0, none⟩)] w (RetV w (.tuple #[askMsg n at_ (piece at_ pc data).1 (piece at_ pc data).2, .bool true])) := by
  unfold piece
  by_cases hlt : pc < data.size - at_
  · rw [if_pos hlt]; exact next_more b n pc at_ sh data same w h h1 h2 h3 h4 hs hlt
  · rw [if_neg hlt]; exact next_last b n pc at_ sh data same w h h1 h2 hs hlt
theorem ask_any (n pc at_ : Int) (data : ByteArray) (same : Bool) (w : World) (h1 : 0 ≤ at_) (h2 : at_ ≤ data.size) (h3 : 1 ≤ pc) (h4 : pc ≤ 512) (hs : data.size ≤ 150) :
    Calls Try.prog 10 #[pRef n pc data at_ false same] w (RetV w (.tuple #[askMsg n at_ (piece at_ pc data).1 (piece at_ pc data).2, .bool true])) := by
  unfold piece
  by_cases hlt : pc < data.size - at_
  · rw [if_pos hlt]; exact ask_more n pc at_ data same w h1 h2 h3 h4 hs hlt
  · rw [if_neg hlt]; exact ask_last n pc at_ data same w h1 h2 h3 h4 hs hlt

/-- A message of which the program's text looks at the Kind, Yes and the Code alone. -/
def msgV (k n at_ tt : Int) (y : Bool) (c : Int) (s : ByteArray) (sz : Int) (bl : Value) (tl lw lh ll : Int) (en : Value) : Value := .agg #[.int .i64 k, .int .i64 n, .int .i64 at_, .int .i64 tt, .bool y, .int .i64 c, .string s, .int .i64 sz, bl, .int .i64 tl, .int .u32 lw, .int .u64 lh, .int .u64 ll, en]
def IsSl (v : Value) : Prop := ∃ a n c, v = .slice a n c

/-- What told tells. -/
def toldOf (k c kind : Int) : Int := if k = kind then 0 else if k = 11 then c else 13
set_option maxRecDepth 100000 in
theorem told_any (k n at_ tt : Int) (y : Bool) (c : Int) (s : ByteArray) (sz : Int) (bl : Value) (tl lw lh ll : Int) (en : Value) (kind : Int) (w : World) (hb : IsSl bl) (he : IsSl en) :
    Calls Try.prog 30 #[msgV k n at_ tt y c s sz bl tl lw lh ll en, .int .i64 kind] w (RetV w (.int .i64 (toldOf k c kind))) := by
  obtain ⟨_, _, _, rfl⟩ := hb
  obtain ⟨_, _, _, rfl⟩ := he
  unfold msgV toldOf
  by_cases h1 : k = kind
  · subst h1
    go_enter Try.func30, Try.ntmps30
    go_wp2
    go_ret
    exact ⟨by simp, (Ext.refl w).alloc _⟩
  · have h2 : (k == kind) = false := by simp [h1]
    by_cases h3 : k = 11
    · subst h3
      go_enter Try.func30, Try.ntmps30
      go_wp2
      go_ret
      exact ⟨rfl, (Ext.refl w).alloc _⟩
    · have h4 : (k == 11) = false := by simp [h3]
      go_enter Try.func30, Try.ntmps30
      go_wp2
      go_ret
      exact ⟨rfl, (Ext.refl w).alloc _⟩

set_option maxRecDepth 100000 in
theorem done_any (b : Nat) (n pc at_ sh : Int) (data : ByteArray) (done same : Bool) (w : World) (h : w.heap[b]? = some (pBlk n pc data at_ sh done same)) :
    Calls Try.prog 15 #[.pointer (some ⟨b, 0, none⟩)] w (RetV w (.tuple #[.bool done, .bool same])) := by
  have hb := blk_lt h
  have c5 : w.cell? ⟨b, 5, none⟩ = some (.bool done) := blk_cell h rfl
  have c6 : w.cell? ⟨b, 6, none⟩ = some (.bool same) := blk_cell h rfl
  clear h
  go_enter Try.func15, Try.ntmps15
  go_wp2
  refine wp_draw_all (by kernel_rfl) (by kernel_rfl) ?_
  repeat still_step
  refine wpStill_nil ?_
  go_wp2
  go_ret2
  exact ⟨rfl, (Ext.refl w).drew⟩
set_option maxRecDepth 100000 in
theorem shown_any (b : Nat) (n pc at_ sh : Int) (data : ByteArray) (done same : Bool) (w : World) (h : w.heap[b]? = some (pBlk n pc data at_ sh done same)) :
    Calls Try.prog 16 #[.pointer (some ⟨b, 0, none⟩)] w (RetV w (.int .i64 sh)) := by
  have hb := blk_lt h
  have c4 : w.cell? ⟨b, 4, none⟩ = some (.int .i64 sh) := blk_cell h rfl
  clear h
  go_enter Try.func16, Try.ntmps16
  go_wp2
  go_ret
  exact ⟨rfl, Ext.refl w⟩
set_option maxRecDepth 100000 in
theorem next_nil (w : World) : Calls Try.prog 9 #[.pointer none] w (RetV w (.tuple #[zMsg, .bool false])) := by
  go_enter Try.func9, Try.ntmps9
  go_wp2
  refine bodyPost_ret (v := (.tuple #[zMsg, .bool false])) (by simp [results, Try.results9, go_sem] <;> rfl) rfl ?_
  exact ⟨rfl, below_alloc1 _ _⟩
set_option maxRecDepth 100000 in
theorem done_nil (w : World) : Calls Try.prog 15 #[.pointer none] w (RetV w (.tuple #[.bool false, .bool false])) := by
  go_enter Try.func15, Try.ntmps15
  go_wp2
  go_ret2
  exact ⟨rfl, Ext.refl w⟩
set_option maxRecDepth 100000 in
theorem shown_nil (w : World) : Calls Try.prog 16 #[.pointer none] w (RetV w (.int .i64 0)) := by
  go_enter Try.func16, Try.ntmps16
  go_wp2
  go_ret
  exact ⟨rfl, Ext.refl w⟩
set_option maxRecDepth 100000 in
theorem take_nil (w : World) : Calls Try.prog 13 #[.pointer none, zMsg] w (RetV w (.int .i64 15)) := by
  unfold zMsg
  go_enter Try.func13, Try.ntmps13
  go_wp2_with (go_at_call 9; refine (next_nil _).mono ?_; unfold zMsg; rintro e w' ⟨rfl, hb1⟩; have hE1 : Ext _ w' := hb1; clear hb1)
  go_ret
  exact ⟨rfl, (((Ext.refl w).alloc _).trans hE1).alloc _⟩
end Go.Proofs.Ytodanmikpajeeaa
