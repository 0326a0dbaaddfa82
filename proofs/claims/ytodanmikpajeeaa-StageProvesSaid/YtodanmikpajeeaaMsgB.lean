/- The document's signatures (layer 15), and which fields a message has (layer 20): the walks. -/
import Derived.Test.YtodanmikpajeeaaMsgA
import Derived.Test.YtodanmikpajeeaaStageE
namespace Go.Proofs.Ytodanmikpajeeaa
open Go Go.Proofs Go.RowKit

set_option maxHeartbeats 4000000 in
set_option maxRecDepth 100000 in
theorem sig_right (sz : Int) (bl : Value) (tl lw lh ll : Int) (w : World) (hb : IsSl bl) :
    Calls Try.prog 24 #[.agg #[.int .i64 sz, bl, .int .i64 tl, .int .u32 lw, .int .u64 lh, .int .u64 ll]] w (RetB w fun _ => True) := by
  obtain ⟨_, _, _, rfl⟩ := hb
  go_enter Try.func24, Try.ntmps24
  go_wp2
  all_goals go_ret
  all_goals exact ⟨_, rfl, trivial, (Ext.refl w).alloc _⟩

set_option maxHeartbeats 4000000 in
set_option maxRecDepth 100000 in
theorem sig_same (sz : Int) (a : Option Addr) (n c : Nat) (tl lw lh ll : Int) (w : World) :
    Calls Try.prog 25 #[.agg #[.int .i64 sz, .slice a n c, .int .i64 tl, .int .u32 lw, .int .u64 lh, .int .u64 ll], .agg #[.int .i64 0, .slice none 0 0, .int .i64 0, .int .u32 0, .int .u64 0, .int .u64 0]] w (RetB w fun _ => True) := by
  by_cases hn : n = 0
  · subst hn
    go_enter Try.func25, Try.ntmps25
    go_wp2
    all_goals first
     | (go_ret
        exact ⟨_, rfl, trivial, ((Ext.refl w).alloc _).alloc _⟩)
     | (refine wp_loop_once ?_
        go_wp2
        go_ret
        exact ⟨_, rfl, trivial, ((Ext.refl w).alloc _).alloc _⟩)
  · have hn' : ((n : Int) != 0) = true := by simp; omega
    go_enter Try.func25, Try.ntmps25
    go_wp2
    all_goals go_ret
    all_goals exact ⟨_, rfl, trivial, ((Ext.refl w).alloc _).alloc _⟩
end Go.Proofs.Ytodanmikpajeeaa
