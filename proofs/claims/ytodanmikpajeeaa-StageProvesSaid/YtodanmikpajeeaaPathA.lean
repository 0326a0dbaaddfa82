/- The document's names and cuts (layer 1): the walks; of a name it is enough that it answers. -/
import Derived.Test.YtodanmikpajeeaaDraw
namespace Go.Proofs.Ytodanmikpajeeaa
open Go Go.Proofs Go.RowKit

set_option maxHeartbeats 1000000 in
set_option maxRecDepth 100000 in
theorem name_some (s : ByteArray) (w : World) (hs : s.size ≤ maxLen) :
    Calls Try.prog 59 #[.string s] w (RetB w fun _ => True) := by
  unfold maxLen at hs
  go_enter Try.func59, Try.ntmps59
  go_wp2
  go_loop [3, 4] (fun i _ => ∃ k : Nat, k ≤ s.size ∧ i = .int .i64 k) (fun i _ => s.size - (intOf i).toNat)
  case atStart => exact ⟨0, Nat.zero_le _, rfl⟩
  case round =>
    obtain ⟨k, hk, rfl⟩ := hrel
    by_cases hlt : k < s.size
    · go_wp2
      all_goals first
        | (go_round
           case rel => exact ⟨k + 1, by omega, by go_num⟩
           case measure => simp [intOf]; omega)
        | (go_ret
           exact ⟨_, rfl, trivial, Ext.refl w⟩)
    · obtain rfl : k = s.size := by omega
      go_wp2
      all_goals go_ret
      all_goals exact ⟨_, rfl, trivial, Ext.refl w⟩
end Go.Proofs.Ytodanmikpajeeaa
