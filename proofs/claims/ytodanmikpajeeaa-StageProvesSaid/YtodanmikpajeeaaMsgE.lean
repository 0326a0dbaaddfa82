/- The law's own test whether a message is tried: the walk. -/
import Derived.Test.YtodanmikpajeeaaMsgC
namespace Go.Proofs.Ytodanmikpajeeaa
open Go Go.Proofs Go.RowKit

/-- A row of entries that lie below, of any sizes. -/
def EntsRaw (w : World) (en : Value) : Prop := ∃ a n c, en = .slice a n c ∧ n ≤ maxLen ∧ (n = 0 ∨ ∃ b off, a = some ⟨b, off, none⟩ ∧ b < w.heap.size ∧
  ∀ j, j < n → ∃ p k m t sz hi lo d s0 s1 s2 s3 s4 s5 s6 s7, ∀ i u, (entL p k m t sz hi lo d s0 s1 s2 s3 s4 s5 s6 s7)[i]? = some u → w.cell? ⟨b, off + j * 16 + i, none⟩ = some u)

/-- What the test tells. -/
def SmallTold (s : ByteArray) (bn : Nat) (w : World) (en : Value) (b : Bool) : Prop := b = true → s.size ≤ 600 ∧ bn ≤ 20 ∧ Ents w en

set_option maxHeartbeats 4000000 in
set_option maxRecDepth 100000 in
theorem small_any (k n at_ tt : Int) (y : Bool) (c : Int) (s : ByteArray) (sz : Int) (ba : Option Addr) (bn bc : Nat) (tl lw lh ll : Int) (en : Value) (w : World) (hen : EntsRaw w en) :
    Calls Try.prog 7 #[msgV k n at_ tt y c s sz (.slice ba bn bc) tl lw lh ll en] w (RetB w (SmallTold s bn w en)) := by
  unfold msgV
  obtain ⟨ea, el, ec, rfl, hel, hrow⟩ := hen
  have HROW := Lib.hid hrow; clear hrow
  unfold maxLen at hel
  go_enter Try.func7, Try.ntmps7
  go_wp2
  all_goals try (go_ret; exact ⟨_, rfl, (fun h => absurd h (by decide)), (Ext.refl w).alloc _⟩)
  have hs6 : s.size ≤ 600 := by omega
  have hb2 : bn ≤ 20 := by omega
  have he2 : el ≤ 20 := by omega
  go_loop [3] (fun i => ∃ j : Nat, j ≤ el ∧ i = .int .i64 j ∧ ∀ b off, ea = some ⟨b, off, none⟩ → ∀ i, i < j → ∃ p k m t sz hi lo d s0 s1 s2 s3 s4 s5 s6 s7, p.size ≤ 1000 ∧ d.size ≤ 1000 ∧ ∀ q u, (entL p k m t sz hi lo d s0 s1 s2 s3 s4 s5 s6 s7)[q]? = some u → w.cell? ⟨b, off + i * 16 + q, none⟩ = some u) (fun i => el - (intOf i).toNat)
  case atStart => exact ⟨0, Nat.zero_le _, rfl, fun b off _ i hi => absurd hi (Nat.not_lt_zero _)⟩
  case round =>
    obtain ⟨j, hj, rfl, hsz⟩ := hrel
    have HSZ := Lib.hid hsz; clear hsz
    by_cases hlt : j < el
    · obtain h0 | ⟨b, off, rfl, hb, hall⟩ := HROW.out
      · omega
      obtain ⟨p, k', m, t, ez, hi, lo, d, s0, s1, s2, s3, s4, s5, s6, s7, hcells⟩ := hall j hlt
      have wr4 : IntKind.i64.wrap ((j : Int) + 1) = (j : Int) + 1 := IntWalk.i64_in _ (by omega)
      have hc0 : w.cell? ⟨b, off + j * 16, none⟩ = some (.string p) := hcells 0 _ rfl
      have hc7 : w.cell? ⟨b, off + j * 16 + 7, none⟩ = some (.string d) := hcells 7 _ rfl
      have HALL := Lib.hid hall; clear hall
      have HC := Lib.hid hcells; clear hcells
      go_wp2
      all_goals first
        | (go_round
           case rel =>
             refine ⟨j + 1, by omega, by go_num, ?_⟩
             intro b' off' e i hi
             cases e
             by_cases hij : i < j
             · exact HSZ.out _ _ rfl i hij
             · obtain rfl : i = j := by omega
               exact ⟨p, k', m, t, ez, _, lo, d, s0, s1, s2, s3, s4, s5, s6, s7, by omega, by omega, HC.out⟩
           case measure => simp [intOf]; omega)
        | (go_ret
           exact ⟨_, rfl, (fun h => absurd h (by decide)), (Ext.refl w).alloc _⟩)
    · obtain rfl : j = el := by omega
      go_wp2
      go_ret
      refine ⟨_, rfl, fun _ => ⟨hs6, hb2, ea, j, ec, rfl, he2, ?_⟩, (Ext.refl w).alloc _⟩
      obtain h0 | ⟨b, off, rfl, hb, hall⟩ := HROW.out
      · exact Or.inl h0
      · exact Or.inr ⟨b, off, rfl, hb, HSZ.out b off rfl⟩
end Go.Proofs.Ytodanmikpajeeaa
