/- The document's right messages (layer 20), of any kind; what lies in memory of a message that came in. -/
import Derived.Test.YtodanmikpajeeaaMsgR
import Derived.Test.YtodanmikpajeeaaMsgF
namespace Go.Proofs.Ytodanmikpajeeaa
open Go Go.Proofs Go.RowKit

theorem has_some (k : Int) (h1 : 1 ≤ k) (h11 : k ≤ 11) : ∃ a0 a1 a2 a3 a4 a5 a6 a7 : Bool, ∀ w, Calls Try.prog 23 #[.int .i64 k] w (RetV w (.agg #[.bool a0, .bool a1, .bool a2, .bool a3, .bool a4, .bool a5, .bool a6, .bool a7])) := by
  have hh : k = 1 ∨ k = 2 ∨ k = 3 ∨ k = 4 ∨ k = 5 ∨ k = 6 ∨ k = 7 ∨ k = 8 ∨ k = 9 ∨ k = 10 ∨ k = 11 := by omega
  rcases hh with rfl | rfl | rfl | rfl | rfl | rfl | rfl | rfl | rfl | rfl | rfl
  · exact ⟨_, _, _, _, _, _, _, _, has_1⟩
  · exact ⟨_, _, _, _, _, _, _, _, has_2⟩
  · exact ⟨_, _, _, _, _, _, _, _, has_3⟩
  · exact ⟨_, _, _, _, _, _, _, _, has_4⟩
  · exact ⟨_, _, _, _, _, _, _, _, has_5⟩
  · exact ⟨_, _, _, _, _, _, _, _, has_6⟩
  · exact ⟨_, _, _, _, _, _, _, _, has_7⟩
  · exact ⟨_, _, _, _, _, _, _, _, has_8⟩
  · exact ⟨_, _, _, _, _, _, _, _, has_9⟩
  · exact ⟨_, _, _, _, _, _, _, _, has_10⟩
  · exact ⟨_, _, _, _, _, _, _, _, has_11⟩

set_option maxHeartbeats 1000000 in
set_option maxRecDepth 100000 in
theorem right_none (k n at_ tt : Int) (y : Bool) (c : Int) (s : ByteArray) (sz : Int) (bl : Value) (tl lw lh ll : Int) (en : Value) (w : World) (hbl : IsSl bl) (hen : IsSl en) (h : k < 1 ∨ 11 < k) :
    Calls Try.prog 8 #[msgV k n at_ tt y c s sz bl tl lw lh ll en] w (RetB w (fun b => b = true → k = 11 → c ≠ 0)) := by
  obtain ⟨_, _, _, rfl⟩ := hbl
  obtain ⟨_, _, _, rfl⟩ := hen
  unfold msgV
  rcases h with h | h
  · go_enter Try.func8, Try.ntmps8
    go_wp2
    go_ret
    exact ⟨_, rfl, fun h => absurd h (by decide), below_alloc1 _ _⟩
  · have h1 : ¬ k < 1 := by omega
    go_enter Try.func8, Try.ntmps8
    go_wp2
    go_ret
    exact ⟨_, rfl, fun h => absurd h (by decide), below_alloc1 _ _⟩
theorem right_told (k n at_ tt : Int) (y : Bool) (c : Int) (s : ByteArray) (sz : Int) (bl : Value) (tl lw lh ll : Int) (en : Value) (w : World) (hbl : IsSl bl) (hen : Ents w en) :
    Calls Try.prog 8 #[msgV k n at_ tt y c s sz bl tl lw lh ll en] w (RetB w (fun b => b = true → k = 11 → c ≠ 0)) := by
  by_cases h : 1 ≤ k ∧ k ≤ 11
  · obtain ⟨h1, h11⟩ := h
    obtain ⟨a0, a1, a2, a3, a4, a5, a6, a7, H⟩ := has_some k h1 h11
    refine (right_any k n at_ tt y c s sz bl tl lw lh ll en w hbl hen h1 h11 (k == 11) (c == 0) rfl rfl rfl a0 a1 a2 a3 a4 a5 a6 a7 H).mono ?_
    rintro e w' ⟨b, he, hb, hE⟩
    refine ⟨b, he, fun hbt hk => ?_, hE⟩
    have := hb hbt (by simp [hk])
    simpa using this
  · obtain ⟨a, m, cc, he, _⟩ := hen
    exact right_none k n at_ tt y c s sz bl tl lw lh ll en w hbl ⟨a, m, cc, he⟩ (by omega)

theorem EntsRaw.ext {w w' : World} {en : Value} (h : EntsRaw w en) (hE : Ext w w') : EntsRaw w' en := by
  obtain ⟨a, n, c, he, hn, h0 | ⟨b, off, ha, hb, hall⟩⟩ := h
  · exact ⟨a, n, c, he, hn, Or.inl h0⟩
  · refine ⟨a, n, c, he, hn, Or.inr ⟨b, off, ha, Nat.lt_of_lt_of_le hb hE.size, fun j hj => ?_⟩⟩
    obtain ⟨p, k, m, t, sz, hi, lo, d, s0, s1, s2, s3, s4, s5, s6, s7, h3⟩ := hall j hj
    exact ⟨p, k, m, t, sz, hi, lo, d, s0, s1, s2, s3, s4, s5, s6, s7, fun i u hu => (hE.cell hb).trans (h3 i u hu)⟩
/-- A row of signs that lie below, of any size. -/
def SignsRaw (w : World) (a : Option Addr) (n : Nat) : Prop := n = 0 ∨ ∃ b off, a = some ⟨b, off, none⟩ ∧ b < w.heap.size ∧
  ∀ j, j < n → ∃ x y z, w.cell? ⟨b, off + j * 3, none⟩ = some (.int .u32 x) ∧ w.cell? ⟨b, off + j * 3 + 1, none⟩ = some (.int .u64 y) ∧ w.cell? ⟨b, off + j * 3 + 2, none⟩ = some (.int .u64 z)
theorem SignsRaw.small {w w' : World} {a : Option Addr} {n : Nat} (h : SignsRaw w a n) (hn : n ≤ 20) (hE : Ext w w') : Signs w' a n := (show Signs w a n from ⟨hn, h⟩).ext hE
/-- A message that lies in memory at a place. -/
def msgL (k n at_ tt : Int) (y : Bool) (c : Int) (s : ByteArray) (sz : Int) (sa : Option Addr) (sn sc : Nat) (tl lw lh ll : Int) (ea : Option Addr) (en ec : Nat) : Array Value :=
  #[.int .i64 k, .int .i64 n, .int .i64 at_, .int .i64 tt, .bool y, .int .i64 c, .string s, .int .i64 sz, .slice sa sn sc, .int .i64 tl, .int .u32 lw, .int .u64 lh, .int .u64 ll, .slice ea en ec]
def MsgAt (w : World) (b o : Nat) : Prop := ∃ k n at_ tt y c s sz sa sn sc tl lw lh ll ea en ec, (∀ i u, (msgL k n at_ tt y c s sz sa sn sc tl lw lh ll ea en ec)[i]? = some u → w.cell? ⟨b, o + i, none⟩ = some u) ∧ s.size ≤ maxLen ∧ SignsRaw w sa sn ∧ EntsRaw w (.slice ea en ec)
/-- A row of messages that came in. -/
def MsgRow (w : World) (a : Option Addr) (n : Nat) : Prop := n = 0 ∨ ∃ b off, a = some ⟨b, off, none⟩ ∧ b < w.heap.size ∧ ∀ j, j < n → MsgAt w b (off + j * 14)
end Go.Proofs.Ytodanmikpajeeaa
