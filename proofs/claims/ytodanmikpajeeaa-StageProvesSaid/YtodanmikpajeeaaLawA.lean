/- One step of a proof (layer 33), whatever it is told: the program's and the document's, under one name each. -/
import Derived.Test.YtodanmikpajeeaaStageE
import Derived.Test.YtodanmikpajeeaaMsgF
namespace Go.Proofs.Ytodanmikpajeeaa
open Go Go.Proofs Go.RowKit

/-- What a proof asks, as a value. -/
abbrev qV (k n at_ : Int) (y : Bool) (s : ByteArray) : Value := .agg #[.int .i64 k, .int .i64 n, .int .i64 at_, .int .i64 0, .bool y, .int .i64 0, .string s, .int .i64 0, .slice none 0 0, .int .i64 0, .int .u32 0, .int .u64 0, .int .u64 0, .slice none 0 0]
/-- The state that a step comes to, and its code. -/
def stepC (done : Bool) (k c : Int) : Int := if done then 15 else toldOf k c 8
def stepAt (done : Bool) (k c at_ pc : Int) (data : ByteArray) : Int := if stepC done k c = 0 then at_ + (piece at_ pc data).2.size else at_
def stepD (done : Bool) (k c at_ pc : Int) (data : ByteArray) (y : Bool) : Bool := if stepC done k c = 0 then (!y || (piece at_ pc data).1) else done
def stepS (done same : Bool) (k c at_ pc : Int) (data : ByteArray) (y : Bool) : Bool := if stepC done k c = 0 then (y && (piece at_ pc data).1) else same

theorem next_ask (b : Nat) (n pc at_ : Int) (data : ByteArray) (done same : Bool) (h1 : 0 ≤ at_) (h2 : at_ ≤ data.size) (h3 : 1 ≤ pc) (h4 : pc ≤ 512) (hs : data.size ≤ 150) :
    ∃ k' n' a' y' s', (∀ w : World, w.heap[b]? = some (pBlk n pc data at_ at_ done same) → Calls Try.prog 9 #[.pointer (some ⟨b, 0, none⟩)] w (RetV w (.tuple #[qV k' n' a' y' s', .bool (!done)]))) ∧
      ∀ w, Calls Try.prog 10 #[pRef n pc data at_ done same] w (RetV w (.tuple #[qV k' n' a' y' s', .bool (!done)])) := by
  cases done
  · exact ⟨7, n, at_, _, _, fun w h => next_any b n pc at_ at_ data same w h h1 h2 h3 h4 hs, fun w => ask_any n pc at_ data same w h1 h2 h3 h4 hs⟩
  · exact ⟨0, 0, 0, false, ByteArray.empty, fun w h => next_done b n pc at_ at_ data same w h, fun w => ask_done n pc at_ data same w⟩

theorem told_zero {k c : Int} (hk : k = 11 → c ≠ 0) (h : toldOf k c 8 = 0) : k = 8 := by
  unfold toldOf at h
  by_cases h8 : k = 8
  · exact h8
  · rw [if_neg h8] at h
    by_cases h11 : k = 11
    · rw [if_pos h11] at h; exact absurd h (hk h11)
    · rw [if_neg h11] at h; cases h

/-- What Take comes to. -/
def TakeTo (b : Nat) (o : Obj) (code : Int) (w : World) (e : Ending) (w' : World) : Prop := e = .returned (.int .i64 code) ∧ w'.heap[b]? = some o ∧ Off b w w'
theorem take_step (b : Nat) (n pc at_ : Int) (data : ByteArray) (done same : Bool) (w : World) (h : w.heap[b]? = some (pBlk n pc data at_ at_ done same))
    (h1 : 0 ≤ at_) (h2 : at_ ≤ data.size) (h3 : 1 ≤ pc) (h4 : pc ≤ 512) (hs : data.size ≤ 150)
    (k mn ma tt : Int) (y : Bool) (c : Int) (s : ByteArray) (sz : Int) (bl : Value) (tl lw lh ll : Int) (en : Value) (hbl : IsSl bl) (hen : IsSl en) (hk : k = 11 → c ≠ 0) :
    Calls Try.prog 13 #[.pointer (some ⟨b, 0, none⟩), msgV k mn ma tt y c s sz bl tl lw lh ll en] w
      (TakeTo b (pBlk n pc data (stepAt done k c at_ pc data) (stepAt done k c at_ pc data) (stepD done k c at_ pc data y) (stepS done same k c at_ pc data y)) (stepC done k c) w) := by
  cases done
  · by_cases hz : toldOf k c 8 = 0
    · obtain rfl := told_zero hk hz
      have e : stepC false 8 c = 0 := rfl
      unfold stepAt stepD stepS
      simp only [if_pos e]
      rw [e]
      exact (take_ok b n pc at_ at_ data same w h h1 h2 h3 h4 hs rfl mn ma tt y c s sz bl tl lw lh ll en hbl hen).mono fun _ _ hh => hh
    · have e : ¬ stepC false k c = 0 := hz
      unfold stepAt stepD stepS
      simp only [if_neg e]
      exact (take_err b n pc at_ at_ data same w h h1 h2 h3 h4 hs k mn ma tt y c s sz bl tl lw lh ll en hbl hen hz).mono fun _ w' ⟨he, hE⟩ => ⟨he, Ext.block hE h, Off.of_ext hE⟩
  · have e : ¬ stepC true k c = 0 := by unfold stepC; simp
    unfold stepAt stepD stepS
    simp only [if_neg e]
    exact (take_done b n pc at_ at_ data same w h k mn ma tt y c s sz bl tl lw lh ll en hbl hen).mono fun _ w' ⟨he, hE⟩ => ⟨he, Ext.block hE h, Off.of_ext hE⟩

theorem told_step (n pc at_ : Int) (data : ByteArray) (done same : Bool) (w : World) (hds : done = false → same = false)
    (h1 : 0 ≤ at_) (h2 : at_ ≤ data.size) (h3 : 1 ≤ pc) (h4 : pc ≤ 512) (hs : data.size ≤ 150)
    (k mn ma tt : Int) (y : Bool) (c : Int) (s : ByteArray) (sz : Int) (bl : Value) (tl lw lh ll : Int) (en : Value) (hbl : IsSl bl) (hen : IsSl en) (hk : k = 11 → c ≠ 0) :
    Calls Try.prog 14 #[pRef n pc data at_ done same, msgV k mn ma tt y c s sz bl tl lw lh ll en] w
      (RetV w (.tuple #[pRef n pc data (stepAt done k c at_ pc data) (stepD done k c at_ pc data y) (stepS done same k c at_ pc data y), .int .i64 (stepC done k c)])) := by
  cases done
  · obtain rfl := hds rfl
    by_cases hz : toldOf k c 8 = 0
    · obtain rfl := told_zero hk hz
      have e : stepC false 8 c = 0 := rfl
      unfold stepAt stepD stepS
      simp only [if_pos e]
      rw [e]
      exact told_ok n pc at_ data w h1 h2 h3 h4 hs mn ma tt y c s sz bl tl lw lh ll en hbl hen
    · have e : ¬ stepC false k c = 0 := hz
      unfold stepAt stepD stepS
      simp only [if_neg e]
      by_cases h11 : k = 11
      · have e2 : stepC false k c = c := by subst h11; rfl
        rw [e2]
        exact told_err n pc at_ data false w h1 h2 h3 h4 hs k mn ma tt y c s sz bl tl lw lh ll en hbl hen h11
      · have h8 : k ≠ 8 := fun h8 => hz (by rw [h8]; rfl)
        have e2 : stepC false k c = 13 := by unfold stepC toldOf; simp [h8, h11]
        rw [e2]
        exact told_bad n pc at_ data false w h1 h2 h3 h4 hs k mn ma tt y c s sz bl tl lw lh ll en hbl hen h11 h8
  · have e : ¬ stepC true k c = 0 := by unfold stepC; simp
    unfold stepAt stepD stepS
    simp only [if_neg e]
    exact told_done n pc at_ data same w k mn ma tt y c s sz bl tl lw lh ll en hbl hen

theorem step_at (done : Bool) (k c at_ pc : Int) (data : ByteArray) (h1 : 0 ≤ at_) (h2 : at_ ≤ data.size) (h3 : 1 ≤ pc) : 0 ≤ stepAt done k c at_ pc data ∧ stepAt done k c at_ pc data ≤ data.size := by
  have := piece_size at_ pc data h1 h2 h3
  unfold stepAt
  split <;> omega
theorem step_ds (done same : Bool) (k c at_ pc : Int) (data : ByteArray) (y : Bool) (hds : done = false → same = false) : stepD done k c at_ pc data y = false → stepS done same k c at_ pc data y = false := by
  unfold stepD stepS
  split
  · cases y <;> simp
  · exact hds
end Go.Proofs.Ytodanmikpajeeaa
