/- A part of a region whose ways meet again: a test that is worked out under guards; what it comes to is some bool, and the slots on the way are forgotten. No program is named here. -/
import Derived.Test.YtodanmikpajeeaaDraw
namespace Go.Proofs.Ytodanmikpajeeaa
open Go Go.Proofs Go.RowKit

/-- Whatever stands in these slots. -/
def allPuts : List Nat → Act → (Act → Prop) → Prop
  | [], a, F => F a
  | d :: ds, a, F => ∀ u, allPuts ds (a.put (some d) u) F
def puts : List Nat → List Value → Act → Act
  | d :: ds, u :: us, a => puts ds us (a.put (some d) u)
  | _, _, a => a
theorem allPuts_at : ∀ (ds : List Nat) (a : Act) (F : Act → Prop), allPuts ds a F → ∀ us : List Value, us.length = ds.length → F (puts ds us a)
  | [], _, _, h, [], _ => h
  | d :: ds, a, F, h, u :: us, hl => allPuts_at ds _ F (h u) us (by simpa using hl)

/-- The part has come to a bool of which φ holds; nothing else but its own slots has changed. -/
def GEnd (φ : Bool → Prop) (ds : List Nat) (d : Nat) (a : Act) (w : World) (a' : Act) (w' : World) : Prop :=
  w' = w ∧ ∃ us b, us.length = ds.length ∧ φ b ∧ a' = (puts ds us a).put (some d) (.bool b)


theorem wpList_cut {P : Program} {ops : Array Oper} {Q : Exit → Act → World → Prop} {R : Act → World → Prop} : ∀ (l1 l2 : List Oper) (a : Act) (w : World),
    wpList P ops (Exit.then R noExit) l1 a w → (∀ a' w', R a' w' → wpList P ops Q l2 a' w') → wpList P ops Q (l1 ++ l2) a w
  | [], l2, a, w, h, k => k a w h
  | o :: l1, l2, a, w, h, k => by
    show wpList P ops Q (o :: (l1 ++ l2)) a w
    unfold wpList at h ⊢
    split at h
    · rename_i hw
      rw [if_pos hw]
      rcases h with h | ⟨_, _, _, hf⟩
      · left
        have h' : o.wp P a w (wpList P ops Q (l1 ++ l2)) noExit := by
          unfold Oper.wp at *
          generalize (execOp a.eval o).run P w = r at *
          cases r with
          | ok n w' =>
            cases n <;> simp only [Oper.upon] at h ⊢ <;> first
              | exact wpList_cut l1 l2 _ _ h k
              | exact Calls.mono h (fun e w'' he => by
                  cases e with
                  | returned v => exact wpList_cut l1 l2 _ _ he k
                  | panicked c => exact False.elim he
                  | outgrown => exact (let ⟨_, _, hf⟩ := he; False.elim hf))
              | exact Rows.mono h (fun _ _ he => wpList_cut l1 l2 _ _ he k)
          | halt x w' => cases x <;> simp only [Oper.upon] at h ⊢; exact False.elim h
        exact Oper.wp_any_exit h'
      · exact False.elim hf
    · rename_i hw
      rw [if_neg hw]
      exact wpList_cut l1 l2 _ _ h k

theorem wpList_group {P : Program} {ops : Array Oper} {Q : Exit → Act → World → Prop} {l : List Oper} {a : Act} {w : World} (n : Nat) (φ : Bool → Prop) (ds : List Nat) (d : Nat)
    (h1 : wpList P ops (Exit.then (GEnd φ ds d a w) noExit) (l.take n) a w)
    (h2 : allPuts ds a (fun a1 => ∀ b, φ b → wpList P ops Q (l.drop n) (a1.put (some d) (.bool b)) w)) : wpList P ops Q l a w := by
  rw [← List.take_append_drop n l]
  refine wpList_cut _ _ _ _ h1 ?_
  rintro a' w' ⟨rfl, us, b, hl, hb, rfl⟩
  exact allPuts_at ds a _ h2 us hl b hb
end Go.Proofs.Ytodanmikpajeeaa
