/- Small helpers for the walks of this seat: a region that draws its order walked in the order of its text; what 'Below' keeps. -/
import Derived.Test.YtiopahkigbdmcaaGreatProg
import Derived.WalkKit
import Derived.WalkSpells
import Derived.WalkLawsBesides
import Derived.LoopTactic
import Derived.StillTailTactics
import Derived.Deep.QuietTactic
import Derived.BigQuiet
import Derived.Lib.Hide
import Derived.IntWalk
import Derived.Deep.MidRow
import GoSem.Core.Value
namespace Go.Proofs.YtiopahkigbdmcaaGreat
open Go Go.Proofs Go.RowKit

theorem wp_draw_tail {P : Program} {id : Nat} {Q : Exit → Act → World → Prop} {a : Act} {w : World} {l : List Oper} (n : Nat) (hm : P.follows .mixedOrders = true) (hB : Region.lexTailB .any l.toArray n = true)
    (h : wpStill P l.toArray w.drew (fun a' => wpList P l.toArray Q (l.drop n) a' w.drew) (l.take n) a) : (Code.region id l.toArray true).wp P Q a w :=
  wp_region_still_tail n hm hB h

theorem wp_draw_all {P : Program} {id : Nat} {Q : Exit → Act → World → Prop} {a : Act} {w : World} {l : List Oper} (hm : P.follows .mixedOrders = true) (hB : Region.lexB .any l.toArray = true)
    (h : wpStill P l.toArray w.drew (fun a' => Q .normal a' w.drew) l a) : (Code.region id l.toArray true).wp P Q a w :=
  wp_region_still_lit hm hB h

theorem below_cell {W w1 : World} (hb : Below W.heap.size W w1) {b o : Nat} (h : b < W.heap.size) : w1.cell? ⟨b, o, none⟩ = W.cell? ⟨b, o, none⟩ := hb.cell (p := ⟨b, o, none⟩) h
theorem below_free {W w1 : World} (hb : Below W.heap.size W w1) {b o : Nat} (h : b < W.heap.size) : w1.frozen? ⟨b, o, none⟩ = W.frozen? ⟨b, o, none⟩ := hb.frozen (p := ⟨b, o, none⟩) h

/-- A block of cells that is known whole. -/
theorem blk_cell {w : World} {b i : Nat} {cs : Array Value} {T : TypeId} {fz : Nat × Nat} {v : Value} (h : w.heap[b]? = some (.cells cs T fz)) (hi : cs[i]? = some v) : w.cell? ⟨b, i, none⟩ = some v := by
  simp [World.cell?, h, hi]
theorem blk_free {w : World} {b i : Nat} {cs : Array Value} {T : TypeId} (h : w.heap[b]? = some (.cells cs T (0, 0))) : w.frozen? ⟨b, i, none⟩ = false := by
  simp [World.frozen?, h]
theorem blk_lt {w : World} {b : Nat} {o : Obj} (h : w.heap[b]? = some o) : b < w.heap.size := by
  rcases Nat.lt_or_ge b w.heap.size with hb | hb
  · exact hb
  · simp [Array.getElem?_eq_none hb] at h
theorem blk_set {w : World} {b i : Nat} {cs : Array Value} {T : TypeId} {fz : Nat × Nat} (v : Value) (h : w.heap[b]? = some (.cells cs T fz)) : (w.setCell ⟨b, i, none⟩ v).heap[b]? = some (.cells (cs.setIfInBounds i v) T fz) := by
  have hb := blk_lt h
  simp [World.setCell, Array.getElem?_modify, h]
theorem blk_set_other {w : World} {b c i : Nat} (v : Value) (hbc : c ≠ b) : (w.setCell ⟨b, i, none⟩ v).heap[c]? = w.heap[c]? :=
  Below.heap_setCell w ⟨b, i, none⟩ v c hbc
theorem blk_alloc {w : World} {b : Nat} {o : Obj} (o' : Obj) (h : w.heap[b]? = some o) : (w.alloc o').heap[b]? = some o := by
  rw [Below.heap_alloc w o' b (blk_lt h), h]

/-- Of the blocks below B, block b alone may have been written. -/
structure Only (B b : Nat) (w w' : World) : Prop where
  os : w'.os = w.os
  tape : w'.tape = w.tape
  output : w'.output = w.output
  size : w.heap.size ≤ w'.heap.size
  block : ∀ k, k < B → k ≠ b → w'.heap[k]? = w.heap[k]?
theorem Only.of_below {B b : Nat} {w w' : World} (h : Below B w w') : Only B b w w' := ⟨h.os, h.tape, h.output, h.size, fun k hk _ => h.block k hk⟩
theorem Only.trans {B b : Nat} {x y z : World} (h : Only B b x y) (k : Only B b y z) : Only B b x z :=
  ⟨k.os.trans h.os, k.tape.trans h.tape, k.output.trans h.output, Nat.le_trans h.size k.size, fun i hi hb => (k.block i hi hb).trans (h.block i hi hb)⟩
theorem Only.mono {B B' b : Nat} {w w' : World} (h : Only B b w w') (hB : B' ≤ B) : Only B' b w w' := ⟨h.os, h.tape, h.output, h.size, fun k hk => h.block k (Nat.lt_of_lt_of_le hk hB)⟩
theorem Only.below {B B' b : Nat} {w w' : World} (h : Only B b w w') (hB : B' ≤ B) (hb : B' ≤ b) : Below B' w w' :=
  ⟨h.os, h.tape, h.output, h.size, fun k hk => h.block k (Nat.lt_of_lt_of_le hk hB) (by omega)⟩
theorem Only.setCell {B b : Nat} {x w : World} (h : Only B b x w) (i : Nat) (u : Value) : Only B b x (w.setCell ⟨b, i, none⟩ u) :=
  ⟨h.os, h.tape, h.output, by have := h.size; simpa [World.setCell] using this, fun k hk hb => (blk_set_other u hb).trans (h.block k hk hb)⟩
theorem Only.setNew {B b : Nat} {x w : World} (h : Only B b x w) {c : Nat} (hc : B ≤ c) (i : Nat) (u : Value) : Only B b x (w.setCell ⟨c, i, none⟩ u) :=
  ⟨h.os, h.tape, h.output, by have := h.size; simpa [World.setCell] using this, fun k hk hb => (blk_set_other u (by omega)).trans (h.block k hk hb)⟩
theorem Only.alloc {B b : Nat} {x w : World} (h : Only B b x w) (hB : B ≤ w.heap.size) (o : Obj) : Only B b x (w.alloc o) :=
  ⟨h.os, h.tape, h.output, by have := h.size; simp; omega, fun k hk hb => (Below.heap_alloc w o k (by omega)).trans (h.block k hk hb)⟩
theorem Only.drew {B b : Nat} {x w : World} (h : Only B b x w) : Only B b x w.drew := ⟨h.os, h.tape, h.output, h.size, h.block⟩

/-- The call hands back a bool of which φ holds; old memory is as it was. -/
def RetB (w : World) (φ : Bool → Prop) (e : Ending) (w' : World) : Prop := ∃ b : Bool, e = .returned (.bool b) ∧ φ b ∧ Below w.heap.size w w'
/-- The call hands back v; old memory is as it was. -/
def RetV (w : World) (v : Value) (e : Ending) (w' : World) : Prop := e = .returned v ∧ Below w.heap.size w w'
theorem below_alloc1 (w : World) (o : Obj) : Below w.heap.size w (w.alloc o) := (Below.refl _ _).alloc (Nat.le_refl _) _
end Go.Proofs.YtiopahkigbdmcaaGreat
/- A region that draws its order and holds calls: it is enough to walk it stage by stage: the reading operations that do not wait for a call in any later world, then the call, then those that wait for it, and so on; at last what is forced. No program is named here. -/
namespace Go.Proofs.YtiopahkigbdmcaaGreat
open Go Go.Proofs Go.RowKit
section
variable {P : Program} {ops : Array Oper} {md : Region.Mode} {R : World → World → Prop}

/-- The members of a list that a mask marks. -/
def sel {α : Type} : List Bool → List α → List α
  | true :: m, x :: l => x :: sel m l
  | false :: m, _ :: l => sel m l
  | _, _ => []
theorem sel_true {α : Type} (m : List Bool) (x : α) (l : List α) : sel (true :: m) (x :: l) = x :: sel m l := rfl
theorem sel_false {α : Type} (m : List Bool) (x : α) (l : List α) : sel (false :: m) (x :: l) = sel m l := rfl
theorem sel_nil {α : Type} (l : List α) : sel [] l = [] := by cases l <;> rfl

def noExit : Exit → Act → World → Prop := fun _ _ _ => False

theorem Oper.wp_any_exit {o : Oper} {a : Act} {w : World} {K : Act → World → Prop} {Q : Exit → Act → World → Prop} (h : o.wp P a w K noExit) : o.wp P a w K Q := by
  unfold Oper.wp at *
  generalize (execOp a.eval o).run P w = r at *
  cases r with
  | ok n w' =>
    cases n <;> simp only [Oper.upon] at h ⊢ <;> first
      | exact h
      | exact Calls.mono h (fun e w'' he => by
          cases e with
          | returned v => exact he
          | panicked c => exact False.elim he
          | outgrown => exact (let ⟨_, _, hf⟩ := he; False.elim hf))
  | halt x w' =>
    cases x <;> simp only [Oper.upon] at h ⊢
    exact False.elim h

/-- One operation of a region, which may not leave the region. -/
def opR (P : Program) (ops : Array Oper) (i : Nat) (K : Act → World → Prop) (a : Act) (w : World) : Prop :=
  ∃ o, ops[i]? = some o ∧ if Region.wanted o (yielded ops a.tmps) then o.wp P a w K noExit else K (a.put o.dst undef) w

theorem opR_mono {i : Nat} {a : Act} {w : World} {K K' : Act → World → Prop} (h : ∀ a w, K a w → K' a w) (hh : opR P ops i K a w) : opR P ops i K' a w := by
  obtain ⟨o, ho, hh⟩ := hh
  refine ⟨o, ho, ?_⟩
  split
  · rename_i hw; simp only [hw, if_true] at hh; exact Oper.wp_mono h hh
  · rename_i hw; simp only [hw] at hh; exact h _ _ hh
theorem wpOp_of_opR {i : Nat} {a : Act} {w : World} {K : Act → World → Prop} {Q : Exit → Act → World → Prop} (hh : opR P ops i K a w) : wpOp P ops Q i K a w := by
  obtain ⟨o, ho, hh⟩ := hh
  unfold wpOp
  simp only [ho]
  split
  · rename_i hw; simp only [hw, if_true] at hh; exact .inl (Oper.wp_any_exit hh)
  · rename_i hw; simp only [hw] at hh; exact hh

/-- Whatever order the first n operations come in, each step stands in R to the one ahead. -/
def wpAnyR (P : Program) (md : Region.Mode) (ops : Array Oper) (R : World → World → Prop) (n : Nat) (L : Array Bool → Act → World → Prop) : Nat → Array Bool → Act → World → Prop
  | 0, listed, a, w => L listed a w
  | f + 1, listed, a, w => Region.ready md ops listed ≠ [] ∧ ∀ i ∈ Region.ready md ops listed, i < n ∧ opR P ops i (fun a' w' => R w w' ∧ wpAnyR P md ops R n L f (listed.setIfInBounds i true) a' w') a w

theorem wpAny_of_anyR {n g : Nat} {L : Array Bool → Act → World → Prop} {Q : Exit → Act → World → Prop} (hL : ∀ listed a w, L listed a w → wpAny P md ops Q g listed a w) :
    ∀ (f : Nat) (listed : Array Bool) (a : Act) (w : World), wpAnyR P md ops R n L f listed a w → wpAny P md ops Q (f + g) listed a w
  | 0, listed, a, w, h => by rw [Nat.zero_add]; exact hL _ _ _ h
  | f + 1, listed, a, w, h => by
    rw [show f + 1 + g = (f + g) + 1 by omega]
    exact ⟨fun h0 => absurd h0 h.1, fun i hi => wpOp_mono (fun a' w' h' => wpAny_of_anyR hL f _ a' w' h'.2) (wpOp_of_opR (h.2 i hi).2)⟩

/-- In every later world the operation yields v (or what it yields is not kept). -/
def Gen (P : Program) (ops : Array Oper) (R : World → World → Prop) (o : Oper) (v : Value) (a : Act) (w : World) : Prop :=
  ∀ w', R w w' → ∃ u, YieldsAt P ops w' o u a ∧ (o.dst = none ∨ u = v)

theorem Gen.step {o : Oper} {v : Value} {a : Act} {w w1 : World} (htr : ∀ x y z, R x y → R y z → R x z) (h : Gen P ops R o v a w) (h1 : R w w1) : Gen P ops R o v a w1 :=
  fun w' hw' => h w' (htr _ _ _ h1 hw')
theorem Gen.same {o : Oper} {v : Value} {a a' : Act} {w : World} (h : Gen P ops R o v a w) (he : execOp a'.eval o = execOp a.eval o)
    (hw : Region.wanted o (yielded ops a'.tmps) = Region.wanted o (yielded ops a.tmps)) : Gen P ops R o v a' w :=
  fun w' hw' => let ⟨u, hy, hu⟩ := h w' hw'; ⟨u, hy.of_same he hw, hu⟩
theorem put_same {o : Oper} {u v : Value} {a : Act} (h : o.dst = none ∨ u = v) : a.put o.dst u = a.put o.dst v := by
  rcases h with h | h
  · rw [h]; rfl
  · rw [h]
theorem Gen.opR {i : Nat} {o : Oper} {v : Value} {a : Act} {w : World} {K : Act → World → Prop} (hi : ops[i]? = some o) (hr : R w w) (h : Gen P ops R o v a w) (hK : K (a.put o.dst v) w) : opR P ops i K a w := by
  obtain ⟨u, hy, hu⟩ := h w hr
  refine ⟨o, hi, ?_⟩
  rw [← put_same hu] at hK
  rcases hy with ⟨hw, hv | ⟨hv, rfl⟩ | ⟨f, args, hv, hc⟩⟩ | ⟨hw, rfl⟩
  · simp only [hw, if_true, Oper.wp, hv, Oper.upon]; exact hK
  · simp only [hw, if_true, Oper.wp, hv, Oper.upon]; exact hK
  · simp only [hw, if_true, Oper.wp, hv, Oper.upon]
    exact hc.mono fun e w'' ⟨he, hw'⟩ => by subst he; subst hw'; exact hK
  · simp only [hw, Bool.false_eq_true, if_false]; exact hK

/-- What changes no slot that o looks at keeps what o yields. -/
theorem opR_put {j : Nat} {oi oj : Oper} {v : Value} (hj : ops[j]? = some oj) (hap : oi.apart ops oj = true)
    (hsi : ∀ cs b, oi.op ≠ .select cs b) (hsj : ∀ cs b, oj.op ≠ .select cs b) {K : Act → World → Prop} {a : Act} {w : World}
    (hy : Gen P ops R oi v a w) (h : opR P ops j K (a.put oi.dst v) w) :
    opR P ops j (fun a' w' => Gen P ops R oi v a' w ∧ K (a'.put oi.dst v) w') a w := by
  obtain ⟨h1, h2, h3⟩ := Oper.apart_spec hap
  have keep : ∀ (a : Act), Gen P ops R oi v a w → ∀ u, Gen P ops R oi v (a.put oj.dst u) w := fun a hy u =>
    hy.same (execOp_put oi hsi a oj.dst u h3) (wanted_put oi a oj.dst u h3)
  obtain ⟨o, ho, h⟩ := h
  obtain rfl : oj = o := Option.some.inj (hj.symm.trans ho)
  refine ⟨oj, hj, ?_⟩
  rw [wanted_put oj a oi.dst v h1] at h
  split
  · rename_i hw
    simp only [hw, if_true] at h
    unfold Oper.wp at *
    rw [execOp_put oj hsj a oi.dst v h1] at h
    generalize (execOp a.eval oj).run P w = r at *
    cases r with
    | ok n w' =>
      cases n <;> simp only [Oper.upon] at h ⊢
      case value u => exact ⟨keep a hy u, by rw [← Act.put_comm a v u h2]; exact h⟩
      case skip => exact ⟨keep a hy _, by rw [← Act.put_comm a v undef h2]; exact h⟩
      case defer d =>
        refine ⟨keep { a with defers := d :: a.defers } (hy.same rfl rfl) _, ?_⟩
        rw [Act.put_defers] at h
        rw [← Act.put_comm _ v undef h2]
        exact h
      case enter f args =>
        refine h.mono fun e w'' he => ?_
        cases e with
        | returned u => exact ⟨keep a hy u, by rw [← Act.put_comm a v u h2]; exact he⟩
        | panicked c => exact he
        | outgrown => exact he
      case row rw_ args =>
        exact h.mono fun u w'' he => ⟨keep a hy u, by rw [← Act.put_comm a v u h2]; exact he⟩
    | halt x w' => cases x <;> simp only [Oper.upon] at h ⊢; exact h
  · rename_i hw
    simp only [hw] at h
    exact ⟨keep a hy _, by rw [← Act.put_comm a v undef h2]; exact h⟩

theorem anyR_first {n i : Nat} {oi : Oper} {v : Value} {L : Array Bool → Act → World → Prop} (hrf : ∀ x, R x x) (htr : ∀ x y z, R x y → R y z → R x z)
    (hi : ops[i]? = some oi) (hsel : ∀ (j : Nat) (o : Oper) cs b, ops[j]? = some o → o.op ≠ .select cs b)
    (hs : Region.sinkB md ops n = true) (hc : Region.chainB md ops n = true) (hn : n < ops.size) (hin : i < n)
    (hdone : ∀ listed a w, L listed a w → ∀ j ∈ Region.ready md ops listed, n ≤ j) :
    ∀ (f : Nat) (listed : Array Bool) (a : Act) (w : World), HeadInv md ops n listed →
      (∀ j oj, ops[j]? = some oj → j ≠ i → listed.getD j true = false → (∀ e ∈ oj.after, Region.binds md e = true → e.on ≠ i) → oi.apart ops oj = true) →
      i ∈ Region.ready md ops listed → Gen P ops R oi v a w →
      wpAnyR P md ops R n L f (listed.setIfInBounds i true) (a.put oi.dst v) w → wpAnyR P md ops R n L (f + 1) listed a w := by
  intro f
  induction f with
  | zero =>
    intro listed a w inv _ hr hy H
    have hun := (mem_ready.1 hr).1
    refine ⟨fun h => (by rw [h] at hr; cases hr), fun j hj => ?_⟩
    have hjn : j < n := by
      rcases Nat.lt_or_ge j n with h | h
      · exact h
      · exact absurd hj (tail_waits hs hc hn inv _ i rfl hin hun j h)
    refine ⟨hjn, ?_⟩
    by_cases hji : j = i
    · subst hji; exact hy.opR hi (hrf _) ⟨hrf _, H⟩
    · have := hdone _ _ _ H j (ready_mono hj hji)
      omega
  | succ f ih =>
    intro listed a w inv hfree hr hy H
    have hun := (mem_ready.1 hr).1
    refine ⟨fun h => (by rw [h] at hr; cases hr), fun j hj => ?_⟩
    have hjn : j < n := by
      rcases Nat.lt_or_ge j n with h | h
      · exact h
      · exact absurd hj (tail_waits hs hc hn inv _ i rfl hin hun j h)
    refine ⟨hjn, ?_⟩
    by_cases hji : j = i
    · subst hji; exact hy.opR hi (hrf _) ⟨hrf _, H⟩
    · have h1 := (H.2 j (ready_mono hj hji)).2
      obtain ⟨hjun, oj, hoj, hall⟩ := mem_ready.1 hj
      have hnot : ∀ e ∈ oj.after, Region.binds md e = true → e.on ≠ i := fun e he hb heq => by
        have h1 := hall e he hb
        rw [heq, getD_both hun] at h1
        cases h1
      have h2 := opR_put hoj (hfree j oj hoj hji hjun hnot) (fun cs b => hsel i oi cs b hi) (fun cs b => hsel j oj cs b hoj) hy h1
      have hfree' : ∀ k ok, ops[k]? = some ok → k ≠ i → (listed.setIfInBounds j true).getD k true = false →
          (∀ e ∈ ok.after, Region.binds md e = true → e.on ≠ i) → oi.apart ops ok = true := fun k ok hk hki hun hno => by
        refine hfree k ok hk hki ?_ hno
        by_cases hjk : j = k
        · subst hjk; exact hjun
        · rw [getD_set_ne true hjk] at hun; exact hun
      refine opR_mono (fun a' w' h3 => ⟨h3.2.1, ih (listed.setIfInBounds j true) a' w' (inv.set hj hjn) hfree' (ready_mono hr (Ne.symm hji)) (h3.1.step htr h3.2.1) ?_⟩) h2
      rw [Array.setIfInBounds_comm _ _ hji]
      exact h3.2.2

/-- A slot that none of the operations writes is as it was. -/
theorem still_slot {w : World} {Q : Act → Prop} {d : Nat} : ∀ (l : List Oper) (a : Act), (∀ o ∈ l, o.dst ≠ some d) → wpStill P ops w Q l a → ∃ a', Q a' ∧ a'.tmps[d]? = a.tmps[d]? ∧ a'.tmps.size = a.tmps.size
  | [], a, _, h => ⟨a, h, rfl, rfl⟩
  | o :: l, a, hd, h => by
    have hput : ∀ u, (a.put o.dst u).tmps[d]? = a.tmps[d]? ∧ (a.put o.dst u).tmps.size = a.tmps.size := fun u => by
      cases ho : o.dst with
      | none => exact ⟨rfl, rfl⟩
      | some e =>
        have hne : e ≠ d := fun h => hd o (by simp) (by rw [ho, h])
        simp [Act.put, Array.getElem?_setIfInBounds_ne hne]
    have key : ∀ u, wpStill P ops w Q l (a.put o.dst u) → ∃ a', Q a' ∧ a'.tmps[d]? = a.tmps[d]? ∧ a'.tmps.size = a.tmps.size := fun u hu => by
      obtain ⟨a', q, h1, h2⟩ := still_slot l (a.put o.dst u) (fun o' ho' => hd o' (by simp [ho'])) hu
      exact ⟨a', q, h1.trans (hput u).1, h2.trans (hput u).2⟩
    unfold wpStill at h
    split at h
    · unfold Oper.still at h
      generalize (execOp a.eval o).run P w = r at h
      cases r with
      | ok n w' =>
        cases n <;> simp only [Oper.stillUpon] at h
        case value u => exact key u h.2
        case skip => exact key _ h.2
        case enter f args => obtain ⟨_, u, _, h⟩ := h; exact key u h
      | halt x w' => simp only [Oper.stillUpon] at h
    · exact key _ h

def dstsB (N : Nat) (l : List Oper) : Bool := decide ((l.filterMap (·.dst)).Nodup) && (l.filterMap (·.dst)).all fun d => decide (d < N)

/-- The operations that the mask marks may come first, in the order of the text. -/
def stillB (md : Region.Mode) (ops : Array Oper) (n : Nat) : List Bool → Nat → Array Bool → Option (Array Bool)
  | [], _, listed => some listed
  | false :: m, k, listed => stillB md ops n m (k + 1) listed
  | true :: m, k, listed => if (Region.ready md ops listed).contains k && Region.free md ops listed k && decide (k < n) then stillB md ops n m (k + 1) (listed.setIfInBounds k true) else none

def count : List Bool → Nat
  | [] => 0
  | true :: m => count m + 1
  | false :: m => count m

theorem stage_still {n N f : Nat} {L : Array Bool → Act → World → Prop} (hrf : ∀ x, R x x) (htr : ∀ x y z, R x y → R y z → R x z) (hsel : Region.noSelect ops = true) (hs : Region.sinkB md ops n = true) (hc : Region.chainB md ops n = true) (hn : n < ops.size)
    (hdone : ∀ listed a w, L listed a w → ∀ j ∈ Region.ready md ops listed, n ≤ j) {listed' : Array Bool} {a1 : Act} {w : World} :
    ∀ (m : List Bool) (l : List Oper) (k : Nat) (listed : Array Bool) (a : Act), (∀ j, l[j]? = ops[k + j]?) → m.length ≤ l.length → HeadInv md ops n listed → dstsB N (sel m l) = true → N ≤ a.tmps.size →
      stillB md ops n m k listed = some listed' → (∀ w', R w w' → wpStill P ops w' (fun a' => a' = a1) (sel m l) a) →
      (HeadInv md ops n listed' → wpAnyR P md ops R n L f listed' a1 w) → wpAnyR P md ops R n L (f + count m) listed a w
  | [], l, k, listed, a, _, _, inv, _, _, hB, h, H => by
    simp only [stillB, Option.some.injEq] at hB
    subst hB
    have := h w (hrf _)
    rw [sel_nil] at this
    have e : a = a1 := this
    subst e
    exact H inv
  | false :: m, [], k, listed, a, hl, hml, _, _, _, _, _, _ => by simp at hml
  | true :: m, [], k, listed, a, hl, hml, _, _, _, _, _, _ => by simp at hml
  | false :: m, o :: l, k, listed, a, hl, hml, inv, hd, hN, hB, h, H => by
    exact stage_still hrf htr hsel hs hc hn hdone m l (k + 1) listed a (fun j => by have := hl (j + 1); simpa [Nat.add_assoc, Nat.add_comm 1 j] using this) (by simpa using hml) inv hd hN hB h H
  | true :: m, o :: l, k, listed, a, hl, hml, inv, hd, hN, hB, h, H => by
    have h0 : ops[k]? = some o := by simpa using (hl 0).symm
    simp only [stillB] at hB
    split at hB
    · rename_i hk
      simp only [Bool.and_eq_true, decide_eq_true_eq] at hk
      obtain ⟨⟨hr, hf⟩, hkn⟩ := hk
      have hr' : k ∈ Region.ready md ops listed := by simpa using hr
      simp only [sel_true] at h hd
      -- what it yields is what the last frame holds
      have hyield : ∀ w', R w w' → ∃ u, YieldsAt P ops w' o u a ∧ wpStill P ops w' (fun a' => a' = a1) (sel m l) (a.put o.dst u) := fun w' hw' => by
        have hst : stOp P ops w' k (wpStill P ops w' (fun a' => a' = a1) (sel m l)) a := by unfold stOp; simp only [h0]; exact h w' hw'
        exact yieldsAt_of_stOp h0 hst
      have hdn : ∀ d, o.dst = some d → (∀ o' ∈ sel m l, o'.dst ≠ some d) ∧ d < N := fun d hd' => by
        simp only [dstsB, List.filterMap_cons, hd', Bool.and_eq_true, decide_eq_true_eq, List.nodup_cons, List.all_cons] at hd
        refine ⟨fun o' ho' he => hd.1.1 (List.mem_filterMap.2 ⟨o', ho', he⟩), hd.2.1⟩
      have hval : ∀ d u, o.dst = some d → wpStill P ops w (fun a' => a' = a1) (sel m l) (a.put o.dst u) → a1.tmps.getD d undef = u := fun d u hd' hst => by
        obtain ⟨a', rfl, h1, _⟩ := still_slot _ _ (hdn d hd').1 hst
        rw [hd'] at h1
        have : d < a.tmps.size := Nat.lt_of_lt_of_le (hdn d hd').2 hN
        simp [Act.put, this] at h1
        rw [← Array.getElem?_toList] at h1
        simp [Array.getD_eq_getD_getElem?, ← Array.getElem?_toList, h1]
      have hval' : ∀ w', R w w' → ∀ d u, o.dst = some d → wpStill P ops w' (fun a' => a' = a1) (sel m l) (a.put o.dst u) → a1.tmps.getD d undef = u := fun w' _ d u hd' hst => by
        obtain ⟨a', rfl, h1, _⟩ := still_slot _ _ (hdn d hd').1 hst
        rw [hd'] at h1
        have : d < a.tmps.size := Nat.lt_of_lt_of_le (hdn d hd').2 hN
        simp [Act.put, this] at h1
        rw [← Array.getElem?_toList] at h1
        simp [Array.getD_eq_getD_getElem?, ← Array.getElem?_toList, h1]
      obtain ⟨v, hv⟩ : ∃ v, ∀ w', R w w' → ∃ u, YieldsAt P ops w' o u a ∧ (o.dst = none ∨ u = v) ∧ wpStill P ops w' (fun a' => a' = a1) (sel m l) (a.put o.dst v) := by
        cases hd' : o.dst with
        | none => exact ⟨undef, fun w' hw' => let ⟨u, hy, hst⟩ := hyield w' hw'; ⟨u, hy, .inl rfl, by rw [hd'] at hst; exact hst⟩⟩
        | some d =>
          refine ⟨a1.tmps.getD d undef, fun w' hw' => ?_⟩
          obtain ⟨u, hy, hst⟩ := hyield w' hw'
          have e := hval' w' hw' d u hd' hst
          exact ⟨u, hy, .inr e.symm, by rw [e, ← hd']; exact hst⟩
      have hd2 : dstsB N (sel m l) = true := by
        cases hd' : o.dst with
        | none => simpa [dstsB, List.filterMap_cons, hd'] using hd
        | some d =>
          simp only [dstsB, List.filterMap_cons, hd', Bool.and_eq_true, decide_eq_true_eq, List.nodup_cons, List.all_cons] at hd ⊢
          exact ⟨hd.1.2, hd.2.2⟩
      have hN2 : N ≤ (a.put o.dst v).tmps.size := by
        cases hd' : o.dst with
        | none => exact hN
        | some d => simpa [Act.put] using hN
      refine anyR_first hrf htr h0 (Region.noSelect_spec hsel) hs hc hn hkn hdone (f + count m) listed a w inv (Region.free_spec h0 hf) hr' (fun w' hw' => let ⟨u, h1, h2, _⟩ := hv w' hw'; ⟨u, h1, h2⟩) ?_
      exact stage_still hrf htr hsel hs hc hn hdone m l (k + 1) _ _ (fun j => by have := hl (j + 1); simpa [Nat.add_assoc, Nat.add_comm 1 j] using this) (by simpa using hml) (inv.set hr' hkn) hd2 hN2 hB (fun w' hw' => let ⟨_, _, _, h3⟩ := hv w' hw'; h3) H
    · cases hB

theorem opR_of_stOp {i : Nat} {a : Act} {w : World} {K : Act → Prop} {K' : Act → World → Prop} (hi : ∃ o, ops[i]? = some o) (h : ∀ a, K a → K' a w) (hh : stOp P ops w i K a) : opR P ops i K' a w := by
  obtain ⟨o, ho⟩ := hi
  obtain ⟨u, hy, hk⟩ := yieldsAt_of_stOp ho hh
  refine ⟨o, ho, ?_⟩
  rcases hy with ⟨hw, hv | ⟨hv, rfl⟩ | ⟨f, args, hv, hc⟩⟩ | ⟨hw, rfl⟩
  · simp only [hw, if_true, Oper.wp, hv, Oper.upon]; exact h _ hk
  · simp only [hw, if_true, Oper.wp, hv, Oper.upon]; exact h _ hk
  · simp only [hw, if_true, Oper.wp, hv, Oper.upon]
    exact hc.mono fun e w'' ⟨he, hw'⟩ => by subst he; subst hw'; exact h _ hk
  · simp only [hw, Bool.false_eq_true, if_false]; exact h _ hk

theorem anyR_of_anyL {n : Nat} {w : World} {L : Array Bool → Act → Prop} (hrf : ∀ x, R x x) : ∀ (f : Nat) (listed : Array Bool) (a : Act), wpAnyL P md ops w n L f listed a → wpAnyR P md ops R n (fun x a' w' => w' = w ∧ L x a') f listed a w
  | 0, _, _, h => ⟨rfl, h⟩
  | f + 1, _, _, h => ⟨h.1, fun i hi => ⟨(h.2 i hi).1, opR_of_stOp (let ⟨_, o, ho, _⟩ := mem_ready.1 hi; ⟨o, ho⟩) (fun a' h' => ⟨hrf _, anyR_of_anyL hrf f _ a' h'⟩) (h.2 i hi).2⟩⟩

theorem anyR_mono {n : Nat} {L L' : Array Bool → Act → World → Prop} (h : ∀ x a w, L x a w → L' x a w) : ∀ (f : Nat) (listed : Array Bool) (a : Act) (w : World), wpAnyR P md ops R n L f listed a w → wpAnyR P md ops R n L' f listed a w
  | 0, _, _, _, hh => h _ _ _ hh
  | f + 1, _, _, _, hh => ⟨hh.1, fun i hi => ⟨(hh.2 i hi).1, opR_mono (fun a' w' h' => ⟨h'.1, anyR_mono h f _ a' w' h'.2⟩) (hh.2 i hi).2⟩⟩

/-- The last stage: nothing turns the world any more. -/
theorem stage_last {n : Nat} {w : World} {Lq : Act → Prop} (hsel : Region.noSelect ops = true) (hs : Region.sinkB md ops n = true) (hc : Region.chainB md ops n = true) (hn : n < ops.size)
    {listed' : Array Bool} (hdone : ∀ j ∈ Region.ready md ops listed', n ≤ j) :
    ∀ (m : List Bool) (l : List Oper) (k : Nat) (listed : Array Bool) (a : Act), (∀ j, l[j]? = ops[k + j]?) → m.length ≤ l.length → HeadInv md ops n listed →
      stillB md ops n m k listed = some listed' → wpStill P ops w Lq (sel m l) a → wpAnyL P md ops w n (fun x a' => x = listed' ∧ Lq a') (count m) listed a
  | [], l, k, _, _, _, _, _, hB, h => by
    simp only [stillB, Option.some.injEq] at hB
    rw [sel_nil] at h
    exact ⟨hB, h⟩
  | false :: m, [], k, listed, a, hl, hml, _, _, _ => by simp at hml
  | true :: m, [], k, listed, a, hl, hml, _, _, _ => by simp at hml
  | false :: m, o :: l, k, listed, a, hl, hml, inv, hB, h =>
    stage_last hsel hs hc hn hdone m l (k + 1) listed a (fun j => by have := hl (j + 1); simpa [Nat.add_assoc, Nat.add_comm 1 j] using this) (by simpa using hml) inv hB h
  | true :: m, o :: l, k, listed, a, hl, hml, inv, hB, h => by
    have h0 : ops[k]? = some o := by simpa using (hl 0).symm
    simp only [stillB] at hB
    split at hB
    · rename_i hk
      simp only [Bool.and_eq_true, decide_eq_true_eq] at hk
      obtain ⟨⟨hr, hf⟩, hkn⟩ := hk
      have hr' : k ∈ Region.ready md ops listed := by simpa using hr
      have hst : stOp P ops w k (wpStill P ops w Lq (sel m l)) a := by unfold stOp; simp only [h0]; exact h
      obtain ⟨v, hy, hK⟩ := yieldsAt_of_stOp h0 hst
      exact wpAnyL_first h0 (Region.noSelect_spec hsel) hs hc hn hkn (fun x a' hL => by rw [hL.1]; exact hdone) (count m) listed a inv (Region.free_spec h0 hf) hr' hy
        (stage_last hsel hs hc hn hdone m l (k + 1) _ _ (fun j => by have := hl (j + 1); simpa [Nat.add_assoc, Nat.add_comm 1 j] using this) (by simpa using hml) (inv.set hr' hkn) hB hK)
    · cases hB

/-- The stages: of each, what may be read in any later world, and the call behind it; at last what is still read, and what is forced. -/
def wpStages (P : Program) (ops : Array Oper) (N : Nat) (R : World → World → Prop) (Lq : Act → World → Prop) (l : List Oper) (ml : List Bool) : List (List Bool × Nat) → Act → World → Prop
  | [], a, w => wpStill P ops w (fun a' => Lq a' w) (sel ml l) a
  | (m, c) :: rest, a, w => N ≤ a.tmps.size ∧ ∃ a1, (∀ w1, R w w1 → wpStill P ops w1 (fun a' => a' = a1) (sel m l) a) ∧
      wpList P ops (Exit.then (fun a2 w2 => R w w2 ∧ wpStages P ops N R Lq l ml rest a2 w2) noExit) [l.getD c default] a1 w

theorem wpStages_cons {N : Nat} {Lq : Act → World → Prop} {l : List Oper} {ml m : List Bool} {c : Nat} {rest : List (List Bool × Nat)} {a a1 : Act} {w : World} (hN : N ≤ a.tmps.size)
    (h1 : ∀ w1, R w w1 → wpStill P ops w1 (fun a' => a' = a1) (sel m l) a)
    (h2 : wpList P ops (Exit.then (fun a2 w2 => R w w2 ∧ wpStages P ops N R Lq l ml rest a2 w2) noExit) [l.getD c default] a1 w) : wpStages P ops N R Lq l ml ((m, c) :: rest) a w := ⟨hN, a1, h1, h2⟩
theorem wpStages_nil {N : Nat} {Lq : Act → World → Prop} {l : List Oper} {ml : List Bool} {a : Act} {w : World}
    (h : wpStill P ops w (fun a' => Lq a' w) (sel ml l) a) : wpStages P ops N R Lq l ml [] a w := h

def total (ml : List Bool) : List (List Bool × Nat) → Nat
  | [] => count ml
  | (m, _) :: rest => total ml rest + 1 + count m

def stagesGo (md : Region.Mode) (ops : Array Oper) (N n : Nat) (ml : List Bool) : List (List Bool × Nat) → Array Bool → Bool
  | [], listed => decide (ml.length ≤ ops.size) && match stillB md ops n ml 0 listed with
    | some listed' => Region.seqB md ops (ops.size - n) n listed'
    | none => false
  | (m, c) :: rest, listed => decide (m.length ≤ ops.size) && dstsB N (sel m ops.toList) && decide (c < n) && match stillB md ops n m 0 listed with
    | some listed' => decide (Region.ready md ops listed' = [c]) && stagesGo md ops N n ml rest (listed'.setIfInBounds c true)
    | none => false

def stagesB (md : Region.Mode) (ops : Array Oper) (N n : Nat) (ml : List Bool) (st : List (List Bool × Nat)) : Bool :=
  Region.noSelect ops && decide (n < ops.size) && Region.sinkB md ops n && Region.chainB md ops n && decide (total ml st = n) && stagesGo md ops N n ml st (Array.replicate ops.size false)

theorem anyR_call {n c : Nat} {L : Array Bool → Act → World → Prop} {listed : Array Bool} {a : Act} {w : World} {K : Act → World → Prop} {f : Nat} {o : Oper}
    (hr : Region.ready md ops listed = [c]) (hcn : c < n) (ho : ops[c]? = some o) (h : wpList P ops (Exit.then K noExit) [o] a w)
    (hK : ∀ a' w', K a' w' → R w w' ∧ wpAnyR P md ops R n L f (listed.setIfInBounds c true) a' w') : wpAnyR P md ops R n L (f + 1) listed a w := by
  refine ⟨by rw [hr]; simp, fun i hi => ?_⟩
  rw [hr] at hi
  obtain rfl : i = c := by simpa using hi
  refine ⟨hcn, o, ho, ?_⟩
  unfold wpList at h
  split
  · rename_i hw
    simp only [hw, if_true] at h
    rcases h with h | ⟨_, _, _, hf⟩
    · unfold Oper.wp at *
      generalize (execOp a.eval o).run P w = r at *
      cases r with
      | ok x w' =>
        cases x <;> simp only [Oper.upon] at h ⊢ <;> first
          | exact hK _ _ h
          | exact Calls.mono h (fun e w'' he => by
              cases e with
              | returned v => exact hK _ _ he
              | panicked c => exact False.elim he
              | outgrown => exact (let ⟨_, _, hf⟩ := he; False.elim hf))
          | exact Rows.mono h (fun _ _ he => hK _ _ he)
      | halt x w' => cases x <;> simp only [Oper.upon] at h ⊢; exact False.elim h
    · exact False.elim hf
  · rename_i hw
    simp only [hw] at h
    exact hK _ _ h

theorem stages_sound {N n g : Nat} {l : List Oper} {ml : List Bool} {Lq : Act → World → Prop} (hrf : ∀ x, R x x) (htr : ∀ x y z, R x y → R y z → R x z) (hl : ∀ j, l[j]? = ops[0 + j]?) (hll : l.length = ops.size) (hop : ops.toList = l) (hg : g = ops.size - n)
    (hsel : Region.noSelect ops = true) (hs : Region.sinkB md ops n = true) (hc : Region.chainB md ops n = true) (hn : n < ops.size) :
    ∀ (st : List (List Bool × Nat)) (listed : Array Bool) (a : Act) (w : World), HeadInv md ops n listed → stagesGo md ops N n ml st listed = true → wpStages P ops N R Lq l ml st a w →
      wpAnyR P md ops R n (fun x a' w' => Region.seqB md ops g n x = true ∧ Lq a' w') (total ml st) listed a w
  | [], listed, a, w, inv, hB, h => by
    simp only [stagesGo, Bool.and_eq_true, decide_eq_true_eq] at hB
    obtain ⟨hml, hB⟩ := hB
    split at hB
    · rename_i listed' he
      rw [← hg] at hB
      have := stage_last (P := P) (w := w) (Lq := fun a' => Lq a' w) hsel hs hc hn (seqB_ready hB) ml l 0 listed a hl (by rw [hll]; exact hml) inv he h
      exact anyR_mono (fun x a' w' ⟨hw, hx, hq⟩ => by subst hw; subst hx; exact ⟨hB, hq⟩) _ _ _ _ (anyR_of_anyL hrf _ _ _ this)
    · cases hB
  | (m, c) :: rest, listed, a, w, inv, hB, h => by
    simp only [stagesGo, Bool.and_eq_true, decide_eq_true_eq] at hB
    obtain ⟨⟨⟨hml, hd⟩, hcn⟩, hB⟩ := hB
    split at hB
    · rename_i listed' he
      simp only [Bool.and_eq_true, decide_eq_true_eq] at hB
      obtain ⟨hr, hB'⟩ := hB
      obtain ⟨hN, a1, h1, h2⟩ := h
      have hco : ∃ o, ops[c]? = some o := ⟨ops[c]'(by omega), by simp⟩
      obtain ⟨o, ho⟩ := hco
      have hlo : l.getD c default = o := by
        have := hl c
        rw [Nat.zero_add, ho] at this
        simp [List.getD_eq_getElem?_getD, this]
      rw [hlo] at h2
      rw [show total ml ((m, c) :: rest) = total ml rest + 1 + count m from rfl]
      refine stage_still hrf htr hsel hs hc hn (fun x a' w' hL => seqB_ready hL.1) m l 0 listed a hl (by rw [hll]; exact hml) inv (by rw [← hop]; exact hd) hN he h1 (fun inv' => ?_)
      refine anyR_call hr hcn ho h2 (fun a' w' h3 => ⟨h3.1, ?_⟩)
      have hrc : c ∈ Region.ready md ops listed' := by rw [hr]; simp
      exact stages_sound hrf htr hl hll hop hg hsel hs hc hn rest _ a' w' (inv'.set hrc hcn) hB' h3.2
    · cases hB

theorem wp_draw_stages {id : Nat} {Q : Exit → Act → World → Prop} {a : Act} {w : World} {l : List Oper} (N n : Nat) (ml : List Bool) (st : List (List Bool × Nat)) (R : World → World → Prop) (hrf : ∀ x, R x x) (htr : ∀ x y z, R x y → R y z → R x z)
    (hm : P.follows .mixedOrders = true) (hB : stagesB .any l.toArray N n ml st = true)
    (h : wpStages P l.toArray N R (fun a' w' => wpList P l.toArray Q (l.drop n) a' w') l ml st a w.drew) : (Code.region id l.toArray true).wp P Q a w := by
  simp only [stagesB, Bool.and_eq_true, decide_eq_true_eq] at hB
  obtain ⟨⟨⟨⟨⟨hsel, hn⟩, hs⟩, hc⟩, htot⟩, hB⟩ := hB
  have hdl : (l.drop n).length = l.toArray.size - n := by simp
  have inv0 : HeadInv .any l.toArray n (Array.replicate l.toArray.size false) :=
    ⟨by simp, fun j oj _ hl => (by rw [getD_replicate_false] at hl; cases hl), fun t _ ht => getD_in (by simpa using ht) (getD_replicate_false _ _)⟩
  have H := stages_sound (md := .any) (g := l.toArray.size - n) hrf htr (by simp) (by simp) (by simp) rfl hsel hs hc hn st _ a w.drew inv0 hB h
  refine wp_region_any hm ?_
  have := wpAny_of_anyR (Q := Q) (g := l.toArray.size - n) (fun listed a' w' hL => by
    have := wpAny_of_seq (md := .any) (Q' := Q) (l.drop n) n listed a' w' (fun j => by simp [List.getElem?_drop]) (by rw [hdl]; exact hL.1) hL.2
    rwa [hdl] at this) _ _ _ _ H
  rw [htot, show n + (l.toArray.size - n) = l.toArray.size by omega] at this
  exact this
end

/-- Old memory is as it was. -/
def Ext (x y : World) : Prop := Below x.heap.size x y
theorem Ext.refl (x : World) : Ext x x := Below.refl _ _
theorem Ext.trans {x y z : World} (h : Ext x y) (k : Ext y z) : Ext x z := Below.trans h (Below.mono k h.size)
theorem Ext.cell {x y : World} (h : Ext x y) {b o : Nat} (hb : b < x.heap.size) : y.cell? ⟨b, o, none⟩ = x.cell? ⟨b, o, none⟩ := Below.cell (p := ⟨b, o, none⟩) h hb
theorem Ext.frozen {x y : World} (h : Ext x y) {b o : Nat} (hb : b < x.heap.size) : y.frozen? ⟨b, o, none⟩ = x.frozen? ⟨b, o, none⟩ := Below.frozen (p := ⟨b, o, none⟩) h hb
theorem Ext.block {x y : World} (h : Ext x y) {b : Nat} {o : Obj} (hb : x.heap[b]? = some o) : y.heap[b]? = some o := (Below.block h b (blk_lt hb)).trans hb
theorem Ext.alloc {x y : World} (h : Ext x y) (o : Obj) : Ext x (y.alloc o) := Below.alloc h h.size o
theorem Ext.drew {x y : World} (h : Ext x y) : Ext x y.drew := Below.drew h
theorem Ext.setNew {x y : World} (h : Ext x y) {b i : Nat} (hb : x.heap.size ≤ b) (u : Value) : Ext x (y.setCell ⟨b, i, none⟩ u) := Below.setCell h hb u

/-- A block written whole. -/
def putBlk (w : World) (b : Nat) (o : Obj) : World := { w with heap := w.heap.setIfInBounds b o }
theorem putBlk_size (w : World) (b : Nat) (o : Obj) : (putBlk w b o).heap.size = w.heap.size := by simp [putBlk]
theorem putBlk_same {w : World} {b : Nat} (o : Obj) (hb : b < w.heap.size) : (putBlk w b o).heap[b]? = some o := by simp [putBlk, hb]
theorem putBlk_other (w : World) {b c : Nat} (o : Obj) (hbc : c ≠ b) : (putBlk w b o).heap[c]? = w.heap[c]? := by
  simp [putBlk, Array.getElem?_setIfInBounds_ne (Ne.symm hbc)]
theorem putBlk_cell {w : World} {b i : Nat} {cs : Array Value} {T : TypeId} {fz : Nat × Nat} (hb : b < w.heap.size) : (putBlk w b (.cells cs T fz)).cell? ⟨b, i, none⟩ = cs[i]? := by
  simp [World.cell?, putBlk_same _ hb]
theorem putBlk_cell_other (w : World) {b : Nat} (o : Obj) (a : Addr) (h : a.block ≠ b) : (putBlk w b o).cell? a = w.cell? a := World.cell?_of_block (putBlk_other w o h)
theorem putBlk_free {w : World} {b i : Nat} {cs : Array Value} {T : TypeId} (hb : b < w.heap.size) : (putBlk w b (.cells cs T (0, 0))).frozen? ⟨b, i, none⟩ = false := by
  simp [World.frozen?, putBlk_same _ hb]
theorem putBlk_free_other (w : World) {b : Nat} (o : Obj) (a : Addr) (h : a.block ≠ b) : (putBlk w b o).frozen? a = w.frozen? a := World.frozen?_of_block (putBlk_other w o h)
attribute [go_sem] putBlk_size
theorem Ext.putNew {x y : World} (h : Ext x y) {b : Nat} (hb : x.heap.size ≤ b) (o : Obj) : Ext x (putBlk y b o) :=
  ⟨h.os, h.tape, h.output, by rw [putBlk_size]; exact h.size, fun k hk => (putBlk_other y o (by omega)).trans (Below.block h k hk)⟩

theorem setCells_blk (b : Nat) (T : TypeId) : ∀ (vs : List Value) (k : Nat) (w : World) (cs : Array Value), w.heap[b]? = some (.cells cs T (0, 0)) → k + vs.length ≤ cs.size →
    w.setCells b k vs = putBlk w b (.cells (cs.toList.take k ++ vs ++ cs.toList.drop (k + vs.length)).toArray T (0, 0))
  | [], k, w, cs, h, hk => by
    have hb := blk_lt h
    have : w.heap.setIfInBounds b (.cells cs T (0, 0)) = w.heap := by
      apply Array.ext_getElem?
      intro i
      by_cases hi : b = i
      · subst hi; simp [hb, ← h]
      · rw [Array.getElem?_setIfInBounds_ne hi]
    simp [World.setCells, putBlk, this]
  | v :: vs, k, w, cs, h, hk => by
    have hb := blk_lt h
    simp only [List.length_cons] at hk
    have h1 := blk_set (i := k) v h
    rw [World.setCells, setCells_blk b T vs (k + 1) _ _ h1 (by simp; omega)]
    have e : cs.toList.take k ++ v :: vs ++ cs.toList.drop (k + (vs.length + 1)) = (cs.toList.set k v).take (k + 1) ++ vs ++ (cs.toList.set k v).drop (k + 1 + vs.length) := by
      have hkl : k < cs.toList.length := by simp; omega
      rw [List.take_succ_eq_append_getElem (by simpa using hkl), List.getElem_set_self, List.take_set, List.drop_set]
      simp only [show k < k + 1 + vs.length by omega, if_true]
      rw [List.set_eq_of_length_le (by simp; omega), show k + 1 + vs.length = k + (vs.length + 1) by omega]
      simp
    simp only [List.length_cons]
    have e2 : (cs.setIfInBounds k v).toList = cs.toList.set k v := by simp
    rw [e2, ← e]
    simp only [putBlk, World.setCell]
    congr 1
    apply Array.ext_getElem?
    intro i
    by_cases hi : b = i
    · subst hi; simp [hb]
    · rw [Array.getElem?_setIfInBounds_ne hi, Array.getElem?_setIfInBounds_ne hi, Array.getElem?_modify]; simp [hi]

theorem wpList_store_blk {P : Program} {ops : Array Oper} {rest : List Oper} {op : Oper} {a : Act} {w : World} {Q : Exit → Act → World → Prop} (hgd : op.guard = none) {ty : TypeId} {x y : Operand} (ho : op.op = .store ty x y)
    {b : Nat} {cs vs : Array Value} {T : TypeId} (hx : a.eval x = .pointer (some ⟨b, 0, none⟩)) (hy : a.eval y = .agg vs)
    (hb : w.heap[b]? = some (.cells cs T (0, 0))) (hs : vs.size = cs.size) (hi : (P.info? ty).map (·.size) = some vs.size) (h1 : vs.all (·.oneCell') = true)
    (h : wpList P ops Q rest (a.put op.dst undef) (putBlk w b (.cells vs T (0, 0)))) : wpList P ops Q (op :: rest) a w := by
  refine wpList_store_mid hgd ty x y ho b 0 vs hx hy (fun j hj => ?_) hi h1 ?_
  · rw [Nat.zero_add]
    have hj' : j < cs.size := by omega
    exact ⟨by rw [blk_cell hb (v := cs[j]) (by simp)]; rfl, blk_free hb⟩
  · rw [setCells_blk b T vs.toList 0 w cs hb (by simp; omega)]
    rw [show (cs.toList.take 0 ++ vs.toList ++ cs.toList.drop (0 + vs.toList.length)).toArray = vs by simp [hs, List.drop_eq_nil_of_le]]
    exact h

/-- The newest block. -/
theorem heap_new (w : World) (o : Obj) : (w.alloc o).heap[w.heap.size]? = some o := by
  show (w.heap.push o)[w.heap.size]? = some o
  simp
theorem heap_at (w : World) (o : Obj) {n : Nat} (h : n = w.heap.size) : (w.alloc o).heap[n]? = some o := by subst h; exact heap_new w o
theorem heap_before (w : World) (o : Obj) {n : Nat} {x : Obj} (h : w.heap[n]? = some x) : (w.alloc o).heap[n]? = some x := blk_alloc o h

/-! ### A struct result, read whole out of its block -/
theorem blk_range {w : World} {b : Nat} {cs : Array Value} {T : TypeId} {fz : Nat × Nat} (h : w.heap[b]? = some (.cells cs T fz)) : w.rangeAt b 0 cs.toList := fun j v hv => by
  rw [Nat.zero_add]
  exact blk_cell h (by simpa using hv)
theorem run_load_blk {P : Program} {w : World} {b : Nat} {cs : Array Value} {T ty : TypeId} {fz : Nat × Nat} (h : w.heap[b]? = some (.cells cs T fz)) (hu : (P.underlying ty).map TypeDesc.isRow = some true) (hi : (P.info? ty).map (·.size) = some cs.size) :
    (loadVar ty ⟨b, 0, none⟩).run P w = .ok (.agg cs) w := by
  obtain ⟨d, hu, hd⟩ : ∃ d, P.underlying ty = some d ∧ d.isRow = true := by
    cases hq : P.underlying ty with
    | none => simp [hq] at hu
    | some d => exact ⟨d, rfl, by rw [hq] at hu; exact Option.some.inj hu⟩
  have := run_loadVar_mid (P := P) w b 0 ty cs.toList d (blk_range h) hu hd (by simpa using hi)
  simpa using this
section
variable {P : Program} {fn : Func} {tmps : Array Value} {w : World} {b : Nat} {cs : Array Value} {T ty : TypeId} {fz : Nat × Nat}
theorem res_cell {t : Tmp} (hr : fn.results = #[.cell t ty]) (hx : tmps.getD t undef = .pointer (some ⟨b, 0, none⟩)) (h : w.heap[b]? = some (.cells cs T fz)) (hu : (P.underlying ty).map TypeDesc.isRow = some true) (hi : (P.info? ty).map (·.size) = some cs.size) :
    (results fn tmps).run P w = .ok (.agg cs) w := by
  have hx' : tmps[t]?.getD undef = .pointer (some ⟨b, 0, none⟩) := by simpa using hx
  simp [results, hr, hx', asAddr, run_load_blk h hu hi]
theorem res_cell_tmp {t u : Tmp} {v : Value} (hr : fn.results = #[.cell t ty, .tmp u]) (hx : tmps.getD t undef = .pointer (some ⟨b, 0, none⟩)) (hv : tmps.getD u undef = v) (h : w.heap[b]? = some (.cells cs T fz)) (hu : (P.underlying ty).map TypeDesc.isRow = some true) (hi : (P.info? ty).map (·.size) = some cs.size) :
    (results fn tmps).run P w = .ok (.tuple #[.agg cs, v]) w := by
  subst hv
  have hx' : tmps[t]?.getD undef = .pointer (some ⟨b, 0, none⟩) := by simpa using hx
  simp [results, hr, hx', asAddr, run_load_blk h hu hi]
end

/-- Old memory but block b is as it was. -/
def Off (b : Nat) (x y : World) : Prop := Only x.heap.size b x y
theorem Off.refl (b : Nat) (x : World) : Off b x x := Only.of_below (Below.refl _ _)
theorem Off.trans {b : Nat} {x y z : World} (h : Off b x y) (k : Off b y z) : Off b x z := Only.trans h (Only.mono k h.size)
theorem Off.of_ext {b : Nat} {x y : World} (h : Ext x y) : Off b x y := Only.of_below h
theorem Off.block {b : Nat} {x y : World} (h : Off b x y) {k : Nat} {o : Obj} (hk : x.heap[k]? = some o) (hne : k ≠ b) : y.heap[k]? = some o := (Only.block h k (blk_lt hk) hne).trans hk
theorem Off.cell {b : Nat} {x y : World} (h : Off b x y) {k o : Nat} (hk : k < x.heap.size) (hne : k ≠ b) : y.cell? ⟨k, o, none⟩ = x.cell? ⟨k, o, none⟩ :=
  World.cell?_of_block (w := x) (Only.block h k hk hne)
theorem Off.frozen {b : Nat} {x y : World} (h : Off b x y) {k o : Nat} (hk : k < x.heap.size) (hne : k ≠ b) : y.frozen? ⟨k, o, none⟩ = x.frozen? ⟨k, o, none⟩ :=
  World.frozen?_of_block (w := x) (Only.block h k hk hne)
theorem Off.drew {b : Nat} {x y : World} (h : Off b x y) : Off b x y.drew := Only.drew h
theorem Off.alloc {b : Nat} {x y : World} (h : Off b x y) (o : Obj) : Off b x (y.alloc o) := Only.alloc h h.size o
theorem Off.setCell {b : Nat} {x y : World} (h : Off b x y) (i : Nat) (u : Value) : Off b x (y.setCell ⟨b, i, none⟩ u) := Only.setCell h i u
theorem set_cell_other {w : World} {b c i j : Nat} {v : Value} (h : c ≠ b) : (w.setCell ⟨b, i, none⟩ v).cell? ⟨c, j, none⟩ = w.cell? ⟨c, j, none⟩ := World.cell?_of_block (w := w) (blk_set_other v h)
theorem set_free_other {w : World} {b c i j : Nat} {v : Value} (h : c ≠ b) : (w.setCell ⟨b, i, none⟩ v).frozen? ⟨c, j, none⟩ = w.frozen? ⟨c, j, none⟩ := World.frozen?_of_block (w := w) (blk_set_other v h)
theorem Ext.cellsOf {x y : World} (h : Ext x y) {b : Nat} {cs : Array Value} {T : TypeId} {fz : Nat × Nat} (hb : x.heap[b]? = some (.cells cs T fz)) : ∀ o, y.cell? ⟨b, o, none⟩ = cs[o]? := fun o => by
  simp [World.cell?, h.block hb]
theorem Ext.freeOf {x y : World} (h : Ext x y) {b : Nat} {cs : Array Value} {T : TypeId} (hb : x.heap[b]? = some (.cells cs T (0, 0))) : ∀ o, y.frozen? ⟨b, o, none⟩ = false := fun _ => blk_free (h.block hb)
theorem Ext.blt {x y : World} (h : Ext x y) {b : Nat} {o : Obj} (hb : x.heap[b]? = some o) : b < y.heap.size := blk_lt (h.block hb)
theorem blk_drew {w : World} {b : Nat} {o : Option Obj} (h : w.heap[b]? = o) : w.drew.heap[b]? = o := h
theorem blk_off {w : World} {b c i : Nat} {v : Value} {o : Option Obj} (hbc : c ≠ b) (h : w.heap[c]? = o) : (w.setCell ⟨b, i, none⟩ v).heap[c]? = o := (blk_set_other v hbc).trans h
theorem blk_put {w : World} {b c : Nat} {x : Obj} {o : Option Obj} (hbc : c ≠ b) (h : w.heap[c]? = o) : (putBlk w b x).heap[c]? = o := (putBlk_other w x hbc).trans h
theorem lt_put {w : World} {b n : Nat} {x : Obj} (h : n < w.heap.size) : n < (putBlk w b x).heap.size := by rw [putBlk_size]; exact h
theorem lt_set {w : World} {a : Addr} {v : Value} {n : Nat} (h : n < w.heap.size) : n < (w.setCell a v).heap.size := by simpa [World.setCell] using h
theorem lt_alloc {w : World} {x : Obj} {n : Nat} (h : n < w.heap.size) : n < (w.alloc x).heap.size := by simp; omega
theorem lt_drew {w : World} {n : Nat} (h : n < w.heap.size) : n < w.drew.heap.size := h
theorem Off.cellsOf {b : Nat} {x y : World} (h : Off b x y) {k : Nat} {cs : Array Value} {T : TypeId} {fz : Nat × Nat} (hb : x.heap[k]? = some (.cells cs T fz)) (hne : k ≠ b) : ∀ o, y.cell? ⟨k, o, none⟩ = cs[o]? := fun o => by
  simp [World.cell?, h.block hb hne]
theorem Off.put {b : Nat} {x y : World} (h : Off b x y) (o : Obj) : Off b x (putBlk y b o) :=
  ⟨h.os, h.tape, h.output, by rw [putBlk_size]; exact h.size, fun k hk hb => (putBlk_other y o hb).trans (Only.block h k hk hb)⟩
end Go.Proofs.YtiopahkigbdmcaaGreat
/- A part of a region whose ways meet again: a test that is worked out under guards; what it comes to is some bool, and the slots on the way are forgotten. No program is named here. -/
namespace Go.Proofs.YtiopahkigbdmcaaGreat
open Go Go.Proofs Go.RowKit

/-- Whatever stands in these slots. -/
def allPuts : List Nat → Act → (Act → Prop) → Prop
  | [], a, F => F a
  | d :: ds, a, F => ∀ u, allPuts ds (a.put (some d) u) F
def puts : List Nat → List Value → Act → Act
  | d :: ds, u :: us, a => puts ds us (a.put (some d) u)
  | _, _, a => a
theorem allPuts_at : ∀ (ds : List Nat) (a : Act) (F : Act → Prop), allPuts ds a F → ∀ us : List Value, us.length = ds.length → F (puts ds us a)
  | [], _, _, h, [], _ => h
  | d :: ds, a, F, h, u :: us, hl => allPuts_at ds _ F (h u) us (by simpa using hl)

/-- The part has come to a bool of which φ holds; nothing else but its own slots has changed. -/
def GEnd (φ : Bool → Prop) (ds : List Nat) (d : Nat) (a : Act) (w : World) (a' : Act) (w' : World) : Prop :=
  w' = w ∧ ∃ us b, us.length = ds.length ∧ φ b ∧ a' = (puts ds us a).put (some d) (.bool b)


theorem wpList_cut {P : Program} {ops : Array Oper} {Q : Exit → Act → World → Prop} {R : Act → World → Prop} : ∀ (l1 l2 : List Oper) (a : Act) (w : World),
    wpList P ops (Exit.then R noExit) l1 a w → (∀ a' w', R a' w' → wpList P ops Q l2 a' w') → wpList P ops Q (l1 ++ l2) a w
  | [], l2, a, w, h, k => k a w h
  | o :: l1, l2, a, w, h, k => by
    show wpList P ops Q (o :: (l1 ++ l2)) a w
    unfold wpList at h ⊢
    split at h
    · rename_i hw
      rw [if_pos hw]
      rcases h with h | ⟨_, _, _, hf⟩
      · left
        have h' : o.wp P a w (wpList P ops Q (l1 ++ l2)) noExit := by
          unfold Oper.wp at *
          generalize (execOp a.eval o).run P w = r at *
          cases r with
          | ok n w' =>
            cases n <;> simp only [Oper.upon] at h ⊢ <;> first
              | exact wpList_cut l1 l2 _ _ h k
              | exact Calls.mono h (fun e w'' he => by
                  cases e with
                  | returned v => exact wpList_cut l1 l2 _ _ he k
                  | panicked c => exact False.elim he
                  | outgrown => exact (let ⟨_, _, hf⟩ := he; False.elim hf))
              | exact Rows.mono h (fun _ _ he => wpList_cut l1 l2 _ _ he k)
          | halt x w' => cases x <;> simp only [Oper.upon] at h ⊢; exact False.elim h
        exact Oper.wp_any_exit h'
      · exact False.elim hf
    · rename_i hw
      rw [if_neg hw]
      exact wpList_cut l1 l2 _ _ h k

theorem wpList_group {P : Program} {ops : Array Oper} {Q : Exit → Act → World → Prop} {l : List Oper} {a : Act} {w : World} (n : Nat) (φ : Bool → Prop) (ds : List Nat) (d : Nat)
    (h1 : wpList P ops (Exit.then (GEnd φ ds d a w) noExit) (l.take n) a w)
    (h2 : allPuts ds a (fun a1 => ∀ b, φ b → wpList P ops Q (l.drop n) (a1.put (some d) (.bool b)) w)) : wpList P ops Q l a w := by
  rw [← List.take_append_drop n l]
  refine wpList_cut _ _ _ _ h1 ?_
  rintro a' w' ⟨rfl, us, b, hl, hb, rfl⟩
  exact allPuts_at ds a _ h2 us hl b hb
end Go.Proofs.YtiopahkigbdmcaaGreat
/- Patterns of texts (layer 2), in plain words: what a list of parts stands for; the two ways to find it out. No program is named here. -/
namespace Go.Proofs.YtiopahkigbdmcaaGreat

/-- A part of a pattern: one byte of a set, or any many. -/
structure GPart where
  many : Bool
  set : Int → Bool

/-- Do these parts stand for this text? -/
def gmatch : List GPart → List Int → Bool
  | [], s => s.isEmpty
  | p :: ps, [] => p.many && gmatch ps []
  | p :: ps, c :: s => if p.many then gmatch ps (c :: s) || (p.set c && gmatch (p :: ps) s) else p.set c && gmatch ps s
termination_by ps s => ps.length + s.length

theorem gm_nil_nil : gmatch [] [] = true := by simp [gmatch]
theorem gm_nil_cons (c : Int) (s : List Int) : gmatch [] (c :: s) = false := by simp [gmatch]
theorem gm_cons_nil (p : GPart) (ps : List GPart) : gmatch (p :: ps) [] = (p.many && gmatch ps []) := by rw [gmatch]
theorem gm_many (p : GPart) (ps : List GPart) (s : List Int) (h : p.many = true) (hs : gmatch ps s = true) : gmatch (p :: ps) s = true := by
  cases s with
  | nil => rw [gm_cons_nil, h, hs]; rfl
  | cons c s => rw [gmatch, if_pos h, hs]; rfl
theorem gm_cons_cons (p : GPart) (ps : List GPart) (c : Int) (s : List Int) : gmatch (p :: ps) (c :: s) = if p.many then gmatch ps (c :: s) || (p.set c && gmatch (p :: ps) s) else p.set c && gmatch ps s := by rw [gmatch]

/-- Row by row, from the end on: what stands at a place of a row. -/
theorem gm_step (l : List GPart) (s : List Int) (k i : Nat) (hk : k < l.length) :
    gmatch (l.drop k) (s.drop i) = if (l[k]).many then gmatch (l.drop (k + 1)) (s.drop i) || (if h : i < s.length then l[k].set s[i] && gmatch (l.drop k) (s.drop (i + 1)) else false)
      else (if h : i < s.length then l[k].set s[i] && gmatch (l.drop (k + 1)) (s.drop (i + 1)) else false) := by
  rw [List.drop_eq_getElem_cons hk]
  by_cases hi : i < s.length
  · rw [List.drop_eq_getElem_cons hi, gm_cons_cons, dif_pos hi, dif_pos hi]
  · rw [List.drop_eq_nil_of_le (show s.length ≤ i by omega), gm_cons_nil, dif_neg hi, dif_neg hi]
    cases l[k].many <;> simp

/-- The states in which the parts may be: whether any of them stands for the rest. -/
def Lives (l : List GPart) (F : Nat → Bool) (r : List Int) : Prop := ∃ k, k ≤ l.length ∧ F k = true ∧ gmatch (l.drop k) r = true
/-- Each part that may stand for nothing is gone behind. -/
def Shut (l : List GPart) (F : Nat → Bool) : Prop := ∀ k (h : k < l.length), F k = true → l[k].many = true → F (k + 1) = true

/-- The states behind a byte, before those that may stand for nothing are gone behind: of the first n parts. -/
def nextOf (l : List GPart) (F : Nat → Bool) (c : Int) : Nat → Nat → Bool
  | 0, _ => false
  | n + 1, j => nextOf l F c n j || (match l[n]? with | some p => F n && p.set c && (if p.many then j == n else j == n + 1) | none => false)
theorem nextOf_iff (l : List GPart) (F : Nat → Bool) (c : Int) (n j : Nat) : nextOf l F c n j = true ↔ ∃ k, k < n ∧ ∃ h : k < l.length, F k = true ∧ l[k].set c = true ∧ j = if l[k].many then k else k + 1 := by
  induction n with
  | zero => simp [nextOf]
  | succ n ih =>
    rw [nextOf, Bool.or_eq_true, ih]
    constructor
    · rintro (⟨k, hk, h⟩ | h)
      · exact ⟨k, by omega, h⟩
      · by_cases hn : n < l.length
        · rw [List.getElem?_eq_getElem hn] at h
          simp only [Bool.and_eq_true] at h
          refine ⟨n, by omega, hn, h.1.1, h.1.2, ?_⟩
          have := h.2
          split at this <;> rename_i hm <;> simp [hm] <;> simpa using this
        · rw [List.getElem?_eq_none (by omega)] at h
          cases h
    · rintro ⟨k, hk, hl, h1, h2, h3⟩
      rcases Nat.lt_succ_iff_lt_or_eq.1 hk with hlt | rfl
      · exact Or.inl ⟨k, hlt, hl, h1, h2, h3⟩
      · right
        rw [List.getElem?_eq_getElem hl]
        simp only [h1, h2, Bool.and_self, Bool.true_and]
        subst h3
        by_cases hm : l[k].many <;> simp [hm]

/-- Going on behind each part that may stand for nothing: behind the first n. -/
def skipOf (l : List GPart) (F : Nat → Bool) : Nat → Nat → Bool
  | 0, j => F j
  | n + 1, j => skipOf l F n j || (match l[n]? with | some p => p.many && skipOf l F n n && j == n + 1 | none => false)
theorem skipOf_mono (l : List GPart) (F : Nat → Bool) (n m j : Nat) (h : n ≤ m) (hj : skipOf l F n j = true) : skipOf l F m j = true := by
  induction m with
  | zero => obtain rfl : n = 0 := by omega
            exact hj
  | succ m ih =>
    rcases Nat.lt_or_ge m n with hlt | hge
    · obtain rfl : n = m + 1 := by omega
      exact hj
    · rw [skipOf, ih hge]; rfl
theorem skipOf_old (l : List GPart) (F : Nat → Bool) (n m j : Nat) (hj : j ≤ n) (h : n ≤ m) : skipOf l F m j = skipOf l F n j := by
  induction m with
  | zero => obtain rfl : n = 0 := by omega
            rfl
  | succ m ih =>
    rcases Nat.lt_or_ge m n with hlt | hge
    · obtain rfl : n = m + 1 := by omega
      rfl
    · rw [skipOf, ih hge]
      have : (j == m + 1) = false := by simp; omega
      cases l[m]? <;> simp [this]
theorem skipOf_shut (l : List GPart) (F : Nat → Bool) : Shut l (skipOf l F l.length) := by
  intro k hk h hm
  rw [skipOf_old l F k l.length k (Nat.le_refl _) (by omega)] at h
  refine skipOf_mono l F (k + 1) l.length (k + 1) hk ?_
  rw [skipOf, List.getElem?_eq_getElem hk]
  simp [hm, h]
/-- A state that came so comes from one that was there, by parts that may stand for nothing. -/
theorem skipOf_from (l : List GPart) (F : Nat → Bool) (r : List Int) : ∀ (n j : Nat), n ≤ l.length → skipOf l F n j = true → gmatch (l.drop j) r = true → ∃ k, F k = true ∧ k ≤ j ∧ gmatch (l.drop k) r = true
  | 0, j, _, h, hg => ⟨j, h, Nat.le_refl _, hg⟩
  | n + 1, j, hn, h, hg => by
    rw [skipOf, Bool.or_eq_true] at h
    rcases h with h | h
    · exact skipOf_from l F r n j (by omega) h hg
    · have hl : n < l.length := hn
      rw [List.getElem?_eq_getElem hl] at h
      simp only [Bool.and_eq_true, beq_iff_eq] at h
      obtain ⟨⟨hm, hs⟩, rfl⟩ := h
      obtain ⟨k, h1, h2, h3⟩ := skipOf_from l F r n n (by omega) hs (by rw [List.drop_eq_getElem_cons hl]; exact gm_many _ _ _ hm hg)
      exact ⟨k, h1, by omega, h3⟩

theorem lives_start (l : List GPart) (r : List Int) : Lives l (skipOf l (fun k => k == 0) l.length) r ↔ gmatch l r = true := by
  constructor
  · rintro ⟨k, _, h, hg⟩
    obtain ⟨k', h1, _, h3⟩ := skipOf_from l _ r _ k (Nat.le_refl _) h hg
    obtain rfl : k' = 0 := by simpa using h1
    simpa using h3
  · intro h
    exact ⟨0, Nat.zero_le _, skipOf_mono l _ 0 _ 0 (Nat.zero_le _) rfl, by simpa using h⟩
theorem lives_step (l : List GPart) (F : Nat → Bool) (c : Int) (r : List Int) (hF : Shut l F) : Lives l (skipOf l (nextOf l F c l.length) l.length) r ↔ Lives l F (c :: r) := by
  constructor
  · rintro ⟨j, _, h, hg⟩
    obtain ⟨k, h1, _, h3⟩ := skipOf_from l _ r _ j (Nat.le_refl _) h hg
    obtain ⟨q, _, hq, hf, hs, rfl⟩ := (nextOf_iff l F c _ k).1 h1
    refine ⟨q, by omega, hf, ?_⟩
    rw [List.drop_eq_getElem_cons hq, gm_cons_cons]
    by_cases hm : l[q].many
    · rw [if_pos hm] at h3 ⊢
      rw [Bool.or_eq_true, Bool.and_eq_true]
      exact Or.inr ⟨hs, by rw [← List.drop_eq_getElem_cons hq]; exact h3⟩
    · rw [if_neg hm] at h3 ⊢
      rw [Bool.and_eq_true]
      exact ⟨hs, h3⟩
  · rintro ⟨k, hk, hf, hg⟩
    have key : ∀ (d k : Nat), l.length - k = d → k ≤ l.length → F k = true → gmatch (l.drop k) (c :: r) = true → ∃ j, j ≤ l.length ∧ nextOf l F c l.length j = true ∧ gmatch (l.drop j) r = true := by
      intro d
      induction d with
      | zero =>
        intro k hd hk _ hg
        rw [List.drop_eq_nil_of_le (by omega), gm_nil_cons] at hg
        cases hg
      | succ d ih =>
        intro k hd hk hf hg
        have hl : k < l.length := by omega
        rw [List.drop_eq_getElem_cons hl, gm_cons_cons] at hg
        by_cases hm : l[k].many
        · rw [if_pos hm, Bool.or_eq_true] at hg
          rcases hg with hg | hg
          · exact ih (k + 1) (by omega) (by omega) (hF k hl hf hm) hg
          · rw [Bool.and_eq_true] at hg
            exact ⟨k, hk, (nextOf_iff l F c _ k).2 ⟨k, hl, hl, hf, hg.1, by simp [hm]⟩, by rw [List.drop_eq_getElem_cons hl]; exact hg.2⟩
        · rw [if_neg hm, Bool.and_eq_true] at hg
          exact ⟨k + 1, hl, (nextOf_iff l F c _ _).2 ⟨k, hl, hl, hf, hg.1, by simp [hm]⟩, hg.2⟩
    obtain ⟨j, h1, h2, h3⟩ := key _ k rfl hk hf hg
    exact ⟨j, h1, skipOf_mono l _ 0 _ j (Nat.zero_le _) h2, h3⟩
theorem lives_end (l : List GPart) (F : Nat → Bool) (hF : Shut l F) : Lives l F [] ↔ F l.length = true := by
  constructor
  · rintro ⟨k, hk, hf, hg⟩
    have key : ∀ (d k : Nat), l.length - k = d → k ≤ l.length → F k = true → gmatch (l.drop k) [] = true → F l.length = true := by
      intro d
      induction d with
      | zero => intro k hd hk hf _; obtain rfl : k = l.length := by omega
                exact hf
      | succ d ih =>
        intro k hd hk hf hg
        have hl : k < l.length := by omega
        rw [List.drop_eq_getElem_cons hl, gm_cons_nil, Bool.and_eq_true] at hg
        exact ih (k + 1) (by omega) (by omega) (hF k hl hf hg.1) hg.2
    exact key _ k rfl hk hf hg
  · intro h
    exact ⟨l.length, Nat.le_refl _, h, by simp [gm_nil_nil]⟩
end Go.Proofs.YtiopahkigbdmcaaGreat
/- The document's parts of patterns (layer 2): may a byte stand, and for which bytes a part stands: the walks. -/
namespace Go.Proofs.YtiopahkigbdmcaaGreat
open Go Go.Proofs Go.RowKit

/-- A text's bytes. -/
def txt (s : ByteArray) : List Int := s.data.toList.map fun b => (b.toNat : Int)
theorem txt_len (s : ByteArray) : (txt s).length = s.size := by simp [txt]
theorem txt_at (s : ByteArray) (i : Nat) (h : i < s.size) : (txt s)[i]'(by rw [txt_len]; exact h) = (s[i].toNat : Int) := by
  simp [txt]; rfl

/-- May a byte stand among members? -/
def okI (c : Int) : Bool := c != 93 && c != 91 && c != 47 && c != 92
set_option maxRecDepth 100000 in
theorem okay_any (c : Int) (w : World) : Calls Tryz.prog 139 #[.int .u8 c] w (fun e w' => e = .returned (.bool (okI c)) ∧ w = w') := by
  go_enter Tryz.func139, Tryz.ntmps139
  go_wp2
  all_goals go_ret
  all_goals refine ⟨?_, rfl⟩
  all_goals simp_all [okI]

/-- A row of bytes in memory. -/
def Bytes (w : World) (a : Option Addr) (l : List Int) : Prop := l = [] ∨ ∃ b off cs, a = some ⟨b, off, none⟩ ∧ w.heap[b]? = some (.cells cs 5 (0, 0)) ∧ ∀ j (h : j < l.length), cs[off + j]? = some (.int .u8 l[j])
theorem Bytes.ext {w w' : World} {a : Option Addr} {l : List Int} (h : Bytes w a l) (hE : Ext w w') : Bytes w' a l := by
  rcases h with h | ⟨b, off, cs, ha, hb, hall⟩
  · exact Or.inl h
  · exact Or.inr ⟨b, off, cs, ha, hE.block hb, hall⟩
/-- Is a byte in a list? -/
def hasI (l : List Int) (c : Int) : Bool := l.contains c
theorem hasI_take (l : List Int) (c : Int) (k : Nat) (h : k < l.length) : hasI (l.take (k + 1)) c = (hasI (l.take k) c || l[k] == c) := by
  rw [← List.take_append_getElem h]
  unfold hasI
  rw [Bool.eq_iff_iff, Bool.or_eq_true, List.contains_iff_mem, List.contains_iff_mem, List.mem_append, List.mem_singleton, beq_iff_eq]
  exact ⟨fun h => h.imp id Eq.symm, fun h => h.imp id Eq.symm⟩
/-- Which bytes a part stands for that stands for one byte. -/
def oneSet (l : List Int) (not any : Bool) (c : Int) : Bool := if any then c != 47 else if not then !(hasI l c) && c != 47 else hasI l c

set_option maxHeartbeats 1000000 in
set_option maxRecDepth 100000 in
theorem stands_any (many : Int) (a : Option Addr) (l : List Int) (cap : Nat) (not any : Bool) (c : Int) (w : World) (hl : l.length ≤ 100000) (hb : Bytes w a l) :
    Calls Tryz.prog 137 #[.agg #[.int .i64 many, .slice a l.length cap, .bool not, .bool any], .int .u8 c] w (RetV w (.bool (oneSet l not any c))) := by
  have HB := Lib.hid hb; clear hb
  obtain ⟨n, hn⟩ : ∃ n, l.length = n := ⟨_, rfl⟩
  rw [hn] at hl ⊢
  have HN := Lib.hid hn; clear hn
  go_enter Tryz.func137, Tryz.ntmps137
  cases any
  · go_wp2
    go_loop [5, 6] (fun v i => ∃ k : Nat, k ≤ n ∧ i = .int .i64 k ∧ v = .bool (hasI (l.take k) c)) (fun _ i => n - (intOf i).toNat)
    case atStart => exact ⟨0, Nat.zero_le _, rfl, rfl⟩
    case round =>
      obtain ⟨k, hk, rfl, rfl⟩ := hrel
      by_cases hlt : k < n
      · have hk' : k < l.length := by rw [HN.out]; exact hlt
        obtain h0 | ⟨b, off, cs, rfl, hb, hall⟩ := HB.out
        · rw [h0] at hk'; exact absurd hk' (by simp)
        have hcell := blk_cell hb (hall k hk')
        have hb := blk_lt hb
        obtain ⟨x, hx⟩ : ∃ x, l[k] = x := ⟨_, rfl⟩
        rw [hx] at hcell
        have HT : Hid (hasI (l.take (k + 1)) c = (hasI (l.take k) c || x == c)) := Lib.hid (by rw [hasI_take l c k hk', hx])
        clear hall hx
        go_wp2
        all_goals
          go_round
          case rel => exact ⟨k + 1, by omega, by go_num, by rw [HT.out]; simp_all⟩
          case measure => simp [intOf]; omega
      · obtain rfl : k = n := by omega
        have ht : l.take k = l := List.take_of_length_le (by rw [HN.out]; exact Nat.le_refl _)
        rw [ht]
        clear ht
        go_wp2
        all_goals go_ret
        all_goals exact ⟨by simp_all [oneSet], below_alloc1 _ _⟩
  · go_wp2
    go_ret
    exact ⟨by simp [oneSet], below_alloc1 _ _⟩
end Go.Proofs.YtiopahkigbdmcaaGreat
