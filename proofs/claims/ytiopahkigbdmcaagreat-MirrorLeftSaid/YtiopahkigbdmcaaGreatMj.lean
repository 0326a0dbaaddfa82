/- The mirror of two trees (layer 14), in plain words: whose is what, and what follows. -/
import Derived.Test.YtiopahkigbdmcaaGreatMi
import Derived.Deep.DeepCutAuto
namespace Go.Proofs.YtiopahkigbdmcaaGreat
open Go Go.Proofs Go.RowKit

abbrev Rules := List (Bool × ByteArray)
theorem names_good {x : NodeV} (h : goodN x) : namesF (txt x.path) = nm x := by
  unfold namesF nm
  rw [if_pos h.2.1]
/-- What is beneath a directory that is shut out is, too. -/
theorem out_below {rs : Rules} {x y : NodeV} (hx : goodN x) (hy : goodN y) (h : nm y <+: nm x) (hne : nm y ≠ nm x) (hk : y.kind = 1) (ho : outF rs y = true) : outF rs x = true := by
  have hl := pre_len_lt h hne
  have htake : ∀ j, j ≤ (nm y).length → (nm x).take j = (nm y).take j := fun j hj => by
    obtain ⟨t, ht⟩ := h
    rw [← ht, List.take_append_of_le_length hj]
  unfold outF at *
  rw [hk] at ho
  by_cases hall : ∀ j, 1 ≤ j → j < (namesF (txt y.path)).length → keepsF rs (glueF ((namesF (txt y.path)).take j)) true = true
  · have := shut_no (dir := (1 : Int) == 1) hall
    rw [this] at ho
    refine shut_yes (k := (nm y).length) (List.length_pos_iff.2 (nm_ne hy)) (by rw [names_good hx]; exact hl) ?_
    rw [names_good hx, htake _ (Nat.le_refl _), List.take_length]
    have : glueF (nm y) = txt y.path := glue_cut _
    rw [this]
    simpa using ho
  · simp only [Classical.not_forall] at hall
    obtain ⟨j, h1, h2, h3⟩ := hall
    rw [names_good hy] at h2 h3
    refine shut_yes (k := j) h1 (by rw [names_good hx]; omega) ?_
    rw [names_good hx, htake j (by omega)]
    simpa using h3
theorem in_below {x y : NodeV} (hx : goodN x) (h : nm y <+: nm x) (hi : inF y = true) : inF x = true := by
  unfold inF withinF at *
  simp only [Bool.and_eq_true, List.isPrefixOf_iff_prefix] at *
  exact ⟨⟨hx.2.1, hi.1.2⟩, List.IsPrefix.trans hi.2 h⟩

def dirAt (T : List NodeV) (P : Pth) : Prop := ∃ y ∈ T, nm y = P ∧ y.kind = 1
def outAt (rs : Rules) (T : List NodeV) (P : Pth) : Prop := ∃ y ∈ T, nm y = P ∧ outF rs y = true
/-- Is a place come to? -/
def openM (rs : Rules) (s d : List NodeV) (P : Pth) : Prop := ∀ U, U ≠ [] → U <+: P → U ≠ P → dirAt s U ∧ ¬ outAt rs d U
/-- Does a node of the receiver's stay? -/
def staysB (rs : Rules) (del : Bool) (d : List NodeV) (x : NodeV) : Bool := !del || outF rs x || (x.kind == 1 && d.any fun y => (nm x).isPrefixOf (nm y) && (nm x != nm y) && outF rs y)
/-- What is left within a place. -/
def leftF (rs : Rules) (del : Bool) (d : List NodeV) (P : Pth) : List NodeV := d.filter fun y => P.isPrefixOf (nm y) && staysB rs del d y
def Ours (rs : Rules) (del : Bool) (s d : List NodeV) (x : NodeV) : Prop := x ∈ s ∧ openM rs s d (nm x) ∧ ¬ outAt rs d (nm x) ∧ (x.kind = 1 ∨ ∀ y ∈ d, nm y = nm x → y.kind = 1 → leftF rs del d (nm y) = [])
def Theirs (rs : Rules) (del : Bool) (s d : List NodeV) (x : NodeV) : Prop := x ∈ d ∧ staysB rs del d x = true ∧ ∃ u ∈ d, nm u <+: nm x ∧ openM rs s d (nm u) ∧ (outF rs u = true ∨ (¬ dirAt s (nm u) ∧ ((∀ z ∈ s, nm z ≠ nm u) ∨ u.kind = 1)))
/-- Is a node in the mirror? -/
def Mir (rs : Rules) (del : Bool) (s d : List NodeV) (x : NodeV) : Prop := Ours rs del s d x ∨ Theirs rs del s d x
/-- What is sent, and what the receiver has. -/
structure Sides (rs : Rules) (s d : List NodeV) : Prop where
  ss : TreeL s
  dd : TreeL d
  out : ∀ x ∈ s, outF rs x = false
  sin : ∀ x ∈ s, inF x = false
  din : ∀ x ∈ d, inF x = false

theorem stays_iff {rs : Rules} {del : Bool} {d : List NodeV} {x : NodeV} : staysB rs del d x = true ↔ del = false ∨ outF rs x = true ∨ (x.kind = 1 ∧ ∃ y ∈ d, nm x <+: nm y ∧ nm x ≠ nm y ∧ outF rs y = true) := by
  unfold staysB
  simp only [Bool.or_eq_true, Bool.not_eq_true', Bool.and_eq_true, beq_iff_eq, List.any_eq_true, List.isPrefixOf_iff_prefix, bne_iff_ne, or_assoc, and_assoc]
theorem mem_leftF {rs : Rules} {del : Bool} {d : List NodeV} {P : Pth} {y : NodeV} : y ∈ leftF rs del d P ↔ y ∈ d ∧ P <+: nm y ∧ staysB rs del d y = true := by
  unfold leftF
  rw [List.mem_filter, Bool.and_eq_true, List.isPrefixOf_iff_prefix]
theorem pre_ne {p q r : Pth} (h1 : p <+: q) (h2 : p ≠ q) (h3 : q <+: r) : p ≠ r := fun e => by
  have := pre_len_lt h1 h2
  have := h3.length_le
  rw [← e] at this
  omega
theorem stays_up {rs : Rules} {del : Bool} {d : List NodeV} (hd : TreeL d) {x u : NodeV} (hx : x ∈ d) (hu : u ∈ d) (h : nm u <+: nm x) (hs : staysB rs del d x = true) : staysB rs del d u = true := by
  by_cases e : nm u = nm x
  · rw [hd.sorted.uniq hu hx e]; exact hs
  · obtain ⟨y, hy, h1, h2⟩ := hd.anc hx (nm_ne (hd.good u hu)) h e
    have := hd.sorted.uniq hy hu h1
    subst this
    rw [stays_iff] at hs ⊢
    rcases hs with h3 | h3 | ⟨_, z, hz, h4, h5, h6⟩
    · exact Or.inl h3
    · exact Or.inr (Or.inr ⟨h2, x, hx, h, e, h3⟩)
    · exact Or.inr (Or.inr ⟨h2, z, hz, h.trans h4, pre_ne h e h4, h6⟩)
theorem out_stays {rs : Rules} {del : Bool} {d : List NodeV} {x : NodeV} (h : outF rs x = true) : staysB rs del d x = true := stays_iff.2 (Or.inr (Or.inl h))
theorem out_in {rs : Rules} {d : List NodeV} (hd : TreeL d) {x u : NodeV} (hx : x ∈ d) (hu : u ∈ d) (h : nm u <+: nm x) (ho : outF rs u = true) : outF rs x = true := by
  by_cases e : nm u = nm x
  · rw [← hd.sorted.uniq hu hx e]; exact ho
  · obtain ⟨y, hy, h1, h2⟩ := hd.anc hx (nm_ne (hd.good u hu)) h e
    have := hd.sorted.uniq hy hu h1
    subst this
    exact out_below (hd.good x hx) (hd.good _ hy) h e h2 ho
theorem openM.up {rs : Rules} {s d : List NodeV} {P Q : Pth} (h : openM rs s d Q) (hp : P <+: Q) : openM rs s d P := fun U h0 h1 h2 => h U h0 (h1.trans hp) (pre_ne h1 h2 hp)
theorem least {p : Nat → Prop} (h : ∃ k, p k) : ∃ k, p k ∧ ∀ j, j < k → ¬ p j := by
  obtain ⟨k, hk⟩ := h
  induction k using Nat.strongRecOn with
  | _ k ih =>
    by_cases hj : ∃ j, j < k ∧ p j
    · obtain ⟨j, h1, h2⟩ := hj; exact ih j h1 h2
    · exact ⟨k, hk, fun j h1 h2 => hj ⟨j, h1, h2⟩⟩
/-- The topmost place above, or at, a place, at which the sender has no directory, or something is shut out. -/
theorem topmost (rs : Rules) (s d : List NodeV) (P : Pth) : (∀ U, U ≠ [] → U <+: P → dirAt s U ∧ ¬ outAt rs d U) ∨ ∃ U, U ≠ [] ∧ U <+: P ∧ openM rs s d U ∧ ¬ (dirAt s U ∧ ¬ outAt rs d U) := by
  by_cases h : ∃ k, 1 ≤ k ∧ k ≤ P.length ∧ ¬ (dirAt s (P.take k) ∧ ¬ outAt rs d (P.take k))
  · right
    obtain ⟨k, ⟨h1, h2, h3⟩, hmin⟩ := least h
    have hl : (P.take k).length = k := by rw [List.length_take]; omega
    refine ⟨P.take k, fun e => by rw [e] at hl; simp at hl; omega, List.take_prefix _ _, fun U h0 hU hne => ?_, h3⟩
    have hlt := pre_len_lt hU hne
    rw [hl] at hlt
    have hUP : U <+: P := hU.trans (List.take_prefix _ _)
    rw [List.prefix_iff_eq_take] at hUP
    have := hmin U.length hlt
    rw [← hUP] at this
    have h5 := List.length_pos_iff.2 h0
    exact Classical.not_not.1 (fun hn => this ⟨by omega, by omega, hn⟩)
  · left
    intro U h0 hU
    have hl := hU.length_le
    rw [List.prefix_iff_eq_take] at hU
    refine Classical.not_not.1 (fun hn => h ⟨U.length, List.length_pos_iff.2 h0, hl, ?_⟩)
    rw [← hU]; exact hn

section
variable {rs : Rules} {del : Bool} {s d M : List NodeV}
theorem TreeL.dir_uniq {T : List NodeV} (hT : TreeL T) {x : NodeV} (hx : x ∈ T) (h : dirAt T (nm x)) : x.kind = 1 := by
  obtain ⟨y, hy, h1, h2⟩ := h
  rw [hT.sorted.uniq hx hy h1.symm]; exact h2
/-- What is the sender's, above a place that is come to. -/
theorem ours_dir (_hS : Sides rs s d) {P U : Pth} (h : openM rs s d P) (h0 : U ≠ []) (h1 : U <+: P) (hne : U ≠ P) : ∃ y, Ours rs del s d y ∧ nm y = U ∧ y.kind = 1 := by
  obtain ⟨⟨y, hy, h2, h3⟩, h4⟩ := h U h0 h1 hne
  exact ⟨y, ⟨hy, by rw [h2]; exact h.up h1, by rw [h2]; exact h4, Or.inl h3⟩, h2, h3⟩
theorem mir_tree (hS : Sides rs s d) (hs : SortedN M) (hm : ∀ x, x ∈ M ↔ Mir rs del s d x) : TreeL M := by
  refine ⟨hs, fun x hx => ?_, fun x hx => ?_⟩
  · rcases (hm x).1 hx with h | h
    · exact hS.ss.good x h.1
    · exact hS.dd.good x h.1
  · by_cases h0 : (nm x).dropLast = []
    · exact Or.inl h0
    right
    have hup : openM rs s d (nm x) → ∃ y ∈ M, nm y = (nm x).dropLast ∧ y.kind = 1 := fun ho => by
      obtain ⟨y, h1, h2, h3⟩ := ours_dir (del := del) hS ho h0 (drop_pre _) (drop_ne (fun e => h0 (by rw [e]; rfl)))
      exact ⟨y, (hm y).2 (Or.inl h1), h2, h3⟩
    rcases (hm x).1 hx with h | ⟨hx1, hst, u, hu, h1, h2, h3⟩
    · exact hup h.2.1
    · by_cases e : nm u = nm x
      · exact hup (by rw [← e]; exact h2)
      · have hud := pre_drop h1 e
        rcases hS.dd.up x hx1 with e1 | ⟨y, hy, h4, h5⟩
        · exact absurd e1 h0
        · refine ⟨y, (hm y).2 (Or.inr ⟨hy, stays_up hS.dd hx1 hy (by rw [h4]; exact drop_pre _) hst, u, hu, by rw [h4]; exact hud, h2, h3⟩), h4, h5⟩
theorem mir_in (hS : Sides rs s d) {x : NodeV} (h : Mir rs del s d x) : inF x = false := by
  rcases h with h | h
  · exact hS.sin x h.1
  · exact hS.din x h.1
theorem mir_sides (hS : Sides rs s d) (hs : SortedN M) (hm : ∀ x, x ∈ M ↔ Mir rs del s d x) : Sides rs s M :=
  ⟨hS.ss, mir_tree hS hs hm, hS.out, hS.sin, fun x hx => mir_in hS ((hm x).1 hx)⟩
/-- What is shut out is the receiver's, and is in the mirror, where it is come to. -/
theorem theirs_out (_hS : Sides rs s d) {y : NodeV} (hy : y ∈ d) (ho : outF rs y = true) (hopen : openM rs s d (nm y)) : Theirs rs del s d y :=
  ⟨hy, out_stays ho, y, hy, List.prefix_rfl, hopen, Or.inl ho⟩
theorem out_same (hS : Sides rs s d) (hm : ∀ x, x ∈ M ↔ Mir rs del s d x) {P : Pth} (h : outAt rs M P) : outAt rs d P := by
  obtain ⟨y, hy, h1, h2⟩ := h
  rcases (hm y).1 hy with h | h
  · rw [hS.out y h.1] at h2; cases h2
  · exact ⟨y, h.1, h1, h2⟩
theorem open_same (hS : Sides rs s d) (hm : ∀ x, x ∈ M ↔ Mir rs del s d x) {P : Pth} (h : openM rs s d P) : openM rs s M P :=
  fun U h0 h1 h2 => ⟨(h U h0 h1 h2).1, fun ho => (h U h0 h1 h2).2 (out_same hS hm ho)⟩
/-- Where the mirror is come to, and has nothing that is shut out, the receiver is come to, and has nothing that is shut out. -/
theorem open_back (hS : Sides rs s d) (hm : ∀ x, x ∈ M ↔ Mir rs del s d x) {P : Pth} (h0 : P ≠ []) (h : openM rs s M P) (ho : ¬ outAt rs M P) : openM rs s d P ∧ ¬ outAt rs d P := by
  have key : ∀ U, U ≠ [] → U <+: P → ¬ outAt rs d U := by
    intro U hU0 hU hout
    have hex : ∃ k, 1 ≤ k ∧ k ≤ P.length ∧ outAt rs d (P.take k) := ⟨U.length, List.length_pos_iff.2 hU0, hU.length_le, by
      rw [List.prefix_iff_eq_take] at hU
      rw [← hU]; exact hout⟩
    obtain ⟨k, ⟨h1, h2, h3⟩, hmin⟩ := least hex
    have hl : (P.take k).length = k := by rw [List.length_take]; omega
    have hV0 : P.take k ≠ [] := fun e => by rw [e] at hl; simp at hl; omega
    obtain ⟨y, hy, h4, h5⟩ := h3
    have hop : openM rs s d (nm y) := by
      rw [h4]
      intro W hW0 hW hWne
      have hlt := pre_len_lt hW hWne
      rw [hl] at hlt
      have hWP : W <+: P := hW.trans (List.take_prefix _ _)
      have hWne' : W ≠ P := fun e => by have := congrArg List.length e; omega
      refine ⟨(h W hW0 hWP hWne').1, fun hw => hmin W.length hlt ⟨List.length_pos_iff.2 hW0, hWP.length_le, ?_⟩⟩
      rw [List.prefix_iff_eq_take] at hWP
      rw [← hWP]; exact hw
    have hyM : y ∈ M := (hm y).2 (Or.inr (theirs_out hS hy h5 hop))
    by_cases e : P.take k = P
    · exact ho ⟨y, hyM, by rw [h4, e], h5⟩
    · exact (h (P.take k) hV0 (List.take_prefix _ _) e).2 ⟨y, hyM, h4, h5⟩
  exact ⟨fun U hU0 hU hne => ⟨(h U hU0 hU hne).1, key U hU0 hU⟩, key P h0 List.prefix_rfl⟩
/-- What stays of a node that is in the mirror stays there. -/
theorem stays_mir (_hS : Sides rs s d) (hm : ∀ x, x ∈ M ↔ Mir rs del s d x) {x : NodeV} (h : Theirs rs del s d x) : staysB rs del M x = true := by
  obtain ⟨hx, hst, u, hu, h1, h2, h3⟩ := h
  rw [stays_iff] at hst ⊢
  rcases hst with h4 | h4 | ⟨h4, z, hz, h5, h6, h7⟩
  · exact Or.inl h4
  · exact Or.inr (Or.inl h4)
  · exact Or.inr (Or.inr ⟨h4, z, (hm z).2 (Or.inr ⟨hz, out_stays h7, u, hu, h1.trans h5, h2, h3⟩), h5, h6, h7⟩)
/-- THE MIRROR OF A TREE AND OF THE MIRROR IS THE MIRROR. -/
theorem mir_again (hS : Sides rs s d) (_hs : SortedN M) (hm : ∀ x, x ∈ M ↔ Mir rs del s d x) (x : NodeV) : Mir rs del s M x ↔ x ∈ M := by
  constructor
  · rintro (⟨hx, ho, hno, hk⟩ | h)
    · obtain ⟨h1, h2⟩ := open_back hS hm (nm_ne (hS.ss.good x hx)) ho hno
      refine (hm x).2 (Or.inl ⟨hx, h1, h2, ?_⟩)
      by_cases hk1 : x.kind = 1
      · exact Or.inl hk1
      rcases hk with hk | hk
      · exact Or.inl hk
      right
      intro y hy hyx hyk
      rw [List.eq_nil_iff_forall_not_mem]
      intro z hz
      obtain ⟨hz1, hz2, hz3⟩ := mem_leftF.1 hz
      have hsy := stays_up hS.dd hz1 hy hz2 hz3
      have hty : Theirs rs del s d y := ⟨hy, hsy, y, hy, List.prefix_rfl, by rw [hyx]; exact h1, Or.inr ⟨fun hd => hk1 (hS.ss.dir_uniq hx (by rw [← hyx]; exact hd)), Or.inr hyk⟩⟩
      have hyM := (hm y).2 (Or.inr hty)
      have hl := hk y hyM hyx hyk
      have : y ∈ leftF rs del M (nm y) := mem_leftF.2 ⟨hyM, List.prefix_rfl, stays_mir hS hm hty⟩
      rw [hl] at this
      simp at this
    · exact h.1
  · intro hx
    rcases (hm x).1 hx with h | h
    · left
      obtain ⟨h1, h2, h3, h4⟩ := h
      refine ⟨h1, open_same hS hm h2, fun ho => h3 (out_same hS hm ho), ?_⟩
      rcases h4 with h4 | h4
      · exact Or.inl h4
      by_cases hk1 : x.kind = 1
      · exact Or.inl hk1
      right
      intro y hy hyx hyk
      rcases (hm y).1 hy with h5 | h5
      · rw [hS.ss.sorted.uniq h5.1 h1 hyx] at hyk
        exact absurd hyk hk1
      · have hl := h4 y h5.1 hyx hyk
        have : y ∈ leftF rs del d (nm y) := mem_leftF.2 ⟨h5.1, List.prefix_rfl, h5.2.1⟩
        rw [hl] at this
        simp at this
    · right
      obtain ⟨h1, hst, u, hu, h2, h3, h4⟩ := h
      have hu' : u ∈ M := (hm u).2 (Or.inr ⟨hu, stays_up hS.dd h1 hu h2 hst, u, hu, List.prefix_rfl, h3, h4⟩)
      exact ⟨hx, stays_mir hS hm ⟨h1, hst, u, hu, h2, h3, h4⟩, u, hu', h2, open_same hS hm h3, h4⟩
/-- ALL THAT IS GUARDED IS IN THE MIRROR. -/
theorem mir_guard (hS : Sides rs s d) {g : NodeV} (hg : g ∈ d) (ho : outF rs g = true) : Mir rs del s d g := by
  right
  rcases topmost rs s d (nm g) with h | ⟨U, h0, hU, hop, hn⟩
  · exact absurd ⟨g, hg, rfl, ho⟩ (h (nm g) (nm_ne (hS.dd.good g hg)) List.prefix_rfl).2
  · by_cases e : U = nm g
    · subst e; exact ⟨hg, out_stays ho, g, hg, List.prefix_rfl, hop, Or.inl ho⟩
    · obtain ⟨y, hy, h1, h2⟩ := hS.dd.anc hg h0 hU e
      subst h1
      refine ⟨hg, out_stays ho, y, hy, hU, hop, ?_⟩
      by_cases hoy : outF rs y = true
      · exact Or.inl hoy
      · refine Or.inr ⟨fun hd => hn ⟨hd, ?_⟩, Or.inr h2⟩
        rintro ⟨z, hz, h3, h4⟩
        rw [hS.dd.sorted.uniq hz hy h3] at h4
        exact hoy h4
/-- WITHOUT RULES, WITH DELETION, THE MIRROR IS WHAT IS SENT. -/
theorem mir_plain (hS : Sides rs s d) (hno : ∀ x, outF rs x = false) (x : NodeV) : Mir rs true s d x ↔ x ∈ s := by
  have hst : ∀ y, staysB rs true d y = false := fun y => by
    rw [← Bool.not_eq_true, stays_iff]
    rintro (h | h | ⟨_, z, _, _, _, h⟩)
    · cases h
    · rw [hno] at h; cases h
    · rw [hno] at h; cases h
  constructor
  · rintro (h | h)
    · exact h.1
    · have := h.2.1; rw [hst] at this; cases this
  · intro hx
    refine Or.inl ⟨hx, fun U h0 h1 h2 => ⟨?_, ?_⟩, ?_, Or.inr fun y _ _ _ => ?_⟩
    · exact hS.ss.anc hx h0 h1 h2
    · rintro ⟨y, _, _, h⟩; rw [hno] at h; cases h
    · rintro ⟨y, _, _, h⟩; rw [hno] at h; cases h
    · rw [List.eq_nil_iff_forall_not_mem]
      intro z hz
      have := (mem_leftF.1 hz).2.2
      rw [hst] at this; cases this
/-- OF AN EMPTY TREE OF THE RECEIVER's IT IS WHAT IS SENT. -/
theorem mir_empty (hS : Sides rs s []) (x : NodeV) : Mir rs del s [] x ↔ x ∈ s := by
  constructor
  · rintro (h | h)
    · exact h.1
    · have := h.1; simp at this
  · intro hx
    exact Or.inl ⟨hx, fun U h0 h1 h2 => ⟨hS.ss.anc hx h0 h1 h2, fun ⟨y, hy, _⟩ => by simp at hy⟩, fun ⟨y, hy, _⟩ => by simp at hy, Or.inr fun y hy => by simp at hy⟩
/-- WITHOUT DELETION ALL OF THE RECEIVER's NODES ARE IN IT THAT THE SENDER HAS NOTHING IN PLACE OF. -/
theorem mir_keeps (hS : Sides rs s d) {x : NodeV} (hx : x ∈ d) : ∃ n, Mir rs false s d n ∧ nm n = nm x ∧ (n = x ∨ n.kind = 1 ∨ ∃ z ∈ s, nm z = nm x) := by
  have hst : ∀ y, staysB rs false d y = true := fun y => stays_iff.2 (Or.inl rfl)
  have hx0 := nm_ne (hS.dd.good x hx)
  rcases topmost rs s d (nm x) with h | ⟨U, h0, hU, hop, hn⟩
  · obtain ⟨y, hy, h1, h2⟩ := (h (nm x) hx0 List.prefix_rfl).1
    exact ⟨y, Or.inl ⟨hy, by rw [h1]; exact fun V a b _ => h V a b, by rw [h1]; exact (h (nm x) hx0 List.prefix_rfl).2, Or.inl h2⟩, h1, Or.inr (Or.inl h2)⟩
  · have hy : ∃ y ∈ d, nm y = U ∧ (U ≠ nm x → y.kind = 1) := by
      by_cases e : U = nm x
      · exact ⟨x, hx, e.symm, fun h => absurd e h⟩
      · obtain ⟨y, hy, h1, h2⟩ := hS.dd.anc hx h0 hU e
        exact ⟨y, hy, h1, fun _ => h2⟩
    obtain ⟨y, hy, rfl, hyk⟩ := hy
    have hth : (outF rs y = true ∨ (¬ dirAt s (nm y) ∧ ((∀ z ∈ s, nm z ≠ nm y) ∨ y.kind = 1))) → ∃ n, Mir rs false s d n ∧ nm n = nm x ∧ (n = x ∨ n.kind = 1 ∨ ∃ z ∈ s, nm z = nm x) :=
      fun h => ⟨x, Or.inr ⟨hx, hst x, y, hy, hU, hop, h⟩, rfl, Or.inl rfl⟩
    by_cases ho : outF rs y = true
    · exact hth (Or.inl ho)
    · have hno : ¬ outAt rs d (nm y) := by
        rintro ⟨z, hz, h3, h4⟩
        rw [hS.dd.sorted.uniq hz hy h3] at h4
        exact ho h4
      have hnd : ¬ dirAt s (nm y) := fun hd => hn ⟨hd, hno⟩
      by_cases hyk1 : y.kind = 1
      · exact hth (Or.inr ⟨hnd, Or.inr hyk1⟩)
      · have hyx : nm y = nm x := Classical.not_not.1 (fun e => hyk1 (hyk e))
        by_cases hz : ∃ z ∈ s, nm z = nm y
        · obtain ⟨z, hz, hzy⟩ := hz
          refine ⟨z, Or.inl ⟨hz, by rw [hzy]; exact hop, by rw [hzy]; exact hno, Or.inr fun y' hy' e1 e2 => ?_⟩, by rw [hzy, hyx], Or.inr (Or.inr ⟨z, hz, by rw [hzy, hyx]⟩)⟩
          rw [hS.dd.sorted.uniq hy' hy (by rw [e1, hzy])] at e2
          exact absurd e2 hyk1
        · exact hth (Or.inr ⟨hnd, Or.inl fun z hz' e => hz ⟨z, hz', e⟩⟩)
/-- OF NOTHING THAT IS SENT, WITHOUT DELETION, IT IS THE RECEIVER's. -/
theorem mir_none (hS : Sides rs [] d) (x : NodeV) : Mir rs false [] d x ↔ x ∈ d := by
  constructor
  · rintro (h | h)
    · have := h.1; simp at this
    · exact h.1
  · intro hx
    obtain ⟨n, hn, h1, h2⟩ := mir_keeps (s := []) hS hx
    rcases hn with h | h
    · have := h.1; simp at this
    · rw [← hS.dd.sorted.uniq h.1 hx h1]; exact Or.inr h
end
end Go.Proofs.YtiopahkigbdmcaaGreat
/- The mirror of two trees (layer 14), in plain words: what stands at a place, and beneath one. -/
namespace Go.Proofs.YtiopahkigbdmcaaGreat
open Go Go.Proofs Go.RowKit

def InMo (rs : Rules) (del : Bool) (s d : List NodeV) (c : NodeV × Bool) : Prop := if c.2 = true then Ours rs del s d c.1 else Theirs rs del s d c.1
def SortedC (R : List (NodeV × Bool)) : Prop := R.Pairwise fun a b => cmpF (nm a.1) (nm b.1) < 0
/-- The mirror at a place. -/
def AtIs (rs : Rules) (del : Bool) (s d : List NodeV) (P : Pth) (R : List (NodeV × Bool)) : Prop := SortedC R ∧ ∀ c, c ∈ R ↔ InMo rs del s d c ∧ P <+: nm c.1
/-- The mirror beneath a place. -/
def BelowIs (rs : Rules) (del : Bool) (s d : List NodeV) (P : Pth) (R : List (NodeV × Bool)) : Prop := SortedC R ∧ ∀ c, c ∈ R ↔ InMo rs del s d c ∧ P <+: nm c.1 ∧ P ≠ nm c.1
def theirsL (L : List NodeV) : List (NodeV × Bool) := L.map fun x => (x, false)
theorem mem_theirsL {L : List NodeV} {c : NodeV × Bool} : c ∈ theirsL L ↔ c.1 ∈ L ∧ c.2 = false := by
  unfold theirsL
  rw [List.mem_map]
  constructor
  · rintro ⟨x, hx, rfl⟩; exact ⟨hx, rfl⟩
  · rintro ⟨h1, h2⟩; exact ⟨c.1, h1, by rw [← h2]⟩
theorem sorted_theirsL {L : List NodeV} (h : SortedN L) : SortedC (theirsL L) := by
  unfold theirsL SortedC
  rw [List.pairwise_map]
  exact h
def subF (d : List NodeV) (P : Pth) : List NodeV := d.filter fun y => P.isPrefixOf (nm y)
theorem mem_sub {d : List NodeV} {P : Pth} {y : NodeV} : y ∈ subF d P ↔ y ∈ d ∧ P <+: nm y := by
  unfold subF
  rw [List.mem_filter, List.isPrefixOf_iff_prefix]

section
variable {rs : Rules} {del : Bool} {s d : List NodeV} {P : Pth}
/-- No place above one that is come to has its nodes out of the receiver's. -/
theorem no_above (hS : Sides rs s d) (hop : openM rs s d P) {u : NodeV} (hu : u ∈ d) (h : nm u <+: P) (hne : nm u ≠ P) (hh : outF rs u = true ∨ (¬ dirAt s (nm u) ∧ ((∀ z ∈ s, nm z ≠ nm u) ∨ u.kind = 1))) : False := by
  obtain ⟨h1, h2⟩ := hop (nm u) (nm_ne (hS.dd.good u hu)) h hne
  rcases hh with h3 | h3
  · exact h2 ⟨u, hu, rfl, h3⟩
  · exact h3.1 h1
theorem pre_cmp {p q r : Pth} (h1 : p <+: r) (h2 : q <+: r) : p <+: q ∨ q <+: p := List.prefix_or_prefix_of_prefix h1 h2
/-- Whose place a node of the receiver's in the mirror has its own from. -/
theorem theirs_at (hS : Sides rs s d) (hop : openM rs s d P) {x : NodeV} (h : Theirs rs del s d x) (hP : P <+: nm x) : ∃ u ∈ d, P <+: nm u ∧ nm u <+: nm x ∧ openM rs s d (nm u) ∧ (outF rs u = true ∨ (¬ dirAt s (nm u) ∧ ((∀ z ∈ s, nm z ≠ nm u) ∨ u.kind = 1))) := by
  obtain ⟨_, _, u, hu, h1, h2, h3⟩ := h
  refine ⟨u, hu, ?_, h1, h2, h3⟩
  rcases pre_cmp hP h1 with h | h
  · exact h
  · by_cases e : nm u = P
    · rw [e]; exact List.prefix_rfl
    · exact (no_above hS hop hu h e h3).elim
theorem at_out (hS : Sides rs s d) (hP0 : P ≠ []) (hop : openM rs s d P) {u : NodeV} (hu : u ∈ d) (hup : nm u = P) (ho : outF rs u = true) : AtIs rs del s d P (theirsL (subF d P)) := by
  refine ⟨sorted_theirsL (hS.dd.sorted.filter _), fun c => ?_⟩
  rw [mem_theirsL, mem_sub]
  unfold InMo
  constructor
  · rintro ⟨⟨h1, h2⟩, h3⟩
    rw [h3, if_neg (by simp)]
    exact ⟨⟨h1, out_stays (out_in hS.dd h1 hu (by rw [hup]; exact h2) ho), u, hu, by rw [hup]; exact h2, by rw [hup]; exact hop, Or.inl ho⟩, h2⟩
  · rintro ⟨h1, h2⟩
    cases hc : c.2
    · rw [hc, if_neg (by simp)] at h1
      exact ⟨⟨h1.1, h2⟩, rfl⟩
    · rw [hc, if_pos rfl] at h1
      exfalso
      by_cases e : P = nm c.1
      · exact h1.2.2.1 ⟨u, hu, by rw [hup, e], ho⟩
      · exact (h1.2.1 P hP0 h2 e).2 ⟨u, hu, hup, ho⟩
theorem at_dir (hS : Sides rs s d) (hop : openM rs s d P) {x : NodeV} (hx : x ∈ s) (hxp : nm x = P) (hk : x.kind = 1) (hno : ¬ outAt rs d P) {R : List (NodeV × Bool)} (hR : BelowIs rs del s d P R) : AtIs rs del s d P ((x, true) :: R) := by
  refine ⟨?_, fun c => ?_⟩
  · unfold SortedC
    rw [List.pairwise_cons]
    refine ⟨fun c hc => ?_, hR.1⟩
    obtain ⟨_, h1, h2⟩ := (hR.2 c).1 hc
    show cmpF (nm x) (nm c.1) < 0
    rw [hxp]; exact cmp_pre h1 h2
  · rw [List.mem_cons, hR.2]
    constructor
    · rintro (rfl | ⟨h1, h2, _⟩)
      · refine ⟨?_, by rw [hxp]; exact List.prefix_rfl⟩
        unfold InMo
        rw [if_pos rfl]
        exact ⟨hx, by rw [hxp]; exact hop, by rw [hxp]; exact hno, Or.inl hk⟩
      · exact ⟨h1, h2⟩
    · rintro ⟨h1, h2⟩
      by_cases e : P = nm c.1
      · left
        unfold InMo at h1
        cases hc : c.2
        · rw [hc, if_neg (by simp)] at h1
          exfalso
          obtain ⟨u, hu, h3, h4, h5, h6⟩ := theirs_at hS hop h1 h2
          have hup : nm u = P := by
            refine List.IsPrefix.eq_of_length_le ?_ ?_
            · rw [e]; exact h4
            · rw [e]; rw [e] at h3; exact h3.length_le
          rw [hup] at h6
          rcases h6 with h6 | h6
          · exact hno ⟨u, hu, hup, h6⟩
          · exact h6.1 ⟨x, hx, hxp, hk⟩
        · rw [hc, if_pos rfl] at h1
          have := hS.ss.sorted.uniq h1.1 hx (by rw [hxp, e])
          obtain ⟨c1, c2⟩ := c
          simp only at this hc
          rw [this, hc]
      · exact Or.inr ⟨h1, h2, e⟩
/-- The sender's node alone. -/
theorem at_one (hS : Sides rs s d) (hP0 : P ≠ []) (hop : openM rs s d P) {x : NodeV} (hx : x ∈ s) (hxp : nm x = P) (hk : x.kind ≠ 1) (hno : ¬ outAt rs d P) (hl : (∀ y ∈ d, nm y = P → y.kind ≠ 1) ∨ leftF rs del d P = []) : AtIs rs del s d P [(x, true)] := by
  refine ⟨List.pairwise_singleton _ _, fun c => ?_⟩
  rw [List.mem_singleton]
  constructor
  · rintro rfl
    refine ⟨?_, by rw [hxp]; exact List.prefix_rfl⟩
    unfold InMo
    rw [if_pos rfl]
    refine ⟨hx, by rw [hxp]; exact hop, by rw [hxp]; exact hno, Or.inr fun y hy h1 h2 => ?_⟩
    rw [hxp] at h1
    rcases hl with hl | hl
    · exact absurd h2 (hl y hy h1)
    · rw [h1]; exact hl
  · rintro ⟨h1, h2⟩
    unfold InMo at h1
    cases hc : c.2
    · rw [hc, if_neg (by simp)] at h1
      exfalso
      rcases hl with hl | hl
      · obtain ⟨u, hu, h3, h4, h5, h6⟩ := theirs_at hS hop h1 h2
        have hd : ∀ y ∈ d, P <+: nm y → nm y = P := fun y hy h => by
          by_cases e : P = nm y
          · exact e.symm
          · obtain ⟨z, hz, h7, h8⟩ := hS.dd.anc hy hP0 h e
            exact absurd h8 (hl z hz h7)
        have hup := hd u hu h3
        rcases h6 with h6 | ⟨_, h6 | h6⟩
        · exact hno ⟨u, hu, hup, h6⟩
        · exact h6 x hx (by rw [hxp, hup])
        · exact hl u hu hup h6
      · have : c.1 ∈ leftF rs del d P := mem_leftF.2 ⟨h1.1, h2, h1.2.1⟩
        rw [hl] at this
        simp at this
    · rw [hc, if_pos rfl] at h1
      have := hS.ss.file h1.1 hx (by rw [hxp]; exact h2) hk
      obtain ⟨c1, c2⟩ := c
      simp only at this hc
      rw [this, hc]
/-- What is left of the receiver's. -/
theorem at_left (hS : Sides rs s d) (hP0 : P ≠ []) (hop : openM rs s d P) {u : NodeV} (hu : u ∈ d) (hup : nm u = P) (_hno : ¬ outAt rs d P) (h : (∀ z ∈ s, nm z ≠ P) ∨ (¬ dirAt s P ∧ u.kind = 1 ∧ leftF rs del d P ≠ [])) : AtIs rs del s d P (theirsL (leftF rs del d P)) := by
  have hnd : ¬ dirAt s P := by
    rcases h with h | h
    · rintro ⟨y, hy, h1, _⟩; exact h y hy h1
    · exact h.1
  refine ⟨sorted_theirsL (hS.dd.sorted.filter _), fun c => ?_⟩
  rw [mem_theirsL, mem_leftF]
  unfold InMo
  constructor
  · rintro ⟨⟨h1, h2, h3⟩, h4⟩
    rw [h4, if_neg (by simp)]
    refine ⟨⟨h1, h3, u, hu, by rw [hup]; exact h2, by rw [hup]; exact hop, Or.inr ⟨by rw [hup]; exact hnd, ?_⟩⟩, h2⟩
    rw [hup]
    rcases h with h | h
    · exact Or.inl h
    · exact Or.inr h.2.1
  · rintro ⟨h1, h2⟩
    cases hc : c.2
    · rw [hc, if_neg (by simp)] at h1
      exact ⟨⟨h1.1, h2, h1.2.1⟩, rfl⟩
    · rw [hc, if_pos rfl] at h1
      exfalso
      have hcp : P = nm c.1 := Classical.not_not.1 (fun e => hnd (hS.ss.anc h1.1 hP0 h2 e))
      rcases h with h | ⟨_, h3, h4⟩
      · exact h c.1 h1.1 hcp.symm
      · rcases h1.2.2.2 with h5 | h5
        · exact hnd ⟨c.1, h1.1, hcp.symm, h5⟩
        · exact h4 (by have := h5 u hu (by rw [hup, hcp]) h3; rw [hup] at this; exact this)

/-- What is left of a node that stays whole. -/
theorem left_sub (hd : TreeL d) {u : NodeV} (hu : u ∈ d) (hup : nm u = P) (h : del = false ∨ outF rs u = true) : leftF rs del d P = subF d P := by
  unfold leftF subF
  apply List.filter_congr
  intro y hy
  by_cases hp : P <+: nm y
  · have : staysB rs del d y = true := by
      rcases h with h | h
      · exact stays_iff.2 (Or.inl h)
      · exact out_stays (out_in hd hy hu (by rw [hup]; exact hp) h)
    rw [this, Bool.and_true]
  · have : P.isPrefixOf (nm y) = false := by
      rw [← Bool.not_eq_true, List.isPrefixOf_iff_prefix]; exact hp
    rw [this, Bool.false_and]
theorem left_file (hd : TreeL d) {u : NodeV} (hu : u ∈ d) (hup : nm u = P) (hdel : del = true) (ho : outF rs u = false) (hk : u.kind ≠ 1) : leftF rs del d P = [] := by
  rw [List.eq_nil_iff_forall_not_mem]
  intro y hy
  obtain ⟨h1, h2, h3⟩ := mem_leftF.1 hy
  have := hd.file h1 hu (by rw [hup]; exact h2) hk
  subst this
  rw [stays_iff] at h3
  rcases h3 with h3 | h3 | h3
  · rw [hdel] at h3; cases h3
  · rw [ho] at h3; cases h3
  · exact hk h3.1
/-- What is left of a directory, out of what is left of all beneath it. -/
theorem left_dir (hd : TreeL d) {u : NodeV} (hu : u ∈ d) (hup : nm u = P) (hdel : del = true) (ho : outF rs u = false) (hk : u.kind = 1) {L : List NodeV} (hs : SortedN L) (hm : ∀ y, y ∈ L ↔ y ∈ d ∧ staysB rs del d y = true ∧ P <+: nm y ∧ P ≠ nm y) :
    leftF rs del d P = if L = [] then [] else u :: L := by
  split
  · rename_i h0
    rw [List.eq_nil_iff_forall_not_mem]
    intro y hy
    obtain ⟨h1, h2, h3⟩ := mem_leftF.1 hy
    have hno : ∀ z, z ∈ d → staysB rs del d z = true → P <+: nm z → P ≠ nm z → False := fun z a b c e => by
      have := (hm z).2 ⟨a, b, c, e⟩
      rw [h0] at this; simp at this
    by_cases e : P = nm y
    · have := hd.sorted.uniq h1 hu (by rw [hup, e])
      subst this
      rw [stays_iff] at h3
      rcases h3 with h3 | h3 | ⟨_, z, hz, h4, h5, h6⟩
      · rw [hdel] at h3; cases h3
      · rw [ho] at h3; cases h3
      · rw [← e] at h4 h5
        exact hno z hz (out_stays h6) h4 h5
    · exact hno y h1 h3 h2 e
  · rename_i h0
    refine SortedN.ext (hd.sorted.filter _) ?_ fun y => ?_
    · unfold SortedN
      rw [List.pairwise_cons]
      refine ⟨fun y hy => ?_, hs⟩
      obtain ⟨_, _, h1, h2⟩ := (hm y).1 hy
      rw [hup]; exact cmp_pre h1 h2
    · rw [mem_leftF, List.mem_cons, hm]
      constructor
      · rintro ⟨h1, h2, h3⟩
        by_cases e : P = nm y
        · exact Or.inl (hd.sorted.uniq h1 hu (by rw [hup, e]))
        · exact Or.inr ⟨h1, h3, h2, e⟩
      · rintro (rfl | ⟨h1, h2, h3, _⟩)
        · refine ⟨hu, by rw [hup]; exact List.prefix_rfl, ?_⟩
          obtain ⟨z, hz⟩ := List.exists_mem_of_ne_nil L h0
          obtain ⟨h1, h2, h3, _⟩ := (hm z).1 hz
          exact stays_up hd h1 hu (by rw [hup]; exact h3) h2
        · exact ⟨h1, h3, h2⟩
end

/-! ### What is beneath a place, child by child -/
def keyP (q : ByteArray) : Pth := cutF (txt q)
/-- The children's paths. -/
structure Keys (s d : List NodeV) (P : Pth) (Ks : List ByteArray) : Prop where
  sorted : Ks.Pairwise fun p q => cmpF (keyP p) (keyP q) < 0
  mem : ∀ q, q ∈ Ks ↔ (∃ x ∈ s, x.path = q ∧ nm x ≠ [] ∧ (nm x).dropLast = P) ∨ ∃ y ∈ d, y.path = q ∧ nm y ≠ [] ∧ (nm y).dropLast = P
theorem child_len {p : Pth} (h0 : p ≠ []) {P : Pth} (h : p.dropLast = P) : p.length = P.length + 1 := by
  have := congrArg List.length h
  rw [List.length_dropLast] at this
  have := List.length_pos_iff.2 h0
  omega
theorem Keys.key {s d : List NodeV} {P : Pth} {Ks : List ByteArray} (h : Keys s d P Ks) {q : ByteArray} (hq : q ∈ Ks) : keyP q ≠ [] ∧ (keyP q).dropLast = P := by
  rcases (h.mem q).1 hq with ⟨x, _, rfl, h1, h2⟩ | ⟨x, _, rfl, h1, h2⟩
  · exact ⟨h1, h2⟩
  · exact ⟨h1, h2⟩
/-- What has been gathered of the first children. -/
def Upto {α : Type} (f : α → NodeV) (I : α → Prop) (Ks : List ByteArray) (k : Nat) (R : List α) : Prop :=
  (R.Pairwise fun a b => cmpF (nm (f a)) (nm (f b)) < 0) ∧ ∀ c, c ∈ R ↔ I c ∧ ∃ q ∈ Ks.take k, keyP q <+: nm (f c)
theorem Upto.start {α : Type} {f : α → NodeV} {I : α → Prop} {Ks : List ByteArray} : Upto f I Ks 0 [] := ⟨List.Pairwise.nil, fun c => by simp⟩
theorem Upto.next {α : Type} {f : α → NodeV} {I : α → Prop} {s d : List NodeV} {P : Pth} {Ks : List ByteArray} (hK : Keys s d P Ks) {k : Nat} (hk : k < Ks.length) {R R' : List α} (h : Upto f I Ks k R)
    (hs : R'.Pairwise fun a b => cmpF (nm (f a)) (nm (f b)) < 0) (hm : ∀ c, c ∈ R' ↔ I c ∧ keyP Ks[k] <+: nm (f c)) : Upto f I Ks (k + 1) (R ++ R') := by
  refine ⟨List.pairwise_append.2 ⟨h.1, hs, fun a ha b hb => ?_⟩, fun c => ?_⟩
  · obtain ⟨_, q, hq, h1⟩ := (h.2 a).1 ha
    obtain ⟨_, h2⟩ := (hm b).1 hb
    obtain ⟨j, hj, rfl⟩ := List.getElem_of_mem hq
    rw [List.length_take] at hj
    rw [List.getElem_take] at h1
    have hlt := (List.pairwise_iff_getElem.1 hK.sorted) j k (by omega) hk (by omega)
    refine cmp_sib hlt (fun hp => ?_) h1 h2
    have hl := hp.length_le
    have e1 := hK.key (List.getElem_mem (by omega : j < Ks.length))
    have e2 := hK.key (List.getElem_mem hk)
    have l1 := child_len e1.1 e1.2
    have l2 := child_len e2.1 e2.2
    have := List.IsPrefix.eq_of_length_le hp (by omega)
    rw [this] at hlt
    exact cmp_irr _ hlt
  · rw [List.mem_append, h.2, hm, List.take_succ_eq_append_getElem hk]
    constructor
    · rintro (⟨h1, q, hq, h2⟩ | ⟨h1, h2⟩)
      · exact ⟨h1, q, List.mem_append.2 (Or.inl hq), h2⟩
      · exact ⟨h1, _, List.mem_append.2 (Or.inr (List.mem_singleton.2 rfl)), h2⟩
    · rintro ⟨h1, q, hq, h2⟩
      rcases List.mem_append.1 hq with hq | hq
      · exact Or.inl ⟨h1, q, hq, h2⟩
      · rw [List.mem_singleton.1 hq] at h2; exact Or.inr ⟨h1, h2⟩
/-- All that is beneath a place is within one of the children. -/
theorem child_of {s d : List NodeV} (hs : TreeL s) (hd : TreeL d) {P : Pth} {Ks : List ByteArray} (hK : Keys s d P Ks) {x : NodeV} (hx : x ∈ s ∨ x ∈ d) : (∃ q ∈ Ks, keyP q <+: nm x) ↔ P <+: nm x ∧ P ≠ nm x := by
  constructor
  · rintro ⟨q, hq, h⟩
    obtain ⟨h1, h2⟩ := hK.key hq
    have hp : P <+: keyP q := by rw [← h2]; exact drop_pre _
    have hne : P ≠ keyP q := by rw [← h2]; exact drop_ne h1
    exact ⟨hp.trans h, pre_ne hp hne h⟩
  · rintro ⟨h1, h2⟩
    have hl := pre_len_lt h1 h2
    have hU : (nm x).take (P.length + 1) <+: nm x := List.take_prefix _ _
    have hUl : ((nm x).take (P.length + 1)).length = P.length + 1 := by rw [List.length_take]; omega
    have hU0 : (nm x).take (P.length + 1) ≠ [] := fun e => by rw [e] at hUl; simp at hUl
    have hUd : ((nm x).take (P.length + 1)).dropLast = P := by
      rw [List.prefix_iff_eq_take] at h1
      rw [List.dropLast_eq_take, hUl, List.take_take, Nat.add_sub_cancel, Nat.min_eq_left (by omega)]
      exact h1.symm
    have key : ∀ T, TreeL T → x ∈ T → ∃ y ∈ T, nm y = (nm x).take (P.length + 1) := fun T hT hxT => by
      by_cases e : (nm x).take (P.length + 1) = nm x
      · exact ⟨x, hxT, e.symm⟩
      · obtain ⟨y, hy, h3, _⟩ := hT.anc hxT hU0 hU e
        exact ⟨y, hy, h3⟩
    rcases hx with hx | hx
    · obtain ⟨y, hy, h3⟩ := key s hs hx
      exact ⟨y.path, (hK.mem _).2 (Or.inl ⟨y, hy, rfl, by rw [h3]; exact hU0, by rw [h3]; exact hUd⟩), by show nm y <+: _; rw [h3]; exact hU⟩
    · obtain ⟨y, hy, h3⟩ := key d hd hx
      exact ⟨y.path, (hK.mem _).2 (Or.inr ⟨y, hy, rfl, by rw [h3]; exact hU0, by rw [h3]; exact hUd⟩), by show nm y <+: _; rw [h3]; exact hU⟩
theorem upto_below {rs : Rules} {del : Bool} {s d : List NodeV} {P : Pth} {Ks : List ByteArray} {R : List (NodeV × Bool)} (hS : Sides rs s d) (hK : Keys s d P Ks) (h : Upto Prod.fst (InMo rs del s d) Ks Ks.length R) : BelowIs rs del s d P R := by
  refine ⟨h.1, fun c => ?_⟩
  rw [h.2, List.take_length]
  constructor
  · rintro ⟨h1, h2⟩
    refine ⟨h1, (child_of hS.ss hS.dd hK ?_).1 h2⟩
    unfold InMo at h1
    split at h1
    · exact Or.inl h1.1
    · exact Or.inr h1.1
  · rintro ⟨h1, h2⟩
    refine ⟨h1, (child_of hS.ss hS.dd hK ?_).2 h2⟩
    unfold InMo at h1
    split at h1
    · exact Or.inl h1.1
    · exact Or.inr h1.1
theorem upto_left {rs : Rules} {del : Bool} {d : List NodeV} {P : Pth} {Ks : List ByteArray} {L : List NodeV} (hd : TreeL d) (hK : Keys d [] P Ks) (h : Upto id (fun y => y ∈ d ∧ staysB rs del d y = true) Ks Ks.length L) : SortedN L ∧ ∀ y, y ∈ L ↔ y ∈ d ∧ staysB rs del d y = true ∧ P <+: nm y ∧ P ≠ nm y := by
  refine ⟨h.1, fun y => ?_⟩
  rw [h.2, List.take_length]
  constructor
  · rintro ⟨⟨h1, h2⟩, h3⟩
    exact ⟨h1, h2, (child_of hd TreeL.nil hK (Or.inl h1)).1 h3⟩
  · rintro ⟨h1, h2, h3⟩
    exact ⟨⟨h1, h2⟩, (child_of hd TreeL.nil hK (Or.inl h1)).2 h3⟩
end Go.Proofs.YtiopahkigbdmcaaGreat
/- Whether trees and rules are small (the laws' guards): the walks. -/
namespace Go.Proofs.YtiopahkigbdmcaaGreat
open Go Go.Proofs Go.RowKit

def BoolTold (G : Prop) (w : World) (e : Ending) (w' : World) : Prop := ∃ b, e = .returned (.bool b) ∧ (b = true → G) ∧ Ext w w'
theorem bool_told {G : Prop} {w w' : World} {b : Bool} (h : b = true → G) (hE : Ext w w') : BoolTold G w (.returned (.bool b)) w' := ⟨b, rfl, h, hE⟩
def TinyL (L : List NodeV) : Prop := L.length ≤ 24 ∧ ∀ x ∈ L, x.path.size ≤ 200 ∧ x.data.size ≤ 500
def TinyR (rs : List (Bool × ByteArray)) : Prop := rs.length ≤ 20 ∧ ∀ r ∈ rs, r.2.size ≤ 100
theorem TinyL.small {L : List NodeV} (h : TinyL L) : SmallL L := ⟨by have := h.1; omega, fun x hx => by have := h.2 x hx; omega⟩
theorem TinyR.short {rs : List (Bool × ByteArray)} (h : TinyR rs) : Short rs := ⟨by have := h.1; omega, fun x hx => by have := h.2 x hx; omega⟩
set_option maxHeartbeats 1000000 in
set_option maxRecDepth 100000 in
theorem tinyN (a : Option Addr) (L : List NodeV) (c : Nat) (w : World) (hA : NodesAt w a L) : Calls Tryz.prog 33 #[.slice a L.length c] w (BoolTold (TinyL L) w) := by
  have HA := Lib.hid hA; clear hA
  obtain ⟨n, hn⟩ : ∃ n, L.length = n := ⟨_, rfl⟩
  rw [hn]
  have HN := Lib.hid hn; clear hn
  by_cases h24 : (24 : Int) < n
  · go_enter Tryz.func33, Tryz.ntmps33
    go_wp2
    go_ret
    exact bool_told (fun h => by cases h) (Ext.refl w)
  · go_enter Tryz.func33, Tryz.ntmps33
    go_wp2
    go_loop [3] (fun i => ∃ k : Nat, k ≤ n ∧ i = .int .i64 k ∧ ∀ j (h : j < L.length), j < k → L[j].path.size ≤ 200 ∧ L[j].data.size ≤ 500) (fun i => n - (intOf i).toNat)
    case atStart => exact ⟨0, Nat.zero_le _, rfl, fun j _ h => by omega⟩
    case round =>
      obtain ⟨k, hk, rfl, hall⟩ := hrel
      have HAll := Lib.hid hall; clear hall
      by_cases hlt : k < n
      · have hkl : k < L.length := by rw [HN.out]; exact hlt
        obtain ⟨bl, off, rfl, hb, c0, c1, c2, c3, c4⟩ := NodesAt.node HA.out hkl
        clear c1 c2 c3
        obtain ⟨p, hp⟩ : ∃ p, L[k].path = p := ⟨_, rfl⟩
        obtain ⟨d, hd⟩ : ∃ d, L[k].data = d := ⟨_, rfl⟩
        rw [hp] at c0
        rw [hd] at c4
        have HPD := Lib.hid (And.intro hp hd); clear hp hd
        by_cases h1 : (200 : Int) < p.size
        · go_wp2
          go_ret
          exact bool_told (fun h => by cases h) (Ext.refl w)
        · by_cases h2 : (500 : Int) < d.size
          · go_wp2
            go_ret
            exact bool_told (fun h => by cases h) (Ext.refl w)
          · go_wp2
            go_round
            case rel =>
              refine ⟨k + 1, by omega, by go_num, fun j hj hjk => ?_⟩
              by_cases hjk : j < k
              · exact HAll.out j hj hjk
              · obtain rfl : j = k := by omega
                rw [HPD.out.1, HPD.out.2]; omega
            case measure => simp [intOf]; omega
      · obtain rfl : k = n := by omega
        go_wp2
        go_ret
        refine bool_told (fun _ => ⟨by rw [HN.out]; omega, fun x hx => ?_⟩) (Ext.refl w)
        obtain ⟨j, hj, rfl⟩ := List.getElem_of_mem hx
        exact HAll.out j hj (by rw [HN.out] at hj; exact hj)
set_option maxHeartbeats 1000000 in
set_option maxRecDepth 100000 in
theorem tinyR (a : Option Addr) (rs : List (Bool × ByteArray)) (c : Nat) (w : World) (hA : RulesAt w a rs) : Calls Tryz.prog 34 #[.slice a rs.length c] w (BoolTold (TinyR rs) w) := by
  have HA := Lib.hid hA; clear hA
  obtain ⟨n, hn⟩ : ∃ n, rs.length = n := ⟨_, rfl⟩
  rw [hn]
  have HN := Lib.hid hn; clear hn
  by_cases h24 : (20 : Int) < n
  · go_enter Tryz.func34, Tryz.ntmps34
    go_wp2
    go_ret
    exact bool_told (fun h => by cases h) (Ext.refl w)
  · go_enter Tryz.func34, Tryz.ntmps34
    go_wp2
    go_loop [3] (fun i => ∃ k : Nat, k ≤ n ∧ i = .int .i64 k ∧ ∀ j (h : j < rs.length), j < k → rs[j].2.size ≤ 100) (fun i => n - (intOf i).toNat)
    case atStart => exact ⟨0, Nat.zero_le _, rfl, fun j _ h => by omega⟩
    case round =>
      obtain ⟨k, hk, rfl, hall⟩ := hrel
      have HAll := Lib.hid hall; clear hall
      by_cases hlt : k < n
      · have hkl : k < rs.length := by rw [HN.out]; exact hlt
        obtain ⟨bl, off, rfl, hb, c0, c1⟩ := HA.out.cells hkl
        obtain ⟨p, hp⟩ : ∃ p, rs[k].2 = p := ⟨_, rfl⟩
        rw [hp] at c1
        have HPD := Lib.hid hp; clear hp
        by_cases h1 : (100 : Int) < p.size
        · go_wp2
          go_ret
          exact bool_told (fun h => by cases h) (Ext.refl w)
        · go_wp2
          go_round
          case rel =>
            refine ⟨k + 1, by omega, by go_num, fun j hj hjk => ?_⟩
            by_cases hjk : j < k
            · exact HAll.out j hj hjk
            · obtain rfl : j = k := by omega
              rw [HPD.out]; omega
          case measure => simp [intOf]; omega
      · obtain rfl : k = n := by omega
        go_wp2
        go_ret
        refine bool_told (fun _ => ⟨by rw [HN.out]; omega, fun x hx => ?_⟩) (Ext.refl w)
        obtain ⟨j, hj, rfl⟩ := List.getElem_of_mem hx
        exact HAll.out j hj (by rw [HN.out] at hj; exact hj)
/-- Options. -/
structure OptV where
  del : Bool
  dry : Bool
  trust : Bool
  ra : Option Addr
  rs : List (Bool × ByteArray)
  rc : Nat
  block : Int
  piece : Int
def OptV.val (o : OptV) : Value := .agg #[.bool o.del, .bool o.dry, .bool o.trust, .slice o.ra o.rs.length o.rc, .int .i64 o.block, .int .i64 o.piece]
def OptV.row (o : OptV) : Array Value := #[.bool o.del, .bool o.dry, .bool o.trust, .slice o.ra o.rs.length o.rc, .int .i64 o.block, .int .i64 o.piece]
theorem opt_new {w w2 : World} (o : OptV) {r : Nat} (_hr : o.rs.length = r) (h : Ext (w.alloc (.cells #[.bool o.del, .bool o.dry, .bool o.trust, .slice o.ra r o.rc, .int .i64 o.block, .int .i64 o.piece] 25)) w2) :
    w2.cell? ⟨w.heap.size, 0, none⟩ = some (.bool o.del) ∧ w2.cell? ⟨w.heap.size, 1, none⟩ = some (.bool o.dry) ∧ w2.cell? ⟨w.heap.size, 2, none⟩ = some (.bool o.trust) ∧ w2.cell? ⟨w.heap.size, 3, none⟩ = some (.slice o.ra r o.rc) ∧ w2.cell? ⟨w.heap.size, 4, none⟩ = some (.int .i64 o.block) ∧ w2.cell? ⟨w.heap.size, 5, none⟩ = some (.int .i64 o.piece) := by
  have hb := h.block (heap_at w _ rfl)
  exact ⟨blk_cell hb rfl, blk_cell hb rfl, blk_cell hb rfl, blk_cell hb rfl, blk_cell hb rfl, blk_cell hb rfl⟩
set_option maxHeartbeats 1000000 in
set_option maxRecDepth 100000 in
theorem tinyAll (a d : Option Addr) (L M : List NodeV) (c cd : Nat) (o : OptV) (w : World) (hA : NodesAt w a L) (hD : NodesAt w d M) (hR : RulesAt w o.ra o.rs) :
    Calls Tryz.prog 25 #[.slice a L.length c, .slice d M.length cd, o.val] w (BoolTold (TinyL L ∧ TinyL M ∧ TinyR o.rs) w) := by
  have HA := Lib.hid (fun w' (h : Ext w w') => tinyN a L c w' (hA.ext h))
  have HD := Lib.hid (fun w' (h : Ext w w') => tinyN d M cd w' (hD.ext h))
  have HR := Lib.hid (fun w' (h : Ext w w') => tinyR o.ra o.rs o.rc w' (hR.ext h))
  have HO := Lib.hid (fun w2 r hr h => opt_new (w := w) (w2 := w2) o (r := r) hr h)
  clear hA hD hR
  unfold OptV.val
  obtain ⟨n, hn⟩ : ∃ n, L.length = n := ⟨_, rfl⟩
  obtain ⟨m, hm⟩ : ∃ m, M.length = m := ⟨_, rfl⟩
  obtain ⟨r, hr⟩ : ∃ r, o.rs.length = r := ⟨_, rfl⟩
  rw [hn] at HA ⊢
  rw [hm] at HD ⊢
  rw [hr] at HR ⊢
  have HO := Lib.hid (fun w2 h => HO.out w2 r hr h)
  clear hn hm hr
  have hE0 := (Ext.refl w).alloc (.cells #[.bool o.del, .bool o.dry, .bool o.trust, .slice o.ra r o.rc, .int .i64 o.block, .int .i64 o.piece] 25)
  have HE0 := Lib.hid hE0; clear hE0
  go_enter Tryz.func25, Tryz.ntmps25
  go_wp2_with fail
  refine (HA.out _ HE0.out).mono ?_
  rintro e w1 ⟨b1, rfl, h1, hE1⟩
  have HE1 := Lib.hid (Ext.trans HE0.out hE1)
  have HO1 := Lib.hid hE1; clear hE1
  have H1 := Lib.hid h1; clear h1
  cases b1
  · go_wp2
    go_ret
    exact bool_told (fun h => by cases h) HE1.out
  · go_wp2_with fail
    refine (HD.out _ HE1.out).mono ?_
    rintro e w2 ⟨b2, rfl, h2, hE2⟩
    have HE2 := Lib.hid (Ext.trans HE1.out hE2)
    have HO2 := Lib.hid (Ext.trans HO1.out hE2); clear hE2
    have H2 := Lib.hid h2; clear h2
    cases b2
    · go_wp2
      go_ret
      exact bool_told (fun h => by cases h) HE2.out
    · obtain ⟨-, -, -, d3, -, -⟩ := HO.out _ HO2.out
      go_wp2_with fail
      refine (HR.out _ HE2.out).mono ?_
      rintro e w3 ⟨b3, rfl, h3, hE3⟩
      have HE3 := Lib.hid (Ext.trans HE2.out hE3); clear hE3
      have H3 := Lib.hid h3; clear h3
      go_wp2
      go_ret
      exact bool_told (fun h => ⟨H1.out (by simp), H2.out (by simp), H3.out h⟩) HE3.out
end Go.Proofs.YtiopahkigbdmcaaGreat
/- Whether rules, options and trees may be synchronised (layers 3, 13), the document's side: that it answers: the walks. -/
namespace Go.Proofs.YtiopahkigbdmcaaGreat
open Go Go.Proofs Go.RowKit

/-- Are rules right? -/
def okR (rs : List (Bool × ByteArray)) : Prop := rs.length ≤ 16 ∧ ∀ r ∈ rs, (patF (txt r.2)).isSome = true
def IffTold (G : Prop) (w : World) (e : Ending) (w' : World) : Prop := ∃ z, e = .returned (.int .i64 z) ∧ (z = 0 ↔ G) ∧ Ext w w'
theorem iff_told {G : Prop} {w w' : World} {z : Int} (h : z = 0 ↔ G) (hE : Ext w w') : IffTold G w (.returned (.int .i64 z)) w' := ⟨z, rfl, h, hE⟩
set_option maxHeartbeats 1000000 in
set_option maxRecDepth 100000 in
theorem checkAllD (a : Option Addr) (rs : List (Bool × ByteArray)) (c : Nat) (w : World) (hS : Short rs) (hA : RulesAt w a rs) : Calls Tryz.prog 59 #[.slice a rs.length c] w (IffTold (okR rs) w) := by
  have HA := Lib.hid hA; clear hA
  have hl := hS.1
  have HC := Lib.hid (fun k p w' (hp : (k, p) ∈ rs) => checkD_any k p w' (hS.2 _ hp)); clear hS
  obtain ⟨n, hn⟩ : ∃ n, rs.length = n := ⟨_, rfl⟩
  rw [hn] at hl ⊢
  have HN := Lib.hid hn; clear hn
  by_cases h24 : (16 : Int) < n
  · go_enter Tryz.func59, Tryz.ntmps59
    go_wp2
    go_ret
    exact iff_told ⟨(fun h => by cases h), (fun h => by have := h.1; rw [HN.out] at this; omega)⟩ (Ext.refl w)
  · go_enter Tryz.func59, Tryz.ntmps59
    go_wp2
    go_loopw [3] (fun i w' => ∃ k : Nat, k ≤ n ∧ i = .int .i64 k ∧ (∀ j (h : j < rs.length), j < k → (patF (txt rs[j].2)).isSome = true) ∧ Ext w w') (fun i _ => n - (intOf i).toNat)
    case atStart => exact ⟨0, Nat.zero_le _, rfl, fun j _ h => by omega, Ext.refl w⟩
    case round =>
      obtain ⟨k, hk, rfl, hall, hE⟩ := hrel
      have HAll := Lib.hid hall; clear hall
      by_cases hlt : k < n
      · have hkl : k < rs.length := by rw [HN.out]; exact hlt
        obtain ⟨bl, off, rfl, hb, c0, c1⟩ := (HA.out.ext hE).cells hkl
        have hmem := List.getElem_mem hkl
        obtain ⟨kp, hkp⟩ : ∃ kp, rs[k].1 = kp := ⟨_, rfl⟩
        obtain ⟨pt, hpt⟩ : ∃ pt, rs[k].2 = pt := ⟨_, rfl⟩
        rw [hkp] at c0
        rw [hpt] at c1
        have hin : (kp, pt) ∈ rs := by rw [← hkp, ← hpt]; exact hmem
        have HM := Lib.hid (fun w' => HC.out kp pt w' hin)
        have HPT := Lib.hid hpt
        have HIN := Lib.hid hin
        have HE := Lib.hid hE; clear hE hmem hkp hpt hin
        have HK := Lib.hid (fun w2 (h : Ext wr w2) => And.intro ((h.cell hb).trans c0) ((h.cell hb).trans c1))
        go_wp2_with fail
        refine (HM.out _).mono ?_
        rintro e w2 ⟨z, rfl, hE2, hzz⟩
        have HZ := Lib.hid hzz; clear hzz
        obtain ⟨d0, d1⟩ := HK.out _ hE2
        clear c0 c1
        have HE2 := Lib.hid hE2; clear hE2
        by_cases hz : z = 0
        · have hz1 : (z != 0) = false := by rw [hz]; rfl
          have HS1 := Lib.hid (HZ.out.1 hz)
          clear hz
          go_wp2
          go_roundw
          case rel =>
            refine ⟨k + 1, by omega, by go_num, fun j hj hjk => ?_, HE.out.trans HE2.out⟩
            by_cases hjk : j < k
            · exact HAll.out j hj hjk
            · obtain rfl : j = k := by omega
              rw [HPT.out]; exact HS1.out
          case measure => simp [intOf]; omega
        · have hz1 : (z != 0) = true := by simpa using hz
          have HS1 := Lib.hid (fun h => hz (HZ.out.2 h))
          clear hz
          go_wp2_with fail
          refine (HM.out _).mono ?_
          rintro e w3 ⟨z3, rfl, hE3, hz3⟩
          have HE3 := Lib.hid hE3; clear hE3
          have HZ3 := Lib.hid hz3; clear hz3
          go_wp2
          go_ret
          exact iff_told ⟨fun h => absurd (HZ3.out.1 h) HS1.out, fun h => absurd (h.2 _ HIN.out) HS1.out⟩ (HE.out.trans (HE2.out.trans HE3.out))
      · obtain rfl : k = n := by omega
        have HE := Lib.hid hE; clear hE
        go_wp2
        go_ret
        refine iff_told ⟨fun _ => ⟨by rw [HN.out]; omega, fun x hx => ?_⟩, fun _ => rfl⟩ HE.out
        obtain ⟨j, hj, rfl⟩ := List.getElem_of_mem hx
        exact HAll.out j hj (by rw [HN.out] at hj; exact hj)
set_option maxHeartbeats 2000000 in
set_option maxRecDepth 100000 in
theorem checkOD (o : OptV) (w : World) (hS : Short o.rs) (hR : RulesAt w o.ra o.rs) : Calls Tryz.prog 41 #[o.val] w (IntTold (16 ≤ o.piece ∧ o.piece ≤ 512) w) := by
  have HR := Lib.hid (fun w' (h : Ext w w') => checkAllD o.ra o.rs o.rc w' hS (hR.ext h))
  have HO := Lib.hid (fun w2 r hr h => opt_new (w := w) (w2 := w2) o (r := r) hr h)
  clear hR hS
  unfold OptV.val
  obtain ⟨r, hr⟩ : ∃ r, o.rs.length = r := ⟨_, rfl⟩
  rw [hr] at HR ⊢
  have HO := Lib.hid (fun w2 h => HO.out w2 r hr h)
  clear hr
  have hE0 := (Ext.refl w).alloc (.cells #[.bool o.del, .bool o.dry, .bool o.trust, .slice o.ra r o.rc, .int .i64 o.block, .int .i64 o.piece] 25)
  have HE0 := Lib.hid hE0; clear hE0
  go_enter Tryz.func41, Tryz.ntmps41
  go_wp2_with fail
  refine (HR.out _ HE0.out).mono ?_
  rintro e w1 ⟨z, rfl, hzz, hE1⟩
  have HZ := Lib.hid hzz; clear hzz
  obtain ⟨d0, d1, d2, d3, d4, d5⟩ := HO.out _ hE1
  have HO1 := Lib.hid hE1
  have HE1 := Lib.hid (Ext.trans HE0.out hE1); clear hE1
  by_cases hz : z = 0
  · have hz1 : (z != 0) = false := by rw [hz]; rfl
    clear hz
    by_cases h1 : o.piece < 16
    · go_wp2
      all_goals go_ret
      all_goals exact int_bad (by decide) HE1.out
    · by_cases h2 : o.piece > 512
      · go_wp2
        all_goals go_ret
        all_goals exact int_bad (by decide) HE1.out
      · have HG := Lib.hid (show 16 ≤ o.piece ∧ o.piece ≤ 512 by omega)
        go_wp2
        all_goals go_ret
        all_goals first | exact int_told HG.out HE1.out | exact int_told trivial HE1.out
  · have hz1 : (z != 0) = true := by simpa using hz
    have HS1 := Lib.hid (fun h => hz (HZ.out.2 h))
    clear hz
    go_wp2_with fail
    refine (HR.out _ HE1.out).mono ?_
    rintro e w3 ⟨z3, rfl, hz3, hE3⟩
    have HE3 := Lib.hid (Ext.trans HE1.out hE3); clear hE3
    have HZ3 := Lib.hid (fun h => HS1.out (hz3.1 h)); clear hz3
    go_wp2
    go_ret
    exact int_bad HZ3.out HE3.out
end Go.Proofs.YtiopahkigbdmcaaGreat
/- Whether trees and options may be synchronised (layers 13, 36, 37), the document's side: that it answers: the walks. -/
namespace Go.Proofs.YtiopahkigbdmcaaGreat
open Go Go.Proofs Go.RowKit

set_option maxHeartbeats 1000000 in
set_option maxRecDepth 100000 in
theorem fitsTD (a : Option Addr) (L : List NodeV) (c : Nat) (w : World) (hL : SmallL L) (hA : NodesAt w a L) : Calls Tryz.prog 42 #[.slice a L.length c] w (IntTold True w) := by
  have HCT := Lib.hid (fun w' (h : Ext w w') => checkTD a L c w' hL (hA.ext h))
  have HNm := Lib.hid (fun (x : NodeV) (hx : x ∈ L) w' => namesD_any x.path w' (hL.2 x hx).1)
  have HA := Lib.hid hA; clear hA
  have hl := hL.1
  obtain ⟨n, hn⟩ : ∃ n, L.length = n := ⟨_, rfl⟩
  rw [hn] at hl HCT ⊢
  have HN := Lib.hid hn; clear hn hL
  go_enter Tryz.func42, Tryz.ntmps42
  go_wp2_with fail
  refine (HCT.out _ (Ext.refl w)).mono ?_
  rintro e w1 ⟨z, rfl, -, hE1⟩
  have HE1 := Lib.hid hE1; clear hE1
  by_cases hz : z = 0
  · have hz1 : (z != 0) = false := by rw [hz]; rfl
    clear hz
    go_wp2
    go_loopw [3] (fun i w' => ∃ k : Nat, k ≤ n ∧ i = .int .i64 k ∧ Ext w w') (fun i _ => n - (intOf i).toNat)
    case atStart => exact ⟨0, Nat.zero_le _, rfl, HE1.out⟩
    case round =>
      obtain ⟨k, hk, rfl, hE⟩ := hrel
      by_cases hlt : k < n
      · have hkl : k < L.length := by rw [HN.out]; exact hlt
        have hmem := List.getElem_mem hkl
        obtain ⟨bl, off, rfl, hb, c0, c1, c2, c3, c4⟩ := NodesAt.node (HA.out.ext hE) hkl
        have HC1 := Lib.hid (HNm.out _ hmem)
        obtain ⟨p, hp⟩ : ∃ p, L[k].path = p := ⟨_, rfl⟩
        rw [hp] at HC1 c0
        clear hp hmem c1 c2 c3 c4
        have HE := Lib.hid hE; clear hE
        go_wp2_with fail
        refine (HC1.out _).mono ?_
        rintro e w2 ⟨na, nc, M, rfl, hE2, -, -, -⟩
        have HE2 := Lib.hid (Ext.trans HE.out hE2); clear hE2
        obtain ⟨m, hm⟩ : ∃ m, M.length = m := ⟨_, rfl⟩
        rw [hm]
        clear hm
        by_cases h8 : (8 : Int) < m
        · go_wp2
          go_ret
          exact int_told trivial HE2.out
        · go_wp2
          go_roundw
          case rel => exact ⟨k + 1, by omega, by go_num, HE2.out⟩
          case measure => simp [intOf]; omega
      · obtain rfl : k = n := by omega
        have HE := Lib.hid hE; clear hE
        go_wp2
        go_ret
        exact int_told trivial HE.out
  · have hz1 : (z != 0) = true := by simpa using hz
    clear hz
    go_wp2_with fail
    refine (HCT.out _ HE1.out).mono ?_
    rintro e w3 ⟨z3, rfl, -, hE3⟩
    have HE3 := Lib.hid (Ext.trans HE1.out hE3); clear hE3
    go_wp2
    go_ret
    exact int_told trivial HE3.out
set_option maxHeartbeats 2000000 in
set_option maxRecDepth 100000 in
theorem fitsAllD (a d : Option Addr) (L M : List NodeV) (c cd : Nat) (o : OptV) (w : World) (hL : SmallL L) (hM : SmallL M) (hS : Short o.rs) (hA : NodesAt w a L) (hD : NodesAt w d M) (hR : RulesAt w o.ra o.rs) :
    Calls Tryz.prog 26 #[.slice a L.length c, .slice d M.length cd, o.val] w (BoolTold (16 ≤ o.piece ∧ o.piece ≤ 512) w) := by
  have H1 := Lib.hid (fun w' (h : Ext w w') => checkOD o w' hS (hR.ext h))
  have H2 := Lib.hid (fun w' (h : Ext w w') => fitsTD a L c w' hL (hA.ext h))
  have H3 := Lib.hid (fun w' (h : Ext w w') => checkTD d M cd w' hM (hD.ext h))
  have H4 := Lib.hid (fun w' (h : Ext w w') => shownD_any d M cd w' hM (hD.ext h))
  have H5 : Hid (SmallL (shownF M)) := Lib.hid (hM.filter _)
  have HO := Lib.hid (fun w2 r hr h => opt_new (w := w) (w2 := w2) o (r := r) hr h)
  clear hR hS hA hD hL hM
  unfold OptV.val at *
  obtain ⟨r, hr⟩ : ∃ r, o.rs.length = r := ⟨_, rfl⟩
  rw [hr] at H1 ⊢
  have HO := Lib.hid (fun w2 h => HO.out w2 r hr h)
  clear hr
  obtain ⟨n, hn⟩ : ∃ n, L.length = n := ⟨_, rfl⟩
  obtain ⟨m, hm⟩ : ∃ m, M.length = m := ⟨_, rfl⟩
  rw [hn] at H2 ⊢
  rw [hm] at H3 H4 ⊢
  clear hn hm
  have hE0 := (Ext.refl w).alloc (.cells #[.bool o.del, .bool o.dry, .bool o.trust, .slice o.ra r o.rc, .int .i64 o.block, .int .i64 o.piece] 25)
  have HE0 := Lib.hid hE0; clear hE0
  go_enter Tryz.func26, Tryz.ntmps26
  go_wp2_with fail
  refine (H1.out _ HE0.out).mono ?_
  rintro e w1 ⟨z, rfl, hg, hE1⟩
  have HE1 := Lib.hid (Ext.trans HE0.out hE1); clear hE1
  by_cases hz : z = 0
  · have hz1 : (z == 0) = true := by rw [hz]; rfl
    have HG := Lib.hid (hg hz)
    clear hz hg
    go_wp2_with fail
    refine (H2.out _ HE1.out).mono ?_
    rintro e w2 ⟨z2, rfl, -, hE2⟩
    have HE2 := Lib.hid (Ext.trans HE1.out hE2); clear hE2
    by_cases hz : z2 = 0
    · have hz2 : (z2 == 0) = true := by rw [hz]; rfl
      clear hz
      go_wp2_with fail
      refine (H3.out _ HE2.out).mono ?_
      rintro e w3 ⟨z3, rfl, -, hE3⟩
      have HE3 := Lib.hid (Ext.trans HE2.out hE3); clear hE3
      by_cases hz : z3 = 0
      · have hz3 : (z3 == 0) = true := by rw [hz]; rfl
        clear hz
        go_wp2_with fail
        refine (H4.out _ HE3.out).mono ?_
        rintro e w4 ⟨a4, c4, rfl, hE4, hA4, hc4⟩
        have HE4 := Lib.hid (Ext.trans HE3.out hE4); clear hE4
        have H6 := Lib.hid (fitsTD a4 (shownF M) c4 w4 H5.out hA4)
        clear hA4 hc4
        obtain ⟨q, hq⟩ : ∃ q, (shownF M).length = q := ⟨_, rfl⟩
        rw [hq] at H6 ⊢
        clear hq
        go_wp2_with fail
        refine H6.out.mono ?_
        rintro e w5 ⟨z5, rfl, -, hE5⟩
        have HE5 := Lib.hid (Ext.trans HE4.out hE5); clear hE5
        go_wp2
        go_ret
        exact bool_told (fun _ => HG.out) HE5.out
      · have hz3 : (z3 == 0) = false := beq_eq_false_iff_ne.2 hz
        clear hz
        go_wp2
        go_ret
        exact bool_told (fun h => by cases h) HE3.out
    · have hz2 : (z2 == 0) = false := beq_eq_false_iff_ne.2 hz
      clear hz
      go_wp2
      go_ret
      exact bool_told (fun h => by cases h) HE2.out
  · have hz1 : (z == 0) = false := beq_eq_false_iff_ne.2 hz
    clear hz
    go_wp2
    go_ret
    exact bool_told (fun h => by cases h) HE1.out
end Go.Proofs.YtiopahkigbdmcaaGreat
/- Whether a setup can be tried (layer 37), the laws' side: the walk. -/
namespace Go.Proofs.YtiopahkigbdmcaaGreat
open Go Go.Proofs Go.RowKit

/-- A setup. -/
structure SetV where
  sa : Option Addr
  S : List NodeV
  sc : Nat
  da : Option Addr
  D : List NodeV
  dc : Nat
  o : OptV
  qn : Int
  qb : Int
def SetV.val (x : SetV) : Value := .agg #[.slice x.sa x.S.length x.sc, .slice x.da x.D.length x.dc, .bool x.o.del, .bool x.o.dry, .bool x.o.trust, .slice x.o.ra x.o.rs.length x.o.rc, .int .i64 x.o.block, .int .i64 x.o.piece, .int .i64 x.qn, .int .i64 x.qb]
def setObj (sa : Option Addr) (n sc : Nat) (da : Option Addr) (m dc : Nat) (del dry trust : Bool) (ra : Option Addr) (r rc : Nat) (block piece qn qb : Int) : Obj :=
  .cells #[.slice sa n sc, .slice da m dc, .bool del, .bool dry, .bool trust, .slice ra r rc, .int .i64 block, .int .i64 piece, .int .i64 qn, .int .i64 qb] 29
def SetupAt (w : World) (x : SetV) : Prop := NodesAt w x.sa x.S ∧ NodesAt w x.da x.D ∧ RulesAt w x.o.ra x.o.rs
theorem SetupAt.ext {w w' : World} {x : SetV} (h : SetupAt w x) (hE : Ext w w') : SetupAt w' x := ⟨h.1.ext hE, h.2.1.ext hE, h.2.2.ext hE⟩
def triedG (x : SetV) : Prop := (TinyL x.S ∧ TinyL x.D ∧ TinyR x.o.rs) ∧ 16 ≤ x.o.piece ∧ x.o.piece ≤ 512
set_option maxHeartbeats 2000000 in
set_option maxRecDepth 100000 in
theorem tried_any (x : SetV) (w : World) (hA : SetupAt w x) : Calls Tryz.prog 7 #[x.val] w (BoolTold (triedG x) w) := by
  obtain ⟨sa, S, sc, da, D, dc, ⟨del, dry, trust, ra, rs, rc, block, piece⟩, qn, qb⟩ := x
  obtain ⟨hS, hD, hR⟩ := hA
  simp only at hS hD hR
  have HTi := Lib.hid (fun w' (h : Ext w w') => tinyAll sa da S D sc dc ⟨del, dry, trust, ra, rs, rc, block, piece⟩ w' (hS.ext h) (hD.ext h) (hR.ext h))
  have HMem := Lib.hid (And.intro hS (And.intro hD hR)); clear hS hD hR
  unfold triedG SetV.val OptV.val at *
  simp only at HTi ⊢
  obtain ⟨n, hn⟩ : ∃ n, S.length = n := ⟨_, rfl⟩
  obtain ⟨m, hm⟩ : ∃ m, D.length = m := ⟨_, rfl⟩
  obtain ⟨r, hr⟩ : ∃ r, rs.length = r := ⟨_, rfl⟩
  rw [hn, hm, hr] at HTi ⊢
  have HN := Lib.hid (And.intro hn (And.intro hm hr)); clear hn hm hr
  go_enter Tryz.func7, Tryz.ntmps7
  go_wp2
  have hE0 : Ext w (w.alloc (setObj sa n sc da m dc del dry trust ra r rc block piece qn qb)).drew := ((Ext.refl w).alloc _).drew
  have HE0 := Lib.hid hE0; clear hE0
  have hBlk : (w.alloc (setObj sa n sc da m dc del dry trust ra r rc block piece qn qb)).drew.heap[w.heap.size]? = some (setObj sa n sc da m dc del dry trust ra r rc block piece qn qb) := blk_drew (heap_new w _)
  have HB0 := Lib.hid hBlk; clear hBlk
  refine wp_draw_stages 21 18 [false, false, false, false, false, false, false, false, false, false, false, false, false, false, false, false, false, true] [([true, true, true, true, true, true], 6), ([false, false, false, false, false, false, false, true, true, true, false, true, true, false, true, true], 10), ([], 13), ([], 16)] Ext Ext.refl (fun _ _ _ => Ext.trans) (by kernel_rfl) (by kernel_rfl) ?_
  apply wpStages_cons (by simp)
  · intro w1 hw1
    simp only [sel_true, sel_nil]
    have hc := hw1.cellsOf (blk_drew (heap_new w _))
    repeat ((with_reducible refine wpStill_step (fun K hK => ?_)); go_simp; refine hK _ ?_; clear hK K)
    exact wpStill_nil rfl
  try simp only [List.getD_cons_succ, List.getD_cons_zero]
  go_wp2_with (go_at_call 25; refine (HTi.out _ HE0.out).mono ?_; rintro e w2 ⟨b, rfl, hb, hE2⟩)
  refine ⟨hE2, ?_⟩
  have HE2 := Lib.hid (Ext.trans HE0.out hE2)
  have HB2 := Lib.hid (hE2.block HB0.out); clear hE2
  have HG := Lib.hid hb; clear hb
  cases b
  · apply wpStages_cons (by simp)
    · intro w1 hw1
      simp only [sel_true, sel_false, sel_nil]
      repeat ((with_reducible refine wpStill_step (fun K hK => ?_)); go_simp; refine hK _ ?_; clear hK K)
      exact wpStill_nil rfl
    try simp only [List.getD_cons_succ, List.getD_cons_zero]
    go_wp2_with fail
    refine ⟨Ext.refl _, ?_⟩
    apply wpStages_cons (by simp)
    · intro w1 hw1
      simp only [sel_nil]
      repeat ((with_reducible refine wpStill_step (fun K hK => ?_)); go_simp; refine hK _ ?_; clear hK K)
      exact wpStill_nil rfl
    try simp only [List.getD_cons_succ, List.getD_cons_zero]
    go_wp2_with fail
    refine ⟨Ext.refl _, ?_⟩
    apply wpStages_cons (by simp)
    · intro w1 hw1
      simp only [sel_nil]
      repeat ((with_reducible refine wpStill_step (fun K hK => ?_)); go_simp; refine hK _ ?_; clear hK K)
      exact wpStill_nil rfl
    try simp only [List.getD_cons_succ, List.getD_cons_zero]
    go_wp2_with fail
    refine ⟨Ext.refl _, ?_⟩
    refine wpStages_nil ?_
    simp only [sel_true, sel_false, sel_nil]
    repeat ((with_reducible refine wpStill_step (fun K hK => ?_)); go_simp; refine hK _ ?_; clear hK K)
    refine wpStill_nil ?_
    try simp only [List.drop_succ_cons, List.drop_zero]
    go_wp2
    go_ret
    exact bool_told (fun h => by cases h) HE2.out
  · have hG := HG.out rfl
    have HOs := Lib.hid (fun w' (h : Ext w w') => ofD_any sa S sc w' hG.1.small (HMem.out.1.ext h))
    have HOd := Lib.hid (fun w' (h : Ext w w') => ofD_any da D dc w' hG.2.1.small (HMem.out.2.1.ext h))
    rw [HN.out.1] at HOs
    rw [HN.out.2.1] at HOd
    have HSm := Lib.hid (And.intro hG.1.small (And.intro hG.2.1.small hG.2.2.short)); clear hG
    apply wpStages_cons (by simp)
    · intro w1 hw1
      simp only [sel_true, sel_false, sel_nil]
      have hc := hw1.cellsOf HB2.out
      repeat ((with_reducible refine wpStill_step (fun K hK => ?_)); go_simp; refine hK _ ?_; clear hK K)
      exact wpStill_nil rfl
    try simp only [List.getD_cons_succ, List.getD_cons_zero]
    go_wp2_with (go_at_call 9; refine (HOs.out _ HE2.out).mono ?_; rintro e w3 ⟨R, ⟨a3, c3, rfl, hE3, hA3, hc3⟩, hRl, hRm⟩)
    refine ⟨hE3, ?_⟩
    have HE3 := Lib.hid (Ext.trans HE2.out hE3)
    have HB3 := Lib.hid (hE3.block HB2.out); clear hE3
    have HR := Lib.hid (And.intro hA3 (HSm.out.1.sub hRl (fun x hx => (hRm x hx).1))); clear hA3 hc3 hRl hRm
    apply wpStages_cons (by simp)
    · intro w1 hw1
      simp only [sel_nil]
      have hc := hw1.cellsOf HB3.out
      repeat ((with_reducible refine wpStill_step (fun K hK => ?_)); go_simp; refine hK _ ?_; clear hK K)
      exact wpStill_nil rfl
    try simp only [List.getD_cons_succ, List.getD_cons_zero]
    go_wp2_with (go_at_call 9; refine (HOd.out _ HE3.out).mono ?_; rintro e w4 ⟨R4, ⟨a4, c4, rfl, hE4, hA4, hc4⟩, hRl, hRm⟩)
    refine ⟨hE4, ?_⟩
    have HE4 := Lib.hid (Ext.trans HE3.out hE4)
    have HB4 := Lib.hid (hE4.block HB3.out)
    have HR4 := Lib.hid (And.intro hA4 (HSm.out.2.1.sub hRl (fun x hx => (hRm x hx).1)))
    have HR := Lib.hid (And.intro (HR.out.1.ext hE4) HR.out.2); clear hE4 hA4 hc4 hRl hRm
    have HFi := Lib.hid (fitsAllD a3 a4 R R4 c3 c4 ⟨del, dry, trust, ra, rs, rc, block, piece⟩ w4 HR.out.2 HR4.out.2 HSm.out.2.2 HR.out.1 HR4.out.1 (HMem.out.2.2.ext HE4.out))
    unfold OptV.val at HFi
    simp only at HFi
    obtain ⟨q, hq⟩ : ∃ q, R.length = q := ⟨_, rfl⟩
    obtain ⟨q4, hq4⟩ : ∃ q, R4.length = q := ⟨_, rfl⟩
    rw [hq, hq4, HN.out.2.2] at HFi
    rw [hq, hq4]
    clear hq hq4
    apply wpStages_cons (by simp)
    · intro w1 hw1
      simp only [sel_nil]
      have hc := hw1.cellsOf HB4.out
      repeat ((with_reducible refine wpStill_step (fun K hK => ?_)); go_simp; refine hK _ ?_; clear hK K)
      exact wpStill_nil rfl
    try simp only [List.getD_cons_succ, List.getD_cons_zero]
    go_wp2_with (go_at_call 26; refine (HFi.out).mono ?_; rintro e w5 ⟨b5, rfl, hb5, hE5⟩)
    refine ⟨hE5, ?_⟩
    have HE5 := Lib.hid (Ext.trans HE4.out hE5)
    have HB5 := Lib.hid (hE5.block HB4.out); clear hE5
    have hc := (Ext.refl w5).cellsOf HB5.out
    have H5 := Lib.hid hb5; clear hb5
    refine wpStages_nil ?_
    simp only [sel_true, sel_false, sel_nil]
    repeat ((with_reducible refine wpStill_step (fun K hK => ?_)); go_simp; refine hK _ ?_; clear hK K)
    refine wpStill_nil ?_
    try simp only [List.drop_succ_cons, List.drop_zero]
    go_wp2
    go_ret
    exact bool_told (fun h => ⟨HG.out (by simp), H5.out h⟩) HE5.out
end Go.Proofs.YtiopahkigbdmcaaGreat
