/- The document's patterns (layer 2): how they are read: the walk. -/
import Derived.Test.YtiopahkigbdmcaaGreatMb
import Derived.Deep.OwnRows
import Derived.RangeFuncNested
import Derived.RangeFuncBound
import Derived.RangeFuncCalls
import Derived.RangeFuncLeaves
import Derived.OwnWalkIn
import Derived.TacticsInMore
import Derived.LoopNIn
import Derived.LoopIn
namespace Go.Proofs.YtiopahkigbdmcaaGreat
open Go Go.Proofs Go.RowKit

/-- A part as it lies in memory. -/
structure RPart where
  many : Int
  a : Option Addr
  l : List Int
  c : Nat
  not : Bool
  any : Bool
/-- The cells of a part. -/
def RPart.cells (r : RPart) : List Value := [.int .i64 r.many, .slice r.a r.l.length r.c, .bool r.not, .bool r.any]
/-- A part in memory is this one. -/
def PartIs (w : World) (r : RPart) (g : GPart) : Prop := Bytes w r.a r.l ∧ r.l.length ≤ 100000 ∧ ((r.many = 0 ∧ g = ⟨false, oneSet r.l r.not r.any⟩) ∨ (r.many = 1 ∧ g = ⟨true, fun x => x != 47⟩) ∨ (r.many = 2 ∧ g = ⟨true, fun _ => true⟩))
theorem PartIs.ext {w w' : World} {r : RPart} {g : GPart} (h : PartIs w r g) (hE : Ext w w') : PartIs w' r g := ⟨h.1.ext hE, h.2⟩
theorem Bytes.grown {w w' : World} {a : Option Addr} {l : List Int} {base n size : Nat} {v : Value} {xs : List Value} (h : Bytes w a l) (ho : w.ownsRow base 165 size v n xs) (hg : w.grownBy w' v.ownBlock) : Bytes w' a l := by
  rcases h with h | ⟨b, off, cs, ha, hb, hall⟩
  · exact Or.inl h
  · refine Or.inr ⟨b, off, cs, ha, (hg.block b (blk_lt hb) (fun e => ?_)).trans hb, hall⟩
    obtain ⟨_, ⟨rfl, _⟩ | ⟨g, cap, cur, hv, _, hbl, _⟩⟩ := ho
    · cases e
    · subst hv
      have e' : some b = some g := e
      cases e'
      rw [hb] at hbl
      cases hbl
/-- All the parts of a text, or none. -/
def allF (l : List Int) : Option (List GPart) := partsF (l.length + 1) l
theorem own_ext {x y : World} {base n size : Nat} {e : TypeId} {v : Value} {xs : List Value} (h : x.ownsRow base e size v n xs) (hE : Ext x y) : y.ownsRow base e size v n xs := by
  obtain ⟨h0, h1 | ⟨g, cap, cur, hv, hg, hbl, rest⟩⟩ := h
  · exact ⟨h0, .inl h1⟩
  · exact ⟨h0, .inr ⟨g, cap, cur, hv, hg, hE.block hbl, rest⟩⟩
/-- The parts that are read, and what is still to be read. -/
def ParseInv (w0 : World) (s : ByteArray) (at_ : Nat) (v : Value) (w : World) : Prop :=
  ∃ (rg : List (RPart × GPart)) (f : Nat), w.ownsRow w0.heap.size 165 4 v rg.length (rg.flatMap (·.1.cells)) ∧ Ext w0 w ∧ (∀ x ∈ rg, PartIs w x.1 x.2) ∧
    allF (txt s) = (partsF f ((txt s).drop at_)).map (rg.map (·.2) ++ ·) ∧ s.size - at_ < f ∧ rg.length ≤ at_
theorem partsF_cons (f : Nat) (c : Int) (r : List Int) : partsF (f + 1) (c :: r) = match oneF (c :: r) with | none => none | some (p, rest) => (partsF f rest).map (p :: ·) := rfl
theorem ParseInv.next {w0 wr wa w1 : World} {s : ByteArray} {at_ at' f : Nat} {rg : List (RPart × GPart)} {v v' : Value} {r : RPart} {g : GPart}
    (hE : Ext w0 wr) (hall : ∀ x ∈ rg, PartIs wr x.1 x.2) (hpf : allF (txt s) = (partsF f ((txt s).drop at_)).map (rg.map (·.2) ++ ·)) (hf : s.size - at_ < f) (hlen : rg.length ≤ at_)
    (hEa : Ext wr wa) (hownA : wa.ownsRow w0.heap.size 165 4 v rg.length (rg.flatMap (·.1.cells))) (hr : PartIs wa r g) (hg : wa.grownBy w1 v.ownBlock)
    (hown' : w1.ownsRow w0.heap.size 165 4 v' (rg.length + 1) (rg.flatMap (·.1.cells) ++ r.cells)) (hone : oneF ((txt s).drop at_) = some (g, (txt s).drop at')) (hat : at_ < at') (hlt : at_ < s.size) :
    ParseInv w0 s at' v' w1 := by
  obtain ⟨f', rfl⟩ : ∃ f', f = f' + 1 := ⟨f - 1, by omega⟩
  have hkeep : ∀ x y, PartIs wa x y → PartIs w1 x y := fun x y h => ⟨h.1.grown hownA hg, h.2⟩
  refine ⟨rg ++ [(r, g)], f', ?_, ?_, ?_, ?_, by omega, by simp; omega⟩
  · rw [List.length_append, List.length_singleton, List.flatMap_append, List.flatMap_cons, List.flatMap_nil, List.append_nil]
    exact hown'
  · exact Below.trans (Below.trans hE (Below.mono hEa hE.size)) (grown_below hg (fun k hk => (hownA.lt k hk).1) (Nat.le_trans hE.size hEa.size))
  · intro x hx
    rw [List.mem_append, List.mem_singleton] at hx
    rcases hx with hx | rfl
    · exact hkeep _ _ ((hall x hx).ext hEa)
    · exact hkeep _ _ hr
  · rw [hpf, List.drop_eq_getElem_cons (by rw [txt_len]; exact hlt), partsF_cons, ← List.drop_eq_getElem_cons, hone]
    simp only [Option.map_map, List.map_append, List.map_cons, List.map_nil]
    congr 1
    funext x
    simp
theorem ParseInv.stop {w0 w : World} {s : ByteArray} {v : Value} (h : ParseInv w0 s s.size v w) :
    ∃ rg : List (RPart × GPart), w.ownsRow w0.heap.size 165 4 v rg.length (rg.flatMap (·.1.cells)) ∧ Ext w0 w ∧ (∀ x ∈ rg, PartIs w x.1 x.2) ∧ allF (txt s) = some (rg.map (·.2)) ∧ rg.length ≤ s.size := by
  obtain ⟨rg, f, h1, h2, h3, h4, h5, h6⟩ := h
  refine ⟨rg, h1, h2, h3, ?_, h6⟩
  obtain ⟨f', rfl⟩ : ∃ f', f = f' + 1 := ⟨f - 1, by omega⟩
  rw [h4, List.drop_eq_nil_of_le (by rw [txt_len]; exact Nat.le_refl _)]
  simp [partsF]
theorem cells_new (w : World) (xs : List Value) (T : TypeId) : ∀ j u, xs[j]? = some u → (w.alloc (.cells xs.toArray T)).cell? ((⟨w.heap.size, 0, none⟩ : Addr).add j) = some u := fun j u h => by
  have h1 : (w.alloc (.cells xs.toArray T)).cell? ⟨w.heap.size, j, none⟩ = some u := blk_cell (heap_new w _) (by simpa using h)
  have h2 : (⟨w.heap.size, 0, none⟩ : Addr).add j = ⟨w.heap.size, j, none⟩ := by
    cases j <;> simp [Addr.add]
  rw [h2]
  exact h1

theorem cells_at {n : Nat} (w : World) (xs : List Value) (T : TypeId) (hn : n = w.heap.size) : ∀ j u, xs[j]? = some u → (w.alloc (.cells xs.toArray T)).cell? ((⟨n, 0, none⟩ : Addr).add j) = some u := by
  subst hn
  exact cells_new w xs T
theorem flat_at : ∀ (rg : List (RPart × GPart)) (i j : Nat) (hi : i < rg.length), j < 4 → (rg.flatMap (·.1.cells))[i * 4 + j]? = rg[i].1.cells[j]?
  | x :: rg, 0, j, _, hj => by
    rw [List.flatMap_cons, Nat.zero_mul, Nat.zero_add, List.getElem?_append_left (by simpa [RPart.cells] using hj)]
    rfl
  | x :: rg, i + 1, j, hi, hj => by
    rw [List.flatMap_cons, List.getElem?_append_right (by simp [RPart.cells]; omega)]
    have : (i + 1) * 4 + j - x.1.cells.length = i * 4 + j := by simp [RPart.cells]; omega
    rw [this, flat_at rg i j (by simpa using hi) hj]
    rfl
/-- The parts of a pattern in memory. -/
def PartsAt (w : World) (a : Option Addr) (gs : List GPart) : Prop :=
  gs = [] ∨ ∃ b off cs, a = some ⟨b, off, none⟩ ∧ w.heap[b]? = some (.cells cs 165 (0, 0)) ∧ ∀ i (h : i < gs.length), ∃ r, PartIs w r gs[i] ∧ ∀ j v, r.cells[j]? = some v → cs[off + i * 4 + j]? = some v
/-- What a pattern is read as. -/
def ParseTold (s : ByteArray) (w : World) (e : Ending) (w' : World) : Prop := ∃ a n c code, e = .returned (.tuple #[.slice a n c, .int .i64 code]) ∧ Ext w w' ∧
  match (if s.size > 64 then none else allF (txt s)) with
  | none => code ≠ 0
  | some gs => code = 0 ∧ n = gs.length ∧ n ≤ s.size ∧ PartsAt w' a gs
theorem parts_at {w : World} {base n : Nat} {a : Option Addr} {c : Nat} {rg : List (RPart × GPart)} (h : w.ownsRow base 165 4 (.slice a n c) rg.length (rg.flatMap (·.1.cells))) (hall : ∀ x ∈ rg, PartIs w x.1 x.2) :
    n = rg.length ∧ PartsAt w a (rg.map (·.2)) := by
  obtain ⟨_, ⟨hv, h0⟩ | ⟨g, cap, cur, hv, hg, hb, _, _, _, hx⟩⟩ := h
  · simp only [Value.slice.injEq] at hv
    exact ⟨by rw [hv.2.1, h0], Or.inl (by rw [List.eq_nil_of_length_eq_zero h0]; rfl)⟩
  · simp only [Value.slice.injEq] at hv
    obtain ⟨rfl, rfl, rfl⟩ := hv
    refine ⟨rfl, Or.inr ⟨g, 0, cur, rfl, hb, fun i hi => ?_⟩⟩
    rw [List.length_map] at hi
    refine ⟨rg[i].1, by rw [List.getElem_map]; exact hall _ (List.getElem_mem hi), fun j v hj => ?_⟩
    have hj4 : j < 4 := by
      have := (List.getElem?_eq_some_iff.1 hj).1
      simpa [RPart.cells] using this
    rw [Nat.zero_add, ← Array.getElem?_toList]
    have e : (cur.toList.take (rg.length * 4))[i * 4 + j]? = (rg.flatMap (·.1.cells))[i * 4 + j]? := by rw [hx]
    rw [List.getElem?_take_of_lt (by omega)] at e
    rw [e, flat_at rg i j hi hj4]
    exact hj
theorem one_at {y : Int} {j : Nat} (h : j < [y].length) : #[Value.int .u8 y][0 + j]? = some (.int .u8 ([y][j]'h)) := by
  obtain rfl : j = 0 := by simpa using h
  rfl
theorem parse_bad {s : ByteArray} {k f : Nat} {pre : List GPart} (hpf : allF (txt s) = (partsF f ((txt s).drop k)).map (pre ++ ·)) (hf : s.size - k < f) (ho : oneF ((txt s).drop k) = none) (hlt : k < s.size) : allF (txt s) = none := by
  obtain ⟨f', rfl⟩ : ∃ f', f = f' + 1 := ⟨f - 1, by omega⟩
  rw [hpf, List.drop_eq_getElem_cons (by rw [txt_len]; exact hlt), partsF_cons, ← List.drop_eq_getElem_cons, ho]
  rfl
theorem oneF_eq (c : Int) (r : List Int) : oneF (c :: r) = if c = 42 then (if r.head? = some 42 then some (⟨true, fun _ => true⟩, r.tail) else some (⟨true, fun x => x != 47⟩, r))
      else if c = 63 then some (⟨false, fun x => x != 47⟩, r)
      else if c = 91 then (memF r).map fun x => (⟨false, x.1⟩, x.2)
      else if c = 92 then (match r with | [] => none | d :: r' => some (⟨false, fun x => x == d⟩, r'))
      else some (⟨false, fun x => x == c⟩, r) := rfl
theorem mem_case {s : ByteArray} {k : Nat} {ml : List Int} {mnot : Bool} {z : Int} (hlt : k < s.size) (hc : ((s[k].toNat : Nat) : Int) = 91) (hdrop : (txt s).drop k = (s[k].toNat : Int) :: (txt s).drop (k + 1))
    (h : match memF ((txt s).drop (k + 1)) with
      | none => z = -1
      | some (S, rest) => ∃ nx : Nat, z = nx ∧ k + 1 < nx ∧ nx ≤ s.size ∧ rest = (txt s).drop nx ∧ ∀ c, oneSet ml mnot false c = S c) :
    (z < 0 ∧ oneF ((txt s).drop k) = none) ∨ ∃ nx : Nat, z = nx ∧ k + 1 < nx ∧ nx ≤ s.size ∧ oneF ((txt s).drop k) = some (⟨false, oneSet ml mnot false⟩, (txt s).drop nx) := by
  rw [hdrop, oneF_eq, hc, if_neg (by decide), if_neg (by decide), if_pos rfl]
  cases hm : memF ((txt s).drop (k + 1)) with
  | none =>
    rw [hm] at h
    exact Or.inl ⟨by simp only at h; omega, rfl⟩
  | some x =>
    obtain ⟨S, rest⟩ := x
    rw [hm] at h
    obtain ⟨nx, h1, h2, h3, rfl, h5⟩ := h
    refine Or.inr ⟨nx, h1, h2, h3, ?_⟩
    have : oneSet ml mnot false = S := funext h5
    rw [this]
    rfl
theorem oneSet_one (d : Int) : oneSet [d] false false = fun x => x == d := by
  funext x
  simp only [oneSet, hasI, List.contains_cons, List.contains_nil, Bool.or_false, if_false, Bool.false_eq_true]

set_option maxHeartbeats 4000000 in
set_option maxRecDepth 100000 in
theorem parse_any (s : ByteArray) (w : World) :
    Calls Tryz.prog 100 #[.string s] w (ParseTold s w) := by
  obtain ⟨i0, hi, hz0, hz1, hz2⟩ := info_parts (P := Tryz.prog) (e := 165) (z := .agg #[.int .i64 0, .slice none 0 0, .bool false, .bool false]) (size := 4) (bytes := 40) (by kernel_rfl)
  have HI := Lib.hid hi; clear hi
  by_cases hs : 64 < s.size
  · go_enter Tryz.func100, Tryz.ntmps100
    go_wp2
    go_ret2
    exact ⟨none, 0, 0, 5, rfl, Ext.refl w, by rw [if_pos hs]; exact fun h => by cases h⟩
  · have hs' : s.size ≤ 64 := by omega
    go_enter Tryz.func100, Tryz.ntmps100
    go_wp2
    go_loopw [4, 5] (fun v i w' => ∃ k : Nat, k ≤ s.size ∧ i = .int .i64 k ∧ ParseInv w s k v w') (fun _ i _ => s.size - (intOf i).toNat)
    case atStart => exact ⟨0, Nat.zero_le _, rfl, [], (txt s).length + 1, World.ownsRow_nil _ _ _ _, Ext.refl w, fun x hx => by simp at hx, by simp [allF], by rw [txt_len]; omega, Nat.zero_le _⟩
    case round =>
      obtain ⟨k, hk, rfl, hinv⟩ := hrel
      by_cases hlt : k < s.size
      · obtain ⟨rg, f, hown, hE, hall, hpf, hf, hlen⟩ := hinv
        obtain ⟨va, vc, rfl⟩ := owns_slice hown
        have HOWN := Lib.hid hown; clear hown
        have HE := Lib.hid hE; clear hE
        have HALL := Lib.hid hall; clear hall
        have HPF := Lib.hid hpf; clear hpf
        have hdrop : Hid ((txt s).drop k = (s[k].toNat : Int) :: (txt s).drop (k + 1)) := Lib.hid (by rw [List.drop_eq_getElem_cons (by rw [txt_len]; exact hlt), txt_at s k hlt])
        have wr1 : IntKind.i64.wrap ((k : Int) + 1) = (k : Int) + 1 := IntWalk.i64_in _ (by omega)
        have wr2 : IntKind.i64.wrap ((k : Int) + 2) = (k : Int) + 2 := IntWalk.i64_in _ (by omega)
        by_cases h42 : ((s[k].toNat : Nat) : Int) = 42
        · have g42 : ((((s[k].toNat : Nat) : Int) == 42) = true) := by rw [h42]; rfl
          have H42 := Lib.hid h42; clear h42
          by_cases h2 : k + 1 < s.size
          · have d1 : (txt s).drop (k + 1) = ((s[k + 1].toNat : Nat) : Int) :: (txt s).drop (k + 2) := by rw [List.drop_eq_getElem_cons (by rw [txt_len]; omega), txt_at s (k + 1) (by omega)]
            by_cases h43 : ((s[k + 1].toNat : Nat) : Int) = 42
            · have g43 : ((((s[k + 1].toNat : Nat) : Int) == 42) = true) := by rw [h43]; rfl
              have HO : Hid (oneF ((txt s).drop k) = some (⟨true, fun _ => true⟩, (txt s).drop (k + 2))) := Lib.hid (by rw [hdrop.out, d1, oneF_eq, if_pos H42.out, if_pos (by rw [h43]; rfl)]; rfl)
              clear d1 h43
              go_wp2_with (at_builtin; refine wpList_append_own _ rfl _ _ 139 rfl w.heap.size 165 i0 (.agg #[.int .i64 0, .slice none 0 0, .bool false, .bool false]) 4 40 (by kernel_rfl) HI.out hz0 hz1 hz2 rfl (by decide) _ _ _ rfl (HOWN.out.alloc _) ⟨_, 0, none⟩ 1 1 (RPart.cells ⟨2, none, [], 0, false, false⟩) rfl rfl (cells_at _ _ _ (by simp)) (fun x hx => by simp [RPart.cells] at hx; rcases hx with rfl | rfl | rfl | rfl <;> rfl) (by unfold maxLen; omega) (by omega) (by have := HE.out.size; simp; omega) ?_; intro v' w1 hown' hgrow' _; obtain ⟨va', vc', rfl⟩ := owns_slice hown')
              go_roundw
              case rel => exact ⟨k + 2, by omega, by go_num, ParseInv.next HE.out HALL.out HPF.out hf hlen ((Ext.refl wr).alloc _) (HOWN.out.alloc _) ⟨Or.inl rfl, Nat.zero_le _, Or.inr (Or.inr ⟨rfl, rfl⟩)⟩ hgrow' hown' HO.out (by omega) hlt⟩
              case measure => simp [intOf]; omega
            · have g43 : ((((s[k + 1].toNat : Nat) : Int) == 42) = false) := by simp [h43]
              have HO : Hid (oneF ((txt s).drop k) = some (⟨true, fun x => x != 47⟩, (txt s).drop (k + 1))) := Lib.hid (by rw [hdrop.out, d1, oneF_eq, if_pos H42.out, if_neg (by simpa using h43)])
              clear d1 h43
              go_wp2_with (at_builtin; refine wpList_append_own _ rfl _ _ 139 rfl w.heap.size 165 i0 (.agg #[.int .i64 0, .slice none 0 0, .bool false, .bool false]) 4 40 (by kernel_rfl) HI.out hz0 hz1 hz2 rfl (by decide) _ _ _ rfl (HOWN.out.alloc _) ⟨_, 0, none⟩ 1 1 (RPart.cells ⟨1, none, [], 0, false, false⟩) rfl rfl (cells_at _ _ _ (by simp)) (fun x hx => by simp [RPart.cells] at hx; rcases hx with rfl | rfl | rfl | rfl <;> rfl) (by unfold maxLen; omega) (by omega) (by have := HE.out.size; simp; omega) ?_; intro v' w1 hown' hgrow' _; obtain ⟨va', vc', rfl⟩ := owns_slice hown')
              go_roundw
              case rel => exact ⟨k + 1, by omega, by go_num, ParseInv.next HE.out HALL.out HPF.out hf hlen ((Ext.refl wr).alloc _) (HOWN.out.alloc _) ⟨Or.inl rfl, Nat.zero_le _, Or.inr (Or.inl ⟨rfl, rfl⟩)⟩ hgrow' hown' HO.out (by omega) hlt⟩
              case measure => simp [intOf]; omega
          · have d1 : (txt s).drop (k + 1) = [] := List.drop_eq_nil_of_le (by rw [txt_len]; omega)
            have HO : Hid (oneF ((txt s).drop k) = some (⟨true, fun x => x != 47⟩, (txt s).drop (k + 1))) := Lib.hid (by rw [hdrop.out, d1, oneF_eq, if_pos H42.out, if_neg (by simp)])
            clear d1
            go_wp2_with (at_builtin; refine wpList_append_own _ rfl _ _ 139 rfl w.heap.size 165 i0 (.agg #[.int .i64 0, .slice none 0 0, .bool false, .bool false]) 4 40 (by kernel_rfl) HI.out hz0 hz1 hz2 rfl (by decide) _ _ _ rfl (HOWN.out.alloc _) ⟨_, 0, none⟩ 1 1 (RPart.cells ⟨1, none, [], 0, false, false⟩) rfl rfl (cells_at _ _ _ (by simp)) (fun x hx => by simp [RPart.cells] at hx; rcases hx with rfl | rfl | rfl | rfl <;> rfl) (by unfold maxLen; omega) (by omega) (by have := HE.out.size; simp; omega) ?_; intro v' w1 hown' hgrow' _; obtain ⟨va', vc', rfl⟩ := owns_slice hown')
            go_roundw
            case rel => exact ⟨k + 1, by omega, by go_num, ParseInv.next HE.out HALL.out HPF.out hf hlen ((Ext.refl wr).alloc _) (HOWN.out.alloc _) ⟨Or.inl rfl, Nat.zero_le _, Or.inr (Or.inl ⟨rfl, rfl⟩)⟩ hgrow' hown' HO.out (by omega) hlt⟩
            case measure => simp [intOf]; omega
        · have g42 : ((((s[k].toNat : Nat) : Int) == 42) = false) := by simp [h42]
          have H42 := Lib.hid h42; clear h42
          by_cases h63 : ((s[k].toNat : Nat) : Int) = 63
          · have g63 : ((((s[k].toNat : Nat) : Int) == 63) = true) := by rw [h63]; rfl
            have HO : Hid (oneF ((txt s).drop k) = some (⟨false, fun x => x != 47⟩, (txt s).drop (k + 1))) := Lib.hid (by rw [hdrop.out, oneF_eq, if_neg H42.out, if_pos h63])
            clear h63
            go_wp2_with (at_builtin; refine wpList_append_own _ rfl _ _ 139 rfl w.heap.size 165 i0 (.agg #[.int .i64 0, .slice none 0 0, .bool false, .bool false]) 4 40 (by kernel_rfl) HI.out hz0 hz1 hz2 rfl (by decide) _ _ _ rfl (HOWN.out.alloc _) ⟨_, 0, none⟩ 1 1 (RPart.cells ⟨0, none, [], 0, false, true⟩) rfl rfl (cells_at _ _ _ (by simp)) (fun x hx => by simp [RPart.cells] at hx; rcases hx with rfl | rfl | rfl | rfl <;> rfl) (by unfold maxLen; omega) (by omega) (by have := HE.out.size; simp; omega) ?_; intro v' w1 hown' hgrow' _; obtain ⟨va', vc', rfl⟩ := owns_slice hown')
            go_roundw
            case rel => exact ⟨k + 1, by omega, by go_num, ParseInv.next HE.out HALL.out HPF.out hf hlen ((Ext.refl wr).alloc _) (HOWN.out.alloc _) ⟨Or.inl rfl, Nat.zero_le _, Or.inl ⟨rfl, rfl⟩⟩ hgrow' hown' HO.out (by omega) hlt⟩
            case measure => simp [intOf]; omega
          · have g63 : ((((s[k].toNat : Nat) : Int) == 63) = false) := by simp [h63]
            have H63 := Lib.hid h63; clear h63
            by_cases h92 : ((s[k].toNat : Nat) : Int) = 92
            · have g92 : ((((s[k].toNat : Nat) : Int) == 92) = true) := by rw [h92]; rfl
              have H92 := Lib.hid h92; clear h92
              by_cases h2 : k + 1 < s.size
              · have d1 : (txt s).drop (k + 1) = ((s[k + 1].toNat : Nat) : Int) :: (txt s).drop (k + 2) := by rw [List.drop_eq_getElem_cons (by rw [txt_len]; omega), txt_at s (k + 1) (by omega)]
                obtain ⟨x, hx⟩ : ∃ x : Int, ((s[k + 1].toNat : Nat) : Int) = x := ⟨_, rfl⟩
                have HO : Hid (oneF ((txt s).drop k) = some (⟨false, oneSet [x] false false⟩, (txt s).drop (k + 2))) := Lib.hid (by rw [hdrop.out, d1, hx, oneF_eq, if_neg H42.out, if_neg H63.out, if_neg (by rw [H92.out]; decide), if_pos H92.out]; simp only [oneSet_one])
                clear d1
                rw [← hx] at HO
                clear hx
                go_wp2_with (at_builtin; refine wpList_append_own _ rfl _ _ 139 rfl w.heap.size 165 i0 (.agg #[.int .i64 0, .slice none 0 0, .bool false, .bool false]) 4 40 (by kernel_rfl) HI.out hz0 hz1 hz2 rfl (by decide) _ _ _ rfl (HOWN.out.alloc (.cells #[.int .u8 ((s[k + 1].toNat : Nat) : Int)] 5) |>.alloc _) ⟨_, 0, none⟩ 1 1 (RPart.cells ⟨0, some ⟨wr.heap.size, 0, none⟩, [((s[k + 1].toNat : Nat) : Int)], 1, false, false⟩) rfl rfl (cells_at _ _ _ (by simp)) (fun x hx => by simp [RPart.cells] at hx; rcases hx with rfl | rfl | rfl | rfl <;> rfl) (by unfold maxLen; omega) (by omega) (by have := HE.out.size; simp; omega) ?_; intro v' w1 hown' hgrow' _; obtain ⟨va', vc', rfl⟩ := owns_slice hown')
                go_roundw
                case rel => exact ⟨k + 2, by omega, by go_num, ParseInv.next HE.out HALL.out HPF.out hf hlen (((Ext.refl wr).alloc (.cells #[.int .u8 ((s[k + 1].toNat : Nat) : Int)] 5)).alloc _) (HOWN.out.alloc (.cells #[.int .u8 ((s[k + 1].toNat : Nat) : Int)] 5) |>.alloc _) ⟨Or.inr ⟨wr.heap.size, 0, _, rfl, blk_alloc _ (heap_new _ _), fun j hj => one_at hj⟩, by simp, Or.inl ⟨rfl, rfl⟩⟩ hgrow' hown' HO.out (by omega) hlt⟩
                case measure => simp [intOf]; omega
              · have HO : Hid (oneF ((txt s).drop k) = none) := Lib.hid (by rw [hdrop.out, List.drop_eq_nil_of_le (show (txt s).length ≤ k + 1 by rw [txt_len]; omega), oneF_eq, if_neg H42.out, if_neg H63.out, if_neg (by rw [H92.out]; decide), if_pos H92.out])
                go_wp2
                go_ret2
                exact ⟨none, 0, 0, 3, rfl, HE.out, by rw [if_neg hs, parse_bad HPF.out hf HO.out hlt]; exact fun h => by cases h⟩
            · have g92 : ((((s[k].toNat : Nat) : Int) == 92) = false) := by simp [h92]
              have H92 := Lib.hid h92; clear h92
              by_cases h91 : ((s[k].toNat : Nat) : Int) = 91
              · have g91 : ((((s[k].toNat : Nat) : Int) != 91) = false) := by simp [h91]
                have H91 := Lib.hid h91; clear h91
                have hm := members_any s (k + 1) wr (by omega) (by omega)
                have HMB := Lib.hid hm; clear hm
                go_wp2_with (first | (go_at_call 123; refine (HMB.out).mono ?_; rintro e w2 ⟨ma, ml, mc, mnot, z, rfl, hE2, hby, hml, hmt⟩; have HMC := Lib.hid (mem_case hlt H91.out hdrop.out hmt); clear hmt) | (at_builtin; refine wpList_append_own _ rfl _ _ 139 rfl w.heap.size 165 i0 (.agg #[.int .i64 0, .slice none 0 0, .bool false, .bool false]) 4 40 (by kernel_rfl) HI.out hz0 hz1 hz2 rfl (by decide) _ _ _ rfl ((own_ext HOWN.out hE2).alloc (.cells #[.int .i64 0, .slice ma ml.length mc, .bool mnot, .bool false] 165) |>.alloc _) ⟨_, 0, none⟩ 1 1 (RPart.cells ⟨0, ma, ml, mc, mnot, false⟩) rfl rfl (cells_at _ _ _ (by simp)) (fun x hx => by simp [RPart.cells] at hx; rcases hx with rfl | rfl | rfl | rfl <;> rfl) (by unfold maxLen; omega) (by omega) (by have := HE.out.size; have := hE2.size; simp; omega) ?_; intro v' w1 hown' hgrow' _; obtain ⟨va', vc', rfl⟩ := owns_slice hown'))
                · go_ret2
                  have ho : oneF ((txt s).drop k) = none := by
                    rcases HMC.out with h | ⟨nx, h, _⟩
                    · exact h.2
                    · omega
                  exact ⟨none, 0, 0, 3, rfl, Below.trans HE.out (Below.mono (hE2.alloc _) HE.out.size), by rw [if_neg hs, parse_bad HPF.out hf ho hlt]; exact fun h => by cases h⟩
                · rcases HMC.out with ⟨h, _⟩ | ⟨nx, rfl, n1, n2, ho⟩
                  · omega
                  · have HO := Lib.hid ho; clear ho
                    go_roundw
                    case rel => exact ⟨nx, by omega, by go_num, ParseInv.next HE.out HALL.out HPF.out hf hlen ((Ext.alloc hE2 (.cells #[.int .i64 0, .slice ma ml.length mc, .bool mnot, .bool false] 165)).alloc _) ((own_ext HOWN.out hE2).alloc (.cells #[.int .i64 0, .slice ma ml.length mc, .bool mnot, .bool false] 165) |>.alloc _) ⟨hby.ext ((Ext.refl w2).alloc _ |>.alloc _), by show ml.length ≤ 100000; omega, Or.inl ⟨rfl, rfl⟩⟩ hgrow' hown' HO.out (by omega) hlt⟩
                    case measure => simp [intOf]; omega
              · have g91 : ((((s[k].toNat : Nat) : Int) != 91) = true) := by simp [h91]
                have HO : Hid (oneF ((txt s).drop k) = some (⟨false, oneSet [((s[k].toNat : Nat) : Int)] false false⟩, (txt s).drop (k + 1))) := Lib.hid (by rw [hdrop.out, oneF_eq, if_neg H42.out, if_neg H63.out, if_neg h91, if_neg H92.out]; simp only [oneSet_one])
                clear h91
                go_wp2_with (at_builtin; refine wpList_append_own _ rfl _ _ 139 rfl w.heap.size 165 i0 (.agg #[.int .i64 0, .slice none 0 0, .bool false, .bool false]) 4 40 (by kernel_rfl) HI.out hz0 hz1 hz2 rfl (by decide) _ _ _ rfl (HOWN.out.alloc (.cells #[.int .u8 ((s[k].toNat : Nat) : Int)] 5) |>.alloc _) ⟨_, 0, none⟩ 1 1 (RPart.cells ⟨0, some ⟨wr.heap.size, 0, none⟩, [((s[k].toNat : Nat) : Int)], 1, false, false⟩) rfl rfl (cells_at _ _ _ (by simp)) (fun x hx => by simp [RPart.cells] at hx; rcases hx with rfl | rfl | rfl | rfl <;> rfl) (by unfold maxLen; omega) (by omega) (by have := HE.out.size; simp; omega) ?_; intro v' w1 hown' hgrow' _; obtain ⟨va', vc', rfl⟩ := owns_slice hown')
                go_roundw
                case rel => exact ⟨k + 1, by omega, by go_num, ParseInv.next HE.out HALL.out HPF.out hf hlen (((Ext.refl wr).alloc (.cells #[.int .u8 ((s[k].toNat : Nat) : Int)] 5)).alloc _) (HOWN.out.alloc (.cells #[.int .u8 ((s[k].toNat : Nat) : Int)] 5) |>.alloc _) ⟨Or.inr ⟨wr.heap.size, 0, _, rfl, blk_alloc _ (heap_new _ _), fun j hj => one_at hj⟩, by simp, Or.inl ⟨rfl, rfl⟩⟩ hgrow' hown' HO.out (by omega) hlt⟩
                case measure => simp [intOf]; omega
      · obtain rfl : k = s.size := by omega
        go_wp2
        go_ret2
        obtain ⟨rg, hown, hE, hall, hpf, hlen⟩ := ParseInv.stop hinv
        obtain ⟨va, vc, rfl⟩ := owns_slice hown
        exact ⟨va, rg.length, vc, 0, rfl, hE, by rw [if_neg hs, hpf]; exact ⟨rfl, by simp, hlen, (parts_at hown hall).2⟩⟩
end Go.Proofs.YtiopahkigbdmcaaGreat
/- The document's patterns (layer 2): which texts they stand for: the walk. -/
namespace Go.Proofs.YtiopahkigbdmcaaGreat
open Go Go.Proofs Go.RowKit

/-- A row of bools of one's own. -/
def BoolRow (w : World) (b n : Nat) (F : Nat → Bool) : Prop := ∃ cs, w.heap[b]? = some (.cells cs 4 (0, 0)) ∧ cs.size = n ∧ ∀ i, i < n → cs[i]? = some (.bool (F i))
theorem BoolRow.ext {w w' : World} {b n : Nat} {F : Nat → Bool} (h : BoolRow w b n F) (hE : Ext w w') : BoolRow w' b n F := by
  obtain ⟨cs, h1, h2, h3⟩ := h
  exact ⟨cs, hE.block h1, h2, h3⟩
theorem BoolRow.drew {w : World} {b n : Nat} {F : Nat → Bool} (h : BoolRow w b n F) : BoolRow w.drew b n F := h
theorem BoolRow.lt {w : World} {b n : Nat} {F : Nat → Bool} (h : BoolRow w b n F) : b < w.heap.size := blk_lt h.choose_spec.1
theorem BoolRow.cell {w : World} {b n : Nat} {F : Nat → Bool} (h : BoolRow w b n F) {i : Nat} (hi : i < n) : w.cell? ⟨b, i, none⟩ = some (.bool (F i)) := by
  obtain ⟨cs, h1, _, h3⟩ := h
  exact blk_cell h1 (h3 i hi)
theorem BoolRow.free {w : World} {b n : Nat} {F : Nat → Bool} (h : BoolRow w b n F) (i : Nat) : w.frozen? ⟨b, i, none⟩ = false := blk_free h.choose_spec.1
theorem BoolRow.new (w : World) (n : Nat) : BoolRow (w.alloc (.cells (madeCells #[.bool false] n) 4)) w.heap.size n (fun _ => false) :=
  ⟨_, heap_new _ _, size_madeCells _ _, fun i hi => by simp [madeCells, hi, Nat.mod_one]⟩
theorem BoolRow.set {w : World} {b n : Nat} {F : Nat → Bool} (h : BoolRow w b n F) (i : Nat) (v : Bool) : BoolRow (w.setCell ⟨b, i, none⟩ (.bool v)) b n (fun j => if j = i then v else F j) := by
  obtain ⟨cs, h1, h2, h3⟩ := h
  refine ⟨_, blk_set _ h1, by simpa using h2, fun j hj => ?_⟩
  rw [Array.getElem?_setIfInBounds]
  by_cases hji : i = j
  · subst hji
    rw [if_pos rfl, if_pos (by omega)]
    simp
  · rw [if_neg hji, h3 j hj]
    have : ¬ j = i := fun h => hji h.symm
    simp [this]
theorem BoolRow.other {w : World} {b c n : Nat} {F : Nat → Bool} (h : BoolRow w b n F) (hbc : b ≠ c) (i : Nat) (v : Value) : BoolRow (w.setCell ⟨c, i, none⟩ v) b n F := by
  obtain ⟨cs, h1, h2, h3⟩ := h
  exact ⟨cs, (blk_set_other v hbc).trans h1, h2, h3⟩
theorem BoolRow.congr {w : World} {b n : Nat} {F G : Nat → Bool} (h : BoolRow w b n F) (hFG : ∀ i, i < n → F i = G i) : BoolRow w b n G := by
  obtain ⟨cs, h1, h2, h3⟩ := h
  exact ⟨cs, h1, h2, fun i hi => by rw [h3 i hi, hFG i hi]⟩
theorem make_bools (n : Nat) (hn : n ≤ 1000) (w : World) : (Instr.makeSlice 186 (.int .i64 ((n : Int) + 1)) (.int .i64 ((n : Int) + 1))).run Tryz.prog w =
    .ok (.slice (some ⟨w.heap.size, 0, none⟩) (n + 1) (n + 1)) (w.alloc (.cells (madeCells #[.bool false] (n + 1)) 4)) := by
  have h := run_make_row' (P := Tryz.prog) 186 4 (.bool false) 1 (by kernel_rfl) (by kernel_rfl) rfl .i64 .i64 (n + 1) (by omega) (by omega) w
  rw [show ((n + 1 : Nat) : Int) = (n : Int) + 1 from by omega] at h
  exact h

/-- Row by row: the row of the parts from one on. -/
def MOut (w0 : World) (s : ByteArray) (gs : List GPart) (kk b : Nat) (w : World) : Prop := w0.heap.size ≤ b ∧ Ext w0 w ∧ BoolRow w b (s.size + 1) (fun i => gmatch (gs.drop kk) ((txt s).drop i))
/-- .. and the row ahead of it, on its way. -/
def MIn (w0 : World) (s : ByteArray) (gs : List GPart) (m b bn ii : Nat) (w : World) : Prop :=
  w0.heap.size ≤ b ∧ w0.heap.size ≤ bn ∧ b ≠ bn ∧ Ext w0 w ∧ BoolRow w b (s.size + 1) (fun i => gmatch (gs.drop (m + 1)) ((txt s).drop i)) ∧
    ∃ G, BoolRow w bn (s.size + 1) G ∧ ∀ j, ii ≤ j → j ≤ s.size → G j = gmatch (gs.drop m) ((txt s).drop j)
theorem gm_last (s : ByteArray) (i : Nat) (h : i ≤ s.size) : gmatch [] ((txt s).drop i) = decide (i = s.size) := by
  by_cases h1 : i = s.size
  · rw [List.drop_eq_nil_of_le (by rw [txt_len]; omega), gm_nil_nil, decide_eq_true h1]
  · rw [List.drop_eq_getElem_cons (by rw [txt_len]; omega), gm_nil_cons, decide_eq_false h1]
theorem MOut.start (w : World) (s : ByteArray) (gs : List GPart) : MOut w s gs gs.length w.heap.size (w.alloc (.cells ((madeCells #[.bool false] (s.size + 1)).setIfInBounds s.size (.bool true)) 4)) := by
  refine ⟨Nat.le_refl _, (Ext.refl w).alloc _, _, heap_new _ _, by simp [size_madeCells], fun i hi => ?_⟩
  rw [Array.getElem?_setIfInBounds, List.drop_eq_nil_of_le (Nat.le_refl _)]
  show _ = some (Value.bool (gmatch [] ((txt s).drop i)))
  rw [gm_last s i (by omega), size_madeCells]
  by_cases h : s.size = i
  · subst h
    rw [if_pos rfl, if_pos hi, decide_eq_true rfl]
  · rw [if_neg h, decide_eq_false (fun e => h e.symm)]
    simp [madeCells, hi, Nat.mod_one]
theorem MIn.start {w0 w : World} {s : ByteArray} {gs : List GPart} {m b : Nat} (h : MOut w0 s gs (m + 1) b w) : MIn w0 s gs m b w.heap.size (s.size + 1) (w.alloc (.cells (madeCells #[.bool false] (s.size + 1)) 4)) := by
  obtain ⟨h1, h2, h3⟩ := h
  have := h3.lt
  exact ⟨h1, h2.size, by omega, h2.alloc _, h3.ext ((Ext.refl w).alloc _), _, BoolRow.new w _, fun j h1 h2 => by omega⟩
theorem MIn.stop {w0 w : World} {s : ByteArray} {gs : List GPart} {m b bn : Nat} (h : MIn w0 s gs m b bn 0 w) : MOut w0 s gs m bn w := by
  obtain ⟨h1, h2, h3, h4, h5, G, h6, h7⟩ := h
  exact ⟨h2, h4, h6.congr fun i hi => h7 i (Nat.zero_le _) (by omega)⟩
theorem MIn.next {w0 wr w1 : World} {s : ByteArray} {gs : List GPart} {m b bn i : Nat} {v : Bool} (h : MIn w0 s gs m b bn (i + 1) wr) (hE : Ext wr w1) (hv : v = gmatch (gs.drop m) ((txt s).drop i)) :
    MIn w0 s gs m b bn i (w1.setCell ⟨bn, i, none⟩ (.bool v)) := by
  obtain ⟨h1, h2, h3, h4, h5, G, h6, h7⟩ := h
  refine ⟨h1, h2, h3, Ext.setNew (h4.trans hE) h2 _, (h5.ext hE).other h3 _ _, _, (h6.ext hE).set i v, fun j hj1 hj2 => ?_⟩
  by_cases hj : j = i
  · subst hj
    simp [hv]
  · simp only [if_neg hj]
    exact h7 j (by omega) hj2

set_option maxHeartbeats 4000000 in
set_option maxRecDepth 100000 in
theorem match_any (s : ByteArray) (a : Option Addr) (gs : List GPart) (c : Nat) (w : World) (hs : s.size ≤ 1000) (hg : gs.length ≤ 1000) (hP : PartsAt w a gs) :
    Calls Tryz.prog 121 #[.slice a gs.length c, .string s] w (RetV w (.bool (gmatch gs (txt s)))) := by
  have HP := Lib.hid hP; clear hP
  obtain ⟨n, hn⟩ : ∃ n, gs.length = n := ⟨_, rfl⟩
  rw [hn] at hg ⊢
  have HN := Lib.hid hn; clear hn
  have hmk := make_bools s.size hs
  have B0 := Lib.hid (BoolRow.new w (s.size + 1))
  have c0 := B0.out.cell (i := s.size) (by omega)
  have f0 := B0.out.free s.size
  have wn : IntKind.i64.wrap ((n : Int) - 1) = (n : Int) - 1 := IntWalk.i64_in _ (by omega)
  have hst := MOut.start w s gs
  rw [HN.out] at hst
  have HST := Lib.hid hst; clear hst
  go_enter Tryz.func121, Tryz.ntmps121
  go_wp2
  go_loopw [5, 6] (fun v k w' => ∃ kk b : Nat, kk ≤ n ∧ k = .int .i64 ((kk : Int) - 1) ∧ v = .slice (some ⟨b, 0, none⟩) (s.size + 1) (s.size + 1) ∧ MOut w s gs kk b w') (fun _ k _ => (intOf k + 1).toNat)
  case atStart => exact ⟨n, w.heap.size, Nat.le_refl _, by go_num, rfl, HST.out⟩
  case round =>
    obtain ⟨kk, b, hk, rfl, rfl, hinv⟩ := hrel
    by_cases hkk : kk = 0
    · subst hkk
      have hb := hinv.2.2.lt
      have hc := hinv.2.2.cell (i := 0) (by omega)
      rw [List.drop_zero, List.drop_zero] at hc
      have HE := Lib.hid hinv.2.1
      clear hinv
      go_wp2
      go_ret
      exact ⟨rfl, HE.out⟩
    · obtain ⟨m, rfl⟩ : ∃ m, kk = m + 1 := ⟨kk - 1, by omega⟩
      have cm : (((m + 1 : Nat) : Int) - 1) = (m : Int) := by omega
      rw [cm]
      have hb := hinv.2.2.lt
      have HST1 := Lib.hid (MIn.start hinv)
      have HINV := Lib.hid hinv; clear hinv
      have wm : IntKind.i64.wrap ((m : Int) - 1) = (m : Int) - 1 := IntWalk.i64_in _ (by omega)
      go_wp2
      obtain ⟨wo, rfl⟩ : ∃ wo : World, wo = wr := ⟨_, rfl⟩
      go_loopw [8] (fun i w' => ∃ ii : Nat, ii ≤ s.size + 1 ∧ i = .int .i64 ((ii : Int) - 1) ∧ MIn w s gs m b wo.heap.size ii w') (fun i _ => (intOf i + 1).toNat)
      case atStart => exact ⟨s.size + 1, Nat.le_refl _, by go_num, HST1.out⟩
      case round =>
        obtain ⟨ii, hii, rfl, hin⟩ := hrel
        by_cases hi0 : ii = 0
        · subst hi0
          have HIN := Lib.hid hin; clear hin
          go_wp2
          have := HIN.out.2.1
          exact ⟨⟨m, wo.heap.size, by omega, by go_num, rfl, HIN.out.stop⟩, by simp [intOf]⟩
        · obtain ⟨i, rfl⟩ : ∃ i, ii = i + 1 := ⟨ii - 1, by omega⟩
          have ci : (((i + 1 : Nat) : Int) - 1) = (i : Int) := by omega
          rw [ci]
          have wi : IntKind.i64.wrap ((i : Int) - 1) = (i : Int) - 1 := IntWalk.i64_in _ (by omega)
          have wi1 : IntKind.i64.wrap ((i : Int) + 1) = (i : Int) + 1 := IntWalk.i64_in _ (by omega)
          have hmn : m < gs.length := by rw [HN.out]; omega
          have STEP := Lib.hid (gm_step gs (txt s) m i hmn)
          obtain h0 | ⟨pb, off, pcs, rfl, hpb, hpa⟩ := HP.out
          · rw [h0] at hmn; exact absurd hmn (by simp)
          obtain ⟨⟨many, ra, rl, rc, rnot, rany⟩, hr, hrc⟩ := hpa m hmn
          obtain ⟨hb1, hbn1, hbb, hE, hF, G, hG, hGj⟩ := hin
          have HIN := Lib.hid (show MIn w s gs m b wo.heap.size (i + 1) wr from ⟨hb1, hbn1, hbb, hE, hF, G, hG, hGj⟩)
          obtain ⟨g, hgm⟩ : ∃ g, gs[m] = g := ⟨_, rfl⟩
          rw [hgm] at hr STEP
          obtain ⟨Fi, hFi⟩ : ∃ x, gmatch (gs.drop (m + 1)) ((txt s).drop i) = x := ⟨_, rfl⟩
          have k0 := (hE.cellsOf hpb (off + m * 4 + 0)).trans (hrc 0 _ rfl)
          have k1 := (hE.cellsOf hpb (off + m * 4 + 1)).trans (hrc 1 _ rfl)
          have k2 := (hE.cellsOf hpb (off + m * 4 + 2)).trans (hrc 2 _ rfl)
          have k3 := (hE.cellsOf hpb (off + m * 4 + 3)).trans (hrc 3 _ rfl)
          rw [Nat.add_zero] at k0
          have hpl := hE.blt hpb
          have hbl := hF.lt
          have hbnl := hG.lt
          have cF := hF.cell (i := i) (by omega)
          have cG := hG.cell (i := i) (by omega)
          have fG := hG.free i
          simp only [hFi] at cF
          rw [hFi] at STEP
          have HFI := Lib.hid hFi; clear hFi
          have HPB := Lib.hid hpb; clear hpb
          have hby : Hid (Bytes wr.drew ra rl) := Lib.hid (hr.1.ext hE.drew)
          have hrl : rl.length ≤ 100000 := hr.2.1
          by_cases hlt : i < s.size
          · have hlt' : i < (txt s).length := by rw [txt_len]; exact hlt
            have cF1 := hF.cell (i := i + 1) (by omega)
            have cG1 := hG.cell (i := i + 1) (by omega)
            rw [hGj (i + 1) (by omega) (by omega)] at cG1
            obtain ⟨F1, hF1⟩ : ∃ x, gmatch (gs.drop (m + 1)) ((txt s).drop (i + 1)) = x := ⟨_, rfl⟩
            obtain ⟨G1, hG1⟩ : ∃ x, gmatch (gs.drop m) ((txt s).drop (i + 1)) = x := ⟨_, rfl⟩
            simp only [hF1] at cF1
            simp only [hG1] at cG1
            rw [hF1, hG1, dif_pos hlt', dif_pos hlt', txt_at s i hlt] at STEP
            clear hF1 hG1 hlt'
            have HE := Lib.hid hE; clear hE
            have HF := Lib.hid hF; clear hF
            have HG := Lib.hid hG; clear hG
            have HGJ := Lib.hid hGj; clear hGj
            have q1 : (m : Int) < (n : Int) := by omega
            have q2 : (i : Int) < (s.size : Int) := by omega
            have q3 : (0 : Int) ≤ (m : Int) := by omega
            have q4 : (0 : Int) ≤ (i : Int) := by omega
            have q5 : (i : Int) + 1 < (s.size : Int) + 1 := by omega
            have q6 : (0 : Int) ≤ (i : Int) + 1 := by omega
            have q7 : (i : Int) < (s.size : Int) + 1 := by omega
            obtain ⟨_, _, ⟨rfl, rfl⟩ | ⟨rfl, rfl⟩ | ⟨rfl, rfl⟩⟩ := hr
            · have STEP : Hid (gmatch (gs.drop m) ((txt s).drop i) = (oneSet rl rnot rany ((s[i].toNat : Nat) : Int) && F1)) := Lib.hid STEP.out
              obtain ⟨sv, hsv⟩ : ∃ x, oneSet rl rnot rany ((s[i].toNat : Nat) : Int) = x := ⟨_, rfl⟩
              have HS0 := stands_any 0 ra rl rc rnot rany ((s[i].toNat : Nat) : Int) wr.drew (by omega) hby.out
              rw [hsv] at HS0 STEP
              clear hsv
              have HS := Lib.hid HS0; clear HS0
              go_upto_region 11 with fail
              refine wp_draw_stages 102 24 [false, false, false, false, false, false, false, false, false, false, false, false, false, false, false, true, true, true, true, true, true, true, true, true] [([true, true, true, true, true, true, true, true, true, true, true, true, true, true], 14)] Ext Ext.refl (fun _ _ _ => Ext.trans) (by kernel_rfl) (by kernel_rfl) ?_
              apply wpStages_cons (by simp)
              · intro w1 hw1
                simp only [sel_true, sel_nil]
                have e0 := (hw1.cell (x := wr.drew) (o := off + m * 4) hpl).trans k0; have e1 := (hw1.cell (x := wr.drew) (o := off + m * 4 + 1) hpl).trans k1; have e2 := (hw1.cell (x := wr.drew) (o := off + m * 4 + 2) hpl).trans k2; have e3 := (hw1.cell (x := wr.drew) (o := off + m * 4 + 3) hpl).trans k3
                repeat ((with_reducible refine wpStill_step (fun K hK => ?_)); go_simp; refine hK _ ?_; clear hK K)
                exact wpStill_nil rfl
              try simp only [List.getD_cons_succ, List.getD_cons_zero]
              go_wp2_with (go_at_call 137; refine (HS.out).mono ?_; rintro e w2 ⟨rfl, hE1⟩; have hE1 : Ext wr.drew w2 := hE1; have hE2 : Ext wr w2 := (Ext.refl wr).drew.trans hE1)
              refine ⟨hE1, ?_⟩
              have cF1 := (hE2.cell (o := i + 1) hbl).trans cF1
              have cG := (hE2.cell (o := i) hbnl).trans cG
              have fG := (hE2.frozen (o := i) hbnl).trans fG
              cases sv
              all_goals
                refine wpStages_nil ?_
                simp only [sel_true, sel_false, sel_nil]
                repeat ((with_reducible refine wpStill_step (fun K hK => ?_)); go_simp; refine hK _ ?_; clear hK K)
                refine wpStill_nil ?_
                try simp only [List.drop_succ_cons, List.drop_zero]
                go_wp2
                go_roundw
                case rel => exact ⟨i, by omega, by go_num, MIn.next HIN.out hE2 (by rw [STEP.out]; rfl)⟩
                case measure => simp [intOf]
            · have STEP : Hid (gmatch (gs.drop m) ((txt s).drop i) = (Fi || (((s[i].toNat : Nat) : Int) != 47 && G1))) := Lib.hid STEP.out
              cases Fi <;> cases G1
              all_goals go_wp2
              all_goals
                go_roundw
                case rel => exact ⟨i, by omega, by go_num, MIn.next HIN.out (Ext.refl wr) (by rw [STEP.out]; simp_all)⟩
                case measure => simp [intOf]
            · have STEP : Hid (gmatch (gs.drop m) ((txt s).drop i) = (Fi || (true && G1))) := Lib.hid STEP.out
              cases Fi <;> cases G1
              all_goals go_wp2
              all_goals
                go_roundw
                case rel => exact ⟨i, by omega, by go_num, MIn.next HIN.out (Ext.refl wr) (by rw [STEP.out]; simp_all)⟩
                case measure => simp [intOf]
          · obtain rfl : i = s.size := by omega
            have hlt' : ¬ s.size < (txt s).length := by rw [txt_len]; omega
            rw [dif_neg hlt', dif_neg hlt'] at STEP
            clear hlt'
            have HE := Lib.hid hE; clear hE
            have HF := Lib.hid hF; clear hF
            have HG := Lib.hid hG; clear hG
            have HGJ := Lib.hid hGj; clear hGj
            obtain ⟨_, _, ⟨rfl, rfl⟩ | ⟨rfl, rfl⟩ | ⟨rfl, rfl⟩⟩ := hr
            · have STEP : Hid (gmatch (gs.drop m) ((txt s).drop s.size) = false) := Lib.hid STEP.out
              have q4 : (0 : Int) ≤ (s.size : Int) := by omega
              have q7 : (s.size : Int) < (s.size : Int) + 1 := by omega
              go_upto_region 11 with fail
              refine wp_draw_stages 102 24 [false, false, false, false, false, false, false, false, false, false, false, false, false, false, false, true, true, true, true, true, true, true, true, true] [([true, true, true, true, true, true, true, true, true, true, true, true, true, true], 14)] Ext Ext.refl (fun _ _ _ => Ext.trans) (by kernel_rfl) (by kernel_rfl) ?_
              apply wpStages_cons (by simp)
              · intro w1 hw1
                simp only [sel_true, sel_nil]
                have e0 := (hw1.cell (x := wr.drew) (o := off + m * 4) hpl).trans k0; have e1 := (hw1.cell (x := wr.drew) (o := off + m * 4 + 1) hpl).trans k1; have e2 := (hw1.cell (x := wr.drew) (o := off + m * 4 + 2) hpl).trans k2; have e3 := (hw1.cell (x := wr.drew) (o := off + m * 4 + 3) hpl).trans k3
                repeat ((with_reducible refine wpStill_step (fun K hK => ?_)); go_simp; refine hK _ ?_; clear hK K)
                exact wpStill_nil rfl
              try simp only [List.getD_cons_succ, List.getD_cons_zero]
              go_wp2
              refine ⟨Ext.refl _, ?_⟩
              refine wpStages_nil ?_
              simp only [sel_true, sel_false, sel_nil]
              repeat ((with_reducible refine wpStill_step (fun K hK => ?_)); go_simp; refine hK _ ?_; clear hK K)
              refine wpStill_nil ?_
              try simp only [List.drop_succ_cons, List.drop_zero]
              go_wp2
              go_roundw
              case rel => exact ⟨s.size, by omega, by go_num, MIn.next HIN.out ((Ext.refl wr).drew) (by rw [STEP.out])⟩
              case measure => simp [intOf]
            · have STEP : Hid (gmatch (gs.drop m) ((txt s).drop s.size) = (Fi || false)) := Lib.hid STEP.out
              cases Fi
              all_goals go_wp2
              all_goals
                go_roundw
                case rel => exact ⟨s.size, by omega, by go_num, MIn.next HIN.out (Ext.refl wr) (by rw [STEP.out]; simp_all)⟩
                case measure => simp [intOf]
            · have STEP : Hid (gmatch (gs.drop m) ((txt s).drop s.size) = (Fi || false)) := Lib.hid STEP.out
              cases Fi
              all_goals go_wp2
              all_goals
                go_roundw
                case rel => exact ⟨s.size, by omega, by go_num, MIn.next HIN.out (Ext.refl wr) (by rw [STEP.out]; simp_all)⟩
                case measure => simp [intOf]
end Go.Proofs.YtiopahkigbdmcaaGreat
/- A range over a function that hands out a known list, and that may keep its place in one cell of its own: what the function owes, and what the loop comes to. -/
namespace Go.Proofs.YtiopahkigbdmcaaGreat
open Go Go.Proofs Go.RowKit

/-- What a round leaves alone: the iterator's own block; nothing is struck from memory. -/
def KeepB (bc : Nat) (W W' : World) : Prop := W'.heap[bc]? = W.heap[bc]? ∧ W.heap.size ≤ W'.heap.size
theorem KeepB.trans {bc : Nat} {A B C : World} (h : KeepB bc A B) (k : KeepB bc B C) : KeepB bc A C := ⟨k.1.trans h.1, Nat.le_trans h.2 k.2⟩
theorem KeepB.put {bc l : Nat} {W : World} (o : Obj) (h : bc ≠ l) : KeepB bc W (W.putObj l o) := ⟨World.putObj_heap_other h, by simp⟩
theorem KeepB.of_ext {bc : Nat} {W W' : World} (h : Ext W W') (hb : bc < W.heap.size) : KeepB bc W W' := ⟨Below.block h bc hb, h.size⟩
/-- A statement on worlds that the iterator's store leaves true. -/
def Stays (bc : Nat) (J : Nat → World → Prop) : Prop := ∀ k W v, J k W → J k (W.setCell ⟨bc, 0, none⟩ v)

/-- The function g hands out the list L, one by one; its place lies in block bc. -/
def Hands (n : Nat) (P : Program) (g : Nat) (lb : Array Value) (bc : Nat) (L : List Value) (w0 : World) : Prop :=
  ∀ (l : Nat) (J Jx : Nat → World → Prop) (W : World), Below w0.heap.size w0 W → AbidesFrom W.heap.size J → AbidesFrom W.heap.size Jx → Stays bc J →
    (∀ k (hk : k < L.length) W1, J k W1 → YieldAt Fence.wide (n - 1) P l #[L[k]] W1 fun e W' => (e = .returned (.bool true) ∧ J (k + 1) W' ∧ KeepB bc W1 W') ∨ (e = .returned (.bool false) ∧ Jx (k + 1) W')) →
    J 0 W → CallsIn Fence.wide n P g (#[.func (.yield l) #[] #[]] ++ lb) W fun e W' => (∃ v, e = .returned v) ∧ (J L.length W' ∨ ∃ k, k < L.length ∧ Jx (k + 1) W')

/-- How a round may be left. -/
def roundLeft (bc : Nat) (I Ix : Nat → World → Prop) (k : Nat) (W : World) : Exit → Act → World → Prop
  | .normal, _, W' => KeepsOthers W W' ∧ KeepB bc W W' ∧ I (k + 1) W'
  | .ret, _, W' => KeepsOthers W W' ∧ Ix (k + 1) W'
  | _, _, _ => False

theorem range_list {n : Nat} {P : Program} {g : Operand} {ps : Array Tmp} {assign body : Code} {Q : Exit → Act → World → Prop} {a : Act} {w : World}
    (h1 : 1 ≤ n) {gf : Nat} {lb : Array Value} (hg : a.eval g = .func (.func gf) #[] lb) (eg : ∀ args w, (callFunc gf args).run P w = .ok (.enter gf args) w)
    {L : List Value} {bc : Nat} (hseq : Hands (n - 1) P gf lb bc L w) (hps : ps.size = 1) (hbc : bc < w.heap.size)
    (I Ix : Nat → World → Prop) (hI : OwnFrom w.heap.size I) (hIx : OwnFrom w.heap.size Ix) (hIc : Stays bc I) (h0 : I 0 w) (a₁ : Nat → Act)
    (hassign : ∀ (l k : Nat) (hk : k < L.length) (W : World) (K : Act → World → Prop), K (a₁ k) W →
      assign.wpIn (Fence.wide.inRound l) (n - 1 - 1) P (Exit.then K (fun _ _ _ => False)) { tmps := (ps.zip #[L[k]]).foldl (fun t (p, v) => t.setIfInBounds p v) a.tmps, defers := [] } W)
    (hbody : ∀ (l k : Nat) (W : World), k < L.length → I k W → body.wpIn (Fence.wide.inRound l) (n - 1 - 1) P (roundLeft bc I Ix k W) (a₁ k) W)
    (hdone : ∀ (D : Nat) (W : World), w.heap.size ≤ D → I L.length W → W.heap[D]? = some (.deferred (some [])) → Q .normal { a with defers := { target := .collected D, args := #[] } :: a.defers } W)
    (hstop : ∀ (D k : Nat) (W : World), w.heap.size ≤ D → k < L.length → Ix (k + 1) W → W.heap[D]? = some (.deferred (some [])) → Code.ret.wpIn Fence.wide n P Q { a with defers := { target := .collected D, args := #[] } :: a.defers } W) :
    (Code.rangeFunc g ps assign body).wpIn Fence.wide n P Q a w := by
  refine wpIn_rangeFunc fun fn hfn => ?_
  have hro : Fence.wide.round = none := rfl
  rw [hro]
  obtain ⟨rec, hrec⟩ : ∃ rec : LoopState → Option Code → Loop, rec = fun st pe => { state := st, pending := pe, fn, tmps := a.tmps, params := ps, assign, body, defers := w.heap.size } := ⟨_, rfl⟩
  have nl : ∀ st pe, Obj.isCells (.loop (rec st pe)) = false := fun _ _ => rfl
  obtain ⟨W1, hW1⟩ : ∃ W1, (w.alloc (.deferred (some []))).alloc (.loop (rec .ready none)) = W1 := ⟨_, rfl⟩
  have hz1 : W1.heap.size = w.heap.size + 2 := by rw [← hW1]; simp
  have hL1 : W1.heap[w.heap.size + 1]? = some (.loop (rec .ready none)) := by rw [← hW1]; exact heap_at _ _ (by simp)
  have hK1 : W1.heap[w.heap.size]? = some (.deferred (some [])) := by rw [← hW1]; exact heap_before _ _ (heap_at _ _ rfl)
  have hI1 : I 0 W1 := by rw [← hW1]; exact hI.alloc _ (hI.alloc _ h0)
  have hb1 : Below w.heap.size w W1 := by rw [← hW1]; exact ((Below.refl _ w).alloc (Nat.le_refl _) _).alloc (by simp) _
  refine ⟨w.heap.size + 1, [{ target := .collected w.heap.size, args := #[] }], W1, { target := .fn (.func gf) lb, args := #[.func (.yield (w.heap.size + 1)) #[] #[]] }, W1, gf,
    #[.func (.yield (w.heap.size + 1)) #[] #[]] ++ lb, W1, ?_, ?_, fun _ _ => trivial, ?_, fun _ => h1, ?_⟩
  · rw [← hW1, hrec]; exact run_enterLoop_outer _ _ _ _ _
  · simp only [resolve, hg]; simp [go_sem]
  · simp [invoke, go_sem, eg]
  · -- what the loop's own book-keeping and the iterator's steps leave alone
    have hwalk : ∀ {A : World} {row : Option Nat}, (∀ r, row = some r → W1.heap.size ≤ r ∧ ∃ o : Obj, A.heap[r]? = some o ∧ o.isWalk = true) → ∀ r, row = some r → w.heap.size ≤ r ∧ ∃ o : Obj, A.heap[r]? = some o ∧ o.isCells = false :=
      fun hr r e => by obtain ⟨hB, o, ho, hw⟩ := hr r e; exact ⟨by omega, o, ho, Obj.not_cells_of_walk hw⟩
    have hset : ∀ (W : World) (v : Value) (b : Nat) (o : Option Obj), b ≠ bc → W.heap[b]? = o → (W.setCell ⟨bc, 0, none⟩ v).heap[b]? = o := fun W v b o hb h => (blk_set_other v hb).trans h
    refine (hseq (w.heap.size + 1)
      (fun k W => I k W ∧ W.heap[w.heap.size + 1]? = some (.loop (rec .ready none)) ∧ W.heap[w.heap.size]? = some (.deferred (some [])))
      (fun k W => Ix k W ∧ W.heap[w.heap.size + 1]? = some (.loop (rec .done (some .ret))) ∧ W.heap[w.heap.size]? = some (.deferred (some [])))
      W1 hb1
      (fun s A B row hs hg' hr => ⟨hI s A B row hs.1 hg' (hwalk hr), (grownBy_keeps hg' (fun r e => (hr r e).2) hs.2.1 rfl).trans hs.2.1, (grownBy_keeps hg' (fun r e => (hr r e).2) hs.2.2 rfl).trans hs.2.2⟩)
      (fun s A B row hs hg' hr => ⟨hIx s A B row hs.1 hg' (hwalk hr), (grownBy_keeps hg' (fun r e => (hr r e).2) hs.2.1 rfl).trans hs.2.1, (grownBy_keeps hg' (fun r e => (hr r e).2) hs.2.2 rfl).trans hs.2.2⟩)
      (fun k W v hs => ⟨hIc k W v hs.1, hset W v _ _ (by omega) hs.2.1, hset W v _ _ (by omega) hs.2.2⟩)
      ?_ ⟨hI1, hL1, hK1⟩).mono ?_
    · rintro k hk W ⟨hi, hl, hd⟩
      have hlt := blk_lt hl
      have hy := run_yield (P := P) (args := #[L[k]]) hl (by rw [hrec]; simp [hps])
      rw [hrec] at hy
      refine ⟨fn, _, assign, body, hy, roundIn_of_wpIn hfn (hassign _ k hk W _ ⟨_, run_beginRound hl (by rw [hrec]), ?_⟩)⟩
      obtain ⟨W2, hW2⟩ : ∃ W2, W.putObj (w.heap.size + 1) (.loop { rec .ready none with state := .busy }) = W2 := ⟨_, rfl⟩
      have hl2 : W2.heap[w.heap.size + 1]? = some (.loop { rec .ready none with state := .busy }) := by rw [← hW2]; exact World.putObj_heap_same hlt
      have hd2 : W2.heap[w.heap.size]? = some (.deferred (some [])) := by rw [← hW2]; exact (World.putObj_heap_other (by omega)).trans hd
      have hk2 : KeepB bc W W2 := by rw [← hW2]; exact KeepB.put _ (by omega)
      have hi2 : I k W2 := by rw [← hW2]; exact hI.putObj _ hi (by omega) hl (nl _ _)
      rw [hW2]
      refine wpIn_mono (hbody _ k W2 hk hi2) fun e a3 W3 hp => ?_
      have fin : KeepsOthers W2 W3 → ∀ jump : Option Code, ∃ W4, (Instr.endRound (w.heap.size + 1) jump).run P W3 = .ok (.bool jump.isNone) W4 ∧ W4 = W3.putObj (w.heap.size + 1) (.loop (rec (if jump.isNone then .ready else .done) jump)) ∧
          W3.heap[w.heap.size + 1]? = some (.loop { rec .ready none with state := .busy }) ∧ W4.heap[w.heap.size + 1]? = some (.loop (rec (if jump.isNone then .ready else .done) jump)) ∧ W4.heap[w.heap.size]? = some (.deferred (some [])) := fun hko jump => by
        have hl3 := hko.same _ _ hl2 rfl
        have hr := run_endRound (P := P) jump hl3
        refine ⟨_, hr, by rw [hrec], hl3, ?_, ?_⟩
        · rw [World.putObj_heap_same (blk_lt hl3), hrec]
        · exact (World.putObj_heap_other (by omega)).trans (hko.same _ _ hd2 rfl)
      cases e with
      | normal =>
        obtain ⟨hko, hkb, hi3⟩ := hp
        obtain ⟨W4, hr, rfl, hl3, hl4, hd4⟩ := fin hko none
        exact ⟨_, _, hr, .inl ⟨rfl, ⟨hI.putObj _ hi3 (by omega) hl3 rfl, hl4, hd4⟩, (hk2.trans hkb).trans (KeepB.put _ (by omega))⟩⟩
      | ret =>
        obtain ⟨hko, hi3⟩ := hp
        obtain ⟨W4, hr, rfl, hl3, hl4, hd4⟩ := fin hko (some .ret)
        exact ⟨_, _, hr, .inr ⟨rfl, hIx.putObj _ hi3 (by omega) hl3 rfl, hl4, hd4⟩⟩
      | exit id => exact hp.elim
      | goto t => exact hp.elim
      | panic ch => exact hp.elim
      | outgrown => exact hp.elim
    · rintro e W2 ⟨⟨v, rfl⟩, ⟨hi, hl, hd⟩ | ⟨k, hk, hi, hl, hd⟩⟩
      · exact ⟨none, _, by have := run_endLoop (P := P) hl (by rw [hrec]; simp); rw [hrec] at this; exact this, hdone _ _ (Nat.le_refl _) (hI.putObj _ hi (by omega) hl (nl _ _)) ((World.putObj_heap_other (by omega)).trans hd)⟩
      · exact ⟨some .ret, _, by have := run_endLoop (P := P) hl (by rw [hrec]; simp); rw [hrec] at this; exact this, hstop _ k _ (Nat.le_refl _) hk (hIx.putObj _ hi (by omega) hl (nl _ _)) ((World.putObj_heap_other (by omega)).trans hd)⟩
end Go.Proofs.YtiopahkigbdmcaaGreat
