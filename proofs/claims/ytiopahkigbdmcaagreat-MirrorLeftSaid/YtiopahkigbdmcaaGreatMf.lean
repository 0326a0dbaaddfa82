/- The program's patterns (layer 2): how they are read: the walk. -/
import Derived.Test.YtiopahkigbdmcaaGreatMe
import Derived.Test.YtiopahkigbdmcaaGreatMc
namespace Go.Proofs.YtiopahkigbdmcaaGreat
open Go Go.Proofs Go.RowKit

section
variable {P : Program}
theorem wpList_slice_of {ops : Array Oper} {rest : List Oper} {o : Oper} {a : Act} {w : World} {Q : Exit → Act → World → Prop} (hg : o.guard = none) {t e : TypeId} {len : Nat} {parts : Array (Nat × Operand)} (ho : o.op = .buildSlice t len parts)
    (hu : P.underlying t = some (.slice e)) {L : List (Nat × Value)} (hL : parts.toList.map (fun p => (p.1, a.eval p.2)) = L) {cells : Array Value} (hf : P.builtSlice e len L = some cells)
    (h : wpList P ops Q rest (a.put o.dst (.slice (some ⟨w.heap.size, 0, none⟩) len len)) (w.alloc (.cells cells e))) : wpList P ops Q (o :: rest) a w := by
  refine Great.wpList_buildSliceTo hg t e len parts ho _ rfl _ rfl hu cells ?_ h
  rw [Array.toList_map]
  rw [← hf, ← hL]
end
set_option maxRecDepth 100000 in
theorem built_slice {cs : Array Value} (h : cs.size = 257) : Tryz.prog.builtSlice 196 1 [(0, .agg cs)] = some cs := by
  have hz := zero_part
  have hi := size_part
  unfold Program.builtSlice
  cases hq : Tryz.prog.info? 196 with
  | none => rw [hq] at hz; cases hz
  | some it =>
    rw [hq] at hz hi
    have hz' : it.zero = some (.agg noPart) := hz
    have hi' : it.size = 257 := by simpa using hi
    simp only [hz', hi']
    rw [if_neg (by omega)]
    have c0 : (Value.agg cs).cells = cs := rfl
    simp only [Instr.fill, c0]
    rw [if_neg (by simp [h])]
    congr 1
    apply Array.ext_getElem?
    intro i
    rw [fold_all]
    by_cases hi : i < 257
    · rw [if_pos ⟨by omega, by omega, by simpa using hi⟩]; simp
    · rw [if_neg (by omega), Array.getElem?_eq_none (by simp; omega), Array.getElem?_eq_none (by omega)]
/-- The parts that are read, and what is still to be read. -/
def ReadInv (w0 : World) (s : ByteArray) (at_ : Nat) (v : Value) (w : World) : Prop :=
  ∃ (rg : List (List Value × GPart)) (f : Nat), w.ownsRow (w0.heap.size + 1) 196 257 v rg.length (rg.flatMap (·.1)) ∧ Ext w0 w ∧ w.heap[w0.heap.size]? = some (.cells #[.slice none 0 0] 173 (0, 0)) ∧ (∀ x ∈ rg, PartC x.1.toArray (fun i => x.2.set i) x.2.many) ∧
    allF (txt s) = (partsF f ((txt s).drop at_)).map (rg.map (·.2) ++ ·) ∧ s.size - at_ < f ∧ rg.length ≤ at_
theorem ReadInv.next {w0 wr wa w1 : World} {s : ByteArray} {at_ at' f : Nat} {rg : List (List Value × GPart)} {v v' : Value} {r : List Value} {g : GPart}
    (hE : Ext w0 wr) (hP : wr.heap[w0.heap.size]? = some (.cells #[.slice none 0 0] 173 (0, 0))) (hall : ∀ x ∈ rg, PartC x.1.toArray (fun i => x.2.set i) x.2.many) (hpf : allF (txt s) = (partsF f ((txt s).drop at_)).map (rg.map (·.2) ++ ·)) (hf : s.size - at_ < f) (hlen : rg.length ≤ at_)
    (hEa : Ext wr wa) (hownA : wa.ownsRow (w0.heap.size + 1) 196 257 v rg.length (rg.flatMap (·.1))) (hr : PartC r.toArray (fun i => g.set i) g.many) (hg : wa.grownBy w1 v.ownBlock)
    (hown' : w1.ownsRow (w0.heap.size + 1) 196 257 v' (rg.length + 1) (rg.flatMap (·.1) ++ r)) (hone : oneF ((txt s).drop at_) = some (g, (txt s).drop at')) (hat : at_ < at') (hlt : at_ < s.size) :
    ReadInv w0 s at' v' w1 := by
  obtain ⟨f', rfl⟩ : ∃ f', f = f' + 1 := ⟨f - 1, by omega⟩
  have hb := blk_lt hP
  have hB : Below (w0.heap.size + 1) wr w1 := Below.trans (Below.mono hEa (by omega)) (grown_below hg (fun k hk => (hownA.lt k hk).1) (by have := hEa.size; omega))
  refine ⟨rg ++ [(r, g)], f', ?_, ?_, ?_, ?_, ?_, by omega, by simp; omega⟩
  · rw [List.length_append, List.length_singleton, List.flatMap_append, List.flatMap_cons, List.flatMap_nil, List.append_nil]
    exact hown'
  · exact Below.trans hE (Below.mono hB (by omega))
  · exact (Below.block hB _ (by omega)).trans hP
  · intro x hx
    rw [List.mem_append, List.mem_singleton] at hx
    rcases hx with hx | rfl
    · exact hall x hx
    · exact hr
  · rw [hpf, List.drop_eq_getElem_cons (by rw [txt_len]; exact hlt), partsF_cons, ← List.drop_eq_getElem_cons, hone]
    simp only [Option.map_map, List.map_append, List.map_cons, List.map_nil]
    congr 1
    funext x
    simp
theorem ReadInv.stop {w0 w : World} {s : ByteArray} {v : Value} (h : ReadInv w0 s s.size v w) :
    ∃ rg : List (List Value × GPart), w.ownsRow (w0.heap.size + 1) 196 257 v rg.length (rg.flatMap (·.1)) ∧ Ext w0 w ∧ w.heap[w0.heap.size]? = some (.cells #[.slice none 0 0] 173 (0, 0)) ∧ (∀ x ∈ rg, PartC x.1.toArray (fun i => x.2.set i) x.2.many) ∧ allF (txt s) = some (rg.map (·.2)) ∧ rg.length ≤ s.size := by
  obtain ⟨rg, f, h1, h2, h2', h3, h4, h5, h6⟩ := h
  refine ⟨rg, h1, h2, h2', h3, ?_, h6⟩
  obtain ⟨f', rfl⟩ : ∃ f', f = f' + 1 := ⟨f - 1, by omega⟩
  rw [h4, List.drop_eq_nil_of_le (by rw [txt_len]; exact Nat.le_refl _)]
  simp [partsF]
theorem part_len {l : List Value} {F : Nat → Bool} {m : Bool} (h : PartC l.toArray F m) : l.length = 257 := by simpa using h.1
theorem flat_part : ∀ (rg : List (List Value × GPart)) (i j : Nat) (hi : i < rg.length), (∀ x ∈ rg, x.1.length = 257) → j < 257 → (rg.flatMap (·.1))[i * 257 + j]? = rg[i].1[j]?
  | x :: rg, 0, j, _, hl, hj => by
    rw [List.flatMap_cons, Nat.zero_mul, Nat.zero_add, List.getElem?_append_left (by rw [hl x (by simp)]; exact hj)]
    rfl
  | x :: rg, i + 1, j, hi, hl, hj => by
    have hx := hl x (by simp)
    rw [List.flatMap_cons, List.getElem?_append_right (by rw [hx]; omega)]
    have : (i + 1) * 257 + j - x.1.length = i * 257 + j := by rw [hx]; omega
    rw [this, flat_part rg i j (by simpa using hi) (fun y hy => hl y (by simp [hy])) hj]
    rfl
/-- The parts of the program's pattern in memory. -/
def GlobAt (w : World) (a : Option Addr) (gs : List GPart) : Prop :=
  gs = [] ∨ ∃ b off cs, a = some ⟨b, off, none⟩ ∧ w.heap[b]? = some (.cells cs 196 (0, 0)) ∧ ∀ i (h : i < gs.length), ∃ l : List Value, PartC l.toArray (fun i' => gs[i].set i') gs[i].many ∧ ∀ j v, l[j]? = some v → cs[off + i * 257 + j]? = some v
theorem GlobAt.ext {w w' : World} {a : Option Addr} {gs : List GPart} (h : GlobAt w a gs) (hE : Ext w w') : GlobAt w' a gs := by
  rcases h with h | ⟨b, off, cs, ha, hb, hall⟩
  · exact Or.inl h
  · exact Or.inr ⟨b, off, cs, ha, hE.block hb, hall⟩
theorem glob_at {w : World} {base n : Nat} {a : Option Addr} {c : Nat} {rg : List (List Value × GPart)} (h : w.ownsRow base 196 257 (.slice a n c) rg.length (rg.flatMap (·.1))) (hall : ∀ x ∈ rg, PartC x.1.toArray (fun i => x.2.set i) x.2.many) :
    n = rg.length ∧ GlobAt w a (rg.map (·.2)) := by
  obtain ⟨_, ⟨hv, h0⟩ | ⟨g, cap, cur, hv, hg, hb, _, _, _, hx⟩⟩ := h
  · simp only [Value.slice.injEq] at hv
    exact ⟨by rw [hv.2.1, h0], Or.inl (by rw [List.eq_nil_of_length_eq_zero h0]; rfl)⟩
  · simp only [Value.slice.injEq] at hv
    obtain ⟨rfl, rfl, rfl⟩ := hv
    refine ⟨rfl, Or.inr ⟨g, 0, cur, rfl, hb, fun i hi => ?_⟩⟩
    rw [List.length_map] at hi
    refine ⟨rg[i].1, by rw [List.getElem_map]; exact hall _ (List.getElem_mem hi), fun j v hj => ?_⟩
    have hl := part_len (hall _ (List.getElem_mem hi))
    have hj4 : j < 257 := by
      have := (List.getElem?_eq_some_iff.1 hj).1
      omega
    rw [Nat.zero_add, ← Array.getElem?_toList]
    have e : (cur.toList.take (rg.length * 257))[i * 257 + j]? = (rg.flatMap (·.1))[i * 257 + j]? := by rw [hx]
    rw [List.getElem?_take_of_lt (by omega)] at e
    rw [e, flat_part rg i j hi (fun x hx => part_len (hall x hx)) hj4]
    exact hj
/-- What the program reads a pattern as. -/
def ReadTold (s : ByteArray) (w : World) (e : Ending) (w' : World) : Prop := ∃ a n c code, e = .returned (.tuple #[.agg #[.slice a n c], .int .i64 code]) ∧ Ext w w' ∧
  match (if s.size > 64 then none else allF (txt s)) with
  | none => code ≠ 0
  | some gs => code = 0 ∧ n = gs.length ∧ n ≤ s.size ∧ GlobAt w' a gs

set_option maxHeartbeats 4000000 in
set_option maxRecDepth 100000 in
theorem read_any (s : ByteArray) (w : World) :
    Calls Tryz.prog 143 #[.string s] w (ReadTold s w) := by
  obtain ⟨i0, hi, hz0, hz1, hz2'⟩ := info_parts (P := Tryz.prog) (e := 196) (z := .agg noPart) (size := 257) (bytes := 257) (by kernel_rfl)
  have HI := Lib.hid hi; clear hi
  by_cases hs : 64 < s.size
  · go_enter Tryz.func143, Tryz.ntmps143
    go_wp2
    refine bodyPost_ret (res_cell_tmp rfl rfl rfl ((by exact heap_at _ _ rfl)) (by kernel_rfl) (by kernel_rfl)) rfl ?_
    exact ⟨none, 0, 0, 5, rfl, (Ext.refl w).alloc _, by rw [if_pos hs]; exact fun h => by cases h⟩
  · have hs' : s.size ≤ 64 := by omega
    go_enter Tryz.func143, Tryz.ntmps143
    go_wp2
    go_loopw [4, 5] (fun v i w' => ∃ k : Nat, k ≤ s.size ∧ i = .int .i64 k ∧ ReadInv w s k v w') (fun _ i _ => s.size - (intOf i).toNat)
    case atStart => exact ⟨0, Nat.zero_le _, rfl, [], (txt s).length + 1, World.ownsRow_nil _ _ _ _, (Ext.refl w).alloc _, heap_at _ _ rfl, fun x hx => by simp at hx, by simp [allF], by rw [txt_len]; omega, Nat.zero_le _⟩
    case round =>
      obtain ⟨k, hk, rfl, hinv⟩ := hrel
      by_cases hlt : k < s.size
      · obtain ⟨rg, f, hown, hE, hP, hall, hpf, hf, hlen⟩ := hinv
        obtain ⟨va, vc, rfl⟩ := owns_slice hown
        have hwl := blk_lt hP
        have HOWN := Lib.hid hown; clear hown
        have HE := Lib.hid hE; clear hE
        have HP := Lib.hid hP; clear hP
        have HALL := Lib.hid hall; clear hall
        have HPF := Lib.hid hpf; clear hpf
        have hm := one_any s k wr (by omega) hlt
        have HM := Lib.hid hm; clear hm
        go_upto_region 7 with (first | (go_at_call 150; refine (HM.out).mono ?_; rintro e w2 ⟨cs, z, ok, rfl, hE2, hcs, hc1, hmt⟩; have HMT := Lib.hid hmt; clear hmt; have HCS := Lib.hid hcs; clear hcs; have HC1 := Lib.hid hc1; clear hc1; have HE2 := Lib.hid hE2; clear hE2) | (refine wpList_alloc_row rfl rfl zero_part ?_) | (refine wpList_store_blk rfl rfl rfl rfl (heap_new _ _) (by rw [HCS.out, noPart_size]) (by rw [size_part, HCS.out]) HC1.out ?_))
        have hz2 := HE2.out.size
        cases ok
        · have ho : Hid (oneF ((txt s).drop k) = none) := Lib.hid (by
            have h := HMT.out
            cases ho : oneF ((txt s).drop k) with
            | none => rfl
            | some x => rw [ho] at h; exact absurd h.1 (by decide))
          go_wp2_with (refine wpList_store_blk rfl rfl rfl rfl (by (repeat with_reducible first | refine blk_drew ?_ | refine blk_alloc _ ?_ | refine blk_off (by omega) ?_ | refine blk_put (by omega) ?_); exact HE2.out.block HP.out) (by rfl) (by kernel_rfl) (by simp [Value.oneCell']) ?_)
          refine bodyPost_ret (res_cell_tmp rfl rfl rfl ((by exact putBlk_same _ (by simp [putBlk_size]; omega))) (by kernel_rfl) (by kernel_rfl)) rfl ?_
          exact ⟨none, 0, 0, 3, rfl, Ext.putNew (HE.out.trans (Ext.putNew (HE2.out.alloc _) hz2 _)) (Nat.le_refl _) _, by rw [if_neg hs, parse_bad HPF.out hf ho.out hlt]; exact fun h => by cases h⟩
        · obtain ⟨g, nx, hz, hcg, hnx1, hnx2, ho⟩ : ∃ g : GPart, ∃ nx : Nat, z = nx ∧ PartC cs (fun i => g.set i) g.many ∧ k < nx ∧ nx ≤ s.size ∧ oneF ((txt s).drop k) = some (g, (txt s).drop nx) := by
            have h := HMT.out
            cases ho : oneF ((txt s).drop k) with
            | none => rw [ho] at h; cases h
            | some x =>
              obtain ⟨g, rest⟩ := x
              rw [ho] at h
              obtain ⟨_, h2, nx, h3, h4, h5, h6⟩ := h
              exact ⟨g, nx, h3, h2, h4, h5, by rw [h6]⟩
          subst hz
          obtain ⟨l, rfl⟩ : ∃ l : List Value, cs = l.toArray := ⟨cs.toList, by simp⟩
          have HO := Lib.hid ho; clear ho
          have HCG := Lib.hid hcg; clear hcg
          have hll : Hid (l.length = 257) := Lib.hid (part_len HCG.out)
          have hEA : Ext wr ((putBlk (w2.alloc (.cells noPart 196)) w2.heap.size (.cells l.toArray 196)).alloc (.cells l.toArray 196)) := (Ext.putNew (HE2.out.alloc _) hz2 _).alloc _
          have HEA := Lib.hid hEA; clear hEA
          have hl1 : ∀ x ∈ l, x.oneCell' = true := fun x hx => by have h := HC1.out; rw [Array.all_eq_true_iff_forall_mem] at h; exact h x (by simpa using hx)
          have HL1 := Lib.hid hl1; clear hl1
          go_wp2_with (first | (refine wpList_load_blk rfl rfl rfl (putBlk_same _ (by simp)) row_part (by rw [size_part, HCS.out]) ?_) | (refine wpList_slice_of rfl rfl (by kernel_rfl) rfl (built_slice HCS.out) ?_) | (at_builtin; refine wpList_append_own _ rfl _ _ 171 rfl (w.heap.size + 1) 196 i0 (.agg noPart) 257 257 (by kernel_rfl) HI.out hz0 hz1 hz2' rfl (by decide) _ _ _ rfl (own_ext HOWN.out HEA.out) ⟨_, 0, none⟩ 1 1 l rfl (by rw [hll.out]) (cells_at _ _ _ rfl) HL1.out (by unfold maxLen; omega) (by omega) (by simp [putBlk_size]; omega) ?_; intro v' w1 hown' hgrow' _; obtain ⟨va', vc', rfl⟩ := owns_slice hown'))
          have hnx : k < nx := hnx1
          refine ⟨⟨nx, by omega, rfl, ReadInv.next HE.out HP.out HALL.out HPF.out hf hlen HEA.out (own_ext HOWN.out HEA.out) HCG.out hgrow' hown' HO.out hnx1 hlt⟩, by simp [intOf]; omega⟩
      · obtain rfl : k = s.size := by omega
        obtain ⟨rg, hown, hE, hP, hall, hpf, hlen⟩ := ReadInv.stop hinv
        clear hinv
        obtain ⟨va, vc, rfl⟩ := owns_slice hown
        have HG := Lib.hid (glob_at hown hall).2
        have HE := Lib.hid hE; clear hE
        have hwl := blk_lt hP
        have HP := Lib.hid hP; clear hP
        have HPF := Lib.hid hpf; clear hpf
        clear hown hall
        go_wp2_with (refine wpList_store_blk rfl rfl rfl rfl HP.out (by rfl) (by kernel_rfl) (by simp [Value.oneCell']) ?_)
        refine bodyPost_ret (res_cell_tmp rfl rfl rfl ((by exact putBlk_same _ hwl)) (by kernel_rfl) (by kernel_rfl)) rfl ?_
        refine ⟨va, rg.length, vc, 0, rfl, HE.out.putNew (Nat.le_refl _) _, ?_⟩
        rw [if_neg hs, HPF.out]
        refine ⟨rfl, by simp, hlen, ?_⟩
        rcases HG.out with h | ⟨b, off, cs, ha, hb, hal⟩
        · exact Or.inl h
        · refine Or.inr ⟨b, off, cs, ha, ?_, hal⟩
          by_cases hbw : b = w.heap.size
          · subst hbw
            have h2 := HP.out
            rw [hb] at h2
            cases h2
          · exact (putBlk_other wr _ hbw).trans hb
end Go.Proofs.YtiopahkigbdmcaaGreat
/- The program's patterns (layer 2): going on behind the parts that may stand for nothing: the walk. -/

namespace Go.Proofs.YtiopahkigbdmcaaGreat
open Go Go.Proofs Go.RowKit

theorem skipOf_yes (l : List GPart) (F : Nat → Bool) (k j : Nat) (hk : k < l.length) (h1 : skipOf l F k k = true) (h2 : l[k].many = true) : (if j = k + 1 then true else skipOf l F k j) = skipOf l F (k + 1) j := by
  rw [skipOf, List.getElem?_eq_getElem hk]
  by_cases h : j = k + 1
  · subst h; simp [h1, h2]
  · simp [h]
theorem skipOf_no (l : List GPart) (F : Nat → Bool) (k j : Nat) (hk : k < l.length) (h : (skipOf l F k k && l[k].many) = false) : skipOf l F k j = skipOf l F (k + 1) j := by
  rw [skipOf, List.getElem?_eq_getElem hk]
  rw [Bool.and_comm] at h
  simp [h]
theorem GlobAt.range {w : World} {a : Option Addr} {gs : List GPart} (h : GlobAt w a gs) {i : Nat} (hi : i < gs.length) : ∃ b off, ∃ l : List Value, a = some ⟨b, off, none⟩ ∧ w.rangeAt b (off + i * 257) l ∧ PartC l.toArray (fun i' => gs[i].set i') gs[i].many := by
  rcases h with h | ⟨b, off, cs, ha, hb, hall⟩
  · subst h; simp at hi
  · obtain ⟨l, hl, hc⟩ := hall i hi
    exact ⟨b, off, l, ha, fun j v hj => blk_cell hb (hc j v hj), hl⟩
theorem GlobAt.off {w w' : World} {a : Option Addr} {gs : List GPart} {b n : Nat} {F : Nat → Bool} (h : GlobAt w a gs) (hR : BoolRow w b n F) (hE : Off b w w') : GlobAt w' a gs := by
  rcases h with h | ⟨b', off, cs, ha, hb, hall⟩
  · exact Or.inl h
  · refine Or.inr ⟨b', off, cs, ha, hE.block hb (fun e => ?_), hall⟩
    subst e
    obtain ⟨_, h1, _⟩ := hR
    rw [hb] at h1
    cases h1
/-- Going on: the row b holds what is gone on to; all else is as it was. -/
def SkipTold (gs : List GPart) (F : Nat → Bool) (b : Nat) (w : World) (e : Ending) (w' : World) : Prop := e = .returned (.tuple #[]) ∧ BoolRow w' b (gs.length + 1) (skipOf gs F gs.length) ∧ Off b w w'

set_option maxHeartbeats 4000000 in
set_option maxRecDepth 100000 in
theorem skip_any (a : Option Addr) (gs : List GPart) (c b cap : Nat) (F : Nat → Bool) (w : World) (hn : gs.length ≤ 1000) (hG : GlobAt w a gs) (hR : BoolRow w b (gs.length + 1) F) :
    Calls Tryz.prog 151 #[.agg #[.slice a gs.length c], .slice (some ⟨b, 0, none⟩) (gs.length + 1) cap] w (SkipTold gs F b w) := by
  have HG := Lib.hid hG; clear hG
  have hbw := hR.lt
  obtain ⟨n, hnn⟩ : ∃ n, gs.length = n := ⟨_, rfl⟩
  have HN := Lib.hid hnn
  unfold SkipTold
  rw [hnn] at hn hR ⊢
  clear hnn
  have HR := Lib.hid hR; clear hR
  go_enter Tryz.func151, Tryz.ntmps151
  go_wp2
  go_loopw [9] (fun i w' => ∃ k : Nat, k ≤ n ∧ i = .int .i64 k ∧ BoolRow w' b (n + 1) (skipOf gs F k) ∧ Off b w w') (fun i _ => n - (intOf i).toNat)
  case atStart => exact ⟨0, Nat.zero_le _, rfl, HR.out.ext ((Ext.refl w).alloc _), (Off.refl b w).alloc _⟩
  case round =>
    obtain ⟨k, hk, rfl, hrow, hoff⟩ := hrel
    by_cases hlt : k < n
    · have hkn : k < gs.length := by rw [HN.out]; exact hlt
      obtain ⟨pb, off, l, rfl, hrg, hpc⟩ := (HG.out.off HR.out hoff).range hkn
      obtain ⟨m, hm⟩ : ∃ m, gs[k].many = m := ⟨_, rfl⟩
      obtain ⟨f, hf⟩ : ∃ f, skipOf gs F k k = f := ⟨_, rfl⟩
      have HPC := Lib.hid hpc; clear hpc
      have HRG := Lib.hid hrg; clear hrg
      have hm256 : l.toArray[256]? = some (.bool m) := by rw [← hm]; exact HPC.out.2.2
      have HSZ : Hid (l.toArray.size = 257) := Lib.hid HPC.out.1
      have HM := Lib.hid hm; clear hm
      have HF := Lib.hid hf; clear hf
      obtain ⟨wy, hwy⟩ : ∃ wy, putBlk (wr.alloc (.cells noPart 196)) wr.heap.size (.cells l.toArray 196) = wy := ⟨_, rfl⟩
      have hEy : Ext wr wy := by rw [← hwy]; exact Ext.putNew ((Ext.refl wr).alloc _) (Nat.le_refl _) _
      have cM : wy.cell? ⟨wr.heap.size, 256, none⟩ = some (.bool m) := by rw [← hwy]; exact (putBlk_cell (by simp)).trans hm256
      have cR : wy.cell? ⟨b, k, none⟩ = some (.bool f) := by rw [hEy.cell hrow.lt, hrow.cell (by omega), HF.out]
      have cR1 : wy.cell? ⟨b, k + 1, none⟩ = some (.bool (skipOf gs F k (k + 1))) := by rw [hEy.cell hrow.lt, hrow.cell (by omega)]
      have fR : wy.frozen? ⟨b, k + 1, none⟩ = false := by rw [hEy.frozen hrow.lt, hrow.free]
      have HWY := Lib.hid hwy; clear hwy
      have HEY := Lib.hid hEy; clear hEy
      have HRO := Lib.hid hrow; clear hrow
      have HOF := Lib.hid hoff; clear hoff
      clear hm256
      go_upto_region 4 with (first | (refine wpList_alloc_row rfl rfl zero_part ?_) | (refine wpList_load_part rfl rfl rfl (cs := l.toArray) (by simpa using HRG.out) row_part (by rw [size_part, HSZ.out]) ?_) | (refine wpList_store_blk rfl rfl rfl rfl (heap_new _ _) (by rw [HSZ.out, noPart_size]) (by rw [size_part, HSZ.out]) HPC.out.one ?_))
      rw [HWY.out]
      have hoy : Hid (Off b w wy) := Lib.hid (HOF.out.trans (Off.of_ext HEY.out))
      have hry : Hid (BoolRow wy b (n + 1) (skipOf gs F k)) := Lib.hid (HRO.out.ext HEY.out)
      by_cases hfm : f = true ∧ m = true
      · obtain ⟨rfl, rfl⟩ := hfm
        go_wp2
        go_roundw
        case rel => exact ⟨k + 1, by omega, by go_num, (hry.out.set (k + 1) true).congr (fun j _ => skipOf_yes gs F k j hkn HF.out HM.out), hoy.out.setCell _ _⟩
        case measure => simp [intOf]; omega
      · have hno : Hid ((skipOf gs F k k && gs[k].many) = false) := Lib.hid (by rw [HF.out, HM.out]; cases f <;> cases m <;> simp_all)
        cases f
        · clear hfm
          go_wp2
          go_roundw
          case rel => exact ⟨k + 1, by omega, by go_num, hry.out.congr (fun j _ => skipOf_no gs F k j hkn hno.out), hoy.out⟩
          case measure => simp [intOf]; omega
        · cases m
          · clear hfm
            go_wp2
            go_roundw
            case rel => exact ⟨k + 1, by omega, by go_num, hry.out.congr (fun j _ => skipOf_no gs F k j hkn hno.out), hoy.out⟩
            case measure => simp [intOf]; omega
          · exact absurd ⟨rfl, rfl⟩ hfm
    · obtain rfl : k = n := by omega
      have HRO := Lib.hid hrow; clear hrow
      have HOF := Lib.hid hoff; clear hoff
      go_wp2
      go_end0
      exact ⟨rfl, HRO.out, HOF.out⟩
end Go.Proofs.YtiopahkigbdmcaaGreat
/- The program's patterns (layer 2): which texts they stand for: the walk. -/
namespace Go.Proofs.YtiopahkigbdmcaaGreat
open Go Go.Proofs Go.RowKit

theorem next_no (l : List GPart) (F : Nat → Bool) (c : Int) (k j : Nat) (hk : k < l.length) (h : (F k && l[k].set c) = false) : nextOf l F c k j = nextOf l F c (k + 1) j := by
  rw [nextOf, List.getElem?_eq_getElem hk]
  simp [h]
theorem next_many (l : List GPart) (F : Nat → Bool) (c : Int) (k j : Nat) (hk : k < l.length) (h : (F k && l[k].set c) = true) (hm : l[k].many = true) : (if j = k then true else nextOf l F c k j) = nextOf l F c (k + 1) j := by
  rw [nextOf, List.getElem?_eq_getElem hk]
  simp only [h, hm, if_true, Bool.true_and]
  by_cases hj : j = k <;> simp [hj]
theorem next_one (l : List GPart) (F : Nat → Bool) (c : Int) (k j : Nat) (hk : k < l.length) (h : (F k && l[k].set c) = true) (hm : l[k].many = false) : (if j = k + 1 then true else nextOf l F c k j) = nextOf l F c (k + 1) j := by
  rw [nextOf, List.getElem?_eq_getElem hk]
  simp only [h, hm, Bool.false_eq_true, if_false, Bool.true_and]
  by_cases hj : j = k + 1 <;> simp [hj]
theorem lives_n (l : List GPart) (F : Nat → Bool) (c : Int) (r : List Int) (n : Nat) (hn : l.length = n) (hF : Shut l F) : (Lives l (skipOf l (nextOf l F c n) n) r ↔ Lives l F (c :: r)) ∧ Shut l (skipOf l (nextOf l F c n) n) := by
  subst hn
  exact ⟨lives_step l F c r hF, skipOf_shut l _⟩
/-- The states on their way. -/
def NowInv (w0 : World) (s : ByteArray) (gs : List GPart) (n : Nat) (pat : Value) (i b : Nat) (F : Nat → Bool) (w : World) : Prop :=
  BoolRow w b (n + 1) F ∧ w0.heap.size ≤ b ∧ w.heap[w0.heap.size]? = some (.cells #[pat] 173 (0, 0)) ∧ Ext w0 w ∧ Shut gs F ∧ (Lives gs F ((txt s).drop i) ↔ gmatch gs (txt s) = true)

set_option maxHeartbeats 4000000 in
set_option maxRecDepth 100000 in
theorem glob_any (s : ByteArray) (a : Option Addr) (gs : List GPart) (c : Nat) (w : World) (hs : s.size ≤ 1000) (hg : gs.length ≤ 1000) (hG : GlobAt w a gs) :
    Calls Tryz.prog 144 #[.agg #[.slice a gs.length c], .string s] w (RetV w (.bool (gmatch gs (txt s)))) := by
  have HG := Lib.hid hG; clear hG
  obtain ⟨n, hn⟩ : ∃ n, gs.length = n := ⟨_, rfl⟩
  rw [hn] at hg ⊢
  have HN := Lib.hid hn; clear hn
  have hmk := make_bools n hg
  have hm0 : (madeCells #[Value.bool false] (n + 1))[0]? = some (.bool false) := by simp [madeCells]
  obtain ⟨wb, hwb⟩ : ∃ wb, ((w.alloc (.cells #[.slice a n c] 173)).alloc (.cells ((madeCells #[.bool false] (n + 1)).setIfInBounds 0 (.bool true)) 4)) = wb := ⟨_, rfl⟩
  have hR0 : BoolRow wb (w.heap.size + 1) (n + 1) (fun j => j == 0) := by
    rw [← hwb]
    refine ⟨_, heap_at _ _ (by simp), by simp [size_madeCells], fun i hi => ?_⟩
    by_cases h : i = 0
    · subst h; rw [Array.getElem?_setIfInBounds_self_of_lt (by simp [size_madeCells])]; rfl
    · rw [Array.getElem?_setIfInBounds_ne (fun e => h e.symm)]; simp [madeCells, hi, Nat.mod_one, h]
  have hE0 : Ext w wb := by rw [← hwb]; exact ((Ext.refl w).alloc _).alloc _
  have hP0 : wb.heap[w.heap.size]? = some (.cells #[.slice a n c] 173 (0, 0)) := by rw [← hwb]; exact heap_before _ _ (heap_at _ _ rfl)
  have hg0 : GlobAt wb a gs := HG.out.ext hE0
  have h1 := skip_any a gs c (w.heap.size + 1) (n + 1) (fun j => j == 0) wb (by rw [HN.out]; exact hg) hg0 (by rw [HN.out]; exact hR0)
  unfold SkipTold at h1
  rw [HN.out] at h1
  have HS1 := Lib.hid h1; clear h1
  have hz0 := hE0.size
  have hbl := blk_lt hP0
  have HR0 := Lib.hid hR0; clear hR0
  have HE0 := Lib.hid hE0; clear hE0
  have HP0 := Lib.hid hP0; clear hP0
  have HWB := Lib.hid hwb; clear hwb
  clear hg0
  go_enter Tryz.func144, Tryz.ntmps144
  go_wp2_with fail
  rw [HWB.out]
  refine (HS1.out).mono ?_
  rintro e w1 ⟨rfl, hr1, ho1⟩
  have hinv0 : NowInv w s gs n (.slice a n c) 0 (w.heap.size + 1) (skipOf gs (fun j => j == 0) n) w1 := by
    refine ⟨hr1, by omega, ho1.block HP0.out (by omega), ?_, ?_, ?_⟩
    · exact ho1.below (by omega) (by omega) |> fun h => Below.trans HE0.out h
    · have := skipOf_shut gs (fun j => j == 0)
      rw [HN.out] at this
      exact this
    · have := lives_start gs (txt s)
      rw [HN.out] at this
      simpa using this
  have HI0 := Lib.hid hinv0; clear hinv0 hr1 ho1
  go_wp2_with fail
  go_loopw [5, 22] (fun v i w' => ∃ ii b F, ii ≤ s.size ∧ i = .int .i64 (ii : Nat) ∧ v = .slice (some ⟨b, 0, none⟩) (n + 1) (n + 1) ∧ NowInv w s gs n (.slice a n c) ii b F w') (fun _ i _ => s.size - (intOf i).toNat)
  case atStart => exact ⟨0, w.heap.size + 1, _, Nat.zero_le _, rfl, rfl, HI0.out⟩
  case round =>
    obtain ⟨i, b, F, hi, rfl, rfl, hrow, hb, hP, hE, hsh, hlv⟩ := hrel
    have hbl := hrow.lt
    have hPl := blk_lt hP
    by_cases hlt : i < s.size
    · have cP := blk_cell hP (i := 0) rfl
      have hEs := hE.size
      obtain ⟨cI, hcI⟩ : ∃ cI : Int, ((s[i].toNat : Nat) : Int) = cI := ⟨_, rfl⟩
      have HCI := Lib.hid hcI; clear hcI
      have hby : s[i].toNat < 256 := s[i].toNat_lt
      have hby2 : ((s[i].toNat : Nat) : Int) < 256 := by omega
      have HROW := Lib.hid hrow; clear hrow
      have HP := Lib.hid hP; clear hP
      have HE := Lib.hid hE; clear hE
      have HSH := Lib.hid hsh; clear hsh
      have HLV := Lib.hid hlv; clear hlv
      have hnx : BoolRow (wr.alloc (.cells (madeCells #[.bool false] (n + 1)) 4)) wr.heap.size (n + 1) (nextOf gs F cI 0) := BoolRow.new wr (n + 1)
      have HNX := Lib.hid hnx; clear hnx
      go_wp2
      obtain ⟨wo, rfl⟩ : ∃ wo : World, wo = wr := ⟨_, rfl⟩
      clear cP
      go_loopw [33] (fun kv w' => ∃ k : Nat, k ≤ n ∧ kv = .int .i64 k ∧ BoolRow w' wo.heap.size (n + 1) (nextOf gs F cI k) ∧ Ext wo w') (fun kv _ => n - (intOf kv).toNat)
      case atStart => exact ⟨0, Nat.zero_le _, rfl, HNX.out, (Ext.refl wo).alloc _⟩
      case round =>
        obtain ⟨k, hk, rfl, hnr, hE2⟩ := hrel
        have hz2 := hE2.size
        have hnl := hnr.lt
        by_cases hkn : k < n
        · have hkg : k < gs.length := by rw [HN.out]; exact hkn
          obtain ⟨pb, off, l, rfl, hrg, hpc⟩ := (HG.out.ext (HE.out.trans hE2)).range hkg
          obtain ⟨m, hm⟩ : ∃ m, gs[k].many = m := ⟨_, rfl⟩
          obtain ⟨st, hst⟩ : ∃ st, gs[k].set cI = st := ⟨_, rfl⟩
          obtain ⟨f, hf⟩ : ∃ f, F k = f := ⟨_, rfl⟩
          have HPC := Lib.hid hpc; clear hpc
          have HRG := Lib.hid hrg; clear hrg
          have hm256 : l.toArray[256]? = some (.bool m) := by rw [← hm]; exact HPC.out.2.2
          have hs256 : l.toArray[s[i].toNat]? = some (.bool st) := by rw [← hst, ← HCI.out]; exact HPC.out.2.1 _ hby
          have HSZ : Hid (l.toArray.size = 257) := Lib.hid HPC.out.1
          have HM := Lib.hid hm; clear hm
          have HST := Lib.hid hst; clear hst
          have HF := Lib.hid hf; clear hf
          obtain ⟨wy, hwy⟩ : ∃ wy, putBlk (wr.alloc (.cells noPart 196)) wr.heap.size (.cells l.toArray 196) = wy := ⟨_, rfl⟩
          have hEy : Ext wr wy := by rw [← hwy]; exact Ext.putNew ((Ext.refl wr).alloc _) (Nat.le_refl _) _
          have cM : wy.cell? ⟨wr.heap.size, 256, none⟩ = some (.bool m) := by rw [← hwy]; exact (putBlk_cell (by simp)).trans hm256
          have cS : wy.cell? ⟨wr.heap.size, s[i].toNat, none⟩ = some (.bool st) := by rw [← hwy]; exact (putBlk_cell (by simp)).trans hs256
          have cN : wy.cell? ⟨b, k, none⟩ = some (.bool f) := by rw [(hE2.trans hEy).cell hbl, HROW.out.cell (by omega), HF.out]
          have cX : wy.cell? ⟨wo.heap.size, k, none⟩ = some (.bool (nextOf gs F cI k k)) := by rw [hEy.cell hnl, hnr.cell (by omega)]
          have cX1 : wy.cell? ⟨wo.heap.size, k + 1, none⟩ = some (.bool (nextOf gs F cI k (k + 1))) := by rw [hEy.cell hnl, hnr.cell (by omega)]
          have fX : wy.frozen? ⟨wo.heap.size, k, none⟩ = false := by rw [hEy.frozen hnl, hnr.free]
          have fX1 : wy.frozen? ⟨wo.heap.size, k + 1, none⟩ = false := by rw [hEy.frozen hnl, hnr.free]
          have HNY := Lib.hid (hnr.ext hEy)
          have HEY := Lib.hid (hE2.trans hEy)
          have HWY := Lib.hid hwy; clear hwy
          clear hm256 hs256 hnr hE2 hEy
          go_upto_region 11 with (first | (refine wpList_alloc_row rfl rfl zero_part ?_) | (refine wpList_load_part rfl rfl rfl (cs := l.toArray) (by simpa using HRG.out) row_part (by rw [size_part, HSZ.out]) ?_) | (refine wpList_store_blk rfl rfl rfl rfl (heap_new _ _) (by rw [HSZ.out, noPart_size]) (by rw [size_part, HSZ.out]) HPC.out.one ?_))
          rw [HWY.out]
          by_cases hfs : f = true ∧ st = true
          · obtain ⟨rfl, rfl⟩ := hfs
            have hfs : Hid ((F k && gs[k].set cI) = true) := Lib.hid (by rw [HF.out, HST.out]; rfl)
            cases m
            · go_wp2
              go_roundw
              case rel => exact ⟨k + 1, by omega, by go_num, (HNY.out.set (k + 1) true).congr (fun j _ => next_one gs F cI k j hkg hfs.out HM.out), HEY.out.setNew (Nat.le_refl _) _⟩
              case measure => simp [intOf]; omega
            · go_wp2
              go_roundw
              case rel => exact ⟨k + 1, by omega, by go_num, (HNY.out.set k true).congr (fun j _ => next_many gs F cI k j hkg hfs.out HM.out), HEY.out.setNew (Nat.le_refl _) _⟩
              case measure => simp [intOf]; omega
          · have hno : Hid ((F k && gs[k].set cI) = false) := Lib.hid (by rw [HF.out, HST.out]; cases f <;> cases st <;> simp_all)
            cases f
            · clear hfs
              go_wp2
              go_roundw
              case rel => exact ⟨k + 1, by omega, by go_num, HNY.out.congr (fun j _ => next_no gs F cI k j hkg hno.out), HEY.out⟩
              case measure => simp [intOf]; omega
            · cases st
              · clear hfs
                go_wp2
                go_roundw
                case rel => exact ⟨k + 1, by omega, by go_num, HNY.out.congr (fun j _ => next_no gs F cI k j hkg hno.out), HEY.out⟩
                case measure => simp [intOf]; omega
              · exact absurd ⟨rfl, rfl⟩ hfs
        · obtain rfl : k = n := by omega
          have cP2 : wr.cell? ⟨w.heap.size, 0, none⟩ = some (.slice a k c) := blk_cell (hE2.block HP.out) rfl
          have hg2 := HG.out.ext (HE.out.trans hE2)
          have h1 := skip_any a gs c wo.heap.size (k + 1) (nextOf gs F cI k) wr (by rw [HN.out]; exact hg) hg2 (by rw [HN.out]; exact hnr)
          unfold SkipTold at h1
          rw [HN.out] at h1
          have HS1 := Lib.hid h1; clear h1
          have HE2 := Lib.hid hE2; clear hE2
          have HNR := Lib.hid hnr; clear hnr
          clear hg2
          go_wp2_with (go_at_call 151; refine (HS1.out).mono ?_; rintro e w2 ⟨rfl, hr2, ho2⟩; have HR2 := Lib.hid hr2; clear hr2; have HO2 := Lib.hid ho2; clear ho2)
          have hdrop : (txt s).drop i = cI :: (txt s).drop (i + 1) := by rw [List.drop_eq_getElem_cons (by rw [txt_len]; exact hlt), txt_at s i hlt, HCI.out]
          have hl := lives_n gs F cI ((txt s).drop (i + 1)) k HN.out HSH.out
          refine ⟨⟨i + 1, wo.heap.size, _, by omega, by go_num, rfl, HR2.out, by omega, HO2.out.block (HE2.out.block HP.out) (by omega), Below.trans (HE.out.trans HE2.out) (HO2.out.below (by omega) (by omega)), hl.2, hl.1.trans (by rw [← hdrop]; exact HLV.out)⟩, by simp [intOf]; omega⟩
    · have hie : i = s.size := by omega
      have cP := blk_cell hP (i := 0) rfl
      have cN := hrow.cell (i := n) (by omega)
      have hle : F n = gmatch gs (txt s) := by
        rw [Bool.eq_iff_iff, ← hlv, hie, List.drop_eq_nil_of_le (by rw [txt_len]; exact Nat.le_refl _)]
        have := lives_end gs F hsh
        rw [HN.out] at this
        exact this.symm
      rw [hle] at cN
      have HE := Lib.hid hE; clear hE
      clear hrow hP hsh hlv hle
      have HIE := Lib.hid hie; clear hie
      go_wp2
      go_ret
      exact ⟨rfl, HE.out⟩
end Go.Proofs.YtiopahkigbdmcaaGreat
/- Whether a rule's core matches a path, or one of its ends (layer 3): the walk. -/
namespace Go.Proofs.YtiopahkigbdmcaaGreat
open Go Go.Proofs Go.RowKit
attribute [local go_sem] Oper.semAt_some

def hitsF (gs : List GPart) (whole : Bool) (l : List Int) : Bool := if whole then gmatch gs l else (endsOf (splitF l)).any (gmatch gs)
theorem ends_len (L : List (List Int)) : ∀ x ∈ endsOf L, x.length ≤ (glueF L).length := by
  induction L with
  | nil => intro x hx; simp [endsOf] at hx
  | cons a r ih =>
    intro x hx
    rw [endsOf] at hx
    rcases List.mem_cons.1 hx with rfl | hx
    · exact Nat.le_refl _
    · by_cases hr : r = []
      · subst hr; simp [endsOf] at hx
      · rw [glueF_cons a r hr]
        have := ih x hx
        simp; omega
theorem ends_byte (L : List (List Int)) (h : ∀ y ∈ L, ∀ x ∈ y, 0 ≤ x ∧ x < 256) : ∀ e ∈ endsOf L, ∀ x ∈ e, 0 ≤ x ∧ x < 256 := by
  have hg : ∀ L : List (List Int), (∀ y ∈ L, ∀ x ∈ y, 0 ≤ x ∧ x < 256) → ∀ x ∈ glueF L, 0 ≤ x ∧ x < 256 := by
    intro L
    induction L with
    | nil => intro _ x hx; simp [glueF] at hx
    | cons a r ih =>
      intro h x hx
      by_cases hr : r = []
      · subst hr; exact h a (by simp) x hx
      · rw [glueF_cons a r hr, List.mem_append, List.mem_cons] at hx
        rcases hx with hx | rfl | hx
        · exact h a (by simp) x hx
        · omega
        · exact ih (fun y hy => h y (by simp [hy])) x hx
  induction L with
  | nil => intro e he; simp [endsOf] at he
  | cons a r ih =>
    intro e he
    rw [endsOf] at he
    rcases List.mem_cons.1 he with rfl | he
    · exact hg _ h
    · exact ih (fun y hy => h y (by simp [hy])) e he
theorem any_take {α : Type} (l : List α) (p : α → Bool) (k : Nat) (h : k < l.length) : (l.take (k + 1)).any p = ((l.take k).any p || p l[k]) := by
  rw [← List.take_append_getElem h, List.any_append]; simp

theorem own_size {B m : Nat} : OwnFrom B (fun (_ : Nat) W => m < W.heap.size) := fun _ _ _ _ hs hg _ => Nat.lt_of_lt_of_le hs hg.size
theorem stays_size {bc m : Nat} : Stays bc (fun _ W => m < W.heap.size) := fun _ _ v hs => by simpa [World.setCell] using hs
set_option maxRecDepth 100000 in
theorem endsP_any (p : ByteArray) (w : World) : Calls Tryz.prog 145 #[.string p] w (fun e w' => e = .returned (.func (.func 152) #[] #[.pointer (some ⟨w.heap.size, 0, none⟩)]) ∧ w' = w.alloc (.cells #[.string p] 9)) := by
  go_enter Tryz.func145, Tryz.ntmps145
  go_wp2
  go_ret
  exact ⟨rfl, rfl⟩

set_option maxRecDepth 100000 in
set_option maxHeartbeats 1000000 in
theorem hits_any (core : ByteArray) (whole dir : Bool) (a : Option Addr) (gs : List GPart) (c : Nat) (p : ByteArray) (w : World) (hp : p.size ≤ 1000) (hg : gs.length ≤ 1000) (hG : GlobAt w a gs) :
    Calls Tryz.prog 128 #[.agg #[.string core, .bool whole, .bool dir, .slice a gs.length c], .string p] w (RetV w (.bool (hitsF gs whole (txt p)))) := by
  have HM := Lib.hid (fun s a c w => glob_any s a gs c w)
  obtain ⟨n, hn⟩ : ∃ n, gs.length = n := ⟨_, rfl⟩
  rw [hn] at hg HM ⊢
  clear hn
  have HG := Lib.hid hG; clear hG
  refine (callsIn_wide (n := 3)).1 ?_
  refine callsIn_of_wp_marks Tryz.func128 rfl trivial ?_ rfl
  simp only [Tryz.ntmps128, List.size_toArray, List.length_cons, List.length_nil, Nat.reduceAdd, Nat.reduceSub, Array.replicate_succ, Array.replicate_zero, List.push_toArray, List.append_toArray, List.nil_append, List.cons_append]
  cases whole
  · obtain ⟨S, hS⟩ : ∃ S, endsOf (splitF (txt p)) = S := ⟨_, rfl⟩
    have hpl : (endVals p).length = S.length := by rw [endVals, hS, List.length_map]
    have hpk : ∀ k (hk : k < (endVals p).length), (endVals p)[k] = .string (strOf (S.getD k [])) := by
      intro k hk
      have hk' : k < S.length := by omega
      have : (endVals p)[k]? = some (.string (strOf (S.getD k []))) := by rw [endVals, hS, List.getElem?_map, List.getElem?_eq_getElem hk', List.getD_eq_getElem?_getD, List.getElem?_eq_getElem hk']; rfl
      rw [List.getElem?_eq_getElem hk] at this
      exact Option.some.inj this
    have hnm : ∀ k (hk : k < S.length), txt (strOf (S.getD k [])) = S[k] ∧ (strOf (S.getD k [])).size ≤ 1000 := by
      intro k hk
      rw [List.getD_eq_getElem?_getD, List.getElem?_eq_getElem hk]
      have hm : S[k] ∈ endsOf (splitF (txt p)) := by rw [hS]; exact List.getElem_mem hk
      refine ⟨txt_strOf _ (ends_byte _ (split_byte _ (txt_byte p)) _ hm), ?_⟩
      have := ends_len _ _ hm
      rw [glue_split, txt_len] at this
      show (strOf S[k]).size ≤ 1000
      rw [strOf_size]; omega
    have hres : hitsF gs false (txt p) = S.any (gmatch gs) := by rw [← hS]; rfl
    have HRES := Lib.hid hres; clear hres
    have HPK := Lib.hid hpk; clear hpk
    have HNM := Lib.hid hnm; clear hnm
    have HPL := Lib.hid hpl; clear hpl
    clear hS
    gi_wp2_with (refine ⟨trivial, ?_⟩; gi_at_call 145; refine (callsIn_wide.2 (endsP_any _ _)).mono ?_; rintro e w' ⟨rfl, rfl⟩)
    obtain ⟨wo, hwo⟩ : ∃ wo, (((w.alloc (.cells #[.string core, .bool false, .bool dir, .slice a n c] 175)).alloc (.cells #[.bool false] 4)).alloc (.cells #[.string p] 9)) = wo := ⟨_, rfl⟩
    have hzo : wo.heap.size = w.heap.size + 3 := by rw [← hwo]; simp
    have hb0 : wo.heap[w.heap.size]? = some (.cells #[.string core, .bool false, .bool dir, .slice a n c] 175 (0, 0)) := by rw [← hwo]; exact heap_before _ _ (heap_before _ _ (heap_at _ _ rfl))
    have hb1 : wo.heap[w.heap.size + 1]? = some (.cells #[.bool false] 4 (0, 0)) := by rw [← hwo]; exact heap_before _ _ (heap_at _ _ (by simp))
    have hb2 : wo.heap[w.heap.size + 2]? = some (.cells #[.string p] 9 (0, 0)) := by rw [← hwo]; exact heap_at _ _ (by simp)
    have hE0 : Below w.heap.size w wo := by rw [← hwo]; exact ((((Ext.refl w).alloc _).alloc _).alloc _)
    rw [hwo]
    have hh := ends_hands 2 (w.heap.size + 2) p wo (by omega) hb2
    refine range_list (by omega) (gf := 152) (lb := #[.pointer (some ⟨w.heap.size + 2, 0, none⟩)]) (by simp [go_sem]) (enters_of Tryz.func152 (by kernel_rfl) rfl) hh rfl (by omega)
      (fun k W => W.heap[w.heap.size]? = some (.cells #[.string core, .bool false, .bool dir, .slice a n c] 175 (0, 0)) ∧ W.heap[w.heap.size + 1]? = some (.cells #[.bool false] 4 (0, 0)) ∧ (S.take k).any (gmatch gs) = false ∧ w.heap.size + 2 < W.heap.size ∧ Below w.heap.size w W)
      (fun _ W => W.heap[w.heap.size + 1]? = some (.cells #[.bool true] 4 (0, 0)) ∧ hitsF gs false (txt p) = true ∧ Below w.heap.size w W)
      (OwnFrom.and own_blk (OwnFrom.and own_blk (OwnFrom.and own_pure (OwnFrom.and own_size (own_below (Nat.le_refl _) (by omega))))))
      (OwnFrom.and own_blk (OwnFrom.and own_pure (own_below (Nat.le_refl _) (by omega))))
      ((stays_blk (by omega)).and ((stays_blk (by omega)).and (stays_pure.and (stays_size.and (stays_below (by omega))))))
      ⟨hb0, hb1, rfl, by omega, hE0⟩
      (fun k => { tmps := #[.agg #[.string core, .bool false, .bool dir, .slice a n c], .string p, .pointer (some ⟨w.heap.size, 0, none⟩), undef, .pointer (some ⟨w.heap.size + 1, 0, none⟩), .string (strOf (S.getD k [])), .pointer (some ⟨w.heap.size, 1, none⟩), .bool false, undef, undef, undef, undef, .string p, .func (.func 152) #[] #[.pointer (some ⟨w.heap.size + 2, 0, none⟩)], .string (strOf (S.getD k [])), undef, undef, undef, undef], defers := [] })
      ?assign ?body ?done ?stop
    case assign =>
      intro l k hk W K hK
      rw [HPK.out k hk]
      gi_wp2
      exact hK
    case body =>
      rintro l k W hk ⟨h0, h1, hany, hsz, hB⟩
      have hkS : k < S.length := by have := HPL.out; omega
      obtain ⟨hx1, hx2⟩ := HNM.out k hkS
      have hc3 : W.cell? ⟨w.heap.size, 3, none⟩ = some (.slice a n c) := blk_cell h0 rfl
      have hbl1 := blk_lt h1
      have HAT := Lib.hid (any_take S (gmatch gs) k hkS)
      obtain ⟨b, hb⟩ : ∃ b, gmatch gs S[k] = b := ⟨_, rfl⟩
      have hm := HM.out (strOf (S.getD k [])) a c W hx2 hg (HG.out.ext hB)
      rw [hx1, hb] at hm
      rw [hb] at HAT
      have HBB := Lib.hid hb; clear hb
      obtain ⟨x, hx⟩ : ∃ x, strOf (S.getD k []) = x := ⟨_, rfl⟩
      rw [hx] at hm ⊢
      have HM1 := Lib.hid hm; clear hm
      clear hx hx1 hx2
      have H0 := Lib.hid h0; clear h0
      have H1 := Lib.hid h1; clear h1
      have HB := Lib.hid hB; clear hB
      have HANY := Lib.hid hany; clear hany
      cases b
      · gi_wp2_with (refine ⟨trivial, ?_⟩; gi_at_call 144; refine (CallsIn.inRound l (callsIn_wide.2 HM1.out)).mono ?_; rintro e w2 ⟨rfl, hE2⟩; have HE2 := Lib.hid hE2; clear hE2)
        have hE2 : Ext W w2 := HE2.out
        exact ⟨keeps_ext hE2, KeepB.of_ext hE2 hsz, hE2.block H0.out, hE2.block H1.out, by rw [HAT.out, HANY.out]; rfl, Nat.lt_of_lt_of_le hsz hE2.size, Below.trans HB.out (Below.mono hE2 HB.out.size)⟩
      · gi_wp2_with (refine ⟨trivial, ?_⟩; gi_at_call 144; refine (CallsIn.inRound l (callsIn_wide.2 HM1.out)).mono ?_; rintro e w2 ⟨rfl, hE2⟩; have hb2 := Ext.block hE2 H1.out; obtain ⟨hc2, hf2⟩ := cell_blk hb2; have HB2 := Lib.hid hb2; clear hb2; have HE2 := Lib.hid hE2; clear hE2)
        have hE2 : Ext W w2 := HE2.out
        have hyes : hitsF gs false (txt p) = true := by
          rw [HRES.out]
          have h := HAT.out
          rw [Bool.or_true, List.any_eq_true] at h
          obtain ⟨y, hy, hy2⟩ := h
          rw [List.any_eq_true]
          exact ⟨y, List.mem_of_mem_take hy, hy2⟩
        exact ⟨(keeps_ext hE2).trans (KeepsOthers.setCell _ _ _), blk_set _ HB2.out, hyes, (Below.trans HB.out (Below.mono hE2 HB.out.size)).setCell (p := ⟨w.heap.size + 1, 0, none⟩) (by simp) _⟩
    case done =>
      rintro D W hD ⟨h0, h1, hany, hsz, hB⟩ hK
      obtain ⟨c0, f0⟩ := cell_blk h1
      have hgood : Hid (hitsF gs false (txt p) = false) := Lib.hid (by
        rw [HPL.out, List.take_of_length_le (Nat.le_refl _)] at hany
        rw [HRES.out, hany])
      have H1 := Lib.hid h1; clear h1
      have HB := Lib.hid hB; clear hB
      have HK := Lib.hid hK; clear hK
      clear h0 hany
      gi_wp2
      have hK' := (KeepsOthers.setCell W ⟨w.heap.size + 1, 0, none⟩ (.bool false)).same D _ HK.out rfl
      refine ⟨by simp, .inl ⟨_, _, rfl, run_takeDeferred hK', ?_⟩⟩
      have hc5 := cell_kept ((cell_blk (blk_set (i := 0) (.bool false) H1.out)).1) (grownBy_putObj' _ D (.deferred none)) (fun r e => by cases e; exact ⟨_, hK', rfl⟩)
      refine ⟨.bool false, ?_, by rw [hgood.out], (HB.out.setCell (p := ⟨w.heap.size + 1, 0, none⟩) (by simp) _).trans (belowK_b (w := w) (Nat.le_refl _) _ D _ _ (by omega) hK' rfl rfl)⟩
      simp [results, Tryz.f128, go_sem, hc5]
    case stop =>
      rintro D k W hD hk ⟨h0, h1, hB⟩ hK
      have HB := Lib.hid hB; clear hB
      have HK := Lib.hid hK; clear hK
      have H1 := Lib.hid h1; clear h1
      obtain ⟨c0, f0⟩ := cell_blk h0
      clear h0
      gi_wp2
      refine ⟨by simp, .inl ⟨_, _, rfl, run_takeDeferred HK.out, ?_⟩⟩
      have hc5 := cell_kept c0 (grownBy_putObj' _ D (.deferred none)) (fun r e => by cases e; exact ⟨_, HK.out, rfl⟩)
      refine ⟨.bool true, ?_, by rw [H1.out], HB.out.trans (belowK_b (w := w) (Nat.le_refl _) W D _ _ (by omega) HK.out rfl rfl)⟩
      simp [results, Tryz.f128, go_sem, hc5]
  · have hres : hitsF gs true (txt p) = gmatch gs (txt p) := rfl
    have HRES := Lib.hid hres; clear hres
    have hm := HM.out p a c (w.alloc (.cells #[.string core, .bool true, .bool dir, .slice a n c] 175) |>.alloc (.cells #[.bool false] 4)) (by omega) hg (HG.out.ext (((Ext.refl w).alloc _).alloc _))
    have HM1 := Lib.hid hm; clear hm
    have hb1 : ((w.alloc (.cells #[.string core, .bool true, .bool dir, .slice a n c] 175)).alloc (.cells #[.bool false] 4)).heap[w.heap.size + 1]? = some (.cells #[.bool false] 4 (0, 0)) := heap_at _ _ (by simp)
    have HB1 := Lib.hid hb1; clear hb1
    gi_wp2_with (refine ⟨trivial, ?_⟩; gi_at_call 144; refine (callsIn_wide.2 HM1.out).mono ?_; rintro e w2 ⟨rfl, hE2⟩; have hb2 := Ext.block hE2 HB1.out; obtain ⟨hc2, hf2⟩ := cell_blk hb2; have HB2 := Lib.hid hb2; clear hb2; have HE2 := Lib.hid hE2; clear hE2)
    have hc5 := (cell_blk (blk_set (i := 0) (.bool (gmatch gs (txt p))) HB2.out)).1
    refine ⟨.bool (gmatch gs (txt p)), ?_, by rw [HRES.out], ?_⟩
    · simp [results, Tryz.f128, go_sem, hc5]
    · have hE2 : Ext ((w.alloc (.cells #[.string core, .bool true, .bool dir, .slice a n c] 175)).alloc (.cells #[.bool false] 4)) w2 := HE2.out
      exact Ext.setNew ((((Ext.refl w).alloc _).alloc _).trans hE2) (by omega) _
end Go.Proofs.YtiopahkigbdmcaaGreat
/- A rule, taken apart (layer 3): the walk. -/
namespace Go.Proofs.YtiopahkigbdmcaaGreat
open Go Go.Proofs Go.RowKit

/-- Without a slash at its head; without one at its end. -/
def headF (l : List Int) : List Int × Bool := if l.head? = some 47 then (l.tail, true) else (l, false)
def lastF (l : List Int) : List Int × Bool := if l.getLast? = some 47 then (l.dropLast, true) else (l, false)
/-- A pattern: its parts, whether it is held against the whole path, and whether it matches directories alone. -/
def patF (l : List Int) : Option (List GPart × Bool × Bool) :=
  if 64 < l.length then none else if (lastF (headF l).1).1 = [] then none else (allF (lastF (headF l).1).1).map fun gs => (gs, (headF l).2, (lastF (headF l).1).2)

theorem txt_mk (l : List UInt8) : txt ⟨l.toArray⟩ = l.map fun b => (b.toNat : Int) := rfl
theorem prefix_txt (s : ByteArray) : txt ⟨(Lib.trimPrefix s.data.toList (ByteArray.mk #[47]).data.toList).toArray⟩ = (headF (txt s)).1 ∧ Lib.hasPrefix s.data.toList (ByteArray.mk #[47]).data.toList = (headF (txt s)).2 := by
  rw [txt_mk]
  show List.map _ (Lib.trimPrefix s.data.toList [47]) = _ ∧ Lib.hasPrefix s.data.toList [47] = _
  unfold txt Lib.trimPrefix Lib.hasPrefix headF
  cases s.data.toList with
  | nil => simp
  | cons b l =>
    by_cases hb : b = 47
    · subst hb; simp
    · have hbi : ¬ ((b.toNat : Int) = 47) := by
        intro e; apply hb; apply UInt8.toNat_inj.1; simpa using (by omega : b.toNat = 47)
      have hb' : (47 == b) = false := by simp; exact fun e => hb e.symm
      simp [hb', hbi, List.isPrefixOf]
theorem suffix_txt (s : ByteArray) : txt ⟨(Lib.trimSuffix s.data.toList (ByteArray.mk #[47]).data.toList).toArray⟩ = (lastF (txt s)).1 ∧ Lib.hasSuffix s.data.toList (ByteArray.mk #[47]).data.toList = (lastF (txt s)).2 := by
  rw [txt_mk]
  show List.map _ (Lib.trimSuffix s.data.toList [47]) = _ ∧ Lib.hasSuffix s.data.toList [47] = _
  unfold txt Lib.trimSuffix Lib.hasSuffix lastF
  generalize s.data.toList = l
  rcases List.eq_nil_or_concat l with rfl | ⟨l, b, rfl⟩
  · simp
  · have h1 : List.isSuffixOf [47] (l ++ [b]) = (47 == b) := by
      simp [List.isSuffixOf, List.isPrefixOf]
    rw [List.concat_eq_append, h1]
    by_cases hb : b = 47
    · subst hb; simp
    · have hbi : ¬ ((b.toNat : Int) = 47) := by
        intro e; apply hb; apply UInt8.toNat_inj.1; simpa using (by omega : b.toNat = 47)
      have hb' : (47 == b) = false := by simp; exact fun e => hb e.symm
      simp [hb', hbi]

/-- What a rule taken apart tells. -/
def OpenTold (pat : ByteArray) (w : World) (e : Ending) (w' : World) : Prop := ∃ core whole dir a n c code, e = .returned (.tuple #[.agg #[.string core, .bool whole, .bool dir, .slice a n c], .int .i64 code]) ∧ Ext w w' ∧
  match patF (txt pat) with
  | none => code ≠ 0
  | some (gs, wh, di) => code = 0 ∧ whole = wh ∧ dir = di ∧ n = gs.length ∧ n ≤ 1000 ∧ GlobAt w' a gs

set_option maxHeartbeats 1000000 in
set_option maxRecDepth 100000 in
theorem open_any (keep : Bool) (pat : ByteArray) (w : World) : Calls Tryz.prog 127 #[.agg #[.bool keep, .string pat]] w (OpenTold pat w) := by
  have h1 := Tryz.strings_CutPrefix pat ⟨#[47]⟩
  obtain ⟨c1, hc1⟩ : ∃ c1 : ByteArray, ByteArray.mk (Lib.trimPrefix pat.data.toList (ByteArray.mk #[47]).data.toList).toArray = c1 := ⟨_, rfl⟩
  obtain ⟨wh, hwh⟩ : ∃ b, Lib.hasPrefix pat.data.toList (ByteArray.mk #[47]).data.toList = b := ⟨_, rfl⟩
  have p1 := prefix_txt pat
  rw [hc1, hwh] at p1
  rw [hc1, hwh] at h1
  by_cases hs : 64 < pat.size
  · go_enter Tryz.func127, Tryz.ntmps127
    go_wp2
    refine bodyPost_ret (res_cell_tmp rfl rfl rfl ((by exact heap_at _ _ (by simp))) (by kernel_rfl) (by kernel_rfl)) rfl ?_
    refine ⟨ByteArray.empty, false, false, none, 0, 0, 5, rfl, ((Ext.refl w).alloc _).alloc _, ?_⟩
    have hp : patF (txt pat) = none := by unfold patF; rw [txt_len, if_pos hs]
    rw [hp]
    exact fun h => by cases h
  · have hc1s : c1.size ≤ pat.size := by
      rw [← txt_len c1, ← txt_len pat, p1.1]
      unfold headF; split
      · simp
      · exact Nat.le_refl _
    have h2 := Tryz.strings_CutSuffix c1 ⟨#[47]⟩
    obtain ⟨c2, hc2⟩ : ∃ c2 : ByteArray, ByteArray.mk (Lib.trimSuffix c1.data.toList (ByteArray.mk #[47]).data.toList).toArray = c2 := ⟨_, rfl⟩
    obtain ⟨di, hdi⟩ : ∃ b, Lib.hasSuffix c1.data.toList (ByteArray.mk #[47]).data.toList = b := ⟨_, rfl⟩
    have p2 := suffix_txt c1
    rw [hc2, hdi] at p2
    rw [hc2, hdi] at h2
    have H1 := Lib.hid h1; clear h1
    have H2 := Lib.hid (fun w => h2 w (by omega)); clear h2
    have P1 := Lib.hid p1; clear p1
    have P2 := Lib.hid p2; clear p2
    have HR := Lib.hid (fun w => read_any c2 w)
    clear hc1 hwh hc2 hdi
    have hc2s : c2.size ≤ 64 := by
      have : c2.size ≤ c1.size := by
        rw [← txt_len c2, ← txt_len c1, P2.out.1]
        unfold lastF; split
        · simp
        · exact Nat.le_refl _
      omega
    have hpat : patF (txt pat) = if txt c2 = [] then none else (allF (txt c2)).map fun gs => (gs, wh, di) := by
      unfold patF
      rw [txt_len, if_neg hs, ← P1.out.1, ← P1.out.2, ← P2.out.1, ← P2.out.2]
    have HPAT := Lib.hid hpat; clear hpat
    go_enter Tryz.func127, Tryz.ntmps127
    go_upto_region 7 with (first | (go_at_call 141; refine (H1.out _).mono ?_; rintro e w' ⟨rfl, rfl⟩) | (go_at_call 142; refine (H2.out _).mono ?_; rintro e w' ⟨rfl, rfl⟩) | (go_at_call 143; refine (HR.out _).mono ?_; rintro e w2 ⟨ga, gn, gc, code, rfl, hE2, ht⟩; have HT := Lib.hid ht; clear ht; have hE2 : Ext _ w2 := hE2))
    have hE2c0 := hE2.cellsOf (b := w.heap.size) (heap_before _ _ (heap_before _ _ (heap_at _ _ (by simp)))); have hE2l0 := hE2.blt (b := w.heap.size) (heap_before _ _ (heap_before _ _ (heap_at _ _ (by simp)))); have hE2f0 := hE2.freeOf (b := w.heap.size) (heap_before _ _ (heap_before _ _ (heap_at _ _ (by simp)))); have hE2c1 := hE2.cellsOf (b := w.heap.size + 1) (heap_before _ _ (heap_at _ _ (by simp))); have hE2l1 := hE2.blt (b := w.heap.size + 1) (heap_before _ _ (heap_at _ _ (by simp))); have hE2f1 := hE2.freeOf (b := w.heap.size + 1) (heap_before _ _ (heap_at _ _ (by simp))); have hE2c2 := hE2.cellsOf (b := w.heap.size + 1 + 1) (heap_at _ _ (by simp)); have hE2l2 := hE2.blt (b := w.heap.size + 1 + 1) (heap_at _ _ (by simp)); have hE2f2 := hE2.freeOf (b := w.heap.size + 1 + 1) (heap_at _ _ (by simp))
    have hz2 := hE2.size
    simp only [World.size_alloc] at hz2
    have hE0 : Ext w w2 := (((Ext.refl w).alloc _).alloc _ |>.alloc _).trans hE2
    have HE0 := Lib.hid hE0; clear hE0
    have hb1 := (hE2.block (b := w.heap.size + 1) (heap_before _ _ (heap_at _ _ (by simp))))
    have HB1 := Lib.hid hb1; clear hb1
    have hb2 := (hE2.block (b := w.heap.size + 1 + 1) (heap_at _ _ (by simp)))
    have HB2 := Lib.hid hb2; clear hb2
    have HE2 := Lib.hid hE2; clear hE2
    cases hall : allF (txt c2) with
    | none =>
      have hcode : code ≠ 0 := by
        have h := HT.out
        rw [if_neg (show ¬ c2.size > 64 by omega), hall] at h
        exact h
      have hcb : (code != 0) = true := by simpa using hcode
      have HN : Hid (patF (txt pat) = none) := Lib.hid (by rw [HPAT.out, hall]; split <;> rfl)
      clear hall hcode
      go_wp2_with (refine wpList_store_blk rfl rfl rfl rfl (by (repeat with_reducible first | refine blk_drew ?_ | refine blk_alloc _ ?_ | refine blk_off (by omega) ?_ | refine blk_put (by omega) ?_); exact HB1.out) (by rfl) (by kernel_rfl) (by simp [Value.oneCell']) ?_)
      refine bodyPost_ret (res_cell_tmp rfl rfl rfl ((by exact putBlk_same _ (by simp; omega))) (by kernel_rfl) (by kernel_rfl)) rfl ?_
      refine ⟨ByteArray.empty, false, false, none, 0, 0, 3, rfl, Ext.putNew (HE0.out.alloc _) (by omega) _, ?_⟩
      rw [HN.out]
      exact fun h => by cases h
    | some gs =>
      have h := HT.out
      rw [if_neg (show ¬ c2.size > 64 by omega), hall] at h
      obtain ⟨rfl, rfl, hn64, hgl⟩ := h
      have HGL := Lib.hid hgl; clear hgl
      clear HT
      by_cases hce : txt c2 = []
      · have he : c2.toList = [] := by rw [toList_txt]; exact hce
        have he' : c2.toList.isEmpty = true := by rw [he]; rfl
        have HN : Hid (patF (txt pat) = none) := Lib.hid (by rw [HPAT.out, if_pos hce])
        clear hall hce
        go_wp2_with (refine wpList_store_blk rfl rfl rfl rfl (by (repeat with_reducible first | refine blk_drew ?_ | refine blk_alloc _ ?_ | refine blk_off (by omega) ?_ | refine blk_put (by omega) ?_); exact HB1.out) (by rfl) (by kernel_rfl) (by simp [Value.oneCell']) ?_)
        refine bodyPost_ret (res_cell_tmp rfl rfl rfl ((by exact putBlk_same _ (by simp; omega))) (by kernel_rfl) (by kernel_rfl)) rfl ?_
        refine ⟨ByteArray.empty, false, false, none, 0, 0, 3, rfl, Ext.putNew (HE0.out.alloc _) (by omega) _, ?_⟩
        rw [HN.out]
        exact fun h => by cases h
      · have he : ¬ c2.toList = [] := by rw [toList_txt]; exact hce
        have he' : c2.toList.isEmpty = false := by simpa using he
        have HN : Hid (patF (txt pat) = some (gs, wh, di)) := Lib.hid (by rw [HPAT.out, if_neg hce, hall]; rfl)
        clear hall hce
        go_upto_region 10 with fail
        have hf2 : (w2.setCell ⟨w.heap.size + 1 + 1, 3, none⟩ (.slice ga gs.length gc)).heap[w.heap.size + 1 + 1]? = some (.cells #[.string c2, .bool wh, .bool di, .slice ga gs.length gc] 175 (0, 0)) := by rw [blk_set _ HB2.out]; rfl
        have HF2 := Lib.hid hf2; clear hf2
        go_wp2_with (first | (refine wpList_load_blk rfl rfl rfl (blk_alloc _ HF2.out) (by kernel_rfl) (by kernel_rfl) ?_) | (refine wpList_store_blk rfl rfl rfl rfl (by (repeat with_reducible first | refine blk_drew ?_ | refine blk_alloc _ ?_ | refine blk_off (by omega) ?_ | refine blk_put (by omega) ?_); exact HB1.out) (by rfl) (by kernel_rfl) (by simp [Value.oneCell']) ?_))
        refine bodyPost_ret (res_cell_tmp rfl rfl rfl ((by exact putBlk_same _ (by simp [World.setCell]; omega))) (by kernel_rfl) (by kernel_rfl)) rfl ?_
        refine ⟨c2, wh, di, ga, gs.length, gc, 0, rfl, Ext.putNew ((HE0.out.setNew (by omega) _).alloc _) (by omega) _, ?_⟩
        rw [HN.out]
        refine ⟨rfl, rfl, rfl, rfl, by omega, ?_⟩
        rcases HGL.out with h | ⟨b, off, cs, ha, hb, hal⟩
        · exact Or.inl h
        · refine Or.inr ⟨b, off, cs, ha, ?_, hal⟩
          have hbl := blk_lt hb
          have n1 : b ≠ w.heap.size + 1 := by rintro rfl; have h := HB1.out; rw [hb] at h; cases h
          have n2 : b ≠ w.heap.size + 1 + 1 := by rintro rfl; have h := HB2.out; rw [hb] at h; cases h
          exact (putBlk_other _ _ n1).trans (blk_alloc _ ((blk_set_other _ n2).trans hb))
end Go.Proofs.YtiopahkigbdmcaaGreat
/- Whether a rule matches a path; what rules keep (layer 3): the walks. -/

namespace Go.Proofs.YtiopahkigbdmcaaGreat
open Go Go.Proofs Go.RowKit

def matchF (pat p : List Int) (dir : Bool) : Bool := match patF pat with
  | none => false
  | some (gs, wh, di) => if p = [] then false else if rightF p = false then false else if di = true ∧ dir = false then false else hitsF gs wh p

set_option maxHeartbeats 2000000 in
set_option maxRecDepth 100000 in
theorem matchesP_any (keep : Bool) (pat p : ByteArray) (dir : Bool) (w : World) (hp : p.size ≤ 1000) : Calls Tryz.prog 106 #[.agg #[.bool keep, .string pat], .string p, .bool dir] w (RetV w (.bool (matchF (txt pat) (txt p) dir))) := by
  have HO := Lib.hid (fun w => open_any keep pat w)
  have HRI := Lib.hid (fun w => rightP_any p w (by omega))
  obtain ⟨w1, hw1⟩ : ∃ w1, w.alloc (.cells #[.bool keep, .string pat] 89) = w1 := ⟨_, rfl⟩
  have hE1 : Ext w w1 := by rw [← hw1]; exact (Ext.refl w).alloc _
  have HE1 := Lib.hid hE1; clear hE1
  have HW1 := Lib.hid hw1; clear hw1
  go_enter Tryz.func106, Tryz.ntmps106
  go_wp2_with fail
  rw [HW1.out]
  refine (HO.out _).mono ?_
  rintro e w2 ⟨core, whole, di, a, n, c, code, rfl, hE2, ht⟩
  have HE2 := Lib.hid (HE1.out.trans hE2); clear hE2
  obtain ⟨wy, hwy⟩ : ∃ wy, w2.alloc (.cells #[.string core, .bool whole, .bool di, .slice a n c] 175) = wy := ⟨_, rfl⟩
  have hEy : Ext w2 wy := by rw [← hwy]; exact (Ext.refl w2).alloc _
  have hby : wy.heap[w2.heap.size]? = some (.cells #[.string core, .bool whole, .bool di, .slice a n c] 175 (0, 0)) := by rw [← hwy]; exact heap_at _ _ rfl
  have HBY := Lib.hid hby; clear hby
  have HEY := Lib.hid (HE2.out.trans hEy)
  have HY := Lib.hid hEy; clear hEy
  have HWY := Lib.hid hwy; clear hwy
  have HT := Lib.hid ht; clear ht
  go_upto_region 2 with fail
  rw [HWY.out]
  have hzy := blk_lt HBY.out
  cases hpf : patF (txt pat) with
  | none =>
    have hcode : (code != 0) = true := by
      have h := HT.out
      rw [hpf] at h
      simpa using h
    have HN : Hid (matchF (txt pat) (txt p) dir = false) := Lib.hid (by unfold matchF; rw [hpf])
    clear hpf
    go_wp2
    go_ret
    exact ⟨ret_bool HN.out.symm, HEY.out⟩
  | some x =>
    obtain ⟨gs, wh, di'⟩ := x
    have h := HT.out
    rw [hpf] at h
    obtain ⟨rfl, rfl, rfl, rfl, hn, hg⟩ := h
    clear HT
    have HM : Hid (matchF (txt pat) (txt p) dir = if txt p = [] then false else if rightF (txt p) = false then false else if di = true ∧ dir = false then false else hitsF gs whole (txt p)) := Lib.hid (by unfold matchF; rw [hpf])
    have HG := Lib.hid (hg.ext HY.out); clear hg
    clear hpf
    by_cases hpe : txt p = []
    · have he : p.toList = [] := by rw [toList_txt]; exact hpe
      have he' : p.toList.isEmpty = true := by rw [he]; rfl
      have HN : Hid (matchF (txt pat) (txt p) dir = false) := Lib.hid (by rw [HM.out, if_pos hpe])
      clear hpe
      go_wp2
      go_ret
      exact ⟨ret_bool HN.out.symm, HEY.out⟩
    · have he : ¬ p.toList = [] := by rw [toList_txt]; exact hpe
      have he' : p.toList.isEmpty = false := by simpa using he
      obtain ⟨rt, hrt⟩ : ∃ b, rightF (txt p) = b := ⟨_, rfl⟩
      rw [if_neg hpe, hrt] at HM
      have hr1 := HRI.out wy
      rw [hrt] at hr1
      have HR1 := Lib.hid hr1; clear hr1 hrt hpe
      cases rt
      · go_wp2_with (go_at_call 91; refine (HR1.out).mono ?_; rintro e w3 ⟨rfl, hE3⟩; have hE3 : Ext wy w3 := hE3)
        go_ret
        exact ⟨ret_bool (by rw [HM.out]; simp), HEY.out.trans hE3⟩
      · have hh := fun w3 (h : Ext wy w3) => hits_any core whole di a gs c p w3 hp hn (HG.out.ext h)
        have HH := Lib.hid hh; clear hh
        by_cases hdd : di = true ∧ dir = false
        · obtain ⟨rfl, rfl⟩ := hdd
          go_wp2_with (go_at_call 91; refine (HR1.out).mono ?_; rintro e w3 ⟨rfl, hE3⟩; have hE3 : Ext wy w3 := hE3; have hb3 := hE3.block HBY.out; have hc3 := blk_cell (i := 2) hb3 rfl; have HB3 := Lib.hid hb3; clear hb3)
          go_ret
          exact ⟨ret_bool (by rw [HM.out]; simp), HEY.out.trans hE3⟩
        · have HM2 : Hid (matchF (txt pat) (txt p) dir = hitsF gs whole (txt p)) := Lib.hid (by rw [HM.out, if_neg (by decide), if_neg hdd])
          cases di
          · clear hdd
            go_wp2_with (first | (go_at_call 91; refine (HR1.out).mono ?_; rintro e w3 ⟨rfl, hE3⟩; have hE3 : Ext wy w3 := hE3; have hb3 := hE3.block HBY.out; have hc2 := blk_cell (i := 2) hb3 rfl; have hc0 := blk_cell (i := 0) hb3 rfl; have hc1 := blk_cell (i := 1) hb3 rfl; have hc3 := blk_cell (i := 3) hb3 rfl; have HB3 := Lib.hid hb3; clear hb3; have HE3 := Lib.hid hE3; clear hE3) | (go_at_call 128; refine (HH.out _ HE3.out).mono ?_; rintro e w4 ⟨rfl, hE4⟩; have hE4 : Ext w3 w4 := hE4))
            go_ret
            exact ⟨ret_bool HM2.out.symm, HEY.out.trans (HE3.out.trans hE4)⟩
          · cases dir
            · exact absurd ⟨rfl, rfl⟩ hdd
            · clear hdd
              go_wp2_with (first | (go_at_call 91; refine (HR1.out).mono ?_; rintro e w3 ⟨rfl, hE3⟩; have hE3 : Ext wy w3 := hE3; have hb3 := hE3.block HBY.out; have hc2 := blk_cell (i := 2) hb3 rfl; have hc0 := blk_cell (i := 0) hb3 rfl; have hc1 := blk_cell (i := 1) hb3 rfl; have hc3 := blk_cell (i := 3) hb3 rfl; have HB3 := Lib.hid hb3; clear hb3; have HE3 := Lib.hid hE3; clear hE3) | (go_at_call 128; refine (HH.out _ HE3.out).mono ?_; rintro e w4 ⟨rfl, hE4⟩; have hE4 : Ext w3 w4 := hE4))
              go_ret
              exact ⟨ret_bool HM2.out.symm, HEY.out.trans (HE3.out.trans hE4)⟩

/-- Rules in memory. -/
def RulesAt (w : World) (a : Option Addr) (rs : List (Bool × ByteArray)) : Prop :=
  rs = [] ∨ ∃ b off, ∃ cs : Array Value, a = some ⟨b, off, none⟩ ∧ (∃ T fz, w.heap[b]? = some (.cells cs T fz)) ∧ ∀ i (h : i < rs.length), cs[off + i * 2]? = some (.bool rs[i].1) ∧ cs[off + i * 2 + 1]? = some (.string rs[i].2)
theorem RulesAt.ext {w w' : World} {a : Option Addr} {rs : List (Bool × ByteArray)} (h : RulesAt w a rs) (hE : Ext w w') : RulesAt w' a rs := by
  rcases h with h | ⟨b, off, cs, ha, ⟨T, fz, hb⟩, hall⟩
  · exact Or.inl h
  · exact Or.inr ⟨b, off, cs, ha, ⟨T, fz, hE.block hb⟩, hall⟩
theorem RulesAt.cells {w : World} {a : Option Addr} {rs : List (Bool × ByteArray)} (h : RulesAt w a rs) {i : Nat} (hi : i < rs.length) : ∃ b off, a = some ⟨b, off, none⟩ ∧ b < w.heap.size ∧ w.cell? ⟨b, off + i * 2, none⟩ = some (.bool rs[i].1) ∧ w.cell? ⟨b, off + i * 2 + 1, none⟩ = some (.string rs[i].2) := by
  rcases h with h | ⟨b, off, cs, ha, ⟨T, fz, hb⟩, hall⟩
  · subst h; simp at hi
  · obtain ⟨h1, h2⟩ := hall i hi
    exact ⟨b, off, ha, blk_lt hb, blk_cell hb h1, blk_cell hb h2⟩
/-- Do rules keep a path? -/
def keepsF : List (Bool × ByteArray) → List Int → Bool → Bool
  | [], _, _ => true
  | r :: rs, p, dir => if matchF (txt r.2) p dir then r.1 else keepsF rs p dir

set_option maxHeartbeats 2000000 in
set_option maxRecDepth 100000 in
theorem keepsP_any (a : Option Addr) (rs : List (Bool × ByteArray)) (c : Nat) (p : ByteArray) (dir : Bool) (w : World) (hp : p.size ≤ 1000) (hr : rs.length ≤ 100000) (hR : RulesAt w a rs) : Calls Tryz.prog 88 #[.slice a rs.length c, .string p, .bool dir] w (RetV w (.bool (keepsF rs (txt p) dir))) := by
  have HR := Lib.hid hR; clear hR
  obtain ⟨n, hn⟩ : ∃ n, rs.length = n := ⟨_, rfl⟩
  rw [hn] at hr ⊢
  have HN := Lib.hid hn; clear hn
  go_enter Tryz.func88, Tryz.ntmps88
  go_wp2
  go_loopw [11] (fun i w' => ∃ k : Nat, k ≤ n ∧ i = .int .i64 k ∧ keepsF rs (txt p) dir = keepsF (rs.drop k) (txt p) dir ∧ Ext w w') (fun i _ => n - (intOf i).toNat)
  case atStart => exact ⟨0, Nat.zero_le _, rfl, rfl, Ext.refl w⟩
  case round =>
    obtain ⟨k, hk, rfl, hkf, hE⟩ := hrel
    have HKF := Lib.hid hkf; clear hkf
    by_cases hlt : k < n
    · have hkl : k < rs.length := by rw [HN.out]; exact hlt
      obtain ⟨b, off, rfl, hb, c0, c1⟩ := (HR.out.ext hE).cells hkl
      obtain ⟨kp, hkp⟩ : ∃ kp, rs[k].1 = kp := ⟨_, rfl⟩
      obtain ⟨pt, hpt⟩ : ∃ pt, rs[k].2 = pt := ⟨_, rfl⟩
      obtain ⟨m, hm⟩ : ∃ m, matchF (txt pt) (txt p) dir = m := ⟨_, rfl⟩
      have hstep : Hid (keepsF (rs.drop k) (txt p) dir = if m then kp else keepsF (rs.drop (k + 1)) (txt p) dir) := Lib.hid (by rw [List.drop_eq_getElem_cons hkl, keepsF, hpt, hm, hkp])
      rw [hkp] at c0
      rw [hpt] at c1
      have HM := Lib.hid (fun w => by have h := matchesP_any kp pt p dir w hp; rw [hm] at h; exact h)
      have HE := Lib.hid hE; clear hE
      clear hkp hpt hm
      have hby : ∀ w2, Ext (wr.alloc (.cells #[.bool kp, .string pt] 89)) w2 → w2.cell? ⟨wr.heap.size, 0, none⟩ = some (.bool kp) := fun w2 h => blk_cell (h.block (heap_at _ _ rfl)) rfl
      have HBY := Lib.hid hby; clear hby
      cases m
      · go_wp2_with (go_at_call 106; refine (HM.out _).mono ?_; rintro e w2 ⟨rfl, hE2⟩; have hE2 : Ext _ w2 := hE2)
        go_roundw
        case rel => exact ⟨k + 1, by omega, by go_num, by rw [HKF.out, hstep.out]; rfl, HE.out.trans (((Ext.refl wr).alloc _).trans hE2)⟩
        case measure => simp [intOf]; omega
      · go_wp2_with (go_at_call 106; refine (HM.out _).mono ?_; rintro e w2 ⟨rfl, hE2⟩; have hE2 : Ext _ w2 := hE2; have hc0 := HBY.out _ hE2)
        go_ret
        exact ⟨ret_bool (by rw [HKF.out, hstep.out]; rfl), HE.out.trans (((Ext.refl wr).alloc _).trans hE2)⟩
    · obtain rfl : k = n := by omega
      have HE := Lib.hid hE; clear hE
      go_wp2
      go_ret
      exact ⟨ret_bool (by rw [HKF.out, List.drop_eq_nil_of_le (by rw [HN.out]; exact Nat.le_refl _)]; rfl), HE.out⟩
end Go.Proofs.YtiopahkigbdmcaaGreat
