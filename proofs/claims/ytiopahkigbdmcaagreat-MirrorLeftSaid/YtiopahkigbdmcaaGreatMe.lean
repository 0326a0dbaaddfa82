/- A path's ends, handed out one by one (layer 3): the walk. -/
import Derived.Test.YtiopahkigbdmcaaGreatMd
import Derived.Test.YtiopahkigbdmcaaGreatMa
import Derived.Test.YtiopahkigbdmcaaGreatMb
import Derived.Test.YtiopahkigbdmcaaGreatMc
import Derived.Laws.Tables
import Derived.Great.Walk
import Derived.WalkMore
namespace Go.Proofs.YtiopahkigbdmcaaGreat
open Go Go.Proofs Go.RowKit
attribute [local go_sem] Oper.semAt_some

/-- A text's ends, of its pieces. -/
def endsOf : List (List Int) → List (List Int)
  | [] => []
  | a :: r => glueF (a :: r) :: endsOf r
theorem ends_none (l : List Int) (h : 47 ∉ l) : endsOf (splitF l) = [l] := by rw [splitF_none l h]; rfl
theorem ends_cons (l : List Int) : endsOf (splitF l) = l :: endsOf (splitF l).tail := by
  have h := glue_split l
  cases hs : splitF l with
  | nil => exact absurd hs (splitF_ne l)
  | cons a r => rw [hs] at h; rw [endsOf, h]; rfl

set_option maxRecDepth 100000 in
theorem lcut_no (q : ByteArray) (w : World) (hi : Lib.indexByte q.data.toList 47 = -1) : Calls Tryz.prog 159 #[.string q, .string ⟨#[47]⟩] w (fun e w' => e = .returned (.tuple #[.string q, .string ByteArray.empty, .bool false]) ∧ w = w') := by
  have h1 := Tryz.stringslite_Index_one q 47
  rw [hi] at h1
  have H1 := Lib.hid h1; clear h1 hi
  go_enter Tryz.func159, Tryz.ntmps159
  go_wp2_with (go_at_call 161; refine (H1.out _).mono ?_; rintro e w' ⟨rfl, rfl⟩)
  go_ret3
  exact ⟨rfl, rfl⟩
set_option maxRecDepth 100000 in
theorem lcut_yes (q : ByteArray) (i : Nat) (w : World) (hs : q.size ≤ 100000) (hlt : i < q.size) (hi : Lib.indexByte q.data.toList 47 = i) : Calls Tryz.prog 159 #[.string q, .string ⟨#[47]⟩] w (fun e w' => e = .returned (.tuple #[.string (q.extract 0 i), .string (q.extract (i + 1) q.size), .bool true]) ∧ w' = w.drew) := by
  have h1 : ∀ w, Calls Tryz.prog 161 #[.string q, .string ⟨#[47]⟩] w fun e w' => e = .returned (.int .i64 (i : Int)) ∧ w = w' := fun w => by
    have h := Tryz.stringslite_Index_one q 47 w
    rw [hi] at h
    exact h.mono fun _ _ ⟨a, b⟩ => ⟨a, b.symm⟩
  have H1 := Lib.hid h1; clear h1 hi
  have wi : IntKind.i64.wrap ((i : Int) + 1) = (i : Int) + 1 := IntWalk.i64_in _ (by omega)
  have q1 : (i : Int) ≤ (q.size : Int) := by omega
  have q2 : (i : Int) + 1 ≤ (q.size : Int) := by omega
  have q3 : (0 : Int) ≤ (i : Int) := by omega
  have q4 : (0 : Int) ≤ (i : Int) + 1 := by omega
  go_enter Tryz.func159, Tryz.ntmps159
  go_wp2_with (go_at_call 161; refine (H1.out _).mono ?_; rintro e w' ⟨rfl, rfl⟩)
  refine wp_draw_all (by kernel_rfl) (by kernel_rfl) ?_
  repeat ((with_reducible refine wpStill_step (fun K hK => ?_)); go_simp; refine hK _ ?_; clear hK K)
  refine wpStill_nil ?_
  go_wp2
  go_ret3
  exact ⟨rfl, rfl⟩
set_option maxRecDepth 100000 in
theorem scut_no (q : ByteArray) (w : World) (hi : Lib.indexByte q.data.toList 47 = -1) : Calls Tryz.prog 153 #[.string q, .string ⟨#[47]⟩] w (fun e w' => e = .returned (.tuple #[.string q, .string ByteArray.empty, .bool false]) ∧ w = w') := by
  have H1 := Lib.hid (lcut_no q w hi); clear hi
  go_enter Tryz.func153, Tryz.ntmps153
  go_wp2_with (go_at_call 159; refine (H1.out).mono ?_; rintro e w' ⟨rfl, rfl⟩)
  go_ret3
  exact ⟨rfl, rfl⟩
set_option maxRecDepth 100000 in
theorem scut_yes (q : ByteArray) (i : Nat) (w : World) (hs : q.size ≤ 100000) (hlt : i < q.size) (hi : Lib.indexByte q.data.toList 47 = i) : Calls Tryz.prog 153 #[.string q, .string ⟨#[47]⟩] w (fun e w' => e = .returned (.tuple #[.string (q.extract 0 i), .string (q.extract (i + 1) q.size), .bool true]) ∧ w' = w.drew) := by
  have H1 := Lib.hid (lcut_yes q i w hs hlt hi); clear hi
  go_enter Tryz.func153, Tryz.ntmps153
  go_wp2_with (go_at_call 159; refine (H1.out).mono ?_; rintro e w' ⟨rfl, rfl⟩)
  go_ret3
  exact ⟨rfl, rfl⟩
theorem rest_tail (q : ByteArray) (i : Nat) (h : splitF (txt q) = (txt (q.extract 0 i)) :: splitF (txt (q.extract (i + 1) q.size))) : endsOf (splitF (txt q)) = txt q :: endsOf (splitF (txt (q.extract (i + 1) q.size))) := by
  rw [ends_cons (txt q), h]; rfl
/-- The ends of a text, as values. -/
def endVals (p : ByteArray) : List Value := (endsOf (splitF (txt p))).map fun l => .string (strOf l)

set_option maxRecDepth 100000 in
set_option maxHeartbeats 4000000 in
theorem ends_hands (n bc : Nat) (p : ByteArray) (w : World) (hp : p.size ≤ 100000) (hb : w.heap[bc]? = some (.cells #[.string p] 9 (0, 0))) :
    Hands n Tryz.prog 152 #[.pointer (some ⟨bc, 0, none⟩)] bc (endVals p) w := by
  intro l J Jx W hW hJ hJx hS hY h0
  have hbl := blk_lt hb
  have hbW : W.heap[bc]? = some (.cells #[.string p] 9 (0, 0)) := (Below.block hW bc hbl).trans hb
  have hJd : ∀ k W, J k W → J k W.drew := fun k W h => hJ k W _ none h ⟨rfl, rfl, rfl, Nat.le_refl _, fun _ _ _ => rfl⟩ (fun r e => by cases e)
  have HJD := Lib.hid hJd; clear hJd
  have HY := Lib.hid hY; clear hY
  have HS := Lib.hid hS; clear hS
  refine callsIn_of_wp Tryz.func152 rfl trivial ?_
  simp only [Tryz.ntmps152, List.size_toArray, List.length_cons, List.length_nil, Nat.reduceAdd, Nat.reduceSub, Array.replicate_succ, Array.replicate_zero, List.push_toArray, List.append_toArray, List.nil_append, List.cons_append]
  gi_wp2
  gi_loopw [3] (fun okv wr => ∃ (k : Nat) (q : ByteArray) (ok : Bool), okv = .bool ok ∧ wr.heap[bc]? = some (.cells #[.string q] 9 (0, 0)) ∧ (endsOf (splitF (txt p))).drop k = (if ok then endsOf (splitF (txt q)) else []) ∧ q.size ≤ p.size ∧ k ≤ (endVals p).length ∧ J k wr) (fun okv wr => match okv with | .bool true => strSz wr bc + 1 | _ => 0)
  case atStart => exact ⟨0, p, true, rfl, hbW, rfl, Nat.le_refl _, Nat.zero_le _, h0⟩
  case round =>
    obtain ⟨k, q, ok, rfl, hbq, hdr, hqs, hkl, hj⟩ := hrel
    obtain ⟨hc, hf⟩ := cell_blk hbq
    have HJ := Lib.hid hj; clear hj
    have HDR := Lib.hid hdr; clear hdr
    cases ok
    · have hke : Hid (k = (endVals p).length) := Lib.hid (by
        have h := congrArg List.length HDR.out
        rw [List.length_drop] at h
        have : (endVals p).length = (endsOf (splitF (txt p))).length := by rw [endVals, List.length_map]
        simp at h; omega)
      gi_wp2
      go_end0
      exact ⟨⟨_, rfl⟩, Or.inl (by rw [← hke.out]; exact HJ.out)⟩
    · have hdq : Hid ((endsOf (splitF (txt p))).drop k = txt q :: endsOf (splitF (txt q)).tail) := Lib.hid (by rw [HDR.out, if_pos rfl, ← ends_cons])
      have hkl2 : k < (endVals p).length := by
        have h := congrArg List.length hdq.out
        rw [List.length_drop] at h
        have : (endVals p).length = (endsOf (splitF (txt p))).length := by rw [endVals, List.length_map]
        simp at h; omega
      have hpk : (endVals p)[k] = .string q := by
        have h1 : (endsOf (splitF (txt p)))[k]? = some (txt q) := by rw [← List.head?_drop, hdq.out]; rfl
        have : (endVals p)[k]? = some (.string q) := by rw [endVals, List.getElem?_map, h1]; simp [strOf_txt]
        rw [List.getElem?_eq_getElem hkl2] at this
        exact Option.some.inj this
      have hy := HY.out k hkl2 wr HJ.out
      rw [hpk] at hy
      clear hpk
      obtain ⟨fn, tmps, assign, body, hy, hR⟩ := hy
      have HR := Lib.hid hR; clear hR
      rcases index_slash q with ⟨hi, hns⟩ | ⟨i, hi, hii, hn1, hn2⟩
      · have HIB := Lib.hid (fun w => scut_no q w hi)
        have HNS := Lib.hid hns
        clear hi hns
        gi_wp2_with (first | (refine ⟨trivial, (fun h => by cases h), ?_⟩; gi_at_call 153; refine (callsIn_wide.2 (HIB.out _)).mono ?_; rintro e w' ⟨rfl, rfl⟩) | (refine ⟨(fun h => by cases h), HR.out.mono ?_⟩; rintro e W' (⟨rfl, hJ2, hk2⟩ | ⟨rfl, hJ2⟩); have hb2 := hk2.1.trans hbq; obtain ⟨hc2, hf2⟩ := cell_blk hb2; have HJ2 := Lib.hid hJ2; clear hJ2; have HB2 := Lib.hid hb2; clear hb2 hk2))
        · refine ⟨⟨k + 1, ByteArray.empty, false, rfl, blk_set _ HB2.out, ?_, Nat.zero_le _, hkl2, HS.out _ _ _ HJ2.out⟩, ?_⟩
          · rw [← List.drop_drop, hdq.out, splitF_none _ HNS.out]; rfl
          · show 0 < strSz wr bc + 1
            omega
        · refine bodyPost_ret (results_none rfl _ _ _) rfl ?_
          exact ⟨⟨_, rfl⟩, Or.inr ⟨k, hkl2, hJ2⟩⟩
      · have HIB := Lib.hid (fun w => scut_yes q i w (by omega) hi hii)
        have HSP := Lib.hid (rest_tail q i (split_head q i hi hn1 hn2))
        clear hii hn1 hn2
        gi_wp2_with (first | (refine ⟨trivial, (fun h => by cases h), ?_⟩; gi_at_call 153; refine (callsIn_wide.2 (HIB.out _)).mono ?_; rintro e w' ⟨rfl, rfl⟩) | (refine ⟨(fun h => by cases h), HR.out.mono ?_⟩; rintro e W' (⟨rfl, hJ2, hk2⟩ | ⟨rfl, hJ2⟩); have hb2 := hk2.1.trans hbq; obtain ⟨hc2, hf2⟩ := cell_blk hb2; have HJ2 := Lib.hid hJ2; clear hJ2; have HB2 := Lib.hid hb2; clear hb2 hk2))
        · have hbl2 := blk_set (i := 0) (.string (q.extract (i + 1) q.size)) HB2.out
          have hz : (q.extract (i + 1) q.size).size = q.size - (i + 1) := by rw [ByteArray.size_extract]; omega
          refine ⟨⟨k + 1, q.extract (i + 1) q.size, true, rfl, hbl2, ?_, by rw [hz]; omega, hkl2, HJD.out _ _ (HS.out _ _ _ HJ2.out)⟩, ?_⟩
          · have h := hdq.out
            rw [← ends_cons, HSP.out] at h
            rw [← List.drop_drop, h]; rfl
          · show strSz _ bc + 1 < strSz wr bc + 1
            rw [strSz_eq hc, strSz_eq (w := (W'.setCell ⟨bc, 0, none⟩ (.string (q.extract (i + 1) q.size))).drew) (cell_blk hbl2).1, hz]; omega
        · refine bodyPost_ret (results_none rfl _ _ _) rfl ?_
          exact ⟨⟨_, rfl⟩, Or.inr ⟨k, hkl2, hJ2⟩⟩
end Go.Proofs.YtiopahkigbdmcaaGreat
/- Rows of many cells of which the cells are not written out: allocating, loading, building; struct results beside two more. -/
namespace Go.Proofs.YtiopahkigbdmcaaGreat
open Go Go.Proofs Go.RowKit

section
variable {P : Program}
theorem run_zero {T : TypeId} {Z : Value} (hz : (P.info? T).bind (·.zero) = some Z) (w : World) : (zeroValue T).run P w = .ok Z w := by
  cases hq : P.info? T with
  | none => simp [hq] at hz
  | some i =>
    have hz' : i.zero = some Z := by simpa [hq] using hz
    simp [zeroValue, typeInfo, hq, hz']
/-- A variable of a type of which the zero value is known, its cells not written out. -/
theorem wpList_alloc_row {ops : Array Oper} {rest : List Oper} {op : Oper} {a : Act} {w : World} {Q : Exit → Act → World → Prop} (hgd : op.guard = none) {T : TypeId} (ho : op.op = .alloc T) {Z : Array Value}
    (hz : (P.info? T).bind (·.zero) = some (.agg Z))
    (h : wpList P ops Q rest (a.put op.dst (.pointer (some ⟨w.heap.size, 0, none⟩))) (w.alloc (.cells Z T))) : wpList P ops Q (op :: rest) a w := by
  refine wpList_plain hgd fun K hK => ?_
  unfold Oper.wp execOp
  simp only [ho, Instr.alloc, Sem.run_bind, run_zero hz, Result.andThen_ok]
  exact hK _ _ h
/-- A block read whole. -/
theorem wpList_load_blk {ops : Array Oper} {rest : List Oper} {op : Oper} {a : Act} {w : World} {Q : Exit → Act → World → Prop} (hgd : op.guard = none) {ty : TypeId} {x : Operand} (ho : op.op = .load ty x)
    {b : Nat} {cs : Array Value} {T : TypeId} {fz : Nat × Nat} (hx : a.eval x = .pointer (some ⟨b, 0, none⟩)) (hb : w.heap[b]? = some (.cells cs T fz)) (hu : (P.underlying ty).map TypeDesc.isRow = some true) (hi : (P.info? ty).map (·.size) = some cs.size)
    (h : wpList P ops Q rest (a.put op.dst (.agg cs)) w) : wpList P ops Q (op :: rest) a w := by
  obtain ⟨d, hu, hd⟩ : ∃ d, P.underlying ty = some d ∧ d.isRow = true := by
    cases hq : P.underlying ty with
    | none => simp [hq] at hu
    | some d => exact ⟨d, rfl, by rw [hq] at hu; exact Option.some.inj hu⟩
  refine wpList_load_mid hgd ty x ho b 0 hx cs.toList d (blk_range hb) hu hd (by simpa using hi) ?_
  simpa using h
/-- A struct or an array, built of parts. -/
theorem wpList_build_of {ops : Array Oper} {rest : List Oper} {op : Oper} {a : Act} {w : World} {Q : Exit → Act → World → Prop} (hgd : op.guard = none) {t : TypeId} {parts : Array (Nat × Operand)} (ho : op.op = .build t parts) {L : List (Nat × Value)}
    (hL : parts.toList.map (fun p => (p.1, a.eval p.2)) = L) {cells : Array Value} (hf : P.built t L = some cells)
    (h : wpList P ops Q rest (a.put op.dst (.agg cells)) w) : wpList P ops Q (op :: rest) a w := by
  refine wpList_buildTo hgd t parts ho _ rfl cells ?_ h
  rw [Array.toList_map]
  rw [← hf, ← hL]
/-- A part of a block, read. -/
theorem wpList_load_part {ops : Array Oper} {rest : List Oper} {op : Oper} {a : Act} {w : World} {Q : Exit → Act → World → Prop} (hgd : op.guard = none) {ty : TypeId} {x : Operand} (ho : op.op = .load ty x)
    {b o : Nat} {cs : Array Value} (hx : a.eval x = .pointer (some ⟨b, o, none⟩)) (hb : w.rangeAt b o cs.toList) (hu : (P.underlying ty).map TypeDesc.isRow = some true) (hi : (P.info? ty).map (·.size) = some cs.size)
    (h : wpList P ops Q rest (a.put op.dst (.agg cs)) w) : wpList P ops Q (op :: rest) a w := by
  obtain ⟨d, hu, hd⟩ : ∃ d, P.underlying ty = some d ∧ d.isRow = true := by
    cases hq : P.underlying ty with
    | none => simp [hq] at hu
    | some d => exact ⟨d, rfl, by rw [hq] at hu; exact Option.some.inj hu⟩
  refine wpList_load_mid hgd ty x ho b o hx cs.toList d hb hu hd (by simpa using hi) ?_
  simpa using h

/-! ### A struct of a row and one cell more -/
theorem fold_set (vs : List Value) (off k : Nat) (cs : Array Value) (i : Nat) :
    ((vs.zipIdx k).foldl (fun cs (x : Value × Nat) => cs.setIfInBounds (off + x.2) x.1) cs)[i]? = if off + k ≤ i ∧ i < off + k + vs.length ∧ i < cs.size then vs[i - (off + k)]? else cs[i]? := by
  induction vs generalizing k cs with
  | nil => 
    simp only [List.zipIdx_nil, List.foldl_nil, List.length_nil]
    rw [if_neg (by omega)]
  | cons v vs ih =>
    simp only [List.zipIdx_cons, List.foldl_cons, List.length_cons]
    rw [ih]
    simp only [Array.size_setIfInBounds]
    by_cases h1 : off + k = i
    · subst h1
      rw [if_neg (by omega)]
      by_cases h2 : off + k < cs.size
      · rw [if_pos ⟨by omega, by omega, h2⟩, Array.getElem?_setIfInBounds_self_of_lt h2]; simp
      · rw [if_neg (by omega), Array.getElem?_eq_none (by simp; omega), Array.getElem?_eq_none (by omega)]
    · rw [Array.getElem?_setIfInBounds_ne h1]
      by_cases h2 : off + (k + 1) ≤ i ∧ i < off + (k + 1) + vs.length ∧ i < cs.size
      · rw [if_pos h2, if_pos (by omega), show i - (off + k) = i - (off + (k + 1)) + 1 by omega, List.getElem?_cons_succ]
      · rw [if_neg h2, if_neg (by omega)]
theorem fold_all (vs cs : Array Value) (off i : Nat) : (vs.zipIdx.foldl (fun cs (x : Value × Nat) => cs.setIfInBounds (off + x.2) x.1) cs)[i]? = if off ≤ i ∧ i < off + vs.size ∧ i < cs.size then vs[i - off]? else cs[i]? := by
  have h := fold_set vs.toList off 0 cs i
  rw [← Array.foldl_toList, Array.toList_zipIdx]
  simpa using h
theorem fold_size (vs : List (Value × Nat)) (off : Nat) : ∀ cs : Array Value, (vs.foldl (fun cs (x : Value × Nat) => cs.setIfInBounds (off + x.2) x.1) cs).size = cs.size := by
  induction vs with
  | nil => intro cs; rfl
  | cons v vs ih => intro cs; rw [List.foldl_cons, ih]; simp
end

/-- 256 bools. -/
def SetIs (vs : Array Value) (F : Nat → Bool) : Prop := vs.size = 256 ∧ ∀ i, i < 256 → vs[i]? = some (.bool (F i))
theorem SetIs.one {vs : Array Value} {F : Nat → Bool} (h : SetIs vs F) : vs.all (·.oneCell') = true := by
  rw [Array.all_eq_true_iff_forall_mem]
  intro v hv
  obtain ⟨i, hi, rfl⟩ := Array.mem_iff_getElem.1 hv
  have := h.2 i (by have := h.1; omega)
  rw [Array.getElem?_eq_getElem hi] at this
  rw [Option.some.inj this]; rfl
theorem SetIs.set {vs : Array Value} {F : Nat → Bool} (h : SetIs vs F) (k : Nat) (v : Bool) : SetIs (vs.setIfInBounds k (.bool v)) (fun i => if i = k then v else F i) := by
  refine ⟨by simpa using h.1, fun i hi => ?_⟩
  have hs := h.1
  by_cases hk : k = i
  · subst hk; rw [Array.getElem?_setIfInBounds_self_of_lt (by omega)]; simp
  · have : ¬ i = k := fun e => hk e.symm
    rw [Array.getElem?_setIfInBounds_ne hk, h.2 i hi]; simp [this]
theorem SetIs.congr {vs : Array Value} {F G : Nat → Bool} (h : SetIs vs F) (hFG : ∀ i, i < 256 → F i = G i) : SetIs vs G :=
  ⟨h.1, fun i hi => by rw [h.2 i hi, hFG i hi]⟩
/-- No byte. -/
def noSet : Array Value := Array.replicate 256 (.bool false)
theorem noSet_is : SetIs noSet (fun _ => false) := ⟨by simp [noSet], fun i hi => by simp [noSet, hi]⟩
theorem zero_set : (Tryz.prog.info? 194).bind (·.zero) = some (.agg noSet) := by kernel_rfl
theorem size_set : (Tryz.prog.info? 194).map (·.size) = some 256 := by kernel_rfl
theorem row_set : (Tryz.prog.underlying 194).map TypeDesc.isRow = some true := by kernel_rfl

/-- A part: its set, and whether it is any many. -/
def PartC (cs : Array Value) (F : Nat → Bool) (many : Bool) : Prop := cs.size = 257 ∧ (∀ i, i < 256 → cs[i]? = some (.bool (F i))) ∧ cs[256]? = some (.bool many)
theorem PartC.one {vs : Array Value} {F : Nat → Bool} {m : Bool} (h : PartC vs F m) : vs.all (·.oneCell') = true := by
  rw [Array.all_eq_true_iff_forall_mem]
  intro v hv
  obtain ⟨i, hi, rfl⟩ := Array.mem_iff_getElem.1 hv
  obtain ⟨h1, h2, h3⟩ := h
  rcases Nat.lt_or_ge i 256 with hlt | hge
  · have := h2 i hlt
    rw [Array.getElem?_eq_getElem hi] at this
    rw [Option.some.inj this]; rfl
  · obtain rfl : i = 256 := by omega
    rw [Array.getElem?_eq_getElem hi] at h3
    rw [Option.some.inj h3]; rfl
/-- No part. -/
def noPart : Array Value := Array.replicate 257 (.bool false)
theorem noPart_is : PartC noPart (fun _ => false) false := ⟨by simp [noPart], fun i hi => by rw [noPart, Array.getElem?_replicate, if_pos (by omega)], by rw [noPart, Array.getElem?_replicate, if_pos (by omega)]⟩
theorem noPart_size : noPart.size = 257 := noPart_is.1
theorem zero_part : (Tryz.prog.info? 196).bind (·.zero) = some (.agg noPart) := by kernel_rfl
theorem size_part : (Tryz.prog.info? 196).map (·.size) = some 257 := by kernel_rfl
theorem row_part : (Tryz.prog.underlying 196).map TypeDesc.isRow = some true := by kernel_rfl
theorem fields_part : ∃ fs, Tryz.prog.underlying 196 = some (.struct fs) ∧ fs.toList.mapM (fun f => (Tryz.prog.info? f.type).map fun i => (f.offset, i.size)) = some [(0, 256), (256, 1)] := by
  have h : (match Tryz.prog.underlying 196 with | some (.struct fs) => fs.toList.mapM (fun f => (Tryz.prog.info? f.type).map fun i => (f.offset, i.size)) | _ => none) = some [(0, 256), (256, 1)] := by kernel_rfl
  cases hq : Tryz.prog.underlying 196 with
  | none => rw [hq] at h; cases h
  | some d =>
    rw [hq] at h
    cases d with
    | struct fs => exact ⟨fs, rfl, h⟩
    | _ => cases h
theorem built_fill (parts : List (Nat × Value)) : Tryz.prog.built 196 parts = Instr.fill (#[((0 : Nat), 256), (256, 1)][·]?) noPart parts := by
  obtain ⟨fs, h1, h2⟩ := fields_part
  have hz := zero_part
  unfold Program.built
  cases hq : Tryz.prog.info? 196 with
  | none => rw [hq] at hz; cases hz
  | some it =>
    rw [hq] at hz
    have hz' : it.zero = some (.agg noPart) := hz
    simp only [h1, h2, hz']
    rfl
theorem built_part {vs : Array Value} {F : Nat → Bool} (h : SetIs vs F) (m : Bool) : ∃ cs, Tryz.prog.built 196 [(0, .agg vs), (1, .bool m)] = some cs ∧ PartC cs F m := by
  rw [built_fill]
  have hs := h.1
  have hn := noPart_size
  have c0 : (Value.agg vs).cells = vs := rfl
  have c1 : ∀ m, (Value.bool m).cells = #[.bool m] := fun _ => rfl
  refine ⟨(Array.foldl (fun (cs : Array Value) (x : Value × Nat) => cs.setIfInBounds (256 + x.2) x.1) (Array.foldl (fun (cs : Array Value) (x : Value × Nat) => cs.setIfInBounds (0 + x.2) x.1) noPart vs.zipIdx) (#[Value.bool m]).zipIdx), ?_, ?_⟩
  · simp only [Instr.fill]
    have e0 : (#[((0 : Nat), 256), (256, 1)] : Array (Nat × Nat))[0]? = some (0, 256) := rfl
    have e1 : (#[((0 : Nat), 256), (256, 1)] : Array (Nat × Nat))[1]? = some (256, 1) := rfl
    simp only [e0, e1]
    rw [if_neg (by simp only [c0, Bool.or_eq_true, decide_eq_true_eq]; omega)]
    rw [if_neg (by simp only [c1, Bool.or_eq_true, decide_eq_true_eq, ← Array.foldl_toList, fold_size, hn, List.size_toArray, List.length_singleton]; omega)]
    rfl
  · show PartC (Array.foldl (fun cs x => cs.setIfInBounds (256 + x.2) x.1) (Array.foldl (fun cs x => cs.setIfInBounds (0 + x.2) x.1) noPart vs.zipIdx) (#[Value.bool m]).zipIdx) F m
    refine ⟨?_, fun i hi => ?_, ?_⟩
    · rw [← Array.foldl_toList, fold_size, ← Array.foldl_toList, fold_size, hn]
    · rw [fold_all, if_neg (by omega), fold_all, if_pos ⟨by omega, by omega, by omega⟩]
      exact h.2 i hi
    · rw [fold_all, if_pos ⟨by omega, by simp, by rw [← Array.foldl_toList, fold_size]; omega⟩]
      rfl
theorem built_not {vs : Array Value} {F : Nat → Bool} (h : SetIs vs F) : ∃ cs, Tryz.prog.built 196 [(0, .agg vs)] = some cs ∧ PartC cs F false := by
  rw [built_fill]
  have hs := h.1
  have hn := noPart_size
  have c0 : (Value.agg vs).cells = vs := rfl
  have c1 : ∀ m, (Value.bool m).cells = #[.bool m] := fun _ => rfl
  refine ⟨(Array.foldl (fun (cs : Array Value) (x : Value × Nat) => cs.setIfInBounds (0 + x.2) x.1) noPart vs.zipIdx), ?_, ?_⟩
  · simp only [Instr.fill]
    have e0 : (#[((0 : Nat), 256), (256, 1)] : Array (Nat × Nat))[0]? = some (0, 256) := rfl
    simp only [e0]
    rw [if_neg (by simp only [c0, Bool.or_eq_true, decide_eq_true_eq]; omega)]
    rfl
  · show PartC (Array.foldl (fun cs x => cs.setIfInBounds (0 + x.2) x.1) noPart vs.zipIdx) F false
    refine ⟨?_, fun i hi => ?_, ?_⟩
    · rw [← Array.foldl_toList, fold_size, hn]
    · rw [fold_all, if_pos ⟨by omega, by omega, by omega⟩]
      exact h.2 i hi
    · rw [fold_all, if_neg (by omega)]
      exact noPart_is.2.2
theorem built_none : Tryz.prog.built 196 [] = some noPart := by rw [built_fill]; rfl

section
variable {P : Program} {fn : Func} {tmps : Array Value} {w : World} {b : Nat} {cs : Array Value} {T ty : TypeId} {fz : Nat × Nat}
theorem res_cell_tmp2 {t u1 u2 : Tmp} {v1 v2 : Value} (hr : fn.results = #[.cell t ty, .tmp u1, .tmp u2]) (hx : tmps.getD t undef = .pointer (some ⟨b, 0, none⟩)) (hv1 : tmps.getD u1 undef = v1) (hv2 : tmps.getD u2 undef = v2) (h : w.heap[b]? = some (.cells cs T fz)) (hu : (P.underlying ty).map TypeDesc.isRow = some true) (hi : (P.info? ty).map (·.size) = some cs.size) :
    (results fn tmps).run P w = .ok (.tuple #[.agg cs, v1, v2]) w := by
  subst hv1 hv2
  have hx' : tmps[t]?.getD undef = .pointer (some ⟨b, 0, none⟩) := by simpa using hx
  simp [results, hr, hx', asAddr, run_load_blk h hu hi]
end
end Go.Proofs.YtiopahkigbdmcaaGreat
/- The program's sets of bytes (layer 2): one byte, all bytes, and which may be members: the walks. -/
namespace Go.Proofs.YtiopahkigbdmcaaGreat
open Go Go.Proofs Go.RowKit

set_option maxRecDepth 100000 in
theorem member_any (c : Int) (w : World) : Calls Tryz.prog 160 #[.int .u8 c] w (fun e w' => e = .returned (.bool (okI c)) ∧ w = w') := by
  go_enter Tryz.func160, Tryz.ntmps160
  go_wp2
  all_goals go_ret
  all_goals refine ⟨?_, rfl⟩
  all_goals simp_all [okI]

/-- A set comes back. -/
def RetSet (w : World) (F : Nat → Bool) (e : Ending) (w' : World) : Prop := ∃ vs, e = .returned (.agg vs) ∧ SetIs vs F ∧ Ext w w'

set_option maxHeartbeats 1000000 in
set_option maxRecDepth 100000 in
theorem just_any (c : Int) (w : World) (h0 : 0 ≤ c) (h1 : c < 256) : Calls Tryz.prog 158 #[.int .u8 c] w (RetSet w (fun i => (i : Int) == c)) := by
  obtain ⟨n, rfl⟩ := Int.eq_ofNat_of_zero_le h0
  have hs := SetIs.set noSet_is n true
  obtain ⟨vs, hvs⟩ : ∃ vs, noSet.setIfInBounds n (.bool true) = vs := ⟨_, rfl⟩
  have HV := Lib.hid hvs
  rw [hvs] at hs
  clear hvs
  have HS := Lib.hid hs; clear hs
  have HC : Hid ((((w.alloc (.cells noSet 194)).alloc (.cells noSet 194)).cell? ⟨w.heap.size + 1, n, none⟩) = some (.bool false)) := Lib.hid (blk_cell (heap_at _ _ (by simp)) (noSet_is.2 n (by omega)))
  have HF : Hid ((((w.alloc (.cells noSet 194)).alloc (.cells noSet 194)).frozen? ⟨w.heap.size + 1, n, none⟩) = false) := Lib.hid (blk_free (heap_at _ _ (by simp)))
  have e1 := HC.out
  have e2 := HF.out
  go_enter Tryz.func158, Tryz.ntmps158
  go_wp2_with (first | (refine wpList_alloc_row rfl rfl zero_set ?_) | (refine wpList_load_blk rfl rfl rfl (heap_at _ _ (by simp)) row_set (by rw [size_set]; simp [noSet_is.1]) ?_) | (refine wpList_store_blk rfl rfl rfl rfl (heap_before _ _ (heap_at _ _ (by simp))) (by simp [noSet_is.1]) (by rw [size_set]; simp [noSet_is.1]) (by rw [HV.out]; exact HS.out.one) ?_))
  refine bodyPost_ret (res_cell rfl rfl (putBlk_same _ (by simp; omega)) row_set (by rw [size_set]; simp [noSet_is.1])) rfl ?_
  exact ⟨_, rfl, by rw [HV.out]; exact HS.out.congr (fun i _ => by rw [Bool.eq_iff_iff]; simp; omega), Ext.putNew (((Ext.refl w).alloc _).alloc _) (Nat.le_refl _) _⟩

/-- A set on its way: block b. -/
def SetAt (w : World) (b : Nat) (F : Nat → Bool) : Prop := ∃ vs, w.heap[b]? = some (.cells vs 194 (0, 0)) ∧ SetIs vs F
theorem SetAt.lt {w : World} {b : Nat} {F : Nat → Bool} (h : SetAt w b F) : b < w.heap.size := blk_lt h.choose_spec.1
theorem SetAt.set {w : World} {b : Nat} {F : Nat → Bool} (h : SetAt w b F) (k : Nat) (v : Bool) : SetAt (w.setCell ⟨b, k, none⟩ (.bool v)) b (fun i => if i = k then v else F i) := by
  obtain ⟨vs, h1, h2⟩ := h
  exact ⟨_, blk_set _ h1, h2.set k v⟩
theorem SetAt.other {w : World} {b c k : Nat} {F : Nat → Bool} {v : Value} (h : SetAt w b F) (hb : b ≠ c) : SetAt (w.setCell ⟨c, k, none⟩ v) b F := by
  obtain ⟨vs, h1, h2⟩ := h
  exact ⟨_, blk_off hb h1, h2⟩
theorem SetAt.ext {w w' : World} {b : Nat} {F : Nat → Bool} (h : SetAt w b F) (hE : Ext w w') : SetAt w' b F := by
  obtain ⟨vs, h1, h2⟩ := h
  exact ⟨vs, hE.block h1, h2⟩
theorem SetAt.congr {w : World} {b : Nat} {F G : Nat → Bool} (h : SetAt w b F) (hFG : ∀ i, i < 256 → F i = G i) : SetAt w b G := by
  obtain ⟨vs, h1, h2⟩ := h
  exact ⟨vs, h1, h2.congr hFG⟩
theorem SetAt.cell {w : World} {b : Nat} {F : Nat → Bool} (h : SetAt w b F) (k : Nat) (hk : k < 256) : w.cell? ⟨b, k, none⟩ = some (.bool (F k)) := by
  obtain ⟨vs, h1, h2⟩ := h
  exact blk_cell h1 (h2.2 k hk)
theorem SetAt.free {w : World} {b : Nat} {F : Nat → Bool} (h : SetAt w b F) (k : Nat) : w.frozen? ⟨b, k, none⟩ = false := by
  obtain ⟨vs, h1, h2⟩ := h
  exact blk_free h1

set_option maxHeartbeats 1000000 in
set_option maxRecDepth 100000 in
theorem all_any (slash : Bool) (w : World) : Calls Tryz.prog 156 #[.bool slash] w (RetSet w (fun i => slash || (i : Int) != 47)) := by
  obtain ⟨G, hG⟩ : ∃ G : Nat → Bool, (fun i : Nat => slash || (i : Int) != 47) = G := ⟨_, rfl⟩
  rw [hG]
  have HG := Lib.hid hG; clear hG
  have hst : SetAt ((w.alloc (.cells noSet 194)).alloc (.cells noSet 194)) (w.heap.size + 1) (fun i => decide (i < 0) && G i) := ⟨_, heap_at _ _ (by simp), noSet_is.congr (fun i _ => by simp)⟩
  have HST := Lib.hid hst; clear hst
  have HB : Hid ((((w.alloc (.cells noSet 194)).alloc (.cells noSet 194)).heap[w.heap.size]?) = some (.cells noSet 194)) := Lib.hid (heap_before _ _ (heap_at _ _ (by simp)))
  cases slash
  all_goals
    go_enter Tryz.func156, Tryz.ntmps156
    go_wp2_with (first | (refine wpList_alloc_row rfl rfl zero_set ?_))
    go_loopw [5] (fun i w' => ∃ k : Nat, k ≤ 256 ∧ i = .int .i64 k ∧ SetAt w' (w.heap.size + 1) (fun i => decide (i < k) && G i) ∧ w'.heap[w.heap.size]? = some (.cells noSet 194) ∧ Ext w w') (fun i _ => 256 - (intOf i).toNat)
    case atStart => exact ⟨0, by omega, rfl, HST.out, HB.out, ((Ext.refl w).alloc _).alloc _⟩
    case round =>
      obtain ⟨k, hk, rfl, hS, hB, hE⟩ := hrel
      have hlt1 := hS.lt
      by_cases hlt : k < 256
      · have e1 := hS.cell k hlt
        have e2 := hS.free k
        have e3 : (k : Int) < 256 := by omega
        have e4 : (0 : Int) ≤ (k : Int) := by omega
        have HS := Lib.hid hS; clear hS
        have HB := Lib.hid hB; clear hB
        have HE := Lib.hid hE; clear hE
        go_wp2
        go_roundw
        case rel => exact ⟨k + 1, by omega, by go_num, (HS.out.set k _).congr (fun i _ => by rw [← HG.out, Bool.eq_iff_iff]; by_cases h : i = k <;> simp [h] <;> omega), (blk_set_other _ (show w.heap.size ≠ w.heap.size + 1 by omega)).trans HB.out, Ext.setNew HE.out (by omega) _⟩
        case measure => simp [intOf]; omega
      · obtain rfl : k = 256 := by omega
        obtain ⟨vs, hv, hvs⟩ := hS
        have HV := Lib.hid hv; clear hv
        have hB' := blk_lt hB
        have HB := Lib.hid hB; clear hB
        have HE := Lib.hid hE; clear hE
        have HVS := Lib.hid hvs; clear hvs
        go_wp2_with (first | (refine wpList_load_blk rfl rfl rfl HV.out row_set (by rw [size_set, HVS.out.1]) ?_) | (refine wpList_store_blk rfl rfl rfl rfl HB.out (by rw [HVS.out.1, noSet_is.1]) (by rw [size_set, HVS.out.1]) HVS.out.one ?_))
        refine bodyPost_ret (res_cell rfl rfl (putBlk_same _ hB') row_set (by rw [size_set, HVS.out.1])) rfl ?_
        exact ⟨_, rfl, HVS.out.congr (fun i hi => by simp [hi]), HE.out.putNew (Nat.le_refl _) _⟩
end Go.Proofs.YtiopahkigbdmcaaGreat
/- The program's sets of patterns (layer 2), behind their bracket: the walk. -/
namespace Go.Proofs.YtiopahkigbdmcaaGreat
open Go Go.Proofs Go.RowKit

/-- What a set behind its bracket tells. -/
def SetTold (s : ByteArray) (at_ : Nat) (w : World) (e : Ending) (w' : World) : Prop := ∃ cs z ok, e = .returned (.tuple #[.agg cs, .int .i64 z, .bool ok]) ∧ Ext w w' ∧ cs.size = 257 ∧ cs.all (·.oneCell') = true ∧
  match memF ((txt s).drop at_) with
  | none => ok = false
  | some (S, rest) => ok = true ∧ PartC cs (fun i => S i) false ∧ ∃ nx : Nat, z = nx ∧ at_ < nx ∧ nx ≤ s.size ∧ rest = (txt s).drop nx
/-- The set on its way. -/
def SetInv (w0 : World) (S : Int → Bool) (w : World) : Prop := SetAt w (w0.heap.size + 1) (fun i => S i) ∧ w.heap[w0.heap.size]? = some (.cells noPart 196 (0, 0)) ∧ Ext w0 w

theorem fin_set (S : Int → Bool) (neg : Bool) (j : Nat) (v : Bool) (hv : v = ((S j != neg) && (j : Int) != 47)) (i : Nat) :
    (if i = j then v else (if i < j then (S i != neg) && (i : Int) != 47 else S i)) = (if i < j + 1 then (S i != neg) && (i : Int) != 47 else S i) := by
  by_cases h : i = j
  · subst h; rw [if_pos rfl, if_pos (by omega), hv]
  · rw [if_neg h]
    by_cases h2 : i < j
    · rw [if_pos h2, if_pos (by omega)]
    · rw [if_neg h2, if_neg (by omega)]
theorem add_set (S : Int → Bool) (A : Int) (j : Int) (n : Nat) (hn : (n : Int) = j) (hA : A ≤ j) (i : Nat) : (if i = n then true else (S i || (decide (A ≤ (i : Int)) && decide ((i : Int) < j)))) = (S i || (decide (A ≤ (i : Int)) && decide ((i : Int) < j + 1))) := by
  by_cases h : i = n
  · subst h
    rw [if_pos rfl, decide_eq_true (show A ≤ (i : Int) by omega), decide_eq_true (show (i : Int) < j + 1 by omega)]; simp
  · rw [if_neg h, show decide ((i : Int) < j + 1) = decide ((i : Int) < j) from by rw [decide_eq_decide]; omega]

set_option maxHeartbeats 4000000 in
set_option maxRecDepth 100000 in
theorem set_any (s : ByteArray) (at_ : Nat) (w : World) (hs : s.size ≤ 100) (ha : at_ ≤ s.size) :
    Calls Tryz.prog 157 #[.string s, .int .i64 at_] w (SetTold s at_ w) := by
  obtain ⟨neg, hneg⟩ : ∃ neg, (((txt s).drop at_).head? == some 33) = neg := ⟨_, rfl⟩
  obtain ⟨a1, ha1⟩ : ∃ a1 : Nat, a1 = at_ + (if neg then 1 else 0) := ⟨_, rfl⟩
  have hle : a1 ≤ s.size := by
    cases neg
    · simp at ha1; omega
    · have h := hneg
      rw [beq_iff_eq, List.head?_drop] at h
      have : at_ < (txt s).length := (List.getElem?_eq_some_iff.1 h).1
      rw [txt_len] at this
      simp at ha1; omega
  have hge : at_ ≤ a1 := by rw [ha1]; omega
  have HAT := Lib.hid ha1; clear ha1
  have HNEG := Lib.hid hneg; clear hneg
  obtain ⟨wo, hwo⟩ : ∃ wo : World, wo = ((w.alloc (.cells noPart 196)).alloc (.cells noSet 194)) := ⟨_, rfl⟩
  have hst : SetInv w (fun _ => false) wo := by rw [hwo]; exact ⟨⟨_, heap_at _ _ (by simp), noSet_is⟩, heap_before _ _ (heap_at _ _ (by simp)), ((Ext.refl w).alloc _).alloc _⟩
  have HST := Lib.hid hst; clear hst
  have HWO := Lib.hid hwo; clear hwo
  go_enter Tryz.func157, Tryz.ntmps157
  go_upto_region 2 with (first | (refine wpList_alloc_row rfl rfl zero_part ?_) | (refine wpList_alloc_row rfl rfl zero_set ?_))
  go_step3
  go_upto_region 2 with (first | (refine wpList_alloc_row rfl rfl zero_part ?_) | (refine wpList_alloc_row rfl rfl zero_set ?_))
  simp only [Act.put, List.setIfInBounds_toArray, List.set_cons_succ, List.set_cons_zero, World.size_alloc]
  rw [← HWO.out]
  go_cut [8] (fun v wx => v = .bool neg ∧ wo = wx)
  case first =>
    by_cases hlt : at_ < s.size
    · have e : Hid ((((s[at_].toNat : Nat) : Int) == 33) = neg) := Lib.hid (by rw [← HNEG.out, List.head?_drop, List.getElem?_eq_getElem (by rw [txt_len]; exact hlt), txt_at s at_ hlt]; rfl)
      go_wp2
      go_meet
      exact ⟨by rw [e.out], rfl⟩
    · have e : Hid (neg = false) := Lib.hid (by rw [← HNEG.out, List.head?_drop, List.getElem?_eq_none (by rw [txt_len]; omega)]; rfl)
      go_wp2
      go_meet
      exact ⟨by rw [e.out], rfl⟩
  case rest =>
    obtain ⟨rfl, rfl⟩ := hcut
    go_upto_if 23 with fail
    go_cut [1] (fun v w' => v = .int .i64 (a1 : Int) ∧ wo = w')
    case first =>
      cases neg
      · go_wp2
        go_meet
        exact ⟨by rw [HAT.out]; rfl, rfl⟩
      · go_wp2
        go_meet
        exact ⟨by rw [HAT.out]; rfl, rfl⟩
    case rest =>
      obtain ⟨rfl, rfl⟩ := hcut
      go_wp2
      go_step3
      go_wp2
      obtain ⟨R, hR⟩ : ∃ R, itemsF (((txt s).drop at_).length + 1) (fun _ => false) false ((txt s).drop a1) = R := ⟨_, rfl⟩
      have HM := Lib.hid (mem_eq s at_ a1 neg HNEG.out HAT.out)
      rw [hR] at HM
      have HR := Lib.hid hR; clear hR
      have hdl : ((txt s).drop at_).length = s.size - at_ := by rw [List.length_drop, txt_len]
      go_loopw [1] (fun i w' => ∃ k : Nat, a1 ≤ k ∧ k ≤ s.size ∧ i = .int .i64 k ∧ ∃ S f, SetInv w S w' ∧ R = itemsF f S (decide (a1 < k)) ((txt s).drop k) ∧ s.size - k < f) (fun i _ => s.size - (intOf i).toNat)
      case atStart => exact ⟨a1, Nat.le_refl _, hle, rfl, fun _ => false, ((txt s).drop at_).length + 1, HST.out, by rw [← HR.out]; simp, by omega⟩
      case round =>
        obtain ⟨k, hk1, hk2, rfl, S, f, hinv, hR, hf⟩ := hrel
        have HI := Lib.hid hinv
        have hl1 := hinv.1.lt
        have HRR := Lib.hid hR; clear hR
        have HF := Lib.hid hf; clear hf
        by_cases hlt : k < s.size
        · have hdrop : Hid ((txt s).drop k = (s[k].toNat : Int) :: (txt s).drop (k + 1)) := Lib.hid (by rw [List.drop_eq_getElem_cons (by rw [txt_len]; exact hlt), txt_at s k hlt])
          obtain ⟨f', hf'⟩ : ∃ f', f = f' + 1 := ⟨f - 1, by have := HF.out; omega⟩
          by_cases h93 : ((s[k].toNat : Nat) : Int) = 93
          · have g93 : ((((s[k].toNat : Nat) : Int) == 93) = true) := by rw [h93]; rfl
            have H93 := Lib.hid h93; clear h93
            have hd2 : Hid (R = if decide (a1 < k) then some (S, (txt s).drop (k + 1)) else none) := Lib.hid (by rw [HRR.out, hf', hdrop.out, H93.out, itemsF_stop])
            clear hf'
            obtain ⟨hS, hB, hE⟩ := hinv
            have hB' := blk_lt hB
            have HS := Lib.hid hS; clear hS
            have HB := Lib.hid hB; clear hB
            have HE := Lib.hid hE; clear hE
            by_cases hk0 : a1 = k
            · have hk00 : ((k : Int) == (a1 : Int)) = true := by rw [hk0]; simp
              have HK := Lib.hid hk0; clear hk0
              go_wp2_with (first | (refine wpList_build_of rfl rfl rfl built_none ?_) | (refine wpList_store_blk rfl rfl rfl rfl HB.out rfl (by rw [size_part, noPart_size]) noPart_is.one ?_))
              simp only [Exit.noGoto_ret]
              refine bodyPost_ret (res_cell_tmp2 rfl rfl rfl rfl (putBlk_same _ hB') row_part (by rw [size_part, noPart_size])) rfl ?_
              refine ⟨_, _, _, rfl, HE.out.putNew (Nat.le_refl _) _, noPart_size, noPart_is.one, ?_⟩
              rw [HM.out, hd2.out, if_neg (by rw [HK.out]; simp)]; rfl
            · have hk00 : ((k : Int) == (a1 : Int)) = false := by rw [beq_eq_false_iff_ne]; omega
              have hk01 : decide (a1 < k) = true := by simp; omega
              rw [hk01] at hd2
              clear hk01 hk0
              go_wp2
              go_loopw [102] (fun i w' => ∃ j : Nat, j ≤ 256 ∧ i = .int .i64 j ∧ SetAt w' (w.heap.size + 1) (fun i => if i < j then (S i != neg) && (i : Int) != 47 else S i) ∧ w'.heap[w.heap.size]? = some (.cells noPart 196 (0, 0)) ∧ Ext w w') (fun i _ => 256 - (intOf i).toNat)
              case atStart => exact ⟨0, by omega, rfl, HS.out.congr (fun i _ => by simp), HB.out, HE.out⟩
              case round =>
                clear HB hB'
                obtain ⟨j, hj, rfl, hT, hB, hE⟩ := hrel
                have hT1 := hT.lt
                have hB' := blk_lt hB
                have HB := Lib.hid hB; clear hB
                have HE := Lib.hid hE; clear hE
                by_cases hj256 : j < 256
                · have e1 := hT.cell j hj256
                  have e2 := hT.free j
                  have HT := Lib.hid hT; clear hT
                  rw [if_neg (Nat.lt_irrefl j)] at e1
                  obtain ⟨x, hx⟩ : ∃ x, S (j : Int) = x := ⟨_, rfl⟩
                  rw [hx] at e1
                  have HX := Lib.hid hx; clear hx
                  by_cases h47 : (j : Int) = 47
                  · have g47 : ((j : Int) != 47) = false := by rw [h47]; rfl
                    have G47 := Lib.hid g47
                    clear h47
                    cases x <;> cases neg
                    all_goals
                      go_wp2
                      go_roundw
                      case rel => exact ⟨j + 1, by omega, by go_num, (HT.out.set j _).congr (fun i _ => fin_set S _ j _ (by rw [HX.out, G47.out]; rfl) i), (blk_set_other _ (show w.heap.size ≠ w.heap.size + 1 by omega)).trans HB.out, Ext.setNew HE.out (by omega) _⟩
                      case measure => simp [intOf]; omega
                  · have g47 : ((j : Int) != 47) = true := by simp [h47]
                    have G47 := Lib.hid g47
                    clear h47
                    cases x <;> cases neg
                    all_goals
                      go_wp2
                      go_roundw
                      case rel => exact ⟨j + 1, by omega, by go_num, (HT.out.set j _).congr (fun i _ => fin_set S _ j _ (by rw [HX.out, G47.out]; rfl) i), (blk_set_other _ (show w.heap.size ≠ w.heap.size + 1 by omega)).trans HB.out, Ext.setNew HE.out (by omega) _⟩
                      case measure => simp [intOf]; omega
                · obtain rfl : j = 256 := by omega
                  obtain ⟨vs, hv, hvs⟩ := hT
                  have HV := Lib.hid hv; clear hv
                  have hvs' : SetIs vs (fun i => (S i != neg) && (i : Int) != 47) := hvs.congr (fun i hi => by simp [hi])
                  obtain ⟨cs, hbp, hcs⟩ := built_not hvs'
                  have HBP := Lib.hid hbp; clear hbp
                  have HCS := Lib.hid hcs; clear hcs
                  have HVS := Lib.hid hvs'; clear hvs' hvs
                  go_wp2_with (first | (refine wpList_load_blk rfl rfl rfl HV.out row_set (by rw [size_set, HVS.out.1]) ?_) | (refine wpList_build_of rfl rfl rfl HBP.out ?_) | (refine wpList_store_blk rfl rfl rfl rfl HB.out (by rw [HCS.out.1, noPart_size]) (by rw [size_part, HCS.out.1]) HCS.out.one ?_))
                  simp only [Exit.noGoto_ret]
                  refine bodyPost_ret (res_cell_tmp2 rfl rfl rfl rfl (putBlk_same _ hB') row_part (by rw [size_part, HCS.out.1])) rfl ?_
                  refine ⟨_, _, _, rfl, HE.out.putNew (Nat.le_refl _) _, HCS.out.1, HCS.out.one, ?_⟩
                  rw [HM.out, hd2.out]
                  simp only [if_true, Option.map_some]
                  exact ⟨trivial, HCS.out, k + 1, rfl, by omega, by omega, rfl⟩
          · have hne : ((((s[k].toNat : Nat) : Int) == 93) = false) := by simp [h93]
            have H93 := Lib.hid h93; clear h93
            obtain ⟨q, hq⟩ : ∃ q : Bool, q = decide (∃ h : k + 2 < s.size, ((s[k + 1].toNat : Nat) : Int) = 45 ∧ ((s[k + 2].toNat : Nat) : Int) ≠ 93) := ⟨_, rfl⟩
            have HQ := Lib.hid hq; clear hq
            have hit := item_at s k hlt
            have HIT := Lib.hid hit; clear hit
            obtain ⟨b, hb⟩ : ∃ b : Int, (item ((txt s).drop k)).2.1 = b := ⟨_, rfl⟩
            obtain ⟨st, hst⟩ : ∃ st : Nat, (item ((txt s).drop k)).2.2 = st := ⟨_, rfl⟩
            have HI2 := Lib.hid (And.intro hb hst); clear hb hst
            obtain ⟨A, hA⟩ : ∃ A : Int, ((s[k].toNat : Nat) : Int) = A := ⟨_, rfl⟩
            have hA255 : 0 ≤ A ∧ A ≤ 255 := by have := s[k].toNat_lt; omega
            obtain ⟨hA0, hA1⟩ := hA255
            have HA := Lib.hid hA; clear hA
            have hgo : Hid (R = if badI A b then none else itemsF f' (addR S A b) true ((txt s).drop (k + st))) := Lib.hid (by
              rw [HRR.out, hf', hdrop.out, itemsF_go _ _ _ _ _ H93.out]
              rw [← hdrop.out, HI2.out.1, HI2.out.2, List.drop_drop]
              have h1 : (item ((txt s).drop k)).1 = A := by rw [hdrop.out, item_fst, HA.out]
              rw [h1])
            have HF' := Lib.hid hf'; clear hf'
            obtain ⟨hS, hB, hE⟩ := hinv
            have hB' := blk_lt hB
            have HS := Lib.hid hS; clear hS
            have HB := Lib.hid hB; clear hB
            have HE := Lib.hid hE; clear hE
            have OK := Lib.hid member_any
            by_cases hok : okI A = true
            · have hokA : okI ((s[k].toNat : Nat) : Int) = true := by rw [HA.out]; exact hok
              have HOKA := Lib.hid hok; clear hok
              go_upto_region 12 with (go_at_call 160; refine (OK.out _ _).mono ?_; rintro e w2 ⟨rfl, rfl⟩)
              go_cut [64] (fun v w' => v = .bool q ∧ wr = w')
              case first =>
                by_cases h2 : k + 2 < s.size
                · by_cases h45 : ((s[k + 1].toNat : Nat) : Int) = 45
                  · by_cases h9 : ((s[k + 2].toNat : Nat) : Int) = 93
                    · have g45 : ((((s[k + 1].toNat : Nat) : Int) == 45) = true) := by rw [h45]; rfl
                      have g9 : ((((s[k + 2].toNat : Nat) : Int) != 93) = false) := by rw [h9]; rfl
                      have HQ' : Hid (q = false) := Lib.hid (by rw [HQ.out]; simp [h9])
                      clear h45 h9
                      go_wp2
                      go_meet
                      exact ⟨by rw [HQ'.out], rfl⟩
                    · have g45 : ((((s[k + 1].toNat : Nat) : Int) == 45) = true) := by rw [h45]; rfl
                      have g9 : ((((s[k + 2].toNat : Nat) : Int) != 93) = true) := by simp [h9]
                      have HQ' : Hid (q = true) := Lib.hid (by rw [HQ.out]; simp [h9, h45, h2])
                      clear h45 h9
                      go_wp2
                      go_meet
                      exact ⟨by rw [HQ'.out], rfl⟩
                  · have g45 : ((((s[k + 1].toNat : Nat) : Int) == 45) = false) := by simp [h45]
                    have HQ' : Hid (q = false) := Lib.hid (by rw [HQ.out]; simp [h45])
                    clear h45
                    go_wp2
                    go_meet
                    exact ⟨by rw [HQ'.out], rfl⟩
                · have HQ' : Hid (q = false) := Lib.hid (by rw [HQ.out]; simp [h2])
                  go_wp2
                  go_meet
                  exact ⟨by rw [HQ'.out], rfl⟩
              case rest =>
                obtain ⟨rfl, rfl⟩ := hcut
                obtain ⟨la, hla, hlb⟩ : ∃ la, ∃ hla : la < s.size, la + 1 = k + st ∧ (s[la].toNat : Int) = b ∧ (la : Int) = if q then (k : Int) + 2 else (k : Int) := by
                  have h3 := HI2.out
                  by_cases hq2 : ∃ h : k + 2 < s.size, ((s[k + 1].toNat : Nat) : Int) = 45 ∧ ((s[k + 2].toNat : Nat) : Int) ≠ 93
                  · obtain ⟨h2, h⟩ := HIT.out.1 hq2
                    rw [h] at h3
                    have hqt : q = true := by rw [HQ.out]; exact decide_eq_true hq2
                    exact ⟨k + 2, h2, by have := h3.2; simp only at this; omega, h3.1, by rw [hqt]; simp⟩
                  · have h := HIT.out.2 (by simpa using hq2)
                    rw [h] at h3
                    have hqt : q = false := by rw [HQ.out]; exact decide_eq_false hq2
                    exact ⟨k, hlt, by have := h3.2; simp only at this; omega, h3.1, by rw [hqt]; simp⟩
                have HLB := Lib.hid hlb
                have hst1 : la + 1 = k + st := hlb.1
                have hkla : k ≤ la := by
                  have := hlb.2.2
                  cases q <;> simp at this <;> omega
                clear hlb
                go_upto_if 64 with fail
                go_cut [10] (fun v w' => v = .int .i64 (la : Int) ∧ wr = w')
                case first =>
                  have h4 := Lib.hid HLB.out.2.2
                  cases q
                  · go_wp2
                    go_meet
                    exact ⟨by rw [h4.out]; rfl, rfl⟩
                  · go_wp2
                    go_meet
                    exact ⟨by rw [h4.out]; rfl, rfl⟩
                case rest =>
                  obtain ⟨rfl, rfl⟩ := hcut
                  obtain ⟨bad, hbad⟩ : ∃ bad, badI A b = bad := ⟨_, rfl⟩
                  have HBAD := Lib.hid hbad; clear hbad
                  have hbs : ((s[la].toNat : Nat) : Int) = b := HLB.out.2.1
                  have HBS := Lib.hid hbs; clear hbs
                  have hb0 : 0 ≤ b := by rw [← HBS.out]; omega
                  have hb1 : b ≤ 255 := by rw [← HBS.out]; have := s[la].toNat_lt; omega
                  have q1 : (la : Int) < (s.size : Int) := by omega
                  have q2 : (0 : Int) ≤ (la : Int) := by omega
                  have q3 : (k : Int) < (s.size : Int) := by omega
                  have q4 : (0 : Int) ≤ (k : Int) := by omega
                  go_wp2
                  go_cut [80] (fun v w' => v = .bool bad ∧ w' = wr.drew)
                  case first =>
                    by_cases hob : okI b = true
                    · have o1 : okI ((s[la].toNat : Nat) : Int) = true := by rw [HBS.out]; exact hob
                      have HB1 : Hid (bad = decide (b < A)) := Lib.hid (by rw [← HBAD.out]; unfold badI; simp [hob, HOKA.out])
                      clear hob
                      have HA2 := HA
                      refine wp_draw_stages 121 13 [false, false, false, false, true, true, true, true, true, true, true, true, true] [([true, true, true], 3)] Ext Ext.refl (fun _ _ _ => Ext.trans) (by kernel_rfl) (by kernel_rfl) ?_
                      apply wpStages_cons (by simp)
                      · intro w1 hw1
                        simp only [sel_true, sel_nil]
                        repeat ((with_reducible refine wpStill_step (fun K hK => ?_)); go_simp; refine hK _ ?_; clear hK K)
                        exact wpStill_nil rfl
                      try simp only [List.getD_cons_succ, List.getD_cons_zero]
                      go_wp2_with (go_at_call 160; refine (OK.out _ _).mono ?_; rintro e w2 ⟨rfl, rfl⟩)
                      refine ⟨Ext.refl _, ?_⟩
                      refine wpStages_nil ?_
                      simp only [sel_true, sel_false, sel_nil]
                      repeat ((with_reducible refine wpStill_step (fun K hK => ?_)); go_simp; refine hK _ ?_; clear hK K)
                      refine wpStill_nil ?_
                      try simp only [List.drop_succ_cons, List.drop_zero]
                      go_wp2
                      go_meet
                      exact ⟨by rw [HB1.out, ← HBS.out, ← HA2.out]; simp, rfl⟩
                    · have o1 : okI ((s[la].toNat : Nat) : Int) = false := by rw [HBS.out]; simpa using hob
                      have HB1 : Hid (bad = true) := Lib.hid (by rw [← HBAD.out]; unfold badI; simp [hob])
                      clear hob
                      refine wp_draw_stages 121 13 [false, false, false, false, true, true, true, true, true, true, true, true, true] [([true, true, true], 3)] Ext Ext.refl (fun _ _ _ => Ext.trans) (by kernel_rfl) (by kernel_rfl) ?_
                      apply wpStages_cons (by simp)
                      · intro w1 hw1
                        simp only [sel_true, sel_nil]
                        repeat ((with_reducible refine wpStill_step (fun K hK => ?_)); go_simp; refine hK _ ?_; clear hK K)
                        exact wpStill_nil rfl
                      try simp only [List.getD_cons_succ, List.getD_cons_zero]
                      go_wp2_with (go_at_call 160; refine (OK.out _ _).mono ?_; rintro e w2 ⟨rfl, rfl⟩)
                      refine ⟨Ext.refl _, ?_⟩
                      refine wpStages_nil ?_
                      simp only [sel_true, sel_false, sel_nil]
                      repeat ((with_reducible refine wpStill_step (fun K hK => ?_)); go_simp; refine hK _ ?_; clear hK K)
                      refine wpStill_nil ?_
                      try simp only [List.drop_succ_cons, List.drop_zero]
                      go_wp2
                      go_meet
                      exact ⟨by rw [HB1.out], rfl⟩
                  case rest =>
                    obtain ⟨rfl, rfl⟩ := hcut
                    cases bad
                    · have hAb : A ≤ b := by
                        have h := HBAD.out
                        unfold badI at h
                        simp only [Bool.or_eq_false_iff, decide_eq_false_iff_not] at h
                        omega
                      have hgo' : Hid (R = itemsF f' (addR S A b) true ((txt s).drop (k + st))) := Lib.hid (by rw [hgo.out, HBAD.out]; rfl)
                      clear hgo
                      have hwk : IntKind.i64.wrap ((s[k].toNat : Nat) : Int) = A := by rw [HA.out]; exact IntWalk.i64_in _ (by omega)
                      have hwl : IntKind.i64.wrap ((s[la].toNat : Nat) : Int) = b := by rw [HBS.out]; exact IntWalk.i64_in _ (by omega)
                      go_wp2
                      go_loopw [11] (fun jv w' => ∃ j : Int, A ≤ j ∧ j ≤ b + 1 ∧ jv = .int .i64 j ∧ SetInv w (fun i => (S i || (decide (A ≤ i) && decide (i < j)))) w') (fun jv _ => (b + 1 - intOf jv).toNat)
                      case atStart => exact ⟨A, by omega, by omega, rfl, HS.out.congr (fun i _ => by show S i = (S i || (decide (A ≤ (i : Int)) && decide ((i : Int) < A))); rw [show (decide (A ≤ (i : Int)) && decide ((i : Int) < A)) = false from by rw [Bool.and_eq_false_iff, decide_eq_false_iff_not, decide_eq_false_iff_not]; omega, Bool.or_false]), HB.out, HE.out.drew⟩
                      case round =>
                        clear HB hB' HE HS
                        obtain ⟨j, hj0, hj1, rfl, hS, hB, hE⟩ := hrel
                        obtain ⟨n, hn⟩ : ∃ n : Nat, (n : Int) = j := ⟨j.toNat, by omega⟩
                        by_cases hjb : j ≤ b
                        · subst hn
                          have hT1 := hS.lt
                          have e1 := hS.cell n (by omega)
                          have e2 := hS.free n
                          have HS := Lib.hid hS; clear hS
                          have HB := Lib.hid hB; clear hB
                          have HE := Lib.hid hE; clear hE
                          go_wp2
                          go_roundw
                          case rel => exact ⟨(n : Int) + 1, by omega, by omega, by go_num, (HS.out.set n true).congr (fun i _ => add_set S A n n rfl hj0 i), (blk_set_other _ (show w.heap.size ≠ w.heap.size + 1 by omega)).trans HB.out, Ext.setNew HE.out (by omega) _⟩
                          case measure => simp [intOf]; omega
                        · have hje : j = b + 1 := by omega
                          have hjb' : b < j := by omega
                          have hinv : SetInv w (addR S A b) wr := ⟨hS.congr (fun i _ => by show (S i || (decide (A ≤ (i : Int)) && decide ((i : Int) < j))) = _; unfold addR; rw [show decide ((i : Int) < j) = decide ((i : Int) ≤ b) from by rw [decide_eq_decide]; omega]), hB, hE⟩
                          have HINV := Lib.hid hinv; clear hinv hS hB hE
                          have HJ := Lib.hid hje; clear hje hn
                          have wla : IntKind.i64.wrap ((la : Int) + 1) = (la : Int) + 1 := IntWalk.i64_in _ (by omega)
                          go_wp2
                          refine ⟨⟨la + 1, by omega, by omega, by go_num, addR S A b, f', HINV.out, ?_, by have := HF.out; have := HF'.out; omega⟩, by simp [intOf]; omega⟩
                          rw [hgo'.out, hst1, decide_eq_true (show a1 < k + st by omega)]
                    · have hgo' : Hid (R = none) := Lib.hid (by rw [hgo.out, HBAD.out]; rfl)
                      go_wp2_with (first | (refine wpList_build_of rfl rfl rfl built_none ?_) | (refine wpList_store_blk rfl rfl rfl rfl (blk_drew HB.out) rfl (by rw [size_part, noPart_size]) noPart_is.one ?_))
                      simp only [Exit.noGoto_ret]
                      refine bodyPost_ret (res_cell_tmp2 rfl rfl rfl rfl (putBlk_same _ hB') row_part (by rw [size_part, noPart_size])) rfl ?_
                      refine ⟨_, _, _, rfl, HE.out.drew.putNew (Nat.le_refl _) _, noPart_size, noPart_is.one, ?_⟩
                      rw [HM.out, hgo'.out]; rfl
            · have hokA : okI ((s[k].toNat : Nat) : Int) = false := by rw [HA.out]; simpa using hok
              have hbad : Hid (badI A b = true) := Lib.hid (by unfold badI; simp [hok])
              clear hok
              go_wp2_with (first | (go_at_call 160; refine (OK.out _ _).mono ?_; rintro e w2 ⟨rfl, rfl⟩) | (refine wpList_build_of rfl rfl rfl built_none ?_) | (refine wpList_store_blk rfl rfl rfl rfl HB.out rfl (by rw [size_part, noPart_size]) noPart_is.one ?_))
              simp only [Exit.noGoto_ret]
              refine bodyPost_ret (res_cell_tmp2 rfl rfl rfl rfl (putBlk_same _ hB') row_part (by rw [size_part, noPart_size])) rfl ?_
              refine ⟨_, _, _, rfl, HE.out.putNew (Nat.le_refl _) _, noPart_size, noPart_is.one, ?_⟩
              rw [HM.out, hgo.out, hbad.out]; rfl
        · have hke : k = s.size := by omega
          have hkk : ((k : Int) == (s.size : Int)) = true := by rw [hke]; simp
          have HKE := Lib.hid hke; clear hke
          obtain ⟨hS, hB, hE⟩ := hinv
          have hB' := blk_lt hB
          have HS := Lib.hid hS; clear hS
          have HB := Lib.hid hB; clear hB
          have HE := Lib.hid hE; clear hE
          go_wp2_with (first | (refine wpList_build_of rfl rfl rfl built_none ?_) | (refine wpList_store_blk rfl rfl rfl rfl HB.out rfl (by rw [size_part, noPart_size]) noPart_is.one ?_))
          simp only [Exit.noGoto_ret]
          refine bodyPost_ret (res_cell_tmp2 rfl rfl rfl rfl (putBlk_same _ hB') row_part (by rw [size_part, noPart_size])) rfl ?_
          refine ⟨_, _, _, rfl, HE.out.putNew (Nat.le_refl _) _, noPart_size, noPart_is.one, ?_⟩
          rw [HM.out, HRR.out, HKE.out, List.drop_eq_nil_of_le (by rw [txt_len]; exact Nat.le_refl _), itemsF_nil]; rfl
end Go.Proofs.YtiopahkigbdmcaaGreat
/- The program's parts of patterns (layer 2): the walk. -/
namespace Go.Proofs.YtiopahkigbdmcaaGreat
open Go Go.Proofs Go.RowKit

/-- What a part at a place tells. -/
def OneTold (s : ByteArray) (at_ : Nat) (w : World) (e : Ending) (w' : World) : Prop := ∃ cs z ok, e = .returned (.tuple #[.agg cs, .int .i64 z, .bool ok]) ∧ Ext w w' ∧ cs.size = 257 ∧ cs.all (·.oneCell') = true ∧
  match oneF ((txt s).drop at_) with
  | none => ok = false
  | some (g, rest) => ok = true ∧ PartC cs (fun i => g.set i) g.many ∧ ∃ nx : Nat, z = nx ∧ at_ < nx ∧ nx ≤ s.size ∧ rest = (txt s).drop nx
theorem PartC.congr {cs : Array Value} {F G : Nat → Bool} {m : Bool} (h : PartC cs F m) (hFG : ∀ i, i < 256 → F i = G i) : PartC cs G m :=
  ⟨h.1, fun i hi => by rw [h.2.1 i hi, hFG i hi], h.2.2⟩

set_option maxHeartbeats 4000000 in
set_option maxRecDepth 100000 in
theorem one_any (s : ByteArray) (k : Nat) (w : World) (hs : s.size ≤ 100) (hlt : k < s.size) :
    Calls Tryz.prog 150 #[.string s, .int .i64 k] w (OneTold s k w) := by
  have hdrop : Hid ((txt s).drop k = (s[k].toNat : Int) :: (txt s).drop (k + 1)) := Lib.hid (by rw [List.drop_eq_getElem_cons (by rw [txt_len]; exact hlt), txt_at s k hlt])
  have wr1 : IntKind.i64.wrap ((k : Int) + 1) = (k : Int) + 1 := IntWalk.i64_in _ (by omega)
  have wr2 : IntKind.i64.wrap ((k : Int) + 2) = (k : Int) + 2 := IntWalk.i64_in _ (by omega)
  have hbk : (w.alloc (.cells noPart 196)).heap[w.heap.size]? = _ := heap_at _ _ rfl
  have HBK := Lib.hid hbk; clear hbk
  have E0 := Lib.hid ((Ext.refl w).alloc (.cells noPart 196))
  by_cases h42 : ((s[k].toNat : Nat) : Int) = 42
  · have g42 : ((((s[k].toNat : Nat) : Int) == 42) = true) := by rw [h42]; rfl
    have H42 := Lib.hid h42; clear h42
    by_cases h2 : k + 1 < s.size
    · have d1 : (txt s).drop (k + 1) = ((s[k + 1].toNat : Nat) : Int) :: (txt s).drop (k + 2) := by rw [List.drop_eq_getElem_cons (by rw [txt_len]; omega), txt_at s (k + 1) (by omega)]
      by_cases h43 : ((s[k + 1].toNat : Nat) : Int) = 42
      · have g43 : ((((s[k + 1].toNat : Nat) : Int) == 42) = true) := by rw [h43]; rfl
        have HO : Hid (oneF ((txt s).drop k) = some (⟨true, fun _ => true⟩, (txt s).drop (k + 2))) := Lib.hid (by rw [hdrop.out, d1, oneF_eq, if_pos H42.out, if_pos (by rw [h43]; rfl)]; rfl)
        clear d1 h43
        go_enter Tryz.func150, Tryz.ntmps150
        go_wp2_with (first | (refine wpList_alloc_row rfl rfl zero_part ?_) | (go_at_call 156; refine (all_any true _).mono ?_; rintro e w2 ⟨vs, rfl, hvs, hE2⟩; obtain ⟨cs, hbp, hcs⟩ := built_part hvs true; have HBP := Lib.hid hbp; clear hbp; have HCS := Lib.hid hcs; clear hcs hvs; have HB2 := Lib.hid (hE2.block HBK.out); have HE2 := Lib.hid (E0.out.trans hE2); clear hE2) | (refine wpList_build_of rfl rfl rfl HBP.out ?_) | (refine wpList_store_blk rfl rfl rfl rfl HB2.out (by rw [HCS.out.1, noPart_size]) (by rw [size_part, HCS.out.1]) HCS.out.one ?_))
        refine bodyPost_ret (res_cell_tmp2 rfl rfl rfl rfl (putBlk_same _ (blk_lt HB2.out)) row_part (by rw [size_part, HCS.out.1])) rfl ?_
        refine ⟨_, _, _, rfl, HE2.out.putNew (Nat.le_refl _) _, HCS.out.1, HCS.out.one, ?_⟩
        rw [HO.out]
        exact ⟨rfl, HCS.out.congr (fun i _ => rfl), k + 2, rfl, by omega, by omega, rfl⟩
      · have g43 : ((((s[k + 1].toNat : Nat) : Int) == 42) = false) := by simp [h43]
        have HO : Hid (oneF ((txt s).drop k) = some (⟨true, fun x => x != 47⟩, (txt s).drop (k + 1))) := Lib.hid (by rw [hdrop.out, d1, oneF_eq, if_pos H42.out, if_neg (by simpa using h43)])
        clear d1 h43
        go_enter Tryz.func150, Tryz.ntmps150
        go_wp2_with (first | (refine wpList_alloc_row rfl rfl zero_part ?_) | (go_at_call 156; refine (all_any false _).mono ?_; rintro e w2 ⟨vs, rfl, hvs, hE2⟩; obtain ⟨cs, hbp, hcs⟩ := built_part hvs true; have HBP := Lib.hid hbp; clear hbp; have HCS := Lib.hid hcs; clear hcs hvs; have HB2 := Lib.hid (hE2.block HBK.out); have HE2 := Lib.hid (E0.out.trans hE2); clear hE2) | (refine wpList_build_of rfl rfl rfl HBP.out ?_) | (refine wpList_store_blk rfl rfl rfl rfl HB2.out (by rw [HCS.out.1, noPart_size]) (by rw [size_part, HCS.out.1]) HCS.out.one ?_))
        refine bodyPost_ret (res_cell_tmp2 rfl rfl rfl rfl (putBlk_same _ (blk_lt HB2.out)) row_part (by rw [size_part, HCS.out.1])) rfl ?_
        refine ⟨_, _, _, rfl, HE2.out.putNew (Nat.le_refl _) _, HCS.out.1, HCS.out.one, ?_⟩
        rw [HO.out]
        exact ⟨rfl, HCS.out.congr (fun i _ => rfl), k + 1, rfl, by omega, by omega, rfl⟩
    · have d1 : (txt s).drop (k + 1) = [] := List.drop_eq_nil_of_le (by rw [txt_len]; omega)
      have HO : Hid (oneF ((txt s).drop k) = some (⟨true, fun x => x != 47⟩, (txt s).drop (k + 1))) := Lib.hid (by rw [hdrop.out, d1, oneF_eq, if_pos H42.out, if_neg (by simp)])
      clear d1
      go_enter Tryz.func150, Tryz.ntmps150
      go_wp2_with (first | (refine wpList_alloc_row rfl rfl zero_part ?_) | (go_at_call 156; refine (all_any false _).mono ?_; rintro e w2 ⟨vs, rfl, hvs, hE2⟩; obtain ⟨cs, hbp, hcs⟩ := built_part hvs true; have HBP := Lib.hid hbp; clear hbp; have HCS := Lib.hid hcs; clear hcs hvs; have HB2 := Lib.hid (hE2.block HBK.out); have HE2 := Lib.hid (E0.out.trans hE2); clear hE2) | (refine wpList_build_of rfl rfl rfl HBP.out ?_) | (refine wpList_store_blk rfl rfl rfl rfl HB2.out (by rw [HCS.out.1, noPart_size]) (by rw [size_part, HCS.out.1]) HCS.out.one ?_))
      refine bodyPost_ret (res_cell_tmp2 rfl rfl rfl rfl (putBlk_same _ (blk_lt HB2.out)) row_part (by rw [size_part, HCS.out.1])) rfl ?_
      refine ⟨_, _, _, rfl, HE2.out.putNew (Nat.le_refl _) _, HCS.out.1, HCS.out.one, ?_⟩
      rw [HO.out]
      exact ⟨rfl, HCS.out.congr (fun i _ => rfl), k + 1, rfl, by omega, by omega, rfl⟩
  · have g42 : ((((s[k].toNat : Nat) : Int) == 42) = false) := by simp [h42]
    have H42 := Lib.hid h42; clear h42
    by_cases h63 : ((s[k].toNat : Nat) : Int) = 63
    · have g63 : ((((s[k].toNat : Nat) : Int) == 63) = true) := by rw [h63]; rfl
      have HO : Hid (oneF ((txt s).drop k) = some (⟨false, fun x => x != 47⟩, (txt s).drop (k + 1))) := Lib.hid (by rw [hdrop.out, oneF_eq, if_neg H42.out, if_pos h63])
      clear h63
      go_enter Tryz.func150, Tryz.ntmps150
      go_wp2_with (first | (refine wpList_alloc_row rfl rfl zero_part ?_) | (go_at_call 156; refine (all_any false _).mono ?_; rintro e w2 ⟨vs, rfl, hvs, hE2⟩; obtain ⟨cs, hbp, hcs⟩ := built_part hvs false; have HBP := Lib.hid hbp; clear hbp; have HCS := Lib.hid hcs; clear hcs hvs; have HB2 := Lib.hid (hE2.block HBK.out); have HE2 := Lib.hid (E0.out.trans hE2); clear hE2) | (refine wpList_build_of rfl rfl rfl HBP.out ?_) | (refine wpList_store_blk rfl rfl rfl rfl HB2.out (by rw [HCS.out.1, noPart_size]) (by rw [size_part, HCS.out.1]) HCS.out.one ?_))
      refine bodyPost_ret (res_cell_tmp2 rfl rfl rfl rfl (putBlk_same _ (blk_lt HB2.out)) row_part (by rw [size_part, HCS.out.1])) rfl ?_
      refine ⟨_, _, _, rfl, HE2.out.putNew (Nat.le_refl _) _, HCS.out.1, HCS.out.one, ?_⟩
      rw [HO.out]
      exact ⟨rfl, HCS.out.congr (fun i _ => rfl), k + 1, rfl, by omega, by omega, rfl⟩
    · have g63 : ((((s[k].toNat : Nat) : Int) == 63) = false) := by simp [h63]
      have H63 := Lib.hid h63; clear h63
      by_cases h91 : ((s[k].toNat : Nat) : Int) = 91
      · have g91 : ((((s[k].toNat : Nat) : Int) == 91) = true) := by rw [h91]; rfl
        have H91 := Lib.hid h91; clear h91
        have hm := set_any s (k + 1) (w.alloc (.cells noPart 196)) (by omega) (by omega)
        have HMB := Lib.hid hm; clear hm
        go_enter Tryz.func150, Tryz.ntmps150
        go_wp2_with (first | (refine wpList_alloc_row rfl rfl zero_part ?_) | (go_at_call 157; refine (HMB.out).mono ?_; rintro e w2 ⟨cs, z, ok, rfl, hE2, hcs, hc1, hmt⟩; have HC1 := Lib.hid hc1; clear hc1; have HMT := Lib.hid hmt; clear hmt; have HCS := Lib.hid hcs; clear hcs; have HB2 := Lib.hid (hE2.block HBK.out); have HE2 := Lib.hid (E0.out.trans hE2); clear hE2) | (refine wpList_store_blk rfl rfl rfl rfl HB2.out (by rw [HCS.out, noPart_size]) (by rw [size_part, HCS.out]) HC1.out ?_))
        refine bodyPost_ret (res_cell_tmp2 rfl rfl rfl rfl (putBlk_same _ (blk_lt HB2.out)) row_part (by rw [size_part, HCS.out])) rfl ?_
        refine ⟨_, _, _, rfl, HE2.out.putNew (Nat.le_refl _) _, HCS.out, HC1.out, ?_⟩
        have hmt := HMT.out
        rw [hdrop.out, oneF_eq, if_neg H42.out, if_neg H63.out, if_pos H91.out]
        cases hm : memF ((txt s).drop (k + 1)) with
        | none => rw [hm] at hmt; exact hmt
        | some x =>
          obtain ⟨S, rest⟩ := x
          rw [hm] at hmt
          obtain ⟨h1, h2, nx, h3, h4, h5, h6⟩ := hmt
          exact ⟨h1, h2, nx, h3, by omega, h5, h6⟩
      · have g91 : ((((s[k].toNat : Nat) : Int) == 91) = false) := by simp [h91]
        have H91 := Lib.hid h91; clear h91
        by_cases h92 : ((s[k].toNat : Nat) : Int) = 92
        · have g92 : ((((s[k].toNat : Nat) : Int) == 92) = true) := by rw [h92]; rfl
          have H92 := Lib.hid h92; clear h92
          by_cases h2 : k + 1 < s.size
          · have d1 : (txt s).drop (k + 1) = ((s[k + 1].toNat : Nat) : Int) :: (txt s).drop (k + 2) := by rw [List.drop_eq_getElem_cons (by rw [txt_len]; omega), txt_at s (k + 1) (by omega)]
            have HO : Hid (oneF ((txt s).drop k) = some (⟨false, fun x => x == ((s[k + 1].toNat : Nat) : Int)⟩, (txt s).drop (k + 2))) := Lib.hid (by rw [hdrop.out, d1, oneF_eq, if_neg H42.out, if_neg H63.out, if_neg (by rw [H92.out]; decide), if_pos H92.out])
            clear d1
            have hne : (((k : Int) + 1) == (s.size : Int)) = false := by rw [beq_eq_false_iff_ne]; omega
            have hb := s[k + 1].toNat_lt
            go_enter Tryz.func150, Tryz.ntmps150
            go_wp2_with (first | (refine wpList_alloc_row rfl rfl zero_part ?_) | (go_at_call 158; refine (just_any _ _ (by omega) (by omega)).mono ?_; rintro e w2 ⟨vs, rfl, hvs, hE2⟩; obtain ⟨cs, hbp, hcs⟩ := built_not hvs; have HBP := Lib.hid hbp; clear hbp; have HCS := Lib.hid hcs; clear hcs hvs; have HB2 := Lib.hid (hE2.block HBK.out); have HE2 := Lib.hid (E0.out.trans hE2); clear hE2) | (refine wpList_build_of rfl rfl rfl HBP.out ?_) | (refine wpList_store_blk rfl rfl rfl rfl HB2.out (by rw [HCS.out.1, noPart_size]) (by rw [size_part, HCS.out.1]) HCS.out.one ?_))
            refine bodyPost_ret (res_cell_tmp2 rfl rfl rfl rfl (putBlk_same _ (blk_lt HB2.out)) row_part (by rw [size_part, HCS.out.1])) rfl ?_
            refine ⟨_, _, _, rfl, HE2.out.putNew (Nat.le_refl _) _, HCS.out.1, HCS.out.one, ?_⟩
            rw [HO.out]
            exact ⟨rfl, HCS.out.congr (fun i _ => rfl), k + 2, rfl, by omega, by omega, rfl⟩
          · have hke : (((k : Int) + 1) == (s.size : Int)) = true := by rw [beq_iff_eq]; omega
            have HO : Hid (oneF ((txt s).drop k) = none) := Lib.hid (by rw [hdrop.out, List.drop_eq_nil_of_le (show (txt s).length ≤ k + 1 by rw [txt_len]; omega), oneF_eq, if_neg H42.out, if_neg H63.out, if_neg (by rw [H92.out]; decide), if_pos H92.out])
            go_enter Tryz.func150, Tryz.ntmps150
            go_wp2_with (first | (refine wpList_alloc_row rfl rfl zero_part ?_) | (refine wpList_build_of rfl rfl rfl built_none ?_) | (refine wpList_store_blk rfl rfl rfl rfl HBK.out rfl (by rw [size_part, noPart_size]) noPart_is.one ?_))
            refine bodyPost_ret (res_cell_tmp2 rfl rfl rfl rfl (putBlk_same _ (blk_lt HBK.out)) row_part (by rw [size_part, noPart_size])) rfl ?_
            refine ⟨_, _, _, rfl, E0.out.putNew (Nat.le_refl _) _, noPart_size, noPart_is.one, ?_⟩
            rw [HO.out]
        · have g92 : ((((s[k].toNat : Nat) : Int) == 92) = false) := by simp [h92]
          have HO : Hid (oneF ((txt s).drop k) = some (⟨false, fun x => x == ((s[k].toNat : Nat) : Int)⟩, (txt s).drop (k + 1))) := Lib.hid (by rw [hdrop.out, oneF_eq, if_neg H42.out, if_neg H63.out, if_neg H91.out, if_neg h92])
          clear h92
          have hb := s[k].toNat_lt
          go_enter Tryz.func150, Tryz.ntmps150
          go_wp2_with (first | (refine wpList_alloc_row rfl rfl zero_part ?_) | (go_at_call 158; refine (just_any _ _ (by omega) (by omega)).mono ?_; rintro e w2 ⟨vs, rfl, hvs, hE2⟩; obtain ⟨cs, hbp, hcs⟩ := built_not hvs; have HBP := Lib.hid hbp; clear hbp; have HCS := Lib.hid hcs; clear hcs hvs; have HB2 := Lib.hid (hE2.block HBK.out); have HE2 := Lib.hid (E0.out.trans hE2); clear hE2) | (refine wpList_build_of rfl rfl rfl HBP.out ?_) | (refine wpList_store_blk rfl rfl rfl rfl HB2.out (by rw [HCS.out.1, noPart_size]) (by rw [size_part, HCS.out.1]) HCS.out.one ?_))
          refine bodyPost_ret (res_cell_tmp2 rfl rfl rfl rfl (putBlk_same _ (blk_lt HB2.out)) row_part (by rw [size_part, HCS.out.1])) rfl ?_
          refine ⟨_, _, _, rfl, HE2.out.putNew (Nat.le_refl _) _, HCS.out.1, HCS.out.one, ?_⟩
          rw [HO.out]
          exact ⟨rfl, HCS.out.congr (fun i _ => rfl), k + 1, rfl, by omega, by omega, rfl⟩
end Go.Proofs.YtiopahkigbdmcaaGreat
