/- The program's strong sum of bytes, and a node's (layers 6, 21): that they answer: the walks. -/
import Derived.Test.YtiopahkigbdmcaaGreatMk
import Derived.Test.YtiopahkigbdmcaaGreatMj
import Derived.Laws.IdiomStrings
import Derived.Lib.AppendStr
import Derived.Deep.CutBlock
import Derived.Deep.DeepCutAuto
import Derived.Maps.OwnOps
import Derived.Maps.OwnSet
import Derived.Maps.RangeRun
namespace Go.Proofs.YtiopahkigbdmcaaGreat
open Go Go.Proofs Go.RowKit

theorem Off.new {b : Nat} {w x y : World} (h : Off b x y) (k : Ext w x) (hb : w.heap.size ≤ b) : Ext w y :=
  ⟨h.os.trans k.os, h.tape.trans k.tape, h.output.trans k.output, Nat.le_trans k.size h.size, fun i hi => (Only.block h i (Nat.lt_of_lt_of_le hi k.size) (by omega)).trans (Below.block k i hi)⟩
/-- Bytes handed over. -/
def BytesIn (w : World) (a : Option Addr) (l : List Int) (c : Nat) : Prop := l.length ≤ 100000 ∧ BytesL w a l ∧ l.length ≤ c ∧ ((a = none ∧ c = 0) ∨ ∃ g off, a = some ⟨g, off, none⟩ ∧ g < w.heap.size)
set_option maxHeartbeats 1000000 in
set_option maxRecDepth 100000 in
theorem mixOfW (a : Option Addr) (l : List Int) (c : Nat) (w : World) (h : BytesIn w a l c) : Calls Tryz.prog 84 #[.slice a l.length c] w (SumTold w) := by
  obtain ⟨hl, hA, hc, ha⟩ := h
  have hB := heap_at (w.alloc (.cells #[.int .u64 0, .int .u64 0] 81)) (hBlk 0 0 false (.slice none 0 0) 0) (n := w.heap.size + 1) (by simp)
  have hEw : Ext w ((w.alloc (.cells #[.int .u64 0, .int .u64 0] 81)).alloc (hBlk 0 0 false (.slice none 0 0) 0)) := ((Ext.refl w).alloc _).alloc _
  have hW := writeW (w.heap.size + 1) a l c 0 0 _ hB hl (hA.ext hEw) hc (by
    rcases ha with h | ⟨g, off, h, hg⟩
    · exact Or.inl h
    · exact Or.inr ⟨g, off, h, by omega⟩)
  have hR := blk_alloc (hBlk 0 0 false (.slice none 0 0) 0) (heap_new w (.cells #[.int .u64 0, .int .u64 0] 81))
  obtain ⟨n, hn⟩ : ∃ n, l.length = n := ⟨_, rfl⟩
  rw [hn] at hW ⊢
  have HW := Lib.hid hW; clear hW
  have HR := Lib.hid hR
  have HE := Lib.hid hEw; clear hEw hA ha hB hR
  have HS := Lib.hid (fun w' h => sumW (w.heap.size + 1) w' h)
  go_enter Tryz.func84, Tryz.ntmps84
  go_wp2_with fail
  refine HW.out.mono ?_
  rintro e w1 ⟨⟨v, rfl⟩, hH, hO⟩
  have hR1 := hO.block HR.out (by omega)
  have hE1 : Ext w w1 := Off.new hO HE.out (by omega)
  have H1 := Lib.hid (And.intro hH (And.intro hR1 hE1)); clear hH hR1 hE1 hO
  go_wp2_with fail
  refine (HS.out _ H1.out.1).mono ?_
  rintro e w2 ⟨h, z, rfl, hO⟩
  have hR2 := hO.block H1.out.2.1 (by omega)
  have hE2 : Ext w w2 := Off.new hO H1.out.2.2 (by omega)
  have c0 := blk_cell hR2 (i := 0) rfl
  have c1 := blk_cell hR2 (i := 1) rfl
  have fr : ∀ i, w2.frozen? ⟨w.heap.size, i, none⟩ = false := fun i => blk_free hR2
  have hB7 := blk_set (i := 1) (.int .u64 z) (blk_set (i := 0) (.int .u64 h) hR2)
  have hE7 := (hE2.setNew (i := 0) (Nat.le_refl _) (.int .u64 h)).setNew (i := 1) (Nat.le_refl _) (.int .u64 z)
  have H7 := Lib.hid (And.intro hB7 hE7); clear hB7 hE7 hR2 hO hE2
  go_wp2
  refine bodyPost_ret (res_cell rfl rfl (H7.out.1) (by kernel_rfl) (by kernel_rfl)) rfl ?_
  exact ⟨_, _, rfl, H7.out.2⟩
theorem bytesL_of {w : World} {g : Nat} {s : ByteArray} {c : Nat} {fz : Nat × Nat} (h : w.heap[g]? = some (.cells (bytesRow s c) 5 fz)) : BytesL w (some ⟨g, 0, none⟩) (txt s) := by
  refine Or.inr ⟨g, 0, _, (_, fz), rfl, h, fun i hi j v hj => ?_⟩
  have hj0 : j = 0 := by
    have := (List.getElem?_eq_some_iff.1 hj).1
    rw [byteC_len] at this
    omega
  subst hj0
  rw [txt_len] at hi
  have hv : v = .int .u8 ((s[i].toNat : Nat) : Int) := by
    have e : (byteC (txt s)[i])[0]? = some v := hj
    rw [txt_at s i hi] at e
    exact (Option.some.inj e).symm
  have hi' : i < s.data.size := hi
  unfold bytesRow
  rw [Nat.zero_add, Nat.mul_one, Nat.add_zero, Array.getElem?_append_left (by simpa using hi'), Array.getElem?_map, Array.getElem?_eq_getElem hi', hv]
  rfl
set_option maxRecDepth 100000 in
theorem wpList_bytes_of {ops : Array Oper} {rest : List Oper} {o : Oper} {a : Act} {Q : Exit → Act → World → Prop} {w : World} (hgd : o.guard = none) (x : Operand) (ho : o.op = .convert 9 105 x) (s : ByteArray) (hx : a.eval x = .string s) (hs : s.size ≤ 100000)
    (h : ∀ g c w', BytesIn w' (some ⟨g, 0, none⟩) (txt s) c → Ext w w' → wpList Tryz.prog ops Q rest (a.put o.dst (.slice (some ⟨g, 0, none⟩) s.size c)) w') : wpList Tryz.prog ops Q (o :: rest) a w := by
  refine wpList_plain hgd fun K hK => ?_
  have hrun := run_bytes_of_string (P := Tryz.prog) w 9 105 5 s (by kernel_rfl) (by kernel_rfl) (by kernel_rfl)
  have hb := heap_new w.drew (.cells (bytesRow s (grownCap w s.size 0 5)) 5 ((bytesRow s (grownCap w s.size 0 5)).size, (bytesRow s (grownCap w s.size 0 5)).size + 1))
  have hK2 := hK _ _ (h w.heap.size (grownCap w s.size 0 5) _ ⟨by rw [txt_len]; exact hs, bytesL_of hb, by rw [txt_len]; exact grownCap_ge _ _ _ _, Or.inr ⟨_, _, rfl, blk_lt hb⟩⟩ (Ext.alloc (Ext.refl w).drew _))
  unfold Oper.wp
  simp [execOp, ho, hx, hrun, Result.andThen]
  exact hK2
set_option maxHeartbeats 1000000 in
set_option maxRecDepth 100000 in
theorem dataW (x : NodeV) (w : World) (hd : x.data.size ≤ 1000) : Calls Tryz.prog 79 #[x.val] w (SumTold w) := by
  unfold NodeV.val
  have HM := Lib.hid (fun a l c w h => mixOfW a l c w h)
  go_enter Tryz.func79, Tryz.ntmps79
  go_wp2_with (refine wpList_bytes_of rfl _ rfl _ rfl (by omega) ?_; intro g c w2 hBi hE2; have HBi := Lib.hid (And.intro hBi hE2); clear hBi hE2)
  have hM := HM.out (some ⟨g, 0, none⟩) (txt x.data) c w2 HBi.out.1
  rw [txt_len] at hM
  refine hM.mono ?_
  rintro e w3 ⟨h, z, rfl, hE3⟩
  have hR3 := hE3.block (HBi.out.2.block (heap_at (w.alloc (.cells #[.string x.path, .int .i64 x.kind, .int .i64 x.mode, .int .i64 x.time, .string x.data] 42)) (.cells #[.int .u64 0, .int .u64 0] 81) (n := w.heap.size + 1) (by simp)))
  have hEw : Ext w w3 := Ext.trans (Ext.trans (((Ext.refl w).alloc _).alloc _) HBi.out.2) hE3
  have c0 := blk_cell hR3 (i := 0) rfl
  have c1 := blk_cell hR3 (i := 1) rfl
  have fr : ∀ i, w3.frozen? ⟨w.heap.size + 1, i, none⟩ = false := fun i => blk_free hR3
  have hB7 := blk_set (i := 1) (.int .u64 z) (blk_set (i := 0) (.int .u64 h) hR3)
  have hE7 := (hEw.setNew (i := 0) (Nat.le_succ w.heap.size) (.int .u64 h)).setNew (i := 1) (Nat.le_succ w.heap.size) (.int .u64 z)
  have H7 := Lib.hid (And.intro hB7 hE7); clear hB7 hE7 hR3 hEw hM
  go_wp2
  refine bodyPost_ret (res_cell rfl rfl (H7.out.1) (by kernel_rfl) (by kernel_rfl)) rfl ?_
  exact ⟨_, _, rfl, H7.out.2⟩
end Go.Proofs.YtiopahkigbdmcaaGreat
/- Numbers and texts in bytes (layer 4): that they answer: the walks. -/
namespace Go.Proofs.YtiopahkigbdmcaaGreat
open Go Go.Proofs Go.RowKit

theorem byte_append {ops : Array Oper} {rest : List Oper} {o : Oper} {a : Act} {Q : Exit → Act → World → Prop} {w : World} (hgd : o.guard = none) (s x : Operand)
    (ho : o.op = .call { callee := .builtin .append, args := #[s, x], argTypes := #[105, 105] })
    (w0 : World) (v : Value) (L : List Int) (hs : a.eval s = v) (hO : OwnB w0 v L w)
    (y : Int) (g c : Nat) (hx : a.eval x = .slice (some ⟨g, 0, none⟩) 1 c) (hM : ∀ j u, (byteC y)[j]? = some u → w.cell? ((⟨g, 0, none⟩ : Addr).add j) = some u) (h63 : L.length ≤ 90000)
    (h : ∀ v' w', OwnB w0 v' (L ++ [y]) w' → Ext w0 w' → wpList Tryz.prog ops Q rest (a.put o.dst v') w') : wpList Tryz.prog ops Q (o :: rest) a w := by
  obtain ⟨i, h1, h2, h3, h4⟩ := byte_info
  exact wpList_append_one hgd s x 105 ho byteC_len i (.int .u8 0) 1 (by kernel_rfl) h1 h2 h3 h4 rfl (by decide) w0 v L hs hO y g c hx hM (fun u hu => by simp only [byteC, List.mem_singleton] at hu; subst hu; rfl) (by omega) (by decide) h
def BytesTold (m : Nat) (w : World) (e : Ending) (w' : World) : Prop := ∃ v L, e = .returned v ∧ OwnB w v L w' ∧ L.length ≤ m
set_option maxHeartbeats 2000000 in
set_option maxRecDepth 100000 in
theorem numW (a : Option Addr) (l : List Int) (c : Nat) (n : Nat) (w : World) (h : BytesIn w a l c) (hl : l.length ≤ 80000) (hn : n < 18446744073709551616) :
    Calls Tryz.prog 82 #[.slice a l.length c, .int .u64 n] w (BytesTold (l.length + 11) w) := by
  obtain ⟨-, hA, hc, ha⟩ := h
  have HA := Lib.hid (And.intro hA ha); clear hA ha
  obtain ⟨m, hm⟩ : ∃ m, l.length = m := ⟨_, rfl⟩
  rw [hm] at hl hc ⊢
  have HM := Lib.hid hm; clear hm
  go_enter Tryz.func82, Tryz.ntmps82
  go_upto_region 1 with fail
  go_cut [5] (fun v w' => OwnB w v l w')
  case first =>
    rcases HA.out.2 with ⟨rfl, rfl⟩ | ⟨g, off, rfl, hgb⟩
    · obtain rfl : m = 0 := by omega
      have hl0 : l = [] := List.eq_nil_of_length_eq_zero HM.out
      go_wp2
      go_meet
      rw [hl0]
      exact OwnL.empty (Ext.refl w)
    · have hlen : ([] : List Int).length + l.length ≤ 100000 := by rw [HM.out, List.length_nil]; omega
      go_wp2_with (at_builtin; refine bytes_append rfl _ _ rfl w _ ([] : List Int) rfl (OwnL.empty (Ext.refl w)) g off _ _ l HM.out.symm rfl (HA.out.1.ext ((Ext.refl w).alloc _)) hlen ?_; intro v' w' hown hBw)
      go_meet
      exact hown
  case rest =>
    have HC := Lib.hid hcut; clear hcut
    go_wp2_with fail
    go_loopw [1, 5] (fun nv v w' => ∃ (n' k : Nat) (L : List Int), nv = .int .u64 n' ∧ OwnB w v L w' ∧ L.length ≤ m + k ∧ n' * 128 ^ k ≤ n ∧ k ≤ 10) (fun nv _ _ => (intOf nv).toNat)
    case atStart => exact ⟨n, 0, l, rfl, HC.out, by rw [HM.out]; omega, by omega, by omega⟩
    case round =>
      obtain ⟨n', k, L, rfl, hown, hLk, hnk, hk⟩ := hrel
      have HO := Lib.hid hown; clear hown
      by_cases h128 : 128 ≤ n'
      · have h128i : (128 : Int) ≤ n' := by omega
        have hk9 : k + 1 ≤ 10 := by
          rcases Nat.lt_or_ge k 10 with h | h
          · omega
          · obtain rfl : k = 10 := by omega
            have : (128 : Nat) ^ 10 = 1180591620717411303424 := by decide
            rw [this] at hnk
            omega
        have hnext : n' / 128 * 128 ^ (k + 1) ≤ n := by
          rw [Nat.pow_succ, Nat.mul_comm (128 ^ k) 128, ← Nat.mul_assoc]
          exact Nat.le_trans (Nat.mul_le_mul_right _ (Nat.div_mul_le_self n' 128)) hnk
        have hL9 : L.length ≤ 90000 := by omega
        have HN := Lib.hid (And.intro hk9 (And.intro hnext hLk)); clear hk9 hnext hLk hnk
        go_wp2_with (at_builtin; refine byte_append rfl _ _ rfl w _ L rfl (HO.out.alloc _) _ _ 1 rfl (cells_at _ _ _ (by simp)) hL9 ?_; intro v' w4 hown' hE4; have HO4 := Lib.hid hown'; clear hown')
        go_roundw
        case rel => exact ⟨n' / 128, k + 1, _, by simp, HO4.out, by rw [List.length_append, List.length_singleton]; have := HN.out.2.2; omega, HN.out.2.1, HN.out.1⟩
        case measure => simp [intOf]; omega
      · have h128i : ¬ (128 : Int) ≤ n' := by omega
        have hL9 : L.length ≤ 90000 := by omega
        go_wp2_with (at_builtin; refine byte_append rfl _ _ rfl w _ L rfl (HO.out.alloc _) _ _ 1 rfl (cells_at _ _ _ (by simp)) hL9 ?_; intro v' w4 hown' hE4; have HO4 := Lib.hid hown'; clear hown')
        go_ret
        exact ⟨_, _, rfl, HO4.out, by rw [List.length_append, List.length_singleton]; omega⟩
theorem BytesTold.into {m : Nat} {w w' : World} {v : Value} {L : List Int} (h : OwnB w v L w') (hm : m ≤ 100000) (hl : L.length ≤ m) : ∃ a c, v = .slice a L.length c ∧ BytesIn w' a L c := by
  obtain ⟨a, c, rfl, hc⟩ := h.slice
  refine ⟨a, c, rfl, by omega, h.done byteC_len, hc, ?_⟩
  obtain ⟨_, _, ⟨hv, h0⟩ | ⟨g, cap, cur, hv, hg, hb, _⟩⟩ := h
  · simp only [Value.slice.injEq] at hv
    exact Or.inl ⟨hv.1, hv.2.2⟩
  · simp only [Value.slice.injEq] at hv
    exact Or.inr ⟨g, 0, hv.1, blk_lt hb⟩
set_option maxHeartbeats 1000000 in
set_option maxRecDepth 100000 in
theorem textW (a : Option Addr) (l : List Int) (c : Nat) (s : ByteArray) (w : World) (h : BytesIn w a l c) (hl : l.length ≤ 80000) (hs : s.size ≤ 1000) :
    Calls Tryz.prog 80 #[.slice a l.length c, .string s] w (BytesTold (l.length + 11 + s.size) w) := by
  have HN := Lib.hid (numW a l c s.size w h hl (by omega))
  obtain ⟨m, hm⟩ : ∃ m, l.length = m := ⟨_, rfl⟩
  rw [hm] at hl HN ⊢
  clear hm h
  have wu : IntKind.u64.wrap (s.size : Int) = (s.size : Int) := by rw [IntKind.wrap_u64]; omega
  go_enter Tryz.func80, Tryz.ntmps80
  go_wp2_with fail
  refine HN.out.mono ?_
  rintro e w1 ⟨v, L, rfl, hown, hLm⟩
  have HO := Lib.hid hown
  have hbase := hown.1.size; clear hown
  obtain ⟨i, h1, h2, h3, h4⟩ := byte_info
  have HI := Lib.hid (And.intro h1 (And.intro h2 (And.intro h3 h4))); clear h1 h2 h3 h4
  have h63 : L.length + s.size ≤ 100000 := by omega
  go_wp2_with (at_builtin; refine Lib.wpList_append_own_string _ rfl _ _ 105 9 rfl w.heap.size 5 i (by kernel_rfl) (by kernel_rfl) HI.out.1 HI.out.2.1 HI.out.2.2.1 HI.out.2.2.2 v L.length (L.flatMap byteC) rfl HO.out.2 s rfl (by unfold maxLen; omega) (by omega) hbase ?_; intro v' w4 hown' hgrow _; have HO4 := Lib.hid (And.intro hown' hgrow); clear hown' hgrow)
  go_ret
  refine ⟨v', L ++ txt s, rfl, ⟨Below.trans HO.out.1 (grown_below HO4.out.2 (fun k hk => (HO.out.2.lt k hk).1) hbase), ?_⟩, by rw [List.length_append, txt_len]; omega⟩
  rw [List.length_append, txt_len, List.flatMap_append]
  have hst : (txt s).flatMap byteC = Lib.strCells s := by
    unfold txt Lib.strCells byteC
    rw [List.flatMap_map]
    induction s.data.toList with
    | nil => rfl
    | cons b t ih => rw [List.flatMap_cons, ih]; rfl
  rw [hst]
  exact HO4.out.1
theorem OwnL.from_ {α : Type} {f : α → List Value} {T : TypeId} {n : Nat} {w w0 w' : World} {v : Value} {L : List α} (h : OwnL f T n w0 v L w') (hE : Ext w w0) : OwnL f T n w v L w' := by
  refine ⟨hE.trans h.1, h.2.1, ?_⟩
  rcases h.2.2 with h | ⟨g, cap, cur, hv, hg, rest⟩
  · exact .inl h
  · exact .inr ⟨g, cap, cur, hv, Nat.le_trans hE.size hg, rest⟩
theorem idx2u (i : Int) (a b : Value) (w : World) (v : Value) (h1 : 0 ≤ i ∧ i < 2) (h2 : #[a, b][i.toNat]? = some v) : (Instr.index 142 (.agg #[a, b]) (.int .i64 i)).run Tryz.prog w = .ok v w := by
  have h : Tryz.prog.underlying 142 = some (.array 2 56) := by kernel_rfl
  simp [Instr.index, run_underlying h, asIntOf, h1, go_sem]
  have h3 : [a, b][i.toNat]? = some v := by simpa using h2
  exact (List.getElem?_eq_some_iff.1 h3).2
set_option maxHeartbeats 2000000 in
set_option maxRecDepth 100000 in
theorem sumVW (a : Option Addr) (l : List Int) (c : Nat) (hi lo : Int) (w : World) (h : BytesIn w a l c) (hl : l.length ≤ 80000) :
    Calls Tryz.prog 83 #[.slice a l.length c, .agg #[.int .u64 hi, .int .u64 lo]] w (BytesTold (l.length + 16) w) := by
  obtain ⟨-, hA, hc, ha⟩ := h
  have HA := Lib.hid (And.intro hA ha); clear hA ha
  obtain ⟨m, hm⟩ : ∃ m, l.length = m := ⟨_, rfl⟩
  rw [hm] at hl hc ⊢
  have HM := Lib.hid hm; clear hm
  go_enter Tryz.func83, Tryz.ntmps83
  go_upto_region 1 with fail
  obtain ⟨w1, hw1⟩ : ∃ w1, w.alloc (.cells #[.int .u64 hi, .int .u64 lo] 81) = w1 := ⟨_, rfl⟩
  have hE1 : Ext w w1 := by rw [← hw1]; exact (Ext.refl w).alloc _
  have hB1 : w1.heap[w.heap.size]? = some (.cells #[.int .u64 hi, .int .u64 lo] 81 (0, 0)) := by rw [← hw1]; exact heap_new w _
  rw [hw1]
  clear hw1
  go_cut [5] (fun v w' => OwnB w1 v l w')
  case first =>
    rcases HA.out.2 with ⟨rfl, rfl⟩ | ⟨g, off, rfl, hgb⟩
    · obtain rfl : m = 0 := by omega
      have hl0 : l = [] := List.eq_nil_of_length_eq_zero HM.out
      go_wp2
      go_meet
      rw [hl0]
      exact OwnL.empty (Ext.refl w1)
    · have hlen : ([] : List Int).length + l.length ≤ 100000 := by rw [HM.out, List.length_nil]; omega
      go_wp2_with (at_builtin; refine bytes_append rfl _ _ rfl w1 _ ([] : List Int) rfl (OwnL.empty (Ext.refl w1)) g off _ _ l HM.out.symm rfl (HA.out.1.ext (hE1.alloc _)) hlen ?_; intro v' w' hown hBw)
      go_meet
      exact hown
  case rest =>
    have HC := Lib.hid hcut
    have hBc := hcut.1.block hB1
    have c0 := blk_cell hBc (i := 0) rfl
    have c1 := blk_cell hBc (i := 1) rfl
    clear hcut hBc
    go_wp2_with fail
    go_loopw [5, 17] (fun v i w' => ∃ (k : Nat) (L : List Int), k ≤ 2 ∧ i = .int .i64 k ∧ OwnB w1 v L w' ∧ L.length ≤ m + 8 * k) (fun _ i _ => 2 - (intOf i).toNat)
    case atStart => exact ⟨0, l, by omega, rfl, HC.out, by rw [HM.out]; omega⟩
    case round =>
      obtain ⟨k, L, hk, rfl, hown, hLk⟩ := hrel
      have HO := Lib.hid hown; clear hown
      by_cases hlt : k < 2
      · obtain ⟨y, hy⟩ : ∃ y, #[Value.int .u64 hi, .int .u64 lo][k]? = some (.int .u64 y) := by
          rcases (by omega : k = 0 ∨ k = 1) with rfl | rfl <;> exact ⟨_, rfl⟩
        have hix := fun w => idx2u (k : Int) _ _ w _ (by omega) (by simpa using hy)
        clear hy
        have hk2i : (k : Int) < 2 := by omega
        go_wp2_with fail
        go_loopw [5, 20] (fun v i w' => ∃ (j : Nat) (M : List Int), j ≤ 8 ∧ i = .int .i64 j ∧ OwnB w1 v M w' ∧ M.length ≤ m + 8 * k + j) (fun _ i _ => 8 - (intOf i).toNat)
        case atStart => exact ⟨0, L, by omega, rfl, HO.out, by omega⟩
        case round =>
          obtain ⟨j, M, hj, rfl, hownM, hMk⟩ := hrel
          have HOM := Lib.hid hownM; clear hownM
          by_cases hlt8 : j < 8
          · have hj8i : (j : Int) < 8 := by omega
            have hM9 : M.length ≤ 90000 := by omega
            have h56 : (0 : Int) ≤ 56 - 8 * (j : Int) := by omega
            have w8 : IntKind.i64.wrap (8 * (j : Int)) = 8 * (j : Int) := IntWalk.i64_in _ (by omega)
            have w56 : IntKind.i64.wrap (56 - 8 * (j : Int)) = 56 - 8 * (j : Int) := IntWalk.i64_in _ (by omega)
            go_wp2_with (at_builtin; refine byte_append rfl _ _ rfl w1 _ M rfl (HOM.out.alloc _) _ _ 1 rfl (cells_at _ _ _ (by simp)) hM9 ?_; intro v' w4 hown' hE4; have HO4 := Lib.hid hown'; clear hown')
            go_roundw
            case rel => exact ⟨j + 1, _, by omega, by go_num, HO4.out, by rw [List.length_append, List.length_singleton]; omega⟩
            case measure => simp [intOf]; omega
          · obtain rfl : j = 8 := by omega
            go_wp2
            refine ⟨⟨k + 1, M, by omega, by go_num, HOM.out, by omega⟩, by simp [intOf]; omega⟩
      · obtain rfl : k = 2 := by omega
        go_wp2
        go_ret
        exact ⟨_, L, rfl, HO.out.from_ hE1, by omega⟩
end Go.Proofs.YtiopahkigbdmcaaGreat
/- A path's parent and its last name (layer 1), the program's side: the walks. -/
namespace Go.Proofs.YtiopahkigbdmcaaGreat
open Go Go.Proofs Go.RowKit

theorem last_bounds (s : ByteArray) (c : Int) : -1 ≤ Lib.lastIndexByte s c ∧ Lib.lastIndexByte s c < s.size := by
  rcases Lib.lastIndexByte_spec s c with h | ⟨i, hi, h, _⟩
  · rw [h.1]; omega
  · rw [h]; omega
def UpTold (p : ByteArray) (w : World) (e : Ending) (w' : World) : Prop := ∃ up ok, e = .returned (.tuple #[.string up, .bool ok]) ∧ up.size ≤ p.size ∧ (ok = true → up.size < p.size) ∧ Ext w w'
theorem up_told {p up : ByteArray} {ok : Bool} {w w' : World} (h1 : up.size ≤ p.size) (h2 : ok = true → up.size < p.size) (hE : Ext w w') : UpTold p w (.returned (.tuple #[.string up, .bool ok])) w' := ⟨up, ok, rfl, h1, h2, hE⟩
set_option maxHeartbeats 1000000 in
set_option maxRecDepth 100000 in
theorem parentPW (p : ByteArray) (w : World) (hp : p.size ≤ 1000) : Calls Tryz.prog 71 #[.string p] w (UpTold p w) := by
  have HRI := Lib.hid (fun w => rightP_any p w (by omega))
  have hL := fun w => Tryz.strings_LastIndexByte p 47 (by omega) w
  have hbd := last_bounds p 47
  obtain ⟨i, hi⟩ : ∃ i, Lib.lastIndexByte p 47 = i := ⟨_, rfl⟩
  rw [hi] at hL hbd
  have HL := Lib.hid hL; clear hL hi
  obtain ⟨r, hr⟩ : ∃ r, rightF (txt p) = r := ⟨_, rfl⟩
  rw [hr] at HRI
  clear hr
  by_cases hp0 : p.size = 0
  · have e0 := empty_is hp0
    go_enter Tryz.func71, Tryz.ntmps71
    go_wp2
    go_ret2
    exact up_told (up := ByteArray.empty) (Nat.zero_le _) (fun h => by cases h) (Ext.refl w)
  · have e0 := empty_not hp0
    go_enter Tryz.func71, Tryz.ntmps71
    go_wp2_with fail
    refine (HRI.out _).mono ?_
    rintro e w1 ⟨rfl, hE1⟩
    have HE1 := Lib.hid hE1; clear hE1
    cases r
    · go_wp2
      go_ret2
      exact up_told (up := ByteArray.empty) (Nat.zero_le _) (fun h => by cases h) HE1.out
    · go_wp2_with fail
      refine (HL.out _).mono ?_
      rintro e w2 ⟨rfl, rfl⟩
      by_cases hi0 : i < 0
      · have hm : max i 0 = 0 := by omega
        go_wp2
        go_ret2
        exact up_told (up := ByteArray.empty) (Nat.zero_le _) (fun _ => by show 0 < p.size; omega) HE1.out
      · have hm : max i 0 = i := by omega
        obtain ⟨k, rfl⟩ : ∃ k : Nat, i = k := ⟨i.toNat, by omega⟩
        have hz : (p.extract 0 k).size = k := by rw [ByteArray.size_extract]; omega
        go_wp2
        go_ret2
        exact up_told (up := p.extract 0 k) (by rw [hz]; omega) (fun _ => by rw [hz]; omega) HE1.out
set_option maxHeartbeats 1000000 in
set_option maxRecDepth 100000 in
theorem basePW (p : ByteArray) (w : World) (hp : p.size ≤ 1000) : Calls Tryz.prog 81 #[.string p] w (fun e w' => ∃ s, e = .returned (.string s) ∧ s.size ≤ p.size ∧ Ext w w') := by
  have HRI := Lib.hid (fun w => rightP_any p w (by omega))
  have hL := fun w => Tryz.strings_LastIndexByte p 47 (by omega) w
  have hbd := last_bounds p 47
  obtain ⟨i, hi⟩ : ∃ i, Lib.lastIndexByte p 47 = i := ⟨_, rfl⟩
  rw [hi] at hL hbd
  have HL := Lib.hid hL; clear hL hi
  obtain ⟨r, hr⟩ : ∃ r, rightF (txt p) = r := ⟨_, rfl⟩
  rw [hr] at HRI
  clear hr
  go_enter Tryz.func81, Tryz.ntmps81
  go_wp2_with fail
  refine (HRI.out _).mono ?_
  rintro e w1 ⟨rfl, hE1⟩
  have HE1 := Lib.hid hE1; clear hE1
  cases r
  · go_wp2
    go_ret
    exact ⟨ByteArray.empty, rfl, Nat.zero_le _, HE1.out⟩
  · go_wp2_with fail
    refine (HL.out _).mono ?_
    rintro e w2 ⟨rfl, rfl⟩
    obtain ⟨k, hk⟩ : ∃ k : Nat, i + 1 = k := ⟨(i + 1).toNat, by omega⟩
    have wk : IntKind.i64.wrap (i + 1) = (k : Int) := by rw [IntWalk.i64_in _ (by omega), hk]
    have hkp : k ≤ p.size := by omega
    clear hbd
    have hz : (p.extract k p.size).size ≤ p.size := by rw [ByteArray.size_extract]; omega
    go_wp2
    go_ret
    exact ⟨_, rfl, hz, HE1.out⟩
end Go.Proofs.YtiopahkigbdmcaaGreat
/- A path's parent (layer 1), the program's side, exactly: the walk. -/
namespace Go.Proofs.YtiopahkigbdmcaaGreat
open Go Go.Proofs Go.RowKit

theorem split_app (a r : List Int) : splitF (a ++ 47 :: r) = splitF a ++ splitF r := by
  induction a with
  | nil => show splitF (47 :: r) = [[]] ++ splitF r; simp [splitF]
  | cons c a ih =>
    rw [List.cons_append, splitF, splitF]
    by_cases hc : c = 47
    · rw [if_pos hc, if_pos hc, ih]; rfl
    · rw [if_neg hc, if_neg hc, ih]
      cases h : splitF a with
      | nil => exact absurd h (splitF_ne a)
      | cons x t => rfl
theorem up_none {l : List Int} (h : 47 ∉ l) : glueF (splitF l).dropLast = [] := by rw [splitF_none l h]; rfl
theorem up_at {l : List Int} {k : Nat} (hk : k < l.length) (h47 : l[k] = 47) (hno : ∀ j (hj : j < l.length), k < j → l[j] ≠ 47) : glueF (splitF l).dropLast = l.take k := by
  have e : l = l.take k ++ 47 :: l.drop (k + 1) := by
    rw [← h47, ← List.drop_eq_getElem_cons hk, List.take_append_drop]
  have h2 : 47 ∉ l.drop (k + 1) := by
    intro hm
    obtain ⟨j, hj, hje⟩ := List.getElem_of_mem hm
    rw [List.length_drop] at hj
    rw [List.getElem_drop] at hje
    exact hno _ (by omega) (by omega) hje
  conv => lhs; rw [e]
  rw [split_app, splitF_none _ h2, List.dropLast_concat, glue_split]
theorem names_right {l : List Int} (h0 : l ≠ []) (h : rightF l = true) : namesF l = splitF l := by
  unfold namesF cutF
  rw [if_pos h, if_neg h0]
theorem byte_at (p : ByteArray) (i : Nat) (hi : i < p.size) : ((p.data[i]!).toNat : Int) = (txt p)[i]'(by rw [txt_len]; exact hi) := by
  rw [txt_at p i hi]
  have : i < p.data.size := hi
  rw [getElem!_pos p.data i this]
  rfl
def UpIs (p : ByteArray) (w : World) (e : Ending) (w' : World) : Prop := ∃ up ok, e = .returned (.tuple #[.string up, .bool ok]) ∧ (ok = true ↔ namesF (txt p) ≠ []) ∧ (ok = true → txt up = upF (txt p)) ∧ up.size ≤ p.size ∧ Ext w w'
theorem up_is {p up : ByteArray} {ok : Bool} {w w' : World} (h1 : ok = true ↔ namesF (txt p) ≠ []) (h2 : ok = true → txt up = upF (txt p)) (h3 : up.size ≤ p.size) (hE : Ext w w') : UpIs p w (.returned (.tuple #[.string up, .bool ok])) w' := ⟨up, ok, rfl, h1, h2, h3, hE⟩
set_option maxHeartbeats 1000000 in
set_option maxRecDepth 100000 in
theorem parentQ (p : ByteArray) (w : World) (hp : p.size ≤ 1000) : Calls Tryz.prog 71 #[.string p] w (UpIs p w) := by
  have HRI := Lib.hid (fun w => rightP_any p w (by omega))
  have hL := fun w => Tryz.strings_LastIndexByte p 47 (by omega) w
  have hbd := last_bounds p 47
  have HSp := Lib.hid (Lib.lastIndexByte_spec p 47)
  obtain ⟨i, hi⟩ : ∃ i, Lib.lastIndexByte p 47 = i := ⟨_, rfl⟩
  rw [hi] at hL hbd HSp
  have HL := Lib.hid hL; clear hL hi
  obtain ⟨r, hr⟩ : ∃ r, rightF (txt p) = r := ⟨_, rfl⟩
  rw [hr] at HRI
  have HRR := Lib.hid hr; clear hr
  by_cases hp0 : p.size = 0
  · have e0 := empty_is hp0
    have ht : txt p = [] := txt_nil.2 hp0
    have HT := Lib.hid ht; clear ht
    go_enter Tryz.func71, Tryz.ntmps71
    go_wp2
    go_ret2
    exact up_is (up := ByteArray.empty) ⟨(fun h => by cases h), (fun h => by rw [HT.out] at h; exact absurd rfl h)⟩ (fun h => by cases h) (Nat.zero_le _) (Ext.refl w)
  · have e0 := empty_not hp0
    have ht : txt p ≠ [] := fun h => hp0 (txt_nil.1 h)
    have HT := Lib.hid ht; clear ht
    go_enter Tryz.func71, Tryz.ntmps71
    go_wp2_with fail
    refine (HRI.out _).mono ?_
    rintro e w1 ⟨rfl, hE1⟩
    have HE1 := Lib.hid hE1; clear hE1
    cases r
    · go_wp2
      go_ret2
      exact up_is (up := ByteArray.empty) ⟨(fun h => by cases h), (fun h => by unfold namesF at h; rw [HRR.out] at h; exact absurd rfl h)⟩ (fun h => by cases h) (Nat.zero_le _) HE1.out
    · have hN := names_right HT.out HRR.out
      have HN := Lib.hid hN; clear hN
      have hok : namesF (txt p) ≠ [] := by rw [HN.out]; exact splitF_ne _
      have HOk := Lib.hid hok; clear hok
      go_wp2_with fail
      refine (HL.out _).mono ?_
      rintro e w2 ⟨rfl, rfl⟩
      by_cases hi0 : i < 0
      · have hm : max i 0 = 0 := by omega
        have hu : upF (txt p) = [] := by
          unfold upF
          rw [HN.out]
          refine up_none fun hm => ?_
          obtain ⟨j, hj, hje⟩ := List.getElem_of_mem hm
          rw [txt_len] at hj
          rcases HSp.out with h | ⟨k, _, h, _⟩
          · have := h.2 j hj
            rw [byte_at p j hj] at this
            exact this hje
          · omega
        have HU := Lib.hid hu; clear hu
        go_wp2
        go_ret2
        exact up_is (up := ByteArray.empty) ⟨fun _ => HOk.out, fun _ => rfl⟩ (fun _ => HU.out.symm) (Nat.zero_le _) HE1.out
      · have hm : max i 0 = i := by omega
        obtain ⟨k, rfl⟩ : ∃ k : Nat, i = k := ⟨i.toNat, by omega⟩
        have hz : (p.extract 0 k).size = k := by rw [ByteArray.size_extract]; omega
        have hu : txt (p.extract 0 k) = upF (txt p) := by
          rw [txt_extract]
          unfold upF
          rw [HN.out]
          rcases HSp.out with h | ⟨k', hk', h, h47, hno⟩
          · omega
          · have : k' = k := by omega
            subst this
            rw [up_at (k := k') (by rw [txt_len]; exact hk') (by rw [← byte_at p k' hk']; exact h47) (fun j hj hkj => by
              rw [txt_len] at hj
              rw [← byte_at p j hj]
              exact hno j hkj hj)]
            rfl
        have HU := Lib.hid hu; clear hu
        go_wp2
        go_ret2
        exact up_is (up := p.extract 0 k) ⟨fun _ => HOk.out, fun _ => rfl⟩ (fun _ => HU.out) (by rw [hz]; omega) HE1.out
end Go.Proofs.YtiopahkigbdmcaaGreat
/- The order of paths (layer 1), the program's side: it is the document's: the walk. -/
namespace Go.Proofs.YtiopahkigbdmcaaGreat
open Go Go.Proofs Go.RowKit

def keyB (c : Int) : Int := if c = 47 then -1 else c
def ordF (a b : Int) : Int := if a < b then -1 else if a > b then 1 else 0
def bcmp : List Int → List Int → Int
  | [], [] => 0
  | [], _ :: _ => -1
  | _ :: _, [] => 1
  | a :: l, b :: m => if a = b then bcmp l m else ordF (keyB a) (keyB b)
theorem cmp_nil_cons (x : List Int) (t : Pth) : cmpF [] (x :: t) = -1 := rfl
theorem bcmp_split (l m : List Int) (hl : ∀ x ∈ l, 0 ≤ x) (hm : ∀ x ∈ m, 0 ≤ x) : bcmp l m = cmpF (splitF l) (splitF m) := by
  induction l generalizing m with
  | nil =>
    cases m with
    | nil => rfl
    | cons b m =>
      rw [splitF]
      show (-1 : Int) = cmpF [[]] _
      rw [splitF]
      by_cases hb : b = 47
      · rw [if_pos hb, cmpF, text_self, if_neg (by omega)]
        cases h : splitF m with
        | nil => exact absurd h (splitF_ne m)
        | cons x t => rfl
      · rw [if_neg hb]
        cases h : splitF m with
        | nil => exact absurd h (splitF_ne m)
        | cons x t => rfl
  | cons a l ih =>
    cases m with
    | nil =>
      show (1 : Int) = cmpF _ [[]]
      rw [splitF]
      by_cases ha : a = 47
      · rw [if_pos ha, cmpF, text_self, if_neg (by omega)]
        cases h : splitF l with
        | nil => exact absurd h (splitF_ne l)
        | cons x t => rfl
      · rw [if_neg ha]
        cases h : splitF l with
        | nil => exact absurd h (splitF_ne l)
        | cons x t => rfl
    | cons b m =>
      have ih' := ih m (fun x hx => hl x (by simp [hx])) (fun x hx => hm x (by simp [hx]))
      have ha0 := hl a (by simp)
      have hb0 := hm b (by simp)
      rw [bcmp, splitF, splitF]
      by_cases hab : a = b
      · subst hab
        rw [if_pos rfl, ih']
        by_cases ha : a = 47
        · rw [if_pos ha, if_pos ha, cmpF, text_self, if_neg (by omega)]
        · rw [if_neg ha, if_neg ha]
          cases h : splitF l with
          | nil => exact absurd h (splitF_ne l)
          | cons x t =>
            cases h' : splitF m with
            | nil => exact absurd h' (splitF_ne m)
            | cons y u =>
              show cmpF (x :: t) (y :: u) = cmpF ((a :: x) :: t) ((a :: y) :: u)
              rw [cmpF, cmpF]
              have : textF (a :: x) (a :: y) = textF x y := by rw [textF, if_neg (by omega), if_neg (by omega)]
              rw [this]
      · rw [if_neg hab]
        unfold ordF keyB
        by_cases ha : a = 47
        · have hb : b ≠ 47 := fun e => hab (by rw [ha, e])
          rw [if_pos ha, if_neg hb, if_pos ha, if_neg hb, if_pos (by omega)]
          cases h' : splitF m with
          | nil => exact absurd h' (splitF_ne m)
          | cons y u => rfl
        · by_cases hb : b = 47
          · rw [if_neg ha, if_pos hb, if_neg ha, if_pos hb, if_neg (by omega), if_pos (by omega)]
            cases h : splitF l with
            | nil => exact absurd h (splitF_ne l)
            | cons x t => rfl
          · rw [if_neg ha, if_neg hb, if_neg ha, if_neg hb]
            cases h : splitF l with
            | nil => exact absurd h (splitF_ne l)
            | cons x t =>
              cases h' : splitF m with
              | nil => exact absurd h' (splitF_ne m)
              | cons y u =>
                show _ = cmpF ((a :: x) :: t) ((b :: y) :: u)
                rw [cmpF]
                by_cases hlt : a < b
                · have : textF (a :: x) (b :: y) = -1 := by rw [textF, if_pos hlt]
                  rw [if_pos hlt, this]; rfl
                · have : textF (a :: x) (b :: y) = 1 := by rw [textF, if_neg hlt, if_pos (by omega)]
                  rw [if_neg hlt, if_pos (show a > b by omega), this]; rfl
theorem bcmp_cut (p q : ByteArray) : bcmp (txt p) (txt q) = cmpF (keyP p) (keyP q) := by
  have hb : ∀ s : ByteArray, ∀ x ∈ txt s, 0 ≤ x := fun s x hx => (txt_byte s x hx).1
  rw [bcmp_split _ _ (hb p) (hb q)]
  unfold keyP cutF
  by_cases h1 : txt p = []
  · by_cases h2 : txt q = []
    · rw [if_pos h1, if_pos h2, h1, h2]; rfl
    · rw [if_pos h1, if_neg h2, h1]
      obtain ⟨b, m, hm⟩ : ∃ b m, txt q = b :: m := by cases h : txt q with
        | nil => exact absurd h h2
        | cons b m => exact ⟨b, m, rfl⟩
      have := bcmp_split [] (txt q) (fun x hx => by simp at hx) (hb q)
      rw [← this, hm]
      show (-1 : Int) = _
      cases h : splitF (b :: m) with
      | nil => exact absurd h (splitF_ne _)
      | cons x t => rfl
  · by_cases h2 : txt q = []
    · rw [if_neg h1, if_pos h2, h2]
      obtain ⟨b, m, hm⟩ : ∃ b m, txt p = b :: m := by cases h : txt p with
        | nil => exact absurd h h1
        | cons b m => exact ⟨b, m, rfl⟩
      have := bcmp_split (txt p) [] (hb p) (fun x hx => by simp at hx)
      rw [← this, hm]
      show (1 : Int) = _
      cases h : splitF (b :: m) with
      | nil => exact absurd h (splitF_ne _)
      | cons x t => rfl
    · rw [if_neg h1, if_neg h2]
theorem bcmp_step (l m : List Int) (k : Nat) (h1 : k < l.length) (h2 : k < m.length) : bcmp (l.drop k) (m.drop k) = if l[k] = m[k] then bcmp (l.drop (k + 1)) (m.drop (k + 1)) else ordF (keyB l[k]) (keyB m[k]) := by
  rw [List.drop_eq_getElem_cons h1, List.drop_eq_getElem_cons h2, bcmp]
theorem bcmp_end (l m : List Int) (k : Nat) (h : ¬ (k < l.length ∧ k < m.length)) (hk1 : k ≤ l.length) (hk2 : k ≤ m.length) : bcmp (l.drop k) (m.drop k) = ordF l.length m.length := by
  unfold ordF
  by_cases h1 : k < l.length
  · have h2 : m.length ≤ k := by omega
    rw [List.drop_eq_getElem_cons h1, List.drop_eq_nil_of_le h2, bcmp, if_neg (by omega), if_pos (by omega)]
  · by_cases h2 : k < m.length
    · rw [List.drop_eq_nil_of_le (by omega), List.drop_eq_getElem_cons h2, bcmp, if_pos (by omega)]
    · rw [List.drop_eq_nil_of_le (by omega), List.drop_eq_nil_of_le (by omega), bcmp, if_neg (by omega), if_neg (by omega)]
set_option maxRecDepth 100000 in
theorem orderW (a b : Int) (w : World) : Calls Tryz.prog 95 #[.int .i64 a, .int .i64 b] w (fun e w' => e = .returned (.int .i64 (ordF a b)) ∧ w = w') := by
  unfold ordF
  by_cases h1 : a < b
  · rw [if_pos h1]
    go_enter Tryz.func95, Tryz.ntmps95
    go_wp2
    go_ret
    exact ⟨rfl, rfl⟩
  · rw [if_neg h1]
    by_cases h2 : a > b
    · rw [if_pos h2]
      go_enter Tryz.func95, Tryz.ntmps95
      go_wp2
      go_ret
      exact ⟨rfl, rfl⟩
    · rw [if_neg h2]
      go_enter Tryz.func95, Tryz.ntmps95
      go_wp2
      go_ret
      exact ⟨rfl, rfl⟩
set_option maxRecDepth 100000 in
theorem keyW (c : Nat) (w : World) (hc : c < 256) : Calls Tryz.prog 96 #[.int .u8 c] w (fun e w' => e = .returned (.int .i64 (keyB c)) ∧ w = w') := by
  unfold keyB
  by_cases h1 : (c : Int) = 47
  · have g1 : ((c : Int) == 47) = true := by rw [h1]; rfl
    rw [if_pos h1]
    clear h1
    go_enter Tryz.func96, Tryz.ntmps96
    go_wp2
    go_ret
    exact ⟨rfl, rfl⟩
  · have g1 : ((c : Int) == 47) = false := beq_eq_false_iff_ne.2 h1
    rw [if_neg h1]
    clear h1
    go_enter Tryz.func96, Tryz.ntmps96
    go_wp2
    go_ret
    exact ⟨rfl, rfl⟩
set_option maxHeartbeats 1000000 in
set_option maxRecDepth 100000 in
theorem cmpP_any (p q : ByteArray) (w : World) (hp : p.size ≤ 1000) (_hq : q.size ≤ 1000) : Calls Tryz.prog 73 #[.string p, .string q] w (fun e w' => e = .returned (.int .i64 (cmpF (keyP p) (keyP q))) ∧ ∃ n, w' = w.drewN n) := by
  have HO := Lib.hid (fun a b w => orderW a b w)
  have HK := Lib.hid (fun c w h => keyW c w h)
  have hR := bcmp_cut p q
  obtain ⟨R, hRe⟩ : ∃ R, cmpF (keyP p) (keyP q) = R := ⟨_, rfl⟩
  rw [hRe] at hR ⊢
  have HR := Lib.hid hR; clear hR hRe
  go_enter Tryz.func73, Tryz.ntmps73
  go_wp2
  go_loopw [5] (fun i w' => ∃ k : Nat, k ≤ p.size ∧ k ≤ q.size ∧ i = .int .i64 k ∧ bcmp ((txt p).drop k) ((txt q).drop k) = R ∧ ∃ n, w' = w.drewN n) (fun i _ => p.size - (intOf i).toNat)
  case atStart => exact ⟨0, Nat.zero_le _, Nat.zero_le _, rfl, HR.out, 0, rfl⟩
  case round =>
    obtain ⟨k, hk1, hk2, rfl, ht, n, rfl⟩ := hrel
    have HT := Lib.hid ht; clear ht
    by_cases h1 : k < p.size
    · by_cases h2 : k < q.size
      · have HS := Lib.hid (bcmp_step (txt p) (txt q) k (by rw [txt_len]; exact h1) (by rw [txt_len]; exact h2))
        rw [txt_at p k h1, txt_at q k h2] at HS
        have b1 := p[k].toNat_lt
        have b2 := q[k].toNat_lt
        by_cases g1 : ((p[k].toNat : Nat) : Int) = ((q[k].toNat : Nat) : Int)
        · have HS := Lib.hid (HT.out.symm.trans (HS.out.trans (if_pos g1)))
          have g2 : (((p[k].toNat : Nat) : Int) != ((q[k].toNat : Nat) : Int)) = false := by rw [g1]; simp
          clear g1
          go_wp2
          refine wp_draw_all (by kernel_rfl) (by kernel_rfl) ?_
          repeat ((with_reducible refine wpStill_step (fun K hK => ?_)); go_simp; refine hK _ ?_; clear hK K)
          refine wpStill_nil ?_
          go_wp2
          go_roundw
          case rel => exact ⟨k + 1, by omega, by omega, by go_num, HS.out.symm, n + 1, rfl⟩
          case measure => simp [intOf]; omega
        · have HS := Lib.hid (HT.out.symm.trans (HS.out.trans (if_neg g1)))
          have g2 : (((p[k].toNat : Nat) : Int) != ((q[k].toNat : Nat) : Int)) = true := by simpa using g1
          clear g1
          go_wp2
          refine wp_draw_all (by kernel_rfl) (by kernel_rfl) ?_
          repeat ((with_reducible refine wpStill_step (fun K hK => ?_)); go_simp; refine hK _ ?_; clear hK K)
          refine wpStill_nil ?_
          go_wp2
          refine wp_draw_stages 39 9 [] [([true, true, true, false, true, true, true], 3), ([], 7), ([], 8)] Ext Ext.refl (fun _ _ _ => Ext.trans) (by kernel_rfl) (by kernel_rfl) ?_
          apply wpStages_cons (by simp)
          · intro w1 hw1
            simp only [sel_true, sel_false, sel_nil]
            repeat ((with_reducible refine wpStill_step (fun K hK => ?_)); go_simp; refine hK _ ?_; clear hK K)
            exact wpStill_nil rfl
          try simp only [List.getD_cons_succ, List.getD_cons_zero]
          go_wp2_with (go_at_call 96; refine (HK.out _ _ (by omega)).mono ?_; rintro e w3 ⟨rfl, rfl⟩)
          refine ⟨Ext.refl _, ?_⟩
          apply wpStages_cons (by simp)
          · intro w1 hw1
            simp only [sel_nil]
            repeat ((with_reducible refine wpStill_step (fun K hK => ?_)); go_simp; refine hK _ ?_; clear hK K)
            exact wpStill_nil rfl
          try simp only [List.getD_cons_succ, List.getD_cons_zero]
          go_wp2_with (go_at_call 96; refine (HK.out _ _ (by omega)).mono ?_; rintro e w3 ⟨rfl, rfl⟩)
          refine ⟨Ext.refl _, ?_⟩
          apply wpStages_cons (by simp)
          · intro w1 hw1
            simp only [sel_nil]
            repeat ((with_reducible refine wpStill_step (fun K hK => ?_)); go_simp; refine hK _ ?_; clear hK K)
            exact wpStill_nil rfl
          try simp only [List.getD_cons_succ, List.getD_cons_zero]
          go_wp2_with (go_at_call 95; refine (HO.out _ _ _).mono ?_; rintro e w3 ⟨rfl, rfl⟩)
          refine ⟨Ext.refl _, ?_⟩
          refine wpStages_nil ?_
          simp only [sel_nil]
          repeat ((with_reducible refine wpStill_step (fun K hK => ?_)); go_simp; refine hK _ ?_; clear hK K)
          refine wpStill_nil ?_
          try simp only [List.drop_succ_cons, List.drop_zero]
          go_wp2
          go_ret
          exact ⟨by rw [HS.out]; rfl, n + 2, rfl⟩
      · have HS := Lib.hid (HT.out.symm.trans (bcmp_end (txt p) (txt q) k (by rw [txt_len, txt_len]; omega) (by rw [txt_len]; omega) (by rw [txt_len]; omega)))
        rw [txt_len, txt_len] at HS
        go_wp2_with (go_at_call 95; refine (HO.out _ _ _).mono ?_; rintro e w3 ⟨rfl, rfl⟩)
        go_ret
        exact ⟨by rw [HS.out]; rfl, n, rfl⟩
    · have HS := Lib.hid (HT.out.symm.trans (bcmp_end (txt p) (txt q) k (by rw [txt_len, txt_len]; omega) (by rw [txt_len]; omega) (by rw [txt_len]; omega)))
      rw [txt_len, txt_len] at HS
      go_wp2_with (go_at_call 95; refine (HO.out _ _ _).mono ?_; rintro e w3 ⟨rfl, rfl⟩)
      go_ret
      exact ⟨by rw [HS.out]; rfl, n, rfl⟩
end Go.Proofs.YtiopahkigbdmcaaGreat
/- Maps with texts as keys: which map it is, exactly; what a look-up and a store do. -/
namespace Go.Proofs.YtiopahkigbdmcaaGreat
open Go Go.Proofs Go.RowKit

theorem str_key : Maps.Keyed Tryz.prog 9 := Maps.string_keyed (by kernel_rfl)
theorem key_of (s : ByteArray) (hs : s.size ≤ 100000) : keyOf Tryz.prog 9 (.string s) = some (.string s.data.toList) := WideMaps.keyOf_string_mk (by kernel_rfl) (by unfold maxLen; omega)
/-- Block b is the map F. -/
def MapIs (w : World) (b : Nat) (F : ByteArray → Option Value) : Prop := ∃ es clock, w.heap[b]? = some (.map es clock) ∧ (es.toList.map (·.key)).Nodup ∧
  (∀ e ∈ es.toList, ∃ s : ByteArray, s.size ≤ 100000 ∧ e.key = .string s ∧ F s = some e.val) ∧ (∀ s v, F s = some v → ∃ e ∈ es.toList, e.key = .string s) ∧
  (es.toList.map (·.born)).Nodup ∧ ∀ e ∈ es.toList, e.born < clock
theorem MapIs.keys {es : Array MapEntry} {F : ByteArray → Option Value} (h : ∀ e ∈ es.toList, ∃ s : ByteArray, s.size ≤ 100000 ∧ e.key = .string s ∧ F s = some e.val) : ∀ e ∈ es.toList, ∃ l, keyOf Tryz.prog 9 e.key = some l := fun e he => by
  obtain ⟨s, hs, hk, _⟩ := h e he
  exact ⟨_, by rw [hk]; exact key_of s hs⟩
theorem MapIs.new (w : World) : MapIs (w.alloc (.map #[] 0)) w.heap.size (fun _ => none) := ⟨#[], 0, heap_new w _, by simp, fun e he => by simp at he, (fun s v h => by cases h), by simp, fun e he => by simp at he⟩
theorem MapIs.lt {w : World} {b : Nat} {F : ByteArray → Option Value} (h : MapIs w b F) : b < w.heap.size := by
  obtain ⟨es, clock, hb, _⟩ := h
  exact blk_lt hb
theorem MapIs.at_ {w w' : World} {b : Nat} {F : ByteArray → Option Value} (h : MapIs w b F) (hb : w'.heap[b]? = w.heap[b]?) : MapIs w' b F := by
  obtain ⟨es, clock, h1, h2⟩ := h
  exact ⟨es, clock, hb.trans h1, h2⟩
theorem MapIs.ext {w w' : World} {b : Nat} {F : ByteArray → Option Value} (h : MapIs w b F) (hE : Ext w w') : MapIs w' b F := h.at_ (Below.block hE b h.lt)
set_option maxRecDepth 100000 in
theorem MapIs.look {w : World} {b : Nat} {F : ByteArray → Option Value} (h : MapIs w b F) (c : Bool) {t e : TypeId} (ht : Tryz.prog.underlying t = some (.map 9 e)) {z : Value} (hz : ∀ w, (zeroValue e).run Tryz.prog w = .ok z w) (s : ByteArray) (hs : s.size ≤ 100000) :
    (Instr.lookup t (.map (some b)) (.string s) c).run Tryz.prog w = .ok (if c then .tuple #[(F s).getD z, .bool (F s).isSome] else (F s).getD z) w := by
  obtain ⟨es, clock, hb, hnd, hall, hall', _⟩ := h
  have g := MapKept.run_getObj_map (P := Tryz.prog) hb
  have ck := str_key.check w es.isEmpty (key_of s hs)
  rcases str_key.find w (key_of s hs) es.toList (MapIs.keys hall) with ⟨h1, h2⟩ | ⟨j, x, h1, h2, h3⟩
  · have hF : F s = none := by
      cases hf : F s with
      | none => rfl
      | some v => obtain ⟨e, he, hk⟩ := hall' s v hf; exact absurd hk (h2 e he)
    rw [hF]
    unfold Instr.lookup
    simp [run_underlying ht, g, ck, h1, hz, Result.andThen]
  · obtain ⟨s', _, hk, hv⟩ := hall x (List.mem_of_getElem? h2)
    have hss : s' = s := by rw [h3] at hk; injection hk with hk; exact hk.symm
    subst hss
    rw [hv]
    unfold Instr.lookup
    simp [run_underlying ht, g, ck, h1, Result.andThen]
set_option maxRecDepth 100000 in
theorem MapIs.put {w : World} {b : Nat} {F : ByteArray → Option Value} (h : MapIs w b F) {t e : TypeId} (ht : Tryz.prog.underlying t = some (.map 9 e)) (s : ByteArray) (hs : s.size ≤ 100000) (v : Value) :
    ∃ o, (Instr.mapUpdate t (.map (some b)) (.string s) v).run Tryz.prog w = .ok () (putBlk w b o) ∧ MapIs (putBlk w b o) b (fun s' => if s' = s then some v else F s') := by
  obtain ⟨es, clock, hb, hnd, hall, hall', hbn, hbl⟩ := h
  have g := MapKept.run_getObj_map (P := Tryz.prog) hb
  have ck := str_key.check w false (key_of s hs)
  have hlt := blk_lt hb
  rcases str_key.find w (key_of s hs) es.toList (MapIs.keys hall) with ⟨h1, hno⟩ | ⟨j, x, h1, h2, h3⟩
  · refine ⟨.map (es.push ⟨.string s, v, clock⟩) (clock + 1), ?_, _, _, putBlk_same _ hlt, ?_, fun y hy => ?_, fun s' v' hv' => ?_, ?_, fun y hy => ?_⟩
    · unfold Instr.mapUpdate
      simp [run_underlying ht, g, ck, h1, MapKept.run_setObj_map _ hb, Result.andThen, putBlk]
    · rw [Array.toList_push, List.map_append, List.nodup_append]
      refine ⟨hnd, by simp, fun a ha c hc => ?_⟩
      obtain ⟨y, hy, rfl⟩ := List.mem_map.1 ha
      simp only [List.map_cons, List.map_nil, List.mem_singleton] at hc
      rw [hc]
      exact hno y hy
    · rw [Array.toList_push, List.mem_append, List.mem_singleton] at hy
      rcases hy with hy | rfl
      · obtain ⟨s1, h4, h5, h6⟩ := hall y hy
        have hne : s1 ≠ s := fun e => hno y hy (by rw [h5, e])
        exact ⟨s1, h4, h5, (if_neg hne).trans h6⟩
      · exact ⟨s, hs, rfl, if_pos rfl⟩
    · rw [Array.toList_push]
      by_cases hss : s' = s
      · exact ⟨_, List.mem_append.2 (Or.inr (List.mem_singleton.2 rfl)), by rw [hss]⟩
      · have hv' : F s' = some v' := (if_neg hss).symm.trans hv'
        obtain ⟨y, hy, hk⟩ := hall' s' v' hv'
        exact ⟨y, List.mem_append.2 (Or.inl hy), hk⟩
    · rw [Array.toList_push, List.map_append, List.nodup_append]
      refine ⟨hbn, by simp, fun a ha c hc => ?_⟩
      obtain ⟨y, hy, rfl⟩ := List.mem_map.1 ha
      simp only [List.map_cons, List.map_nil, List.mem_singleton] at hc
      have := hbl y hy
      omega
    · rw [Array.toList_push, List.mem_append, List.mem_singleton] at hy
      rcases hy with hy | rfl
      · have := hbl y hy; omega
      · exact Nat.lt_succ_self _
  · have hj : es[j]? = some x := by simpa using h2
    have hjl : j < es.toList.length := (List.getElem?_eq_some_iff.1 h2).1
    have hkeys : (es.modify j fun y => { y with key := .string s, val := v }).toList.map (·.key) = es.toList.map (·.key) := by
      apply List.ext_getElem
      · simp
      · intro i hi1 hi2
        rw [List.getElem_map, List.getElem_map]
        simp only [Array.toList_modify, List.getElem_modify]
        split
        · rename_i hji
          subst hji
          have := (List.getElem?_eq_some_iff.1 h2).2
          rw [this, h3]
        · rfl
    have hborn : (es.modify j fun y => { y with key := .string s, val := v }).toList.map (·.born) = es.toList.map (·.born) := by
      apply List.ext_getElem
      · simp
      · intro i hi1 hi2
        rw [List.getElem_map, List.getElem_map]
        simp only [Array.toList_modify, List.getElem_modify]
        split <;> rfl
    refine ⟨.map (es.modify j fun y => { y with key := .string s, val := v }) clock, ?_, _, _, putBlk_same _ hlt, by rw [hkeys]; exact hnd, fun y hy => ?_, fun s' v' hv' => ?_, by rw [hborn]; exact hbn, fun y hy => ?_⟩
    · unfold Instr.mapUpdate
      simp [run_underlying ht, g, ck, h1, hj, h3, str_key.stays w (key_of s hs), MapKept.run_setObj_map _ hb, Result.andThen, putBlk]
    · rw [Array.toList_modify] at hy
      obtain ⟨i, hi, rfl⟩ := List.getElem_of_mem hy
      rw [List.length_modify] at hi
      rw [List.getElem_modify]
      split
      · exact ⟨s, hs, rfl, if_pos rfl⟩
      · rename_i hji
        obtain ⟨s1, h4, h5, h6⟩ := hall _ (List.getElem_mem hi)
        have hne : s1 ≠ s := fun e => by
          apply hji
          have e1 : (es.toList.map (·.key))[j]'(by simpa using hjl) = (es.toList.map (·.key))[i]'(by simpa using hi) := by
            rw [List.getElem_map, List.getElem_map, h5, (List.getElem?_eq_some_iff.1 h2).2, h3, e]
          exact (List.getElem_inj hnd).1 e1
        exact ⟨s1, h4, h5, (if_neg hne).trans h6⟩
    · have hmem : ∀ k, k ∈ es.toList.map (·.key) → ∃ y ∈ (es.modify j fun y => { y with key := .string s, val := v }).toList, y.key = k := fun k hk => by
        rw [← hkeys] at hk
        obtain ⟨y, hy, rfl⟩ := List.mem_map.1 hk
        exact ⟨y, hy, rfl⟩
      apply hmem
      by_cases hss : s' = s
      · rw [hss, ← h3]; exact List.mem_map_of_mem (List.mem_of_getElem? h2)
      · have hv' : F s' = some v' := (if_neg hss).symm.trans hv'
        obtain ⟨y, hy, hk⟩ := hall' s' v' hv'
        rw [← hk]; exact List.mem_map_of_mem hy
    · have hmb : y.born ∈ es.toList.map (·.born) := by rw [← hborn]; exact List.mem_map_of_mem hy
      obtain ⟨z, hz, hzb⟩ := List.mem_map.1 hmb
      rw [← hzb]; exact hbl z hz
theorem wpList_lookup_is {ops : Array Oper} {rest : List Oper} {o : Oper} {a : Act} {Q : Exit → Act → World → Prop} {w : World} (hg : o.guard = none) (m x : Operand) (t : TypeId) (c : Bool) (hop : o.op = Op.lookup t m x c)
    (e : TypeId) (ht : Tryz.prog.underlying t = some (.map 9 e)) (z : Value) (hz : ∀ w, (zeroValue e).run Tryz.prog w = .ok z w) (b : Nat) (F : ByteArray → Option Value) (hm : a.eval m = .map (some b)) (hF : MapIs w b F)
    (s : ByteArray) (hx : a.eval x = .string s) (hs : s.size ≤ 100000)
    (hK : wpList Tryz.prog ops Q rest (a.put o.dst (if c then .tuple #[(F s).getD z, .bool (F s).isSome] else (F s).getD z)) w) : wpList Tryz.prog ops Q (o :: rest) a w := by
  refine wpList_plain hg fun K' hK' => ?_
  have hrun := hF.look c ht hz s hs
  have hk := hK' _ _ hK
  unfold Oper.wp
  simp [execOp, hop, hm, hx, hrun, Result.andThen]
  exact hk
theorem wpList_update_is {ops : Array Oper} {rest : List Oper} {o : Oper} {a : Act} {Q : Exit → Act → World → Prop} {w : World} (hg : o.guard = none) (m x v : Operand) (t : TypeId) (hop : o.op = Op.mapUpdate t m x v)
    (e : TypeId) (ht : Tryz.prog.underlying t = some (.map 9 e)) (b : Nat) (F : ByteArray → Option Value) (hm : a.eval m = .map (some b)) (hF : MapIs w b F)
    (s : ByteArray) (hx : a.eval x = .string s) (hs : s.size ≤ 100000) (val : Value) (hv : a.eval v = val)
    (hK : ∀ o', MapIs (putBlk w b o') b (fun s' => if s' = s then some val else F s') → wpList Tryz.prog ops Q rest (a.put o.dst undef) (putBlk w b o')) : wpList Tryz.prog ops Q (o :: rest) a w := by
  refine wpList_plain hg fun K' hK' => ?_
  obtain ⟨o', hrun, h1⟩ := hF.put ht s hs val
  have hk := hK' _ _ (hK o' h1)
  unfold Oper.wp
  simp [execOp, hop, hm, hx, hv, hrun, Result.andThen]
  exact hk
end Go.Proofs.YtiopahkigbdmcaaGreat
/- Going through a map with texts as keys, in whatever order: the laws. -/
namespace Go.Proofs.YtiopahkigbdmcaaGreat
open Go Go.Proofs Go.RowKit
open Go.ChangeMaps (setBlock)

/-- A map's value: nil, or a block. -/
def MapV (w : World) (m : Option Nat) (F : ByteArray → Option Value) : Prop := match m with
  | none => ∀ s, F s = none
  | some b => MapIs w b F
theorem MapV.ext {w w' : World} {m : Option Nat} {F : ByteArray → Option Value} (h : MapV w m F) (hE : Ext w w') : MapV w' m F := by
  cases m with
  | none => exact h
  | some b => exact MapIs.ext h hE
theorem MapV.kept {w w' : World} {m : Option Nat} {F : ByteArray → Option Value} {row : Option Nat} (h : MapV w m F) (hg : w.grownBy w' row) (hne : ∀ b, m = some b → some b ≠ row) : MapV w' m F := by
  cases m with
  | none => exact h
  | some b => exact MapIs.at_ h (hg.block b (MapIs.lt h) (hne b rfl))
/-- An iterator over a map: the keys that it has handed out. -/
def Iter (w : World) (m : Option Nat) (r : Nat) (F : ByteArray → Option Value) (seen : List ByteArray) (left : Nat) : Prop := match m with
  | none => w.heap[r]? = some (.mapIter none 0 #[] 0) ∧ (∀ s, F s = none) ∧ left = 0 ∧ seen = []
  | some b => ∃ es clock since sb c0, w.heap[b]? = some (.map es clock) ∧ MapIs w b F ∧ w.heap[r]? = some (.mapIter (some b) since sb c0) ∧ (∀ e ∈ es.toList, e.born < since) ∧ since ≤ c0 ∧ since ≤ clock ∧ left = (leftOf es sb).size ∧
      (∀ e ∈ es.toList, ∀ s, e.key = .string s → (sb.contains e.born = true ↔ s ∈ seen)) ∧ b ≠ r ∧ ∀ s ∈ seen, (F s).isSome = true
def leftN (w : World) (r : Nat) : Nat := match w.heap[r]? with
  | some (.mapIter (some b) _ sb _) => (match w.heap[b]? with | some (.map es _) => (leftOf es sb).size | _ => 0)
  | _ => 0
theorem Iter.left {w : World} {m : Option Nat} {r : Nat} {F : ByteArray → Option Value} {seen : List ByteArray} {left : Nat} (h : Iter w m r F seen left) : leftN w r = left := by
  cases m with
  | none =>
    obtain ⟨h1, _, h2, _⟩ := h
    unfold leftN; rw [h1, h2]
  | some b =>
    obtain ⟨es, clock, since, sb, c0, hb, _, hr, _, _, _, hl, _⟩ := h
    unfold leftN; rw [hr]; simp only [hb]; exact hl.symm
theorem Iter.lt {w : World} {m : Option Nat} {r : Nat} {F : ByteArray → Option Value} {seen : List ByteArray} {left : Nat} (h : Iter w m r F seen left) : r < w.heap.size := by
  cases m with
  | none => exact blk_lt h.1
  | some b =>
    obtain ⟨es, clock, since, sb, c0, hb, _, hr, _⟩ := h
    exact blk_lt hr
theorem Iter.kept {w w' : World} {m : Option Nat} {r : Nat} {F : ByteArray → Option Value} {seen : List ByteArray} {left : Nat} {row : Option Nat} (h : Iter w m r F seen left) (hg : w.grownBy w' row) (hr : some r ≠ row) (hm : ∀ b, m = some b → some b ≠ row) : Iter w' m r F seen left := by
  have hrl := h.lt
  cases m with
  | none => exact ⟨(hg.block r hrl hr).trans h.1, h.2⟩
  | some b =>
    obtain ⟨es, clock, since, sb, c0, hb, hF, hr', h1⟩ := h
    have hbk := hg.block b (blk_lt hb) (hm b rfl)
    exact ⟨es, clock, since, sb, c0, hbk.trans hb, hF.at_ hbk, (hg.block r hrl hr).trans hr', h1⟩
theorem Iter.mapV {w : World} {m : Option Nat} {r : Nat} {F : ByteArray → Option Value} {seen : List ByteArray} {left : Nat} (h : Iter w m r F seen left) : MapV w m F := by
  cases m with
  | none => exact h.2.1
  | some b =>
    obtain ⟨_, _, _, _, _, _, hF, _⟩ := h
    exact hF
theorem Iter.isSome {w : World} {m : Option Nat} {r : Nat} {F : ByteArray → Option Value} {seen : List ByteArray} {left : Nat} (h : Iter w m r F seen left) : ∀ s ∈ seen, (F s).isSome = true := by
  cases m with
  | none => intro s hs; rw [h.2.2.2] at hs; simp at hs
  | some b =>
    obtain ⟨_, _, _, _, _, _, _, _, _, _, _, _, _, _, h1⟩ := h
    exact h1
theorem Iter.blk {w : World} {m : Option Nat} {r : Nat} {F : ByteArray → Option Value} {seen : List ByteArray} {left : Nat} (h : Iter w m r F seen left) : ∃ o : Obj, w.heap[r]? = some o ∧ o.isCells = false := by
  cases m with
  | none => exact ⟨_, h.1, rfl⟩
  | some b =>
    obtain ⟨_, _, _, _, _, _, _, hr, _⟩ := h
    exact ⟨_, hr, rfl⟩
theorem MapIs.blk {w : World} {b : Nat} {F : ByteArray → Option Value} (h : MapIs w b F) : ∃ o : Obj, w.heap[b]? = some o ∧ o.isCells = false := by
  obtain ⟨_, _, hb, _⟩ := h
  exact ⟨_, hb, rfl⟩
theorem wpList_range_is {ops : Array Oper} {rest : List Oper} {o : Oper} {a : Act} {Q : Exit → Act → World → Prop} {w : World} (hg : o.guard = none) (x : Operand) (t : TypeId) (hop : o.op = Op.range t x) (e : TypeId)
    (ht : Tryz.prog.underlying t = some (.map 9 e)) (m : Option Nat) (F : ByteArray → Option Value) (hm : a.eval x = .map m) (hF : MapV w m F)
    (hK : ∀ o' left, Iter (w.alloc o') m w.heap.size F [] left → wpList Tryz.prog ops Q rest (a.put o.dst (.pointer (some ⟨w.heap.size, 0, none⟩))) (w.alloc o')) : wpList Tryz.prog ops Q (o :: rest) a w := by
  refine wpList_plain hg fun K' hK' => ?_
  cases m with
  | none =>
    have hrun := run_range_nilMap (P := Tryz.prog) w t 9 e ht
    have hk := hK' _ _ (hK (.mapIter none 0 #[] 0) 0 ⟨heap_new w _, hF, rfl, rfl⟩)
    unfold Oper.wp
    simp [execOp, hop, hm, hrun, Result.andThen]
    exact hk
  | some b =>
    have hF' : MapIs w b F := hF
    obtain ⟨es, clock, hb, hnd, hall, hall', hbn, hbl⟩ := hF'
    have hrun := run_range_map (P := Tryz.prog) w t 9 e b es clock ht hb
    have hbr := blk_lt hb
    have hk := hK' _ _ (hK (.mapIter (some b) clock #[] clock) _ ⟨es, clock, clock, #[], clock, heap_before _ _ hb, MapIs.ext hF ((Ext.refl w).alloc _), heap_new w _, hbl, Nat.le_refl _, Nat.le_refl _, rfl, fun e he s hs => by simp, by omega, fun s hs => by simp at hs⟩)
    unfold Oper.wp
    simp [execOp, hop, hm, hrun, Result.andThen]
    exact hk
theorem wpList_next_is {ops : Array Oper} {rest : List Oper} {o : Oper} {a : Act} {Q : Exit → Act → World → Prop} {w : World} (hg : o.guard = none) (x : Operand) (hop : o.op = Op.next x false)
    (m : Option Nat) (r : Nat) (F : ByteArray → Option Value) (seen : List ByteArray) (left : Nat) (hx : a.eval x = .pointer (some ⟨r, 0, none⟩)) (h : Iter w m r F seen left)
    (hDone : (∀ s v, F s = some v → s ∈ seen) → wpList Tryz.prog ops Q rest (a.put o.dst (.tuple #[.bool false])) w)
    (hMore : ∀ (s : ByteArray) (v : Value) (w' : World) (left' : Nat), F s = some v → s ∉ seen → s.size ≤ 100000 → Iter w' m r F (s :: seen) left' → left' < left → w.grownBy w' (some r) → w'.heap.size = w.heap.size →
      (Instr.entry (.pointer (some ⟨r, 0, none⟩))).run Tryz.prog w' = .ok (.tuple #[.string s, v]) w' → wpList Tryz.prog ops Q rest (a.put o.dst (.tuple #[.bool true, .string s, v])) w') : wpList Tryz.prog ops Q (o :: rest) a w := by
  refine wpList_plain hg fun K' hK' => ?_
  unfold Oper.wp
  cases m with
  | none =>
    obtain ⟨hr, hn, _, _⟩ := h
    have hrun : (Instr.next (.pointer (some ⟨r, 0, none⟩)) false o.type).run Tryz.prog w = .ok (.tuple #[.bool false]) w := by
      simp only [Instr.next, getObj, Sem.run_bind, Sem.run, hr, Result.andThen]
      rfl
    simp [execOp, hop, hx, hrun, Result.andThen]
    exact hK' _ _ (hDone fun s v hv => by rw [hn s] at hv; cases hv)
  | some b =>
    obtain ⟨es, clock, since, sb, c0, hb, hF, hr, hold, hsc, hck, hl, hseen, hbr, hsm⟩ := h
    have hF' := hF
    obtain ⟨es', clock', hb', hnd, hall, hall', hbn, hbl⟩ := hF'
    rw [hb] at hb'
    injection hb' with hb'
    injection hb' with e1 e2
    subst e1 e2
    rcases run_next_at (P := Tryz.prog) w o.type r b since c0 sb es clock hr hb hold hsc with ⟨h0, hrun⟩ | ⟨e, he, w1, hal, hrun⟩
    · simp [execOp, hop, hx, hrun, Result.andThen]
      refine hK' _ _ (hDone fun s v hv => ?_)
      obtain ⟨x, hx, hk⟩ := hall' s v hv
      exact (hseen x hx s hk).1 (all_seen es sb h0 x hx)
    · obtain ⟨hem, hes⟩ := mem_left he
      obtain ⟨s, hs, hk, hv⟩ := hall e hem
      have hr1 : w1.heap[r]? = some (.mapIter (some b) since sb c0) := by rcases hal with rfl | rfl <;> exact hr
      have hb1 : w1.heap[b]? = some (.map es clock) := by rcases hal with rfl | rfl <;> exact hb
      have hF1 : MapIs w1 b F := by rcases hal with rfl | rfl <;> exact hF
      have hset := MapKept.heap_set (o' := .mapIter (some b) since (sb.push e.born) clock) hr1
      have hbk := hset.2 b hbr
      have hb2 : (setBlock w1 r (.mapIter (some b) since (sb.push e.born) clock)).heap[b]? = some (.map es clock) := hbk.trans hb1
      simp [execOp, hop, hx, hrun, Result.andThen]
      rw [hk]
      refine hK' _ _ (hMore s e.val _ _ hv (fun hm => ?_) hs ⟨es, clock, since, sb.push e.born, clock, hb2, hF1.at_ hbk, hset.1, hold, hck, hck, rfl, fun x hx t ht => ?_, hbr, fun t ht => ?_⟩ ?_ ?_ ?_ ?_)
      · rw [(hseen e hem s hk).2 hm] at hes; cases hes
      · rw [contains_push, Bool.or_eq_true, List.mem_cons]
        constructor
        · rintro (h | h)
          · exact Or.inr ((hseen x hx t ht).1 h)
          · left
            have := born_inj hbn hx hem (by simpa using h)
            subst this
            rw [hk] at ht
            injection ht with ht
            exact ht.symm
        · rintro (h | h)
          · right
            subst h
            have hxe : x = e := by
              rcases Classical.em (x = e) with h | h
              · exact h
              · exfalso
                obtain ⟨i, hi, rfl⟩ := List.getElem_of_mem hx
                obtain ⟨j, hj, rfl⟩ := List.getElem_of_mem hem
                have hij : i = j := by
                  have e1 : (es.toList.map (·.key))[i]'(by simpa using hi) = (es.toList.map (·.key))[j]'(by simpa using hj) := by
                    rw [List.getElem_map, List.getElem_map, ht, hk]
                  exact (List.getElem_inj hnd).1 e1
                subst hij
                exact h rfl
            subst hxe
            simp
          · exact Or.inl ((hseen x hx t ht).2 h)
      · rcases List.mem_cons.1 ht with rfl | ht
        · rw [hv]; rfl
        · exact hsm t ht
      · rw [hl]; exact left_shrinks es sb e he
      · rcases hal with rfl | rfl <;> exact ⟨rfl, rfl, rfl, by simp [setBlock], fun i _ hi => hset.2 i (fun e1 => hi (by rw [e1]))⟩
      · rcases hal with rfl | rfl <;> simp [setBlock]
      · rw [← hk]; exact run_entry_at _ r b since sb es clock e hset.1 hb2 hem hbn
end Go.Proofs.YtiopahkigbdmcaaGreat
