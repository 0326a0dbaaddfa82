/- A sketch (layer 7): the walk. -/
import Derived.Test.YtiopahkigbdmcaaGreatBl
import Derived.Test.YtiopahkigbdmcaaGreatBf
import Derived.Deep.DeepCutAuto
namespace Go.Proofs.YtiopahkigbdmcaaGreat
open Go Go.Proofs Go.RowKit
attribute [local go_sem] Oper.semAt_some

theorem OwnFrom.ex {ι : Sort _} {B : Nat} {I : ι → Nat → World → Prop} (h : ∀ i, OwnFrom B (I i)) : OwnFrom B (fun k W => ∃ i, I i k W) := fun s A C row ⟨i, hi⟩ hg hr => ⟨i, h i s A C row hi hg hr⟩
theorem Stays.ex {ι : Sort _} {bc : Nat} {I : ι → Nat → World → Prop} (h : ∀ i, Stays bc (I i)) : Stays bc (fun k W => ∃ i, I i k W) := fun n W v ⟨i, hi⟩ => ⟨i, h i n W v hi⟩
theorem set8_other {w : World} {b c : Nat} {o : Option Obj} (y0 y1 y2 y3 y4 y5 y6 y7 : Int) (hne : c ≠ b) (h : w.heap[c]? = o) : (set8 w b y0 y1 y2 y3 y4 y5 y6 y7).heap[c]? = o :=
  blk_off hne (blk_off hne (blk_off hne (blk_off hne (blk_off hne (blk_off hne (blk_off hne (blk_off hne h)))))))
set_option maxRecDepth 100000 in
theorem shinglesP_any (a : Option Addr) (n c : Nat) (w : World) : Calls Tryz.prog 86 #[.slice a n c] w (fun e w' => e = .returned (.func (.func 103) #[] #[.pointer (some ⟨w.heap.size, 0, none⟩)]) ∧ w' = w.alloc (.cells #[.slice a n c] 105)) := by
  go_enter Tryz.func86, Tryz.ntmps86
  go_wp2
  go_ret
  exact ⟨rfl, rfl⟩

set_option maxRecDepth 100000 in
set_option maxHeartbeats 1000000 in
theorem sketchW (a : Option Addr) (q : List Int) (c : Nat) (w : World) (hq : q.length ≤ 100000) (hqc : q.length ≤ c) (hB : BytesL w a q) :
    Calls Tryz.prog 66 #[.slice a q.length c] w (SketchTold w) := by
  have HBy := Lib.hid hB; clear hB
  obtain ⟨n, hn⟩ : ∃ n, q.length = n := ⟨_, rfl⟩
  have HQ := Lib.hid (And.intro hn (And.intro hq hqc)); clear hq hqc
  rw [hn]
  clear hn
  have hz0 : (w.alloc z8).heap[w.heap.size]? = some z8 := heap_at _ _ rfl
  have HZ0 := Lib.hid hz0; clear hz0
  refine (callsIn_wide (n := 3)).1 ?_
  refine callsIn_of_wp_marks Tryz.func66 rfl trivial ?_ rfl
  simp only [Tryz.ntmps66, List.size_toArray, List.length_cons, List.length_nil, Nat.reduceAdd, Nat.reduceSub, Array.replicate_succ, Array.replicate_zero, List.push_toArray, List.append_toArray, List.nil_append, List.cons_append]
  gi_wp2_with (first | (refine ⟨trivial, ?_⟩; gi_at_call 85; refine (callsIn_wide.2 (noneW _)).mono ?_; rintro e w2 ⟨cs, rfl, h8, hE2⟩; obtain ⟨y0, y1, y2, y3, y4, y5, y6, y7, rfl⟩ := h8.open; have HE2 := Lib.hid hE2; clear h8 hE2) | (refine ⟨trivial, ?_⟩; gi_at_call 86; refine (callsIn_wide.2 (shinglesP_any _ _ _ _)).mono ?_; rintro e w' ⟨rfl, rfl⟩))
  have hE2 : Ext (w.alloc z8) w2 := HE2.out
  have hz2 := hE2.size
  simp only [World.size_alloc] at hz2
  obtain ⟨wo, hwo⟩ : ∃ wo, (w2.alloc (.cells #[.int .u64 y0, .int .u64 y1, .int .u64 y2, .int .u64 y3, .int .u64 y4, .int .u64 y5, .int .u64 y6, .int .u64 y7] 82)).alloc (.cells #[.slice a n c] 105) = wo := ⟨_, rfl⟩
  have hzo : wo.heap.size = w2.heap.size + 2 := by rw [← hwo]; simp
  have hEo : Ext w2 wo := by rw [← hwo]; exact ((Ext.refl w2).alloc _).alloc _
  have hb0 : wo.heap[w.heap.size]? = some z8 := hEo.block (hE2.block HZ0.out)
  have hb1 : wo.heap[w2.heap.size]? = some (.cells #[.int .u64 y0, .int .u64 y1, .int .u64 y2, .int .u64 y3, .int .u64 y4, .int .u64 y5, .int .u64 y6, .int .u64 y7] 82 (0, 0)) := by rw [← hwo]; exact heap_before _ _ (heap_at _ _ rfl)
  have hb2 : wo.heap[w2.heap.size + 1]? = some (.cells #[.slice a n c] 105 (0, 0)) := by rw [← hwo]; exact heap_at _ _ (by simp)
  have hE0 : Below w.heap.size w wo := ((Ext.refl w).alloc _).trans (hE2.trans hEo)
  clear hE2 hEo
  obtain ⟨x, hx⟩ : ∃ x : Nat → Int, ∀ k (hk : k < (shVals q).length), (shVals q)[k] = .int .u64 (x k) := ⟨fun k => shW ((q.drop k).take (min 4 q.length)), fun k hk => by
    have : (shVals q)[k]? = some (.int .u64 (shW ((q.drop k).take (min 4 q.length)))) := by
      have h := hk
      unfold shVals at h ⊢
      split
      · rename_i h0; rw [if_pos h0] at h; simp at h
      · rename_i h0
        rw [if_neg h0, List.length_map, List.length_range] at h
        rw [List.getElem?_map, List.getElem?_range h]; rfl
    rw [List.getElem?_eq_getElem hk] at this
    exact Option.some.inj this⟩
  have HX := Lib.hid hx; clear hx
  rw [hwo]
  clear hwo
  have hh := sh_hands 2 (w2.heap.size + 1) a q c wo HQ.out.2.1 HQ.out.2.2 (by rw [HQ.out.1]; exact hb2)
  refine range_listM (by omega) (gf := 103) (lb := #[.pointer (some ⟨w2.heap.size + 1, 0, none⟩)]) (by simp [go_sem]) (enters_of Tryz.func103 (by kernel_rfl) rfl) hh rfl (by omega)
    (fun k W => W.heap[w.heap.size]? = some z8 ∧ (∃ cs, Eight cs ∧ W.heap[w2.heap.size]? = some (.cells cs 82 (0, 0))) ∧ w2.heap.size + 1 < W.heap.size ∧ Below w.heap.size w W)
    (fun _ _ => False)
    (OwnFrom.and own_blk (OwnFrom.and (OwnFrom.ex fun _ => OwnFrom.and own_pure own_blk) (OwnFrom.and own_size (own_below (Nat.le_refl _) (by omega)))))
    own_pure
    ((stays_blk (by omega)).and ((Stays.ex fun _ => stays_pure.and (stays_blk (by omega))).and (stays_size.and (stays_below (by omega)))))
    (fun k W h => HBy.out.ext h.2.2.2)
    ⟨hb0, ⟨_, eight_of _ _ _ _ _ _ _ _, hb1⟩, by omega, hE0⟩
    (fun k => { tmps := #[.slice a n c, undef, .pointer (some ⟨w.heap.size, 0, none⟩), .pointer (some ⟨w2.heap.size, 0, none⟩), .int .u64 (x k), undef, undef, .agg #[.int .u64 y0, .int .u64 y1, .int .u64 y2, .int .u64 y3, .int .u64 y4, .int .u64 y5, .int .u64 y6, .int .u64 y7], .slice a n c, .func (.func 103) #[] #[.pointer (some ⟨w2.heap.size + 1, 0, none⟩)], .int .u64 (x k), undef, undef, undef, undef, undef, undef, undef, undef, undef, undef, undef, undef, undef, undef, undef, undef, undef, undef, undef, undef, undef], defers := [] })
    ?assign ?body ?done ?stop
  case assign =>
    intro l k hk W K hK
    rw [HX.out k hk]
    gi_wp2
    exact hK
  case body =>
    rintro l k W hk ⟨h0, ⟨cs, h8, h1⟩, hsz, hB⟩
    have H0 := Lib.hid (And.intro h0 (And.intro h1 (And.intro h8 hB))); clear h0 h1 h8 hB hb0 hb1 hb2
    gi_wp2
    gi_loopw [11] (fun i wr => ∃ (j : Nat) (cs : Array Value), j ≤ 8 ∧ i = .int .i64 j ∧ wr.heap[w.heap.size]? = some z8 ∧ wr.heap[w2.heap.size]? = some (.cells cs 82 (0, 0)) ∧ Eight cs ∧ w2.heap.size + 1 < wr.heap.size ∧ Below w.heap.size w wr ∧ KeepsOthers W wr ∧ KeepB (w2.heap.size + 1) W wr) (fun i _ => 8 - (intOf i).toNat)
    case atStart => exact ⟨0, cs, by omega, rfl, H0.out.1, H0.out.2.1, H0.out.2.2.1, hsz, H0.out.2.2.2, KeepsOthers.refl _, ⟨rfl, Nat.le_refl _⟩⟩
    case round =>
      obtain ⟨j, ct, hj, rfl, hz, hb, h8, hs, hB, hko, hkb⟩ := hrel
      by_cases hlt : j < 8
      · obtain ⟨y, hy⟩ := h8.2 j hlt
        have c0 := blk_cell hb hy
        have f0 : wr.frozen? ⟨w2.heap.size, j, none⟩ = false := blk_free hb
        have hji : (j : Int) < 8 := by omega
        have H := Lib.hid (And.intro hz (And.intro hb (And.intro h8 (And.intro hB (And.intro hko hkb))))); clear hz hb h8 hB hko hkb
        have hp : (wr.alloc (.cells #[.int .u64 ((j : Int) + 1), .int .u64 (j : Int)] 81)).drew.heap[wr.heap.size]? = some (.cells #[.int .u64 ((j : Int) + 1), .int .u64 (j : Int)] 81 (0, 0)) := heap_at wr _ rfl
        have hp2 : (wr.alloc (.cells #[.int .u64 ((j : Int) + 1), .int .u64 (j : Int)] 81)).drew.heap[w2.heap.size]? = some (.cells ct 82 (0, 0)) := heap_before wr _ H.out.2.1
        have hEr : Ext wr (wr.alloc (.cells #[.int .u64 ((j : Int) + 1), .int .u64 (j : Int)] 81)).drew := ((Ext.refl wr).alloc _).drew
        have HP := Lib.hid (And.intro hp (And.intro hp2 hEr)); clear hp hp2 hEr
        have hfl : ∀ (h l : Int) (w : World), (Instr.field 81 (.agg #[.int .u64 h, .int .u64 l]) 1).run Tryz.prog w = .ok (.int .u64 l) w := fun _ _ _ => by kernel_rfl
        gi_wp2
        refine wpIn_draw_stages 32 10 [false, false, false, false, false, false, false, true, true, true] [([true, true, true, true, true, true], 6)] Ext Ext.refl (fun _ _ _ => Ext.trans) (by kernel_rfl) (by kernel_rfl) (by kernel_rfl) ?_
        apply wpStages_cons (by simp)
        · intro w1 hw1
          simp only [sel_true, sel_nil]
          have p0 := blk_cell (hw1.block HP.out.1) (i := 0) rfl; have p1 := blk_cell (hw1.block HP.out.1) (i := 1) rfl; have c1 := blk_cell (hw1.block HP.out.2.1) hy
          repeat ((with_reducible refine wpStill_step (fun K hK => ?_)); go_simp; refine hK _ ?_; clear hK K)
          exact wpStill_nil rfl
        try simp only [List.getD_cons_succ, List.getD_cons_zero]
        go_wp2_with (go_at_call 87; refine (roundW _ _ _ _).mono ?_; rintro e w3 ⟨hi, lo, rfl, hE3⟩; have HE3 := Lib.hid hE3; clear hE3)
        refine ⟨HE3.out, ?_⟩
        have hE4 : Ext wr w3 := HP.out.2.2.trans HE3.out
        have hb3 := HE3.out.block HP.out.2.1
        have f3 : w3.frozen? ⟨w2.heap.size, j, none⟩ = false := blk_free hb3
        have c3 := blk_cell hb3 hy
        have HE4 := Lib.hid (And.intro hb3 hE4); clear hb3 hE4
        refine wpStages_nil ?_
        simp only [sel_true, sel_false, sel_nil]
        repeat ((with_reducible refine wpStill_step (fun K hK => ?_)); go_simp; refine hK _ ?_; clear hK K)
        refine wpStill_nil ?_
        try simp only [List.drop_succ_cons, List.drop_zero]
        go_wp2
        gi_wp2
        have hb3 := HE4.out.1
        have hE4 : Ext wr w3 := HE4.out.2
        have hz4 := hE4.size
        refine ⟨⟨j + 1, _, by omega, by go_num, (blk_set_other _ (by omega)).trans (hE4.block H.out.1), blk_set _ hb3, H.out.2.2.1.set j _, lt_set (by omega), Ext.setNew (Ext.trans H.out.2.2.2.1 hE4) (by omega) _, (H.out.2.2.2.2.1.trans (keeps_ext hE4)).trans (KeepsOthers.setCell _ _ _), (H.out.2.2.2.2.2.trans (KeepB.of_ext hE4 (by omega))).trans (keepB_set _ (by omega) _)⟩, by simp [intOf]; omega⟩
      · obtain rfl : j = 8 := by omega
        have H := Lib.hid (And.intro hz (And.intro hb (And.intro h8 (And.intro hB (And.intro hko hkb))))); clear hz hb h8 hB hko hkb
        gi_wp2
        exact ⟨H.out.2.2.2.2.1, H.out.2.2.2.2.2, H.out.1, ⟨ct, H.out.2.2.1, H.out.2.1⟩, hs, H.out.2.2.2.1⟩
  case done =>
    rintro D W hD ⟨h0, ⟨cs, h8, h1⟩, hsz, hB⟩ hK
    obtain ⟨z0, z1, z2, z3, z4, z5, z6, z7, rfl⟩ := h8.open
    have c0 := blk_cell h1 (i := 0) rfl
    have c1 := blk_cell h1 (i := 1) rfl
    have c2 := blk_cell h1 (i := 2) rfl
    have c3 := blk_cell h1 (i := 3) rfl
    have c4 := blk_cell h1 (i := 4) rfl
    have c5 := blk_cell h1 (i := 5) rfl
    have c6 := blk_cell h1 (i := 6) rfl
    have c7 := blk_cell h1 (i := 7) rfl
    have d0 := blk_cell h0 (i := 0) rfl
    have d1 := blk_cell h0 (i := 1) rfl
    have d2 := blk_cell h0 (i := 2) rfl
    have d3 := blk_cell h0 (i := 3) rfl
    have d4 := blk_cell h0 (i := 4) rfl
    have d5 := blk_cell h0 (i := 5) rfl
    have d6 := blk_cell h0 (i := 6) rfl
    have d7 := blk_cell h0 (i := 7) rfl
    have fz : ∀ i, W.frozen? ⟨w.heap.size, i, none⟩ = false := fun i => blk_free h0
    have hBf := set8_blk z0 z1 z2 z3 z4 z5 z6 z7 h0 z8_eight
    have hEf := set8_ext z0 z1 z2 z3 z4 z5 z6 z7 hB (Nat.le_refl w.heap.size)
    have HF := Lib.hid (And.intro hBf (And.intro hEf hK)); clear hBf hEf h0 h1 h8 hB hK hb0 hb1 hb2
    gi_wp2
    have hne : w.heap.size ≠ D := by omega
    have hK' := set8_other z0 z1 z2 z3 z4 z5 z6 z7 (Ne.symm hne) HF.out.2.2
    obtain ⟨g1, g2, -⟩ := HF.out
    unfold set8 at hK' g1 g2
    generalize ((((((((W.setCell ⟨w.heap.size, 0, none⟩ (.int .u64 z0)).setCell ⟨w.heap.size, 1, none⟩ (.int .u64 z1)).setCell ⟨w.heap.size, 2, none⟩ (.int .u64 z2)).setCell ⟨w.heap.size, 3, none⟩ (.int .u64 z3)).setCell ⟨w.heap.size, 4, none⟩ (.int .u64 z4)).setCell ⟨w.heap.size, 5, none⟩ (.int .u64 z5)).setCell ⟨w.heap.size, 6, none⟩ (.int .u64 z6)).setCell ⟨w.heap.size, 7, none⟩ (.int .u64 z7)) = W8 at hK' g1 g2 ⊢
    clear HF
    refine ⟨by simp, .inl ⟨_, _, rfl, run_takeDeferred hK', ?_⟩⟩
    refine ⟨.agg #[.int .u64 z0, .int .u64 z1, .int .u64 z2, .int .u64 z3, .int .u64 z4, .int .u64 z5, .int .u64 z6, .int .u64 z7], res_cell rfl rfl ((World.putObj_heap_other hne).trans g1) (by kernel_rfl) (by kernel_rfl), ⟨_, rfl, eight_of _ _ _ _ _ _ _ _, ?_⟩⟩
    exact Below.trans g2 (belowK_b (w := w) (Nat.le_refl _) _ D _ _ (by omega) hK' rfl rfl)
  case stop => rintro D k W hD hk h; exact h.elim
end Go.Proofs.YtiopahkigbdmcaaGreat
/- An entry of an index (layer 23): the walk. -/
namespace Go.Proofs.YtiopahkigbdmcaaGreat
open Go Go.Proofs Go.RowKit

/-- An entry. -/
structure EntV where
  path : ByteArray
  kind : Int
  mode : Int
  time : Int
  size : Int
  hi : Int
  lo : Int
  target : ByteArray
  y0 : Int
  y1 : Int
  y2 : Int
  y3 : Int
  y4 : Int
  y5 : Int
  y6 : Int
  y7 : Int
def EntV.cells (x : EntV) : List Value := [.string x.path, .int .i64 x.kind, .int .i64 x.mode, .int .i64 x.time, .int .i64 x.size, .int .u64 x.hi, .int .u64 x.lo, .string x.target, .int .u64 x.y0, .int .u64 x.y1, .int .u64 x.y2, .int .u64 x.y3, .int .u64 x.y4, .int .u64 x.y5, .int .u64 x.y6, .int .u64 x.y7]
def EntV.val (x : EntV) : Value := .agg #[.string x.path, .int .i64 x.kind, .int .i64 x.mode, .int .i64 x.time, .int .i64 x.size, .int .u64 x.hi, .int .u64 x.lo, .string x.target, .int .u64 x.y0, .int .u64 x.y1, .int .u64 x.y2, .int .u64 x.y3, .int .u64 x.y4, .int .u64 x.y5, .int .u64 x.y6, .int .u64 x.y7]
def EntV.obj (x : EntV) : Obj := .cells #[.string x.path, .int .i64 x.kind, .int .i64 x.mode, .int .i64 x.time, .int .i64 x.size, .int .u64 x.hi, .int .u64 x.lo, .string x.target, .int .u64 x.y0, .int .u64 x.y1, .int .u64 x.y2, .int .u64 x.y3, .int .u64 x.y4, .int .u64 x.y5, .int .u64 x.y6, .int .u64 x.y7] 84
abbrev entObj (p : ByteArray) (k m t sz hi lo : Int) (tg : ByteArray) (y0 y1 y2 y3 y4 y5 y6 y7 : Int) : Obj := .cells #[.string p, .int .i64 k, .int .i64 m, .int .i64 t, .int .i64 sz, .int .u64 hi, .int .u64 lo, .string tg, .int .u64 y0, .int .u64 y1, .int .u64 y2, .int .u64 y3, .int .u64 y4, .int .u64 y5, .int .u64 y6, .int .u64 y7] 84
def entZ : EntV := ⟨⟨#[]⟩, 0, 0, 0, 0, 0, 0, ⟨#[]⟩, 0, 0, 0, 0, 0, 0, 0, 0⟩
abbrev entZO : Obj := entObj ⟨#[]⟩ 0 0 0 0 0 0 ⟨#[]⟩ 0 0 0 0 0 0 0 0
def EntTold (x : NodeV) (w : World) (e : Ending) (w' : World) : Prop := ∃ E : EntV, e = .returned E.val ∧ E.kind = x.kind ∧ (x.kind = 2 → E.size = x.data.size) ∧ Ext w w'
/-- What stands when the kinds' ways meet again. -/
def EntMid (x : NodeV) (w w' : World) : Prop := ∃ E : EntV, E.kind = x.kind ∧ (x.kind = 2 → E.size = x.data.size) ∧ w'.heap[w.heap.size + 1 + 1 + 1]? = some E.obj ∧ w'.heap[w.heap.size + 1 + 1]? = some entZO ∧ Ext w w'

set_option maxHeartbeats 4000000 in
set_option maxRecDepth 100000 in
theorem entryW (x : NodeV) (h l : Int) (w : World) (hd : x.data.size ≤ 1000) : Calls Tryz.prog 48 #[x.val, .agg #[.int .u64 h, .int .u64 l]] w (EntTold x w) := by
  have HSk := Lib.hid (fun a q c w h1 h2 h3 => sketchW a q c w h1 h2 h3)
  unfold NodeV.val
  go_enter Tryz.func48, Tryz.ntmps48
  go_upto_block 0 with fail
  obtain ⟨W, hW⟩ : ∃ W, ((((w.alloc (.cells #[.string x.path, .int .i64 x.kind, .int .i64 x.mode, .int .i64 x.time, .string x.data] 42)).alloc (.cells #[.int .u64 h, .int .u64 l] 81)).alloc entZO).alloc (entObj x.path x.kind x.mode x.time 0 0 0 ⟨#[]⟩ 0 0 0 0 0 0 0 0)) = W := ⟨_, rfl⟩
  have hsz : W.heap.size = w.heap.size + 4 := by rw [← hW]; simp
  have hE : Ext w W := by rw [← hW]; exact ((((Ext.refl w).alloc _).alloc _).alloc _).alloc _
  have hb0 : W.heap[w.heap.size]? = some (.cells #[.string x.path, .int .i64 x.kind, .int .i64 x.mode, .int .i64 x.time, .string x.data] 42 (0, 0)) := by rw [← hW]; exact heap_before _ _ (heap_before _ _ (heap_before _ _ (heap_at _ _ rfl)))
  have hb1 : W.heap[w.heap.size + 1]? = some (.cells #[.int .u64 h, .int .u64 l] 81 (0, 0)) := by rw [← hW]; exact heap_before _ _ (heap_before _ _ (heap_at _ _ (by simp)))
  have hb2 : W.heap[w.heap.size + 1 + 1]? = some entZO := by rw [← hW]; exact heap_before _ _ (heap_at _ _ (by simp))
  have hb3 : W.heap[w.heap.size + 1 + 1 + 1]? = some (entObj x.path x.kind x.mode x.time 0 0 0 ⟨#[]⟩ 0 0 0 0 0 0 0 0) := by rw [← hW]; exact heap_at _ _ (by simp)
  rw [hW]
  clear hW
  have HB := Lib.hid (And.intro hE (And.intro hb2 hb3)); clear hE hb2
  have HS := Lib.hid hsz; clear hsz
  go_cut [] (fun w' => EntMid x w w')
  case first =>
    have q0 := blk_cell hb0 (i := 0) rfl
    have q4 := blk_cell hb0 (i := 4) rfl
    have p0 := blk_cell hb1 (i := 0) rfl
    have p1 := blk_cell hb1 (i := 1) rfl
    have e4 := blk_cell hb3 (i := 4) rfl
    have e5 := blk_cell hb3 (i := 5) rfl
    have e6 := blk_cell hb3 (i := 6) rfl
    have e7 := blk_cell hb3 (i := 7) rfl
    have e8 := blk_cell hb3 (i := 8) rfl
    have e9 := blk_cell hb3 (i := 9) rfl
    have e10 := blk_cell hb3 (i := 10) rfl
    have e11 := blk_cell hb3 (i := 11) rfl
    have e12 := blk_cell hb3 (i := 12) rfl
    have e13 := blk_cell hb3 (i := 13) rfl
    have e14 := blk_cell hb3 (i := 14) rfl
    have e15 := blk_cell hb3 (i := 15) rfl
    have fz : ∀ i, W.frozen? ⟨w.heap.size + 1 + 1 + 1, i, none⟩ = false := fun i => blk_free hb3
    have HB0 := Lib.hid (And.intro hb0 hb1); clear hb0 hb1 hb3
    by_cases h1 : x.kind = 1
    · have g1 : (x.kind == 1) = true := by rw [h1]; rfl
      have HK := Lib.hid h1; clear h1
      go_wp2
      go_meet
      case rel =>
        have hB := blk_set (i := 6) (.int .u64 l) (blk_set (i := 5) (.int .u64 h) HB.out.2.2)
        simp only [List.setIfInBounds_toArray, List.set_cons_zero, List.set_cons_succ] at hB
        exact ⟨⟨x.path, x.kind, x.mode, x.time, 0, h, l, ⟨#[]⟩, 0, 0, 0, 0, 0, 0, 0, 0⟩, rfl, fun h2 => by have h2 : x.kind = 2 := h2; have := HK.out; omega, hB, blk_off (by omega) (blk_off (by omega) HB.out.2.1), Ext.setNew (Ext.setNew HB.out.1 (by omega) _) (by omega) _⟩
    · have g1 : (x.kind == 1) = false := beq_eq_false_iff_ne.2 h1
      clear h1
      by_cases h2 : x.kind = 2
      · have g2 : (x.kind == 2) = true := by rw [h2]; rfl
        have HK := Lib.hid h2; clear h2
        have hln : w.heap.size < W.heap.size := blk_lt HB0.out.1
        have hlp : w.heap.size + 1 < W.heap.size := blk_lt HB0.out.2
        go_wp2
        refine wp_draw_stages 42 13 [false, false, false, false, false, false, false, false, false, false, false, false, true] [([true, true, true, true, true, true, false, false, true], 6), ([], 7), ([], 9), ([false, false, false, false, false, false, false, false, false, false, true], 11)] (Off (w.heap.size+1+1+1)) (Off.refl (w.heap.size+1+1+1)) (fun _ _ _ => Off.trans) (by kernel_rfl) (by kernel_rfl) ?_
        apply wpStages_cons (by simp)
        · intro w1 hw1
          simp only [sel_true, sel_false, sel_nil]
          have q4' := (hw1.cell (k := w.heap.size) (o := 4) hln (by omega)).trans q4; have p0' := (hw1.cell (k := w.heap.size + 1) (o := 0) hlp (by omega)).trans p0; have p1' := (hw1.cell (k := w.heap.size + 1) (o := 1) hlp (by omega)).trans p1
          repeat ((with_reducible refine wpStill_step (fun K hK => ?_)); go_simp; refine hK _ ?_; clear hK K)
          exact wpStill_nil rfl
        try simp only [List.getD_cons_succ, List.getD_cons_zero]
        go_wp2_with (refine wpList_bytes_of rfl _ rfl _ rfl (by omega) ?_; intro g c w2 hBi hE2; have HBi := Lib.hid (And.intro hBi hE2); clear hBi hE2)
        refine ⟨Off.of_ext HBi.out.2, ?_⟩
        simp only [Act.put, List.setIfInBounds_toArray, List.set_cons_succ, List.set_cons_zero]
        have hsk := HSk.out (some ⟨g, 0, none⟩) (txt x.data) c w2 HBi.out.1.1 HBi.out.1.2.2.1 HBi.out.1.2.1
        rw [txt_len] at hsk
        have HSK := Lib.hid hsk; clear hsk
        apply wpStages_cons (by simp)
        · intro w1 hw1
          simp only [sel_nil]
          repeat ((with_reducible refine wpStill_step (fun K hK => ?_)); go_simp; refine hK _ ?_; clear hK K)
          exact wpStill_nil rfl
        try simp only [List.getD_cons_succ, List.getD_cons_zero]
        go_wp2_with (go_at_call 66; refine HSK.out.mono ?_; rintro e w3 ⟨cs, rfl, h8, hE3⟩; obtain ⟨y0, y1, y2, y3, y4, y5, y6, y7, rfl⟩ := h8.open; have HE3 := Lib.hid hE3; clear h8 hE3)
        refine ⟨Off.of_ext HE3.out, ?_⟩
        have hE4 : Ext W w3 := Ext.trans (Ext.trans (Ext.refl W).drew HBi.out.2) HE3.out
        have hb4 := hE4.block HB.out.2.2
        clear e4 e5 e6 e7 e8 e9 e10 e11 e12 e13 e14 e15 fz q0 q4 p0 p1
        have e4 := blk_cell hb4 (i := 4) rfl
        have e5 := blk_cell hb4 (i := 5) rfl
        have e6 := blk_cell hb4 (i := 6) rfl
        have e8 := blk_cell hb4 (i := 8) rfl
        have e9 := blk_cell hb4 (i := 9) rfl
        have e10 := blk_cell hb4 (i := 10) rfl
        have e11 := blk_cell hb4 (i := 11) rfl
        have e12 := blk_cell hb4 (i := 12) rfl
        have e13 := blk_cell hb4 (i := 13) rfl
        have e14 := blk_cell hb4 (i := 14) rfl
        have e15 := blk_cell hb4 (i := 15) rfl
        have fz : ∀ i, w3.frozen? ⟨w.heap.size + 1 + 1 + 1, i, none⟩ = false := fun i => blk_free hb4
        have HB4 := Lib.hid (And.intro hb4 hE4); clear hb4 hE4
        apply wpStages_cons (by simp)
        · intro w1 hw1
          simp only [sel_nil]
          repeat ((with_reducible refine wpStill_step (fun K hK => ?_)); go_simp; refine hK _ ?_; clear hK K)
          exact wpStill_nil rfl
        try simp only [List.getD_cons_succ, List.getD_cons_zero]
        go_wp2
        refine ⟨(Off.refl _ _).setCell _ _, ?_⟩
        apply wpStages_cons (by simp)
        · intro w1 hw1
          simp only [sel_true, sel_false, sel_nil]
          repeat ((with_reducible refine wpStill_step (fun K hK => ?_)); go_simp; refine hK _ ?_; clear hK K)
          exact wpStill_nil rfl
        try simp only [List.getD_cons_succ, List.getD_cons_zero]
        go_wp2
        refine ⟨((Off.refl _ _).setCell _ _).setCell _ _, ?_⟩
        refine wpStages_nil ?_
        simp only [sel_true, sel_false, sel_nil]
        repeat ((with_reducible refine wpStill_step (fun K hK => ?_)); go_simp; refine hK _ ?_; clear hK K)
        refine wpStill_nil ?_
        try simp only [List.drop_succ_cons, List.drop_zero]
        go_wp2
        go_meet
        case rel =>
          have hB := (blk_set (i := 15) (.int .u64 y7) (blk_set (i := 14) (.int .u64 y6) (blk_set (i := 13) (.int .u64 y5) (blk_set (i := 12) (.int .u64 y4) (blk_set (i := 11) (.int .u64 y3) (blk_set (i := 10) (.int .u64 y2) (blk_set (i := 9) (.int .u64 y1) (blk_set (i := 8) (.int .u64 y0) (blk_set (i := 6) (.int .u64 l) (blk_set (i := 5) (.int .u64 h) (blk_set (i := 4) (.int .i64 (x.data.size : Nat)) HB4.out.1)))))))))))
          simp only [List.setIfInBounds_toArray, List.set_cons_zero, List.set_cons_succ] at hB
          exact ⟨⟨x.path, x.kind, x.mode, x.time, x.data.size, h, l, ⟨#[]⟩, y0, y1, y2, y3, y4, y5, y6, y7⟩, rfl, fun _ => rfl, hB, (blk_off (by omega) (blk_off (by omega) (blk_off (by omega) (blk_off (by omega) (blk_off (by omega) (blk_off (by omega) (blk_off (by omega) (blk_off (by omega) (blk_off (by omega) (blk_off (by omega) (blk_off (by omega) (HB4.out.2.block HB.out.2.1)))))))))))), (Ext.setNew (Ext.setNew (Ext.setNew (Ext.setNew (Ext.setNew (Ext.setNew (Ext.setNew (Ext.setNew (Ext.setNew (Ext.setNew (Ext.setNew (Ext.trans HB.out.1 HB4.out.2) (by omega) _) (by omega) _) (by omega) _) (by omega) _) (by omega) _) (by omega) _) (by omega) _) (by omega) _) (by omega) _) (by omega) _) (by omega) _)⟩
      · have g2 : (x.kind == 2) = false := beq_eq_false_iff_ne.2 h2
        have HK := Lib.hid h2; clear h2
        have hln : w.heap.size < W.heap.size := blk_lt HB0.out.1
        go_wp2
        refine wp_draw_stages 42 8 [false, false, false, false, false, false, false, true] [([true, true, true, true, true, true], 6)] (Off (w.heap.size+1+1+1)) (Off.refl (w.heap.size+1+1+1)) (fun _ _ _ => Off.trans) (by kernel_rfl) (by kernel_rfl) ?_
        apply wpStages_cons (by simp)
        · intro w1 hw1
          simp only [sel_true, sel_nil]
          have q4' := (hw1.cell (k := w.heap.size) (o := 4) hln (by omega)).trans q4
          repeat ((with_reducible refine wpStill_step (fun K hK => ?_)); go_simp; refine hK _ ?_; clear hK K)
          exact wpStill_nil rfl
        try simp only [List.getD_cons_succ, List.getD_cons_zero]
        go_wp2
        refine ⟨(Off.refl _ _).setCell _ _, ?_⟩
        refine wpStages_nil ?_
        simp only [sel_true, sel_false, sel_nil]
        repeat ((with_reducible refine wpStill_step (fun K hK => ?_)); go_simp; refine hK _ ?_; clear hK K)
        refine wpStill_nil ?_
        try simp only [List.drop_succ_cons, List.drop_zero]
        go_wp2
        go_meet
        case rel =>
          have hB := (blk_set (i := 7) (.string x.data) (blk_set (i := 4) (.int .i64 (x.data.size : Nat)) HB.out.2.2))
          simp only [List.setIfInBounds_toArray, List.set_cons_zero, List.set_cons_succ] at hB
          exact ⟨⟨x.path, x.kind, x.mode, x.time, x.data.size, 0, 0, x.data, 0, 0, 0, 0, 0, 0, 0, 0⟩, rfl, fun _ => rfl, blk_drew hB, blk_drew (blk_off (by omega) (blk_off (by omega) HB.out.2.1)), Ext.drew (Ext.setNew (Ext.setNew HB.out.1 (by omega) _) (by omega) _)⟩
  case rest =>
    obtain ⟨E, hk1, hk2, h3, h2, hE⟩ := hcut
    unfold EntV.obj at h3
    have d0 := blk_cell h3 (i := 0) rfl
    have H := Lib.hid (And.intro hk1 (And.intro hk2 (And.intro h3 (And.intro h2 hE)))); clear hk1 hk2 h3 h2 hE hb0 hb1 hb3 HB
    go_wp2_with (first | (refine wpList_load_blk rfl rfl rfl H.out.2.2.1 (by kernel_rfl) (by kernel_rfl) ?_) | (refine wpList_store_blk rfl rfl rfl rfl (by (repeat with_reducible first | refine blk_drew ?_ | refine blk_alloc _ ?_ | refine blk_off (by omega) ?_ | refine blk_put (by omega) ?_); with_reducible exact H.out.2.2.2.1) (by rfl) (by kernel_rfl) (by simp [Value.oneCell']) ?_))
    have hlt := blk_lt H.out.2.2.2.1
    refine bodyPost_ret (res_cell rfl rfl (putBlk_same _ hlt) (by kernel_rfl) (by kernel_rfl)) rfl ?_
    exact ⟨E, rfl, H.out.1, H.out.2.1, Ext.putNew H.out.2.2.2.2 (by omega) _⟩
end Go.Proofs.YtiopahkigbdmcaaGreat
/- An index of a tree, and how many bytes its files have (layer 23): the walks. -/
namespace Go.Proofs.YtiopahkigbdmcaaGreat
open Go Go.Proofs Go.RowKit

theorem EntV.len (x : EntV) : x.cells.length = 16 := rfl
theorem EntV.one (x : EntV) : ∀ u ∈ x.cells, u.oneCell' = true := by
  intro u hu
  simp only [EntV.cells, List.mem_cons, List.mem_nil_iff, or_false] at hu
  rcases hu with rfl | rfl | rfl | rfl | rfl | rfl | rfl | rfl | rfl | rfl | rfl | rfl | rfl | rfl | rfl | rfl <;> rfl
abbrev EntsAt := ListAt EntV.cells 84 16
abbrev OwnE := OwnL EntV.cells 84 16
theorem ent_info : ∃ i, Tryz.prog.info? 84 = some i ∧ i.zero = some entZ.val ∧ i.size = 16 ∧ i.bytes = 144 := info_parts (by kernel_rfl)
theorem ListAt.grown {α : Type} {f : α → List Value} {T : TypeId} {n : Nat} {w w' : World} {a : Option Addr} {L : List α} {row : Option Nat} (h : ListAt f T n w a L) (hg : Grown row w w') (hne : ∀ b off, a = some ⟨b, off, none⟩ → b < w.heap.size → some b ≠ row) : ListAt f T n w' a L := by
  rcases h with h | ⟨b, off, cs, fz, ha, hb, hall⟩
  · exact Or.inl h
  · exact Or.inr ⟨b, off, cs, fz, ha, hg.block hb (hne b off ha (blk_lt hb)), hall⟩
theorem ListAt.lt {α : Type} {f : α → List Value} {T : TypeId} {n : Nat} {w : World} {b off : Nat} {L : List α} (h : ListAt f T n w (some ⟨b, off, none⟩) L) (h0 : L ≠ []) : b < w.heap.size := by
  rcases h with h | ⟨b', off', cs, fz, ha, hb, hall⟩
  · exact absurd h h0
  · injection ha with ha; injection ha with h1 h2; rw [h1]; exact blk_lt hb
theorem ent_append {ops : Array Oper} {rest : List Oper} {o : Oper} {a : Act} {Q : Exit → Act → World → Prop} {w : World} (hgd : o.guard = none) (s x : Operand)
    (ho : o.op = .call { callee := .builtin .append, args := #[s, x], argTypes := #[52, 52] })
    (w0 : World) (v : Value) (S : List EntV) (hs : a.eval s = v) (hO : OwnE w0 v S w)
    (y : EntV) (g c : Nat) (hx : a.eval x = .slice (some ⟨g, 0, none⟩) 1 c) (hM : ∀ j u, y.cells[j]? = some u → w.cell? ((⟨g, 0, none⟩ : Addr).add j) = some u) (h63 : S.length ≤ 90000)
    (h : ∀ v' w', OwnE w0 v' (S ++ [y]) w' → w.grownBy w' v.ownBlock → wpList Tryz.prog ops Q rest (a.put o.dst v') w') : wpList Tryz.prog ops Q (o :: rest) a w := by
  obtain ⟨i, h1, h2, h3, h4⟩ := ent_info
  refine wpList_append_own _ hgd s x 52 ho w0.heap.size 84 i entZ.val 16 144 (by kernel_rfl) h1 h2 h3 h4 rfl (by decide) v S.length (S.flatMap EntV.cells) hs hO.2 ⟨g, 0, none⟩ 1 c y.cells hx rfl hM y.one (by unfold maxLen; omega) (by omega) hO.1.size ?_
  intro v' w' hown hg _
  exact h v' w' ⟨Below.trans hO.1 (grown_below hg (fun k hk => (hO.2.lt k hk).1) hO.1.size), by rw [List.length_append, List.flatMap_append, List.flatMap_cons, List.flatMap_nil, List.append_nil]; exact hown⟩ hg
theorem EntsAt.ent {w : World} {a : Option Addr} {L : List EntV} (h : EntsAt w a L) {i : Nat} (hi : i < L.length) {E : EntV} (hE : L[i] = E) : ∃ b off, a = some ⟨b, off, none⟩ ∧ b < w.heap.size ∧
    w.cell? ⟨b, off + i * 16, none⟩ = some (.string E.path) ∧ w.cell? ⟨b, off + i * 16 + 1, none⟩ = some (.int .i64 E.kind) ∧ w.cell? ⟨b, off + i * 16 + 2, none⟩ = some (.int .i64 E.mode) ∧ w.cell? ⟨b, off + i * 16 + 3, none⟩ = some (.int .i64 E.time) ∧ w.cell? ⟨b, off + i * 16 + 4, none⟩ = some (.int .i64 E.size) ∧ w.cell? ⟨b, off + i * 16 + 5, none⟩ = some (.int .u64 E.hi) ∧ w.cell? ⟨b, off + i * 16 + 6, none⟩ = some (.int .u64 E.lo) ∧ w.cell? ⟨b, off + i * 16 + 7, none⟩ = some (.string E.target) ∧ w.cell? ⟨b, off + i * 16 + 8, none⟩ = some (.int .u64 E.y0) ∧ w.cell? ⟨b, off + i * 16 + 9, none⟩ = some (.int .u64 E.y1) ∧ w.cell? ⟨b, off + i * 16 + 10, none⟩ = some (.int .u64 E.y2) ∧ w.cell? ⟨b, off + i * 16 + 11, none⟩ = some (.int .u64 E.y3) ∧ w.cell? ⟨b, off + i * 16 + 12, none⟩ = some (.int .u64 E.y4) ∧ w.cell? ⟨b, off + i * 16 + 13, none⟩ = some (.int .u64 E.y5) ∧ w.cell? ⟨b, off + i * 16 + 14, none⟩ = some (.int .u64 E.y6) ∧ w.cell? ⟨b, off + i * 16 + 15, none⟩ = some (.int .u64 E.y7) := by
  obtain ⟨b, off, ha, hb, hall⟩ := h.block hi
  rw [hE] at hall
  exact ⟨b, off, ha, hb, hall 0 _ rfl, hall 1 _ rfl, hall 2 _ rfl, hall 3 _ rfl, hall 4 _ rfl, hall 5 _ rfl, hall 6 _ rfl, hall 7 _ rfl, hall 8 _ rfl, hall 9 _ rfl, hall 10 _ rfl, hall 11 _ rfl, hall 12 _ rfl, hall 13 _ rfl, hall 14 _ rfl, hall 15 _ rfl⟩
/-- What is kept of a node in its entry. -/
def keyN (x : NodeV) : Int × Int := (x.kind, if x.kind = 2 then (x.data.size : Int) else 0)
def keyE (x : EntV) : Int × Int := (x.kind, if x.kind = 2 then x.size else 0)
theorem keyE_of {x : NodeV} {E : EntV} (h1 : E.kind = x.kind) (h2 : x.kind = 2 → E.size = x.data.size) : keyE E = keyN x := by
  unfold keyE keyN
  rw [h1]
  by_cases h : x.kind = 2
  · rw [if_pos h, if_pos h, h2 h]
  · rw [if_neg h, if_neg h]
def IdxTold (L : List NodeV) (w : World) (e : Ending) (w' : World) : Prop := ∃ a c S, e = .returned (.slice a L.length c) ∧ S.map keyE = L.map keyN ∧ EntsAt w' a S ∧ Ext w w'
set_option maxHeartbeats 4000000 in
set_option maxRecDepth 100000 in
theorem indexW (a : Option Addr) (L : List NodeV) (c : Nat) (w : World) (hL : SmallL L) (h40 : L.length ≤ 40) (hA : NodesAt w a L) :
    Calls Tryz.prog 30 #[.slice a L.length c] w (IdxTold L w) := by
  have HAll := Lib.hid (allW a L c w hL h40 hA)
  have HEn := Lib.hid (fun (x : NodeV) (hx : x ∈ L) h l w' => entryW x h l w' (hL.2 x hx).2)
  have HA := Lib.hid hA; clear hA hL
  obtain ⟨n, hn⟩ : ∃ n, L.length = n := ⟨_, rfl⟩
  rw [hn] at h40 HAll ⊢
  have HN := Lib.hid hn; clear hn
  go_enter Tryz.func30, Tryz.ntmps30
  go_wp2_with fail
  refine HAll.out.mono ?_
  rintro e w1 ⟨pa, pc, P, rfl, hPl, hpc, hPA, hE1⟩
  have H1 := Lib.hid (And.intro hPA (And.intro hE1 hPl)); clear hPA hE1 hPl
  go_wp2
  go_loopw [3, 5, 6, 11] (fun v _ _ i w' => ∃ (k : Nat) (S : List EntV), k ≤ n ∧ i = .int .i64 k ∧ S.map keyE = (L.take k).map keyN ∧ OwnE w1 v S w') (fun _ _ _ i _ => n - (intOf i).toNat)
  case atStart => exact ⟨0, [], Nat.zero_le _, rfl, rfl, OwnL.start w1⟩
  case round =>
    obtain ⟨k, S, hk, rfl, hS, hown⟩ := hrel
    have hSl : S.length = k := by have := congrArg List.length hS; rw [List.length_map, List.length_map, List.length_take, HN.out] at this; omega
    have HR := Lib.hid (And.intro hown hS); clear hown hS
    by_cases hlt : k < n
    · have hkl : k < L.length := by rw [HN.out]; exact hlt
      have hkp : k < P.length := by rw [H1.out.2.2]; exact hlt
      have HP0 : SumsAt wr pa P := H1.out.1.ext HR.out.1.1
      obtain ⟨bl, off, rfl, hb, c0, c1, c2, c3, c4⟩ := NodesAt.node (HA.out.ext (H1.out.2.1.trans HR.out.1.1)) hkl
      have hmem := List.getElem_mem hkl
      have HK := Lib.hid (List.take_succ_eq_append_getElem hkl)
      have HEx := Lib.hid (HEn.out _ hmem)
      obtain ⟨x, hx⟩ : ∃ x, L[k] = x := ⟨_, rfl⟩
      rw [hx] at c0 c1 c2 c3 c4 HK HEx
      clear hx hmem
      obtain ⟨pb, poff, rfl, hpb, hpall⟩ := ListAt.block H1.out.1 hkp
      obtain ⟨⟨h, l⟩, hhl⟩ : ∃ y, P[k] = y := ⟨_, rfl⟩
      obtain ⟨av, cv, rfl, hcv⟩ := HR.out.1.slice
      rw [hSl] at HR ⊢
      obtain ⟨row, hrow⟩ : ∃ row, (Value.slice av k cv).ownBlock = row := ⟨_, rfl⟩
      have hlr : ∀ g, row = some g → w1.heap.size ≤ g ∧ g < wr.heap.size := fun g hg => HR.out.1.2.lt g (hrow.trans hg)
      have nn : some wr.heap.size ≠ row := fun e => by have := (hlr _ e.symm).2; omega
      have np : some pb ≠ row := fun e => by have := (hlr _ e.symm).1; omega
      have HRow := Lib.hid (And.intro hrow (And.intro nn np)); clear hrow nn np hlr
      have hblk : (wr.alloc (.cells #[.string x.path, .int .i64 x.kind, .int .i64 x.mode, .int .i64 x.time, .string x.data] 42)).drew.heap[wr.heap.size]? = some (.cells #[.string x.path, .int .i64 x.kind, .int .i64 x.mode, .int .i64 x.time, .string x.data] 42 (0, 0)) := blk_drew (heap_at wr _ rfl)
      have HBk := Lib.hid hblk; clear hblk
      have hps : ∀ w', Grown row (wr.alloc (.cells #[.string x.path, .int .i64 x.kind, .int .i64 x.mode, .int .i64 x.time, .string x.data] 42)).drew w' → w'.cell? ⟨pb, poff + k * 2, none⟩ = some (.int .u64 h) ∧ w'.cell? ⟨pb, poff + k * 2 + 1, none⟩ = some (.int .u64 l) := fun w' hg => by
        have h2 : SumsAt w' (some ⟨pb, poff, none⟩) P := ListAt.grown ((HP0.ext ((Ext.refl wr).alloc _)).ext (Ext.refl _).drew) hg (fun b o e _ => by injection e with e; injection e with e1 e2; rw [← e1]; exact HRow.out.2.2)
        obtain ⟨b', o', hab, _, hall⟩ := h2.block hkp
        injection hab with hab
        injection hab with hb1 hb2
        subst hb1 hb2
        rw [hhl] at hall
        exact ⟨hall 0 _ rfl, hall 1 _ rfl⟩
      have HPS := Lib.hid hps; clear hps hhl HP0 hpall
      have HSl := Lib.hid hSl; clear hSl
      have HKK := Lib.hid hkl; clear hkl
      unfold NodeV.val at HEx
      go_wp2
      refine wp_draw_stages 27 9 [] [([true, true, true, true, true, true], 6), ([], 7), ([], 8)] (Grown row) (Grown.refl row) (fun _ _ _ => Grown.trans) (by kernel_rfl) (by kernel_rfl) ?_
      apply wpStages_cons (by simp)
      · intro w1 hw1
        simp only [sel_true, sel_nil]
        have nb := Grown.block hw1 HBk.out HRow.out.2.1; have n0 := blk_cell nb (i := 0) rfl; have n1 := blk_cell nb (i := 1) rfl; have n2 := blk_cell nb (i := 2) rfl; have n3 := blk_cell nb (i := 3) rfl; have n4 := blk_cell nb (i := 4) rfl; obtain ⟨p0, p1⟩ := HPS.out w1 hw1
        repeat ((with_reducible refine wpStill_step (fun K hK => ?_)); go_simp; refine hK _ ?_; clear hK K)
        exact wpStill_nil rfl
      try simp only [List.getD_cons_succ, List.getD_cons_zero]
      go_wp2_with (go_at_call 48; refine (HEx.out h l _).mono ?_; rintro e w2 ⟨E, rfl, hk1, hk2, hE2⟩; have HE2 := Lib.hid (And.intro (keyE_of hk1 hk2) hE2); clear hk1 hk2 hE2)
      refine ⟨Grown.of_ext HE2.out.2, ?_⟩
      unfold EntV.val
      apply wpStages_cons (by simp)
      · intro w1 hw1
        simp only [sel_nil]
        repeat ((with_reducible refine wpStill_step (fun K hK => ?_)); go_simp; refine hK _ ?_; clear hK K)
        exact wpStill_nil rfl
      try simp only [List.getD_cons_succ, List.getD_cons_zero]
      go_wp2_with fail
      refine ⟨Grown.of_ext ((Ext.refl w2).alloc _), ?_⟩
      apply wpStages_cons (by simp)
      · intro w1 hw1
        simp only [sel_nil]
        repeat ((with_reducible refine wpStill_step (fun K hK => ?_)); go_simp; refine hK _ ?_; clear hK K)
        exact wpStill_nil rfl
      try simp only [List.getD_cons_succ, List.getD_cons_zero]
      have hO4 := (((HR.out.1.alloc (.cells #[.string x.path, .int .i64 x.kind, .int .i64 x.mode, .int .i64 x.time, .string x.data] 42)).drew).ext HE2.out.2).alloc E.obj
      have HO4 := Lib.hid hO4; clear hO4
      go_wp2_with (at_builtin; refine ent_append rfl _ _ rfl w1 _ S rfl HO4.out E _ 1 rfl (cells_at _ _ _ (by simp)) (by have := HSl.out; omega) ?_; intro v' w4 hown' hg; have H4 := Lib.hid (And.intro hown' hg); clear hown' hg)
      refine ⟨by show World.grownBy _ _ row; rw [← HRow.out.1]; exact H4.out.2, ?_⟩
      simp only [Act.put, List.setIfInBounds_toArray, List.set_cons_succ, List.set_cons_zero]
      refine wpStages_nil ?_
      simp only [sel_nil]
      repeat ((with_reducible refine wpStill_step (fun K hK => ?_)); go_simp; refine hK _ ?_; clear hK K)
      refine wpStill_nil ?_
      try simp only [List.drop_succ_cons, List.drop_zero]
      go_wp2
      go_roundw
      case rel => exact ⟨k + 1, S ++ [E], by omega, by go_num, by rw [List.map_append, HR.out.2, HK.out, List.map_append, List.map_singleton, List.map_singleton, HE2.out.1], H4.out.1⟩
      case measure => simp [intOf]; omega
    · obtain rfl : k = n := by omega
      obtain ⟨av, cv, hv, hcv⟩ := HR.out.1.slice
      go_wp2
      go_ret
      rw [hSl] at hv
      refine ⟨av, cv, S, by rw [HN.out, ← hv]; rfl, by rw [HR.out.2, List.take_of_length_le (by rw [HN.out]; exact Nat.le_refl _)], ?_, H1.out.2.1.trans HR.out.1.1⟩
      have h := HR.out.1
      rw [hv] at h
      exact h.done EntV.len
theorem key_open {x : NodeV} {E : EntV} (h : keyE E = keyN x) : E.kind = x.kind ∧ (x.kind = 2 → E.size = x.data.size) := by
  unfold keyE keyN at h
  injection h with h1 h2
  refine ⟨h1, fun hk => ?_⟩
  rw [h1, if_pos hk, if_pos hk] at h2
  exact h2
set_option maxHeartbeats 2000000 in
set_option maxRecDepth 100000 in
theorem bytesW (a : Option Addr) (L : List NodeV) (S : List EntV) (c : Nat) (w : World) (hL : SmallL L) (hK : S.map keyE = L.map keyN) (hA : EntsAt w a S) :
    Calls Tryz.prog 32 #[.slice a L.length c] w (RetV w (.int .i64 (sumF L))) := by
  have HLL := Lib.hid hL.2
  have hl := hL.1; clear hL
  have HA := Lib.hid hA; clear hA
  have HK := Lib.hid hK; clear hK
  obtain ⟨n, hn⟩ : ∃ n, L.length = n := ⟨_, rfl⟩
  rw [hn] at hl ⊢
  have HN := Lib.hid hn; clear hn
  go_enter Tryz.func32, Tryz.ntmps32
  go_wp2
  go_loopw [3, 5, 8] (fun v _ i w' => ∃ k : Nat, k ≤ n ∧ i = .int .i64 k ∧ ∃ s : Nat, v = .int .i64 s ∧ s = sumF (L.take k) ∧ s ≤ k * 1000 ∧ Ext w w') (fun _ _ i _ => n - (intOf i).toNat)
  case atStart => exact ⟨0, Nat.zero_le _, rfl, 0, rfl, rfl, Nat.le_refl _, Ext.refl w⟩
  case round =>
    obtain ⟨k, hk, rfl, s, rfl, hs, hsk, hE⟩ := hrel
    have HS := Lib.hid (And.intro hs hE); clear hs hE
    by_cases hlt : k < n
    · have hkl : k < L.length := by rw [HN.out]; exact hlt
      have hkS : k < S.length := by have := congrArg List.length HK.out; rw [List.length_map, List.length_map] at this; omega
      have HT := Lib.hid (sum_take L k hkl)
      have hdz := HLL.out _ (List.getElem_mem hkl)
      have hke : keyE S[k] = keyN L[k] := by
        have h1 : (S.map keyE)[k]? = (L.map keyN)[k]? := by rw [HK.out]
        rw [List.getElem?_map, List.getElem?_map, List.getElem?_eq_getElem hkS, List.getElem?_eq_getElem hkl] at h1
        exact Option.some.inj h1
      obtain ⟨E, hEE⟩ : ∃ E, S[k] = E := ⟨_, rfl⟩
      obtain ⟨x, hx⟩ : ∃ x, L[k] = x := ⟨_, rfl⟩
      obtain ⟨bl, off, rfl, hb, c0, c1, c2, c3, c4, c5, c6, c7, c8, c9, c10, c11, c12, c13, c14, c15⟩ := EntsAt.ent (HA.out.ext HS.out.2) hkS hEE
      rw [hEE] at hke
      rw [hx] at HT hdz hke
      obtain ⟨hk1, hk2⟩ := key_open hke
      clear hx hEE hke
      by_cases h2 : x.kind = 2
      · have g2 : (E.kind == 2) = true := by rw [hk1, h2]; rfl
        have hsz := hk2 h2
        rw [hsz] at c4
        have HT := Lib.hid (HT.out.trans (by rw [if_pos h2]))
        clear h2 hk1 hk2 hsz
        go_wp2
        go_roundw
        case rel => exact ⟨k + 1, by omega, by go_num, s + x.data.size, by go_num, by rw [HT.out, HS.out.1], by omega, HS.out.2.alloc _⟩
        case measure => simp [intOf]; omega
      · have g2 : (E.kind == 2) = false := by rw [hk1]; exact beq_eq_false_iff_ne.2 h2
        have HT := Lib.hid (HT.out.trans (by rw [if_neg h2]))
        clear h2 hk1 hk2
        go_wp2
        go_roundw
        case rel => exact ⟨k + 1, by omega, by go_num, s, rfl, by rw [HT.out, HS.out.1, Nat.add_zero], by omega, HS.out.2.alloc _⟩
        case measure => simp [intOf]; omega
    · obtain rfl : k = n := by omega
      go_wp2
      go_ret
      exact ⟨by show _ = Ending.returned _; rw [HS.out.1, List.take_of_length_le (by rw [HN.out]; exact Nat.le_refl _)]; rfl, HS.out.2⟩
end Go.Proofs.YtiopahkigbdmcaaGreat
/- The bound (layer 39), the program's side: the walk. -/
namespace Go.Proofs.YtiopahkigbdmcaaGreat
open Go Go.Proofs Go.RowKit

set_option maxHeartbeats 2000000 in
set_option maxRecDepth 100000 in
theorem boundP_any (a d : Option Addr) (L : List NodeV) (c m cd : Nat) (o : OptV) (w : World) (hL : SmallL L) (h40 : L.length ≤ 40) (hm : m ≤ 1000) (hS : Short o.rs) (hp : 16 ≤ o.piece ∧ o.piece ≤ 512) (hA : NodesAt w a L) (hR : RulesAt w o.ra o.rs) :
    Calls Tryz.prog 10 #[.slice a L.length c, .slice d m cd, o.val] w (RetV w (.int .i64 (boundF m (pickF o.rs false L) o.piece))) := by
  have HP := Lib.hid (fun w' (h : Ext w w') => sentP_any a o.ra L o.rs c o.rc w' hL hS (hA.ext h) (hR.ext h))
  have HO := Lib.hid (fun w2 r hr h => opt_new (w := w) (w2 := w2) o (r := r) hr h)
  obtain ⟨P, hPe⟩ : ∃ P, pickF o.rs false L = P := ⟨_, rfl⟩
  have hPS : SmallL P := by rw [← hPe]; exact hL.filter _
  have hP40 : P.length ≤ 40 := by rw [← hPe]; exact Nat.le_trans (List.length_filter_le _ _) h40
  rw [hPe] at HP ⊢
  have hsum : sumF P ≤ P.length * 1000 := sum_le (fun x hx => (hPS.2 x hx).2)
  have HPS := Lib.hid hPS
  have HIx := Lib.hid (fun a c w h => indexW a P c w hPS hP40 h)
  have HBy := Lib.hid (fun a S c w h1 h2 => bytesW a P S c w hPS h1 h2)
  clear hR hS hA hL hPS hPe h40
  unfold OptV.val at *
  obtain ⟨r, hr⟩ : ∃ r, o.rs.length = r := ⟨_, rfl⟩
  rw [hr] at HP ⊢
  have HO := Lib.hid (fun w2 h => HO.out w2 r hr h)
  clear hr
  obtain ⟨n, hn⟩ : ∃ n, L.length = n := ⟨_, rfl⟩
  rw [hn] at HP ⊢
  clear hn
  obtain ⟨s, hs⟩ : ∃ s, sumF P = s := ⟨_, rfl⟩
  rw [hs] at hsum HBy
  obtain ⟨q, hq⟩ : ∃ q, P.length = q := ⟨_, rfl⟩
  rw [hq] at hsum hP40
  have HQ := Lib.hid (And.intro hs hq)
  obtain ⟨pn, hpn⟩ : ∃ pn : Nat, o.piece = pn := ⟨o.piece.toNat, by omega⟩
  have hE0 := (Ext.refl w).alloc (.cells #[.bool o.del, .bool o.dry, .bool o.trust, .slice o.ra r o.rc, .int .i64 o.block, .int .i64 o.piece] 25)
  have HE0 := Lib.hid hE0; clear hE0
  have HPN := Lib.hid hpn
  rw [hpn] at hp
  clear hs hq hpn
  go_enter Tryz.func10, Tryz.ntmps10
  obtain ⟨d0, d1, d2, d3, d4, d5⟩ := HO.out _ (Ext.refl _)
  go_wp2_with fail
  refine (HP.out _ HE0.out).mono ?_
  rintro e w1 ⟨pa, pc, rfl, hE1, hPA, -⟩
  have H1 := Lib.hid (And.intro hPA hE1); clear hPA hE1 d0 d1 d2 d3 d4 d5
  go_wp2_with fail
  refine (HIx.out _ _ _ H1.out.1).mono ?_
  rintro e w2 ⟨xa, xc, S, rfl, hK, hSA, hE2⟩
  have H2 := Lib.hid (And.intro hK (And.intro hSA hE2)); clear hK hSA hE2
  have HO5 := Lib.hid (fun w3 (h : Ext w2.drew w3) => by
    obtain ⟨-, -, -, -, -, d5⟩ := HO.out w3 (Ext.trans H1.out.2 (Ext.trans H2.out.2.2 (Ext.trans (Ext.refl w2).drew h)))
    rw [HPN.out] at d5
    exact d5)
  have HE := Lib.hid (fun w3 (h : Ext w2.drew w3) => Ext.trans HE0.out (Ext.trans H1.out.2 (Ext.trans H2.out.2.2 (Ext.trans (Ext.refl w2).drew h))))
  have hmx : max (pn : Int) 16 = pn := by omega
  have hq0 : (pn : Int) ≠ 0 := by omega
  have HMx := Lib.hid (And.intro hmx hq0); clear hmx hq0
  go_wp2
  have hmx := HMx.out.1
  refine wp_draw_stages 30 5 [] [([true, false, true, true, true], 1)] Ext Ext.refl (fun _ _ _ => Ext.trans) (by kernel_rfl) (by kernel_rfl) ?_
  apply wpStages_cons (by simp)
  · intro w1 hw1
    simp only [sel_true, sel_false, sel_nil]
    have d5 := HO5.out w1 hw1
    repeat ((with_reducible refine wpStill_step (fun K hK => ?_)); go_simp; refine hK _ ?_; clear hK K)
    exact wpStill_nil rfl
  try simp only [List.getD_cons_succ, List.getD_cons_zero]
  clear hmx
  go_wp2_with (go_at_call 32; refine (HBy.out _ S _ _ H2.out.1 (H2.out.2.1.ext (Ext.refl _).drew)).mono ?_; rintro e w3 ⟨rfl, hE3⟩; have HE3 := Lib.hid hE3; clear hE3)
  refine ⟨HE3.out, ?_⟩
  have hq0 := HMx.out.2
  refine wpStages_nil ?_
  simp only [sel_nil]
  repeat ((with_reducible refine wpStill_step (fun K hK => ?_)); go_simp; refine hK _ ?_; clear hK K)
  refine wpStill_nil ?_
  try simp only [List.drop_succ_cons, List.drop_zero]
  go_wp2
  go_ret
  refine ⟨?_, HE.out _ HE3.out⟩
  show _ = Ending.returned _
  rw [HPN.out]
  unfold boundF
  rw [HQ.out.1, HQ.out.2]
  rw [← bound_val m s q pn hm (by omega) (by omega)]
  rfl
end Go.Proofs.YtiopahkigbdmcaaGreat
/- The page's example (layer 39): the walk. -/
namespace Go.Proofs.YtiopahkigbdmcaaGreat
open Go Go.Proofs Go.RowKit

theorem want1 : goF [6, 2, 1, 1] (wantF 1) [0, 1, 2, 3] = [0, 1, 3, 2] := by decide +kernel
@[go_sem] theorem eq_four (a0 a1 a2 a3 b0 b1 b2 b3 : Int) (w : World) : (Op.equalIn 10000 34 (.agg #[.int .i64 a0, .int .i64 a1, .int .i64 a2, .int .i64 a3]) (.agg #[.int .i64 b0, .int .i64 b1, .int .i64 b2, .int .i64 b3])).run Tryz.prog w = .ok (a0 == b0 && a1 == b1 && a2 == b2 && a3 == b3) w := by
  rw [show (10000 : Nat) = 9999 + 1 from rfl, Op.equalIn]
  simp only [Sem.run_bind, run_underlying (show Tryz.prog.underlying 34 = some (.array 4 3) by kernel_rfl), Result.andThen_ok]
  simp only [Std.Legacy.Range.forIn_eq_forIn_range', Std.Legacy.Range.size, Nat.sub_zero, Nat.add_sub_cancel, Nat.div_one, List.range'_succ, List.range'_zero, List.forIn_cons, List.forIn_nil]
  go_simp
  repeat' split
  all_goals simp [*]
set_option maxRecDepth 100000 in
theorem order1 (w : World) : Calls Tryz.prog 12 #[.int .i64 1] w (RetV w (.agg #[.int .i64 0, .int .i64 1, .int .i64 3, .int .i64 2])) := by
  refine (orderP_any 1 w).mono ?_
  rintro e w' ⟨a, b, c, d, h, rfl, hE⟩
  rw [want1] at h
  injection h with h1 h
  injection h with h2 h
  injection h with h3 h
  injection h with h4 h
  subst h1 h2 h3 h4
  exact ⟨rfl, hE⟩
def opt0 : OptV := ⟨false, false, false, none, [], 0, 4, 16⟩
set_option maxRecDepth 100000 in
theorem bound0 (w : World) : Calls Tryz.prog 10 #[.slice none 0 0, .slice none 0 0, .agg #[.bool false, .bool false, .bool false, .slice none 0 0, .int .i64 4, .int .i64 16]] w (RetV w (.int .i64 512)) :=
  boundP_any none none [] 0 0 0 opt0 w ⟨by decide, fun x hx => by simp at hx⟩ (by decide) (by decide) ⟨by decide, fun x hx => by simp [opt0] at hx⟩ (by decide) ListAt.nil (Or.inl rfl)
set_option maxHeartbeats 1000000 in
set_option maxRecDepth 100000 in
theorem awakeB (w : World) : Calls Tryz.prog 8 #[] w (RetV w (.bool true)) := by
  have HO := Lib.hid (fun w => order1 w)
  have HB := Lib.hid (fun w => bound0 w)
  go_enter Tryz.func8, Tryz.ntmps8
  go_wp2_with fail
  refine (HO.out _).mono ?_
  rintro e w1 ⟨rfl, hE1⟩
  have HE1 := Lib.hid hE1; clear hE1
  go_wp2_with fail
  refine (HB.out _).mono ?_
  rintro e w2 ⟨rfl, hE2⟩
  have HE2 := Lib.hid (Ext.trans HE1.out hE2); clear hE2
  go_wp2
  go_ret
  exact ⟨rfl, HE2.out⟩
end Go.Proofs.YtiopahkigbdmcaaGreat
/- The bound of any two trees, and the order of any round (layer 39): the law's walk. -/
namespace Go.Proofs.YtiopahkigbdmcaaGreat
open Go Go.Proofs Go.RowKit

theorem orders_eq {x : Int} {a b c d n : Nat} (h1 : goF [6, 2, 1, 1] (wantF x) [0, 1, 2, 3] = [a, b, c, d]) (hn : n < 256) (hb : badN n = false) (hc : cntN n = wantF x) :
    digs n = .agg #[.int .i64 a, .int .i64 b, .int .i64 c, .int .i64 d] := by
  have h := List.all_eq_true.1 order_same n (List.mem_range.2 hn)
  rw [hb, Bool.false_or, beq_iff_eq, hc, h1] at h
  injection h with e1 h
  injection h with e2 h
  injection h with e3 h
  injection h with e4 h
  subst e1 e2 e3 e4
  unfold digs
  have g1 : (n : Int) / 64 = ((n / 64 : Nat) : Int) := by omega
  have g2 : (n : Int) / 16 % 4 = ((n / 16 % 4 : Nat) : Int) := by omega
  have g3 : (n : Int) / 4 % 4 = ((n / 4 % 4 : Nat) : Int) := by omega
  have g4 : (n : Int) % 4 = ((n % 4 : Nat) : Int) := by omega
  rw [g1, g2, g3, g4]
set_option maxHeartbeats 4000000 in
set_option maxRecDepth 100000 in
theorem boundLaw (x : SetV) (y : Int) (w : World) (hA : SetupAt w x) : Calls Tryz.prog 3 #[x.val, .int .i64 y] w (RetV w (.bool true)) := by
  obtain ⟨sa, S, sc, da, D, dc, ⟨del, dry, trust, ra, rs, rc, block, piece⟩, qn, qb⟩ := x
  have HT := Lib.hid (fun w' (h : Ext w w') => tried_any ⟨sa, S, sc, da, D, dc, ⟨del, dry, trust, ra, rs, rc, block, piece⟩, qn, qb⟩ w' (hA.ext h))
  obtain ⟨hS, hD, hR⟩ := hA
  simp only at hS hD hR
  have HMem := Lib.hid (And.intro hS (And.intro hD hR)); clear hS hD hR
  unfold triedG SetV.val at *
  simp only at HT ⊢
  obtain ⟨n, hn⟩ : ∃ n, S.length = n := ⟨_, rfl⟩
  obtain ⟨m, hm⟩ : ∃ m, D.length = m := ⟨_, rfl⟩
  obtain ⟨r, hr⟩ : ∃ r, rs.length = r := ⟨_, rfl⟩
  rw [hn, hm, hr] at HT ⊢
  have HN := Lib.hid (And.intro hn (And.intro hm hr)); clear hn hm hr
  have HAw := Lib.hid (fun w => awakeB w)
  have hE0 : Ext w (w.alloc (setObj sa n sc da m dc del dry trust ra r rc block piece qn qb)) := (Ext.refl w).alloc _
  have hB0 : (w.alloc (setObj sa n sc da m dc del dry trust ra r rc block piece qn qb)).heap[w.heap.size]? = some (setObj sa n sc da m dc del dry trust ra r rc block piece qn qb) := heap_new w _
  have H0 := Lib.hid (And.intro hE0 hB0); clear hE0 hB0
  go_enter Tryz.func3, Tryz.ntmps3
  go_wp2_with fail
  refine (HT.out _ H0.out.1).mono ?_
  rintro e w1 ⟨b, rfl, hb, hE1⟩
  have H1 := Lib.hid (And.intro (H0.out.1.trans hE1) (hE1.block H0.out.2)); clear hE1
  have HG := Lib.hid hb; clear hb
  cases b
  · go_wp2_with fail
    refine (HAw.out _).mono ?_
    rintro e w2 ⟨rfl, hE2⟩
    have HE2 := Lib.hid (H1.out.1.trans hE2); clear hE2
    go_wp2
    go_ret
    exact ⟨rfl, HE2.out⟩
  · have hG := HG.out rfl
    have HOs := Lib.hid (fun w' (h : Ext w w') => ofD_any sa S sc w' hG.1.1.small (HMem.out.1.ext h))
    have HOd := Lib.hid (fun w' (h : Ext w w') => ofD_any da D dc w' hG.1.2.1.small (HMem.out.2.1.ext h))
    rw [HN.out.1] at HOs
    rw [HN.out.2.1] at HOd
    have hls := hG.1.1.1
    have hld := hG.1.2.1.1
    have HSm := Lib.hid (And.intro hG.1.1.small (And.intro hG.1.2.1.small (And.intro hG.1.2.2.short (And.intro hG.2 (And.intro hls hld))))); clear hG hls hld
    go_wp2
    refine wp_draw_stages 38 7 [false, false, false, false, false, false, true] [([true, true, false, true, true], 2), ([], 5)] Ext Ext.refl (fun _ _ _ => Ext.trans) (by kernel_rfl) (by kernel_rfl) ?_
    apply wpStages_cons (by simp)
    · intro w1 hw1
      simp only [sel_true, sel_false, sel_nil]
      have hc := hw1.cellsOf (blk_drew H1.out.2)
      repeat ((with_reducible refine wpStill_step (fun K hK => ?_)); go_simp; refine hK _ ?_; clear hK K)
      exact wpStill_nil rfl
    try simp only [List.getD_cons_succ, List.getD_cons_zero]
    go_wp2_with (go_at_call 9; refine (HOs.out _ H1.out.1.drew).mono ?_; rintro e w3 ⟨R, ⟨a3, c3, rfl, hE3, hA3, hc3⟩, hRl, hRm⟩)
    refine ⟨hE3, ?_⟩
    have HE3 := Lib.hid (Ext.trans H1.out.1.drew hE3)
    have HB3 := Lib.hid (hE3.block (blk_drew H1.out.2)); clear hE3
    have HR := Lib.hid (And.intro hA3 (And.intro (HSm.out.1.sub hRl (fun x hx => (hRm x hx).1)) (Nat.le_trans hRl HSm.out.2.2.2.2.1))); clear hA3 hc3 hRl hRm
    apply wpStages_cons (by simp)
    · intro w1 hw1
      simp only [sel_nil]
      have hc := hw1.cellsOf HB3.out
      repeat ((with_reducible refine wpStill_step (fun K hK => ?_)); go_simp; refine hK _ ?_; clear hK K)
      exact wpStill_nil rfl
    try simp only [List.getD_cons_succ, List.getD_cons_zero]
    go_wp2_with (go_at_call 9; refine (HOd.out _ HE3.out).mono ?_; rintro e w4 ⟨R4, ⟨a4, c4, rfl, hE4, hA4, hc4⟩, hRl, hRm⟩)
    refine ⟨hE4, ?_⟩
    have HE4 := Lib.hid (Ext.trans HE3.out hE4)
    have HB4 := Lib.hid (hE4.block HB3.out)
    have hq4 : R4.length ≤ 24 := Nat.le_trans hRl HSm.out.2.2.2.2.2
    have HR := Lib.hid (And.intro (HR.out.1.ext hE4) HR.out.2); clear hE4 hA4 hc4 hRl hRm
    refine wpStages_nil ?_
    simp only [sel_true, sel_false, sel_nil]
    repeat ((with_reducible refine wpStill_step (fun K hK => ?_)); go_simp; refine hK _ ?_; clear hK K)
    refine wpStill_nil ?_
    try simp only [List.drop_succ_cons, List.drop_zero]
    go_wp2
    obtain ⟨q4, hq⟩ : ∃ q, R4.length = q := ⟨_, rfl⟩
    rw [hq] at hq4 ⊢
    clear hq
    have HP := Lib.hid (fun w' (h : Ext w4 w') (hE : Ext w w') => boundP_any a3 a4 R c3 q4 c4 ⟨del, dry, trust, ra, rs, rc, block, piece⟩ w' HR.out.2.1 (by have := HR.out.2.2; omega) (by omega) HSm.out.2.2.1 HSm.out.2.2.2.1 (HR.out.1.ext h) (HMem.out.2.2.ext hE))
    have HD := Lib.hid (fun w' (h : Ext w4 w') (hE : Ext w w') => boundD_any a3 a4 R c3 q4 c4 ⟨del, dry, trust, ra, rs, rc, block, piece⟩ w' HR.out.2.1 (by omega) HSm.out.2.2.1 HSm.out.2.2.2.1 (HR.out.1.ext h) (HMem.out.2.2.ext hE))
    unfold OptV.val at HP HD
    simp only at HP HD
    rw [HN.out.2.2] at HP HD
    obtain ⟨z, hz⟩ : ∃ z, boundF q4 (pickF rs false R) piece = z := ⟨_, rfl⟩
    rw [hz] at HP HD
    obtain ⟨q3, hq⟩ : ∃ q, R.length = q := ⟨_, rfl⟩
    rw [hq] at HP HD ⊢
    clear hq hz hq4
    refine wp_draw_stages 38 21 [false, false, false, false, false, false, false, false, false, false, false, false, false, false, false, false, false, false, false, true, true] [([], 0), ([false, true, true, true, true, true, false, true, true, true, true], 6), ([], 11), ([false, false, false, false, false, false, false, false, false, false, false, false, true, true, true, true, false, true], 16), ([], 18)] Ext Ext.refl (fun _ _ _ => Ext.trans) (by kernel_rfl) (by kernel_rfl) ?_
    apply wpStages_cons (by simp)
    · intro w1 hw1
      simp only [sel_nil]
      repeat ((with_reducible refine wpStill_step (fun K hK => ?_)); go_simp; refine hK _ ?_; clear hK K)
      exact wpStill_nil rfl
    try simp only [List.getD_cons_succ, List.getD_cons_zero]
    go_wp2_with (go_at_call 8; refine (HAw.out _).mono ?_; rintro e w5 ⟨rfl, hE5⟩)
    refine ⟨hE5, ?_⟩
    have hE5 : Ext w4.drew w5 := hE5
    have HE5 := Lib.hid (And.intro (Ext.trans (Ext.refl w4).drew hE5) (Ext.trans HE4.out.drew hE5))
    have HB5 := Lib.hid (hE5.block (blk_drew HB4.out)); clear hE5
    apply wpStages_cons (by simp)
    · intro w1 hw1
      simp only [sel_true, sel_false, sel_nil]
      have hc := hw1.cellsOf HB5.out
      repeat ((with_reducible refine wpStill_step (fun K hK => ?_)); go_simp; refine hK _ ?_; clear hK K)
      exact wpStill_nil rfl
    try simp only [List.getD_cons_succ, List.getD_cons_zero]
    go_wp2_with (go_at_call 10; refine (HP.out _ HE5.out.1 HE5.out.2).mono ?_; rintro e w6 ⟨rfl, hE6⟩)
    refine ⟨hE6, ?_⟩
    have HE6 := Lib.hid (And.intro (Ext.trans HE5.out.1 hE6) (Ext.trans HE5.out.2 hE6)); clear hE6
    apply wpStages_cons (by simp)
    · intro w1 hw1
      simp only [sel_nil]
      repeat ((with_reducible refine wpStill_step (fun K hK => ?_)); go_simp; refine hK _ ?_; clear hK K)
      exact wpStill_nil rfl
    try simp only [List.getD_cons_succ, List.getD_cons_zero]
    go_wp2_with (go_at_call 11; refine (HD.out _ HE6.out.1 HE6.out.2).mono ?_; rintro e w7 ⟨rfl, hE7⟩)
    refine ⟨hE7, ?_⟩
    have HE7 := Lib.hid (Ext.trans HE6.out.2 hE7); clear hE7
    apply wpStages_cons (by simp)
    · intro w1 hw1
      simp only [sel_true, sel_false, sel_nil]
      repeat ((with_reducible refine wpStill_step (fun K hK => ?_)); go_simp; refine hK _ ?_; clear hK K)
      exact wpStill_nil rfl
    try simp only [List.getD_cons_succ, List.getD_cons_zero]
    go_wp2_with (go_at_call 12; refine (orderP_any _ _).mono ?_; rintro e w8 ⟨p0, p1, p2, p3, h1, rfl, hE8⟩; have H8 := Lib.hid (And.intro h1 hE8); clear h1 hE8)
    refine ⟨H8.out.2, ?_⟩
    apply wpStages_cons (by simp)
    · intro w1 hw1
      simp only [sel_nil]
      repeat ((with_reducible refine wpStill_step (fun K hK => ?_)); go_simp; refine hK _ ?_; clear hK K)
      exact wpStill_nil rfl
    try simp only [List.getD_cons_succ, List.getD_cons_zero]
    go_wp2_with (go_at_call 13; refine (orderD_any _ _).mono ?_; rintro e w9 ⟨k, hk, hb, hc, rfl, hE9⟩; have H9 := Lib.hid (And.intro (orders_eq H8.out.1 hk hb hc) hE9); clear hk hb hc hE9)
    refine ⟨H9.out.2, ?_⟩
    rw [H9.out.1]
    have HE9 := Lib.hid (Ext.trans HE7.out (Ext.trans H8.out.2 H9.out.2))
    refine wpStages_nil ?_
    simp only [sel_true, sel_false, sel_nil]
    repeat ((with_reducible refine wpStill_step (fun K hK => ?_)); go_simp; refine hK _ ?_; clear hK K)
    refine wpStill_nil ?_
    try simp only [List.drop_succ_cons, List.drop_zero]
    go_wp2
    go_ret
    exact ⟨rfl, HE9.out⟩
end Go.Proofs.YtiopahkigbdmcaaGreat
