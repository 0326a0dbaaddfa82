/- A node's print (layer 21): the walk of (*printer).of. -/
import Derived.Test.YtiopahkigbdmcaaGreatBk
import Derived.Test.YtiopahkigbdmcaaGreatBc
import Derived.Test.YtiopahkigbdmcaaGreatBe
import Derived.Test.YtiopahkigbdmcaaGreatBa
import Derived.Deep.DeepCutAuto
import Derived.Deep.CutBlock
import Derived.OrdersIn
namespace Go.Proofs.YtiopahkigbdmcaaGreat
open Go Go.Proofs Go.RowKit

def PrintTold (base : Nat) (L : List NodeV) (pb kb mb : Nat) (w : World) (e : Ending) (w' : World) : Prop := ∃ h l : Int, e = .returned (.agg #[.int .u64 h, .int .u64 l]) ∧ PrintAt base L pb kb mb w' ∧ Off mb w w'
theorem PrintAt.ext {base pb kb mb : Nat} {L : List NodeV} {w w' : World} (h : PrintAt base L pb kb mb w) (hE : Ext w w') : PrintAt base L pb kb mb w' := by
  obtain ⟨h1, ⟨F, h2, h3⟩, ⟨G, h4, h5⟩, h6⟩ := h
  exact ⟨hE.block h1, ⟨F, h2.ext hE, h3.ext hE⟩, ⟨G, h4.ext hE, h5⟩, h6⟩
theorem grown_off {b : Nat} {w w' : World} (h : Off b w w') : w.grownBy w' (some b) := ⟨h.os, h.tape, h.output, h.size, fun k hk hne => Only.block h k hk (fun e => hne (by rw [e]))⟩
theorem grown_set (w : World) (b i : Nat) (v : Value) : w.grownBy (w.setCell ⟨b, i, none⟩ v) (some b) := grown_off ((Off.refl b w).setCell i v)
theorem PrintAt.sum_set {base pb kb mb b : Nat} {L : List NodeV} {w w' : World} {cs : Array Value} {fz : Nat × Nat} (h : PrintAt base L pb kb mb w) (hb : w.heap[b]? = some (.cells cs 81 fz)) (hbb : base ≤ b) (hg : w.grownBy w' (some b)) : PrintAt base L pb kb mb w' := by
  obtain ⟨h1, ⟨F, h2, h3⟩, ⟨G, h4, h5⟩, h6⟩ := h
  have ne : ∀ k, k < base → some k ≠ some b := fun k hk e => by injection e with e; omega
  refine ⟨(hg.block pb (blk_lt h1) (ne pb h6.1)).trans h1, ⟨F, h2.at_ (hg.block kb h2.lt (ne kb h6.2.1)), ?_, h3.2⟩, ⟨G, h4.at_ (hg.block mb h4.lt (ne mb h6.2.2.1)), h5⟩, h6⟩
  intro s v hv
  obtain ⟨K, hr, hK⟩ := h3.1 s v hv
  refine ⟨K, hr.kept hg ?_, hK⟩
  obtain ⟨_, ⟨rfl, _⟩ | ⟨g, cap, cur, rfl, _, hgb, _⟩⟩ := hr
  · exact Or.inl rfl
  · right
    intro e
    injection e with e
    have e : g = b := e
    subst e
    rw [hb] at hgb
    injection hgb with hgb
    injection hgb with _ hT _
    exact absurd hT (by decide)
theorem print_fin {base pb kb mb : Nat} {L : List NodeV} {w wz : World} {h z : Int} {cs : Array Value} (hP : PrintAt base L pb kb mb wz) (hR : wz.heap[w.heap.size + 1]? = some (.cells cs 81 (0, 0))) (hb : base ≤ w.heap.size) (hO : Off mb w wz) :
    PrintTold base L pb kb mb w (.returned (.agg #[.int .u64 h, .int .u64 z])) ((wz.setCell ⟨w.heap.size + 1, 0, none⟩ (.int .u64 h)).setCell ⟨w.heap.size + 1, 1, none⟩ (.int .u64 z)) :=
  ⟨h, z, rfl, (hP.sum_set hR (by omega) (grown_set _ _ _ _)).sum_set (blk_set _ hR) (by omega) (grown_set _ _ _ _), (hO.setNew (by omega) _).setNew (by omega) _⟩
theorem ext_ad (w : World) (o : Obj) : Ext w.drew (w.alloc o).drew := (Ext.refl w.drew).alloc o
theorem below_swap (w : World) (o o' : Obj) : Below w.heap.size (w.alloc o).drew (w.alloc o').drew := ⟨rfl, rfl, rfl, by show (w.heap.push o).size ≤ (w.heap.push o').size; rw [Array.size_push, Array.size_push]; exact Nat.le_refl _, fun k hk => (Below.heap_alloc w o' k hk).trans (Below.heap_alloc w o k hk).symm⟩
theorem rows_at {α : Type} {f : α → List Value} {T : TypeId} {n base : Nat} {w : World} {a : Option Addr} {m c : Nat} {L : List α} (hf : ∀ x, (f x).length = n) (h : w.ownsRow base T n (.slice a m c) L.length (L.flatMap f)) : ListAt f T n w a L := by
  by_cases h0 : L = []
  · exact Or.inl h0
  · obtain ⟨_, ⟨_, hz⟩ | ⟨g, cap, cur, hv, _, hb, _, _, _, hx⟩⟩ := h
    · exact absurd (List.eq_nil_of_length_eq_zero hz) h0
    · simp only [Value.slice.injEq] at hv
      obtain ⟨rfl, rfl, rfl⟩ := hv
      have hlt := blk_lt hb
      refine Or.inr ⟨g, 0, cur, (_, _), rfl, hb, fun i hi j v hj => ?_⟩
      have hjn : j < n := by have := (List.getElem?_eq_some_iff.1 hj).1; rw [hf] at this; exact this
      have hlt : i * n + j < L.length * n := by
        have h1 : (i + 1) * n ≤ L.length * n := Nat.mul_le_mul_right n (by omega)
        rw [Nat.succ_mul] at h1
        omega
      have e : (cur.toList.take (L.length * n))[i * n + j]? = (L.flatMap f)[i * n + j]? := by rw [hx]
      rw [List.getElem?_take_of_lt hlt] at e
      rw [Nat.zero_add, ← Array.getElem?_toList, e, flat_get hf L i j hi hjn]
      exact hj
theorem ListAt.away {α : Type} {f : α → List Value} {T : TypeId} {n b : Nat} {w w' : World} {a : Option Addr} {L : List α} (h : ListAt f T n w a L) (hO : Off b w w') (ha : ∀ y, a = some y → y.block ≠ b) : ListAt f T n w' a L := by
  rcases h with h | ⟨g, off, cs, fz, rfl, hb, hall⟩
  · exact Or.inl h
  · exact Or.inr ⟨g, off, cs, fz, rfl, hO.block hb (ha _ rfl), hall⟩
theorem BytesIn.ext {w w' : World} {a : Option Addr} {l : List Int} {c : Nat} (h : BytesIn w a l c) (hE : Ext w w') : BytesIn w' a l c :=
  ⟨h.1, h.2.1.ext hE, h.2.2.1, by
    rcases h.2.2.2 with h | ⟨g, off, h, hg⟩
    · exact Or.inl h
    · exact Or.inr ⟨g, off, h, Nat.lt_of_lt_of_le hg hE.size⟩⟩
theorem BytesIn.off {b : Nat} {w w' : World} {a : Option Addr} {l : List Int} {c : Nat} (h : BytesIn w a l c) (hO : Off b w w') (ha : ∀ y, a = some y → y.block ≠ b) : BytesIn w' a l c :=
  ⟨h.1, h.2.1.away hO ha, h.2.2.1, by
    rcases h.2.2.2 with h | ⟨g, off, h, hg⟩
    · exact Or.inl h
    · exact Or.inr ⟨g, off, h, Nat.lt_of_lt_of_le hg hO.size⟩⟩
def sumZ : Value := .agg #[.int .u64 0, .int .u64 0]
theorem zero_sum (w : World) : (zeroValue 81).run Tryz.prog w = .ok sumZ w := by kernel_rfl
theorem zero_nodes (w : World) : (zeroValue 22).run Tryz.prog w = .ok (.slice none 0 0) w := by kernel_rfl
theorem met_map : Tryz.prog.underlying 111 = some (.map 9 81) := by kernel_rfl
theorem kid_map : Tryz.prog.underlying 110 = some (.map 9 22) := by kernel_rfl
set_option maxHeartbeats 8000000 in
set_option maxRecDepth 100000 in
theorem ofW (base pb kb mb : Nat) (L : List NodeV) (hL : SmallL L) (m : Nat) : ∀ (x : NodeV) (w : World), x.path.size ≤ 1000 → x.data.size ≤ 1000 → 1000 < x.path.size + m → PrintAt base L pb kb mb w → base ≤ w.heap.size →
    Calls Tryz.prog 65 #[.pointer (some ⟨pb, 0, none⟩), x.val] w (PrintTold base L pb kb mb w) := by
  induction m with
  | zero => intro x w h1 h2 h3; omega
  | succ m ih =>
    intro x w hxp hxd hm hP hbw
    have IH := Lib.hid ih; clear ih
    have HD := Lib.hid (fun w => dataW x w hxd)
    have HP := Lib.hid hP
    unfold NodeV.val at *
    have HX := Lib.hid (fun w2 h => node_new (w := w) (w2 := w2) x h)
    obtain ⟨wa, hwa⟩ : ∃ wa, (w.alloc (.cells #[.string x.path, .int .i64 x.kind, .int .i64 x.mode, .int .i64 x.time, .string x.data] 42)).alloc (.cells #[.int .u64 0, .int .u64 0] 81) = wa := ⟨_, rfl⟩
    have hEa : Ext w wa := by rw [← hwa]; exact ((Ext.refl w).alloc _).alloc _
    have hNa : wa.heap[w.heap.size]? = some (.cells #[.string x.path, .int .i64 x.kind, .int .i64 x.mode, .int .i64 x.time, .string x.data] 42 (0, 0)) := by rw [← hwa]; exact blk_alloc _ (heap_new w _)
    have hRa : wa.heap[w.heap.size + 1]? = some (.cells #[.int .u64 0, .int .u64 0] 81 (0, 0)) := by rw [← hwa]; exact heap_at _ _ (by simp)
    have HA := Lib.hid (And.intro hEa (And.intro hNa hRa)); clear hEa
    have n0 := blk_cell hNa (i := 0) rfl
    have n1 := blk_cell hNa (i := 1) rfl
    have n2 := blk_cell hNa (i := 2) rfl
    have n3 := blk_cell hNa (i := 3) rfl
    have n4 := blk_cell hNa (i := 4) rfl
    clear hNa hRa
    have HWA := Lib.hid hwa; clear hwa
    go_enter Tryz.func65, Tryz.ntmps65
    go_upto_region 1 with fail
    rw [HWA.out]
    by_cases hk : x.kind = 1
    · have hk1 : (x.kind != 1) = false := by rw [hk]; rfl
      clear hk
      obtain ⟨hPb, ⟨F, hF, hKF⟩, ⟨G, hG, hGs⟩, hpb, hkb, hmb, hkm, hpm, hpk⟩ := HP.out
      have hxp5 : x.path.size ≤ 100000 := by omega
      have HG := Lib.hid (And.intro hG hGs)
      have HK := Lib.hid (And.intro hF hKF)
      have HPB := Lib.hid hPb; clear hG hGs hF hKF hPb
      have HLk := Lib.hid (fun w1 (h : MapIs w1 mb G) => h.look true met_map zero_sum x.path hxp5)
      have HLk2 := Lib.hid (fun w1 (h : MapIs w1 kb F) => h.look false kid_map zero_nodes x.path hxp5)
      simp only [if_true, Bool.false_eq_true, if_false] at HLk HLk2
      have hsum : ∃ h z : Int, (G x.path).getD sumZ = .agg #[.int .u64 h, .int .u64 z] := by
        cases hg : G x.path with
        | none => exact ⟨0, 0, rfl⟩
        | some v => obtain ⟨h, l, rfl⟩ := HG.out.2 _ _ hg; exact ⟨h, l, rfl⟩
      obtain ⟨h0, z0, hsum⟩ := hsum
      obtain ⟨okv, hok⟩ : ∃ b, (G x.path).isSome = b := ⟨_, rfl⟩
      rw [hsum, hok] at HLk
      clear hsum hok
      have hEd : Ext w wa.drew := HA.out.1.drew
      go_wp2
      have HB := Lib.hid (fun w1 (h : Below wa.heap.size wa.drew w1) => And.intro (blk_cell (Ext.block (Ext.trans hEd h) HPB.out) (i := 1) rfl) (And.intro (HLk.out w1 (HG.out.1.ext (Ext.trans hEd h))) ((Ext.cell (x := wa.drew) h (blk_lt HA.out.2.1)).trans n0)))
      refine wp_draw_stages 66 12 [] [([true, true, true, true, true, true, true, true, true, true], 10), ([], 11)] (Below wa.heap.size) (Below.refl wa.heap.size) (fun _ _ _ => Below.trans) (by kernel_rfl) (by kernel_rfl) ?_
      apply wpStages_cons (by simp)
      · intro w1 hw1
        simp only [sel_true, sel_nil]
        obtain ⟨e1, hlk, m0⟩ := HB.out w1 hw1
        repeat ((with_reducible refine wpStill_step (fun K hK => ?_)); go_simp; refine hK _ ?_; clear hK K)
        exact wpStill_nil rfl
      try simp only [List.getD_cons_succ, List.getD_cons_zero]
      go_wp2_with fail
      refine ⟨below_ad wa _, ?_⟩
      apply wpStages_cons (by simp)
      · intro w1 hw1
        simp only [sel_nil]
        obtain ⟨e1, hlk, m0⟩ := HB.out w1 (Below.trans (below_ad wa _) hw1)
        repeat ((with_reducible refine wpStill_step (fun K hK => ?_)); go_simp; refine hK _ ?_; clear hK K)
        exact wpStill_nil rfl
      try simp only [List.getD_cons_succ, List.getD_cons_zero]
      go_wp2_with fail
      refine ⟨below_swap wa _ _, ?_⟩
      refine wpStages_nil ?_
      simp only [sel_nil]
      repeat ((with_reducible refine wpStill_step (fun K hK => ?_)); go_simp; refine hK _ ?_; clear hK K)
      refine wpStill_nil ?_
      try simp only [List.drop_succ_cons, List.drop_zero]
      go_upto_region 4 with fail
      obtain ⟨w3, hw3⟩ : ∃ w3, (wa.alloc (.cells #[.int .u64 h0, .int .u64 z0] 81)).drew = w3 := ⟨_, rfl⟩
      have hE3 : Ext wa w3 := by rw [← hw3]; exact ((Ext.refl wa).alloc _).drew
      have hS3 : w3.heap[wa.heap.size]? = some (.cells #[.int .u64 h0, .int .u64 z0] 81 (0, 0)) := by rw [← hw3]; exact blk_drew (heap_new wa _)
      rw [hw3]
      clear hw3 n0 n1 n2 n3 n4
      have s0 := blk_cell hS3 (i := 0) rfl
      have s1 := blk_cell hS3 (i := 1) rfl
      have hR3 := hE3.block HA.out.2.2
      have hN3 := hE3.block HA.out.2.1
      have H3 := Lib.hid (And.intro (Ext.trans HA.out.1 hE3) (And.intro hR3 hN3)); clear hS3 hE3 hR3 hN3
      cases okv
      · obtain ⟨K, hrow, hK40, hKm⟩ := kids_at HK.out.2 x.path
        obtain ⟨v0, hv0⟩ : ∃ v0, (F x.path).getD (.slice none 0 0) = v0 := ⟨_, rfl⟩
        rw [hv0] at hrow HLk2
        obtain ⟨a0, c0, rfl⟩ := owns_slice hrow
        have hK0 := rows_at NodeV.len hrow
        have ha0 : ∀ y, a0 = some y → y.block ≠ mb := fun y hy => by
          have := (hrow.lt y.block (by rw [hy]; rfl)).1
          omega
        have HKs := Lib.hid (And.intro hK0 (And.intro ha0 hKm)); clear hK0 ha0 hKm hrow hv0
        obtain ⟨q, hq⟩ : ∃ q, K.length = q := ⟨_, rfl⟩
        rw [hq] at hK40 HLk2
        have HQ := Lib.hid hq; clear hq
        have hE3d : Ext w w3.drew := H3.out.1.drew
        have e0 := blk_cell (hE3d.block HPB.out) (i := 0) rfl
        have hlk2 := HLk2.out w3.drew (HK.out.1.ext hE3d)
        have m0 : w3.drew.cell? ⟨w.heap.size, 0, none⟩ = some (.string x.path) := blk_cell (blk_drew H3.out.2.2) rfl
        go_wp2
        refine wp_draw_all (by kernel_rfl) (by kernel_rfl) ?_
        repeat ((with_reducible refine wpStill_step (fun K hK => ?_)); go_simp; refine hK _ ?_; clear hK K)
        refine wpStill_nil ?_
        go_wp2
        clear e0 hlk2 m0 s0 s1
        have HBA := Lib.hid (fun p w hp => basePW p w hp)
        have HTX := Lib.hid (fun a l c s w h h1 h2 => textW a l c s w h h1 h2)
        have HNU := Lib.hid (fun a l c n w h h1 h2 => numW a l c n w h h1 h2)
        have HSU := Lib.hid (fun a l c hi lo w h h1 => sumVW a l c hi lo w h h1)
        have hmbw : mb < w.heap.size := by omega
        go_loopw [7, 36] (fun v i w' => ∃ (k : Nat) (a : Option Addr) (l : List Int) (c : Nat), k ≤ q ∧ i = .int .i64 k ∧ v = .slice a l.length c ∧ BytesIn w' a l c ∧ l.length ≤ k * 1038 ∧ (∀ y, a = some y → y.block ≠ mb) ∧ PrintAt base L pb kb mb w' ∧ Off mb w3 w') (fun _ i _ => q - (intOf i).toNat)
        case atStart => exact ⟨0, none, [], 0, Nat.zero_le _, rfl, rfl, ⟨Nat.zero_le _, Or.inl rfl, Nat.le_refl _, Or.inl ⟨rfl, rfl⟩⟩, Nat.le_refl _, (fun y hy => by cases hy), HP.out.ext hE3d, Off.of_ext (Ext.refl w3).drew⟩
        case round =>
          obtain ⟨k, a, l, c, hkq, rfl, rfl, hBI, hlk, hab, hPr, hOr⟩ := hrel
          have HR := Lib.hid (And.intro hBI (And.intro hab (And.intro hPr hOr))); clear hBI hab hPr hOr
          by_cases hlt : k < q
          · have hkl : k < K.length := by rw [HQ.out]; exact hlt
            have hmem := List.getElem_mem hkl
            have hNr : NodesAt wr a0 K := (ListAt.away (HKs.out.1.ext H3.out.1) HR.out.2.2.2 HKs.out.2.1)
            obtain ⟨bl, off, rfl, hb, g0, g1, g2, g3, g4⟩ := NodesAt.node hNr hkl
            obtain ⟨y, hy⟩ : ∃ y, K[k] = y := ⟨_, rfl⟩
            rw [hy] at g0 g1 g2 g3 g4 hmem
            have hym := HKs.out.2.2 y hmem
            have hyz := hL.2 y hym.1
            clear hy hmem hNr
            obtain ⟨ln, hln⟩ : ∃ n, l.length = n := ⟨_, rfl⟩
            rw [hln] at hlk ⊢
            have HLn := Lib.hid hln; clear hln
            have hbr : base ≤ wr.heap.size := by have := HR.out.2.2.2.size; have := H3.out.1.size; omega
            have hmbr : mb < wr.heap.size := by omega
            go_wp2_with fail
            refine (HBA.out y.path _ hyz.1).mono ?_
            rintro e w4 ⟨s, rfl, hs, hE4⟩
            obtain ⟨d0, d1, d2, d3, d4⟩ := node_new y hE4
            have hbx4 := hE4.block (heap_at wr (.cells #[.string y.path, .int .i64 y.kind, .int .i64 y.mode, .int .i64 y.time, .string y.data] 42) rfl)
            have hE4 := Ext.trans ((Ext.refl wr).alloc _) hE4
            have H4 := Lib.hid (And.intro hE4 hbx4); clear hE4 hbx4
            clear g0 g1 g2 g3 g4 d0 d1 d2 d3 d4
            have hT := HTX.out a l c s w4 (HR.out.1.ext H4.out.1) (by rw [HLn.out]; omega) (by omega)
            rw [HLn.out] at hT
            have HT := Lib.hid hT; clear hT
            go_wp2_with fail
            refine (HT.out).mono ?_
            rintro e w5 ⟨v5, L5, rfl, hO5, hl5⟩
            obtain ⟨a5, c5, rfl, hBI5⟩ := BytesTold.into hO5 (m := 80000) (by omega) (by omega)
            have H5 := Lib.hid (And.intro (Ext.trans H4.out.1 hO5.1) (And.intro hBI5 (hO5.1.block H4.out.2))); clear hBI5 hO5
            have d1 := blk_cell H5.out.2.2 (i := 1) rfl
            obtain ⟨n5, hn5⟩ : ∃ n, L5.length = n := ⟨_, rfl⟩
            rw [hn5] at hl5 ⊢
            have HN5 := Lib.hid hn5; clear hn5
            obtain ⟨nk, hnk, hnk2⟩ : ∃ nk : Nat, IntKind.u64.wrap y.kind = nk ∧ nk < 18446744073709551616 := ⟨(IntKind.u64.wrap y.kind).toNat, by rw [IntKind.wrap_u64]; omega, by rw [IntKind.wrap_u64]; omega⟩
            have hN := HNU.out a5 L5 c5 nk w5 H5.out.2.1 (by rw [HN5.out]; omega) hnk2
            rw [HN5.out] at hN
            have HNn := Lib.hid hN; clear hN
            go_wp2_with fail
            refine (HNn.out).mono ?_
            rintro e w6 ⟨v6, L6, rfl, hO6, hl6⟩
            obtain ⟨a6, c6, rfl, hBI6⟩ := BytesTold.into hO6 (m := 80000) (by omega) (by omega)
            have haw6 : ∀ z, a6 = some z → z.block ≠ mb := fun z hz => by have := hO6.away z hz; have := H5.out.1.size; omega
            have H6 := Lib.hid (And.intro (Ext.trans H5.out.1 hO6.1) (And.intro hBI6 (And.intro (hO6.1.block H5.out.2.2) haw6))); clear hBI6 hO6 haw6 d1
            have d0 := blk_cell H6.out.2.2.1 (i := 0) rfl
            have d1 := blk_cell H6.out.2.2.1 (i := 1) rfl
            have d2 := blk_cell H6.out.2.2.1 (i := 2) rfl
            have d3 := blk_cell H6.out.2.2.1 (i := 3) rfl
            have d4 := blk_cell H6.out.2.2.1 (i := 4) rfl
            obtain ⟨n6, hn6⟩ : ∃ n, L6.length = n := ⟨_, rfl⟩
            rw [hn6] at hl6 ⊢
            have HN6 := Lib.hid hn6; clear hn6
            have hI := IH.out y w6 hyz.1 hyz.2 (by omega) (HR.out.2.2.1.ext H6.out.1) (by have := H6.out.1.size; omega)
            have HI := Lib.hid hI; clear hI
            go_wp2_with fail
            refine (HI.out).mono ?_
            rintro e w7 ⟨h7, l7, rfl, hP7, hO7⟩
            have hBI7 := BytesIn.off H6.out.2.1 hO7 H6.out.2.2.2
            have hOw7 : Off mb w3 w7 := (HR.out.2.2.2.trans (Off.of_ext H6.out.1)).trans hO7
            have H7 := Lib.hid (And.intro hP7 (And.intro hBI7 hOw7)); clear hP7 hBI7 hO7 hOw7 d0 d1 d2 d3 d4
            have hS := HSU.out a6 L6 c6 h7 l7 w7 H7.out.2.1 (by rw [HN6.out]; omega)
            rw [HN6.out] at hS
            have HS := Lib.hid hS; clear hS
            go_wp2_with fail
            refine (HS.out).mono ?_
            rintro e w8 ⟨v8, L8, rfl, hO8, hl8⟩
            obtain ⟨a8, c8, rfl, hBI8⟩ := BytesTold.into hO8 (m := 80000) (by omega) (by omega)
            have haw8 : ∀ z, a8 = some z → z.block ≠ mb := fun z hz => by have := hO8.away z hz; have := H7.out.2.2.size; have := H3.out.1.size; omega
            have H8 := Lib.hid (And.intro hO8.1 (And.intro hBI8 haw8)); clear hBI8 hO8 haw8
            go_wp2
            go_roundw
            case rel => exact ⟨k + 1, a8, L8, c8, by omega, by go_num, rfl, H8.out.2.1, by omega, H8.out.2.2, H7.out.1.ext H8.out.1, H7.out.2.2.trans (Off.of_ext H8.out.1)⟩
            case measure => simp [intOf]; omega
          · obtain rfl : k = q := by omega
            have HMx := Lib.hid (mixOfW a l c wr HR.out.1)
            obtain ⟨ln, hln⟩ : ∃ n, l.length = n := ⟨_, rfl⟩
            rw [hln] at HMx ⊢
            clear hln
            go_wp2_with fail
            refine (HMx.out).mono ?_
            rintro e w8 ⟨h8, l8, rfl, hE8⟩
            have hP8 := HR.out.2.2.1.ext hE8
            have hO8 : Off mb w3 w8 := HR.out.2.2.2.trans (Off.of_ext hE8)
            have H8 := Lib.hid (And.intro hP8 hO8); clear hP8 hO8 hE8
            go_upto_region 15 with fail
            obtain ⟨w9, hw9⟩ : ∃ w9, w8.alloc (.cells #[.int .u64 h8, .int .u64 l8] 81) = w9 := ⟨_, rfl⟩
            have hE9 : Ext w8 w9 := by rw [← hw9]; exact (Ext.refl w8).alloc _
            have hS9 : w9.heap[w8.heap.size]? = some (.cells #[.int .u64 h8, .int .u64 l8] 81 (0, 0)) := by rw [← hw9]; exact heap_new w8 _
            rw [hw9]
            clear hw9
            have hO9 : Off mb w3 w9 := H8.out.2.trans (Off.of_ext hE9)
            have hN9 := hO9.block H3.out.2.2 (by omega)
            have hR9 := hO9.block H3.out.2.1 (by omega)
            obtain ⟨hPb9, hKF9, ⟨G9, hG9, hGs9⟩, -⟩ := H8.out.1.ext hE9
            have e1 := blk_cell (blk_drew hPb9) (i := 1) rfl
            have m0 : w9.drew.cell? ⟨w.heap.size, 0, none⟩ = some (.string x.path) := blk_cell (blk_drew hN9) rfl
            have s0 : w9.drew.cell? ⟨w8.heap.size, 0, none⟩ = some (.int .u64 h8) := blk_cell (blk_drew hS9) rfl
            have s1 : w9.drew.cell? ⟨w8.heap.size, 1, none⟩ = some (.int .u64 l8) := blk_cell (blk_drew hS9) rfl
            have hmb9 : mb < w8.heap.size := by have := H8.out.2.size; have := H3.out.1.size; omega
            have H9 := Lib.hid (And.intro hO9 (And.intro hN9 (And.intro hR9 (And.intro hPb9 (And.intro hKF9 (And.intro hG9 (And.intro hGs9 hS9))))))); clear hO9 hN9 hR9 hPb9 hKF9 hG9 hGs9 hS9 hE9
            refine wp_draw_tail 7 (by kernel_rfl) (by kernel_rfl) ?_
            simp only [List.take_succ_cons, List.take_zero, List.drop_succ_cons, List.drop_zero]
            repeat ((with_reducible refine wpStill_step (fun K hK => ?_)); go_simp; refine hK _ ?_; clear hK K)
            refine wpStill_nil ?_
            go_upto_region 16 with (refine wpList_update_is rfl _ _ _ 111 rfl _ met_map mb G9 rfl H9.out.2.2.2.2.2.1 x.path rfl hxp5 (.agg #[.int .u64 h8, .int .u64 l8]) rfl ?_; intro o' hm'; have HM' := Lib.hid hm'; clear hm')
            have hgp : w9.drew.grownBy (putBlk w9.drew mb o') (some mb) := grown_put _ _ _
            have hSz : (putBlk w9.drew mb o').heap[w8.heap.size]? = some (.cells #[.int .u64 h8, .int .u64 l8] 81 (0, 0)) := Grown.block hgp (blk_drew H9.out.2.2.2.2.2.2.2) (by simp; omega)
            have hRz : (putBlk w9.drew mb o').heap[w.heap.size + 1]? = some (.cells #[.int .u64 0, .int .u64 0] 81 (0, 0)) := Grown.block hgp (blk_drew H9.out.2.2.1) (by simp; omega)
            have hPz : PrintAt base L pb kb mb (putBlk w9.drew mb o') := by
              obtain ⟨F9, hF9, hKF9⟩ := H9.out.2.2.2.2.1
              refine ⟨Grown.block hgp (blk_drew H9.out.2.2.2.1) (by simpa using hpm), ⟨F9, Grown.map hgp (hF9.ext (Ext.refl w9).drew) (by simpa using hkm), (hKF9.ext (Ext.refl w9).drew).off hgp hmb⟩, ⟨_, HM'.out, fun s v hv => ?_⟩, hpb, hkb, hmb, hkm, hpm, hpk⟩
              by_cases hs : s = x.path
              · have hv : Value.agg #[.int .u64 h8, .int .u64 l8] = v := Option.some.inj ((if_pos hs).symm.trans hv)
                exact ⟨h8, l8, hv.symm⟩
              · exact H9.out.2.2.2.2.2.2.1 s v ((if_neg hs).symm.trans hv)
            have hOz : Off mb w (putBlk w9.drew mb o') := ((Off.of_ext H3.out.1).trans H9.out.1.drew).put _
            have hfin := print_fin (h := h8) (z := l8) hPz hRz hbw hOz
            have hBf := blk_set (i := 1) (.int .u64 l8) (blk_set (i := 0) (.int .u64 h8) hRz)
            have u0 := blk_cell hSz (i := 0) rfl
            have u1 := blk_cell hSz (i := 1) rfl
            have r0 := blk_cell hRz (i := 0) rfl
            have r1 := blk_cell hRz (i := 1) rfl
            have fr : ∀ i, (putBlk w9.drew mb o').frozen? ⟨w.heap.size + 1, i, none⟩ = false := fun i => blk_free hRz
            have HFin := Lib.hid (And.intro hBf hfin); clear hBf hfin
            obtain ⟨wz, hwz⟩ : ∃ wz, putBlk w9.drew mb o' = wz := ⟨_, rfl⟩
            rw [hwz] at u0 u1 r0 r1 HFin ⊢
            have fr : ∀ i, wz.frozen? ⟨w.heap.size + 1, i, none⟩ = false := by rw [← hwz]; exact fr
            clear hwz hgp hSz hRz hPz hOz e1 m0 s0 s1
            go_wp2
            refine bodyPost_ret (res_cell rfl rfl (HFin.out.1) (by kernel_rfl) (by kernel_rfl)) rfl ?_
            exact HFin.out.2
      · have r0 := blk_cell H3.out.2.1 (i := 0) rfl
        have r1 := blk_cell H3.out.2.1 (i := 1) rfl
        have fr : ∀ i, w3.frozen? ⟨w.heap.size + 1, i, none⟩ = false := fun i => blk_free H3.out.2.1
        have hfin := print_fin (h := h0) (z := z0) (HP.out.ext H3.out.1) H3.out.2.1 hbw (Off.of_ext H3.out.1)
        have hBf := blk_set (i := 1) (.int .u64 z0) (blk_set (i := 0) (.int .u64 h0) H3.out.2.1)
        have HFin := Lib.hid (And.intro hBf hfin); clear hBf hfin
        go_wp2
        refine bodyPost_ret (res_cell rfl rfl (HFin.out.1) (by kernel_rfl) (by kernel_rfl)) rfl ?_
        exact HFin.out.2
    · have hk1 : (x.kind != 1) = true := by simpa using hk
      clear hk
      go_wp2_with fail
      refine (HD.out _).mono ?_
      rintro e w2 ⟨h, z, rfl, hE2⟩
      have hR2 := hE2.block HA.out.2.2
      have hE2w := Ext.trans HA.out.1 hE2
      have hfin := print_fin (h := h) (z := z) (HP.out.ext hE2w) hR2 hbw (Off.of_ext hE2w)
      have hBf := blk_set (i := 1) (.int .u64 z) (blk_set (i := 0) (.int .u64 h) hR2)
      have c0 := blk_cell hR2 (i := 0) rfl
      have c1 := blk_cell hR2 (i := 1) rfl
      have fr : ∀ i, w2.frozen? ⟨w.heap.size + 1, i, none⟩ = false := fun i => blk_free hR2
      have HFin := Lib.hid (And.intro hBf hfin); clear hBf hfin hR2 hE2 hE2w
      go_wp2
      refine bodyPost_ret (res_cell rfl rfl (HFin.out.1) (by kernel_rfl) (by kernel_rfl)) rfl ?_
      exact HFin.out.2
end Go.Proofs.YtiopahkigbdmcaaGreat
/- All nodes' prints (layer 21): the walk. -/
namespace Go.Proofs.YtiopahkigbdmcaaGreat
open Go Go.Proofs Go.RowKit

def sumC (p : Int × Int) : List Value := [.int .u64 p.1, .int .u64 p.2]
theorem sumC_len (p : Int × Int) : (sumC p).length = 2 := rfl
abbrev SumsAt := ListAt sumC 81 2
abbrev OwnS := OwnL sumC 81 2
theorem sum_info : ∃ i, Tryz.prog.info? 81 = some i ∧ i.zero = some sumZ ∧ i.size = 2 ∧ i.bytes = 16 := info_parts (by kernel_rfl)
theorem PrintAt.grown {base pb kb mb : Nat} {L : List NodeV} {w w' : World} {row : Option Nat} (h : PrintAt base L pb kb mb w) (hrow : ∀ b, row = some b → ∃ cs fz, w.heap[b]? = some (.cells cs 81 fz)) (hg : w.grownBy w' row) : PrintAt base L pb kb mb w' := by
  obtain ⟨h1, ⟨F, h2, h3⟩, ⟨G, h4, h5⟩, h6⟩ := h
  have nm : ∀ k F', MapIs w k F' → some k ≠ row := fun k F' hk e => by
    obtain ⟨cs, fz, hb⟩ := hrow k e.symm
    obtain ⟨es, clock, hm, _⟩ := hk
    rw [hb] at hm
    injection hm with hm
    cases hm
  have np : some pb ≠ row := fun e => by
    obtain ⟨cs, fz, hb⟩ := hrow pb e.symm
    rw [hb] at h1
    injection h1 with h1
    injection h1 with _ hT _
    exact absurd hT (by decide)
  refine ⟨(hg.block pb (blk_lt h1) np).trans h1, ⟨F, h2.at_ (hg.block kb h2.lt (nm kb F h2)), ?_, h3.2⟩, ⟨G, h4.at_ (hg.block mb h4.lt (nm mb G h4)), h5⟩, h6⟩
  intro s v hv
  obtain ⟨K, hr, hK⟩ := h3.1 s v hv
  refine ⟨K, hr.kept hg ?_, hK⟩
  obtain ⟨_, ⟨rfl, _⟩ | ⟨g, cap, cur, rfl, _, hgb, _⟩⟩ := hr
  · exact Or.inl rfl
  · right
    intro e
    obtain ⟨cs, fz, hb⟩ := hrow g e.symm
    rw [hb] at hgb
    injection hgb with hgb
    injection hgb with _ hT _
    exact absurd hT (by decide)
theorem OwnL.off_map {α : Type} {f : α → List Value} {T : TypeId} {n mb : Nat} {w0 w w' : World} {v : Value} {S : List α} {G : ByteArray → Option Value} (h : OwnL f T n w0 v S w) (hG : MapIs w mb G) (hO : Off mb w w') (hE : Ext w0 w') : OwnL f T n w0 v S w' := by
  refine ⟨hE, h.2.kept (grown_off hO) ?_⟩
  obtain ⟨_, ⟨rfl, _⟩ | ⟨g, cap, cur, rfl, _, hgb, _⟩⟩ := h.2
  · exact Or.inl rfl
  · right
    intro e
    injection e with e
    have e : g = mb := e
    subst e
    obtain ⟨es, clock, hm, _⟩ := hG
    rw [hgb] at hm
    injection hm with hm
    cases hm
theorem sum_append {ops : Array Oper} {rest : List Oper} {o : Oper} {a : Act} {Q : Exit → Act → World → Prop} {w : World} (hgd : o.guard = none) (s x : Operand)
    (ho : o.op = .call { callee := .builtin .append, args := #[s, x], argTypes := #[78, 78] })
    (w0 : World) (v : Value) (S : List (Int × Int)) (hs : a.eval s = v) (hO : OwnS w0 v S w)
    (y : Int × Int) (g c : Nat) (hx : a.eval x = .slice (some ⟨g, 0, none⟩) 1 c) (hM : ∀ j u, (sumC y)[j]? = some u → w.cell? ((⟨g, 0, none⟩ : Addr).add j) = some u) (h63 : S.length ≤ 90000)
    (h : ∀ v' w', OwnS w0 v' (S ++ [y]) w' → w.grownBy w' v.ownBlock → wpList Tryz.prog ops Q rest (a.put o.dst v') w') : wpList Tryz.prog ops Q (o :: rest) a w := by
  obtain ⟨i, h1, h2, h3, h4⟩ := sum_info
  refine wpList_append_own _ hgd s x 78 ho w0.heap.size 81 i sumZ 2 16 (by kernel_rfl) h1 h2 h3 h4 rfl (by decide) v S.length (S.flatMap sumC) hs hO.2 ⟨g, 0, none⟩ 1 c (sumC y) hx rfl hM (fun u hu => by simp only [sumC, List.mem_cons, List.mem_nil_iff, or_false] at hu; rcases hu with rfl | rfl <;> rfl) (by unfold maxLen; omega) (by omega) hO.1.size ?_
  intro v' w' hown hg _
  exact h v' w' ⟨Below.trans hO.1 (grown_below hg (fun k hk => (hO.2.lt k hk).1) hO.1.size), by rw [List.length_append, List.flatMap_append, List.flatMap_cons, List.flatMap_nil, List.append_nil]; exact hown⟩ hg
theorem row_sum {w0 w : World} {v : Value} {S : List (Int × Int)} (h : OwnS w0 v S w) : ∀ b, v.ownBlock = some b → ∃ cs fz, w.heap[b]? = some (.cells cs 81 fz) := by
  obtain ⟨_, _, ⟨rfl, _⟩ | ⟨g, cap, cur, rfl, _, hgb, _⟩⟩ := h
  · intro b hb; cases hb
  · intro b hb
    injection hb with hb
    subst hb
    exact ⟨_, _, hgb⟩
def AllTold (n : Nat) (w : World) (e : Ending) (w' : World) : Prop := ∃ a c S, e = .returned (.slice a n c) ∧ S.length = n ∧ n ≤ c ∧ SumsAt w' a S ∧ Ext w w'
set_option maxHeartbeats 4000000 in
set_option maxRecDepth 100000 in
theorem allW (a : Option Addr) (L : List NodeV) (c : Nat) (w : World) (hL : SmallL L) (h40 : L.length ≤ 40) (hA : NodesAt w a L) :
    Calls Tryz.prog 47 #[.slice a L.length c] w (AllTold L.length w) := by
  have HO := Lib.hid (openW a L c w hL h40 hA)
  have HOf := Lib.hid (fun base pb kb mb (x : NodeV) w' (hx : x ∈ L) hP hb => ofW base pb kb mb L hL 1001 x w' (hL.2 x hx).1 (hL.2 x hx).2 (by omega) hP hb)
  have HA := Lib.hid hA; clear hA
  obtain ⟨n, hn⟩ : ∃ n, L.length = n := ⟨_, rfl⟩
  rw [hn] at h40 HO ⊢
  have HN := Lib.hid hn; clear hn
  go_enter Tryz.func47, Tryz.ntmps47
  go_wp2_with fail
  refine HO.out.mono ?_
  rintro e w1 ⟨base, pb, kb, mb, rfl, hE1, hP1, hmb, hb1⟩
  have H1 := Lib.hid (And.intro hE1 hP1); clear hE1 hP1
  go_wp2
  go_loopw [4, 6, 12] (fun v _ i w' => ∃ (k : Nat) (S : List (Int × Int)), k ≤ n ∧ i = .int .i64 k ∧ S.length = k ∧ OwnS w v S w' ∧ PrintAt base L pb kb mb w' ∧ base ≤ w'.heap.size) (fun _ _ i _ => n - (intOf i).toNat)
  case atStart => exact ⟨0, [], Nat.zero_le _, rfl, rfl, ⟨H1.out.1, World.ownsRow_nil _ _ _ _⟩, H1.out.2, hb1⟩
  case round =>
    obtain ⟨k, S, hk, rfl, hS, hown, hP, hbr⟩ := hrel
    have HR := Lib.hid (And.intro hown hP); clear hown hP
    by_cases hlt : k < n
    · have hkl : k < L.length := by rw [HN.out]; exact hlt
      have hmem := List.getElem_mem hkl
      obtain ⟨bl, off, rfl, hb, c0, c1, c2, c3, c4⟩ := NodesAt.node (HA.out.ext HR.out.1.1) hkl
      obtain ⟨x, hx⟩ : ∃ x, L[k] = x := ⟨_, rfl⟩
      rw [hx] at c0 c1 c2 c3 c4 hmem
      have hEb : Ext wr (wr.alloc (.cells #[.string x.path, .int .i64 x.kind, .int .i64 x.mode, .int .i64 x.time, .string x.data] 42)) := (Ext.refl wr).alloc _
      have HC := Lib.hid (HOf.out base pb kb mb x _ hmem (HR.out.2.ext hEb) (Nat.le_trans hbr hEb.size))
      have HEb := Lib.hid hEb; clear hEb
      unfold NodeV.val at HC
      clear hx hmem
      go_wp2_with fail
      refine (HC.out).mono ?_
      rintro e w2 ⟨h, l, rfl, hP2, hO2⟩
      have hE2 : Ext w w2 := hO2.new (HR.out.1.1.trans HEb.out) hmb
      obtain ⟨G, hG⟩ : ∃ G, MapIs (wr.alloc (.cells #[.string x.path, .int .i64 x.kind, .int .i64 x.mode, .int .i64 x.time, .string x.data] 42)) mb G := by
        obtain ⟨_, _, ⟨G, h4, _⟩, _⟩ := HR.out.2.ext HEb.out
        exact ⟨G, h4⟩
      have hO3 := (HR.out.1.ext HEb.out).off_map hG hO2 hE2
      have hbs2 : base ≤ w2.heap.size := by have := hO2.size; have := HEb.out.size; omega
      have H2 := Lib.hid (And.intro hP2 hO3); clear hP2 hO2 hE2 hO3 hG
      clear c0 c1 c2 c3 c4
      go_wp2_with (at_builtin; refine sum_append rfl _ _ rfl w _ S rfl (H2.out.2.alloc _) (h, l) _ 1 rfl (cells_at _ _ _ (by simp)) (by omega) ?_; intro v' w4 hown' hg; have H4 := Lib.hid (And.intro hown' hg); clear hown' hg)
      go_roundw
      case rel => exact ⟨k + 1, _, by omega, by go_num, by rw [List.length_append, hS]; rfl, H4.out.1, (H2.out.1.ext ((Ext.refl w2).alloc _)).grown (row_sum (H2.out.2.alloc _)) H4.out.2, by have := H4.out.2.size; have : w2.heap.size ≤ (w2.alloc (.cells #[.int .u64 h, .int .u64 l] 81)).heap.size := ((Ext.refl w2).alloc _).size; omega⟩
      case measure => simp [intOf]; omega
    · obtain rfl : k = n := by omega
      obtain ⟨av, cv, hv, hcv⟩ := HR.out.1.slice
      go_wp2
      go_ret
      rw [hS] at hv hcv
      refine ⟨av, cv, S, by rw [← hv]; rfl, hS, hcv, ?_, HR.out.1.1⟩
      have h := HR.out.1
      rw [hv] at h
      exact h.done sumC_len
end Go.Proofs.YtiopahkigbdmcaaGreat
/- Sketches (layer 7): the parts' walks. -/
namespace Go.Proofs.YtiopahkigbdmcaaGreat
open Go Go.Proofs Go.RowKit

/-- Eight numbers. -/
def Eight (cs : Array Value) : Prop := cs.size = 8 ∧ ∀ i, i < 8 → ∃ y : Int, cs[i]? = some (.int .u64 y)
theorem Eight.open {cs : Array Value} (h : Eight cs) : ∃ y0 y1 y2 y3 y4 y5 y6 y7 : Int, cs = #[.int .u64 y0, .int .u64 y1, .int .u64 y2, .int .u64 y3, .int .u64 y4, .int .u64 y5, .int .u64 y6, .int .u64 y7] := by
  obtain ⟨hs, hall⟩ := h
  obtain ⟨y0, h0⟩ := hall 0 (by omega)
  obtain ⟨y1, h1⟩ := hall 1 (by omega)
  obtain ⟨y2, h2⟩ := hall 2 (by omega)
  obtain ⟨y3, h3⟩ := hall 3 (by omega)
  obtain ⟨y4, h4⟩ := hall 4 (by omega)
  obtain ⟨y5, h5⟩ := hall 5 (by omega)
  obtain ⟨y6, h6⟩ := hall 6 (by omega)
  obtain ⟨y7, h7⟩ := hall 7 (by omega)
  refine ⟨y0, y1, y2, y3, y4, y5, y6, y7, Array.ext_getElem? fun i => ?_⟩
  by_cases hi : i < 8
  · rcases (by omega : i = 0 ∨ i = 1 ∨ i = 2 ∨ i = 3 ∨ i = 4 ∨ i = 5 ∨ i = 6 ∨ i = 7) with rfl | rfl | rfl | rfl | rfl | rfl | rfl | rfl <;> assumption
  · rw [Array.getElem?_eq_none (by omega), Array.getElem?_eq_none (by simp; omega)]
theorem Eight.set {cs : Array Value} (h : Eight cs) (i : Nat) (y : Int) : Eight (cs.setIfInBounds i (.int .u64 y)) := by
  refine ⟨by rw [Array.size_setIfInBounds]; exact h.1, fun j hj => ?_⟩
  rw [Array.getElem?_setIfInBounds]
  split
  · split
    · exact ⟨y, rfl⟩
    · have := h.1; omega
  · exact h.2 j hj
def set8 (w : World) (b : Nat) (y0 y1 y2 y3 y4 y5 y6 y7 : Int) : World := ((((((((w.setCell ⟨b, 0, none⟩ (.int .u64 y0)).setCell ⟨b, 1, none⟩ (.int .u64 y1)).setCell ⟨b, 2, none⟩ (.int .u64 y2)).setCell ⟨b, 3, none⟩ (.int .u64 y3)).setCell ⟨b, 4, none⟩ (.int .u64 y4)).setCell ⟨b, 5, none⟩ (.int .u64 y5)).setCell ⟨b, 6, none⟩ (.int .u64 y6)).setCell ⟨b, 7, none⟩ (.int .u64 y7))
theorem set8_blk {w : World} {b : Nat} {cs : Array Value} {fz : Nat × Nat} (y0 y1 y2 y3 y4 y5 y6 y7 : Int) (h : w.heap[b]? = some (.cells cs 82 fz)) (h8 : Eight cs) : (set8 w b y0 y1 y2 y3 y4 y5 y6 y7).heap[b]? = some (.cells #[.int .u64 y0, .int .u64 y1, .int .u64 y2, .int .u64 y3, .int .u64 y4, .int .u64 y5, .int .u64 y6, .int .u64 y7] 82 fz) := by
  obtain ⟨x0, x1, x2, x3, x4, x5, x6, x7, rfl⟩ := h8.open
  have h' := blk_set (i := 7) (.int .u64 y7) (blk_set (i := 6) (.int .u64 y6) (blk_set (i := 5) (.int .u64 y5) (blk_set (i := 4) (.int .u64 y4) (blk_set (i := 3) (.int .u64 y3) (blk_set (i := 2) (.int .u64 y2) (blk_set (i := 1) (.int .u64 y1) (blk_set (i := 0) (.int .u64 y0) (h))))))))
  simp only [List.setIfInBounds_toArray, List.set_cons_zero, List.set_cons_succ] at h'
  exact h'
theorem set8_ext {w0 w : World} {b : Nat} (y0 y1 y2 y3 y4 y5 y6 y7 : Int) (h : Ext w0 w) (hb : w0.heap.size ≤ b) : Ext w0 (set8 w b y0 y1 y2 y3 y4 y5 y6 y7) := ((((((((h.setNew (i := 0) hb (.int .u64 y0)).setNew (i := 1) hb (.int .u64 y1)).setNew (i := 2) hb (.int .u64 y2)).setNew (i := 3) hb (.int .u64 y3)).setNew (i := 4) hb (.int .u64 y4)).setNew (i := 5) hb (.int .u64 y5)).setNew (i := 6) hb (.int .u64 y6)).setNew (i := 7) hb (.int .u64 y7))
theorem eight_of (y0 y1 y2 y3 y4 y5 y6 y7 : Int) : Eight #[.int .u64 y0, .int .u64 y1, .int .u64 y2, .int .u64 y3, .int .u64 y4, .int .u64 y5, .int .u64 y6, .int .u64 y7] := ⟨rfl, fun i hi => by rcases (by omega : i = 0 ∨ i = 1 ∨ i = 2 ∨ i = 3 ∨ i = 4 ∨ i = 5 ∨ i = 6 ∨ i = 7) with rfl | rfl | rfl | rfl | rfl | rfl | rfl | rfl <;> exact ⟨_, rfl⟩⟩
def SketchTold (w : World) (e : Ending) (w' : World) : Prop := ∃ cs, e = .returned (.agg cs) ∧ Eight cs ∧ Ext w w'
def z8 : Obj := .cells #[.int .u64 0, .int .u64 0, .int .u64 0, .int .u64 0, .int .u64 0, .int .u64 0, .int .u64 0, .int .u64 0] 82
theorem z8_eight : Eight #[.int .u64 0, .int .u64 0, .int .u64 0, .int .u64 0, .int .u64 0, .int .u64 0, .int .u64 0, .int .u64 0] := ⟨rfl, fun i hi => by rcases (by omega : i = 0 ∨ i = 1 ∨ i = 2 ∨ i = 3 ∨ i = 4 ∨ i = 5 ∨ i = 6 ∨ i = 7) with rfl | rfl | rfl | rfl | rfl | rfl | rfl | rfl <;> exact ⟨_, rfl⟩⟩
set_option maxHeartbeats 2000000 in
set_option maxRecDepth 100000 in
theorem noneW (w : World) : Calls Tryz.prog 85 #[] w (SketchTold w) := by
  go_enter Tryz.func85, Tryz.ntmps85
  go_wp2
  go_loopw [3] (fun i w' => ∃ (k : Nat) (cs : Array Value), k ≤ 8 ∧ i = .int .i64 k ∧ w'.heap[w.heap.size]? = some z8 ∧ w'.heap[w.heap.size + 1]? = some (.cells cs 82 (0, 0)) ∧ Eight cs ∧ Ext w w') (fun i _ => 8 - (intOf i).toNat)
  case atStart => exact ⟨0, _, by omega, rfl, blk_alloc _ (heap_new w _), heap_at _ _ (by simp), z8_eight, ((Ext.refl w).alloc _).alloc _⟩
  case round =>
    obtain ⟨k, cs, hk, rfl, hz, hb, h8, hE⟩ := hrel
    by_cases hlt : k < 8
    · obtain ⟨y, hy⟩ := h8.2 k hlt
      have c0 := blk_cell hb hy
      have f0 : wr.frozen? ⟨w.heap.size + 1, k, none⟩ = false := blk_free hb
      have hki : (k : Int) < 8 := by omega
      have H := Lib.hid (And.intro hz (And.intro hb (And.intro h8 hE))); clear hz hb h8 hE hy
      go_wp2
      refine ⟨⟨k + 1, _, by omega, by go_num, (blk_set_other _ (by omega)).trans H.out.1, blk_set _ H.out.2.1, H.out.2.2.1.set k _, H.out.2.2.2.setNew (by omega) _⟩, by simp [intOf]; omega⟩
    · obtain rfl : k = 8 := by omega
      obtain ⟨y0, y1, y2, y3, y4, y5, y6, y7, rfl⟩ := h8.open
      have c0 := blk_cell hb (i := 0) rfl
      have c1 := blk_cell hb (i := 1) rfl
      have c2 := blk_cell hb (i := 2) rfl
      have c3 := blk_cell hb (i := 3) rfl
      have c4 := blk_cell hb (i := 4) rfl
      have c5 := blk_cell hb (i := 5) rfl
      have c6 := blk_cell hb (i := 6) rfl
      have c7 := blk_cell hb (i := 7) rfl
      have d0 := blk_cell hz (i := 0) rfl
      have d1 := blk_cell hz (i := 1) rfl
      have d2 := blk_cell hz (i := 2) rfl
      have d3 := blk_cell hz (i := 3) rfl
      have d4 := blk_cell hz (i := 4) rfl
      have d5 := blk_cell hz (i := 5) rfl
      have d6 := blk_cell hz (i := 6) rfl
      have d7 := blk_cell hz (i := 7) rfl
      have fz : ∀ i, wr.frozen? ⟨w.heap.size, i, none⟩ = false := fun i => blk_free hz
      have hBf := set8_blk y0 y1 y2 y3 y4 y5 y6 y7 hz z8_eight
      have hEf := set8_ext y0 y1 y2 y3 y4 y5 y6 y7 hE (Nat.le_refl w.heap.size)
      have HF := Lib.hid (And.intro hBf hEf); clear hBf hEf hz hb h8 hE
      go_wp2
      refine bodyPost_ret (res_cell rfl rfl (HF.out.1) (by kernel_rfl) (by kernel_rfl)) rfl ?_
      exact ⟨_, rfl, eight_of _ _ _ _ _ _ _ _, HF.out.2⟩
end Go.Proofs.YtiopahkigbdmcaaGreat
/- Sketches (layer 7): a round, and a shingle: the walks. -/
namespace Go.Proofs.YtiopahkigbdmcaaGreat
open Go Go.Proofs Go.RowKit

set_option maxHeartbeats 1000000 in
set_option maxRecDepth 100000 in
theorem roundW (hi lo x : Int) (w : World) : Calls Tryz.prog 87 #[.agg #[.int .u64 hi, .int .u64 lo], .int .u64 x] w (SumTold w) := by
  have HM := Lib.hid (fun hi lo x w => mroundW hi lo x w)
  have hR := heap_at (w.alloc (.cells #[.int .u64 hi, .int .u64 lo] 81)) (.cells #[.int .u64 0, .int .u64 0] 81) (n := w.heap.size + 1) (by simp)
  have HR := Lib.hid hR; clear hR
  go_enter Tryz.func87, Tryz.ntmps87
  go_wp2_with fail
  refine (HM.out _ _ _ _).mono ?_
  rintro e w2 ⟨h, z, rfl, hE2⟩
  have hR2 := hE2.block HR.out
  have hEw : Ext w w2 := Ext.trans (((Ext.refl w).alloc _).alloc _) hE2
  have c0 := blk_cell hR2 (i := 0) rfl
  have c1 := blk_cell hR2 (i := 1) rfl
  have fr : ∀ i, w2.frozen? ⟨w.heap.size + 1, i, none⟩ = false := fun i => blk_free hR2
  have hB7 := blk_set (i := 1) (.int .u64 z) (blk_set (i := 0) (.int .u64 h) hR2)
  have hE7 := (hEw.setNew (i := 0) (Nat.le_succ w.heap.size) (.int .u64 h)).setNew (i := 1) (Nat.le_succ w.heap.size) (.int .u64 z)
  have H7 := Lib.hid (And.intro hB7 hE7); clear hB7 hE7 hR2 hEw
  go_wp2
  refine bodyPost_ret (res_cell rfl rfl (H7.out.1) (by kernel_rfl) (by kernel_rfl)) rfl ?_
  exact ⟨_, _, rfl, H7.out.2⟩
/-- A shingle's number. -/
def shK (l : List Int) : Nat → Int
  | 0 => (l.length : Int) * 4294967296
  | k + 1 => bits BinOp.or IntKind.u64 (shK l k) (IntKind.u64.wrap (IntKind.u64.wrap (l.getD k 0) * 2 ^ (8 * k)))
def shW (l : List Int) : Int := shK l l.length
set_option maxHeartbeats 1000000 in
set_option maxRecDepth 100000 in
theorem shwordW (a : Option Addr) (l : List Int) (c : Nat) (w : World) (hl : l.length ≤ 4) (hb : BytesL w a l) :
    Calls Tryz.prog 104 #[.slice a l.length c] w (fun e w' => e = .returned (.int .u64 (shW l)) ∧ w = w') := by
  have HB := Lib.hid hb; clear hb
  have HS : Hid (∀ k, shK l (k + 1) = bits BinOp.or IntKind.u64 (shK l k) (IntKind.u64.wrap (IntKind.u64.wrap (l.getD k 0) * 2 ^ (8 * k)))) := Lib.hid (fun k => rfl)
  obtain ⟨n, hn⟩ : ∃ n, l.length = n := ⟨_, rfl⟩
  have HW : Hid (shW l = shK l n) := Lib.hid (by rw [shW, hn])
  have H0 : Hid (shK l 0 = (n : Int) * 4294967296) := Lib.hid (by rw [shK, hn])
  rw [hn] at hl ⊢
  have HN := Lib.hid hn; clear hn
  go_enter Tryz.func104, Tryz.ntmps104
  go_wp2
  go_loop [3, 12] (fun v i => ∃ k : Nat, k ≤ n ∧ i = .int .i64 k ∧ v = .int .u64 (shK l k)) (fun _ i => n - (intOf i).toNat)
  case atStart => exact ⟨0, Nat.zero_le _, rfl, by rw [H0.out]⟩
  case round =>
    obtain ⟨k, hk, rfl, rfl⟩ := hrel
    by_cases hlt : k < n
    · have hkl : k < l.length := by rw [HN.out]; exact hlt
      obtain ⟨b, off, rfl, hb, hall⟩ := ListAt.block HB.out hkl
      have c0 := hall 0 _ rfl
      rw [Nat.mul_one, Nat.add_zero] at c0
      obtain ⟨y, hy⟩ : ∃ y, l[k] = y := ⟨_, rfl⟩
      rw [hy] at c0
      have hstep := HS.out k
      rw [show l.getD k 0 = y by rw [List.getD_eq_getElem?_getD, List.getElem?_eq_getElem hkl, hy]; rfl] at hstep
      have HSt := Lib.hid hstep
      obtain ⟨z, hz⟩ : ∃ z, shK l k = z := ⟨_, rfl⟩
      rw [hz] at HSt ⊢
      clear hy hb hall hstep hz
      go_wp2
      refine ⟨⟨k + 1, by omega, by go_num, by rw [HSt.out]⟩, by simp [intOf]; omega⟩
    · obtain rfl : k = n := by omega
      go_wp2
      go_ret
      exact ⟨by rw [HW.out]; rfl, rfl⟩
end Go.Proofs.YtiopahkigbdmcaaGreat
/- A range over a function that hands out a known list: as in XRange, with a fact that stays true as long as the loop runs. -/
namespace Go.Proofs.YtiopahkigbdmcaaGreat
open Go Go.Proofs Go.RowKit

/-- The function g hands out the list L, one by one; its place lies in block bc; while it runs, M is true. -/
def HandsM (n : Nat) (P : Program) (g : Nat) (lb : Array Value) (bc : Nat) (M : World → Prop) (L : List Value) (w0 : World) : Prop :=
  ∀ (l : Nat) (J Jx : Nat → World → Prop) (W : World), Below w0.heap.size w0 W → AbidesFrom W.heap.size J → AbidesFrom W.heap.size Jx → Stays bc J → (∀ k W1, J k W1 → M W1) →
    (∀ k (hk : k < L.length) W1, J k W1 → YieldAt Fence.wide (n - 1) P l #[L[k]] W1 fun e W' => (e = .returned (.bool true) ∧ J (k + 1) W' ∧ KeepB bc W1 W') ∨ (e = .returned (.bool false) ∧ Jx (k + 1) W')) →
    J 0 W → CallsIn Fence.wide n P g (#[.func (.yield l) #[] #[]] ++ lb) W fun e W' => (∃ v, e = .returned v) ∧ (J L.length W' ∨ ∃ k, k < L.length ∧ Jx (k + 1) W')

theorem range_listM {n : Nat} {P : Program} {g : Operand} {ps : Array Tmp} {assign body : Code} {Q : Exit → Act → World → Prop} {a : Act} {w : World}
    (h1 : 1 ≤ n) {gf : Nat} {lb : Array Value} (hg : a.eval g = .func (.func gf) #[] lb) (eg : ∀ args w, (callFunc gf args).run P w = .ok (.enter gf args) w)
    {L : List Value} {bc : Nat} {M : World → Prop} (hseq : HandsM (n - 1) P gf lb bc M L w) (hps : ps.size = 1) (hbc : bc < w.heap.size)
    (I Ix : Nat → World → Prop) (hI : OwnFrom w.heap.size I) (hIx : OwnFrom w.heap.size Ix) (hIc : Stays bc I) (hIM : ∀ k W, I k W → M W) (h0 : I 0 w) (a₁ : Nat → Act)
    (hassign : ∀ (l k : Nat) (hk : k < L.length) (W : World) (K : Act → World → Prop), K (a₁ k) W →
      assign.wpIn (Fence.wide.inRound l) (n - 1 - 1) P (Exit.then K (fun _ _ _ => False)) { tmps := (ps.zip #[L[k]]).foldl (fun t (p, v) => t.setIfInBounds p v) a.tmps, defers := [] } W)
    (hbody : ∀ (l k : Nat) (W : World), k < L.length → I k W → body.wpIn (Fence.wide.inRound l) (n - 1 - 1) P (roundLeft bc I Ix k W) (a₁ k) W)
    (hdone : ∀ (D : Nat) (W : World), w.heap.size ≤ D → I L.length W → W.heap[D]? = some (.deferred (some [])) → Q .normal { a with defers := { target := .collected D, args := #[] } :: a.defers } W)
    (hstop : ∀ (D k : Nat) (W : World), w.heap.size ≤ D → k < L.length → Ix (k + 1) W → W.heap[D]? = some (.deferred (some [])) → Code.ret.wpIn Fence.wide n P Q { a with defers := { target := .collected D, args := #[] } :: a.defers } W) :
    (Code.rangeFunc g ps assign body).wpIn Fence.wide n P Q a w := by
  refine wpIn_rangeFunc fun fn hfn => ?_
  have hro : Fence.wide.round = none := rfl
  rw [hro]
  obtain ⟨rec, hrec⟩ : ∃ rec : LoopState → Option Code → Loop, rec = fun st pe => { state := st, pending := pe, fn, tmps := a.tmps, params := ps, assign, body, defers := w.heap.size } := ⟨_, rfl⟩
  have nl : ∀ st pe, Obj.isCells (.loop (rec st pe)) = false := fun _ _ => rfl
  obtain ⟨W1, hW1⟩ : ∃ W1, (w.alloc (.deferred (some []))).alloc (.loop (rec .ready none)) = W1 := ⟨_, rfl⟩
  have hz1 : W1.heap.size = w.heap.size + 2 := by rw [← hW1]; simp
  have hL1 : W1.heap[w.heap.size + 1]? = some (.loop (rec .ready none)) := by rw [← hW1]; exact heap_at _ _ (by simp)
  have hK1 : W1.heap[w.heap.size]? = some (.deferred (some [])) := by rw [← hW1]; exact heap_before _ _ (heap_at _ _ rfl)
  have hI1 : I 0 W1 := by rw [← hW1]; exact hI.alloc _ (hI.alloc _ h0)
  have hb1 : Below w.heap.size w W1 := by rw [← hW1]; exact ((Below.refl _ w).alloc (Nat.le_refl _) _).alloc (by simp) _
  refine ⟨w.heap.size + 1, [{ target := .collected w.heap.size, args := #[] }], W1, { target := .fn (.func gf) lb, args := #[.func (.yield (w.heap.size + 1)) #[] #[]] }, W1, gf,
    #[.func (.yield (w.heap.size + 1)) #[] #[]] ++ lb, W1, ?_, ?_, fun _ _ => trivial, ?_, fun _ => h1, ?_⟩
  · rw [← hW1, hrec]; exact run_enterLoop_outer _ _ _ _ _
  · simp only [resolve, hg]; simp [go_sem]
  · simp [invoke, go_sem, eg]
  · -- what the loop's own book-keeping and the iterator's steps leave alone
    have hwalk : ∀ {A : World} {row : Option Nat}, (∀ r, row = some r → W1.heap.size ≤ r ∧ ∃ o : Obj, A.heap[r]? = some o ∧ o.isWalk = true) → ∀ r, row = some r → w.heap.size ≤ r ∧ ∃ o : Obj, A.heap[r]? = some o ∧ o.isCells = false :=
      fun hr r e => by obtain ⟨hB, o, ho, hw⟩ := hr r e; exact ⟨by omega, o, ho, Obj.not_cells_of_walk hw⟩
    have hset : ∀ (W : World) (v : Value) (b : Nat) (o : Option Obj), b ≠ bc → W.heap[b]? = o → (W.setCell ⟨bc, 0, none⟩ v).heap[b]? = o := fun W v b o hb h => (blk_set_other v hb).trans h
    refine (hseq (w.heap.size + 1)
      (fun k W => I k W ∧ W.heap[w.heap.size + 1]? = some (.loop (rec .ready none)) ∧ W.heap[w.heap.size]? = some (.deferred (some [])))
      (fun k W => Ix k W ∧ W.heap[w.heap.size + 1]? = some (.loop (rec .done (some .ret))) ∧ W.heap[w.heap.size]? = some (.deferred (some [])))
      W1 hb1
      (fun s A B row hs hg' hr => ⟨hI s A B row hs.1 hg' (hwalk hr), (grownBy_keeps hg' (fun r e => (hr r e).2) hs.2.1 rfl).trans hs.2.1, (grownBy_keeps hg' (fun r e => (hr r e).2) hs.2.2 rfl).trans hs.2.2⟩)
      (fun s A B row hs hg' hr => ⟨hIx s A B row hs.1 hg' (hwalk hr), (grownBy_keeps hg' (fun r e => (hr r e).2) hs.2.1 rfl).trans hs.2.1, (grownBy_keeps hg' (fun r e => (hr r e).2) hs.2.2 rfl).trans hs.2.2⟩)
      (fun k W v hs => ⟨hIc k W v hs.1, hset W v _ _ (by omega) hs.2.1, hset W v _ _ (by omega) hs.2.2⟩)
      (fun k W hs => hIM k W hs.1)
      ?_ ⟨hI1, hL1, hK1⟩).mono ?_
    · rintro k hk W ⟨hi, hl, hd⟩
      have hlt := blk_lt hl
      have hy := run_yield (P := P) (args := #[L[k]]) hl (by rw [hrec]; simp [hps])
      rw [hrec] at hy
      refine ⟨fn, _, assign, body, hy, roundIn_of_wpIn hfn (hassign _ k hk W _ ⟨_, run_beginRound hl (by rw [hrec]), ?_⟩)⟩
      obtain ⟨W2, hW2⟩ : ∃ W2, W.putObj (w.heap.size + 1) (.loop { rec .ready none with state := .busy }) = W2 := ⟨_, rfl⟩
      have hl2 : W2.heap[w.heap.size + 1]? = some (.loop { rec .ready none with state := .busy }) := by rw [← hW2]; exact World.putObj_heap_same hlt
      have hd2 : W2.heap[w.heap.size]? = some (.deferred (some [])) := by rw [← hW2]; exact (World.putObj_heap_other (by omega)).trans hd
      have hk2 : KeepB bc W W2 := by rw [← hW2]; exact KeepB.put _ (by omega)
      have hi2 : I k W2 := by rw [← hW2]; exact hI.putObj _ hi (by omega) hl (nl _ _)
      rw [hW2]
      refine wpIn_mono (hbody _ k W2 hk hi2) fun e a3 W3 hp => ?_
      have fin : KeepsOthers W2 W3 → ∀ jump : Option Code, ∃ W4, (Instr.endRound (w.heap.size + 1) jump).run P W3 = .ok (.bool jump.isNone) W4 ∧ W4 = W3.putObj (w.heap.size + 1) (.loop (rec (if jump.isNone then .ready else .done) jump)) ∧
          W3.heap[w.heap.size + 1]? = some (.loop { rec .ready none with state := .busy }) ∧ W4.heap[w.heap.size + 1]? = some (.loop (rec (if jump.isNone then .ready else .done) jump)) ∧ W4.heap[w.heap.size]? = some (.deferred (some [])) := fun hko jump => by
        have hl3 := hko.same _ _ hl2 rfl
        have hr := run_endRound (P := P) jump hl3
        refine ⟨_, hr, by rw [hrec], hl3, ?_, ?_⟩
        · rw [World.putObj_heap_same (blk_lt hl3), hrec]
        · exact (World.putObj_heap_other (by omega)).trans (hko.same _ _ hd2 rfl)
      cases e with
      | normal =>
        obtain ⟨hko, hkb, hi3⟩ := hp
        obtain ⟨W4, hr, rfl, hl3, hl4, hd4⟩ := fin hko none
        exact ⟨_, _, hr, .inl ⟨rfl, ⟨hI.putObj _ hi3 (by omega) hl3 rfl, hl4, hd4⟩, (hk2.trans hkb).trans (KeepB.put _ (by omega))⟩⟩
      | ret =>
        obtain ⟨hko, hi3⟩ := hp
        obtain ⟨W4, hr, rfl, hl3, hl4, hd4⟩ := fin hko (some .ret)
        exact ⟨_, _, hr, .inr ⟨rfl, hIx.putObj _ hi3 (by omega) hl3 rfl, hl4, hd4⟩⟩
      | exit id => exact hp.elim
      | goto t => exact hp.elim
      | panic ch => exact hp.elim
      | outgrown => exact hp.elim
    · rintro e W2 ⟨⟨v, rfl⟩, ⟨hi, hl, hd⟩ | ⟨k, hk, hi, hl, hd⟩⟩
      · exact ⟨none, _, by have := run_endLoop (P := P) hl (by rw [hrec]; simp); rw [hrec] at this; exact this, hdone _ _ (Nat.le_refl _) (hI.putObj _ hi (by omega) hl (nl _ _)) ((World.putObj_heap_other (by omega)).trans hd)⟩
      · exact ⟨some .ret, _, by have := run_endLoop (P := P) hl (by rw [hrec]; simp); rw [hrec] at this; exact this, hstop _ k _ (Nat.le_refl _) hk (hIx.putObj _ hi (by omega) hl (nl _ _)) ((World.putObj_heap_other (by omega)).trans hd)⟩
end Go.Proofs.YtiopahkigbdmcaaGreat
/- The shingles of a row of bytes, handed out one by one (layer 7): the walk. -/
namespace Go.Proofs.YtiopahkigbdmcaaGreat
open Go Go.Proofs Go.RowKit
attribute [local go_sem] Oper.semAt_some

/-- A row's shingles, as values. -/
def shVals (q : List Int) : List Value := if min 4 q.length = 0 then [] else (List.range (q.length - min 4 q.length + 1)).map fun k => .int .u64 (shW ((q.drop k).take (min 4 q.length)))

theorem shword_at (a : Option Addr) (q : List Int) (c k m z : Nat) (w : World) (hz : q.length = z) (hm : m ≤ 4) (hk : k + m ≤ z) (h0 : 0 < z) (hB : BytesL w a q) :
    Calls Tryz.prog 104 #[.slice (Option.map (fun x => x.add k) a) m (c - k)] w (fun e w' => e = .returned (.int .u64 (shW ((q.drop k).take m))) ∧ w = w') := by
  obtain ⟨b, off, rfl, -, -⟩ := ListAt.block hB (i := 0) (by omega)
  obtain ⟨l, hl⟩ : ∃ l, (q.drop k).take m = l := ⟨_, rfl⟩
  have hll : l.length = m := by rw [← hl, List.length_take, List.length_drop]; omega
  have hb : BytesL w (some ⟨b, off + k * 1, none⟩) l := by rw [← hl]; exact (hB.drop k).take m
  rw [hl]
  rw [Nat.mul_one] at hb
  have h := shwordW (some ⟨b, off + k, none⟩) l (c - k) w (by omega) hb
  rw [hll] at h
  have ha : Option.map (fun x : Addr => x.add k) (some ⟨b, off, none⟩) = some ⟨b, off + k, none⟩ := by
    simp only [Option.map_some, Addr.add]; split <;> simp_all
  rw [ha]
  exact h

set_option maxRecDepth 100000 in
set_option maxHeartbeats 4000000 in
theorem sh_hands (n bc : Nat) (a : Option Addr) (q : List Int) (c : Nat) (w : World) (hq : q.length ≤ 100000) (hqc : q.length ≤ c) (hb : w.heap[bc]? = some (.cells #[.slice a q.length c] 105 (0, 0))) :
    HandsM n Tryz.prog 103 #[.pointer (some ⟨bc, 0, none⟩)] bc (fun W => BytesL W a q) (shVals q) w := by
  intro l J Jx W hW hJ hJx hS hM hY h0
  have hbl := blk_lt hb
  have hbW : W.heap[bc]? = some (.cells #[.slice a q.length c] 105 (0, 0)) := (Below.block hW bc hbl).trans hb
  have HM := Lib.hid hM; clear hM
  have HY := Lib.hid hY; clear hY
  have HS := Lib.hid hS; clear hS
  obtain ⟨hc, hf⟩ := cell_blk hbW
  obtain ⟨z, hz⟩ : ∃ z, q.length = z := ⟨_, rfl⟩
  obtain ⟨m, hm⟩ : ∃ m, min 4 z = m := ⟨_, rfl⟩
  rw [hz] at hc hq hqc
  refine callsIn_of_wp Tryz.func103 rfl trivial ?_
  simp only [Tryz.ntmps103, List.size_toArray, List.length_cons, List.length_nil, Nat.reduceAdd, Nat.reduceSub, Array.replicate_succ, Array.replicate_zero, List.push_toArray, List.append_toArray, List.nil_append, List.cons_append]
  have hlen : m ≠ 0 → (shVals q).length = z - m + 1 := fun h => by rw [shVals, hz, hm, if_neg h, List.length_map, List.length_range]
  have hnil : m = 0 → (shVals q).length = 0 := fun h => by rw [shVals, hz, hm, if_pos h]; rfl
  have hget : m ≠ 0 → ∀ k (hk : k < (shVals q).length), (shVals q)[k] = .int .u64 (shW ((q.drop k).take m)) := fun h k hk => by
    have hkk := hk
    rw [hlen h] at hkk
    have : (shVals q)[k]? = some (.int .u64 (shW ((q.drop k).take m))) := by
      rw [shVals, hz, hm, if_neg h, List.getElem?_map, List.getElem?_range hkk]; rfl
    rw [List.getElem?_eq_getElem hk] at this
    exact Option.some.inj this
  have hmi : min 4 (z : Int) = (m : Int) := by omega
  have HG := Lib.hid (And.intro hlen (And.intro hnil (And.intro hget hm))); clear hlen hnil hget hm
  have HJ0 := Lib.hid h0; clear h0
  gi_wp2
  · rename_i h0
    have : m = 0 := by simpa using h0
    refine bodyPost_ret (results_none rfl _ _ _) rfl ?_
    exact ⟨⟨_, rfl⟩, Or.inl (by rw [HG.out.2.1 this]; exact HJ0.out)⟩
  rename_i hm0
  have hm0 : m ≠ 0 := by intro h; subst h; simp at hm0
  have hN := HG.out.1 hm0
  obtain ⟨N, hNN⟩ : ∃ N, (shVals q).length = N := ⟨_, rfl⟩
  have hmz : m ≤ z := by omega
  have hm4 : m ≤ 4 := by omega
  rw [hNN] at hN
  have HN := Lib.hid hNN; clear hNN
  have HZ := Lib.hid hz; clear hz
  gi_loopw [4] (fun v wr => ∃ (k : Nat), v = .int .i64 k ∧ k ≤ N ∧ wr.heap[bc]? = some (.cells #[.slice a z c] 105 (0, 0)) ∧ J k wr) (fun v _ => N - (intOf v).toNat)
  case atStart => exact ⟨0, rfl, Nat.zero_le _, by rw [← HZ.out]; exact hbW, HJ0.out⟩
  case round =>
    obtain ⟨k, rfl, hkN, hbq, hj⟩ := hrel
    obtain ⟨hc, hf⟩ := cell_blk hbq
    have HJ := Lib.hid hj; clear hj
    by_cases hlt : k < N
    · have hki : (k : Int) ≤ (z : Int) - (m : Int) := by omega
      have hy := HY.out k (by rw [HN.out]; exact hlt) wr HJ.out
      rw [HG.out.2.2.1 hm0] at hy
      obtain ⟨fn, tmps, assign, body, hy, hR⟩ := hy
      have HR := Lib.hid hR; clear hR
      have q1 : (k : Int) ≤ (k : Int) + (m : Int) := by omega
      have q2 : (k : Int) + (m : Int) ≤ (c : Int) := by omega
      have q3 : (0 : Int) ≤ (k : Int) := by omega
      have q4 : (0 : Int) ≤ (k : Int) + (m : Int) := by omega
      have hW4 : Hid (Calls Tryz.prog 104 #[.slice (Option.map (fun x => x.add k) a) m (c - k)] wr (fun e w' => e = .returned (.int .u64 (shW ((q.drop k).take m))) ∧ wr = w')) := Lib.hid (shword_at a q c k m z wr HZ.out hm4 (by omega) (by omega) (HM.out _ _ HJ.out))
      gi_wp2_with (first | (refine ⟨trivial, (fun h => by cases h), ?_⟩; gi_at_call 104; refine (callsIn_wide.2 hW4.out).mono ?_; rintro e w' ⟨rfl, rfl⟩) | (refine ⟨(fun h => by cases h), HR.out.mono ?_⟩; rintro e W' (⟨rfl, hJ2, hk2⟩ | ⟨rfl, hJ2⟩); have HJ2 := Lib.hid hJ2; clear hJ2; have HB2 := Lib.hid (hk2.1.trans hbq); clear hk2))
      · refine ⟨⟨k + 1, rfl, by omega, HB2.out, HJ2.out⟩, ?_⟩
        simp [intOf]; omega
      · refine bodyPost_end (v := .tuple #[]) ?_ ?_ ?_
        · exact results_none rfl _ _ _
        · rfl
        exact ⟨⟨_, rfl⟩, Or.inr ⟨k, by rw [HN.out]; exact hlt, hJ2⟩⟩
    · have hki : ¬ (k : Int) ≤ (z : Int) - (m : Int) := by omega
      have hkN : Hid (k = (shVals q).length) := Lib.hid (by rw [HN.out]; omega)
      gi_wp2_with (refine ⟨trivial, ?_⟩)
      refine ⟨(fun f h => by cases h), ?_⟩
      go_at_K
      gi_wp2
      refine bodyPost_end (v := .tuple #[]) ?_ ?_ ?_
      · exact results_none rfl _ _ _
      · rfl
      exact ⟨⟨_, rfl⟩, Or.inl (by rw [← hkN.out]; exact HJ.out)⟩
end Go.Proofs.YtiopahkigbdmcaaGreat
/- A region that draws its order, in a round of a range over a function: as in XDraw. No program is named here. -/
namespace Go.Proofs.YtiopahkigbdmcaaGreat
open Go Go.Proofs Go.RowKit

theorem uponIn_of_upon {n l : Nat} {P : Program} {o : Oper} {a : Act} {K : Act → World → Prop} {Q : Exit → Act → World → Prop} {r : Result Next} (h : o.upon P a K Q r) : o.uponIn (Fence.wide.inRound l) n P a K Q r := by
  cases r with
  | ok x w' =>
    cases x <;> simp only [Oper.upon, Oper.uponIn] at h ⊢ <;> first
      | exact h
      | exact False.elim h
      | exact ⟨(fun hx => by cases hx), CallsIn.inRound l (callsIn_wide.2 (h.mono fun e w'' he => by cases e <;> exact he))⟩
      | exact ⟨(fun hx => by cases hx), fun c cs _ => let ⟨v, w', r, s⟩ := h c cs; ⟨v, w', r, stepsIn_wide.2 s⟩⟩
  | halt x w' => cases x <;> exact h
def noDefer (ops : Array Oper) : Bool := ops.all fun o => match o.op with | .defer _ => false | _ => true
theorem opIn_of_op {n l : Nat} {P : Program} {ops : Array Oper} (hnd : noDefer ops = true) {Q : Exit → Act → World → Prop} (hQ : ∀ a w, ¬ Q .outgrown a w) {i : Nat} {K K' : Act → World → Prop} (hK : ∀ a w, K a w → K' a w) {a : Act} {w : World} (h : wpOp P ops Q i K a w) : wpOpIn (Fence.wide.inRound l) n P ops Q i K' a w := by
  unfold wpOp at h
  unfold wpOpIn
  cases ho : ops[i]? with
  | none => rw [ho] at h; exact hK _ _ h
  | some o =>
    rw [ho] at h
    simp only [] at h ⊢
    have hd : ∀ c, o.op ≠ .defer c := by
      intro c hc
      have hm := Array.all_eq_true'.1 hnd o (Array.mem_of_getElem? ho)
      rw [hc] at hm
      cases hm
    split
    · rename_i hw
      rw [if_pos hw] at h
      rcases h with h | ⟨_, b, v, hf⟩
      · refine Oper.wpIn_mono hK ⟨fun _ _ => trivial, ?_⟩
        rw [Oper.semAt_plain _ _ _ hd]
        exact uponIn_of_upon h
      · exact absurd hf (hQ _ _)
    · rename_i hw
      rw [if_neg hw] at h
      exact ⟨fun _ _ => trivial, hK _ _ h⟩
theorem anyIn_of_any {n l : Nat} {P : Program} {md : Region.Mode} {ops : Array Oper} (hnd : noDefer ops = true) {Q : Exit → Act → World → Prop} (hQ : ∀ a w, ¬ Q .outgrown a w) : ∀ (f : Nat) (listed : Array Bool) (a : Act) (w : World), wpAny P md ops Q f listed a w → wpAnyIn (Fence.wide.inRound l) n P md ops Q f listed a w
  | 0, _, _, _, h => h
  | f + 1, _, _, _, h => ⟨h.1, fun i hi => opIn_of_op hnd hQ (fun a' w' h' => anyIn_of_any hnd hQ f _ a' w' h') (h.2 i hi)⟩
theorem wpIn_draw_stages {nn l0 : Nat} {P : Program} {id : Nat} {Q : Exit → Act → World → Prop} {a : Act} {w : World} {l : List Oper} (N n : Nat) (ml : List Bool) (st : List (List Bool × Nat)) (R : World → World → Prop) (hrf : ∀ x, R x x) (htr : ∀ x y z, R x y → R y z → R x z)
    (hm : P.follows .mixedOrders = true) (hB : stagesB .any l.toArray N n ml st = true) (hnd : noDefer l.toArray = true)
    (h : wpStages P l.toArray N R (fun a' w' => wpList P l.toArray (fun e a w => e = .normal ∧ Q .normal a w) (l.drop n) a' w') l ml st a w.drew) : (Code.region id l.toArray true).wpIn (Fence.wide.inRound l0) nn P Q a w := by
  simp only [stagesB, Bool.and_eq_true, decide_eq_true_eq] at hB
  obtain ⟨⟨⟨⟨⟨hsel, hn⟩, hs⟩, hc⟩, htot⟩, hB⟩ := hB
  have hdl : (l.drop n).length = l.toArray.size - n := by simp
  have inv0 : HeadInv .any l.toArray n (Array.replicate l.toArray.size false) :=
    ⟨by simp, fun j oj _ hl => (by rw [getD_replicate_false] at hl; cases hl), fun t _ ht => getD_in (by simpa using ht) (getD_replicate_false _ _)⟩
  have H := stages_sound (md := .any) (g := l.toArray.size - n) hrf htr (by simp) (by simp) (by simp) rfl hsel hs hc hn st _ a w.drew inv0 hB h
  refine wpIn_mono (Q := fun e a w => e = .normal ∧ Q .normal a w) ?_ (fun e a w ⟨he, h⟩ => by rw [he]; exact h)
  refine wpIn_region_any hm (anyIn_of_any hnd (fun a w h => by cases h.1) _ _ _ _ ?_)
  have := wpAny_of_anyR (Q := fun e a w => e = .normal ∧ Q .normal a w) (g := l.toArray.size - n) (fun listed a' w' hL => by
    have := wpAny_of_seq (md := .any) (Q' := fun e a w => e = .normal ∧ Q .normal a w) (l.drop n) n listed a' w' (fun j => by simp [List.getElem?_drop]) (by rw [hdl]; exact hL.1) hL.2
    rwa [hdl] at this) _ _ _ _ H
  rw [htot, show n + (l.toArray.size - n) = l.toArray.size by omega] at this
  exact this
end Go.Proofs.YtiopahkigbdmcaaGreat
