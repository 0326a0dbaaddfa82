/- How the law's arguments read as cells. -/
import Derived.Test.YtiopahkigbdmcaaGreatMh
import Derived.Test.YtiopahkigbdmcaaGreatMq
import Derived.Deep.Slices
import Derived.OpenShut
namespace Go.Proofs.YtiopahkigbdmcaaGreat
open Go Go.Proofs Go.RowKit Go.ChangeShapes Go.WideShapes Go.Deep
section
variable {H : Type} {enc : TypeId × Value → H} {w : World} {base : Nat} {spare : Nat → Bool} {held : Bool}

theorem fld {P : Program} {fs : Array Field} {cs : List Value} {xs : List (DataW H × List MemPlace)} {n : Nat} (hx : xs.length = fs.size) (hf : ∀ (i : Nat) (f : Field), fs[i]? = some f → DataW.trod enc P w base spare held n f.type ((cs.drop f.offset).take (P.cellsOf f.type)) = xs[i]?)
    (i : Nat) {f : Field} (hi : fs[i]? = some f) (t o c : Nat) (ht : f.type = t) (ho : f.offset = o) (hc : P.cellsOf t = c) : ∃ y, DataW.trod enc P w base spare held n t ((cs.drop o).take c) = some y := by
  have hl : i < fs.size := (Array.getElem?_eq_some_iff.1 hi).1
  have h := hf i f hi
  rw [ht, ho, hc, List.getElem?_eq_getElem (by omega)] at h
  exact ⟨_, h⟩
theorem slice_val {P : Program} {t e : TypeId} {fuel : Nat} {c : Value} {x : DataW H × List MemPlace} (ht : P.underlying t = some (.slice e)) (h : DataW.trod enc P w base spare held fuel t [c] = some x) : ∃ a n k, c = .slice a n k := by
  rcases open_slice ht h with ⟨h0, _⟩ | ⟨a, len, cap, m, n, D, Pl, h0, _⟩
  · exact ⟨none, 0, 0, by simpa using h0⟩
  · exact ⟨_, _, _, by simpa using h0⟩

theorem c_int : Tryz.prog.cellsOf 3 = 1 := by kernel_rfl
theorem c_bool : Tryz.prog.cellsOf 4 = 1 := by kernel_rfl
theorem c_str : Tryz.prog.cellsOf 9 = 1 := by kernel_rfl
theorem c_node : Tryz.prog.cellsOf 42 = 5 := by kernel_rfl
theorem c_rule : Tryz.prog.cellsOf 89 = 2 := by kernel_rfl
theorem c_opts : Tryz.prog.cellsOf 25 = 6 := by kernel_rfl
theorem c_quota : Tryz.prog.cellsOf 27 = 2 := by kernel_rfl
theorem c_setup : Tryz.prog.cellsOf 29 = 10 := by kernel_rfl
theorem c_api_Node : Tryz.prog.cellsOf 22 = 1 := by kernel_rfl
theorem c_api_Rule : Tryz.prog.cellsOf 23 = 1 := by kernel_rfl
set_option maxRecDepth 100000 in
theorem open_node {fuel : Nat} {cs : List Value} {x : DataW H × List MemPlace} (h : DataW.trod enc Tryz.prog w base spare held fuel 42 cs = some x) : ∃ p k m t d, cs = [.string p, .int .i64 k, .int .i64 m, .int .i64 t, .string d] ∧ p.size ≤ maxLen ∧ d.size ≤ maxLen := by
  obtain ⟨xs, n, _, _, hl, hx, hf⟩ := DataW.trod_struct Tryz.underlying42 h
  rw [c_node] at hl
  match cs, hl with
  | [v0, v1, v2, v3, v4], _ =>
    obtain ⟨y0, g0⟩ := fld hx hf 0 rfl 9 0 1 rfl rfl c_str
    obtain ⟨p, hk0, _, z0⟩ := DataW.trod_string Tryz.underlying9 g0
    obtain rfl : v0 = .string p := by simpa using hk0
    obtain ⟨y1, g1⟩ := fld hx hf 1 rfl 3 1 1 rfl rfl c_int
    obtain ⟨k, hk1, _⟩ := DataW.trod_int Tryz.underlying3 g1
    obtain rfl : v1 = .int .i64 k := by simpa using hk1
    obtain ⟨y2, g2⟩ := fld hx hf 2 rfl 3 2 1 rfl rfl c_int
    obtain ⟨m, hk2, _⟩ := DataW.trod_int Tryz.underlying3 g2
    obtain rfl : v2 = .int .i64 m := by simpa using hk2
    obtain ⟨y3, g3⟩ := fld hx hf 3 rfl 3 3 1 rfl rfl c_int
    obtain ⟨t, hk3, _⟩ := DataW.trod_int Tryz.underlying3 g3
    obtain rfl : v3 = .int .i64 t := by simpa using hk3
    obtain ⟨y4, g4⟩ := fld hx hf 4 rfl 9 4 1 rfl rfl c_str
    obtain ⟨d, hk4, _, z4⟩ := DataW.trod_string Tryz.underlying9 g4
    obtain rfl : v4 = .string d := by simpa using hk4
    exact ⟨_, _, _, _, _, rfl, z0, z4⟩
set_option maxRecDepth 100000 in
theorem open_rule {fuel : Nat} {cs : List Value} {x : DataW H × List MemPlace} (h : DataW.trod enc Tryz.prog w base spare held fuel 89 cs = some x) : ∃ kp pat, cs = [.bool kp, .string pat] ∧ pat.size ≤ maxLen := by
  obtain ⟨xs, n, _, _, hl, hx, hf⟩ := DataW.trod_struct Tryz.underlying89 h
  rw [c_rule] at hl
  match cs, hl with
  | [v0, v1], _ =>
    obtain ⟨y0, g0⟩ := fld hx hf 0 rfl 4 0 1 rfl rfl c_bool
    obtain ⟨kp, hk0, _⟩ := DataW.trod_bool Tryz.underlying4 g0
    obtain rfl : v0 = .bool kp := by simpa using hk0
    obtain ⟨y1, g1⟩ := fld hx hf 1 rfl 9 1 1 rfl rfl c_str
    obtain ⟨pat, hk1, _, z1⟩ := DataW.trod_string Tryz.underlying9 g1
    obtain rfl : v1 = .string pat := by simpa using hk1
    exact ⟨_, _, rfl, z1⟩
set_option maxRecDepth 100000 in
theorem open_opts {fuel : Nat} {cs : List Value} {x : DataW H × List MemPlace} (h : DataW.trod enc Tryz.prog w base spare held fuel 25 cs = some x) : ∃ d1 d2 d3 ra rn rc bl pc, cs = [.bool d1, .bool d2, .bool d3, .slice ra rn rc, .int .i64 bl, .int .i64 pc] ∧ (∃ m y, DataW.trod enc Tryz.prog w base spare held m 23 [.slice ra rn rc] = some y) := by
  obtain ⟨xs, n, _, _, hl, hx, hf⟩ := DataW.trod_struct Tryz.underlying25 h
  rw [c_opts] at hl
  match cs, hl with
  | [v0, v1, v2, v3, v4, v5], _ =>
    obtain ⟨y0, g0⟩ := fld hx hf 0 rfl 4 0 1 rfl rfl c_bool
    obtain ⟨d1, hk0, _⟩ := DataW.trod_bool Tryz.underlying4 g0
    obtain rfl : v0 = .bool d1 := by simpa using hk0
    obtain ⟨y1, g1⟩ := fld hx hf 1 rfl 4 1 1 rfl rfl c_bool
    obtain ⟨d2, hk1, _⟩ := DataW.trod_bool Tryz.underlying4 g1
    obtain rfl : v1 = .bool d2 := by simpa using hk1
    obtain ⟨y2, g2⟩ := fld hx hf 2 rfl 4 2 1 rfl rfl c_bool
    obtain ⟨d3, hk2, _⟩ := DataW.trod_bool Tryz.underlying4 g2
    obtain rfl : v2 = .bool d3 := by simpa using hk2
    obtain ⟨y3, g3⟩ := fld hx hf 3 rfl 23 3 1 rfl rfl c_api_Rule
    obtain ⟨ra, rn, rc, rfl⟩ := slice_val Tryz.underlying23 (c := v3) g3
    obtain ⟨y4, g4⟩ := fld hx hf 4 rfl 3 4 1 rfl rfl c_int
    obtain ⟨bl, hk4, _⟩ := DataW.trod_int Tryz.underlying3 g4
    obtain rfl : v4 = .int .i64 bl := by simpa using hk4
    obtain ⟨y5, g5⟩ := fld hx hf 5 rfl 3 5 1 rfl rfl c_int
    obtain ⟨pc, hk5, _⟩ := DataW.trod_int Tryz.underlying3 g5
    obtain rfl : v5 = .int .i64 pc := by simpa using hk5
    exact ⟨_, _, _, _, _, _, _, _, rfl, ⟨_, _, g3⟩⟩
set_option maxRecDepth 100000 in
theorem open_quota {fuel : Nat} {cs : List Value} {x : DataW H × List MemPlace} (h : DataW.trod enc Tryz.prog w base spare held fuel 27 cs = some x) : ∃ qn qb, cs = [.int .i64 qn, .int .i64 qb] := by
  obtain ⟨xs, n, _, _, hl, hx, hf⟩ := DataW.trod_struct Tryz.underlying27 h
  rw [c_quota] at hl
  match cs, hl with
  | [v0, v1], _ =>
    obtain ⟨y0, g0⟩ := fld hx hf 0 rfl 3 0 1 rfl rfl c_int
    obtain ⟨qn, hk0, _⟩ := DataW.trod_int Tryz.underlying3 g0
    obtain rfl : v0 = .int .i64 qn := by simpa using hk0
    obtain ⟨y1, g1⟩ := fld hx hf 1 rfl 3 1 1 rfl rfl c_int
    obtain ⟨qb, hk1, _⟩ := DataW.trod_int Tryz.underlying3 g1
    obtain rfl : v1 = .int .i64 qb := by simpa using hk1
    exact ⟨_, _, rfl⟩
set_option maxRecDepth 100000 in
theorem open_setup {fuel : Nat} {cs : List Value} {x : DataW H × List MemPlace} (h : DataW.trod enc Tryz.prog w base spare held fuel 29 cs = some x) : ∃ sa sn sc da dn dc d1 d2 d3 ra rn rc bl pc qn qb, cs = [.slice sa sn sc, .slice da dn dc, .bool d1, .bool d2, .bool d3, .slice ra rn rc, .int .i64 bl, .int .i64 pc, .int .i64 qn, .int .i64 qb] ∧ (∃ m y, DataW.trod enc Tryz.prog w base spare held m 22 [.slice sa sn sc] = some y) ∧ (∃ m y, DataW.trod enc Tryz.prog w base spare held m 22 [.slice da dn dc] = some y) ∧ (∃ m y, DataW.trod enc Tryz.prog w base spare held m 23 [.slice ra rn rc] = some y) := by
  obtain ⟨xs, n, _, _, hl, hx, hf⟩ := DataW.trod_struct Tryz.underlying29 h
  rw [c_setup] at hl
  match cs, hl with
  | [v0, v1, v2, v3, v4, v5, v6, v7, v8, v9], _ =>
    obtain ⟨y0, g0⟩ := fld hx hf 0 rfl 22 0 1 rfl rfl c_api_Node
    obtain ⟨sa, sn, sc, rfl⟩ := slice_val Tryz.underlying22 (c := v0) g0
    obtain ⟨y1, g1⟩ := fld hx hf 1 rfl 22 1 1 rfl rfl c_api_Node
    obtain ⟨da, dn, dc, rfl⟩ := slice_val Tryz.underlying22 (c := v1) g1
    obtain ⟨y2, g2⟩ := fld hx hf 2 rfl 25 2 6 rfl rfl c_opts
    obtain ⟨d1, d2, d3, ra, rn, rc, bl, pc, hk2, q2_0⟩ := open_opts g2
    obtain ⟨rfl, rfl, rfl, rfl, rfl, rfl⟩ : v2 = .bool d1 ∧ v3 = .bool d2 ∧ v4 = .bool d3 ∧ v5 = .slice ra rn rc ∧ v6 = .int .i64 bl ∧ v7 = .int .i64 pc := by simpa using hk2
    obtain ⟨y3, g3⟩ := fld hx hf 3 rfl 27 8 2 rfl rfl c_quota
    obtain ⟨qn, qb, hk3⟩ := open_quota g3
    obtain ⟨rfl, rfl⟩ : v8 = .int .i64 qn ∧ v9 = .int .i64 qb := by simpa using hk3
    exact ⟨_, _, _, _, _, _, _, _, _, _, _, _, _, _, _, _, rfl, ⟨_, _, g0⟩, ⟨_, _, g1⟩, q2_0⟩

theorem cell_open {b o : Nat} {v : Value} (h : w.cell? ⟨b, o, none⟩ = some v) : ∃ cs T fz, w.heap[b]? = some (.cells cs T fz) ∧ cs[o]? = some v := by
  unfold World.cell? at h
  cases hb : w.heap[b]? with
  | none => simp [hb] at h
  | some x => cases x <;> simp [hb] at h; exact ⟨_, _, _, rfl, h⟩
/-- A slice that came in, by its elements' cells. -/
theorem rows_of {P : Program} {t e : TypeId} {k fuel : Nat} {x : DataW H × List MemPlace} {a : Option Addr} {n c : Nat} (hk : 0 < k) (ht : P.underlying t = some (.slice e)) (hc : P.cellsOf e = k)
    (h : DataW.trod enc P w base spare held fuel t [.slice a n c] = some x) :
    n = 0 ∨ ∃ b off, ∃ cs : Array Value, ∃ T fz, a = some ⟨b, off, none⟩ ∧ w.heap[b]? = some (.cells cs T fz) ∧ ∀ j, j < n → ∃ xs m y, DataW.trod enc P w base spare held m e xs = some y ∧ xs.length = k ∧ ∀ i v, xs[i]? = some v → cs[off + j * k + i]? = some v := by
  rcases open_slice ht h with ⟨h0, _⟩ | ⟨ad, len, cap, m, f, D, Pl, hcs, _, hl, hm, hmm, _, hall⟩
  · simp only [List.cons.injEq, Value.slice.injEq, and_true] at h0
    exact Or.inl h0.2.1
  · simp only [List.cons.injEq, Value.slice.injEq, and_true] at hcs
    obtain ⟨rfl, rfl, rfl⟩ := hcs
    rcases Nat.eq_zero_or_pos n with h0 | h0
    · exact Or.inl h0
    right
    rw [hc] at hall
    have g : ∀ j, j < n → ∃ cs y, DataW.trod enc P w base spare held f e cs = some y ∧ cs.length = k ∧ ∀ i, i < k → w.cell? ((ad.add (j * k)).add i) = cs[i]? := fun j hj => by
      obtain ⟨cs, h1, h2⟩ := hall j (by rw [hmm]; split <;> omega)
      obtain ⟨_, h3, h4⟩ := World.cells?_some h1
      exact ⟨cs, _, h2, h3, h4⟩
    obtain ⟨cs0, _, _, hl0, hz⟩ := g 0 h0
    have hz0 := hz 0 hk
    rw [List.getElem?_eq_getElem (by omega)] at hz0
    simp only [Nat.zero_mul] at hz0
    have e0 : (ad.add 0).add 0 = ad := by simp [Addr.add]
    rw [e0] at hz0
    have hsp := World.cell?_spot hz0
    obtain ⟨b, off, spot⟩ := ad
    simp only at hsp
    subst hsp
    obtain ⟨cs, T, fz, hb, _⟩ := cell_open hz0
    refine ⟨b, off, cs, T, fz, rfl, hb, fun j hj => ?_⟩
    obtain ⟨xs, y, h1, h2, h3⟩ := g j hj
    refine ⟨xs, f, y, h1, h2, fun i v hv => ?_⟩
    have hi : i < k := by
      have := (List.getElem?_eq_some_iff.1 hv).1
      omega
    have h4 := h3 i hi
    rw [Addr.add_mid, Addr.add_mid, hv] at h4
    obtain ⟨cs', T', fz', hb', h5⟩ := cell_open h4
    rw [hb] at hb'
    injection hb' with hb'
    injection hb' with e1 e2 e3
    rw [e1]
    exact h5
theorem pick_all {α : Type} [Inhabited α] {n : Nat} {p : Nat → α → Prop} (h : ∀ j, j < n → ∃ x, p j x) : ∃ L : List α, L.length = n ∧ ∀ j (hj : j < L.length), p j L[j] := by
  induction n with
  | zero => exact ⟨[], rfl, fun j hj => by simp at hj⟩
  | succ n ih =>
    obtain ⟨L, hl, hall⟩ := ih (fun j hj => h j (by omega))
    obtain ⟨x, hx⟩ := h n (by omega)
    refine ⟨L ++ [x], by rw [List.length_append, hl]; rfl, fun j hj => ?_⟩
    by_cases hjn : j < L.length
    · rw [List.getElem_append_left hjn]; exact hall j hjn
    · have : j = n := by rw [List.length_append, List.length_singleton] at hj; omega
      subst this
      rw [List.getElem_append_right (by omega)]
      simpa [hl] using hx
instance : Inhabited NodeV := ⟨⟨ByteArray.empty, 0, 0, 0, ByteArray.empty⟩⟩
theorem nodes_of {fuel : Nat} {x : DataW H × List MemPlace} {a : Option Addr} {n c : Nat} (h : DataW.trod enc Tryz.prog w base spare held fuel 22 [.slice a n c] = some x) : ∃ L : List NodeV, L.length = n ∧ NodesAt w a L := by
  rcases rows_of (by decide) Tryz.underlying22 c_node h with h0 | ⟨b, off, cs, T, fz, ha, hb, hall⟩
  · exact ⟨[], h0.symm, ListAt.nil⟩
  · obtain ⟨L, hl, hL⟩ := pick_all (p := fun j (x : NodeV) => ∀ i v, x.cells[i]? = some v → cs[off + j * 5 + i]? = some v) (fun j hj => by
      obtain ⟨xs, m, y, h1, h2, h3⟩ := hall j hj
      obtain ⟨p, k, mm, t, d, rfl, _⟩ := open_node h1
      exact ⟨⟨p, k, mm, t, d⟩, h3⟩)
    exact ⟨L, hl, Or.inr ⟨b, off, cs, (T, fz), ha, hb, fun i hi j v hv => hL i hi j v hv⟩⟩
theorem rules_of {fuel : Nat} {x : DataW H × List MemPlace} {a : Option Addr} {n c : Nat} (h : DataW.trod enc Tryz.prog w base spare held fuel 23 [.slice a n c] = some x) : ∃ rs : List (Bool × ByteArray), rs.length = n ∧ RulesAt w a rs := by
  rcases rows_of (by decide) Tryz.underlying23 c_rule h with h0 | ⟨b, off, cs, T, fz, ha, hb, hall⟩
  · exact ⟨[], h0.symm, Or.inl rfl⟩
  · obtain ⟨L, hl, hL⟩ := pick_all (p := fun j (r : Bool × ByteArray) => cs[off + j * 2]? = some (.bool r.1) ∧ cs[off + j * 2 + 1]? = some (.string r.2)) (fun j hj => by
      obtain ⟨xs, m, y, h1, h2, h3⟩ := hall j hj
      obtain ⟨kp, pat, rfl, _⟩ := open_rule h1
      exact ⟨(kp, pat), h3 0 _ rfl, h3 1 _ rfl⟩)
    exact ⟨L, hl, Or.inr ⟨b, off, cs, ha, ⟨T, fz, hb⟩, fun i hi => hL i hi⟩⟩

end
end Go.Proofs.YtiopahkigbdmcaaGreat
/- THE MIRROR OF THE MIRROR .. (layer 14): the law's walk. -/
namespace Go.Proofs.YtiopahkigbdmcaaGreat
open Go Go.Proofs Go.RowKit

/-- Again picked, nothing changes. -/
theorem pick_pick (rs : Rules) (A : List NodeV) : pickF rs false (pickF rs false A) = pickF rs false A := by
  unfold pickF
  rw [List.filter_filter]
  apply List.filter_congr
  intro x _
  rw [Bool.and_self]
theorem shown_self {rs : Rules} {del : Bool} {s d M : List NodeV} (hS : Sides rs s d) (hM : OfIs rs del s d M) : shownF M = M := by
  unfold shownF nodesIn
  rw [List.filter_eq_self]
  intro x hx
  have : inF x = false := mir_in hS ((hM.2 x).1 hx)
  rw [beq_iff_eq]; exact this
theorem mem_guard {rs : Rules} {B : List NodeV} {g : NodeV} (h : g ∈ pickF rs true B) : g ∈ shownF B ∧ outF rs g = true := by
  obtain ⟨h1, h2⟩ := List.mem_filter.1 h
  simp only [Bool.and_eq_true, Bool.not_eq_true', beq_iff_eq] at h2
  exact ⟨mem_shown.2 ⟨h1, h2.1⟩, h2.2⟩
theorem of_small {rs : Rules} {del : Bool} {s d M : List NodeV} (hM : OfIs rs del s d M) (hs : SmallL s) (hd : SmallL d) (h1 : s.length ≤ 24) (h2 : d.length ≤ 24) : SmallL M ∧ M.length ≤ 48 := by
  have hl := of_len hM
  refine ⟨⟨by omega, fun x hx => ?_⟩, by omega⟩
  rcases (hM.2 x).1 hx with h | h
  · exact hs.2 x h.1
  · exact hd.2 x h.1
set_option maxRecDepth 100000 in
set_option maxHeartbeats 8000000 in
set_option maxRecDepth 100000 in
theorem staysLaw (sa da ra : Option Addr) (S D : List NodeV) (rs : Rules) (sc dc rc : Nat) (del dry trust : Bool) (block piece : Int) (w : World) (hS : NodesAt w sa S) (hD : NodesAt w da D) (hR : RulesAt w ra rs) :
    Calls Tryz.prog 4 #[.slice sa S.length sc, .slice da D.length dc, .agg #[.bool del, .bool dry, .bool trust, .slice ra rs.length rc, .int .i64 block, .int .i64 piece]] w (RetV w (.bool true)) := by
  have HF := Lib.hid (fun w' (h : Ext w w') => fewW sa da ra S D rs sc dc rc w' (hS.ext h) (hD.ext h) (hR.ext h))
  have HAw := Lib.hid (fun w => awakeM w)
  have HMem := Lib.hid (And.intro hS (And.intro hD hR))
  have HOs := Lib.hid (fun w' (hs : SmallL S) (h : Ext w w') => ofT_any sa S sc w' hs (hS.ext h))
  have HOd := Lib.hid (fun w' (hs : SmallL D) (h : Ext w w') => ofT_any da D dc w' hs (hD.ext h))
  clear hS hD hR
  obtain ⟨n, hn⟩ : ∃ n, S.length = n := ⟨_, rfl⟩
  obtain ⟨m, hm⟩ : ∃ m, D.length = m := ⟨_, rfl⟩
  obtain ⟨r, hr⟩ : ∃ r, rs.length = r := ⟨_, rfl⟩
  rw [hn, hm, hr] at HF
  rw [hn] at HOs
  rw [hm] at HOd
  rw [hn, hm, hr]
  have HN := Lib.hid (And.intro hn (And.intro hm hr)); clear hn hm hr
  obtain ⟨ob, hob⟩ : ∃ o : Obj, o = .cells #[.bool del, .bool dry, .bool trust, .slice ra r rc, .int .i64 block, .int .i64 piece] 25 := ⟨_, rfl⟩
  have HOb : Hid (Ext w (w.alloc ob) ∧ (w.alloc ob).heap[w.heap.size]? = some ob) := Lib.hid ⟨(Ext.refl w).alloc ob, heap_at w ob rfl⟩
  rw [hob] at HOb
  clear hob
  have hcc := HOb.out.2
  have o0 := blk_cell hcc (i := 0) rfl
  have o3 := blk_cell hcc (i := 3) rfl
  clear hcc
  go_enter Tryz.func4, Tryz.ntmps4
  go_wp2_with fail
  refine (HF.out _ HOb.out.1).mono ?_
  rintro e w1 ⟨b, rfl, hb, hE1⟩
  clear o0 o3
  have H1 := Lib.hid (And.intro (HOb.out.1.trans hE1) (hE1.block HOb.out.2)); clear hE1
  have HG := Lib.hid hb; clear hb
  cases b
  · go_wp2_with fail
    refine (HAw.out _).mono ?_
    rintro e w2 ⟨rfl, hE2⟩
    have HE2 := Lib.hid (H1.out.1.trans hE2); clear hE2
    go_wp2
    go_ret
    exact ⟨rfl, HE2.out⟩
  · have hG0 : TinyL S ∧ TinyL D ∧ TinyR rs := HG.out (by simp)
    have HTin := Lib.hid hG0; clear hG0 HG
    have hSh : Short rs := HTin.out.2.2.short
    have HSh := Lib.hid hSh; clear hSh
    go_wp2_with fail
    refine (HOs.out _ HTin.out.1.small H1.out.1).mono ?_
    rintro e w2 ⟨A, ⟨aa, ca, rfl, hE2, hA2, -⟩, hAl, hAm, hAt⟩
    have HLa := Lib.hid (Nat.le_trans hAl HTin.out.1.1)
    have H2 := Lib.hid (And.intro (H1.out.1.trans hE2) (And.intro hA2 (And.intro (HTin.out.1.sub hAl hAm) (And.intro hAt (hE2.block H1.out.2))))); clear hE2 hA2 hAl hAm hAt
    go_wp2_with fail
    refine (HOd.out _ HTin.out.2.1.small H2.out.1).mono ?_
    rintro e w3 ⟨B, ⟨ab, cb, rfl, hE3, hB3, -⟩, hBl, hBm, hBt⟩
    have HLb := Lib.hid (Nat.le_trans hBl HTin.out.2.1.1)
    have H3 := Lib.hid (And.intro (H2.out.1.trans hE3) (And.intro (H2.out.2.1.ext hE3) (And.intro hB3 (And.intro (HTin.out.2.1.sub hBl hBm) (And.intro hBt (hE3.block H2.out.2.2.2.2)))))); clear hE3 hB3 hBl hBm hBt
    have hAs := H2.out.2.2.1
    have hAt := H2.out.2.2.2.1
    have hBs := H3.out.2.2.2.1
    have hBt := H3.out.2.2.2.2.1
    have HSd := Lib.hid (sides_of hAs hBs HSh.out hAt hBt)
    have HO1 := Lib.hid (fun w' (h : Ext w3 w') => ofMW aa ab ra A B rs ca cb rc del w' hAs hBs HSh.out hAt hBt (H3.out.2.1.ext h) (H3.out.2.2.1.ext h) (HMem.out.2.2.ext (H3.out.1.trans h)))
    have HO2 := Lib.hid (fun aM M cM (hM : OfIs rs del (pickF rs false A) (shownF B) M) w' (h : Ext w3 w') (hMA : NodesAt w' aM M) => ofMW aa aM ra A M rs ca cM rc del w' hAs (of_small hM HSd.out.ssm HSd.out.dsm (few_pick HLa.out) (few_shown HLb.out)).1 HSh.out hAt (mir_tree HSd.out.sides hM.1 hM.2) (H3.out.2.1.ext h) hMA (HMem.out.2.2.ext (H3.out.1.trans h)))
    have HO3 := Lib.hid (fun aP cP w' (h : Ext w3 w') (hPA : NodesAt w' aP (pickF rs false A)) => ofMW aP ab ra (pickF rs false A) B rs cP cb rc del w' HSd.out.ssm hBs HSh.out (tree_pick hAt) hBt hPA (H3.out.2.2.1.ext h) (HMem.out.2.2.ext (H3.out.1.trans h)))
    have HP1 := Lib.hid (fun w' (h : Ext w3 w') => pickD_any aa ra A rs ca rc false w' hAs HSh.out (H3.out.2.1.ext h) (HMem.out.2.2.ext (H3.out.1.trans h)))
    have HP2 := Lib.hid (fun w' (h : Ext w3 w') => pickD_any ab ra B rs cb rc true w' hBs HSh.out (H3.out.2.2.1.ext h) (HMem.out.2.2.ext (H3.out.1.trans h)))
    have hgl : (pickF rs true B).length ≤ 24 := Nat.le_trans (List.length_filter_le _ _) HLb.out
    have hpl := few_pick (rs := rs) HLa.out
    clear hAs hAt hBs hBt
    rw [HN.out.2.2] at HO1 HO2 HO3 HP1 HP2
    rw [pick_pick] at HO3
    obtain ⟨la, hla⟩ : ∃ n, A.length = n := ⟨_, rfl⟩
    obtain ⟨lb, hlb⟩ : ∃ n, B.length = n := ⟨_, rfl⟩
    obtain ⟨lp, hlp⟩ : ∃ n, (pickF rs false A).length = n := ⟨_, rfl⟩
    obtain ⟨q, hq⟩ : ∃ n, (pickF rs true B).length = n := ⟨_, rfl⟩
    rw [hla] at HO1 HO2 HP1
    rw [hlb] at HO1 HO3 HP2
    rw [hlp] at HO3 hpl
    rw [hq] at hgl
    rw [hla, hlb]
    have HQ := Lib.hid (And.intro hlp hq)
    clear hla hlb hlp hq
    have o0 := blk_cell H3.out.2.2.2.2.2 (i := 0) rfl
    have o3 := blk_cell H3.out.2.2.2.2.2 (i := 3) rfl
    go_wp2_with fail
    refine (HO1.out _ (Ext.refl w3)).mono ?_
    rintro e w4 ⟨M, hM, hMl, a4, c4, rfl, hE4, hA4, -⟩
    clear o0 o3 hMl
    have hMs := of_small hM HSd.out.ssm HSd.out.dsm (few_pick HLa.out) (few_shown HLb.out)
    have hsh := shown_self HSd.out.sides hM
    have H4 := Lib.hid (And.intro hE4 (And.intro hA4 (And.intro hM (hE4.block H3.out.2.2.2.2.2)))); clear hE4 hA4 hM
    have HO2 := Lib.hid (fun w' (h : Ext w4 w') => by have h1 := HO2.out a4 M c4 H4.out.2.2.1 w' (H4.out.1.trans h) (H4.out.2.1.ext h); rw [hsh] at h1; exact h1)
    have hMl := hMs.2
    clear hsh hMs
    obtain ⟨lm, hlm⟩ : ∃ n, M.length = n := ⟨_, rfl⟩
    rw [hlm] at HO2 hMl
    rw [hlm]
    have HLm := Lib.hid hlm; clear hlm
    go_wp2
    refine wp_draw_stages 88 24 [false, false, false, false, false, false, false, false, false, false, false, false, false, false, false, false, false, false, false, false, false, false, false, true] [([true, true, true, true, true, true, false, true], 6), ([], 8), ([false, false, false, false, false, false, false, false, false, true, true, true, true, true, false, true, true, true, true, true, false, true], 14), ([], 20), ([], 22)] Ext Ext.refl (fun _ _ _ => Ext.trans) (by kernel_rfl) (by kernel_rfl) ?_
    apply wpStages_cons (by simp)
    · intro w1 hw1
      simp only [sel_true, sel_false, sel_nil]
      have hc := hw1.cellsOf (blk_drew H4.out.2.2.2)
      repeat ((with_reducible refine wpStill_step (fun K hK => ?_)); go_simp; refine hK _ ?_; clear hK K)
      exact wpStill_nil rfl
    try simp only [List.getD_cons_succ, List.getD_cons_zero]
    go_wp2_with (go_at_call 16; refine (HO2.out _ (Ext.refl w4).drew).mono ?_; rintro e w5 ⟨M', hM', hMl', a5, c5, rfl, hE5, hA5, hc5⟩; clear hc5)
    have hE5 : Ext w4.drew w5 := hE5
    refine ⟨hE5, ?_⟩
    obtain rfl : M' = M := hM'.is H4.out.2.2.1.1 (fun x => mir_again HSd.out.sides H4.out.2.2.1.1 H4.out.2.2.1.2 x)
    have H5 := Lib.hid (And.intro (Ext.trans (Ext.refl w4).drew hE5) (And.intro (hE5.block (blk_drew H4.out.2.2.2)) hA5)); clear hM' hMl' hE5 hA5
    have hsm := sameD a5 a4 M' M' c5 c4 w5 H5.out.2.2 (H4.out.2.1.ext H5.out.1) (by rw [HLm.out]; omega)
    rw [HLm.out] at hsm ⊢
    have HSm := Lib.hid hsm; clear hsm
    apply wpStages_cons (by simp)
    · intro w1 hw1
      simp only [sel_nil]
      repeat ((with_reducible refine wpStill_step (fun K hK => ?_)); go_simp; refine hK _ ?_; clear hK K)
      exact wpStill_nil rfl
    try simp only [List.getD_cons_succ, List.getD_cons_zero]
    go_wp2_with (go_at_call 17; refine (HSm.out).mono ?_; rintro e w6 ⟨b6, rfl, hb6, hE6⟩; obtain rfl : b6 = true := hb6.2 rfl)
    refine ⟨hE6, ?_⟩
    have H6 := Lib.hid (And.intro (H5.out.1.trans hE6) (hE6.block H5.out.2.1)); clear hE6 hb6
    apply wpStages_cons (by simp)
    · intro w1 hw1
      simp only [sel_true, sel_false, sel_nil]
      have hc := hw1.cellsOf H6.out.2
      repeat ((with_reducible refine wpStill_step (fun K hK => ?_)); go_simp; refine hK _ ?_; clear hK K)
      exact wpStill_nil rfl
    try simp only [List.getD_cons_succ, List.getD_cons_zero]
    go_wp2_with (go_at_call 18; refine (HP1.out _ (H4.out.1.trans H6.out.1)).mono ?_; rintro e w7 ⟨a7, c7, rfl, hE7, hA7, hc7⟩; clear hc7)
    refine ⟨hE7, ?_⟩
    have H7 := Lib.hid (And.intro (H6.out.1.trans hE7) (And.intro (hE7.block H6.out.2) hA7)); clear hE7 hA7
    rw [HQ.out.1]
    apply wpStages_cons (by simp)
    · intro w1 hw1
      simp only [sel_nil]
      have hc := hw1.cellsOf H7.out.2.1
      repeat ((with_reducible refine wpStill_step (fun K hK => ?_)); go_simp; refine hK _ ?_; clear hK K)
      exact wpStill_nil rfl
    try simp only [List.getD_cons_succ, List.getD_cons_zero]
    go_wp2_with (go_at_call 16; refine (HO3.out _ _ _ (H4.out.1.trans H7.out.1) H7.out.2.2).mono ?_; rintro e w8 ⟨M8, hM8, hMl8, a8, c8, rfl, hE8, hA8, hc8⟩; clear hc8)
    refine ⟨hE8, ?_⟩
    obtain rfl : M8 = M' := hM8.uniq H4.out.2.2.1 (fun x => Iff.rfl)
    have H8 := Lib.hid (And.intro (H7.out.1.trans hE8) (And.intro (hE8.block H7.out.2.1) hA8)); clear hM8 hMl8 hE8 hA8
    have hsm := sameD a8 a4 M8 M8 c8 c4 w8 H8.out.2.2 (H4.out.2.1.ext H8.out.1) (by rw [HLm.out]; omega)
    rw [HLm.out] at hsm ⊢
    have HSm := Lib.hid hsm; clear hsm
    apply wpStages_cons (by simp)
    · intro w1 hw1
      simp only [sel_nil]
      repeat ((with_reducible refine wpStill_step (fun K hK => ?_)); go_simp; refine hK _ ?_; clear hK K)
      exact wpStill_nil rfl
    try simp only [List.getD_cons_succ, List.getD_cons_zero]
    go_wp2_with (go_at_call 17; refine (HSm.out).mono ?_; rintro e w9 ⟨b9, rfl, hb9, hE9⟩; obtain rfl : b9 = true := hb9.2 rfl)
    refine ⟨hE9, ?_⟩
    have H9 := Lib.hid (And.intro (H8.out.1.trans hE9) (hE9.block H8.out.2.1)); clear hE9 hb9
    refine wpStages_nil ?_
    simp only [sel_true, sel_false, sel_nil]
    repeat ((with_reducible refine wpStill_step (fun K hK => ?_)); go_simp; refine hK _ ?_; clear hK K)
    refine wpStill_nil ?_
    try simp only [List.drop_succ_cons, List.drop_zero]
    have o0 := blk_cell H9.out.2 (i := 0) rfl
    have o3 := blk_cell H9.out.2 (i := 3) rfl
    go_wp2_with fail
    refine (HP2.out _ (H4.out.1.trans H9.out.1)).mono ?_
    rintro e wB ⟨aB, cB, rfl, hEB, hAB, -⟩
    clear o0 o3
    have HB := Lib.hid (And.intro (H9.out.1.trans hEB) (And.intro hAB (H4.out.2.1.ext (H9.out.1.trans hEB)))); clear hEB hAB
    rw [HQ.out.2]
    go_wp2
    go_loopw [11, 12, 13] (fun i _ _ wr => ∃ k : Nat, k ≤ q ∧ i = .int .i64 k ∧ Ext wB wr) (fun i _ _ _ => q - (intOf i).toNat)
    case atStart => exact ⟨0, Nat.zero_le _, rfl, Ext.refl wB⟩
    case round =>
      obtain ⟨k, hk, rfl, hE⟩ := hrel
      by_cases hlt : k < q
      · have hkl : k < (pickF rs true B).length := by rw [HQ.out.2]; exact hlt
        obtain ⟨bl, off, rfl, hb, c0, c1, c2, c3, c4'⟩ := NodesAt.node (HB.out.2.1.ext hE) hkl
        have HK := Lib.hid (fun w2 (h : Ext wr w2) => And.intro ((h.cell hb).trans c0) (And.intro ((h.cell hb).trans c1) (And.intro ((h.cell hb).trans c2) (And.intro ((h.cell hb).trans c3) ((h.cell hb).trans c4')))))
        have hmem := mem_guard (List.getElem_mem hkl)
        obtain ⟨x, hx⟩ : ∃ x, (pickF rs true B)[k] = x := ⟨_, rfl⟩
        rw [hx] at hmem HK c0 c1 c2 c3 c4'
        clear hx
        have hps := (HSd.out.dsm.2 x hmem.1).1
        have hn1 := find_is H4.out.2.2.1.1 ((H4.out.2.2.1.2 x).2 (mir_guard HSd.out.sides hmem.1 hmem.2)) rfl
        have HFi := Lib.hid ((findP_any a4 M8 c4 x.path wr (by rw [HLm.out]; omega) (HB.out.2.2.ext hE)).mono fun e w' h => find_one h)
        rw [HLm.out] at HFi
        have HE := Lib.hid hE; clear hE
        unfold NodeV.val at HFi
        go_upto_region 12 with (go_at_call 19; refine (HFi.out).mono ?_; rintro e w2 ⟨x', ok, rfl, hx1, hx2, hE2⟩; have HX := Lib.hid (And.intro hx1 hx2); have HE2 := Lib.hid hE2; clear hE2 hx1 hx2)
        obtain ⟨rfl, rfl⟩ : ok = true ∧ x' = x := by
          cases ok
          · have := HX.out.2 rfl
            rw [hn1] at this; cases this
          · have := HX.out.1 rfl
            rw [hn1] at this; injection this with this; exact ⟨rfl, this.symm⟩
        have hq := (eqNB_iff x' x').2 rfl
        have hNb := heap_at w2 (nodeObj x') rfl
        unfold nodeObj at hNb
        obtain ⟨d0, d1, d2, d3, d4⟩ := HK.out _ (HE2.out.alloc (nodeObj x')).drew
        unfold nodeObj at d0 d1 d2 d3 d4
        have e0 := blk_cell (blk_drew hNb) (i := 0) rfl
        have e1 := blk_cell (blk_drew hNb) (i := 1) rfl
        have e2 := blk_cell (blk_drew hNb) (i := 2) rfl
        have e3 := blk_cell (blk_drew hNb) (i := 3) rfl
        have e4 := blk_cell (blk_drew hNb) (i := 4) rfl
        clear c0 c1 c2 c3 c4' hmem hn1 hNb
        refine wp_draw_all (by kernel_rfl) (by kernel_rfl) ?_
        repeat ((with_reducible refine wpStill_step (fun K hK => ?_)); go_simp; refine hK _ ?_; clear hK K)
        refine wpStill_nil ?_
        go_wp2
        go_roundw
        case rel => exact ⟨k + 1, by omega, by go_num, HE.out.trans (HE2.out.alloc _).drew⟩
        case measure => simp [intOf]; omega
      · obtain rfl : k = q := by omega
        have HE := Lib.hid hE; clear hE
        have H10 := Lib.hid (H3.out.1.trans (H4.out.1.trans (HB.out.1.trans HE.out)))
        go_wp2_with fail
        refine (HAw.out _).mono ?_
        rintro e wC ⟨rfl, hEC⟩
        have HC := Lib.hid (H10.out.trans hEC); clear hEC
        go_wp2
        go_ret
        exact ⟨rfl, HC.out⟩
end Go.Proofs.YtiopahkigbdmcaaGreat
/- What is left of a node (layer 14), the document's side: the walk. -/
namespace Go.Proofs.YtiopahkigbdmcaaGreat
open Go Go.Proofs Go.RowKit

def innerF (rs : Rules) (y z : NodeV) : Bool := y.kind == 1 && !decide (z.path = y.path) && withinF (txt z.path) (txt y.path) && outF rs z
def stF (rs : Rules) (S : List NodeV) (y : NodeV) : Bool := outF rs y || S.any (innerF rs y)
theorem st_is {rs : Rules} {d : List NodeV} (hT : TreeL d) {P : Pth} {y : NodeV} (hy : y ∈ d) (hP : P <+: nm y) : stF rs (subF d P) y = staysB rs true d y := by
  rw [Bool.eq_iff_iff, stays_iff]
  unfold stF
  rw [Bool.or_eq_true, List.any_eq_true]
  constructor
  · rintro (h | ⟨z, hz, h⟩)
    · exact Or.inr (Or.inl h)
    · unfold innerF at h
      simp only [Bool.and_eq_true, Bool.not_eq_true', beq_iff_eq, decide_eq_false_iff_not] at h
      obtain ⟨⟨⟨h1, h2⟩, h3⟩, h4⟩ := h
      have hzd := (mem_sub.1 hz).1
      rw [within_pre (hT.good z hzd) (hT.good y hy), List.isPrefixOf_iff_prefix] at h3
      exact Or.inr (Or.inr ⟨h1, z, hzd, h3, fun e => h2 (nm_path e.symm), h4⟩)
  · rintro (h | h | ⟨h1, z, hz, h2, h3, h4⟩)
    · cases h
    · exact Or.inl h
    · refine Or.inr ⟨z, mem_sub.2 ⟨hz, hP.trans h2⟩, ?_⟩
      unfold innerF
      simp only [Bool.and_eq_true, Bool.not_eq_true', beq_iff_eq, decide_eq_false_iff_not]
      refine ⟨⟨⟨h1, fun e => h3 (by unfold nm; rw [e])⟩, ?_⟩, h4⟩
      rw [within_pre (hT.good z hz) (hT.good y hy), List.isPrefixOf_iff_prefix]
      exact h2
theorem st_filter {rs : Rules} {d : List NodeV} (hT : TreeL d) (P : Pth) : (subF d P).filter (stF rs (subF d P)) = leftF rs true d P := by
  have e : (subF d P).filter (stF rs (subF d P)) = (subF d P).filter (staysB rs true d) := by
    apply List.filter_congr
    intro y hy
    obtain ⟨h1, h2⟩ := mem_sub.1 hy
    exact st_is hT h1 h2
  rw [e]
  unfold subF leftF
  rw [List.filter_filter]
  apply List.filter_congr
  intro y _
  rw [Bool.and_comm]
theorem any_takeL {α : Type} (p : α → Bool) (L : List α) (k : Nat) (h : k < L.length) : (L.take (k + 1)).any p = ((L.take k).any p || p L[k]) := by
  rw [List.take_succ_eq_append_getElem h, List.any_append]
  simp
theorem any_more {α : Type} {p : α → Bool} {L : List α} {k : Nat} (h : (L.take k).any p = true) : L.any p = true := by
  rw [List.any_eq_true] at h ⊢
  obtain ⟨x, hx, h1⟩ := h
  exact ⟨x, List.mem_of_mem_take hx, h1⟩
set_option maxRecDepth 100000 in
set_option maxHeartbeats 8000000 in
set_option maxRecDepth 100000 in
theorem leftD (a ra : Option Addr) (d : List NodeV) (rs : Rules) (c rc : Nat) (del : Bool) (p : ByteArray) (w : World) (hD : SmallL d) (hSh : Short rs) (hT : TreeL d) (hA : NodesAt w a d) (hR : RulesAt w ra rs) (hp : p.size ≤ 1000) :
    Calls Tryz.prog 23 #[.slice a d.length c, .slice ra rs.length rc, .bool del, .string p] w (NodesTold (leftP rs del d p) w) := by
  have HAt := Lib.hid (atD_any a d c p w (by have := hD.1; omega) hA)
  have HWi := Lib.hid (fun w' (h : Ext w w') => nodesInD a d c p true w' hD hp (hA.ext h))
  have HShut := Lib.hid (fun (x : NodeV) (hx : x ∈ d) w' (h : Ext w w') => show Calls Tryz.prog 39 #[.slice ra rs.length rc, x.val] w' (RetV w' (.bool (outF rs x))) from shutNodeD ra rs rc x w' (hD.2 x hx).1 hSh (hR.ext h))
  have HW := Lib.hid (fun (x : NodeV) (hx : x ∈ d) (y : NodeV) (hy : y ∈ d) w' => withinD_any x.path y.path w' (hD.2 x hx).1 (hD.2 y hy).1)
  have HT := Lib.hid hT
  have hdl := hD.1
  have HD1000 := Lib.hid hD.1
  have hcase := at_case d p
  clear hD hSh hA hR hT
  obtain ⟨nd, hnd⟩ : ∃ n, d.length = n := ⟨_, rfl⟩
  obtain ⟨r, hr⟩ : ∃ r, rs.length = r := ⟨_, rfl⟩
  rw [hnd] at HAt HWi hdl
  rw [hr] at HShut
  rw [hnd, hr]
  clear hnd hr
  obtain ⟨t, ht⟩ : ∃ t, atF d p = t := ⟨_, rfl⟩
  rw [ht] at hcase HAt
  clear ht
  rcases hcase with ⟨rfl, hno⟩ | ⟨j, hj, rfl, hjp⟩
  · have hnf : leftP rs del d p = [] := by
      unfold leftP findF
      have : d.find? (fun x => decide (x.path = p)) = none := by
        rw [List.find?_eq_none]
        intro x hx
        simpa using hno x hx
      rw [this]
    have HQ := Lib.hid hnf; clear hnf hno
    go_enter Tryz.func23, Tryz.ntmps23
    go_wp2_with fail
    refine HAt.out.mono ?_
    rintro e w1 ⟨rfl, hE1⟩
    have HE1 := Lib.hid hE1; clear hE1
    go_wp2
    go_ret
    show NodesTold _ w _ _
    rw [HQ.out]
    exact ⟨none, 0, rfl, HE1.out, ListAt.nil, Nat.le_refl _⟩
  · have hxd : d[j] ∈ d := List.getElem_mem hj
    obtain ⟨x, hx⟩ : ∃ x, d[j] = x := ⟨_, rfl⟩
    rw [hx] at hxd hjp
    clear hx hj
    have hf := find_is HT.out.sorted hxd hjp.symm
    have hsub : nodesIn p true d = subF d (nm x) := by rw [← hjp]; exact sub_nodes HT.out hxd
    have hp0 : p.size ≠ 0 := by
      rw [← hjp]
      intro e
      exact (HT.out.good x hxd).1 (txt_nil.2 e)
    have HP := Lib.hid (show leftP rs del d p = leftF rs del d (nm x) by unfold leftP; rw [hf])
    have HX := Lib.hid (And.intro hxd hjp)
    rw [hsub] at HWi
    clear hf hsub hxd hjp
    have hsl : (subF d (nm x)).length ≤ 1000 := Nat.le_trans (List.length_filter_le _ _) HD1000.out
    have e0 := empty_not hp0
    obtain ⟨S, hS⟩ : ∃ S, subF d (nm x) = S := ⟨_, rfl⟩
    rw [hS] at HWi hsl
    have HS := Lib.hid hS
    have HMem : Hid (∀ y ∈ S, y ∈ d) := Lib.hid (fun y hy => by rw [← hS] at hy; exact (mem_sub.1 hy).1)
    clear hS
    obtain ⟨n, hn⟩ : ∃ n, S.length = n := ⟨_, rfl⟩
    rw [hn] at hsl
    have HN := Lib.hid hn; clear hn
    cases del
    · go_enter Tryz.func23, Tryz.ntmps23
      go_wp2_with fail
      refine HAt.out.mono ?_
      rintro e w1 ⟨rfl, hE1⟩
      have HE1 := Lib.hid hE1; clear hE1
      go_wp2_with fail
      refine (HWi.out _ HE1.out).mono ?_
      rintro e w2 ⟨a2, c2, rfl, hE2, hA2, hc2⟩
      have H2 := Lib.hid (And.intro (Ext.trans HE1.out hE2) (And.intro hA2 hc2)); clear hE2 hA2 hc2
      rw [HN.out]
      go_wp2
      go_ret
      show NodesTold _ w _ _
      rw [HP.out, left_sub HT.out HX.out.1 rfl (Or.inl rfl), HS.out]
      exact ⟨a2, c2, by rw [HN.out]; rfl, H2.out.1, H2.out.2.1, H2.out.2.2⟩
    · go_enter Tryz.func23, Tryz.ntmps23
      go_wp2_with fail
      refine HAt.out.mono ?_
      rintro e w1 ⟨rfl, hE1⟩
      have HE1 := Lib.hid hE1; clear hE1
      go_wp2_with fail
      refine (HWi.out _ HE1.out).mono ?_
      rintro e w2 ⟨a2, c2, rfl, hE2, hA2, -⟩
      have H2 := Lib.hid (And.intro (Ext.trans HE1.out hE2) hA2); clear hE2 hA2
      rw [HN.out]
      clear e0 hp0
      go_wp2
      go_loopw [11, 12, 13, 14] (fun v i _ _ wr => ∃ k : Nat, k ≤ n ∧ i = .int .i64 k ∧ OwnN w2 v ((S.take k).filter (stF rs S)) wr) (fun _ i _ _ _ => n - (intOf i).toNat)
      case atStart => exact ⟨0, Nat.zero_le _, rfl, OwnL.start w2⟩
      case round =>
        obtain ⟨k, hkn, rfl, hown⟩ := hrel
        have hE := hown.1
        have HOn := Lib.hid hown; clear hown
        by_cases hlt : k < n
        · have hkS : k < S.length := by rw [HN.out]; exact hlt
          have hkp : ((S.take k).filter (stF rs S)).length ≤ 90000 := by
            have h1 := List.length_filter_le (stF rs S) (S.take k)
            rw [List.length_take] at h1
            omega
          obtain ⟨bl, off, rfl, hb, c0, c1, c2', c3, c4⟩ := NodesAt.node (H2.out.2.ext hE) hkS
          have HKy0 := Lib.hid (fun w' (h : Ext wr w') => And.intro ((h.cell hb).trans c0) (And.intro ((h.cell hb).trans c1) (And.intro ((h.cell hb).trans c2') (And.intro ((h.cell hb).trans c3) ((h.cell hb).trans c4)))))
          have hyd := HMem.out _ (List.getElem_mem hkS)
          have HEo := Lib.hid hE; clear hE
          obtain ⟨y, hyy⟩ : ∃ y, S[k] = y := ⟨_, rfl⟩
          rw [hyy] at HKy0 hyd c0 c1 c2' c3 c4
          have HSy := Lib.hid (fun w' (h : Ext w w') => HShut.out y hyd w' h)
          unfold NodeV.val at HSy
          obtain ⟨oy, hoy⟩ : ∃ o, outF rs y = o := ⟨_, rfl⟩
          rw [hoy] at HSy
          have HYd := Lib.hid (And.intro hyd hoy); clear hyd hoy
          go_wp2_with fail
          refine (HSy.out _ (Ext.trans H2.out.1 HEo.out)).mono ?_
          rintro e w3 ⟨rfl, hE3⟩
          have HE3 := Lib.hid hE3; clear hE3 c0 c1 c2' c3 c4
          obtain ⟨wa, hwa⟩ : ∃ wa, wa = wr := ⟨_, rfl⟩
          subst hwa
          go_wp2
          go_loopw [13, 14] (fun st i wi => ∃ (mm : Nat) (b : Bool), mm ≤ n ∧ i = .int .i64 mm ∧ st = .bool b ∧ b = (outF rs y || (S.take mm).any (innerF rs y)) ∧ Ext wa wi) (fun _ i _ => n - (intOf i).toNat)
          case atStart => exact ⟨0, oy, Nat.zero_le _, rfl, rfl, by rw [HYd.out.2, List.take_zero]; simp, HE3.out⟩
          case round =>
            obtain ⟨mm, b, hmn, rfl, rfl, hb0, hEi⟩ := hrel
            obtain ⟨wi, hwi⟩ : ∃ wi, wi = wr := ⟨_, rfl⟩
            subst hwi
            have HRi := Lib.hid hEi; clear hEi
            have HB0 := Lib.hid hb0; clear hb0
            have hyc := HKy0.out wi HRi.out
            obtain ⟨c0, c1, c2', c3, c4⟩ := hyc
            by_cases hltm : mm < n
            · cases b
              · have hml' : mm < S.length := by rw [HN.out]; exact hltm
                obtain ⟨bl', off', he', hb', z0, z1, z2, z3, z4⟩ := NodesAt.node (H2.out.2.ext (Ext.trans HEo.out HRi.out)) hml'
                injection he' with he'
                injection he' with hbb hoo
                subst hbb hoo
                have HKz := Lib.hid (fun w' (h : Ext wi w') => And.intro ((h.cell hb').trans z0) (And.intro ((h.cell hb').trans z1) (And.intro ((h.cell hb').trans z2) (And.intro ((h.cell hb').trans z3) ((h.cell hb').trans z4)))))
                have HKy := Lib.hid (fun w' (h : Ext wi w') => HKy0.out w' (Ext.trans HRi.out h))
                have hzd := HMem.out _ (List.getElem_mem hml')
                obtain ⟨z, hzz⟩ : ∃ z, S[mm] = z := ⟨_, rfl⟩
                rw [hzz] at HKz hzd z0 z1 z2 z3 z4
                clear c0 c1 c2' c3 c4 z0 z1 z2 z3 z4
                have hyd := HYd.out.1
                have HWz := Lib.hid (fun w' => HW.out z hzd y hyd w')
                have HSz := Lib.hid (fun w' (h : Ext w w') => HShut.out z hzd w' h)
                unfold NodeV.val at HSz
                obtain ⟨f, hf⟩ : ∃ f, withinF (txt z.path) (txt y.path) = f := ⟨_, rfl⟩
                obtain ⟨o, ho⟩ : ∃ o, outF rs z = o := ⟨_, rfl⟩
                rw [hf] at HWz
                rw [ho] at HSz
                clear hyd hzd
                have hin : innerF rs y z = (y.kind == 1 && !decide (z.path = y.path) && f && o) := by unfold innerF; rw [hf, ho]
                clear hf ho
                by_cases hk1 : y.kind = 1
                · have g1 : (y.kind == 1) = true := by rw [hk1]; rfl
                  rw [g1] at hin
                  clear hk1
                  by_cases hzp : z.path = y.path
                  · rw [decide_eq_true hzp] at hin
                    have HIn := Lib.hid (show innerF rs y z = false by rw [hin]; rfl)
                    have g2 : (z.path.toList == y.path.toList) = true := by rw [hzp]; simp
                    have g3 : (z.path.toList != y.path.toList) = false := by rw [bne, g2]; rfl
                    clear hzp hin
                    go_wp2
                    refine wp_draw_stages 101 40 [false, false, false, false, false, false, false, false, false, false, false, false, false, false, false, false, false, false, false, false, false, false, false, false, false, false, false, false, false, false, false, false, false, false, false, false, false, false, false, true] [([true, true, true, true, true, true, true, true, true, true, true, true, true, true, true, true, true, true, true, true, true, true, true, true, true, true, true, true, true, true], 30), ([false, false, false, false, false, false, false, false, false, false, false, false, false, false, false, false, false, false, false, false, false, false, false, false, false, false, false, false, false, false, false, true, true, true, true, true, true, true], 38)] Ext Ext.refl (fun _ _ _ => Ext.trans) (by kernel_rfl) (by kernel_rfl) ?_
                    apply wpStages_cons (by simp)
                    · intro w1 hw1
                      simp only [sel_true, sel_nil]
                      obtain ⟨c0, c1, c2', c3, c4⟩ := HKy.out _ (Ext.trans (Ext.refl wi).drew hw1); obtain ⟨e0, e1, e2, e3, e4⟩ := HKz.out _ (Ext.trans (Ext.refl wi).drew hw1)
                      repeat ((with_reducible refine wpStill_step (fun K hK => ?_)); go_simp; refine hK _ ?_; clear hK K)
                      exact wpStill_nil rfl
                    try simp only [List.getD_cons_succ, List.getD_cons_zero]
                    go_wp2_with fail
                    refine ⟨Ext.refl _, ?_⟩
                    apply wpStages_cons (by simp)
                    · intro w1 hw1
                      simp only [sel_true, sel_false, sel_nil]
                      obtain ⟨c0, c1, c2', c3, c4⟩ := HKy.out _ (Ext.trans (Ext.refl wi).drew hw1); obtain ⟨e0, e1, e2, e3, e4⟩ := HKz.out _ (Ext.trans (Ext.refl wi).drew hw1)
                      repeat ((with_reducible refine wpStill_step (fun K hK => ?_)); go_simp; refine hK _ ?_; clear hK K)
                      exact wpStill_nil rfl
                    try simp only [List.getD_cons_succ, List.getD_cons_zero]
                    go_wp2_with fail
                    refine ⟨Ext.refl _, ?_⟩
                    refine wpStages_nil ?_
                    simp only [sel_true, sel_false, sel_nil]
                    repeat ((with_reducible refine wpStill_step (fun K hK => ?_)); go_simp; refine hK _ ?_; clear hK K)
                    refine wpStill_nil ?_
                    try simp only [List.drop_succ_cons, List.drop_zero]
                    go_wp2
                    go_roundw
                    case rel => exact ⟨mm + 1, false, by omega, by go_num, rfl, by rw [any_takeL _ _ _ hml', hzz, ← Bool.or_assoc, ← HB0.out, HIn.out]; rfl, HRi.out.drew⟩
                    case measure => simp [intOf]; omega
                  · rw [decide_eq_false hzp] at hin
                    have g2 : (z.path.toList == y.path.toList) = false := by
                      rw [← beq_toListBytes]
                      cases hb2 : (z.path == y.path)
                      · rfl
                      · exact absurd ((beq_bytes _ _).1 hb2) hzp
                    have g3 : (z.path.toList != y.path.toList) = true := by rw [bne, g2]; rfl
                    clear hzp
                    cases f
                    · have HIn := Lib.hid (show innerF rs y z = false by rw [hin]; rfl)
                      clear hin
                      go_wp2
                      refine wp_draw_stages 101 40 [false, false, false, false, false, false, false, false, false, false, false, false, false, false, false, false, false, false, false, false, false, false, false, false, false, false, false, false, false, false, false, false, false, false, false, false, false, false, false, true] [([true, true, true, true, true, true, true, true, true, true, true, true, true, true, true, true, true, true, true, true, true, true, true, true, true, true, true, true, true, true], 30), ([false, false, false, false, false, false, false, false, false, false, false, false, false, false, false, false, false, false, false, false, false, false, false, false, false, false, false, false, false, false, false, true, true, true, true, true, true, true], 38)] Ext Ext.refl (fun _ _ _ => Ext.trans) (by kernel_rfl) (by kernel_rfl) ?_
                      apply wpStages_cons (by simp)
                      · intro w1 hw1
                        simp only [sel_true, sel_nil]
                        obtain ⟨c0, c1, c2', c3, c4⟩ := HKy.out _ (Ext.trans (Ext.refl wi).drew hw1); obtain ⟨e0, e1, e2, e3, e4⟩ := HKz.out _ (Ext.trans (Ext.refl wi).drew hw1)
                        repeat ((with_reducible refine wpStill_step (fun K hK => ?_)); go_simp; refine hK _ ?_; clear hK K)
                        exact wpStill_nil rfl
                      try simp only [List.getD_cons_succ, List.getD_cons_zero]
                      go_wp2_with (go_at_call 38; refine (HWz.out _).mono ?_; rintro e w5 ⟨rfl, hE5⟩; have HE5 := Lib.hid hE5; clear hE5)
                      refine ⟨HE5.out, ?_⟩
                      apply wpStages_cons (by simp)
                      · intro w1 hw1
                        simp only [sel_true, sel_false, sel_nil]
                        obtain ⟨c0, c1, c2', c3, c4⟩ := HKy.out _ (Ext.trans (Ext.trans (Ext.refl wi).drew HE5.out) hw1); obtain ⟨e0, e1, e2, e3, e4⟩ := HKz.out _ (Ext.trans (Ext.trans (Ext.refl wi).drew HE5.out) hw1)
                        repeat ((with_reducible refine wpStill_step (fun K hK => ?_)); go_simp; refine hK _ ?_; clear hK K)
                        exact wpStill_nil rfl
                      try simp only [List.getD_cons_succ, List.getD_cons_zero]
                      go_wp2_with fail
                      refine ⟨Ext.refl _, ?_⟩
                      refine wpStages_nil ?_
                      simp only [sel_true, sel_false, sel_nil]
                      repeat ((with_reducible refine wpStill_step (fun K hK => ?_)); go_simp; refine hK _ ?_; clear hK K)
                      refine wpStill_nil ?_
                      try simp only [List.drop_succ_cons, List.drop_zero]
                      go_wp2
                      go_roundw
                      case rel => exact ⟨mm + 1, false, by omega, by go_num, rfl, by rw [any_takeL _ _ _ hml', hzz, ← Bool.or_assoc, ← HB0.out, HIn.out]; rfl, Ext.trans HRi.out (Ext.trans (Ext.refl wi).drew HE5.out)⟩
                      case measure => simp [intOf]; omega
                    · have HIn := Lib.hid (show innerF rs y z = o by rw [hin]; cases o <;> rfl)
                      clear hin
                      go_wp2
                      refine wp_draw_stages 101 40 [false, false, false, false, false, false, false, false, false, false, false, false, false, false, false, false, false, false, false, false, false, false, false, false, false, false, false, false, false, false, false, false, false, false, false, false, false, false, false, true] [([true, true, true, true, true, true, true, true, true, true, true, true, true, true, true, true, true, true, true, true, true, true, true, true, true, true, true, true, true, true], 30), ([false, false, false, false, false, false, false, false, false, false, false, false, false, false, false, false, false, false, false, false, false, false, false, false, false, false, false, false, false, false, false, true, true, true, true, true, true, true], 38)] Ext Ext.refl (fun _ _ _ => Ext.trans) (by kernel_rfl) (by kernel_rfl) ?_
                      apply wpStages_cons (by simp)
                      · intro w1 hw1
                        simp only [sel_true, sel_nil]
                        obtain ⟨c0, c1, c2', c3, c4⟩ := HKy.out _ (Ext.trans (Ext.refl wi).drew hw1); obtain ⟨e0, e1, e2, e3, e4⟩ := HKz.out _ (Ext.trans (Ext.refl wi).drew hw1)
                        repeat ((with_reducible refine wpStill_step (fun K hK => ?_)); go_simp; refine hK _ ?_; clear hK K)
                        exact wpStill_nil rfl
                      try simp only [List.getD_cons_succ, List.getD_cons_zero]
                      go_wp2_with (go_at_call 38; refine (HWz.out _).mono ?_; rintro e w5 ⟨rfl, hE5⟩; have HE5 := Lib.hid hE5; clear hE5)
                      refine ⟨HE5.out, ?_⟩
                      apply wpStages_cons (by simp)
                      · intro w1 hw1
                        simp only [sel_true, sel_false, sel_nil]
                        obtain ⟨c0, c1, c2', c3, c4⟩ := HKy.out _ (Ext.trans (Ext.trans (Ext.refl wi).drew HE5.out) hw1); obtain ⟨e0, e1, e2, e3, e4⟩ := HKz.out _ (Ext.trans (Ext.trans (Ext.refl wi).drew HE5.out) hw1)
                        repeat ((with_reducible refine wpStill_step (fun K hK => ?_)); go_simp; refine hK _ ?_; clear hK K)
                        exact wpStill_nil rfl
                      try simp only [List.getD_cons_succ, List.getD_cons_zero]
                      go_wp2_with (go_at_call 39; refine (HSz.out _ (Ext.trans (Ext.trans H2.out.1 (Ext.trans HEo.out HRi.out)) (Ext.trans (Ext.refl wi).drew HE5.out))).mono ?_; rintro e w6 ⟨rfl, hE6⟩; have HE6 := Lib.hid hE6; clear hE6)
                      refine ⟨HE6.out, ?_⟩
                      refine wpStages_nil ?_
                      simp only [sel_true, sel_false, sel_nil]
                      repeat ((with_reducible refine wpStill_step (fun K hK => ?_)); go_simp; refine hK _ ?_; clear hK K)
                      refine wpStill_nil ?_
                      try simp only [List.drop_succ_cons, List.drop_zero]
                      go_wp2
                      go_roundw
                      case rel => exact ⟨mm + 1, o, by omega, by go_num, rfl, by rw [any_takeL _ _ _ hml', hzz, ← Bool.or_assoc, ← HB0.out, HIn.out]; simp, Ext.trans HRi.out (Ext.trans (Ext.refl wi).drew (Ext.trans HE5.out HE6.out))⟩
                      case measure => simp [intOf]; omega
                · have g1 : (y.kind == 1) = false := beq_eq_false_iff_ne.2 hk1
                  rw [g1] at hin
                  have HIn := Lib.hid (show innerF rs y z = false by rw [hin]; rfl)
                  clear hk1 hin
                  go_wp2
                  refine wp_draw_stages 101 40 [false, false, false, false, false, false, false, false, false, false, false, false, false, false, false, false, false, false, false, false, false, false, false, false, false, false, false, false, false, false, false, false, false, false, false, false, false, false, false, true] [([true, true, true, true, true, true, true, true, true, true, true, true, true, true, true, true, true, true, true, true, true, true, true, true, true, true, true, true, true, true], 30), ([false, false, false, false, false, false, false, false, false, false, false, false, false, false, false, false, false, false, false, false, false, false, false, false, false, false, false, false, false, false, false, true, true, true, true, true, true, true], 38)] Ext Ext.refl (fun _ _ _ => Ext.trans) (by kernel_rfl) (by kernel_rfl) ?_
                  apply wpStages_cons (by simp)
                  · intro w1 hw1
                    simp only [sel_true, sel_nil]
                    obtain ⟨c0, c1, c2', c3, c4⟩ := HKy.out _ (Ext.trans (Ext.refl wi).drew hw1); obtain ⟨e0, e1, e2, e3, e4⟩ := HKz.out _ (Ext.trans (Ext.refl wi).drew hw1)
                    repeat ((with_reducible refine wpStill_step (fun K hK => ?_)); go_simp; refine hK _ ?_; clear hK K)
                    exact wpStill_nil rfl
                  try simp only [List.getD_cons_succ, List.getD_cons_zero]
                  go_wp2_with fail
                  refine ⟨Ext.refl _, ?_⟩
                  apply wpStages_cons (by simp)
                  · intro w1 hw1
                    simp only [sel_true, sel_false, sel_nil]
                    obtain ⟨c0, c1, c2', c3, c4⟩ := HKy.out _ (Ext.trans (Ext.refl wi).drew hw1); obtain ⟨e0, e1, e2, e3, e4⟩ := HKz.out _ (Ext.trans (Ext.refl wi).drew hw1)
                    repeat ((with_reducible refine wpStill_step (fun K hK => ?_)); go_simp; refine hK _ ?_; clear hK K)
                    exact wpStill_nil rfl
                  try simp only [List.getD_cons_succ, List.getD_cons_zero]
                  go_wp2_with fail
                  refine ⟨Ext.refl _, ?_⟩
                  refine wpStages_nil ?_
                  simp only [sel_true, sel_false, sel_nil]
                  repeat ((with_reducible refine wpStill_step (fun K hK => ?_)); go_simp; refine hK _ ?_; clear hK K)
                  refine wpStill_nil ?_
                  try simp only [List.drop_succ_cons, List.drop_zero]
                  go_wp2
                  go_roundw
                  case rel => exact ⟨mm + 1, false, by omega, by go_num, rfl, by rw [any_takeL _ _ _ hml', hzz, ← Bool.or_assoc, ← HB0.out, HIn.out]; rfl, HRi.out.drew⟩
                  case measure => simp [intOf]; omega
              · have hbs : true = stF rs S y := by
                  unfold stF
                  have hb0 := HB0.out
                  cases hoo : outF rs y
                  · rw [hoo, Bool.false_or] at hb0
                    rw [any_more hb0.symm]; rfl
                  · rfl
                have HBs := Lib.hid hbs; clear hbs
                have HPk := Lib.hid (show (S.take (k + 1)).filter (stF rs S) = (S.take k).filter (stF rs S) ++ [y] by rw [filter_take _ _ _ hkS, hyy]; rw [if_pos HBs.out.symm])
                go_wp2_with (at_builtin; refine node_append rfl _ _ rfl w2 _ _ rfl ((HOn.out.ext HRi.out).alloc _) y _ 1 rfl (cells_at _ _ _ (by simp)) hkp ?_; intro v' w4 hown' hE4)
                go_roundw
                case rel => exact ⟨k + 1, by omega, by go_num, by rw [HPk.out]; exact hown'⟩
                case measure => simp [intOf]; omega
            · obtain rfl : mm = n := by omega
              have hbs : b = stF rs S y := by
                rw [HB0.out, List.take_of_length_le (by rw [HN.out]; exact Nat.le_refl _)]; rfl
              have HBs := Lib.hid hbs; clear hbs
              cases b
              · have HPk := Lib.hid (show (S.take (k + 1)).filter (stF rs S) = (S.take k).filter (stF rs S) by rw [filter_take _ _ _ hkS, hyy]; rw [if_neg (by rw [← HBs.out]; simp)])
                go_wp2
                go_roundw
                case rel => exact ⟨k + 1, by omega, by go_num, by rw [HPk.out]; exact HOn.out.ext HRi.out⟩
                case measure => simp [intOf]; omega
              · have HPk := Lib.hid (show (S.take (k + 1)).filter (stF rs S) = (S.take k).filter (stF rs S) ++ [y] by rw [filter_take _ _ _ hkS, hyy]; rw [if_pos HBs.out.symm])
                go_wp2_with (at_builtin; refine node_append rfl _ _ rfl w2 _ _ rfl ((HOn.out.ext HRi.out).alloc _) y _ 1 rfl (cells_at _ _ _ (by simp)) hkp ?_; intro v' w4 hown' hE4)
                go_roundw
                case rel => exact ⟨k + 1, by omega, by go_num, by rw [HPk.out]; exact hown'⟩
                case measure => simp [intOf]; omega
        · obtain rfl : k = n := by omega
          go_wp2
          go_ret
          show NodesTold _ w _ _
          have h := HOn.out
          rw [List.take_of_length_le (by rw [HN.out]; exact Nat.le_refl _), ← HS.out, st_filter HT.out] at h
          rw [HP.out]
          exact NodesTold.trans H2.out.1 (nodes_told h)
end Go.Proofs.YtiopahkigbdmcaaGreat
