/- WITHOUT RULES, WITH DELETION, THE MIRROR IS THE SENDER'S TREE; of an empty tree it is what is sent; without deletion nothing is lost: the law of layer 14 returns true for every input. -/
import Derived.Test.YtiopahkigbdmcaaGreatMh
import Derived.Test.YtiopahkigbdmcaaGreatMq
import Derived.Test.YtiopahkigbdmcaaGreatRows
import Derived.Deep.Slices
import Derived.OpenShut
import Derived.ProofKit
import Derived.Carry
/- How the law's arguments read as cells. -/
namespace Go.Proofs.YtiopahkigbdmcaaGreat
open Go Go.Proofs Go.RowKit Go.ChangeShapes Go.WideShapes Go.Deep
section
variable {H : Type} {enc : TypeId × Value → H} {w : World} {base : Nat} {spare : Nat → Bool} {held : Bool}

theorem fld {P : Program} {fs : Array Field} {cs : List Value} {xs : List (DataW H × List MemPlace)} {n : Nat} (hx : xs.length = fs.size) (hf : ∀ (i : Nat) (f : Field), fs[i]? = some f → DataW.trod enc P w base spare held n f.type ((cs.drop f.offset).take (P.cellsOf f.type)) = xs[i]?)
    (i : Nat) {f : Field} (hi : fs[i]? = some f) (t o c : Nat) (ht : f.type = t) (ho : f.offset = o) (hc : P.cellsOf t = c) : ∃ y, DataW.trod enc P w base spare held n t ((cs.drop o).take c) = some y := by
  have hl : i < fs.size := (Array.getElem?_eq_some_iff.1 hi).1
  have h := hf i f hi
  rw [ht, ho, hc, List.getElem?_eq_getElem (by omega)] at h
  exact ⟨_, h⟩
theorem slice_val {P : Program} {t e : TypeId} {fuel : Nat} {c : Value} {x : DataW H × List MemPlace} (ht : P.underlying t = some (.slice e)) (h : DataW.trod enc P w base spare held fuel t [c] = some x) : ∃ a n k, c = .slice a n k := by
  rcases open_slice ht h with ⟨h0, _⟩ | ⟨a, len, cap, m, n, D, Pl, h0, _⟩
  · exact ⟨none, 0, 0, by simpa using h0⟩
  · exact ⟨_, _, _, by simpa using h0⟩

theorem c_int : Tryz.prog.cellsOf 3 = 1 := by kernel_rfl
theorem c_bool : Tryz.prog.cellsOf 4 = 1 := by kernel_rfl
theorem c_str : Tryz.prog.cellsOf 9 = 1 := by kernel_rfl
theorem c_node : Tryz.prog.cellsOf 42 = 5 := by kernel_rfl
theorem c_rule : Tryz.prog.cellsOf 89 = 2 := by kernel_rfl
theorem c_opts : Tryz.prog.cellsOf 25 = 6 := by kernel_rfl
theorem c_quota : Tryz.prog.cellsOf 27 = 2 := by kernel_rfl
theorem c_setup : Tryz.prog.cellsOf 29 = 10 := by kernel_rfl
theorem c_api_Node : Tryz.prog.cellsOf 22 = 1 := by kernel_rfl
theorem c_api_Rule : Tryz.prog.cellsOf 23 = 1 := by kernel_rfl
set_option maxRecDepth 100000 in
theorem open_node {fuel : Nat} {cs : List Value} {x : DataW H × List MemPlace} (h : DataW.trod enc Tryz.prog w base spare held fuel 42 cs = some x) : ∃ p k m t d, cs = [.string p, .int .i64 k, .int .i64 m, .int .i64 t, .string d] ∧ p.size ≤ maxLen ∧ d.size ≤ maxLen := by
  obtain ⟨xs, n, _, _, hl, hx, hf⟩ := DataW.trod_struct Tryz.underlying42 h
  rw [c_node] at hl
  match cs, hl with
  | [v0, v1, v2, v3, v4], _ =>
    obtain ⟨y0, g0⟩ := fld hx hf 0 rfl 9 0 1 rfl rfl c_str
    obtain ⟨p, hk0, _, z0⟩ := DataW.trod_string Tryz.underlying9 g0
    obtain rfl : v0 = .string p := by simpa using hk0
    obtain ⟨y1, g1⟩ := fld hx hf 1 rfl 3 1 1 rfl rfl c_int
    obtain ⟨k, hk1, _⟩ := DataW.trod_int Tryz.underlying3 g1
    obtain rfl : v1 = .int .i64 k := by simpa using hk1
    obtain ⟨y2, g2⟩ := fld hx hf 2 rfl 3 2 1 rfl rfl c_int
    obtain ⟨m, hk2, _⟩ := DataW.trod_int Tryz.underlying3 g2
    obtain rfl : v2 = .int .i64 m := by simpa using hk2
    obtain ⟨y3, g3⟩ := fld hx hf 3 rfl 3 3 1 rfl rfl c_int
    obtain ⟨t, hk3, _⟩ := DataW.trod_int Tryz.underlying3 g3
    obtain rfl : v3 = .int .i64 t := by simpa using hk3
    obtain ⟨y4, g4⟩ := fld hx hf 4 rfl 9 4 1 rfl rfl c_str
    obtain ⟨d, hk4, _, z4⟩ := DataW.trod_string Tryz.underlying9 g4
    obtain rfl : v4 = .string d := by simpa using hk4
    exact ⟨_, _, _, _, _, rfl, z0, z4⟩
set_option maxRecDepth 100000 in
theorem open_rule {fuel : Nat} {cs : List Value} {x : DataW H × List MemPlace} (h : DataW.trod enc Tryz.prog w base spare held fuel 89 cs = some x) : ∃ kp pat, cs = [.bool kp, .string pat] ∧ pat.size ≤ maxLen := by
  obtain ⟨xs, n, _, _, hl, hx, hf⟩ := DataW.trod_struct Tryz.underlying89 h
  rw [c_rule] at hl
  match cs, hl with
  | [v0, v1], _ =>
    obtain ⟨y0, g0⟩ := fld hx hf 0 rfl 4 0 1 rfl rfl c_bool
    obtain ⟨kp, hk0, _⟩ := DataW.trod_bool Tryz.underlying4 g0
    obtain rfl : v0 = .bool kp := by simpa using hk0
    obtain ⟨y1, g1⟩ := fld hx hf 1 rfl 9 1 1 rfl rfl c_str
    obtain ⟨pat, hk1, _, z1⟩ := DataW.trod_string Tryz.underlying9 g1
    obtain rfl : v1 = .string pat := by simpa using hk1
    exact ⟨_, _, rfl, z1⟩
set_option maxRecDepth 100000 in
theorem open_opts {fuel : Nat} {cs : List Value} {x : DataW H × List MemPlace} (h : DataW.trod enc Tryz.prog w base spare held fuel 25 cs = some x) : ∃ d1 d2 d3 ra rn rc bl pc, cs = [.bool d1, .bool d2, .bool d3, .slice ra rn rc, .int .i64 bl, .int .i64 pc] ∧ (∃ m y, DataW.trod enc Tryz.prog w base spare held m 23 [.slice ra rn rc] = some y) := by
  obtain ⟨xs, n, _, _, hl, hx, hf⟩ := DataW.trod_struct Tryz.underlying25 h
  rw [c_opts] at hl
  match cs, hl with
  | [v0, v1, v2, v3, v4, v5], _ =>
    obtain ⟨y0, g0⟩ := fld hx hf 0 rfl 4 0 1 rfl rfl c_bool
    obtain ⟨d1, hk0, _⟩ := DataW.trod_bool Tryz.underlying4 g0
    obtain rfl : v0 = .bool d1 := by simpa using hk0
    obtain ⟨y1, g1⟩ := fld hx hf 1 rfl 4 1 1 rfl rfl c_bool
    obtain ⟨d2, hk1, _⟩ := DataW.trod_bool Tryz.underlying4 g1
    obtain rfl : v1 = .bool d2 := by simpa using hk1
    obtain ⟨y2, g2⟩ := fld hx hf 2 rfl 4 2 1 rfl rfl c_bool
    obtain ⟨d3, hk2, _⟩ := DataW.trod_bool Tryz.underlying4 g2
    obtain rfl : v2 = .bool d3 := by simpa using hk2
    obtain ⟨y3, g3⟩ := fld hx hf 3 rfl 23 3 1 rfl rfl c_api_Rule
    obtain ⟨ra, rn, rc, rfl⟩ := slice_val Tryz.underlying23 (c := v3) g3
    obtain ⟨y4, g4⟩ := fld hx hf 4 rfl 3 4 1 rfl rfl c_int
    obtain ⟨bl, hk4, _⟩ := DataW.trod_int Tryz.underlying3 g4
    obtain rfl : v4 = .int .i64 bl := by simpa using hk4
    obtain ⟨y5, g5⟩ := fld hx hf 5 rfl 3 5 1 rfl rfl c_int
    obtain ⟨pc, hk5, _⟩ := DataW.trod_int Tryz.underlying3 g5
    obtain rfl : v5 = .int .i64 pc := by simpa using hk5
    exact ⟨_, _, _, _, _, _, _, _, rfl, ⟨_, _, g3⟩⟩
set_option maxRecDepth 100000 in
theorem open_quota {fuel : Nat} {cs : List Value} {x : DataW H × List MemPlace} (h : DataW.trod enc Tryz.prog w base spare held fuel 27 cs = some x) : ∃ qn qb, cs = [.int .i64 qn, .int .i64 qb] := by
  obtain ⟨xs, n, _, _, hl, hx, hf⟩ := DataW.trod_struct Tryz.underlying27 h
  rw [c_quota] at hl
  match cs, hl with
  | [v0, v1], _ =>
    obtain ⟨y0, g0⟩ := fld hx hf 0 rfl 3 0 1 rfl rfl c_int
    obtain ⟨qn, hk0, _⟩ := DataW.trod_int Tryz.underlying3 g0
    obtain rfl : v0 = .int .i64 qn := by simpa using hk0
    obtain ⟨y1, g1⟩ := fld hx hf 1 rfl 3 1 1 rfl rfl c_int
    obtain ⟨qb, hk1, _⟩ := DataW.trod_int Tryz.underlying3 g1
    obtain rfl : v1 = .int .i64 qb := by simpa using hk1
    exact ⟨_, _, rfl⟩
set_option maxRecDepth 100000 in
theorem open_setup {fuel : Nat} {cs : List Value} {x : DataW H × List MemPlace} (h : DataW.trod enc Tryz.prog w base spare held fuel 29 cs = some x) : ∃ sa sn sc da dn dc d1 d2 d3 ra rn rc bl pc qn qb, cs = [.slice sa sn sc, .slice da dn dc, .bool d1, .bool d2, .bool d3, .slice ra rn rc, .int .i64 bl, .int .i64 pc, .int .i64 qn, .int .i64 qb] ∧ (∃ m y, DataW.trod enc Tryz.prog w base spare held m 22 [.slice sa sn sc] = some y) ∧ (∃ m y, DataW.trod enc Tryz.prog w base spare held m 22 [.slice da dn dc] = some y) ∧ (∃ m y, DataW.trod enc Tryz.prog w base spare held m 23 [.slice ra rn rc] = some y) := by
  obtain ⟨xs, n, _, _, hl, hx, hf⟩ := DataW.trod_struct Tryz.underlying29 h
  rw [c_setup] at hl
  match cs, hl with
  | [v0, v1, v2, v3, v4, v5, v6, v7, v8, v9], _ =>
    obtain ⟨y0, g0⟩ := fld hx hf 0 rfl 22 0 1 rfl rfl c_api_Node
    obtain ⟨sa, sn, sc, rfl⟩ := slice_val Tryz.underlying22 (c := v0) g0
    obtain ⟨y1, g1⟩ := fld hx hf 1 rfl 22 1 1 rfl rfl c_api_Node
    obtain ⟨da, dn, dc, rfl⟩ := slice_val Tryz.underlying22 (c := v1) g1
    obtain ⟨y2, g2⟩ := fld hx hf 2 rfl 25 2 6 rfl rfl c_opts
    obtain ⟨d1, d2, d3, ra, rn, rc, bl, pc, hk2, q2_0⟩ := open_opts g2
    obtain ⟨rfl, rfl, rfl, rfl, rfl, rfl⟩ : v2 = .bool d1 ∧ v3 = .bool d2 ∧ v4 = .bool d3 ∧ v5 = .slice ra rn rc ∧ v6 = .int .i64 bl ∧ v7 = .int .i64 pc := by simpa using hk2
    obtain ⟨y3, g3⟩ := fld hx hf 3 rfl 27 8 2 rfl rfl c_quota
    obtain ⟨qn, qb, hk3⟩ := open_quota g3
    obtain ⟨rfl, rfl⟩ : v8 = .int .i64 qn ∧ v9 = .int .i64 qb := by simpa using hk3
    exact ⟨_, _, _, _, _, _, _, _, _, _, _, _, _, _, _, _, rfl, ⟨_, _, g0⟩, ⟨_, _, g1⟩, q2_0⟩

theorem cell_open {b o : Nat} {v : Value} (h : w.cell? ⟨b, o, none⟩ = some v) : ∃ cs T fz, w.heap[b]? = some (.cells cs T fz) ∧ cs[o]? = some v := by
  unfold World.cell? at h
  cases hb : w.heap[b]? with
  | none => simp [hb] at h
  | some x => cases x <;> simp [hb] at h; exact ⟨_, _, _, rfl, h⟩
/-- A slice that came in, by its elements' cells. -/
theorem rows_of {P : Program} {t e : TypeId} {k fuel : Nat} {x : DataW H × List MemPlace} {a : Option Addr} {n c : Nat} (hk : 0 < k) (ht : P.underlying t = some (.slice e)) (hc : P.cellsOf e = k)
    (h : DataW.trod enc P w base spare held fuel t [.slice a n c] = some x) :
    n = 0 ∨ ∃ b off, ∃ cs : Array Value, ∃ T fz, a = some ⟨b, off, none⟩ ∧ w.heap[b]? = some (.cells cs T fz) ∧ ∀ j, j < n → ∃ xs m y, DataW.trod enc P w base spare held m e xs = some y ∧ xs.length = k ∧ ∀ i v, xs[i]? = some v → cs[off + j * k + i]? = some v := by
  rcases open_slice ht h with ⟨h0, _⟩ | ⟨ad, len, cap, m, f, D, Pl, hcs, _, hl, hm, hmm, _, hall⟩
  · simp only [List.cons.injEq, Value.slice.injEq, and_true] at h0
    exact Or.inl h0.2.1
  · simp only [List.cons.injEq, Value.slice.injEq, and_true] at hcs
    obtain ⟨rfl, rfl, rfl⟩ := hcs
    rcases Nat.eq_zero_or_pos n with h0 | h0
    · exact Or.inl h0
    right
    rw [hc] at hall
    have g : ∀ j, j < n → ∃ cs y, DataW.trod enc P w base spare held f e cs = some y ∧ cs.length = k ∧ ∀ i, i < k → w.cell? ((ad.add (j * k)).add i) = cs[i]? := fun j hj => by
      obtain ⟨cs, h1, h2⟩ := hall j (by rw [hmm]; split <;> omega)
      obtain ⟨_, h3, h4⟩ := World.cells?_some h1
      exact ⟨cs, _, h2, h3, h4⟩
    obtain ⟨cs0, _, _, hl0, hz⟩ := g 0 h0
    have hz0 := hz 0 hk
    rw [List.getElem?_eq_getElem (by omega)] at hz0
    simp only [Nat.zero_mul] at hz0
    have e0 : (ad.add 0).add 0 = ad := by simp [Addr.add]
    rw [e0] at hz0
    have hsp := World.cell?_spot hz0
    obtain ⟨b, off, spot⟩ := ad
    simp only at hsp
    subst hsp
    obtain ⟨cs, T, fz, hb, _⟩ := cell_open hz0
    refine ⟨b, off, cs, T, fz, rfl, hb, fun j hj => ?_⟩
    obtain ⟨xs, y, h1, h2, h3⟩ := g j hj
    refine ⟨xs, f, y, h1, h2, fun i v hv => ?_⟩
    have hi : i < k := by
      have := (List.getElem?_eq_some_iff.1 hv).1
      omega
    have h4 := h3 i hi
    rw [Addr.add_mid, Addr.add_mid, hv] at h4
    obtain ⟨cs', T', fz', hb', h5⟩ := cell_open h4
    rw [hb] at hb'
    injection hb' with hb'
    injection hb' with e1 e2 e3
    rw [e1]
    exact h5
theorem pick_all {α : Type} [Inhabited α] {n : Nat} {p : Nat → α → Prop} (h : ∀ j, j < n → ∃ x, p j x) : ∃ L : List α, L.length = n ∧ ∀ j (hj : j < L.length), p j L[j] := by
  induction n with
  | zero => exact ⟨[], rfl, fun j hj => by simp at hj⟩
  | succ n ih =>
    obtain ⟨L, hl, hall⟩ := ih (fun j hj => h j (by omega))
    obtain ⟨x, hx⟩ := h n (by omega)
    refine ⟨L ++ [x], by rw [List.length_append, hl]; rfl, fun j hj => ?_⟩
    by_cases hjn : j < L.length
    · rw [List.getElem_append_left hjn]; exact hall j hjn
    · have : j = n := by rw [List.length_append, List.length_singleton] at hj; omega
      subst this
      rw [List.getElem_append_right (by omega)]
      simpa [hl] using hx
instance : Inhabited NodeV := ⟨⟨ByteArray.empty, 0, 0, 0, ByteArray.empty⟩⟩
theorem nodes_of {fuel : Nat} {x : DataW H × List MemPlace} {a : Option Addr} {n c : Nat} (h : DataW.trod enc Tryz.prog w base spare held fuel 22 [.slice a n c] = some x) : ∃ L : List NodeV, L.length = n ∧ NodesAt w a L := by
  rcases rows_of (by decide) Tryz.underlying22 c_node h with h0 | ⟨b, off, cs, T, fz, ha, hb, hall⟩
  · exact ⟨[], h0.symm, ListAt.nil⟩
  · obtain ⟨L, hl, hL⟩ := pick_all (p := fun j (x : NodeV) => ∀ i v, x.cells[i]? = some v → cs[off + j * 5 + i]? = some v) (fun j hj => by
      obtain ⟨xs, m, y, h1, h2, h3⟩ := hall j hj
      obtain ⟨p, k, mm, t, d, rfl, _⟩ := open_node h1
      exact ⟨⟨p, k, mm, t, d⟩, h3⟩)
    exact ⟨L, hl, Or.inr ⟨b, off, cs, (T, fz), ha, hb, fun i hi j v hv => hL i hi j v hv⟩⟩
theorem rules_of {fuel : Nat} {x : DataW H × List MemPlace} {a : Option Addr} {n c : Nat} (h : DataW.trod enc Tryz.prog w base spare held fuel 23 [.slice a n c] = some x) : ∃ rs : List (Bool × ByteArray), rs.length = n ∧ RulesAt w a rs := by
  rcases rows_of (by decide) Tryz.underlying23 c_rule h with h0 | ⟨b, off, cs, T, fz, ha, hb, hall⟩
  · exact ⟨[], h0.symm, Or.inl rfl⟩
  · obtain ⟨L, hl, hL⟩ := pick_all (p := fun j (r : Bool × ByteArray) => cs[off + j * 2]? = some (.bool r.1) ∧ cs[off + j * 2 + 1]? = some (.string r.2)) (fun j hj => by
      obtain ⟨xs, m, y, h1, h2, h3⟩ := hall j hj
      obtain ⟨kp, pat, rfl, _⟩ := open_rule h1
      exact ⟨(kp, pat), h3 0 _ rfl, h3 1 _ rfl⟩)
    exact ⟨L, hl, Or.inr ⟨b, off, cs, ha, ⟨T, fz, hb⟩, fun i hi => hL i hi⟩⟩

end
end Go.Proofs.YtiopahkigbdmcaaGreat
namespace Go.Proofs.YtiopahkigbdmcaaGreat
open Go Go.Proofs Go.ChangeShapes Go.WideShapes Go.ChangeAt Go.RowKit Go.Deep

theorem Tryz.own : ownKnob Tryz.prog.godebug = none := by kernel_rfl
theorem Tryz.laidOut : laidOutB Tryz.prog = true := by kernel_rfl

set_option maxRecDepth 100000 in
theorem plain_lifted (os : Os) (started : os.Started) (H : Type) (enc : TypeId × Value → H) :
    ReturnsInHanded {} Tryz.checked os 5 .any (Rows.mirrorPlainSpec.pre6 enc Tryz.prog Tryz.f5 Rows.mirrorPlainRow.domain false) (Rows.mirrorPlainSpec.post enc Tryz.prog Tryz.f5 false true false false) := by
  refine returnsInHanded_of_change (C := Tryz.checked) Tryz.own started (by kernel_rfl) Tryz.func5
    (ChangeSpec.witness6 (enc := enc) (C := Tryz.checked) false ⟨#[], #[.slice none 0 0, .slice none 0 0, .slice none 0 0], []⟩ 12 (by kernel_rfl) (by kernel_rfl) (by kernel_rfl) (by kernel_rfl)) ?_
  intro W base args ds gs before hval0 hW _ _
  have hval : ∀ (j : Nat) t v, Tryz.f5.params[j]? = some t → args[j]? = some v → Value.okWide Tryz.prog W .any base t v := hval0
  have hW' := hW
  obtain ⟨p, q, hA0, hV, rfl, _, _⟩ := hW
  have hA : DataW.TrodAll enc Tryz.prog W 0 (fun _ => true) true Tryz.f5.params.toList args.toList ds p := hA0
  rw [Tryz.params5] at hA hval
  obtain ⟨v0, v1, v2, d0, d1, d2, p0, p1, p2, rfl, rfl, rfl, h0, h1, h2⟩ := trodAll_three hA
  obtain ⟨rfl, rfl⟩ := trodVars_none hV
  have h0k := h0
  have h1k := h1
  have h2k := h2
  obtain ⟨sa, sn, sc, rfl⟩ := okWide_slice Tryz.underlying22 (hval 0 22 v0 rfl rfl)
  obtain ⟨da, dn, dc, rfl⟩ := okWide_slice Tryz.underlying22 (hval 1 22 v1 rfl rfl)
  obtain ⟨ra, rn, rc, rfl⟩ := okWide_slice Tryz.underlying23 (hval 2 23 v2 rfl rfl)
  obtain ⟨fu0, h0⟩ := h0
  obtain ⟨fu1, h1⟩ := h1
  obtain ⟨fu2, h2⟩ := h2
  clear hA0 hval0
  simp only [List.append_nil, List.append_assoc] at hW'
  have hlt : ∀ x ∈ p0 ++ (p1 ++ p2), x.block < W.heap.size := fun x hx => hW'.lt x hx
  obtain ⟨S, rfl, hS⟩ := nodes_of h0
  obtain ⟨D, rfl, hD⟩ := nodes_of h1
  obtain ⟨rs, rfl, hR⟩ := rules_of h2
  refine (plainLaw sa da ra S D rs sc dc rc W hS hD hR).mono fun e W' ⟨he, hE⟩ => ?_
  subst he
  refine ⟨_, rfl, _, _, _, [], p0 ++ (p1 ++ p2), [], hW', ?_, ?_, rfl, Below.frame hE _, fun h => by cases h⟩
  · exact trodAll_mk1 (shut_bool Tryz.underlying4 true)
  · exact trodAll_mk3 (Below.trod Tryz.laidOut (by kernel_rfl) (of_decide_eq_true (by kernel_rfl)) h0k hE (fun x hx => hlt x (by simp [hx])))
      (Below.trod Tryz.laidOut (by kernel_rfl) (of_decide_eq_true (by kernel_rfl)) h1k hE (fun x hx => hlt x (by simp [hx])))
      (Below.trod Tryz.laidOut (by kernel_rfl) (of_decide_eq_true (by kernel_rfl)) h2k hE (fun x hx => hlt x (by simp [hx])))

theorem plain_holds : Rows.MirrorPlainSaid :=
  OpenClaim.holds_of_wide 5 Tryz.f5 rfl rfl rfl rfl rfl rfl rfl ⟨rfl, rfl, rfl, rfl, rfl⟩ rfl rfl rfl rfl rfl (by kernel_rfl) Tryz.func5 (by kernel_rfl)
    (of_decide_eq_true (by kernel_rfl)) (by unfold Func.isWrapper; first | (rw [if_pos (by decide +kernel)]; kernel_rfl) | (rw [if_neg (by decide +kernel)]; exact ⟨rfl, rfl⟩))
    (fun os started H enc _ => plain_lifted os started H enc)
#print axioms plain_holds
end Go.Proofs.YtiopahkigbdmcaaGreat
