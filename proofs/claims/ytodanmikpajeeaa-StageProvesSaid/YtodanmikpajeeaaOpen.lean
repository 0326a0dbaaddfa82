/- How the law's arguments read as cells. -/
import Derived.Test.YtodanmikpajeeaaMsgS
import Derived.Deep.Slices
import Derived.OpenShut
namespace Go.Proofs.Ytodanmikpajeeaa
open Go Go.Proofs Go.RowKit Go.ChangeShapes Go.WideShapes Go.Deep
section
variable {H : Type} {enc : TypeId × Value → H} {w : World} {base : Nat} {spare : Nat → Bool} {held : Bool}

theorem fld {P : Program} {fs : Array Field} {cs : List Value} {xs : List (DataW H × List MemPlace)} {n : Nat} (hx : xs.length = fs.size) (hf : ∀ (i : Nat) (f : Field), fs[i]? = some f → DataW.trod enc P w base spare held n f.type ((cs.drop f.offset).take (P.cellsOf f.type)) = xs[i]?)
    (i : Nat) {f : Field} (hi : fs[i]? = some f) (t o c : Nat) (ht : f.type = t) (ho : f.offset = o) (hc : P.cellsOf t = c) : ∃ y, DataW.trod enc P w base spare held n t ((cs.drop o).take c) = some y := by
  have hl : i < fs.size := (Array.getElem?_eq_some_iff.1 hi).1
  have h := hf i f hi
  rw [ht, ho, hc, List.getElem?_eq_getElem (by omega)] at h
  exact ⟨_, h⟩
theorem slice_val {P : Program} {t e : TypeId} {fuel : Nat} {c : Value} {x : DataW H × List MemPlace} (ht : P.underlying t = some (.slice e)) (h : DataW.trod enc P w base spare held fuel t [c] = some x) : ∃ a n k, c = .slice a n k := by
  rcases open_slice ht h with ⟨h0, _⟩ | ⟨a, len, cap, m, n, D, Pl, h0, _⟩
  · exact ⟨none, 0, 0, by simpa using h0⟩
  · exact ⟨_, _, _, by simpa using h0⟩

theorem c_int : Try.prog.cellsOf 3 = 1 := by kernel_rfl
theorem c_u32 : Try.prog.cellsOf 37 = 1 := by kernel_rfl
theorem c_u64 : Try.prog.cellsOf 38 = 1 := by kernel_rfl
theorem c_bool : Try.prog.cellsOf 4 = 1 := by kernel_rfl
theorem c_str : Try.prog.cellsOf 9 = 1 := by kernel_rfl
theorem c_errno : Try.prog.cellsOf 35 = 1 := by kernel_rfl
theorem c_sk : Try.prog.cellsOf 71 = 8 := by kernel_rfl
theorem c_sum : Try.prog.cellsOf 40 = 2 := by kernel_rfl
theorem c_sign : Try.prog.cellsOf 42 = 3 := by kernel_rfl
theorem c_sig : Try.prog.cellsOf 44 = 6 := by kernel_rfl
theorem c_entry : Try.prog.cellsOf 73 = 16 := by kernel_rfl
theorem c_msg : Try.prog.cellsOf 47 = 14 := by kernel_rfl
theorem c_opts : Try.prog.cellsOf 24 = 6 := by kernel_rfl
theorem c_task : Try.prog.cellsOf 26 = 10 := by kernel_rfl
theorem c_flittingref15_Sign : Try.prog.cellsOf 36 = 1 := by kernel_rfl
theorem c_api_Entry : Try.prog.cellsOf 45 = 1 := by kernel_rfl
theorem c_api_Rule : Try.prog.cellsOf 22 = 1 := by kernel_rfl

set_option maxRecDepth 100000 in
theorem open_sk {fuel : Nat} {cs : List Value} {x : DataW H × List MemPlace} (h : DataW.trod enc Try.prog w base spare held fuel 71 cs = some x) : ∃ s0 s1 s2 s3 s4 s5 s6 s7, cs = [.int .u64 s0, .int .u64 s1, .int .u64 s2, .int .u64 s3, .int .u64 s4, .int .u64 s5, .int .u64 s6, .int .u64 s7] := by
  obtain ⟨xs, m, _, _, hl, hx, hf⟩ := DataW.trod_array Try.underlying71 h
  rw [c_sk] at hl
  have g : ∀ i, i < 8 → ∃ y, DataW.trod enc Try.prog w base spare held m 38 ((cs.drop (i * 1)).take 1) = some y := fun i hi => by
    have := hf i hi
    rw [c_u64, List.getElem?_eq_getElem (by omega)] at this
    exact ⟨_, this⟩
  match cs, hl with
  | [v0, v1, v2, v3, v4, v5, v6, v7], _ =>
    obtain ⟨y0, g0⟩ := g 0 (by decide)
    obtain ⟨s0, hk0, _⟩ := DataW.trod_int Try.underlying38 g0
    obtain rfl : v0 = .int .u64 s0 := by simpa using hk0
    obtain ⟨y1, g1⟩ := g 1 (by decide)
    obtain ⟨s1, hk1, _⟩ := DataW.trod_int Try.underlying38 g1
    obtain rfl : v1 = .int .u64 s1 := by simpa using hk1
    obtain ⟨y2, g2⟩ := g 2 (by decide)
    obtain ⟨s2, hk2, _⟩ := DataW.trod_int Try.underlying38 g2
    obtain rfl : v2 = .int .u64 s2 := by simpa using hk2
    obtain ⟨y3, g3⟩ := g 3 (by decide)
    obtain ⟨s3, hk3, _⟩ := DataW.trod_int Try.underlying38 g3
    obtain rfl : v3 = .int .u64 s3 := by simpa using hk3
    obtain ⟨y4, g4⟩ := g 4 (by decide)
    obtain ⟨s4, hk4, _⟩ := DataW.trod_int Try.underlying38 g4
    obtain rfl : v4 = .int .u64 s4 := by simpa using hk4
    obtain ⟨y5, g5⟩ := g 5 (by decide)
    obtain ⟨s5, hk5, _⟩ := DataW.trod_int Try.underlying38 g5
    obtain rfl : v5 = .int .u64 s5 := by simpa using hk5
    obtain ⟨y6, g6⟩ := g 6 (by decide)
    obtain ⟨s6, hk6, _⟩ := DataW.trod_int Try.underlying38 g6
    obtain rfl : v6 = .int .u64 s6 := by simpa using hk6
    obtain ⟨y7, g7⟩ := g 7 (by decide)
    obtain ⟨s7, hk7, _⟩ := DataW.trod_int Try.underlying38 g7
    obtain rfl : v7 = .int .u64 s7 := by simpa using hk7
    exact ⟨_, _, _, _, _, _, _, _, rfl⟩
set_option maxRecDepth 100000 in
theorem open_sum {fuel : Nat} {cs : List Value} {x : DataW H × List MemPlace} (h : DataW.trod enc Try.prog w base spare held fuel 40 cs = some x) : ∃ hi lo, cs = [.int .u64 hi, .int .u64 lo] := by
  obtain ⟨xs, n, _, _, hl, hx, hf⟩ := DataW.trod_struct Try.underlying40 h
  rw [c_sum] at hl
  match cs, hl with
  | [v0, v1], _ =>
    obtain ⟨y0, g0⟩ := fld hx hf 0 rfl 38 0 1 rfl rfl c_u64
    obtain ⟨hi, hk0, _⟩ := DataW.trod_int Try.underlying38 g0
    obtain rfl : v0 = .int .u64 hi := by simpa using hk0
    obtain ⟨y1, g1⟩ := fld hx hf 1 rfl 38 1 1 rfl rfl c_u64
    obtain ⟨lo, hk1, _⟩ := DataW.trod_int Try.underlying38 g1
    obtain rfl : v1 = .int .u64 lo := by simpa using hk1
    exact ⟨_, _, rfl⟩
set_option maxRecDepth 100000 in
theorem open_sign {fuel : Nat} {cs : List Value} {x : DataW H × List MemPlace} (h : DataW.trod enc Try.prog w base spare held fuel 42 cs = some x) : ∃ x hi lo, cs = [.int .u32 x, .int .u64 hi, .int .u64 lo] := by
  obtain ⟨xs, n, _, _, hl, hx, hf⟩ := DataW.trod_struct Try.underlying42 h
  rw [c_sign] at hl
  match cs, hl with
  | [v0, v1, v2], _ =>
    obtain ⟨y0, g0⟩ := fld hx hf 0 rfl 37 0 1 rfl rfl c_u32
    obtain ⟨x, hk0, _⟩ := DataW.trod_int Try.underlying37 g0
    obtain rfl : v0 = .int .u32 x := by simpa using hk0
    obtain ⟨y1, g1⟩ := fld hx hf 1 rfl 40 1 2 rfl rfl c_sum
    obtain ⟨hi, lo, hk1⟩ := open_sum g1
    obtain ⟨rfl, rfl⟩ : v1 = .int .u64 hi ∧ v2 = .int .u64 lo := by simpa using hk1
    exact ⟨_, _, _, rfl⟩
set_option maxRecDepth 100000 in
theorem open_sig {fuel : Nat} {cs : List Value} {x : DataW H × List MemPlace} (h : DataW.trod enc Try.prog w base spare held fuel 44 cs = some x) : ∃ sz sa sn sc tl lw lh ll, cs = [.int .i64 sz, .slice sa sn sc, .int .i64 tl, .int .u32 lw, .int .u64 lh, .int .u64 ll] ∧ (∃ m y, DataW.trod enc Try.prog w base spare held m 36 [.slice sa sn sc] = some y) := by
  obtain ⟨xs, n, _, _, hl, hx, hf⟩ := DataW.trod_struct Try.underlying44 h
  rw [c_sig] at hl
  match cs, hl with
  | [v0, v1, v2, v3, v4, v5], _ =>
    obtain ⟨y0, g0⟩ := fld hx hf 0 rfl 3 0 1 rfl rfl c_int
    obtain ⟨sz, hk0, _⟩ := DataW.trod_int Try.underlying3 g0
    obtain rfl : v0 = .int .i64 sz := by simpa using hk0
    obtain ⟨y1, g1⟩ := fld hx hf 1 rfl 36 1 1 rfl rfl c_flittingref15_Sign
    obtain ⟨sa, sn, sc, rfl⟩ := slice_val Try.underlying36 (c := v1) g1
    obtain ⟨y2, g2⟩ := fld hx hf 2 rfl 3 2 1 rfl rfl c_int
    obtain ⟨tl, hk2, _⟩ := DataW.trod_int Try.underlying3 g2
    obtain rfl : v2 = .int .i64 tl := by simpa using hk2
    obtain ⟨y3, g3⟩ := fld hx hf 3 rfl 42 3 3 rfl rfl c_sign
    obtain ⟨lw, lh, ll, hk3⟩ := open_sign g3
    obtain ⟨rfl, rfl, rfl⟩ : v3 = .int .u32 lw ∧ v4 = .int .u64 lh ∧ v5 = .int .u64 ll := by simpa using hk3
    exact ⟨_, _, _, _, _, _, _, _, rfl, ⟨_, _, g1⟩⟩
set_option maxRecDepth 100000 in
theorem open_entry {fuel : Nat} {cs : List Value} {x : DataW H × List MemPlace} (h : DataW.trod enc Try.prog w base spare held fuel 73 cs = some x) : ∃ p k m t sz hi lo d s0 s1 s2 s3 s4 s5 s6 s7, cs = [.string p, .int .i64 k, .int .i64 m, .int .i64 t, .int .i64 sz, .int .u64 hi, .int .u64 lo, .string d, .int .u64 s0, .int .u64 s1, .int .u64 s2, .int .u64 s3, .int .u64 s4, .int .u64 s5, .int .u64 s6, .int .u64 s7] ∧ p.size ≤ maxLen ∧ d.size ≤ maxLen := by
  obtain ⟨xs, n, _, _, hl, hx, hf⟩ := DataW.trod_struct Try.underlying73 h
  rw [c_entry] at hl
  match cs, hl with
  | [v0, v1, v2, v3, v4, v5, v6, v7, v8, v9, v10, v11, v12, v13, v14, v15], _ =>
    obtain ⟨y0, g0⟩ := fld hx hf 0 rfl 9 0 1 rfl rfl c_str
    obtain ⟨p, hk0, _, z0⟩ := DataW.trod_string Try.underlying9 g0
    obtain rfl : v0 = .string p := by simpa using hk0
    obtain ⟨y1, g1⟩ := fld hx hf 1 rfl 3 1 1 rfl rfl c_int
    obtain ⟨k, hk1, _⟩ := DataW.trod_int Try.underlying3 g1
    obtain rfl : v1 = .int .i64 k := by simpa using hk1
    obtain ⟨y2, g2⟩ := fld hx hf 2 rfl 3 2 1 rfl rfl c_int
    obtain ⟨m, hk2, _⟩ := DataW.trod_int Try.underlying3 g2
    obtain rfl : v2 = .int .i64 m := by simpa using hk2
    obtain ⟨y3, g3⟩ := fld hx hf 3 rfl 3 3 1 rfl rfl c_int
    obtain ⟨t, hk3, _⟩ := DataW.trod_int Try.underlying3 g3
    obtain rfl : v3 = .int .i64 t := by simpa using hk3
    obtain ⟨y4, g4⟩ := fld hx hf 4 rfl 3 4 1 rfl rfl c_int
    obtain ⟨sz, hk4, _⟩ := DataW.trod_int Try.underlying3 g4
    obtain rfl : v4 = .int .i64 sz := by simpa using hk4
    obtain ⟨y5, g5⟩ := fld hx hf 5 rfl 40 5 2 rfl rfl c_sum
    obtain ⟨hi, lo, hk5⟩ := open_sum g5
    obtain ⟨rfl, rfl⟩ : v5 = .int .u64 hi ∧ v6 = .int .u64 lo := by simpa using hk5
    obtain ⟨y6, g6⟩ := fld hx hf 6 rfl 9 7 1 rfl rfl c_str
    obtain ⟨d, hk6, _, z6⟩ := DataW.trod_string Try.underlying9 g6
    obtain rfl : v7 = .string d := by simpa using hk6
    obtain ⟨y7, g7⟩ := fld hx hf 7 rfl 71 8 8 rfl rfl c_sk
    obtain ⟨s0, s1, s2, s3, s4, s5, s6, s7, hk7⟩ := open_sk g7
    obtain ⟨rfl, rfl, rfl, rfl, rfl, rfl, rfl, rfl⟩ : v8 = .int .u64 s0 ∧ v9 = .int .u64 s1 ∧ v10 = .int .u64 s2 ∧ v11 = .int .u64 s3 ∧ v12 = .int .u64 s4 ∧ v13 = .int .u64 s5 ∧ v14 = .int .u64 s6 ∧ v15 = .int .u64 s7 := by simpa using hk7
    exact ⟨_, _, _, _, _, _, _, _, _, _, _, _, _, _, _, _, rfl, z0, z6⟩
set_option maxRecDepth 100000 in
theorem open_msg {fuel : Nat} {cs : List Value} {x : DataW H × List MemPlace} (h : DataW.trod enc Try.prog w base spare held fuel 47 cs = some x) : ∃ k n at_ tt y c s sz sa sn sc tl lw lh ll ea en ec, cs = [.int .i64 k, .int .i64 n, .int .i64 at_, .int .i64 tt, .bool y, .int .i64 c, .string s, .int .i64 sz, .slice sa sn sc, .int .i64 tl, .int .u32 lw, .int .u64 lh, .int .u64 ll, .slice ea en ec] ∧ s.size ≤ maxLen ∧ (∃ m y, DataW.trod enc Try.prog w base spare held m 36 [.slice sa sn sc] = some y) ∧ (∃ m y, DataW.trod enc Try.prog w base spare held m 45 [.slice ea en ec] = some y) := by
  obtain ⟨xs, n, _, _, hl, hx, hf⟩ := DataW.trod_struct Try.underlying47 h
  rw [c_msg] at hl
  match cs, hl with
  | [v0, v1, v2, v3, v4, v5, v6, v7, v8, v9, v10, v11, v12, v13], _ =>
    obtain ⟨y0, g0⟩ := fld hx hf 0 rfl 3 0 1 rfl rfl c_int
    obtain ⟨k, hk0, _⟩ := DataW.trod_int Try.underlying3 g0
    obtain rfl : v0 = .int .i64 k := by simpa using hk0
    obtain ⟨y1, g1⟩ := fld hx hf 1 rfl 3 1 1 rfl rfl c_int
    obtain ⟨n, hk1, _⟩ := DataW.trod_int Try.underlying3 g1
    obtain rfl : v1 = .int .i64 n := by simpa using hk1
    obtain ⟨y2, g2⟩ := fld hx hf 2 rfl 3 2 1 rfl rfl c_int
    obtain ⟨at_, hk2, _⟩ := DataW.trod_int Try.underlying3 g2
    obtain rfl : v2 = .int .i64 at_ := by simpa using hk2
    obtain ⟨y3, g3⟩ := fld hx hf 3 rfl 3 3 1 rfl rfl c_int
    obtain ⟨tt, hk3, _⟩ := DataW.trod_int Try.underlying3 g3
    obtain rfl : v3 = .int .i64 tt := by simpa using hk3
    obtain ⟨y4, g4⟩ := fld hx hf 4 rfl 4 4 1 rfl rfl c_bool
    obtain ⟨y, hk4, _⟩ := DataW.trod_bool Try.underlying4 g4
    obtain rfl : v4 = .bool y := by simpa using hk4
    obtain ⟨y5, g5⟩ := fld hx hf 5 rfl 35 5 1 rfl rfl c_errno
    obtain ⟨c, hk5, _⟩ := DataW.trod_int Try.underlying35 g5
    obtain rfl : v5 = .int .i64 c := by simpa using hk5
    obtain ⟨y6, g6⟩ := fld hx hf 6 rfl 9 6 1 rfl rfl c_str
    obtain ⟨s, hk6, _, z6⟩ := DataW.trod_string Try.underlying9 g6
    obtain rfl : v6 = .string s := by simpa using hk6
    obtain ⟨y7, g7⟩ := fld hx hf 7 rfl 44 7 6 rfl rfl c_sig
    obtain ⟨sz, sa, sn, sc, tl, lw, lh, ll, hk7, q7_0⟩ := open_sig g7
    obtain ⟨rfl, rfl, rfl, rfl, rfl, rfl⟩ : v7 = .int .i64 sz ∧ v8 = .slice sa sn sc ∧ v9 = .int .i64 tl ∧ v10 = .int .u32 lw ∧ v11 = .int .u64 lh ∧ v12 = .int .u64 ll := by simpa using hk7
    obtain ⟨y8, g8⟩ := fld hx hf 8 rfl 45 13 1 rfl rfl c_api_Entry
    obtain ⟨ea, en, ec, rfl⟩ := slice_val Try.underlying45 (c := v13) g8
    exact ⟨_, _, _, _, _, _, _, _, _, _, _, _, _, _, _, _, _, _, rfl, z6, q7_0, ⟨_, _, g8⟩⟩
set_option maxRecDepth 100000 in
theorem open_opts {fuel : Nat} {cs : List Value} {x : DataW H × List MemPlace} (h : DataW.trod enc Try.prog w base spare held fuel 24 cs = some x) : ∃ d1 d2 d3 ra rn rc bl pc, cs = [.bool d1, .bool d2, .bool d3, .slice ra rn rc, .int .i64 bl, .int .i64 pc] := by
  obtain ⟨xs, n, _, _, hl, hx, hf⟩ := DataW.trod_struct Try.underlying24 h
  rw [c_opts] at hl
  match cs, hl with
  | [v0, v1, v2, v3, v4, v5], _ =>
    obtain ⟨y0, g0⟩ := fld hx hf 0 rfl 4 0 1 rfl rfl c_bool
    obtain ⟨d1, hk0, _⟩ := DataW.trod_bool Try.underlying4 g0
    obtain rfl : v0 = .bool d1 := by simpa using hk0
    obtain ⟨y1, g1⟩ := fld hx hf 1 rfl 4 1 1 rfl rfl c_bool
    obtain ⟨d2, hk1, _⟩ := DataW.trod_bool Try.underlying4 g1
    obtain rfl : v1 = .bool d2 := by simpa using hk1
    obtain ⟨y2, g2⟩ := fld hx hf 2 rfl 4 2 1 rfl rfl c_bool
    obtain ⟨d3, hk2, _⟩ := DataW.trod_bool Try.underlying4 g2
    obtain rfl : v2 = .bool d3 := by simpa using hk2
    obtain ⟨y3, g3⟩ := fld hx hf 3 rfl 22 3 1 rfl rfl c_api_Rule
    obtain ⟨ra, rn, rc, rfl⟩ := slice_val Try.underlying22 (c := v3) g3
    obtain ⟨y4, g4⟩ := fld hx hf 4 rfl 3 4 1 rfl rfl c_int
    obtain ⟨bl, hk4, _⟩ := DataW.trod_int Try.underlying3 g4
    obtain rfl : v4 = .int .i64 bl := by simpa using hk4
    obtain ⟨y5, g5⟩ := fld hx hf 5 rfl 3 5 1 rfl rfl c_int
    obtain ⟨pc, hk5, _⟩ := DataW.trod_int Try.underlying3 g5
    obtain rfl : v5 = .int .i64 pc := by simpa using hk5
    exact ⟨_, _, _, _, _, _, _, _, rfl⟩
set_option maxRecDepth 100000 in
theorem open_task {fuel : Nat} {cs : List Value} {x : DataW H × List MemPlace} (h : DataW.trod enc Try.prog w base spare held fuel 26 cs = some x) : ∃ k n data old d1 d2 d3 ra rn rc bl pc, cs = [.int .i64 k, .int .i64 n, .string data, .string old, .bool d1, .bool d2, .bool d3, .slice ra rn rc, .int .i64 bl, .int .i64 pc] ∧ data.size ≤ maxLen ∧ old.size ≤ maxLen := by
  obtain ⟨xs, n, _, _, hl, hx, hf⟩ := DataW.trod_struct Try.underlying26 h
  rw [c_task] at hl
  match cs, hl with
  | [v0, v1, v2, v3, v4, v5, v6, v7, v8, v9], _ =>
    obtain ⟨y0, g0⟩ := fld hx hf 0 rfl 3 0 1 rfl rfl c_int
    obtain ⟨k, hk0, _⟩ := DataW.trod_int Try.underlying3 g0
    obtain rfl : v0 = .int .i64 k := by simpa using hk0
    obtain ⟨y1, g1⟩ := fld hx hf 1 rfl 3 1 1 rfl rfl c_int
    obtain ⟨n, hk1, _⟩ := DataW.trod_int Try.underlying3 g1
    obtain rfl : v1 = .int .i64 n := by simpa using hk1
    obtain ⟨y2, g2⟩ := fld hx hf 2 rfl 9 2 1 rfl rfl c_str
    obtain ⟨data, hk2, _, z2⟩ := DataW.trod_string Try.underlying9 g2
    obtain rfl : v2 = .string data := by simpa using hk2
    obtain ⟨y3, g3⟩ := fld hx hf 3 rfl 9 3 1 rfl rfl c_str
    obtain ⟨old, hk3, _, z3⟩ := DataW.trod_string Try.underlying9 g3
    obtain rfl : v3 = .string old := by simpa using hk3
    obtain ⟨y4, g4⟩ := fld hx hf 4 rfl 24 4 6 rfl rfl c_opts
    obtain ⟨d1, d2, d3, ra, rn, rc, bl, pc, hk4⟩ := open_opts g4
    obtain ⟨rfl, rfl, rfl, rfl, rfl, rfl⟩ : v4 = .bool d1 ∧ v5 = .bool d2 ∧ v6 = .bool d3 ∧ v7 = .slice ra rn rc ∧ v8 = .int .i64 bl ∧ v9 = .int .i64 pc := by simpa using hk4
    exact ⟨_, _, _, _, _, _, _, _, _, _, _, _, rfl, z2, z3⟩
end
end Go.Proofs.Ytodanmikpajeeaa
