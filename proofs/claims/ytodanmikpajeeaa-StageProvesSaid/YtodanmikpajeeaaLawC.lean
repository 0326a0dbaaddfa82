/- WHAT A PROOF ASKS, AND WHAT IT MAKES OF WHATEVER IT IS TOLD: the law of layer 33 returns true for every input. -/
import Derived.Test.YtodanmikpajeeaaLawB
import Derived.Test.YtodanmikpajeeaaOpen
import Derived.Test.YtodanmikpajeeaaRows
import Derived.ProofKit
import Derived.Carry
namespace Go.Proofs.Ytodanmikpajeeaa
open Go Go.Proofs Go.ChangeShapes Go.WideShapes Go.ChangeAt Go.RowKit Go.Deep

section
variable {H : Type} {enc : TypeId × Value → H} {w : World}
/-- A slice that came in, by its elements' cells. -/
theorem rows_of {P : Program} {t e : TypeId} {k fuel : Nat} {x : DataW H × List MemPlace} {a : Option Addr} {n c : Nat} (hk : 0 < k) (ht : P.underlying t = some (.slice e)) (hc : P.cellsOf e = k)
    (h : DataW.trod enc P w 0 (fun _ => true) true fuel t [.slice a n c] = some x) :
    n ≤ maxLen ∧ (n = 0 ∨ ∃ b off, a = some ⟨b, off, none⟩ ∧ b < w.heap.size ∧ ∀ j, j < n → ∃ cs m y, DataW.trod enc P w 0 (fun _ => true) true m e cs = some y ∧ cs.length = k ∧ ∀ i, i < k → w.cell? ⟨b, off + j * k + i, none⟩ = cs[i]?) := by
  rcases open_slice ht h with ⟨h0, _⟩ | ⟨ad, len, cap, m, f, D, Pl, hcs, _, hl, hm, hmm, _, hall⟩
  · simp only [List.cons.injEq, Value.slice.injEq, and_true] at h0
    exact ⟨by unfold maxLen; omega, Or.inl h0.2.1⟩
  · simp only [List.cons.injEq, Value.slice.injEq, and_true] at hcs
    obtain ⟨rfl, rfl, rfl⟩ := hcs
    refine ⟨by omega, ?_⟩
    rcases Nat.eq_zero_or_pos n with h0 | h0
    · exact Or.inl h0
    right
    have hmc : m = c := by simpa using hmm
    rw [hc] at hall
    have g : ∀ j, j < n → ∃ cs y, DataW.trod enc P w 0 (fun _ => true) true f e cs = some y ∧ cs.length = k ∧ ∀ i, i < k → w.cell? ((ad.add (j * k)).add i) = cs[i]? := fun j hj => by
      obtain ⟨cs, h1, h2⟩ := hall j (by omega)
      obtain ⟨_, h3, h4⟩ := World.cells?_some h1
      exact ⟨cs, _, h2, h3, h4⟩
    obtain ⟨cs0, _, _, hl0, hz⟩ := g 0 h0
    have hz0 := hz 0 hk
    rw [List.getElem?_eq_getElem (by omega)] at hz0
    simp only [Nat.zero_mul] at hz0
    have e0 : (ad.add 0).add 0 = ad := by simp [Addr.add]
    rw [e0] at hz0
    have hsp := World.cell?_spot hz0
    obtain ⟨b, off, spot⟩ := ad
    simp only at hsp
    subst hsp
    refine ⟨b, off, rfl, ?_, fun j hj => ?_⟩
    · rcases Nat.lt_or_ge b w.heap.size with hb | hb
      · exact hb
      · simp [World.cell?, Array.getElem?_eq_none hb] at hz0
    · obtain ⟨cs, y, h1, h2, h3⟩ := g j hj
      refine ⟨cs, f, y, h1, h2, fun i hi => ?_⟩
      have := h3 i hi
      rwa [Addr.add_mid, Addr.add_mid] at this

theorem signs_of {fuel : Nat} {x : DataW H × List MemPlace} {a : Option Addr} {n c : Nat} (h : DataW.trod enc Try.prog w 0 (fun _ => true) true fuel 36 [.slice a n c] = some x) : SignsRaw w a n := by
  obtain ⟨_, h0 | ⟨b, off, ha, hb, hall⟩⟩ := rows_of (by decide) Try.underlying36 c_sign h
  · exact Or.inl h0
  · refine Or.inr ⟨b, off, ha, hb, fun j hj => ?_⟩
    obtain ⟨cs, m, y, h1, h2, h3⟩ := hall j hj
    obtain ⟨u, v, z, rfl⟩ := open_sign h1
    exact ⟨u, v, z, h3 0 (by decide), h3 1 (by decide), h3 2 (by decide)⟩
theorem ents_of {fuel : Nat} {x : DataW H × List MemPlace} {a : Option Addr} {n c : Nat} (h : DataW.trod enc Try.prog w 0 (fun _ => true) true fuel 45 [.slice a n c] = some x) : EntsRaw w (.slice a n c) := by
  obtain ⟨hn, h0 | ⟨b, off, ha, hb, hall⟩⟩ := rows_of (by decide) Try.underlying45 c_entry h
  · exact ⟨a, n, c, rfl, hn, Or.inl h0⟩
  · refine ⟨a, n, c, rfl, hn, Or.inr ⟨b, off, ha, hb, fun j hj => ?_⟩⟩
    obtain ⟨cs, m, y, h1, h2, h3⟩ := hall j hj
    obtain ⟨p, k, mm, t, sz, hi, lo, d, s0, s1, s2, s3, s4, s5, s6, s7, rfl, _⟩ := open_entry h1
    refine ⟨p, k, mm, t, sz, hi, lo, d, s0, s1, s2, s3, s4, s5, s6, s7, fun i u hu => ?_⟩
    have hi' : i < 16 := by
      rcases Nat.lt_or_ge i 16 with hlt | hge
      · exact hlt
      · rw [Array.getElem?_eq_none (show (entL p k mm t sz hi lo d s0 s1 s2 s3 s4 s5 s6 s7).size ≤ i from hge)] at hu
        cases hu
    rw [h3 i hi', ← hu]
    unfold entL
    rw [List.getElem?_toArray]
theorem msgs_of {fuel : Nat} {x : DataW H × List MemPlace} {a : Option Addr} {n c : Nat} (h : DataW.trod enc Try.prog w 0 (fun _ => true) true fuel 27 [.slice a n c] = some x) : n ≤ maxLen ∧ MsgRow w a n := by
  obtain ⟨hn, h0 | ⟨b, off, ha, hb, hall⟩⟩ := rows_of (by decide) Try.underlying27 c_msg h
  · exact ⟨hn, Or.inl h0⟩
  · refine ⟨hn, Or.inr ⟨b, off, ha, hb, fun j hj => ?_⟩⟩
    obtain ⟨cs, m, y, h1, h2, h3⟩ := hall j hj
    obtain ⟨k, nn, at_, tt, yy, cc, s, sz, sa, sn, sc, tl, lw, lh, ll, ea, en, ec, rfl, hs, ⟨_, _, q1⟩, ⟨_, _, q2⟩⟩ := open_msg h1
    refine ⟨k, nn, at_, tt, yy, cc, s, sz, sa, sn, sc, tl, lw, lh, ll, ea, en, ec, fun i u hu => ?_, hs, signs_of q1, ents_of q2⟩
    have hi' : i < 14 := by
      rcases Nat.lt_or_ge i 14 with hlt | hge
      · exact hlt
      · rw [Array.getElem?_eq_none (show (msgL k nn at_ tt yy cc s sz sa sn sc tl lw lh ll ea en ec).size ≤ i from hge)] at hu
        cases hu
    rw [h3 i hi', ← hu]
    unfold msgL
    rw [List.getElem?_toArray]
end

theorem Try.own : ownKnob Try.prog.godebug = none := by kernel_rfl
theorem Try.laidOut : laidOutB Try.prog = true := by kernel_rfl

set_option maxRecDepth 100000 in
theorem proves_lifted (os : Os) (started : os.Started) (H : Type) (enc : TypeId × Value → H) :
    ReturnsInHanded {} Try.checked os 3 .any (Rows.stageProvesSpec.pre6 enc Try.prog Try.f3 Rows.stageProvesRow.domain false) (Rows.stageProvesSpec.post enc Try.prog Try.f3 false true false false) := by
  refine returnsInHanded_of_change (C := Try.checked) Try.own started (by kernel_rfl) Try.func3
    (ChangeSpec.witness6 (enc := enc) (C := Try.checked) false ⟨#[], #[.agg #[.int .i64 0, .int .i64 0, .string ByteArray.empty, .string ByteArray.empty, .bool false, .bool false, .bool false, .slice none 0 0, .int .i64 0, .int .i64 0], .slice none 0 0], []⟩ 12 (by kernel_rfl) (by kernel_rfl) (by kernel_rfl) (by kernel_rfl)) ?_
  intro W base args ds gs before hval0 hW _ _
  have hval : ∀ (j : Nat) t v, Try.f3.params[j]? = some t → args[j]? = some v → Value.okWide Try.prog W .any base t v := hval0
  have hW' := hW
  obtain ⟨p, q, hA0, hV, rfl, _, _⟩ := hW
  have hA : DataW.TrodAll enc Try.prog W 0 (fun _ => true) true Try.f3.params.toList args.toList ds p := hA0
  rw [Try.params3] at hA hval
  obtain ⟨v0, v1, d0, d1, p0, p1, rfl, rfl, rfl, h0, h1⟩ := trodAll_two hA
  obtain ⟨rfl, rfl⟩ := trodVars_none hV
  have h0k := h0
  have h1k := h1
  obtain ⟨cs0, rfl, hsz0⟩ := okWide_struct Try.underlying26 (hval 0 26 v0 rfl rfl)
  obtain ⟨la, ln, lc, rfl⟩ := okWide_slice Try.underlying27 (hval 1 27 v1 rfl rfl)
  obtain ⟨fu0, h0⟩ := h0
  obtain ⟨fu1, h1⟩ := h1
  clear hA0 hval0
  simp only [List.append_nil] at hW'
  have hlt : ∀ x ∈ p0 ++ p1, x.block < W.heap.size := fun x hx => hW'.lt x hx
  obtain ⟨k, n, data, old, e1, e2, e3, ra, rn, rc, bl, pc, hcs, _, _⟩ := open_task h0
  obtain rfl : cs0 = #[.int .i64 k, .int .i64 n, .string data, .string old, .bool e1, .bool e2, .bool e3, .slice ra rn rc, .int .i64 bl, .int .i64 pc] := by
    have : cs0.toList = _ := hcs
    exact Array.toList_inj.1 this
  obtain ⟨hn, hrow⟩ := msgs_of h1
  refine (law_true k n data old e1 e2 e3 ra rn rc bl pc la ln lc W hn hrow).mono fun e W' ⟨he, hE⟩ => ?_
  subst he
  refine ⟨_, rfl, _, _, _, [], p0 ++ p1, [], hW', ?_, ?_, rfl, Below.frame hE _, fun h => by cases h⟩
  · exact trodAll_mk1 (shut_bool Try.underlying4 true)
  · exact trodAll_mk2 (Below.trod Try.laidOut (by kernel_rfl) (of_decide_eq_true (by kernel_rfl)) h0k hE (fun x hx => hlt x (List.mem_append_left _ hx)))
      (Below.trod Try.laidOut (by kernel_rfl) (of_decide_eq_true (by kernel_rfl)) h1k hE (fun x hx => hlt x (List.mem_append_right _ hx)))

theorem proves_holds : Rows.StageProvesSaid :=
  OpenClaim.holds_of_wide 3 Try.f3 rfl rfl rfl rfl rfl rfl rfl ⟨rfl, rfl, rfl, rfl, rfl⟩ rfl rfl rfl rfl rfl (by kernel_rfl) Try.func3 (by kernel_rfl)
    (of_decide_eq_true (by kernel_rfl)) (by unfold Func.isWrapper; first | (rw [if_pos (by decide +kernel)]; kernel_rfl) | (rw [if_neg (by decide +kernel)]; exact ⟨rfl, rfl⟩))
    (fun os started H enc _ => proves_lifted os started H enc)
#print axioms proves_holds
end Go.Proofs.Ytodanmikpajeeaa
