/- Whether a path is within another one (layer 1), the program's side: the walks. -/
import Derived.Test.YtiopahkigbdmcaaGreatMg
namespace Go.Proofs.YtiopahkigbdmcaaGreat
open Go Go.Proofs Go.RowKit

theorem glue_append (A B : List (List Int)) (hA : A ≠ []) (hB : B ≠ []) : glueF (A ++ B) = glueF A ++ 47 :: glueF B := by
  induction A with
  | nil => exact absurd rfl hA
  | cons a r ih =>
    by_cases hr : r = []
    · subst hr; rw [List.cons_append, List.nil_append, glueF_cons a B hB]; rfl
    · rw [List.cons_append, glueF_cons a _ (by simp [hr]), ih hr, glueF_cons a r hr]; simp
theorem split_append (n : Nat) : ∀ q d : List Int, q.length ≤ n → splitF (q ++ 47 :: d) = splitF q ++ splitF d := by
  induction n with
  | zero => intro q d h; have : q = [] := List.eq_nil_of_length_eq_zero (by omega); subst this; rw [splitF_none [] (by simp), splitF_at [] d (by simp)]; rfl
  | succ n ih =>
    intro q d h
    rcases first_slash q with hq | ⟨a, r, rfl, ha⟩
    · rw [splitF_at q d hq, splitF_none q hq]; rfl
    · rw [List.append_assoc, List.cons_append, splitF_at a _ ha, splitF_at a r ha, ih r d (by rw [List.length_append, List.length_cons] at h; omega)]; rfl
theorem split_prefix (p q : List Int) : splitF q <+: splitF p ↔ ∃ d, p = q ++ d ∧ (d = [] ∨ d.head? = some 47) := by
  constructor
  · rintro ⟨r, hr⟩
    by_cases h : r = []
    · subst h
      rw [List.append_nil] at hr
      exact ⟨[], by rw [List.append_nil, ← glue_split p, ← hr, glue_split], Or.inl rfl⟩
    · exact ⟨47 :: glueF r, by rw [← glue_split p, ← hr, glue_append _ _ (splitF_ne _) h, glue_split], Or.inr rfl⟩
  · rintro ⟨d, rfl, rfl | h⟩
    · rw [List.append_nil]; exact List.prefix_refl _
    · cases d with
      | nil => cases h
      | cons c d =>
        obtain rfl : c = 47 := by simpa using h
        rw [split_append _ q d (Nat.le_refl _)]
        exact List.prefix_append _ _
theorem cut_prefix (p q : List Int) : (cutF q).isPrefixOf (cutF p) = true ↔ q = [] ∨ ∃ d, p = q ++ d ∧ (d = [] ∨ d.head? = some 47) := by
  rw [List.isPrefixOf_iff_prefix]
  unfold cutF
  by_cases hq : q = []
  · simp [hq]
  · rw [if_neg hq]
    by_cases hp : p = []
    · subst hp
      rw [if_pos rfl]
      constructor
      · intro h; exact absurd (List.prefix_nil.1 h) (splitF_ne q)
      · rintro (h | ⟨d, h, _⟩)
        · exact absurd h hq
        · have := (List.append_eq_nil_iff.1 h.symm).1; exact absurd this hq
    · rw [if_neg hp, split_prefix]; simp [hq]
theorem pre_txt (p q : ByteArray) : Lib.hasPrefix p.data.toList q.data.toList = true ↔ txt p = txt q ++ (txt p).drop q.size := by
  unfold Lib.hasPrefix
  rw [List.isPrefixOf_iff_prefix]
  constructor
  · rintro ⟨r, hr⟩
    unfold txt
    rw [← hr, List.map_append, List.drop_append_of_le_length (by simp)]
    simp
  · intro h
    have h2 : p.data.toList = q.data.toList ++ p.data.toList.drop q.size := by
      have hi : ∀ a b : UInt8, (a.toNat : Int) = (b.toNat : Int) → a = b := fun a b e => UInt8.toNat_inj.1 (by omega)
      have hm : ∀ l m : List UInt8, l.map (fun b => (b.toNat : Int)) = m.map (fun b => (b.toNat : Int)) → l = m := by
        intro l
        induction l with
        | nil => intro m h; cases m with
          | nil => rfl
          | cons a m => simp at h
        | cons a l ih => intro m h; cases m with
          | nil => simp at h
          | cons b m =>
            rw [List.map_cons, List.map_cons] at h
            injection h with h1 h2
            rw [hi a b h1, ih m h2]
      apply hm
      rw [List.map_append, List.map_drop]
      exact h
    exact ⟨_, h2.symm⟩

def RestTold (p q : ByteArray) (w : World) (e : Ending) (w' : World) : Prop := ∃ s, e = .returned (.tuple #[.string s, .bool (withinF (txt p) (txt q))]) ∧ Ext w w'
theorem rest_told {p q s : ByteArray} {b : Bool} {w w' : World} (h : withinF (txt p) (txt q) = b) (hE : Ext w w') : RestTold p q w (.returned (.tuple #[.string s, .bool b])) w' := ⟨s, by rw [h], hE⟩
theorem empty_is {q : ByteArray} (h : q.size = 0) : q.toList.isEmpty = true := by rw [(toList_txt q []).2 (txt_nil.2 h)]; rfl
theorem empty_not {q : ByteArray} (h : q.size ≠ 0) : q.toList.isEmpty = false := by
  rw [← Bool.not_eq_true, List.isEmpty_iff, toList_txt]
  exact fun e => h (txt_nil.1 e)
set_option maxHeartbeats 2000000 in
set_option maxRecDepth 100000 in
theorem restP_any (p q : ByteArray) (w : World) (hp : p.size ≤ 1000) (hq : q.size ≤ 1000) : Calls Tryz.prog 98 #[.string p, .string q] w (RestTold p q w) := by
  obtain ⟨rp, hrp⟩ : ∃ rp, rightF (txt p) = rp := ⟨_, rfl⟩
  obtain ⟨rq, hrq⟩ : ∃ rq, rightF (txt q) = rq := ⟨_, rfl⟩
  obtain ⟨hb, hhb⟩ : ∃ hb, Lib.hasPrefix p.data.toList q.data.toList = hb := ⟨_, rfl⟩
  have HRP := Lib.hid (fun w => by have h := rightP_any p w (by omega); rw [hrp] at h; exact h)
  have HRQ := Lib.hid (fun w => by have h := rightP_any q w (by omega); rw [hrq] at h; exact h)
  have HHP := Lib.hid (fun w => by have h := Tryz.strings_HasPrefix p q w; rw [hhb] at h; exact h)
  have HF : Hid (withinF (txt p) (txt q) = (rp && rq && (cutF (txt q)).isPrefixOf (cutF (txt p)))) := Lib.hid (by unfold withinF; rw [hrp, hrq])
  have HB : Hid (hb = true ↔ txt p = txt q ++ (txt p).drop q.size) := Lib.hid (by rw [← hhb]; exact pre_txt p q)
  clear hrp hrq hhb
  go_enter Tryz.func98, Tryz.ntmps98
  go_wp2_with fail
  refine (HRP.out _).mono ?_
  rintro e w1 ⟨rfl, hE1⟩
  have hE1 : Ext w w1 := hE1
  have HE1 := Lib.hid hE1; clear hE1
  cases rp
  · have hv : Hid (withinF (txt p) (txt q) = false) := Lib.hid (by rw [HF.out]; rfl)
    go_wp2
    go_ret2
    exact rest_told hv.out HE1.out
  · go_wp2_with fail
    refine (HRQ.out _).mono ?_
    rintro e w2 ⟨rfl, hE2⟩
    have HE2 := Lib.hid (HE1.out.trans hE2); clear hE2
    cases rq
    · have hv : Hid (withinF (txt p) (txt q) = false) := Lib.hid (by rw [HF.out]; rfl)
      go_wp2
      go_ret2
      exact rest_told hv.out HE2.out
    · have HF : Hid (withinF (txt p) (txt q) = (cutF (txt q)).isPrefixOf (cutF (txt p))) := Lib.hid (by rw [HF.out]; rfl)
      go_wp2_with fail
      refine (HHP.out _).mono ?_
      rintro e w3 ⟨rfl, rfl⟩
      cases hb
      · have hv : Hid (withinF (txt p) (txt q) = false) := Lib.hid (by
          rw [HF.out, ← Bool.not_eq_true, cut_prefix]
          intro h
          have hn : ¬ (false = true) := by simp
          apply hn
          rw [HB.out]
          rcases h with h | ⟨d, h, _⟩
          · rw [h, txt_nil.1 h, List.drop_zero]; rfl
          · rw [h, ← txt_len q, List.drop_left])
        go_wp2
        go_ret2
        exact rest_told hv.out HE2.out
      · have hpd := HB.out.1 rfl
        have HPD := Lib.hid hpd; clear hpd HB
        by_cases hq0 : q.size = 0
        · have e1 := empty_is hq0
          have hv : Hid (withinF (txt p) (txt q) = true) := Lib.hid (by rw [HF.out, cut_prefix]; exact Or.inl (txt_nil.2 hq0))
          by_cases hp0 : p.size = 0
          · have e2 := empty_is hp0
            have e3 : (ByteArray.empty).toList.isEmpty = true := empty_is rfl
            go_wp2
            refine wp_draw_all (by kernel_rfl) (by kernel_rfl) ?_
            repeat ((with_reducible refine wpStill_step (fun K hK => ?_)); go_simp; refine hK _ ?_; clear hK K)
            refine wpStill_nil ?_
            go_wp2
            go_ret2
            exact rest_told hv.out HE2.out.drew
          · have e2 := empty_not hp0
            go_wp2
            go_ret2
            exact rest_told hv.out HE2.out
        · have e1 := empty_not hq0
          obtain ⟨r, hr⟩ : ∃ r, p.extract q.size p.size = r := ⟨_, rfl⟩
          have hrt : Hid (txt p = txt q ++ txt r) := Lib.hid (by
            have h : txt r = (txt p).drop q.size := by rw [← hr, txt_extract, List.take_of_length_le (by rw [txt_len]; exact Nat.le_refl _)]
            rw [h]; exact HPD.out)
          have hqp : q.size ≤ p.size := by
            have h := congrArg List.length hrt.out
            rw [List.length_append, txt_len, txt_len, txt_len] at h
            omega
          have HF : Hid (withinF (txt p) (txt q) = true ↔ txt r = [] ∨ (txt r).head? = some 47) := Lib.hid (by
            rw [HF.out, cut_prefix]
            constructor
            · rintro (h | ⟨d, h, h1⟩)
              · exact absurd (txt_nil.1 h) hq0
              · rw [hrt.out] at h
                rw [List.append_cancel_left h]; exact h1
            · intro h; exact Or.inr ⟨_, hrt.out, h⟩)
          clear hrt
          have HR := Lib.hid hr; clear hr
          go_upto_region 6 with fail
          rw [HR.out]
          by_cases hr0 : r.size = 0
          · have e4 := empty_is hr0
            have hv : Hid (withinF (txt p) (txt q) = true) := Lib.hid (HF.out.2 (Or.inl (txt_nil.2 hr0)))
            refine wp_draw_all (by kernel_rfl) (by kernel_rfl) ?_
            repeat ((with_reducible refine wpStill_step (fun K hK => ?_)); go_simp; refine hK _ ?_; clear hK K)
            refine wpStill_nil ?_
            go_wp2
            go_ret2
            exact rest_told hv.out HE2.out.drew
          · have e4 := empty_not hr0
            have hr1 : 0 < r.size := by omega
            have hh : (txt r).head? = some ((r[0].toNat : Nat) : Int) := by
              rw [List.head?_eq_getElem?, List.getElem?_eq_getElem (by rw [txt_len]; exact hr1), txt_at r 0 hr1]
            obtain ⟨b, hb⟩ : ∃ b, (((r[0].toNat : Nat) : Int) == 47) = b := ⟨_, rfl⟩
            have hv : Hid (withinF (txt p) (txt q) = b) := Lib.hid (by
              rw [Bool.eq_iff_iff, HF.out, hh, ← hb, beq_iff_eq, txt_nil]
              simp [hr0])
            clear hh
            refine wp_draw_all (by kernel_rfl) (by kernel_rfl) ?_
            repeat ((with_reducible refine wpStill_step (fun K hK => ?_)); go_simp; refine hK _ ?_; clear hK K)
            refine wpStill_nil ?_
            go_wp2
            go_ret2
            exact rest_told hv.out HE2.out.drew
set_option maxRecDepth 100000 in
theorem withinP_any (p q : ByteArray) (w : World) (hp : p.size ≤ 1000) (hq : q.size ≤ 1000) : Calls Tryz.prog 77 #[.string p, .string q] w (RetV w (.bool (withinF (txt p) (txt q)))) := by
  have HR := Lib.hid (fun w => restP_any p q w hp hq)
  go_enter Tryz.func77, Tryz.ntmps77
  go_wp2_with fail
  refine (HR.out _).mono ?_
  rintro e w1 ⟨s, rfl, hE1⟩
  have HE1 := Lib.hid hE1; clear hE1
  go_wp2
  go_ret
  exact ⟨rfl, HE1.out⟩
/-- The reserved directory. -/
def flitB : ByteArray := ⟨#[46, 102, 108, 105, 116]⟩
set_option maxRecDepth 100000 in
theorem reservedP_any (p : ByteArray) (w : World) (hp : p.size ≤ 1000) : Calls Tryz.prog 70 #[.string p] w (RetV w (.bool (withinF (txt p) (txt flitB)))) := by
  have HR := Lib.hid (fun w => withinP_any p ⟨#[46, 102, 108, 105, 116]⟩ w hp (by decide))
  go_enter Tryz.func70, Tryz.ntmps70
  go_wp2_with fail
  refine (HR.out _).mono ?_
  rintro e w1 ⟨rfl, hE1⟩
  have HE1 := Lib.hid hE1; clear hE1
  go_wp2
  go_ret
  exact ⟨rfl, HE1.out⟩
end Go.Proofs.YtiopahkigbdmcaaGreat
/- Lists in memory, and lists that are built: laws for any kind of element; nodes. -/
namespace Go.Proofs.YtiopahkigbdmcaaGreat
open Go Go.Proofs Go.RowKit

/-- A list in memory: each element is n cells. -/
def ListAt {α : Type} (f : α → List Value) (_T : TypeId) (n : Nat) (w : World) (a : Option Addr) (L : List α) : Prop :=
  L = [] ∨ ∃ b off, ∃ cs : Array Value, ∃ fz : TypeId × (Nat × Nat), a = some ⟨b, off, none⟩ ∧ w.heap[b]? = some (.cells cs fz.1 fz.2) ∧ ∀ i (h : i < L.length) j v, (f L[i])[j]? = some v → cs[off + i * n + j]? = some v
/-- A list that is being built, in memory that is newer than w0. -/
def OwnL {α : Type} (f : α → List Value) (T : TypeId) (n : Nat) (w0 : World) (v : Value) (L : List α) (w : World) : Prop :=
  Ext w0 w ∧ w.ownsRow w0.heap.size T n v L.length (L.flatMap f)

section
variable {α : Type} {f : α → List Value} {T : TypeId} {n : Nat}
theorem ListAt.ext {w w' : World} {a : Option Addr} {L : List α} (h : ListAt f T n w a L) (hE : Ext w w') : ListAt f T n w' a L := by
  rcases h with h | ⟨b, off, cs, fz, ha, hb, hall⟩
  · exact Or.inl h
  · exact Or.inr ⟨b, off, cs, fz, ha, hE.block hb, hall⟩
theorem ListAt.block {w : World} {a : Option Addr} {L : List α} (h : ListAt f T n w a L) {i : Nat} (hi : i < L.length) : ∃ b off, a = some ⟨b, off, none⟩ ∧ b < w.heap.size ∧ ∀ j v, (f L[i])[j]? = some v → w.cell? ⟨b, off + i * n + j, none⟩ = some v := by
  rcases h with h | ⟨b, off, cs, fz, ha, hb, hall⟩
  · subst h; simp at hi
  · exact ⟨b, off, ha, blk_lt hb, fun j v hj => blk_cell hb (hall i hi j v hj)⟩
theorem ListAt.nil {w : World} {a : Option Addr} : ListAt f T n w a ([] : List α) := Or.inl rfl
theorem ListAt.take {w : World} {a : Option Addr} {L : List α} (k : Nat) (h : ListAt f T n w a L) : ListAt f T n w a (L.take k) := by
  rcases h with h | ⟨b, off, cs, fz, ha, hb, hall⟩
  · subst h; left; simp
  · right
    refine ⟨b, off, cs, fz, ha, hb, fun i h j v hj => ?_⟩
    rw [List.length_take] at h
    rw [List.getElem_take] at hj
    exact hall i (by omega) j v hj
theorem ListAt.drop {w : World} {b off : Nat} {L : List α} (k : Nat) (h : ListAt f T n w (some ⟨b, off, none⟩) L) : ListAt f T n w (some ⟨b, off + k * n, none⟩) (L.drop k) := by
  rcases h with h | ⟨b', off', cs, fz, ha, hb, hall⟩
  · subst h; left; simp
  · obtain ⟨rfl, rfl⟩ : b = b' ∧ off = off' := by
      injection ha with ha; injection ha with h1 h2; exact ⟨h1, h2⟩
    right
    refine ⟨b, off + k * n, cs, fz, rfl, hb, fun i h j v hj => ?_⟩
    rw [List.length_drop] at h
    rw [List.getElem_drop] at hj
    have := hall (k + i) (by omega) j v hj
    rw [Nat.add_mul, ← Nat.add_assoc] at this
    exact this
theorem flat_len (hf : ∀ x, (f x).length = n) : ∀ L : List α, (L.flatMap f).length = L.length * n
  | [] => by simp
  | x :: L => by rw [List.flatMap_cons, List.length_append, hf, flat_len hf L, List.length_cons, Nat.succ_mul, Nat.add_comm]
theorem flat_get (hf : ∀ x, (f x).length = n) : ∀ (L : List α) (i j : Nat) (hi : i < L.length), j < n → (L.flatMap f)[i * n + j]? = (f L[i])[j]?
  | x :: L, 0, j, _, hj => by
    rw [List.flatMap_cons, Nat.zero_mul, Nat.zero_add, List.getElem?_append_left (by rw [hf]; exact hj)]
    rfl
  | x :: L, i + 1, j, hi, hj => by
    have hm : (i + 1) * n + j = n + (i * n + j) := by rw [Nat.succ_mul]; omega
    rw [List.flatMap_cons, List.getElem?_append_right (by rw [hf, hm]; omega), hf, hm, Nat.add_sub_cancel_left, flat_get hf L i j (by simpa using hi) hj]
    rfl
theorem OwnL.start (w : World) : OwnL f T n w (.slice none 0 0) ([] : List α) w := ⟨Ext.refl w, World.ownsRow_nil _ _ _ _⟩
theorem OwnL.ext {w0 w w' : World} {v : Value} {L : List α} (h : OwnL f T n w0 v L w) (hE : Ext w w') : OwnL f T n w0 v L w' := ⟨h.1.trans hE, own_ext h.2 hE⟩
theorem OwnL.alloc {w0 w : World} {v : Value} {L : List α} (h : OwnL f T n w0 v L w) (o : Obj) : OwnL f T n w0 v L (w.alloc o) := h.ext ((Ext.refl w).alloc o)
theorem OwnL.drew {w0 w : World} {v : Value} {L : List α} (h : OwnL f T n w0 v L w) : OwnL f T n w0 v L w.drew := h.ext (Ext.refl w).drew
theorem OwnL.slice {w0 w : World} {v : Value} {L : List α} (h : OwnL f T n w0 v L w) : ∃ a c, v = .slice a L.length c ∧ L.length ≤ c := by
  obtain ⟨_, _, ⟨rfl, h0⟩ | ⟨g, cap, cur, rfl, _, _, hc, _⟩⟩ := h
  · exact ⟨none, 0, by rw [h0], by omega⟩
  · exact ⟨_, _, rfl, hc⟩
theorem OwnL.done {w0 w : World} {a : Option Addr} {m c : Nat} {L : List α} (hf : ∀ x, (f x).length = n) (h : OwnL f T n w0 (.slice a m c) L w) : ListAt f T n w a L := by
  obtain ⟨_, _, ⟨hv, h0⟩ | ⟨g, cap, cur, hv, hg, hb, _, _, _, hx⟩⟩ := h
  · exact Or.inl (List.eq_nil_of_length_eq_zero h0)
  · simp only [Value.slice.injEq] at hv
    obtain ⟨rfl, rfl, rfl⟩ := hv
    refine Or.inr ⟨g, 0, cur, (T, _), rfl, hb, fun i hi j v hj => ?_⟩
    have hjn : j < n := by
      have := (List.getElem?_eq_some_iff.1 hj).1
      rw [hf] at this
      exact this
    rw [Nat.zero_add, ← Array.getElem?_toList]
    have hlt : i * n + j < L.length * n := by
      have h1 : (i + 1) * n ≤ L.length * n := Nat.mul_le_mul_right n (by omega)
      rw [Nat.succ_mul] at h1
      omega
    have e : (cur.toList.take (L.length * n))[i * n + j]? = (L.flatMap f)[i * n + j]? := by rw [hx]
    rw [List.getElem?_take_of_lt hlt] at e
    rw [e, flat_get hf L i j hi hjn]
    exact hj

theorem OwnL.empty {w0 w : World} (hE : Ext w0 w) : OwnL f T n w0 (.slice (some ⟨w.heap.size, 0, none⟩) 0 0) ([] : List α) (w.alloc (.cells #[] T)) :=
  ⟨hE.alloc _, World.ownsRow_made w #[] 0 hE.size (by unfold maxLen; omega) (by simp)⟩
theorem ListAt.flat {w : World} {b off : Nat} {L : List α} (hf : ∀ x, (f x).length = n) (hn : 0 < n) (h : ListAt f T n w (some ⟨b, off, none⟩) L) : ∀ j u, (L.flatMap f)[j]? = some u → w.cell? ((⟨b, off, none⟩ : Addr).add j) = some u := by
  intro j u hj
  have ha : (⟨b, off, none⟩ : Addr).add j = ⟨b, off + j, none⟩ := by cases j <;> simp [Addr.add]
  rw [ha]
  have hlt := (List.getElem?_eq_some_iff.1 hj).1
  rw [flat_len hf] at hlt
  have hi : j / n < L.length := Nat.div_lt_of_lt_mul (by rw [Nat.mul_comm]; exact hlt)
  have hr : j % n < n := Nat.mod_lt _ hn
  have hjj : j / n * n + j % n = j := by rw [Nat.mul_comm]; exact Nat.div_add_mod j n
  rw [← hjj, flat_get hf L _ _ hi hr] at hj
  obtain ⟨b', off', hab, _, hall⟩ := h.block hi
  injection hab with hab
  injection hab with h1 h2
  subst h1 h2
  have := hall _ _ hj
  rw [Nat.add_assoc, hjj] at this
  exact this

variable {P : Program}
/-- append(a list that is being built, other elements ..). -/
theorem wpList_append_B {ops : Array Oper} {rest : List Oper} {o : Oper} {a : Act} {Q : Exit → Act → World → Prop} {w : World} (hgd : o.guard = none) (s x : Operand) (t : TypeId)
    (ho : o.op = .call { callee := .builtin .append, args := #[s, x], argTypes := #[t, t] }) (hf : ∀ x, (f x).length = n)
    (i : TypeInfo) (z : Value) (bytes : Nat) (ht : P.underlying t = some (.slice T)) (hi : P.info? T = some i) (hz : i.zero = some z)
    (hsize : i.size = n) (hby : i.bytes = bytes) (hzs : z.cells.size = n) (hsz : 0 < n)
    (w0 : World) (v : Value) (L : List α) (hs : a.eval s = v) (hO : OwnL f T n w0 v L w)
    (ad : Addr) (c : Nat) (m : Nat) (M : List α) (hm : m = M.length) (hx : a.eval x = .slice (some ad) m c) (hM : ∀ j u, (M.flatMap f)[j]? = some u → w.cell? (ad.add j) = some u) (h1 : ∀ x ∈ M, ∀ u ∈ f x, u.oneCell' = true)
    (h63 : L.length + M.length ≤ 100000) (hbytes : bytes ≤ 1000000)
    (h : ∀ v' w', OwnL f T n w0 v' (L ++ M) w' → Below w0.heap.size w w' → wpList P ops Q rest (a.put o.dst v') w') : wpList P ops Q (o :: rest) a w := by
  subst hm
  refine wpList_append_own _ hgd s x t ho w0.heap.size T i z n bytes ht hi hz hsize hby hzs hsz v L.length (L.flatMap f) hs hO.2 ad M.length c (M.flatMap f) hx (flat_len hf M) hM ?_ (by unfold maxLen; omega) ?_ hO.1.size ?_
  · intro u hu
    obtain ⟨y, hy, hu⟩ := List.mem_flatMap.1 hu
    exact h1 y hy u hu
  · calc (L.length + M.length) * bytes ≤ 100000 * 1000000 := Nat.mul_le_mul h63 hbytes
      _ ≤ 140737488355328 := by decide
  · intro v' w' hown hg _
    have hB := grown_below hg (fun k hk => (hO.2.lt k hk).1) hO.1.size
    have hE : Ext w0 w' := Below.trans hO.1 hB
    exact h v' w' ⟨hE, by rw [List.length_append, List.flatMap_append]; exact hown⟩ hB
/-- append(a list that is being built, other elements ..). -/
theorem wpList_append_L {ops : Array Oper} {rest : List Oper} {o : Oper} {a : Act} {Q : Exit → Act → World → Prop} {w : World} (hgd : o.guard = none) (s x : Operand) (t : TypeId)
    (ho : o.op = .call { callee := .builtin .append, args := #[s, x], argTypes := #[t, t] }) (hf : ∀ x, (f x).length = n)
    (i : TypeInfo) (z : Value) (bytes : Nat) (ht : P.underlying t = some (.slice T)) (hi : P.info? T = some i) (hz : i.zero = some z)
    (hsize : i.size = n) (hby : i.bytes = bytes) (hzs : z.cells.size = n) (hsz : 0 < n)
    (w0 : World) (v : Value) (L : List α) (hs : a.eval s = v) (hO : OwnL f T n w0 v L w)
    (ad : Addr) (c : Nat) (m : Nat) (M : List α) (hm : m = M.length) (hx : a.eval x = .slice (some ad) m c) (hM : ∀ j u, (M.flatMap f)[j]? = some u → w.cell? (ad.add j) = some u) (h1 : ∀ x ∈ M, ∀ u ∈ f x, u.oneCell' = true)
    (h63 : L.length + M.length ≤ 100000) (hbytes : bytes ≤ 1000000)
    (h : ∀ v' w', OwnL f T n w0 v' (L ++ M) w' → Ext w0 w' → wpList P ops Q rest (a.put o.dst v') w') : wpList P ops Q (o :: rest) a w :=
  wpList_append_B hgd s x t ho hf i z bytes ht hi hz hsize hby hzs hsz w0 v L hs hO ad c m M hm hx hM h1 h63 hbytes (fun v' w' ho' hB => h v' w' ho' (Below.trans hO.1 hB))
/-- append(a list that is being built, one element). -/
theorem wpList_append_one {ops : Array Oper} {rest : List Oper} {o : Oper} {a : Act} {Q : Exit → Act → World → Prop} {w : World} (hgd : o.guard = none) (s x : Operand) (t : TypeId)
    (ho : o.op = .call { callee := .builtin .append, args := #[s, x], argTypes := #[t, t] }) (hf : ∀ x, (f x).length = n)
    (i : TypeInfo) (z : Value) (bytes : Nat) (ht : P.underlying t = some (.slice T)) (hi : P.info? T = some i) (hz : i.zero = some z)
    (hsize : i.size = n) (hby : i.bytes = bytes) (hzs : z.cells.size = n) (hsz : 0 < n)
    (w0 : World) (v : Value) (L : List α) (hs : a.eval s = v) (hO : OwnL f T n w0 v L w)
    (y : α) (g c : Nat) (hx : a.eval x = .slice (some ⟨g, 0, none⟩) 1 c) (hM : ∀ j u, (f y)[j]? = some u → w.cell? ((⟨g, 0, none⟩ : Addr).add j) = some u) (h1 : ∀ u ∈ f y, u.oneCell' = true)
    (h63 : L.length + 1 ≤ 100000) (hbytes : bytes ≤ 1000000)
    (h : ∀ v' w', OwnL f T n w0 v' (L ++ [y]) w' → Ext w0 w' → wpList P ops Q rest (a.put o.dst v') w') : wpList P ops Q (o :: rest) a w :=
  wpList_append_L hgd s x t ho hf i z bytes ht hi hz hsize hby hzs hsz w0 v L hs hO ⟨g, 0, none⟩ c 1 [y] rfl hx (by simpa using hM) (by simpa using h1) h63 hbytes h
end

/-- A node. -/
structure NodeV where
  path : ByteArray
  kind : Int
  mode : Int
  time : Int
  data : ByteArray
def NodeV.cells (x : NodeV) : List Value := [.string x.path, .int .i64 x.kind, .int .i64 x.mode, .int .i64 x.time, .string x.data]
def NodeV.val (x : NodeV) : Value := .agg #[.string x.path, .int .i64 x.kind, .int .i64 x.mode, .int .i64 x.time, .string x.data]
theorem NodeV.len (x : NodeV) : x.cells.length = 5 := rfl
theorem NodeV.one (x : NodeV) : ∀ u ∈ x.cells, u.oneCell' = true := by
  intro u hu
  simp only [NodeV.cells, List.mem_cons, List.mem_nil_iff, or_false] at hu
  rcases hu with rfl | rfl | rfl | rfl | rfl <;> rfl
abbrev NodesAt := ListAt NodeV.cells 42 5
abbrev OwnN := OwnL NodeV.cells 42 5
def nodeZ : Value := .agg #[.string ByteArray.empty, .int .i64 0, .int .i64 0, .int .i64 0, .string ByteArray.empty]
theorem node_info : ∃ i, Tryz.prog.info? 42 = some i ∧ i.zero = some nodeZ ∧ i.size = 5 ∧ i.bytes = 56 := info_parts (by kernel_rfl)
theorem NodesAt.node {w : World} {a : Option Addr} {L : List NodeV} (h : NodesAt w a L) {i : Nat} (hi : i < L.length) : ∃ b off, a = some ⟨b, off, none⟩ ∧ b < w.heap.size ∧
    w.cell? ⟨b, off + i * 5, none⟩ = some (.string L[i].path) ∧ w.cell? ⟨b, off + i * 5 + 1, none⟩ = some (.int .i64 L[i].kind) ∧ w.cell? ⟨b, off + i * 5 + 2, none⟩ = some (.int .i64 L[i].mode) ∧
    w.cell? ⟨b, off + i * 5 + 3, none⟩ = some (.int .i64 L[i].time) ∧ w.cell? ⟨b, off + i * 5 + 4, none⟩ = some (.string L[i].data) := by
  obtain ⟨b, off, ha, hb, hall⟩ := h.block hi
  exact ⟨b, off, ha, hb, hall 0 _ rfl, hall 1 _ rfl, hall 2 _ rfl, hall 3 _ rfl, hall 4 _ rfl⟩
/-- append(nodes that are being built, other nodes ..). -/
theorem nodes_append {ops : Array Oper} {rest : List Oper} {o : Oper} {a : Act} {Q : Exit → Act → World → Prop} {w : World} (hgd : o.guard = none) (s x : Operand)
    (ho : o.op = .call { callee := .builtin .append, args := #[s, x], argTypes := #[22, 22] })
    (w0 : World) (v : Value) (L : List NodeV) (hs : a.eval s = v) (hO : OwnN w0 v L w)
    (b off c m : Nat) (M : List NodeV) (hm : m = M.length) (hx : a.eval x = .slice (some ⟨b, off, none⟩) m c) (hM : NodesAt w (some ⟨b, off, none⟩) M) (h63 : L.length + M.length ≤ 90000)
    (h : ∀ v' w', OwnN w0 v' (L ++ M) w' → Ext w0 w' → wpList Tryz.prog ops Q rest (a.put o.dst v') w') : wpList Tryz.prog ops Q (o :: rest) a w := by
  obtain ⟨i, h1, h2, h3, h4⟩ := node_info
  exact wpList_append_L hgd s x 22 ho NodeV.len i nodeZ 56 (by kernel_rfl) h1 h2 h3 h4 rfl (by decide) w0 v L hs hO ⟨b, off, none⟩ c m M hm hx (hM.flat NodeV.len (by decide)) (fun y _ => y.one) (by omega) (by decide) h
/-- append(nodes that are being built, a node that lies in a new block). -/
theorem node_append {ops : Array Oper} {rest : List Oper} {o : Oper} {a : Act} {Q : Exit → Act → World → Prop} {w : World} (hgd : o.guard = none) (s x : Operand)
    (ho : o.op = .call { callee := .builtin .append, args := #[s, x], argTypes := #[22, 22] })
    (w0 : World) (v : Value) (L : List NodeV) (hs : a.eval s = v) (hO : OwnN w0 v L w)
    (y : NodeV) (g c : Nat) (hx : a.eval x = .slice (some ⟨g, 0, none⟩) 1 c) (hM : ∀ j u, y.cells[j]? = some u → w.cell? ((⟨g, 0, none⟩ : Addr).add j) = some u) (h63 : L.length ≤ 90000)
    (h : ∀ v' w', OwnN w0 v' (L ++ [y]) w' → Ext w0 w' → wpList Tryz.prog ops Q rest (a.put o.dst v') w') : wpList Tryz.prog ops Q (o :: rest) a w := by
  obtain ⟨i, h1, h2, h3, h4⟩ := node_info
  exact wpList_append_one hgd s x 22 ho NodeV.len i nodeZ 56 (by kernel_rfl) h1 h2 h3 h4 rfl (by decide) w0 v L hs hO y g c hx hM y.one (by omega) (by decide) h

set_option maxHeartbeats 1000000 in
set_option maxRecDepth 100000 in
theorem shutNodeD (a : Option Addr) (rs : List (Bool × ByteArray)) (c : Nat) (x : NodeV) (w : World) (hp : x.path.size ≤ 1000) (hS : Short rs) (hR : RulesAt w a rs) : Calls Tryz.prog 39 #[.slice a rs.length c, x.val] w (RetV w (.bool (shutF rs (txt x.path) (x.kind == 1)))) := by
  have HK := Lib.hid (fun w' d (h : Ext w w') => shutD_any a rs c x.path d w' hp hS (hR.ext h))
  obtain ⟨r, hr⟩ : ∃ r, rs.length = r := ⟨_, rfl⟩
  rw [hr] at HK ⊢
  clear hS hr hR
  unfold NodeV.val
  obtain ⟨w1, hw1⟩ : ∃ w1, w.alloc (.cells #[.string x.path, .int .i64 x.kind, .int .i64 x.mode, .int .i64 x.time, .string x.data] 42) = w1 := ⟨_, rfl⟩
  have hE1 : Ext w w1 := by rw [← hw1]; exact (Ext.refl w).alloc _
  have HE1 := Lib.hid hE1; clear hE1
  have HW1 := Lib.hid hw1; clear hw1
  go_enter Tryz.func39, Tryz.ntmps39
  go_wp2_with fail
  rw [HW1.out]
  refine (HK.out _ _ HE1.out).mono ?_
  rintro e w2 ⟨rfl, hE2⟩
  have HE2 := Lib.hid (HE1.out.trans hE2); clear hE2
  go_wp2
  go_ret
  exact ⟨rfl, HE2.out⟩
set_option maxHeartbeats 1000000 in
set_option maxRecDepth 100000 in
theorem shutNodeP (a : Option Addr) (rs : List (Bool × ByteArray)) (c : Nat) (x : NodeV) (w : World) (hp : x.path.size ≤ 1000) (hS : Short rs) (hR : RulesAt w a rs) : Calls Tryz.prog 51 #[.slice a rs.length c, x.val] w (RetV w (.bool (shutF rs (txt x.path) (x.kind == 1)))) := by
  have HK := Lib.hid (fun w' d (h : Ext w w') => shutP_any a rs c x.path d w' hp (by have := hS.1; omega) (hR.ext h))
  obtain ⟨r, hr⟩ : ∃ r, rs.length = r := ⟨_, rfl⟩
  rw [hr] at HK ⊢
  clear hS hr hR
  unfold NodeV.val
  obtain ⟨w1, hw1⟩ : ∃ w1, w.alloc (.cells #[.string x.path, .int .i64 x.kind, .int .i64 x.mode, .int .i64 x.time, .string x.data] 42) = w1 := ⟨_, rfl⟩
  have hE1 : Ext w w1 := by rw [← hw1]; exact (Ext.refl w).alloc _
  have HE1 := Lib.hid hE1; clear hE1
  have HW1 := Lib.hid hw1; clear hw1
  go_enter Tryz.func51, Tryz.ntmps51
  go_wp2_with fail
  rw [HW1.out]
  refine (HK.out _ _ HE1.out).mono ?_
  rintro e w2 ⟨rfl, hE2⟩
  have HE2 := Lib.hid (HE1.out.trans hE2); clear hE2
  go_wp2
  go_ret
  exact ⟨rfl, HE2.out⟩
end Go.Proofs.YtiopahkigbdmcaaGreat
/- The nodes that are picked (layer 13), the document's side: the walk. -/
namespace Go.Proofs.YtiopahkigbdmcaaGreat
open Go Go.Proofs Go.RowKit

/-- A list whose texts are not long. -/
def SmallL (L : List NodeV) : Prop := L.length ≤ 1000 ∧ ∀ x ∈ L, x.path.size ≤ 1000 ∧ x.data.size ≤ 1000
def NodesTold (R : List NodeV) (w : World) (e : Ending) (w' : World) : Prop := ∃ a c, e = .returned (.slice a R.length c) ∧ Ext w w' ∧ NodesAt w' a R ∧ R.length ≤ c
theorem nodes_told {w w' : World} {v : Value} {R : List NodeV} (h : OwnN w v R w') : NodesTold R w (.returned v) w' := by
  obtain ⟨a, c, rfl, hc⟩ := h.slice
  exact ⟨a, c, rfl, h.1, OwnL.done NodeV.len h, hc⟩
theorem filter_take {α : Type} (p : α → Bool) (L : List α) (k : Nat) (h : k < L.length) : (L.take (k + 1)).filter p = if p L[k] then (L.take k).filter p ++ [L[k]] else (L.take k).filter p := by
  rw [List.take_succ_eq_append_getElem h, List.filter_append, List.filter_cons, List.filter_nil]
  split <;> simp
def inF (x : NodeV) : Bool := withinF (txt x.path) (txt flitB)
def outF (rs : List (Bool × ByteArray)) (x : NodeV) : Bool := shutF rs (txt x.path) (x.kind == 1)
def pickF (rs : List (Bool × ByteArray)) (shut : Bool) (L : List NodeV) : List NodeV := L.filter fun x => !inF x && (outF rs x == shut)

set_option maxHeartbeats 2000000 in
set_option maxRecDepth 100000 in
theorem pickD_any (a ar : Option Addr) (L : List NodeV) (rs : List (Bool × ByteArray)) (c cr : Nat) (shut : Bool) (w : World) (hL : SmallL L) (hS : Short rs) (hA : NodesAt w a L) (hR : RulesAt w ar rs) :
    Calls Tryz.prog 18 #[.slice a L.length c, .slice ar rs.length cr, .bool shut] w (NodesTold (pickF rs shut L) w) := by
  have HA := Lib.hid hA; clear hA
  have HLL := Lib.hid hL.2
  have hl := hL.1; clear hL
  have HW := Lib.hid (fun (x : NodeV) (hx : x ∈ L) w' => withinD_any x.path ⟨#[46, 102, 108, 105, 116]⟩ w' (HLL.out x hx).1 (by decide))
  have HSh := Lib.hid (fun (x : NodeV) (hx : x ∈ L) w' (h : Ext w w') => shutNodeD ar rs cr x w' (HLL.out x hx).1 hS (hR.ext h))
  obtain ⟨r, hr⟩ : ∃ r, rs.length = r := ⟨_, rfl⟩
  rw [hr] at HSh ⊢
  clear hS hR hr
  obtain ⟨n, hn⟩ : ∃ n, L.length = n := ⟨_, rfl⟩
  rw [hn] at hl ⊢
  have HN := Lib.hid hn; clear hn
  go_enter Tryz.func18, Tryz.ntmps18
  go_wp2
  go_loopw [7, 8] (fun v i w' => ∃ k : Nat, k ≤ n ∧ i = .int .i64 k ∧ OwnN w v (pickF rs shut (L.take k)) w') (fun _ i _ => n - (intOf i).toNat)
  case atStart => exact ⟨0, Nat.zero_le _, rfl, OwnL.start w⟩
  case round =>
    obtain ⟨k, hk, rfl, hown⟩ := hrel
    by_cases hlt : k < n
    · have hkl : k < L.length := by rw [HN.out]; exact hlt
      have hE := hown.1
      have HO := Lib.hid hown; clear hown
      have hkp : (pickF rs shut (L.take k)).length ≤ 90000 := by
        have h1 := List.length_filter_le (fun x => !inF x && (outF rs x == shut)) (L.take k)
        rw [List.length_take] at h1
        unfold pickF
        omega
      have HP := Lib.hid (filter_take (fun x => !inF x && (outF rs x == shut)) L k hkl)
      have hmem := List.getElem_mem hkl
      have HWk := Lib.hid (HW.out _ hmem)
      have HSk := Lib.hid (HSh.out _ hmem)
      obtain ⟨b, off, rfl, hb, c0, c1, c2, c3, c4⟩ := NodesAt.node (HA.out.ext hE) hkl
      have HE := Lib.hid hE; clear hE hmem
      obtain ⟨x, hx⟩ : ∃ x, L[k] = x := ⟨_, rfl⟩
      rw [hx] at HP HWk HSk c0 c1 c2 c3 c4
      clear hx hkl
      obtain ⟨f, hf⟩ : ∃ f, inF x = f := ⟨_, rfl⟩
      obtain ⟨o, ho⟩ : ∃ o, outF rs x = o := ⟨_, rfl⟩
      have HF := Lib.hid (And.intro hf ho)
      simp only [hf, ho] at HP
      have HWk := Lib.hid (fun w' => by have h := HWk.out w'; rw [show withinF (txt x.path) (txt ⟨#[46, 102, 108, 105, 116]⟩) = f from hf] at h; exact h)
      have HSk := Lib.hid (fun w' h' => by have h := HSk.out w' h'; rw [show shutF rs (txt x.path) (x.kind == 1) = o from ho] at h; exact h)
      clear hf ho
      have HC := Lib.hid (fun w2 (h : Ext wr w2) => And.intro ((h.cell hb).trans c0) (And.intro ((h.cell hb).trans c1) (And.intro ((h.cell hb).trans c2) (And.intro ((h.cell hb).trans c3) ((h.cell hb).trans c4)))))
      go_wp2_with fail
      refine (HWk.out _).mono ?_
      rintro e w2 ⟨rfl, hE2⟩
      obtain ⟨d0, d1, d2, d3, d4⟩ := HC.out _ hE2
      have HE2 := Lib.hid hE2; clear hE2
      clear c0 c1 c2 c3 c4
      cases f
      · go_wp2_with fail
        refine (HSk.out _ (HE.out.trans HE2.out)).mono ?_
        rintro e w3 ⟨rfl, hE3⟩
        clear d0 d1 d2 d3 d4
        obtain ⟨d0, d1, d2, d3, d4⟩ := HC.out _ (Ext.trans HE2.out hE3)
        have HE3 := Lib.hid (Ext.trans HE2.out hE3); clear hE3
        by_cases hos : o = shut
        · subst hos
          have hP : pickF rs o (L.take (k + 1)) = pickF rs o (L.take k) ++ [x] := by rw [pickF, HP.out]; simp [pickF]
          have HP := Lib.hid hP; clear hP
          have hos' : (o == o) = true := beq_self_eq_true o
          go_wp2_with (at_builtin; refine node_append rfl _ _ rfl w _ _ rfl ((HO.out.ext HE3.out).alloc _) x _ 1 rfl (cells_at _ _ _ (by simp)) hkp ?_; intro v' w4 hown' hE4)
          go_roundw
          case rel => exact ⟨k + 1, by omega, by go_num, by rw [HP.out]; exact hown'⟩
          case measure => simp [intOf]; omega
        · have hP : pickF rs shut (L.take (k + 1)) = pickF rs shut (L.take k) := by rw [pickF, HP.out]; simp [pickF, hos]
          have HP := Lib.hid hP; clear hP
          have hos' : (o == shut) = false := beq_eq_false_iff_ne.2 hos
          go_wp2
          go_roundw
          case rel => exact ⟨k + 1, by omega, by go_num, by rw [HP.out]; exact HO.out.ext HE3.out⟩
          case measure => simp [intOf]; omega
      · have hP : pickF rs shut (L.take (k + 1)) = pickF rs shut (L.take k) := by rw [pickF, HP.out]; simp [pickF]
        have HP := Lib.hid hP; clear hP
        go_wp2
        go_roundw
        case rel => exact ⟨k + 1, by omega, by go_num, by rw [HP.out]; exact HO.out.ext HE2.out⟩
        case measure => simp [intOf]; omega
    · obtain rfl : k = n := by omega
      have HO := Lib.hid hown; clear hown
      go_wp2
      go_ret
      exact nodes_told (by have h := HO.out; rw [List.take_of_length_le (by rw [HN.out]; exact Nat.le_refl _)] at h; exact h)
end Go.Proofs.YtiopahkigbdmcaaGreat
/- The nodes within a path (layer 10), the document's side; what is shown (layer 14): the walks. -/
namespace Go.Proofs.YtiopahkigbdmcaaGreat
open Go Go.Proofs Go.RowKit

def nodesIn (p : ByteArray) (b : Bool) (L : List NodeV) : List NodeV := L.filter fun x => withinF (txt x.path) (txt p) == b
set_option maxHeartbeats 2000000 in
set_option maxRecDepth 100000 in
theorem nodesInD (a : Option Addr) (L : List NodeV) (c : Nat) (p : ByteArray) (b : Bool) (w : World) (hL : SmallL L) (hp : p.size ≤ 1000) (hA : NodesAt w a L) :
    Calls Tryz.prog 24 #[.slice a L.length c, .string p, .bool b] w (NodesTold (nodesIn p b L) w) := by
  have HA := Lib.hid hA; clear hA
  have HLL := Lib.hid hL.2
  have hl := hL.1; clear hL
  have HW := Lib.hid (fun (x : NodeV) (hx : x ∈ L) w' => withinD_any x.path p w' (HLL.out x hx).1 hp)
  obtain ⟨n, hn⟩ : ∃ n, L.length = n := ⟨_, rfl⟩
  rw [hn] at hl ⊢
  have HN := Lib.hid hn; clear hn
  go_enter Tryz.func24, Tryz.ntmps24
  go_wp2
  go_loopw [7, 8] (fun v i w' => ∃ k : Nat, k ≤ n ∧ i = .int .i64 k ∧ OwnN w v (nodesIn p b (L.take k)) w') (fun _ i _ => n - (intOf i).toNat)
  case atStart => exact ⟨0, Nat.zero_le _, rfl, OwnL.start w⟩
  case round =>
    obtain ⟨k, hk, rfl, hown⟩ := hrel
    by_cases hlt : k < n
    · have hkl : k < L.length := by rw [HN.out]; exact hlt
      have hE := hown.1
      have HO := Lib.hid hown; clear hown
      have hkp : (nodesIn p b (L.take k)).length ≤ 90000 := by
        have h1 := List.length_filter_le (fun x : NodeV => withinF (txt x.path) (txt p) == b) (L.take k)
        rw [List.length_take] at h1
        unfold nodesIn
        omega
      have HP := Lib.hid (filter_take (fun x : NodeV => withinF (txt x.path) (txt p) == b) L k hkl)
      have HWk := Lib.hid (HW.out _ (List.getElem_mem hkl))
      obtain ⟨bl, off, rfl, hb, c0, c1, c2, c3, c4⟩ := NodesAt.node (HA.out.ext hE) hkl
      have HE := Lib.hid hE; clear hE
      obtain ⟨x, hx⟩ : ∃ x, L[k] = x := ⟨_, rfl⟩
      rw [hx] at HP HWk c0 c1 c2 c3 c4
      clear hx hkl
      obtain ⟨f, hf⟩ : ∃ f, withinF (txt x.path) (txt p) = f := ⟨_, rfl⟩
      simp only [hf] at HP
      have HWk := Lib.hid (fun w' => by have h := HWk.out w'; rw [hf] at h; exact h)
      clear hf
      have HC := Lib.hid (fun w2 (h : Ext wr w2) => And.intro ((h.cell hb).trans c0) (And.intro ((h.cell hb).trans c1) (And.intro ((h.cell hb).trans c2) (And.intro ((h.cell hb).trans c3) ((h.cell hb).trans c4)))))
      go_wp2_with fail
      refine (HWk.out _).mono ?_
      rintro e w2 ⟨rfl, hE2⟩
      obtain ⟨d0, d1, d2, d3, d4⟩ := HC.out _ hE2
      have HE2 := Lib.hid hE2; clear hE2
      clear c0 c1 c2 c3 c4
      by_cases hos : f = b
      · subst hos
        have hP : nodesIn p f (L.take (k + 1)) = nodesIn p f (L.take k) ++ [x] := by rw [nodesIn, HP.out]; simp [nodesIn]
        have HP := Lib.hid hP; clear hP
        have hos' : (f == f) = true := beq_self_eq_true f
        go_wp2_with (at_builtin; refine node_append rfl _ _ rfl w _ _ rfl ((HO.out.ext HE2.out).alloc _) x _ 1 rfl (cells_at _ _ _ (by simp)) hkp ?_; intro v' w4 hown' hE4)
        go_roundw
        case rel => exact ⟨k + 1, by omega, by go_num, by rw [HP.out]; exact hown'⟩
        case measure => simp [intOf]; omega
      · have hP : nodesIn p b (L.take (k + 1)) = nodesIn p b (L.take k) := by rw [nodesIn, HP.out]; simp [nodesIn, hos]
        have HP := Lib.hid hP; clear hP
        have hos' : (f == b) = false := beq_eq_false_iff_ne.2 hos
        go_wp2
        go_roundw
        case rel => exact ⟨k + 1, by omega, by go_num, by rw [HP.out]; exact HO.out.ext HE2.out⟩
        case measure => simp [intOf]; omega
    · obtain rfl : k = n := by omega
      have HO := Lib.hid hown; clear hown
      go_wp2
      go_ret
      exact nodes_told (by have h := HO.out; rw [List.take_of_length_le (by rw [HN.out]; exact Nat.le_refl _)] at h; exact h)
theorem NodesTold.trans {R : List NodeV} {w w1 w2 : World} {e : Ending} (hE : Ext w w1) (h : NodesTold R w1 e w2) : NodesTold R w e w2 := by
  obtain ⟨a, c, he, hE2, hA, hc⟩ := h
  exact ⟨a, c, he, hE.trans hE2, hA, hc⟩
def shownF (L : List NodeV) : List NodeV := nodesIn flitB false L
set_option maxRecDepth 100000 in
theorem shownD_any (a : Option Addr) (L : List NodeV) (c : Nat) (w : World) (hL : SmallL L) (hA : NodesAt w a L) :
    Calls Tryz.prog 20 #[.slice a L.length c] w (NodesTold (shownF L) w) := by
  have HW := Lib.hid (nodesInD a L c ⟨#[46, 102, 108, 105, 116]⟩ false w hL (by decide) hA)
  go_enter Tryz.func20, Tryz.ntmps20
  go_wp2_with fail
  refine HW.out.mono ?_
  rintro e w2 ⟨a2, c2, rfl, hE2, hA2, hc2⟩
  have H2 := Lib.hid (And.intro hE2 (And.intro hA2 hc2))
  clear hE2 hA2 hc2
  obtain ⟨m, hm⟩ : ∃ m, (nodesIn ⟨#[46, 102, 108, 105, 116]⟩ false L).length = m := ⟨_, rfl⟩
  rw [hm]
  have HM := Lib.hid hm; clear hm
  go_wp2
  go_ret
  exact ⟨a2, c2, by rw [← HM.out]; rfl, H2.out.1, H2.out.2.1, H2.out.2.2⟩
end Go.Proofs.YtiopahkigbdmcaaGreat
/- The nodes that are shown, and those that are sent (layers 10, 13), the program's side: the walks. -/
namespace Go.Proofs.YtiopahkigbdmcaaGreat
open Go Go.Proofs Go.RowKit

set_option maxRecDepth 100000 in
theorem shown1P (p : ByteArray) (w : World) (hp : p.size ≤ 1000) : Calls Tryz.prog 69 #[.string p] w (RetV w (.bool (!withinF (txt p) (txt flitB)))) := by
  have HR := Lib.hid (fun w => reservedP_any p w hp)
  go_enter Tryz.func69, Tryz.ntmps69
  go_wp2_with fail
  refine (HR.out _).mono ?_
  rintro e w1 ⟨rfl, hE1⟩
  have HE1 := Lib.hid hE1; clear hE1
  go_wp2
  go_ret
  exact ⟨rfl, HE1.out⟩
theorem node_new {w w2 : World} (x : NodeV) (h : Ext (w.alloc (.cells #[.string x.path, .int .i64 x.kind, .int .i64 x.mode, .int .i64 x.time, .string x.data] 42)) w2) :
    w2.cell? ⟨w.heap.size, 0, none⟩ = some (.string x.path) ∧ w2.cell? ⟨w.heap.size, 1, none⟩ = some (.int .i64 x.kind) ∧ w2.cell? ⟨w.heap.size, 2, none⟩ = some (.int .i64 x.mode) ∧ w2.cell? ⟨w.heap.size, 3, none⟩ = some (.int .i64 x.time) ∧ w2.cell? ⟨w.heap.size, 4, none⟩ = some (.string x.data) := by
  have hb := h.block (heap_at w _ rfl)
  exact ⟨blk_cell hb rfl, blk_cell hb rfl, blk_cell hb rfl, blk_cell hb rfl, blk_cell hb rfl⟩
set_option maxHeartbeats 2000000 in
set_option maxRecDepth 100000 in
theorem pickTP (a : Option Addr) (L : List NodeV) (c : Nat) (w : World) (hL : SmallL L) (hA : NodesAt w a L) :
    Calls Tryz.prog 68 #[.slice a L.length c, .func (.func 69) #[] #[]] w (NodesTold (shownF L) w) := by
  have HA := Lib.hid hA; clear hA
  have HLL := Lib.hid hL.2
  have hl := hL.1; clear hL
  have HW := Lib.hid (fun (x : NodeV) (hx : x ∈ L) w' => shown1P x.path w' (HLL.out x hx).1)
  obtain ⟨n, hn⟩ : ∃ n, L.length = n := ⟨_, rfl⟩
  rw [hn] at hl ⊢
  have HN := Lib.hid hn; clear hn
  go_enter Tryz.func68, Tryz.ntmps68
  go_wp2
  go_loopw [5, 7, 10] (fun v _ i w' => ∃ k : Nat, k ≤ n ∧ i = .int .i64 k ∧ OwnN w v (shownF (L.take k)) w') (fun _ _ i _ => n - (intOf i).toNat)
  case atStart => exact ⟨0, Nat.zero_le _, rfl, OwnL.start w⟩
  case round =>
    obtain ⟨k, hk, rfl, hown⟩ := hrel
    by_cases hlt : k < n
    · have hkl : k < L.length := by rw [HN.out]; exact hlt
      have hE := hown.1
      have HO := Lib.hid hown; clear hown
      have hkp : (shownF (L.take k)).length ≤ 90000 := by
        have h1 := List.length_filter_le (fun x : NodeV => withinF (txt x.path) (txt flitB) == false) (L.take k)
        rw [List.length_take] at h1
        unfold shownF nodesIn
        omega
      have HP := Lib.hid (filter_take (fun x : NodeV => withinF (txt x.path) (txt flitB) == false) L k hkl)
      have HWk := Lib.hid (HW.out _ (List.getElem_mem hkl))
      obtain ⟨bl, off, rfl, hb, c0, c1, c2, c3, c4⟩ := NodesAt.node (HA.out.ext hE) hkl
      have HE := Lib.hid hE; clear hE
      obtain ⟨x, hx⟩ : ∃ x, L[k] = x := ⟨_, rfl⟩
      rw [hx] at HP HWk c0 c1 c2 c3 c4
      clear hx hkl
      obtain ⟨f, hf⟩ : ∃ f, withinF (txt x.path) (txt flitB) = f := ⟨_, rfl⟩
      simp only [hf] at HP
      have HWk := Lib.hid (fun w' => by have h := HWk.out w'; rw [hf] at h; exact h)
      clear hf
      go_wp2_with fail
      refine (HWk.out _).mono ?_
      rintro e w2 ⟨rfl, hE2⟩
      obtain ⟨d0, d1, d2, d3, d4⟩ := node_new x hE2
      clear c0 c1 c2 c3 c4
      have hE2 := Ext.trans ((Ext.refl wr).alloc _) hE2
      have HE2 := Lib.hid hE2; clear hE2
      cases f
      · have hP : shownF (L.take (k + 1)) = shownF (L.take k) ++ [x] := by rw [shownF, nodesIn, HP.out]; rfl
        have HP := Lib.hid hP; clear hP
        go_wp2_with (at_builtin; refine node_append rfl _ _ rfl w _ _ rfl ((HO.out.ext HE2.out).alloc _) x _ 1 rfl (cells_at _ _ _ (by simp)) hkp ?_; intro v' w4 hown' hE4)
        go_roundw
        case rel => exact ⟨k + 1, by omega, by go_num, by rw [HP.out]; exact hown'⟩
        case measure => simp [intOf]; omega
      · have hP : shownF (L.take (k + 1)) = shownF (L.take k) := by rw [shownF, nodesIn, HP.out]; rfl
        have HP := Lib.hid hP; clear hP
        go_wp2
        go_roundw
        case rel => exact ⟨k + 1, by omega, by go_num, by rw [HP.out]; exact HO.out.ext HE2.out⟩
        case measure => simp [intOf]; omega
    · obtain rfl : k = n := by omega
      have HO := Lib.hid hown; clear hown
      go_wp2
      go_ret
      exact nodes_told (by have h := HO.out; rw [List.take_of_length_le (by rw [HN.out]; exact Nat.le_refl _)] at h; exact h)
set_option maxRecDepth 100000 in
theorem shownP_any (a : Option Addr) (L : List NodeV) (c : Nat) (w : World) (hL : SmallL L) (hA : NodesAt w a L) :
    Calls Tryz.prog 52 #[.slice a L.length c] w (NodesTold (shownF L) w) := by
  have HW := Lib.hid (pickTP a L c w hL hA)
  go_enter Tryz.func52, Tryz.ntmps52
  go_wp2_with fail
  refine HW.out.mono ?_
  rintro e w2 ⟨a2, c2, rfl, hE2, hA2, hc2⟩
  have H2 := Lib.hid (And.intro hE2 (And.intro hA2 hc2))
  clear hE2 hA2 hc2
  obtain ⟨m, hm⟩ : ∃ m, (shownF L).length = m := ⟨_, rfl⟩
  rw [hm]
  have HM := Lib.hid hm; clear hm
  go_wp2
  go_ret
  exact ⟨a2, c2, by rw [← HM.out]; rfl, H2.out.1, H2.out.2.1, H2.out.2.2⟩
set_option maxRecDepth 100000 in
theorem sent1P (x : NodeV) (g : Nat) (ar : Option Addr) (rs : List (Bool × ByteArray)) (cr : Nat) (w : World) (hp : x.path.size ≤ 1000) (hS : Short rs) (hR : RulesAt w ar rs) (hg : w.cell? ⟨g, 0, none⟩ = some (.slice ar rs.length cr)) (hb : g < w.heap.size) :
    Calls Tryz.prog 50 #[x.val, .pointer (some ⟨g, 0, none⟩)] w (RetV w (.bool (!outF rs x))) := by
  have HK := Lib.hid (fun w' (h : Ext w w') => shutNodeP ar rs cr x w' hp hS (hR.ext h))
  obtain ⟨r, hr⟩ : ∃ r, rs.length = r := ⟨_, rfl⟩
  rw [hr] at HK hg
  clear hS hR hr
  unfold NodeV.val at *
  have hE1 := (Ext.refl w).alloc (.cells #[.string x.path, .int .i64 x.kind, .int .i64 x.mode, .int .i64 x.time, .string x.data] 42)
  have hg1 := (hE1.cell hb).trans hg
  have HE1 := Lib.hid hE1; clear hE1
  go_enter Tryz.func50, Tryz.ntmps50
  go_wp2_with fail
  refine (HK.out _ HE1.out).mono ?_
  rintro e w2 ⟨rfl, hE2⟩
  have HE2 := Lib.hid (Ext.trans HE1.out hE2); clear hE2
  go_wp2
  go_ret
  exact ⟨rfl, HE2.out⟩
end Go.Proofs.YtiopahkigbdmcaaGreat
/- The nodes that are sent (layer 13), the program's side: the walk. -/
namespace Go.Proofs.YtiopahkigbdmcaaGreat
open Go Go.Proofs Go.RowKit

def keptF (rs : List (Bool × ByteArray)) (L : List NodeV) : List NodeV := L.filter fun x => !outF rs x
theorem kept_shown (rs : List (Bool × ByteArray)) (L : List NodeV) : keptF rs (shownF L) = pickF rs false L := by
  unfold keptF shownF nodesIn pickF
  rw [List.filter_filter]
  congr 1
  funext x
  unfold inF
  cases withinF (txt x.path) (txt flitB) <;> cases outF rs x <;> rfl
theorem SmallL.sub {L M : List NodeV} (h : SmallL L) (hl : M.length ≤ L.length) (hs : ∀ x ∈ M, x ∈ L) : SmallL M := ⟨Nat.le_trans hl h.1, fun x hx => h.2 x (hs x hx)⟩
theorem SmallL.filter {L : List NodeV} (h : SmallL L) (p : NodeV → Bool) : SmallL (L.filter p) := h.sub (List.length_filter_le _ _) (fun _ hx => (List.mem_filter.1 hx).1)
set_option maxHeartbeats 2000000 in
set_option maxRecDepth 100000 in
theorem pickCP (a ar : Option Addr) (L0 : List NodeV) (rs : List (Bool × ByteArray)) (c cr g : Nat) (w : World) (hL0 : SmallL L0) (hS : Short rs) (hA : NodesAt w a L0) (hR : RulesAt w ar rs) (hg : w.cell? ⟨g, 0, none⟩ = some (.slice ar rs.length cr)) (hgb : g < w.heap.size) :
    Calls Tryz.prog 49 #[.slice a L0.length c, .func (.func 50) #[] #[.pointer (some ⟨g, 0, none⟩)]] w (NodesTold (keptF rs (shownF L0)) w) := by
  have HSh := Lib.hid (shownP_any a L0 c w hL0 hA)
  obtain ⟨L, hLe⟩ : ∃ L, shownF L0 = L := ⟨_, rfl⟩
  have hL : SmallL L := by rw [← hLe]; exact hL0.filter _
  rw [hLe] at HSh ⊢
  clear hLe
  have HLL := Lib.hid hL.2
  have hl := hL.1; clear hL
  have HW := Lib.hid (fun (x : NodeV) (hx : x ∈ L) w' (h : Ext w w') => sent1P x g ar rs cr w' (HLL.out x hx).1 hS (hR.ext h) ((h.cell hgb).trans hg) (Nat.lt_of_lt_of_le hgb h.size))
  clear hS hR hg hgb hL0 hA
  obtain ⟨n, hn⟩ : ∃ n, L.length = n := ⟨_, rfl⟩
  rw [hn] at hl
  go_enter Tryz.func49, Tryz.ntmps49
  go_wp2_with fail
  refine HSh.out.mono ?_
  rintro e ws ⟨as_, cs, rfl, hEs, hAs, hcs⟩
  rw [hn] at hcs ⊢
  have HN := Lib.hid hn; clear hn
  have HA := Lib.hid hAs; clear hAs
  have HES := Lib.hid hEs; clear hEs
  go_wp2
  go_loopw [5, 7, 11] (fun v _ i w' => ∃ k : Nat, k ≤ n ∧ i = .int .i64 k ∧ OwnN ws v (keptF rs (L.take k)) w') (fun _ _ i _ => n - (intOf i).toNat)
  case atStart => exact ⟨0, Nat.zero_le _, rfl, OwnL.start ws⟩
  case round =>
    obtain ⟨k, hk, rfl, hown⟩ := hrel
    by_cases hlt : k < n
    · have hkl : k < L.length := by rw [HN.out]; exact hlt
      have hE := hown.1
      have HO := Lib.hid hown; clear hown
      have hkp : (keptF rs (L.take k)).length ≤ 90000 := by
        have h1 := List.length_filter_le (fun x : NodeV => !outF rs x) (L.take k)
        rw [List.length_take] at h1
        unfold keptF
        omega
      have HP := Lib.hid (filter_take (fun x : NodeV => !outF rs x) L k hkl)
      have HWk := Lib.hid (HW.out _ (List.getElem_mem hkl))
      obtain ⟨bl, off, rfl, hb, c0, c1, c2, c3, c4⟩ := NodesAt.node (HA.out.ext hE) hkl
      have HE := Lib.hid hE; clear hE
      obtain ⟨x, hx⟩ : ∃ x, L[k] = x := ⟨_, rfl⟩
      rw [hx] at HP HWk c0 c1 c2 c3 c4
      clear hx hkl
      obtain ⟨f, hf⟩ : ∃ f, outF rs x = f := ⟨_, rfl⟩
      simp only [hf] at HP
      have HWk := Lib.hid (fun w' h' => by have h := HWk.out w' h'; rw [hf] at h; exact h)
      clear hf
      go_wp2_with fail
      refine (HWk.out _ (Ext.trans HES.out (Ext.trans HE.out ((Ext.refl wr).alloc _)))).mono ?_
      rintro e w2 ⟨rfl, hE2⟩
      obtain ⟨d0, d1, d2, d3, d4⟩ := node_new x hE2
      clear c0 c1 c2 c3 c4
      have hE2 := Ext.trans ((Ext.refl wr).alloc _) hE2
      have HE2 := Lib.hid hE2; clear hE2
      cases f
      · have hP : keptF rs (L.take (k + 1)) = keptF rs (L.take k) ++ [x] := by rw [keptF, HP.out]; rfl
        have HP := Lib.hid hP; clear hP
        go_wp2_with (at_builtin; refine node_append rfl _ _ rfl ws _ _ rfl ((HO.out.ext HE2.out).alloc _) x _ 1 rfl (cells_at _ _ _ (by simp)) hkp ?_; intro v' w4 hown' hE4)
        go_roundw
        case rel => exact ⟨k + 1, by omega, by go_num, by rw [HP.out]; exact hown'⟩
        case measure => simp [intOf]; omega
      · have hP : keptF rs (L.take (k + 1)) = keptF rs (L.take k) := by rw [keptF, HP.out]; rfl
        have HP := Lib.hid hP; clear hP
        go_wp2
        go_roundw
        case rel => exact ⟨k + 1, by omega, by go_num, by rw [HP.out]; exact HO.out.ext HE2.out⟩
        case measure => simp [intOf]; omega
    · obtain rfl : k = n := by omega
      have HO := Lib.hid hown; clear hown
      go_wp2
      go_ret
      exact NodesTold.trans HES.out (nodes_told (by have h := HO.out; rw [List.take_of_length_le (by rw [HN.out]; exact Nat.le_refl _)] at h; exact h))
theorem NodesTold.mk' {R : List NodeV} {w w2 : World} {a : Option Addr} {m c : Nat} (hm : R.length = m) (h : Ext w w2 ∧ NodesAt w2 a R ∧ R.length ≤ c) : NodesTold R w (.returned (.slice a m c)) w2 := ⟨a, c, by rw [hm], h.1, h.2.1, h.2.2⟩
set_option maxRecDepth 100000 in
theorem sentP_any (a ar : Option Addr) (L : List NodeV) (rs : List (Bool × ByteArray)) (c cr : Nat) (w : World) (hL : SmallL L) (hS : Short rs) (hA : NodesAt w a L) (hR : RulesAt w ar rs) :
    Calls Tryz.prog 31 #[.slice a L.length c, .slice ar rs.length cr] w (NodesTold (pickF rs false L) w) := by
  obtain ⟨w1, hw1⟩ : ∃ w1, w.alloc (.cells #[.slice ar rs.length cr] 23) = w1 := ⟨_, rfl⟩
  have hE1 : Ext w w1 := by rw [← hw1]; exact (Ext.refl w).alloc _
  have hb := (by rw [← hw1]; exact heap_at w _ rfl : w1.heap[w.heap.size]? = some (.cells #[.slice ar rs.length cr] 23 (0, 0)))
  have HK := Lib.hid (pickCP a ar L rs c cr w.heap.size w1 hL hS (hA.ext hE1) (hR.ext hE1) (blk_cell hb rfl) (blk_lt hb))
  have HE1 := Lib.hid hE1
  have HW1 := Lib.hid hw1
  have HP := Lib.hid (kept_shown rs L)
  clear hL hS hA hR hb hE1 hw1
  go_enter Tryz.func31, Tryz.ntmps31
  go_wp2_with fail
  rw [HW1.out]
  refine HK.out.mono ?_
  rintro e w2 ⟨a2, c2, rfl, hE2, hA2, hc2⟩
  have H2 := Lib.hid (And.intro (Ext.trans HE1.out hE2) (And.intro hA2 hc2))
  clear hE2 hA2 hc2
  obtain ⟨m, hm⟩ : ∃ m, (keptF rs (shownF L)).length = m := ⟨_, rfl⟩
  rw [hm]
  have HM := Lib.hid hm; clear hm
  go_wp2
  go_ret
  exact NodesTold.mk' (by rw [← HP.out]; exact HM.out) (by rw [← HP.out]; exact H2.out)
end Go.Proofs.YtiopahkigbdmcaaGreat
/- The order of names and of paths (layer 1), the document's side: the walks. -/
namespace Go.Proofs.YtiopahkigbdmcaaGreat
open Go Go.Proofs Go.RowKit

def textF : List Int → List Int → Int
  | [], [] => 0
  | [], _ :: _ => -1
  | _ :: _, [] => 1
  | a :: l, b :: m => if a < b then -1 else if a > b then 1 else textF l m
def cmpF : List (List Int) → List (List Int) → Int
  | [], [] => 0
  | [], _ :: _ => -1
  | _ :: _, [] => 1
  | a :: l, b :: m => if textF a b ≠ 0 then textF a b else cmpF l m
theorem text_step (l m : List Int) (k : Nat) (h1 : k < l.length) (h2 : k < m.length) : textF (l.drop k) (m.drop k) = if l[k] < m[k] then -1 else if l[k] > m[k] then 1 else textF (l.drop (k + 1)) (m.drop (k + 1)) := by
  rw [List.drop_eq_getElem_cons h1, List.drop_eq_getElem_cons h2, textF]
theorem text_end (l m : List Int) (k : Nat) (h : ¬ (k < l.length ∧ k < m.length)) (hk1 : k ≤ l.length) (hk2 : k ≤ m.length) : textF (l.drop k) (m.drop k) = if l.length < m.length then -1 else if l.length > m.length then 1 else 0 := by
  by_cases h1 : k < l.length
  · have h2 : m.length ≤ k := by omega
    rw [List.drop_eq_getElem_cons h1, List.drop_eq_nil_of_le h2, textF, if_neg (by omega), if_pos (by omega)]
  · by_cases h2 : k < m.length
    · rw [List.drop_eq_nil_of_le (by omega), List.drop_eq_getElem_cons h2, textF, if_pos (by omega)]
    · rw [List.drop_eq_nil_of_le (by omega), List.drop_eq_nil_of_le (by omega), textF, if_neg (by omega), if_neg (by omega)]
theorem cmp_step (l m : List (List Int)) (k : Nat) (h1 : k < l.length) (h2 : k < m.length) : cmpF (l.drop k) (m.drop k) = if textF l[k] m[k] ≠ 0 then textF l[k] m[k] else cmpF (l.drop (k + 1)) (m.drop (k + 1)) := by
  rw [List.drop_eq_getElem_cons h1, List.drop_eq_getElem_cons h2, cmpF]
theorem cmp_end (l m : List (List Int)) (k : Nat) (h : ¬ (k < l.length ∧ k < m.length)) (hk1 : k ≤ l.length) (hk2 : k ≤ m.length) : cmpF (l.drop k) (m.drop k) = if l.length < m.length then -1 else if l.length > m.length then 1 else 0 := by
  by_cases h1 : k < l.length
  · have h2 : m.length ≤ k := by omega
    rw [List.drop_eq_getElem_cons h1, List.drop_eq_nil_of_le h2, cmpF, if_neg (by omega), if_pos (by omega)]
  · by_cases h2 : k < m.length
    · rw [List.drop_eq_nil_of_le (by omega), List.drop_eq_getElem_cons h2, cmpF, if_pos (by omega)]
    · rw [List.drop_eq_nil_of_le (by omega), List.drop_eq_nil_of_le (by omega), cmpF, if_neg (by omega), if_neg (by omega)]

set_option maxHeartbeats 1000000 in
set_option maxRecDepth 100000 in
theorem textD_any (a b : ByteArray) (w : World) (ha : a.size ≤ 1000) (_hb : b.size ≤ 1000) : Calls Tryz.prog 62 #[.string a, .string b] w (RetV w (.int .i64 (textF (txt a) (txt b)))) := by
  go_enter Tryz.func62, Tryz.ntmps62
  go_wp2
  go_loopw [5] (fun i w' => ∃ k : Nat, k ≤ a.size ∧ k ≤ b.size ∧ i = .int .i64 k ∧ textF (txt a) (txt b) = textF ((txt a).drop k) ((txt b).drop k) ∧ Ext w w') (fun i _ => a.size - (intOf i).toNat)
  case atStart => exact ⟨0, Nat.zero_le _, Nat.zero_le _, rfl, rfl, Ext.refl w⟩
  case round =>
    obtain ⟨k, hk1, hk2, rfl, ht, hE⟩ := hrel
    have HT := Lib.hid ht; clear ht
    have HE := Lib.hid hE; clear hE
    by_cases h1 : k < a.size
    · by_cases h2 : k < b.size
      · have HS := Lib.hid (text_step (txt a) (txt b) k (by rw [txt_len]; exact h1) (by rw [txt_len]; exact h2))
        rw [txt_at a k h1, txt_at b k h2] at HS
        by_cases g1 : ((a[k].toNat : Nat) : Int) < ((b[k].toNat : Nat) : Int)
        · have HS := Lib.hid (HT.out.trans (HS.out.trans (if_pos g1)))
          go_wp2
          refine wp_draw_all (by kernel_rfl) (by kernel_rfl) ?_
          repeat ((with_reducible refine wpStill_step (fun K hK => ?_)); go_simp; refine hK _ ?_; clear hK K)
          refine wpStill_nil ?_
          go_wp2
          go_ret
          exact ⟨by rw [HS.out]; rfl, HE.out.drew⟩
        · have HS := Lib.hid (HS.out.trans (if_neg g1))
          by_cases g2 : ((a[k].toNat : Nat) : Int) > ((b[k].toNat : Nat) : Int)
          · have HS := Lib.hid (HT.out.trans (HS.out.trans (if_pos g2)))
            go_wp2
            refine wp_draw_all (by kernel_rfl) (by kernel_rfl) ?_
            repeat ((with_reducible refine wpStill_step (fun K hK => ?_)); go_simp; refine hK _ ?_; clear hK K)
            refine wpStill_nil ?_
            go_wp2
            refine wp_draw_all (by kernel_rfl) (by kernel_rfl) ?_
            repeat ((with_reducible refine wpStill_step (fun K hK => ?_)); go_simp; refine hK _ ?_; clear hK K)
            refine wpStill_nil ?_
            go_wp2
            go_ret
            exact ⟨by rw [HS.out]; rfl, HE.out.drew.drew⟩
          · have HS := Lib.hid (HT.out.trans (HS.out.trans (if_neg g2)))
            go_wp2
            refine wp_draw_all (by kernel_rfl) (by kernel_rfl) ?_
            repeat ((with_reducible refine wpStill_step (fun K hK => ?_)); go_simp; refine hK _ ?_; clear hK K)
            refine wpStill_nil ?_
            go_wp2
            refine wp_draw_all (by kernel_rfl) (by kernel_rfl) ?_
            repeat ((with_reducible refine wpStill_step (fun K hK => ?_)); go_simp; refine hK _ ?_; clear hK K)
            refine wpStill_nil ?_
            go_wp2
            go_roundw
            case rel => exact ⟨k + 1, by omega, by omega, by go_num, HS.out, HE.out.drew.drew⟩
            case measure => simp [intOf]; omega
      · have HS := Lib.hid (HT.out.trans (text_end (txt a) (txt b) k (by rw [txt_len, txt_len]; omega) (by rw [txt_len]; omega) (by rw [txt_len]; omega)))
        rw [txt_len, txt_len] at HS
        have g1 : ¬ a.size < b.size := by omega
        have g2 : a.size > b.size := by omega
        have HS := Lib.hid (HS.out.trans ((if_neg g1).trans (if_pos g2)))
        go_wp2
        go_ret
        exact ⟨by rw [HS.out]; rfl, HE.out⟩
    · have HS := Lib.hid (HT.out.trans (text_end (txt a) (txt b) k (by rw [txt_len, txt_len]; omega) (by rw [txt_len]; omega) (by rw [txt_len]; omega)))
      rw [txt_len, txt_len] at HS
      by_cases g1 : a.size < b.size
      · have HS := Lib.hid (HS.out.trans (if_pos g1))
        go_wp2
        go_ret
        exact ⟨by rw [HS.out]; rfl, HE.out⟩
      · have g2 : ¬ a.size > b.size := by omega
        have HS := Lib.hid (HS.out.trans ((if_neg g1).trans (if_neg g2)))
        go_wp2
        go_ret
        exact ⟨by rw [HS.out]; rfl, HE.out⟩
theorem cut_mem {L : List ByteArray} {p : ByteArray} (h : L.map txt = cutF (txt p)) (hp : p.size ≤ 1000) : ∀ x ∈ L, x.size ≤ 1000 := by
  intro x hx
  have h1 : txt x ∈ cutF (txt p) := by rw [← h]; exact List.mem_map_of_mem hx
  unfold cutF at h1
  split at h1
  · simp at h1
  · have := split_mem_len _ _ h1
    rw [txt_len, txt_len] at this
    omega
theorem text_neg (l m : List Int) : textF l m = -1 ∨ textF l m = 0 ∨ textF l m = 1 := by
  induction l generalizing m with
  | nil => cases m <;> simp [textF]
  | cons a l ih =>
    cases m with
    | nil => simp [textF]
    | cons b m =>
      rw [textF]
      split
      · simp
      · split
        · simp
        · exact ih m
set_option maxHeartbeats 1000000 in
set_option maxRecDepth 100000 in
theorem cmpD_any (p q : ByteArray) (w : World) (hp : p.size ≤ 1000) (hq : q.size ≤ 1000) : Calls Tryz.prog 45 #[.string p, .string q] w (RetV w (.int .i64 (cmpF (cutF (txt p)) (cutF (txt q))))) := by
  have HCP := Lib.hid (fun w => cutD_any p w hp)
  have HCQ := Lib.hid (fun w => cutD_any q w hq)
  go_enter Tryz.func45, Tryz.ntmps45
  go_wp2_with fail
  refine (HCP.out _).mono ?_
  rintro e w1 ⟨a1, c1, L1, rfl, hE1, hL1, hT1, -⟩
  have HL1 := Lib.hid hL1; clear hL1
  have hl1 := cut_size hT1 hp
  have HT1 := Lib.hid hT1; clear hT1
  go_wp2_with fail
  refine (HCQ.out _).mono ?_
  rintro e w2 ⟨a2, c2, L2, rfl, hE2, hL2, hT2, -⟩
  have HL2 := Lib.hid hL2; clear hL2
  have hl2 := cut_size hT2 hq
  have HT2 := Lib.hid hT2; clear hT2
  have HL1 := Lib.hid (HL1.out.ext hE2)
  have HE2 := Lib.hid (hE1.trans hE2); clear hE1 hE2
  have hz1 : ∀ x ∈ L1, x.size ≤ 1000 := fun x hx => cut_mem HT1.out hp x hx
  have hz2 : ∀ x ∈ L2, x.size ≤ 1000 := fun x hx => cut_mem HT2.out hq x hx
  have HZ := Lib.hid (And.intro hz1 hz2); clear hz1 hz2
  obtain ⟨n1, hn1⟩ : ∃ n1, L1.length = n1 := ⟨_, rfl⟩
  obtain ⟨n2, hn2⟩ : ∃ n2, L2.length = n2 := ⟨_, rfl⟩
  rw [hn1] at hl1
  rw [hn2] at hl2
  rw [hn1, hn2]
  have hN1 : (cutF (txt p)).length = n1 := by rw [← HT1.out, List.length_map, hn1]
  have hN2 : (cutF (txt q)).length = n2 := by rw [← HT2.out, List.length_map, hn2]
  have HNN := Lib.hid (And.intro hN1 hN2); clear hN1 hN2
  have HN := Lib.hid (And.intro hn1 hn2); clear hn1 hn2
  go_wp2
  go_loopw [7, 8] (fun i _ w' => ∃ k : Nat, k ≤ n1 ∧ k ≤ n2 ∧ i = .int .i64 k ∧ cmpF (cutF (txt p)) (cutF (txt q)) = cmpF ((cutF (txt p)).drop k) ((cutF (txt q)).drop k) ∧ Ext w2 w') (fun i _ _ => n1 - (intOf i).toNat)
  case atStart => exact ⟨0, Nat.zero_le _, Nat.zero_le _, rfl, rfl, Ext.refl _⟩
  case round =>
    obtain ⟨k, hk1, hk2, rfl, ht, hE⟩ := hrel
    have HT := Lib.hid ht; clear ht
    by_cases h1 : k < n1
    · by_cases h2 : k < n2
      · have hkl1 : k < L1.length := by rw [HN.out.1]; omega
        have hkl2 : k < L2.length := by rw [HN.out.2]; omega
        obtain ⟨b1, o1, rfl, hb1, d1⟩ := (HL1.out.ext hE).cell hkl1
        obtain ⟨b2, o2, rfl, hb2, d2⟩ := (HL2.out.ext hE).cell hkl2
        have HE := Lib.hid hE; clear hE
        have HS := Lib.hid (HT.out.trans (cmp_step (cutF (txt p)) (cutF (txt q)) k (by rw [HNN.out.1]; exact h1) (by rw [HNN.out.2]; exact h2)))
        obtain ⟨x1, hx1⟩ : ∃ x, L1[k] = x := ⟨_, rfl⟩
        obtain ⟨x2, hx2⟩ : ∃ x, L2[k] = x := ⟨_, rfl⟩
        rw [hx1] at d1
        rw [hx2] at d2
        have g1 : (cutF (txt p))[k]'(by rw [HNN.out.1]; exact h1) = txt x1 := by
          have : (cutF (txt p))[k]? = some (txt x1) := by rw [← HT1.out, List.getElem?_map, List.getElem?_eq_getElem hkl1, hx1]; rfl
          rw [List.getElem?_eq_getElem (by rw [HNN.out.1]; exact h1)] at this
          exact Option.some.inj this
        have g2 : (cutF (txt q))[k]'(by rw [HNN.out.2]; exact h2) = txt x2 := by
          have : (cutF (txt q))[k]? = some (txt x2) := by rw [← HT2.out, List.getElem?_map, List.getElem?_eq_getElem hkl2, hx2]; rfl
          rw [List.getElem?_eq_getElem (by rw [HNN.out.2]; exact h2)] at this
          exact Option.some.inj this
        rw [g1, g2] at HS
        have s1 : x1.size ≤ 1000 := by rw [← hx1]; exact HZ.out.1 _ (List.getElem_mem _)
        have s2 : x2.size ≤ 1000 := by rw [← hx2]; exact HZ.out.2 _ (List.getElem_mem _)
        clear g1 g2 hx1 hx2
        obtain ⟨z, hz⟩ : ∃ z, textF (txt x1) (txt x2) = z := ⟨_, rfl⟩
        have HTX := Lib.hid (fun w => by have h := textD_any x1 x2 w s1 s2; rw [hz] at h; exact h)
        rw [hz] at HS
        clear hz
        by_cases hz0 : z = 0
        · have hz1 : (z != 0) = false := by rw [hz0]; rfl
          have HS := Lib.hid (HS.out.trans (if_neg (by simp [hz0])))
          clear hz0
          go_wp2
          refine wp_draw_stages 47 9 [] [([true, true, true, true, true, true, true, true], 8)] Ext Ext.refl (fun _ _ _ => Ext.trans) (by kernel_rfl) (by kernel_rfl) ?_
          apply wpStages_cons (by simp)
          · intro w1 hw1
            simp only [sel_true, sel_nil]
            have e1 := (hw1.cell (x := wr.drew) (o := o1 + k) hb1).trans d1; have e2 := (hw1.cell (x := wr.drew) (o := o2 + k) hb2).trans d2
            repeat ((with_reducible refine wpStill_step (fun K hK => ?_)); go_simp; refine hK _ ?_; clear hK K)
            exact wpStill_nil rfl
          try simp only [List.getD_cons_succ, List.getD_cons_zero]
          go_wp2_with (go_at_call 62; refine (HTX.out _).mono ?_; rintro e w5 ⟨rfl, hE5⟩; have hE5 : Ext wr.drew w5 := hE5)
          refine ⟨hE5, ?_⟩
          have e1 := (hE5.cell (x := wr.drew) (o := o1 + k) hb1).trans d1
          have e2 := (hE5.cell (x := wr.drew) (o := o2 + k) hb2).trans d2
          have HE5 := Lib.hid (Ext.trans HE.out.drew hE5); clear hE5
          refine wpStages_nil ?_
          simp only [sel_nil]
          repeat ((with_reducible refine wpStill_step (fun K hK => ?_)); go_simp; refine hK _ ?_; clear hK K)
          refine wpStill_nil ?_
          try simp only [List.drop_succ_cons, List.drop_zero]
          go_wp2
          go_roundw
          case rel => exact ⟨k + 1, by omega, by omega, by go_num, HS.out, HE5.out⟩
          case measure => simp [intOf]; omega
        · have hz1 : (z != 0) = true := by simpa using hz0
          have HS := Lib.hid (HS.out.trans (if_pos hz0))
          go_wp2
          refine wp_draw_stages 47 9 [] [([true, true, true, true, true, true, true, true], 8)] Ext Ext.refl (fun _ _ _ => Ext.trans) (by kernel_rfl) (by kernel_rfl) ?_
          apply wpStages_cons (by simp)
          · intro w1 hw1
            simp only [sel_true, sel_nil]
            have e1 := (hw1.cell (x := wr.drew) (o := o1 + k) hb1).trans d1; have e2 := (hw1.cell (x := wr.drew) (o := o2 + k) hb2).trans d2
            repeat ((with_reducible refine wpStill_step (fun K hK => ?_)); go_simp; refine hK _ ?_; clear hK K)
            exact wpStill_nil rfl
          try simp only [List.getD_cons_succ, List.getD_cons_zero]
          go_wp2_with (go_at_call 62; refine (HTX.out _).mono ?_; rintro e w5 ⟨rfl, hE5⟩; have hE5 : Ext wr.drew w5 := hE5)
          refine ⟨hE5, ?_⟩
          have e1 := (hE5.cell (x := wr.drew) (o := o1 + k) hb1).trans d1
          have e2 := (hE5.cell (x := wr.drew) (o := o2 + k) hb2).trans d2
          have HE5 := Lib.hid (Ext.trans HE.out.drew hE5); clear hE5
          refine wpStages_nil ?_
          simp only [sel_nil]
          repeat ((with_reducible refine wpStill_step (fun K hK => ?_)); go_simp; refine hK _ ?_; clear hK K)
          refine wpStill_nil ?_
          try simp only [List.drop_succ_cons, List.drop_zero]
          go_wp2
          go_ret
          exact ⟨by rw [HS.out]; rfl, HE2.out.trans HE5.out⟩
      · have HE := Lib.hid hE; clear hE
        have HS := Lib.hid (HT.out.trans (cmp_end (cutF (txt p)) (cutF (txt q)) k (by rw [HNN.out.1, HNN.out.2]; omega) (by rw [HNN.out.1]; omega) (by rw [HNN.out.2]; omega)))
        rw [HNN.out.1, HNN.out.2] at HS
        have g1 : ¬ n1 < n2 := by omega
        have g2 : n1 > n2 := by omega
        have HS := Lib.hid (HS.out.trans ((if_neg g1).trans (if_pos g2)))
        go_wp2
        go_ret
        exact ⟨by rw [HS.out]; rfl, HE2.out.trans HE.out⟩
    · have HE := Lib.hid hE; clear hE
      have HS := Lib.hid (HT.out.trans (cmp_end (cutF (txt p)) (cutF (txt q)) k (by rw [HNN.out.1, HNN.out.2]; omega) (by rw [HNN.out.1]; omega) (by rw [HNN.out.2]; omega)))
      rw [HNN.out.1, HNN.out.2] at HS
      by_cases g1 : n1 < n2
      · have HS := Lib.hid (HS.out.trans (if_pos g1))
        go_wp2
        go_ret
        exact ⟨by rw [HS.out]; rfl, HE2.out.trans HE.out⟩
      · have g2 : ¬ n1 > n2 := by omega
        have HS := Lib.hid (HS.out.trans ((if_neg g1).trans (if_neg g2)))
        go_wp2
        go_ret
        exact ⟨by rw [HS.out]; rfl, HE2.out.trans HE.out⟩
end Go.Proofs.YtiopahkigbdmcaaGreat
