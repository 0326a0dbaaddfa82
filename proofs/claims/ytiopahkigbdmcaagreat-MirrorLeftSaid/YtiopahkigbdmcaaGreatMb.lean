/- Paths (layer 1), in plain words: what stands between slashes, names, right paths. No program is named here. -/
import Derived.Test.YtiopahkigbdmcaaGreatMa
import Derived.Lib.Bytealg
import Derived.OwnWalk
import Derived.Laws.AppendOwn
import Derived.Deep.DeepCutAuto
namespace Go.Proofs.YtiopahkigbdmcaaGreat

/-- What stands between slashes. -/
def splitF : List Int → List (List Int)
  | [] => [[]]
  | c :: r => if c = 47 then [] :: splitF r else match splitF r with | [] => [[c]] | h :: t => (c :: h) :: t
/-- The same; nothing of the empty text. -/
def cutF (l : List Int) : List (List Int) := if l = [] then [] else splitF l
/-- Names with slashes between. -/
def glueF : List (List Int) → List Int
  | [] => []
  | [a] => a
  | a :: b :: r => a ++ 47 :: glueF (b :: r)
/-- May a byte stand in a name? -/
def letF (c : Int) : Bool := decide (97 ≤ c) && decide (c ≤ 122) || decide (65 ≤ c) && decide (c ≤ 90) || decide (48 ≤ c) && decide (c ≤ 57) || c == 46 || c == 95 || c == 45
def nameF (l : List Int) : Bool := l.all letF && decide (1 ≤ l.length) && decide (l.length ≤ 12) && l != [46] && l != [46, 46]
def rightF (l : List Int) : Bool := (cutF l).all nameF && decide ((cutF l).length ≤ 16)
def namesF (l : List Int) : List (List Int) := if rightF l then cutF l else []

theorem splitF_ne (l : List Int) : splitF l ≠ [] := by
  cases l with
  | nil => simp [splitF]
  | cons c r =>
    rw [splitF]
    split
    · simp
    · split <;> simp
theorem splitF_none (l : List Int) (h : 47 ∉ l) : splitF l = [l] := by
  induction l with
  | nil => rfl
  | cons c r ih =>
    rw [splitF, if_neg (by intro e; subst e; exact h (by simp)), ih (fun hm => h (by simp [hm]))]
theorem splitF_at (a r : List Int) (h : 47 ∉ a) : splitF (a ++ 47 :: r) = a :: splitF r := by
  induction a with
  | nil => rw [List.nil_append, splitF, if_pos rfl]
  | cons c a ih =>
    rw [List.cons_append, splitF, if_neg (by intro e; subst e; exact h (by simp)), ih (fun hm => h (by simp [hm]))]
theorem glueF_cons (a : List Int) (r : List (List Int)) (h : r ≠ []) : glueF (a :: r) = a ++ 47 :: glueF r := by
  cases r with
  | nil => exact absurd rfl h
  | cons b r => rfl
theorem first_slash (l : List Int) : 47 ∉ l ∨ ∃ a r, l = a ++ 47 :: r ∧ 47 ∉ a := by
  induction l with
  | nil => exact Or.inl (by simp)
  | cons c l ih =>
    by_cases hc : c = 47
    · subst hc; exact Or.inr ⟨[], l, rfl, by simp⟩
    · rcases ih with h | ⟨a, r, rfl, h⟩
      · exact Or.inl (by simp [h]; omega)
      · exact Or.inr ⟨c :: a, r, rfl, by simp [h]; omega⟩
theorem glue_split (l : List Int) : glueF (splitF l) = l := by
  induction hn : l.length using Nat.strongRecOn generalizing l with
  | _ n ih =>
    rcases first_slash l with h | ⟨a, r, rfl, h⟩
    · rw [splitF_none l h]; rfl
    · rw [splitF_at a r h, glueF_cons _ _ (splitF_ne r), ih r.length (by simp at hn; omega) r rfl]
theorem split_mem (l : List Int) : ∀ x ∈ splitF l, 47 ∉ x := by
  induction hn : l.length using Nat.strongRecOn generalizing l with
  | _ n ih =>
    rcases first_slash l with h | ⟨a, r, rfl, h⟩
    · rw [splitF_none l h]; intro x hx; rw [List.mem_singleton] at hx; subst hx; exact h
    · rw [splitF_at a r h]
      intro x hx
      rcases List.mem_cons.1 hx with rfl | hx
      · exact h
      · exact ih r.length (by simp at hn; omega) r rfl x hx
theorem split_glue (L : List (List Int)) (h0 : L ≠ []) (h : ∀ x ∈ L, 47 ∉ x) : splitF (glueF L) = L := by
  induction L with
  | nil => exact absurd rfl h0
  | cons a r ih =>
    by_cases hr : r = []
    · subst hr; exact splitF_none a (h a (by simp))
    · rw [glueF_cons a r hr, splitF_at a _ (h a (by simp)), ih hr (fun x hx => h x (by simp [hx]))]
theorem splitF_snoc (l : List Int) (c : Int) : splitF (l ++ [c]) = if c = 47 then splitF l ++ [[]] else (splitF l).dropLast ++ [(splitF l).getLast (splitF_ne l) ++ [c]] := by
  induction hn : l.length using Nat.strongRecOn generalizing l with
  | _ n ih =>
    rcases first_slash l with h | ⟨a, r, rfl, h⟩
    · by_cases hc : c = 47
      · subst hc
        rw [if_pos rfl, splitF_at l [] h, splitF_none l h]; rfl
      · rw [if_neg hc, splitF_none (l ++ [c]) (by simp [h]; omega)]
        simp only [splitF_none l h]
        rfl
    · have e : a ++ 47 :: r ++ [c] = a ++ 47 :: (r ++ [c]) := by simp
      rw [e, splitF_at a _ h, ih r.length (by simp at hn; omega) r rfl]
      simp only [splitF_at a r h]
      by_cases hc : c = 47
      · simp [hc]
      · simp only [hc, if_false]
        rw [List.dropLast_cons_of_ne_nil (splitF_ne r), List.getLast_cons (splitF_ne r)]
        rfl
theorem split_len (l : List Int) : (splitF l).length ≤ l.length + 1 := by
  induction hn : l.length using Nat.strongRecOn generalizing l with
  | _ n ih =>
    rcases first_slash l with h | ⟨a, r, rfl, h⟩
    · rw [splitF_none l h]; simp
    · rw [splitF_at a r h]
      have := ih r.length (by simp at hn; omega) r rfl
      simp at hn ⊢; omega

/-! ### Texts and their bytes -/
/-- The text of these bytes. -/
def strOf (l : List Int) : ByteArray := ⟨(l.map fun x => UInt8.ofNat x.toNat).toArray⟩
theorem strOf_txt (s : ByteArray) : strOf (txt s) = s := by
  unfold strOf txt
  rw [List.map_map]
  have : (fun x : Int => UInt8.ofNat x.toNat) ∘ (fun b : UInt8 => (b.toNat : Int)) = id := by funext b; simp
  rw [this, List.map_id]
theorem txt_inj {s t : ByteArray} (h : txt s = txt t) : s = t := by rw [← strOf_txt s, ← strOf_txt t, h]
theorem txt_extract (s : ByteArray) (a b : Nat) : txt (s.extract a b) = ((txt s).take b).drop a := by
  unfold txt
  rw [ByteArray.data_extract]
  simp [List.map_take, List.map_drop]
  rw [List.drop_take]
theorem txt_append (s t : ByteArray) : txt (s ++ t) = txt s ++ txt t := by unfold txt; simp
theorem txt_byte (s : ByteArray) : ∀ x ∈ txt s, 0 ≤ x ∧ x < 256 := by
  intro x hx
  unfold txt at hx
  obtain ⟨b, _, rfl⟩ := List.mem_map.1 hx
  have := b.toNat_lt
  omega
theorem txt_strOf (l : List Int) (h : ∀ x ∈ l, 0 ≤ x ∧ x < 256) : txt (strOf l) = l := by
  unfold strOf txt
  simp only [List.map_map]
  conv => rhs; rw [← List.map_id l]
  apply List.map_congr_left
  intro x hx
  have := h x hx
  simp only [Function.comp, id]
  have e : (UInt8.ofNat x.toNat).toNat = x.toNat := by simp; omega
  rw [e]; omega
theorem strOf_size (l : List Int) : (strOf l).size = l.length := by simp [strOf, ByteArray.size]
theorem txt_nil {s : ByteArray} : txt s = [] ↔ s.size = 0 := by
  rw [← txt_len s, List.length_eq_zero_iff]
theorem split_byte (l : List Int) (h : ∀ x ∈ l, 0 ≤ x ∧ x < 256) : ∀ y ∈ splitF l, ∀ x ∈ y, 0 ≤ x ∧ x < 256 := by
  induction hn : l.length using Nat.strongRecOn generalizing l with
  | _ n ih =>
    rcases first_slash l with h' | ⟨a, r, rfl, h'⟩
    · rw [splitF_none l h']; intro y hy; rw [List.mem_singleton] at hy; subst hy; exact h
    · rw [splitF_at a r h']
      intro y hy
      rcases List.mem_cons.1 hy with rfl | hy
      · exact fun x hx => h x (by simp [hx])
      · exact ih r.length (by simp at hn; omega) r (fun x hx => h x (by simp [hx])) rfl y hy
/-- Where the first slash stands. -/
theorem index_slash (s : ByteArray) : (Lib.indexByte s.data.toList 47 = -1 ∧ 47 ∉ txt s) ∨ ∃ i : Nat, i < s.size ∧ Lib.indexByte s.data.toList 47 = i ∧ 47 ∉ (txt s).take i ∧ txt s = (txt s).take i ++ 47 :: (txt s).drop (i + 1) := by
  have key : ∀ l : List UInt8, (Lib.indexByte l 47 = -1 ∧ 47 ∉ l.map (fun b => (b.toNat : Int))) ∨ ∃ i : Nat, i < l.length ∧ Lib.indexByte l 47 = i ∧ 47 ∉ (l.map (fun b => (b.toNat : Int))).take i ∧ l.map (fun b => (b.toNat : Int)) = (l.map (fun b => (b.toNat : Int))).take i ++ 47 :: (l.map (fun b => (b.toNat : Int))).drop (i + 1) := by
    intro l
    induction l with
    | nil => exact Or.inl ⟨rfl, by simp⟩
    | cons b l ih =>
      by_cases hb : b = 47
      · subst hb
        exact Or.inr ⟨0, by simp, by simp [Lib.indexByte], by simp, by simp⟩
      · have hb' : (b == 47) = false := by simp [hb]
        have hbi : (b.toNat : Int) ≠ 47 := by
          intro e
          apply hb
          apply UInt8.toNat_inj.1
          simpa using (by omega : b.toNat = 47)
        rcases ih with ⟨h1, h2⟩ | ⟨i, h1, h2, h3, h4⟩
        · exact Or.inl ⟨by simp [Lib.indexByte, hb', h1], by simp only [List.map_cons, List.mem_cons, not_or]; exact ⟨fun e => hbi e.symm, h2⟩⟩
        · refine Or.inr ⟨i + 1, by simpa using h1, ?_, ?_, ?_⟩
          · rw [Lib.indexByte, hb', if_neg (by simp), h2, if_neg (by simp)]; rfl
          · simp only [List.map_cons, List.take_succ_cons, List.mem_cons, not_or]; exact ⟨fun e => hbi e.symm, h3⟩
          · simp only [List.map_cons, List.take_succ_cons, List.cons_append, List.drop_succ_cons]
            rw [← h4]
  rcases key s.data.toList with h | ⟨i, h1, h2, h3, h4⟩
  · exact Or.inl h
  · exact Or.inr ⟨i, by simpa using h1, h2, h3, h4⟩
end Go.Proofs.YtiopahkigbdmcaaGreat
/- The program's names (layer 1): the walks. -/
namespace Go.Proofs.YtiopahkigbdmcaaGreat
open Go Go.Proofs Go.RowKit

theorem ret_bool {a b : Bool} (h : a = b) : Ending.returned (.bool a) = .returned (.bool b) := by rw [h]
set_option maxHeartbeats 1000000 in
set_option maxRecDepth 100000 in
theorem letter_any (c : Int) (w : World) (h0 : 0 ≤ c) (h1 : c < 256) : Calls Tryz.prog 131 #[.int .u8 c] w (fun e w' => e = .returned (.bool (letF c)) ∧ w = w') := by
  obtain ⟨b, hb⟩ : ∃ b, letF c = b := ⟨_, rfl⟩
  rw [hb]
  have hb' : b = true ↔ ((97 ≤ c ∧ c ≤ 122) ∨ (65 ≤ c ∧ c ≤ 90) ∨ (48 ≤ c ∧ c ≤ 57) ∨ c = 46 ∨ c = 95 ∨ c = 45) := by
    rw [← hb]; simp [letF, or_assoc]
  have HB := Lib.hid hb'; clear hb hb'
  go_enter Tryz.func131, Tryz.ntmps131
  go_wp2
  all_goals go_ret
  all_goals refine ⟨ret_bool ?_, rfl⟩
  all_goals (rw [Bool.eq_iff_iff, HB.out]; first | (simp; omega) | (simp_all; done) | (simp_all; omega))

theorem toList_txt (s : ByteArray) (l : List UInt8) : s.toList = l ↔ txt s = l.map fun b => (b.toNat : Int) := by
  rw [ByteArray.toList_eq]
  unfold txt
  constructor
  · intro h; rw [h]
  · intro h
    refine List.map_inj_right (f := fun b : UInt8 => (b.toNat : Int)) (fun x y hxy => UInt8.toNat_inj.1 (by omega)) |>.1 h
theorem take_all (l : List Int) (p : Int → Bool) (k : Nat) (h : k < l.length) : (l.take (k + 1)).all p = ((l.take k).all p && p l[k]) := by
  rw [← List.take_append_getElem h, List.all_append]; simp
theorem name_false (s : ByteArray) (h : s.toList = [] ∨ 12 < s.size ∨ s.toList = [46] ∨ s.toList = [46, 46]) : nameF (txt s) = false := by
  rw [toList_txt, toList_txt, toList_txt] at h
  unfold nameF
  rcases h with h | h | h | h
  · rw [h]; rfl
  · rw [← txt_len s] at h
    have : decide ((txt s).length ≤ 12) = false := by simp; omega
    rw [this]; simp
  · rw [h]; rfl
  · rw [h]; rfl
theorem name_all (s : ByteArray) (h1 : ¬ s.toList = []) (h2 : s.size ≤ 12) (h3 : ¬ s.toList = [46]) (h4 : ¬ s.toList = [46, 46]) : nameF (txt s) = (txt s).all letF := by
  rw [toList_txt] at h1 h3 h4
  unfold nameF
  rw [← txt_len s] at h2
  have a1 : decide (1 ≤ (txt s).length) = true := by
    rw [decide_eq_true_eq]
    cases hh : txt s with
    | nil => exact absurd hh h1
    | cons _ _ => simp
  have a2 : decide ((txt s).length ≤ 12) = true := by simpa using h2
  have a3 : (txt s != [46]) = true := by simpa using h3
  have a4 : (txt s != [46, 46]) = true := by simpa using h4
  rw [a1, a2, a3, a4]; simp

set_option maxHeartbeats 1000000 in
set_option maxRecDepth 100000 in
theorem nameP_any (s : ByteArray) (w : World) : Calls Tryz.prog 109 #[.string s] w (fun e w' => e = .returned (.bool (nameF (txt s))) ∧ w = w') := by
  have HL := Lib.hid letter_any
  go_enter Tryz.func109, Tryz.ntmps109
  go_wp2_with fail
  · have h : s.toList = [] := by assumption
    go_ret
    exact ⟨ret_bool (name_false s (Or.inl h)).symm, rfl⟩
  · have h : s.toList = [46] := by assumption
    go_ret
    exact ⟨ret_bool (name_false s (Or.inr (Or.inr (Or.inl h)))).symm, rfl⟩
  · rename_i h1 h2 h3 h4
    go_ret
    refine ⟨ret_bool (name_false s ?_).symm, rfl⟩
    rcases h4 with ((h | h) | h) | h
    · exact absurd (by simpa using h) h1
    · exact Or.inr (Or.inl (by omega))
    · exact absurd (by simpa using h) h3
    · exact Or.inr (Or.inr (Or.inr (by simpa using h)))
  · rename_i h1 h2 h3 h4 _ _
    have hn := name_all s h1 (by omega) h3 (by simpa using h4.2)
    have HN := Lib.hid hn
    have hs12 : s.size ≤ 12 := by omega
    clear hn h1 h2 h3 h4
    go_loop [21] (fun i => ∃ k : Nat, k ≤ s.size ∧ i = .int .i64 k ∧ ((txt s).take k).all letF = true) (fun i => s.size - (intOf i).toNat)
    case atStart => exact ⟨0, Nat.zero_le _, rfl, rfl⟩
    case round =>
      obtain ⟨k, hk, rfl, hall⟩ := hrel
      have HA := Lib.hid hall; clear hall
      by_cases hlt : k < s.size
      · have HT := Lib.hid (take_all (txt s) letF k (by rw [txt_len]; exact hlt))
        rw [txt_at s k hlt] at HT
        have hb := s[k].toNat_lt
        obtain ⟨b, hbb⟩ : ∃ b, letF ((s[k].toNat : Nat) : Int) = b := ⟨_, rfl⟩
        have HC := HL.out ((s[k].toNat : Nat) : Int) w (by omega) (by omega)
        rw [hbb] at HC HT
        have HC' := Lib.hid HC; clear HC hbb
        cases b
        · go_wp2_with (go_at_call 131; refine (HC'.out).mono ?_; rintro e w' ⟨rfl, rfl⟩)
          go_ret
          refine ⟨ret_bool ?_, rfl⟩
          have h := HT.out
          rw [Bool.and_false] at h
          rw [HN.out]
          show false = _
          rw [eq_comm, ← Bool.not_eq_true]
          intro hall
          rw [← Bool.not_eq_true] at h
          apply h
          rw [List.all_eq_true] at hall ⊢
          exact fun x hx => hall x (List.mem_of_mem_take hx)
        · go_wp2_with (go_at_call 131; refine (HC'.out).mono ?_; rintro e w' ⟨rfl, rfl⟩)
          go_round
          case rel => exact ⟨k + 1, by omega, by go_num, by rw [HT.out, HA.out]; rfl⟩
          case measure => simp [intOf]; omega
      · obtain rfl : k = s.size := by omega
        go_wp2
        go_ret
        refine ⟨ret_bool ?_, rfl⟩
        have h := HA.out
        rw [List.take_of_length_le (by rw [txt_len]; exact Nat.le_refl _)] at h
        rw [HN.out, h]
  · have h : (12 : Int) < s.size := by assumption
    go_ret
    exact ⟨ret_bool (name_false s (Or.inr (Or.inl (by omega)))).symm, rfl⟩
end Go.Proofs.YtiopahkigbdmcaaGreat
/- The document's cuts (layer 1), piece by piece: the walk. -/
namespace Go.Proofs.YtiopahkigbdmcaaGreat
open Go Go.Proofs Go.RowKit

/-- Texts in memory. -/
def StrsAt (w : World) (a : Option Addr) (L : List ByteArray) : Prop :=
  L = [] ∨ ∃ b off cs, a = some ⟨b, off, none⟩ ∧ w.heap[b]? = some (.cells cs 9 (0, 0)) ∧ ∀ i (h : i < L.length), cs[off + i]? = some (.string L[i])
theorem StrsAt.ext {w w' : World} {a : Option Addr} {L : List ByteArray} (h : StrsAt w a L) (hE : Ext w w') : StrsAt w' a L := by
  rcases h with h | ⟨b, off, cs, ha, hb, hall⟩
  · exact Or.inl h
  · exact Or.inr ⟨b, off, cs, ha, hE.block hb, hall⟩
theorem StrsAt.cell {w : World} {a : Option Addr} {L : List ByteArray} (h : StrsAt w a L) {i : Nat} (hi : i < L.length) : ∃ b off, a = some ⟨b, off, none⟩ ∧ b < w.heap.size ∧ w.cell? ⟨b, off + i, none⟩ = some (.string L[i]) := by
  rcases h with h | ⟨b, off, cs, ha, hb, hall⟩
  · subst h; simp at hi
  · exact ⟨b, off, ha, blk_lt hb, blk_cell hb (hall i hi)⟩

/-- A row of texts of the call's own: the pieces of the first k bytes. -/
def CutRow (w0 : World) (p : ByteArray) (k : Nat) (v : Value) (w : World) : Prop := ∃ g cap cur, ∃ L : List ByteArray, v = .slice (some ⟨g, 0, none⟩) L.length cap ∧ w0.heap.size ≤ g ∧ w.heap[g]? = some (.cells cur 9 (0, 0)) ∧ L.length ≤ cap ∧ cap ≤ maxLen ∧ cur.size = cap ∧
  (∀ j (h : j < L.length), cur[j]? = some (.string L[j])) ∧ L.map txt = splitF ((txt p).take k) ∧ Ext w0 w
theorem CutRow.pos {L : List ByteArray} {l : List Int} (h : L.map txt = splitF l) : ∃ m, L.length = m + 1 := by
  have := congrArg List.length h
  rw [List.length_map] at this
  have := List.length_pos_iff.2 (splitF_ne l)
  exact ⟨L.length - 1, by omega⟩
theorem CutRow.len {L : List ByteArray} {l : List Int} (h : L.map txt = splitF l) : L.length ≤ l.length + 1 := by
  have := congrArg List.length h
  rw [List.length_map] at this
  have := split_len l
  omega
theorem CutRow.start (w0 : World) (p : ByteArray) : CutRow w0 p 0 (.slice (some ⟨w0.heap.size, 0, none⟩) 1 1) (w0.alloc (.cells #[.string ByteArray.empty] 9)) := by
  refine ⟨w0.heap.size, 1, _, [ByteArray.empty], rfl, Nat.le_refl _, heap_new _ _, Nat.le_refl _, by unfold maxLen; omega, rfl, ?_, rfl, (Ext.refl w0).alloc _⟩
  intro j hj
  obtain rfl : j = 0 := by simpa using hj
  rfl
theorem CutRow.own {w0 w : World} {g n cap : Nat} {cur : Array Value} (hg : w0.heap.size ≤ g) (hb : w.heap[g]? = some (.cells cur 9 (0, 0))) (h1 : n ≤ cap) (h2 : cap ≤ maxLen) (h3 : cur.size = cap) :
    w.ownsRow w0.heap.size 9 1 (.slice (some ⟨g, 0, none⟩) n cap) n (cur.toList.take n) := by
  refine ⟨by simp; omega, .inr ⟨g, cap, cur, rfl, hg, hb, h1, h2, by omega, by simp⟩⟩
theorem take_txt (p : ByteArray) (k : Nat) (h : k < p.size) : (txt p).take (k + 1) = (txt p).take k ++ [((p[k].toNat : Nat) : Int)] := by
  rw [List.take_succ_eq_append_getElem (by rw [txt_len]; exact h), txt_at p k h]
theorem CutRow.appended {w0 w w' : World} {p : ByteArray} {k g n cap : Nat} {cur : Array Value} {v' : Value} {L : List ByteArray} (hk : k < p.size) (h47 : ((p[k].toNat : Nat) : Int) = 47) (hn : L.length = n) (hE : Ext w0 w) (hg : w0.heap.size ≤ g) (hcap : n ≤ cap) (h3 : cur.size = cap)
    (hall : ∀ j (h : j < L.length), cur[j]? = some (.string L[j])) (hL : L.map txt = splitF ((txt p).take k))
    (hown : w'.ownsRow w0.heap.size 9 1 v' (n + 1) (cur.toList.take n ++ [.string ByteArray.empty])) (hgr : w.grownBy w' (some g)) : CutRow w0 p (k + 1) v' w' := by
  obtain ⟨_, ⟨_, h0⟩ | ⟨g', cap', cur', rfl, hg', hb', hc', hm', hs', hx⟩⟩ := hown
  · omega
  refine ⟨g', cap', cur', L ++ [ByteArray.empty], by rw [List.length_append, List.length_singleton, hn], hg', hb', by simp; omega, hm', by omega, ?_, ?_, ?_⟩
  · intro j hj
    rw [List.length_append, List.length_singleton] at hj
    have e : cur'.toList[j]? = (cur.toList.take n ++ [Value.string ByteArray.empty])[j]? := by
      rw [← hx, List.getElem?_take]
      simp; omega
    rw [Array.getElem?_toList] at e
    rw [e]
    by_cases hjn : j < n
    · rw [List.getElem?_append_left (by simp; omega), List.getElem?_take_of_lt hjn, Array.getElem?_toList, hall j (by omega), List.getElem_append_left (by omega)]
    · obtain rfl : j = n := by omega
      rw [List.getElem?_append_right (by simp; omega), List.getElem_append_right (by omega)]
      simp [show min j cur.size = j by omega, hn]
  · rw [List.map_append, hL, take_txt p k hk, splitF_snoc, if_pos h47]; rfl
  · refine ⟨hgr.os.trans hE.os, hgr.tape.trans hE.tape, hgr.output.trans hE.output, Nat.le_trans hE.size hgr.size, fun b hb => ?_⟩
    have h1 := Below.block hE b hb
    have := hE.size
    exact (hgr.block b (by omega) (by intro e; cases e; omega)).trans h1
theorem set_last {α : Type} (S : List α) (m : Nat) (h : S.length = m + 1) (a : α) : S.set m a = S.dropLast ++ [a] := by
  rcases List.eq_nil_or_concat S with rfl | ⟨T, b, rfl⟩
  · simp at h
  · rw [List.concat_eq_append] at h ⊢
    have hm : m = T.length := by simp at h; omega
    subst hm
    simp
theorem CutRow.stored {w0 w : World} {p : ByteArray} {k g m cap : Nat} {cur : Array Value} {L : List ByteArray} {sl t : ByteArray} (hk : k < p.size) (h47 : ((p[k].toNat : Nat) : Int) ≠ 47) (hn : L.length = m + 1) (hsl : L[m]? = some sl) (ht : t = sl ++ p.extract k (k + 1)) (hE : Ext w0 w) (hg : w0.heap.size ≤ g) (hb : w.heap[g]? = some (.cells cur 9 (0, 0))) (hcap : m + 1 ≤ cap) (hm : cap ≤ maxLen) (h3 : cur.size = cap)
    (hall : ∀ j (h : j < L.length), cur[j]? = some (.string L[j])) (hL : L.map txt = splitF ((txt p).take k)) :
    CutRow w0 p (k + 1) (.slice (some ⟨g, 0, none⟩) (m + 1) cap) (w.setCell ⟨g, m, none⟩ (.string t)) := by
  refine ⟨g, cap, _, L.set m t, by rw [List.length_set, hn], hg, blk_set _ hb, by rw [List.length_set, hn]; exact hcap, hm, by simpa using h3, ?_, ?_, hE.setNew hg _⟩
  · intro j hj
    rw [List.length_set] at hj
    by_cases hjn : j = m
    · subst hjn
      rw [Array.getElem?_setIfInBounds_self_of_lt (by omega)]; simp
    · rw [Array.getElem?_setIfInBounds_ne (fun e => hjn e.symm), hall j hj, List.getElem_set_ne (fun e => hjn e.symm)]
  · rw [take_txt p k hk, splitF_snoc, if_neg h47, List.map_set, hL]
    have hne : splitF ((txt p).take k) ≠ [] := splitF_ne _
    have hlen : (splitF ((txt p).take k)).length = m + 1 := by rw [← hL, List.length_map, hn]
    have e1 : txt t = txt sl ++ [((p[k].toNat : Nat) : Int)] := by
      rw [ht, txt_append, txt_extract, take_txt p k hk, List.drop_left' (by simp [txt_len]; omega)]
    have e3 : (splitF ((txt p).take k)).getLast hne = txt sl := by
      have h1 : (splitF ((txt p).take k))[m]? = some (txt sl) := by rw [← hL, List.getElem?_map, hsl]; rfl
      rw [List.getLast_eq_getElem]
      simp only [hlen, Nat.add_sub_cancel]
      rw [List.getElem?_eq_getElem (by omega)] at h1
      exact Option.some.inj h1
    rw [set_last _ m hlen, e3, ← e1]
theorem CutRow.drew {w0 w : World} {p : ByteArray} {k : Nat} {v : Value} (h : CutRow w0 p k v w) : CutRow w0 p k v w.drew := by
  obtain ⟨g, cap, cur, L, hv, hg, hb, h1, h2, h3, h4, h5, hE⟩ := h
  exact ⟨g, cap, cur, L, hv, hg, hb, h1, h2, h3, h4, h5, hE.drew⟩
theorem split_mem_len (l : List Int) : ∀ x ∈ splitF l, x.length ≤ l.length := by
  induction hn : l.length using Nat.strongRecOn generalizing l with
  | _ n ih =>
    rcases first_slash l with h | ⟨a, r, rfl, h⟩
    · rw [splitF_none l h]; intro x hx; rw [List.mem_singleton] at hx; subst hx; omega
    · rw [splitF_at a r h]
      intro x hx
      rcases List.mem_cons.1 hx with rfl | hx
      · simp at hn; omega
      · have := ih r.length (by simp at hn; omega) r rfl x hx
        simp at hn; omega
/-- What a cut hands back. -/
def CutTold (p : ByteArray) (w : World) (e : Ending) (w' : World) : Prop := ∃ a c, ∃ L : List ByteArray, e = .returned (.slice a L.length c) ∧ Ext w w' ∧ StrsAt w' a L ∧ L.map txt = cutF (txt p) ∧ L.length ≤ c

set_option maxHeartbeats 2000000 in
set_option maxRecDepth 100000 in
theorem cutD_any (p : ByteArray) (w : World) (hs : p.size ≤ 1000) :
    Calls Tryz.prog 56 #[.string p] w (CutTold p w) := by
  obtain ⟨i0, hi, hz0, hz1, hz2⟩ := info_parts (P := Tryz.prog) (e := 9) (z := .string ByteArray.empty) (size := 1) (bytes := 16) (by kernel_rfl)
  have HI := Lib.hid hi; clear hi
  by_cases hpe : txt p = []
  · have he : p.toList = [] := by rw [toList_txt]; exact hpe
    have he' : p.toList.isEmpty = true := by rw [he]; rfl
    have HC : Hid (cutF (txt p) = []) := Lib.hid (by rw [cutF, if_pos hpe])
    clear hpe
    go_enter Tryz.func56, Tryz.ntmps56
    go_wp2
    go_ret
    exact ⟨none, 0, [], rfl, Ext.refl w, Or.inl rfl, by rw [HC.out]; rfl, Nat.le_refl _⟩
  · have he : ¬ p.toList = [] := by rw [toList_txt]; exact hpe
    have he' : p.toList.isEmpty = false := by simpa using he
    have HC : Hid (cutF (txt p) = splitF (txt p)) := Lib.hid (by rw [cutF, if_neg hpe])
    clear hpe
    go_enter Tryz.func56, Tryz.ntmps56
    go_wp2
    go_loopw [3, 4] (fun v i w' => ∃ k : Nat, k ≤ p.size ∧ i = .int .i64 k ∧ CutRow w p k v w') (fun _ i _ => p.size - (intOf i).toNat)
    case atStart => exact ⟨0, Nat.zero_le _, rfl, CutRow.start w p⟩
    case round =>
      obtain ⟨k, hk, rfl, g, cap, cur, L, rfl, hg, hb, hcap, hm, hcs, hall, hL, hE⟩ := hrel
      by_cases hlt : k < p.size
      · obtain ⟨m, hn⟩ := CutRow.pos hL
        have hmk := CutRow.len hL
        rw [List.length_take, txt_len] at hmk
        obtain ⟨sl, hsl⟩ : ∃ sl, L[m]? = some sl := ⟨_, List.getElem?_eq_getElem (by omega)⟩
        have hcl : cur[m]? = some (.string sl) := by
          have h1 := hall m (by omega)
          rw [List.getElem?_eq_getElem (by omega)] at hsl
          rw [Option.some.inj hsl] at h1
          exact h1
        have hsls : sl.size ≤ k := by
          have h1 : txt sl ∈ splitF ((txt p).take k) := by rw [← hL]; exact List.mem_map.2 ⟨_, List.mem_of_getElem? hsl, rfl⟩
          have := split_mem_len ((txt p).take k) _ h1
          rw [txt_len, List.length_take, txt_len] at this
          omega
        have hcell : wr.cell? ⟨g, m, none⟩ = some (.string sl) := blk_cell hb hcl
        have hfree : wr.frozen? ⟨g, m, none⟩ = false := blk_free hb
        have hglt := blk_lt hb
        obtain ⟨n, hnn⟩ : ∃ n, L.length = n := ⟨_, rfl⟩
        rw [hnn]
        rw [hnn] at hcap
        obtain rfl : n = m + 1 := by omega
        have hmle : m ≤ 1000 := by omega
        have HNN := Lib.hid hnn; clear hnn hn
        have hown := Lib.hid (CutRow.own hg hb hcap hm hcs)
        have wr1 : IntKind.i64.wrap (((m + 1 : Nat) : Int) - 1) = (m : Int) := by rw [IntWalk.i64_in _ (by unfold maxLen at hm; omega)]; omega
        have wr2 : IntKind.i64.wrap ((m : Int) + 1 - 1) = (m : Int) := by rw [IntWalk.i64_in _ (by unfold maxLen at hm; omega)]; omega
        have wr3 : IntKind.i64.wrap (m : Int) = (m : Int) := IntWalk.i64_in _ (by unfold maxLen at hm; omega)
        have wr4 : IntKind.i64.wrap ((k : Int) + 1) = (k : Int) + 1 := IntWalk.i64_in _ (by omega)
        have e1 : (m : Int) < (m : Int) + 1 := by omega
        have e2 : (k : Int) ≤ (k : Int) + 1 := by omega
        have e3 : (k : Int) + 1 ≤ (p.size : Int) := by omega
        have e4 : (0 : Int) ≤ (k : Int) := by omega
        have e5 : (0 : Int) ≤ (m : Int) := by omega
        have e6 : ¬ 9223372036854775807 < sl.size + (min (k + 1) p.size - k) := by omega
        have hcelld : wr.drew.cell? ⟨g, m, none⟩ = some (.string sl) := hcell
        have hfreed : wr.drew.frozen? ⟨g, m, none⟩ = false := hfree
        have HB := Lib.hid hb; clear hb
        have HALL := Lib.hid hall; clear hall
        have HE := Lib.hid hE; clear hE
        have HL := Lib.hid hL; clear hL
        have HSL := Lib.hid hsl; clear hsl
        clear hcl
        by_cases h47 : ((p[k].toNat : Nat) : Int) = 47
        · have g47 : (((p[k].toNat : Nat) : Int) == 47) = true := by rw [h47]; rfl
          have H47 := Lib.hid h47; clear h47
          go_wp2_with (at_builtin; refine wpList_append_own _ rfl _ _ 93 rfl w.heap.size 9 i0 (.string ByteArray.empty) 1 16 (by kernel_rfl) HI.out hz0 hz1 hz2 rfl (by decide) _ _ _ rfl (hown.out.alloc _) ⟨wr.heap.size, 0, none⟩ 1 1 [.string ByteArray.empty] rfl rfl (cell_one_new _ _ _) (fun x hx => by simp at hx; subst hx; rfl) (by unfold maxLen; omega) (by omega) (by have := HE.out.size; simp; omega) ?_; intro v' w1 hown' hgrow' _; have hgrow1 : wr.grownBy w1 (some g) := ⟨hgrow'.os, hgrow'.tape, hgrow'.output, by have := hgrow'.size; simp at this; omega, fun b hb hne => (hgrow'.block b (lt_alloc hb) hne).trans (Below.heap_alloc wr _ b hb)⟩)
          go_roundw
          case rel => exact ⟨k + 1, by omega, by go_num, CutRow.appended hlt H47.out HNN.out HE.out hg hcap hcs HALL.out HL.out hown' hgrow1⟩
          case measure => simp [intOf]; omega
        · have g47 : (((p[k].toNat : Nat) : Int) == 47) = false := by simp [h47]
          have H47 := Lib.hid h47; clear h47
          go_wp2
          refine wp_draw_tail 17 (by kernel_rfl) (by kernel_rfl) ?_
          simp only [List.take_succ_cons, List.take_zero, List.drop_succ_cons, List.drop_zero]
          repeat ((with_reducible refine wpStill_step (fun K hK => ?_)); go_simp; refine hK _ ?_; clear hK K)
          refine wpStill_nil ?_
          go_wp2
          go_roundw
          case rel => exact ⟨k + 1, by omega, by go_num, (CutRow.stored hlt H47.out HNN.out HSL.out rfl HE.out hg HB.out hcap hm hcs HALL.out HL.out).drew⟩
          case measure => simp [intOf]; omega
      · obtain rfl : k = p.size := by omega
        rw [List.take_of_length_le (by rw [txt_len]; exact Nat.le_refl _)] at hL
        have HL := Lib.hid hL; clear hL
        have HALL := Lib.hid hall; clear hall
        have HB := Lib.hid hb; clear hb
        have HE := Lib.hid hE; clear hE
        go_wp2
        go_ret
        exact ⟨_, _, L, rfl, HE.out, Or.inr ⟨g, 0, cur, rfl, HB.out, fun j hj => by rw [Nat.zero_add]; exact HALL.out j hj⟩, by rw [HL.out, HC.out], hcap⟩
end Go.Proofs.YtiopahkigbdmcaaGreat
/- The document's names and right paths (layer 1): the walks. -/
namespace Go.Proofs.YtiopahkigbdmcaaGreat
open Go Go.Proofs Go.RowKit

theorem let_iff (c : Int) : letF c = true ↔ ((97 ≤ c ∧ c ≤ 122) ∨ (65 ≤ c ∧ c ≤ 90) ∨ (48 ≤ c ∧ c ≤ 57) ∨ c = 46 ∨ c = 95 ∨ c = 45) := by simp [letF, or_assoc]
theorem name_not (l : List Int) (x : Int) (hx : x ∈ l) (h : letF x = false) : nameF l = false := by
  unfold nameF
  have : l.all letF = false := by
    rw [← Bool.not_eq_true, List.all_eq_true]
    intro hall
    have := hall x hx
    rw [h] at this
    cases this
  rw [this]; simp

set_option maxHeartbeats 1000000 in
set_option maxRecDepth 100000 in
theorem nameD_any (s : ByteArray) (w : World) (hs : s.size ≤ 100000) :
    Calls Tryz.prog 61 #[.string s] w (fun e w' => e = .returned (.bool (nameF (txt s))) ∧ w = w') := by
  go_enter Tryz.func61, Tryz.ntmps61
  go_wp2
  go_loop [3, 4] (fun i _ => ∃ k : Nat, k ≤ s.size ∧ i = .int .i64 k ∧ ((txt s).take k).all letF = true) (fun i _ => s.size - (intOf i).toNat)
  case atStart => exact ⟨0, Nat.zero_le _, rfl, rfl⟩
  case round =>
    obtain ⟨k, hk, rfl, hall⟩ := hrel
    have HA := Lib.hid hall; clear hall
    by_cases hlt : k < s.size
    · have HT := Lib.hid (take_all (txt s) letF k (by rw [txt_len]; exact hlt))
      rw [txt_at s k hlt] at HT
      have hb := s[k].toNat_lt
      obtain ⟨c, hc⟩ : ∃ c : Int, ((s[k].toNat : Nat) : Int) = c := ⟨_, rfl⟩
      rw [hc] at HT
      have HC := Lib.hid hc; clear hc
      by_cases hl : letF c = true
      · have hd := (let_iff c).1 hl
        rw [← HC.out] at hd
        have HL := Lib.hid hl; clear hl
        go_wp2
        all_goals first
          | (exfalso; omega)
          | (go_round
             case rel => exact ⟨k + 1, by omega, by go_num, by rw [HT.out, HA.out, HL.out]; rfl⟩
             case measure => simp [intOf]; omega)
          | (exfalso; simp only [Bool.not_eq_true', beq_eq_false_iff_ne, ne_eq] at *; omega)
      · have hd := fun h => hl ((let_iff c).2 h)
        have hbad : Hid (nameF (txt s) = false) := Lib.hid (name_not (txt s) c (by rw [← HC.out, ← txt_at s k hlt]; exact List.getElem_mem _) (by simpa using hl))
        rw [← HC.out] at hd
        have hd' : ¬ ((97 ≤ ((s[k].toNat : Nat) : Int) ∧ ((s[k].toNat : Nat) : Int) ≤ 122) ∨ (65 ≤ ((s[k].toNat : Nat) : Int) ∧ ((s[k].toNat : Nat) : Int) ≤ 90) ∨ (48 ≤ ((s[k].toNat : Nat) : Int) ∧ ((s[k].toNat : Nat) : Int) ≤ 57) ∨ ((s[k].toNat : Nat) : Int) = 46 ∨ ((s[k].toNat : Nat) : Int) = 95 ∨ ((s[k].toNat : Nat) : Int) = 45) := hd
        clear hl hd
        go_wp2
        all_goals first
          | (exfalso; omega)
          | (exfalso; rename_i hx _; simp at hx; omega)
          | (exfalso; rename_i hx; simp at hx; omega)
          | (go_ret; exact ⟨ret_bool hbad.out.symm, rfl⟩)
    · have hke : k = s.size := by omega
      have HALL : Hid ((txt s).all letF = true) := Lib.hid (by have h := HA.out; rw [hke, List.take_of_length_le (by rw [txt_len]; exact Nat.le_refl _)] at h; exact h)
      clear hke
      go_wp2
      · have h : s.toList = [46] := by assumption
        go_ret
        exact ⟨ret_bool (name_false s (Or.inr (Or.inr (Or.inl h)))).symm, rfl⟩
      · rename_i h1 h2 h3 _
        go_ret
        refine ⟨ret_bool ?_, rfl⟩
        have hne : ¬ s.toList = [] := by
          rw [toList_txt]; intro h
          have := txt_nil.1 h
          omega
        by_cases h4 : s.toList = [46, 46]
        · rw [name_false s (Or.inr (Or.inr (Or.inr h4)))]; simp [h4]
        · rw [name_all s hne (by omega) h3 h4, HALL.out]; simp [h3, h4]
      · have h : (12 : Int) < s.size := by assumption
        go_ret
        exact ⟨ret_bool (name_false s (Or.inr (Or.inl (by omega)))).symm, rfl⟩
      · have h : (s.size : Int) < 1 := by assumption
        go_ret
        exact ⟨ret_bool (name_false s (Or.inl (by rw [toList_txt]; exact txt_nil.2 (by omega)))).symm, rfl⟩
end Go.Proofs.YtiopahkigbdmcaaGreat
/- How patterns are read (layer 2), in plain words. No program is named here. -/
namespace Go.Proofs.YtiopahkigbdmcaaGreat

/-- The bytes from a to b, too. -/
def addR (S : Int → Bool) (a b : Int) (c : Int) : Bool := S c || (decide (a ≤ c) && decide (c ≤ b))
/-- The item at the head: from which byte to which, and how many bytes long. -/
def item : List Int → Int × Int × Nat
  | [] => (0, 0, 0)
  | [c] => (c, c, 1)
  | [c, _] => (c, c, 1)
  | c :: m :: d :: _ => if m = 45 ∧ d ≠ 93 then (c, d, 3) else (c, c, 1)
/-- Is an item none? -/
def badI (a b : Int) : Bool := !okI a || !okI b || decide (b < a)
/-- The items of a set, and what is behind its bracket. -/
def itemsF : Nat → (Int → Bool) → Bool → List Int → Option ((Int → Bool) × List Int)
  | 0, _, _, _ => none
  | _ + 1, _, _, [] => none
  | f + 1, S, some?, c :: r => if c = 93 then (if some? then some (S, r) else none)
      else if badI (item (c :: r)).1 (item (c :: r)).2.1 then none else itemsF f (addR S (item (c :: r)).1 (item (c :: r)).2.1) true ((c :: r).drop (item (c :: r)).2.2)
/-- A set behind its bracket. -/
def memF (l : List Int) : Option ((Int → Bool) × List Int) :=
  let neg := l.head? == some 33
  (itemsF (l.length + 1) (fun _ => false) false (if neg then l.tail else l)).map fun x => (fun c => (x.1 c != neg) && c != 47, x.2)

theorem item_two (c m d : Int) (r : List Int) (h1 : m = 45) (h2 : d ≠ 93) : item (c :: m :: d :: r) = (c, d, 3) := by simp [item, h1, h2]
theorem item_not (c m d : Int) (r : List Int) (h : ¬ (m = 45 ∧ d ≠ 93)) : item (c :: m :: d :: r) = (c, c, 1) := by simp only [item, if_neg h]
theorem item_one (c : Int) (r : List Int) (h : r.length < 2) : item (c :: r) = (c, c, 1) := by
  match r, h with
  | [], _ => rfl
  | [_], _ => rfl
theorem itemsF_stop (f : Nat) (S : Int → Bool) (y : Bool) (r : List Int) : itemsF (f + 1) S y (93 :: r) = if y then some (S, r) else none := by simp [itemsF]
theorem itemsF_nil (f : Nat) (S : Int → Bool) (y : Bool) : itemsF f S y [] = none := by cases f <;> rfl
theorem itemsF_go (f : Nat) (S : Int → Bool) (y : Bool) (c : Int) (r : List Int) (h : c ≠ 93) : itemsF (f + 1) S y (c :: r) = if badI (item (c :: r)).1 (item (c :: r)).2.1 then none else itemsF f (addR S (item (c :: r)).1 (item (c :: r)).2.1) true ((c :: r).drop (item (c :: r)).2.2) := by
  rw [itemsF, if_neg h]
theorem item_step (c : Int) (r : List Int) : (item (c :: r)).2.2 = 1 ∨ ((item (c :: r)).2.2 = 3 ∧ 2 ≤ r.length) := by
  match r with
  | [] => exact Or.inl rfl
  | [_] => exact Or.inl rfl
  | m :: d :: r =>
    by_cases h : m = 45 ∧ d ≠ 93
    · right; rw [item_two c m d r h.1 h.2]; exact ⟨rfl, by simp⟩
    · left; rw [item_not c m d r h]
theorem item_fst (c : Int) (r : List Int) : (item (c :: r)).1 = c := by
  match r with
  | [] => rfl
  | [_] => rfl
  | m :: d :: r =>
    by_cases h : m = 45 ∧ d ≠ 93
    · rw [item_two c m d r h.1 h.2]
    · rw [item_not c m d r h]

/-- One part, and what is behind it. -/
def oneF : List Int → Option (GPart × List Int)
  | [] => none
  | c :: r => if c = 42 then (if r.head? = some 42 then some (⟨true, fun _ => true⟩, r.tail) else some (⟨true, fun x => x != 47⟩, r))
      else if c = 63 then some (⟨false, fun x => x != 47⟩, r)
      else if c = 91 then (memF r).map fun x => (⟨false, x.1⟩, x.2)
      else if c = 92 then (match r with | [] => none | d :: r' => some (⟨false, fun x => x == d⟩, r'))
      else some (⟨false, fun x => x == c⟩, r)
/-- All parts. -/
def partsF : Nat → List Int → Option (List GPart)
  | 0, _ => none
  | _ + 1, [] => some []
  | f + 1, c :: r => match oneF (c :: r) with | none => none | some (p, rest) => (partsF f rest).map (p :: ·)
end Go.Proofs.YtiopahkigbdmcaaGreat
/- The document's sets of patterns (layer 2): the walk. -/
namespace Go.Proofs.YtiopahkigbdmcaaGreat
open Go Go.Proofs Go.RowKit

theorem owns_slice {w : World} {base n : Nat} {e : TypeId} {size : Nat} {v : Value} {xs : List Value} (h : w.ownsRow base e size v n xs) : ∃ a c, v = .slice a n c := by
  obtain ⟨_, ⟨rfl, rfl⟩ | ⟨g, cap, _, rfl, _⟩⟩ := h
  · exact ⟨_, _, rfl⟩
  · exact ⟨_, _, rfl⟩
theorem owns_bytes {w w' : World} {base : Nat} {a : Option Addr} {c : Nat} {l : List Int} (h : w.ownsRow base 5 1 (.slice a l.length c) l.length (l.map (Value.int .u8))) (hB : ∀ g o, base ≤ g → w.heap[g]? = some o → w'.heap[g]? = some o) : Bytes w' a l := by
  obtain ⟨_, ⟨_, h0⟩ | ⟨g, cap, cur, hv, hg, hb, _, _, _, hx⟩⟩ := h
  · exact Or.inl (List.eq_nil_of_length_eq_zero h0)
  · simp only [Value.slice.injEq] at hv
    obtain ⟨rfl, _, rfl⟩ := hv
    refine Or.inr ⟨g, 0, cur, rfl, hB g _ hg hb, fun j hj => ?_⟩
    rw [Nat.zero_add, ← Array.getElem?_toList]
    have : (cur.toList.take (l.length * 1))[j]? = (l.map (Value.int .u8))[j]? := by rw [hx]
    rw [List.getElem?_take_of_lt (by omega), List.getElem?_map, List.getElem?_eq_getElem hj] at this
    exact this
theorem mem_eq (s : ByteArray) (at_ a1 : Nat) (neg : Bool) (hn : (((txt s).drop at_).head? == some 33) = neg) (ha : a1 = at_ + (if neg then 1 else 0)) :
    memF ((txt s).drop at_) = (itemsF (((txt s).drop at_).length + 1) (fun _ => false) false ((txt s).drop a1)).map fun x => (fun c => (x.1 c != neg) && c != 47, x.2) := by
  unfold memF
  simp only [hn]
  subst ha
  cases neg
  · rfl
  · simp only [if_true, List.tail_drop]
theorem item_at (s : ByteArray) (k : Nat) (h : k < s.size) :
    ((∃ h : k + 2 < s.size, ((s[k + 1].toNat : Nat) : Int) = 45 ∧ ((s[k + 2].toNat : Nat) : Int) ≠ 93) → ∃ h : k + 2 < s.size, item ((txt s).drop k) = (((s[k].toNat : Nat) : Int), ((s[k + 2].toNat : Nat) : Int), 3)) ∧
    (false = decide (∃ h : k + 2 < s.size, ((s[k + 1].toNat : Nat) : Int) = 45 ∧ ((s[k + 2].toNat : Nat) : Int) ≠ 93) → item ((txt s).drop k) = (((s[k].toNat : Nat) : Int), ((s[k].toNat : Nat) : Int), 1)) := by
  have d0 : (txt s).drop k = ((s[k].toNat : Nat) : Int) :: (txt s).drop (k + 1) := by rw [List.drop_eq_getElem_cons (by rw [txt_len]; exact h), txt_at s k h]
  by_cases h2 : k + 2 < s.size
  · have d1 : (txt s).drop (k + 1) = ((s[k + 1].toNat : Nat) : Int) :: (txt s).drop (k + 2) := by rw [List.drop_eq_getElem_cons (by rw [txt_len]; omega), txt_at s (k + 1) (by omega)]
    have d2 : (txt s).drop (k + 2) = ((s[k + 2].toNat : Nat) : Int) :: (txt s).drop (k + 3) := by rw [List.drop_eq_getElem_cons (by rw [txt_len]; omega), txt_at s (k + 2) (by omega)]
    rw [d0, d1, d2]
    constructor
    · rintro ⟨_, h3, h4⟩
      exact ⟨h2, item_two _ _ _ _ h3 h4⟩
    · intro hf
      refine item_not _ _ _ _ (fun hh => ?_)
      have : decide (∃ h : k + 2 < s.size, ((s[k + 1].toNat : Nat) : Int) = 45 ∧ ((s[k + 2].toNat : Nat) : Int) ≠ 93) = true := decide_eq_true ⟨h2, hh⟩
      rw [this] at hf
      cases hf
  · constructor
    · rintro ⟨h3, _⟩
      exact absurd h3 h2
    · intro _
      rw [d0]
      exact item_one _ _ (by rw [List.length_drop, txt_len]; omega)
/-- The part on its way, and what is still to be read. -/
def MemInv (w0 : World) (s : ByteArray) (neg : Bool) (R : Option ((Int → Bool) × List Int)) (at_ n : Nat) (w : World) : Prop :=
  ∃ v l S f, w.ownsRow (w0.heap.size + 2) 5 1 v l.length (l.map (Value.int .u8)) ∧ w.heap[w0.heap.size]? = some (.cells #[.int .i64 0, .slice none 0 0, .bool false, .bool false] 165 (0, 0)) ∧
    w.heap[w0.heap.size + 1]? = some (.cells #[.int .i64 0, v, .bool neg, .bool false] 165 (0, 0)) ∧ Ext w0 w ∧
    (∀ c, hasI l c = (S c && c != 47)) ∧ R = itemsF f S (decide (0 < n)) ((txt s).drop at_) ∧ s.size - at_ < f ∧ l.length ≤ 256 * at_

theorem owns_set {w : World} {base n : Nat} {e : TypeId} {size : Nat} {v u : Value} {xs : List Value} {b i : Nat} (h : w.ownsRow base e size v n xs) (hb : b < base) : (w.setCell ⟨b, i, none⟩ u).ownsRow base e size v n xs := by
  obtain ⟨h0, h1 | ⟨g, cap, cur, hv, hg, hbl, rest⟩⟩ := h
  · exact ⟨h0, .inl h1⟩
  · exact ⟨h0, .inr ⟨g, cap, cur, hv, hg, (blk_set_other u (by omega)).trans hbl, rest⟩⟩
theorem grown_below {w w' : World} {row : Option Nat} {B : Nat} (hg : w.grownBy w' row) (hrow : ∀ k, row = some k → B ≤ k) (hB : B ≤ w.heap.size) : Below B w w' :=
  ⟨hg.os, hg.tape, hg.output, hg.size, fun k hk => hg.block k (by omega) (fun e => by have := hrow k e.symm; omega)⟩
theorem app_low {wr w1 : World} {o : Obj} {base n size : Nat} {e : TypeId} {v : Value} {xs : List Value} (h : wr.ownsRow base e size v n xs) (hg : (wr.alloc o).grownBy w1 v.ownBlock) (hB : base ≤ wr.heap.size) : Below base wr w1 :=
  Below.trans ((Below.refl base wr).alloc hB _) (grown_below hg (fun k hk => (h.lt k hk).1) (by simp; omega))
theorem hasI_snoc (l : List Int) (j x : Int) : hasI (l ++ [j]) x = (hasI l x || j == x) := by
  unfold hasI
  rw [Bool.eq_iff_iff, Bool.or_eq_true, List.contains_iff_mem, List.contains_iff_mem, List.mem_append, List.mem_singleton, beq_iff_eq]
  exact ⟨fun h => h.imp id Eq.symm, fun h => h.imp id Eq.symm⟩
/-- A range of bytes on its way. -/
def RngInv (w0 : World) (neg : Bool) (S : Int → Bool) (A : Int) (k : Nat) (j : Int) (w : World) : Prop :=
  ∃ v l, w.ownsRow (w0.heap.size + 2) 5 1 v l.length (l.map (Value.int .u8)) ∧ w.heap[w0.heap.size]? = some (.cells #[.int .i64 0, .slice none 0 0, .bool false, .bool false] 165 (0, 0)) ∧
    w.heap[w0.heap.size + 1]? = some (.cells #[.int .i64 0, v, .bool neg, .bool false] 165 (0, 0)) ∧ Ext w0 w ∧
    (∀ c, hasI l c = ((S c || (decide (A ≤ c) && decide (c < j))) && c != 47)) ∧ l.length ≤ 256 * k + (j - A).toNat
theorem RngInv.skip {w0 w : World} {neg : Bool} {S : Int → Bool} {A : Int} {k : Nat} {j : Int} (h : RngInv w0 neg S A k j w) (hj : j = 47) : RngInv w0 neg S A k (j + 1) w := by
  obtain ⟨v, l, h1, h2, h3, h4, h5, h6⟩ := h
  refine ⟨v, l, h1, h2, h3, h4, fun c => ?_, by omega⟩
  rw [h5 c]
  by_cases hc : c = 47
  · simp [hc]
  · have : decide (c < j + 1) = decide (c < j) := by rw [decide_eq_decide]; omega
    rw [this]
theorem RngInv.next {w0 wr w1 : World} {neg : Bool} {S : Int → Bool} {A : Int} {k : Nat} {j : Int} {v v' : Value} {l : List Int} (hAj : A ≤ j) (h47 : j ≠ 47)
    (hB0 : wr.heap[w0.heap.size]? = some (.cells #[.int .i64 0, .slice none 0 0, .bool false, .bool false] 165 (0, 0)))
    (hB1 : wr.heap[w0.heap.size + 1]? = some (.cells #[.int .i64 0, v, .bool neg, .bool false] 165 (0, 0))) (hE : Ext w0 wr)
    (hin : ∀ c, hasI l c = ((S c || (decide (A ≤ c) && decide (c < j))) && c != 47)) (hlen : l.length ≤ 256 * k + (j - A).toNat)
    (hR : Below (w0.heap.size + 2) wr w1) (hown : w1.ownsRow (w0.heap.size + 2) 5 1 v' (l.length + 1) (l.map (Value.int .u8) ++ [.int .u8 j])) : RngInv w0 neg S A k (j + 1) (w1.setCell ⟨w0.heap.size + 1, 1, none⟩ v') := by
  refine ⟨v', l ++ [j], ?_, ?_, ?_, ?_, fun c => ?_, ?_⟩
  · have : (l ++ [j]).length = l.length + 1 := by simp
    rw [this, List.map_append]
    exact owns_set hown (by omega)
  · rw [blk_set_other _ (by omega), Below.block hR _ (by omega)]; exact hB0
  · rw [blk_set _ ((Below.block hR _ (by omega)).trans hB1)]; rfl
  · exact Ext.setNew (show Ext w0 w1 from Below.trans hE (Below.mono hR (by omega))) (by omega) _
  · rw [hasI_snoc, hin c]
    by_cases hc : c = j
    · subst hc
      have e1 : decide (A ≤ c) = true := by simpa using hAj
      have e2 : decide (c < c + 1) = true := by simp; omega
      have e3 : (c != 47) = true := by simp [h47]
      rw [e1, e2, e3]
      simp
    · have : decide (c < j + 1) = decide (c < j) := by rw [decide_eq_decide]; omega
      have e4 : (j == c) = false := by rw [beq_eq_false_iff_ne]; exact fun h => hc h.symm
      rw [this, e4, Bool.or_false]
  · rw [List.length_append, List.length_singleton]; omega
/-- What a set behind its bracket tells: the part, and where the next one begins. -/
def MemTold (s : ByteArray) (at_ : Nat) (w : World) (e : Ending) (w' : World) : Prop := ∃ a l c not z, e = .returned (.tuple #[.agg #[.int .i64 0, .slice a l.length c, .bool not, .bool false], .int .i64 z]) ∧ Ext w w' ∧ Bytes w' a l ∧ l.length ≤ 256 * s.size ∧
  match memF ((txt s).drop at_) with
  | none => z = -1
  | some (S, rest) => ∃ nx : Nat, z = nx ∧ at_ < nx ∧ nx ≤ s.size ∧ rest = (txt s).drop nx ∧ ∀ c, oneSet l not false c = S c

set_option maxHeartbeats 4000000 in
set_option maxRecDepth 100000 in
theorem members_any (s : ByteArray) (at_ : Nat) (w : World) (hs : s.size ≤ 100) (ha : at_ ≤ s.size) :
    Calls Tryz.prog 123 #[.string s, .int .i64 at_] w (MemTold s at_ w) := by
  obtain ⟨i0, hi, hz0, hz1, hz2⟩ := info_parts (P := Tryz.prog) (e := 5) (z := .int .u8 0) (size := 1) (bytes := 1) (by kernel_rfl)
  have HI := Lib.hid hi; clear hi
  obtain ⟨neg, hneg⟩ : ∃ neg, (((txt s).drop at_).head? == some 33) = neg := ⟨_, rfl⟩
  obtain ⟨a1, ha1⟩ : ∃ a1 : Nat, a1 = at_ + (if neg then 1 else 0) := ⟨_, rfl⟩
  have hle : a1 ≤ s.size := by
    cases neg
    · simp at ha1; omega
    · have h := hneg
      rw [beq_iff_eq, List.head?_drop] at h
      have : at_ < (txt s).length := (List.getElem?_eq_some_iff.1 h).1
      rw [txt_len] at this
      simp at ha1; omega
  have hge : at_ ≤ a1 := by rw [ha1]; omega
  have HAT := Lib.hid ha1; clear ha1
  have HNEG := Lib.hid hneg; clear hneg
  go_enter Tryz.func123, Tryz.ntmps123
  go_upto_region 2 with fail
  go_cut [22] (fun v wx => v = .bool neg ∧ wx = ((w.alloc (.cells #[.int .i64 0, .slice none 0 0, .bool false, .bool false] 165)).alloc (.cells #[.int .i64 0, .slice none 0 0, .bool false, .bool false] 165)))
  case first =>
    by_cases hlt : at_ < s.size
    · have e : Hid ((((s[at_].toNat : Nat) : Int) == 33) = neg) := Lib.hid (by rw [← HNEG.out, List.head?_drop, List.getElem?_eq_getElem (by rw [txt_len]; exact hlt), txt_at s at_ hlt]; rfl)
      go_wp2
      go_meet
      exact ⟨by rw [e.out], rfl⟩
    · have e : Hid (neg = false) := Lib.hid (by rw [← HNEG.out, List.head?_drop, List.getElem?_eq_none (by rw [txt_len]; omega)]; rfl)
      go_wp2
      go_meet
      exact ⟨by rw [e.out], rfl⟩
  case rest =>
    obtain ⟨rfl, rfl⟩ := hcut
    go_upto_if 22 with fail
    go_cut [1] (fun v wx => v = .int .i64 (a1 : Int) ∧ wx = ((w.alloc (.cells #[.int .i64 0, .slice none 0 0, .bool false, .bool false] 165)).alloc (.cells #[.int .i64 0, .slice none 0 0, .bool neg, .bool false] 165)))
    case first =>
      cases neg
      · go_wp2
        go_meet
        exact ⟨by rw [HAT.out]; rfl, rfl⟩
      · go_wp2
        go_meet
        exact ⟨by rw [HAT.out]; rfl, rfl⟩
    case rest =>
      obtain ⟨rfl, rfl⟩ := hcut
      go_wp2
      obtain ⟨R, hR⟩ : ∃ R, itemsF (((txt s).drop at_).length + 1) (fun _ => false) false ((txt s).drop a1) = R := ⟨_, rfl⟩
      have HM := Lib.hid (mem_eq s at_ a1 neg HNEG.out HAT.out)
      rw [hR] at HM
      have HR := Lib.hid hR; clear hR
      have hdl : ((txt s).drop at_).length = s.size - at_ := by rw [List.length_drop, txt_len]
      go_loopw [1, 7] (fun i n w' => ∃ k m : Nat, a1 ≤ k ∧ k ≤ s.size ∧ m ≤ k ∧ i = .int .i64 k ∧ n = .int .i64 m ∧ MemInv w s neg R k m w') (fun i _ _ => s.size - (intOf i).toNat)
      case atStart => exact ⟨a1, 0, Nat.le_refl _, hle, Nat.zero_le _, rfl, rfl, (.slice none 0 0), [], fun _ => false, ((txt s).drop at_).length + 1, World.ownsRow_nil _ _ _ _, blk_alloc _ (heap_new _ _), heap_at _ _ (by simp), ((Ext.refl w).alloc _).alloc _, fun c => by simp [hasI], by rw [← HR.out]; rfl, by omega, by simp⟩
      case round =>
        obtain ⟨k, m, hk1, hk2, hm, rfl, rfl, v, l, S, f, hown, hB0, hB1, hE, hin, hR, hf, hlen⟩ := hrel
        obtain ⟨va, vc, rfl⟩ := owns_slice hown
        obtain ⟨vn, hvn⟩ : ∃ vn, l.length = vn := ⟨_, rfl⟩
        have HVN := Lib.hid hvn
        have l0 := blk_lt hB0
        have l1 := blk_lt hB1
        have hc1 : ∀ o, wr.cell? ⟨w.heap.size + 1, o, none⟩ = _ := fun o => (Ext.refl wr).cellsOf hB1 o
        have hf1 := (Ext.refl wr).freeOf hB1
        have HC1 := Lib.hid hc1
        have HOWN := Lib.hid hown; clear hown
        rw [hvn] at hc1 hB1
        clear hvn
        have HB0 := Lib.hid hB0; clear hB0
        have HB1 := Lib.hid hB1; clear hB1
        have HE := Lib.hid hE; clear hE
        have HIN := Lib.hid hin; clear hin
        have HRR := Lib.hid hR; clear hR
        have HLEN := Lib.hid hlen; clear hlen
        have HF := Lib.hid hf; clear hf
        by_cases hlt : k < s.size
        · have hdrop : Hid ((txt s).drop k = (s[k].toNat : Int) :: (txt s).drop (k + 1)) := Lib.hid (by rw [List.drop_eq_getElem_cons (by rw [txt_len]; exact hlt), txt_at s k hlt])
          obtain ⟨c, hc⟩ : ∃ c : Int, ((s[k].toNat : Nat) : Int) = c := ⟨_, rfl⟩
          by_cases h93 : c = 93
          · have h93' : Hid (((s[k].toNat : Nat) : Int) = 93) := Lib.hid (hc.trans h93)
            have e93 : ((((s[k].toNat : Nat) : Int) != 93) = false) := by rw [h93'.out]; rfl
            have wr1 : IntKind.i64.wrap ((k : Int) + 1) = (k : Int) + 1 := IntWalk.i64_in _ (by omega)
            clear hc h93
            have hd2 : Hid (R = if decide (0 < m) then some (S, (txt s).drop (k + 1)) else none) := Lib.hid (by
              obtain ⟨g, rfl⟩ : ∃ g, f = g + 1 := ⟨f - 1, by have := HF.out; omega⟩
              rw [HRR.out, hdrop.out, h93'.out, itemsF_stop])
            by_cases hm0 : m = 0
            · subst hm0
              go_wp2_with (refine wpList_store_blk rfl rfl rfl rfl HB0.out (by rfl) (by kernel_rfl) (by simp [Value.oneCell']) ?_)
              refine bodyPost_ret (res_cell_tmp rfl rfl rfl ((by exact putBlk_same _ l0)) (by kernel_rfl) (by kernel_rfl)) rfl ?_
              refine ⟨none, [], 0, false, -1, rfl, HE.out.putNew (Nat.le_refl _) _, Or.inl rfl, Nat.zero_le _, ?_⟩
              rw [HM.out, hd2.out]
              rfl
            · have hm1 : ((m : Int) == 0) = false := by rw [beq_eq_false_iff_ne]; omega
              clear hm0
              go_wp2_with (refine wpList_store_blk rfl rfl rfl rfl HB0.out (by rfl) (by kernel_rfl) (by simp [Value.oneCell']) ?_)
              refine bodyPost_ret (res_cell_tmp rfl rfl rfl ((by exact putBlk_same _ l0)) (by kernel_rfl) (by kernel_rfl)) rfl ?_
              refine ⟨va, l, vc, neg, ((k + 1 : Nat) : Int), by rw [HVN.out]; rfl, HE.out.putNew (Nat.le_refl _) _, owns_bytes HOWN.out (fun g o hg ho => (putBlk_other wr _ (by omega)).trans ho), by have := HLEN.out; omega, ?_⟩
              rw [HM.out, hd2.out, if_pos (by have h := hm1; rw [beq_eq_false_iff_ne] at h; simp; omega)]
              refine ⟨k + 1, rfl, by omega, by omega, rfl, fun x => ?_⟩
              have := HIN.out x
              unfold oneSet
              rw [this]
              show _ = ((S x != neg) && x != 47)
              cases neg <;> cases S x <;> cases x != 47 <;> rfl
          · have hne : ((((s[k].toNat : Nat) : Int) != 93) = true) := by rw [hc]; simp [h93]
            obtain ⟨q, hq⟩ : ∃ q : Bool, q = decide (∃ h : k + 2 < s.size, ((s[k + 1].toNat : Nat) : Int) = 45 ∧ ((s[k + 2].toNat : Nat) : Int) ≠ 93) := ⟨_, rfl⟩
            have HQ := Lib.hid hq; clear hq
            have HC := Lib.hid hc; clear hc
            have H93 := Lib.hid h93; clear h93
            have wr1 : IntKind.i64.wrap ((k : Int) + 1) = (k : Int) + 1 := IntWalk.i64_in _ (by omega)
            have wr2 : IntKind.i64.wrap ((k : Int) + 2) = (k : Int) + 2 := IntWalk.i64_in _ (by omega)
            go_upto_region 7 with fail
            refine wp_draw_all (by kernel_rfl) (by kernel_rfl) ?_
            repeat ((with_reducible refine wpStill_step (fun K hK => ?_)); go_simp; refine hK _ ?_; clear hK K)
            refine wpStill_nil ?_
            go_upto_region 9 with fail
            go_cut [60] (fun v wx => v = .bool q ∧ wx = wr.drew)
            case first =>
              by_cases h2 : k + 2 < s.size
              · by_cases h45 : ((s[k + 1].toNat : Nat) : Int) = 45
                · by_cases h9 : ((s[k + 2].toNat : Nat) : Int) = 93
                  · have g45 : ((((s[k + 1].toNat : Nat) : Int) == 45) = true) := by rw [h45]; rfl
                    have g9 : ((((s[k + 2].toNat : Nat) : Int) != 93) = false) := by rw [h9]; rfl
                    have HQ' : Hid (q = false) := Lib.hid (by rw [HQ.out]; simp [h9])
                    clear h45 h9
                    go_wp2
                    go_meet
                    exact ⟨by rw [HQ'.out], rfl⟩
                  · have g45 : ((((s[k + 1].toNat : Nat) : Int) == 45) = true) := by rw [h45]; rfl
                    have g9 : ((((s[k + 2].toNat : Nat) : Int) != 93) = true) := by simp [h9]
                    have HQ' : Hid (q = true) := Lib.hid (by rw [HQ.out]; simp [h9, h45, h2])
                    clear h45 h9
                    go_wp2
                    go_meet
                    exact ⟨by rw [HQ'.out], rfl⟩
                · have g45 : ((((s[k + 1].toNat : Nat) : Int) == 45) = false) := by simp [h45]
                  have HQ' : Hid (q = false) := Lib.hid (by rw [HQ.out]; simp [h45])
                  clear h45
                  go_wp2
                  go_meet
                  exact ⟨by rw [HQ'.out], rfl⟩
              · have HQ' : Hid (q = false) := Lib.hid (by rw [HQ.out]; simp [h2])
                go_wp2
                go_meet
                exact ⟨by rw [HQ'.out], rfl⟩
            case rest =>
              obtain ⟨rfl, rfl⟩ := hcut
              obtain ⟨b, hb⟩ : ∃ b : Int, (item ((txt s).drop k)).2.1 = b := ⟨_, rfl⟩
              obtain ⟨st, hst⟩ : ∃ st : Nat, (item ((txt s).drop k)).2.2 = st := ⟨_, rfl⟩
              have HI2 := Lib.hid (And.intro hb hst); clear hb hst
              have hit := item_at s k hlt
              have HIT := Lib.hid hit; clear hit
              go_upto_if 60 with fail
              go_cut [9, 10] (fun v x wx => v = .int .u8 b ∧ x = .int .i64 (st : Int) ∧ wx = wr.drew)
              case first =>
                cases q
                · have e1 : Hid (b = ((s[k].toNat : Nat) : Int) ∧ st = 1) := Lib.hid (by
                    have h := HIT.out.2 (by rw [← HQ.out])
                    rw [← HI2.out.1, ← HI2.out.2, h]
                    exact ⟨rfl, rfl⟩)
                  go_wp2
                  go_meet
                  exact ⟨by rw [e1.out.1], by rw [e1.out.2]; rfl, rfl⟩
                · have hq2 : ∃ h : k + 2 < s.size, ((s[k + 1].toNat : Nat) : Int) = 45 ∧ ((s[k + 2].toNat : Nat) : Int) ≠ 93 := by have := HQ.out; simpa using this.symm
                  have h2 : k + 2 < s.size := hq2.1
                  have e1 : Hid (b = ((s[k + 2].toNat : Nat) : Int) ∧ st = 3) := Lib.hid (by
                    obtain ⟨_, h⟩ := HIT.out.1 hq2
                    rw [← HI2.out.1, ← HI2.out.2, h]
                    exact ⟨rfl, rfl⟩)
                  clear hq2
                  go_wp2
                  go_meet
                  exact ⟨by rw [e1.out.1], by rw [e1.out.2]; rfl, rfl⟩
              case rest =>
                obtain ⟨rfl, rfl, rfl⟩ := hcut
                obtain ⟨A, hA⟩ : ∃ A : Int, ((s[k].toNat : Nat) : Int) = A := ⟨_, rfl⟩
                have hA255 : 0 ≤ A ∧ A ≤ 255 := by have := s[k].toNat_lt; omega
                have hb255 : Hid (0 ≤ b ∧ b ≤ 255 ∧ 1 ≤ st ∧ k + st ≤ s.size) := Lib.hid (by
                  have h3 := HI2.out
                  by_cases hq2 : ∃ h : k + 2 < s.size, ((s[k + 1].toNat : Nat) : Int) = 45 ∧ ((s[k + 2].toNat : Nat) : Int) ≠ 93
                  · obtain ⟨h2, h⟩ := HIT.out.1 hq2
                    rw [h] at h3
                    have := s[k + 2].toNat_lt
                    simp only at h3
                    omega
                  · have h := HIT.out.2 (by simpa using hq2)
                    rw [h] at h3
                    have := s[k].toNat_lt
                    simp only at h3
                    omega)
                obtain ⟨hb0, hb1, hst1, hst2⟩ := hb255.out
                have OK := Lib.hid okay_any
                rw [hA]
                obtain ⟨bad, hbad⟩ : ∃ bad, badI A b = bad := ⟨_, rfl⟩
                have HBAD := Lib.hid hbad; clear hbad
                have HA := Lib.hid hA; clear hA
                go_upto_region 12 with fail
                go_cut [77] (fun v wx => v = .bool bad ∧ wx = wr.drew)
                case first =>
                  go_wp2_with (go_at_call 139; refine (OK.out _ _).mono ?_; rintro e w2 ⟨rfl, rfl⟩)
                  all_goals go_meet
                  all_goals exact ⟨by rw [← HBAD.out]; simp_all [badI], rfl⟩
                case rest =>
                  obtain ⟨rfl, rfl⟩ := hcut
                  obtain ⟨f', rfl⟩ : ∃ f', f = f' + 1 := ⟨f - 1, by have := HF.out; omega⟩
                  have hgo : Hid (R = if bad then none else itemsF f' (addR S A b) true ((txt s).drop (k + st))) := Lib.hid (by
                    rw [HRR.out, hdrop.out, itemsF_go _ _ _ _ _ (by rw [HC.out]; exact H93.out)]
                    rw [← hdrop.out, HI2.out.1, HI2.out.2, List.drop_drop]
                    have h1 : (item ((txt s).drop k)).1 = A := by rw [hdrop.out, item_fst, HA.out]
                    rw [h1, HBAD.out])
                  cases bad
                  · have hAb : A ≤ b := by
                      have h := HBAD.out
                      unfold badI at h
                      simp only [Bool.or_eq_false_iff, decide_eq_false_iff_not] at h
                      omega
                    have HAb := Lib.hid hAb
                    clear hc1 hf1 HC1
                    go_wp2
                    obtain ⟨wo, rfl⟩ : ∃ wo : World, wo = wr := ⟨_, rfl⟩
                    have I0 : RngInv w neg S A k A wo.drew := by
                      have h := HOWN.out
                      rw [HVN.out] at h
                      refine ⟨.slice va vn vc, l, by rw [HVN.out]; exact h, HB0.out, HB1.out, HE.out.drew, fun x => ?_, by have := HLEN.out; omega⟩
                      rw [HIN.out x, show (decide (A ≤ x) && decide (x < A)) = false from by rw [Bool.and_eq_false_iff, decide_eq_false_iff_not, decide_eq_false_iff_not]; omega, Bool.or_false]
                    go_loopw [11] (fun jv w' => ∃ j : Int, A ≤ j ∧ j ≤ b + 1 ∧ jv = .int .i64 j ∧ RngInv w neg S A k j w') (fun jv _ => (b + 1 - intOf jv).toNat)
                    case atStart => exact ⟨A, by omega, by omega, rfl, I0⟩
                    case round =>
                      obtain ⟨j, hj0, hj1, rfl, hinv⟩ := hrel
                      by_cases hjb : j ≤ b
                      · by_cases hj47 : j = 47
                        · have g47 : (j != 47) = false := by rw [hj47]; rfl
                          have HINV := Lib.hid (hinv.skip hj47); clear hinv hj47
                          go_wp2
                          go_roundw
                          case rel => exact ⟨j + 1, by omega, by omega, by go_num, HINV.out⟩
                          case measure => simp [intOf]; omega
                        · have g47 : (j != 47) = true := by simp [hj47]
                          obtain ⟨v1, l1, q1, q2, q3, q4, q5, q6⟩ := hinv
                          obtain ⟨va1, vc1, rfl⟩ := owns_slice q1
                          have k0 := blk_lt q2
                          have k1 := blk_lt q3
                          have hc1 : ∀ o, wr.cell? ⟨w.heap.size + 1, o, none⟩ = _ := fun o => (Ext.refl wr).cellsOf q3 o
                          have hf1 := (Ext.refl wr).freeOf q3
                          have Q1 := Lib.hid q1; clear q1
                          have Q2 := Lib.hid q2; clear q2
                          have Q3 := Lib.hid q3; clear q3
                          have Q4 := Lib.hid q4; clear q4
                          have Q5 := Lib.hid q5; clear q5
                          have Q6 := Lib.hid q6; clear q6
                          have wj : IntKind.u8.wrap j = j := IntWalk.u8_in _ (by omega)
                          have b2 : wr.heap[w.heap.size + 1]? = _ := Q3.out
                          go_wp2_with (at_builtin; refine wpList_append_own _ rfl _ _ 105 rfl (w.heap.size + 2) 5 i0 (.int .u8 0) 1 1 (by kernel_rfl) HI.out hz0 hz1 hz2 rfl (by decide) _ _ _ rfl (Q1.out.alloc _) ⟨wr.heap.size, 0, none⟩ 1 1 [.int .u8 j] rfl rfl (cell_one_new _ _ _) (fun x hx => by simp at hx; subst hx; rfl) (by have := Q6.out; unfold maxLen; omega) (by have := Q6.out; omega) (by have := Q4.out.size; simp; omega) ?_; intro v' w1 hown' hgrow' _; obtain ⟨va2, vc2, rfl⟩ := owns_slice hown'; have hlow : Below (w.heap.size + 2) wr w1 := app_low Q1.out hgrow' (by omega); have b3 : w1.heap[w.heap.size + 1]? = _ := (Below.block hlow _ (by omega)).trans Q3.out; have l3 := blk_lt b3; have hc3 : ∀ o, w1.cell? ⟨w.heap.size + 1, o, none⟩ = _ := fun o => (Ext.refl w1).cellsOf b3 o; have hf3 := (Ext.refl w1).freeOf b3)
                          go_roundw
                          case rel => exact ⟨j + 1, by omega, by omega, by go_num, RngInv.next hj0 hj47 Q2.out Q3.out Q4.out Q5.out Q6.out hlow hown'⟩
                          case measure => simp [intOf]; omega
                      · obtain rfl : j = b + 1 := by omega
                        have wst : IntKind.i64.wrap ((k : Int) + (st : Int)) = (k : Int) + (st : Int) := IntWalk.i64_in _ (by omega)
                        have wm : IntKind.i64.wrap ((m : Int) + 1) = (m : Int) + 1 := IntWalk.i64_in _ (by omega)
                        go_wp2
                        obtain ⟨v1, l1, q1, q2, q3, q4, q5, q6⟩ := hinv
                        refine ⟨⟨k + st, m + 1, by omega, by omega, by omega, by go_num, by go_num, v1, l1, addR S A b, f', q1, q2, q3, q4, fun x => ?_, ?_, by have := HF.out; omega, by omega⟩, ?_⟩
                        · rw [q5 x]
                          unfold addR
                          rw [show decide (x < b + 1) = decide (x ≤ b) from by rw [decide_eq_decide]; omega]
                        · rw [hgo.out]
                          simp
                        · simp [intOf]; omega
                  · go_wp2_with (refine wpList_store_blk rfl rfl rfl rfl (blk_drew HB0.out) (by rfl) (by kernel_rfl) (by simp [Value.oneCell']) ?_)
                    refine bodyPost_ret (res_cell_tmp rfl rfl rfl ((by exact putBlk_same _ l0)) (by kernel_rfl) (by kernel_rfl)) rfl ?_
                    refine ⟨none, [], 0, false, -1, rfl, HE.out.drew.putNew (Nat.le_refl _) _, Or.inl rfl, Nat.zero_le _, ?_⟩
                    rw [HM.out, hgo.out]
                    rfl
        · obtain rfl : k = s.size := by omega
          go_wp2_with (refine wpList_store_blk rfl rfl rfl rfl HB0.out (by rfl) (by kernel_rfl) (by simp [Value.oneCell']) ?_)
          refine bodyPost_ret (res_cell_tmp rfl rfl rfl ((by exact putBlk_same _ l0)) (by kernel_rfl) (by kernel_rfl)) rfl ?_
          refine ⟨none, [], 0, false, -1, rfl, HE.out.putNew (Nat.le_refl _) _, Or.inl rfl, Nat.zero_le _, ?_⟩
          rw [HM.out, HRR.out, List.drop_eq_nil_of_le (by rw [txt_len]; exact Nat.le_refl _), itemsF_nil]
          rfl
end Go.Proofs.YtiopahkigbdmcaaGreat
