/- The bound (layer 39), the document's side: the walk. -/
import Derived.Test.YtiopahkigbdmcaaGreatMj
import Derived.Deep.DeepCutAuto
import Derived.Laws.AppendOwnNone
import Derived.Deep.CutBlock
import Derived.Handy
namespace Go.Proofs.YtiopahkigbdmcaaGreat
open Go Go.Proofs Go.RowKit

/-- How many bytes the files of a list have. -/
def sumF : List NodeV → Nat
  | [] => 0
  | x :: L => (if x.kind = 2 then x.data.size else 0) + sumF L
theorem sum_snoc (L : List NodeV) (x : NodeV) : sumF (L ++ [x]) = sumF L + if x.kind = 2 then x.data.size else 0 := by
  induction L with
  | nil => simp [sumF]
  | cons y L ih => rw [List.cons_append, sumF, ih, sumF]; omega
theorem sum_take (L : List NodeV) (k : Nat) (h : k < L.length) : sumF (L.take (k + 1)) = sumF (L.take k) + if L[k].kind = 2 then L[k].data.size else 0 := by
  rw [List.take_succ_eq_append_getElem h, sum_snoc]
theorem sum_le {L : List NodeV} (h : ∀ x ∈ L, x.data.size ≤ 1000) : sumF L ≤ L.length * 1000 := by
  induction L with
  | nil => simp [sumF]
  | cons y L ih =>
    rw [sumF, List.length_cons]
    have h1 := h y (by simp)
    have h2 := ih (fun x hx => h x (by simp [hx]))
    split <;> omega
/-- The bound. -/
def boundF (d : Nat) (P : List NodeV) (piece : Int) : Int := 64 * (d + 8) * ((sumF P : Int) / piece + P.length + 1)
theorem wrap_id {x : Int} (h : -9223372036854775808 ≤ x ∧ x ≤ 9223372036854775807) : wrap64 x = x := by unfold wrap64; omega
theorem bound_val (m s k pn : Nat) (hm : m ≤ 1000) (hs : s ≤ 1000000) (hk : k ≤ 1000) : wrap64 (64 * ((m : Int) + 8) * wrap64 (wrap64 (wrap64 ((s : Int) / (pn : Int)) + (k : Int)) + 1)) = 64 * ((m : Int) + 8) * ((s : Int) / (pn : Int) + (k : Int) + 1) := by
  obtain ⟨d, hd, hd2⟩ : ∃ d : Nat, (s : Int) / (pn : Int) = d ∧ d ≤ 1000000 := ⟨s / pn, by simp, Nat.le_trans (Nat.div_le_self _ _) hs⟩
  rw [hd]
  have h1 : 64 * (m + 8) * (d + k + 1) ≤ 64 * 1008 * 1002000 := Nat.mul_le_mul (by omega) (by omega)
  have h2 : 64 * ((m : Int) + 8) * ((d : Int) + (k : Int) + 1) = ((64 * (m + 8) * (d + k + 1) : Nat) : Int) := by push_cast; rfl
  rw [wrap_id (x := (d : Int)) (by omega), wrap_id (x := (d : Int) + k) (by omega), wrap_id (x := (d : Int) + k + 1) (by omega), h2, wrap_id (by omega)]
set_option maxHeartbeats 2000000 in
set_option maxRecDepth 100000 in
theorem boundD_any (a d : Option Addr) (L : List NodeV) (c m cd : Nat) (o : OptV) (w : World) (hL : SmallL L) (hm : m ≤ 1000) (hS : Short o.rs) (hp : 16 ≤ o.piece ∧ o.piece ≤ 512) (hA : NodesAt w a L) (hR : RulesAt w o.ra o.rs) :
    Calls Tryz.prog 11 #[.slice a L.length c, .slice d m cd, o.val] w (RetV w (.int .i64 (boundF m (pickF o.rs false L) o.piece))) := by
  have HP := Lib.hid (fun w' (h : Ext w w') => pickD_any a o.ra L o.rs c o.rc false w' hL hS (hA.ext h) (hR.ext h))
  have HO := Lib.hid (fun w2 r hr h => opt_new (w := w) (w2 := w2) o (r := r) hr h)
  obtain ⟨P, hPe⟩ : ∃ P, pickF o.rs false L = P := ⟨_, rfl⟩
  have hPS : SmallL P := by rw [← hPe]; exact hL.filter _
  rw [hPe] at HP ⊢
  have HPS := Lib.hid hPS.2
  have hpl := hPS.1
  clear hR hS hA hL hPS hPe
  unfold OptV.val at *
  obtain ⟨r, hr⟩ : ∃ r, o.rs.length = r := ⟨_, rfl⟩
  rw [hr] at HP ⊢
  have HO := Lib.hid (fun w2 h => HO.out w2 r hr h)
  clear hr
  obtain ⟨n, hn⟩ : ∃ n, L.length = n := ⟨_, rfl⟩
  rw [hn] at HP ⊢
  clear hn
  have hE0 := (Ext.refl w).alloc (.cells #[.bool o.del, .bool o.dry, .bool o.trust, .slice o.ra r o.rc, .int .i64 o.block, .int .i64 o.piece] 25)
  have HE0 := Lib.hid hE0; clear hE0
  go_enter Tryz.func11, Tryz.ntmps11
  go_wp2_with fail
  refine (HP.out _ HE0.out).mono ?_
  rintro e w1 ⟨pa, pc, rfl, hE1, hPA, -⟩
  have HO1 := Lib.hid hE1
  have HE1 := Lib.hid (Ext.trans HE0.out hE1); clear hE1
  have HPA := Lib.hid hPA; clear hPA
  obtain ⟨q, hq⟩ : ∃ q, P.length = q := ⟨_, rfl⟩
  rw [hq] at hpl ⊢
  have HQ := Lib.hid hq; clear hq
  go_wp2
  go_loop [8, 9] (fun v i => ∃ k : Nat, k ≤ q ∧ i = .int .i64 k ∧ ∃ s : Nat, v = .int .i64 s ∧ s = sumF (P.take k) ∧ s ≤ k * 1000) (fun _ i => q - (intOf i).toNat)
  case atStart => exact ⟨0, Nat.zero_le _, rfl, 0, rfl, rfl, Nat.le_refl _⟩
  case round =>
    obtain ⟨k, hk, rfl, s, rfl, hs, hsk⟩ := hrel
    have HS := Lib.hid hs; clear hs
    by_cases hlt : k < q
    · have hkl : k < P.length := by rw [HQ.out]; exact hlt
      have HT := Lib.hid (sum_take P k hkl)
      have hdz := HPS.out _ (List.getElem_mem hkl)
      obtain ⟨bl, off, rfl, hb, c0, c1, c2, c3, c4⟩ := NodesAt.node HPA.out hkl
      obtain ⟨x, hx⟩ : ∃ x, P[k] = x := ⟨_, rfl⟩
      rw [hx] at HT hdz c1 c4
      clear hx c0 c2 c3
      by_cases h2 : x.kind = 2
      · have g2 : (x.kind == 2) = true := by rw [h2]; rfl
        have HT := Lib.hid (HT.out.trans (by rw [if_pos h2]))
        clear h2
        go_wp2
        go_round
        case rel => exact ⟨k + 1, by omega, by go_num, s + x.data.size, by go_num, by rw [HT.out, HS.out], by omega⟩
        case measure => simp [intOf]; omega
      · have g2 : (x.kind == 2) = false := beq_eq_false_iff_ne.2 h2
        have HT := Lib.hid (HT.out.trans (by rw [if_neg h2]))
        clear h2
        go_wp2
        go_round
        case rel => exact ⟨k + 1, by omega, by go_num, s, rfl, by rw [HT.out, HS.out, Nat.add_zero], by omega⟩
        case measure => simp [intOf]; omega
    · obtain rfl : k = q := by omega
      obtain ⟨d0, d1, d2, d3, d4, d5⟩ := HO.out _ HO1.out
      have hs2 : s = sumF P := by rw [HS.out, List.take_of_length_le (by rw [HQ.out]; exact Nat.le_refl _)]
      have HS2 := Lib.hid hs2; clear hs2
      obtain ⟨pn, hpn⟩ : ∃ pn : Nat, o.piece = pn := ⟨o.piece.toNat, by omega⟩
      rw [hpn] at d5 hp ⊢
      have hq0 : (pn : Int) ≠ 0 := by omega
      go_wp2
      go_ret
      refine ⟨?_, HE1.out⟩
      show _ = Ending.returned _
      rw [bound_val m s k pn hm (by omega) hpl, HS2.out]
      unfold boundF
      rw [HQ.out]
      rfl
end Go.Proofs.YtiopahkigbdmcaaGreat
/- The order of a round (layer 39), the document's side: the walk. -/
namespace Go.Proofs.YtiopahkigbdmcaaGreat
open Go Go.Proofs Go.RowKit

/-- Has a list of four numbers one of them twice? How many have not, ahead of one. -/
def badN (n : Nat) : Bool := n / 64 == n / 16 % 4 || n / 64 == n / 4 % 4 || n / 64 == n % 4 || n / 16 % 4 == n / 4 % 4 || n / 16 % 4 == n % 4 || n / 4 % 4 == n % 4
def cntN : Nat → Nat
  | 0 => 0
  | n + 1 => cntN n + if badN n then 0 else 1
theorem cnt_all : cntN 256 = 24 := by decide +kernel
def digs (n : Nat) : Value := .agg #[.int .i64 ((n : Int) / 64), .int .i64 ((n : Int) / 16 % 4), .int .i64 ((n : Int) / 4 % 4), .int .i64 ((n : Int) % 4)]
def wantF (x : Int) : Nat := (IntKind.u64.wrap x % 24).toNat
theorem want_val (x : Int) : wrap64 ((IntKind.u64.wrap x).tmod 24) = (wantF x : Int) ∧ wantF x < 24 := by
  have h : 0 ≤ IntKind.u64.wrap x := by rw [IntKind.wrap_u64]; omega
  unfold wantF
  rw [Int.tmod_eq_emod_of_nonneg h, wrap_id (by omega)]
  omega
def OrdTold (x : Int) (w : World) (e : Ending) (w' : World) : Prop := ∃ n, n < 256 ∧ badN n = false ∧ cntN n = wantF x ∧ e = .returned (digs n) ∧ Ext w w'
set_option maxHeartbeats 4000000 in
set_option maxRecDepth 100000 in
theorem orderD_any (x : Int) (w : World) : Calls Tryz.prog 13 #[.int .i64 x] w (OrdTold x w) := by
  obtain ⟨hwv, hw24⟩ := want_val x
  obtain ⟨want, hwant⟩ : ∃ k, wantF x = k := ⟨_, rfl⟩
  rw [hwant] at hwv hw24
  have HWant := Lib.hid hwant; clear hwant
  have HWV := Lib.hid hwv; clear hwv
  have hE1 := (Ext.refl w).alloc (.cells #[.int .i64 0, .int .i64 0, .int .i64 0, .int .i64 0] 34)
  have hB1 := heap_new w (.cells #[.int .i64 0, .int .i64 0, .int .i64 0, .int .i64 0] 34)
  go_enter Tryz.func13, Tryz.ntmps13
  go_upto_region 2 with fail
  rw [HWV.out]
  obtain ⟨w1, hw1⟩ : ∃ w1, w.alloc (.cells #[.int .i64 0, .int .i64 0, .int .i64 0, .int .i64 0] 34) = w1 := ⟨_, rfl⟩
  rw [hw1] at hE1 hB1 ⊢
  have HB1 := Lib.hid hB1; clear hB1
  have HE1 := Lib.hid hE1; clear hE1 hw1
  go_wp2
  go_loopw [4, 5] (fun a i w' => ∃ n : Nat, n ≤ 256 ∧ i = .int .i64 n ∧ ∃ k : Nat, a = .int .i64 k ∧ k = cntN n ∧ k ≤ want ∧ Ext w1 w') (fun _ i _ => 256 - (intOf i).toNat)
  case atStart => exact ⟨0, Nat.zero_le _, rfl, 0, rfl, rfl, Nat.zero_le _, Ext.refl _⟩
  case round =>
    obtain ⟨n, hn, rfl, k, rfl, hkc, hkw, hE⟩ := hrel
    have HKC := Lib.hid hkc; clear hkc
    by_cases hlt : n < 256
    · go_upto_region 7 with fail
      have hE2 := hE.alloc (.cells #[.int .i64 ((n : Int) / 64), .int .i64 ((n : Int) / 16 % 4), .int .i64 ((n : Int) / 4 % 4), .int .i64 ((n : Int) % 4)] 34)
      have hB2 := heap_new wr (.cells #[.int .i64 ((n : Int) / 64), .int .i64 ((n : Int) / 16 % 4), .int .i64 ((n : Int) / 4 % 4), .int .i64 ((n : Int) % 4)] 34)
      obtain ⟨a0, h0⟩ : ∃ a : Int, (n : Int) / 64 = a := ⟨_, rfl⟩
      obtain ⟨a1, h1⟩ : ∃ a : Int, (n : Int) / 16 % 4 = a := ⟨_, rfl⟩
      obtain ⟨a2, h2⟩ : ∃ a : Int, (n : Int) / 4 % 4 = a := ⟨_, rfl⟩
      obtain ⟨a3, h3⟩ : ∃ a : Int, (n : Int) % 4 = a := ⟨_, rfl⟩
      rw [h0, h1, h2, h3] at hE2 hB2 ⊢
      have HD : Hid (digs n = .agg #[.int .i64 a0, .int .i64 a1, .int .i64 a2, .int .i64 a3]) := Lib.hid (by unfold digs; rw [h0, h1, h2, h3])
      have HBad : Hid (badN n = true ↔ a0 = a1 ∨ a0 = a2 ∨ a0 = a3 ∨ a1 = a2 ∨ a1 = a3 ∨ a2 = a3) := Lib.hid (by
        unfold badN
        simp only [Bool.or_eq_true, beq_iff_eq, ← h0, ← h1, ← h2, ← h3]
        omega)
      have HC : Hid (cntN (n + 1) = cntN n + if badN n then 0 else 1) := Lib.hid rfl
      obtain ⟨w2, hw2⟩ : ∃ w2, wr.alloc (.cells #[.int .i64 a0, .int .i64 a1, .int .i64 a2, .int .i64 a3] 34) = w2 := ⟨_, rfl⟩
      have hz2 : wr.heap.size < w2.heap.size := by rw [← hw2]; show wr.heap.size < (wr.heap.push _).size; rw [Array.size_push]; omega
      rw [hw2] at hE2 hB2 ⊢
      have HB2 := Lib.hid hB2
      have HE2 := Lib.hid hE2; clear hE2 hw2
      clear h0 h1 h2 h3
      have c0 := blk_cell hB2 (i := 0) rfl
      have c1 := blk_cell hB2 (i := 1) rfl
      have c2 := blk_cell hB2 (i := 2) rfl
      have c3 := blk_cell hB2 (i := 3) rfl
      clear hB2
      go_cut [65] (fun v w' => v = .bool (badN n) ∧ w' = w2)
      case first =>
        by_cases e1 : a0 = a1
        · have g1 : (a0 == a1) = true := beq_iff_eq.2 e1
          have hv := Lib.hid (HBad.out.2 (Or.inl e1)); clear e1
          go_wp2
          go_meet
          exact ⟨by rw [hv.out], rfl⟩
        · have g1 : (a0 == a1) = false := beq_eq_false_iff_ne.2 e1
          by_cases e2 : a0 = a2
          · have g2 : (a0 == a2) = true := beq_iff_eq.2 e2
            have hv := Lib.hid (HBad.out.2 (Or.inr (Or.inl e2))); clear e1 e2
            go_wp2
            go_meet
            exact ⟨by rw [hv.out], rfl⟩
          · have g2 : (a0 == a2) = false := beq_eq_false_iff_ne.2 e2
            by_cases e3 : a0 = a3
            · have g3 : (a0 == a3) = true := beq_iff_eq.2 e3
              have hv := Lib.hid (HBad.out.2 (Or.inr (Or.inr (Or.inl e3)))); clear e1 e2 e3
              go_wp2
              go_meet
              exact ⟨by rw [hv.out], rfl⟩
            · have g3 : (a0 == a3) = false := beq_eq_false_iff_ne.2 e3
              by_cases e4 : a1 = a2
              · have g4 : (a1 == a2) = true := beq_iff_eq.2 e4
                have hv := Lib.hid (HBad.out.2 (Or.inr (Or.inr (Or.inr (Or.inl e4))))); clear e1 e2 e3 e4
                go_wp2
                go_meet
                exact ⟨by rw [hv.out], rfl⟩
              · have g4 : (a1 == a2) = false := beq_eq_false_iff_ne.2 e4
                by_cases e5 : a1 = a3
                · have g5 : (a1 == a3) = true := beq_iff_eq.2 e5
                  have hv := Lib.hid (HBad.out.2 (Or.inr (Or.inr (Or.inr (Or.inr (Or.inl e5)))))); clear e1 e2 e3 e4 e5
                  go_wp2
                  go_meet
                  exact ⟨by rw [hv.out], rfl⟩
                · have g5 : (a1 == a3) = false := beq_eq_false_iff_ne.2 e5
                  obtain ⟨b, hb⟩ : ∃ b, (a2 == a3) = b := ⟨_, rfl⟩
                  have hv : Hid (badN n = b) := Lib.hid (by
                    rw [Bool.eq_iff_iff, HBad.out, ← hb, beq_iff_eq]
                    simp [e1, e2, e3, e4, e5])
                  clear e1 e2 e3 e4 e5
                  go_wp2
                  go_meet
                  exact ⟨by rw [hv.out], rfl⟩
      case rest =>
        obtain ⟨rfl, rfl⟩ := hcut
        obtain ⟨b, hb⟩ : ∃ b, badN n = b := ⟨_, rfl⟩
        rw [hb] at HC ⊢
        have HBN := Lib.hid hb; clear hb HBad
        cases b
        · by_cases hkk : (k : Int) = want
          · have gk : ((k : Int) == (want : Int)) = true := beq_iff_eq.2 hkk
            have hkk2 : k = want := by omega
            have HKK := Lib.hid hkk2; clear hkk hkk2
            have HB1c := HE2.out.block HB1.out
            have z0 := blk_cell HB1c (i := 0) rfl
            have z1 := blk_cell HB1c (i := 1) rfl
            have z2 := blk_cell HB1c (i := 2) rfl
            have z3 := blk_cell HB1c (i := 3) rfl
            have hfz : ∀ i, wc.frozen? ⟨w.heap.size, i, none⟩ = false := fun i => blk_free HB1c
            have hfin := blk_set (i := 3) (.int .i64 a3) (blk_set (i := 2) (.int .i64 a2) (blk_set (i := 1) (.int .i64 a1) (blk_set (i := 0) (.int .i64 a0) HB1c)))
            have hEf : Ext w ((((wc.setCell ⟨w.heap.size, 0, none⟩ (.int .i64 a0)).setCell ⟨w.heap.size, 1, none⟩ (.int .i64 a1)).setCell ⟨w.heap.size, 2, none⟩ (.int .i64 a2)).setCell ⟨w.heap.size, 3, none⟩ (.int .i64 a3)) :=
              ((((Ext.trans HE1.out HE2.out).setNew (Nat.le_refl _) _).setNew (Nat.le_refl _) _).setNew (Nat.le_refl _) _).setNew (Nat.le_refl _) _
            have HFin := Lib.hid (And.intro hfin hEf); clear hfin hEf HB1c
            go_wp2
            refine bodyPost_ret (res_cell rfl rfl (HFin.out.1) (by kernel_rfl) (by kernel_rfl)) rfl ?_
            exact ⟨n, hlt, HBN.out, by rw [← HKC.out, HKK.out, HWant.out], by rw [HD.out]; rfl, HFin.out.2⟩
          · have gk : ((k : Int) == (want : Int)) = false := beq_eq_false_iff_ne.2 hkk
            go_wp2
            go_roundw
            case rel => exact ⟨n + 1, by omega, by go_num, k + 1, by go_num, by rw [HC.out, HKC.out]; rfl, by omega, HE2.out⟩
            case measure => simp [intOf]; omega
        · go_wp2
          go_roundw
          case rel => exact ⟨n + 1, by omega, by go_num, k, rfl, by rw [HC.out, HKC.out]; rfl, hkw, HE2.out⟩
          case measure => simp [intOf]; omega
    · obtain rfl : n = 256 := by omega
      have h := HKC.out
      rw [cnt_all] at h
      omega
end Go.Proofs.YtiopahkigbdmcaaGreat
/- The order of a round (layer 39), the program's side: the walk. -/
namespace Go.Proofs.YtiopahkigbdmcaaGreat
open Go Go.Proofs Go.RowKit

def goF : List Nat → Nat → List Nat → List Nat
  | [], _, _ => []
  | u :: us, m, L => L.getD (m / u) 0 :: goF us (m % u) (L.eraseIdx (m / u))
theorem order_same : (List.range 256).all (fun n => badN n || goF [6, 2, 1, 1] (cntN n) [0, 1, 2, 3] == [n / 64, n / 16 % 4, n / 4 % 4, n % 4]) = true := by decide +kernel

def intC (n : Nat) : List Value := [.int .i64 n]
theorem intC_len (n : Nat) : (intC n).length = 1 := rfl
abbrev IntsAt := ListAt intC 3 1
abbrev OwnI := OwnL intC 3 1
theorem int_info : ∃ i, Tryz.prog.info? 3 = some i ∧ i.zero = some (.int .i64 0) ∧ i.size = 1 ∧ i.bytes = 8 := info_parts (by kernel_rfl)
theorem ints_append {ops : Array Oper} {rest : List Oper} {o : Oper} {a : Act} {Q : Exit → Act → World → Prop} {w : World} (hgd : o.guard = none) (s x : Operand)
    (ho : o.op = .call { callee := .builtin .append, args := #[s, x], argTypes := #[57, 57] })
    (w0 : World) (v : Value) (L : List Nat) (hs : a.eval s = v) (hO : OwnI w0 v L w)
    (b off c m : Nat) (M : List Nat) (hm : m = M.length) (hx : a.eval x = .slice (some ⟨b, off, none⟩) m c) (hM : IntsAt w (some ⟨b, off, none⟩) M) (h63 : L.length + M.length ≤ 90000)
    (h : ∀ v' w', OwnI w0 v' (L ++ M) w' → Below w0.heap.size w w' → wpList Tryz.prog ops Q rest (a.put o.dst v') w') : wpList Tryz.prog ops Q (o :: rest) a w := by
  obtain ⟨i, h1, h2, h3, h4⟩ := int_info
  exact wpList_append_B hgd s x 57 ho intC_len i (.int .i64 0) 8 (by kernel_rfl) h1 h2 h3 h4 rfl (by decide) w0 v L hs hO ⟨b, off, none⟩ c m M hm hx (hM.flat intC_len (by decide)) (fun y _ u hu => by simp only [intC, List.mem_singleton] at hu; subst hu; rfl) (by omega) (by decide) h

theorem idx4 (i : Int) (a b c d : Value) (w : World) (v : Value) (h1 : 0 ≤ i ∧ i < 4) (h2 : #[a, b, c, d][i.toNat]? = some v) : (Instr.index 34 (.agg #[a, b, c, d]) (.int .i64 i)).run Tryz.prog w = .ok v w := by
  have h : Tryz.prog.underlying 34 = some (.array 4 3) := by kernel_rfl
  simp [Instr.index, run_underlying h, asIntOf, h1, go_sem]
  have h3 : [a, b, c, d][i.toNat]? = some v := by simpa using h2
  exact (List.getElem?_eq_some_iff.1 h3).2
theorem ListAt.setOff {α : Type} {f : α → List Value} {T : TypeId} {n : Nat} {w : World} {b off c : Nat} {L : List α} (h : ListAt f T n w (some ⟨b, off, none⟩) L) (hbc : b ≠ c) (i : Nat) (v : Value) : ListAt f T n (w.setCell ⟨c, i, none⟩ v) (some ⟨b, off, none⟩) L := by
  rcases h with h | ⟨b', off', cs, fz, ha, hb, hall⟩
  · exact Or.inl h
  · injection ha with ha
    injection ha with h1 h2
    subst h1 h2
    exact Or.inr ⟨b, off, cs, fz, rfl, (blk_set_other v hbc).trans hb, hall⟩
theorem below_ad (w : World) (o : Obj) : Below w.heap.size w.drew (w.alloc o).drew := (Ext.refl w.drew).alloc o
theorem below_ad' (w : World) (o : Obj) : Below w.heap.size w (w.alloc o).drew := ((Ext.refl w).alloc o).drew
/-- A round: what is left, what is to come. -/
def OrdInv (b : Nat) (w0 : World) (want i m : Nat) (v : Value) (w : World) : Prop :=
  ∃ (L pre : List Nat) (o : Array Value), (i < 4 → ∃ la lo lc, v = .slice (some ⟨la, lo, none⟩) L.length lc ∧ L.length ≤ lc ∧ IntsAt w (some ⟨la, lo, none⟩) L ∧ la ≠ b) ∧ L.length = 4 - i ∧ pre.length = i ∧
    pre ++ goF ([6, 2, 1, 1].drop i) m L = goF [6, 2, 1, 1] want [0, 1, 2, 3] ∧ m < [24, 6, 2, 1, 1].getD i 1 ∧
    w.heap[b]? = some (.cells o 34 (0, 0)) ∧ o.size = 4 ∧ (∀ j (h : j < pre.length), o[j]? = some (.int .i64 (pre[j] : Nat))) ∧ Ext w0 w ∧ w.heap[w0.heap.size]? = some (.cells #[.int .i64 0, .int .i64 0, .int .i64 0, .int .i64 0] 34 (0, 0))
theorem OwnL.some_of {α : Type} {f : α → List Value} {T : TypeId} {n : Nat} {w0 w : World} {v : Value} {L : List α} (hf : ∀ x, (f x).length = n) (h : OwnL f T n w0 v L w) (h0 : 0 < L.length) : ∃ g c, v = .slice (some ⟨g, 0, none⟩) L.length c ∧ L.length ≤ c ∧ ListAt f T n w (some ⟨g, 0, none⟩) L ∧ w0.heap.size ≤ g := by
  obtain ⟨a, c, rfl, hc⟩ := h.slice
  have hl := h.done hf
  obtain ⟨_, _, ⟨hv, h0'⟩ | ⟨g, cap, cur, hv, hg, _⟩⟩ := h
  · omega
  · simp only [Value.slice.injEq] at hv
    obtain ⟨rfl, -, rfl⟩ := hv
    exact ⟨g, c, rfl, hc, hl, hg⟩
theorem erase_eq (L : List Nat) (q : Nat) : L.eraseIdx q = L.take q ++ L.drop (q + 1) := List.eraseIdx_eq_take_drop_succ L q
def GoTold (x : Int) (w : World) (e : Ending) (w' : World) : Prop := ∃ a b c d : Nat, goF [6, 2, 1, 1] (wantF x) [0, 1, 2, 3] = [a, b, c, d] ∧ e = .returned (.agg #[.int .i64 a, .int .i64 b, .int .i64 c, .int .i64 d]) ∧ Ext w w'
set_option maxHeartbeats 4000000 in
set_option maxRecDepth 100000 in
theorem orderP_any (x : Int) (w : World) : Calls Tryz.prog 12 #[.int .i64 x] w (GoTold x w) := by
  obtain ⟨hwv, hw24⟩ := want_val x
  obtain ⟨want, hwant⟩ : ∃ k, wantF x = k := ⟨_, rfl⟩
  rw [hwant] at hwv hw24
  have HWant := Lib.hid hwant; clear hwant
  have HWV := Lib.hid hwv; clear hwv
  go_enter Tryz.func12, Tryz.ntmps12
  go_upto_region 2 with fail
  rw [HWV.out]
  go_wp2
  obtain ⟨wl, hwl⟩ : ∃ wl, ((w.alloc (.cells #[.int .i64 0, .int .i64 0, .int .i64 0, .int .i64 0] 34)).alloc (.cells #[.int .i64 0, .int .i64 1, .int .i64 2, .int .i64 3] 3)).alloc (.cells #[.int .i64 0, .int .i64 0, .int .i64 0, .int .i64 0] 34) = wl := ⟨_, rfl⟩
  have hb0 : wl.heap[w.heap.size]? = some (.cells #[.int .i64 0, .int .i64 0, .int .i64 0, .int .i64 0] 34 (0, 0)) := by rw [← hwl]; exact blk_alloc _ (blk_alloc _ (heap_new w _))
  have hb1 : wl.heap[w.heap.size + 1]? = some (.cells #[.int .i64 0, .int .i64 1, .int .i64 2, .int .i64 3] 3 (0, 0)) := by rw [← hwl]; exact blk_alloc _ (heap_at _ _ (by simp))
  have hb2 : wl.heap[w.heap.size + 1 + 1]? = some (.cells #[.int .i64 0, .int .i64 0, .int .i64 0, .int .i64 0] 34 (0, 0)) := by rw [← hwl]; exact heap_at _ _ (by simp)
  have hEl : Ext w wl := by rw [← hwl]; exact (((Ext.refl w).alloc _).alloc _).alloc _
  rw [hwl]
  clear hwl
  have hinv : OrdInv (w.heap.size + 1 + 1) w want 0 want (.slice (some ⟨w.heap.size + 1, 0, none⟩) 4 4) wl :=
    ⟨[0, 1, 2, 3], [], _, fun _ => ⟨w.heap.size + 1, 0, 4, rfl, Nat.le_refl _, Or.inr ⟨_, 0, _, (_, _), rfl, hb1, fun i hi j v hj => by
      have hj0 : j = 0 := by
        have := (List.getElem?_eq_some_iff.1 hj).1
        rw [intC_len] at this
        omega
      subst hj0
      have hi4 : i < 4 := hi
      rcases (by omega : i = 0 ∨ i = 1 ∨ i = 2 ∨ i = 3) with rfl | rfl | rfl | rfl <;> exact hj⟩, by omega⟩, rfl, rfl, rfl, hw24, hb2, rfl, fun j h => by simp at h, hEl, hb0⟩
  have HInv := Lib.hid hinv; clear hinv hb1 hb2
  have HB0 := Lib.hid hb0; clear hb0
  have HEl := Lib.hid hEl; clear hEl
  go_loopw [3, 4, 15] (fun n v i w' => ∃ k m : Nat, k ≤ 4 ∧ i = .int .i64 k ∧ n = .int .i64 m ∧ OrdInv (w.heap.size + 1 + 1) w want k m v w') (fun _ _ i _ => 4 - (intOf i).toNat)
  case atStart => exact ⟨0, want, by omega, rfl, rfl, HInv.out⟩
  case round =>
    obtain ⟨i, m, hi, rfl, rfl, L, pre, o, hsl, hLl, hpl, hgo, hm, hbo, hos, hpo, hE, hres⟩ := hrel
    have HRes := Lib.hid hres; clear hres
    have HSL := Lib.hid hsl; clear hsl
    have hb : w.heap.size ≤ w.heap.size + 1 + 1 := by omega
    have HGO := Lib.hid hgo; clear hgo
    have HBO := Lib.hid hbo; clear hbo
    have HE := Lib.hid hE; clear hE
    have HPO := Lib.hid hpo; clear hpo
    by_cases hi4 : i < 4
    · obtain ⟨la, lo, lc, rfl, hlc, hLA, hne⟩ := HSL.out hi4
      have HLA := Lib.hid hLA; clear hLA HSL
      obtain ⟨u, hu⟩ : ∃ u, [6, 2, 1, 1].getD i 1 = u := ⟨_, rfl⟩
      have hu0 : 0 < u ∧ u ≤ 6 := by rw [← hu]; rcases (by omega : i = 0 ∨ i = 1 ∨ i = 2 ∨ i = 3) with rfl | rfl | rfl | rfl <;> decide
      have hku : m / u < L.length ∧ m % u < [24, 6, 2, 1, 1].getD (i + 1) 1 := by
        rw [hLl, ← hu]
        rcases (by omega : i = 0 ∨ i = 1 ∨ i = 2 ∨ i = 3) with rfl | rfl | rfl | rfl <;> simp at hm ⊢ <;> omega
      have hdrop : [6, 2, 1, 1].drop i = u :: [6, 2, 1, 1].drop (i + 1) := by
        rw [← hu]
        rcases (by omega : i = 0 ∨ i = 1 ∨ i = 2 ∨ i = 3) with rfl | rfl | rfl | rfl <;> rfl
      obtain ⟨q, hq⟩ : ∃ q, m / u = q := ⟨_, rfl⟩
      obtain ⟨m', hm'⟩ : ∃ m', m % u = m' := ⟨_, rfl⟩
      rw [hq, hm'] at hku
      have hqi : (m : Int) / (u : Int) = (q : Int) := by rw [← hq]; simp
      have hmi : (m : Int) % (u : Int) = (m' : Int) := by rw [← hm']; simp
      have HGo : Hid (pre ++ L.getD q 0 :: goF ([6, 2, 1, 1].drop (i + 1)) m' (L.eraseIdx q) = goF [6, 2, 1, 1] want [0, 1, 2, 3]) := Lib.hid (by
        rw [← HGO.out, hdrop, goF, hq, hm'])
      have HQI := Lib.hid (And.intro hqi hmi); clear hqi hmi hq hm' hdrop
      go_upto_region 6 with fail
      go_cut [6, 7] (fun x y w' => x = .int .i64 i ∧ y = .int .i64 u ∧ w' = wr)
      case first =>
        clear HQI HGo hku
        rcases (by omega : i = 0 ∨ i = 1 ∨ i = 2 ∨ i = 3) with rfl | rfl | rfl | rfl
        · have hix := fun w => idx4 0 (.int .i64 6) (.int .i64 2) (.int .i64 1) (.int .i64 1) w _ (by decide) rfl
          go_wp2
          go_meet
          exact ⟨rfl, by rw [← hu]; rfl, rfl⟩
        · have hix := fun w => idx4 1 (.int .i64 6) (.int .i64 2) (.int .i64 1) (.int .i64 1) w _ (by decide) rfl
          go_wp2
          go_meet
          exact ⟨rfl, by rw [← hu]; rfl, rfl⟩
        · have hix := fun w => idx4 2 (.int .i64 6) (.int .i64 2) (.int .i64 1) (.int .i64 1) w _ (by decide) rfl
          go_wp2
          go_meet
          exact ⟨rfl, by rw [← hu]; rfl, rfl⟩
        · have hix := fun w => idx4 3 (.int .i64 6) (.int .i64 2) (.int .i64 1) (.int .i64 1) w _ (by decide) rfl
          go_wp2
          go_meet
          exact ⟨rfl, by rw [← hu]; rfl, rfl⟩
      case rest =>
        obtain ⟨rfl, rfl, rfl⟩ := hcut
        have hun : (u : Int) ≠ 0 := by omega
        clear hu
        go_upto_region 9 with fail
        rw [HQI.out.1, HQI.out.2, wrap_id (x := (q : Int)) (by omega)]
        obtain ⟨bl, off, hab, hbl, hcl⟩ := ListAt.block HLA.out hku.1
        injection hab with hab
        injection hab with h1 h2
        subst h1 h2
        have d0 := hcl 0 _ rfl
        rw [Nat.mul_one, Nat.add_zero] at d0
        obtain ⟨y, hy⟩ : ∃ y, L[q] = y := ⟨_, rfl⟩
        rw [hy] at d0
        have hgetD : L.getD q 0 = y := by rw [List.getD_eq_getElem?_getD, List.getElem?_eq_getElem hku.1, hy]; rfl
        rw [hgetD] at HGo
        obtain ⟨ov, hov⟩ : ∃ ov, o[i]? = some ov := ⟨o[i]'(by omega), Array.getElem?_eq_getElem _⟩
        have e0 := blk_cell HBO.out hov
        have e1 : wc.frozen? ⟨w.heap.size + 1 + 1, i, none⟩ = false := blk_free HBO.out
        clear hgetD hy hcl hov
        have hqn : q < L.length := hku.1
        go_upto_region 10 with fail
        have hE2 : Ext w (wc.setCell ⟨w.heap.size + 1 + 1, i, none⟩ (.int .i64 y)) := HE.out.setNew (by omega) _
        have hB2 : (wc.setCell ⟨w.heap.size + 1 + 1, i, none⟩ (.int .i64 y)).heap[w.heap.size + 1 + 1]? = some (.cells (o.setIfInBounds i (.int .i64 y)) 34 (0, 0)) := blk_set _ HBO.out
        have hL2 : IntsAt (wc.setCell ⟨w.heap.size + 1 + 1, i, none⟩ (.int .i64 y)) (some ⟨la, lo, none⟩) L := HLA.out.setOff hne i _
        obtain ⟨w2, hw2⟩ : ∃ w2, wc.setCell ⟨w.heap.size + 1 + 1, i, none⟩ (.int .i64 y) = w2 := ⟨_, rfl⟩
        rw [hw2] at hE2 hB2 hL2 ⊢
        have hl2 : la < w2.heap.size := by obtain ⟨_, _, hab, h, _⟩ := ListAt.block hL2 hqn; injection hab with hab; injection hab with h1 h2; rw [h1]; exact h
        have hR2 : w2.heap[w.heap.size]? = some (.cells #[.int .i64 0, .int .i64 0, .int .i64 0, .int .i64 0] 34 (0, 0)) := by rw [← hw2, blk_set_other _ (by omega)]; exact HRes.out
        have HR2 := Lib.hid hR2; clear hR2
        have H2 := Lib.hid (And.intro hE2 (And.intro hB2 hL2)); clear hE2 hB2 hL2 hw2 d0 e0 e1
        obtain ⟨ln, hln⟩ : ∃ n, L.length = n := ⟨_, rfl⟩
        have htl : (L.take q).length = q := by rw [List.length_take]; omega
        have hdl : (L.drop (q + 1)).length = ln - (q + 1) := by rw [List.length_drop, hln]
        rw [hln] at hqn hlc hLl hku ⊢
        have HLN := Lib.hid hln; clear hln
        have hqc : q ≤ lc := by omega
        have hq1 : q + 1 ≤ ln := by omega
        have hq2 : (0 : Int) ≤ (q : Int) + 1 := by omega
        have hq3 : (q : Int) + 1 ≤ ln := by omega
        have hlen4 : ([] : List Nat).length + (L.take q).length ≤ 90000 := by rw [htl, List.length_nil]; omega
        have hlen5 : ([] ++ L.take q).length + (L.drop (q + 1)).length ≤ 90000 := by rw [List.nil_append, htl, hdl]; omega
        have HLl := Lib.hid hLl
        have wq1 : IntKind.i64.wrap ((q : Int) + 1) = (q : Int) + 1 := IntWalk.i64_in _ (by omega)
        clear hLl
        have HM := Lib.hid (And.intro hku hpl)
        clear hku hpl hm
        have hfin : ∀ v5 w5, OwnI w2 v5 ([] ++ L.take q ++ L.drop (q + 1)) w5 → Below w2.heap.size w2 w5 → OrdInv (w.heap.size + 1 + 1) w want (i + 1) m' v5 w5 := by
          intro v5 w5 hown hBw
          have hge := HGo.out
          have hLl := HLl.out
          have hku := HM.out.1
          have hpl := HM.out.2
          rw [List.nil_append, ← erase_eq] at hown
          have hel : (L.eraseIdx q).length = 4 - (i + 1) := by rw [List.length_eraseIdx, HLN.out, if_pos hqn]; omega
          have hEw : Ext w2 w5 := hBw
          refine ⟨L.eraseIdx q, pre ++ [y], _, fun hi1 => ?_, hel, by rw [List.length_append, hpl]; rfl, by rw [List.append_assoc]; exact hge, hku.2, hEw.block H2.out.2.1, by rw [Array.size_setIfInBounds]; exact hos, fun j hj => ?_, H2.out.1.trans hEw, hEw.block HR2.out⟩
          · obtain ⟨g, c, hv, hc, hl, hg⟩ := hown.some_of intC_len (by rw [hel]; omega)
            refine ⟨g, 0, c, hv, hc, hl, ?_⟩
            have := blk_lt H2.out.2.1
            omega
          · rw [List.length_append, hpl, List.length_singleton] at hj
            rw [Array.getElem?_setIfInBounds]
            by_cases hji : i = j
            · subst hji
              rw [if_pos rfl, if_pos (by rw [hos]; exact hi4), List.getElem_append_right (by rw [hpl]; exact Nat.le_refl _)]
              simp
            · rw [if_neg hji, List.getElem_append_left (by rw [hpl]; omega)]
              exact HPO.out j (by rw [hpl]; omega)
        have HFin := Lib.hid hfin; clear hfin
        have HDr := Lib.hid (show IntsAt w2 (some ⟨la, lo + (q + 1), none⟩) (L.drop (q + 1)) by have h := ListAt.drop (q + 1) H2.out.2.2; rw [Nat.mul_one] at h; exact h)
        by_cases hcq : lc = q + 1
        · obtain rfl : ln = q + 1 := by omega
          subst hcq
          have z1 : (q : Int) ≤ (q : Int) + 1 := by omega
          have z2 : q ≤ q + 1 := by omega
          refine wp_draw_stages 43 10 [] [([false, true, true, true, false, true, true, true, true], 0), ([], 4), ([], 9)] (Below w2.heap.size) (Below.refl w2.heap.size) (fun _ _ _ => Below.trans) (by kernel_rfl) (by kernel_rfl) ?_
          apply wpStages_cons (by simp)
          · intro w1 hw1
            simp only [sel_true, sel_false, sel_nil]
            repeat ((with_reducible refine wpStill_step (fun K hK => ?_)); go_simp; refine hK _ ?_; clear hK K)
            exact wpStill_nil rfl
          try simp only [List.getD_cons_zero]
          go_wp2_with fail
          refine ⟨below_ad w2 _, ?_⟩
          apply wpStages_cons (by simp)
          · intro w1 hw1
            simp only [sel_nil]
            repeat ((with_reducible refine wpStill_step (fun K hK => ?_)); go_simp; refine hK _ ?_; clear hK K)
            exact wpStill_nil rfl
          try simp only [List.getD_cons_succ, List.getD_cons_zero]
          go_wp2_with (at_builtin; refine ints_append rfl _ _ rfl w2 _ [] rfl (OwnL.empty (Ext.refl _)).drew la lo _ _ (L.take q) htl.symm rfl ((H2.out.2.2.take q).ext ((Ext.refl w2).alloc _).drew) hlen4 ?_; intro v4 w4 hown4 hE4)
          refine ⟨hE4, ?_⟩
          simp only [Act.put, List.setIfInBounds_toArray, List.set_cons_succ, List.set_cons_zero]
          apply wpStages_cons (by simp)
          · intro w1 hw1
            simp only [sel_nil]
            repeat ((with_reducible refine wpStill_step (fun K hK => ?_)); go_simp; refine hK _ ?_; clear hK K)
            exact wpStill_nil rfl
          try simp only [List.getD_cons_succ, List.getD_cons_zero]
          go_wp2_with (at_builtin; refine ints_append rfl _ _ rfl w2 _ _ rfl hown4 la lo _ _ (L.drop (q + 1)) (by rw [hdl]; omega) rfl (Or.inl (List.drop_eq_nil_of_le (by rw [HLN.out]; exact Nat.le_refl _))) hlen5 ?_; intro v5 w5 hown5 hE5)
          refine ⟨hE5, ?_⟩
          refine wpStages_nil ?_
          simp only [sel_nil]
          repeat ((with_reducible refine wpStill_step (fun K hK => ?_)); go_simp; refine hK _ ?_; clear hK K)
          refine wpStill_nil ?_
          try simp only [List.drop_succ_cons, List.drop_zero]
          go_wp2
          go_roundw
          case rel => exact ⟨i + 1, m', by omega, by go_num, rfl, HFin.out _ _ hown5 (Below.trans (below_ad' w2 _) (Below.trans hE4 hE5))⟩
          case measure => simp [intOf]; omega
        · refine wp_draw_stages 43 10 [] [([false, true, true, true, false, true, true, true, true], 0), ([], 4), ([], 9)] (Below w2.heap.size) (Below.refl w2.heap.size) (fun _ _ _ => Below.trans) (by kernel_rfl) (by kernel_rfl) ?_
          apply wpStages_cons (by simp)
          · intro w1 hw1
            simp only [sel_true, sel_false, sel_nil]
            repeat ((with_reducible refine wpStill_step (fun K hK => ?_)); go_simp; refine hK _ ?_; clear hK K)
            exact wpStill_nil rfl
          try simp only [List.getD_cons_zero]
          go_wp2_with fail
          refine ⟨below_ad w2 _, ?_⟩
          apply wpStages_cons (by simp)
          · intro w1 hw1
            simp only [sel_nil]
            repeat ((with_reducible refine wpStill_step (fun K hK => ?_)); go_simp; refine hK _ ?_; clear hK K)
            exact wpStill_nil rfl
          try simp only [List.getD_cons_succ, List.getD_cons_zero]
          go_wp2_with (at_builtin; refine ints_append rfl _ _ rfl w2 _ [] rfl (OwnL.empty (Ext.refl _)).drew la lo _ _ (L.take q) htl.symm rfl ((H2.out.2.2.take q).ext ((Ext.refl w2).alloc _).drew) hlen4 ?_; intro v4 w4 hown4 hE4)
          refine ⟨hE4, ?_⟩
          simp only [Act.put, List.setIfInBounds_toArray, List.set_cons_succ, List.set_cons_zero]
          apply wpStages_cons (by simp)
          · intro w1 hw1
            simp only [sel_nil]
            repeat ((with_reducible refine wpStill_step (fun K hK => ?_)); go_simp; refine hK _ ?_; clear hK K)
            exact wpStill_nil rfl
          try simp only [List.getD_cons_succ, List.getD_cons_zero]
          go_wp2_with (at_builtin; refine ints_append rfl _ _ rfl w2 _ _ rfl hown4 la (lo + (q + 1)) _ _ (L.drop (q + 1)) hdl.symm rfl ((HDr.out).ext (Below.trans (below_ad' w2 _) hE4)) hlen5 ?_; intro v5 w5 hown5 hE5)
          refine ⟨hE5, ?_⟩
          refine wpStages_nil ?_
          simp only [sel_nil]
          repeat ((with_reducible refine wpStill_step (fun K hK => ?_)); go_simp; refine hK _ ?_; clear hK K)
          refine wpStill_nil ?_
          try simp only [List.drop_succ_cons, List.drop_zero]
          go_wp2
          go_roundw
          case rel => exact ⟨i + 1, m', by omega, by go_num, rfl, HFin.out _ _ hown5 (Below.trans (below_ad' w2 _) (Below.trans hE4 hE5))⟩
          case measure => simp [intOf]; omega
    · obtain rfl : i = 4 := by omega
      obtain ⟨p0, p1, p2, p3, rfl⟩ : ∃ p0 p1 p2 p3, pre = [p0, p1, p2, p3] := by
        match pre, hpl with
        | [p0, p1, p2, p3], _ => exact ⟨p0, p1, p2, p3, rfl⟩
      have ho : o = #[.int .i64 (p0 : Nat), .int .i64 (p1 : Nat), .int .i64 (p2 : Nat), .int .i64 (p3 : Nat)] := by
        apply Array.ext_getElem?
        intro j
        by_cases hj : j < 4
        · rcases (by omega : j = 0 ∨ j = 1 ∨ j = 2 ∨ j = 3) with rfl | rfl | rfl | rfl
          · exact HPO.out 0 (by simp)
          · exact HPO.out 1 (by simp)
          · exact HPO.out 2 (by simp)
          · exact HPO.out 3 (by simp)
        · rw [Array.getElem?_eq_none (by omega), Array.getElem?_eq_none (by simp; omega)]
      subst ho
      have hge := HGO.out
      clear HGO HPO HSL
      have c0 := blk_cell HBO.out (i := 0) rfl
      have c1 := blk_cell HBO.out (i := 1) rfl
      have c2 := blk_cell HBO.out (i := 2) rfl
      have c3 := blk_cell HBO.out (i := 3) rfl
      have HB1c := HRes.out
      have z0 := blk_cell HB1c (i := 0) rfl
      have z1 := blk_cell HB1c (i := 1) rfl
      have z2 := blk_cell HB1c (i := 2) rfl
      have z3 := blk_cell HB1c (i := 3) rfl
      have hfz : ∀ i, wr.frozen? ⟨w.heap.size, i, none⟩ = false := fun i => blk_free HB1c
      have hfin := blk_set (i := 3) (.int .i64 (p3 : Nat)) (blk_set (i := 2) (.int .i64 (p2 : Nat)) (blk_set (i := 1) (.int .i64 (p1 : Nat)) (blk_set (i := 0) (.int .i64 (p0 : Nat)) HB1c)))
      have hEf : Ext w ((((wr.setCell ⟨w.heap.size, 0, none⟩ (.int .i64 (p0 : Nat))).setCell ⟨w.heap.size, 1, none⟩ (.int .i64 (p1 : Nat))).setCell ⟨w.heap.size, 2, none⟩ (.int .i64 (p2 : Nat))).setCell ⟨w.heap.size, 3, none⟩ (.int .i64 (p3 : Nat))) :=
        (((HE.out.setNew (Nat.le_refl _) _).setNew (Nat.le_refl _) _).setNew (Nat.le_refl _) _).setNew (Nat.le_refl _) _
      have HFin := Lib.hid (And.intro hfin hEf); clear hfin hEf HB1c
      have HGe := Lib.hid hge; clear hge
      go_wp2
      refine bodyPost_ret (res_cell rfl rfl (HFin.out.1) (by kernel_rfl) (by kernel_rfl)) rfl ?_
      exact ⟨p0, p1, p2, p3, by rw [HWant.out, ← HGe.out]; rfl, rfl, HFin.out.2⟩
end Go.Proofs.YtiopahkigbdmcaaGreat
/- The program's strong sum (layer 6): that it answers: the walks. -/
namespace Go.Proofs.YtiopahkigbdmcaaGreat
open Go Go.Proofs Go.RowKit

/-- A sum, whatever it is. -/
def SumTold (w : World) (e : Ending) (w' : World) : Prop := ∃ h l : Int, e = .returned (.agg #[.int .u64 h, .int .u64 l]) ∧ Ext w w'
theorem and29' : bits BinOp.and IntKind.u64 29 63 = 29 := by decide
theorem and41' : bits BinOp.and IntKind.u64 41 63 = 41 := by decide
set_option maxRecDepth 100000 in
theorem rotl_29' (x : Int) (w : World) :
    Calls Tryz.prog 126 #[.int .u64 x, .int .i64 29] w (fun e w' => ∃ z, e = .returned (.int .u64 z) ∧ w = w') := by
  have a29 := and29'
  go_enter Tryz.func126, Tryz.ntmps126
  go_wp2
  go_ret
  exact ⟨_, rfl, rfl⟩
set_option maxRecDepth 100000 in
theorem rotl_41' (x : Int) (w : World) :
    Calls Tryz.prog 126 #[.int .u64 x, .int .i64 41] w (fun e w' => ∃ z, e = .returned (.int .u64 z) ∧ w = w') := by
  have a41 := and41'
  go_enter Tryz.func126, Tryz.ntmps126
  go_wp2
  go_ret
  exact ⟨_, rfl, rfl⟩
set_option maxHeartbeats 1000000 in
set_option maxRecDepth 100000 in
theorem mroundW (hi lo x : Int) (w : World) :
    Calls Tryz.prog 105 #[.agg #[.int .u64 hi, .int .u64 lo], .int .u64 x] w (SumTold w) := by
  have T29 := Lib.hid rotl_29'
  have T41 := Lib.hid rotl_41'
  go_enter Tryz.func105, Tryz.ntmps105
  go_wp2
  refine wp_draw_stages 26 10 [false, false, false, false, false, false, false, false, true, true] [([true, true, true, true, true, false, true, true], 5)] Ext Ext.refl (fun _ _ _ => Ext.trans) (by kernel_rfl) (by kernel_rfl) ?_
  apply wpStages_cons (by simp)
  · intro w1 hw1
    simp only [sel_true, sel_false, sel_nil]
    have hc := fun o => hw1.cell (b := w.heap.size) (o := o) (by simp; omega)
    repeat ((with_reducible refine wpStill_step (fun K hK => ?_)); go_simp; refine hK _ ?_; clear hK K)
    exact wpStill_nil rfl
  try simp only [List.getD_cons_succ, List.getD_cons_zero]
  go_wp2_with (go_at_call 126; refine (T29.out _ _).mono ?_; rintro e w' ⟨z1, rfl, rfl⟩)
  refine ⟨Ext.refl _, ?_⟩
  refine wpStages_nil ?_
  simp only [sel_true, sel_false, sel_nil]
  repeat ((with_reducible refine wpStill_step (fun K hK => ?_)); go_simp; refine hK _ ?_; clear hK K)
  refine wpStill_nil ?_
  try simp only [List.drop_succ_cons, List.drop_zero]
  go_wp2
  refine wp_draw_stages 26 10 [false, false, false, false, false, false, false, false, true, true] [([true, true, true, true, true, false, true, true], 5)] Ext Ext.refl (fun _ _ _ => Ext.trans) (by kernel_rfl) (by kernel_rfl) ?_
  apply wpStages_cons (by simp)
  · intro w1 hw1
    simp only [sel_true, sel_false, sel_nil]
    have hc := fun o => hw1.cell (b := w.heap.size) (o := o) (by simp; omega)
    repeat ((with_reducible refine wpStill_step (fun K hK => ?_)); go_simp; refine hK _ ?_; clear hK K)
    exact wpStill_nil rfl
  try simp only [List.getD_cons_succ, List.getD_cons_zero]
  go_wp2_with (go_at_call 126; refine (T41.out _ _).mono ?_; rintro e w' ⟨z2, rfl, rfl⟩)
  refine ⟨Ext.refl _, ?_⟩
  refine wpStages_nil ?_
  simp only [sel_true, sel_false, sel_nil]
  repeat ((with_reducible refine wpStill_step (fun K hK => ?_)); go_simp; refine hK _ ?_; clear hK K)
  refine wpStill_nil ?_
  try simp only [List.drop_succ_cons, List.drop_zero]
  go_wp2
  refine bodyPost_ret (res_cell rfl rfl ((by refine blk_drew ?_; refine blk_drew ?_; exact heap_at _ _ (by simp))) (by kernel_rfl) (by kernel_rfl)) rfl ?_
  exact ⟨_, _, rfl, (((Ext.refl w).alloc _).alloc _).drew.drew⟩
set_option maxRecDepth 100000 in
theorem mstartW (w : World) : Calls Tryz.prog 140 #[] w (SumTold w) := by
  go_enter Tryz.func140, Tryz.ntmps140
  go_wp2
  refine bodyPost_ret (res_cell rfl rfl ((heap_new w _)) (by kernel_rfl) (by kernel_rfl)) rfl ?_
  exact ⟨_, _, rfl, (Ext.refl w).alloc _⟩
def byteC (x : Int) : List Value := [.int .u8 x]
theorem byteC_len (x : Int) : (byteC x).length = 1 := rfl
abbrev BytesL := ListAt byteC 5 1
abbrev OwnB := OwnL byteC 5 1
set_option maxHeartbeats 1000000 in
set_option maxRecDepth 100000 in
theorem mwordW (a : Option Addr) (l : List Int) (c : Nat) (w : World) (hl : l.length ≤ 8) (hb : BytesL w a l) :
    Calls Tryz.prog 125 #[.slice a l.length c] w (fun e w' => ∃ z, e = .returned (.int .u64 z) ∧ w = w') := by
  have HB := Lib.hid hb; clear hb
  obtain ⟨n, hn⟩ : ∃ n, l.length = n := ⟨_, rfl⟩
  rw [hn] at hl ⊢
  have HN := Lib.hid hn; clear hn
  go_enter Tryz.func125, Tryz.ntmps125
  go_wp2
  go_loop [3, 8] (fun v i => ∃ k : Nat, k ≤ n ∧ i = .int .i64 k ∧ ∃ z, v = .int .u64 z) (fun _ i => n - (intOf i).toNat)
  case atStart => exact ⟨0, Nat.zero_le _, rfl, 0, rfl⟩
  case round =>
    obtain ⟨k, hk, rfl, z, rfl⟩ := hrel
    by_cases hlt : k < n
    · have hkl : k < l.length := by rw [HN.out]; exact hlt
      obtain ⟨b, off, rfl, hb, hall⟩ := ListAt.block HB.out hkl
      have c0 := hall 0 _ rfl
      rw [Nat.mul_one, Nat.add_zero] at c0
      obtain ⟨y, hy⟩ : ∃ y, l[k] = y := ⟨_, rfl⟩
      rw [hy] at c0
      clear hy hb hall
      go_wp2
      go_round
      case rel => exact ⟨k + 1, by omega, by go_num, _, rfl⟩
      case measure => simp [intOf]; omega
    · obtain rfl : k = n := by omega
      go_wp2
      go_ret
      exact ⟨⟨z, rfl⟩, rfl⟩
theorem byte_info : ∃ i, Tryz.prog.info? 5 = some i ∧ i.zero = some (.int .u8 0) ∧ i.size = 1 ∧ i.bytes = 1 := info_parts (by kernel_rfl)
theorem bytes_append {ops : Array Oper} {rest : List Oper} {o : Oper} {a : Act} {Q : Exit → Act → World → Prop} {w : World} (hgd : o.guard = none) (s x : Operand)
    (ho : o.op = .call { callee := .builtin .append, args := #[s, x], argTypes := #[105, 105] })
    (w0 : World) (v : Value) (L : List Int) (hs : a.eval s = v) (hO : OwnB w0 v L w)
    (b off c m : Nat) (M : List Int) (hm : m = M.length) (hx : a.eval x = .slice (some ⟨b, off, none⟩) m c) (hM : BytesL w (some ⟨b, off, none⟩) M) (h63 : L.length + M.length ≤ 100000)
    (h : ∀ v' w', OwnB w0 v' (L ++ M) w' → Below w0.heap.size w w' → wpList Tryz.prog ops Q rest (a.put o.dst v') w') : wpList Tryz.prog ops Q (o :: rest) a w := by
  obtain ⟨i, h1, h2, h3, h4⟩ := byte_info
  exact wpList_append_B hgd s x 105 ho byteC_len i (.int .u8 0) 1 (by kernel_rfl) h1 h2 h3 h4 rfl (by decide) w0 v L hs hO ⟨b, off, none⟩ c m M hm hx (hM.flat byteC_len (by decide)) (fun y _ u hu => by simp only [byteC, List.mem_singleton] at hu; subst hu; rfl) (by omega) (by decide) h
theorem bytes_append_none {ops : Array Oper} {rest : List Oper} {o : Oper} {a : Act} {Q : Exit → Act → World → Prop} {w : World} (hgd : o.guard = none) (s x : Operand)
    (ho : o.op = .call { callee := .builtin .append, args := #[s, x], argTypes := #[105, 105] })
    (w0 : World) (v : Value) (L : List Int) (hs : a.eval s = v) (hO : OwnB w0 v L w) (hx : a.eval x = .slice none 0 0)
    (h : wpList Tryz.prog ops Q rest (a.put o.dst v) w) : wpList Tryz.prog ops Q (o :: rest) a w := by
  obtain ⟨i, h1, h2, h3, h4⟩ := byte_info
  exact wpList_append_own_none hgd s x 105 ho _ 5 i 1 (by kernel_rfl) h1 v _ _ hs hO.2 hx h

/-- A hash in memory. -/
abbrev hBlk (hi lo : Int) (begun : Bool) (left : Value) (n : Int) : Obj := .cells #[.int .u64 hi, .int .u64 lo, .bool begun, left, .int .i64 n] 145
set_option maxHeartbeats 1000000 in
set_option maxRecDepth 100000 in
theorem beginW (b : Nat) (hi lo : Int) (bg : Bool) (L : Value) (n : Int) (w : World) (h : w.heap[b]? = some (hBlk hi lo bg L n)) :
    Calls Tryz.prog 124 #[.pointer (some ⟨b, 0, none⟩)] w (fun e w' => (∃ v, e = .returned v) ∧ (∃ hi' lo', w'.heap[b]? = some (hBlk hi' lo' true L n)) ∧ Off b w w') := by
  have S := Lib.hid mstartW
  have hl := blk_lt h
  have hc : ∀ o, w.cell? ⟨b, o, none⟩ = _ := fun o => (Ext.refl w).cellsOf h o
  have H := Lib.hid h; clear h
  cases bg
  · go_enter Tryz.func124, Tryz.ntmps124
    go_wp2_with (go_at_call 140; refine (S.out _).mono ?_; rintro e w1 ⟨z1, z2, rfl, hb1⟩; have hc1 := Ext.cellsOf hb1 H.out; have hf1 := Ext.freeOf hb1 H.out; have hl1 := Ext.blt hb1 H.out; have hE := Lib.hid hb1; clear hb1)
    go_end0
    exact ⟨⟨_, rfl⟩, ⟨_, _, blk_set _ (blk_set _ (blk_set _ (Ext.block hE.out H.out)))⟩, Off.setCell (Off.setCell (Off.setCell (Off.of_ext hE.out) _ _) _ _) _ _⟩
  · go_enter Tryz.func124, Tryz.ntmps124
    go_wp2
    go_end0
    exact ⟨⟨_, rfl⟩, ⟨_, _, H.out⟩, Off.refl _ _⟩
end Go.Proofs.YtiopahkigbdmcaaGreat
/- The program's strong sum (layer 6), what is written: the walk. -/
namespace Go.Proofs.YtiopahkigbdmcaaGreat
open Go Go.Proofs Go.RowKit

theorem BytesL.off {w w' : World} {b g off : Nat} {l : List Int} (h : BytesL w (some ⟨g, off, none⟩) l) (hO : Off b w w') (hg : g ≠ b) : BytesL w' (some ⟨g, off, none⟩) l := by
  rcases h with h | ⟨g', off', cs, fz, ha, hb, hall⟩
  · exact Or.inl h
  · injection ha with ha
    injection ha with h1 h2
    subst h1 h2
    exact Or.inr ⟨g, off, cs, fz, rfl, hO.block hb hg, hall⟩
theorem OwnL.away {α : Type} {f : α → List Value} {T : TypeId} {n : Nat} {w0 w : World} {a : Option Addr} {m c : Nat} {L : List α} (h : OwnL f T n w0 (.slice a m c) L w) (x : Addr) (hx : a = some x) : w0.heap.size ≤ x.block := by
  obtain ⟨_, _, ⟨hv, _⟩ | ⟨g, cap, cur, hv, hg, _⟩⟩ := h
  · simp only [Value.slice.injEq] at hv
    rw [hv.1] at hx
    cases hx
  · simp only [Value.slice.injEq] at hv
    rw [hv.1] at hx
    injection hx with hx
    rw [← hx]
    exact hg
/-- Bytes that are still to be summed, away from block b. -/
def RestB (b : Nat) (w : World) (v : Value) (l : List Int) : Prop := ∃ a c, v = .slice a l.length c ∧ l.length ≤ c ∧ BytesL w a l ∧ (∀ x, a = some x → x.block ≠ b)
theorem RestB.keep {b : Nat} {w w' : World} {a : Option Addr} {l : List Int} (h : BytesL w a l) (hO : Off b w w') (hab : ∀ x, a = some x → x.block ≠ b) : BytesL w' a l := by
  rcases h with h | ⟨g, off, cs, fz, rfl, hb, hall⟩
  · exact Or.inl h
  · exact Or.inr ⟨g, off, cs, fz, rfl, hO.block hb (hab _ rfl), hall⟩
/-- A hash in memory, and what it has left. -/
def HashAt (b : Nat) (w : World) : Prop := ∃ hi lo v n l, w.heap[b]? = some (hBlk hi lo true v n) ∧ RestB b w v l ∧ l.length < 8
set_option maxHeartbeats 4000000 in
set_option maxRecDepth 100000 in
theorem writeW (b : Nat) (a : Option Addr) (l : List Int) (c : Nat) (hi lo : Int) (w : World) (hB : w.heap[b]? = some (hBlk hi lo false (.slice none 0 0) 0)) (hl : l.length ≤ 100000) (hA : BytesL w a l) (hc : l.length ≤ c) (ha : (a = none ∧ c = 0) ∨ ∃ g off, a = some ⟨g, off, none⟩ ∧ g ≠ b) :
    Calls Tryz.prog 101 #[.pointer (some ⟨b, 0, none⟩), .slice a l.length c] w (fun e w' => (∃ v, e = .returned v) ∧ HashAt b w' ∧ Off b w w') := by
  have HBG := Lib.hid (beginW b hi lo false (.slice none 0 0) 0 w hB)
  have HA := Lib.hid (And.intro hA ha); clear hA ha hB
  obtain ⟨n, hn⟩ : ∃ n, l.length = n := ⟨_, rfl⟩
  rw [hn] at hl hc ⊢
  have HN := Lib.hid hn; clear hn
  have HW := Lib.hid (fun a l c w hl hb => mwordW a l c w hl hb)
  have HR := Lib.hid (fun hi lo x w => mroundW hi lo x w)
  go_enter Tryz.func101, Tryz.ntmps101
  go_wp2_with fail
  refine HBG.out.mono ?_
  rintro e w1 ⟨⟨v1, rfl⟩, ⟨hi1, lo1, hB1⟩, hO1⟩
  have hb1 := blk_lt hB1
  have c0 := blk_cell hB1 (i := 0) rfl
  have c1 := blk_cell hB1 (i := 1) rfl
  have c2 := blk_cell hB1 (i := 2) rfl
  have c3 := blk_cell hB1 (i := 3) rfl
  have c4 := blk_cell hB1 (i := 4) rfl
  have f4 : w1.frozen? ⟨b, 4, none⟩ = false := blk_free hB1
  have HB1 := Lib.hid hB1; clear hB1
  have HO1 := Lib.hid hO1; clear hO1
  go_upto_region 3 with fail
  have hB2 : (w1.setCell ⟨b, 4, none⟩ (.int .i64 n)).heap[b]? = some (hBlk hi1 lo1 true (.slice none 0 0) n) := blk_set _ HB1.out
  have hO2 : Off b w (w1.setCell ⟨b, 4, none⟩ (.int .i64 n)) := HO1.out.setCell _ _
  obtain ⟨w2, hw2⟩ : ∃ w2, w1.setCell ⟨b, 4, none⟩ (.int .i64 n) = w2 := ⟨_, rfl⟩
  rw [hw2] at hB2 hO2 ⊢
  clear hw2 c0 c1 c2 c3 c4 f4
  have hb2 := blk_lt hB2
  have c3 := blk_cell hB2 (i := 3) rfl
  have HB2 := Lib.hid hB2; clear hB2
  have HO2 := Lib.hid hO2; clear hO2
  go_cut [4] (fun v w' => RestB b w' v l ∧ Ext w2 w')
  case first =>
    rcases HA.out.2 with ⟨rfl, rfl⟩ | ⟨g, off, rfl, hgb⟩
    · obtain rfl : n = 0 := by omega
      have c3' : (w2.alloc (.cells #[] 5)).cell? ⟨b, 3, none⟩ = some (.slice none 0 0) := blk_cell (blk_alloc _ HB2.out) rfl
      go_wp2
      go_meet
      refine ⟨⟨some ⟨w2.heap.size, 0, none⟩, 0, by rw [HN.out], by rw [HN.out]; exact Nat.le_refl _, Or.inl (List.eq_nil_of_length_eq_zero HN.out), fun x hx => ?_⟩, (Ext.refl w2).alloc _⟩
      injection hx with hx
      rw [← hx]
      show w2.heap.size ≠ b
      omega
    · have hAB := HA.out.1.off HO2.out hgb
      have HAB := Lib.hid hAB; clear hAB
      have c3' : (w2.alloc (.cells #[] 5)).cell? ⟨b, 3, none⟩ = some (.slice none 0 0) := blk_cell (blk_alloc _ HB2.out) rfl
      have hlen : ([] : List Int).length + l.length ≤ 100000 := by rw [HN.out, List.length_nil]; omega
      go_wp2_with (first
        | (at_builtin; refine bytes_append_none rfl _ _ rfl w2 _ ([] : List Int) rfl (OwnL.empty (Ext.refl w2)) rfl ?_)
        | (at_builtin; refine bytes_append rfl _ _ rfl w2 _ ([] : List Int) rfl (OwnL.empty (Ext.refl w2)) g off _ _ l HN.out.symm rfl (HAB.out.ext ((Ext.refl w2).alloc _)) hlen ?_; intro v' w' hown hBw; obtain ⟨av, cv, rfl, hcv⟩ := hown.slice))
      go_meet
      exact ⟨⟨av, cv, rfl, hcv, hown.done byteC_len, fun x hx => by have := hown.away x hx; omega⟩, hown.1⟩
  case rest =>
    obtain ⟨hrest, hEc⟩ := hcut
    have hbc := hEc.block HB2.out
    have hO := HO2.out.trans (Off.of_ext hEc)
    have HO := Lib.hid hO; clear hO
    have HRest := Lib.hid hrest; clear hrest
    have HBc := Lib.hid hbc; clear hbc
    go_wp2_with fail
    go_loopw [4] (fun v w' => ∃ l', RestB b w' v l' ∧ l'.length ≤ 100000 ∧ (∃ hi lo, w'.heap[b]? = some (hBlk hi lo true (.slice none 0 0) n)) ∧ Off b w w') (fun v _ => match v with | .slice _ m _ => m | _ => 0)
    case atStart => exact ⟨l, HRest.out, by rw [HN.out]; exact hl, ⟨_, _, HBc.out⟩, HO.out⟩
    case round =>
      obtain ⟨l', ⟨a', c', rfl, hlc, hBl, hab⟩, hl5, ⟨hi3, lo3, hbr⟩, hOr⟩ := hrel
      have hbs := blk_lt hbr
      have HBl := Lib.hid hBl; clear hBl
      have HAb := Lib.hid hab; clear hab
      have HOr := Lib.hid hOr; clear hOr
      obtain ⟨m, hm⟩ : ∃ m, l'.length = m := ⟨_, rfl⟩
      rw [hm] at hlc hl5 ⊢
      have HM := Lib.hid hm; clear hm
      have c0 := blk_cell hbr (i := 0) rfl
      have c1 := blk_cell hbr (i := 1) rfl
      have c2 := blk_cell hbr (i := 2) rfl
      have c3 := blk_cell hbr (i := 3) rfl
      have c4 := blk_cell hbr (i := 4) rfl
      have HBr := Lib.hid hbr; clear hbr
      by_cases h8 : 8 ≤ m
      · have h8i : (8 : Int) ≤ m := by omega
        have h8c : 8 ≤ c' := by omega
        have h8ci : (8 : Int) ≤ (c' : Int) := by omega
        obtain ⟨g, off, rfl, hgl, -⟩ := ListAt.block HBl.out (i := 0) (by rw [HM.out]; omega)
        have hgb : g ≠ b := HAb.out _ rfl
        have ht8 : (l'.take 8).length = 8 := by rw [List.length_take, HM.out]; omega
        have hW := fun w' (h : Ext wr w') => HW.out (some ⟨g, off, none⟩) (l'.take 8) c' w' (by rw [ht8]; exact Nat.le_refl _) ((HBl.out.take 8).ext h)
        rw [ht8] at hW
        have HW8 := Lib.hid hW; clear hW
        go_upto_region 5 with fail
        refine wp_draw_stages 46 11 [false, false, false, false, false, false, false, false, false, true, true] [([true, true, true, true, true, true, true], 7), ([], 8)] Ext Ext.refl (fun _ _ _ => Ext.trans) (by kernel_rfl) (by kernel_rfl) ?_
        apply wpStages_cons (by simp)
        · intro w1 hw1
          simp only [sel_true, sel_nil]
          have e0 := (hw1.cell (x := wr.drew) (o := 0) hbs).trans c0; have e1 := (hw1.cell (x := wr.drew) (o := 1) hbs).trans c1
          repeat ((with_reducible refine wpStill_step (fun K hK => ?_)); go_simp; refine hK _ ?_; clear hK K)
          exact wpStill_nil rfl
        try simp only [List.getD_cons_succ, List.getD_cons_zero]
        go_wp2_with (go_at_call 125; refine (HW8.out _ (Ext.refl wr).drew).mono ?_; rintro e w5 ⟨z5, rfl, rfl⟩)
        refine ⟨Ext.refl _, ?_⟩
        apply wpStages_cons (by simp)
        · intro w1 hw1
          simp only [sel_nil]
          repeat ((with_reducible refine wpStill_step (fun K hK => ?_)); go_simp; refine hK _ ?_; clear hK K)
          exact wpStill_nil rfl
        try simp only [List.getD_cons_succ, List.getD_cons_zero]
        go_wp2_with (go_at_call 105; refine (HR.out _ _ _ _).mono ?_; rintro e w6 ⟨h6, l6, rfl, hE6⟩; have hE6 : Ext wr.drew w6 := hE6)
        refine ⟨hE6, ?_⟩
        have e0 := (hE6.cell (x := wr.drew) (o := 0) hbs).trans c0
        have e1 := (hE6.cell (x := wr.drew) (o := 1) hbs).trans c1
        have hE6' : Ext wr w6 := Ext.trans (Ext.refl wr).drew hE6
        have hB6 := hE6'.block HBr.out
        have f0 : ∀ i, w6.frozen? ⟨b, i, none⟩ = false := fun i => blk_free hB6
        have hB7 := blk_set (i := 1) (.int .u64 l6) (blk_set (i := 0) (.int .u64 h6) hB6)
        have hO7 : Off b wr ((w6.setCell ⟨b, 0, none⟩ (.int .u64 h6)).setCell ⟨b, 1, none⟩ (.int .u64 l6)) := ((Off.of_ext hE6').setCell _ _).setCell _ _
        have H7 := Lib.hid (And.intro hB7 hO7); clear hB7 hO7 hB6
        refine wpStages_nil ?_
        simp only [sel_true, sel_false, sel_nil]
        repeat ((with_reducible refine wpStill_step (fun K hK => ?_)); go_simp; refine hK _ ?_; clear hK K)
        refine wpStill_nil ?_
        try simp only [List.drop_succ_cons, List.drop_zero]
        by_cases hc8 : c' = 8
        · obtain rfl : m = 8 := by omega
          subst hc8
          go_wp2
          refine ⟨⟨[], ⟨_, _, rfl, Nat.le_refl _, Or.inl rfl, HAb.out⟩, Nat.zero_le _, ⟨_, _, H7.out.1⟩, HOr.out.trans H7.out.2⟩, by simp⟩
        · have hd8 : (l'.drop 8).length = m - 8 := by rw [List.length_drop, HM.out]
          go_wp2
          refine ⟨⟨l'.drop 8, ⟨_, _, by rw [hd8], by rw [hd8]; omega, BytesL.off (by have h := ListAt.drop 8 HBl.out; rw [Nat.mul_one] at h; exact h) H7.out.2 hgb, fun x hx => by injection hx with hx; rw [← hx]; exact hgb⟩, by rw [hd8]; omega, ⟨_, _, H7.out.1⟩, HOr.out.trans H7.out.2⟩, by show m - 8 < m; omega⟩
      · have h8i : ¬ (8 : Int) ≤ m := by omega
        have f3 : wr.frozen? ⟨b, 3, none⟩ = false := blk_free HBr.out
        have hBf := blk_set (i := 3) (.slice a' m c') HBr.out
        have hOf : Off b wr (wr.setCell ⟨b, 3, none⟩ (.slice a' m c')) := (Off.refl b wr).setCell _ _
        have HF := Lib.hid (And.intro hBf hOf); clear hBf hOf
        go_wp2
        go_end0
        exact ⟨⟨_, rfl⟩, ⟨_, _, _, _, l', HF.out.1, ⟨a', c', by rw [HM.out], by rw [HM.out]; exact hlc, RestB.keep HBl.out HF.out.2 HAb.out, HAb.out⟩, by rw [HM.out]; omega⟩, HOr.out.trans HF.out.2⟩
end Go.Proofs.YtiopahkigbdmcaaGreat
/- The program's strong sum (layer 6), what it comes to: that it answers: the walks. -/
namespace Go.Proofs.YtiopahkigbdmcaaGreat
open Go Go.Proofs Go.RowKit

theorem idx4u (i : Int) (a b c d : Value) (w : World) (v : Value) (h1 : 0 ≤ i ∧ i < 4) (h2 : #[a, b, c, d][i.toNat]? = some v) : (Instr.index 169 (.agg #[a, b, c, d]) (.int .i64 i)).run Tryz.prog w = .ok v w := by
  have h : Tryz.prog.underlying 169 = some (.array 4 56) := by kernel_rfl
  simp [Instr.index, run_underlying h, asIntOf, h1, go_sem]
  have h3 : [a, b, c, d][i.toNat]? = some v := by simpa using h2
  exact (List.getElem?_eq_some_iff.1 h3).2
def SumOff (b : Nat) (w : World) (e : Ending) (w' : World) : Prop := ∃ h l : Int, e = .returned (.agg #[.int .u64 h, .int .u64 l]) ∧ Off b w w'
theorem Off.of_new {b s : Nat} {x y z : World} (h : Ext x y) (k : Off s y z) (hs : x.heap.size ≤ s) : Off b x z := Off.of_ext ⟨k.os.trans h.os, k.tape.trans h.tape, k.output.trans h.output, Nat.le_trans h.size k.size, fun i hi => (Only.block k i (Nat.lt_of_lt_of_le hi h.size) (by omega)).trans (Below.block h i hi)⟩
theorem Off.new_trans {b s : Nat} {x y z : World} (h : Off b x y) (k : Off s y z) (hs : x.heap.size ≤ s) : Off b x z :=
  ⟨k.os.trans h.os, k.tape.trans h.tape, k.output.trans h.output, Nat.le_trans h.size k.size, fun i hi hb => (Only.block k i (Nat.lt_of_lt_of_le hi h.size) (by omega)).trans (Only.block h i hi hb)⟩
theorem Off.setNew {b r i : Nat} {x y : World} (h : Off b x y) (hr : x.heap.size ≤ r) (v : Value) : Off b x (y.setCell ⟨r, i, none⟩ v) :=
  h.new_trans ((Off.refl r y).setCell _ _) hr
set_option maxHeartbeats 4000000 in
set_option maxRecDepth 100000 in
theorem sumW (b : Nat) (w : World) (hH : HashAt b w) : Calls Tryz.prog 102 #[.pointer (some ⟨b, 0, none⟩)] w (SumOff b w) := by
  obtain ⟨hi, lo, v, n, l, hB, ⟨a, c, rfl, hlc, hA, hab⟩, hl8⟩ := hH
  have HW := Lib.hid (fun a l c w hl hb => mwordW a l c w hl hb)
  have HR := Lib.hid (fun hi lo x w => mroundW hi lo x w)
  have hb := blk_lt hB
  obtain ⟨m, hm⟩ : ∃ m, l.length = m := ⟨_, rfl⟩
  rw [hm] at hB hlc hl8
  have HBG := Lib.hid (fun w' (h : w'.heap[b]? = _) => beginW b hi lo true (.slice a m c) n w' h)
  have HB := Lib.hid hB; clear hB
  have HA := Lib.hid hA; clear hA
  have HM := Lib.hid hm; clear hm
  go_enter Tryz.func102, Tryz.ntmps102
  go_wp2_with fail
  refine (HBG.out _ (blk_alloc _ HB.out)).mono ?_
  rintro e w1 ⟨⟨v1, rfl⟩, ⟨hi1, lo1, hB1⟩, hO1⟩
  have hR1 : w1.heap[w.heap.size]? = some (.cells #[.int .u64 0, .int .u64 0] 81 (0, 0)) := hO1.block (heap_new w _) (by omega)
  have hO1' : Off b w w1 := (Off.alloc (Off.refl b w) _).trans hO1
  have hA1 := RestB.keep HA.out hO1' hab
  have hb1 := blk_lt hB1
  have hr1 := blk_lt hR1
  have c0 := blk_cell hB1 (i := 0) rfl
  have c1 := blk_cell hB1 (i := 1) rfl
  have c3 := blk_cell hB1 (i := 3) rfl
  have H1 := Lib.hid (And.intro hB1 (And.intro hR1 (And.intro hO1' hA1))); clear hB1 hR1 hO1 hO1' hA1
  go_upto_region 5 with fail
  obtain ⟨w2, hw2⟩ : ∃ w2, w1.alloc (.cells #[.int .u64 hi1, .int .u64 lo1] 143) = w2 := ⟨_, rfl⟩
  have hE2 : Ext w1 w2 := by rw [← hw2]; exact (Ext.refl w1).alloc _
  have hS2 : w2.heap[w1.heap.size]? = some (.cells #[.int .u64 hi1, .int .u64 lo1] 143 (0, 0)) := by rw [← hw2]; exact heap_new w1 _
  rw [hw2]
  have hs2 := blk_lt hS2
  have d3 := (hE2.cell (o := 3) hb1).trans c3
  have H2 := Lib.hid (And.intro hE2 hS2); clear hE2 hS2 hw2 c0 c1 c3
  go_upto_if 20 with fail
  go_cut [27] (fun _ w' => (∃ h z, w'.heap[w1.heap.size]? = some (.cells #[.int .u64 h, .int .u64 z] 143 (0, 0))) ∧ Off w1.heap.size w2 w')
  case first =>
    by_cases hm0 : (0 : Int) < m
    · have hA2 := H1.out.2.2.2.ext H2.out.1
      have hW := HW.out a l c w2.drew (by rw [HM.out]; omega) (ListAt.ext hA2 (Ext.refl w2).drew)
      rw [HM.out] at hW
      have HW2 := Lib.hid hW; clear hW hA2
      have s0 := blk_cell H2.out.2 (i := 0) rfl
      have s1 := blk_cell H2.out.2 (i := 1) rfl
      have hb2 : b < w2.heap.size := Nat.lt_of_lt_of_le hb1 H2.out.1.size
      go_upto_region 6 with fail
      refine wp_draw_stages 42 7 [] [([true, true, true, true, true], 5), ([], 6)] Ext Ext.refl (fun _ _ _ => Ext.trans) (by kernel_rfl) (by kernel_rfl) ?_
      apply wpStages_cons (by simp)
      · intro w1 hw1
        simp only [sel_true, sel_nil]
        have e0 := (hw1.cell (x := w2.drew) (o := 0) hs2).trans s0; have e1 := (hw1.cell (x := w2.drew) (o := 1) hs2).trans s1; have e3 := (hw1.cell (x := w2.drew) (o := 3) hb2).trans d3
        repeat ((with_reducible refine wpStill_step (fun K hK => ?_)); go_simp; refine hK _ ?_; clear hK K)
        exact wpStill_nil rfl
      try simp only [List.getD_cons_succ, List.getD_cons_zero]
      go_wp2_with (go_at_call 125; refine (HW2.out).mono ?_; rintro e w5 ⟨z5, rfl, rfl⟩)
      refine ⟨Ext.refl _, ?_⟩
      apply wpStages_cons (by simp)
      · intro w1 hw1
        simp only [sel_nil]
        repeat ((with_reducible refine wpStill_step (fun K hK => ?_)); go_simp; refine hK _ ?_; clear hK K)
        exact wpStill_nil rfl
      try simp only [List.getD_cons_succ, List.getD_cons_zero]
      go_wp2_with (go_at_call 105; refine (HR.out _ _ _ _).mono ?_; rintro e w6 ⟨h6, l6, rfl, hE6⟩; have hE6 : Ext w2.drew w6 := hE6)
      refine ⟨hE6, ?_⟩
      have e0 := (hE6.cell (x := w2.drew) (o := 0) hs2).trans s0
      have e1 := (hE6.cell (x := w2.drew) (o := 1) hs2).trans s1
      have e3 := (hE6.cell (x := w2.drew) (o := 3) hb2).trans d3
      have hE6' : Ext w2 w6 := Ext.trans (Ext.refl w2).drew hE6
      have hB6 := hE6'.block H2.out.2
      have f0 : ∀ i, w6.frozen? ⟨w1.heap.size, i, none⟩ = false := fun i => blk_free hB6
      have hB7 := blk_set (i := 1) (.int .u64 l6) (blk_set (i := 0) (.int .u64 h6) hB6)
      have hO7 : Off w1.heap.size w2 ((w6.setCell ⟨w1.heap.size, 0, none⟩ (.int .u64 h6)).setCell ⟨w1.heap.size, 1, none⟩ (.int .u64 l6)) := ((Off.of_ext hE6').setCell _ _).setCell _ _
      have H7 := Lib.hid (And.intro hB7 hO7); clear hB7 hO7 hB6
      refine wpStages_nil ?_
      simp only [sel_nil]
      repeat ((with_reducible refine wpStill_step (fun K hK => ?_)); go_simp; refine hK _ ?_; clear hK K)
      refine wpStill_nil ?_
      try simp only [List.drop_succ_cons, List.drop_zero]
      go_wp2
      go_meet
      exact ⟨⟨_, _, H7.out.1⟩, H7.out.2⟩
    · go_wp2
      go_meet
      exact ⟨⟨_, _, H2.out.2⟩, Off.refl _ _⟩
  case rest =>
    obtain ⟨⟨h3, z3, hS3⟩, hO3⟩ := hcut
    have hBc := hO3.block (H2.out.1.block H1.out.1) (by omega)
    have hRc := hO3.block (H2.out.1.block H1.out.2.1) (by omega)
    have d4 := blk_cell hBc (i := 4) rfl
    have hOc : Off b w wc := H1.out.2.2.1.trans (Off.of_new H2.out.1 hO3 (Nat.le_refl _))
    have HC := Lib.hid (And.intro hS3 (And.intro hRc hOc)); clear hS3 hRc hOc hO3 hBc
    go_wp2_with fail
    go_loopw [34] (fun i w' => ∃ k : Nat, k ≤ 4 ∧ i = .int .i64 k ∧ (∃ h z, w'.heap[w1.heap.size]? = some (.cells #[.int .u64 h, .int .u64 z] 143 (0, 0))) ∧ Off w1.heap.size wc w') (fun i _ => 4 - (intOf i).toNat)
    case atStart => exact ⟨0, by omega, rfl, ⟨_, _, HC.out.1⟩, Off.refl _ _⟩
    case round =>
      obtain ⟨k, hk, rfl, ⟨h4, z4, hS4⟩, hO4⟩ := hrel
      have hs4 := blk_lt hS4
      have s0 := blk_cell hS4 (i := 0) rfl
      have s1 := blk_cell hS4 (i := 1) rfl
      have HS4 := Lib.hid hS4; clear hS4
      have HO4 := Lib.hid hO4; clear hO4
      by_cases hlt : k < 4
      · obtain ⟨y, hy⟩ : ∃ y, #[Value.int .u64 (IntKind.u64.wrap n), .int .u64 18446744073709551615, .int .u64 0, .int .u64 0][k]? = some (.int .u64 y) := by
          rcases (by omega : k = 0 ∨ k = 1 ∨ k = 2 ∨ k = 3) with rfl | rfl | rfl | rfl <;> exact ⟨_, rfl⟩
        have hix := fun w => idx4u (k : Int) _ _ _ _ w _ (by omega) (by simpa using hy)
        clear hy
        go_wp2_with fail
        refine (HR.out _ _ _ _).mono ?_
        rintro e w6 ⟨h6, l6, rfl, hE6⟩
        have hB6 := hE6.block HS4.out
        have f0 : ∀ i, w6.frozen? ⟨w1.heap.size, i, none⟩ = false := fun i => blk_free hB6
        have g0 := blk_cell hB6 (i := 0) rfl
        have g1 := blk_cell hB6 (i := 1) rfl
        have hB7 := blk_set (i := 1) (.int .u64 l6) (blk_set (i := 0) (.int .u64 h6) hB6)
        have hO7 : Off w1.heap.size wc ((w6.setCell ⟨w1.heap.size, 0, none⟩ (.int .u64 h6)).setCell ⟨w1.heap.size, 1, none⟩ (.int .u64 l6)) := ((HO4.out.trans (Off.of_ext hE6)).setCell _ _).setCell _ _
        have H7 := Lib.hid (And.intro hB7 hO7); clear hB7 hO7 hB6
        go_wp2
        go_roundw
        case rel => exact ⟨k + 1, by omega, by go_num, ⟨_, _, H7.out.1⟩, H7.out.2⟩
        case measure => simp [intOf]; omega
      · obtain rfl : k = 4 := by omega
        have hRr := HO4.out.block HC.out.2.1 (by omega)
        have r0 := blk_cell hRr (i := 0) rfl
        have r1 := blk_cell hRr (i := 1) rfl
        have fr : ∀ i, wr.frozen? ⟨w.heap.size, i, none⟩ = false := fun i => blk_free hRr
        have hB7 := blk_set (i := 1) (.int .u64 z4) (blk_set (i := 0) (.int .u64 h4) hRr)
        have hO7 : Off b w ((wr.setCell ⟨w.heap.size, 0, none⟩ (.int .u64 h4)).setCell ⟨w.heap.size, 1, none⟩ (.int .u64 z4)) :=
          ((HC.out.2.2.new_trans HO4.out (by have := H1.out.2.2.1.size; omega)).setNew (Nat.le_refl _) _).setNew (Nat.le_refl _) _
        have H7 := Lib.hid (And.intro hB7 hO7); clear hB7 hO7 hRr
        go_wp2
        refine bodyPost_ret (res_cell rfl rfl (H7.out.1) (by kernel_rfl) (by kernel_rfl)) rfl ?_
        exact ⟨_, _, rfl, H7.out.2⟩
end Go.Proofs.YtiopahkigbdmcaaGreat
