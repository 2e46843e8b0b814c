/- LotSorted: the plain law, its walk. -/
import Derived.Test.YtckekncllmhohaaGLaw
import Derived.Test.YtckekncllmhohaaQ3
import Derived.Test.YtckekncllmhohaaQ4
import Derived.Test.YtckekncllmhohaaQ4
import Derived.Test.YtckekncllmhohaaQ6
import Derived.BigQuiet
namespace Go.Proofs.Ytckekncllmhohaa.Q
open Go.RowKit Go.Sort Go.Proofs.YtckekncllmhohaaW.PrintWords Go.Proofs.YtckekncllmhohaaW.PrintLast Go.Proofs.YtckekncllmhohaaW.PrintMore Go.Proofs.Ytckekncllmhohaa.G
set_option linter.all false

/-! ### what the helpers answer -/
theorem great_l0 (l : List S25) (hl : l.length ≤ 9223372036854775807) : ∀ (d i : Nat) (x3 : Int) (k : Nat), l.length - i = d → i ≤ l.length → d < k → ∃ r, storemanlaw04_great.l0 k l x3 (i : Int) = some r
  | 0, i, x3, k, hd, hi, hk => by
    obtain ⟨k, rfl⟩ : ∃ m, k = m + 1 := ⟨k - 1, by omega⟩
    simp only [storemanlaw04_great.l0]
    rw [if_neg (by omega)]
    exact ⟨_, rfl⟩
  | d + 1, i, x3, k, hd, hi, hk => by
    obtain ⟨k, rfl⟩ : ∃ m, k = m + 1 := ⟨k - 1, by omega⟩
    simp only [storemanlaw04_great.l0]
    have hw : wrap64 ((i : Int) + 1) = ((i + 1 : Nat) : Int) := by unfold wrap64; omega
    rw [if_pos (show (i : Int) < (l.length : Int) by omega), hw]
    by_cases h4 : x3 ≤ 400
    · rw [if_pos h4, if_pos (show (0 : Int) ≤ (i : Int) by omega)]
      exact great_l0 l hl d (i + 1) _ k (by omega) (by omega) (by omega)
    · rw [if_neg h4]
      exact ⟨_, rfl⟩
theorem great_is (l : List S25) (hl : l.length ≤ 9223372036854775807) (k : Nat) (hk : l.length + 1 ≤ k) : ∃ r, storemanlaw04_great.f k l = some r ∧ (r = false → l.length ≤ 400) := by
  unfold storemanlaw04_great.f
  by_cases h : l.length ≤ 400
  · obtain ⟨r, hr⟩ := great_l0 l hl l.length 0 (l.length : Int) k (by omega) (by omega) (by omega)
    exact ⟨r, hr, fun _ => h⟩
  · obtain ⟨k, rfl⟩ : ∃ m, k = m + 1 := ⟨k - 1, by omega⟩
    simp only [storemanlaw04_great.l0]
    refine ⟨true, ?_, fun h => by cases h⟩
    rw [if_pos (by omega), if_neg (by omega), decide_eq_true (by omega)]
theorem same_l0 (l : List S25) (hl : l.length ≤ 9223372036854775807) : ∀ (d i k : Nat), l.length - i = d → i ≤ l.length → d < k → storemankit_SameLots.l0 k l l (i : Int) = some true
  | 0, i, k, hd, hi, hk => by
    obtain ⟨k, rfl⟩ : ∃ m, k = m + 1 := ⟨k - 1, by omega⟩
    simp only [storemankit_SameLots.l0]
    rw [if_neg (by omega)]
  | d + 1, i, k, hd, hi, hk => by
    obtain ⟨k, rfl⟩ : ∃ m, k = m + 1 := ⟨k - 1, by omega⟩
    simp only [storemankit_SameLots.l0]
    have hw : wrap64 ((i : Int) + 1) = ((i + 1 : Nat) : Int) := by unfold wrap64; omega
    rw [if_pos (show (i : Int) < (l.length : Int) by omega), if_pos (show (0 : Int) ≤ (i : Int) by omega), if_pos (show (i : Int) < (l.length : Int) by omega), hw, if_neg (by simp)]
    exact same_l0 l hl d (i + 1) k (by omega) (by omega) (by omega)
theorem same_is (l : List S25) (hl : l.length ≤ 9223372036854775807) (k : Nat) (hk : l.length + 1 ≤ k) : storemankit_SameLots.f k l l = some true := by
  unfold storemankit_SameLots.f
  rw [if_pos rfl]
  exact same_l0 l hl l.length 0 k (by omega) (by omega) (by omega)
def sameB (x y : S25) : Bool := (x.f0 == y.f0 && (x.f1.toList == y.f1.toList && ((x.f2.f0 == y.f2.f0 && x.f2.f1 == y.f2.f1) && (x.f3 == y.f3 && x.f4 == y.f4))))
def cnt (l : List S25) (y : S25) : Nat := (l.filter fun x => sameB x y).length
theorem count_l0 (l : List S25) (y : S25) (hl : l.length ≤ 9223372036854775807) : ∀ (d i n k : Nat), l.length - i = d → i ≤ l.length → n + d ≤ l.length → d < k →
    storemanlaw04_count.l0 k l (n : Int) (i : Int) y.f0 y.f1 y.f2.f0 y.f2.f1 y.f3 y.f4 = some ((n + cnt (l.drop i) y : Nat) : Int)
  | 0, i, n, k, hd, hi, hn, hk => by
    obtain ⟨k, rfl⟩ : ∃ m, k = m + 1 := ⟨k - 1, by omega⟩
    simp only [storemanlaw04_count.l0]
    rw [if_neg (by omega), List.drop_of_length_le (by omega)]
    rfl
  | d + 1, i, n, k, hd, hi, hn, hk => by
    obtain ⟨k, rfl⟩ : ∃ m, k = m + 1 := ⟨k - 1, by omega⟩
    simp only [storemanlaw04_count.l0]
    have hw : wrap64 ((i : Int) + 1) = ((i + 1 : Nat) : Int) := by unfold wrap64; omega
    have hw2 : wrap64 ((n : Int) + 1) = ((n + 1 : Nat) : Int) := by unfold wrap64; omega
    rw [if_pos (by omega), if_pos (by omega), hw, hw2]
    have hx : rd_T25 l (i : Int) = l.getD i z25 := rfl
    rw [hx, rd_drop l z25 i (by omega)]
    generalize l.getD i z25 = x
    change (if sameB x y = true then _ else _) = _
    by_cases hs : sameB x y = true
    · rw [if_pos hs, count_l0 l y hl d (i + 1) (n + 1) k (by omega) (by omega) (by omega) (by omega)]
      have : cnt (x :: l.drop (i + 1)) y = cnt (l.drop (i + 1)) y + 1 := by unfold cnt; rw [List.filter_cons, if_pos hs]; rfl
      rw [this]
      congr 2
      omega
    · rw [if_neg hs, count_l0 l y hl d (i + 1) n k (by omega) (by omega) (by omega) (by omega)]
      have : cnt (x :: l.drop (i + 1)) y = cnt (l.drop (i + 1)) y := by unfold cnt; rw [List.filter_cons, if_neg hs]
      rw [this]
theorem count_is (l : List S25) (y : S25) (hl : l.length ≤ 9223372036854775807) (k : Nat) (hk : l.length + 1 ≤ k) : storemanlaw04_count.f k l y.f0 y.f1 y.f2.f0 y.f2.f1 y.f3 y.f4 = some ((cnt l y : Nat) : Int) := by
  unfold storemanlaw04_count.f
  have := count_l0 l y hl l.length 0 0 k (by omega) (by omega) (by omega) (by omega)
  simpa using this

/-! ### the law, on lists -/
theorem cnt_perm {l l' : List S25} (h : l.Perm l') (y : S25) : cnt l y = cnt l' y := (h.filter _).length_eq
def sorts (l : List S25) : List S25 := stabl (ltOf lotCmp) l
theorem sorts_sorts (l : List S25) : sorts (sorts l) = sorts l := stabl_stabl lot_swo _
theorem sorts_length (l : List S25) : (sorts l).length = l.length := stabl_length _ _
theorem cnt_sorts (l : List S25) (y : S25) : cnt (sorts l) y = cnt l y := cnt_perm (stabl_perm _ _) y
theorem cmp_neg (x y : S25) : lotCmp y x = - lotCmp x y := by unfold lotCmp; split <;> (try split) <;> (try split) <;> (try split) <;> (try split) <;> (try split) <;> (try split) <;> (try split) <;> omega
theorem cmp_self (x : S25) : lotCmp x x = 0 := by unfold lotCmp; simp
theorem cmp_le {x y : S25} (h : ltOf lotCmp y x = false) : lotCmp x y ≤ 0 := by
  have := of_decide_eq_false h
  rw [cmp_neg x y] at this
  omega
theorem cmp_range (x y : S25) : -1 ≤ lotCmp x y ∧ lotCmp x y ≤ 1 := by unfold lotCmp; split <;> (try split) <;> (try split) <;> (try split) <;> omega
theorem cmp_trans (a b c : S25) : (!(decide (lotCmp a b ≤ 0) && decide (lotCmp b c ≤ 0)) || (decide (lotCmp a c ≤ 0) && (decide (lotCmp a c < 0) || (lotCmp a b == 0 && lotCmp b c == 0)))) = true := by
  simp only [Bool.or_eq_true, Bool.and_eq_true, Bool.not_eq_true', Bool.and_eq_false_iff, decide_eq_true_eq, decide_eq_false_iff_not, beq_iff_eq]
  unfold lotCmp
  split <;> (try split) <;> (try split) <;> (try split) <;> (try split) <;> (try split) <;> (try split) <;> (try split) <;> (try split) <;> (try split) <;> (try split) <;> (try split) <;> omega
theorem sorted_at (l : List S25) (i : Nat) (h : i + 1 < (sorts l).length) : lotCmp ((sorts l).getD i z25) ((sorts l).getD (i + 1) z25) ≤ 0 := by
  have := List.pairwise_iff_getElem.1 (stabl_sorted lot_swo l) i (i + 1) (by unfold sorts at h; omega) h (by omega)
  rw [List.getD_eq_getElem?_getD, List.getD_eq_getElem?_getD, List.getElem?_eq_getElem (by omega), List.getElem?_eq_getElem h]
  exact cmp_le this
theorem cmp_lit (w : World) (x y : S25) : Calls Try.prog 8 #[.agg #[.int .i64 x.f0, .string x.f1, .int .i64 x.f2.f0, .int .i64 x.f2.f1, .int .i64 x.f3, .bool x.f4], .agg #[.int .i64 y.f0, .string y.f1, .int .i64 y.f2.f0, .int .i64 y.f2.f1, .int .i64 y.f3, .bool y.f4]] w fun e w' => e = .returned (.int .i64 (lotCmp x y)) ∧ RowKit.Below w.heap.size w w' := lot_cmp w x y
theorem cmp_reg (w : World) (x y : S25) (n : Nat) (os : Array Obj) : Calls Try.prog 8 #[.agg #[.int .i64 x.f0, .string x.f1, .int .i64 x.f2.f0, .int .i64 x.f2.f1, .int .i64 x.f3, .bool x.f4], .agg #[.int .i64 y.f0, .string y.f1, .int .i64 y.f2.f0, .int .i64 y.f2.f1, .int .i64 y.f3, .bool y.f4]] (grow (redrawn w n) os) fun e w'' => e = .returned (.int .i64 (lotCmp x y)) ∧ ∃ p : Regrown, w'' = grow (redrawn w p.d) p.os := Calls.regrown_of (lot_cmp _ x y)
attribute [local irreducible] Go.Calls
set_option maxHeartbeats 4000000 in
set_option maxRecDepth 100000 in
theorem LotSorted_walk (A0 : Option Addr) (c0 : Nat) (l0 : List S25) (a b c : S25) (w : World) (hr0 : Kd.C k25 w A0 l0.length l0) (hc0 : l0.length ≤ c0) (hl : l0.length ≤ 9223372036854775807) :
    Calls Try.prog 4 #[.slice A0 l0.length c0, .agg #[.int .i64 a.f0, .string a.f1, .int .i64 a.f2.f0, .int .i64 a.f2.f1, .int .i64 a.f3, .bool a.f4], .agg #[.int .i64 b.f0, .string b.f1, .int .i64 b.f2.f0, .int .i64 b.f2.f1, .int .i64 b.f3, .bool b.f4], .agg #[.int .i64 c.f0, .string c.f1, .int .i64 c.f2.f0, .int .i64 c.f2.f1, .int .i64 c.f3, .bool c.f4]] w fun e w' => e = .returned (.bool true) ∧ RowKit.Below w.heap.size w w' := by
  obtain ⟨g, hg, hgl⟩ := great_is l0 hl (l0.length + 1) (Nat.le_refl _)
  have HR0 := Lib.hid hr0
  have HC0 := Lib.hid hc0
  have HL := Lib.hid hl
  have HG := Lib.hid hg
  have HGL := Lib.hid hgl
  clear hr0 hc0 hl hg hgl
  have HBa := Lib.hid (below_alloc (below_alloc (below_alloc (Below.refl w.heap.size w) (Obj.cells #[.int .i64 a.f0, .string a.f1, .int .i64 a.f2.f0, .int .i64 a.f2.f1, .int .i64 a.f3, .bool a.f4] 25)) (Obj.cells #[.int .i64 b.f0, .string b.f1, .int .i64 b.f2.f0, .int .i64 b.f2.f1, .int .i64 b.f3, .bool b.f4] 25)) (Obj.cells #[.int .i64 c.f0, .string c.f1, .int .i64 c.f2.f0, .int .i64 c.f2.f1, .int .i64 c.f3, .bool c.f4] 25))
  go_enter Try.func4, Try.ntmps4
  go_wp2_with fail
  refine (storemanlaw04_awake.calls true _ awake_is).mono ?_
  rintro e w1 ⟨rfl, hb⟩
  have e1 : ∀ o, (w.alloc o).heap.size = w.heap.size + 1 := fun o => by simp
  have e2 : ∀ o o', ((w.alloc o).alloc o').heap.size = w.heap.size + 1 + 1 := fun o o' => by simp
  have hA := blk_below (blk_alloc (blk_alloc (blk_new w (Obj.cells #[.int .i64 a.f0, .string a.f1, .int .i64 a.f2.f0, .int .i64 a.f2.f1, .int .i64 a.f3, .bool a.f4] 25)) _) _) hb
  have hB := blk_below (blk_alloc (blk_new (w.alloc _) (Obj.cells #[.int .i64 b.f0, .string b.f1, .int .i64 b.f2.f0, .int .i64 b.f2.f1, .int .i64 b.f3, .bool b.f4] 25)) _) hb
  have hC := blk_below (blk_new ((w.alloc _).alloc _) (Obj.cells #[.int .i64 c.f0, .string c.f1, .int .i64 c.f2.f0, .int .i64 c.f2.f1, .int .i64 c.f3, .bool c.f4] 25)) hb
  rw [e1] at hB
  rw [e2] at hC
  have hw := below_then HBa.out HBa.out.size hb
  have HW := Lib.hid hw
  have HR1 := Lib.hid (Kd.C_below HR0.out hw)
  have HA := Lib.hid hA
  have HB := Lib.hid hB
  have HC := Lib.hid hC
  clear hb e1 e2 hA hB hC hw HBa HR0
  go_wp2_with fail
  refine (storemanlaw04_great.calls (l0.length + 1) A0 c0 l0 g w1 HR1.out HC0.out HG.out).mono ?_
  rintro e w2 ⟨rfl, ⟨⟨n2, rfl⟩⟩⟩
  have HB2 := Lib.hid (pw_below_drewN (Below.refl w1.heap.size w1) n2)
  generalize hw2 : w1.drewN n2 = w2 at HB2 ⊢
  clear hw2 HG
  cases g with
  | true =>
    go_wp2_with fail
    go_ret
    exact ⟨rfl, below_then HW.out HW.out.size HB2.out⟩
  | false =>
    have HLEN := Lib.hid (HGL.out rfl)
    have HR2 := Lib.hid (Kd.C_below HR1.out HB2.out)
    have hsl := sorts_length l0
    have HSL := Lib.hid hsl
    clear hsl
    have HSTEP := Lib.hid (lot_Sort.calls A0 c0 l0 (sorts l0) w2 HR2.out HC0.out (by unfold lot_Sort.f; rw [if_pos (by have := HLEN.out; omega)]; rfl))
    clear HGL
    go_wp2_with fail
    refine HSTEP.out.mono ?_
    rintro e w3 ⟨vs, rfl, hR, hb⟩
    obtain ⟨As, cs, rfl, hcs, hCs⟩ := Kd.R_reads hR
    have HB3 := Lib.hid (below_then HB2.out HB2.out.size hb)
    have HS3 := Lib.hid hCs
    have HCS := Lib.hid hcs
    clear hR hb hcs hCs HSTEP
    have HSTEP := Lib.hid (lot_Sort.calls As cs (sorts l0) (sorts l0) w3 HS3.out HCS.out (by unfold lot_Sort.f; rw [if_pos (by have := HLEN.out; have := HSL.out; omega)]; exact congrArg some (sorts_sorts l0)))
    have hlz : (((sorts l0).length : Int) != (l0.length : Int)) = false := by rw [HSL.out]; simp
    go_wp2_with fail
    refine HSTEP.out.mono ?_
    rintro e w4 ⟨vt, rfl, hR, hb⟩
    obtain ⟨At, ct, rfl, hct, hCt⟩ := Kd.R_reads hR
    have HB4 := Lib.hid (below_then HB3.out HB3.out.size hb)
    have HS4 := Lib.hid (Kd.C_below HS3.out hb)
    have HSTEP2 := Lib.hid (storemankit_SameLots.calls ((sorts l0).length + 1) At ct (sorts l0) As cs (sorts l0) true w4 hCt hct HS4.out HCS.out (same_is (sorts l0) (by have := HLEN.out; have := HSL.out; omega) _ (Nat.le_refl _)))
    clear hR hb hct hCt HSTEP
    go_wp2_with fail
    refine HSTEP2.out.mono ?_
    rintro e w5 ⟨rfl, ⟨⟨n5, rfl⟩⟩⟩
    have HB5 := Lib.hid (pw_below_drewN HB4.out n5)
    have HS5 := Lib.hid (Kd.C_below HS4.out (pw_below_drewN (Below.refl w4.heap.size w4) n5))
    generalize hw5 : w4.drewN n5 = w5 at HB5 HS5 ⊢
    have HR5 := Lib.hid (Kd.C_below HR1.out HB5.out)
    have HA5 := Lib.hid (blk_below HA.out HB5.out)
    have HBB5 := Lib.hid (blk_below HB.out HB5.out)
    have HC5 := Lib.hid (blk_below HC.out HB5.out)
    have HW5 := Lib.hid (below_then HW.out HW.out.size HB5.out)
    clear hw5 HB2 HB3 HB4 HS3 HS4 HSTEP2 HR1 HA HB HC HW HR2 HB5 hlz
    go_wp2_with fail
    go_loopg [10] (sorts l0).length (fun kx s10 wr => ∃ j : Nat, s10 = .int .i64 j ∧ j ≤ 400 ∧ Hid (j ≤ (sorts l0).length ∧ (sorts l0).length ≤ j + kx) ∧ Hid (Below w5.heap.size w5 wr))
    case atStart => exact ⟨0, rfl, by omega, Lib.hid ⟨Nat.zero_le _, by omega⟩, Below.refl _ _⟩
    case round =>
      obtain ⟨j, rfl, hj4, HJ, HBr⟩ := hrel
      by_cases hj : j < (sorts l0).length
      · have hz : (j : Int) < ((sorts l0).length : Int) := by omega
        obtain ⟨ad, e, q0, q1, q2, q3, q4, q5⟩ := at_T25 (Kd.C_below HS5.out HBr.out) (j : Int) (by omega) (by omega)
        have hx : rd_T25 (sorts l0) (j : Int) = (sorts l0).getD j z25 := rfl
        have hso := sorted_at l0 (j - 1)
        subst e
        have HJJ := Lib.hid hj
        rw [hx] at q0 q1 q2 q3 q4 q5
        rw [Int.toNat_natCast] at q0 q1 q2 q3 q4 q5
        clear hx hj
        by_cases hj0 : j = 0
        · have hj0z : ¬ (0 : Int) < (j : Int) := by omega
          have hj0n : ¬ 0 < j := by omega
          have hj0b : decide (0 < j) = false := decide_eq_false hj0n
          clear hso hj0
          generalize (sorts l0).getD j z25 = x at q0 q1 q2 q3 q4 q5
          have k0 := fun n os => cell_regrown q0 n os
          have k1 := fun n os => cell_regrown q1 n os
          have k2 := fun n os => cell_regrown q2 n os
          have k3 := fun n os => cell_regrown q3 n os
          have k4 := fun n os => cell_regrown q4 n os
          have k5 := fun n os => cell_regrown q5 n os
          have hcnL : ∀ n os, Calls Try.prog 14 #[.slice A0 l0.length c0, .agg #[.int .i64 x.f0, .string x.f1, .int .i64 x.f2.f0, .int .i64 x.f2.f1, .int .i64 x.f3, .bool x.f4]] (grow (redrawn wr n) os) fun e w'' => e = .returned (.int .i64 ((cnt l0 x : Nat) : Int)) ∧ ∃ q : Regrown, w'' = grow (redrawn wr q.d) q.os := fun n os =>
            Calls.regrown_of (storemanlaw04_count.calls (l0.length + 1) A0 c0 l0 x.f0 x.f1 x.f2.f0 x.f2.f1 x.f3 x.f4 _ (grow (redrawn wr n) os) (Kd.C_below (Kd.C_below HR5.out HBr.out) (below_regrown wr n os)) HC0.out (count_is l0 x HL.out _ (Nat.le_refl _)))
          have hcnS : ∀ n os, Calls Try.prog 14 #[.slice (some ad) (sorts l0).length cs, .agg #[.int .i64 x.f0, .string x.f1, .int .i64 x.f2.f0, .int .i64 x.f2.f1, .int .i64 x.f3, .bool x.f4]] (grow (redrawn wr n) os) fun e w'' => e = .returned (.int .i64 ((cnt (sorts l0) x : Nat) : Int)) ∧ ∃ q : Regrown, w'' = grow (redrawn wr q.d) q.os := fun n os =>
            Calls.regrown_of (storemanlaw04_count.calls (l0.length + 1) (some ad) cs (sorts l0) x.f0 x.f1 x.f2.f0 x.f2.f1 x.f3 x.f4 _ (grow (redrawn wr n) os) (Kd.C_below (Kd.C_below HS5.out HBr.out) (below_regrown wr n os)) HCS.out (count_is (sorts l0) x (by have := HSL.out; have := HL.out; omega) _ (by have := HSL.out; omega)))
          rw [cnt_sorts l0 x] at hcnS
          generalize cnt l0 x = cc at hcnL hcnS
          clear q0 q1 q2 q3 q4 q5
          go_wp2_with fail
          refine wp_region_quiet_below (by kernel_rfl) (by kernel_rfl) ?_
          repeat (first | go_big_quiet_step (((go_at_call 14; first | (with_reducible exact hcnS _ _) | (with_reducible exact hcnL _ _)))) | quiet_step (((go_at_call 14; first | (with_reducible exact hcnS _ _) | (with_reducible exact hcnL _ _)))))
          refine wpQuiet_nil ?_
          intro _ hw'
          obtain ⟨⟨nq, osq⟩, hw''⟩ := hw'
          subst hw''
          have HBq := Lib.hid (below_then HBr.out HBr.out.size (below_regrown wr nq osq))
          generalize grow (redrawn wr nq) osq = wq at HBq ⊢
          clear k0 k1 k2 k3 k4 k5 hcnL hcnS
          go_wp2_with fail
          go_roundg ((sorts l0).length - (j + 1))
          case measure => have := HJ.out; have := HJJ.out; omega
          case rel => exact ⟨j + 1, by go_num, by have := HJJ.out; have := HSL.out; have := HLEN.out; omega, Lib.hid ⟨by have := HJJ.out; omega, by have := HJJ.out; omega⟩, HBq⟩
        · obtain ⟨t, rfl⟩ : ∃ t, j = t + 1 := ⟨j - 1, by omega⟩
          have hj0z : (0 : Int) < (t : Int) + 1 := by omega
          have htz : (t : Int) < ((sorts l0).length : Int) := by omega
          have hso' := hso (by have := HJJ.out; omega)
          rw [Nat.add_sub_cancel] at hso'
          obtain ⟨ad', e', p0, p1, p2, p3, p4, p5⟩ := at_T25 (Kd.C_below HS5.out HBr.out) (t : Int) (by omega) (by omega)
          obtain rfl : ad = ad' := Option.some.inj e'
          have hx' : rd_T25 (sorts l0) (t : Int) = (sorts l0).getD t z25 := rfl
          rw [hx'] at p0 p1 p2 p3 p4 p5
          rw [Int.toNat_natCast] at p0 p1 p2 p3 p4 p5
          clear hso hj0 hx' e'
          generalize (sorts l0).getD (t + 1) z25 = x at q0 q1 q2 q3 q4 q5 hso'
          generalize (sorts l0).getD t z25 = y at p0 p1 p2 p3 p4 p5 hso'
          have k0 := fun n os => cell_regrown q0 n os
          have k1 := fun n os => cell_regrown q1 n os
          have k2 := fun n os => cell_regrown q2 n os
          have k3 := fun n os => cell_regrown q3 n os
          have k4 := fun n os => cell_regrown q4 n os
          have k5 := fun n os => cell_regrown q5 n os
          have k_0 := fun n os => cell_regrown p0 n os
          have k_1 := fun n os => cell_regrown p1 n os
          have k_2 := fun n os => cell_regrown p2 n os
          have k_3 := fun n os => cell_regrown p3 n os
          have k_4 := fun n os => cell_regrown p4 n os
          have k_5 := fun n os => cell_regrown p5 n os
          have hcnL : ∀ n os, Calls Try.prog 14 #[.slice A0 l0.length c0, .agg #[.int .i64 x.f0, .string x.f1, .int .i64 x.f2.f0, .int .i64 x.f2.f1, .int .i64 x.f3, .bool x.f4]] (grow (redrawn wr n) os) fun e w'' => e = .returned (.int .i64 ((cnt l0 x : Nat) : Int)) ∧ ∃ q : Regrown, w'' = grow (redrawn wr q.d) q.os := fun n os =>
            Calls.regrown_of (storemanlaw04_count.calls (l0.length + 1) A0 c0 l0 x.f0 x.f1 x.f2.f0 x.f2.f1 x.f3 x.f4 _ (grow (redrawn wr n) os) (Kd.C_below (Kd.C_below HR5.out HBr.out) (below_regrown wr n os)) HC0.out (count_is l0 x HL.out _ (Nat.le_refl _)))
          have hcnS : ∀ n os, Calls Try.prog 14 #[.slice (some ad) (sorts l0).length cs, .agg #[.int .i64 x.f0, .string x.f1, .int .i64 x.f2.f0, .int .i64 x.f2.f1, .int .i64 x.f3, .bool x.f4]] (grow (redrawn wr n) os) fun e w'' => e = .returned (.int .i64 ((cnt (sorts l0) x : Nat) : Int)) ∧ ∃ q : Regrown, w'' = grow (redrawn wr q.d) q.os := fun n os =>
            Calls.regrown_of (storemanlaw04_count.calls (l0.length + 1) (some ad) cs (sorts l0) x.f0 x.f1 x.f2.f0 x.f2.f1 x.f3 x.f4 _ (grow (redrawn wr n) os) (Kd.C_below (Kd.C_below HS5.out HBr.out) (below_regrown wr n os)) HCS.out (count_is (sorts l0) x (by have := HSL.out; have := HL.out; omega) _ (by have := HSL.out; omega)))
          rw [cnt_sorts l0 x] at hcnS
          generalize cnt l0 x = cc at hcnL hcnS
          have hcmp := fun n os => cmp_reg wr y x n os
          have hcz : ¬ lotCmp y x > 0 := by omega
          have hcb : decide (lotCmp y x > 0) = false := decide_eq_false hcz
          generalize lotCmp y x = q at hcmp hcz hcb
          clear q0 q1 q2 q3 q4 q5 p0 p1 p2 p3 p4 p5 hso'
          go_wp2_with fail
          refine wp_region_quiet_below (by kernel_rfl) (by kernel_rfl) ?_
          repeat (first | go_big_quiet_step (((first | (go_at_call 8; (with_reducible exact hcmp _ _)) | (go_at_call 14; first | (with_reducible exact hcnS _ _) | (with_reducible exact hcnL _ _))))) | quiet_step (((first | (go_at_call 8; (with_reducible exact hcmp _ _)) | (go_at_call 14; first | (with_reducible exact hcnS _ _) | (with_reducible exact hcnL _ _))))))
          refine wpQuiet_nil ?_
          intro _ hw'
          obtain ⟨⟨nq, osq⟩, hw''⟩ := hw'
          subst hw''
          have HBq := Lib.hid (below_then HBr.out HBr.out.size (below_regrown wr nq osq))
          generalize grow (redrawn wr nq) osq = wq at HBq ⊢
          clear k0 k1 k2 k3 k4 k5 k_0 k_1 k_2 k_3 k_4 k_5 hcnL hcnS hcmp
          go_wp2_with fail
          go_roundg ((sorts l0).length - (t + 1 + 1))
          case measure => have := HJ.out; have := HJJ.out; omega
          case rel => exact ⟨t + 1 + 1, by go_num, by have := HJJ.out; have := HSL.out; have := HLEN.out; omega, Lib.hid ⟨by have := HJJ.out; omega, by have := HJJ.out; omega⟩, HBq⟩
      · have hz : ¬ (j : Int) < ((sorts l0).length : Int) := by omega
        clear hj
        go_wp2_with fail
        have a_0 : ∀ n os, (grow (redrawn wr n) os).cell? ⟨w.heap.size, 0, none⟩ = some (.int .i64 a.f0) := fun n os => cell_regrown ((blk_cell (blk_below HA5.out HBr.out) 0).trans rfl) n os
        have a_1 : ∀ n os, (grow (redrawn wr n) os).cell? ⟨w.heap.size, 1, none⟩ = some (.string a.f1) := fun n os => cell_regrown ((blk_cell (blk_below HA5.out HBr.out) 1).trans rfl) n os
        have a_2 : ∀ n os, (grow (redrawn wr n) os).cell? ⟨w.heap.size, 2, none⟩ = some (.int .i64 a.f2.f0) := fun n os => cell_regrown ((blk_cell (blk_below HA5.out HBr.out) 2).trans rfl) n os
        have a_3 : ∀ n os, (grow (redrawn wr n) os).cell? ⟨w.heap.size, 3, none⟩ = some (.int .i64 a.f2.f1) := fun n os => cell_regrown ((blk_cell (blk_below HA5.out HBr.out) 3).trans rfl) n os
        have a_4 : ∀ n os, (grow (redrawn wr n) os).cell? ⟨w.heap.size, 4, none⟩ = some (.int .i64 a.f3) := fun n os => cell_regrown ((blk_cell (blk_below HA5.out HBr.out) 4).trans rfl) n os
        have a_5 : ∀ n os, (grow (redrawn wr n) os).cell? ⟨w.heap.size, 5, none⟩ = some (.bool a.f4) := fun n os => cell_regrown ((blk_cell (blk_below HA5.out HBr.out) 5).trans rfl) n os
        have b_0 : ∀ n os, (grow (redrawn wr n) os).cell? ⟨w.heap.size + 1, 0, none⟩ = some (.int .i64 b.f0) := fun n os => cell_regrown ((blk_cell (blk_below HBB5.out HBr.out) 0).trans rfl) n os
        have b_1 : ∀ n os, (grow (redrawn wr n) os).cell? ⟨w.heap.size + 1, 1, none⟩ = some (.string b.f1) := fun n os => cell_regrown ((blk_cell (blk_below HBB5.out HBr.out) 1).trans rfl) n os
        have b_2 : ∀ n os, (grow (redrawn wr n) os).cell? ⟨w.heap.size + 1, 2, none⟩ = some (.int .i64 b.f2.f0) := fun n os => cell_regrown ((blk_cell (blk_below HBB5.out HBr.out) 2).trans rfl) n os
        have b_3 : ∀ n os, (grow (redrawn wr n) os).cell? ⟨w.heap.size + 1, 3, none⟩ = some (.int .i64 b.f2.f1) := fun n os => cell_regrown ((blk_cell (blk_below HBB5.out HBr.out) 3).trans rfl) n os
        have b_4 : ∀ n os, (grow (redrawn wr n) os).cell? ⟨w.heap.size + 1, 4, none⟩ = some (.int .i64 b.f3) := fun n os => cell_regrown ((blk_cell (blk_below HBB5.out HBr.out) 4).trans rfl) n os
        have b_5 : ∀ n os, (grow (redrawn wr n) os).cell? ⟨w.heap.size + 1, 5, none⟩ = some (.bool b.f4) := fun n os => cell_regrown ((blk_cell (blk_below HBB5.out HBr.out) 5).trans rfl) n os
        have c_0 : ∀ n os, (grow (redrawn wr n) os).cell? ⟨w.heap.size + 1 + 1, 0, none⟩ = some (.int .i64 c.f0) := fun n os => cell_regrown ((blk_cell (blk_below HC5.out HBr.out) 0).trans rfl) n os
        have c_1 : ∀ n os, (grow (redrawn wr n) os).cell? ⟨w.heap.size + 1 + 1, 1, none⟩ = some (.string c.f1) := fun n os => cell_regrown ((blk_cell (blk_below HC5.out HBr.out) 1).trans rfl) n os
        have c_2 : ∀ n os, (grow (redrawn wr n) os).cell? ⟨w.heap.size + 1 + 1, 2, none⟩ = some (.int .i64 c.f2.f0) := fun n os => cell_regrown ((blk_cell (blk_below HC5.out HBr.out) 2).trans rfl) n os
        have c_3 : ∀ n os, (grow (redrawn wr n) os).cell? ⟨w.heap.size + 1 + 1, 3, none⟩ = some (.int .i64 c.f2.f1) := fun n os => cell_regrown ((blk_cell (blk_below HC5.out HBr.out) 3).trans rfl) n os
        have c_4 : ∀ n os, (grow (redrawn wr n) os).cell? ⟨w.heap.size + 1 + 1, 4, none⟩ = some (.int .i64 c.f3) := fun n os => cell_regrown ((blk_cell (blk_below HC5.out HBr.out) 4).trans rfl) n os
        have c_5 : ∀ n os, (grow (redrawn wr n) os).cell? ⟨w.heap.size + 1 + 1, 5, none⟩ = some (.bool c.f4) := fun n os => cell_regrown ((blk_cell (blk_below HC5.out HBr.out) 5).trans rfl) n os
        have hab := fun n os => cmp_reg wr a b n os
        have hbc := fun n os => cmp_reg wr b c n os
        have hac := fun n os => cmp_reg wr a c n os
        have hT := Lib.hid (cmp_trans a b c)
        have hX := cmp_range a b
        have hY := cmp_range b c
        have hZ := cmp_range a c
        have HBA := Lib.hid (cmp_neg a b)
        generalize lotCmp a b = X at hab hT hX HBA
        generalize lotCmp b c = Y at hbc hT hY
        generalize lotCmp a c = Z at hac hT hZ
        refine wp_region_quiet_below (by kernel_rfl) (by kernel_rfl) ?_
        repeat (first | go_big_quiet_step (((go_at_call 8; first | (with_reducible exact hab _ _) | (with_reducible exact hbc _ _) | (with_reducible exact hac _ _)))) | quiet_step (((go_at_call 8; first | (with_reducible exact hab _ _) | (with_reducible exact hbc _ _) | (with_reducible exact hac _ _)))))
        refine wpQuiet_nil ?_
        intro _ hw'
        obtain ⟨⟨nq, osq⟩, hw''⟩ := hw'
        subst hw''
        have HBq := Lib.hid (below_then HBr.out HBr.out.size (below_regrown wr nq osq))
        generalize grow (redrawn wr nq) osq = wq at HBq ⊢
        clear hab hbc hac a_0 a_1 a_2 a_3 a_4 a_5 b_0 b_1 b_2 b_3 b_4 b_5 c_0 c_1 c_2 c_3 c_4 c_5
        have a_0 : wq.cell? ⟨w.heap.size, 0, none⟩ = some (.int .i64 a.f0) := (blk_cell (blk_below HA5.out HBq.out) 0).trans rfl
        have a_1 : wq.cell? ⟨w.heap.size, 1, none⟩ = some (.string a.f1) := (blk_cell (blk_below HA5.out HBq.out) 1).trans rfl
        have a_2 : wq.cell? ⟨w.heap.size, 2, none⟩ = some (.int .i64 a.f2.f0) := (blk_cell (blk_below HA5.out HBq.out) 2).trans rfl
        have a_3 : wq.cell? ⟨w.heap.size, 3, none⟩ = some (.int .i64 a.f2.f1) := (blk_cell (blk_below HA5.out HBq.out) 3).trans rfl
        have a_4 : wq.cell? ⟨w.heap.size, 4, none⟩ = some (.int .i64 a.f3) := (blk_cell (blk_below HA5.out HBq.out) 4).trans rfl
        have a_5 : wq.cell? ⟨w.heap.size, 5, none⟩ = some (.bool a.f4) := (blk_cell (blk_below HA5.out HBq.out) 5).trans rfl
        have b_0 : wq.cell? ⟨w.heap.size + 1, 0, none⟩ = some (.int .i64 b.f0) := (blk_cell (blk_below HBB5.out HBq.out) 0).trans rfl
        have b_1 : wq.cell? ⟨w.heap.size + 1, 1, none⟩ = some (.string b.f1) := (blk_cell (blk_below HBB5.out HBq.out) 1).trans rfl
        have b_2 : wq.cell? ⟨w.heap.size + 1, 2, none⟩ = some (.int .i64 b.f2.f0) := (blk_cell (blk_below HBB5.out HBq.out) 2).trans rfl
        have b_3 : wq.cell? ⟨w.heap.size + 1, 3, none⟩ = some (.int .i64 b.f2.f1) := (blk_cell (blk_below HBB5.out HBq.out) 3).trans rfl
        have b_4 : wq.cell? ⟨w.heap.size + 1, 4, none⟩ = some (.int .i64 b.f3) := (blk_cell (blk_below HBB5.out HBq.out) 4).trans rfl
        have b_5 : wq.cell? ⟨w.heap.size + 1, 5, none⟩ = some (.bool b.f4) := (blk_cell (blk_below HBB5.out HBq.out) 5).trans rfl
        have hX' : X = -1 ∨ X = 0 ∨ X = 1 := by omega
        have hY' : Y = -1 ∨ Y = 0 ∨ Y = 1 := by omega
        have hZ' : Z = -1 ∨ Z = 0 ∨ Z = 1 := by omega
        clear hX hY hZ
        rcases hX' with rfl | rfl | rfl <;> rcases hY' with rfl | rfl | rfl <;> rcases hZ' with rfl | rfl | rfl <;> first | (exfalso; have := hT.out; revert this; decide) | skip
        all_goals
          go_wp2_with fail
          refine (cmp_lit wq b a).mono ?_
          rintro e wz ⟨rfl, hb⟩
          rw [HBA.out]
          clear a_0 a_1 a_2 a_3 a_4 a_5 b_0 b_1 b_2 b_3 b_4 b_5
          have HBz := Lib.hid (below_then HBq.out HBq.out.size hb)
          clear hb
          have a_0 : wz.cell? ⟨w.heap.size, 0, none⟩ = some (.int .i64 a.f0) := (blk_cell (blk_below HA5.out HBz.out) 0).trans rfl
          have a_1 : wz.cell? ⟨w.heap.size, 1, none⟩ = some (.string a.f1) := (blk_cell (blk_below HA5.out HBz.out) 1).trans rfl
          have a_2 : wz.cell? ⟨w.heap.size, 2, none⟩ = some (.int .i64 a.f2.f0) := (blk_cell (blk_below HA5.out HBz.out) 2).trans rfl
          have a_3 : wz.cell? ⟨w.heap.size, 3, none⟩ = some (.int .i64 a.f2.f1) := (blk_cell (blk_below HA5.out HBz.out) 3).trans rfl
          have a_4 : wz.cell? ⟨w.heap.size, 4, none⟩ = some (.int .i64 a.f3) := (blk_cell (blk_below HA5.out HBz.out) 4).trans rfl
          have a_5 : wz.cell? ⟨w.heap.size, 5, none⟩ = some (.bool a.f4) := (blk_cell (blk_below HA5.out HBz.out) 5).trans rfl
          go_wp2_with fail
          refine (cmp_lit wz a a).mono ?_
          rintro e wy ⟨rfl, hb⟩
          rw [cmp_self]
          have HBy := Lib.hid (below_then HBz.out HBz.out.size hb)
          clear hb
          go_wp2_with fail
          go_ret
          exact ⟨rfl, below_then HW5.out HW5.out.size HBy.out⟩
def storemanlaw04_LotSorted.f (k : Nat) (l0 : List S25) (a1_0 : Int) (a1_1 : ByteArray) (a1_2 : Int) (a1_3 : Int) (a1_4 : Int) (a1_5 : Bool) (a2_0 : Int) (a2_1 : ByteArray) (a2_2 : Int) (a2_3 : Int) (a2_4 : Int) (a2_5 : Bool) (a3_0 : Int) (a3_1 : ByteArray) (a3_2 : Int) (a3_3 : Int) (a3_4 : Int) (a3_5 : Bool) : Option Bool := if l0.length ≤ 9223372036854775807 then some true else none
theorem storemanlaw04_LotSorted.calls (k : Nat) (A0 : Option Addr) (c0 : Nat) (l0 : List S25) (a1_0 : Int) (a1_1 : ByteArray) (a1_2 : Int) (a1_3 : Int) (a1_4 : Int) (a1_5 : Bool) (a2_0 : Int) (a2_1 : ByteArray) (a2_2 : Int) (a2_3 : Int) (a2_4 : Int) (a2_5 : Bool) (a3_0 : Int) (a3_1 : ByteArray) (a3_2 : Int) (a3_3 : Int) (a3_4 : Int) (a3_5 : Bool) (r : Bool) (w : World) (hr0 : Kd.C k25 w A0 l0.length l0) (hc0 : l0.length ≤ c0) (h : storemanlaw04_LotSorted.f k l0 a1_0 a1_1 a1_2 a1_3 a1_4 a1_5 a2_0 a2_1 a2_2 a2_3 a2_4 a2_5 a3_0 a3_1 a3_2 a3_3 a3_4 a3_5 = some r) :
    Calls Try.prog 4 #[.slice A0 l0.length c0, .agg #[.int .i64 a1_0, .string a1_1, .int .i64 a1_2, .int .i64 a1_3, .int .i64 a1_4, .bool a1_5], .agg #[.int .i64 a2_0, .string a2_1, .int .i64 a2_2, .int .i64 a2_3, .int .i64 a2_4, .bool a2_5], .agg #[.int .i64 a3_0, .string a3_1, .int .i64 a3_2, .int .i64 a3_3, .int .i64 a3_4, .bool a3_5]] w fun e w' => e = .returned (.bool r) ∧ RowKit.Below w.heap.size w w' := by
  unfold storemanlaw04_LotSorted.f at h
  by_cases hl : l0.length ≤ 9223372036854775807
  · rw [if_pos hl] at h
    obtain rfl := Option.some.inj h
    exact LotSorted_walk A0 c0 l0 ⟨a1_0, a1_1, ⟨a1_2, a1_3⟩, a1_4, a1_5⟩ ⟨a2_0, a2_1, ⟨a2_2, a2_3⟩, a2_4, a2_5⟩ ⟨a3_0, a3_1, ⟨a3_2, a3_3⟩, a3_4, a3_5⟩ w hr0 hc0 hl
  · rw [if_neg hl] at h; cases h

end Go.Proofs.Ytckekncllmhohaa.Q
