/- RankOrder: its walk. -/
import Derived.Test.YtokmkjgbhlcngaaGLaw
import Derived.Test.YtokmkjgbhlcngaaQ5
import Derived.Test.YtokmkjgbhlcngaaQ7
import Derived.BigQuiet
namespace Go.Proofs.Ytokmkjgbhlcngaa.Q
open Go.RowKit Go.Sort Go.Proofs.YtokmkjgbhlcngaaW.PrintWords Go.Proofs.YtokmkjgbhlcngaaW.PrintLast Go.Proofs.YtokmkjgbhlcngaaW.PrintMore Go.Proofs.Ytokmkjgbhlcngaa.G
set_option linter.all false

/-! ### what the helpers answer -/
theorem great_l0 (l : List S24) (hl : l.length ≤ 9223372036854775807) : ∀ (d i : Nat) (x3 : Int) (k : Nat), l.length - i = d → i ≤ l.length → d < k → ∃ r, storemanlaw09_great.l0 k l x3 (i : Int) = some r
  | 0, i, x3, k, hd, hi, hk => by
    obtain ⟨k, rfl⟩ : ∃ m, k = m + 1 := ⟨k - 1, by omega⟩
    simp only [storemanlaw09_great.l0]
    rw [if_neg (by omega)]
    exact ⟨_, rfl⟩
  | d + 1, i, x3, k, hd, hi, hk => by
    obtain ⟨k, rfl⟩ : ∃ m, k = m + 1 := ⟨k - 1, by omega⟩
    simp only [storemanlaw09_great.l0]
    have hw : wrap64 ((i : Int) + 1) = ((i + 1 : Nat) : Int) := by unfold wrap64; omega
    rw [if_pos (show (i : Int) < (l.length : Int) by omega), hw]
    by_cases h4 : x3 ≤ 400
    · rw [if_pos h4, if_pos (show (0 : Int) ≤ (i : Int) by omega)]
      exact great_l0 l hl d (i + 1) _ k (by omega) (by omega) (by omega)
    · rw [if_neg h4]
      exact ⟨_, rfl⟩
theorem great_is (l : List S24) (hl : l.length ≤ 9223372036854775807) (k : Nat) (hk : l.length + 1 ≤ k) : ∃ r, storemanlaw09_great.f k l = some r ∧ (r = false → l.length ≤ 400) := by
  unfold storemanlaw09_great.f
  by_cases h : l.length ≤ 400
  · obtain ⟨r, hr⟩ := great_l0 l hl l.length 0 (l.length : Int) k (by omega) (by omega) (by omega)
    exact ⟨r, hr, fun _ => h⟩
  · obtain ⟨k, rfl⟩ : ∃ m, k = m + 1 := ⟨k - 1, by omega⟩
    simp only [storemanlaw09_great.l0]
    refine ⟨true, ?_, fun h => by cases h⟩
    rw [if_pos (by omega), if_neg (by omega), decide_eq_true (by omega)]
theorem same_l0 (l : List S24) (hl : l.length ≤ 9223372036854775807) : ∀ (d i k : Nat), l.length - i = d → i ≤ l.length → d < k → storemankit_SameLines.l0 k l l (i : Int) = some true
  | 0, i, k, hd, hi, hk => by
    obtain ⟨k, rfl⟩ : ∃ m, k = m + 1 := ⟨k - 1, by omega⟩
    simp only [storemankit_SameLines.l0]
    rw [if_neg (by omega)]
  | d + 1, i, k, hd, hi, hk => by
    obtain ⟨k, rfl⟩ : ∃ m, k = m + 1 := ⟨k - 1, by omega⟩
    simp only [storemankit_SameLines.l0]
    have hw : wrap64 ((i : Int) + 1) = ((i + 1 : Nat) : Int) := by unfold wrap64; omega
    rw [if_pos (show (i : Int) < (l.length : Int) by omega), if_pos (show (0 : Int) ≤ (i : Int) by omega), if_pos (show (i : Int) < (l.length : Int) by omega), hw, if_neg (by simp)]
    exact same_l0 l hl d (i + 1) k (by omega) (by omega) (by omega)
theorem same_is (l : List S24) (hl : l.length ≤ 9223372036854775807) (k : Nat) (hk : l.length + 1 ≤ k) : storemankit_SameLines.f k l l = some true := by
  unfold storemankit_SameLines.f
  rw [if_pos rfl]
  exact same_l0 l hl l.length 0 k (by omega) (by omega) (by omega)
def sameB (x y : S24) : Bool := (x.f0 == y.f0 && (x.f1.toList == y.f1.toList && (x.f2 == y.f2 && (x.f3 == y.f3 && (x.f4 == y.f4 && (x.f5 == y.f5 && (x.f6 == y.f6 && (x.f7.toList == y.f7.toList))))))))
def cnt (l : List S24) (y : S24) : Nat := (l.filter fun x => sameB x y).length
theorem count_l0 (l : List S24) (y : S24) (hl : l.length ≤ 9223372036854775807) : ∀ (d i n k : Nat), l.length - i = d → i ≤ l.length → n + d ≤ l.length → d < k →
    storemanlaw09_count.l0 k l (n : Int) (i : Int) y.f0 y.f1 y.f2 y.f3 y.f4 y.f5 y.f6 y.f7 = some ((n + cnt (l.drop i) y : Nat) : Int)
  | 0, i, n, k, hd, hi, hn, hk => by
    obtain ⟨k, rfl⟩ : ∃ m, k = m + 1 := ⟨k - 1, by omega⟩
    simp only [storemanlaw09_count.l0]
    rw [if_neg (by omega), List.drop_of_length_le (by omega)]
    rfl
  | d + 1, i, n, k, hd, hi, hn, hk => by
    obtain ⟨k, rfl⟩ : ∃ m, k = m + 1 := ⟨k - 1, by omega⟩
    simp only [storemanlaw09_count.l0]
    have hw : wrap64 ((i : Int) + 1) = ((i + 1 : Nat) : Int) := by unfold wrap64; omega
    have hw2 : wrap64 ((n : Int) + 1) = ((n + 1 : Nat) : Int) := by unfold wrap64; omega
    rw [if_pos (by omega), if_pos (by omega), hw, hw2]
    have hx : rd_T24 l (i : Int) = l.getD i z24 := rfl
    rw [hx, drop_next l z24 i (by omega)]
    generalize l.getD i z24 = x
    change (if sameB x y = true then _ else _) = _
    by_cases hs : sameB x y = true
    · rw [if_pos hs, count_l0 l y hl d (i + 1) (n + 1) k (by omega) (by omega) (by omega) (by omega)]
      have : cnt (x :: l.drop (i + 1)) y = cnt (l.drop (i + 1)) y + 1 := by unfold cnt; rw [List.filter_cons, if_pos hs]; rfl
      rw [this]
      congr 2
      omega
    · rw [if_neg hs, count_l0 l y hl d (i + 1) n k (by omega) (by omega) (by omega) (by omega)]
      have : cnt (x :: l.drop (i + 1)) y = cnt (l.drop (i + 1)) y := by unfold cnt; rw [List.filter_cons, if_neg hs]
      rw [this]
theorem count_is (l : List S24) (y : S24) (hl : l.length ≤ 9223372036854775807) (k : Nat) (hk : l.length + 1 ≤ k) : storemanlaw09_count.f k l y.f0 y.f1 y.f2 y.f3 y.f4 y.f5 y.f6 y.f7 = some ((cnt l y : Nat) : Int) := by
  unfold storemanlaw09_count.f
  have := count_l0 l y hl l.length 0 0 k (by omega) (by omega) (by omega) (by omega)
  simpa using this

/-! ### the law, on lists -/
theorem cnt_perm {l l' : List S24} (h : l.Perm l') (y : S24) : cnt l y = cnt l' y := (h.filter _).length_eq
theorem openL_id {l : List S24} (h : ∀ x ∈ l, x.f5 = 1) : openL l = l := by
  unfold openL
  rw [List.filter_eq_self]
  intro x hx
  simp [h x hx]
theorem openL_mem {l : List S24} {x : S24} (h : x ∈ openL l) : x.f5 = 1 := by
  unfold openL at h
  rw [List.mem_filter] at h
  simpa using h.2
def opens (l : List S24) : List S24 := stabl (ltOf lineCmp) (openL l)
theorem opens_mem {l : List S24} {x : S24} (h : x ∈ opens l) : x.f5 = 1 := openL_mem ((stabl_perm _ _).subset h)
theorem opens_opens (l : List S24) : opens (opens l) = opens l := by
  have h : openL (opens l) = opens l := openL_id (fun x hx => opens_mem hx)
  show stabl _ (openL (opens l)) = _
  rw [h]
  exact stabl_stabl line_swo _
theorem opens_length (l : List S24) : (opens l).length = (openL l).length := stabl_length _ _
theorem opens_le (l : List S24) : (opens l).length ≤ l.length := by rw [opens_length]; exact List.length_filter_le _ _
theorem cnt_opens (l : List S24) (y : S24) (hy : y.f5 = 1) : cnt (opens l) y = cnt l y := by
  have h1 : cnt (opens l) y = cnt (openL l) y := cnt_perm (stabl_perm _ _) y
  rw [h1]
  unfold cnt openL
  rw [List.filter_filter]
  congr 1
  apply List.filter_congr
  intro x _
  cases hs : sameB x y with
  | false => rfl
  | true =>
    have : x.f5 = 1 := by
      unfold sameB at hs
      simp only [Bool.and_eq_true, beq_iff_eq] at hs
      rw [hs.2.2.2.2.2.1]; exact hy
    simp [this]
theorem cmp_neg (x y : S24) : lineCmp y x = - lineCmp x y := by unfold lineCmp; split <;> (try split) <;> (try split) <;> (try split) <;> (try split) <;> (try split) <;> (try split) <;> (try split) <;> omega
theorem cmp_self (x : S24) : lineCmp x x = 0 := by unfold lineCmp; simp
theorem cmp_le {x y : S24} (h : ltOf lineCmp y x = false) : lineCmp x y ≤ 0 := by
  have := of_decide_eq_false h
  rw [cmp_neg x y] at this
  omega
theorem cmp_range (x y : S24) : -1 ≤ lineCmp x y ∧ lineCmp x y ≤ 1 := by unfold lineCmp; split <;> (try split) <;> (try split) <;> (try split) <;> omega
theorem cmp_trans (a b c : S24) : (!(decide (lineCmp a b ≤ 0) && decide (lineCmp b c ≤ 0)) || (decide (lineCmp a c ≤ 0) && (decide (lineCmp a c < 0) || (lineCmp a b == 0 && lineCmp b c == 0)))) = true := by
  simp only [Bool.or_eq_true, Bool.and_eq_true, Bool.not_eq_true', Bool.and_eq_false_iff, decide_eq_true_eq, decide_eq_false_iff_not, beq_iff_eq]
  unfold lineCmp
  split <;> (try split) <;> (try split) <;> (try split) <;> (try split) <;> (try split) <;> (try split) <;> (try split) <;> (try split) <;> (try split) <;> (try split) <;> (try split) <;> omega
theorem sorted_at (l : List S24) (i : Nat) (h : i + 1 < (opens l).length) : lineCmp ((opens l).getD i z24) ((opens l).getD (i + 1) z24) ≤ 0 := by
  have := List.pairwise_iff_getElem.1 (stabl_sorted line_swo (openL l)) i (i + 1) (by unfold opens at h; omega) h (by omega)
  rw [List.getD_eq_getElem?_getD, List.getD_eq_getElem?_getD, List.getElem?_eq_getElem (by omega), List.getElem?_eq_getElem h]
  exact cmp_le this
theorem cmp_lit (w : World) (x y : S24) : Calls Try.prog 10 #[.agg #[.int .i64 x.f0, .string x.f1, .int .i64 x.f2, .int .i64 x.f3, .int .i64 x.f4, .int .u8 x.f5, .int .i64 x.f6, .string x.f7], .agg #[.int .i64 y.f0, .string y.f1, .int .i64 y.f2, .int .i64 y.f3, .int .i64 y.f4, .int .u8 y.f5, .int .i64 y.f6, .string y.f7]] w fun e w' => e = .returned (.int .i64 (lineCmp x y)) ∧ RowKit.Below w.heap.size w w' := line_cmp w x y
/-- Compare, in a world of a quiet region's. -/
theorem cmp_reg (w : World) (x y : S24) (n : Nat) (os : Array Obj) : Calls Try.prog 10 #[.agg #[.int .i64 x.f0, .string x.f1, .int .i64 x.f2, .int .i64 x.f3, .int .i64 x.f4, .int .u8 x.f5, .int .i64 x.f6, .string x.f7], .agg #[.int .i64 y.f0, .string y.f1, .int .i64 y.f2, .int .i64 y.f3, .int .i64 y.f4, .int .u8 y.f5, .int .i64 y.f6, .string y.f7]] (grow (redrawn w n) os) fun e w'' => e = .returned (.int .i64 (lineCmp x y)) ∧ ∃ p : Regrown, w'' = grow (redrawn w p.d) p.os := Calls.regrown_of (line_cmp _ x y)
attribute [local irreducible] Go.Calls
set_option maxHeartbeats 4000000 in
set_option maxRecDepth 100000 in
theorem RankOrder_walk (A0 : Option Addr) (c0 : Nat) (l0 : List S24) (a b c : S24) (w : World) (hr0 : Kd.C k24 w A0 l0.length l0) (hc0 : l0.length ≤ c0) (hl : l0.length ≤ 9223372036854775807) :
    Calls Try.prog 6 #[.slice A0 l0.length c0, .agg (lineCells a), .agg (lineCells b), .agg (lineCells c)] w fun e w' => e = .returned (.bool true) ∧ RowKit.Below w.heap.size w w' := by
  obtain ⟨g, hg, hgl⟩ := great_is l0 hl (l0.length + 1) (Nat.le_refl _)
  have HR0 := Lib.hid hr0
  have HC0 := Lib.hid hc0
  have HL := Lib.hid hl
  have HG := Lib.hid hg
  have HGL := Lib.hid hgl
  have ea : lineCells a = #[.int .i64 a.f0, .string a.f1, .int .i64 a.f2, .int .i64 a.f3, .int .i64 a.f4, .int .u8 a.f5, .int .i64 a.f6, .string a.f7] := rfl
  have eb : lineCells b = #[.int .i64 b.f0, .string b.f1, .int .i64 b.f2, .int .i64 b.f3, .int .i64 b.f4, .int .u8 b.f5, .int .i64 b.f6, .string b.f7] := rfl
  have ec : lineCells c = #[.int .i64 c.f0, .string c.f1, .int .i64 c.f2, .int .i64 c.f3, .int .i64 c.f4, .int .u8 c.f5, .int .i64 c.f6, .string c.f7] := rfl
  rw [ea, eb, ec]
  clear hr0 hc0 hl hg hgl ea eb ec
  have HBa := Lib.hid (below_alloc (below_alloc (below_alloc (Below.refl w.heap.size w) (Obj.cells (lineCells a) 24)) (Obj.cells (lineCells b) 24)) (Obj.cells (lineCells c) 24))
  go_enter Try.func6, Try.ntmps6
  go_wp2_with fail
  refine (storemanlaw09_awake.calls 20 true _ awake_is).mono ?_
  rintro e w1 ⟨rfl, hb⟩
  have e1 : ∀ o, (w.alloc o).heap.size = w.heap.size + 1 := fun o => by simp
  have e2 : ∀ o o', ((w.alloc o).alloc o').heap.size = w.heap.size + 1 + 1 := fun o o' => by simp
  have hA := blk_below (blk_alloc (blk_alloc (blk_new w (Obj.cells #[.int .i64 a.f0, .string a.f1, .int .i64 a.f2, .int .i64 a.f3, .int .i64 a.f4, .int .u8 a.f5, .int .i64 a.f6, .string a.f7] 24)) _) _) hb
  have hB := blk_below (blk_alloc (blk_new (w.alloc _) (Obj.cells #[.int .i64 b.f0, .string b.f1, .int .i64 b.f2, .int .i64 b.f3, .int .i64 b.f4, .int .u8 b.f5, .int .i64 b.f6, .string b.f7] 24)) _) hb
  have hC := blk_below (blk_new ((w.alloc _).alloc _) (Obj.cells #[.int .i64 c.f0, .string c.f1, .int .i64 c.f2, .int .i64 c.f3, .int .i64 c.f4, .int .u8 c.f5, .int .i64 c.f6, .string c.f7] 24)) hb
  rw [e1] at hB
  rw [e2] at hC
  have hw := below_then HBa.out HBa.out.size hb
  have HW := Lib.hid hw
  have HR1 := Lib.hid (Kd.C_below HR0.out hw)
  have HA := Lib.hid hA
  have HB := Lib.hid hB
  have HC := Lib.hid hC
  clear hb e1 e2 hA hB hC hw HBa HR0
  go_wp2_with fail
  refine (storemanlaw09_great.calls (l0.length + 1) A0 c0 l0 g w1 HR1.out HC0.out HG.out).mono ?_
  rintro e w2 ⟨rfl, ⟨⟨n2, rfl⟩⟩⟩
  have HB2 := Lib.hid (pw_below_drewN (Below.refl w1.heap.size w1) n2)
  generalize hw2 : w1.drewN n2 = w2 at HB2 ⊢
  clear hw2 HG
  cases g with
  | true =>
    go_wp2_with fail
    go_ret
    exact ⟨rfl, below_then HW.out HW.out.size HB2.out⟩
  | false =>
    have HLEN := Lib.hid (HGL.out rfl)
    have HR2 := Lib.hid (Kd.C_below HR1.out HB2.out)
    have hop := opens_le l0
    have HOP := Lib.hid hop
    have HSTEP := Lib.hid (rank_Open.calls A0 c0 l0 (opens l0) w2 HR2.out HC0.out (by unfold rank_Open.f; rw [if_pos (by have := HLEN.out; omega)]; rfl))
    clear HGL hop
    go_wp2_with fail
    refine HSTEP.out.mono ?_
    rintro e w3 ⟨vs, rfl, hR, hb⟩
    obtain ⟨As, cs, rfl, hcs, hCs⟩ := Kd.R_reads hR
    have HB3 := Lib.hid (below_then HB2.out HB2.out.size hb)
    have HS3 := Lib.hid hCs
    have HCS := Lib.hid hcs
    clear hR hb hcs hCs HSTEP
    have HSTEP := Lib.hid (rank_Open.calls As cs (opens l0) (opens l0) w3 HS3.out HCS.out (by unfold rank_Open.f; rw [if_pos (by have := HLEN.out; have := HOP.out; omega)]; exact congrArg some (opens_opens l0)))
    go_wp2_with fail
    refine HSTEP.out.mono ?_
    rintro e w4 ⟨vt, rfl, hR, hb⟩
    obtain ⟨At, ct, rfl, hct, hCt⟩ := Kd.R_reads hR
    have HB4 := Lib.hid (below_then HB3.out HB3.out.size hb)
    have HS4 := Lib.hid (Kd.C_below HS3.out hb)
    have HSTEP2 := Lib.hid (storemankit_SameLines.calls ((opens l0).length + 1) At ct (opens l0) As cs (opens l0) true w4 hCt hct HS4.out HCS.out (same_is (opens l0) (by have := HLEN.out; have := HOP.out; omega) _ (Nat.le_refl _)))
    clear hR hb hct hCt HSTEP
    go_wp2_with fail
    refine HSTEP2.out.mono ?_
    rintro e w5 ⟨rfl, ⟨⟨n5, rfl⟩⟩⟩
    have HB5 := Lib.hid (pw_below_drewN HB4.out n5)
    have HS5 := Lib.hid (Kd.C_below HS4.out (pw_below_drewN (Below.refl w4.heap.size w4) n5))
    generalize hw5 : w4.drewN n5 = w5 at HB5 HS5 ⊢
    have HR5 := Lib.hid (Kd.C_below HR1.out HB5.out)
    have HA5 := Lib.hid (blk_below HA.out HB5.out)
    have HBB5 := Lib.hid (blk_below HB.out HB5.out)
    have HC5 := Lib.hid (blk_below HC.out HB5.out)
    have HW5 := Lib.hid (below_then HW.out HW.out.size HB5.out)
    clear hw5 HB2 HB3 HB4 HS3 HS4 HSTEP2 HR1 HA HB HC HW HR2 HB5
    go_wp2_with fail
    go_loopg [10, 11] l0.length (fun kx s10 s11 wr => ∃ i m : Nat, s10 = .int .i64 m ∧ s11 = .int .i64 i ∧ m ≤ i ∧ i ≤ 400 ∧ Hid (m = (openL (l0.take i)).length ∧ i ≤ l0.length ∧ l0.length ≤ i + kx) ∧ Hid (Below w5.heap.size w5 wr))
    case atStart => exact ⟨0, 0, rfl, rfl, Nat.le_refl _, by omega, Lib.hid ⟨rfl, Nat.zero_le _, by omega⟩, Below.refl _ _⟩
    case round =>
      obtain ⟨i, m, rfl, rfl, hmi, hi4, HI, HBr⟩ := hrel
      by_cases hi : i < l0.length
      · have hz : (i : Int) < (l0.length : Int) := by omega
        obtain ⟨ad, e, q0, q1, q2, q3, q4, q5, q6, q7⟩ := at_T24 (Kd.C_below HR5.out HBr.out) (i : Int) (by omega) (by omega)
        have hx : rd_T24 l0 (i : Int) = l0.getD i z24 := rfl
        have htk := rd_next' l0 z24 i hi
        rw [hx] at q0 q1 q2 q3 q4 q5 q6 q7
        generalize l0.getD i z24 = x at q0 q1 q2 q3 q4 q5 q6 q7 htk
        rw [Int.toNat_natCast] at q0 q1 q2 q3 q4 q5 q6 q7
        subst e
        have HTK := Lib.hid htk
        have HII := Lib.hid hi
        clear htk hx hi
        by_cases h5 : x.f5 = 1
        · have h5b : (x.f5 == 1) = true := beq_iff_eq.2 h5
          have H5 := Lib.hid h5
          clear h5
          go_wp2_with fail
          have k0 := fun n os => cell_regrown q0 n os
          have k1 := fun n os => cell_regrown q1 n os
          have k2 := fun n os => cell_regrown q2 n os
          have k3 := fun n os => cell_regrown q3 n os
          have k4 := fun n os => cell_regrown q4 n os
          have k5 := fun n os => cell_regrown q5 n os
          have k6 := fun n os => cell_regrown q6 n os
          have k7 := fun n os => cell_regrown q7 n os
          have hCl : ∀ n os, Kd.C k24 (grow (redrawn wr n) os) (some ad) l0.length l0 := fun n os => Kd.C_below (Kd.C_below HR5.out HBr.out) (below_regrown wr n os)
          have hCs : ∀ n os, Kd.C k24 (grow (redrawn wr n) os) As (opens l0).length (opens l0) := fun n os => Kd.C_below (Kd.C_below HS5.out HBr.out) (below_regrown wr n os)
          have hcL := fun n os => Calls.regrown_of (storemanlaw09_count.calls (l0.length + 1) (some ad) c0 l0 x.f0 x.f1 x.f2 x.f3 x.f4 x.f5 x.f6 x.f7 _ (grow (redrawn wr n) os) (hCl n os) HC0.out (count_is l0 x HL.out _ (Nat.le_refl _)))
          have hcS := fun n os => Calls.regrown_of (storemanlaw09_count.calls (l0.length + 1) As cs (opens l0) x.f0 x.f1 x.f2 x.f3 x.f4 x.f5 x.f6 x.f7 _ (grow (redrawn wr n) os) (hCs n os) HCS.out (count_is (opens l0) x (by have := HOP.out; have := HL.out; omega) _ (by have := HOP.out; omega)))
          rw [cnt_opens l0 x H5.out] at hcS
          generalize cnt l0 x = q at hcL hcS
          clear q0 q1 q2 q3 q4 q5 q6 q7 hCl hCs
          refine wp_region_quiet_below (by kernel_rfl) (by kernel_rfl) ?_
          repeat (quiet_step (first | (go_at_call 25; first | (with_reducible exact hcS _ _) | (with_reducible exact hcL _ _))))
          refine wpQuiet_nil ?_
          intro _ hw'
          obtain ⟨⟨nq, osq⟩, hw''⟩ := hw'
          subst hw''
          have HBq := Lib.hid (below_then HBr.out HBr.out.size (below_regrown wr nq osq))
          generalize grow (redrawn wr nq) osq = wq at HBq ⊢
          clear k0 k1 k2 k3 k4 k5 k6 k7 hcL hcS
          go_wp2_with fail
          go_roundg (gk - 1)
          case measure => have := HI.out; have := HII.out; omega
          case rel =>
            refine ⟨i + 1, m + 1, by go_num, by go_num, by omega, by have := HII.out; have := HLEN.out; omega, Lib.hid ⟨?_, by have := HII.out; omega, by have := HI.out; have := HII.out; omega⟩, HBq⟩
            rw [HTK.out, HI.out.1]
            unfold openL
            rw [List.filter_append, List.length_append, List.filter_cons, if_pos (by rw [H5.out]; rfl)]
            rfl
        · have h5b : (x.f5 == 1) = false := beq_eq_false_iff_ne.2 h5
          have H5 := Lib.hid h5
          clear h5
          go_wp2_with fail
          go_roundg (gk - 1)
          case measure => have := HI.out; have := HII.out; omega
          case rel =>
            refine ⟨i + 1, m, rfl, by go_num, by omega, by have := HII.out; have := HLEN.out; omega, Lib.hid ⟨?_, by have := HII.out; omega, by have := HI.out; have := HII.out; omega⟩, HBr⟩
            rw [HTK.out, HI.out.1]
            unfold openL
            rw [List.filter_append, List.length_append, List.filter_cons, if_neg (by simpa using H5.out)]
            rfl
      · have hz : ¬ (i : Int) < (l0.length : Int) := by omega
        have HM : Hid (m = (opens l0).length) := (show _ = _ from by rw [opens_length, HI.out.1, List.take_of_length_le (by omega)])
        clear hi
        go_wp2_with fail
        go_loopg [12] (opens l0).length (fun kx s12 wr => ∃ i : Nat, s12 = .int .i64 i ∧ i ≤ 400 ∧ Hid (i ≤ (opens l0).length ∧ (opens l0).length ≤ i + kx) ∧ Hid (Below w5.heap.size w5 wr))
        case atStart => exact ⟨0, rfl, by omega, Lib.hid ⟨Nat.zero_le _, by omega⟩, HBr⟩
        case round =>
          clear HBr HI hz
          obtain ⟨j, rfl, hj4, HJ, HBr⟩ := hrel
          by_cases hj : j < (opens l0).length
          · have hz : (j : Int) < ((opens l0).length : Int) := by omega
            obtain ⟨ad, e, q0, q1, q2, q3, q4, q5, q6, q7⟩ := at_T24 (Kd.C_below HS5.out HBr.out) (j : Int) (by omega) (by omega)
            have hx : rd_T24 (opens l0) (j : Int) = (opens l0).getD j z24 := rfl
            have h5 : ((opens l0).getD j z24).f5 = 1 := opens_mem (l := l0) (by rw [List.getD_eq_getElem?_getD, List.getElem?_eq_getElem hj]; exact List.getElem_mem hj)
            have hso := sorted_at l0 (j - 1)
            subst e
            have HJJ := Lib.hid hj
            rw [hx] at q0 q1 q2 q3 q4 q5 q6 q7
            rw [Int.toNat_natCast] at q0 q1 q2 q3 q4 q5 q6 q7
            by_cases hj0 : j = 0
            · have hj0z : ¬ (0 : Int) < (j : Int) := by omega
              have hj0n : ¬ 0 < j := by omega
              have hj0b : decide (0 < j) = false := decide_eq_false hj0n
              have h5b : (((opens l0).getD j z24).f5 != 1) = false := by rw [h5]; rfl
              clear h5 hso hx hj hj0
              generalize (opens l0).getD j z24 = x at q0 q1 q2 q3 q4 q5 q6 q7 h5b
              have k0 := fun n os => cell_regrown q0 n os
              have k1 := fun n os => cell_regrown q1 n os
              have k2 := fun n os => cell_regrown q2 n os
              have k3 := fun n os => cell_regrown q3 n os
              have k4 := fun n os => cell_regrown q4 n os
              have k5 := fun n os => cell_regrown q5 n os
              have k6 := fun n os => cell_regrown q6 n os
              have k7 := fun n os => cell_regrown q7 n os
              clear q0 q1 q2 q3 q4 q5 q6 q7
              go_wp2_with fail
              refine wp_region_quiet_below (by kernel_rfl) (by kernel_rfl) ?_
              repeat (first | go_big_quiet_step (fail) | quiet_step (fail))
              refine wpQuiet_nil ?_
              intro _ hw'
              obtain ⟨⟨nq, osq⟩, hw''⟩ := hw'
              subst hw''
              have HBq := Lib.hid (below_then HBr.out HBr.out.size (below_regrown wr nq osq))
              generalize grow (redrawn wr nq) osq = wq at HBq ⊢
              clear k0 k1 k2 k3 k4 k5 k6 k7
              go_wp2_with fail
              go_roundg (gk - 1)
              case measure => have := HJ.out; have := HJJ.out; omega
              case rel => exact ⟨j + 1, by go_num, by have := HJJ.out; have := HOP.out; have := HLEN.out; omega, Lib.hid ⟨by have := HJJ.out; omega, by have := HJ.out; have := HJJ.out; omega⟩, HBq⟩
            · obtain ⟨t, rfl⟩ : ∃ t, j = t + 1 := ⟨j - 1, by omega⟩
              have hj0z : (0 : Int) < (t : Int) + 1 := by omega
              have htz : (t : Int) < ((opens l0).length : Int) := by omega
              have hso' := hso (by omega)
              rw [Nat.add_sub_cancel] at hso'
              obtain ⟨ad', e', p0, p1, p2, p3, p4, p5, p6, p7⟩ := at_T24 (Kd.C_below HS5.out HBr.out) (t : Int) (by omega) (by omega)
              obtain rfl : ad = ad' := Option.some.inj e'
              have hx' : rd_T24 (opens l0) (t : Int) = (opens l0).getD t z24 := rfl
              rw [hx'] at p0 p1 p2 p3 p4 p5 p6 p7
              rw [Int.toNat_natCast] at p0 p1 p2 p3 p4 p5 p6 p7
              have h5b : (((opens l0).getD (t + 1) z24).f5 != 1) = false := by rw [h5]; rfl
              clear h5 hso hx hj hj0 hx' e'
              generalize (opens l0).getD (t + 1) z24 = x at q0 q1 q2 q3 q4 q5 q6 q7 h5b hso'
              generalize (opens l0).getD t z24 = y at p0 p1 p2 p3 p4 p5 p6 p7 hso'
              have k0 := fun n os => cell_regrown q0 n os
              have k1 := fun n os => cell_regrown q1 n os
              have k2 := fun n os => cell_regrown q2 n os
              have k3 := fun n os => cell_regrown q3 n os
              have k4 := fun n os => cell_regrown q4 n os
              have k5 := fun n os => cell_regrown q5 n os
              have k6 := fun n os => cell_regrown q6 n os
              have k7 := fun n os => cell_regrown q7 n os
              have k_0 := fun n os => cell_regrown p0 n os
              have k_1 := fun n os => cell_regrown p1 n os
              have k_2 := fun n os => cell_regrown p2 n os
              have k_3 := fun n os => cell_regrown p3 n os
              have k_4 := fun n os => cell_regrown p4 n os
              have k_5 := fun n os => cell_regrown p5 n os
              have k_6 := fun n os => cell_regrown p6 n os
              have k_7 := fun n os => cell_regrown p7 n os
              have hcmp := fun n os => cmp_reg wr y x n os
              have hcz : ¬ lineCmp y x > 0 := by omega
              have hcb : decide (lineCmp y x > 0) = false := decide_eq_false hcz
              generalize lineCmp y x = q at hcmp hcz hcb
              clear q0 q1 q2 q3 q4 q5 q6 q7 p0 p1 p2 p3 p4 p5 p6 p7 hso'
              go_wp2_with fail
              refine wp_region_quiet_below (by kernel_rfl) (by kernel_rfl) ?_
              repeat (first | go_big_quiet_step ((go_at_call 10; (with_reducible exact hcmp _ _))) | quiet_step ((go_at_call 10; (with_reducible exact hcmp _ _))))
              refine wpQuiet_nil ?_
              intro _ hw'
              obtain ⟨⟨nq, osq⟩, hw''⟩ := hw'
              subst hw''
              have HBq := Lib.hid (below_then HBr.out HBr.out.size (below_regrown wr nq osq))
              generalize grow (redrawn wr nq) osq = wq at HBq ⊢
              clear k0 k1 k2 k3 k4 k5 k6 k7 k_0 k_1 k_2 k_3 k_4 k_5 k_6 k_7 hcmp
              go_wp2_with fail
              go_roundg (gk - 1)
              case measure => have := HJ.out; have := HJJ.out; omega
              case rel => exact ⟨t + 1 + 1, by go_num, by have := HJJ.out; have := HOP.out; have := HLEN.out; omega, Lib.hid ⟨by have := HJJ.out; omega, by have := HJ.out; have := HJJ.out; omega⟩, HBq⟩
          · have hz : ¬ (j : Int) < ((opens l0).length : Int) := by omega
            clear hj
            go_wp2_with fail
            have a_0 : ∀ n os, (grow (redrawn wr n) os).cell? ⟨w.heap.size, 0, none⟩ = some (.int .i64 a.f0) := fun n os => cell_regrown ((blk_cell (blk_below HA5.out HBr.out) 0).trans rfl) n os
            have a_1 : ∀ n os, (grow (redrawn wr n) os).cell? ⟨w.heap.size, 1, none⟩ = some (.string a.f1) := fun n os => cell_regrown ((blk_cell (blk_below HA5.out HBr.out) 1).trans rfl) n os
            have a_2 : ∀ n os, (grow (redrawn wr n) os).cell? ⟨w.heap.size, 2, none⟩ = some (.int .i64 a.f2) := fun n os => cell_regrown ((blk_cell (blk_below HA5.out HBr.out) 2).trans rfl) n os
            have a_3 : ∀ n os, (grow (redrawn wr n) os).cell? ⟨w.heap.size, 3, none⟩ = some (.int .i64 a.f3) := fun n os => cell_regrown ((blk_cell (blk_below HA5.out HBr.out) 3).trans rfl) n os
            have a_4 : ∀ n os, (grow (redrawn wr n) os).cell? ⟨w.heap.size, 4, none⟩ = some (.int .i64 a.f4) := fun n os => cell_regrown ((blk_cell (blk_below HA5.out HBr.out) 4).trans rfl) n os
            have a_5 : ∀ n os, (grow (redrawn wr n) os).cell? ⟨w.heap.size, 5, none⟩ = some (.int .u8 a.f5) := fun n os => cell_regrown ((blk_cell (blk_below HA5.out HBr.out) 5).trans rfl) n os
            have a_6 : ∀ n os, (grow (redrawn wr n) os).cell? ⟨w.heap.size, 6, none⟩ = some (.int .i64 a.f6) := fun n os => cell_regrown ((blk_cell (blk_below HA5.out HBr.out) 6).trans rfl) n os
            have a_7 : ∀ n os, (grow (redrawn wr n) os).cell? ⟨w.heap.size, 7, none⟩ = some (.string a.f7) := fun n os => cell_regrown ((blk_cell (blk_below HA5.out HBr.out) 7).trans rfl) n os
            have b_0 : ∀ n os, (grow (redrawn wr n) os).cell? ⟨w.heap.size + 1, 0, none⟩ = some (.int .i64 b.f0) := fun n os => cell_regrown ((blk_cell (blk_below HBB5.out HBr.out) 0).trans rfl) n os
            have b_1 : ∀ n os, (grow (redrawn wr n) os).cell? ⟨w.heap.size + 1, 1, none⟩ = some (.string b.f1) := fun n os => cell_regrown ((blk_cell (blk_below HBB5.out HBr.out) 1).trans rfl) n os
            have b_2 : ∀ n os, (grow (redrawn wr n) os).cell? ⟨w.heap.size + 1, 2, none⟩ = some (.int .i64 b.f2) := fun n os => cell_regrown ((blk_cell (blk_below HBB5.out HBr.out) 2).trans rfl) n os
            have b_3 : ∀ n os, (grow (redrawn wr n) os).cell? ⟨w.heap.size + 1, 3, none⟩ = some (.int .i64 b.f3) := fun n os => cell_regrown ((blk_cell (blk_below HBB5.out HBr.out) 3).trans rfl) n os
            have b_4 : ∀ n os, (grow (redrawn wr n) os).cell? ⟨w.heap.size + 1, 4, none⟩ = some (.int .i64 b.f4) := fun n os => cell_regrown ((blk_cell (blk_below HBB5.out HBr.out) 4).trans rfl) n os
            have b_5 : ∀ n os, (grow (redrawn wr n) os).cell? ⟨w.heap.size + 1, 5, none⟩ = some (.int .u8 b.f5) := fun n os => cell_regrown ((blk_cell (blk_below HBB5.out HBr.out) 5).trans rfl) n os
            have b_6 : ∀ n os, (grow (redrawn wr n) os).cell? ⟨w.heap.size + 1, 6, none⟩ = some (.int .i64 b.f6) := fun n os => cell_regrown ((blk_cell (blk_below HBB5.out HBr.out) 6).trans rfl) n os
            have b_7 : ∀ n os, (grow (redrawn wr n) os).cell? ⟨w.heap.size + 1, 7, none⟩ = some (.string b.f7) := fun n os => cell_regrown ((blk_cell (blk_below HBB5.out HBr.out) 7).trans rfl) n os
            have c_0 : ∀ n os, (grow (redrawn wr n) os).cell? ⟨w.heap.size + 1 + 1, 0, none⟩ = some (.int .i64 c.f0) := fun n os => cell_regrown ((blk_cell (blk_below HC5.out HBr.out) 0).trans rfl) n os
            have c_1 : ∀ n os, (grow (redrawn wr n) os).cell? ⟨w.heap.size + 1 + 1, 1, none⟩ = some (.string c.f1) := fun n os => cell_regrown ((blk_cell (blk_below HC5.out HBr.out) 1).trans rfl) n os
            have c_2 : ∀ n os, (grow (redrawn wr n) os).cell? ⟨w.heap.size + 1 + 1, 2, none⟩ = some (.int .i64 c.f2) := fun n os => cell_regrown ((blk_cell (blk_below HC5.out HBr.out) 2).trans rfl) n os
            have c_3 : ∀ n os, (grow (redrawn wr n) os).cell? ⟨w.heap.size + 1 + 1, 3, none⟩ = some (.int .i64 c.f3) := fun n os => cell_regrown ((blk_cell (blk_below HC5.out HBr.out) 3).trans rfl) n os
            have c_4 : ∀ n os, (grow (redrawn wr n) os).cell? ⟨w.heap.size + 1 + 1, 4, none⟩ = some (.int .i64 c.f4) := fun n os => cell_regrown ((blk_cell (blk_below HC5.out HBr.out) 4).trans rfl) n os
            have c_5 : ∀ n os, (grow (redrawn wr n) os).cell? ⟨w.heap.size + 1 + 1, 5, none⟩ = some (.int .u8 c.f5) := fun n os => cell_regrown ((blk_cell (blk_below HC5.out HBr.out) 5).trans rfl) n os
            have c_6 : ∀ n os, (grow (redrawn wr n) os).cell? ⟨w.heap.size + 1 + 1, 6, none⟩ = some (.int .i64 c.f6) := fun n os => cell_regrown ((blk_cell (blk_below HC5.out HBr.out) 6).trans rfl) n os
            have c_7 : ∀ n os, (grow (redrawn wr n) os).cell? ⟨w.heap.size + 1 + 1, 7, none⟩ = some (.string c.f7) := fun n os => cell_regrown ((blk_cell (blk_below HC5.out HBr.out) 7).trans rfl) n os
            have hab := fun n os => cmp_reg wr a b n os
            have hbc := fun n os => cmp_reg wr b c n os
            have hac := fun n os => cmp_reg wr a c n os
            have hT := Lib.hid (cmp_trans a b c)
            have hX := cmp_range a b
            have hY := cmp_range b c
            have hZ := cmp_range a c
            have HBA := Lib.hid (cmp_neg a b)
            generalize lineCmp a b = X at hab hT hX HBA
            generalize lineCmp b c = Y at hbc hT hY
            generalize lineCmp a c = Z at hac hT hZ
            refine wp_region_quiet_below (by kernel_rfl) (by kernel_rfl) ?_
            repeat (first | go_big_quiet_step ((go_at_call 10; first | (with_reducible exact hab _ _) | (with_reducible exact hbc _ _) | (with_reducible exact hac _ _))) | quiet_step ((go_at_call 10; first | (with_reducible exact hab _ _) | (with_reducible exact hbc _ _) | (with_reducible exact hac _ _))))
            refine wpQuiet_nil ?_
            intro _ hw'
            obtain ⟨⟨nq, osq⟩, hw''⟩ := hw'
            subst hw''
            have HBq := Lib.hid (below_then HBr.out HBr.out.size (below_regrown wr nq osq))
            generalize grow (redrawn wr nq) osq = wq at HBq ⊢
            clear hab hbc hac a_0 a_1 a_2 a_3 a_4 a_5 a_6 a_7 b_0 b_1 b_2 b_3 b_4 b_5 b_6 b_7 c_0 c_1 c_2 c_3 c_4 c_5 c_6 c_7
            have a_0 : wq.cell? ⟨w.heap.size, 0, none⟩ = some (.int .i64 a.f0) := (blk_cell (blk_below HA5.out HBq.out) 0).trans rfl
            have a_1 : wq.cell? ⟨w.heap.size, 1, none⟩ = some (.string a.f1) := (blk_cell (blk_below HA5.out HBq.out) 1).trans rfl
            have a_2 : wq.cell? ⟨w.heap.size, 2, none⟩ = some (.int .i64 a.f2) := (blk_cell (blk_below HA5.out HBq.out) 2).trans rfl
            have a_3 : wq.cell? ⟨w.heap.size, 3, none⟩ = some (.int .i64 a.f3) := (blk_cell (blk_below HA5.out HBq.out) 3).trans rfl
            have a_4 : wq.cell? ⟨w.heap.size, 4, none⟩ = some (.int .i64 a.f4) := (blk_cell (blk_below HA5.out HBq.out) 4).trans rfl
            have a_5 : wq.cell? ⟨w.heap.size, 5, none⟩ = some (.int .u8 a.f5) := (blk_cell (blk_below HA5.out HBq.out) 5).trans rfl
            have a_6 : wq.cell? ⟨w.heap.size, 6, none⟩ = some (.int .i64 a.f6) := (blk_cell (blk_below HA5.out HBq.out) 6).trans rfl
            have a_7 : wq.cell? ⟨w.heap.size, 7, none⟩ = some (.string a.f7) := (blk_cell (blk_below HA5.out HBq.out) 7).trans rfl
            have b_0 : wq.cell? ⟨w.heap.size + 1, 0, none⟩ = some (.int .i64 b.f0) := (blk_cell (blk_below HBB5.out HBq.out) 0).trans rfl
            have b_1 : wq.cell? ⟨w.heap.size + 1, 1, none⟩ = some (.string b.f1) := (blk_cell (blk_below HBB5.out HBq.out) 1).trans rfl
            have b_2 : wq.cell? ⟨w.heap.size + 1, 2, none⟩ = some (.int .i64 b.f2) := (blk_cell (blk_below HBB5.out HBq.out) 2).trans rfl
            have b_3 : wq.cell? ⟨w.heap.size + 1, 3, none⟩ = some (.int .i64 b.f3) := (blk_cell (blk_below HBB5.out HBq.out) 3).trans rfl
            have b_4 : wq.cell? ⟨w.heap.size + 1, 4, none⟩ = some (.int .i64 b.f4) := (blk_cell (blk_below HBB5.out HBq.out) 4).trans rfl
            have b_5 : wq.cell? ⟨w.heap.size + 1, 5, none⟩ = some (.int .u8 b.f5) := (blk_cell (blk_below HBB5.out HBq.out) 5).trans rfl
            have b_6 : wq.cell? ⟨w.heap.size + 1, 6, none⟩ = some (.int .i64 b.f6) := (blk_cell (blk_below HBB5.out HBq.out) 6).trans rfl
            have b_7 : wq.cell? ⟨w.heap.size + 1, 7, none⟩ = some (.string b.f7) := (blk_cell (blk_below HBB5.out HBq.out) 7).trans rfl
            have hX' : X = -1 ∨ X = 0 ∨ X = 1 := by omega
            have hY' : Y = -1 ∨ Y = 0 ∨ Y = 1 := by omega
            have hZ' : Z = -1 ∨ Z = 0 ∨ Z = 1 := by omega
            have hm := HM.out
            clear HM
            subst hm
            clear hX hY hZ
            rcases hX' with rfl | rfl | rfl <;> rcases hY' with rfl | rfl | rfl <;> rcases hZ' with rfl | rfl | rfl <;> first | (exfalso; have := hT.out; revert this; decide) | skip
            all_goals
              go_wp2_with fail
              refine (cmp_lit wq b a).mono ?_
              rintro e wz ⟨rfl, hb⟩
              rw [HBA.out]
              clear a_0 a_1 a_2 a_3 a_4 a_5 a_6 a_7 b_0 b_1 b_2 b_3 b_4 b_5 b_6 b_7
              have HBz := Lib.hid (below_then HBq.out HBq.out.size hb)
              clear hb
              have a_0 : wz.cell? ⟨w.heap.size, 0, none⟩ = some (.int .i64 a.f0) := (blk_cell (blk_below HA5.out HBz.out) 0).trans rfl
              have a_1 : wz.cell? ⟨w.heap.size, 1, none⟩ = some (.string a.f1) := (blk_cell (blk_below HA5.out HBz.out) 1).trans rfl
              have a_2 : wz.cell? ⟨w.heap.size, 2, none⟩ = some (.int .i64 a.f2) := (blk_cell (blk_below HA5.out HBz.out) 2).trans rfl
              have a_3 : wz.cell? ⟨w.heap.size, 3, none⟩ = some (.int .i64 a.f3) := (blk_cell (blk_below HA5.out HBz.out) 3).trans rfl
              have a_4 : wz.cell? ⟨w.heap.size, 4, none⟩ = some (.int .i64 a.f4) := (blk_cell (blk_below HA5.out HBz.out) 4).trans rfl
              have a_5 : wz.cell? ⟨w.heap.size, 5, none⟩ = some (.int .u8 a.f5) := (blk_cell (blk_below HA5.out HBz.out) 5).trans rfl
              have a_6 : wz.cell? ⟨w.heap.size, 6, none⟩ = some (.int .i64 a.f6) := (blk_cell (blk_below HA5.out HBz.out) 6).trans rfl
              have a_7 : wz.cell? ⟨w.heap.size, 7, none⟩ = some (.string a.f7) := (blk_cell (blk_below HA5.out HBz.out) 7).trans rfl
              go_wp2_with fail
              refine (cmp_lit wz a a).mono ?_
              rintro e wy ⟨rfl, hb⟩
              rw [cmp_self]
              have HBy := Lib.hid (below_then HBz.out HBz.out.size hb)
              clear hb
              go_wp2_with fail
              go_ret
              exact ⟨rfl, below_then HW5.out HW5.out.size HBy.out⟩
def storemanlaw09_RankOrder.f (k : Nat) (l0 : List S24) (a1_0 : Int) (a1_1 : ByteArray) (a1_2 : Int) (a1_3 : Int) (a1_4 : Int) (a1_5 : Int) (a1_6 : Int) (a1_7 : ByteArray) (a2_0 : Int) (a2_1 : ByteArray) (a2_2 : Int) (a2_3 : Int) (a2_4 : Int) (a2_5 : Int) (a2_6 : Int) (a2_7 : ByteArray) (a3_0 : Int) (a3_1 : ByteArray) (a3_2 : Int) (a3_3 : Int) (a3_4 : Int) (a3_5 : Int) (a3_6 : Int) (a3_7 : ByteArray) : Option Bool := if l0.length ≤ 9223372036854775807 then some true else none
theorem storemanlaw09_RankOrder.calls (k : Nat) (A0 : Option Addr) (c0 : Nat) (l0 : List S24) (a1_0 : Int) (a1_1 : ByteArray) (a1_2 : Int) (a1_3 : Int) (a1_4 : Int) (a1_5 : Int) (a1_6 : Int) (a1_7 : ByteArray) (a2_0 : Int) (a2_1 : ByteArray) (a2_2 : Int) (a2_3 : Int) (a2_4 : Int) (a2_5 : Int) (a2_6 : Int) (a2_7 : ByteArray) (a3_0 : Int) (a3_1 : ByteArray) (a3_2 : Int) (a3_3 : Int) (a3_4 : Int) (a3_5 : Int) (a3_6 : Int) (a3_7 : ByteArray) (r : Bool) (w : World) (hr0 : Kd.C k24 w A0 l0.length l0) (hc0 : l0.length ≤ c0) (h : storemanlaw09_RankOrder.f k l0 a1_0 a1_1 a1_2 a1_3 a1_4 a1_5 a1_6 a1_7 a2_0 a2_1 a2_2 a2_3 a2_4 a2_5 a2_6 a2_7 a3_0 a3_1 a3_2 a3_3 a3_4 a3_5 a3_6 a3_7 = some r) :
    Calls Try.prog 6 #[.slice A0 l0.length c0, .agg #[.int .i64 a1_0, .string a1_1, .int .i64 a1_2, .int .i64 a1_3, .int .i64 a1_4, .int .u8 a1_5, .int .i64 a1_6, .string a1_7], .agg #[.int .i64 a2_0, .string a2_1, .int .i64 a2_2, .int .i64 a2_3, .int .i64 a2_4, .int .u8 a2_5, .int .i64 a2_6, .string a2_7], .agg #[.int .i64 a3_0, .string a3_1, .int .i64 a3_2, .int .i64 a3_3, .int .i64 a3_4, .int .u8 a3_5, .int .i64 a3_6, .string a3_7]] w fun e w' => e = .returned (.bool r) ∧ RowKit.Below w.heap.size w w' := by
  unfold storemanlaw09_RankOrder.f at h
  by_cases hl : l0.length ≤ 9223372036854775807
  · rw [if_pos hl] at h
    obtain rfl := Option.some.inj h
    exact RankOrder_walk A0 c0 l0 ⟨a1_0, a1_1, a1_2, a1_3, a1_4, a1_5, a1_6, a1_7⟩ ⟨a2_0, a2_1, a2_2, a2_3, a2_4, a2_5, a2_6, a2_7⟩ ⟨a3_0, a3_1, a3_2, a3_3, a3_4, a3_5, a3_6, a3_7⟩ w hr0 hc0 hl
  · rw [if_neg hl] at h; cases h
end Go.Proofs.Ytokmkjgbhlcngaa.Q
