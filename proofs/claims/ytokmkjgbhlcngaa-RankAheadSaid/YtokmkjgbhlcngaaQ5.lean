-- PRINTED by print.py (a twelfth state) out of the translation. Not trusted: Lean checks it.
import Derived.Test.YtokmkjgbhlcngaaQ0
import Derived.Test.YtokmkjgbhlcngaaQ1
namespace Go.Proofs.Ytokmkjgbhlcngaa.Q
open Go.RowKit Go.Proofs.YtokmkjgbhlcngaaW.PrintWords Go.Proofs.YtokmkjgbhlcngaaW.PrintLast Go.Proofs.YtokmkjgbhlcngaaW.PrintMore
attribute [local go_sem] max2_int min2_int max_two min_two max_three min_three max_four min_four   -- for this text's walks alone
set_option linter.unusedVariables false
set_option linter.unusedSimpArgs false

attribute [local go_sem high] eqA24
/-! ### storemanlaw09_count: function 25 -/
def storemanlaw09_count.l0 : Nat → List (S24) → Int → Int → Int → ByteArray → Int → Int → Int → Int → Int → ByteArray → Option (Int)
  | 0, _, _, _, _, _, _, _, _, _, _, _ => none
  | k + 1, x0, x5, x6, x195000, x195001, x195002, x195003, x195004, x195005, x195006, x195007 => if x6 < (x0.length : Int) then (if 0 ≤ x6 then (if (((rd_T24 x0 x6).f0) == x195000 && ((((rd_T24 x0 x6).f1).toList) == x195001.toList && (((rd_T24 x0 x6).f2) == x195002 && (((rd_T24 x0 x6).f3) == x195003 && (((rd_T24 x0 x6).f4) == x195004 && (((rd_T24 x0 x6).f5) == x195005 && (((rd_T24 x0 x6).f6) == x195006 && ((((rd_T24 x0 x6).f7).toList) == x195007.toList)))))))) = true then (storemanlaw09_count.l0 k x0 (wrap64 (x5 + 1)) (wrap64 (x6 + 1)) x195000 x195001 x195002 x195003 x195004 x195005 x195006 x195007) else (storemanlaw09_count.l0 k x0 x5 (wrap64 (x6 + 1)) x195000 x195001 x195002 x195003 x195004 x195005 x195006 x195007)) else (none)) else (some x5)
def storemanlaw09_count.f (k : Nat) (l0 : List (S24)) (a1_0 : Int) (a1_1 : ByteArray) (a1_2 : Int) (a1_3 : Int) (a1_4 : Int) (a1_5 : Int) (a1_6 : Int) (a1_7 : ByteArray) : Option (Int) := storemanlaw09_count.l0 k l0 0 0 a1_0 a1_1 a1_2 a1_3 a1_4 a1_5 a1_6 a1_7
theorem storemanlaw09_count.mono_l : ∀ k, (∀ y0 y1 y2 y3 y4 y5 y6 y7 y8 y9 y10, LeO (storemanlaw09_count.l0 k y0 y1 y2 y3 y4 y5 y6 y7 y8 y9 y10) (storemanlaw09_count.l0 (k + 1) y0 y1 y2 y3 y4 y5 y6 y7 y8 y9 y10))
  | 0 => fun _ _ _ _ _ _ _ _ _ _ _ r h => by simp [storemanlaw09_count.l0] at h
  | k + 1 => by
    have ih0 := storemanlaw09_count.mono_l k
    · intro y0 y1 y2 y3 y4 y5 y6 y7 y8 y9 y10
      unfold storemanlaw09_count.l0
      repeat' first
      | (with_reducible exact ih0 _ _ _ _ _ _ _ _ _ _ _)
      | (with_reducible exact LeO.refl _)
      | (with_reducible exact LeO.none _)
      | (with_reducible refine LeO.ite ?_ ?_)
      | (with_reducible refine LeO.bind ?_ (fun _ => ?_))
      | exact ih0 _ _ _ _ _ _ _ _ _ _ _
      | exact LeO.none _
      | refine LeO.ite ?_ ?_
      | refine LeO.bind ?_ (fun _ => ?_)
theorem storemanlaw09_count.mono : ∀ a0 a1 a2 a3 a4 a5 a6 a7 a8 k, LeO (storemanlaw09_count.f k a0 a1 a2 a3 a4 a5 a6 a7 a8) (storemanlaw09_count.f (k + 1) a0 a1 a2 a3 a4 a5 a6 a7 a8) := by
  intro a0 a1 a2 a3 a4 a5 a6 a7 a8 k
  have ih0 := storemanlaw09_count.mono_l k
  unfold storemanlaw09_count.f
  repeat' first
      | (with_reducible exact ih0 _ _ _ _ _ _ _ _ _ _ _)
      | (with_reducible exact LeO.refl _)
      | (with_reducible exact LeO.none _)
      | (with_reducible refine LeO.ite ?_ ?_)
      | (with_reducible refine LeO.bind ?_ (fun _ => ?_))
      | exact ih0 _ _ _ _ _ _ _ _ _ _ _
      | exact LeO.none _
      | refine LeO.ite ?_ ?_
      | refine LeO.bind ?_ (fun _ => ?_)
set_option maxHeartbeats 8000000 in
set_option maxRecDepth 100000 in
theorem storemanlaw09_count.calls (k : Nat) (A0 : Option Addr) (c0 : Nat) (l0 : List (S24)) (a1_0 : Int) (a1_1 : ByteArray) (a1_2 : Int) (a1_3 : Int) (a1_4 : Int) (a1_5 : Int) (a1_6 : Int) (a1_7 : ByteArray) (r : Int) (w : World) (hr0 : Kd.C k24 w A0 l0.length l0) (hc0 : l0.length ≤ c0) (h : storemanlaw09_count.f k l0 a1_0 a1_1 a1_2 a1_3 a1_4 a1_5 a1_6 a1_7 = some r) :
    Calls Try.prog 25 #[.slice A0 l0.length c0, .agg #[.int .i64 a1_0, .string a1_1, .int .i64 a1_2, .int .i64 a1_3, .int .i64 a1_4, .int .u8 a1_5, .int .i64 a1_6, .string a1_7]] w fun e w' => e = .returned (.int .i64 r) ∧ Below w.heap.size w w' := by
  have hu24 := Try.underlying24
  have HR0 := Aside0.mk hr0
  have HC0 := Aside0.mk hc0
  clear hr0 hc0
  have HB := Aside0.mk (Below.refl w.heap.size w)
  have H : (storemanlaw09_count.l0 k l0 0 0 a1_0 a1_1 a1_2 a1_3 a1_4 a1_5 a1_6 a1_7) = some r := h
  clear h
  have H' := Aside0.mk H
  clear H
  go_enter Try.func25, Try.ntmps25
  go_wp2_with (first | ((with_reducible refine gate_dst (N := 3) rfl ?_); refine box_event ?hg (N := 3) ?hd (cs := #[.int .i64 a1_0, .string a1_1, .int .i64 a1_2, .int .i64 a1_3, .int .i64 a1_4, .int .u8 a1_5, .int .i64 a1_6, .string a1_7]) (t := 24) ?hr ?_; (case hd => rfl); (case hg => rfl); (case hr => first | (go_simp; done) | (go_simp; rfl)); intro gb194 hg w3 hbox hb; have n0_ := Aside0.mk (below_step (by repeat (first | (with_reducible first | exact HB.out | apply below_alloc | apply pw_below_drewN | apply below_drew1) | exact HB.out)) hb); have n1_ := Aside0.mk (hbox); have n2_ := Aside0.mk ((by rw [hg]; exact (below_size (by repeat (first | (with_reducible first | exact HB.out | apply below_alloc | apply pw_below_drewN | apply below_drew1) | exact HB.out))) : w.heap.size ≤ gb194)); have n3_ := Aside0.mk ((by rw [hg]; exact (below_size (by repeat (first | (with_reducible first | exact HB.out | apply below_alloc | apply pw_below_drewN | apply below_drew1) | exact HB.out))) : w.heap.size ≤ gb194)); clear HB; have HB := n0_; have BK194 := n1_; have GW194 := n2_; have GE194 := n3_; clear n0_ n1_ n2_ n3_; clear hb hbox hg))
  repeat (go_quiet (first | ((with_reducible refine gate_dst (N := 3) rfl ?_); refine box_event ?hg (N := 3) ?hd (cs := #[.int .i64 a1_0, .string a1_1, .int .i64 a1_2, .int .i64 a1_3, .int .i64 a1_4, .int .u8 a1_5, .int .i64 a1_6, .string a1_7]) (t := 24) ?hr ?_; (case hd => rfl); (case hg => rfl); (case hr => first | (go_simp; done) | (go_simp; rfl)); intro gb194 hg w3 hbox hb; have n0_ := Aside0.mk (below_step (by repeat (first | (with_reducible first | exact HB.out | apply below_alloc | apply pw_below_drewN | apply below_drew1) | exact HB.out)) hb); have n1_ := Aside0.mk (hbox); have n2_ := Aside0.mk ((by rw [hg]; exact (below_size (by repeat (first | (with_reducible first | exact HB.out | apply below_alloc | apply pw_below_drewN | apply below_drew1) | exact HB.out))) : w.heap.size ≤ gb194)); have n3_ := Aside0.mk ((by rw [hg]; exact (below_size (by repeat (first | (with_reducible first | exact HB.out | apply below_alloc | apply pw_below_drewN | apply below_drew1) | exact HB.out))) : w.heap.size ≤ gb194)); clear HB; have HB := n0_; have BK194 := n1_; have GW194 := n2_; have GE194 := n3_; clear n0_ n1_ n2_ n3_; clear hb hbox hg)); try go_wp2_with (first | ((with_reducible refine gate_dst (N := 3) rfl ?_); refine box_event ?hg (N := 3) ?hd (cs := #[.int .i64 a1_0, .string a1_1, .int .i64 a1_2, .int .i64 a1_3, .int .i64 a1_4, .int .u8 a1_5, .int .i64 a1_6, .string a1_7]) (t := 24) ?hr ?_; (case hd => rfl); (case hg => rfl); (case hr => first | (go_simp; done) | (go_simp; rfl)); intro gb194 hg w3 hbox hb; have n0_ := Aside0.mk (below_step (by repeat (first | (with_reducible first | exact HB.out | apply below_alloc | apply pw_below_drewN | apply below_drew1) | exact HB.out)) hb); have n1_ := Aside0.mk (hbox); have n2_ := Aside0.mk ((by rw [hg]; exact (below_size (by repeat (first | (with_reducible first | exact HB.out | apply below_alloc | apply pw_below_drewN | apply below_drew1) | exact HB.out))) : w.heap.size ≤ gb194)); have n3_ := Aside0.mk ((by rw [hg]; exact (below_size (by repeat (first | (with_reducible first | exact HB.out | apply below_alloc | apply pw_below_drewN | apply below_drew1) | exact HB.out))) : w.heap.size ≤ gb194)); clear HB; have HB := n0_; have BK194 := n1_; have GW194 := n2_; have GE194 := n3_; clear n0_ n1_ n2_ n3_; clear hb hbox hg)))
  go_loopg [5, 6] k (fun kq v5 v6 w' => ∃ (x5_1 : Int) (x6_1 : Int), v5 = .int .i64 x5_1 ∧ v6 = .int .i64 x6_1 ∧ Aside0 (storemanlaw09_count.l0 kq l0 x5_1 x6_1 a1_0 a1_1 a1_2 a1_3 a1_4 a1_5 a1_6 a1_7 = some r) ∧ Aside0 (kq ≤ k) ∧ Aside0 (w'.heap[gb194]? = some (.cells #[.int .i64 a1_0, .string a1_1, .int .i64 a1_2, .int .i64 a1_3, .int .i64 a1_4, .int .u8 a1_5, .int .i64 a1_6, .string a1_7] 24 (0, 0))) ∧ Aside0 (Below w.heap.size w w'))
  case atStart => exact ⟨(0), (0), (by first | rfl | (simp; done) | (simp [*]; done)), (by first | rfl | (simp; done) | (simp [*]; done)), H', ⟨Nat.le_refl _⟩, ⟨by (with_reducible repeat (first | refine blk_drewN ?_ _ | refine blk_drew ?_ | refine blk_alloc ?_ _)); exact BK194.out⟩, ⟨by repeat (first | (with_reducible first | exact HB.out | apply below_alloc | apply pw_below_drewN | apply below_drew1 | refine below_set ?_ GE194.out) | exact HB.out)⟩⟩
  case round =>
    clear H'
    try clear c2
    try clear p2
    obtain ⟨x5_1, x6_1, rfl, rfl, HA, HK1, BK194, HB⟩ := hrel
    cases gk with
    | zero => exact absurd HA.out (by simp [storemanlaw09_count.l0])
    | succ k1 =>
      have H := HA.out
      clear HA
      simp only [storemanlaw09_count.l0] at H
      by_cases c4 : x6_1 < (l0.length : Int)
      · rw [if_pos c4] at H
        have c4b0 : decide (x6_1 < (l0.length : Int)) = true := decide_eq_true c4
        clear c4
        by_cases c5 : 0 ≤ x6_1
        · rw [if_pos c5] at H
          have c5b0 : decide (0 ≤ x6_1) = true := decide_eq_true c5
          clear c5
          by_cases c6 : (((rd_T24 l0 x6_1).f0) == a1_0 && ((((rd_T24 l0 x6_1).f1).toList) == a1_1.toList && (((rd_T24 l0 x6_1).f2) == a1_2 && (((rd_T24 l0 x6_1).f3) == a1_3 && (((rd_T24 l0 x6_1).f4) == a1_4 && (((rd_T24 l0 x6_1).f5) == a1_5 && (((rd_T24 l0 x6_1).f6) == a1_6 && ((((rd_T24 l0 x6_1).f7).toList) == a1_7.toList)))))))) = true
          · rw [if_pos c6] at H
            have c6b0 : (((rd_T24 l0 x6_1).f0) == a1_0 && ((((rd_T24 l0 x6_1).f1).toList) == a1_1.toList && (((rd_T24 l0 x6_1).f2) == a1_2 && (((rd_T24 l0 x6_1).f3) == a1_3 && (((rd_T24 l0 x6_1).f4) == a1_4 && (((rd_T24 l0 x6_1).f5) == a1_5 && (((rd_T24 l0 x6_1).f6) == a1_6 && ((((rd_T24 l0 x6_1).f7).toList) == a1_7.toList)))))))) = true := c6
            (try (have c6b1 : decide (((rd_T24 l0 x6_1).f0) = a1_0 && ((((rd_T24 l0 x6_1).f1).toList) == a1_1.toList && (((rd_T24 l0 x6_1).f2) == a1_2 && (((rd_T24 l0 x6_1).f3) == a1_3 && (((rd_T24 l0 x6_1).f4) == a1_4 && (((rd_T24 l0 x6_1).f5) == a1_5 && (((rd_T24 l0 x6_1).f6) == a1_6 && ((((rd_T24 l0 x6_1).f7).toList) == a1_7.toList)))))))) = true := by simpa using c6))
            (try (have c6b2 : (((rd_T24 l0 x6_1).f0) == a1_0 && ((((rd_T24 l0 x6_1).f1).toList) == a1_1.toList && (((rd_T24 l0 x6_1).f2) == a1_2 && (((rd_T24 l0 x6_1).f3) == a1_3 && (((rd_T24 l0 x6_1).f4) == a1_4 && (((rd_T24 l0 x6_1).f5) == a1_5 && (((rd_T24 l0 x6_1).f6) == a1_6 && ((((rd_T24 l0 x6_1).f7).toList) == a1_7.toList)))))))) = true := by simpa using c6))
            clear c6
            have H' := Aside0.mk H
            clear H
            have p195 : 0 ≤ (x6_1 : Int) := of_decide_eq_true (by first | (with_reducible assumption) | assumption)
            have q195 : x6_1 < (l0.length : Int) := of_decide_eq_true (by first | (with_reducible assumption) | assumption)
            obtain ⟨ad195, e195, hx195_0, hx195_1, hx195_2, hx195_3, hx195_4, hx195_5, hx195_6, hx195_7⟩ := at_T24 HR0.out x6_1 p195 q195
            cases e195
            replace hx195_0 := (HB.out.cell (World.block_lt_of_cell? w _ hx195_0)).trans hx195_0
            replace hx195_1 := (HB.out.cell (World.block_lt_of_cell? w _ hx195_1)).trans hx195_1
            replace hx195_2 := (HB.out.cell (World.block_lt_of_cell? w _ hx195_2)).trans hx195_2
            replace hx195_3 := (HB.out.cell (World.block_lt_of_cell? w _ hx195_3)).trans hx195_3
            replace hx195_4 := (HB.out.cell (World.block_lt_of_cell? w _ hx195_4)).trans hx195_4
            replace hx195_5 := (HB.out.cell (World.block_lt_of_cell? w _ hx195_5)).trans hx195_5
            replace hx195_6 := (HB.out.cell (World.block_lt_of_cell? w _ hx195_6)).trans hx195_6
            replace hx195_7 := (HB.out.cell (World.block_lt_of_cell? w _ hx195_7)).trans hx195_7
            replace p195 := eq_true p195
            replace q195 := eq_true q195
            have hcz7_0 : wr.cell? ⟨gb194, 0, none⟩ = some (.int .i64 a1_0) := (blk_cell BK194.out 0).trans rfl
            have hcz7_1 : wr.cell? ⟨gb194, 1, none⟩ = some (.string a1_1) := (blk_cell BK194.out 1).trans rfl
            have hcz7_2 : wr.cell? ⟨gb194, 2, none⟩ = some (.int .i64 a1_2) := (blk_cell BK194.out 2).trans rfl
            have hcz7_3 : wr.cell? ⟨gb194, 3, none⟩ = some (.int .i64 a1_3) := (blk_cell BK194.out 3).trans rfl
            have hcz7_4 : wr.cell? ⟨gb194, 4, none⟩ = some (.int .i64 a1_4) := (blk_cell BK194.out 4).trans rfl
            have hcz7_5 : wr.cell? ⟨gb194, 5, none⟩ = some (.int .u8 a1_5) := (blk_cell BK194.out 5).trans rfl
            have hcz7_6 : wr.cell? ⟨gb194, 6, none⟩ = some (.int .i64 a1_6) := (blk_cell BK194.out 6).trans rfl
            have hcz7_7 : wr.cell? ⟨gb194, 7, none⟩ = some (.string a1_7) := (blk_cell BK194.out 7).trans rfl
            have hfz7_0 := blk_frozen BK194.out 0
            have hfz7_1 := blk_frozen BK194.out 1
            have hfz7_2 := blk_frozen BK194.out 2
            have hfz7_3 := blk_frozen BK194.out 3
            have hfz7_4 := blk_frozen BK194.out 4
            have hfz7_5 := blk_frozen BK194.out 5
            have hfz7_6 := blk_frozen BK194.out 6
            have hfz7_7 := blk_frozen BK194.out 7
            go_wp2
            repeat (go_quiet (fail); try go_wp2)
            go_roundg k1
            case measure => have := HK1.out; omega
            case rel => exact ⟨(wrap64 (x5_1 + 1)), (wrap64 (x6_1 + 1)), (by first | rfl | (simp; done) | (simp [*]; done)), (by first | rfl | (simp; done) | (simp [*]; done)), H', ⟨by have := HK1.out; omega⟩, ⟨by (with_reducible repeat (first | refine blk_drewN ?_ _ | refine blk_drew ?_ | refine blk_alloc ?_ _)); exact BK194.out⟩, ⟨by repeat (first | (with_reducible first | exact HB.out | apply below_alloc | apply pw_below_drewN | apply below_drew1 | refine below_set ?_ GE194.out) | exact HB.out)⟩⟩
          · rw [if_neg c6] at H
            have c6b0 : (((rd_T24 l0 x6_1).f0) == a1_0 && ((((rd_T24 l0 x6_1).f1).toList) == a1_1.toList && (((rd_T24 l0 x6_1).f2) == a1_2 && (((rd_T24 l0 x6_1).f3) == a1_3 && (((rd_T24 l0 x6_1).f4) == a1_4 && (((rd_T24 l0 x6_1).f5) == a1_5 && (((rd_T24 l0 x6_1).f6) == a1_6 && ((((rd_T24 l0 x6_1).f7).toList) == a1_7.toList)))))))) = false := by simpa using c6
            (try (have c6b1 : decide (((rd_T24 l0 x6_1).f0) = a1_0 && ((((rd_T24 l0 x6_1).f1).toList) == a1_1.toList && (((rd_T24 l0 x6_1).f2) == a1_2 && (((rd_T24 l0 x6_1).f3) == a1_3 && (((rd_T24 l0 x6_1).f4) == a1_4 && (((rd_T24 l0 x6_1).f5) == a1_5 && (((rd_T24 l0 x6_1).f6) == a1_6 && ((((rd_T24 l0 x6_1).f7).toList) == a1_7.toList)))))))) = false := by simpa using c6))
            (try (have c6b2 : (((rd_T24 l0 x6_1).f0) == a1_0 && ((((rd_T24 l0 x6_1).f1).toList) == a1_1.toList && (((rd_T24 l0 x6_1).f2) == a1_2 && (((rd_T24 l0 x6_1).f3) == a1_3 && (((rd_T24 l0 x6_1).f4) == a1_4 && (((rd_T24 l0 x6_1).f5) == a1_5 && (((rd_T24 l0 x6_1).f6) == a1_6 && ((((rd_T24 l0 x6_1).f7).toList) == a1_7.toList)))))))) = false := by simpa using c6))
            (try (have c6b3 : ¬ (((rd_T24 l0 x6_1).f0) = a1_0 && ((((rd_T24 l0 x6_1).f1).toList) == a1_1.toList && (((rd_T24 l0 x6_1).f2) == a1_2 && (((rd_T24 l0 x6_1).f3) == a1_3 && (((rd_T24 l0 x6_1).f4) == a1_4 && (((rd_T24 l0 x6_1).f5) == a1_5 && (((rd_T24 l0 x6_1).f6) == a1_6 && ((((rd_T24 l0 x6_1).f7).toList) == a1_7.toList)))))))) := by simpa using c6))
            clear c6
            have H' := Aside0.mk H
            clear H
            have p195 : 0 ≤ (x6_1 : Int) := of_decide_eq_true (by first | (with_reducible assumption) | assumption)
            have q195 : x6_1 < (l0.length : Int) := of_decide_eq_true (by first | (with_reducible assumption) | assumption)
            obtain ⟨ad195, e195, hx195_0, hx195_1, hx195_2, hx195_3, hx195_4, hx195_5, hx195_6, hx195_7⟩ := at_T24 HR0.out x6_1 p195 q195
            cases e195
            replace hx195_0 := (HB.out.cell (World.block_lt_of_cell? w _ hx195_0)).trans hx195_0
            replace hx195_1 := (HB.out.cell (World.block_lt_of_cell? w _ hx195_1)).trans hx195_1
            replace hx195_2 := (HB.out.cell (World.block_lt_of_cell? w _ hx195_2)).trans hx195_2
            replace hx195_3 := (HB.out.cell (World.block_lt_of_cell? w _ hx195_3)).trans hx195_3
            replace hx195_4 := (HB.out.cell (World.block_lt_of_cell? w _ hx195_4)).trans hx195_4
            replace hx195_5 := (HB.out.cell (World.block_lt_of_cell? w _ hx195_5)).trans hx195_5
            replace hx195_6 := (HB.out.cell (World.block_lt_of_cell? w _ hx195_6)).trans hx195_6
            replace hx195_7 := (HB.out.cell (World.block_lt_of_cell? w _ hx195_7)).trans hx195_7
            replace p195 := eq_true p195
            replace q195 := eq_true q195
            have hcz8_0 : wr.cell? ⟨gb194, 0, none⟩ = some (.int .i64 a1_0) := (blk_cell BK194.out 0).trans rfl
            have hcz8_1 : wr.cell? ⟨gb194, 1, none⟩ = some (.string a1_1) := (blk_cell BK194.out 1).trans rfl
            have hcz8_2 : wr.cell? ⟨gb194, 2, none⟩ = some (.int .i64 a1_2) := (blk_cell BK194.out 2).trans rfl
            have hcz8_3 : wr.cell? ⟨gb194, 3, none⟩ = some (.int .i64 a1_3) := (blk_cell BK194.out 3).trans rfl
            have hcz8_4 : wr.cell? ⟨gb194, 4, none⟩ = some (.int .i64 a1_4) := (blk_cell BK194.out 4).trans rfl
            have hcz8_5 : wr.cell? ⟨gb194, 5, none⟩ = some (.int .u8 a1_5) := (blk_cell BK194.out 5).trans rfl
            have hcz8_6 : wr.cell? ⟨gb194, 6, none⟩ = some (.int .i64 a1_6) := (blk_cell BK194.out 6).trans rfl
            have hcz8_7 : wr.cell? ⟨gb194, 7, none⟩ = some (.string a1_7) := (blk_cell BK194.out 7).trans rfl
            have hfz8_0 := blk_frozen BK194.out 0
            have hfz8_1 := blk_frozen BK194.out 1
            have hfz8_2 := blk_frozen BK194.out 2
            have hfz8_3 := blk_frozen BK194.out 3
            have hfz8_4 := blk_frozen BK194.out 4
            have hfz8_5 := blk_frozen BK194.out 5
            have hfz8_6 := blk_frozen BK194.out 6
            have hfz8_7 := blk_frozen BK194.out 7
            go_wp2
            repeat (go_quiet (fail); try go_wp2)
            go_roundg k1
            case measure => have := HK1.out; omega
            case rel => exact ⟨(x5_1), (wrap64 (x6_1 + 1)), (by first | rfl | (simp; done) | (simp [*]; done)), (by first | rfl | (simp; done) | (simp [*]; done)), H', ⟨by have := HK1.out; omega⟩, ⟨by (with_reducible repeat (first | refine blk_drewN ?_ _ | refine blk_drew ?_ | refine blk_alloc ?_ _)); exact BK194.out⟩, ⟨by repeat (first | (with_reducible first | exact HB.out | apply below_alloc | apply pw_below_drewN | apply below_drew1 | refine below_set ?_ GE194.out) | exact HB.out)⟩⟩
        · rw [if_neg c5] at H
          exact absurd H (by simp)
      · rw [if_neg c4] at H
        have c4b0 : decide (x6_1 < (l0.length : Int)) = false := decide_eq_false c4
        clear c4
        obtain rfl := Option.some.inj H
        go_wp2
        repeat (go_quiet (fail); try go_wp2)
        go_ret
        exact ⟨by first | rfl | (simp [errW_none, errW_some] <;> rfl) | (simp [*, errW_none, errW_some] <;> rfl), by repeat (first | (with_reducible first | exact HB.out | apply below_alloc | apply pw_below_drewN | apply below_drew1 | refine below_set ?_ GE194.out) | exact HB.out)⟩

-- NOT PRINTED: function 6 (storemanlaw09_RankOrder)

/-! ### storemankit_Pick: function 26 -/
def storemankit_Pick.f (a0 : Int) (a1 : Int) : Option (Int) := if a1 < 1 then (some 0) else (if a1 = 0 then (none) else (if (Int.tmod a0 a1) < 0 then (some (wrap64 ((Int.tmod a0 a1) + a1))) else (some (Int.tmod a0 a1))))
set_option maxHeartbeats 8000000 in
set_option maxRecDepth 100000 in
theorem storemankit_Pick.calls (a0 : Int) (a1 : Int) (r : Int) (w : World) (h : storemankit_Pick.f a0 a1 = some r) :
    Calls Try.prog 26 #[.int .i64 a0, .int .i64 a1] w fun e w' => e = .returned (.int .i64 r) ∧ Drawn0 w w' := by
  have H : (if a1 < 1 then (some 0) else (if a1 = 0 then (none) else (if (Int.tmod a0 a1) < 0 then (some (wrap64 ((Int.tmod a0 a1) + a1))) else (some (Int.tmod a0 a1))))) = some r := h
  clear h
  by_cases c3 : a1 < 1
  · rw [if_pos c3] at H
    have c3b0 : decide (a1 < 1) = true := decide_eq_true c3
    clear c3
    obtain rfl := Option.some.inj H
    go_enter Try.func26, Try.ntmps26
    go_wp2
    go_ret
    exact ⟨by first | rfl | (simp; done) | (simp [*]; done), by repeat (first | exact Drawn0.refl _ | apply Drawn0.step)⟩
  · rw [if_neg c3] at H
    have c3b0 : decide (a1 < 1) = false := decide_eq_false c3
    clear c3
    by_cases c4 : a1 = 0
    · rw [if_pos c4] at H
      exact absurd H (by simp)
    · rw [if_neg c4] at H
      have c4b0 : (a1 == 0) = false := beq_eq_false_iff_ne.mpr c4
      have c4b1 : (a1 != 0) = true := bne_iff_ne.mpr c4
      by_cases c5 : (Int.tmod a0 a1) < 0
      · rw [if_pos c5] at H
        have c5b0 : decide ((Int.tmod a0 a1) < 0) = true := decide_eq_true c5
        clear c5
        obtain rfl := Option.some.inj H
        go_enter Try.func26, Try.ntmps26
        go_wp2
        go_ret
        exact ⟨by first | rfl | (simp; done) | (simp [*]; done), by repeat (first | exact Drawn0.refl _ | apply Drawn0.step)⟩
      · rw [if_neg c5] at H
        have c5b0 : decide ((Int.tmod a0 a1) < 0) = false := decide_eq_false c5
        clear c5
        obtain rfl := Option.some.inj H
        go_enter Try.func26, Try.ntmps26
        go_wp2
        go_ret
        exact ⟨by first | rfl | (simp; done) | (simp [*]; done), by repeat (first | exact Drawn0.refl _ | apply Drawn0.step)⟩

-- NOT PRINTED: function 7 (storemanlaw09_RankAhead)

end Go.Proofs.Ytokmkjgbhlcngaa.Q
