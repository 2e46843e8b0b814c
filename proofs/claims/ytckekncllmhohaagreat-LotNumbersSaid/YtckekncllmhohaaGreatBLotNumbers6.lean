/- What leads to LotNumbers: the functions' contracts and the plain laws under them. -/
import Derived.Below
import Derived.BigQuiet
import Derived.Deep.Cut
import Derived.Deep.LoopGhost
import Derived.Great.Walk
import Derived.KernelRfl
import Derived.Laws.AppendOwn
import Derived.Laws.IdiomCopy
import Derived.Lib.Hide
import Derived.Lib.QuietBelow
import Derived.Lib.Walk
import Derived.Outline
import Derived.OwnWalk
import Derived.Sort.Grow
import Derived.Test.YtckekncllmhohaaGreatProg
import Derived.WalkKit
import Derived.Test.YtckekncllmhohaaGreatVLotNumbers0
import Derived.Test.YtckekncllmhohaaGreatBLotNumbers0
import Derived.Test.YtckekncllmhohaaGreatBLotNumbers1
import Derived.Test.YtckekncllmhohaaGreatBLotNumbers2
import Derived.Test.YtckekncllmhohaaGreatBLotNumbers3
import Derived.Test.YtckekncllmhohaaGreatBLotNumbers4
import Derived.Test.YtckekncllmhohaaGreatBLotNumbers5
namespace Go.Proofs.YtckekncllmhohaaGreat.Q
open Go.RowKit Go.Proofs.YtckekncllmhohaaGreatW.PrintWords Go.Proofs.YtckekncllmhohaaGreatW.PrintLast Go.Proofs.YtckekncllmhohaaGreatW.PrintMore
attribute [local go_sem] max2_int min2_int max_two min_two max_three min_three max_four min_four   -- for this text's walks alone
set_option linter.unusedVariables false
set_option linter.unusedSimpArgs false

def storemanref04_Sweep.l0 : Nat → List (S41) → Int → List (S41) → List (S41) → Int → Option ((List (S41)) × (List (S41)))
  | 0, _, _, _, _, _ => none
  | k + 1, x0, x1, x6, x7, x8 => if x8 < (x0.length : Int) then (if 0 ≤ x8 then (if (rd_T41 x0 x8).f4 = true then (if ((rd_T41 x0 x8).f2.f1) ≤ x1 then (if x7.length < 2513169434916 then (storemanref04_Sweep.l0 k x0 x1 x6 (x7 ++ [(⟨(rd_T41 x0 x8).f0, (rd_T41 x0 x8).f1, (⟨(rd_T41 x0 x8).f2.f0, (rd_T41 x0 x8).f2.f1⟩ : S39), (rd_T41 x0 x8).f3, (rd_T41 x0 x8).f4⟩ : S41)]) (wrap64 (x8 + 1))) else (none)) else (if x6.length < 2513169434916 then (storemanref04_Sweep.l0 k x0 x1 (x6 ++ [(⟨(rd_T41 x0 x8).f0, (rd_T41 x0 x8).f1, (⟨(rd_T41 x0 x8).f2.f0, (rd_T41 x0 x8).f2.f1⟩ : S39), (rd_T41 x0 x8).f3, (rd_T41 x0 x8).f4⟩ : S41)]) x7 (wrap64 (x8 + 1))) else (none))) else (if x6.length < 2513169434916 then (storemanref04_Sweep.l0 k x0 x1 (x6 ++ [(⟨(rd_T41 x0 x8).f0, (rd_T41 x0 x8).f1, (⟨(rd_T41 x0 x8).f2.f0, (rd_T41 x0 x8).f2.f1⟩ : S39), (rd_T41 x0 x8).f3, (rd_T41 x0 x8).f4⟩ : S41)]) x7 (wrap64 (x8 + 1))) else (none))) else (none)) else (some (x6, x7))
def storemanref04_Sweep.f (k : Nat) (l0 : List (S41)) (a1 : Int) : Option ((List (S41)) × (List (S41))) := storemanref04_Sweep.l0 k l0 a1 ([] : List (S41)) ([] : List (S41)) 0
theorem storemanref04_Sweep.mono_l : ∀ k, (∀ y0 y1 y2 y3 y4, LeO (storemanref04_Sweep.l0 k y0 y1 y2 y3 y4) (storemanref04_Sweep.l0 (k + 1) y0 y1 y2 y3 y4))
  | 0 => fun _ _ _ _ _ r h => by simp [storemanref04_Sweep.l0] at h
  | k + 1 => by
    have ih0 := storemanref04_Sweep.mono_l k
    · intro y0 y1 y2 y3 y4
      unfold storemanref04_Sweep.l0
      repeat' first
      | (with_reducible exact ih0 _ _ _ _ _)
      | (with_reducible exact LeO.refl _)
      | (with_reducible exact LeO.none _)
      | (with_reducible refine LeO.ite ?_ ?_)
      | (with_reducible refine LeO.bind ?_ (fun _ => ?_))
      | exact ih0 _ _ _ _ _
      | exact LeO.none _
      | refine LeO.ite ?_ ?_
      | refine LeO.bind ?_ (fun _ => ?_)
theorem storemanref04_Sweep.mono : ∀ a0 a1 k, LeO (storemanref04_Sweep.f k a0 a1) (storemanref04_Sweep.f (k + 1) a0 a1) := by
  intro a0 a1 k
  have ih0 := storemanref04_Sweep.mono_l k
  unfold storemanref04_Sweep.f
  repeat' first
      | (with_reducible exact ih0 _ _ _ _ _)
      | (with_reducible exact LeO.refl _)
      | (with_reducible exact LeO.none _)
      | (with_reducible refine LeO.ite ?_ ?_)
      | (with_reducible refine LeO.bind ?_ (fun _ => ?_))
      | exact ih0 _ _ _ _ _
      | exact LeO.none _
      | refine LeO.ite ?_ ?_
      | refine LeO.bind ?_ (fun _ => ?_)
set_option maxHeartbeats 8000000 in
set_option maxRecDepth 100000 in
theorem storemanref04_Sweep.calls (k : Nat) (A0 : Option Addr) (c0 : Nat) (l0 : List (S41)) (a1 : Int) (r1 : List (S41)) (r2 : List (S41)) (w : World) (hr0 : Kd.C k41 w A0 l0.length l0) (hc0 : l0.length ≤ c0) (h : storemanref04_Sweep.f k l0 a1 = some (r1, r2)) :
    Calls Tryz.prog 14 #[.slice A0 l0.length c0, .int .i64 a1] w fun e w' => ∃ v0_ v1_ : Value, e = .returned (.tuple #[v0_, v1_]) ∧ Kd.R k41 41 w' w.heap.size (fun k_ => some k_ ≠ (v1_ : Value).ownBlock) v0_ r1 ∧ Kd.R k41 41 w' w.heap.size (fun k_ => some k_ ≠ (v0_ : Value).ownBlock) v1_ r2 ∧ Below w.heap.size w w' := by
  have hu41 := Tryz.underlying41
  have HR0 := Aside0.mk hr0
  have HC0 := Aside0.mk hc0
  clear hr0 hc0
  have HB := Aside0.mk (Below.refl w.heap.size w)
  have H : (storemanref04_Sweep.l0 k l0 a1 ([] : List (S41)) ([] : List (S41)) 0) = some (r1, r2) := h
  clear h
  have H' := Aside0.mk H
  clear H
  go_enter Tryz.func14, Tryz.ntmps14
  go_wp2
  go_loopg [6, 7, 8] k (fun kq v6 v7 v8 w' => ∃ (x6_1 : List (S41)) (x7_1 : List (S41)) (x8_1 : Int), v8 = .int .i64 x8_1 ∧ Aside0 (storemanref04_Sweep.l0 kq l0 a1 x6_1 x7_1 x8_1 = some (r1, r2)) ∧ Aside0 (kq ≤ k) ∧ Aside0 (Kd.R k41 41 w' w.heap.size (fun k_ => some k_ ≠ (v7 : Value).ownBlock) v6 x6_1) ∧ Aside0 (Kd.R k41 41 w' w.heap.size (fun k_ => some k_ ≠ (v6 : Value).ownBlock) v7 x7_1) ∧ Aside0 (Below w.heap.size w w'))
  case atStart => exact ⟨(([] : List (S41))), (([] : List (S41))), (0), (by first | rfl | (simp; done) | (simp [*]; done)), H', ⟨Nat.le_refl _⟩, ⟨by first | exact Kd.R_nil _ _ _ _ _ | exact Kd.N_nil _ _ _ _ _ | exact Kd.V_nil _ _ _ _ _ | exact Kd.Q_nil _ _ _ _ _ | exact Kd.S_nil _ _ _ _ _⟩, ⟨by first | exact Kd.R_nil _ _ _ _ _ | exact Kd.N_nil _ _ _ _ _ | exact Kd.V_nil _ _ _ _ _ | exact Kd.Q_nil _ _ _ _ _ | exact Kd.S_nil _ _ _ _ _⟩, ⟨by repeat (first | (with_reducible first | exact HB.out | apply below_alloc | apply pw_below_drewN | apply below_drew1) | exact HB.out)⟩⟩
  case round =>
    clear H'
    try clear c1
    try clear p2
    obtain ⟨x6_1, x7_1, x8_1, rfl, HA, HK1, HO_6, HO_7, HB⟩ := hrel
    cases gk with
    | zero => exact absurd HA.out (by simp [storemanref04_Sweep.l0])
    | succ k1 =>
      have H := HA.out
      clear HA
      simp only [storemanref04_Sweep.l0] at H
      by_cases c3 : x8_1 < (l0.length : Int)
      · rw [if_pos c3] at H
        have c3b0 : decide (x8_1 < (l0.length : Int)) = true := decide_eq_true c3
        clear c3
        by_cases c4 : 0 ≤ x8_1
        · rw [if_pos c4] at H
          have c4b0 : decide (0 ≤ x8_1) = true := decide_eq_true c4
          clear c4
          obtain ⟨bq5, hbq5⟩ : ∃ b_ : Bool, b_ = ((rd_T41 l0 x8_1).f4) := ⟨_, rfl⟩
          replace H : (if bq5 = true then (if ((rd_T41 l0 x8_1).f2.f1) ≤ a1 then (if x7_1.length < 2513169434916 then (storemanref04_Sweep.l0 k1 l0 a1 x6_1 (x7_1 ++ [(⟨(rd_T41 l0 x8_1).f0, (rd_T41 l0 x8_1).f1, (⟨(rd_T41 l0 x8_1).f2.f0, (rd_T41 l0 x8_1).f2.f1⟩ : S39), (rd_T41 l0 x8_1).f3, bq5⟩ : S41)]) (wrap64 (x8_1 + 1))) else (none)) else (if x6_1.length < 2513169434916 then (storemanref04_Sweep.l0 k1 l0 a1 (x6_1 ++ [(⟨(rd_T41 l0 x8_1).f0, (rd_T41 l0 x8_1).f1, (⟨(rd_T41 l0 x8_1).f2.f0, (rd_T41 l0 x8_1).f2.f1⟩ : S39), (rd_T41 l0 x8_1).f3, bq5⟩ : S41)]) x7_1 (wrap64 (x8_1 + 1))) else (none))) else (if x6_1.length < 2513169434916 then (storemanref04_Sweep.l0 k1 l0 a1 (x6_1 ++ [(⟨(rd_T41 l0 x8_1).f0, (rd_T41 l0 x8_1).f1, (⟨(rd_T41 l0 x8_1).f2.f0, (rd_T41 l0 x8_1).f2.f1⟩ : S39), (rd_T41 l0 x8_1).f3, bq5⟩ : S41)]) x7_1 (wrap64 (x8_1 + 1))) else (none))) = some (r1, r2) := by rw [← hbq5] at H; exact H
          have Nbq5 := Aside0.mk hbq5
          clear hbq5
          by_cases c6 : bq5 = true
          · subst c6
            have H1 : (if ((rd_T41 l0 x8_1).f2.f1) ≤ a1 then (if x7_1.length < 2513169434916 then (storemanref04_Sweep.l0 k1 l0 a1 x6_1 (x7_1 ++ [(⟨(rd_T41 l0 x8_1).f0, (rd_T41 l0 x8_1).f1, (⟨(rd_T41 l0 x8_1).f2.f0, (rd_T41 l0 x8_1).f2.f1⟩ : S39), (rd_T41 l0 x8_1).f3, true⟩ : S41)]) (wrap64 (x8_1 + 1))) else (none)) else (if x6_1.length < 2513169434916 then (storemanref04_Sweep.l0 k1 l0 a1 (x6_1 ++ [(⟨(rd_T41 l0 x8_1).f0, (rd_T41 l0 x8_1).f1, (⟨(rd_T41 l0 x8_1).f2.f0, (rd_T41 l0 x8_1).f2.f1⟩ : S39), (rd_T41 l0 x8_1).f3, true⟩ : S41)]) x7_1 (wrap64 (x8_1 + 1))) else (none))) = some (r1, r2) := by rw [if_pos rfl] at H; exact H
            clear H
            have H := H1
            clear H1
            by_cases c7 : ((rd_T41 l0 x8_1).f2.f1) ≤ a1
            · rw [if_pos c7] at H
              have c7b0 : decide (((rd_T41 l0 x8_1).f2.f1) ≤ a1) = true := decide_eq_true c7
              clear c7
              by_cases c8 : x7_1.length < 2513169434916
              · rw [if_pos c8] at H
                have LMc8 := Aside0.mk c8
                clear c8
                obtain ⟨y216, hy216⟩ : ∃ y_ : List (S41), y_ = (x7_1 ++ [(⟨(rd_T41 l0 x8_1).f0, (rd_T41 l0 x8_1).f1, (⟨(rd_T41 l0 x8_1).f2.f0, (rd_T41 l0 x8_1).f2.f1⟩ : S39), (rd_T41 l0 x8_1).f3, true⟩ : S41)]) := ⟨_, rfl⟩
                replace H : (storemanref04_Sweep.l0 k1 l0 a1 x6_1 y216 (wrap64 (x8_1 + 1))) = some (r1, r2) := by first | (rw [hy216]; with_reducible exact H) | (have H2_ := (Option.bind_some _ _).symm.trans H; rw [hy216]; with_reducible exact H2_) | (have H2_ := (Option.bind_some _ _).symm.trans H; with_reducible exact H2_) | with_reducible exact H | (rw [hy216]; exact H) | exact H
                have Ny216 := Aside0.mk hy216
                clear hy216
                have H' := Aside0.mk H
                clear H
                have p213 : 0 ≤ (x8_1 : Int) := of_decide_eq_true (by first | (with_reducible assumption) | assumption)
                have q213 : x8_1 < (l0.length : Int) := of_decide_eq_true (by first | (with_reducible assumption) | assumption)
                obtain ⟨ad213, e213, hx213_0, hx213_1, hx213_2, hx213_3, hx213_4, hx213_5⟩ := at_T41 HR0.out x8_1 p213 q213
                (try rw [← Nbq5.out] at hx213_5)
                cases e213
                replace hx213_0 := (HB.out.cell (World.block_lt_of_cell? w _ hx213_0)).trans hx213_0
                replace hx213_1 := (HB.out.cell (World.block_lt_of_cell? w _ hx213_1)).trans hx213_1
                replace hx213_2 := (HB.out.cell (World.block_lt_of_cell? w _ hx213_2)).trans hx213_2
                replace hx213_3 := (HB.out.cell (World.block_lt_of_cell? w _ hx213_3)).trans hx213_3
                replace hx213_4 := (HB.out.cell (World.block_lt_of_cell? w _ hx213_4)).trans hx213_4
                replace hx213_5 := (HB.out.cell (World.block_lt_of_cell? w _ hx213_5)).trans hx213_5
                replace p213 := eq_true p213
                replace q213 := eq_true q213
                have p214 : 0 ≤ (x8_1 : Int) := of_decide_eq_true (by first | (with_reducible assumption) | assumption)
                have q214 : x8_1 < (l0.length : Int) := of_decide_eq_true (by first | (with_reducible assumption) | assumption)
                obtain ⟨ad214, e214, hx214_0, hx214_1, hx214_2, hx214_3, hx214_4, hx214_5⟩ := at_T41 HR0.out x8_1 p214 q214
                (try rw [← Nbq5.out] at hx214_5)
                obtain rfl : ad213 = ad214 := (by injection e214)
                replace hx214_0 := (HB.out.cell (World.block_lt_of_cell? w _ hx214_0)).trans hx214_0
                replace hx214_1 := (HB.out.cell (World.block_lt_of_cell? w _ hx214_1)).trans hx214_1
                replace hx214_2 := (HB.out.cell (World.block_lt_of_cell? w _ hx214_2)).trans hx214_2
                replace hx214_3 := (HB.out.cell (World.block_lt_of_cell? w _ hx214_3)).trans hx214_3
                replace hx214_4 := (HB.out.cell (World.block_lt_of_cell? w _ hx214_4)).trans hx214_4
                replace hx214_5 := (HB.out.cell (World.block_lt_of_cell? w _ hx214_5)).trans hx214_5
                replace p214 := eq_true p214
                replace q214 := eq_true q214
                have p215 : 0 ≤ (x8_1 : Int) := of_decide_eq_true (by first | (with_reducible assumption) | assumption)
                have q215 : x8_1 < (l0.length : Int) := of_decide_eq_true (by first | (with_reducible assumption) | assumption)
                obtain ⟨ad215, e215, hx215_0, hx215_1, hx215_2, hx215_3, hx215_4, hx215_5⟩ := at_T41 HR0.out x8_1 p215 q215
                (try rw [← Nbq5.out] at hx215_5)
                obtain rfl : ad213 = ad215 := (by injection e215)
                replace hx215_0 := (HB.out.cell (World.block_lt_of_cell? w _ hx215_0)).trans hx215_0
                replace hx215_1 := (HB.out.cell (World.block_lt_of_cell? w _ hx215_1)).trans hx215_1
                replace hx215_2 := (HB.out.cell (World.block_lt_of_cell? w _ hx215_2)).trans hx215_2
                replace hx215_3 := (HB.out.cell (World.block_lt_of_cell? w _ hx215_3)).trans hx215_3
                replace hx215_4 := (HB.out.cell (World.block_lt_of_cell? w _ hx215_4)).trans hx215_4
                replace hx215_5 := (HB.out.cell (World.block_lt_of_cell? w _ hx215_5)).trans hx215_5
                replace p215 := eq_true p215
                replace q215 := eq_true q215
                go_wp2_with (first | ((with_reducible refine gate_builtin (b := .append) (xs := #[.tmp 30, .tmp 35]) rfl ?_); at_builtin; refine Kd.R_append k41 (w0 := w) w.heap.size rfl (.tmp 30) (.tmp 35) 22 41 (.agg #[(.int .i64 0), (.string ⟨#[]⟩), (.int .i64 0), (.int .i64 0), (.int .i64 0), (.bool false)]) 56 rfl Tryz.underlying22 info41 rfl (by decide) (by omega) u7 x7_1 (⟨(rd_T41 l0 x8_1).f0, (rd_T41 l0 x8_1).f1, (⟨(rd_T41 l0 x8_1).f2.f0, (rd_T41 l0 x8_1).f2.f1⟩ : S39), (rd_T41 l0 x8_1).f3, true⟩ : S41) [.int .i64 ((rd_T41 l0 x8_1).f0), .string ((rd_T41 l0 x8_1).f1), .int .i64 ((rd_T41 l0 x8_1).f2.f0), .int .i64 ((rd_T41 l0 x8_1).f2.f1), .int .i64 ((rd_T41 l0 x8_1).f3), .bool true] (fun k_ => some k_ ≠ (u6 : Value).ownBlock) (fun _ => False) rfl rfl ?aP (fun _ hk => hk.elim) ?aF ?aO ?aB ?aS ?aL ?_; (case aP => exact k41_mkM _ _ _ (⟨(rd_T41 l0 x8_1).f0, (rd_T41 l0 x8_1).f1, (⟨(rd_T41 l0 x8_1).f2.f0, (rd_T41 l0 x8_1).f2.f1⟩ : S39), (rd_T41 l0 x8_1).f3, true⟩ : S41)); (case aB => exact (by repeat (first | (with_reducible first | exact HB.out | apply below_alloc | apply pw_below_drewN | apply below_drew1) | exact HB.out))); (case aF => exact (fun k_ hk => Kd.fresh' (Kd.R_lt (by (with_reducible repeat (first | apply Kd.R_alloc | apply Kd.R_drewN | apply Kd.R_drew)); exact HO_6.out)) k_ hk)); (case aO => exact (by (with_reducible repeat (first | apply Kd.R_alloc | apply Kd.R_drewN | apply Kd.R_drew)); exact HO_7.out)); (case aS => exact (below_size (by repeat (first | (with_reducible first | exact HB.out | apply below_alloc | apply pw_below_drewN | apply below_drew1) | exact HB.out)))); (case aL => have := LMc8.out; omega); intro v217 w9 ho hb hg hat; rw [← Ny216.out] at ho; have n0_ := Aside0.mk (Kd.R_after (ok := (fun _ => True)) (by (with_reducible repeat (first | apply Kd.R_alloc | apply Kd.R_drewN | apply Kd.R_drew)); exact Kd.R_mono HO_6.out (fun _ hk => ⟨trivial, hk⟩)) hg hat); have n1_ := Aside0.mk (hb); have n2_ := Aside0.mk (ho); clear HO_6; clear HB; clear HO_7; have HO_6 := n0_; have HB := n1_; have HO218 := n2_; clear n0_ n1_ n2_; clear ho hb hg hat))
                go_roundg k1
                case measure => have := HK1.out; omega
                case rel => exact ⟨(x6_1), (y216), (wrap64 (x8_1 + 1)), (by first | rfl | (simp; done) | (simp [*]; done)), H', ⟨by have := HK1.out; omega⟩, ⟨by (with_reducible repeat (first | apply Kd.R_alloc | apply Kd.R_drewN | apply Kd.R_drew)); exact Kd.R_mono HO_6.out (fun _ hk => hk.2)⟩, ⟨by (with_reducible repeat (first | apply Kd.R_alloc | apply Kd.R_drewN | apply Kd.R_drew)); exact HO218.out⟩, ⟨by repeat (first | (with_reducible first | exact HB.out | apply below_alloc | apply pw_below_drewN | apply below_drew1) | exact HB.out)⟩⟩
              · rw [if_neg c8] at H
                exact absurd H (by simp)
            · rw [if_neg c7] at H
              have c7b0 : decide (((rd_T41 l0 x8_1).f2.f1) ≤ a1) = false := decide_eq_false c7
              clear c7
              by_cases c10 : x6_1.length < 2513169434916
              · rw [if_pos c10] at H
                have LMc10 := Aside0.mk c10
                clear c10
                obtain ⟨y220, hy220⟩ : ∃ y_ : List (S41), y_ = (x6_1 ++ [(⟨(rd_T41 l0 x8_1).f0, (rd_T41 l0 x8_1).f1, (⟨(rd_T41 l0 x8_1).f2.f0, (rd_T41 l0 x8_1).f2.f1⟩ : S39), (rd_T41 l0 x8_1).f3, true⟩ : S41)]) := ⟨_, rfl⟩
                replace H : (storemanref04_Sweep.l0 k1 l0 a1 y220 x7_1 (wrap64 (x8_1 + 1))) = some (r1, r2) := by first | (rw [hy220]; with_reducible exact H) | (have H2_ := (Option.bind_some _ _).symm.trans H; rw [hy220]; with_reducible exact H2_) | (have H2_ := (Option.bind_some _ _).symm.trans H; with_reducible exact H2_) | with_reducible exact H | (rw [hy220]; exact H) | exact H
                have Ny220 := Aside0.mk hy220
                clear hy220
                have H' := Aside0.mk H
                clear H
                have p213 : 0 ≤ (x8_1 : Int) := of_decide_eq_true (by first | (with_reducible assumption) | assumption)
                have q213 : x8_1 < (l0.length : Int) := of_decide_eq_true (by first | (with_reducible assumption) | assumption)
                obtain ⟨ad213, e213, hx213_0, hx213_1, hx213_2, hx213_3, hx213_4, hx213_5⟩ := at_T41 HR0.out x8_1 p213 q213
                (try rw [← Nbq5.out] at hx213_5)
                cases e213
                replace hx213_0 := (HB.out.cell (World.block_lt_of_cell? w _ hx213_0)).trans hx213_0
                replace hx213_1 := (HB.out.cell (World.block_lt_of_cell? w _ hx213_1)).trans hx213_1
                replace hx213_2 := (HB.out.cell (World.block_lt_of_cell? w _ hx213_2)).trans hx213_2
                replace hx213_3 := (HB.out.cell (World.block_lt_of_cell? w _ hx213_3)).trans hx213_3
                replace hx213_4 := (HB.out.cell (World.block_lt_of_cell? w _ hx213_4)).trans hx213_4
                replace hx213_5 := (HB.out.cell (World.block_lt_of_cell? w _ hx213_5)).trans hx213_5
                replace p213 := eq_true p213
                replace q213 := eq_true q213
                have p214 : 0 ≤ (x8_1 : Int) := of_decide_eq_true (by first | (with_reducible assumption) | assumption)
                have q214 : x8_1 < (l0.length : Int) := of_decide_eq_true (by first | (with_reducible assumption) | assumption)
                obtain ⟨ad214, e214, hx214_0, hx214_1, hx214_2, hx214_3, hx214_4, hx214_5⟩ := at_T41 HR0.out x8_1 p214 q214
                (try rw [← Nbq5.out] at hx214_5)
                obtain rfl : ad213 = ad214 := (by injection e214)
                replace hx214_0 := (HB.out.cell (World.block_lt_of_cell? w _ hx214_0)).trans hx214_0
                replace hx214_1 := (HB.out.cell (World.block_lt_of_cell? w _ hx214_1)).trans hx214_1
                replace hx214_2 := (HB.out.cell (World.block_lt_of_cell? w _ hx214_2)).trans hx214_2
                replace hx214_3 := (HB.out.cell (World.block_lt_of_cell? w _ hx214_3)).trans hx214_3
                replace hx214_4 := (HB.out.cell (World.block_lt_of_cell? w _ hx214_4)).trans hx214_4
                replace hx214_5 := (HB.out.cell (World.block_lt_of_cell? w _ hx214_5)).trans hx214_5
                replace p214 := eq_true p214
                replace q214 := eq_true q214
                have p219 : 0 ≤ (x8_1 : Int) := of_decide_eq_true (by first | (with_reducible assumption) | assumption)
                have q219 : x8_1 < (l0.length : Int) := of_decide_eq_true (by first | (with_reducible assumption) | assumption)
                obtain ⟨ad219, e219, hx219_0, hx219_1, hx219_2, hx219_3, hx219_4, hx219_5⟩ := at_T41 HR0.out x8_1 p219 q219
                (try rw [← Nbq5.out] at hx219_5)
                obtain rfl : ad213 = ad219 := (by injection e219)
                replace hx219_0 := (HB.out.cell (World.block_lt_of_cell? w _ hx219_0)).trans hx219_0
                replace hx219_1 := (HB.out.cell (World.block_lt_of_cell? w _ hx219_1)).trans hx219_1
                replace hx219_2 := (HB.out.cell (World.block_lt_of_cell? w _ hx219_2)).trans hx219_2
                replace hx219_3 := (HB.out.cell (World.block_lt_of_cell? w _ hx219_3)).trans hx219_3
                replace hx219_4 := (HB.out.cell (World.block_lt_of_cell? w _ hx219_4)).trans hx219_4
                replace hx219_5 := (HB.out.cell (World.block_lt_of_cell? w _ hx219_5)).trans hx219_5
                replace p219 := eq_true p219
                replace q219 := eq_true q219
                go_wp2_with (first | ((with_reducible refine gate_builtin (b := .append) (xs := #[.tmp 37, .tmp 42]) rfl ?_); at_builtin; refine Kd.R_append k41 (w0 := w) w.heap.size rfl (.tmp 37) (.tmp 42) 22 41 (.agg #[(.int .i64 0), (.string ⟨#[]⟩), (.int .i64 0), (.int .i64 0), (.int .i64 0), (.bool false)]) 56 rfl Tryz.underlying22 info41 rfl (by decide) (by omega) u6 x6_1 (⟨(rd_T41 l0 x8_1).f0, (rd_T41 l0 x8_1).f1, (⟨(rd_T41 l0 x8_1).f2.f0, (rd_T41 l0 x8_1).f2.f1⟩ : S39), (rd_T41 l0 x8_1).f3, true⟩ : S41) [.int .i64 ((rd_T41 l0 x8_1).f0), .string ((rd_T41 l0 x8_1).f1), .int .i64 ((rd_T41 l0 x8_1).f2.f0), .int .i64 ((rd_T41 l0 x8_1).f2.f1), .int .i64 ((rd_T41 l0 x8_1).f3), .bool true] (fun k_ => some k_ ≠ (u7 : Value).ownBlock) (fun _ => False) rfl rfl ?aP (fun _ hk => hk.elim) ?aF ?aO ?aB ?aS ?aL ?_; (case aP => exact k41_mkM _ _ _ (⟨(rd_T41 l0 x8_1).f0, (rd_T41 l0 x8_1).f1, (⟨(rd_T41 l0 x8_1).f2.f0, (rd_T41 l0 x8_1).f2.f1⟩ : S39), (rd_T41 l0 x8_1).f3, true⟩ : S41)); (case aB => exact (by repeat (first | (with_reducible first | exact HB.out | apply below_alloc | apply pw_below_drewN | apply below_drew1) | exact HB.out))); (case aF => exact (fun k_ hk => Kd.fresh' (Kd.R_lt (by (with_reducible repeat (first | apply Kd.R_alloc | apply Kd.R_drewN | apply Kd.R_drew)); exact HO_7.out)) k_ hk)); (case aO => exact (by (with_reducible repeat (first | apply Kd.R_alloc | apply Kd.R_drewN | apply Kd.R_drew)); exact HO_6.out)); (case aS => exact (below_size (by repeat (first | (with_reducible first | exact HB.out | apply below_alloc | apply pw_below_drewN | apply below_drew1) | exact HB.out)))); (case aL => have := LMc10.out; omega); intro v221 w11 ho hb hg hat; rw [← Ny220.out] at ho; have n0_ := Aside0.mk (Kd.R_after (ok := (fun _ => True)) (by (with_reducible repeat (first | apply Kd.R_alloc | apply Kd.R_drewN | apply Kd.R_drew)); exact Kd.R_mono HO_7.out (fun _ hk => ⟨trivial, hk⟩)) hg hat); have n1_ := Aside0.mk (hb); have n2_ := Aside0.mk (ho); clear HO_7; clear HB; clear HO_6; have HO_7 := n0_; have HB := n1_; have HO222 := n2_; clear n0_ n1_ n2_; clear ho hb hg hat))
                go_roundg k1
                case measure => have := HK1.out; omega
                case rel => exact ⟨(y220), (x7_1), (wrap64 (x8_1 + 1)), (by first | rfl | (simp; done) | (simp [*]; done)), H', ⟨by have := HK1.out; omega⟩, ⟨by (with_reducible repeat (first | apply Kd.R_alloc | apply Kd.R_drewN | apply Kd.R_drew)); exact HO222.out⟩, ⟨by (with_reducible repeat (first | apply Kd.R_alloc | apply Kd.R_drewN | apply Kd.R_drew)); exact Kd.R_mono HO_7.out (fun _ hk => hk.2)⟩, ⟨by repeat (first | (with_reducible first | exact HB.out | apply below_alloc | apply pw_below_drewN | apply below_drew1) | exact HB.out)⟩⟩
              · rw [if_neg c10] at H
                exact absurd H (by simp)
          · replace c6 := Bool.eq_false_iff.mpr c6
            subst c6
            have H1 : (if x6_1.length < 2513169434916 then (storemanref04_Sweep.l0 k1 l0 a1 (x6_1 ++ [(⟨(rd_T41 l0 x8_1).f0, (rd_T41 l0 x8_1).f1, (⟨(rd_T41 l0 x8_1).f2.f0, (rd_T41 l0 x8_1).f2.f1⟩ : S39), (rd_T41 l0 x8_1).f3, false⟩ : S41)]) x7_1 (wrap64 (x8_1 + 1))) else (none)) = some (r1, r2) := by rw [if_neg (show ¬ (false = true) by decide)] at H; exact H
            clear H
            have H := H1
            clear H1
            by_cases c12 : x6_1.length < 2513169434916
            · rw [if_pos c12] at H
              have LMc12 := Aside0.mk c12
              clear c12
              obtain ⟨y224, hy224⟩ : ∃ y_ : List (S41), y_ = (x6_1 ++ [(⟨(rd_T41 l0 x8_1).f0, (rd_T41 l0 x8_1).f1, (⟨(rd_T41 l0 x8_1).f2.f0, (rd_T41 l0 x8_1).f2.f1⟩ : S39), (rd_T41 l0 x8_1).f3, false⟩ : S41)]) := ⟨_, rfl⟩
              replace H : (storemanref04_Sweep.l0 k1 l0 a1 y224 x7_1 (wrap64 (x8_1 + 1))) = some (r1, r2) := by first | (rw [hy224]; with_reducible exact H) | (have H2_ := (Option.bind_some _ _).symm.trans H; rw [hy224]; with_reducible exact H2_) | (have H2_ := (Option.bind_some _ _).symm.trans H; with_reducible exact H2_) | with_reducible exact H | (rw [hy224]; exact H) | exact H
              have Ny224 := Aside0.mk hy224
              clear hy224
              have H' := Aside0.mk H
              clear H
              have p213 : 0 ≤ (x8_1 : Int) := of_decide_eq_true (by first | (with_reducible assumption) | assumption)
              have q213 : x8_1 < (l0.length : Int) := of_decide_eq_true (by first | (with_reducible assumption) | assumption)
              obtain ⟨ad213, e213, hx213_0, hx213_1, hx213_2, hx213_3, hx213_4, hx213_5⟩ := at_T41 HR0.out x8_1 p213 q213
              (try rw [← Nbq5.out] at hx213_5)
              cases e213
              replace hx213_0 := (HB.out.cell (World.block_lt_of_cell? w _ hx213_0)).trans hx213_0
              replace hx213_1 := (HB.out.cell (World.block_lt_of_cell? w _ hx213_1)).trans hx213_1
              replace hx213_2 := (HB.out.cell (World.block_lt_of_cell? w _ hx213_2)).trans hx213_2
              replace hx213_3 := (HB.out.cell (World.block_lt_of_cell? w _ hx213_3)).trans hx213_3
              replace hx213_4 := (HB.out.cell (World.block_lt_of_cell? w _ hx213_4)).trans hx213_4
              replace hx213_5 := (HB.out.cell (World.block_lt_of_cell? w _ hx213_5)).trans hx213_5
              replace p213 := eq_true p213
              replace q213 := eq_true q213
              have p223 : 0 ≤ (x8_1 : Int) := of_decide_eq_true (by first | (with_reducible assumption) | assumption)
              have q223 : x8_1 < (l0.length : Int) := of_decide_eq_true (by first | (with_reducible assumption) | assumption)
              obtain ⟨ad223, e223, hx223_0, hx223_1, hx223_2, hx223_3, hx223_4, hx223_5⟩ := at_T41 HR0.out x8_1 p223 q223
              (try rw [← Nbq5.out] at hx223_5)
              obtain rfl : ad213 = ad223 := (by injection e223)
              replace hx223_0 := (HB.out.cell (World.block_lt_of_cell? w _ hx223_0)).trans hx223_0
              replace hx223_1 := (HB.out.cell (World.block_lt_of_cell? w _ hx223_1)).trans hx223_1
              replace hx223_2 := (HB.out.cell (World.block_lt_of_cell? w _ hx223_2)).trans hx223_2
              replace hx223_3 := (HB.out.cell (World.block_lt_of_cell? w _ hx223_3)).trans hx223_3
              replace hx223_4 := (HB.out.cell (World.block_lt_of_cell? w _ hx223_4)).trans hx223_4
              replace hx223_5 := (HB.out.cell (World.block_lt_of_cell? w _ hx223_5)).trans hx223_5
              replace p223 := eq_true p223
              replace q223 := eq_true q223
              go_wp2_with (first | ((with_reducible refine gate_builtin (b := .append) (xs := #[.tmp 37, .tmp 42]) rfl ?_); at_builtin; refine Kd.R_append k41 (w0 := w) w.heap.size rfl (.tmp 37) (.tmp 42) 22 41 (.agg #[(.int .i64 0), (.string ⟨#[]⟩), (.int .i64 0), (.int .i64 0), (.int .i64 0), (.bool false)]) 56 rfl Tryz.underlying22 info41 rfl (by decide) (by omega) u6 x6_1 (⟨(rd_T41 l0 x8_1).f0, (rd_T41 l0 x8_1).f1, (⟨(rd_T41 l0 x8_1).f2.f0, (rd_T41 l0 x8_1).f2.f1⟩ : S39), (rd_T41 l0 x8_1).f3, false⟩ : S41) [.int .i64 ((rd_T41 l0 x8_1).f0), .string ((rd_T41 l0 x8_1).f1), .int .i64 ((rd_T41 l0 x8_1).f2.f0), .int .i64 ((rd_T41 l0 x8_1).f2.f1), .int .i64 ((rd_T41 l0 x8_1).f3), .bool false] (fun k_ => some k_ ≠ (u7 : Value).ownBlock) (fun _ => False) rfl rfl ?aP (fun _ hk => hk.elim) ?aF ?aO ?aB ?aS ?aL ?_; (case aP => exact k41_mkM _ _ _ (⟨(rd_T41 l0 x8_1).f0, (rd_T41 l0 x8_1).f1, (⟨(rd_T41 l0 x8_1).f2.f0, (rd_T41 l0 x8_1).f2.f1⟩ : S39), (rd_T41 l0 x8_1).f3, false⟩ : S41)); (case aB => exact (by repeat (first | (with_reducible first | exact HB.out | apply below_alloc | apply pw_below_drewN | apply below_drew1) | exact HB.out))); (case aF => exact (fun k_ hk => Kd.fresh' (Kd.R_lt (by (with_reducible repeat (first | apply Kd.R_alloc | apply Kd.R_drewN | apply Kd.R_drew)); exact HO_7.out)) k_ hk)); (case aO => exact (by (with_reducible repeat (first | apply Kd.R_alloc | apply Kd.R_drewN | apply Kd.R_drew)); exact HO_6.out)); (case aS => exact (below_size (by repeat (first | (with_reducible first | exact HB.out | apply below_alloc | apply pw_below_drewN | apply below_drew1) | exact HB.out)))); (case aL => have := LMc12.out; omega); intro v225 w13 ho hb hg hat; rw [← Ny224.out] at ho; have n0_ := Aside0.mk (Kd.R_after (ok := (fun _ => True)) (by (with_reducible repeat (first | apply Kd.R_alloc | apply Kd.R_drewN | apply Kd.R_drew)); exact Kd.R_mono HO_7.out (fun _ hk => ⟨trivial, hk⟩)) hg hat); have n1_ := Aside0.mk (hb); have n2_ := Aside0.mk (ho); clear HO_7; clear HB; clear HO_6; have HO_7 := n0_; have HB := n1_; have HO226 := n2_; clear n0_ n1_ n2_; clear ho hb hg hat))
              go_roundg k1
              case measure => have := HK1.out; omega
              case rel => exact ⟨(y224), (x7_1), (wrap64 (x8_1 + 1)), (by first | rfl | (simp; done) | (simp [*]; done)), H', ⟨by have := HK1.out; omega⟩, ⟨by (with_reducible repeat (first | apply Kd.R_alloc | apply Kd.R_drewN | apply Kd.R_drew)); exact HO226.out⟩, ⟨by (with_reducible repeat (first | apply Kd.R_alloc | apply Kd.R_drewN | apply Kd.R_drew)); exact Kd.R_mono HO_7.out (fun _ hk => hk.2)⟩, ⟨by repeat (first | (with_reducible first | exact HB.out | apply below_alloc | apply pw_below_drewN | apply below_drew1) | exact HB.out)⟩⟩
            · rw [if_neg c12] at H
              exact absurd H (by simp)
        · rw [if_neg c4] at H
          exact absurd H (by simp)
      · rw [if_neg c3] at H
        have c3b0 : decide (x8_1 < (l0.length : Int)) = false := decide_eq_false c3
        clear c3
        simp only [Option.some.injEq, Prod.mk.injEq] at H
        obtain ⟨rfl, rfl⟩ := H
        go_wp2
        go_ret2
        exact ⟨_, _, by first | rfl | (simp [errW_none, errW_some] <;> rfl) | (simp [*, errW_none, errW_some] <;> rfl), by (with_reducible repeat (first | apply Kd.R_alloc | apply Kd.R_drewN | apply Kd.R_drew)); exact HO_6.out, by (with_reducible repeat (first | apply Kd.R_alloc | apply Kd.R_drewN | apply Kd.R_drew)); exact HO_7.out, by repeat (first | (with_reducible first | exact HB.out | apply below_alloc | apply pw_below_drewN | apply below_drew1) | exact HB.out)⟩

def storemanref04_Of.l0 : Nat → List (S41) → ByteArray → List (S41) → Int → Option ((List (S41)))
  | 0, _, _, _, _ => none
  | k + 1, x0, x1, x5, x6 => if x6 < (x0.length : Int) then (if 0 ≤ x6 then (if ((rd_T41 x0 x6).f1).toList = x1.toList then (if x5.length < 2513169434916 then (storemanref04_Of.l0 k x0 x1 (x5 ++ [(⟨(rd_T41 x0 x6).f0, (rd_T41 x0 x6).f1, (⟨(rd_T41 x0 x6).f2.f0, (rd_T41 x0 x6).f2.f1⟩ : S39), (rd_T41 x0 x6).f3, (rd_T41 x0 x6).f4⟩ : S41)]) (wrap64 (x6 + 1))) else (none)) else (storemanref04_Of.l0 k x0 x1 x5 (wrap64 (x6 + 1)))) else (none)) else (some x5)
def storemanref04_Of.f (k : Nat) (l0 : List (S41)) (a1 : ByteArray) : Option ((List (S41))) := storemanref04_Of.l0 k l0 a1 ([] : List (S41)) 0
theorem storemanref04_Of.mono_l : ∀ k, (∀ y0 y1 y2 y3, LeO (storemanref04_Of.l0 k y0 y1 y2 y3) (storemanref04_Of.l0 (k + 1) y0 y1 y2 y3))
  | 0 => fun _ _ _ _ r h => by simp [storemanref04_Of.l0] at h
  | k + 1 => by
    have ih0 := storemanref04_Of.mono_l k
    · intro y0 y1 y2 y3
      unfold storemanref04_Of.l0
      repeat' first
      | (with_reducible exact ih0 _ _ _ _)
      | (with_reducible exact LeO.refl _)
      | (with_reducible exact LeO.none _)
      | (with_reducible refine LeO.ite ?_ ?_)
      | (with_reducible refine LeO.bind ?_ (fun _ => ?_))
      | exact ih0 _ _ _ _
      | exact LeO.none _
      | refine LeO.ite ?_ ?_
      | refine LeO.bind ?_ (fun _ => ?_)
theorem storemanref04_Of.mono : ∀ a0 a1 k, LeO (storemanref04_Of.f k a0 a1) (storemanref04_Of.f (k + 1) a0 a1) := by
  intro a0 a1 k
  have ih0 := storemanref04_Of.mono_l k
  unfold storemanref04_Of.f
  repeat' first
      | (with_reducible exact ih0 _ _ _ _)
      | (with_reducible exact LeO.refl _)
      | (with_reducible exact LeO.none _)
      | (with_reducible refine LeO.ite ?_ ?_)
      | (with_reducible refine LeO.bind ?_ (fun _ => ?_))
      | exact ih0 _ _ _ _
      | exact LeO.none _
      | refine LeO.ite ?_ ?_
      | refine LeO.bind ?_ (fun _ => ?_)
set_option maxHeartbeats 8000000 in
set_option maxRecDepth 100000 in
theorem storemanref04_Of.calls (k : Nat) (A0 : Option Addr) (c0 : Nat) (l0 : List (S41)) (a1 : ByteArray) (r : List (S41)) (w : World) (hr0 : Kd.C k41 w A0 l0.length l0) (hc0 : l0.length ≤ c0) (h : storemanref04_Of.f k l0 a1 = some r) :
    Calls Tryz.prog 17 #[.slice A0 l0.length c0, .string a1] w fun e w' => ∃ v0_ : Value, e = .returned (v0_) ∧ Kd.R k41 41 w' w.heap.size (fun _ => True) v0_ r ∧ Below w.heap.size w w' := by
  have hu41 := Tryz.underlying41
  have HR0 := Aside0.mk hr0
  have HC0 := Aside0.mk hc0
  clear hr0 hc0
  have HB := Aside0.mk (Below.refl w.heap.size w)
  have H : (storemanref04_Of.l0 k l0 a1 ([] : List (S41)) 0) = some r := h
  clear h
  have H' := Aside0.mk H
  clear H
  go_enter Tryz.func17, Tryz.ntmps17
  go_wp2
  go_loopg [5, 6] k (fun kq v5 v6 w' => ∃ (x5_1 : List (S41)) (x6_1 : Int), v6 = .int .i64 x6_1 ∧ Aside0 (storemanref04_Of.l0 kq l0 a1 x5_1 x6_1 = some r) ∧ Aside0 (kq ≤ k) ∧ Aside0 (Kd.R k41 41 w' w.heap.size (fun _ => True) v5 x5_1) ∧ Aside0 (Below w.heap.size w w'))
  case atStart => exact ⟨(([] : List (S41))), (0), (by first | rfl | (simp; done) | (simp [*]; done)), H', ⟨Nat.le_refl _⟩, ⟨by first | exact Kd.R_nil _ _ _ _ _ | exact Kd.N_nil _ _ _ _ _ | exact Kd.V_nil _ _ _ _ _ | exact Kd.Q_nil _ _ _ _ _ | exact Kd.S_nil _ _ _ _ _⟩, ⟨by repeat (first | (with_reducible first | exact HB.out | apply below_alloc | apply pw_below_drewN | apply below_drew1) | exact HB.out)⟩⟩
  case round =>
    clear H'
    try clear c1
    try clear p2
    obtain ⟨x5_1, x6_1, rfl, HA, HK1, HO_5, HB⟩ := hrel
    cases gk with
    | zero => exact absurd HA.out (by simp [storemanref04_Of.l0])
    | succ k1 =>
      have H := HA.out
      clear HA
      simp only [storemanref04_Of.l0] at H
      by_cases c3 : x6_1 < (l0.length : Int)
      · rw [if_pos c3] at H
        have c3b0 : decide (x6_1 < (l0.length : Int)) = true := decide_eq_true c3
        clear c3
        by_cases c4 : 0 ≤ x6_1
        · rw [if_pos c4] at H
          have c4b0 : decide (0 ≤ x6_1) = true := decide_eq_true c4
          clear c4
          by_cases c5 : ((rd_T41 l0 x6_1).f1).toList = a1.toList
          · rw [if_pos c5] at H
            have c5b0 : (((rd_T41 l0 x6_1).f1).toList == a1.toList) = true := beq_iff_eq.mpr c5
            have c5b1 : (((rd_T41 l0 x6_1).f1).toList != a1.toList) = false := bne_eq_false_iff_eq.mpr c5
            clear c5
            by_cases c6 : x5_1.length < 2513169434916
            · rw [if_pos c6] at H
              have LMc6 := Aside0.mk c6
              clear c6
              obtain ⟨y229, hy229⟩ : ∃ y_ : List (S41), y_ = (x5_1 ++ [(⟨(rd_T41 l0 x6_1).f0, (rd_T41 l0 x6_1).f1, (⟨(rd_T41 l0 x6_1).f2.f0, (rd_T41 l0 x6_1).f2.f1⟩ : S39), (rd_T41 l0 x6_1).f3, (rd_T41 l0 x6_1).f4⟩ : S41)]) := ⟨_, rfl⟩
              replace H : (storemanref04_Of.l0 k1 l0 a1 y229 (wrap64 (x6_1 + 1))) = some r := by first | (rw [hy229]; with_reducible exact H) | (have H2_ := (Option.bind_some _ _).symm.trans H; rw [hy229]; with_reducible exact H2_) | (have H2_ := (Option.bind_some _ _).symm.trans H; with_reducible exact H2_) | with_reducible exact H | (rw [hy229]; exact H) | exact H
              have Ny229 := Aside0.mk hy229
              clear hy229
              have H' := Aside0.mk H
              clear H
              have p227 : 0 ≤ (x6_1 : Int) := of_decide_eq_true (by first | (with_reducible assumption) | assumption)
              have q227 : x6_1 < (l0.length : Int) := of_decide_eq_true (by first | (with_reducible assumption) | assumption)
              obtain ⟨ad227, e227, hx227_0, hx227_1, hx227_2, hx227_3, hx227_4, hx227_5⟩ := at_T41 HR0.out x6_1 p227 q227
              cases e227
              replace hx227_0 := (HB.out.cell (World.block_lt_of_cell? w _ hx227_0)).trans hx227_0
              replace hx227_1 := (HB.out.cell (World.block_lt_of_cell? w _ hx227_1)).trans hx227_1
              replace hx227_2 := (HB.out.cell (World.block_lt_of_cell? w _ hx227_2)).trans hx227_2
              replace hx227_3 := (HB.out.cell (World.block_lt_of_cell? w _ hx227_3)).trans hx227_3
              replace hx227_4 := (HB.out.cell (World.block_lt_of_cell? w _ hx227_4)).trans hx227_4
              replace hx227_5 := (HB.out.cell (World.block_lt_of_cell? w _ hx227_5)).trans hx227_5
              replace p227 := eq_true p227
              replace q227 := eq_true q227
              have p228 : 0 ≤ (x6_1 : Int) := of_decide_eq_true (by first | (with_reducible assumption) | assumption)
              have q228 : x6_1 < (l0.length : Int) := of_decide_eq_true (by first | (with_reducible assumption) | assumption)
              obtain ⟨ad228, e228, hx228_0, hx228_1, hx228_2, hx228_3, hx228_4, hx228_5⟩ := at_T41 HR0.out x6_1 p228 q228
              obtain rfl : ad227 = ad228 := (by injection e228)
              replace hx228_0 := (HB.out.cell (World.block_lt_of_cell? w _ hx228_0)).trans hx228_0
              replace hx228_1 := (HB.out.cell (World.block_lt_of_cell? w _ hx228_1)).trans hx228_1
              replace hx228_2 := (HB.out.cell (World.block_lt_of_cell? w _ hx228_2)).trans hx228_2
              replace hx228_3 := (HB.out.cell (World.block_lt_of_cell? w _ hx228_3)).trans hx228_3
              replace hx228_4 := (HB.out.cell (World.block_lt_of_cell? w _ hx228_4)).trans hx228_4
              replace hx228_5 := (HB.out.cell (World.block_lt_of_cell? w _ hx228_5)).trans hx228_5
              replace p228 := eq_true p228
              replace q228 := eq_true q228
              go_wp2_with (first | ((with_reducible refine gate_builtin (b := .append) (xs := #[.tmp 20, .tmp 25]) rfl ?_); at_builtin; refine Kd.R_append k41 (w0 := w) w.heap.size rfl (.tmp 20) (.tmp 25) 22 41 (.agg #[(.int .i64 0), (.string ⟨#[]⟩), (.int .i64 0), (.int .i64 0), (.int .i64 0), (.bool false)]) 56 rfl Tryz.underlying22 info41 rfl (by decide) (by omega) u5 x5_1 (⟨(rd_T41 l0 x6_1).f0, (rd_T41 l0 x6_1).f1, (⟨(rd_T41 l0 x6_1).f2.f0, (rd_T41 l0 x6_1).f2.f1⟩ : S39), (rd_T41 l0 x6_1).f3, (rd_T41 l0 x6_1).f4⟩ : S41) [.int .i64 ((rd_T41 l0 x6_1).f0), .string ((rd_T41 l0 x6_1).f1), .int .i64 ((rd_T41 l0 x6_1).f2.f0), .int .i64 ((rd_T41 l0 x6_1).f2.f1), .int .i64 ((rd_T41 l0 x6_1).f3), .bool ((rd_T41 l0 x6_1).f4)] (fun _ => True) (fun _ => False) rfl rfl ?aP (fun _ hk => hk.elim) ?aF ?aO ?aB ?aS ?aL ?_; (case aP => exact k41_mkM _ _ _ (⟨(rd_T41 l0 x6_1).f0, (rd_T41 l0 x6_1).f1, (⟨(rd_T41 l0 x6_1).f2.f0, (rd_T41 l0 x6_1).f2.f1⟩ : S39), (rd_T41 l0 x6_1).f3, (rd_T41 l0 x6_1).f4⟩ : S41)); (case aB => exact (by repeat (first | (with_reducible first | exact HB.out | apply below_alloc | apply pw_below_drewN | apply below_drew1) | exact HB.out))); (case aF => exact (fun _ _ => trivial)); (case aO => exact (by (with_reducible repeat (first | apply Kd.R_alloc | apply Kd.R_drewN | apply Kd.R_drew)); exact HO_5.out)); (case aS => exact (below_size (by repeat (first | (with_reducible first | exact HB.out | apply below_alloc | apply pw_below_drewN | apply below_drew1) | exact HB.out)))); (case aL => have := LMc6.out; omega); intro v230 w7 ho hb hg hat; rw [← Ny229.out] at ho; have n0_ := Aside0.mk (hb); have n1_ := Aside0.mk (ho); clear HB; clear HO_5; have HB := n0_; have HO231 := n1_; clear n0_ n1_; clear ho hb hg hat))
              go_roundg k1
              case measure => have := HK1.out; omega
              case rel => exact ⟨(y229), (wrap64 (x6_1 + 1)), (by first | rfl | (simp; done) | (simp [*]; done)), H', ⟨by have := HK1.out; omega⟩, ⟨by (with_reducible repeat (first | apply Kd.R_alloc | apply Kd.R_drewN | apply Kd.R_drew)); exact HO231.out⟩, ⟨by repeat (first | (with_reducible first | exact HB.out | apply below_alloc | apply pw_below_drewN | apply below_drew1) | exact HB.out)⟩⟩
            · rw [if_neg c6] at H
              exact absurd H (by simp)
          · rw [if_neg c5] at H
            have c5b0 : (((rd_T41 l0 x6_1).f1).toList == a1.toList) = false := beq_eq_false_iff_ne.mpr c5
            have c5b1 : (((rd_T41 l0 x6_1).f1).toList != a1.toList) = true := bne_iff_ne.mpr c5
            have H' := Aside0.mk H
            clear H
            have p227 : 0 ≤ (x6_1 : Int) := of_decide_eq_true (by first | (with_reducible assumption) | assumption)
            have q227 : x6_1 < (l0.length : Int) := of_decide_eq_true (by first | (with_reducible assumption) | assumption)
            obtain ⟨ad227, e227, hx227_0, hx227_1, hx227_2, hx227_3, hx227_4, hx227_5⟩ := at_T41 HR0.out x6_1 p227 q227
            cases e227
            replace hx227_0 := (HB.out.cell (World.block_lt_of_cell? w _ hx227_0)).trans hx227_0
            replace hx227_1 := (HB.out.cell (World.block_lt_of_cell? w _ hx227_1)).trans hx227_1
            replace hx227_2 := (HB.out.cell (World.block_lt_of_cell? w _ hx227_2)).trans hx227_2
            replace hx227_3 := (HB.out.cell (World.block_lt_of_cell? w _ hx227_3)).trans hx227_3
            replace hx227_4 := (HB.out.cell (World.block_lt_of_cell? w _ hx227_4)).trans hx227_4
            replace hx227_5 := (HB.out.cell (World.block_lt_of_cell? w _ hx227_5)).trans hx227_5
            replace p227 := eq_true p227
            replace q227 := eq_true q227
            go_wp2
            go_roundg k1
            case measure => have := HK1.out; omega
            case rel => exact ⟨(x5_1), (wrap64 (x6_1 + 1)), (by first | rfl | (simp; done) | (simp [*]; done)), H', ⟨by have := HK1.out; omega⟩, ⟨by (with_reducible repeat (first | apply Kd.R_alloc | apply Kd.R_drewN | apply Kd.R_drew)); exact HO_5.out⟩, ⟨by repeat (first | (with_reducible first | exact HB.out | apply below_alloc | apply pw_below_drewN | apply below_drew1) | exact HB.out)⟩⟩
        · rw [if_neg c4] at H
          exact absurd H (by simp)
      · rw [if_neg c3] at H
        have c3b0 : decide (x6_1 < (l0.length : Int)) = false := decide_eq_false c3
        clear c3
        obtain rfl := Option.some.inj H
        go_wp2
        go_ret
        exact ⟨_, by first | rfl | (simp [errW_none, errW_some] <;> rfl) | (simp [*, errW_none, errW_some] <;> rfl), by (with_reducible repeat (first | apply Kd.R_alloc | apply Kd.R_drewN | apply Kd.R_drew)); exact HO_5.out, by repeat (first | (with_reducible first | exact HB.out | apply below_alloc | apply pw_below_drewN | apply below_drew1) | exact HB.out)⟩

def storemanref04_On.l0 : Nat → List (S41) → Int → Int → Int → Option (Int)
  | 0, _, _, _, _ => none
  | k + 1, x0, x1, x5, x6 => if x6 < (x0.length : Int) then (if 0 ≤ x6 then ((storemanref04_Right.f k ((rd_T41 x0 x6).f0) ((rd_T41 x0 x6).f1) ((rd_T41 x0 x6).f2.f0) ((rd_T41 x0 x6).f2.f1) ((rd_T41 x0 x6).f3) ((rd_T41 x0 x6).f4)).bind fun t233 => (if t233 = true then (if ((rd_T41 x0 x6).f2.f0) ≤ x1 then (if x1 < ((rd_T41 x0 x6).f2.f1) then (storemanref04_On.l0 k x0 x1 (wrap64 (x5 + ((rd_T41 x0 x6).f3))) (wrap64 (x6 + 1))) else (storemanref04_On.l0 k x0 x1 x5 (wrap64 (x6 + 1)))) else (storemanref04_On.l0 k x0 x1 x5 (wrap64 (x6 + 1)))) else (storemanref04_On.l0 k x0 x1 x5 (wrap64 (x6 + 1))))) else (none)) else (some x5)
def storemanref04_On.f (k : Nat) (l0 : List (S41)) (a1 : Int) : Option (Int) := storemanref04_On.l0 k l0 a1 0 0
theorem storemanref04_On.mono_l : ∀ k, (∀ y0 y1 y2 y3, LeO (storemanref04_On.l0 k y0 y1 y2 y3) (storemanref04_On.l0 (k + 1) y0 y1 y2 y3))
  | 0 => fun _ _ _ _ r h => by simp [storemanref04_On.l0] at h
  | k + 1 => by
    have ih0 := storemanref04_On.mono_l k
    · intro y0 y1 y2 y3
      unfold storemanref04_On.l0
      repeat' first
      | (with_reducible exact ih0 _ _ _ _)
      | (with_reducible exact storemanref04_Right.mono _ _ _ _ _ _ _)
      | (with_reducible exact LeO.refl _)
      | (with_reducible exact LeO.none _)
      | (with_reducible refine LeO.ite ?_ ?_)
      | (with_reducible refine LeO.bind ?_ (fun _ => ?_))
      | exact ih0 _ _ _ _
      | exact storemanref04_Right.mono _ _ _ _ _ _ _
      | exact LeO.none _
      | refine LeO.ite ?_ ?_
      | refine LeO.bind ?_ (fun _ => ?_)
theorem storemanref04_On.mono : ∀ a0 a1 k, LeO (storemanref04_On.f k a0 a1) (storemanref04_On.f (k + 1) a0 a1) := by
  intro a0 a1 k
  have ih0 := storemanref04_On.mono_l k
  unfold storemanref04_On.f
  repeat' first
      | (with_reducible exact ih0 _ _ _ _)
      | (with_reducible exact storemanref04_Right.mono _ _ _ _ _ _ _)
      | (with_reducible exact LeO.refl _)
      | (with_reducible exact LeO.none _)
      | (with_reducible refine LeO.ite ?_ ?_)
      | (with_reducible refine LeO.bind ?_ (fun _ => ?_))
      | exact ih0 _ _ _ _
      | exact storemanref04_Right.mono _ _ _ _ _ _ _
      | exact LeO.none _
      | refine LeO.ite ?_ ?_
      | refine LeO.bind ?_ (fun _ => ?_)
set_option maxHeartbeats 8000000 in
set_option maxRecDepth 100000 in
theorem storemanref04_On.calls (k : Nat) (A0 : Option Addr) (c0 : Nat) (l0 : List (S41)) (a1 : Int) (r : Int) (w : World) (hr0 : Kd.C k41 w A0 l0.length l0) (hc0 : l0.length ≤ c0) (h : storemanref04_On.f k l0 a1 = some r) :
    Calls Tryz.prog 18 #[.slice A0 l0.length c0, .int .i64 a1] w fun e w' => e = .returned (.int .i64 r) ∧ Below w.heap.size w w' := by
  have hu41 := Tryz.underlying41
  have HR0 := Aside0.mk hr0
  have HC0 := Aside0.mk hc0
  clear hr0 hc0
  have HB := Aside0.mk (Below.refl w.heap.size w)
  have H : (storemanref04_On.l0 k l0 a1 0 0) = some r := h
  clear h
  have H' := Aside0.mk H
  clear H
  go_enter Tryz.func18, Tryz.ntmps18
  go_wp2
  go_loopg [5, 6] k (fun kq v5 v6 w' => ∃ (x5_1 : Int) (x6_1 : Int), v5 = .int .i64 x5_1 ∧ v6 = .int .i64 x6_1 ∧ Aside0 (storemanref04_On.l0 kq l0 a1 x5_1 x6_1 = some r) ∧ Aside0 (kq ≤ k) ∧ Aside0 (Below w.heap.size w w'))
  case atStart => exact ⟨(0), (0), (by first | rfl | (simp; done) | (simp [*]; done)), (by first | rfl | (simp; done) | (simp [*]; done)), H', ⟨Nat.le_refl _⟩, ⟨by repeat (first | (with_reducible first | exact HB.out | apply below_alloc | apply pw_below_drewN | apply below_drew1) | exact HB.out)⟩⟩
  case round =>
    clear H'
    try clear c1
    try clear p2
    obtain ⟨x5_1, x6_1, rfl, rfl, HA, HK1, HB⟩ := hrel
    cases gk with
    | zero => exact absurd HA.out (by simp [storemanref04_On.l0])
    | succ k1 =>
      have H := HA.out
      clear HA
      simp only [storemanref04_On.l0] at H
      by_cases c3 : x6_1 < (l0.length : Int)
      · rw [if_pos c3] at H
        have c3b0 : decide (x6_1 < (l0.length : Int)) = true := decide_eq_true c3
        clear c3
        by_cases c4 : 0 ≤ x6_1
        · rw [if_pos c4] at H
          have c4b0 : decide (0 ≤ x6_1) = true := decide_eq_true c4
          clear c4
          replace H := Option.bind_eq_some_iff.mp H
          obtain ⟨t233, A50, H⟩ := H
          replace H : (if t233 = true then (if ((rd_T41 l0 x6_1).f2.f0) ≤ a1 then (if a1 < ((rd_T41 l0 x6_1).f2.f1) then (storemanref04_On.l0 k1 l0 a1 (wrap64 (x5_1 + ((rd_T41 l0 x6_1).f3))) (wrap64 (x6_1 + 1))) else (storemanref04_On.l0 k1 l0 a1 x5_1 (wrap64 (x6_1 + 1)))) else (storemanref04_On.l0 k1 l0 a1 x5_1 (wrap64 (x6_1 + 1)))) else (storemanref04_On.l0 k1 l0 a1 x5_1 (wrap64 (x6_1 + 1)))) = some r := H
          have A5 := Aside0.mk A50
          clear A50
          by_cases c6 : t233 = true
          · subst c6
            have H1 : (if ((rd_T41 l0 x6_1).f2.f0) ≤ a1 then (if a1 < ((rd_T41 l0 x6_1).f2.f1) then (storemanref04_On.l0 k1 l0 a1 (wrap64 (x5_1 + ((rd_T41 l0 x6_1).f3))) (wrap64 (x6_1 + 1))) else (storemanref04_On.l0 k1 l0 a1 x5_1 (wrap64 (x6_1 + 1)))) else (storemanref04_On.l0 k1 l0 a1 x5_1 (wrap64 (x6_1 + 1)))) = some r := by rw [if_pos rfl] at H; exact H
            clear H
            have H := H1
            clear H1
            by_cases c7 : ((rd_T41 l0 x6_1).f2.f0) ≤ a1
            · rw [if_pos c7] at H
              have c7b0 : decide (((rd_T41 l0 x6_1).f2.f0) ≤ a1) = true := decide_eq_true c7
              clear c7
              by_cases c8 : a1 < ((rd_T41 l0 x6_1).f2.f1)
              · rw [if_pos c8] at H
                have c8b0 : decide (a1 < ((rd_T41 l0 x6_1).f2.f1)) = true := decide_eq_true c8
                clear c8
                have H' := Aside0.mk H
                clear H
                have p232 : 0 ≤ (x6_1 : Int) := of_decide_eq_true (by first | (with_reducible assumption) | assumption)
                have q232 : x6_1 < (l0.length : Int) := of_decide_eq_true (by first | (with_reducible assumption) | assumption)
                obtain ⟨ad232, e232, hx232_0, hx232_1, hx232_2, hx232_3, hx232_4, hx232_5⟩ := at_T41 HR0.out x6_1 p232 q232
                cases e232
                replace hx232_0 := (HB.out.cell (World.block_lt_of_cell? w _ hx232_0)).trans hx232_0
                replace hx232_1 := (HB.out.cell (World.block_lt_of_cell? w _ hx232_1)).trans hx232_1
                replace hx232_2 := (HB.out.cell (World.block_lt_of_cell? w _ hx232_2)).trans hx232_2
                replace hx232_3 := (HB.out.cell (World.block_lt_of_cell? w _ hx232_3)).trans hx232_3
                replace hx232_4 := (HB.out.cell (World.block_lt_of_cell? w _ hx232_4)).trans hx232_4
                replace hx232_5 := (HB.out.cell (World.block_lt_of_cell? w _ hx232_5)).trans hx232_5
                replace p232 := eq_true p232
                replace q232 := eq_true q232
                go_wp2_with (first | ((with_reducible refine gate_callee (f := 33) rfl ?_); refine goesL_ (some 17) rfl rfl Tryz.func33 (by kernel_rfl) rfl #[.agg #[.int .i64 ((rd_T41 l0 x6_1).f0), .string ((rd_T41 l0 x6_1).f1), .int .i64 ((rd_T41 l0 x6_1).f2.f0), .int .i64 ((rd_T41 l0 x6_1).f2.f1), .int .i64 ((rd_T41 l0 x6_1).f3), .bool ((rd_T41 l0 x6_1).f4)]] rfl (by (try simp only [List.map_toArray, List.map_cons, List.map_nil]); first | done | rfl | (simp only [List.length_drop, List.length_take]; rfl)) ?_; (with_reducible refine (storemanref04_Right.calls k1 ((rd_T41 l0 x6_1).f0) ((rd_T41 l0 x6_1).f1) ((rd_T41 l0 x6_1).f2.f0) ((rd_T41 l0 x6_1).f2.f1) ((rd_T41 l0 x6_1).f3) ((rd_T41 l0 x6_1).f4) true _ A5.out).mono ?_); rintro e w9 ⟨rfl, hb⟩; refine ⟨_, rfl, ?_⟩; have n0_ := Aside0.mk (below_step (by repeat (first | (with_reducible first | exact HB.out | apply below_alloc | apply pw_below_drewN | apply below_drew1) | exact HB.out)) hb); clear HB; have HB := n0_; clear n0_; (try clear hb); (try clear hb2); (try clear hk); (try clear hi); have p234 : 0 ≤ (x6_1 : Int) := of_decide_eq_true (by first | (with_reducible assumption) | assumption); have q234 : x6_1 < (l0.length : Int) := of_decide_eq_true (by first | (with_reducible assumption) | assumption); obtain ⟨ad234, e234, hx234_0, hx234_1, hx234_2, hx234_3, hx234_4, hx234_5⟩ := at_T41 HR0.out x6_1 p234 q234; obtain rfl : ad232 = ad234 := (by injection e234); replace hx234_0 := (HB.out.cell (World.block_lt_of_cell? w _ hx234_0)).trans hx234_0; replace hx234_1 := (HB.out.cell (World.block_lt_of_cell? w _ hx234_1)).trans hx234_1; replace hx234_2 := (HB.out.cell (World.block_lt_of_cell? w _ hx234_2)).trans hx234_2; replace hx234_3 := (HB.out.cell (World.block_lt_of_cell? w _ hx234_3)).trans hx234_3; replace hx234_4 := (HB.out.cell (World.block_lt_of_cell? w _ hx234_4)).trans hx234_4; replace hx234_5 := (HB.out.cell (World.block_lt_of_cell? w _ hx234_5)).trans hx234_5; replace p234 := eq_true p234; replace q234 := eq_true q234; have p235 : 0 ≤ (x6_1 : Int) := of_decide_eq_true (by first | (with_reducible assumption) | assumption); have q235 : x6_1 < (l0.length : Int) := of_decide_eq_true (by first | (with_reducible assumption) | assumption); obtain ⟨ad235, e235, hx235_0, hx235_1, hx235_2, hx235_3, hx235_4, hx235_5⟩ := at_T41 HR0.out x6_1 p235 q235; obtain rfl : ad232 = ad235 := (by injection e235); replace hx235_0 := (HB.out.cell (World.block_lt_of_cell? w _ hx235_0)).trans hx235_0; replace hx235_1 := (HB.out.cell (World.block_lt_of_cell? w _ hx235_1)).trans hx235_1; replace hx235_2 := (HB.out.cell (World.block_lt_of_cell? w _ hx235_2)).trans hx235_2; replace hx235_3 := (HB.out.cell (World.block_lt_of_cell? w _ hx235_3)).trans hx235_3; replace hx235_4 := (HB.out.cell (World.block_lt_of_cell? w _ hx235_4)).trans hx235_4; replace hx235_5 := (HB.out.cell (World.block_lt_of_cell? w _ hx235_5)).trans hx235_5; replace p235 := eq_true p235; replace q235 := eq_true q235; have p236 : 0 ≤ (x6_1 : Int) := of_decide_eq_true (by first | (with_reducible assumption) | assumption); have q236 : x6_1 < (l0.length : Int) := of_decide_eq_true (by first | (with_reducible assumption) | assumption); obtain ⟨ad236, e236, hx236_0, hx236_1, hx236_2, hx236_3, hx236_4, hx236_5⟩ := at_T41 HR0.out x6_1 p236 q236; obtain rfl : ad232 = ad236 := (by injection e236); replace hx236_0 := (HB.out.cell (World.block_lt_of_cell? w _ hx236_0)).trans hx236_0; replace hx236_1 := (HB.out.cell (World.block_lt_of_cell? w _ hx236_1)).trans hx236_1; replace hx236_2 := (HB.out.cell (World.block_lt_of_cell? w _ hx236_2)).trans hx236_2; replace hx236_3 := (HB.out.cell (World.block_lt_of_cell? w _ hx236_3)).trans hx236_3; replace hx236_4 := (HB.out.cell (World.block_lt_of_cell? w _ hx236_4)).trans hx236_4; replace hx236_5 := (HB.out.cell (World.block_lt_of_cell? w _ hx236_5)).trans hx236_5; replace p236 := eq_true p236; replace q236 := eq_true q236))
                go_roundg k1
                case measure => have := HK1.out; omega
                case rel => exact ⟨(wrap64 (x5_1 + ((rd_T41 l0 x6_1).f3))), (wrap64 (x6_1 + 1)), (by first | rfl | (simp; done) | (simp [*]; done)), (by first | rfl | (simp; done) | (simp [*]; done)), H', ⟨by have := HK1.out; omega⟩, ⟨by repeat (first | (with_reducible first | exact HB.out | apply below_alloc | apply pw_below_drewN | apply below_drew1) | exact HB.out)⟩⟩
              · rw [if_neg c8] at H
                have c8b0 : decide (a1 < ((rd_T41 l0 x6_1).f2.f1)) = false := decide_eq_false c8
                clear c8
                have H' := Aside0.mk H
                clear H
                have p232 : 0 ≤ (x6_1 : Int) := of_decide_eq_true (by first | (with_reducible assumption) | assumption)
                have q232 : x6_1 < (l0.length : Int) := of_decide_eq_true (by first | (with_reducible assumption) | assumption)
                obtain ⟨ad232, e232, hx232_0, hx232_1, hx232_2, hx232_3, hx232_4, hx232_5⟩ := at_T41 HR0.out x6_1 p232 q232
                cases e232
                replace hx232_0 := (HB.out.cell (World.block_lt_of_cell? w _ hx232_0)).trans hx232_0
                replace hx232_1 := (HB.out.cell (World.block_lt_of_cell? w _ hx232_1)).trans hx232_1
                replace hx232_2 := (HB.out.cell (World.block_lt_of_cell? w _ hx232_2)).trans hx232_2
                replace hx232_3 := (HB.out.cell (World.block_lt_of_cell? w _ hx232_3)).trans hx232_3
                replace hx232_4 := (HB.out.cell (World.block_lt_of_cell? w _ hx232_4)).trans hx232_4
                replace hx232_5 := (HB.out.cell (World.block_lt_of_cell? w _ hx232_5)).trans hx232_5
                replace p232 := eq_true p232
                replace q232 := eq_true q232
                go_wp2_with (first | ((with_reducible refine gate_callee (f := 33) rfl ?_); refine goesL_ (some 17) rfl rfl Tryz.func33 (by kernel_rfl) rfl #[.agg #[.int .i64 ((rd_T41 l0 x6_1).f0), .string ((rd_T41 l0 x6_1).f1), .int .i64 ((rd_T41 l0 x6_1).f2.f0), .int .i64 ((rd_T41 l0 x6_1).f2.f1), .int .i64 ((rd_T41 l0 x6_1).f3), .bool ((rd_T41 l0 x6_1).f4)]] rfl (by (try simp only [List.map_toArray, List.map_cons, List.map_nil]); first | done | rfl | (simp only [List.length_drop, List.length_take]; rfl)) ?_; (with_reducible refine (storemanref04_Right.calls k1 ((rd_T41 l0 x6_1).f0) ((rd_T41 l0 x6_1).f1) ((rd_T41 l0 x6_1).f2.f0) ((rd_T41 l0 x6_1).f2.f1) ((rd_T41 l0 x6_1).f3) ((rd_T41 l0 x6_1).f4) true _ A5.out).mono ?_); rintro e w10 ⟨rfl, hb⟩; refine ⟨_, rfl, ?_⟩; have n0_ := Aside0.mk (below_step (by repeat (first | (with_reducible first | exact HB.out | apply below_alloc | apply pw_below_drewN | apply below_drew1) | exact HB.out)) hb); clear HB; have HB := n0_; clear n0_; (try clear hb); (try clear hb2); (try clear hk); (try clear hi); have p234 : 0 ≤ (x6_1 : Int) := of_decide_eq_true (by first | (with_reducible assumption) | assumption); have q234 : x6_1 < (l0.length : Int) := of_decide_eq_true (by first | (with_reducible assumption) | assumption); obtain ⟨ad234, e234, hx234_0, hx234_1, hx234_2, hx234_3, hx234_4, hx234_5⟩ := at_T41 HR0.out x6_1 p234 q234; obtain rfl : ad232 = ad234 := (by injection e234); replace hx234_0 := (HB.out.cell (World.block_lt_of_cell? w _ hx234_0)).trans hx234_0; replace hx234_1 := (HB.out.cell (World.block_lt_of_cell? w _ hx234_1)).trans hx234_1; replace hx234_2 := (HB.out.cell (World.block_lt_of_cell? w _ hx234_2)).trans hx234_2; replace hx234_3 := (HB.out.cell (World.block_lt_of_cell? w _ hx234_3)).trans hx234_3; replace hx234_4 := (HB.out.cell (World.block_lt_of_cell? w _ hx234_4)).trans hx234_4; replace hx234_5 := (HB.out.cell (World.block_lt_of_cell? w _ hx234_5)).trans hx234_5; replace p234 := eq_true p234; replace q234 := eq_true q234; have p235 : 0 ≤ (x6_1 : Int) := of_decide_eq_true (by first | (with_reducible assumption) | assumption); have q235 : x6_1 < (l0.length : Int) := of_decide_eq_true (by first | (with_reducible assumption) | assumption); obtain ⟨ad235, e235, hx235_0, hx235_1, hx235_2, hx235_3, hx235_4, hx235_5⟩ := at_T41 HR0.out x6_1 p235 q235; obtain rfl : ad232 = ad235 := (by injection e235); replace hx235_0 := (HB.out.cell (World.block_lt_of_cell? w _ hx235_0)).trans hx235_0; replace hx235_1 := (HB.out.cell (World.block_lt_of_cell? w _ hx235_1)).trans hx235_1; replace hx235_2 := (HB.out.cell (World.block_lt_of_cell? w _ hx235_2)).trans hx235_2; replace hx235_3 := (HB.out.cell (World.block_lt_of_cell? w _ hx235_3)).trans hx235_3; replace hx235_4 := (HB.out.cell (World.block_lt_of_cell? w _ hx235_4)).trans hx235_4; replace hx235_5 := (HB.out.cell (World.block_lt_of_cell? w _ hx235_5)).trans hx235_5; replace p235 := eq_true p235; replace q235 := eq_true q235))
                go_roundg k1
                case measure => have := HK1.out; omega
                case rel => exact ⟨(x5_1), (wrap64 (x6_1 + 1)), (by first | rfl | (simp; done) | (simp [*]; done)), (by first | rfl | (simp; done) | (simp [*]; done)), H', ⟨by have := HK1.out; omega⟩, ⟨by repeat (first | (with_reducible first | exact HB.out | apply below_alloc | apply pw_below_drewN | apply below_drew1) | exact HB.out)⟩⟩
            · rw [if_neg c7] at H
              have c7b0 : decide (((rd_T41 l0 x6_1).f2.f0) ≤ a1) = false := decide_eq_false c7
              clear c7
              have H' := Aside0.mk H
              clear H
              have p232 : 0 ≤ (x6_1 : Int) := of_decide_eq_true (by first | (with_reducible assumption) | assumption)
              have q232 : x6_1 < (l0.length : Int) := of_decide_eq_true (by first | (with_reducible assumption) | assumption)
              obtain ⟨ad232, e232, hx232_0, hx232_1, hx232_2, hx232_3, hx232_4, hx232_5⟩ := at_T41 HR0.out x6_1 p232 q232
              cases e232
              replace hx232_0 := (HB.out.cell (World.block_lt_of_cell? w _ hx232_0)).trans hx232_0
              replace hx232_1 := (HB.out.cell (World.block_lt_of_cell? w _ hx232_1)).trans hx232_1
              replace hx232_2 := (HB.out.cell (World.block_lt_of_cell? w _ hx232_2)).trans hx232_2
              replace hx232_3 := (HB.out.cell (World.block_lt_of_cell? w _ hx232_3)).trans hx232_3
              replace hx232_4 := (HB.out.cell (World.block_lt_of_cell? w _ hx232_4)).trans hx232_4
              replace hx232_5 := (HB.out.cell (World.block_lt_of_cell? w _ hx232_5)).trans hx232_5
              replace p232 := eq_true p232
              replace q232 := eq_true q232
              go_wp2_with (first | ((with_reducible refine gate_callee (f := 33) rfl ?_); refine goesL_ (some 17) rfl rfl Tryz.func33 (by kernel_rfl) rfl #[.agg #[.int .i64 ((rd_T41 l0 x6_1).f0), .string ((rd_T41 l0 x6_1).f1), .int .i64 ((rd_T41 l0 x6_1).f2.f0), .int .i64 ((rd_T41 l0 x6_1).f2.f1), .int .i64 ((rd_T41 l0 x6_1).f3), .bool ((rd_T41 l0 x6_1).f4)]] rfl (by (try simp only [List.map_toArray, List.map_cons, List.map_nil]); first | done | rfl | (simp only [List.length_drop, List.length_take]; rfl)) ?_; (with_reducible refine (storemanref04_Right.calls k1 ((rd_T41 l0 x6_1).f0) ((rd_T41 l0 x6_1).f1) ((rd_T41 l0 x6_1).f2.f0) ((rd_T41 l0 x6_1).f2.f1) ((rd_T41 l0 x6_1).f3) ((rd_T41 l0 x6_1).f4) true _ A5.out).mono ?_); rintro e w11 ⟨rfl, hb⟩; refine ⟨_, rfl, ?_⟩; have n0_ := Aside0.mk (below_step (by repeat (first | (with_reducible first | exact HB.out | apply below_alloc | apply pw_below_drewN | apply below_drew1) | exact HB.out)) hb); clear HB; have HB := n0_; clear n0_; (try clear hb); (try clear hb2); (try clear hk); (try clear hi); have p234 : 0 ≤ (x6_1 : Int) := of_decide_eq_true (by first | (with_reducible assumption) | assumption); have q234 : x6_1 < (l0.length : Int) := of_decide_eq_true (by first | (with_reducible assumption) | assumption); obtain ⟨ad234, e234, hx234_0, hx234_1, hx234_2, hx234_3, hx234_4, hx234_5⟩ := at_T41 HR0.out x6_1 p234 q234; obtain rfl : ad232 = ad234 := (by injection e234); replace hx234_0 := (HB.out.cell (World.block_lt_of_cell? w _ hx234_0)).trans hx234_0; replace hx234_1 := (HB.out.cell (World.block_lt_of_cell? w _ hx234_1)).trans hx234_1; replace hx234_2 := (HB.out.cell (World.block_lt_of_cell? w _ hx234_2)).trans hx234_2; replace hx234_3 := (HB.out.cell (World.block_lt_of_cell? w _ hx234_3)).trans hx234_3; replace hx234_4 := (HB.out.cell (World.block_lt_of_cell? w _ hx234_4)).trans hx234_4; replace hx234_5 := (HB.out.cell (World.block_lt_of_cell? w _ hx234_5)).trans hx234_5; replace p234 := eq_true p234; replace q234 := eq_true q234))
              go_roundg k1
              case measure => have := HK1.out; omega
              case rel => exact ⟨(x5_1), (wrap64 (x6_1 + 1)), (by first | rfl | (simp; done) | (simp [*]; done)), (by first | rfl | (simp; done) | (simp [*]; done)), H', ⟨by have := HK1.out; omega⟩, ⟨by repeat (first | (with_reducible first | exact HB.out | apply below_alloc | apply pw_below_drewN | apply below_drew1) | exact HB.out)⟩⟩
          · replace c6 := Bool.eq_false_iff.mpr c6
            subst c6
            have H1 : (storemanref04_On.l0 k1 l0 a1 x5_1 (wrap64 (x6_1 + 1))) = some r := by rw [if_neg (show ¬ (false = true) by decide)] at H; exact H
            clear H
            have H := H1
            clear H1
            have H' := Aside0.mk H
            clear H
            have p232 : 0 ≤ (x6_1 : Int) := of_decide_eq_true (by first | (with_reducible assumption) | assumption)
            have q232 : x6_1 < (l0.length : Int) := of_decide_eq_true (by first | (with_reducible assumption) | assumption)
            obtain ⟨ad232, e232, hx232_0, hx232_1, hx232_2, hx232_3, hx232_4, hx232_5⟩ := at_T41 HR0.out x6_1 p232 q232
            cases e232
            replace hx232_0 := (HB.out.cell (World.block_lt_of_cell? w _ hx232_0)).trans hx232_0
            replace hx232_1 := (HB.out.cell (World.block_lt_of_cell? w _ hx232_1)).trans hx232_1
            replace hx232_2 := (HB.out.cell (World.block_lt_of_cell? w _ hx232_2)).trans hx232_2
            replace hx232_3 := (HB.out.cell (World.block_lt_of_cell? w _ hx232_3)).trans hx232_3
            replace hx232_4 := (HB.out.cell (World.block_lt_of_cell? w _ hx232_4)).trans hx232_4
            replace hx232_5 := (HB.out.cell (World.block_lt_of_cell? w _ hx232_5)).trans hx232_5
            replace p232 := eq_true p232
            replace q232 := eq_true q232
            go_wp2_with (first | ((with_reducible refine gate_callee (f := 33) rfl ?_); refine goesL_ (some 17) rfl rfl Tryz.func33 (by kernel_rfl) rfl #[.agg #[.int .i64 ((rd_T41 l0 x6_1).f0), .string ((rd_T41 l0 x6_1).f1), .int .i64 ((rd_T41 l0 x6_1).f2.f0), .int .i64 ((rd_T41 l0 x6_1).f2.f1), .int .i64 ((rd_T41 l0 x6_1).f3), .bool ((rd_T41 l0 x6_1).f4)]] rfl (by (try simp only [List.map_toArray, List.map_cons, List.map_nil]); first | done | rfl | (simp only [List.length_drop, List.length_take]; rfl)) ?_; (with_reducible refine (storemanref04_Right.calls k1 ((rd_T41 l0 x6_1).f0) ((rd_T41 l0 x6_1).f1) ((rd_T41 l0 x6_1).f2.f0) ((rd_T41 l0 x6_1).f2.f1) ((rd_T41 l0 x6_1).f3) ((rd_T41 l0 x6_1).f4) false _ A5.out).mono ?_); rintro e w12 ⟨rfl, hb⟩; refine ⟨_, rfl, ?_⟩; have n0_ := Aside0.mk (below_step (by repeat (first | (with_reducible first | exact HB.out | apply below_alloc | apply pw_below_drewN | apply below_drew1) | exact HB.out)) hb); clear HB; have HB := n0_; clear n0_; (try clear hb); (try clear hb2); (try clear hk); (try clear hi)))
            go_roundg k1
            case measure => have := HK1.out; omega
            case rel => exact ⟨(x5_1), (wrap64 (x6_1 + 1)), (by first | rfl | (simp; done) | (simp [*]; done)), (by first | rfl | (simp; done) | (simp [*]; done)), H', ⟨by have := HK1.out; omega⟩, ⟨by repeat (first | (with_reducible first | exact HB.out | apply below_alloc | apply pw_below_drewN | apply below_drew1) | exact HB.out)⟩⟩
        · rw [if_neg c4] at H
          exact absurd H (by simp)
      · rw [if_neg c3] at H
        have c3b0 : decide (x6_1 < (l0.length : Int)) = false := decide_eq_false c3
        clear c3
        obtain rfl := Option.some.inj H
        go_wp2
        go_ret
        exact ⟨by first | rfl | (simp [errW_none, errW_some] <;> rfl) | (simp [*, errW_none, errW_some] <;> rfl), by repeat (first | (with_reducible first | exact HB.out | apply below_alloc | apply pw_below_drewN | apply below_drew1) | exact HB.out)⟩

end Go.Proofs.YtckekncllmhohaaGreat.Q
namespace Go.Proofs.YtckekncllmhohaaGreat.Q
open Go.RowKit Go.Sort Go.Proofs.YtckekncllmhohaaGreatW.PrintWords Go.Proofs.YtckekncllmhohaaGreatW.PrintLast Go.Proofs.YtckekncllmhohaaGreatW.PrintMore Go.Proofs.YtckekncllmhohaaGreat.G
set_option linter.all false
abbrev Lt0 := S41
theorem wrapS {a : Int} (h0 : 0 ≤ a) (h : a ≤ 1000000) : wrap64 (a + 1) = a + 1 := by unfold wrap64; omega
theorem wrapP {a : Int} (h0 : 0 ≤ a) (h : a ≤ 1000000) : wrap64 (a - 1) = a - 1 := by unfold wrap64; omega
theorem lt_none {out : List Lt0} {x : Lt0} (hs : out.Pairwise (fun a b => ltOf lotCmp b a = false)) (a : Nat) (ha : a < out.length) (h : ltOf lotCmp x (out.getD a z41) = false) : ∀ y ∈ out.take (a + 1), ltOf lotCmp x y = false := by
  intro y hy
  obtain ⟨j, hj, rfl⟩ := List.mem_iff_getElem.1 hy
  rw [List.length_take] at hj
  rw [List.getElem_take]
  rw [List.getD_eq_getElem?_getD, List.getElem?_eq_getElem ha] at h
  simp only [Option.getD_some] at h
  by_cases e : j = a
  · subst e; exact h
  · have := List.pairwise_iff_getElem.1 hs j a (by omega) ha (by omega)
    exact lot_swo.ntrans _ _ _ h this
theorem refSort_l1 (l out : List Lt0) (i : Nat) (hi : i < l.length) (hl : l.length ≤ 1000000) (ho : out.length ≤ 1000000) (r : List Lt0) (hs : out.Pairwise (fun a b => ltOf lotCmp b a = false))
    (hnext : ∀ p, p ≤ out.length → (∀ y ∈ out.drop p, ltOf lotCmp (l.getD i z41) y = true) → (∀ y ∈ out.take p, ltOf lotCmp (l.getD i z41) y = false) → ∃ k, storemanref04_Sort.l0 k l (out.take p ++ [l.getD i z41] ++ out.drop p) ((i : Int) + 1) = some r) :
    ∀ a : Nat, a ≤ out.length → (∀ y ∈ out.drop a, ltOf lotCmp (l.getD i z41) y = true) → ∃ k, storemanref04_Sort.l1 k l out (i : Int) (a : Int) = some r := by
  intro a
  induction a with
  | zero =>
    intro _ h1
    obtain ⟨k, hk⟩ := hnext 0 (Nat.zero_le _) h1 (fun y hy => by simp at hy)
    refine ⟨k + 1, ?_⟩
    simp only [storemanref04_Sort.l1, Option.bind_some]
    have hr : rd_T41 l (i : Int) = l.getD i z41 := rfl
    rw [hr]
    generalize l.getD i z41 = x at hk ⊢
    rw [if_neg (by omega), if_pos (by omega), if_pos (by omega)]
    simp only [Int.toNat_natCast, List.length_append, List.length_take, List.length_nil, List.length_singleton, List.length_drop, List.nil_append]
    rw [if_pos (by omega), if_pos (by omega), if_pos (by omega), if_pos (by omega), if_pos (by omega), wrapS (by omega) (by omega)]
    exact hk
  | succ a ih =>
    intro ha h1
    have hr : rd_T41 l (i : Int) = l.getD i z41 := rfl
    have hr2 : rd_T41 out (a : Int) = out.getD a z41 := rfl
    have hw : wrap64 (((a + 1 : Nat) : Int) - 1) = (a : Int) := by rw [wrapP (by omega) (by omega)]; omega
    by_cases hc : lotCmp (l.getD i z41) (out.getD a z41) < 0
    · obtain ⟨k, hk⟩ := ih (by omega) (fun y hy => by
        rw [List.drop_eq_getElem_cons (by omega), List.mem_cons] at hy
        rcases hy with rfl | hy
        · have e : out.getD a z41 = out[a] := by rw [List.getD_eq_getElem?_getD, List.getElem?_eq_getElem (show a < out.length by omega)]; rfl
          rw [e] at hc
          exact decide_eq_true hc
        · exact h1 y hy)
      refine ⟨k + 1, ?_⟩
      simp only [storemanref04_Sort.l1, Option.bind_some]
      rw [hw, hr, hr2, refCmp_is]
      generalize l.getD i z41 = x at hc ⊢
      generalize out.getD a z41 = y at hc ⊢
      rw [if_pos (by omega), if_pos (by omega), if_pos (by omega), if_pos (by omega), if_pos (by omega), Option.bind_some, if_pos hc]
      exact hk
    · obtain ⟨k, hk⟩ := hnext (a + 1) ha h1 (lt_none hs a (by omega) (decide_eq_false hc))
      refine ⟨k + 1, ?_⟩
      simp only [storemanref04_Sort.l1, Option.bind_some]
      rw [hw, hr, hr2, refCmp_is]
      generalize l.getD i z41 = x at hc hk ⊢
      generalize out.getD a z41 = y at hc ⊢
      rw [if_pos (by omega), if_pos (by omega), if_pos (by omega), if_pos (by omega), if_pos (by omega), Option.bind_some, if_neg hc]
      simp only [Int.toNat_natCast, List.length_append, List.length_take, List.length_nil, List.length_singleton, List.length_drop, List.nil_append]
      rw [if_pos (by omega), if_pos (by omega), if_pos (by omega), if_pos (by omega), if_pos (by omega), wrapS (by omega) (by omega)]
      exact hk
theorem take_next {α : Type} (l : List α) (z : α) (i : Nat) (h : i < l.length) : l.take (i + 1) = l.take i ++ [l.getD i z] := by
  rw [List.take_succ_eq_append_getElem h, List.getD_eq_getElem?_getD, List.getElem?_eq_getElem h]; rfl
theorem refSort_l0 (l : List Lt0) (hl : l.length ≤ 1000000) : ∀ d i, l.length - i = d → i ≤ l.length → ∃ k, storemanref04_Sort.l0 k l (sorts (l.take i)) (i : Int) = some (sorts l) := by
  intro d
  induction d with
  | zero =>
    intro i hd hi
    refine ⟨1, ?_⟩
    simp only [storemanref04_Sort.l0]
    rw [if_neg (by omega), List.take_of_length_le (by omega)]
  | succ d ih =>
    intro i hd hi
    have hil : i < l.length := by omega
    obtain ⟨k, hk⟩ := ih (i + 1) (by omega) (by omega)
    have htk := take_next l z41 i hil
    have hol : (sorts (l.take i)).length ≤ 1000000 := by have := sorts_length (l.take i); rw [List.length_take] at this; omega
    obtain ⟨k1, hk1⟩ := refSort_l1 l (sorts (l.take i)) i hil hl hol (sorts l) (stabl_sorted lot_swo _) (fun p hp h1 h2 => by
      refine ⟨k, ?_⟩
      have : sorts (l.take (i + 1)) = (sorts (l.take i)).take p ++ [l.getD i z41] ++ (sorts (l.take i)).drop p := by
        unfold sorts
        rw [htk, List.append_assoc]
        exact stabl_snoc lot_swo (l.take i) _ p hp h1 h2
      rw [← this]
      exact hk) (sorts (l.take i)).length (Nat.le_refl _) (fun y hy => by simp at hy)
    refine ⟨k1 + 1, ?_⟩
    simp only [storemanref04_Sort.l0]
    first
    | (rw [if_pos (by omega), if_pos (by omega)]; exact hk1)
    | (rw [if_pos (by omega)]; exact hk1)
theorem refSort_is (l : List Lt0) (hl : l.length ≤ 1000000) : ∃ k, storemanref04_Sort.f k l = some (sorts l) := by
  obtain ⟨k, hk⟩ := refSort_l0 l hl l.length 0 (by omega) (by omega)
  exact ⟨k, hk⟩
end Go.Proofs.YtckekncllmhohaaGreat.Q
namespace Go.Proofs.YtckekncllmhohaaGreat.Q
open Go.RowKit Go.Sort Go.Proofs.YtckekncllmhohaaGreatW.PrintWords Go.Proofs.YtckekncllmhohaaGreatW.PrintLast Go.Proofs.YtckekncllmhohaaGreatW.PrintMore Go.Proofs.YtckekncllmhohaaGreat.G
set_option linter.all false
theorem flt_take {α : Type} (p : α → Bool) (l : List α) (z : α) (i : Nat) (h : i < l.length) : (l.take (i + 1)).filter p = (l.take i).filter p ++ if p (l.getD i z) = true then [l.getD i z] else [] := by
  rw [take_next l z i h, List.filter_append]
  congr 1
  rw [List.filter_cons]
  split <;> rfl
theorem flt_len {α : Type} (p : α → Bool) (l : List α) (i : Nat) : ((l.take i).filter p).length ≤ i := Nat.le_trans (List.length_filter_le _ _) (by rw [List.length_take]; omega)
theorem refSweep_l0 (l : List Lt0) (day : Int) (hl : l.length ≤ 1000000) : ∀ d i, l.length - i = d → i ≤ l.length → ∀ k, d < k →
    storemanref04_Sweep.l0 k l day ((l.take i).filter fun x => !overB day x) ((l.take i).filter (overB day)) (i : Int) = some (l.filter (fun x => !overB day x), l.filter (overB day)) := by
  intro d
  induction d with
  | zero =>
    intro i hd hi k hk
    obtain ⟨k, rfl⟩ : ∃ m, k = m + 1 := ⟨k - 1, by omega⟩
    simp only [storemanref04_Sweep.l0]
    rw [if_neg (by omega), List.take_of_length_le (by omega)]
  | succ d ih =>
    intro i hd hi k hk
    obtain ⟨k, rfl⟩ : ∃ m, k = m + 1 := ⟨k - 1, by omega⟩
    have hil : i < l.length := by omega
    have h := ih (i + 1) (by omega) (by omega) k (by omega)
    rw [flt_take _ l z41 i hil, flt_take _ l z41 i hil] at h
    have hr : rd_T41 l (i : Int) = l.getD i z41 := rfl
    have h1 := flt_len (fun x => !overB day x) l i
    have h2 := flt_len (overB day) l i
    simp only [storemanref04_Sweep.l0]
    rw [hr, if_pos (by omega), if_pos (by omega), wrapS (by omega) (by omega)]
    generalize l.getD i z41 = x at h ⊢
    by_cases h4 : x.f4 = true
    · by_cases h5 : x.f2.f1 ≤ day
      · have ho : overB day x = true := by unfold overB; simp [h4, h5]
        rw [if_pos h4, if_pos h5, if_pos (by omega)]
        simp only [ho, Bool.not_true, Bool.false_eq_true, if_false, if_true, List.append_nil] at h
        exact h
      · have ho : overB day x = false := by unfold overB; simp [h5]
        rw [if_pos h4, if_neg h5, if_pos (by omega)]
        simp only [ho, Bool.not_false, Bool.false_eq_true, if_false, if_true, List.append_nil] at h
        exact h
    · have ho : overB day x = false := by unfold overB; simp [h4]
      rw [if_neg h4, if_pos (by omega)]
      simp only [ho, Bool.not_false, Bool.false_eq_true, if_false, if_true, List.append_nil] at h
      exact h
theorem refSweep_is (l : List Lt0) (day : Int) (hl : l.length ≤ 1000000) : ∃ k, storemanref04_Sweep.f k l day = some (l.filter (fun x => !overB day x), l.filter (overB day)) :=
  ⟨_, refSweep_l0 l day hl l.length 0 (by omega) (by omega) (l.length + 1) (by omega)⟩
theorem refOf_l0 (l : List Lt0) (item : ByteArray) (hl : l.length ≤ 1000000) : ∀ d i, l.length - i = d → i ≤ l.length → ∀ k, d < k →
    storemanref04_Of.l0 k l item ((l.take i).filter fun x => x.f1.toList == item.toList) (i : Int) = some (l.filter fun x => x.f1.toList == item.toList) := by
  intro d
  induction d with
  | zero =>
    intro i hd hi k hk
    obtain ⟨k, rfl⟩ : ∃ m, k = m + 1 := ⟨k - 1, by omega⟩
    simp only [storemanref04_Of.l0]
    rw [if_neg (by omega), List.take_of_length_le (by omega)]
  | succ d ih =>
    intro i hd hi k hk
    obtain ⟨k, rfl⟩ : ∃ m, k = m + 1 := ⟨k - 1, by omega⟩
    have hil : i < l.length := by omega
    have h := ih (i + 1) (by omega) (by omega) k (by omega)
    rw [flt_take _ l z41 i hil] at h
    have hr : rd_T41 l (i : Int) = l.getD i z41 := rfl
    have h1 := flt_len (fun x : S41 => x.f1.toList == item.toList) l i
    simp only [storemanref04_Of.l0]
    rw [hr, if_pos (by omega), if_pos (by omega), wrapS (by omega) (by omega)]
    generalize l.getD i z41 = x at h ⊢
    by_cases h4 : x.f1.toList = item.toList
    · rw [if_pos h4, if_pos (by omega)]
      rw [if_pos (by simpa using h4)] at h
      exact h
    · rw [if_neg h4]
      rw [if_neg (by simpa using h4), List.append_nil] at h
      exact h
theorem refOf_is (l : List Lt0) (item : ByteArray) (hl : l.length ≤ 1000000) : ∃ k, storemanref04_Of.f k l item = some (l.filter fun x => x.f1.toList == item.toList) :=
  ⟨_, refOf_l0 l item hl l.length 0 (by omega) (by omega) (l.length + 1) (by omega)⟩
theorem has_lot {day : Int} {x : Lt0} (h : lotB x = true) : hasB x.f2.f0 x.f2.f1 day = (decide (x.f2.f0 ≤ day) && decide (day < x.f2.f1)) := by
  unfold lotB at h
  simp only [Bool.and_eq_true, decide_eq_true_eq] at h
  obtain ⟨-, -, h1, h2, h3, -⟩ := h
  unfold hasB
  rw [decide_eq_true (by omega : 0 ≤ x.f2.f0), decide_eq_true (by omega : x.f2.f0 ≤ x.f2.f1), decide_eq_true h3]
  simp
theorem refOn_l0 (l : List Lt0) (day : Int) (hl : l.length ≤ 1000000) : ∀ d i, l.length - i = d → i ≤ l.length → ∀ k, d + 15 < k →
    storemanref04_On.l0 k l day (onSum day ((l.take i).filter lotB)) (i : Int) = some (onSum day (l.filter lotB)) := by
  intro d
  induction d with
  | zero =>
    intro i hd hi k hk
    obtain ⟨k, rfl⟩ : ∃ m, k = m + 1 := ⟨k - 1, by omega⟩
    simp only [storemanref04_On.l0]
    rw [if_neg (by omega), List.take_of_length_le (by omega)]
  | succ d ih =>
    intro i hd hi k hk
    obtain ⟨k, rfl⟩ : ∃ m, k = m + 1 := ⟨k - 1, by omega⟩
    have hil : i < l.length := by omega
    have h := ih (i + 1) (by omega) (by omega) k (by omega)
    rw [flt_take _ l z41 i hil] at h
    have hr : rd_T41 l (i : Int) = l.getD i z41 := rfl
    simp only [storemanref04_On.l0]
    rw [hr, if_pos (by omega), if_pos (by omega), wrapS (by omega) (by omega), ref04_is _ k (by omega), Option.bind_some]
    generalize l.getD i z41 = x at h ⊢
    by_cases hb : lotB x = true
    · rw [if_pos hb]
      rw [if_pos hb, show onSum day ((l.take i).filter lotB ++ [x]) = onStep day (onSum day ((l.take i).filter lotB)) x from by unfold onSum; rw [List.foldl_append]; rfl] at h
      unfold onStep at h
      rw [has_lot hb] at h
      by_cases h1 : x.f2.f0 ≤ day
      · by_cases h2 : day < x.f2.f1
        · rw [if_pos h1, if_pos h2]
          rw [if_pos (by simp [h1, h2])] at h
          exact h
        · rw [if_pos h1, if_neg h2]
          rw [if_neg (by simp [h2])] at h
          exact h
      · rw [if_neg h1]
        rw [if_neg (by simp [h1])] at h
        exact h
    · rw [if_neg hb]
      rw [if_neg hb, List.append_nil] at h
      exact h
theorem refOn_is (l : List Lt0) (day : Int) (hl : l.length ≤ 1000000) : ∃ q, lot_On.f l day = some q ∧ ∃ k, storemanref04_On.f k l day = some q :=
  ⟨_, by unfold lot_On.f; rw [if_pos hl], _, refOn_l0 l day hl l.length 0 (by omega) (by omega) (l.length + 16) (by omega)⟩
end Go.Proofs.YtckekncllmhohaaGreat.Q
namespace Go.Proofs.YtckekncllmhohaaGreat.Ap
open Go.RowKit Go.Sort Go.Lib Go.Proofs
set_option linter.all false
/-- The mark of a place. -/
def mk (k i : Int) : Int := wrap64 (wrap64 (1000003 * wrap64 (k + 7)) + i)
set_option maxHeartbeats 4000000 in
theorem mark_runs (k i : Int) (W : World) : Calls Tryz.prog 38 #[.int .i64 k, .int .i64 i] W fun e w' => e = .returned (.int .i64 (mk k i)) ∧ w' = W := by
  go_enter Tryz.func38, Tryz.ntmps38
  go_wp2_with fail
  go_ret
  exact ⟨rfl, rfl⟩
end Go.Proofs.YtckekncllmhohaaGreat.Ap
namespace Go.Proofs.YtckekncllmhohaaGreat.Ap
open Go.RowKit
set_option linter.all false

/-- v is a slice of n elements (K cells each, type e) whose cells are xs; it lies at the head of a block from B on, that has room for its capacity at least. -/
def ownW (w : World) (B : Nat) (e : TypeId) (K : Nat) (v : Value) (n : Nat) (xs : List Value) : Prop :=
  xs.length = n * K ∧
  ((v = .slice none 0 0 ∧ n = 0) ∨
   ∃ g cap cur, v = .slice (some ⟨g, 0, none⟩) n cap ∧ B ≤ g ∧ w.heap[g]? = some (.cells cur e (0, 0)) ∧ n ≤ cap ∧ cap ≤ maxLen ∧ cap * K ≤ cur.size ∧ cur.toList.take (n * K) = xs)
theorem ownW_of {w : World} {B : Nat} {e : TypeId} {K : Nat} {v : Value} {n : Nat} {xs : List Value} (h : w.ownsRow B e K v n xs) : ownW w B e K v n xs := by
  refine ⟨h.1, ?_⟩
  rcases h.2 with h | ⟨g, cap, cur, h1, h2, h3, h4, h5, h6, h7⟩
  · exact .inl h
  · exact .inr ⟨g, cap, cur, h1, h2, h3, h4, h5, Nat.le_of_eq h6.symm, h7⟩
section
variable {w w' : World} {B : Nat} {e : TypeId} {K : Nat} {v v' : Value} {n n' : Nat} {xs xs' : List Value}
theorem ownW.lt (h : ownW w B e K v n xs) : ∀ k, v.ownBlock = some k → B ≤ k ∧ k < w.heap.size := by
  intro k hk
  rcases h.2 with ⟨rfl, _⟩ | ⟨g, cap, cur, rfl, hb, hg, _⟩
  · simp [Value.ownBlock] at hk
  · simp [Value.ownBlock] at hk
    subst hk
    exact ⟨hb, (Array.getElem?_eq_some_iff.1 hg).1⟩
theorem ownW.typed (h : ownW w B e K v n xs) {g : Nat} (hg : v.ownBlock = some g) : ∃ cur, w.heap[g]? = some (.cells cur e (0, 0)) := by
  rcases h.2 with ⟨rfl, _⟩ | ⟨g', cap, cur, rfl, hb, hgg, _⟩
  · simp [Value.ownBlock] at hg
  · simp [Value.ownBlock] at hg
    subst hg
    exact ⟨cur, hgg⟩
theorem ownW.keep (h : ownW w B e K v n xs) (hm : ∀ k, v.ownBlock = some k → w'.heap[k]? = w.heap[k]?) : ownW w' B e K v n xs := by
  refine ⟨h.1, ?_⟩
  rcases h.2 with hn | ⟨g, cap, cur, rfl, hb, hgg, rest⟩
  · exact .inl hn
  · exact .inr ⟨g, cap, cur, rfl, hb, (hm g (by simp [Value.ownBlock])).trans hgg, rest⟩
theorem ownW.kept {row : Option Nat} (h : ownW w B e K v n xs) (hg : w.grownBy w' row) (hne : ∀ k, v.ownBlock = some k → some k ≠ row) : ownW w' B e K v n xs :=
  h.keep (fun k hk => hg.block k (h.lt k hk).2 (hne k hk))
theorem ownW.below (h : ownW w B e K v n xs) (hb : Below w.heap.size w w') : ownW w' B e K v n xs := h.keep (fun k hk => hb.block k (h.lt k hk).2)
theorem ownW.slice (h : ownW w B e K v n xs) : ∃ A c, v = .slice A n c ∧ n ≤ c ∧ (0 < n → ∃ g, A = some ⟨g, 0, none⟩) := by
  rcases h.2 with ⟨rfl, rfl⟩ | ⟨g, cap, cur, rfl, -, -, h1, -⟩
  · exact ⟨none, 0, rfl, Nat.le_refl _, fun h => by omega⟩
  · exact ⟨_, cap, rfl, h1, fun _ => ⟨g, rfl⟩⟩
theorem ownW.cells (h : ownW w B e K v n xs) {g : Nat} (hg : v.ownBlock = some g) : ∀ j u, xs[j]? = some u → w.cell? ⟨g, j, none⟩ = some u := by
  intro j u hu
  rcases h.2 with ⟨rfl, _⟩ | ⟨g', cap, cur, rfl, _, hgg, _, _, _, htake⟩
  · simp [Value.ownBlock] at hg
  · simp [Value.ownBlock] at hg
    subst hg
    rw [cell_of_row w g' j cur e (0, 0) hgg]
    rw [← htake, List.getElem?_take] at hu
    split at hu
    · simpa using hu
    · cases hu
theorem ownW.frozen (h : ownW w B e K v n xs) {g : Nat} (hg : v.ownBlock = some g) (j : Nat) : w.frozen? ⟨g, j, none⟩ = false := by
  obtain ⟨cur, hc⟩ := h.typed hg
  simp [World.frozen?, hc]
end

theorem grown_refl (w : World) (row : Option Nat) : w.grownBy w row := ⟨rfl, rfl, rfl, Nat.le_refl _, fun _ _ _ => rfl⟩
theorem grown_trans {w w1 w2 : World} {row : Option Nat} (h : w.grownBy w1 row) (k : w1.grownBy w2 row) : w.grownBy w2 row :=
  ⟨k.os.trans h.os, k.tape.trans h.tape, k.output.trans h.output, Nat.le_trans h.size k.size, fun i hi hne => (k.block i (Nat.lt_of_lt_of_le hi h.size) hne).trans (h.block i hi hne)⟩
theorem grown_below {w w1 : World} (h : Below w.heap.size w w1) (row : Option Nat) : w.grownBy w1 row := ⟨h.os, h.tape, h.output, h.size, fun i hi _ => h.block i hi⟩
theorem below_grown {B : Nat} {w0 w w1 : World} {row : Option Nat} (hb : Below B w0 w) (hg : w.grownBy w1 row) (hs : B ≤ w.heap.size) (hr : ∀ k, row = some k → B ≤ k) : Below B w0 w1 :=
  ⟨hg.os.trans hb.os, hg.tape.trans hb.tape, hg.output.trans hb.output, Nat.le_trans hb.size hg.size, fun i hi => (hg.block i (Nat.lt_of_lt_of_le hi hs) (fun e => by have := hr i e.symm; omega)).trans (hb.block i hi)⟩

theorem setCells_block (w : World) (g : Nat) (e : TypeId) : ∀ (cs : List Value) (o : Nat) (cur : Array Value), w.heap[g]? = some (.cells cur e (0, 0)) → o + cs.length ≤ cur.size →
    ∃ cur', (w.setCells g o cs).heap[g]? = some (.cells cur' e (0, 0)) ∧ cur'.size = cur.size ∧ ∀ j, cur'[j]? = if o ≤ j ∧ j < o + cs.length then cs[j - o]? else cur[j]? := by
  intro cs
  induction cs generalizing w with
  | nil =>
    intro o cur h _
    refine ⟨cur, h, rfl, fun j => ?_⟩
    rw [if_neg (by simp)]
  | cons c r ih =>
    intro o cur h hl
    rw [List.length_cons] at hl
    have h1 : (w.setCell ⟨g, o, none⟩ c).heap[g]? = some (.cells (cur.setIfInBounds o c) e (0, 0)) := by
      simp [World.setCell, Array.getElem?_modify, h]
    obtain ⟨cur', a, b, d⟩ := ih (w.setCell ⟨g, o, none⟩ c) (o + 1) (cur.setIfInBounds o c) h1 (by rw [Array.size_setIfInBounds]; omega)
    refine ⟨cur', by unfold World.setCells; exact a, by rw [b, Array.size_setIfInBounds], fun j => ?_⟩
    rw [d j, List.length_cons]
    by_cases c1 : o + 1 ≤ j ∧ j < o + 1 + r.length
    · rw [if_pos c1, if_pos (by omega), show j - o = (j - (o + 1)) + 1 by omega, List.getElem?_cons_succ]
    · rw [if_neg c1, Array.getElem?_setIfInBounds]
      by_cases c2 : o = j
      · subst c2
        rw [if_pos rfl, if_pos (by omega), if_pos (by omega), Nat.sub_self, List.getElem?_cons_zero]
      · rw [if_neg c2, if_neg (by omega)]
theorem setCells_other (w : World) (g : Nat) : ∀ (cs : List Value) (o k : Nat), k ≠ g → (w.setCells g o cs).heap[k]? = w.heap[k]? := by
  intro cs
  induction cs generalizing w with
  | nil => intro o k _; rfl
  | cons c r ih =>
    intro o k hk
    unfold World.setCells
    rw [ih _ (o + 1) k hk]
    exact Below.heap_setCell w ⟨g, o, none⟩ c k hk
theorem setCells_grown (w : World) (g : Nat) (cs : List Value) (o : Nat) : w.grownBy (w.setCells g o cs) (some g) := by
  have : ∀ (cs : List Value) (w : World) (o : Nat), (w.setCells g o cs).os = w.os ∧ (w.setCells g o cs).tape = w.tape ∧ (w.setCells g o cs).output = w.output ∧ (w.setCells g o cs).heap.size = w.heap.size := by
    intro cs
    induction cs with
    | nil => intro w o; exact ⟨rfl, rfl, rfl, rfl⟩
    | cons c r ih =>
      intro w o
      unfold World.setCells
      obtain ⟨a, b, d, f⟩ := ih (w.setCell ⟨g, o, none⟩ c) (o + 1)
      exact ⟨a.trans rfl, b.trans rfl, d.trans rfl, f.trans (by simp)⟩
  obtain ⟨a, b, d, f⟩ := this cs w o
  exact ⟨a, b, d, Nat.le_of_eq f.symm, fun k hk hne => setCells_other w g cs o k (fun h => hne (by rw [h]))⟩
/-- The row's list with some cells laid over. -/
def over (xs : List Value) (o : Nat) (cs : List Value) : List Value := xs.take o ++ cs ++ xs.drop (o + cs.length)
theorem over_get (xs cs : List Value) (o j : Nat) (ho : o + cs.length ≤ xs.length) : (over xs o cs)[j]? = if o ≤ j ∧ j < o + cs.length then cs[j - o]? else xs[j]? := by
  unfold over
  by_cases c1 : j < o
  · rw [List.getElem?_append_left (by rw [List.length_append, List.length_take]; omega), List.getElem?_append_left (by rw [List.length_take]; omega), List.getElem?_take, if_pos c1, if_neg (by omega)]
  · by_cases c2 : j < o + cs.length
    · rw [List.getElem?_append_left (by rw [List.length_append, List.length_take]; omega), List.getElem?_append_right (by rw [List.length_take]; omega), if_pos (by omega), List.length_take, Nat.min_eq_left (by omega)]
    · rw [List.getElem?_append_right (by rw [List.length_append, List.length_take]; omega), List.getElem?_drop, if_neg (by omega), List.length_append, List.length_take, Nat.min_eq_left (by omega), show o + cs.length + (j - (o + cs.length)) = j by omega]
theorem ownW_store {w : World} {B : Nat} {e : TypeId} {K : Nat} {g n cap : Nat} {xs : List Value} (h : ownW w B e K (.slice (some ⟨g, 0, none⟩) n cap) n xs) (i : Nat) (hi : i < n) (cs : List Value) (hc : cs.length = K) :
    ownW (w.setCells g (i * K) cs) B e K (.slice (some ⟨g, 0, none⟩) n cap) n (over xs (i * K) cs) := by
  have hik : i * K + K ≤ n * K := by rw [← Nat.succ_mul]; exact Nat.mul_le_mul_right K hi
  rcases h.2 with ⟨hv, _⟩ | ⟨g', cap', cur, hv, hb, hg, h1, h2, h3, h4⟩
  · cases hv
  · simp only [Value.slice.injEq, Option.some.injEq, Addr.mk.injEq] at hv
    obtain ⟨⟨rfl, -, -⟩, -, rfl⟩ := hv
    have hnc : n * K ≤ cap * K := Nat.mul_le_mul_right K h1
    obtain ⟨cur', a, b, d⟩ := setCells_block w g e cs (i * K) cur hg (by rw [hc]; omega)
    have hxl := h.1
    refine ⟨?_, .inr ⟨g, cap, cur', rfl, hb, a, h1, h2, by rw [b]; exact h3, ?_⟩⟩
    · unfold over
      rw [List.length_append, List.length_append, List.length_take, List.length_drop, hc, hxl]
      omega
    · apply List.ext_getElem?
      intro j
      rw [over_get xs cs (i * K) j (by rw [hc, hxl]; exact hik), List.getElem?_take, Array.getElem?_toList, d j, ← h4, List.getElem?_take, Array.getElem?_toList]
      by_cases c2 : i * K ≤ j ∧ j < i * K + cs.length
      · rw [if_pos c2, if_pos c2, if_pos (by rw [hc] at c2; omega)]
      · rw [if_neg c2, if_neg c2, Array.getElem?_toList]

section
variable {P : Program}
theorem run_append_ownW (w : World) (B : Nat) (t ty e : TypeId) (i : TypeInfo) (z : Value) (K bytes : Nat) (ht : P.underlying t = some (.slice e)) (hi : P.info? e = some i) (hz : i.zero = some z)
    (hsize : i.size = K) (hby : i.bytes = bytes) (hzs : z.cells.size = K) (hsz : 0 < K)
    (v : Value) (n : Nat) (xs : List Value) (hown : ownW w B e K v n xs)
    (a : Addr) (m c : Nat) (news : List Value) (hl : news.length = m * K) (hnews : ∀ j u, news[j]? = some u → w.cell? (a.add j) = some u) (h1 : ∀ u ∈ news, u.oneCell' = true) (hm : 0 < m)
    (h63 : n + m ≤ maxLen) (hbytes : (n + m) * bytes ≤ 140737488355328) (hbase : B ≤ w.heap.size) :
    ∃ v' w', (Builtin.append_ #[t, t] ty #[v, .slice (some a) m c]).run P w = .ok v' w' ∧ ownW w' B e K v' (n + m) (xs ++ news) ∧ w.grownBy w' v.ownBlock ∧
      ((∃ g, v.ownBlock = some g ∧ v'.ownBlock = some g) ∨ (v'.ownBlock = some w.heap.size ∧ w.grownBy w' none)) ∧
      (∀ u nu us, u.ownBlock = v.ownBlock → nu ≤ n → ownW w B e K u nu us → ownW w' B e K u nu us) := by
  subst hsize
  subst hby
  have hsmall : n + m ≤ 9223372036854775807 := by simp only [maxLen] at h63; omega
  have hlen : (xs ++ news).length = (n + m) * i.size := by rw [List.length_append, hown.1, hl, Nat.add_mul]
  have grown : ∀ (old : Nat), old < n + m →
      ownW (w.drew.alloc (.cells (xs.toArray ++ news.toArray ++ Builtin.zeroCells z.cells (grownCap w (n + m) old e - (n + m))) e)) B e i.size
        (.slice (some ⟨w.heap.size, 0, none⟩) (n + m) (grownCap w (n + m) old e)) (n + m) (xs ++ news) ∧
      ∀ row, w.grownBy (w.drew.alloc (.cells (xs.toArray ++ news.toArray ++ Builtin.zeroCells z.cells (grownCap w (n + m) old e - (n + m))) e)) row := by
    intro old ho
    have hge := grownCap_ge w (n + m) old e
    have hcm : grownCap w (n + m) old e ≤ maxLen := grownCap_le_maxLen w (n + m) old e h63
    refine ⟨⟨hlen, .inr ⟨w.heap.size, _, _, rfl, hbase, heap_alloc_new w.drew _, hge, hcm, ?_, ?_⟩⟩, fun row => ⟨rfl, rfl, rfl, by simp, fun k hk _ => Below.heap_alloc w.drew _ k hk⟩⟩
    · apply Nat.le_of_eq
      simp only [Array.size_append, List.size_toArray, size_zeroCells, hzs, hown.1, hl, ← Nat.add_mul]
      congr 1
      omega
    · simp only [Array.toList_append, List.append_assoc]
      rw [← List.append_assoc, ← hlen]
      exact List.take_left
  have keepAll : ∀ {w' : World}, w.grownBy w' none → ∀ u nu us, u.ownBlock = v.ownBlock → nu ≤ n → ownW w B e i.size u nu us → ownW w' B e i.size u nu us :=
    fun hg u nu us _ _ hu => hu.kept hg (fun k _ => by simp)
  rcases hown.2 with ⟨rfl, rfl⟩ | ⟨g, cap, cur, rfl, hbg, hg, hnc, hcm, hcs, htake⟩
  · have hx : xs = [] := List.eq_nil_of_length_eq_zero (by simpa using hown.1)
    subst hx
    have hr := run_append_nil (P := P) w t ty e i z ht hi hz a m c news hl hnews hm (by omega) (by have hb := hbytes; simp only [Nat.zero_add] at hb; omega)
    have hgr := grown 0 (by omega)
    simp only [Nat.zero_add, List.nil_append, Array.empty_append] at hgr ⊢
    exact ⟨_, _, hr, hgr.1, hgr.2 _, .inr ⟨by simp [Value.ownBlock], hgr.2 none⟩, fun u nu us hu hnu how => how.kept (hgr.2 none) (fun k _ => by simp)⟩
  · by_cases hroom : n + m ≤ cap
    · have hmul : (n + m) * i.size ≤ cap * i.size := Nat.mul_le_mul_right _ hroom
      have hfit : n * i.size + news.length ≤ cur.size := by rw [hl, ← Nat.add_mul]; omega
      have hr := run_append_room (P := P) w t ty e i ht hi g n cap cur hg a m c news hl hnews h1 hroom hfit
      refine ⟨_, _, hr, ⟨hlen, .inr ⟨g, cap, _, rfl, hbg, setRow_heap w g cur _ e _ hg, hroom, hcm, ?_, ?_⟩⟩, ⟨rfl, rfl, rfl, by simp, fun k _ hk => setRow_other w g k _ (fun e => hk (by simp [Value.ownBlock, e]))⟩, .inl ⟨g, by simp [Value.ownBlock], by simp [Value.ownBlock]⟩, ?_⟩
      · simp only [List.size_toArray, List.length_append, List.length_take, List.length_drop, Array.length_toList]
        omega
      · rw [htake, ← hlen]
        exact List.take_left
      · intro u nu us hu hnu how
        refine ⟨how.1, ?_⟩
        rcases how.2 with hz' | ⟨g2, cap2, cur2, rfl, hb2, hg2, h2a, h2b, h2c, h2d⟩
        · exact .inl hz'
        · have e2 : g2 = g := by simpa [Value.ownBlock] using hu
          subst e2
          rw [hg] at hg2
          have e3 : cur = cur2 := by simpa using hg2
          subst e3
          refine .inr ⟨g2, cap2, _, rfl, hb2, setRow_heap w g2 cur _ e _ hg, h2a, h2b, ?_, ?_⟩
          · simp only [List.size_toArray, List.length_append, List.length_take, List.length_drop, Array.length_toList]
            omega
          · have hnk : nu * i.size ≤ n * i.size := Nat.mul_le_mul_right _ hnu
            rw [← h2d, List.append_assoc, List.take_append_of_le_length (by rw [List.length_take, Array.length_toList]; omega), List.take_take, Nat.min_eq_left hnk]
    · have holds : ∀ j u, xs[j]? = some u → w.cell? ((⟨g, 0, none⟩ : Addr).add j) = some u := by
        intro j u hu
        have hadd : (⟨g, 0, none⟩ : Addr).add j = ⟨g, j, none⟩ := by unfold Addr.add; split <;> simp_all
        rw [hadd]
        exact hown.cells (g := g) (by simp [Value.ownBlock]) j u hu
      have hr := run_append_grow (P := P) w t ty e i z ht hi hz ⟨g, 0, none⟩ n cap xs hown.1 holds a m c news hl hnews (by omega) (by omega) (growslice_fits (by omega) hbytes)
      have hgr := grown cap (by omega)
      exact ⟨_, _, hr, hgr.1, hgr.2 _, .inr ⟨by simp [Value.ownBlock], hgr.2 none⟩, keepAll (hgr.2 none)⟩
theorem wp_append_ownW {o : Oper} {a : Act} {K : Act → World → Prop} {Q : Exit → Act → World → Prop} (w : World) (s x : Operand) (t : TypeId)
    (ho : o.op = .call { callee := .builtin .append, args := #[s, x], argTypes := #[t, t] })
    (B : Nat) (e : TypeId) (z : Value) (size bytes : Nat) (ht : P.underlying t = some (.slice e)) (hinfo : (P.info? e).map (fun i => (i.zero, i.size, i.bytes)) = some (some z, size, bytes)) (hzs : z.cells.size = size) (hsz : 0 < size)
    (v : Value) (n : Nat) (xs : List Value) (hs : a.eval s = v) (hown : ownW w B e size v n xs)
    (ad : Addr) (m c : Nat) (news : List Value) (hx : a.eval x = .slice (some ad) m c) (hl : news.length = m * size) (hnews : ∀ j u, news[j]? = some u → w.cell? (ad.add j) = some u) (h1 : ∀ u ∈ news, u.oneCell' = true) (hm : 0 < m)
    (h63 : n + m ≤ maxLen) (hbytes : (n + m) * bytes ≤ 140737488355328) (hbase : B ≤ w.heap.size)
    (h : ∀ v' w', ownW w' B e size v' (n + m) (xs ++ news) → w.grownBy w' v.ownBlock → ((∃ g, v.ownBlock = some g ∧ v'.ownBlock = some g) ∨ (v'.ownBlock = some w.heap.size ∧ w.grownBy w' none)) →
      (∀ u nu us, u.ownBlock = v.ownBlock → nu ≤ n → ownW w B e size u nu us → ownW w' B e size u nu us) → K (a.put o.dst v') w') : o.wp P a w K Q := by
  obtain ⟨i, hi, hzz⟩ := Option.map_eq_some_iff.1 hinfo
  simp only [Prod.mk.injEq] at hzz
  obtain ⟨hz, hsize, hby⟩ := hzz
  obtain ⟨v', w', hr, h2, h3, h4, h5⟩ := run_append_ownW (P := P) w B t o.type e i z size bytes ht hi hz hsize hby hzs hsz v n xs hown ad m c news hl hnews h1 hm h63 hbytes hbase
  unfold Oper.wp execOp
  simp only [ho, resolve, invoke, builtin, Sem.run_bind, Sem.run_pure, Result.andThen_ok, List.map_toArray, List.map_cons, List.map_nil, hs, hx, hr]
  exact h v' w' h2 h3 h4 h5
theorem wpList_append_ownW {ops : Array Oper} {rest : List Oper} {o : Oper} {a : Act} {Q : Exit → Act → World → Prop} (w : World) (hgd : o.guard = none) (s x : Operand) (t : TypeId)
    (ho : o.op = .call { callee := .builtin .append, args := #[s, x], argTypes := #[t, t] })
    (B : Nat) (e : TypeId) (z : Value) (size bytes : Nat) (ht : P.underlying t = some (.slice e)) (hinfo : (P.info? e).map (fun i => (i.zero, i.size, i.bytes)) = some (some z, size, bytes)) (hzs : z.cells.size = size) (hsz : 0 < size)
    (v : Value) (n : Nat) (xs : List Value) (hs : a.eval s = v) (hown : ownW w B e size v n xs)
    (ad : Addr) (m c : Nat) (news : List Value) (hx : a.eval x = .slice (some ad) m c) (hl : news.length = m * size) (hnews : ∀ j u, news[j]? = some u → w.cell? (ad.add j) = some u) (h1 : ∀ u ∈ news, u.oneCell' = true) (hm : 0 < m)
    (h63 : n + m ≤ maxLen) (hbytes : (n + m) * bytes ≤ 140737488355328) (hbase : B ≤ w.heap.size)
    (h : ∀ v' w', ownW w' B e size v' (n + m) (xs ++ news) → w.grownBy w' v.ownBlock → ((∃ g, v.ownBlock = some g ∧ v'.ownBlock = some g) ∨ (v'.ownBlock = some w.heap.size ∧ w.grownBy w' none)) →
      (∀ u nu us, u.ownBlock = v.ownBlock → nu ≤ n → ownW w B e size u nu us → ownW w' B e size u nu us) → wpList P ops Q rest (a.put o.dst v') w') : wpList P ops Q (o :: rest) a w :=
  wpList_plain hgd fun _ hK => wp_append_ownW w s x t ho B e z size bytes ht hinfo hzs hsz v n xs hs hown ad m c news hx hl hnews h1 hm h63 hbytes hbase fun v' w' h2 h3 h4 h5 => hK _ _ (h v' w' h2 h3 h4 h5)
end
end Go.Proofs.YtckekncllmhohaaGreat.Ap
namespace Go.Proofs.YtckekncllmhohaaGreat.Ap
open Go.RowKit
set_option linter.all false

section
variable (enc : Int → Int → List Value) (K : Nat)
/-- i marks of row k, one behind the other. -/
def marks (k : Int) (i : Nat) : List Value := (List.range i).flatMap fun (t : Nat) => enc k (t : Int)
theorem marks_succ (k : Int) (i : Nat) : marks enc k (i + 1) = marks enc k i ++ enc k (i : Int) := by
  unfold marks
  rw [List.range_succ, List.flatMap_append]
  simp
theorem marks_length (hK : ∀ k i, (enc k i).length = K) (k : Int) (i : Nat) : (marks enc k i).length = i * K := by
  induction i with
  | zero => simp [marks]
  | succ i ih => rw [marks_succ, List.length_append, ih, hK, Nat.succ_mul]
theorem marks_take (hK : ∀ k i, (enc k i).length = K) (k : Int) (i j : Nat) (h : i ≤ j) : (marks enc k j).take (i * K) = marks enc k i := by
  induction j with
  | zero => obtain rfl : i = 0 := by omega
            simp [marks]
  | succ j ih =>
    rw [marks_succ]
    by_cases hij : i ≤ j
    · rw [List.take_append_of_le_length (by rw [marks_length enc K hK]; exact Nat.mul_le_mul_right K hij)]
      exact ih hij
    · obtain rfl : i = j + 1 := by omega
      rw [List.take_of_length_le (by rw [List.length_append, marks_length enc K hK, hK, Nat.succ_mul]; exact Nat.le_refl _), marks_succ]
theorem marks_get (hK : ∀ k i, (enc k i).length = K) (k : Int) (i t c : Nat) (ht : t < i) (hc : c < K) : (marks enc k i)[t * K + c]? = (enc k (t : Int))[c]? := by
  have h1 := marks_take enc K hK k (t + 1) i ht
  have h2 : (marks enc k (t + 1))[t * K + c]? = (enc k (t : Int))[c]? := by
    rw [marks_succ, List.getElem?_append_right (by rw [marks_length enc K hK]; omega), marks_length enc K hK, Nat.add_sub_cancel_left]
  rw [← h2, ← h1, List.getElem?_take, if_pos (by rw [Nat.succ_mul]; omega)]
end
section
variable {enc : Int → Int → List Value} {K : Nat} {w w' : World} {B : Nat} {e : TypeId}
/-- The row's first i elements are marks of k. -/
def Mk (enc : Int → Int → List Value) (K : Nat) (w : World) (B : Nat) (e : TypeId) (v : Value) (n : Nat) (k : Int) (i : Nat) : Prop := ∃ xs, ownW w B e K v n xs ∧ xs.take (i * K) = marks enc k i
theorem Mk.zero {v : Value} {n : Nat} {xs : List Value} (h : ownW w B e K v n xs) (k : Int) : Mk enc K w B e v n k 0 := ⟨xs, h, by simp [marks]⟩
theorem Mk.keep {v : Value} {n : Nat} {k : Int} {i : Nat} (h : Mk enc K w B e v n k i) (hm : ∀ g, v.ownBlock = some g → w'.heap[g]? = w.heap[g]?) : Mk enc K w' B e v n k i := by
  obtain ⟨xs, a, b⟩ := h
  exact ⟨xs, a.keep hm, b⟩
theorem Mk.kept {v : Value} {n : Nat} {k : Int} {i : Nat} {row : Option Nat} (h : Mk enc K w B e v n k i) (hg : w.grownBy w' row) (hne : ∀ g, v.ownBlock = some g → some g ≠ row) : Mk enc K w' B e v n k i := by
  obtain ⟨xs, a, b⟩ := h
  exact ⟨xs, a.kept hg hne, b⟩
theorem Mk.below {v : Value} {n : Nat} {k : Int} {i : Nat} (h : Mk enc K w B e v n k i) (hb : Below w.heap.size w w') : Mk enc K w' B e v n k i := by
  obtain ⟨xs, a, b⟩ := h
  exact ⟨xs, a.below hb, b⟩
theorem Mk.own {v : Value} {n : Nat} {k : Int} {i : Nat} (h : Mk enc K w B e v n k i) : ∃ xs, ownW w B e K v n xs := ⟨_, h.choose_spec.1⟩
theorem Mk.store {g n cap : Nat} {k : Int} {i : Nat} (hK : ∀ k i, (enc k i).length = K) (h : Mk enc K w B e (.slice (some ⟨g, 0, none⟩) n cap) n k i) (hi : i < n) : Mk enc K (w.setCells g (i * K) (enc k i)) B e (.slice (some ⟨g, 0, none⟩) n cap) n k (i + 1) := by
  obtain ⟨xs, a, b⟩ := h
  have hl := a.1
  have hik : i * K + K ≤ n * K := by rw [← Nat.succ_mul]; exact Nat.mul_le_mul_right K hi
  refine ⟨_, ownW_store a i hi (enc k i) (hK k i), ?_⟩
  unfold over
  rw [marks_succ, ← b, List.take_append_of_le_length (by rw [List.length_append, List.length_take, hK, Nat.succ_mul]; omega), List.take_of_length_le (by rw [List.length_append, List.length_take, hK, Nat.succ_mul]; omega)]
theorem Mk.whole {v : Value} {n : Nat} {k : Int} (h : Mk enc K w B e v n k n) : ownW w B e K v n (marks enc k n) := by
  obtain ⟨xs, a, b⟩ := h
  rw [List.take_of_length_le (Nat.le_of_eq a.1)] at b
  rw [← b]; exact a
theorem Mk.less (hK : ∀ k i, (enc k i).length = K) {v : Value} {n : Nat} {k : Int} {i j : Nat} (h : Mk enc K w B e v n k i) (hj : j ≤ i) : Mk enc K w B e v n k j := by
  obtain ⟨xs, a, b⟩ := h
  refine ⟨xs, a, ?_⟩
  rw [← marks_take enc K hK k j i hj, ← b, List.take_take, Nat.min_eq_left (Nat.mul_le_mul_right K hj)]
/-- An element's cells. -/
theorem Mk.cell (hK : ∀ k i, (enc k i).length = K) {g n cap : Nat} {k : Int} {i t c : Nat} {u : Value} (h : Mk enc K w B e (.slice (some ⟨g, 0, none⟩) n cap) n k i) (ht : t < i) (hc : c < K) (hu : (enc k (t : Int))[c]? = some u) : w.cell? ⟨g, t * K + c, none⟩ = some u := by
  obtain ⟨xs, a, b⟩ := h
  refine a.cells (g := g) (by simp [Value.ownBlock]) (t * K + c) u ?_
  rw [← hu, ← marks_get enc K hK k i t c ht hc, ← b, List.getElem?_take, if_pos (by have := Nat.mul_le_mul_right K (show t + 1 ≤ i from ht); rw [Nat.succ_mul] at this; omega)]
theorem ownW.stores {w : World} {B : Nat} {e : TypeId} {K : Nat} (P : Program) {g n cap : Nat} {xs : List Value} (h : ownW w B e K (.slice (some ⟨g, 0, none⟩) n cap) n xs) (i : Nat) (hi : i < n) (cs : List Value) (hc : cs.length = K) (h1 : ∀ u ∈ cs, u.oneCell' = true) :
    Sem.run P (storeCells ⟨g, i * K, none⟩ cs 0) w = .ok () (w.setCells g (i * K) cs) := by
  have hik : i * K + K ≤ n * K := by rw [← Nat.succ_mul]; exact Nat.mul_le_mul_right K hi
  have hst := run_storeCells_cells (P := P) g (i * K) cs 0 w (fun j hj => by
    obtain ⟨u, hu⟩ : ∃ u, xs[i * K + j]? = some u := ⟨xs[i * K + j]'(by rw [h.1]; omega), List.getElem?_eq_getElem _⟩
    have := h.cells (g := g) (by simp [Value.ownBlock]) (i * K + j) u hu
    simp only [Nat.add_zero]
    rw [this]; rfl) (fun j hj => by simpa using h.frozen (g := g) (by simp [Value.ownBlock]) _) h1
  simpa using hst
theorem Mk.stores {k : Int} {i0 : Nat} (P : Program) {g n cap : Nat} (h : Mk enc K w B e (.slice (some ⟨g, 0, none⟩) n cap) n k i0) (i : Nat) (hi : i < n) (cs : List Value) (hc : cs.length = K) (h1 : ∀ u ∈ cs, u.oneCell' = true) :
    Sem.run P (storeCells ⟨g, i * K, none⟩ cs 0) w = .ok () (w.setCells g (i * K) cs) := h.choose_spec.1.stores P i hi cs hc h1
/-- What has been done since, behind what was done before. -/
theorem below_on {B : Nat} {w w1 w2 : World} (h : Below B w w1) (hs : B ≤ w1.heap.size) (hb : Below w1.heap.size w1 w2) : Below B w w2 :=
  ⟨hb.os.trans h.os, hb.tape.trans h.tape, hb.output.trans h.output, Nat.le_trans h.size hb.size, fun i hi => (hb.block i (Nat.lt_of_lt_of_le hi hs)).trans (h.block i hi)⟩
/-- A family of rows, each marked so far: one more mark at row k. -/
theorem fam_store {m k g c i : Nat} {v : Nat → Value} {n : Nat → Nat} {p p' : Nat → Nat} {w1 : World} (hK : ∀ k i, (enc k i).length = K) (HP : ∀ j, j < m → Mk enc K w B e (v j) (n j) (j : Int) (p j))
    (hap : ∀ j k, j < m → k < m → j ≠ k → ∀ b, (v j).ownBlock = some b → (v k).ownBlock ≠ some b) (hk : k < m) (hv : v k = .slice (some ⟨g, 0, none⟩) (n k) c) (hi : i < n k) (hpk : p k = i) (hpk' : p' k = i + 1) (hp : ∀ j, j ≠ k → p' j = p j)
    (hb : Below w.heap.size w w1) : ∀ j, j < m → Mk enc K (w1.setCells g (i * K) (enc (k : Int) (i : Int))) B e (v j) (n j) (j : Int) (p' j) := by
  intro j hj
  by_cases hjk : j = k
  · subst hjk
    have h := (HP j hj).below hb
    rw [hpk, hv] at h
    rw [hpk', hv]
    exact h.store hK hi
  · rw [hp j hjk]
    refine ((HP j hj).below hb).kept (setCells_grown w1 g _ _) (fun b hb2 e2 => ?_)
    have := hap j k hj hk hjk b hb2
    rw [hv] at this
    simp only [Value.ownBlock, ne_eq, Option.some.injEq] at this
    simp only [Option.some.injEq] at e2
    exact this e2.symm
end
end Go.Proofs.YtckekncllmhohaaGreat.Ap
namespace Go.Proofs.YtckekncllmhohaaGreat.Ap
open Go.RowKit
set_option linter.all false

/-- How far the marking is: the rows ahead of k whole, i of row k. -/
def pr (n : Nat → Nat) (k i j : Nat) : Nat := if j < k then n j else if j = k then i else 0
theorem pr_lt {n : Nat → Nat} {k i j : Nat} (h : j < k) : pr n k i j = n j := by unfold pr; rw [if_pos h]
theorem pr_at (n : Nat → Nat) (k i : Nat) : pr n k i k = i := by unfold pr; rw [if_neg (Nat.lt_irrefl _), if_pos rfl]
theorem pr_ne {n : Nat → Nat} {k i i' j : Nat} (h : j ≠ k) : pr n k i j = pr n k i' j := by unfold pr; rw [if_neg h, if_neg h]
theorem pr_next (n : Nat → Nat) (k j : Nat) : pr n (k + 1) 0 j = pr n k (n k) j := by
  unfold pr
  by_cases h : j < k
  · rw [if_pos (by omega), if_pos h]
  · by_cases e : j = k
    · subst e; rw [if_pos (by omega), if_neg h, if_pos rfl]
    · rw [if_neg (by omega), if_neg h, if_neg e]; split <;> rfl
theorem pr_zero (n : Nat → Nat) (j : Nat) : pr n 0 0 j = 0 := by unfold pr; rw [if_neg (by omega)]; split <;> rfl
theorem cell_hd {w : World} {G e : Nat} {cG : Array Value} {k : Nat} {u : Value} (h : w.heap[G]? = some (.cells cG e (0, 0))) (hu : cG[k]? = some u) : w.cell? ⟨G, k, none⟩ = some u := (cell_of_row w G k cG e (0, 0) h).trans hu

section
variable {enc : Int → Int → List Value} {K : Nat} {w w1 w' : World} {B : Nat} {e : TypeId} {m : Nat} {v : Nat → Value} {n : Nat → Nat} {u : Nat → Value} {l q : Nat → Nat}
structure Fam (enc : Int → Int → List Value) (K : Nat) (w : World) (B : Nat) (e : TypeId) (m : Nat) (v : Nat → Value) (n : Nat → Nat) (u : Nat → Value) (l q : Nat → Nat) : Prop where
  rows : ∀ j, j < m → Mk enc K w B e (v j) (n j) (j : Int) (n j)
  own : ∀ j, j < m → Mk enc K w B e (u j) (l j) (j : Int) (q j)
  ap : ∀ i j, i < m → j < m → i ≠ j → ∀ b, (u i).ownBlock = some b → (u j).ownBlock ≠ some b ∧ (v j).ownBlock ≠ some b
theorem Fam.start (h : ∀ j, j < m → Mk enc K w B e (v j) (n j) (j : Int) (n j)) (hap : ∀ j k, j < m → k < m → j ≠ k → ∀ b, (v j).ownBlock = some b → (v k).ownBlock ≠ some b) : Fam enc K w B e m v n v n n :=
  ⟨h, h, fun i j hi hj hij b hb => ⟨hap i j hi hj hij b hb, hap i j hi hj hij b hb⟩⟩
theorem Fam.congr {l' q' : Nat → Nat} (h : Fam enc K w B e m v n u l q) (hl : ∀ j, l' j = l j) (hq : ∀ j, q' j = q j) : Fam enc K w B e m v n u l' q' := by
  obtain rfl : l' = l := funext hl
  obtain rfl : q' = q := funext hq
  exact h
theorem Fam.less {q' : Nat → Nat} (hK : ∀ k i, (enc k i).length = K) (h : Fam enc K w B e m v n u l q) (hq : ∀ j, j < m → q' j ≤ q j) : Fam enc K w B e m v n u l q' :=
  ⟨h.rows, fun j hj => (h.own j hj).less hK (hq j hj), h.ap⟩
theorem Fam.below (h : Fam enc K w B e m v n u l q) (hb : Below w.heap.size w w1) : Fam enc K w1 B e m v n u l q :=
  ⟨fun j hj => (h.rows j hj).below hb, fun j hj => (h.own j hj).below hb, h.ap⟩
theorem Fam.none (h : Fam enc K w B e m v n u l q) (hg : w.grownBy w1 Option.none) : Fam enc K w1 B e m v n u l q :=
  ⟨fun j hj => (h.rows j hj).kept hg (fun _ _ => by simp), fun j hj => (h.own j hj).kept hg (fun _ _ => by simp), h.ap⟩
theorem Mk.typed {v : Value} {n : Nat} {k : Int} {i : Nat} (h : Mk enc K w B e v n k i) {g : Nat} (hg : v.ownBlock = some g) : ∃ cur, w.heap[g]? = some (.cells cur e (0, 0)) := by
  obtain ⟨xs, a, b⟩ := h
  exact a.typed hg
theorem Mk.lt {v : Value} {n : Nat} {k : Int} {i : Nat} (h : Mk enc K w B e v n k i) {g : Nat} (hg : v.ownBlock = some g) : B ≤ g ∧ g < w.heap.size := by
  obtain ⟨xs, a, b⟩ := h
  exact a.lt g hg
/-- A store into a block of another type. -/
theorem Fam.aside {H : Nat} {e' : TypeId} {cur : Array Value} (h : Fam enc K w B e m v n u l q) (hH : w.heap[H]? = some (.cells cur e' (0, 0))) (hne : e ≠ e') (hg : w.grownBy w1 (some H)) : Fam enc K w1 B e m v n u l q := by
  have key : ∀ {x : Value} {n : Nat} {k : Int} {i : Nat}, Mk enc K w B e x n k i → Mk enc K w1 B e x n k i := fun hx => hx.kept hg (fun g hg2 hgH => by
    obtain ⟨cur2, h2⟩ := hx.typed hg2
    obtain rfl : g = H := by simpa using hgH
    rw [hH] at h2
    simp only [Option.some.injEq, Obj.cells.injEq] at h2
    exact hne h2.2.1.symm)
  exact ⟨fun j hj => key (h.rows j hj), fun j hj => key (h.own j hj), h.ap⟩
/-- A row is grown. -/
theorem Fam.append {x v' : Value} {xs news : List Value} {lx cnt qx k : Nat} (h : Fam enc K w B e m v n u l q)
    (hap : ∀ j k, j < m → k < m → j ≠ k → ∀ b, (v j).ownBlock = some b → (v k).ownBlock ≠ some b) (hk : k < m) (hx : x = u k ∨ x = v k) (hlx : n k ≤ lx) (hb : Below w.heap.size w w1)
    (ho : ownW w' B e K v' (lx + cnt) (xs ++ news)) (hg : w1.grownBy w' x.ownBlock) (hs : (∃ g, x.ownBlock = some g ∧ v'.ownBlock = some g) ∨ (v'.ownBlock = some w1.heap.size ∧ w1.grownBy w' Option.none))
    (hkeep : ∀ uu nu us, uu.ownBlock = x.ownBlock → nu ≤ lx → ownW w1 B e K uu nu us → ownW w' B e K uu nu us) (hq : (xs ++ news).take (qx * K) = marks enc (k : Int) qx) :
    Fam enc K w' B e m v n (fun j => if j = k then v' else u j) (fun j => if j = k then lx + cnt else l j) (fun j => if j = k then qx else q j) := by
  have hone : ∀ j, j < m → j ≠ k → ∀ b, x.ownBlock = some b → (u j).ownBlock ≠ some b ∧ (v j).ownBlock ≠ some b := by
    intro j hj hjk b hxb
    rcases hx with rfl | rfl
    · exact h.ap k j hk hj (fun e => hjk e.symm) b hxb
    · exact ⟨fun e2 => (h.ap j k hj hk hjk b e2).2 hxb, hap k j hk hj (fun e => hjk e.symm) b hxb⟩
  have hsz : ∀ j, j < m → (u j).ownBlock ≠ some w1.heap.size ∧ (v j).ownBlock ≠ some w1.heap.size := by
    intro j hj
    have := hb.size
    exact ⟨fun e2 => by have := ((h.own j hj).lt e2).2; omega, fun e2 => by have := ((h.rows j hj).lt e2).2; omega⟩
  refine ⟨fun j hj => ?_, fun j hj => ?_, fun i j hi hj hij b hbb => ?_⟩
  · have hr := (h.rows j hj).below hb
    by_cases hjk : j = k
    · subst hjk
      by_cases he : (v j).ownBlock = x.ownBlock
      · obtain ⟨ys, a, b⟩ := hr
        exact ⟨ys, hkeep _ _ _ he hlx a, b⟩
      · exact hr.kept hg (fun g hg2 e2 => he (hg2.trans e2))
    · exact hr.kept hg (fun g hg2 e2 => (hone j hj hjk g e2.symm).2 hg2)
  · by_cases hjk : j = k
    · subst hjk
      simp only [if_true]
      exact ⟨_, ho, hq⟩
    · simp only [if_neg hjk]
      exact ((h.own j hj).below hb).kept hg (fun g hg2 e2 => (hone j hj hjk g e2.symm).1 hg2)
  · by_cases hik : i = k
    · subst hik
      have hji : j ≠ i := fun e => hij e.symm
      simp only [if_true, if_neg hji] at hbb ⊢
      rcases hs with ⟨g, h1, h2⟩ | ⟨h1, h2⟩
      · rw [h2] at hbb; rw [hbb] at h1; exact hone j hj hji b h1
      · rw [h1] at hbb; rw [← hbb]; exact hsz j hj
    · simp only [if_neg hik] at hbb
      by_cases hjk : j = k
      · subst hjk
        simp only [if_true]
        refine ⟨fun e2 => ?_, (h.ap i j hi hj hij b hbb).2⟩
        rcases hs with ⟨g, h1, h2⟩ | ⟨h1, h2⟩
        · rw [h2] at e2; rw [e2] at h1; exact (hone i hi hik b h1).1 hbb
        · rw [h1] at e2; rw [← e2] at hbb; exact (hsz i hi).1 hbb
      · simp only [if_neg hjk]
        exact h.ap i j hi hj hij b hbb
end
/-- The row of headers. -/
def Hd (w : World) (B : Nat) (e : TypeId) (H m : Nat) (u : Nat → Value) (k : Nat) : Prop := ∃ hs, ownW w B e 1 (.slice (some ⟨H, 0, none⟩) m m) m hs ∧ ∀ j, j < k → hs[j]? = some (u j)
section
variable {w w' : World} {B : Nat} {e : TypeId} {H m : Nat} {u : Nat → Value} {k : Nat}
theorem Hd.cell {j : Nat} (h : Hd w B e H m u k) (hj : j < k) : w.cell? ⟨H, j, none⟩ = some (u j) := by
  obtain ⟨hs, a, b⟩ := h
  exact a.cells (g := H) (by simp [Value.ownBlock]) j (u j) (b j hj)
theorem Hd.typed (h : Hd w B e H m u k) : ∃ cur, w.heap[H]? = some (.cells cur e (0, 0)) := by
  obtain ⟨hs, a, b⟩ := h
  exact a.typed (by simp [Value.ownBlock])
theorem Hd.lt (h : Hd w B e H m u k) : B ≤ H ∧ H < w.heap.size := by
  obtain ⟨hs, a, b⟩ := h
  exact a.lt H (by simp [Value.ownBlock])
theorem Hd.congr {u' : Nat → Value} (h : Hd w B e H m u k) (hu : ∀ j, j < k → u' j = u j) : Hd w B e H m u' k := by
  obtain ⟨hs, a, b⟩ := h
  exact ⟨hs, a, fun j hj => (b j hj).trans (congrArg some (hu j hj).symm)⟩
theorem Hd.below (h : Hd w B e H m u k) (hb : Below w.heap.size w w') : Hd w' B e H m u k := by
  obtain ⟨hs, a, b⟩ := h
  exact ⟨hs, a.below hb, b⟩
theorem Hd.kept {row : Option Nat} (h : Hd w B e H m u k) (hg : w.grownBy w' row) (hne : some H ≠ row) : Hd w' B e H m u k := by
  obtain ⟨hs, a, b⟩ := h
  exact ⟨hs, a.kept hg (fun g hg2 => by simp only [Value.ownBlock, Option.some.injEq] at hg2; subst hg2; exact hne), b⟩
theorem Hd.old {j : Nat} (h : Hd w B e H m u k) (hj : j < m) : ∃ x, w.cell? ⟨H, j, none⟩ = some x ∧ w.frozen? ⟨H, j, none⟩ = false := by
  obtain ⟨hs, a, b⟩ := h
  obtain ⟨x, hx⟩ : ∃ x, hs[j]? = some x := ⟨hs[j]'(by rw [a.1]; omega), List.getElem?_eq_getElem _⟩
  exact ⟨x, a.cells (g := H) (by simp [Value.ownBlock]) j x hx, a.frozen (g := H) (by simp [Value.ownBlock]) j⟩
theorem Hd.store {i : Nat} {x : Value} {k' : Nat} {u' : Nat → Value} (h : Hd w B e H m u k) (hi : i < m) (hx : u' i = x) (hu : ∀ j, j < k' → j ≠ i → j < k ∧ u' j = u j) : Hd (w.setCells H (i * 1) [x]) B e H m u' k' := by
  obtain ⟨hs, a, b⟩ := h
  refine ⟨_, ownW_store a i hi [x] rfl, fun j hj => ?_⟩
  rw [over_get hs [x] (i * 1) j (by rw [a.1]; simp; omega)]
  by_cases hji : j = i
  · subst hji
    rw [if_pos (by simp), Nat.mul_one, Nat.sub_self, hx]; rfl
  · rw [if_neg (by simp only [List.length_singleton]; omega), b j (hu j hj hji).1, (hu j hj hji).2]
end
theorem Hd.same {w w' : World} {B : Nat} {e : TypeId} {H m : Nat} {u : Nat → Value} {k : Nat} (h : Hd w B e H m u k) (hb : w'.heap[H]? = w.heap[H]?) : Hd w' B e H m u k := by
  obtain ⟨hs, a, b⟩ := h
  exact ⟨hs, a.keep (fun g hg => by simp only [Value.ownBlock, Option.some.injEq] at hg; subst hg; exact hb), b⟩
section
variable {P : Program} {ops : Array Oper} {rest : List Oper} {o : Oper} {a : Act} {Q : Exit → Act → World → Prop} {w : World}
theorem gate_bs (t : TypeId) (len : Nat) (parts : Array (Nat × Operand)) (_ho : o.op = .buildSlice t len parts) (h : wpList P ops Q (o :: rest) a w) : wpList P ops Q (o :: rest) a w := h
theorem gate_ap (xs : Array Operand) (ts : Array TypeId) (_ho : o.op = .call { callee := .builtin .append, args := xs, argTypes := ts }) (h : wpList P ops Q (o :: rest) a w) : wpList P ops Q (o :: rest) a w := h
theorem wpList_build1 (hg : o.guard = none) (t e : TypeId) (x : Operand) (ho : o.op = .buildSlice t 1 #[(0, x)]) (hu : P.underlying t = some (.slice e)) (N : Nat) (hN : w.heap.size = N) (cs : List Value) (hx : a.eval x = .agg cs.toArray)
    (hbt : P.builtSlice e 1 [(0, .agg cs.toArray)] = some cs.toArray) (h : wpList P ops Q rest (a.put o.dst (.slice (some ⟨N, 0, none⟩) 1 1)) (w.alloc (.cells cs.toArray e))) : wpList P ops Q (o :: rest) a w :=
  Great.wpList_buildSliceTo hg t e 1 #[(0, x)] ho N hN _ rfl hu cs.toArray (by simpa [hx] using hbt) h
theorem wpList_buildV (hg : o.guard = none) (t e : TypeId) (x : Operand) (ho : o.op = .buildSlice t 1 #[(0, x)]) (hu : P.underlying t = some (.slice e)) (N : Nat) (hN : w.heap.size = N) (val : Value) (cs : List Value) (hx : a.eval x = val)
    (hbt : P.builtSlice e 1 [(0, val)] = some cs.toArray) (h : wpList P ops Q rest (a.put o.dst (.slice (some ⟨N, 0, none⟩) 1 1)) (w.alloc (.cells cs.toArray e))) : wpList P ops Q (o :: rest) a w :=
  Great.wpList_buildSliceTo hg t e 1 #[(0, x)] ho N hN _ rfl hu cs.toArray (by simpa [hx] using hbt) h
/-- A row of a family is grown by 'append'. -/
theorem wpList_grow_fam {enc : Int → Int → List Value} {K : Nat} {w0 : World} {B : Nat} {e : TypeId} {m : Nat} {v : Nat → Value} {n : Nat → Nat} {u : Nat → Value} {l q : Nat → Nat} {k : Nat}
    (w : World) (hgd : o.guard = none) (s xo : Operand) (t : TypeId) (ho : o.op = .call { callee := .builtin .append, args := #[s, xo], argTypes := #[t, t] })
    (ht : P.underlying t = some (.slice e)) (z : Value) (bytes : Nat) (hinfo : (P.info? e).map (fun i => (i.zero, i.size, i.bytes)) = some (some z, K, bytes)) (hzs : z.cells.size = K) (hsz : 0 < K)
    (hF : Fam enc K w0 B e m v n u l q) (hap : ∀ j k, j < m → k < m → j ≠ k → ∀ b, (v j).ownBlock = some b → (v k).ownBlock ≠ some b) (hk : k < m)
    (x : Value) (hx : x = u k ∨ x = v k) (lx : Nat) (hlx : n k ≤ lx) (xs : List Value) (hs : a.eval s = x) (hown : ownW w0 B e K x lx xs) (hb : Below w0.heap.size w0 w)
    (ad : Addr) (cnt c : Nat) (news : List Value) (hxo : a.eval xo = .slice (some ad) cnt c) (hl : news.length = cnt * K) (hnews : ∀ j u, news[j]? = some u → w.cell? (ad.add j) = some u) (h1 : ∀ u ∈ news, u.oneCell' = true) (hm : 0 < cnt)
    (h63 : lx + cnt ≤ maxLen) (hbytes : (lx + cnt) * bytes ≤ 140737488355328) (hbase : B ≤ w0.heap.size) (qx : Nat) (hq : (xs ++ news).take (qx * K) = marks enc (k : Int) qx)
    (h : ∀ v' w', Fam enc K w' B e m v n (fun j => if j = k then v' else u j) (fun j => if j = k then lx + cnt else l j) (fun j => if j = k then qx else q j) → Below B w0 w' → B ≤ w'.heap.size →
      (∀ (H : Nat) (e' : TypeId) (cur : Array Value), e ≠ e' → w0.heap[H]? = some (Obj.cells cur e' (0, 0)) → w'.heap[H]? = w0.heap[H]?) → wpList P ops Q rest (a.put o.dst v') w') : wpList P ops Q (o :: rest) a w := by
  have hB' : B ≤ w.heap.size := Nat.le_trans hbase hb.size
  refine wpList_append_ownW w hgd s xo t ho B e z K bytes ht hinfo hzs hsz x lx xs hs (hown.below hb) ad cnt c news hxo hl hnews h1 hm h63 hbytes hB' fun v' w' ho2 hg hs2 hkeep => ?_
  refine h v' w' (hF.append hap hk hx hlx hb ho2 hg hs2 hkeep hq) (below_grown (below_on (Below.refl B w0) hbase hb) hg hB' (fun b hb2 => (hown.lt b hb2).1)) (Nat.le_trans hB' hg.size) (fun H e' cur hne hH => ?_)
  have hlt := (Array.getElem?_eq_some_iff.1 hH).1
  refine (hg.block H (Nat.lt_of_lt_of_le hlt hb.size) (fun e2 => ?_)).trans (hb.block H hlt)
  obtain ⟨cur2, h2⟩ := hown.typed e2.symm
  rw [hH] at h2
  simp only [Option.some.injEq, Obj.cells.injEq] at h2
  exact hne h2.2.1.symm
end
theorem new_cell (w : World) (cs : List Value) (e : TypeId) : ∀ j u, cs[j]? = some u → (w.alloc (.cells cs.toArray e)).cell? ((⟨w.heap.size, 0, none⟩ : Addr).add j) = some u := by
  intro j u hu
  have hadd : (⟨w.heap.size, 0, none⟩ : Addr).add j = ⟨w.heap.size, j, none⟩ := by unfold Addr.add; split <;> simp_all
  rw [hadd, cell_of_row _ _ j cs.toArray e (0, 0) (heap_alloc_new w _)]
  simpa using hu
theorem marks_take_next {enc : Int → Int → List Value} {K : Nat} (hK : ∀ k i, (enc k i).length = K) (k z : Int) (i : Nat) (hz : z = (i : Int)) : (marks enc k i ++ enc k z).take ((i + 1) * K) = marks enc k (i + 1) := by
  subst hz
  rw [← marks_succ, List.take_of_length_le (by rw [marks_length enc K hK]; exact Nat.le_refl _)]
theorem slots_next (n : Nat → Nat) (k i j : Nat) : n j + pr (fun _ => 64) k (i + 1) j = if j = k then n k + i + 1 else n j + pr (fun _ => 64) k i j := by
  by_cases h : j = k
  · subst h; rw [if_pos rfl, pr_at]; omega
  · rw [if_neg h, pr_ne h]
theorem slots_all {m : Nat} (n : Nat → Nat) (k j : Nat) (hj : j < k) : n j + pr (fun _ => 64) k 0 j = n j + 64 := by rw [pr_lt hj]
theorem slots_step (n : Nat → Nat) (k j : Nat) : n j + pr (fun _ => 64) (k + 1) 0 j = n j + pr (fun _ => 64) k 64 j := by rw [pr_next]
theorem Fam.congrm {enc : Int → Int → List Value} {K : Nat} {w : World} {B : Nat} {e : TypeId} {m : Nat} {v : Nat → Value} {n : Nat → Nat} {u : Nat → Value} {l q l' q' : Nat → Nat} (h : Fam enc K w B e m v n u l q) (hl : ∀ j, j < m → l' j = l j) (hq : ∀ j, j < m → q' j = q j) : Fam enc K w B e m v n u l' q' :=
  ⟨h.rows, fun j hj => by rw [hl j hj, hq j hj]; exact h.own j hj, h.ap⟩
theorem setCell_grown (w : World) (H i : Nat) (x : Value) : w.grownBy (w.setCell ⟨H, i, none⟩ x) (some H) := setCells_grown w H [x] i
theorem Hd.store1 {w : World} {B : Nat} {e : TypeId} {H m : Nat} {u : Nat → Value} {k i : Nat} {x : Value} {k' : Nat} {u' : Nat → Value} (h : Hd w B e H m u k) (hi : i < m) (hx : u' i = x) (hu : ∀ j, j < k' → j ≠ i → j < k ∧ u' j = u j) : Hd (w.setCell ⟨H, i, none⟩ x) B e H m u' k' := by
  have := h.store hi hx hu
  rw [Nat.mul_one] at this
  exact this
theorem Fam.kept {enc : Int → Int → List Value} {K : Nat} {w w1 : World} {B : Nat} {e : TypeId} {m : Nat} {v : Nat → Value} {n : Nat → Nat} {u : Nat → Value} {l q : Nat → Nat} {row : Option Nat} (h : Fam enc K w B e m v n u l q) (hg : w.grownBy w1 row) (hne : ∀ j, j < m → (∀ b, row = some b → (u j).ownBlock ≠ some b ∧ (v j).ownBlock ≠ some b)) : Fam enc K w1 B e m v n u l q :=
  ⟨fun j hj => (h.rows j hj).kept hg (fun b hb hr => (hne j hj b hr.symm).2 hb), fun j hj => (h.own j hj).kept hg (fun b hb hr => (hne j hj b hr.symm).1 hb), h.ap⟩
theorem Fam.old {enc : Int → Int → List Value} {K : Nat} {w : World} {B : Nat} {e : TypeId} {m : Nat} {v : Nat → Value} {n : Nat → Nat} {u : Nat → Value} {l q : Nat → Nat} (h : Fam enc K w B e m v n u l q) : ∀ j, j < m → (u j).ownBlock ≠ some w.heap.size ∧ (v j).ownBlock ≠ some w.heap.size :=
  fun j hj => ⟨fun e => by have := ((h.own j hj).lt e).2; omega, fun e => by have := ((h.rows j hj).lt e).2; omega⟩
theorem over_one {xs cs : List Value} {o : Nat} (h : ∀ u ∈ xs, u.oneCell' = true) (hc : ∀ u ∈ cs, u.oneCell' = true) : ∀ u ∈ over xs o cs, u.oneCell' = true := by
  intro u hu
  unfold over at hu
  rcases List.mem_append.1 hu with hu | hu
  · rcases List.mem_append.1 hu with hu | hu
    · exact h u (List.mem_of_mem_take hu)
    · exact hc u hu
  · exact h u (List.mem_of_mem_drop hu)
theorem made_one {z : Value} (h : z.cells.toList.all Value.oneCell' = true) (k : Nat) : ∀ u ∈ (madeCells z.cells k).toList, u.oneCell' = true := by
  intro u hu
  rw [Array.mem_toList_iff] at hu
  unfold madeCells at hu
  obtain ⟨i, hi, e⟩ := Array.mem_map.1 hu
  rw [← e]
  by_cases hz : z.cells.size = 0
  · rw [hz, Nat.mod_zero, Array.getElem!_eq_getD, Array.getD, dif_neg (by omega)]; rfl
  · have hlt : i % z.cells.size < z.cells.size := Nat.mod_lt _ (by omega)
    rw [Array.getElem!_eq_getD, Array.getD, dif_pos hlt]
    exact List.all_eq_true.1 h _ (by simp)
theorem marks_take_over {enc : Int → Int → List Value} {K : Nat} (hK : ∀ k i, (enc k i).length = K) (k : Int) (i : Nat) (ys : List Value) : (marks enc k i ++ ys).take (i * K) = marks enc k i := by
  rw [← marks_length enc K hK k i]; exact List.take_left
theorem row_cell {w : World} {B : Nat} {e : TypeId} {K M n c : Nat} {xs : List Value} (h : ownW w B e K (.slice (some ⟨M, 0, none⟩) n c) n xs) : ∀ j u, xs[j]? = some u → w.cell? ((⟨M, 0, none⟩ : Addr).add j) = some u := by
  intro j u hu
  have hadd : (⟨M, 0, none⟩ : Addr).add j = ⟨M, j, none⟩ := by unfold Addr.add; split <;> simp_all
  rw [hadd]
  exact h.cells (g := M) (by simp [Value.ownBlock]) j u hu
/-- What a flat leaves: what lay below B, and each block of another type. -/
structure Bt (B : Nat) (T : TypeId) (w w' : World) : Prop where
  below : Below B w w'
  side : ∀ (b : Nat) (e' : TypeId) (cur : Array Value), T ≠ e' → w.heap[b]? = some (Obj.cells cur e' (0, 0)) → w'.heap[b]? = w.heap[b]?
section
variable {B : Nat} {T : TypeId} {w w1 w2 : World}
theorem Bt.refl (B : Nat) (T : TypeId) (w : World) : Bt B T w w := ⟨Below.refl _ _, fun _ _ _ _ _ => rfl⟩
theorem Bt.then (h : Bt B T w w1) (hb : Below B w1 w2) (hs : ∀ (b : Nat) (e' : TypeId) (cur : Array Value), T ≠ e' → b < w.heap.size → w1.heap[b]? = some (Obj.cells cur e' (0, 0)) → w2.heap[b]? = w1.heap[b]?) : Bt B T w w2 :=
  ⟨h.below.trans hb, fun b e' cur hne hw => (hs b e' cur hne (Array.getElem?_eq_some_iff.1 hw).1 ((h.side b e' cur hne hw).trans hw)).trans (h.side b e' cur hne hw)⟩
theorem Bt.on (h : Bt B T w w1) (hs : B ≤ w1.heap.size) (hb : Below w1.heap.size w1 w2) : Bt B T w w2 :=
  h.then (below_on (Below.refl _ _) hs hb) (fun b _ _ _ _ hw => hb.block b (Array.getElem?_eq_some_iff.1 hw).1)
theorem Bt.grown {row : Option Nat} (h : Bt B T w w1) (hg : w1.grownBy w2 row) (hs : B ≤ w1.heap.size) (hr : ∀ k, row = some k → B ≤ k) (ht : ∀ k, row = some k → ∃ cur, w1.heap[k]? = some (.cells cur T (0, 0))) : Bt B T w w2 :=
  h.then (below_grown (Below.refl _ _) hg hs hr) (fun b e' cur hne _ hw => hg.block b (Array.getElem?_eq_some_iff.1 hw).1 (fun e => by
    obtain ⟨cur2, h2⟩ := ht b e.symm
    rw [hw] at h2
    simp only [Option.some.injEq, Obj.cells.injEq] at h2
    exact hne h2.2.1.symm))
theorem Bt.setCell {H i : Nat} (h : Bt B T w w1) (hB : B ≤ H) (hH : w.heap.size ≤ H) (x : Value) : Bt B T w (w1.setCell ⟨H, i, none⟩ x) :=
  h.then (Below.setCell (Below.refl _ _) (p := ⟨H, i, none⟩) hB x) (fun b _ _ _ hb _ => Below.heap_setCell w1 ⟨H, i, none⟩ x b (by simp only [ne_eq]; omega))
theorem Bt.append (h : Bt B T w w1) (hb : Below B w1 w2) (hs : ∀ (b : Nat) (e' : TypeId) (cur : Array Value), T ≠ e' → w1.heap[b]? = some (Obj.cells cur e' (0, 0)) → w2.heap[b]? = w1.heap[b]?) : Bt B T w w2 :=
  h.then hb (fun b e' cur hne _ hw => hs b e' cur hne hw)
end
theorem own_ne2 {w : World} {B : Nat} {e e' : TypeId} {K n Bk : Nat} {v : Value} {xs : List Value} {cur : Array Value} (h : ownW w B e K v n xs) (hb : w.heap[Bk]? = some (Obj.cells cur e' (0, 0))) (hne : e ≠ e') {k : Nat} (hk : v.ownBlock = some k) : k ≠ Bk := by
  rintro rfl
  obtain ⟨cur2, h2⟩ := h.typed hk
  rw [hb] at h2
  simp only [Option.some.injEq, Obj.cells.injEq] at h2
  exact hne h2.2.1.symm
theorem own_ne {w : World} {B : Nat} {e e' : TypeId} {K n Bk : Nat} {v : Value} {xs : List Value} {cur : Array Value} (h : ownW w B e K v n xs) (hb : w.heap[Bk]? = some (Obj.cells cur e' (0, 0))) (hne : e ≠ e') : some Bk ≠ v.ownBlock :=
  fun e => own_ne2 h hb hne e.symm rfl
theorem froz_of {w : World} {Bk : Nat} {e : TypeId} {cur : Array Value} (hb : w.heap[Bk]? = some (Obj.cells cur e (0, 0))) (j : Nat) : w.frozen? ⟨Bk, j, none⟩ = false := by simp [World.frozen?, hb]
theorem setCell_block {w : World} {Bk : Nat} {e : TypeId} {cur : Array Value} (hb : w.heap[Bk]? = some (Obj.cells cur e (0, 0))) (j : Nat) (x : Value) : (w.setCell ⟨Bk, j, none⟩ x).heap[Bk]? = some (Obj.cells (cur.setIfInBounds j x) e (0, 0)) := by
  simp [World.setCell, Array.getElem?_modify, hb]
theorem alloc_le (w : World) (o : Obj) : w.heap.size ≤ (w.alloc o).heap.size := (Below.alloc (Below.refl w.heap.size w) (Nat.le_refl _) o).size
end Go.Proofs.YtckekncllmhohaaGreat.Ap
