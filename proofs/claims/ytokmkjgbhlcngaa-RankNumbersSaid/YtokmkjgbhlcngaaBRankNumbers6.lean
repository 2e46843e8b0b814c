/- What leads to RankNumbers: the functions' contracts and the plain laws under them. -/
import Derived.BigQuiet
import Derived.ChangeArms
import Derived.ChangeOld
import Derived.ChangeSame
import Derived.Deep.Fields
import Derived.Deep.Slices
import Derived.KernelRfl
import Derived.OpenShut
import Derived.ProofKit
import Derived.SizedLaws
import Derived.WideShapes
import Derived.Test.YtokmkjgbhlcngaaVRankNumbers0
import Derived.Test.YtokmkjgbhlcngaaVRankNumbers1
import Derived.Test.YtokmkjgbhlcngaaBRankNumbers0
import Derived.Test.YtokmkjgbhlcngaaBRankNumbers1
import Derived.Test.YtokmkjgbhlcngaaBRankNumbers2
import Derived.Test.YtokmkjgbhlcngaaBRankNumbers3
import Derived.Test.YtokmkjgbhlcngaaBRankNumbers4
import Derived.Test.YtokmkjgbhlcngaaBRankNumbers5
namespace Go.Proofs.Ytokmkjgbhlcngaa.Q
open Go.RowKit Go.Proofs.YtokmkjgbhlcngaaW.PrintWords Go.Proofs.YtokmkjgbhlcngaaW.PrintLast Go.Proofs.YtokmkjgbhlcngaaW.PrintMore
attribute [local go_sem] max2_int min2_int max_two min_two max_three min_three max_four min_four   -- for this text's walks alone
set_option linter.unusedVariables false
set_option linter.unusedSimpArgs false

attribute [local irreducible] Go.Calls
def storemanlaw09_RankRights.f (k : Nat) (a0_0 : Int) (a0_1 : ByteArray) (a0_2 : Int) (a0_3 : Int) (a0_4 : Int) (a0_5 : Int) (a0_6 : Int) (a0_7 : ByteArray) (a1_0 : Int) (a1_1 : ByteArray) (a1_2 : Int) (a1_3 : Int) (a1_4 : Int) (a1_5 : Int) (a1_6 : Int) (a1_7 : ByteArray) : Option (Bool) := (rank_Right.f k a0_0 a0_1 a0_2 a0_3 a0_4 a0_5 a0_6 a0_7).bind fun t185 => ((storemanref09_Right.f k a0_0 a0_1 a0_2 a0_3 a0_4 a0_5 a0_6 a0_7).bind fun t186 => (if (t185 == t186) = true then ((rank_Compare.f k a0_0 a0_1 a0_2 a0_3 a0_4 a0_5 a0_6 a0_7 a1_0 a1_1 a1_2 a1_3 a1_4 a1_5 a1_6 a1_7).bind fun t187 => ((storemanref09_Compare.f a0_0 a0_1 a0_2 a0_3 a0_4 a0_5 a0_6 a0_7 a1_0 a1_1 a1_2 a1_3 a1_4 a1_5 a1_6 a1_7).bind fun t188 => (if t187 = t188 then ((storemanlaw09_awake.f k).bind fun t189 => (some t189)) else (some false)))) else (some false)))
theorem storemanlaw09_RankRights.mono : ∀ a0 a1 a2 a3 a4 a5 a6 a7 a8 a9 a10 a11 a12 a13 a14 a15 k, LeO (storemanlaw09_RankRights.f k a0 a1 a2 a3 a4 a5 a6 a7 a8 a9 a10 a11 a12 a13 a14 a15) (storemanlaw09_RankRights.f (k + 1) a0 a1 a2 a3 a4 a5 a6 a7 a8 a9 a10 a11 a12 a13 a14 a15) := by
  intro a0 a1 a2 a3 a4 a5 a6 a7 a8 a9 a10 a11 a12 a13 a14 a15 k
  unfold storemanlaw09_RankRights.f
  repeat' first
      | (with_reducible exact rank_Compare.mono _ _ _ _ _ _ _ _ _ _ _ _ _ _ _ _ _)
      | (with_reducible exact rank_Right.mono _ _ _ _ _ _ _ _ _)
      | (with_reducible exact storemanlaw09_awake.mono _)
      | (with_reducible exact storemanref09_Right.mono _ _ _ _ _ _ _ _ _)
      | (with_reducible exact LeO.refl _)
      | (with_reducible exact LeO.none _)
      | (with_reducible refine LeO.ite ?_ ?_)
      | (with_reducible refine LeO.bind ?_ (fun _ => ?_))
      | exact rank_Compare.mono _ _ _ _ _ _ _ _ _ _ _ _ _ _ _ _ _
      | exact rank_Right.mono _ _ _ _ _ _ _ _ _
      | exact storemanlaw09_awake.mono _
      | exact storemanref09_Right.mono _ _ _ _ _ _ _ _ _
      | exact LeO.none _
      | refine LeO.ite ?_ ?_
      | refine LeO.bind ?_ (fun _ => ?_)
def storemanlaw09_RankRights.T1 : Bool × List (List Nat × List Nat) := (true, [([], []), ([0], [0]), ([], []), ([2, 1], [2]), ([1, 3], [1, 3]), ([4, 3], [4]), ([5], [5]), ([5], [5]), ([6, 7, 5, 5], [5, 6, 7]), ([5], [5]), ([5], [5]), ([9, 10, 8, 5], [5, 9, 10]), ([8, 11, 5], [5, 8, 11]), ([5, 12], [5, 12]), ([13, 11], [13]), ([14, 14], [14]), ([14, 15], [14, 15]), ([16, 15, 0, 1, 2, 3, 4, 5, 6, 7, 8, 9, 10, 11, 12, 13, 14, 15, 16], [16])])
def storemanlaw09_RankRights.B1 : List Nat := [0, 1, 0, 7, 15, 31, 63, 63, 255, 63, 63, 2047, 4095, 8191, 16383, 32767, 65535, 131071]
theorem storemanlaw09_RankRights.tab1 : rtab .any (opsOf Try.f3 1) = storemanlaw09_RankRights.T1 := by kernel_rfl
theorem storemanlaw09_RankRights.bits1 : waitsOk storemanlaw09_RankRights.T1.2 storemanlaw09_RankRights.B1 = true := by kernel_rfl
set_option maxHeartbeats 8000000 in
set_option maxRecDepth 100000 in
theorem storemanlaw09_RankRights.calls (k : Nat) (a0_0 : Int) (a0_1 : ByteArray) (a0_2 : Int) (a0_3 : Int) (a0_4 : Int) (a0_5 : Int) (a0_6 : Int) (a0_7 : ByteArray) (a1_0 : Int) (a1_1 : ByteArray) (a1_2 : Int) (a1_3 : Int) (a1_4 : Int) (a1_5 : Int) (a1_6 : Int) (a1_7 : ByteArray) (r : Bool) (w : World) (h : storemanlaw09_RankRights.f k a0_0 a0_1 a0_2 a0_3 a0_4 a0_5 a0_6 a0_7 a1_0 a1_1 a1_2 a1_3 a1_4 a1_5 a1_6 a1_7 = some r) :
    Calls Try.prog 3 #[.agg #[.int .i64 a0_0, .string a0_1, .int .i64 a0_2, .int .i64 a0_3, .int .i64 a0_4, .int .u8 a0_5, .int .i64 a0_6, .string a0_7], .agg #[.int .i64 a1_0, .string a1_1, .int .i64 a1_2, .int .i64 a1_3, .int .i64 a1_4, .int .u8 a1_5, .int .i64 a1_6, .string a1_7]] w fun e w' => e = .returned (.bool r) ∧ Below w.heap.size w w' := by
  have hu24 := Try.underlying24
  have HB := Aside0.mk (Below.refl w.heap.size w)
  have H : ((rank_Right.f k a0_0 a0_1 a0_2 a0_3 a0_4 a0_5 a0_6 a0_7).bind fun t185 => ((storemanref09_Right.f k a0_0 a0_1 a0_2 a0_3 a0_4 a0_5 a0_6 a0_7).bind fun t186 => (if (t185 == t186) = true then ((rank_Compare.f k a0_0 a0_1 a0_2 a0_3 a0_4 a0_5 a0_6 a0_7 a1_0 a1_1 a1_2 a1_3 a1_4 a1_5 a1_6 a1_7).bind fun t187 => ((storemanref09_Compare.f a0_0 a0_1 a0_2 a0_3 a0_4 a0_5 a0_6 a0_7 a1_0 a1_1 a1_2 a1_3 a1_4 a1_5 a1_6 a1_7).bind fun t188 => (if t187 = t188 then ((storemanlaw09_awake.f k).bind fun t189 => (some t189)) else (some false)))) else (some false)))) = some r := h
  clear h
  replace H := Option.bind_eq_some_iff.mp H
  obtain ⟨t185, A30, H⟩ := H
  replace H : ((storemanref09_Right.f k a0_0 a0_1 a0_2 a0_3 a0_4 a0_5 a0_6 a0_7).bind fun t186 => (if (t185 == t186) = true then ((rank_Compare.f k a0_0 a0_1 a0_2 a0_3 a0_4 a0_5 a0_6 a0_7 a1_0 a1_1 a1_2 a1_3 a1_4 a1_5 a1_6 a1_7).bind fun t187 => ((storemanref09_Compare.f a0_0 a0_1 a0_2 a0_3 a0_4 a0_5 a0_6 a0_7 a1_0 a1_1 a1_2 a1_3 a1_4 a1_5 a1_6 a1_7).bind fun t188 => (if t187 = t188 then ((storemanlaw09_awake.f k).bind fun t189 => (some t189)) else (some false)))) else (some false))) = some r := H
  have A3 := Aside0.mk A30
  clear A30
  replace H := Option.bind_eq_some_iff.mp H
  obtain ⟨t186, A40, H⟩ := H
  replace H : (if (t185 == t186) = true then ((rank_Compare.f k a0_0 a0_1 a0_2 a0_3 a0_4 a0_5 a0_6 a0_7 a1_0 a1_1 a1_2 a1_3 a1_4 a1_5 a1_6 a1_7).bind fun t187 => ((storemanref09_Compare.f a0_0 a0_1 a0_2 a0_3 a0_4 a0_5 a0_6 a0_7 a1_0 a1_1 a1_2 a1_3 a1_4 a1_5 a1_6 a1_7).bind fun t188 => (if t187 = t188 then ((storemanlaw09_awake.f k).bind fun t189 => (some t189)) else (some false)))) else (some false)) = some r := H
  have A4 := Aside0.mk A40
  clear A40
  by_cases c5 : (t185 == t186) = true
  · rw [if_pos c5] at H
    have c5b0 : (t185 == t186) = true := c5
    (try (have c5b1 : decide (t185 = t186) = true := by simpa using c5))
    (try (have c5b2 : (t185 == t186) = true := by simpa using c5))
    clear c5
    replace H := Option.bind_eq_some_iff.mp H
    obtain ⟨t187, A60, H⟩ := H
    replace H : ((storemanref09_Compare.f a0_0 a0_1 a0_2 a0_3 a0_4 a0_5 a0_6 a0_7 a1_0 a1_1 a1_2 a1_3 a1_4 a1_5 a1_6 a1_7).bind fun t188 => (if t187 = t188 then ((storemanlaw09_awake.f k).bind fun t189 => (some t189)) else (some false))) = some r := H
    have A6 := Aside0.mk A60
    clear A60
    replace H := Option.bind_eq_some_iff.mp H
    obtain ⟨t188, A70, H⟩ := H
    replace H : (if t187 = t188 then ((storemanlaw09_awake.f k).bind fun t189 => (some t189)) else (some false)) = some r := H
    have A7 := Aside0.mk A70
    clear A70
    by_cases c8 : t187 = t188
    · rw [if_pos c8] at H
      have c8b0 : (t187 == t188) = true := beq_iff_eq.mpr c8
      have c8b1 : (t187 != t188) = false := bne_eq_false_iff_eq.mpr c8
      clear c8
      replace H := Option.bind_eq_some_iff.mp H
      obtain ⟨t189, A90, H⟩ := H
      replace H : (some t189) = some r := H
      have A9 := Aside0.mk A90
      clear A90
      obtain rfl := Option.some.inj H
      go_enter Try.func3, Try.ntmps3
      try go_wp2_with (first | ((with_reducible refine gate_dst (N := 2) rfl ?_); refine box_event ?hg (N := 2) ?hd (cs := #[.int .i64 a0_0, .string a0_1, .int .i64 a0_2, .int .i64 a0_3, .int .i64 a0_4, .int .u8 a0_5, .int .i64 a0_6, .string a0_7]) (t := 24) ?hr ?_; (case hd => rfl); (case hg => rfl); (case hr => first | (go_simp; done) | (go_simp; rfl)); intro gb183 hg w10 hbox hb; have n0_ := Aside0.mk (below_step (by repeat (first | (with_reducible first | exact HB.out | apply below_alloc | apply pw_below_drewN | apply below_drew1) | exact HB.out)) hb); have n1_ := Aside0.mk (hbox); have n2_ := Aside0.mk ((by rw [hg]; exact (below_size (by repeat (first | (with_reducible first | exact HB.out | apply below_alloc | apply pw_below_drewN | apply below_drew1) | exact HB.out))) : w.heap.size ≤ gb183)); have n3_ := Aside0.mk ((by rw [hg]; exact (below_size (by repeat (first | (with_reducible first | exact HB.out | apply below_alloc | apply pw_below_drewN | apply below_drew1) | exact HB.out))) : w.heap.size ≤ gb183)); clear HB; have HB := n0_; have BK183 := n1_; have GW183 := n2_; have GE183 := n3_; clear n0_ n1_ n2_ n3_; clear hb hbox hg) | ((with_reducible refine gate_dst (N := 3) rfl ?_); refine box_event ?hg (N := 3) ?hd (cs := #[.int .i64 a1_0, .string a1_1, .int .i64 a1_2, .int .i64 a1_3, .int .i64 a1_4, .int .u8 a1_5, .int .i64 a1_6, .string a1_7]) (t := 24) ?hr ?_; (case hd => rfl); (case hg => rfl); (case hr => first | (go_simp; done) | (go_simp; rfl)); intro gb184 hg w11 hbox hb; have n0_ := Aside0.mk (blk_below (g := gb183) (o := .cells #[.int .i64 a0_0, .string a0_1, .int .i64 a0_2, .int .i64 a0_3, .int .i64 a0_4, .int .u8 a0_5, .int .i64 a0_6, .string a0_7] 24 (0, 0)) (by (with_reducible repeat (first | refine blk_drewN ?_ _ | refine blk_drew ?_ | refine blk_alloc ?_ _)); exact BK183.out) hb); have n1_ := Aside0.mk (below_step (by repeat (first | (with_reducible first | exact HB.out | apply below_alloc | apply pw_below_drewN | apply below_drew1 | refine below_set ?_ GE183.out) | exact HB.out)) hb); have n2_ := Aside0.mk (hbox); have n3_ := Aside0.mk ((by rw [hg]; exact (below_size (by repeat (first | (with_reducible first | exact HB.out | apply below_alloc | apply pw_below_drewN | apply below_drew1 | refine below_set ?_ GE183.out) | exact HB.out))) : w.heap.size ≤ gb184)); have n4_ := Aside0.mk ((by rw [hg]; exact (below_size (by repeat (first | (with_reducible first | exact HB.out | apply below_alloc | apply pw_below_drewN | apply below_drew1 | refine below_set ?_ GE183.out) | exact HB.out))) : w.heap.size ≤ gb184)); have n5_ := Aside0.mk ((by rw [hg]; exact Nat.ne_of_lt (blk_lt (g := gb183) (o := .cells #[.int .i64 a0_0, .string a0_1, .int .i64 a0_2, .int .i64 a0_3, .int .i64 a0_4, .int .u8 a0_5, .int .i64 a0_6, .string a0_7] 24 (0, 0)) (by (with_reducible repeat (first | refine blk_drewN ?_ _ | refine blk_drew ?_ | refine blk_alloc ?_ _)); exact BK183.out)) : gb183 ≠ gb184)); have n6_ := Aside0.mk ((by rw [hg]; exact Nat.ne_of_gt (blk_lt (g := gb183) (o := .cells #[.int .i64 a0_0, .string a0_1, .int .i64 a0_2, .int .i64 a0_3, .int .i64 a0_4, .int .u8 a0_5, .int .i64 a0_6, .string a0_7] 24 (0, 0)) (by (with_reducible repeat (first | refine blk_drewN ?_ _ | refine blk_drew ?_ | refine blk_alloc ?_ _)); exact BK183.out)) : gb184 ≠ gb183)); clear BK183; clear HB; have BK183 := n0_; have HB := n1_; have BK184 := n2_; have GW184 := n3_; have GE184 := n4_; have NB183_184 := n5_; have NB184_183 := n6_; clear n0_ n1_ n2_ n3_ n4_ n5_ n6_; clear hb hbox hg))
      have n0_ := Aside0.mk (blk_drew BK183.out)
      have n1_ := Aside0.mk (blk_drew BK184.out)
      have n2_ := Aside0.mk (below_drew1 HB.out)
      clear BK183
      clear BK184
      clear HB
      have BK183 := n0_
      have BK184 := n1_
      have HB := n2_
      clear n0_ n1_ n2_
      refine start_ (n := 18) (S := fun w' => w'.cell? ⟨gb183, 0, none⟩ = some (.int .i64 a0_0) ∧ w'.cell? ⟨gb183, 1, none⟩ = some (.string a0_1) ∧ w'.cell? ⟨gb183, 2, none⟩ = some (.int .i64 a0_2) ∧ w'.cell? ⟨gb183, 3, none⟩ = some (.int .i64 a0_3) ∧ w'.cell? ⟨gb183, 4, none⟩ = some (.int .i64 a0_4) ∧ w'.cell? ⟨gb183, 5, none⟩ = some (.int .u8 a0_5) ∧ w'.cell? ⟨gb183, 6, none⟩ = some (.int .i64 a0_6) ∧ w'.cell? ⟨gb183, 7, none⟩ = some (.string a0_7) ∧ w'.cell? ⟨gb184, 0, none⟩ = some (.int .i64 a1_0) ∧ w'.cell? ⟨gb184, 1, none⟩ = some (.string a1_1) ∧ w'.cell? ⟨gb184, 2, none⟩ = some (.int .i64 a1_2) ∧ w'.cell? ⟨gb184, 3, none⟩ = some (.int .i64 a1_3) ∧ w'.cell? ⟨gb184, 4, none⟩ = some (.int .i64 a1_4) ∧ w'.cell? ⟨gb184, 5, none⟩ = some (.int .u8 a1_5) ∧ w'.cell? ⟨gb184, 6, none⟩ = some (.int .i64 a1_6) ∧ w'.cell? ⟨gb184, 7, none⟩ = some (.string a1_7)) (ds := []) #[false, false, false, false, false, false, false, false, false, false, false, false, false, false, false, false, false, false] (by kernel_rfl) rfl rfl ⟨(blk_cell BK183.out 0).trans rfl, (blk_cell BK183.out 1).trans rfl, (blk_cell BK183.out 2).trans rfl, (blk_cell BK183.out 3).trans rfl, (blk_cell BK183.out 4).trans rfl, (blk_cell BK183.out 5).trans rfl, (blk_cell BK183.out 6).trans rfl, (blk_cell BK183.out 7).trans rfl, (blk_cell BK184.out 0).trans rfl, (blk_cell BK184.out 1).trans rfl, (blk_cell BK184.out 2).trans rfl, (blk_cell BK184.out 3).trans rfl, (blk_cell BK184.out 4).trans rfl, (blk_cell BK184.out 5).trans rfl, (blk_cell BK184.out 6).trans rfl, (blk_cell BK184.out 7).trans rfl⟩ (fun hHeld => ?_); refine with_tabW storemanlaw09_RankRights.tab1 storemanlaw09_RankRights.bits1 (fun HT_ HW_ => ?_)
      generalize w11.drew = w12 at BK183 BK184 HB hHeld ⊢
      refine take_ (i := 0) (N := some 5) (v := ?_) (a' := ?_) #[true, false, false, false, false, false, false, false, false, false, false, false, false, false, false, false, false, false] rfl rfl (take_ofW HT_.out HW_.out (by kernel_rfl)) (fun _ _ _ h => h) (Or.inl ⟨by rfl, ?_⟩) hHeld ?_ ?_
      rotate_left
      · rintro w' ⟨s0, s1, s2, s3, s4, s5, s6, s7, s8, s9, s10, s11, s12, s13, s14, s15⟩
        go_simp
        with_reducible rfl
      rotate_left
      · simp only [Act.put, List.setIfInBounds_toArray, List.set_cons_zero, List.set_cons_succ, i64_w, i32_w]
        rfl
      refine take_ (i := 2) (N := some 7) (v := ?_) (a' := ?_) #[true, false, true, false, false, false, false, false, false, false, false, false, false, false, false, false, false, false] rfl rfl (take_ofW HT_.out HW_.out (by kernel_rfl)) (fun _ _ _ h => h) (Or.inl ⟨by rfl, ?_⟩) hHeld ?_ ?_
      rotate_left
      · rintro w' ⟨s0, s1, s2, s3, s4, s5, s6, s7, s8, s9, s10, s11, s12, s13, s14, s15⟩
        go_simp
        with_reducible rfl
      rotate_left
      · simp only [Act.put, List.setIfInBounds_toArray, List.set_cons_zero, List.set_cons_succ, i64_w, i32_w]
        rfl
      refine one_ (i := 1) (N := some 6) #[true, true, true, false, false, false, false, false, false, false, false, false, false, false, false, false, false, false] rfl rfl (one_of HT_.out (by kernel_rfl)) (by decide) (fun K hK => ?_)
      refine goes_ Try.func8 (by kernel_rfl) rfl #[.agg #[.int .i64 a0_0, .string a0_1, .int .i64 a0_2, .int .i64 a0_3, .int .i64 a0_4, .int .u8 a0_5, .int .i64 a0_6, .string a0_7]] (by rfl) rfl rfl (by (try simp only [List.map_toArray, List.map_cons, List.map_nil]); first | done | rfl | (simp only [List.length_drop, List.length_take]; rfl)) ?_
      with_reducible refine (rank_Right.calls k a0_0 a0_1 a0_2 a0_3 a0_4 a0_5 a0_6 a0_7 t185 _ A3.out).mono ?_
      rintro e w13 ⟨rfl, hb⟩
      refine ⟨_, rfl, ?_⟩
      have n0_ := Aside0.mk (blk_below (g := gb183) (o := .cells #[.int .i64 a0_0, .string a0_1, .int .i64 a0_2, .int .i64 a0_3, .int .i64 a0_4, .int .u8 a0_5, .int .i64 a0_6, .string a0_7] 24 (0, 0)) (by (with_reducible repeat (first | refine blk_drewN ?_ _ | refine blk_drew ?_ | refine blk_alloc ?_ _)); exact BK183.out) hb)
      have n1_ := Aside0.mk (blk_below (g := gb184) (o := .cells #[.int .i64 a1_0, .string a1_1, .int .i64 a1_2, .int .i64 a1_3, .int .i64 a1_4, .int .u8 a1_5, .int .i64 a1_6, .string a1_7] 24 (0, 0)) (by (with_reducible repeat (first | refine blk_drewN ?_ _ | refine blk_drew ?_ | refine blk_alloc ?_ _)); exact BK184.out) hb)
      have n2_ := Aside0.mk (below_step (by repeat (first | (with_reducible first | exact HB.out | apply below_alloc | apply pw_below_drewN | apply below_drew1 | refine below_set ?_ GE183.out | refine below_set ?_ GE184.out) | exact HB.out)) hb)
      clear BK183
      clear BK184
      clear HB
      have BK183 := n0_
      have BK184 := n1_
      have HB := n2_
      clear n0_ n1_ n2_
      (try clear hb)
      (try clear hb2)
      (try clear hk)
      (try clear hi)
      refine hK.out _ _ ⟨(blk_cell BK183.out 0).trans rfl, (blk_cell BK183.out 1).trans rfl, (blk_cell BK183.out 2).trans rfl, (blk_cell BK183.out 3).trans rfl, (blk_cell BK183.out 4).trans rfl, (blk_cell BK183.out 5).trans rfl, (blk_cell BK183.out 6).trans rfl, (blk_cell BK183.out 7).trans rfl, (blk_cell BK184.out 0).trans rfl, (blk_cell BK184.out 1).trans rfl, (blk_cell BK184.out 2).trans rfl, (blk_cell BK184.out 3).trans rfl, (blk_cell BK184.out 4).trans rfl, (blk_cell BK184.out 5).trans rfl, (blk_cell BK184.out 6).trans rfl, (blk_cell BK184.out 7).trans rfl⟩ (fun hHeld => ?_)
      clear hK K
      refine norm_ (a' := ?_) ?_ ?_
      rotate_left
      · show Act.put _ (some 6) _ = _
        simp only [Act.put, List.setIfInBounds_toArray, List.set_cons_zero, List.set_cons_succ, i64_w, i32_w]
        rfl
      refine one_ (i := 3) (N := some 8) #[true, true, true, true, false, false, false, false, false, false, false, false, false, false, false, false, false, false] rfl rfl (one_of HT_.out (by kernel_rfl)) (by decide) (fun K hK => ?_)
      refine goes_ Try.func9 (by kernel_rfl) rfl #[.agg #[.int .i64 a0_0, .string a0_1, .int .i64 a0_2, .int .i64 a0_3, .int .i64 a0_4, .int .u8 a0_5, .int .i64 a0_6, .string a0_7]] (by rfl) rfl rfl (by (try simp only [List.map_toArray, List.map_cons, List.map_nil]); first | done | rfl | (simp only [List.length_drop, List.length_take]; rfl)) ?_
      with_reducible refine (storemanref09_Right.calls k a0_0 a0_1 a0_2 a0_3 a0_4 a0_5 a0_6 a0_7 t186 _ A4.out).mono ?_
      rintro e w14 ⟨rfl, hb⟩
      refine ⟨_, rfl, ?_⟩
      have n0_ := Aside0.mk (blk_below (g := gb183) (o := .cells #[.int .i64 a0_0, .string a0_1, .int .i64 a0_2, .int .i64 a0_3, .int .i64 a0_4, .int .u8 a0_5, .int .i64 a0_6, .string a0_7] 24 (0, 0)) (by (with_reducible repeat (first | refine blk_drewN ?_ _ | refine blk_drew ?_ | refine blk_alloc ?_ _)); exact BK183.out) hb)
      have n1_ := Aside0.mk (blk_below (g := gb184) (o := .cells #[.int .i64 a1_0, .string a1_1, .int .i64 a1_2, .int .i64 a1_3, .int .i64 a1_4, .int .u8 a1_5, .int .i64 a1_6, .string a1_7] 24 (0, 0)) (by (with_reducible repeat (first | refine blk_drewN ?_ _ | refine blk_drew ?_ | refine blk_alloc ?_ _)); exact BK184.out) hb)
      have n2_ := Aside0.mk (below_step (by repeat (first | (with_reducible first | exact HB.out | apply below_alloc | apply pw_below_drewN | apply below_drew1 | refine below_set ?_ GE183.out | refine below_set ?_ GE184.out) | exact HB.out)) hb)
      clear BK183
      clear BK184
      clear HB
      have BK183 := n0_
      have BK184 := n1_
      have HB := n2_
      clear n0_ n1_ n2_
      (try clear hb)
      (try clear hb2)
      (try clear hk)
      (try clear hi)
      refine hK.out _ _ ⟨(blk_cell BK183.out 0).trans rfl, (blk_cell BK183.out 1).trans rfl, (blk_cell BK183.out 2).trans rfl, (blk_cell BK183.out 3).trans rfl, (blk_cell BK183.out 4).trans rfl, (blk_cell BK183.out 5).trans rfl, (blk_cell BK183.out 6).trans rfl, (blk_cell BK183.out 7).trans rfl, (blk_cell BK184.out 0).trans rfl, (blk_cell BK184.out 1).trans rfl, (blk_cell BK184.out 2).trans rfl, (blk_cell BK184.out 3).trans rfl, (blk_cell BK184.out 4).trans rfl, (blk_cell BK184.out 5).trans rfl, (blk_cell BK184.out 6).trans rfl, (blk_cell BK184.out 7).trans rfl⟩ (fun hHeld => ?_)
      clear hK K
      refine norm_ (a' := ?_) ?_ ?_
      rotate_left
      · show Act.put _ (some 8) _ = _
        simp only [Act.put, List.setIfInBounds_toArray, List.set_cons_zero, List.set_cons_succ, i64_w, i32_w]
        rfl
      refine pure_ (i := 4) (N := some 9) (v := ?_) (a' := ?_) #[true, true, true, true, true, false, false, false, false, false, false, false, false, false, false, false, false, false] rfl rfl (any_of HT_.out (by kernel_rfl)) (fun _ _ _ h => h) (Or.inl ⟨by rfl, ?_⟩) ?_ ?_
      rotate_left
      · intro w'
        go_simp
        with_reducible rfl
      rotate_left
      · simp only [Act.put, List.setIfInBounds_toArray, List.set_cons_zero, List.set_cons_succ, i64_w, i32_w]
        rfl
      refine pure_ (i := 5) (N := some 10) (v := ?_) (a' := ?_) #[true, true, true, true, true, true, false, false, false, false, false, false, false, false, false, false, false, false] rfl rfl (any_of HT_.out (by kernel_rfl)) (fun _ _ _ h => h) (Or.inl ⟨by rfl, ?_⟩) ?_ ?_
      rotate_left
      · intro w'
        go_simp
        with_reducible rfl
      rotate_left
      · simp only [Act.put, List.setIfInBounds_toArray, List.set_cons_zero, List.set_cons_succ, i64_w, i32_w]
        rfl
      refine take_ (i := 6) (N := some 11) (v := ?_) (a' := ?_) #[true, true, true, true, true, true, true, false, false, false, false, false, false, false, false, false, false, false] rfl rfl (take_ofW HT_.out HW_.out (by kernel_rfl)) (fun _ _ _ h => h) (Or.inl ⟨by rfl, ?_⟩) hHeld ?_ ?_
      rotate_left
      · rintro w' ⟨s0, s1, s2, s3, s4, s5, s6, s7, s8, s9, s10, s11, s12, s13, s14, s15⟩
        go_simp
        with_reducible rfl
      rotate_left
      · simp only [Act.put, List.setIfInBounds_toArray, List.set_cons_zero, List.set_cons_succ, i64_w, i32_w]
        rfl
      refine take_ (i := 7) (N := some 12) (v := ?_) (a' := ?_) #[true, true, true, true, true, true, true, true, false, false, false, false, false, false, false, false, false, false] rfl rfl (take_ofW HT_.out HW_.out (by kernel_rfl)) (fun _ _ _ h => h) (Or.inl ⟨by rfl, ?_⟩) hHeld ?_ ?_
      rotate_left
      · rintro w' ⟨s0, s1, s2, s3, s4, s5, s6, s7, s8, s9, s10, s11, s12, s13, s14, s15⟩
        go_simp
        with_reducible rfl
      rotate_left
      · simp only [Act.put, List.setIfInBounds_toArray, List.set_cons_zero, List.set_cons_succ, i64_w, i32_w]
        rfl
      refine take_ (i := 9) (N := some 14) (v := ?_) (a' := ?_) #[true, true, true, true, true, true, true, true, false, true, false, false, false, false, false, false, false, false] rfl rfl (take_ofW HT_.out HW_.out (by kernel_rfl)) (fun _ _ _ h => h) (Or.inl ⟨by rfl, ?_⟩) hHeld ?_ ?_
      rotate_left
      · rintro w' ⟨s0, s1, s2, s3, s4, s5, s6, s7, s8, s9, s10, s11, s12, s13, s14, s15⟩
        go_simp
        with_reducible rfl
      rotate_left
      · simp only [Act.put, List.setIfInBounds_toArray, List.set_cons_zero, List.set_cons_succ, i64_w, i32_w]
        rfl
      refine take_ (i := 10) (N := some 15) (v := ?_) (a' := ?_) #[true, true, true, true, true, true, true, true, false, true, true, false, false, false, false, false, false, false] rfl rfl (take_ofW HT_.out HW_.out (by kernel_rfl)) (fun _ _ _ h => h) (Or.inl ⟨by rfl, ?_⟩) hHeld ?_ ?_
      rotate_left
      · rintro w' ⟨s0, s1, s2, s3, s4, s5, s6, s7, s8, s9, s10, s11, s12, s13, s14, s15⟩
        go_simp
        with_reducible rfl
      rotate_left
      · simp only [Act.put, List.setIfInBounds_toArray, List.set_cons_zero, List.set_cons_succ, i64_w, i32_w]
        rfl
      refine one_ (i := 8) (N := some 13) #[true, true, true, true, true, true, true, true, true, true, true, false, false, false, false, false, false, false] rfl rfl (one_of HT_.out (by kernel_rfl)) (by decide) (fun K hK => ?_)
      refine goes_ Try.func10 (by kernel_rfl) rfl #[.agg #[.int .i64 a0_0, .string a0_1, .int .i64 a0_2, .int .i64 a0_3, .int .i64 a0_4, .int .u8 a0_5, .int .i64 a0_6, .string a0_7], .agg #[.int .i64 a1_0, .string a1_1, .int .i64 a1_2, .int .i64 a1_3, .int .i64 a1_4, .int .u8 a1_5, .int .i64 a1_6, .string a1_7]] (by rfl) rfl rfl (by (try simp only [List.map_toArray, List.map_cons, List.map_nil]); first | done | rfl | (simp only [List.length_drop, List.length_take]; rfl)) ?_
      with_reducible refine (rank_Compare.calls k a0_0 a0_1 a0_2 a0_3 a0_4 a0_5 a0_6 a0_7 a1_0 a1_1 a1_2 a1_3 a1_4 a1_5 a1_6 a1_7 t187 _ A6.out).mono ?_
      rintro e w15 ⟨rfl, hb⟩
      refine ⟨_, rfl, ?_⟩
      have n0_ := Aside0.mk (blk_below (g := gb183) (o := .cells #[.int .i64 a0_0, .string a0_1, .int .i64 a0_2, .int .i64 a0_3, .int .i64 a0_4, .int .u8 a0_5, .int .i64 a0_6, .string a0_7] 24 (0, 0)) (by (with_reducible repeat (first | refine blk_drewN ?_ _ | refine blk_drew ?_ | refine blk_alloc ?_ _)); exact BK183.out) hb)
      have n1_ := Aside0.mk (blk_below (g := gb184) (o := .cells #[.int .i64 a1_0, .string a1_1, .int .i64 a1_2, .int .i64 a1_3, .int .i64 a1_4, .int .u8 a1_5, .int .i64 a1_6, .string a1_7] 24 (0, 0)) (by (with_reducible repeat (first | refine blk_drewN ?_ _ | refine blk_drew ?_ | refine blk_alloc ?_ _)); exact BK184.out) hb)
      have n2_ := Aside0.mk (below_step (by repeat (first | (with_reducible first | exact HB.out | apply below_alloc | apply pw_below_drewN | apply below_drew1 | refine below_set ?_ GE183.out | refine below_set ?_ GE184.out) | exact HB.out)) hb)
      clear BK183
      clear BK184
      clear HB
      have BK183 := n0_
      have BK184 := n1_
      have HB := n2_
      clear n0_ n1_ n2_
      (try clear hb)
      (try clear hb2)
      (try clear hk)
      (try clear hi)
      refine hK.out _ _ ⟨(blk_cell BK183.out 0).trans rfl, (blk_cell BK183.out 1).trans rfl, (blk_cell BK183.out 2).trans rfl, (blk_cell BK183.out 3).trans rfl, (blk_cell BK183.out 4).trans rfl, (blk_cell BK183.out 5).trans rfl, (blk_cell BK183.out 6).trans rfl, (blk_cell BK183.out 7).trans rfl, (blk_cell BK184.out 0).trans rfl, (blk_cell BK184.out 1).trans rfl, (blk_cell BK184.out 2).trans rfl, (blk_cell BK184.out 3).trans rfl, (blk_cell BK184.out 4).trans rfl, (blk_cell BK184.out 5).trans rfl, (blk_cell BK184.out 6).trans rfl, (blk_cell BK184.out 7).trans rfl⟩ (fun hHeld => ?_)
      clear hK K
      refine norm_ (a' := ?_) ?_ ?_
      rotate_left
      · show Act.put _ (some 13) _ = _
        simp only [Act.put, List.setIfInBounds_toArray, List.set_cons_zero, List.set_cons_succ, i64_w, i32_w]
        rfl
      refine one_ (i := 11) (N := some 16) #[true, true, true, true, true, true, true, true, true, true, true, true, false, false, false, false, false, false] rfl rfl (one_of HT_.out (by kernel_rfl)) (by decide) (fun K hK => ?_)
      refine goes_ Try.func11 (by kernel_rfl) rfl #[.agg #[.int .i64 a0_0, .string a0_1, .int .i64 a0_2, .int .i64 a0_3, .int .i64 a0_4, .int .u8 a0_5, .int .i64 a0_6, .string a0_7], .agg #[.int .i64 a1_0, .string a1_1, .int .i64 a1_2, .int .i64 a1_3, .int .i64 a1_4, .int .u8 a1_5, .int .i64 a1_6, .string a1_7]] (by rfl) rfl rfl (by (try simp only [List.map_toArray, List.map_cons, List.map_nil]); first | done | rfl | (simp only [List.length_drop, List.length_take]; rfl)) ?_
      with_reducible refine (storemanref09_Compare.calls a0_0 a0_1 a0_2 a0_3 a0_4 a0_5 a0_6 a0_7 a1_0 a1_1 a1_2 a1_3 a1_4 a1_5 a1_6 a1_7 t188 _ A7.out).mono ?_
      rintro e w16 ⟨rfl, hb⟩
      refine ⟨_, rfl, ?_⟩
      have n0_ := Aside0.mk (blk_below (g := gb183) (o := .cells #[.int .i64 a0_0, .string a0_1, .int .i64 a0_2, .int .i64 a0_3, .int .i64 a0_4, .int .u8 a0_5, .int .i64 a0_6, .string a0_7] 24 (0, 0)) (by (with_reducible repeat (first | refine blk_drewN ?_ _ | refine blk_drew ?_ | refine blk_alloc ?_ _)); exact BK183.out) hb)
      have n1_ := Aside0.mk (blk_below (g := gb184) (o := .cells #[.int .i64 a1_0, .string a1_1, .int .i64 a1_2, .int .i64 a1_3, .int .i64 a1_4, .int .u8 a1_5, .int .i64 a1_6, .string a1_7] 24 (0, 0)) (by (with_reducible repeat (first | refine blk_drewN ?_ _ | refine blk_drew ?_ | refine blk_alloc ?_ _)); exact BK184.out) hb)
      have n2_ := Aside0.mk (below_step (by repeat (first | (with_reducible first | exact HB.out | apply below_alloc | apply pw_below_drewN | apply below_drew1 | refine below_set ?_ GE183.out | refine below_set ?_ GE184.out) | exact HB.out)) hb)
      clear BK183
      clear BK184
      clear HB
      have BK183 := n0_
      have BK184 := n1_
      have HB := n2_
      clear n0_ n1_ n2_
      (try clear hb)
      (try clear hb2)
      (try clear hk)
      (try clear hi)
      refine hK.out _ _ ⟨(blk_cell BK183.out 0).trans rfl, (blk_cell BK183.out 1).trans rfl, (blk_cell BK183.out 2).trans rfl, (blk_cell BK183.out 3).trans rfl, (blk_cell BK183.out 4).trans rfl, (blk_cell BK183.out 5).trans rfl, (blk_cell BK183.out 6).trans rfl, (blk_cell BK183.out 7).trans rfl, (blk_cell BK184.out 0).trans rfl, (blk_cell BK184.out 1).trans rfl, (blk_cell BK184.out 2).trans rfl, (blk_cell BK184.out 3).trans rfl, (blk_cell BK184.out 4).trans rfl, (blk_cell BK184.out 5).trans rfl, (blk_cell BK184.out 6).trans rfl, (blk_cell BK184.out 7).trans rfl⟩ (fun hHeld => ?_)
      clear hK K
      refine norm_ (a' := ?_) ?_ ?_
      rotate_left
      · show Act.put _ (some 16) _ = _
        simp only [Act.put, List.setIfInBounds_toArray, List.set_cons_zero, List.set_cons_succ, i64_w, i32_w]
        rfl
      refine pure_ (i := 12) (N := some 17) (v := ?_) (a' := ?_) #[true, true, true, true, true, true, true, true, true, true, true, true, true, false, false, false, false, false] rfl rfl (any_of HT_.out (by kernel_rfl)) (fun _ _ _ h => h) (Or.inl ⟨by rfl, ?_⟩) ?_ ?_
      rotate_left
      · intro w'
        go_simp
        with_reducible rfl
      rotate_left
      · simp only [Act.put, List.setIfInBounds_toArray, List.set_cons_zero, List.set_cons_succ, i64_w, i32_w]
        rfl
      refine pure_ (i := 13) (N := some 18) (v := ?_) (a' := ?_) #[true, true, true, true, true, true, true, true, true, true, true, true, true, true, false, false, false, false] rfl rfl (any_of HT_.out (by kernel_rfl)) (fun _ _ _ h => h) (Or.inl ⟨by rfl, ?_⟩) ?_ ?_
      rotate_left
      · intro w'
        go_simp
        with_reducible rfl
      rotate_left
      · simp only [Act.put, List.setIfInBounds_toArray, List.set_cons_zero, List.set_cons_succ, i64_w, i32_w]
        rfl
      refine pure_ (i := 14) (N := some 19) (v := ?_) (a' := ?_) #[true, true, true, true, true, true, true, true, true, true, true, true, true, true, true, false, false, false] rfl rfl (any_of HT_.out (by kernel_rfl)) (fun _ _ _ h => h) (Or.inl ⟨by rfl, ?_⟩) ?_ ?_
      rotate_left
      · intro w'
        go_simp
        with_reducible rfl
      rotate_left
      · simp only [Act.put, List.setIfInBounds_toArray, List.set_cons_zero, List.set_cons_succ, i64_w, i32_w]
        rfl
      refine one_ (i := 15) (N := some 20) #[true, true, true, true, true, true, true, true, true, true, true, true, true, true, true, true, false, false] rfl rfl (one_of HT_.out (by kernel_rfl)) (by decide) (fun K hK => ?_)
      refine goes_ Try.func12 (by kernel_rfl) rfl #[] (by rfl) rfl rfl (by (try simp only [List.map_toArray, List.map_cons, List.map_nil]); first | done | rfl | (simp only [List.length_drop, List.length_take]; rfl)) ?_
      with_reducible refine (storemanlaw09_awake.calls k  t189 _ A9.out).mono ?_
      rintro e w17 ⟨rfl, hb⟩
      refine ⟨_, rfl, ?_⟩
      have n0_ := Aside0.mk (blk_below (g := gb183) (o := .cells #[.int .i64 a0_0, .string a0_1, .int .i64 a0_2, .int .i64 a0_3, .int .i64 a0_4, .int .u8 a0_5, .int .i64 a0_6, .string a0_7] 24 (0, 0)) (by (with_reducible repeat (first | refine blk_drewN ?_ _ | refine blk_drew ?_ | refine blk_alloc ?_ _)); exact BK183.out) hb)
      have n1_ := Aside0.mk (blk_below (g := gb184) (o := .cells #[.int .i64 a1_0, .string a1_1, .int .i64 a1_2, .int .i64 a1_3, .int .i64 a1_4, .int .u8 a1_5, .int .i64 a1_6, .string a1_7] 24 (0, 0)) (by (with_reducible repeat (first | refine blk_drewN ?_ _ | refine blk_drew ?_ | refine blk_alloc ?_ _)); exact BK184.out) hb)
      have n2_ := Aside0.mk (below_step (by repeat (first | (with_reducible first | exact HB.out | apply below_alloc | apply pw_below_drewN | apply below_drew1 | refine below_set ?_ GE183.out | refine below_set ?_ GE184.out) | exact HB.out)) hb)
      clear BK183
      clear BK184
      clear HB
      have BK183 := n0_
      have BK184 := n1_
      have HB := n2_
      clear n0_ n1_ n2_
      (try clear hb)
      (try clear hb2)
      (try clear hk)
      (try clear hi)
      refine hK.out _ _ ⟨(blk_cell BK183.out 0).trans rfl, (blk_cell BK183.out 1).trans rfl, (blk_cell BK183.out 2).trans rfl, (blk_cell BK183.out 3).trans rfl, (blk_cell BK183.out 4).trans rfl, (blk_cell BK183.out 5).trans rfl, (blk_cell BK183.out 6).trans rfl, (blk_cell BK183.out 7).trans rfl, (blk_cell BK184.out 0).trans rfl, (blk_cell BK184.out 1).trans rfl, (blk_cell BK184.out 2).trans rfl, (blk_cell BK184.out 3).trans rfl, (blk_cell BK184.out 4).trans rfl, (blk_cell BK184.out 5).trans rfl, (blk_cell BK184.out 6).trans rfl, (blk_cell BK184.out 7).trans rfl⟩ (fun hHeld => ?_)
      clear hK K
      refine norm_ (a' := ?_) ?_ ?_
      rotate_left
      · show Act.put _ (some 20) _ = _
        simp only [Act.put, List.setIfInBounds_toArray, List.set_cons_zero, List.set_cons_succ, i64_w, i32_w]
        rfl
      refine pure_ (i := 16) (N := some 21) (v := ?_) (a' := ?_) #[true, true, true, true, true, true, true, true, true, true, true, true, true, true, true, true, true, false] rfl rfl (any_of HT_.out (by kernel_rfl)) (fun _ _ _ h => h) (Or.inl ⟨by rfl, ?_⟩) ?_ ?_
      rotate_left
      · intro w'
        go_simp
        with_reducible rfl
      rotate_left
      · simp only [Act.put, List.setIfInBounds_toArray, List.set_cons_zero, List.set_cons_succ, i64_w, i32_w]
        rfl
      refine pure_ (i := 17) (N := some 4) (v := ?_) (a' := ?_) #[true, true, true, true, true, true, true, true, true, true, true, true, true, true, true, true, true, true] rfl rfl (any_of HT_.out (by kernel_rfl)) (fun _ _ _ h => h) (Or.inl ⟨by rfl, ?_⟩) ?_ ?_
      rotate_left
      · intro w'
        go_simp
        with_reducible rfl
      rotate_left
      · simp only [Act.put, List.setIfInBounds_toArray, List.set_cons_zero, List.set_cons_succ, i64_w, i32_w]
        rfl
      refine done_ (done_of HT_.out (by kernel_rfl)) ?_
      try go_wp2
      go_ret
      exact ⟨by first | rfl | (simp [errW_none, errW_some] <;> rfl) | (simp [*, errW_none, errW_some] <;> rfl), by repeat (first | (with_reducible first | exact HB.out | apply below_alloc | apply pw_below_drewN | apply below_drew1 | refine below_set ?_ GE183.out | refine below_set ?_ GE184.out) | exact HB.out)⟩
    · rw [if_neg c8] at H
      have c8b0 : (t187 == t188) = false := beq_eq_false_iff_ne.mpr c8
      have c8b1 : (t187 != t188) = true := bne_iff_ne.mpr c8
      obtain rfl := Option.some.inj H
      go_enter Try.func3, Try.ntmps3
      try go_wp2_with (first | ((with_reducible refine gate_dst (N := 2) rfl ?_); refine box_event ?hg (N := 2) ?hd (cs := #[.int .i64 a0_0, .string a0_1, .int .i64 a0_2, .int .i64 a0_3, .int .i64 a0_4, .int .u8 a0_5, .int .i64 a0_6, .string a0_7]) (t := 24) ?hr ?_; (case hd => rfl); (case hg => rfl); (case hr => first | (go_simp; done) | (go_simp; rfl)); intro gb183 hg w18 hbox hb; have n0_ := Aside0.mk (below_step (by repeat (first | (with_reducible first | exact HB.out | apply below_alloc | apply pw_below_drewN | apply below_drew1) | exact HB.out)) hb); have n1_ := Aside0.mk (hbox); have n2_ := Aside0.mk ((by rw [hg]; exact (below_size (by repeat (first | (with_reducible first | exact HB.out | apply below_alloc | apply pw_below_drewN | apply below_drew1) | exact HB.out))) : w.heap.size ≤ gb183)); have n3_ := Aside0.mk ((by rw [hg]; exact (below_size (by repeat (first | (with_reducible first | exact HB.out | apply below_alloc | apply pw_below_drewN | apply below_drew1) | exact HB.out))) : w.heap.size ≤ gb183)); clear HB; have HB := n0_; have BK183 := n1_; have GW183 := n2_; have GE183 := n3_; clear n0_ n1_ n2_ n3_; clear hb hbox hg) | ((with_reducible refine gate_dst (N := 3) rfl ?_); refine box_event ?hg (N := 3) ?hd (cs := #[.int .i64 a1_0, .string a1_1, .int .i64 a1_2, .int .i64 a1_3, .int .i64 a1_4, .int .u8 a1_5, .int .i64 a1_6, .string a1_7]) (t := 24) ?hr ?_; (case hd => rfl); (case hg => rfl); (case hr => first | (go_simp; done) | (go_simp; rfl)); intro gb184 hg w19 hbox hb; have n0_ := Aside0.mk (blk_below (g := gb183) (o := .cells #[.int .i64 a0_0, .string a0_1, .int .i64 a0_2, .int .i64 a0_3, .int .i64 a0_4, .int .u8 a0_5, .int .i64 a0_6, .string a0_7] 24 (0, 0)) (by (with_reducible repeat (first | refine blk_drewN ?_ _ | refine blk_drew ?_ | refine blk_alloc ?_ _)); exact BK183.out) hb); have n1_ := Aside0.mk (below_step (by repeat (first | (with_reducible first | exact HB.out | apply below_alloc | apply pw_below_drewN | apply below_drew1 | refine below_set ?_ GE183.out) | exact HB.out)) hb); have n2_ := Aside0.mk (hbox); have n3_ := Aside0.mk ((by rw [hg]; exact (below_size (by repeat (first | (with_reducible first | exact HB.out | apply below_alloc | apply pw_below_drewN | apply below_drew1 | refine below_set ?_ GE183.out) | exact HB.out))) : w.heap.size ≤ gb184)); have n4_ := Aside0.mk ((by rw [hg]; exact (below_size (by repeat (first | (with_reducible first | exact HB.out | apply below_alloc | apply pw_below_drewN | apply below_drew1 | refine below_set ?_ GE183.out) | exact HB.out))) : w.heap.size ≤ gb184)); have n5_ := Aside0.mk ((by rw [hg]; exact Nat.ne_of_lt (blk_lt (g := gb183) (o := .cells #[.int .i64 a0_0, .string a0_1, .int .i64 a0_2, .int .i64 a0_3, .int .i64 a0_4, .int .u8 a0_5, .int .i64 a0_6, .string a0_7] 24 (0, 0)) (by (with_reducible repeat (first | refine blk_drewN ?_ _ | refine blk_drew ?_ | refine blk_alloc ?_ _)); exact BK183.out)) : gb183 ≠ gb184)); have n6_ := Aside0.mk ((by rw [hg]; exact Nat.ne_of_gt (blk_lt (g := gb183) (o := .cells #[.int .i64 a0_0, .string a0_1, .int .i64 a0_2, .int .i64 a0_3, .int .i64 a0_4, .int .u8 a0_5, .int .i64 a0_6, .string a0_7] 24 (0, 0)) (by (with_reducible repeat (first | refine blk_drewN ?_ _ | refine blk_drew ?_ | refine blk_alloc ?_ _)); exact BK183.out)) : gb184 ≠ gb183)); clear BK183; clear HB; have BK183 := n0_; have HB := n1_; have BK184 := n2_; have GW184 := n3_; have GE184 := n4_; have NB183_184 := n5_; have NB184_183 := n6_; clear n0_ n1_ n2_ n3_ n4_ n5_ n6_; clear hb hbox hg))
      have n0_ := Aside0.mk (blk_drew BK183.out)
      have n1_ := Aside0.mk (blk_drew BK184.out)
      have n2_ := Aside0.mk (below_drew1 HB.out)
      clear BK183
      clear BK184
      clear HB
      have BK183 := n0_
      have BK184 := n1_
      have HB := n2_
      clear n0_ n1_ n2_
      refine start_ (n := 18) (S := fun w' => w'.cell? ⟨gb183, 0, none⟩ = some (.int .i64 a0_0) ∧ w'.cell? ⟨gb183, 1, none⟩ = some (.string a0_1) ∧ w'.cell? ⟨gb183, 2, none⟩ = some (.int .i64 a0_2) ∧ w'.cell? ⟨gb183, 3, none⟩ = some (.int .i64 a0_3) ∧ w'.cell? ⟨gb183, 4, none⟩ = some (.int .i64 a0_4) ∧ w'.cell? ⟨gb183, 5, none⟩ = some (.int .u8 a0_5) ∧ w'.cell? ⟨gb183, 6, none⟩ = some (.int .i64 a0_6) ∧ w'.cell? ⟨gb183, 7, none⟩ = some (.string a0_7) ∧ w'.cell? ⟨gb184, 0, none⟩ = some (.int .i64 a1_0) ∧ w'.cell? ⟨gb184, 1, none⟩ = some (.string a1_1) ∧ w'.cell? ⟨gb184, 2, none⟩ = some (.int .i64 a1_2) ∧ w'.cell? ⟨gb184, 3, none⟩ = some (.int .i64 a1_3) ∧ w'.cell? ⟨gb184, 4, none⟩ = some (.int .i64 a1_4) ∧ w'.cell? ⟨gb184, 5, none⟩ = some (.int .u8 a1_5) ∧ w'.cell? ⟨gb184, 6, none⟩ = some (.int .i64 a1_6) ∧ w'.cell? ⟨gb184, 7, none⟩ = some (.string a1_7)) (ds := []) #[false, false, false, false, false, false, false, false, false, false, false, false, false, false, false, false, false, false] (by kernel_rfl) rfl rfl ⟨(blk_cell BK183.out 0).trans rfl, (blk_cell BK183.out 1).trans rfl, (blk_cell BK183.out 2).trans rfl, (blk_cell BK183.out 3).trans rfl, (blk_cell BK183.out 4).trans rfl, (blk_cell BK183.out 5).trans rfl, (blk_cell BK183.out 6).trans rfl, (blk_cell BK183.out 7).trans rfl, (blk_cell BK184.out 0).trans rfl, (blk_cell BK184.out 1).trans rfl, (blk_cell BK184.out 2).trans rfl, (blk_cell BK184.out 3).trans rfl, (blk_cell BK184.out 4).trans rfl, (blk_cell BK184.out 5).trans rfl, (blk_cell BK184.out 6).trans rfl, (blk_cell BK184.out 7).trans rfl⟩ (fun hHeld => ?_); refine with_tabW storemanlaw09_RankRights.tab1 storemanlaw09_RankRights.bits1 (fun HT_ HW_ => ?_)
      generalize w19.drew = w20 at BK183 BK184 HB hHeld ⊢
      refine take_ (i := 0) (N := some 5) (v := ?_) (a' := ?_) #[true, false, false, false, false, false, false, false, false, false, false, false, false, false, false, false, false, false] rfl rfl (take_ofW HT_.out HW_.out (by kernel_rfl)) (fun _ _ _ h => h) (Or.inl ⟨by rfl, ?_⟩) hHeld ?_ ?_
      rotate_left
      · rintro w' ⟨s0, s1, s2, s3, s4, s5, s6, s7, s8, s9, s10, s11, s12, s13, s14, s15⟩
        go_simp
        with_reducible rfl
      rotate_left
      · simp only [Act.put, List.setIfInBounds_toArray, List.set_cons_zero, List.set_cons_succ, i64_w, i32_w]
        rfl
      refine take_ (i := 2) (N := some 7) (v := ?_) (a' := ?_) #[true, false, true, false, false, false, false, false, false, false, false, false, false, false, false, false, false, false] rfl rfl (take_ofW HT_.out HW_.out (by kernel_rfl)) (fun _ _ _ h => h) (Or.inl ⟨by rfl, ?_⟩) hHeld ?_ ?_
      rotate_left
      · rintro w' ⟨s0, s1, s2, s3, s4, s5, s6, s7, s8, s9, s10, s11, s12, s13, s14, s15⟩
        go_simp
        with_reducible rfl
      rotate_left
      · simp only [Act.put, List.setIfInBounds_toArray, List.set_cons_zero, List.set_cons_succ, i64_w, i32_w]
        rfl
      refine one_ (i := 1) (N := some 6) #[true, true, true, false, false, false, false, false, false, false, false, false, false, false, false, false, false, false] rfl rfl (one_of HT_.out (by kernel_rfl)) (by decide) (fun K hK => ?_)
      refine goes_ Try.func8 (by kernel_rfl) rfl #[.agg #[.int .i64 a0_0, .string a0_1, .int .i64 a0_2, .int .i64 a0_3, .int .i64 a0_4, .int .u8 a0_5, .int .i64 a0_6, .string a0_7]] (by rfl) rfl rfl (by (try simp only [List.map_toArray, List.map_cons, List.map_nil]); first | done | rfl | (simp only [List.length_drop, List.length_take]; rfl)) ?_
      with_reducible refine (rank_Right.calls k a0_0 a0_1 a0_2 a0_3 a0_4 a0_5 a0_6 a0_7 t185 _ A3.out).mono ?_
      rintro e w21 ⟨rfl, hb⟩
      refine ⟨_, rfl, ?_⟩
      have n0_ := Aside0.mk (blk_below (g := gb183) (o := .cells #[.int .i64 a0_0, .string a0_1, .int .i64 a0_2, .int .i64 a0_3, .int .i64 a0_4, .int .u8 a0_5, .int .i64 a0_6, .string a0_7] 24 (0, 0)) (by (with_reducible repeat (first | refine blk_drewN ?_ _ | refine blk_drew ?_ | refine blk_alloc ?_ _)); exact BK183.out) hb)
      have n1_ := Aside0.mk (blk_below (g := gb184) (o := .cells #[.int .i64 a1_0, .string a1_1, .int .i64 a1_2, .int .i64 a1_3, .int .i64 a1_4, .int .u8 a1_5, .int .i64 a1_6, .string a1_7] 24 (0, 0)) (by (with_reducible repeat (first | refine blk_drewN ?_ _ | refine blk_drew ?_ | refine blk_alloc ?_ _)); exact BK184.out) hb)
      have n2_ := Aside0.mk (below_step (by repeat (first | (with_reducible first | exact HB.out | apply below_alloc | apply pw_below_drewN | apply below_drew1 | refine below_set ?_ GE183.out | refine below_set ?_ GE184.out) | exact HB.out)) hb)
      clear BK183
      clear BK184
      clear HB
      have BK183 := n0_
      have BK184 := n1_
      have HB := n2_
      clear n0_ n1_ n2_
      (try clear hb)
      (try clear hb2)
      (try clear hk)
      (try clear hi)
      refine hK.out _ _ ⟨(blk_cell BK183.out 0).trans rfl, (blk_cell BK183.out 1).trans rfl, (blk_cell BK183.out 2).trans rfl, (blk_cell BK183.out 3).trans rfl, (blk_cell BK183.out 4).trans rfl, (blk_cell BK183.out 5).trans rfl, (blk_cell BK183.out 6).trans rfl, (blk_cell BK183.out 7).trans rfl, (blk_cell BK184.out 0).trans rfl, (blk_cell BK184.out 1).trans rfl, (blk_cell BK184.out 2).trans rfl, (blk_cell BK184.out 3).trans rfl, (blk_cell BK184.out 4).trans rfl, (blk_cell BK184.out 5).trans rfl, (blk_cell BK184.out 6).trans rfl, (blk_cell BK184.out 7).trans rfl⟩ (fun hHeld => ?_)
      clear hK K
      refine norm_ (a' := ?_) ?_ ?_
      rotate_left
      · show Act.put _ (some 6) _ = _
        simp only [Act.put, List.setIfInBounds_toArray, List.set_cons_zero, List.set_cons_succ, i64_w, i32_w]
        rfl
      refine one_ (i := 3) (N := some 8) #[true, true, true, true, false, false, false, false, false, false, false, false, false, false, false, false, false, false] rfl rfl (one_of HT_.out (by kernel_rfl)) (by decide) (fun K hK => ?_)
      refine goes_ Try.func9 (by kernel_rfl) rfl #[.agg #[.int .i64 a0_0, .string a0_1, .int .i64 a0_2, .int .i64 a0_3, .int .i64 a0_4, .int .u8 a0_5, .int .i64 a0_6, .string a0_7]] (by rfl) rfl rfl (by (try simp only [List.map_toArray, List.map_cons, List.map_nil]); first | done | rfl | (simp only [List.length_drop, List.length_take]; rfl)) ?_
      with_reducible refine (storemanref09_Right.calls k a0_0 a0_1 a0_2 a0_3 a0_4 a0_5 a0_6 a0_7 t186 _ A4.out).mono ?_
      rintro e w22 ⟨rfl, hb⟩
      refine ⟨_, rfl, ?_⟩
      have n0_ := Aside0.mk (blk_below (g := gb183) (o := .cells #[.int .i64 a0_0, .string a0_1, .int .i64 a0_2, .int .i64 a0_3, .int .i64 a0_4, .int .u8 a0_5, .int .i64 a0_6, .string a0_7] 24 (0, 0)) (by (with_reducible repeat (first | refine blk_drewN ?_ _ | refine blk_drew ?_ | refine blk_alloc ?_ _)); exact BK183.out) hb)
      have n1_ := Aside0.mk (blk_below (g := gb184) (o := .cells #[.int .i64 a1_0, .string a1_1, .int .i64 a1_2, .int .i64 a1_3, .int .i64 a1_4, .int .u8 a1_5, .int .i64 a1_6, .string a1_7] 24 (0, 0)) (by (with_reducible repeat (first | refine blk_drewN ?_ _ | refine blk_drew ?_ | refine blk_alloc ?_ _)); exact BK184.out) hb)
      have n2_ := Aside0.mk (below_step (by repeat (first | (with_reducible first | exact HB.out | apply below_alloc | apply pw_below_drewN | apply below_drew1 | refine below_set ?_ GE183.out | refine below_set ?_ GE184.out) | exact HB.out)) hb)
      clear BK183
      clear BK184
      clear HB
      have BK183 := n0_
      have BK184 := n1_
      have HB := n2_
      clear n0_ n1_ n2_
      (try clear hb)
      (try clear hb2)
      (try clear hk)
      (try clear hi)
      refine hK.out _ _ ⟨(blk_cell BK183.out 0).trans rfl, (blk_cell BK183.out 1).trans rfl, (blk_cell BK183.out 2).trans rfl, (blk_cell BK183.out 3).trans rfl, (blk_cell BK183.out 4).trans rfl, (blk_cell BK183.out 5).trans rfl, (blk_cell BK183.out 6).trans rfl, (blk_cell BK183.out 7).trans rfl, (blk_cell BK184.out 0).trans rfl, (blk_cell BK184.out 1).trans rfl, (blk_cell BK184.out 2).trans rfl, (blk_cell BK184.out 3).trans rfl, (blk_cell BK184.out 4).trans rfl, (blk_cell BK184.out 5).trans rfl, (blk_cell BK184.out 6).trans rfl, (blk_cell BK184.out 7).trans rfl⟩ (fun hHeld => ?_)
      clear hK K
      refine norm_ (a' := ?_) ?_ ?_
      rotate_left
      · show Act.put _ (some 8) _ = _
        simp only [Act.put, List.setIfInBounds_toArray, List.set_cons_zero, List.set_cons_succ, i64_w, i32_w]
        rfl
      refine pure_ (i := 4) (N := some 9) (v := ?_) (a' := ?_) #[true, true, true, true, true, false, false, false, false, false, false, false, false, false, false, false, false, false] rfl rfl (any_of HT_.out (by kernel_rfl)) (fun _ _ _ h => h) (Or.inl ⟨by rfl, ?_⟩) ?_ ?_
      rotate_left
      · intro w'
        go_simp
        with_reducible rfl
      rotate_left
      · simp only [Act.put, List.setIfInBounds_toArray, List.set_cons_zero, List.set_cons_succ, i64_w, i32_w]
        rfl
      refine pure_ (i := 5) (N := some 10) (v := ?_) (a' := ?_) #[true, true, true, true, true, true, false, false, false, false, false, false, false, false, false, false, false, false] rfl rfl (any_of HT_.out (by kernel_rfl)) (fun _ _ _ h => h) (Or.inl ⟨by rfl, ?_⟩) ?_ ?_
      rotate_left
      · intro w'
        go_simp
        with_reducible rfl
      rotate_left
      · simp only [Act.put, List.setIfInBounds_toArray, List.set_cons_zero, List.set_cons_succ, i64_w, i32_w]
        rfl
      refine take_ (i := 6) (N := some 11) (v := ?_) (a' := ?_) #[true, true, true, true, true, true, true, false, false, false, false, false, false, false, false, false, false, false] rfl rfl (take_ofW HT_.out HW_.out (by kernel_rfl)) (fun _ _ _ h => h) (Or.inl ⟨by rfl, ?_⟩) hHeld ?_ ?_
      rotate_left
      · rintro w' ⟨s0, s1, s2, s3, s4, s5, s6, s7, s8, s9, s10, s11, s12, s13, s14, s15⟩
        go_simp
        with_reducible rfl
      rotate_left
      · simp only [Act.put, List.setIfInBounds_toArray, List.set_cons_zero, List.set_cons_succ, i64_w, i32_w]
        rfl
      refine take_ (i := 7) (N := some 12) (v := ?_) (a' := ?_) #[true, true, true, true, true, true, true, true, false, false, false, false, false, false, false, false, false, false] rfl rfl (take_ofW HT_.out HW_.out (by kernel_rfl)) (fun _ _ _ h => h) (Or.inl ⟨by rfl, ?_⟩) hHeld ?_ ?_
      rotate_left
      · rintro w' ⟨s0, s1, s2, s3, s4, s5, s6, s7, s8, s9, s10, s11, s12, s13, s14, s15⟩
        go_simp
        with_reducible rfl
      rotate_left
      · simp only [Act.put, List.setIfInBounds_toArray, List.set_cons_zero, List.set_cons_succ, i64_w, i32_w]
        rfl
      refine take_ (i := 9) (N := some 14) (v := ?_) (a' := ?_) #[true, true, true, true, true, true, true, true, false, true, false, false, false, false, false, false, false, false] rfl rfl (take_ofW HT_.out HW_.out (by kernel_rfl)) (fun _ _ _ h => h) (Or.inl ⟨by rfl, ?_⟩) hHeld ?_ ?_
      rotate_left
      · rintro w' ⟨s0, s1, s2, s3, s4, s5, s6, s7, s8, s9, s10, s11, s12, s13, s14, s15⟩
        go_simp
        with_reducible rfl
      rotate_left
      · simp only [Act.put, List.setIfInBounds_toArray, List.set_cons_zero, List.set_cons_succ, i64_w, i32_w]
        rfl
      refine take_ (i := 10) (N := some 15) (v := ?_) (a' := ?_) #[true, true, true, true, true, true, true, true, false, true, true, false, false, false, false, false, false, false] rfl rfl (take_ofW HT_.out HW_.out (by kernel_rfl)) (fun _ _ _ h => h) (Or.inl ⟨by rfl, ?_⟩) hHeld ?_ ?_
      rotate_left
      · rintro w' ⟨s0, s1, s2, s3, s4, s5, s6, s7, s8, s9, s10, s11, s12, s13, s14, s15⟩
        go_simp
        with_reducible rfl
      rotate_left
      · simp only [Act.put, List.setIfInBounds_toArray, List.set_cons_zero, List.set_cons_succ, i64_w, i32_w]
        rfl
      refine one_ (i := 8) (N := some 13) #[true, true, true, true, true, true, true, true, true, true, true, false, false, false, false, false, false, false] rfl rfl (one_of HT_.out (by kernel_rfl)) (by decide) (fun K hK => ?_)
      refine goes_ Try.func10 (by kernel_rfl) rfl #[.agg #[.int .i64 a0_0, .string a0_1, .int .i64 a0_2, .int .i64 a0_3, .int .i64 a0_4, .int .u8 a0_5, .int .i64 a0_6, .string a0_7], .agg #[.int .i64 a1_0, .string a1_1, .int .i64 a1_2, .int .i64 a1_3, .int .i64 a1_4, .int .u8 a1_5, .int .i64 a1_6, .string a1_7]] (by rfl) rfl rfl (by (try simp only [List.map_toArray, List.map_cons, List.map_nil]); first | done | rfl | (simp only [List.length_drop, List.length_take]; rfl)) ?_
      with_reducible refine (rank_Compare.calls k a0_0 a0_1 a0_2 a0_3 a0_4 a0_5 a0_6 a0_7 a1_0 a1_1 a1_2 a1_3 a1_4 a1_5 a1_6 a1_7 t187 _ A6.out).mono ?_
      rintro e w23 ⟨rfl, hb⟩
      refine ⟨_, rfl, ?_⟩
      have n0_ := Aside0.mk (blk_below (g := gb183) (o := .cells #[.int .i64 a0_0, .string a0_1, .int .i64 a0_2, .int .i64 a0_3, .int .i64 a0_4, .int .u8 a0_5, .int .i64 a0_6, .string a0_7] 24 (0, 0)) (by (with_reducible repeat (first | refine blk_drewN ?_ _ | refine blk_drew ?_ | refine blk_alloc ?_ _)); exact BK183.out) hb)
      have n1_ := Aside0.mk (blk_below (g := gb184) (o := .cells #[.int .i64 a1_0, .string a1_1, .int .i64 a1_2, .int .i64 a1_3, .int .i64 a1_4, .int .u8 a1_5, .int .i64 a1_6, .string a1_7] 24 (0, 0)) (by (with_reducible repeat (first | refine blk_drewN ?_ _ | refine blk_drew ?_ | refine blk_alloc ?_ _)); exact BK184.out) hb)
      have n2_ := Aside0.mk (below_step (by repeat (first | (with_reducible first | exact HB.out | apply below_alloc | apply pw_below_drewN | apply below_drew1 | refine below_set ?_ GE183.out | refine below_set ?_ GE184.out) | exact HB.out)) hb)
      clear BK183
      clear BK184
      clear HB
      have BK183 := n0_
      have BK184 := n1_
      have HB := n2_
      clear n0_ n1_ n2_
      (try clear hb)
      (try clear hb2)
      (try clear hk)
      (try clear hi)
      refine hK.out _ _ ⟨(blk_cell BK183.out 0).trans rfl, (blk_cell BK183.out 1).trans rfl, (blk_cell BK183.out 2).trans rfl, (blk_cell BK183.out 3).trans rfl, (blk_cell BK183.out 4).trans rfl, (blk_cell BK183.out 5).trans rfl, (blk_cell BK183.out 6).trans rfl, (blk_cell BK183.out 7).trans rfl, (blk_cell BK184.out 0).trans rfl, (blk_cell BK184.out 1).trans rfl, (blk_cell BK184.out 2).trans rfl, (blk_cell BK184.out 3).trans rfl, (blk_cell BK184.out 4).trans rfl, (blk_cell BK184.out 5).trans rfl, (blk_cell BK184.out 6).trans rfl, (blk_cell BK184.out 7).trans rfl⟩ (fun hHeld => ?_)
      clear hK K
      refine norm_ (a' := ?_) ?_ ?_
      rotate_left
      · show Act.put _ (some 13) _ = _
        simp only [Act.put, List.setIfInBounds_toArray, List.set_cons_zero, List.set_cons_succ, i64_w, i32_w]
        rfl
      refine one_ (i := 11) (N := some 16) #[true, true, true, true, true, true, true, true, true, true, true, true, false, false, false, false, false, false] rfl rfl (one_of HT_.out (by kernel_rfl)) (by decide) (fun K hK => ?_)
      refine goes_ Try.func11 (by kernel_rfl) rfl #[.agg #[.int .i64 a0_0, .string a0_1, .int .i64 a0_2, .int .i64 a0_3, .int .i64 a0_4, .int .u8 a0_5, .int .i64 a0_6, .string a0_7], .agg #[.int .i64 a1_0, .string a1_1, .int .i64 a1_2, .int .i64 a1_3, .int .i64 a1_4, .int .u8 a1_5, .int .i64 a1_6, .string a1_7]] (by rfl) rfl rfl (by (try simp only [List.map_toArray, List.map_cons, List.map_nil]); first | done | rfl | (simp only [List.length_drop, List.length_take]; rfl)) ?_
      with_reducible refine (storemanref09_Compare.calls a0_0 a0_1 a0_2 a0_3 a0_4 a0_5 a0_6 a0_7 a1_0 a1_1 a1_2 a1_3 a1_4 a1_5 a1_6 a1_7 t188 _ A7.out).mono ?_
      rintro e w24 ⟨rfl, hb⟩
      refine ⟨_, rfl, ?_⟩
      have n0_ := Aside0.mk (blk_below (g := gb183) (o := .cells #[.int .i64 a0_0, .string a0_1, .int .i64 a0_2, .int .i64 a0_3, .int .i64 a0_4, .int .u8 a0_5, .int .i64 a0_6, .string a0_7] 24 (0, 0)) (by (with_reducible repeat (first | refine blk_drewN ?_ _ | refine blk_drew ?_ | refine blk_alloc ?_ _)); exact BK183.out) hb)
      have n1_ := Aside0.mk (blk_below (g := gb184) (o := .cells #[.int .i64 a1_0, .string a1_1, .int .i64 a1_2, .int .i64 a1_3, .int .i64 a1_4, .int .u8 a1_5, .int .i64 a1_6, .string a1_7] 24 (0, 0)) (by (with_reducible repeat (first | refine blk_drewN ?_ _ | refine blk_drew ?_ | refine blk_alloc ?_ _)); exact BK184.out) hb)
      have n2_ := Aside0.mk (below_step (by repeat (first | (with_reducible first | exact HB.out | apply below_alloc | apply pw_below_drewN | apply below_drew1 | refine below_set ?_ GE183.out | refine below_set ?_ GE184.out) | exact HB.out)) hb)
      clear BK183
      clear BK184
      clear HB
      have BK183 := n0_
      have BK184 := n1_
      have HB := n2_
      clear n0_ n1_ n2_
      (try clear hb)
      (try clear hb2)
      (try clear hk)
      (try clear hi)
      refine hK.out _ _ ⟨(blk_cell BK183.out 0).trans rfl, (blk_cell BK183.out 1).trans rfl, (blk_cell BK183.out 2).trans rfl, (blk_cell BK183.out 3).trans rfl, (blk_cell BK183.out 4).trans rfl, (blk_cell BK183.out 5).trans rfl, (blk_cell BK183.out 6).trans rfl, (blk_cell BK183.out 7).trans rfl, (blk_cell BK184.out 0).trans rfl, (blk_cell BK184.out 1).trans rfl, (blk_cell BK184.out 2).trans rfl, (blk_cell BK184.out 3).trans rfl, (blk_cell BK184.out 4).trans rfl, (blk_cell BK184.out 5).trans rfl, (blk_cell BK184.out 6).trans rfl, (blk_cell BK184.out 7).trans rfl⟩ (fun hHeld => ?_)
      clear hK K
      refine norm_ (a' := ?_) ?_ ?_
      rotate_left
      · show Act.put _ (some 16) _ = _
        simp only [Act.put, List.setIfInBounds_toArray, List.set_cons_zero, List.set_cons_succ, i64_w, i32_w]
        rfl
      refine pure_ (i := 12) (N := some 17) (v := ?_) (a' := ?_) #[true, true, true, true, true, true, true, true, true, true, true, true, true, false, false, false, false, false] rfl rfl (any_of HT_.out (by kernel_rfl)) (fun _ _ _ h => h) (Or.inl ⟨by rfl, ?_⟩) ?_ ?_
      rotate_left
      · intro w'
        go_simp
        with_reducible rfl
      rotate_left
      · simp only [Act.put, List.setIfInBounds_toArray, List.set_cons_zero, List.set_cons_succ, i64_w, i32_w]
        rfl
      refine pure_ (i := 13) (N := some 18) (v := ?_) (a' := ?_) #[true, true, true, true, true, true, true, true, true, true, true, true, true, true, false, false, false, false] rfl rfl (any_of HT_.out (by kernel_rfl)) (fun _ _ _ h => h) (Or.inl ⟨by rfl, ?_⟩) ?_ ?_
      rotate_left
      · intro w'
        go_simp
        with_reducible rfl
      rotate_left
      · simp only [Act.put, List.setIfInBounds_toArray, List.set_cons_zero, List.set_cons_succ, i64_w, i32_w]
        rfl
      refine pure_ (i := 14) (N := some 19) (v := ?_) (a' := ?_) #[true, true, true, true, true, true, true, true, true, true, true, true, true, true, true, false, false, false] rfl rfl (any_of HT_.out (by kernel_rfl)) (fun _ _ _ h => h) (Or.inl ⟨by rfl, ?_⟩) ?_ ?_
      rotate_left
      · intro w'
        go_simp
        with_reducible rfl
      rotate_left
      · simp only [Act.put, List.setIfInBounds_toArray, List.set_cons_zero, List.set_cons_succ, i64_w, i32_w]
        rfl
      refine pure_ (i := 15) (N := some 20) (v := undef) (a' := ?_) #[true, true, true, true, true, true, true, true, true, true, true, true, true, true, true, true, false, false] rfl rfl (any_of HT_.out (by kernel_rfl)) (fun _ _ _ h => h) (Or.inr ⟨by rfl, rfl⟩) ?_ ?_
      rotate_left
      · simp only [Act.put, List.setIfInBounds_toArray, List.set_cons_zero, List.set_cons_succ, i64_w, i32_w]
        rfl
      refine pure_ (i := 16) (N := some 21) (v := ?_) (a' := ?_) #[true, true, true, true, true, true, true, true, true, true, true, true, true, true, true, true, true, false] rfl rfl (any_of HT_.out (by kernel_rfl)) (fun _ _ _ h => h) (Or.inl ⟨by rfl, ?_⟩) ?_ ?_
      rotate_left
      · intro w'
        go_simp
        with_reducible rfl
      rotate_left
      · simp only [Act.put, List.setIfInBounds_toArray, List.set_cons_zero, List.set_cons_succ, i64_w, i32_w]
        rfl
      refine pure_ (i := 17) (N := some 4) (v := ?_) (a' := ?_) #[true, true, true, true, true, true, true, true, true, true, true, true, true, true, true, true, true, true] rfl rfl (any_of HT_.out (by kernel_rfl)) (fun _ _ _ h => h) (Or.inl ⟨by rfl, ?_⟩) ?_ ?_
      rotate_left
      · intro w'
        go_simp
        with_reducible rfl
      rotate_left
      · simp only [Act.put, List.setIfInBounds_toArray, List.set_cons_zero, List.set_cons_succ, i64_w, i32_w]
        rfl
      refine done_ (done_of HT_.out (by kernel_rfl)) ?_
      try go_wp2
      go_ret
      exact ⟨by first | rfl | (simp [errW_none, errW_some] <;> rfl) | (simp [*, errW_none, errW_some] <;> rfl), by repeat (first | (with_reducible first | exact HB.out | apply below_alloc | apply pw_below_drewN | apply below_drew1 | refine below_set ?_ GE183.out | refine below_set ?_ GE184.out) | exact HB.out)⟩
  · rw [if_neg c5] at H
    have c5b0 : (t185 == t186) = false := by simpa using c5
    (try (have c5b1 : decide (t185 = t186) = false := by simpa using c5))
    (try (have c5b2 : (t185 == t186) = false := by simpa using c5))
    (try (have c5b3 : ¬ (t185 = t186) := by simpa using c5))
    clear c5
    obtain rfl := Option.some.inj H
    go_enter Try.func3, Try.ntmps3
    try go_wp2_with (first | ((with_reducible refine gate_dst (N := 2) rfl ?_); refine box_event ?hg (N := 2) ?hd (cs := #[.int .i64 a0_0, .string a0_1, .int .i64 a0_2, .int .i64 a0_3, .int .i64 a0_4, .int .u8 a0_5, .int .i64 a0_6, .string a0_7]) (t := 24) ?hr ?_; (case hd => rfl); (case hg => rfl); (case hr => first | (go_simp; done) | (go_simp; rfl)); intro gb183 hg w25 hbox hb; have n0_ := Aside0.mk (below_step (by repeat (first | (with_reducible first | exact HB.out | apply below_alloc | apply pw_below_drewN | apply below_drew1) | exact HB.out)) hb); have n1_ := Aside0.mk (hbox); have n2_ := Aside0.mk ((by rw [hg]; exact (below_size (by repeat (first | (with_reducible first | exact HB.out | apply below_alloc | apply pw_below_drewN | apply below_drew1) | exact HB.out))) : w.heap.size ≤ gb183)); have n3_ := Aside0.mk ((by rw [hg]; exact (below_size (by repeat (first | (with_reducible first | exact HB.out | apply below_alloc | apply pw_below_drewN | apply below_drew1) | exact HB.out))) : w.heap.size ≤ gb183)); clear HB; have HB := n0_; have BK183 := n1_; have GW183 := n2_; have GE183 := n3_; clear n0_ n1_ n2_ n3_; clear hb hbox hg) | ((with_reducible refine gate_dst (N := 3) rfl ?_); refine box_event ?hg (N := 3) ?hd (cs := #[.int .i64 a1_0, .string a1_1, .int .i64 a1_2, .int .i64 a1_3, .int .i64 a1_4, .int .u8 a1_5, .int .i64 a1_6, .string a1_7]) (t := 24) ?hr ?_; (case hd => rfl); (case hg => rfl); (case hr => first | (go_simp; done) | (go_simp; rfl)); intro gb184 hg w26 hbox hb; have n0_ := Aside0.mk (blk_below (g := gb183) (o := .cells #[.int .i64 a0_0, .string a0_1, .int .i64 a0_2, .int .i64 a0_3, .int .i64 a0_4, .int .u8 a0_5, .int .i64 a0_6, .string a0_7] 24 (0, 0)) (by (with_reducible repeat (first | refine blk_drewN ?_ _ | refine blk_drew ?_ | refine blk_alloc ?_ _)); exact BK183.out) hb); have n1_ := Aside0.mk (below_step (by repeat (first | (with_reducible first | exact HB.out | apply below_alloc | apply pw_below_drewN | apply below_drew1 | refine below_set ?_ GE183.out) | exact HB.out)) hb); have n2_ := Aside0.mk (hbox); have n3_ := Aside0.mk ((by rw [hg]; exact (below_size (by repeat (first | (with_reducible first | exact HB.out | apply below_alloc | apply pw_below_drewN | apply below_drew1 | refine below_set ?_ GE183.out) | exact HB.out))) : w.heap.size ≤ gb184)); have n4_ := Aside0.mk ((by rw [hg]; exact (below_size (by repeat (first | (with_reducible first | exact HB.out | apply below_alloc | apply pw_below_drewN | apply below_drew1 | refine below_set ?_ GE183.out) | exact HB.out))) : w.heap.size ≤ gb184)); have n5_ := Aside0.mk ((by rw [hg]; exact Nat.ne_of_lt (blk_lt (g := gb183) (o := .cells #[.int .i64 a0_0, .string a0_1, .int .i64 a0_2, .int .i64 a0_3, .int .i64 a0_4, .int .u8 a0_5, .int .i64 a0_6, .string a0_7] 24 (0, 0)) (by (with_reducible repeat (first | refine blk_drewN ?_ _ | refine blk_drew ?_ | refine blk_alloc ?_ _)); exact BK183.out)) : gb183 ≠ gb184)); have n6_ := Aside0.mk ((by rw [hg]; exact Nat.ne_of_gt (blk_lt (g := gb183) (o := .cells #[.int .i64 a0_0, .string a0_1, .int .i64 a0_2, .int .i64 a0_3, .int .i64 a0_4, .int .u8 a0_5, .int .i64 a0_6, .string a0_7] 24 (0, 0)) (by (with_reducible repeat (first | refine blk_drewN ?_ _ | refine blk_drew ?_ | refine blk_alloc ?_ _)); exact BK183.out)) : gb184 ≠ gb183)); clear BK183; clear HB; have BK183 := n0_; have HB := n1_; have BK184 := n2_; have GW184 := n3_; have GE184 := n4_; have NB183_184 := n5_; have NB184_183 := n6_; clear n0_ n1_ n2_ n3_ n4_ n5_ n6_; clear hb hbox hg))
    have n0_ := Aside0.mk (blk_drew BK183.out)
    have n1_ := Aside0.mk (blk_drew BK184.out)
    have n2_ := Aside0.mk (below_drew1 HB.out)
    clear BK183
    clear BK184
    clear HB
    have BK183 := n0_
    have BK184 := n1_
    have HB := n2_
    clear n0_ n1_ n2_
    refine start_ (n := 18) (S := fun w' => w'.cell? ⟨gb183, 0, none⟩ = some (.int .i64 a0_0) ∧ w'.cell? ⟨gb183, 1, none⟩ = some (.string a0_1) ∧ w'.cell? ⟨gb183, 2, none⟩ = some (.int .i64 a0_2) ∧ w'.cell? ⟨gb183, 3, none⟩ = some (.int .i64 a0_3) ∧ w'.cell? ⟨gb183, 4, none⟩ = some (.int .i64 a0_4) ∧ w'.cell? ⟨gb183, 5, none⟩ = some (.int .u8 a0_5) ∧ w'.cell? ⟨gb183, 6, none⟩ = some (.int .i64 a0_6) ∧ w'.cell? ⟨gb183, 7, none⟩ = some (.string a0_7)) (ds := []) #[false, false, false, false, false, false, false, false, false, false, false, false, false, false, false, false, false, false] (by kernel_rfl) rfl rfl ⟨(blk_cell BK183.out 0).trans rfl, (blk_cell BK183.out 1).trans rfl, (blk_cell BK183.out 2).trans rfl, (blk_cell BK183.out 3).trans rfl, (blk_cell BK183.out 4).trans rfl, (blk_cell BK183.out 5).trans rfl, (blk_cell BK183.out 6).trans rfl, (blk_cell BK183.out 7).trans rfl⟩ (fun hHeld => ?_); refine with_tabW storemanlaw09_RankRights.tab1 storemanlaw09_RankRights.bits1 (fun HT_ HW_ => ?_)
    generalize w26.drew = w27 at BK183 BK184 HB hHeld ⊢
    refine take_ (i := 0) (N := some 5) (v := ?_) (a' := ?_) #[true, false, false, false, false, false, false, false, false, false, false, false, false, false, false, false, false, false] rfl rfl (take_ofW HT_.out HW_.out (by kernel_rfl)) (fun _ _ _ h => h) (Or.inl ⟨by rfl, ?_⟩) hHeld ?_ ?_
    rotate_left
    · rintro w' ⟨s0, s1, s2, s3, s4, s5, s6, s7⟩
      go_simp
      with_reducible rfl
    rotate_left
    · simp only [Act.put, List.setIfInBounds_toArray, List.set_cons_zero, List.set_cons_succ, i64_w, i32_w]
      rfl
    refine take_ (i := 2) (N := some 7) (v := ?_) (a' := ?_) #[true, false, true, false, false, false, false, false, false, false, false, false, false, false, false, false, false, false] rfl rfl (take_ofW HT_.out HW_.out (by kernel_rfl)) (fun _ _ _ h => h) (Or.inl ⟨by rfl, ?_⟩) hHeld ?_ ?_
    rotate_left
    · rintro w' ⟨s0, s1, s2, s3, s4, s5, s6, s7⟩
      go_simp
      with_reducible rfl
    rotate_left
    · simp only [Act.put, List.setIfInBounds_toArray, List.set_cons_zero, List.set_cons_succ, i64_w, i32_w]
      rfl
    refine one_ (i := 1) (N := some 6) #[true, true, true, false, false, false, false, false, false, false, false, false, false, false, false, false, false, false] rfl rfl (one_of HT_.out (by kernel_rfl)) (by decide) (fun K hK => ?_)
    refine goes_ Try.func8 (by kernel_rfl) rfl #[.agg #[.int .i64 a0_0, .string a0_1, .int .i64 a0_2, .int .i64 a0_3, .int .i64 a0_4, .int .u8 a0_5, .int .i64 a0_6, .string a0_7]] (by rfl) rfl rfl (by (try simp only [List.map_toArray, List.map_cons, List.map_nil]); first | done | rfl | (simp only [List.length_drop, List.length_take]; rfl)) ?_
    with_reducible refine (rank_Right.calls k a0_0 a0_1 a0_2 a0_3 a0_4 a0_5 a0_6 a0_7 t185 _ A3.out).mono ?_
    rintro e w28 ⟨rfl, hb⟩
    refine ⟨_, rfl, ?_⟩
    have n0_ := Aside0.mk (blk_below (g := gb183) (o := .cells #[.int .i64 a0_0, .string a0_1, .int .i64 a0_2, .int .i64 a0_3, .int .i64 a0_4, .int .u8 a0_5, .int .i64 a0_6, .string a0_7] 24 (0, 0)) (by (with_reducible repeat (first | refine blk_drewN ?_ _ | refine blk_drew ?_ | refine blk_alloc ?_ _)); exact BK183.out) hb)
    have n1_ := Aside0.mk (blk_below (g := gb184) (o := .cells #[.int .i64 a1_0, .string a1_1, .int .i64 a1_2, .int .i64 a1_3, .int .i64 a1_4, .int .u8 a1_5, .int .i64 a1_6, .string a1_7] 24 (0, 0)) (by (with_reducible repeat (first | refine blk_drewN ?_ _ | refine blk_drew ?_ | refine blk_alloc ?_ _)); exact BK184.out) hb)
    have n2_ := Aside0.mk (below_step (by repeat (first | (with_reducible first | exact HB.out | apply below_alloc | apply pw_below_drewN | apply below_drew1 | refine below_set ?_ GE183.out | refine below_set ?_ GE184.out) | exact HB.out)) hb)
    clear BK183
    clear BK184
    clear HB
    have BK183 := n0_
    have BK184 := n1_
    have HB := n2_
    clear n0_ n1_ n2_
    (try clear hb)
    (try clear hb2)
    (try clear hk)
    (try clear hi)
    refine hK.out _ _ ⟨(blk_cell BK183.out 0).trans rfl, (blk_cell BK183.out 1).trans rfl, (blk_cell BK183.out 2).trans rfl, (blk_cell BK183.out 3).trans rfl, (blk_cell BK183.out 4).trans rfl, (blk_cell BK183.out 5).trans rfl, (blk_cell BK183.out 6).trans rfl, (blk_cell BK183.out 7).trans rfl⟩ (fun hHeld => ?_)
    clear hK K
    refine norm_ (a' := ?_) ?_ ?_
    rotate_left
    · show Act.put _ (some 6) _ = _
      simp only [Act.put, List.setIfInBounds_toArray, List.set_cons_zero, List.set_cons_succ, i64_w, i32_w]
      rfl
    refine one_ (i := 3) (N := some 8) #[true, true, true, true, false, false, false, false, false, false, false, false, false, false, false, false, false, false] rfl rfl (one_of HT_.out (by kernel_rfl)) (by decide) (fun K hK => ?_)
    refine goes_ Try.func9 (by kernel_rfl) rfl #[.agg #[.int .i64 a0_0, .string a0_1, .int .i64 a0_2, .int .i64 a0_3, .int .i64 a0_4, .int .u8 a0_5, .int .i64 a0_6, .string a0_7]] (by rfl) rfl rfl (by (try simp only [List.map_toArray, List.map_cons, List.map_nil]); first | done | rfl | (simp only [List.length_drop, List.length_take]; rfl)) ?_
    with_reducible refine (storemanref09_Right.calls k a0_0 a0_1 a0_2 a0_3 a0_4 a0_5 a0_6 a0_7 t186 _ A4.out).mono ?_
    rintro e w29 ⟨rfl, hb⟩
    refine ⟨_, rfl, ?_⟩
    have n0_ := Aside0.mk (blk_below (g := gb183) (o := .cells #[.int .i64 a0_0, .string a0_1, .int .i64 a0_2, .int .i64 a0_3, .int .i64 a0_4, .int .u8 a0_5, .int .i64 a0_6, .string a0_7] 24 (0, 0)) (by (with_reducible repeat (first | refine blk_drewN ?_ _ | refine blk_drew ?_ | refine blk_alloc ?_ _)); exact BK183.out) hb)
    have n1_ := Aside0.mk (blk_below (g := gb184) (o := .cells #[.int .i64 a1_0, .string a1_1, .int .i64 a1_2, .int .i64 a1_3, .int .i64 a1_4, .int .u8 a1_5, .int .i64 a1_6, .string a1_7] 24 (0, 0)) (by (with_reducible repeat (first | refine blk_drewN ?_ _ | refine blk_drew ?_ | refine blk_alloc ?_ _)); exact BK184.out) hb)
    have n2_ := Aside0.mk (below_step (by repeat (first | (with_reducible first | exact HB.out | apply below_alloc | apply pw_below_drewN | apply below_drew1 | refine below_set ?_ GE183.out | refine below_set ?_ GE184.out) | exact HB.out)) hb)
    clear BK183
    clear BK184
    clear HB
    have BK183 := n0_
    have BK184 := n1_
    have HB := n2_
    clear n0_ n1_ n2_
    (try clear hb)
    (try clear hb2)
    (try clear hk)
    (try clear hi)
    refine hK.out _ _ ⟨(blk_cell BK183.out 0).trans rfl, (blk_cell BK183.out 1).trans rfl, (blk_cell BK183.out 2).trans rfl, (blk_cell BK183.out 3).trans rfl, (blk_cell BK183.out 4).trans rfl, (blk_cell BK183.out 5).trans rfl, (blk_cell BK183.out 6).trans rfl, (blk_cell BK183.out 7).trans rfl⟩ (fun hHeld => ?_)
    clear hK K
    refine norm_ (a' := ?_) ?_ ?_
    rotate_left
    · show Act.put _ (some 8) _ = _
      simp only [Act.put, List.setIfInBounds_toArray, List.set_cons_zero, List.set_cons_succ, i64_w, i32_w]
      rfl
    refine pure_ (i := 4) (N := some 9) (v := ?_) (a' := ?_) #[true, true, true, true, true, false, false, false, false, false, false, false, false, false, false, false, false, false] rfl rfl (any_of HT_.out (by kernel_rfl)) (fun _ _ _ h => h) (Or.inl ⟨by rfl, ?_⟩) ?_ ?_
    rotate_left
    · intro w'
      go_simp
      with_reducible rfl
    rotate_left
    · simp only [Act.put, List.setIfInBounds_toArray, List.set_cons_zero, List.set_cons_succ, i64_w, i32_w]
      rfl
    refine pure_ (i := 5) (N := some 10) (v := ?_) (a' := ?_) #[true, true, true, true, true, true, false, false, false, false, false, false, false, false, false, false, false, false] rfl rfl (any_of HT_.out (by kernel_rfl)) (fun _ _ _ h => h) (Or.inl ⟨by rfl, ?_⟩) ?_ ?_
    rotate_left
    · intro w'
      go_simp
      with_reducible rfl
    rotate_left
    · simp only [Act.put, List.setIfInBounds_toArray, List.set_cons_zero, List.set_cons_succ, i64_w, i32_w]
      rfl
    refine pure_ (i := 6) (N := some 11) (v := undef) (a' := ?_) #[true, true, true, true, true, true, true, false, false, false, false, false, false, false, false, false, false, false] rfl rfl (any_of HT_.out (by kernel_rfl)) (fun _ _ _ h => h) (Or.inr ⟨by rfl, rfl⟩) ?_ ?_
    rotate_left
    · simp only [Act.put, List.setIfInBounds_toArray, List.set_cons_zero, List.set_cons_succ, i64_w, i32_w]
      rfl
    refine pure_ (i := 7) (N := some 12) (v := undef) (a' := ?_) #[true, true, true, true, true, true, true, true, false, false, false, false, false, false, false, false, false, false] rfl rfl (any_of HT_.out (by kernel_rfl)) (fun _ _ _ h => h) (Or.inr ⟨by rfl, rfl⟩) ?_ ?_
    rotate_left
    · simp only [Act.put, List.setIfInBounds_toArray, List.set_cons_zero, List.set_cons_succ, i64_w, i32_w]
      rfl
    refine pure_ (i := 8) (N := some 13) (v := undef) (a' := ?_) #[true, true, true, true, true, true, true, true, true, false, false, false, false, false, false, false, false, false] rfl rfl (any_of HT_.out (by kernel_rfl)) (fun _ _ _ h => h) (Or.inr ⟨by rfl, rfl⟩) ?_ ?_
    rotate_left
    · simp only [Act.put, List.setIfInBounds_toArray, List.set_cons_zero, List.set_cons_succ, i64_w, i32_w]
      rfl
    refine pure_ (i := 9) (N := some 14) (v := undef) (a' := ?_) #[true, true, true, true, true, true, true, true, true, true, false, false, false, false, false, false, false, false] rfl rfl (any_of HT_.out (by kernel_rfl)) (fun _ _ _ h => h) (Or.inr ⟨by rfl, rfl⟩) ?_ ?_
    rotate_left
    · simp only [Act.put, List.setIfInBounds_toArray, List.set_cons_zero, List.set_cons_succ, i64_w, i32_w]
      rfl
    refine pure_ (i := 10) (N := some 15) (v := undef) (a' := ?_) #[true, true, true, true, true, true, true, true, true, true, true, false, false, false, false, false, false, false] rfl rfl (any_of HT_.out (by kernel_rfl)) (fun _ _ _ h => h) (Or.inr ⟨by rfl, rfl⟩) ?_ ?_
    rotate_left
    · simp only [Act.put, List.setIfInBounds_toArray, List.set_cons_zero, List.set_cons_succ, i64_w, i32_w]
      rfl
    refine pure_ (i := 11) (N := some 16) (v := undef) (a' := ?_) #[true, true, true, true, true, true, true, true, true, true, true, true, false, false, false, false, false, false] rfl rfl (any_of HT_.out (by kernel_rfl)) (fun _ _ _ h => h) (Or.inr ⟨by rfl, rfl⟩) ?_ ?_
    rotate_left
    · simp only [Act.put, List.setIfInBounds_toArray, List.set_cons_zero, List.set_cons_succ, i64_w, i32_w]
      rfl
    refine pure_ (i := 12) (N := some 17) (v := undef) (a' := ?_) #[true, true, true, true, true, true, true, true, true, true, true, true, true, false, false, false, false, false] rfl rfl (any_of HT_.out (by kernel_rfl)) (fun _ _ _ h => h) (Or.inr ⟨by rfl, rfl⟩) ?_ ?_
    rotate_left
    · simp only [Act.put, List.setIfInBounds_toArray, List.set_cons_zero, List.set_cons_succ, i64_w, i32_w]
      rfl
    refine pure_ (i := 13) (N := some 18) (v := ?_) (a' := ?_) #[true, true, true, true, true, true, true, true, true, true, true, true, true, true, false, false, false, false] rfl rfl (any_of HT_.out (by kernel_rfl)) (fun _ _ _ h => h) (Or.inl ⟨by rfl, ?_⟩) ?_ ?_
    rotate_left
    · intro w'
      go_simp
      with_reducible rfl
    rotate_left
    · simp only [Act.put, List.setIfInBounds_toArray, List.set_cons_zero, List.set_cons_succ, i64_w, i32_w]
      rfl
    refine pure_ (i := 14) (N := some 19) (v := ?_) (a' := ?_) #[true, true, true, true, true, true, true, true, true, true, true, true, true, true, true, false, false, false] rfl rfl (any_of HT_.out (by kernel_rfl)) (fun _ _ _ h => h) (Or.inl ⟨by rfl, ?_⟩) ?_ ?_
    rotate_left
    · intro w'
      go_simp
      with_reducible rfl
    rotate_left
    · simp only [Act.put, List.setIfInBounds_toArray, List.set_cons_zero, List.set_cons_succ, i64_w, i32_w]
      rfl
    refine pure_ (i := 15) (N := some 20) (v := undef) (a' := ?_) #[true, true, true, true, true, true, true, true, true, true, true, true, true, true, true, true, false, false] rfl rfl (any_of HT_.out (by kernel_rfl)) (fun _ _ _ h => h) (Or.inr ⟨by rfl, rfl⟩) ?_ ?_
    rotate_left
    · simp only [Act.put, List.setIfInBounds_toArray, List.set_cons_zero, List.set_cons_succ, i64_w, i32_w]
      rfl
    refine pure_ (i := 16) (N := some 21) (v := ?_) (a' := ?_) #[true, true, true, true, true, true, true, true, true, true, true, true, true, true, true, true, true, false] rfl rfl (any_of HT_.out (by kernel_rfl)) (fun _ _ _ h => h) (Or.inl ⟨by rfl, ?_⟩) ?_ ?_
    rotate_left
    · intro w'
      go_simp
      with_reducible rfl
    rotate_left
    · simp only [Act.put, List.setIfInBounds_toArray, List.set_cons_zero, List.set_cons_succ, i64_w, i32_w]
      rfl
    refine pure_ (i := 17) (N := some 4) (v := ?_) (a' := ?_) #[true, true, true, true, true, true, true, true, true, true, true, true, true, true, true, true, true, true] rfl rfl (any_of HT_.out (by kernel_rfl)) (fun _ _ _ h => h) (Or.inl ⟨by rfl, ?_⟩) ?_ ?_
    rotate_left
    · intro w'
      go_simp
      with_reducible rfl
    rotate_left
    · simp only [Act.put, List.setIfInBounds_toArray, List.set_cons_zero, List.set_cons_succ, i64_w, i32_w]
      rfl
    refine done_ (done_of HT_.out (by kernel_rfl)) ?_
    try go_wp2
    go_ret
    exact ⟨by first | rfl | (simp [errW_none, errW_some] <;> rfl) | (simp [*, errW_none, errW_some] <;> rfl), by repeat (first | (with_reducible first | exact HB.out | apply below_alloc | apply pw_below_drewN | apply below_drew1 | refine below_set ?_ GE183.out | refine below_set ?_ GE184.out) | exact HB.out)⟩

end Go.Proofs.Ytokmkjgbhlcngaa.Q
namespace Go.Proofs.Ytokmkjgbhlcngaa.G
open Go.RowKit Go.ChangeShapes Go.WideShapes Go.Deep Go.Proofs.YtokmkjgbhlcngaaW.PrintWords

/-- Whatever reads at type t is a value of the kind d that meets Q. -/
def Opens (P : Program) (t : TypeId) {α : Type} (d : Kd α) (Q : α → Prop) : Prop :=
  ∀ (H : Type) (enc : TypeId × Value → H) (w : World) (base : Nat) (spare : Nat → Bool) (held : Bool) (fuel : Nat) (cs : List Value) (x : DataW H × List MemPlace),
    DataW.trod enc P w base spare held fuel t cs = some x → (x.1.weights P t).all (· ≤ reachBytes) = true → ∃ a, d.K w a cs ∧ Q a
def OpensF (P : Program) (fs : List Field) (off : Nat) {α : Type} (d : Kd α) (Q : α → Prop) : Prop :=
  ∀ (H : Type) (enc : TypeId × Value → H) (w : World) (base : Nat) (spare : Nat → Bool) (held : Bool) (fuel : Nat) (cs : List Value) (xs : List (DataW H × List MemPlace)),
    cs.length = off + d.sz → xs.length = fs.length →
    (∀ (i : Nat) (f : Field), fs[i]? = some f → DataW.trod enc P w base spare held fuel f.type ((cs.drop f.offset).take (P.cellsOf f.type)) = xs[i]?) →
    (DataW.weightsEach P (fs.map (·.type)) (xs.map (·.1))).all (· ≤ reachBytes) = true → ∃ a, d.K w a (cs.drop off) ∧ Q a

section
variable {P : Program} {t : TypeId}
theorem Opens.imp {α : Type} {d : Kd α} {Q Q' : α → Prop} (h : Opens P t d Q) (hq : ∀ a, Q a → Q' a) : Opens P t d Q' := by
  intro H enc w base spare held fuel cs x hx hw
  obtain ⟨a, ha, h1⟩ := h H enc w base spare held fuel cs x hx hw
  exact ⟨a, ha, hq a h1⟩
end
end Go.Proofs.Ytokmkjgbhlcngaa.G
namespace Go.Proofs.Ytokmkjgbhlcngaa.Q
open Go.RowKit Go.Proofs.YtokmkjgbhlcngaaW.PrintWords Go.Proofs.Ytokmkjgbhlcngaa.G
namespace SayRankRights
def Q3 (x : Int) : Prop := (Lit.int .i64 x).wf = true
def Q9 (x : ByteArray) : Prop := x.size ≤ 140737488351232
def Q2 (x : Int) : Prop := (Lit.int .i64 x).wf = true
def Q22 (x : Int) : Prop := (Lit.int .u8 x).wf = true
def Q24 (x : S24) : Prop := Q3 x.f0 ∧ Q9 x.f1 ∧ Q2 x.f2 ∧ Q3 x.f3 ∧ Q3 x.f4 ∧ Q22 x.f5 ∧ Q3 x.f6 ∧ Q9 x.f7
/-- The law's pure statement: at every input that can be read. -/
def Pure : Prop := ∀ (x0 : S24) (x1 : S24), Q24 x0 → Q24 x1 → ∃ k, storemanlaw09_RankRights.f k (x0.f0) (x0.f1) (x0.f2) (x0.f3) (x0.f4) (x0.f5) (x0.f6) (x0.f7) (x1.f0) (x1.f1) (x1.f2) (x1.f3) (x1.f4) (x1.f5) (x1.f6) (x1.f7) = some true
end SayRankRights
end Go.Proofs.Ytokmkjgbhlcngaa.Q
namespace Go.Proofs.Ytokmkjgbhlcngaa.Q
open Go.RowKit Go.Sort Go.Proofs.YtokmkjgbhlcngaaW.PrintWords Go.Proofs.YtokmkjgbhlcngaaW.PrintLast Go.Proofs.YtokmkjgbhlcngaaW.PrintMore Go.Proofs.Ytokmkjgbhlcngaa.G
set_option linter.all false

theorem right_j0 (k : Nat) (hk : 18 ≤ k) (b : Bool) (a0 : Int) (a1 : ByteArray) (a2 a3 a4 a5 a6 : Int) (a7 : ByteArray) : rank_Right.j0 k b a0 a1 a2 a3 a4 a5 a6 a7 = storemanref09_Right.j0 k b a0 a1 a2 a3 a4 a5 a6 a7 := by
  obtain ⟨k, rfl⟩ : ∃ m, k = m + 3 := ⟨k - 3, by omega⟩
  simp only [rank_Right.j0, rank_Right.j1, storemanref09_Right.j0, storemanref09_Right.j1, storemanref09_Right.j2, code_Right.f, Option.bind_some, ref03_is _ (k + 1) (by omega)]
  cases b with
  | true => simp
  | false =>
    by_cases hd : a6 = -1
    · subst hd
      by_cases h1 : a5 < 1
      · have e1 : ¬ a5 = 1 := by omega
        have e2 : ¬ a5 = 2 := by omega
        have e3 : ¬ a5 = 3 := by omega
        simp [h1, e1, e2, e3]
      · by_cases h3 : a5 > 3
        · have e1 : ¬ a5 = 1 := by omega
          have e2 : ¬ a5 = 2 := by omega
          have e3 : ¬ a5 = 3 := by omega
          simp [h1, h3, e1, e2, e3]
        · by_cases e1 : a5 = 1
          · subst e1; by_cases hc : a7.toList = [] <;> simp [hc]
          · by_cases e2 : a5 = 2
            · subst e2; by_cases hc : a7.toList = [] <;> simp [hc]
            · have e3 : a5 = 3 := by omega
              subst e3; by_cases hc : a7.toList = [] <;> simp [hc]
    · by_cases h1 : a5 < 1
      · have e1 : ¬ a5 = 1 := by omega
        have e2 : ¬ a5 = 2 := by omega
        have e3 : ¬ a5 = 3 := by omega
        by_cases p1 : a6 ≥ 0 <;> by_cases p2 : a6 ≤ 4000 <;> simp [hd, h1, e1, e2, e3, p1, p2]
      · by_cases h3 : a5 > 3
        · have e1 : ¬ a5 = 1 := by omega
          have e2 : ¬ a5 = 2 := by omega
          have e3 : ¬ a5 = 3 := by omega
          by_cases p1 : a6 ≥ 0 <;> by_cases p2 : a6 ≤ 4000 <;> simp [hd, h1, h3, e1, e2, e3, p1, p2]
        · have h4 : a5 = 1 ∨ a5 = 2 ∨ a5 = 3 := by omega
          rcases h4 with rfl | rfl | rfl <;> by_cases p1 : a6 ≥ 0 <;> by_cases p2 : a6 ≤ 4000 <;> cases hc : codeB (bytesOf a7) <;> simp [hd, p1, p2, hc]
theorem right_eq (k : Nat) (hk : 18 ≤ k) (a0 : Int) (a1 : ByteArray) (a2 a3 a4 a5 a6 : Int) (a7 : ByteArray) : storemanref09_Right.f k a0 a1 a2 a3 a4 a5 a6 a7 = rank_Right.f k a0 a1 a2 a3 a4 a5 a6 a7 := by
  unfold storemanref09_Right.f rank_Right.f code_Right.f
  simp only [ref03_is _ k (by omega), right_j0 k hk, Option.bind_some]
theorem right_j0_some (k : Nat) (hk : 18 ≤ k) (b : Bool) (a0 : Int) (a1 : ByteArray) (a2 a3 a4 a5 a6 : Int) (a7 : ByteArray) : ∃ r, rank_Right.j0 k b a0 a1 a2 a3 a4 a5 a6 a7 = some r := by
  obtain ⟨k, rfl⟩ : ∃ m, k = m + 3 := ⟨k - 3, by omega⟩
  simp only [rank_Right.j0, rank_Right.j1, code_Right.f, Option.bind_some]
  repeat' split
  all_goals exact ⟨_, rfl⟩
theorem right_some (k : Nat) (hk : 18 ≤ k) (a0 : Int) (a1 : ByteArray) (a2 a3 a4 a5 a6 : Int) (a7 : ByteArray) : ∃ r, rank_Right.f k a0 a1 a2 a3 a4 a5 a6 a7 = some r := by
  unfold rank_Right.f code_Right.f
  simp only [Option.bind_some]
  repeat' split
  all_goals first | exact right_j0_some k hk _ _ _ _ _ _ _ _ _ | exact ⟨_, rfl⟩
theorem refCmp_is (x y : S24) : storemanref09_Compare.f x.f0 x.f1 x.f2 x.f3 x.f4 x.f5 x.f6 x.f7 y.f0 y.f1 y.f2 y.f3 y.f4 y.f5 y.f6 y.f7 = some (lineCmp x y) := by
  unfold storemanref09_Compare.f lineCmp
  by_cases h1 : x.f4 < y.f4
  · rw [if_pos h1, if_pos h1]
  · rw [if_neg h1, if_neg h1]
    by_cases h2 : x.f4 > y.f4
    · rw [if_pos h2, if_pos h2]
    · rw [if_neg h2, if_neg h2]
      by_cases h3 : x.f0 < y.f0
      · rw [if_pos h3, if_pos h3]
      · rw [if_neg h3, if_neg h3]
        by_cases h4 : x.f0 > y.f0
        · rw [if_pos h4, if_pos h4]
        · rw [if_neg h4, if_neg h4]
theorem awake_is : storemanlaw09_awake.f 20 = some true := by kernel_rfl
end Go.Proofs.Ytokmkjgbhlcngaa.Q
namespace Go.Proofs.Ytokmkjgbhlcngaa.Pure
open Go.RowKit Go.Proofs.YtokmkjgbhlcngaaW.PrintWords Go.Proofs.YtokmkjgbhlcngaaW.PrintLast Go.Proofs.YtokmkjgbhlcngaaW.PrintMore Go.Proofs.Ytokmkjgbhlcngaa.G Go.Proofs.Ytokmkjgbhlcngaa.Q
end Go.Proofs.Ytokmkjgbhlcngaa.Pure
namespace Go.Proofs.Ytokmkjgbhlcngaa.Q
open Go.RowKit Go.Proofs.YtokmkjgbhlcngaaW.PrintWords Go.Proofs.YtokmkjgbhlcngaaW.PrintLast Go.Proofs.YtokmkjgbhlcngaaW.PrintMore
attribute [local go_sem] max2_int min2_int max_two min_two max_three min_three max_four min_four   -- for this text's walks alone
set_option linter.unusedVariables false
set_option linter.unusedSimpArgs false

attribute [local go_sem high] eqA24
def storemankit_SameLines.l0 : Nat → List (S24) → List (S24) → Int → Option (Bool)
  | 0, _, _, _ => none
  | k + 1, x0, x1, x5 => if x5 < (x0.length : Int) then (if 0 ≤ x5 then (if x5 < (x1.length : Int) then (if (!(((rd_T24 x0 x5).f0) == ((rd_T24 x1 x5).f0)) || (!((((rd_T24 x0 x5).f1).toList) == (((rd_T24 x1 x5).f1).toList)) || (!(((rd_T24 x0 x5).f2) == ((rd_T24 x1 x5).f2)) || (!(((rd_T24 x0 x5).f3) == ((rd_T24 x1 x5).f3)) || (!(((rd_T24 x0 x5).f4) == ((rd_T24 x1 x5).f4)) || (!(((rd_T24 x0 x5).f5) == ((rd_T24 x1 x5).f5)) || (!(((rd_T24 x0 x5).f6) == ((rd_T24 x1 x5).f6)) || (!((((rd_T24 x0 x5).f7).toList) == (((rd_T24 x1 x5).f7).toList)))))))))) = true then (some false) else (storemankit_SameLines.l0 k x0 x1 (wrap64 (x5 + 1)))) else (none)) else (none)) else (some true)
def storemankit_SameLines.f (k : Nat) (l0 : List (S24)) (l1 : List (S24)) : Option (Bool) := if (l0.length : Int) = (l1.length : Int) then (storemankit_SameLines.l0 k l0 l1 0) else (some false)
theorem storemankit_SameLines.mono_l : ∀ k, (∀ y0 y1 y2, LeO (storemankit_SameLines.l0 k y0 y1 y2) (storemankit_SameLines.l0 (k + 1) y0 y1 y2))
  | 0 => fun _ _ _ r h => by simp [storemankit_SameLines.l0] at h
  | k + 1 => by
    have ih0 := storemankit_SameLines.mono_l k
    · intro y0 y1 y2
      unfold storemankit_SameLines.l0
      repeat' first
      | (with_reducible exact ih0 _ _ _)
      | (with_reducible exact LeO.refl _)
      | (with_reducible exact LeO.none _)
      | (with_reducible refine LeO.ite ?_ ?_)
      | (with_reducible refine LeO.bind ?_ (fun _ => ?_))
      | exact ih0 _ _ _
      | exact LeO.none _
      | refine LeO.ite ?_ ?_
      | refine LeO.bind ?_ (fun _ => ?_)
theorem storemankit_SameLines.mono : ∀ a0 a1 k, LeO (storemankit_SameLines.f k a0 a1) (storemankit_SameLines.f (k + 1) a0 a1) := by
  intro a0 a1 k
  have ih0 := storemankit_SameLines.mono_l k
  unfold storemankit_SameLines.f
  repeat' first
      | (with_reducible exact ih0 _ _ _)
      | (with_reducible exact LeO.refl _)
      | (with_reducible exact LeO.none _)
      | (with_reducible refine LeO.ite ?_ ?_)
      | (with_reducible refine LeO.bind ?_ (fun _ => ?_))
      | exact ih0 _ _ _
      | exact LeO.none _
      | refine LeO.ite ?_ ?_
      | refine LeO.bind ?_ (fun _ => ?_)
set_option maxHeartbeats 8000000 in
set_option maxRecDepth 100000 in
theorem storemankit_SameLines.calls (k : Nat) (A0 : Option Addr) (c0 : Nat) (l0 : List (S24)) (A1 : Option Addr) (c1 : Nat) (l1 : List (S24)) (r : Bool) (w : World) (hr0 : Kd.C k24 w A0 l0.length l0) (hc0 : l0.length ≤ c0) (hr1 : Kd.C k24 w A1 l1.length l1) (hc1 : l1.length ≤ c1) (h : storemankit_SameLines.f k l0 l1 = some r) :
    Calls Try.prog 19 #[.slice A0 l0.length c0, .slice A1 l1.length c1] w fun e w' => e = .returned (.bool r) ∧ Drawn0 w w' := by
  have hu24 := Try.underlying24
  have HR0 := Aside0.mk hr0
  have HC0 := Aside0.mk hc0
  clear hr0 hc0
  have HR1 := Aside0.mk hr1
  have HC1 := Aside0.mk hc1
  clear hr1 hc1
  have H : (if (l0.length : Int) = (l1.length : Int) then (storemankit_SameLines.l0 k l0 l1 0) else (some false)) = some r := h
  clear h
  by_cases c3 : (l0.length : Int) = (l1.length : Int)
  · rw [if_pos c3] at H
    have c3b0 : ((l0.length : Int) == (l1.length : Int)) = true := beq_iff_eq.mpr c3
    have c3b1 : ((l0.length : Int) != (l1.length : Int)) = false := bne_eq_false_iff_eq.mpr c3
    have c3b2 : (l0.length == l1.length) = true := by first | simpa using c3 | (simp at c3 ⊢; omega)
    clear c3
    have H' := Aside0.mk H
    clear H
    go_enter Try.func19, Try.ntmps19
    go_wp2
    repeat (go_quiet (fail); try go_wp2)
    go_loopg [5] k (fun kq v5 w' => ∃ (x5_1 : Int), v5 = .int .i64 x5_1 ∧ Aside0 (storemankit_SameLines.l0 kq l0 l1 x5_1 = some r) ∧ Aside0 (kq ≤ k) ∧ Drawn0 w w')
    case atStart => exact ⟨(0), (by first | rfl | (simp; done) | (simp [*]; done)), H', ⟨Nat.le_refl _⟩, by repeat (first | exact Drawn0.refl _ | apply Drawn0.step)⟩
    case round =>
      clear H'
      try clear c1
      try clear p2
      try clear c3
      try clear c3b0
      try clear c3b1
      try clear c3b2
      obtain ⟨x5_1, rfl, HA, HK1, ⟨m1, rfl⟩⟩ := hrel
      cases gk with
      | zero => exact absurd HA.out (by simp [storemankit_SameLines.l0])
      | succ k1 =>
        have H := HA.out
        clear HA
        simp only [storemankit_SameLines.l0] at H
        by_cases c4 : x5_1 < (l0.length : Int)
        · rw [if_pos c4] at H
          have c4b0 : decide (x5_1 < (l0.length : Int)) = true := decide_eq_true c4
          clear c4
          by_cases c5 : 0 ≤ x5_1
          · rw [if_pos c5] at H
            have c5b0 : decide (0 ≤ x5_1) = true := decide_eq_true c5
            clear c5
            by_cases c6 : x5_1 < (l1.length : Int)
            · rw [if_pos c6] at H
              have c6b0 : decide (x5_1 < (l1.length : Int)) = true := decide_eq_true c6
              clear c6
              by_cases c7 : (!(((rd_T24 l0 x5_1).f0) == ((rd_T24 l1 x5_1).f0)) || (!((((rd_T24 l0 x5_1).f1).toList) == (((rd_T24 l1 x5_1).f1).toList)) || (!(((rd_T24 l0 x5_1).f2) == ((rd_T24 l1 x5_1).f2)) || (!(((rd_T24 l0 x5_1).f3) == ((rd_T24 l1 x5_1).f3)) || (!(((rd_T24 l0 x5_1).f4) == ((rd_T24 l1 x5_1).f4)) || (!(((rd_T24 l0 x5_1).f5) == ((rd_T24 l1 x5_1).f5)) || (!(((rd_T24 l0 x5_1).f6) == ((rd_T24 l1 x5_1).f6)) || (!((((rd_T24 l0 x5_1).f7).toList) == (((rd_T24 l1 x5_1).f7).toList)))))))))) = true
              · rw [if_pos c7] at H
                have c7b0 : (!(((rd_T24 l0 x5_1).f0) == ((rd_T24 l1 x5_1).f0)) || (!((((rd_T24 l0 x5_1).f1).toList) == (((rd_T24 l1 x5_1).f1).toList)) || (!(((rd_T24 l0 x5_1).f2) == ((rd_T24 l1 x5_1).f2)) || (!(((rd_T24 l0 x5_1).f3) == ((rd_T24 l1 x5_1).f3)) || (!(((rd_T24 l0 x5_1).f4) == ((rd_T24 l1 x5_1).f4)) || (!(((rd_T24 l0 x5_1).f5) == ((rd_T24 l1 x5_1).f5)) || (!(((rd_T24 l0 x5_1).f6) == ((rd_T24 l1 x5_1).f6)) || (!((((rd_T24 l0 x5_1).f7).toList) == (((rd_T24 l1 x5_1).f7).toList)))))))))) = true := c7
                clear c7
                obtain rfl := Option.some.inj H
                have p194 : 0 ≤ (x5_1 : Int) := of_decide_eq_true (by first | (with_reducible assumption) | assumption)
                have q194 : x5_1 < (l0.length : Int) := of_decide_eq_true (by first | (with_reducible assumption) | assumption)
                obtain ⟨ad194, e194, hx194_0, hx194_1, hx194_2, hx194_3, hx194_4, hx194_5, hx194_6, hx194_7⟩ := at_T24 HR0.out x5_1 p194 q194
                cases e194
                replace p194 := eq_true p194
                replace q194 := eq_true q194
                have p195 : 0 ≤ (x5_1 : Int) := of_decide_eq_true (by first | (with_reducible assumption) | assumption)
                have q195 : x5_1 < (l1.length : Int) := of_decide_eq_true (by first | (with_reducible assumption) | assumption)
                obtain ⟨ad195, e195, hx195_0, hx195_1, hx195_2, hx195_3, hx195_4, hx195_5, hx195_6, hx195_7⟩ := at_T24 HR1.out x5_1 p195 q195
                cases e195
                replace p195 := eq_true p195
                replace q195 := eq_true q195
                go_wp2
                repeat (go_quiet (fail); try go_wp2)
                go_ret
                exact ⟨by first | rfl | (simp; done) | (simp [*]; done), by repeat (first | exact Drawn0.refl _ | apply Drawn0.step)⟩
              · rw [if_neg c7] at H
                have c7b0 : (!(((rd_T24 l0 x5_1).f0) == ((rd_T24 l1 x5_1).f0)) || (!((((rd_T24 l0 x5_1).f1).toList) == (((rd_T24 l1 x5_1).f1).toList)) || (!(((rd_T24 l0 x5_1).f2) == ((rd_T24 l1 x5_1).f2)) || (!(((rd_T24 l0 x5_1).f3) == ((rd_T24 l1 x5_1).f3)) || (!(((rd_T24 l0 x5_1).f4) == ((rd_T24 l1 x5_1).f4)) || (!(((rd_T24 l0 x5_1).f5) == ((rd_T24 l1 x5_1).f5)) || (!(((rd_T24 l0 x5_1).f6) == ((rd_T24 l1 x5_1).f6)) || (!((((rd_T24 l0 x5_1).f7).toList) == (((rd_T24 l1 x5_1).f7).toList)))))))))) = false := by simpa using c7
                clear c7
                have H' := Aside0.mk H
                clear H
                have p194 : 0 ≤ (x5_1 : Int) := of_decide_eq_true (by first | (with_reducible assumption) | assumption)
                have q194 : x5_1 < (l0.length : Int) := of_decide_eq_true (by first | (with_reducible assumption) | assumption)
                obtain ⟨ad194, e194, hx194_0, hx194_1, hx194_2, hx194_3, hx194_4, hx194_5, hx194_6, hx194_7⟩ := at_T24 HR0.out x5_1 p194 q194
                cases e194
                replace p194 := eq_true p194
                replace q194 := eq_true q194
                have p195 : 0 ≤ (x5_1 : Int) := of_decide_eq_true (by first | (with_reducible assumption) | assumption)
                have q195 : x5_1 < (l1.length : Int) := of_decide_eq_true (by first | (with_reducible assumption) | assumption)
                obtain ⟨ad195, e195, hx195_0, hx195_1, hx195_2, hx195_3, hx195_4, hx195_5, hx195_6, hx195_7⟩ := at_T24 HR1.out x5_1 p195 q195
                cases e195
                replace p195 := eq_true p195
                replace q195 := eq_true q195
                go_wp2
                repeat (go_quiet (fail); try go_wp2)
                go_roundg k1
                case measure => have := HK1.out; omega
                case rel => exact ⟨(wrap64 (x5_1 + 1)), (by first | rfl | (simp; done) | (simp [*]; done)), H', ⟨by have := HK1.out; omega⟩, by repeat (first | exact Drawn0.refl _ | apply Drawn0.step)⟩
            · rw [if_neg c6] at H
              exact absurd H (by simp)
          · rw [if_neg c5] at H
            exact absurd H (by simp)
        · rw [if_neg c4] at H
          have c4b0 : decide (x5_1 < (l0.length : Int)) = false := decide_eq_false c4
          clear c4
          obtain rfl := Option.some.inj H
          go_wp2
          repeat (go_quiet (fail); try go_wp2)
          go_ret
          exact ⟨by first | rfl | (simp; done) | (simp [*]; done), by repeat (first | exact Drawn0.refl _ | apply Drawn0.step)⟩
  · rw [if_neg c3] at H
    have c3b0 : ((l0.length : Int) == (l1.length : Int)) = false := beq_eq_false_iff_ne.mpr c3
    have c3b1 : ((l0.length : Int) != (l1.length : Int)) = true := bne_iff_ne.mpr c3
    have c3b2 : (l0.length == l1.length) = false := by first | simpa using c3 | (simp at c3 ⊢; omega)
    obtain rfl := Option.some.inj H
    go_enter Try.func19, Try.ntmps19
    go_wp2
    repeat (go_quiet (fail); try go_wp2)
    go_ret
    exact ⟨by first | rfl | (simp; done) | (simp [*]; done), by repeat (first | exact Drawn0.refl _ | apply Drawn0.step)⟩

def storemankit_Pick.f (a0 : Int) (a1 : Int) : Option (Int) := if a1 < 1 then (some 0) else (if a1 = 0 then (none) else (if (Int.tmod a0 a1) < 0 then (some (wrap64 ((Int.tmod a0 a1) + a1))) else (some (Int.tmod a0 a1))))
set_option maxHeartbeats 8000000 in
set_option maxRecDepth 100000 in
theorem storemankit_Pick.calls (a0 : Int) (a1 : Int) (r : Int) (w : World) (h : storemankit_Pick.f a0 a1 = some r) :
    Calls Try.prog 26 #[.int .i64 a0, .int .i64 a1] w fun e w' => e = .returned (.int .i64 r) ∧ Drawn0 w w' := by
  have H : (if a1 < 1 then (some 0) else (if a1 = 0 then (none) else (if (Int.tmod a0 a1) < 0 then (some (wrap64 ((Int.tmod a0 a1) + a1))) else (some (Int.tmod a0 a1))))) = some r := h
  clear h
  by_cases c3 : a1 < 1
  · rw [if_pos c3] at H
    have c3b0 : decide (a1 < 1) = true := decide_eq_true c3
    clear c3
    obtain rfl := Option.some.inj H
    go_enter Try.func26, Try.ntmps26
    go_wp2
    go_ret
    exact ⟨by first | rfl | (simp; done) | (simp [*]; done), by repeat (first | exact Drawn0.refl _ | apply Drawn0.step)⟩
  · rw [if_neg c3] at H
    have c3b0 : decide (a1 < 1) = false := decide_eq_false c3
    clear c3
    by_cases c4 : a1 = 0
    · rw [if_pos c4] at H
      exact absurd H (by simp)
    · rw [if_neg c4] at H
      have c4b0 : (a1 == 0) = false := beq_eq_false_iff_ne.mpr c4
      have c4b1 : (a1 != 0) = true := bne_iff_ne.mpr c4
      by_cases c5 : (Int.tmod a0 a1) < 0
      · rw [if_pos c5] at H
        have c5b0 : decide ((Int.tmod a0 a1) < 0) = true := decide_eq_true c5
        clear c5
        obtain rfl := Option.some.inj H
        go_enter Try.func26, Try.ntmps26
        go_wp2
        go_ret
        exact ⟨by first | rfl | (simp; done) | (simp [*]; done), by repeat (first | exact Drawn0.refl _ | apply Drawn0.step)⟩
      · rw [if_neg c5] at H
        have c5b0 : decide ((Int.tmod a0 a1) < 0) = false := decide_eq_false c5
        clear c5
        obtain rfl := Option.some.inj H
        go_enter Try.func26, Try.ntmps26
        go_wp2
        go_ret
        exact ⟨by first | rfl | (simp; done) | (simp [*]; done), by repeat (first | exact Drawn0.refl _ | apply Drawn0.step)⟩

end Go.Proofs.Ytokmkjgbhlcngaa.Q
namespace Go.Proofs.Ytokmkjgbhlcngaa.Q
open Go.RowKit Go.Sort Go.Proofs.YtokmkjgbhlcngaaW.PrintWords Go.Proofs.YtokmkjgbhlcngaaW.PrintLast Go.Proofs.YtokmkjgbhlcngaaW.PrintMore Go.Proofs.Ytokmkjgbhlcngaa.G
set_option linter.all false

theorem great_l0 (l : List S24) (hl : l.length ≤ 9223372036854775807) : ∀ (d i : Nat) (x3 : Int) (k : Nat), l.length - i = d → i ≤ l.length → d < k → ∃ r, storemanlaw09_great.l0 k l x3 (i : Int) = some r
  | 0, i, x3, k, hd, hi, hk => by
    obtain ⟨k, rfl⟩ : ∃ m, k = m + 1 := ⟨k - 1, by omega⟩
    simp only [storemanlaw09_great.l0]
    rw [if_neg (by omega)]
    exact ⟨_, rfl⟩
  | d + 1, i, x3, k, hd, hi, hk => by
    obtain ⟨k, rfl⟩ : ∃ m, k = m + 1 := ⟨k - 1, by omega⟩
    simp only [storemanlaw09_great.l0]
    have hw : wrap64 ((i : Int) + 1) = ((i + 1 : Nat) : Int) := by unfold wrap64; omega
    rw [if_pos (show (i : Int) < (l.length : Int) by omega), hw]
    by_cases h4 : x3 ≤ 400
    · rw [if_pos h4, if_pos (show (0 : Int) ≤ (i : Int) by omega)]
      exact great_l0 l hl d (i + 1) _ k (by omega) (by omega) (by omega)
    · rw [if_neg h4]
      exact ⟨_, rfl⟩
theorem great_is (l : List S24) (hl : l.length ≤ 9223372036854775807) (k : Nat) (hk : l.length + 1 ≤ k) : ∃ r, storemanlaw09_great.f k l = some r ∧ (r = false → l.length ≤ 400) := by
  unfold storemanlaw09_great.f
  by_cases h : l.length ≤ 400
  · obtain ⟨r, hr⟩ := great_l0 l hl l.length 0 (l.length : Int) k (by omega) (by omega) (by omega)
    exact ⟨r, hr, fun _ => h⟩
  · obtain ⟨k, rfl⟩ : ∃ m, k = m + 1 := ⟨k - 1, by omega⟩
    simp only [storemanlaw09_great.l0]
    refine ⟨true, ?_, fun h => by cases h⟩
    rw [if_pos (by omega), if_neg (by omega), decide_eq_true (by omega)]
theorem same_l0 (l : List S24) (hl : l.length ≤ 9223372036854775807) : ∀ (d i k : Nat), l.length - i = d → i ≤ l.length → d < k → storemankit_SameLines.l0 k l l (i : Int) = some true
  | 0, i, k, hd, hi, hk => by
    obtain ⟨k, rfl⟩ : ∃ m, k = m + 1 := ⟨k - 1, by omega⟩
    simp only [storemankit_SameLines.l0]
    rw [if_neg (by omega)]
  | d + 1, i, k, hd, hi, hk => by
    obtain ⟨k, rfl⟩ : ∃ m, k = m + 1 := ⟨k - 1, by omega⟩
    simp only [storemankit_SameLines.l0]
    have hw : wrap64 ((i : Int) + 1) = ((i + 1 : Nat) : Int) := by unfold wrap64; omega
    rw [if_pos (show (i : Int) < (l.length : Int) by omega), if_pos (show (0 : Int) ≤ (i : Int) by omega), if_pos (show (i : Int) < (l.length : Int) by omega), hw, if_neg (by simp)]
    exact same_l0 l hl d (i + 1) k (by omega) (by omega) (by omega)
theorem same_is (l : List S24) (hl : l.length ≤ 9223372036854775807) (k : Nat) (hk : l.length + 1 ≤ k) : storemankit_SameLines.f k l l = some true := by
  unfold storemankit_SameLines.f
  rw [if_pos rfl]
  exact same_l0 l hl l.length 0 k (by omega) (by omega) (by omega)
def sameB (x y : S24) : Bool := (x.f0 == y.f0 && (x.f1.toList == y.f1.toList && (x.f2 == y.f2 && (x.f3 == y.f3 && (x.f4 == y.f4 && (x.f5 == y.f5 && (x.f6 == y.f6 && (x.f7.toList == y.f7.toList))))))))
def cnt (l : List S24) (y : S24) : Nat := (l.filter fun x => sameB x y).length
theorem count_l0 (l : List S24) (y : S24) (hl : l.length ≤ 9223372036854775807) : ∀ (d i n k : Nat), l.length - i = d → i ≤ l.length → n + d ≤ l.length → d < k →
    storemanlaw09_count.l0 k l (n : Int) (i : Int) y.f0 y.f1 y.f2 y.f3 y.f4 y.f5 y.f6 y.f7 = some ((n + cnt (l.drop i) y : Nat) : Int)
  | 0, i, n, k, hd, hi, hn, hk => by
    obtain ⟨k, rfl⟩ : ∃ m, k = m + 1 := ⟨k - 1, by omega⟩
    simp only [storemanlaw09_count.l0]
    rw [if_neg (by omega), List.drop_of_length_le (by omega)]
    rfl
  | d + 1, i, n, k, hd, hi, hn, hk => by
    obtain ⟨k, rfl⟩ : ∃ m, k = m + 1 := ⟨k - 1, by omega⟩
    simp only [storemanlaw09_count.l0]
    have hw : wrap64 ((i : Int) + 1) = ((i + 1 : Nat) : Int) := by unfold wrap64; omega
    have hw2 : wrap64 ((n : Int) + 1) = ((n + 1 : Nat) : Int) := by unfold wrap64; omega
    rw [if_pos (by omega), if_pos (by omega), hw, hw2]
    have hx : rd_T24 l (i : Int) = l.getD i z24 := rfl
    rw [hx, drop_next l z24 i (by omega)]
    generalize l.getD i z24 = x
    change (if sameB x y = true then _ else _) = _
    by_cases hs : sameB x y = true
    · rw [if_pos hs, count_l0 l y hl d (i + 1) (n + 1) k (by omega) (by omega) (by omega) (by omega)]
      have : cnt (x :: l.drop (i + 1)) y = cnt (l.drop (i + 1)) y + 1 := by unfold cnt; rw [List.filter_cons, if_pos hs]; rfl
      rw [this]
      congr 2
      omega
    · rw [if_neg hs, count_l0 l y hl d (i + 1) n k (by omega) (by omega) (by omega) (by omega)]
      have : cnt (x :: l.drop (i + 1)) y = cnt (l.drop (i + 1)) y := by unfold cnt; rw [List.filter_cons, if_neg hs]
      rw [this]
theorem count_is (l : List S24) (y : S24) (hl : l.length ≤ 9223372036854775807) (k : Nat) (hk : l.length + 1 ≤ k) : storemanlaw09_count.f k l y.f0 y.f1 y.f2 y.f3 y.f4 y.f5 y.f6 y.f7 = some ((cnt l y : Nat) : Int) := by
  unfold storemanlaw09_count.f
  have := count_l0 l y hl l.length 0 0 k (by omega) (by omega) (by omega) (by omega)
  simpa using this

theorem cnt_perm {l l' : List S24} (h : l.Perm l') (y : S24) : cnt l y = cnt l' y := (h.filter _).length_eq
theorem openL_id {l : List S24} (h : ∀ x ∈ l, x.f5 = 1) : openL l = l := by
  unfold openL
  rw [List.filter_eq_self]
  intro x hx
  simp [h x hx]
theorem openL_mem {l : List S24} {x : S24} (h : x ∈ openL l) : x.f5 = 1 := by
  unfold openL at h
  rw [List.mem_filter] at h
  simpa using h.2
def opens (l : List S24) : List S24 := stabl (ltOf lineCmp) (openL l)
theorem opens_mem {l : List S24} {x : S24} (h : x ∈ opens l) : x.f5 = 1 := openL_mem ((stabl_perm _ _).subset h)
theorem opens_opens (l : List S24) : opens (opens l) = opens l := by
  have h : openL (opens l) = opens l := openL_id (fun x hx => opens_mem hx)
  show stabl _ (openL (opens l)) = _
  rw [h]
  exact stabl_stabl line_swo _
theorem opens_length (l : List S24) : (opens l).length = (openL l).length := stabl_length _ _
theorem opens_le (l : List S24) : (opens l).length ≤ l.length := by rw [opens_length]; exact List.length_filter_le _ _
theorem cnt_opens (l : List S24) (y : S24) (hy : y.f5 = 1) : cnt (opens l) y = cnt l y := by
  have h1 : cnt (opens l) y = cnt (openL l) y := cnt_perm (stabl_perm _ _) y
  rw [h1]
  unfold cnt openL
  rw [List.filter_filter]
  congr 1
  apply List.filter_congr
  intro x _
  cases hs : sameB x y with
  | false => rfl
  | true =>
    have : x.f5 = 1 := by
      unfold sameB at hs
      simp only [Bool.and_eq_true, beq_iff_eq] at hs
      rw [hs.2.2.2.2.2.1]; exact hy
    simp [this]
theorem cmp_neg (x y : S24) : lineCmp y x = - lineCmp x y := by unfold lineCmp; split <;> (try split) <;> (try split) <;> (try split) <;> (try split) <;> (try split) <;> (try split) <;> (try split) <;> omega
theorem cmp_self (x : S24) : lineCmp x x = 0 := by unfold lineCmp; simp
theorem cmp_le {x y : S24} (h : ltOf lineCmp y x = false) : lineCmp x y ≤ 0 := by
  have := of_decide_eq_false h
  rw [cmp_neg x y] at this
  omega
theorem cmp_range (x y : S24) : -1 ≤ lineCmp x y ∧ lineCmp x y ≤ 1 := by unfold lineCmp; split <;> (try split) <;> (try split) <;> (try split) <;> omega
theorem cmp_trans (a b c : S24) : (!(decide (lineCmp a b ≤ 0) && decide (lineCmp b c ≤ 0)) || (decide (lineCmp a c ≤ 0) && (decide (lineCmp a c < 0) || (lineCmp a b == 0 && lineCmp b c == 0)))) = true := by
  simp only [Bool.or_eq_true, Bool.and_eq_true, Bool.not_eq_true', Bool.and_eq_false_iff, decide_eq_true_eq, decide_eq_false_iff_not, beq_iff_eq]
  unfold lineCmp
  split <;> (try split) <;> (try split) <;> (try split) <;> (try split) <;> (try split) <;> (try split) <;> (try split) <;> (try split) <;> (try split) <;> (try split) <;> (try split) <;> omega
theorem sorted_at (l : List S24) (i : Nat) (h : i + 1 < (opens l).length) : lineCmp ((opens l).getD i z24) ((opens l).getD (i + 1) z24) ≤ 0 := by
  have := List.pairwise_iff_getElem.1 (stabl_sorted line_swo (openL l)) i (i + 1) (by unfold opens at h; omega) h (by omega)
  rw [List.getD_eq_getElem?_getD, List.getD_eq_getElem?_getD, List.getElem?_eq_getElem (by omega), List.getElem?_eq_getElem h]
  exact cmp_le this
theorem cmp_lit (w : World) (x y : S24) : Calls Try.prog 10 #[.agg #[.int .i64 x.f0, .string x.f1, .int .i64 x.f2, .int .i64 x.f3, .int .i64 x.f4, .int .u8 x.f5, .int .i64 x.f6, .string x.f7], .agg #[.int .i64 y.f0, .string y.f1, .int .i64 y.f2, .int .i64 y.f3, .int .i64 y.f4, .int .u8 y.f5, .int .i64 y.f6, .string y.f7]] w fun e w' => e = .returned (.int .i64 (lineCmp x y)) ∧ RowKit.Below w.heap.size w w' := line_cmp w x y
/-- Compare, in a world of a quiet region's. -/
theorem cmp_reg (w : World) (x y : S24) (n : Nat) (os : Array Obj) : Calls Try.prog 10 #[.agg #[.int .i64 x.f0, .string x.f1, .int .i64 x.f2, .int .i64 x.f3, .int .i64 x.f4, .int .u8 x.f5, .int .i64 x.f6, .string x.f7], .agg #[.int .i64 y.f0, .string y.f1, .int .i64 y.f2, .int .i64 y.f3, .int .i64 y.f4, .int .u8 y.f5, .int .i64 y.f6, .string y.f7]] (grow (redrawn w n) os) fun e w'' => e = .returned (.int .i64 (lineCmp x y)) ∧ ∃ p : Regrown, w'' = grow (redrawn w p.d) p.os := Calls.regrown_of (line_cmp _ x y)
attribute [local irreducible] Go.Calls
set_option maxHeartbeats 4000000 in
set_option maxRecDepth 100000 in
theorem RankOrder_walk (A0 : Option Addr) (c0 : Nat) (l0 : List S24) (a b c : S24) (w : World) (hr0 : Kd.C k24 w A0 l0.length l0) (hc0 : l0.length ≤ c0) (hl : l0.length ≤ 9223372036854775807) :
    Calls Try.prog 6 #[.slice A0 l0.length c0, .agg (lineCells a), .agg (lineCells b), .agg (lineCells c)] w fun e w' => e = .returned (.bool true) ∧ RowKit.Below w.heap.size w w' := by
  obtain ⟨g, hg, hgl⟩ := great_is l0 hl (l0.length + 1) (Nat.le_refl _)
  have HR0 := Lib.hid hr0
  have HC0 := Lib.hid hc0
  have HL := Lib.hid hl
  have HG := Lib.hid hg
  have HGL := Lib.hid hgl
  have ea : lineCells a = #[.int .i64 a.f0, .string a.f1, .int .i64 a.f2, .int .i64 a.f3, .int .i64 a.f4, .int .u8 a.f5, .int .i64 a.f6, .string a.f7] := rfl
  have eb : lineCells b = #[.int .i64 b.f0, .string b.f1, .int .i64 b.f2, .int .i64 b.f3, .int .i64 b.f4, .int .u8 b.f5, .int .i64 b.f6, .string b.f7] := rfl
  have ec : lineCells c = #[.int .i64 c.f0, .string c.f1, .int .i64 c.f2, .int .i64 c.f3, .int .i64 c.f4, .int .u8 c.f5, .int .i64 c.f6, .string c.f7] := rfl
  rw [ea, eb, ec]
  clear hr0 hc0 hl hg hgl ea eb ec
  have HBa := Lib.hid (below_alloc (below_alloc (below_alloc (Below.refl w.heap.size w) (Obj.cells (lineCells a) 24)) (Obj.cells (lineCells b) 24)) (Obj.cells (lineCells c) 24))
  go_enter Try.func6, Try.ntmps6
  go_wp2_with fail
  refine (storemanlaw09_awake.calls 20 true _ awake_is).mono ?_
  rintro e w1 ⟨rfl, hb⟩
  have e1 : ∀ o, (w.alloc o).heap.size = w.heap.size + 1 := fun o => by simp
  have e2 : ∀ o o', ((w.alloc o).alloc o').heap.size = w.heap.size + 1 + 1 := fun o o' => by simp
  have hA := blk_below (blk_alloc (blk_alloc (blk_new w (Obj.cells #[.int .i64 a.f0, .string a.f1, .int .i64 a.f2, .int .i64 a.f3, .int .i64 a.f4, .int .u8 a.f5, .int .i64 a.f6, .string a.f7] 24)) _) _) hb
  have hB := blk_below (blk_alloc (blk_new (w.alloc _) (Obj.cells #[.int .i64 b.f0, .string b.f1, .int .i64 b.f2, .int .i64 b.f3, .int .i64 b.f4, .int .u8 b.f5, .int .i64 b.f6, .string b.f7] 24)) _) hb
  have hC := blk_below (blk_new ((w.alloc _).alloc _) (Obj.cells #[.int .i64 c.f0, .string c.f1, .int .i64 c.f2, .int .i64 c.f3, .int .i64 c.f4, .int .u8 c.f5, .int .i64 c.f6, .string c.f7] 24)) hb
  rw [e1] at hB
  rw [e2] at hC
  have hw := below_then HBa.out HBa.out.size hb
  have HW := Lib.hid hw
  have HR1 := Lib.hid (Kd.C_below HR0.out hw)
  have HA := Lib.hid hA
  have HB := Lib.hid hB
  have HC := Lib.hid hC
  clear hb e1 e2 hA hB hC hw HBa HR0
  go_wp2_with fail
  refine (storemanlaw09_great.calls (l0.length + 1) A0 c0 l0 g w1 HR1.out HC0.out HG.out).mono ?_
  rintro e w2 ⟨rfl, ⟨⟨n2, rfl⟩⟩⟩
  have HB2 := Lib.hid (pw_below_drewN (Below.refl w1.heap.size w1) n2)
  generalize hw2 : w1.drewN n2 = w2 at HB2 ⊢
  clear hw2 HG
  cases g with
  | true =>
    go_wp2_with fail
    go_ret
    exact ⟨rfl, below_then HW.out HW.out.size HB2.out⟩
  | false =>
    have HLEN := Lib.hid (HGL.out rfl)
    have HR2 := Lib.hid (Kd.C_below HR1.out HB2.out)
    have hop := opens_le l0
    have HOP := Lib.hid hop
    have HSTEP := Lib.hid (rank_Open.calls A0 c0 l0 (opens l0) w2 HR2.out HC0.out (by unfold rank_Open.f; rw [if_pos (by have := HLEN.out; omega)]; rfl))
    clear HGL hop
    go_wp2_with fail
    refine HSTEP.out.mono ?_
    rintro e w3 ⟨vs, rfl, hR, hb⟩
    obtain ⟨As, cs, rfl, hcs, hCs⟩ := Kd.R_reads hR
    have HB3 := Lib.hid (below_then HB2.out HB2.out.size hb)
    have HS3 := Lib.hid hCs
    have HCS := Lib.hid hcs
    clear hR hb hcs hCs HSTEP
    have HSTEP := Lib.hid (rank_Open.calls As cs (opens l0) (opens l0) w3 HS3.out HCS.out (by unfold rank_Open.f; rw [if_pos (by have := HLEN.out; have := HOP.out; omega)]; exact congrArg some (opens_opens l0)))
    go_wp2_with fail
    refine HSTEP.out.mono ?_
    rintro e w4 ⟨vt, rfl, hR, hb⟩
    obtain ⟨At, ct, rfl, hct, hCt⟩ := Kd.R_reads hR
    have HB4 := Lib.hid (below_then HB3.out HB3.out.size hb)
    have HS4 := Lib.hid (Kd.C_below HS3.out hb)
    have HSTEP2 := Lib.hid (storemankit_SameLines.calls ((opens l0).length + 1) At ct (opens l0) As cs (opens l0) true w4 hCt hct HS4.out HCS.out (same_is (opens l0) (by have := HLEN.out; have := HOP.out; omega) _ (Nat.le_refl _)))
    clear hR hb hct hCt HSTEP
    go_wp2_with fail
    refine HSTEP2.out.mono ?_
    rintro e w5 ⟨rfl, ⟨⟨n5, rfl⟩⟩⟩
    have HB5 := Lib.hid (pw_below_drewN HB4.out n5)
    have HS5 := Lib.hid (Kd.C_below HS4.out (pw_below_drewN (Below.refl w4.heap.size w4) n5))
    generalize hw5 : w4.drewN n5 = w5 at HB5 HS5 ⊢
    have HR5 := Lib.hid (Kd.C_below HR1.out HB5.out)
    have HA5 := Lib.hid (blk_below HA.out HB5.out)
    have HBB5 := Lib.hid (blk_below HB.out HB5.out)
    have HC5 := Lib.hid (blk_below HC.out HB5.out)
    have HW5 := Lib.hid (below_then HW.out HW.out.size HB5.out)
    clear hw5 HB2 HB3 HB4 HS3 HS4 HSTEP2 HR1 HA HB HC HW HR2 HB5
    go_wp2_with fail
    go_loopg [10, 11] l0.length (fun kx s10 s11 wr => ∃ i m : Nat, s10 = .int .i64 m ∧ s11 = .int .i64 i ∧ m ≤ i ∧ i ≤ 400 ∧ Hid (m = (openL (l0.take i)).length ∧ i ≤ l0.length ∧ l0.length ≤ i + kx) ∧ Hid (Below w5.heap.size w5 wr))
    case atStart => exact ⟨0, 0, rfl, rfl, Nat.le_refl _, by omega, Lib.hid ⟨rfl, Nat.zero_le _, by omega⟩, Below.refl _ _⟩
    case round =>
      obtain ⟨i, m, rfl, rfl, hmi, hi4, HI, HBr⟩ := hrel
      by_cases hi : i < l0.length
      · have hz : (i : Int) < (l0.length : Int) := by omega
        obtain ⟨ad, e, q0, q1, q2, q3, q4, q5, q6, q7⟩ := at_T24 (Kd.C_below HR5.out HBr.out) (i : Int) (by omega) (by omega)
        have hx : rd_T24 l0 (i : Int) = l0.getD i z24 := rfl
        have htk := rd_next' l0 z24 i hi
        rw [hx] at q0 q1 q2 q3 q4 q5 q6 q7
        generalize l0.getD i z24 = x at q0 q1 q2 q3 q4 q5 q6 q7 htk
        rw [Int.toNat_natCast] at q0 q1 q2 q3 q4 q5 q6 q7
        subst e
        have HTK := Lib.hid htk
        have HII := Lib.hid hi
        clear htk hx hi
        by_cases h5 : x.f5 = 1
        · have h5b : (x.f5 == 1) = true := beq_iff_eq.2 h5
          have H5 := Lib.hid h5
          clear h5
          go_wp2_with fail
          have k0 := fun n os => cell_regrown q0 n os
          have k1 := fun n os => cell_regrown q1 n os
          have k2 := fun n os => cell_regrown q2 n os
          have k3 := fun n os => cell_regrown q3 n os
          have k4 := fun n os => cell_regrown q4 n os
          have k5 := fun n os => cell_regrown q5 n os
          have k6 := fun n os => cell_regrown q6 n os
          have k7 := fun n os => cell_regrown q7 n os
          have hCl : ∀ n os, Kd.C k24 (grow (redrawn wr n) os) (some ad) l0.length l0 := fun n os => Kd.C_below (Kd.C_below HR5.out HBr.out) (below_regrown wr n os)
          have hCs : ∀ n os, Kd.C k24 (grow (redrawn wr n) os) As (opens l0).length (opens l0) := fun n os => Kd.C_below (Kd.C_below HS5.out HBr.out) (below_regrown wr n os)
          have hcL := fun n os => Calls.regrown_of (storemanlaw09_count.calls (l0.length + 1) (some ad) c0 l0 x.f0 x.f1 x.f2 x.f3 x.f4 x.f5 x.f6 x.f7 _ (grow (redrawn wr n) os) (hCl n os) HC0.out (count_is l0 x HL.out _ (Nat.le_refl _)))
          have hcS := fun n os => Calls.regrown_of (storemanlaw09_count.calls (l0.length + 1) As cs (opens l0) x.f0 x.f1 x.f2 x.f3 x.f4 x.f5 x.f6 x.f7 _ (grow (redrawn wr n) os) (hCs n os) HCS.out (count_is (opens l0) x (by have := HOP.out; have := HL.out; omega) _ (by have := HOP.out; omega)))
          rw [cnt_opens l0 x H5.out] at hcS
          generalize cnt l0 x = q at hcL hcS
          clear q0 q1 q2 q3 q4 q5 q6 q7 hCl hCs
          refine wp_region_quiet_below (by kernel_rfl) (by kernel_rfl) ?_
          repeat (quiet_step (first | (go_at_call 25; first | (with_reducible exact hcS _ _) | (with_reducible exact hcL _ _))))
          refine wpQuiet_nil ?_
          intro _ hw'
          obtain ⟨⟨nq, osq⟩, hw''⟩ := hw'
          subst hw''
          have HBq := Lib.hid (below_then HBr.out HBr.out.size (below_regrown wr nq osq))
          generalize grow (redrawn wr nq) osq = wq at HBq ⊢
          clear k0 k1 k2 k3 k4 k5 k6 k7 hcL hcS
          go_wp2_with fail
          go_roundg (gk - 1)
          case measure => have := HI.out; have := HII.out; omega
          case rel =>
            refine ⟨i + 1, m + 1, by go_num, by go_num, by omega, by have := HII.out; have := HLEN.out; omega, Lib.hid ⟨?_, by have := HII.out; omega, by have := HI.out; have := HII.out; omega⟩, HBq⟩
            rw [HTK.out, HI.out.1]
            unfold openL
            rw [List.filter_append, List.length_append, List.filter_cons, if_pos (by rw [H5.out]; rfl)]
            rfl
        · have h5b : (x.f5 == 1) = false := beq_eq_false_iff_ne.2 h5
          have H5 := Lib.hid h5
          clear h5
          go_wp2_with fail
          go_roundg (gk - 1)
          case measure => have := HI.out; have := HII.out; omega
          case rel =>
            refine ⟨i + 1, m, rfl, by go_num, by omega, by have := HII.out; have := HLEN.out; omega, Lib.hid ⟨?_, by have := HII.out; omega, by have := HI.out; have := HII.out; omega⟩, HBr⟩
            rw [HTK.out, HI.out.1]
            unfold openL
            rw [List.filter_append, List.length_append, List.filter_cons, if_neg (by simpa using H5.out)]
            rfl
      · have hz : ¬ (i : Int) < (l0.length : Int) := by omega
        have HM : Hid (m = (opens l0).length) := (show _ = _ from by rw [opens_length, HI.out.1, List.take_of_length_le (by omega)])
        clear hi
        go_wp2_with fail
        go_loopg [12] (opens l0).length (fun kx s12 wr => ∃ i : Nat, s12 = .int .i64 i ∧ i ≤ 400 ∧ Hid (i ≤ (opens l0).length ∧ (opens l0).length ≤ i + kx) ∧ Hid (Below w5.heap.size w5 wr))
        case atStart => exact ⟨0, rfl, by omega, Lib.hid ⟨Nat.zero_le _, by omega⟩, HBr⟩
        case round =>
          clear HBr HI hz
          obtain ⟨j, rfl, hj4, HJ, HBr⟩ := hrel
          by_cases hj : j < (opens l0).length
          · have hz : (j : Int) < ((opens l0).length : Int) := by omega
            obtain ⟨ad, e, q0, q1, q2, q3, q4, q5, q6, q7⟩ := at_T24 (Kd.C_below HS5.out HBr.out) (j : Int) (by omega) (by omega)
            have hx : rd_T24 (opens l0) (j : Int) = (opens l0).getD j z24 := rfl
            have h5 : ((opens l0).getD j z24).f5 = 1 := opens_mem (l := l0) (by rw [List.getD_eq_getElem?_getD, List.getElem?_eq_getElem hj]; exact List.getElem_mem hj)
            have hso := sorted_at l0 (j - 1)
            subst e
            have HJJ := Lib.hid hj
            rw [hx] at q0 q1 q2 q3 q4 q5 q6 q7
            rw [Int.toNat_natCast] at q0 q1 q2 q3 q4 q5 q6 q7
            by_cases hj0 : j = 0
            · have hj0z : ¬ (0 : Int) < (j : Int) := by omega
              have hj0n : ¬ 0 < j := by omega
              have hj0b : decide (0 < j) = false := decide_eq_false hj0n
              have h5b : (((opens l0).getD j z24).f5 != 1) = false := by rw [h5]; rfl
              clear h5 hso hx hj hj0
              generalize (opens l0).getD j z24 = x at q0 q1 q2 q3 q4 q5 q6 q7 h5b
              have k0 := fun n os => cell_regrown q0 n os
              have k1 := fun n os => cell_regrown q1 n os
              have k2 := fun n os => cell_regrown q2 n os
              have k3 := fun n os => cell_regrown q3 n os
              have k4 := fun n os => cell_regrown q4 n os
              have k5 := fun n os => cell_regrown q5 n os
              have k6 := fun n os => cell_regrown q6 n os
              have k7 := fun n os => cell_regrown q7 n os
              clear q0 q1 q2 q3 q4 q5 q6 q7
              go_wp2_with fail
              refine wp_region_quiet_below (by kernel_rfl) (by kernel_rfl) ?_
              repeat (first | go_big_quiet_step (fail) | quiet_step (fail))
              refine wpQuiet_nil ?_
              intro _ hw'
              obtain ⟨⟨nq, osq⟩, hw''⟩ := hw'
              subst hw''
              have HBq := Lib.hid (below_then HBr.out HBr.out.size (below_regrown wr nq osq))
              generalize grow (redrawn wr nq) osq = wq at HBq ⊢
              clear k0 k1 k2 k3 k4 k5 k6 k7
              go_wp2_with fail
              go_roundg (gk - 1)
              case measure => have := HJ.out; have := HJJ.out; omega
              case rel => exact ⟨j + 1, by go_num, by have := HJJ.out; have := HOP.out; have := HLEN.out; omega, Lib.hid ⟨by have := HJJ.out; omega, by have := HJ.out; have := HJJ.out; omega⟩, HBq⟩
            · obtain ⟨t, rfl⟩ : ∃ t, j = t + 1 := ⟨j - 1, by omega⟩
              have hj0z : (0 : Int) < (t : Int) + 1 := by omega
              have htz : (t : Int) < ((opens l0).length : Int) := by omega
              have hso' := hso (by omega)
              rw [Nat.add_sub_cancel] at hso'
              obtain ⟨ad', e', p0, p1, p2, p3, p4, p5, p6, p7⟩ := at_T24 (Kd.C_below HS5.out HBr.out) (t : Int) (by omega) (by omega)
              obtain rfl : ad = ad' := Option.some.inj e'
              have hx' : rd_T24 (opens l0) (t : Int) = (opens l0).getD t z24 := rfl
              rw [hx'] at p0 p1 p2 p3 p4 p5 p6 p7
              rw [Int.toNat_natCast] at p0 p1 p2 p3 p4 p5 p6 p7
              have h5b : (((opens l0).getD (t + 1) z24).f5 != 1) = false := by rw [h5]; rfl
              clear h5 hso hx hj hj0 hx' e'
              generalize (opens l0).getD (t + 1) z24 = x at q0 q1 q2 q3 q4 q5 q6 q7 h5b hso'
              generalize (opens l0).getD t z24 = y at p0 p1 p2 p3 p4 p5 p6 p7 hso'
              have k0 := fun n os => cell_regrown q0 n os
              have k1 := fun n os => cell_regrown q1 n os
              have k2 := fun n os => cell_regrown q2 n os
              have k3 := fun n os => cell_regrown q3 n os
              have k4 := fun n os => cell_regrown q4 n os
              have k5 := fun n os => cell_regrown q5 n os
              have k6 := fun n os => cell_regrown q6 n os
              have k7 := fun n os => cell_regrown q7 n os
              have k_0 := fun n os => cell_regrown p0 n os
              have k_1 := fun n os => cell_regrown p1 n os
              have k_2 := fun n os => cell_regrown p2 n os
              have k_3 := fun n os => cell_regrown p3 n os
              have k_4 := fun n os => cell_regrown p4 n os
              have k_5 := fun n os => cell_regrown p5 n os
              have k_6 := fun n os => cell_regrown p6 n os
              have k_7 := fun n os => cell_regrown p7 n os
              have hcmp := fun n os => cmp_reg wr y x n os
              have hcz : ¬ lineCmp y x > 0 := by omega
              have hcb : decide (lineCmp y x > 0) = false := decide_eq_false hcz
              generalize lineCmp y x = q at hcmp hcz hcb
              clear q0 q1 q2 q3 q4 q5 q6 q7 p0 p1 p2 p3 p4 p5 p6 p7 hso'
              go_wp2_with fail
              refine wp_region_quiet_below (by kernel_rfl) (by kernel_rfl) ?_
              repeat (first | go_big_quiet_step ((go_at_call 10; (with_reducible exact hcmp _ _))) | quiet_step ((go_at_call 10; (with_reducible exact hcmp _ _))))
              refine wpQuiet_nil ?_
              intro _ hw'
              obtain ⟨⟨nq, osq⟩, hw''⟩ := hw'
              subst hw''
              have HBq := Lib.hid (below_then HBr.out HBr.out.size (below_regrown wr nq osq))
              generalize grow (redrawn wr nq) osq = wq at HBq ⊢
              clear k0 k1 k2 k3 k4 k5 k6 k7 k_0 k_1 k_2 k_3 k_4 k_5 k_6 k_7 hcmp
              go_wp2_with fail
              go_roundg (gk - 1)
              case measure => have := HJ.out; have := HJJ.out; omega
              case rel => exact ⟨t + 1 + 1, by go_num, by have := HJJ.out; have := HOP.out; have := HLEN.out; omega, Lib.hid ⟨by have := HJJ.out; omega, by have := HJ.out; have := HJJ.out; omega⟩, HBq⟩
          · have hz : ¬ (j : Int) < ((opens l0).length : Int) := by omega
            clear hj
            go_wp2_with fail
            have a_0 : ∀ n os, (grow (redrawn wr n) os).cell? ⟨w.heap.size, 0, none⟩ = some (.int .i64 a.f0) := fun n os => cell_regrown ((blk_cell (blk_below HA5.out HBr.out) 0).trans rfl) n os
            have a_1 : ∀ n os, (grow (redrawn wr n) os).cell? ⟨w.heap.size, 1, none⟩ = some (.string a.f1) := fun n os => cell_regrown ((blk_cell (blk_below HA5.out HBr.out) 1).trans rfl) n os
            have a_2 : ∀ n os, (grow (redrawn wr n) os).cell? ⟨w.heap.size, 2, none⟩ = some (.int .i64 a.f2) := fun n os => cell_regrown ((blk_cell (blk_below HA5.out HBr.out) 2).trans rfl) n os
            have a_3 : ∀ n os, (grow (redrawn wr n) os).cell? ⟨w.heap.size, 3, none⟩ = some (.int .i64 a.f3) := fun n os => cell_regrown ((blk_cell (blk_below HA5.out HBr.out) 3).trans rfl) n os
            have a_4 : ∀ n os, (grow (redrawn wr n) os).cell? ⟨w.heap.size, 4, none⟩ = some (.int .i64 a.f4) := fun n os => cell_regrown ((blk_cell (blk_below HA5.out HBr.out) 4).trans rfl) n os
            have a_5 : ∀ n os, (grow (redrawn wr n) os).cell? ⟨w.heap.size, 5, none⟩ = some (.int .u8 a.f5) := fun n os => cell_regrown ((blk_cell (blk_below HA5.out HBr.out) 5).trans rfl) n os
            have a_6 : ∀ n os, (grow (redrawn wr n) os).cell? ⟨w.heap.size, 6, none⟩ = some (.int .i64 a.f6) := fun n os => cell_regrown ((blk_cell (blk_below HA5.out HBr.out) 6).trans rfl) n os
            have a_7 : ∀ n os, (grow (redrawn wr n) os).cell? ⟨w.heap.size, 7, none⟩ = some (.string a.f7) := fun n os => cell_regrown ((blk_cell (blk_below HA5.out HBr.out) 7).trans rfl) n os
            have b_0 : ∀ n os, (grow (redrawn wr n) os).cell? ⟨w.heap.size + 1, 0, none⟩ = some (.int .i64 b.f0) := fun n os => cell_regrown ((blk_cell (blk_below HBB5.out HBr.out) 0).trans rfl) n os
            have b_1 : ∀ n os, (grow (redrawn wr n) os).cell? ⟨w.heap.size + 1, 1, none⟩ = some (.string b.f1) := fun n os => cell_regrown ((blk_cell (blk_below HBB5.out HBr.out) 1).trans rfl) n os
            have b_2 : ∀ n os, (grow (redrawn wr n) os).cell? ⟨w.heap.size + 1, 2, none⟩ = some (.int .i64 b.f2) := fun n os => cell_regrown ((blk_cell (blk_below HBB5.out HBr.out) 2).trans rfl) n os
            have b_3 : ∀ n os, (grow (redrawn wr n) os).cell? ⟨w.heap.size + 1, 3, none⟩ = some (.int .i64 b.f3) := fun n os => cell_regrown ((blk_cell (blk_below HBB5.out HBr.out) 3).trans rfl) n os
            have b_4 : ∀ n os, (grow (redrawn wr n) os).cell? ⟨w.heap.size + 1, 4, none⟩ = some (.int .i64 b.f4) := fun n os => cell_regrown ((blk_cell (blk_below HBB5.out HBr.out) 4).trans rfl) n os
            have b_5 : ∀ n os, (grow (redrawn wr n) os).cell? ⟨w.heap.size + 1, 5, none⟩ = some (.int .u8 b.f5) := fun n os => cell_regrown ((blk_cell (blk_below HBB5.out HBr.out) 5).trans rfl) n os
            have b_6 : ∀ n os, (grow (redrawn wr n) os).cell? ⟨w.heap.size + 1, 6, none⟩ = some (.int .i64 b.f6) := fun n os => cell_regrown ((blk_cell (blk_below HBB5.out HBr.out) 6).trans rfl) n os
            have b_7 : ∀ n os, (grow (redrawn wr n) os).cell? ⟨w.heap.size + 1, 7, none⟩ = some (.string b.f7) := fun n os => cell_regrown ((blk_cell (blk_below HBB5.out HBr.out) 7).trans rfl) n os
            have c_0 : ∀ n os, (grow (redrawn wr n) os).cell? ⟨w.heap.size + 1 + 1, 0, none⟩ = some (.int .i64 c.f0) := fun n os => cell_regrown ((blk_cell (blk_below HC5.out HBr.out) 0).trans rfl) n os
            have c_1 : ∀ n os, (grow (redrawn wr n) os).cell? ⟨w.heap.size + 1 + 1, 1, none⟩ = some (.string c.f1) := fun n os => cell_regrown ((blk_cell (blk_below HC5.out HBr.out) 1).trans rfl) n os
            have c_2 : ∀ n os, (grow (redrawn wr n) os).cell? ⟨w.heap.size + 1 + 1, 2, none⟩ = some (.int .i64 c.f2) := fun n os => cell_regrown ((blk_cell (blk_below HC5.out HBr.out) 2).trans rfl) n os
            have c_3 : ∀ n os, (grow (redrawn wr n) os).cell? ⟨w.heap.size + 1 + 1, 3, none⟩ = some (.int .i64 c.f3) := fun n os => cell_regrown ((blk_cell (blk_below HC5.out HBr.out) 3).trans rfl) n os
            have c_4 : ∀ n os, (grow (redrawn wr n) os).cell? ⟨w.heap.size + 1 + 1, 4, none⟩ = some (.int .i64 c.f4) := fun n os => cell_regrown ((blk_cell (blk_below HC5.out HBr.out) 4).trans rfl) n os
            have c_5 : ∀ n os, (grow (redrawn wr n) os).cell? ⟨w.heap.size + 1 + 1, 5, none⟩ = some (.int .u8 c.f5) := fun n os => cell_regrown ((blk_cell (blk_below HC5.out HBr.out) 5).trans rfl) n os
            have c_6 : ∀ n os, (grow (redrawn wr n) os).cell? ⟨w.heap.size + 1 + 1, 6, none⟩ = some (.int .i64 c.f6) := fun n os => cell_regrown ((blk_cell (blk_below HC5.out HBr.out) 6).trans rfl) n os
            have c_7 : ∀ n os, (grow (redrawn wr n) os).cell? ⟨w.heap.size + 1 + 1, 7, none⟩ = some (.string c.f7) := fun n os => cell_regrown ((blk_cell (blk_below HC5.out HBr.out) 7).trans rfl) n os
            have hab := fun n os => cmp_reg wr a b n os
            have hbc := fun n os => cmp_reg wr b c n os
            have hac := fun n os => cmp_reg wr a c n os
            have hT := Lib.hid (cmp_trans a b c)
            have hX := cmp_range a b
            have hY := cmp_range b c
            have hZ := cmp_range a c
            have HBA := Lib.hid (cmp_neg a b)
            generalize lineCmp a b = X at hab hT hX HBA
            generalize lineCmp b c = Y at hbc hT hY
            generalize lineCmp a c = Z at hac hT hZ
            refine wp_region_quiet_below (by kernel_rfl) (by kernel_rfl) ?_
            repeat (first | go_big_quiet_step ((go_at_call 10; first | (with_reducible exact hab _ _) | (with_reducible exact hbc _ _) | (with_reducible exact hac _ _))) | quiet_step ((go_at_call 10; first | (with_reducible exact hab _ _) | (with_reducible exact hbc _ _) | (with_reducible exact hac _ _))))
            refine wpQuiet_nil ?_
            intro _ hw'
            obtain ⟨⟨nq, osq⟩, hw''⟩ := hw'
            subst hw''
            have HBq := Lib.hid (below_then HBr.out HBr.out.size (below_regrown wr nq osq))
            generalize grow (redrawn wr nq) osq = wq at HBq ⊢
            clear hab hbc hac a_0 a_1 a_2 a_3 a_4 a_5 a_6 a_7 b_0 b_1 b_2 b_3 b_4 b_5 b_6 b_7 c_0 c_1 c_2 c_3 c_4 c_5 c_6 c_7
            have a_0 : wq.cell? ⟨w.heap.size, 0, none⟩ = some (.int .i64 a.f0) := (blk_cell (blk_below HA5.out HBq.out) 0).trans rfl
            have a_1 : wq.cell? ⟨w.heap.size, 1, none⟩ = some (.string a.f1) := (blk_cell (blk_below HA5.out HBq.out) 1).trans rfl
            have a_2 : wq.cell? ⟨w.heap.size, 2, none⟩ = some (.int .i64 a.f2) := (blk_cell (blk_below HA5.out HBq.out) 2).trans rfl
            have a_3 : wq.cell? ⟨w.heap.size, 3, none⟩ = some (.int .i64 a.f3) := (blk_cell (blk_below HA5.out HBq.out) 3).trans rfl
            have a_4 : wq.cell? ⟨w.heap.size, 4, none⟩ = some (.int .i64 a.f4) := (blk_cell (blk_below HA5.out HBq.out) 4).trans rfl
            have a_5 : wq.cell? ⟨w.heap.size, 5, none⟩ = some (.int .u8 a.f5) := (blk_cell (blk_below HA5.out HBq.out) 5).trans rfl
            have a_6 : wq.cell? ⟨w.heap.size, 6, none⟩ = some (.int .i64 a.f6) := (blk_cell (blk_below HA5.out HBq.out) 6).trans rfl
            have a_7 : wq.cell? ⟨w.heap.size, 7, none⟩ = some (.string a.f7) := (blk_cell (blk_below HA5.out HBq.out) 7).trans rfl
            have b_0 : wq.cell? ⟨w.heap.size + 1, 0, none⟩ = some (.int .i64 b.f0) := (blk_cell (blk_below HBB5.out HBq.out) 0).trans rfl
            have b_1 : wq.cell? ⟨w.heap.size + 1, 1, none⟩ = some (.string b.f1) := (blk_cell (blk_below HBB5.out HBq.out) 1).trans rfl
            have b_2 : wq.cell? ⟨w.heap.size + 1, 2, none⟩ = some (.int .i64 b.f2) := (blk_cell (blk_below HBB5.out HBq.out) 2).trans rfl
            have b_3 : wq.cell? ⟨w.heap.size + 1, 3, none⟩ = some (.int .i64 b.f3) := (blk_cell (blk_below HBB5.out HBq.out) 3).trans rfl
            have b_4 : wq.cell? ⟨w.heap.size + 1, 4, none⟩ = some (.int .i64 b.f4) := (blk_cell (blk_below HBB5.out HBq.out) 4).trans rfl
            have b_5 : wq.cell? ⟨w.heap.size + 1, 5, none⟩ = some (.int .u8 b.f5) := (blk_cell (blk_below HBB5.out HBq.out) 5).trans rfl
            have b_6 : wq.cell? ⟨w.heap.size + 1, 6, none⟩ = some (.int .i64 b.f6) := (blk_cell (blk_below HBB5.out HBq.out) 6).trans rfl
            have b_7 : wq.cell? ⟨w.heap.size + 1, 7, none⟩ = some (.string b.f7) := (blk_cell (blk_below HBB5.out HBq.out) 7).trans rfl
            have hX' : X = -1 ∨ X = 0 ∨ X = 1 := by omega
            have hY' : Y = -1 ∨ Y = 0 ∨ Y = 1 := by omega
            have hZ' : Z = -1 ∨ Z = 0 ∨ Z = 1 := by omega
            have hm := HM.out
            clear HM
            subst hm
            clear hX hY hZ
            rcases hX' with rfl | rfl | rfl <;> rcases hY' with rfl | rfl | rfl <;> rcases hZ' with rfl | rfl | rfl <;> first | (exfalso; have := hT.out; revert this; decide) | skip
            all_goals
              go_wp2_with fail
              refine (cmp_lit wq b a).mono ?_
              rintro e wz ⟨rfl, hb⟩
              rw [HBA.out]
              clear a_0 a_1 a_2 a_3 a_4 a_5 a_6 a_7 b_0 b_1 b_2 b_3 b_4 b_5 b_6 b_7
              have HBz := Lib.hid (below_then HBq.out HBq.out.size hb)
              clear hb
              have a_0 : wz.cell? ⟨w.heap.size, 0, none⟩ = some (.int .i64 a.f0) := (blk_cell (blk_below HA5.out HBz.out) 0).trans rfl
              have a_1 : wz.cell? ⟨w.heap.size, 1, none⟩ = some (.string a.f1) := (blk_cell (blk_below HA5.out HBz.out) 1).trans rfl
              have a_2 : wz.cell? ⟨w.heap.size, 2, none⟩ = some (.int .i64 a.f2) := (blk_cell (blk_below HA5.out HBz.out) 2).trans rfl
              have a_3 : wz.cell? ⟨w.heap.size, 3, none⟩ = some (.int .i64 a.f3) := (blk_cell (blk_below HA5.out HBz.out) 3).trans rfl
              have a_4 : wz.cell? ⟨w.heap.size, 4, none⟩ = some (.int .i64 a.f4) := (blk_cell (blk_below HA5.out HBz.out) 4).trans rfl
              have a_5 : wz.cell? ⟨w.heap.size, 5, none⟩ = some (.int .u8 a.f5) := (blk_cell (blk_below HA5.out HBz.out) 5).trans rfl
              have a_6 : wz.cell? ⟨w.heap.size, 6, none⟩ = some (.int .i64 a.f6) := (blk_cell (blk_below HA5.out HBz.out) 6).trans rfl
              have a_7 : wz.cell? ⟨w.heap.size, 7, none⟩ = some (.string a.f7) := (blk_cell (blk_below HA5.out HBz.out) 7).trans rfl
              go_wp2_with fail
              refine (cmp_lit wz a a).mono ?_
              rintro e wy ⟨rfl, hb⟩
              rw [cmp_self]
              have HBy := Lib.hid (below_then HBz.out HBz.out.size hb)
              clear hb
              go_wp2_with fail
              go_ret
              exact ⟨rfl, below_then HW5.out HW5.out.size HBy.out⟩
def storemanlaw09_RankOrder.f (k : Nat) (l0 : List S24) (a1_0 : Int) (a1_1 : ByteArray) (a1_2 : Int) (a1_3 : Int) (a1_4 : Int) (a1_5 : Int) (a1_6 : Int) (a1_7 : ByteArray) (a2_0 : Int) (a2_1 : ByteArray) (a2_2 : Int) (a2_3 : Int) (a2_4 : Int) (a2_5 : Int) (a2_6 : Int) (a2_7 : ByteArray) (a3_0 : Int) (a3_1 : ByteArray) (a3_2 : Int) (a3_3 : Int) (a3_4 : Int) (a3_5 : Int) (a3_6 : Int) (a3_7 : ByteArray) : Option Bool := if l0.length ≤ 9223372036854775807 then some true else none
theorem storemanlaw09_RankOrder.calls (k : Nat) (A0 : Option Addr) (c0 : Nat) (l0 : List S24) (a1_0 : Int) (a1_1 : ByteArray) (a1_2 : Int) (a1_3 : Int) (a1_4 : Int) (a1_5 : Int) (a1_6 : Int) (a1_7 : ByteArray) (a2_0 : Int) (a2_1 : ByteArray) (a2_2 : Int) (a2_3 : Int) (a2_4 : Int) (a2_5 : Int) (a2_6 : Int) (a2_7 : ByteArray) (a3_0 : Int) (a3_1 : ByteArray) (a3_2 : Int) (a3_3 : Int) (a3_4 : Int) (a3_5 : Int) (a3_6 : Int) (a3_7 : ByteArray) (r : Bool) (w : World) (hr0 : Kd.C k24 w A0 l0.length l0) (hc0 : l0.length ≤ c0) (h : storemanlaw09_RankOrder.f k l0 a1_0 a1_1 a1_2 a1_3 a1_4 a1_5 a1_6 a1_7 a2_0 a2_1 a2_2 a2_3 a2_4 a2_5 a2_6 a2_7 a3_0 a3_1 a3_2 a3_3 a3_4 a3_5 a3_6 a3_7 = some r) :
    Calls Try.prog 6 #[.slice A0 l0.length c0, .agg #[.int .i64 a1_0, .string a1_1, .int .i64 a1_2, .int .i64 a1_3, .int .i64 a1_4, .int .u8 a1_5, .int .i64 a1_6, .string a1_7], .agg #[.int .i64 a2_0, .string a2_1, .int .i64 a2_2, .int .i64 a2_3, .int .i64 a2_4, .int .u8 a2_5, .int .i64 a2_6, .string a2_7], .agg #[.int .i64 a3_0, .string a3_1, .int .i64 a3_2, .int .i64 a3_3, .int .i64 a3_4, .int .u8 a3_5, .int .i64 a3_6, .string a3_7]] w fun e w' => e = .returned (.bool r) ∧ RowKit.Below w.heap.size w w' := by
  unfold storemanlaw09_RankOrder.f at h
  by_cases hl : l0.length ≤ 9223372036854775807
  · rw [if_pos hl] at h
    obtain rfl := Option.some.inj h
    exact RankOrder_walk A0 c0 l0 ⟨a1_0, a1_1, a1_2, a1_3, a1_4, a1_5, a1_6, a1_7⟩ ⟨a2_0, a2_1, a2_2, a2_3, a2_4, a2_5, a2_6, a2_7⟩ ⟨a3_0, a3_1, a3_2, a3_3, a3_4, a3_5, a3_6, a3_7⟩ w hr0 hc0 hl
  · rw [if_neg hl] at h; cases h
end Go.Proofs.Ytokmkjgbhlcngaa.Q
namespace Go.Proofs.Ytokmkjgbhlcngaa.G
open Go.Sort
set_option linter.all false
section
variable {α : Type} [Inhabited α] {lt : α → α → Bool}
theorem stabl_snoc (hS : SWO lt) (l : List α) (x : α) (a : Nat) (ha : a ≤ (stabl lt l).length) (h1 : ∀ y ∈ (stabl lt l).drop a, lt x y = true) (h2 : ∀ y ∈ (stabl lt l).take a, lt x y = false) :
    stabl lt (l ++ [x]) = (stabl lt l).take a ++ ([x] ++ (stabl lt l).drop a) := by
  have hs := stabl_sorted hS l
  have hst := stabl_st hS l
  generalize stabl lt l = out at ha h1 h2 hs hst ⊢
  have hs' := hs
  rw [← List.take_append_drop a out, List.pairwise_append] at hs'
  obtain ⟨p1, p2, p3⟩ := hs'
  have asym : ∀ y z, lt y z = true → lt z y = false := fun y z h => by
    cases h' : lt z y with
    | false => rfl
    | true => have := hS.trans y z y h h'; rw [hS.irrefl] at this; cases this
  refine sorted_one hS _ _ (stabl_sorted hS _) ?_ (fun c => ?_)
  · rw [List.pairwise_append]
    refine ⟨p1, ?_, ?_⟩
    · rw [List.singleton_append, List.pairwise_cons]
      exact ⟨fun y hy => asym _ _ (h1 y hy), p2⟩
    · intro y hy z hz
      rw [List.singleton_append, List.mem_cons] at hz
      rcases hz with rfl | hz
      · exact h2 y hy
      · exact p3 y hy z hz
  · rw [stabl_st hS, List.filter_append, List.filter_append, List.filter_append]
    have ho : (out.take a).filter (eqv lt c) ++ (out.drop a).filter (eqv lt c) = l.filter (eqv lt c) := by rw [← List.filter_append, List.take_append_drop, hst]
    by_cases hx : eqv lt c x = true
    · have hd : (out.drop a).filter (eqv lt c) = [] := by
        rw [List.filter_eq_nil_iff]
        intro z hz hcz
        have hxz := h1 z hz
        unfold eqv at hx hcz
        simp only [Bool.and_eq_true, Bool.not_eq_true'] at hx hcz
        have := hS.ntrans x c z hx.2 hcz.1
        rw [hxz] at this; cases this
      rw [hd, List.append_nil] at ho
      rw [hd, List.append_nil, ho]
    · have hn : [x].filter (eqv lt c) = [] := by simp [hx]
      rw [hn, List.nil_append, List.append_nil, ho]
end
end Go.Proofs.Ytokmkjgbhlcngaa.G
