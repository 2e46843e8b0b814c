/- The row of RankLists: whatever the input that can be read, the call returns true, and its arguments read as before. -/
import Derived.Below
import Derived.ChangeOld
import Derived.OpenShut
import Derived.ProofKit
import Derived.ShutString
import Derived.SizedLaws
import Derived.WalkKit
import Derived.Test.YtokmkjgbhlcngaaRows
import Derived.Test.YtokmkjgbhlcngaaVRankLists0
import Derived.Test.YtokmkjgbhlcngaaVRankLists1
import Derived.Test.YtokmkjgbhlcngaaBRankLists0
import Derived.Test.YtokmkjgbhlcngaaBRankLists1
import Derived.Test.YtokmkjgbhlcngaaBRankLists2
import Derived.Test.YtokmkjgbhlcngaaBRankLists3
import Derived.Test.YtokmkjgbhlcngaaBRankLists4
import Derived.Test.YtokmkjgbhlcngaaBRankLists5
import Derived.Test.YtokmkjgbhlcngaaBRankLists6
import Derived.Test.YtokmkjgbhlcngaaBRankLists7
import Derived.Test.YtokmkjgbhlcngaaBRankLists8
import Derived.Test.YtokmkjgbhlcngaaBRankLists9
namespace Go.Proofs.Ytokmkjgbhlcngaa.rankLists
open Go.ChangeShapes Go.WideShapes Go.ChangeAt Go.RowKit Go.Proofs.YtokmkjgbhlcngaaW.PrintWords Go.Proofs.Ytokmkjgbhlcngaa.G Go.Proofs.Ytokmkjgbhlcngaa.Q
open Go.ChangeMaps (open_string shut_string)
set_option linter.unusedVariables false
theorem own : ownKnob Try.prog.godebug = none := by kernel_rfl
theorem laidOut : laidOutB Try.prog = true := by kernel_rfl
set_option maxRecDepth 100000 in
theorem lifted (os : Os) (started : os.Started) (H : Type) (enc : TypeId × Value → H) :
    ReturnsInHanded {} Try.checked os 4 .any (Rows.rankListsSpec.pre6 enc Try.prog Try.f4 Rows.rankListsRow.domain false) (Rows.rankListsSpec.post enc Try.prog Try.f4 false true false false) := by
  refine returnsInHanded_of_change_sized (C := Try.checked) own started (by kernel_rfl) Try.func4
    (ChangeSpec.witness6 (enc := enc) (C := Try.checked) false ⟨#[], #[.slice none 0 0, .int .i64 0], []⟩ 8 (by kernel_rfl) (by kernel_rfl) (by kernel_rfl) (by kernel_rfl)) ?_
  intro W base args ds gs before hval0 hW hcnd hsz0 _
  have hsz : (DataW.weightsEach Try.prog (Try.f4.params.toList ++ Rows.rankListsSpec.plain.varTypes Try.prog) (ds ++ gs)).all (· ≤ reachBytes) = true := hsz0
  have hval : ∀ (j : Nat) t v, Try.f4.params[j]? = some t → args[j]? = some v → Value.okWide Try.prog W .any base t v := hval0
  have hW' := hW
  obtain ⟨p, q, hA0, hV, rfl, hfz, hnd⟩ := hW
  have hA : DataW.TrodAll enc Try.prog W 0 (fun _ => true) true Try.f4.params.toList args.toList ds p := hA0
  rw [Try.params4] at hA hval hsz
  obtain ⟨v0, vs0, d0, ds0, p0, q0, hargs, rfl, rfl, h0, r0⟩ := trodAll_cons hA
  obtain ⟨v1, vs1, d1, ds1, p1, q1, rfl, rfl, rfl, h1, r1⟩ := trodAll_cons r0
  obtain ⟨rfl, rfl, rfl⟩ := trodAll_nil r1
  obtain rfl : args = #[v0, v1] := by cases args; simp_all
  obtain ⟨rfl, rfl⟩ := trodVars_none hV
  have k0 := h0
  have lt0 : ∀ x ∈ p0, x.block < W.heap.size := by obtain ⟨m, hm⟩ := k0; exact DataW.trod_lt m _ _ _ hm
  obtain ⟨x0, hk0, hq0⟩ := Opens.arg SayRankLists.o29 hsz (j := 0) rfl rfl h0
  obtain ⟨A0, cc0, hv0, hl0, hr0⟩ := hk0
  obtain ⟨aa0, ll0, cp0, rfl⟩ := okWide_slice Try.underlying29 (hval 0 29 v0 rfl rfl)
  simp only [Value.cells, List.cons.injEq, and_true] at hv0
  injection hv0 with e1_ e2_ e3_
  subst e1_ e2_ e3_
  have k1 := h1
  have lt1 : ∀ x ∈ p1, x.block < W.heap.size := by obtain ⟨m, hm⟩ := k1; exact DataW.trod_lt m _ _ _ hm
  obtain ⟨x1, hk1, hq1⟩ := Opens.arg SayRankLists.o3 hsz (j := 1) rfl rfl h1
  obtain ⟨y1, rfl, rfl, rfl, w1⟩ := open_int Try.underlying3 (hval 1 3 v1 rfl rfl) h1
  obtain rfl : y1 = x1 := by injection hk1 with e_ _; injection e_
  clear hA0 hval0 hsz0 hsz
  have hp := Go.Proofs.Ytokmkjgbhlcngaa.Pure.RankLists x0 y1 hq0 hq1
  refine (storemanlaw09_RankLists.calls _ _ x0 y1 true W hr0 hl0 hp).mono fun e W' hh => ?_
  obtain ⟨he, bel0⟩ := hh
  have bel : Below W.heap.size W W' := by first | exact bel0 | exact bel0.below
  subst he
  exact ⟨_, rfl, _, _, _, [], _, [], hW', trodAll_mk1 (shut_bool Try.underlying4 _), (trodAll_cons_mk (Below.trod laidOut (by kernel_rfl) (of_decide_eq_true (by kernel_rfl)) k0 bel lt0) (trodAll_cons_mk (Below.trod laidOut (by kernel_rfl) (of_decide_eq_true (by kernel_rfl)) k1 bel lt1) trodAll_mk0)), rfl, bel.frame _, fun h => by cases h⟩
theorem over : Rows.rankListsRow.holds Try.pinned (OpenSpec.ofChange Rows.rankListsSpec) :=
  OpenClaim.holds_of_wide 4 Try.f4 rfl rfl rfl rfl rfl rfl rfl ⟨rfl, rfl, rfl, rfl, rfl⟩ rfl rfl rfl rfl rfl (by kernel_rfl) Try.func4 (by kernel_rfl)
    (of_decide_eq_true (by kernel_rfl)) (by unfold Func.isWrapper; first | (rw [if_pos (by decide +kernel)]; kernel_rfl) | (rw [if_neg (by decide +kernel)]; exact ⟨rfl, rfl⟩))
    (fun os started H enc _ => lifted os started H enc)
theorem proved : Rows.RankListsSaid := over
#print axioms proved
end Go.Proofs.Ytokmkjgbhlcngaa.rankLists
namespace Go.Proofs.Ytokmkjgbhlcngaa
/-- The row, under a short name, for the claim. -/
theorem rankLists_holds : Rows.RankListsSaid := rankLists.proved
end Go.Proofs.Ytokmkjgbhlcngaa
