/- The row of LotSorted: whatever the input that can be read, the call returns true, and its arguments read as before. -/
import Derived.Test.YtckekncllmhohaaRows
import Derived.Test.YtckekncllmhohaaSayLotSorted
import Derived.Test.YtckekncllmhohaaGSortedLaw
import Derived.WalkKit
import Derived.ProofKit
import Derived.OpenShut
import Derived.ShutString
import Derived.ChangeOld
import Derived.Below
import Derived.SizedLaws
namespace Go.Proofs.Ytckekncllmhohaa.lotSorted
open Go.ChangeShapes Go.WideShapes Go.ChangeAt Go.RowKit Go.Proofs.YtckekncllmhohaaW.PrintWords Go.Proofs.Ytckekncllmhohaa.G Go.Proofs.Ytckekncllmhohaa.Q
open Go.ChangeMaps (open_string shut_string)
set_option linter.unusedVariables false
theorem own : ownKnob Try.prog.godebug = none := by kernel_rfl
theorem laidOut : laidOutB Try.prog = true := by kernel_rfl
set_option maxRecDepth 100000 in
theorem lifted (os : Os) (started : os.Started) (H : Type) (enc : TypeId × Value → H) :
    ReturnsInHanded {} Try.checked os 4 .any (Rows.lotSortedSpec.pre6 enc Try.prog Try.f4 Rows.lotSortedRow.domain false) (Rows.lotSortedSpec.post enc Try.prog Try.f4 false true false false) := by
  refine returnsInHanded_of_change_sized (C := Try.checked) own started (by kernel_rfl) Try.func4
    (ChangeSpec.witness6 (enc := enc) (C := Try.checked) false ⟨#[], #[.slice none 0 0, .agg #[.int .i64 0, .string ByteArray.empty, .int .i64 0, .int .i64 0, .int .i64 0, .bool false], .agg #[.int .i64 0, .string ByteArray.empty, .int .i64 0, .int .i64 0, .int .i64 0, .bool false], .agg #[.int .i64 0, .string ByteArray.empty, .int .i64 0, .int .i64 0, .int .i64 0, .bool false]], []⟩ 8 (by kernel_rfl) (by kernel_rfl) (by kernel_rfl) (by kernel_rfl)) ?_
  intro W base args ds gs before hval0 hW hcnd hsz0 _
  have hsz : (DataW.weightsEach Try.prog (Try.f4.params.toList ++ Rows.lotSortedSpec.plain.varTypes Try.prog) (ds ++ gs)).all (· ≤ reachBytes) = true := hsz0
  have hval : ∀ (j : Nat) t v, Try.f4.params[j]? = some t → args[j]? = some v → Value.okWide Try.prog W .any base t v := hval0
  have hW' := hW
  obtain ⟨p, q, hA0, hV, rfl, hfz, hnd⟩ := hW
  have hA : DataW.TrodAll enc Try.prog W 0 (fun _ => true) true Try.f4.params.toList args.toList ds p := hA0
  rw [Try.params4] at hA hval hsz
  obtain ⟨v0, vs0, d0, ds0, p0, q0, hargs, rfl, rfl, h0, r0⟩ := trodAll_cons hA
  obtain ⟨v1, vs1, d1, ds1, p1, q1, rfl, rfl, rfl, h1, r1⟩ := trodAll_cons r0
  obtain ⟨v2, vs2, d2, ds2, p2, q2, rfl, rfl, rfl, h2, r2⟩ := trodAll_cons r1
  obtain ⟨v3, vs3, d3, ds3, p3, q3, rfl, rfl, rfl, h3, r3⟩ := trodAll_cons r2
  obtain ⟨rfl, rfl, rfl⟩ := trodAll_nil r3
  obtain rfl : args = #[v0, v1, v2, v3] := by cases args; simp_all
  obtain ⟨rfl, rfl⟩ := trodVars_none hV
  have k0 := h0
  have lt0 : ∀ x ∈ p0, x.block < W.heap.size := by obtain ⟨m, hm⟩ := k0; exact DataW.trod_lt m _ _ _ hm
  obtain ⟨x0, hk0, hq0⟩ := Opens.arg SayLotSorted.o30 hsz (j := 0) rfl rfl h0
  obtain ⟨A0, cc0, hv0, hl0, hr0⟩ := hk0
  obtain ⟨aa0, ll0, cp0, rfl⟩ := okWide_slice Try.underlying30 (hval 0 30 v0 rfl rfl)
  simp only [Value.cells, List.cons.injEq, and_true] at hv0
  injection hv0 with e1_ e2_ e3_
  subst e1_ e2_ e3_
  have k1 := h1
  have lt1 : ∀ x ∈ p1, x.block < W.heap.size := by obtain ⟨m, hm⟩ := k1; exact DataW.trod_lt m _ _ _ hm
  obtain ⟨x1, hk1, hq1⟩ := Opens.arg SayLotSorted.o25 hsz (j := 1) rfl rfl h1
  obtain ⟨c1, rfl, hsz1⟩ := okWide_struct Try.underlying25 (hval 1 25 v1 rfl rfl)
  have hk1' : k25.K W x1 c1.toList := hk1
  have hcs1 := k25_open hk1'
  obtain rfl : c1 = #[.int .i64 x1.f0, .string x1.f1, .int .i64 x1.f2.f0, .int .i64 x1.f2.f1, .int .i64 x1.f3, .bool x1.f4] := Array.ext' hcs1
  have k2 := h2
  have lt2 : ∀ x ∈ p2, x.block < W.heap.size := by obtain ⟨m, hm⟩ := k2; exact DataW.trod_lt m _ _ _ hm
  obtain ⟨x2, hk2, hq2⟩ := Opens.arg SayLotSorted.o25 hsz (j := 2) rfl rfl h2
  obtain ⟨c2, rfl, hsz2⟩ := okWide_struct Try.underlying25 (hval 2 25 v2 rfl rfl)
  have hk2' : k25.K W x2 c2.toList := hk2
  have hcs2 := k25_open hk2'
  obtain rfl : c2 = #[.int .i64 x2.f0, .string x2.f1, .int .i64 x2.f2.f0, .int .i64 x2.f2.f1, .int .i64 x2.f3, .bool x2.f4] := Array.ext' hcs2
  have k3 := h3
  have lt3 : ∀ x ∈ p3, x.block < W.heap.size := by obtain ⟨m, hm⟩ := k3; exact DataW.trod_lt m _ _ _ hm
  obtain ⟨x3, hk3, hq3⟩ := Opens.arg SayLotSorted.o25 hsz (j := 3) rfl rfl h3
  obtain ⟨c3, rfl, hsz3⟩ := okWide_struct Try.underlying25 (hval 3 25 v3 rfl rfl)
  have hk3' : k25.K W x3 c3.toList := hk3
  have hcs3 := k25_open hk3'
  obtain rfl : c3 = #[.int .i64 x3.f0, .string x3.f1, .int .i64 x3.f2.f0, .int .i64 x3.f2.f1, .int .i64 x3.f3, .bool x3.f4] := Array.ext' hcs3
  clear hA0 hval0 hsz0 hsz
  obtain ⟨kk, hp⟩ := Go.Proofs.Ytckekncllmhohaa.Pure.LotSorted x0 x1 x2 x3 hq0 hq1 hq2 hq3
  refine (storemanlaw04_LotSorted.calls kk _ _ x0 x1.f0 x1.f1 x1.f2.f0 x1.f2.f1 x1.f3 x1.f4 x2.f0 x2.f1 x2.f2.f0 x2.f2.f1 x2.f3 x2.f4 x3.f0 x3.f1 x3.f2.f0 x3.f2.f1 x3.f3 x3.f4 true W hr0 hl0 hp).mono fun e W' hh => ?_
  obtain ⟨he, bel0⟩ := hh
  have bel : Below W.heap.size W W' := by first | exact bel0 | exact bel0.below
  subst he
  exact ⟨_, rfl, _, _, _, [], _, [], hW', trodAll_mk1 (shut_bool Try.underlying4 _), (trodAll_cons_mk (Below.trod laidOut (by kernel_rfl) (of_decide_eq_true (by kernel_rfl)) k0 bel lt0) (trodAll_cons_mk (Below.trod laidOut (by kernel_rfl) (of_decide_eq_true (by kernel_rfl)) k1 bel lt1) (trodAll_cons_mk (Below.trod laidOut (by kernel_rfl) (of_decide_eq_true (by kernel_rfl)) k2 bel lt2) (trodAll_cons_mk (Below.trod laidOut (by kernel_rfl) (of_decide_eq_true (by kernel_rfl)) k3 bel lt3) trodAll_mk0)))), rfl, bel.frame _, fun h => by cases h⟩
theorem over : Rows.lotSortedRow.holds Try.pinned (OpenSpec.ofChange Rows.lotSortedSpec) :=
  OpenClaim.holds_of_wide 4 Try.f4 rfl rfl rfl rfl rfl rfl rfl ⟨rfl, rfl, rfl, rfl, rfl⟩ rfl rfl rfl rfl rfl (by kernel_rfl) Try.func4 (by kernel_rfl)
    (of_decide_eq_true (by kernel_rfl)) (by unfold Func.isWrapper; first | (rw [if_pos (by decide +kernel)]; kernel_rfl) | (rw [if_neg (by decide +kernel)]; exact ⟨rfl, rfl⟩))
    (fun os started H enc _ => lifted os started H enc)
theorem proved : Rows.LotSortedSaid := over
#print axioms proved
end Go.Proofs.Ytckekncllmhohaa.lotSorted
namespace Go.Proofs.Ytckekncllmhohaa
/-- The row, under a short name, for the claim. -/
theorem lotSorted_holds : Rows.LotSortedSaid := lotSorted.proved
end Go.Proofs.Ytckekncllmhohaa
