/- The row of LotLists: whatever the input that can be read, the call returns true, and its arguments read as before. -/
import Derived.Below
import Derived.ChangeOld
import Derived.OpenShut
import Derived.ProofKit
import Derived.ShutString
import Derived.SizedLaws
import Derived.WalkKit
import Derived.Test.YtckekncllmhohaaGreatRows
import Derived.Test.YtckekncllmhohaaGreatVLotLists0
import Derived.Test.YtckekncllmhohaaGreatBLotLists0
import Derived.Test.YtckekncllmhohaaGreatBLotLists1
import Derived.Test.YtckekncllmhohaaGreatBLotLists2
import Derived.Test.YtckekncllmhohaaGreatBLotLists3
import Derived.Test.YtckekncllmhohaaGreatBLotLists4
import Derived.Test.YtckekncllmhohaaGreatBLotLists5
import Derived.Test.YtckekncllmhohaaGreatBLotLists6
import Derived.Test.YtckekncllmhohaaGreatBLotLists7
import Derived.Test.YtckekncllmhohaaGreatBLotLists8
import Derived.Test.YtckekncllmhohaaGreatBLotLists9
namespace Go.Proofs.YtckekncllmhohaaGreat.lotLists
open Go.ChangeShapes Go.WideShapes Go.ChangeAt Go.RowKit Go.Proofs.YtckekncllmhohaaGreatW.PrintWords Go.Proofs.YtckekncllmhohaaGreat.G Go.Proofs.YtckekncllmhohaaGreat.Q
open Go.ChangeMaps (open_string shut_string)
set_option linter.unusedVariables false
theorem own : ownKnob Tryz.prog.godebug = none := by kernel_rfl
theorem laidOut : laidOutB Tryz.prog = true := by kernel_rfl
set_option maxRecDepth 100000 in
theorem lifted (os : Os) (started : os.Started) (H : Type) (enc : TypeId × Value → H) :
    ReturnsInHanded {} Tryz.checked os 3 .any (Rows.lotListsSpec.pre6 enc Tryz.prog Tryz.f3 Rows.lotListsRow.domain false) (Rows.lotListsSpec.post enc Tryz.prog Tryz.f3 false true false false) := by
  refine returnsInHanded_of_change_sized (C := Tryz.checked) own started (by kernel_rfl) Tryz.func3
    (ChangeSpec.witness6 (enc := enc) (C := Tryz.checked) false ⟨#[], #[.slice none 0 0, .int .i64 0, .string ByteArray.empty], []⟩ 8 (by kernel_rfl) (by kernel_rfl) (by kernel_rfl) (by kernel_rfl)) ?_
  intro W base args ds gs before hval0 hW hcnd hsz0 _
  have hsz : (DataW.weightsEach Tryz.prog (Tryz.f3.params.toList ++ Rows.lotListsSpec.plain.varTypes Tryz.prog) (ds ++ gs)).all (· ≤ reachBytes) = true := hsz0
  have hval : ∀ (j : Nat) t v, Tryz.f3.params[j]? = some t → args[j]? = some v → Value.okWide Tryz.prog W .any base t v := hval0
  have hW' := hW
  obtain ⟨p, q, hA0, hV, rfl, hfz, hnd⟩ := hW
  have hA : DataW.TrodAll enc Tryz.prog W 0 (fun _ => true) true Tryz.f3.params.toList args.toList ds p := hA0
  rw [Tryz.params3] at hA hval hsz
  obtain ⟨v0, vs0, d0, ds0, p0, q0, hargs, rfl, rfl, h0, r0⟩ := trodAll_cons hA
  obtain ⟨v1, vs1, d1, ds1, p1, q1, rfl, rfl, rfl, h1, r1⟩ := trodAll_cons r0
  obtain ⟨v2, vs2, d2, ds2, p2, q2, rfl, rfl, rfl, h2, r2⟩ := trodAll_cons r1
  obtain ⟨rfl, rfl, rfl⟩ := trodAll_nil r2
  obtain rfl : args = #[v0, v1, v2] := by cases args; simp_all
  obtain ⟨rfl, rfl⟩ := trodVars_none hV
  have k0 := h0
  have lt0 : ∀ x ∈ p0, x.block < W.heap.size := by obtain ⟨m, hm⟩ := k0; exact DataW.trod_lt m _ _ _ hm
  obtain ⟨x0, hk0, hq0⟩ := Opens.arg SayLotLists.o22 hsz (j := 0) rfl rfl h0
  obtain ⟨A0, cc0, hv0, hl0, hr0⟩ := hk0
  obtain ⟨aa0, ll0, cp0, rfl⟩ := okWide_slice Tryz.underlying22 (hval 0 22 v0 rfl rfl)
  simp only [Value.cells, List.cons.injEq, and_true] at hv0
  injection hv0 with e1_ e2_ e3_
  subst e1_ e2_ e3_
  have k1 := h1
  have lt1 : ∀ x ∈ p1, x.block < W.heap.size := by obtain ⟨m, hm⟩ := k1; exact DataW.trod_lt m _ _ _ hm
  obtain ⟨x1, hk1, hq1⟩ := Opens.arg SayLotLists.o3 hsz (j := 1) rfl rfl h1
  obtain ⟨y1, rfl, rfl, rfl, w1⟩ := open_int Tryz.underlying3 (hval 1 3 v1 rfl rfl) h1
  obtain rfl : y1 = x1 := by injection hk1 with e_ _; injection e_
  have k2 := h2
  have lt2 : ∀ x ∈ p2, x.block < W.heap.size := by obtain ⟨m, hm⟩ := k2; exact DataW.trod_lt m _ _ _ hm
  obtain ⟨x2, hk2, hq2⟩ := Opens.arg SayLotLists.o9 hsz (j := 2) rfl rfl h2
  obtain ⟨y2, rfl, rfl, rfl, w2⟩ := open_string Tryz.underlying9 (hval 2 9 v2 rfl rfl) h2
  obtain rfl : y2 = x2 := by injection hk2 with e_ _; injection e_
  clear hA0 hval0 hsz0 hsz
  have hp := Go.Proofs.YtckekncllmhohaaGreat.Pure.LotLists x0 y1 y2 hq0 hq1 hq2
  refine (storemanlaw04_LotLists.calls _ _ x0 y1 y2 true W hr0 hl0 hp).mono fun e W' hh => ?_
  obtain ⟨he, bel0⟩ := hh
  have bel : Below W.heap.size W W' := by first | exact bel0 | exact bel0.below
  subst he
  exact ⟨_, rfl, _, _, _, [], _, [], hW', trodAll_mk1 (shut_bool Tryz.underlying4 _), (trodAll_cons_mk (Below.trod laidOut (by kernel_rfl) (of_decide_eq_true (by kernel_rfl)) k0 bel lt0) (trodAll_cons_mk (Below.trod laidOut (by kernel_rfl) (of_decide_eq_true (by kernel_rfl)) k1 bel lt1) (trodAll_cons_mk (Below.trod laidOut (by kernel_rfl) (of_decide_eq_true (by kernel_rfl)) k2 bel lt2) trodAll_mk0))), rfl, bel.frame _, fun h => by cases h⟩
theorem over : Rows.lotListsRow.holds Tryz.pinned (OpenSpec.ofChange Rows.lotListsSpec) :=
  OpenClaim.holds_of_wide 3 Tryz.f3 rfl rfl rfl rfl rfl rfl rfl ⟨rfl, rfl, rfl, rfl, rfl⟩ rfl rfl rfl rfl rfl (by kernel_rfl) Tryz.func3 (by kernel_rfl)
    (of_decide_eq_true (by kernel_rfl)) (by unfold Func.isWrapper; first | (rw [if_pos (by decide +kernel)]; kernel_rfl) | (rw [if_neg (by decide +kernel)]; exact ⟨rfl, rfl⟩))
    (fun os started H enc _ => lifted os started H enc)
theorem proved : Rows.LotListsSaid := over
#print axioms proved
end Go.Proofs.YtckekncllmhohaaGreat.lotLists
namespace Go.Proofs.YtckekncllmhohaaGreat
/-- The row, under a short name, for the claim. -/
theorem lotLists_holds : Rows.LotListsSaid := lotLists.proved
end Go.Proofs.YtckekncllmhohaaGreat
