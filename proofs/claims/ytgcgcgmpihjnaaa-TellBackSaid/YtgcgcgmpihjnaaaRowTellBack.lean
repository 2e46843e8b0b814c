/- The row of TellBack: whatever the input that can be read, the call returns true, and its arguments read as before. -/
import Derived.Test.YtgcgcgmpihjnaaaRows
import Derived.Test.YtgcgcgmpihjnaaaSayTellBack
import Derived.Test.YtgcgcgmpihjnaaaGLaw
import Derived.WalkKit
import Derived.ProofKit
import Derived.OpenShut
import Derived.ShutString
import Derived.ChangeOld
import Derived.Below
import Derived.SizedLaws
namespace Go.Proofs.Ytgcgcgmpihjnaaa.tellBack
open Go.ChangeShapes Go.WideShapes Go.ChangeAt Go.RowKit Go.Proofs.YtgcgcgmpihjnaaaW.PrintWords Go.Proofs.Ytgcgcgmpihjnaaa.G Go.Proofs.Ytgcgcgmpihjnaaa.Q
open Go.ChangeMaps (open_string shut_string)
set_option linter.unusedVariables false
theorem own : ownKnob Try.prog.godebug = none := by kernel_rfl
theorem laidOut : laidOutB Try.prog = true := by kernel_rfl
set_option maxRecDepth 100000 in
theorem lifted (os : Os) (started : os.Started) (H : Type) (enc : TypeId × Value → H) :
    ReturnsInHanded {} Try.checked os 5 .any (Rows.tellBackSpec.pre6 enc Try.prog Try.f5 Rows.tellBackRow.domain false) (Rows.tellBackSpec.post enc Try.prog Try.f5 false true false false) := by
  refine returnsInHanded_of_change_sized (C := Try.checked) own started (by kernel_rfl) Try.func5
    (ChangeSpec.witness6 (enc := enc) (C := Try.checked) false ⟨#[], #[.agg #[.int .i64 0, .int .i64 0, .int .i64 0, .string ByteArray.empty, .int .u8 0, .slice none 0 0, .slice none 0 0], .slice none 0 0], []⟩ 8 (by kernel_rfl) (by kernel_rfl) (by kernel_rfl) (by kernel_rfl)) ?_
  intro W base args ds gs before hval0 hW hcnd hsz0 _
  have hsz : (DataW.weightsEach Try.prog (Try.f5.params.toList ++ Rows.tellBackSpec.plain.varTypes Try.prog) (ds ++ gs)).all (· ≤ reachBytes) = true := hsz0
  have hval : ∀ (j : Nat) t v, Try.f5.params[j]? = some t → args[j]? = some v → Value.okWide Try.prog W .any base t v := hval0
  have hW' := hW
  obtain ⟨p, q, hA0, hV, rfl, hfz, hnd⟩ := hW
  have hA : DataW.TrodAll enc Try.prog W 0 (fun _ => true) true Try.f5.params.toList args.toList ds p := hA0
  rw [Try.params5] at hA hval hsz
  obtain ⟨v0, vs0, d0, ds0, p0, q0, hargs, rfl, rfl, h0, r0⟩ := trodAll_cons hA
  obtain ⟨v1, vs1, d1, ds1, p1, q1, rfl, rfl, rfl, h1, r1⟩ := trodAll_cons r0
  obtain ⟨rfl, rfl, rfl⟩ := trodAll_nil r1
  obtain rfl : args = #[v0, v1] := by cases args; simp_all
  obtain ⟨rfl, rfl⟩ := trodVars_none hV
  have k0 := h0
  have lt0 : ∀ x ∈ p0, x.block < W.heap.size := by obtain ⟨m, hm⟩ := k0; exact DataW.trod_lt m _ _ _ hm
  obtain ⟨x0, hk0, hq0⟩ := Opens.arg SayTellBack.o27 hsz (j := 0) rfl rfl h0
  obtain ⟨c0, rfl, hsz0⟩ := okWide_struct Try.underlying27 (hval 0 27 v0 rfl rfl)
  have hk0' : k27.K W x0 c0.toList := hk0
  obtain ⟨A0_5, cc0_5, A0_6, cc0_6, hcs0, hl0_5, hr0_5, hl0_6, hr0_6⟩ := k27_open hk0'
  obtain rfl : c0 = #[.int .i64 x0.f0, .int .i64 x0.f1, .int .i64 x0.f2, .string x0.f3, .int .u8 x0.f4, .slice A0_5 (x0.f5).length cc0_5, .slice A0_6 (x0.f6).length cc0_6] := Array.ext' hcs0
  have k1 := h1
  have lt1 : ∀ x ∈ p1, x.block < W.heap.size := by obtain ⟨m, hm⟩ := k1; exact DataW.trod_lt m _ _ _ hm
  obtain ⟨x1, hk1, hq1⟩ := Opens.arg SayTellBack.o31 hsz (j := 1) rfl rfl h1
  obtain ⟨A1, cc1, hv1, hl1, hr1⟩ := hk1
  obtain ⟨aa1, ll1, cp1, rfl⟩ := okWide_slice Try.underlying31 (hval 1 31 v1 rfl rfl)
  simp only [Value.cells, List.cons.injEq, and_true] at hv1
  injection hv1 with e1_ e2_ e3_
  subst e1_ e2_ e3_
  clear hA0 hval0 hsz0 hsz
  obtain ⟨kk, hp⟩ := Go.Proofs.Ytgcgcgmpihjnaaa.Pure.TellBack x0 x1 hq0 hq1
  refine (storemanlaw14_TellBack.calls kk x0.f0 x0.f1 x0.f2 x0.f3 x0.f4 A0_5 cc0_5 x0.f5 A0_6 cc0_6 x0.f6 _ _ x1 true W hr0_5 hl0_5 hr0_6 hl0_6 hr1 hl1 hp).mono fun e W' hh => ?_
  obtain ⟨he, bel0⟩ := hh
  have bel : Below W.heap.size W W' := by first | exact bel0 | exact bel0.below
  subst he
  exact ⟨_, rfl, _, _, _, [], _, [], hW', trodAll_mk1 (shut_bool Try.underlying4 _), (trodAll_cons_mk (Below.trod laidOut (by kernel_rfl) (of_decide_eq_true (by kernel_rfl)) k0 bel lt0) (trodAll_cons_mk (Below.trod laidOut (by kernel_rfl) (of_decide_eq_true (by kernel_rfl)) k1 bel lt1) trodAll_mk0)), rfl, bel.frame _, fun h => by cases h⟩
theorem over : Rows.tellBackRow.holds Try.pinned (OpenSpec.ofChange Rows.tellBackSpec) :=
  OpenClaim.holds_of_wide 5 Try.f5 rfl rfl rfl rfl rfl rfl rfl ⟨rfl, rfl, rfl, rfl, rfl⟩ rfl rfl rfl rfl rfl (by kernel_rfl) Try.func5 (by kernel_rfl)
    (of_decide_eq_true (by kernel_rfl)) (by unfold Func.isWrapper; first | (rw [if_pos (by decide +kernel)]; kernel_rfl) | (rw [if_neg (by decide +kernel)]; exact ⟨rfl, rfl⟩))
    (fun os started H enc _ => lifted os started H enc)
theorem proved : Rows.TellBackSaid := over
#print axioms proved
end Go.Proofs.Ytgcgcgmpihjnaaa.tellBack
namespace Go.Proofs.Ytgcgcgmpihjnaaa
/-- The row, under a short name, for the claim. -/
theorem tellBack_holds : Rows.TellBackSaid := tellBack.proved
end Go.Proofs.Ytgcgcgmpihjnaaa
