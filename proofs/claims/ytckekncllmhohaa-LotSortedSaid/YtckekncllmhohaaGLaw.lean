/- LotRights, without the program. -/
import Derived.Test.YtckekncllmhohaaGRef03
import Derived.Test.YtckekncllmhohaaGLotSort
import Derived.Test.YtckekncllmhohaaQ7
import Derived.Test.YtckekncllmhohaaSayLotRights
import Derived.KernelRfl
namespace Go.Proofs.Ytckekncllmhohaa.Q
open Go.RowKit Go.Proofs.YtckekncllmhohaaW.PrintWords Go.Proofs.YtckekncllmhohaaW.PrintLast Go.Proofs.YtckekncllmhohaaW.PrintMore Go.Proofs.Ytckekncllmhohaa.G
set_option linter.unusedVariables false
set_option linter.unusedSimpArgs false
set_option linter.all false

theorem awake_is : storemanlaw04_awake.f = some true := by kernel_rfl
theorem ref04_is (x : S25) (k : Nat) (hk : 15 ≤ k) : storemanref04_Right.f k x.f0 x.f1 x.f2.f0 x.f2.f1 x.f3 x.f4 = some (lotB x) := by
  unfold storemanref04_Right.f lotB
  rw [ref03_is x.f1 k hk]
  by_cases h0 : x.f0 ≥ 1
  · have h0' : 0 < x.f0 := by omega
    rw [if_pos h0, Option.bind_some, decide_eq_true h0', Bool.true_and]
    cases codeB (bytesOf x.f1)
    · rfl
    · rw [if_pos rfl, Bool.true_and]
      by_cases h1 : x.f2.f0 ≥ 0
      · have h1' : 0 ≤ x.f2.f0 := h1
        rw [if_pos h1, decide_eq_true h1', Bool.true_and]
        by_cases h2 : x.f2.f0 < x.f2.f1
        · rw [if_pos h2, decide_eq_true h2, Bool.true_and]
          by_cases h3 : x.f2.f1 ≤ 4001
          · rw [if_pos h3, decide_eq_true h3, Bool.true_and]
            by_cases h4 : x.f3 ≥ 1
            · have h4' : 0 < x.f3 := by omega
              rw [if_pos h4, decide_eq_true h4', Bool.true_and]
            · have h4' : ¬ 0 < x.f3 := by omega
              rw [if_neg h4, decide_eq_false h4', Bool.false_and]
          · rw [if_neg h3, decide_eq_false h3, Bool.false_and]
        · rw [if_neg h2, decide_eq_false h2, Bool.false_and]
      · have h1' : ¬ 0 ≤ x.f2.f0 := h1
        rw [if_neg h1, decide_eq_false h1', Bool.false_and]
  · have h0' : ¬ 0 < x.f0 := by omega
    rw [if_neg h0, decide_eq_false h0', Bool.false_and]
theorem refCmp_is (x y : S25) : storemanref04_Compare.f x.f0 x.f1 x.f2.f0 x.f2.f1 x.f3 x.f4 y.f0 y.f1 y.f2.f0 y.f2.f1 y.f3 y.f4 = some (lotCmp x y) := by
  unfold storemanref04_Compare.f lotCmp
  by_cases h1 : x.f2.f1 < y.f2.f1
  · rw [if_pos h1, if_pos h1]
  · rw [if_neg h1, if_neg h1]
    by_cases h2 : x.f2.f1 > y.f2.f1
    · rw [if_pos h2, if_pos h2]
    · rw [if_neg h2, if_neg h2]
      by_cases h3 : x.f0 < y.f0
      · rw [if_pos h3, if_pos h3]
      · rw [if_neg h3, if_neg h3]
        by_cases h4 : x.f0 > y.f0
        · rw [if_pos h4, if_pos h4]
        · rw [if_neg h4, if_neg h4]
end Go.Proofs.Ytckekncllmhohaa.Q
namespace Go.Proofs.Ytckekncllmhohaa.Pure
open Go.RowKit Go.Proofs.YtckekncllmhohaaW.PrintWords Go.Proofs.YtckekncllmhohaaW.PrintLast Go.Proofs.YtckekncllmhohaaW.PrintMore Go.Proofs.Ytckekncllmhohaa.G Go.Proofs.Ytckekncllmhohaa.Q
theorem LotRights : Q.SayLotRights.Pure := by
  intro x y _ _
  refine ⟨20, ?_⟩
  unfold storemanlaw04_LotRights.f
  rw [lot_Right_is x, Option.bind_some, ref04_is x 20 (by omega), Option.bind_some, if_pos (by simp), lotCmp_is x y 17, Option.bind_some, refCmp_is x y, Option.bind_some, if_pos rfl, awake_is, Option.bind_some]
end Go.Proofs.Ytckekncllmhohaa.Pure
