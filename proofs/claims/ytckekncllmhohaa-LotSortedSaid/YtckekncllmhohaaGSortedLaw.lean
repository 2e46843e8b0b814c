/- LotSorted, without the program. -/
import Derived.Test.YtckekncllmhohaaSayLotSorted
namespace Go.Proofs.Ytckekncllmhohaa.Pure
open Go.RowKit Go.Proofs.YtckekncllmhohaaW.PrintWords Go.Proofs.YtckekncllmhohaaW.PrintLast Go.Proofs.YtckekncllmhohaaW.PrintMore Go.Proofs.Ytckekncllmhohaa.G Go.Proofs.Ytckekncllmhohaa.Q
theorem LotSorted : Q.SayLotSorted.Pure := by
  intro l a b c hq _ _ _
  exact ⟨0, if_pos hq.2.1⟩
end Go.Proofs.Ytckekncllmhohaa.Pure
