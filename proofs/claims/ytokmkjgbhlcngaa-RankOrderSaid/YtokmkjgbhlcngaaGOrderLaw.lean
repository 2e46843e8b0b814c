/- RankOrder, without the program. -/
import Derived.Test.YtokmkjgbhlcngaaSayRankOrder
namespace Go.Proofs.Ytokmkjgbhlcngaa.Pure
open Go.RowKit Go.Proofs.YtokmkjgbhlcngaaW.PrintWords Go.Proofs.YtokmkjgbhlcngaaW.PrintLast Go.Proofs.YtokmkjgbhlcngaaW.PrintMore Go.Proofs.Ytokmkjgbhlcngaa.G Go.Proofs.Ytokmkjgbhlcngaa.Q
theorem RankOrder : Q.SayRankOrder.Pure := by
  intro l a b c hq _ _ _
  exact ⟨0, if_pos hq.2.1⟩
end Go.Proofs.Ytokmkjgbhlcngaa.Pure
