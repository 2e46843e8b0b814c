/- RankAhead, without the program. -/
import Derived.Test.YtokmkjgbhlcngaaSayRankAhead
namespace Go.Proofs.Ytokmkjgbhlcngaa.Pure
open Go.RowKit Go.Proofs.YtokmkjgbhlcngaaW.PrintWords Go.Proofs.YtokmkjgbhlcngaaW.PrintLast Go.Proofs.YtokmkjgbhlcngaaW.PrintMore Go.Proofs.Ytokmkjgbhlcngaa.G Go.Proofs.Ytokmkjgbhlcngaa.Q
theorem RankAhead : Q.SayRankAhead.Pure := by
  intro l a hq _
  exact ⟨0, if_pos hq.2.1⟩
end Go.Proofs.Ytokmkjgbhlcngaa.Pure
