/- What leads to LotNumbers: the functions' contracts and the plain laws under them. -/
import Derived.KernelRfl
import Derived.Test.YtckekncllmhohaaGreatVLotNumbers0
import Derived.Test.YtckekncllmhohaaGreatBLotNumbers0
import Derived.Test.YtckekncllmhohaaGreatBLotNumbers1
import Derived.Test.YtckekncllmhohaaGreatBLotNumbers2
import Derived.Test.YtckekncllmhohaaGreatBLotNumbers3
import Derived.Test.YtckekncllmhohaaGreatBLotNumbers4
import Derived.Test.YtckekncllmhohaaGreatBLotNumbers5
import Derived.Test.YtckekncllmhohaaGreatBLotNumbers6
import Derived.Test.YtckekncllmhohaaGreatBLotNumbers7
import Derived.Test.YtckekncllmhohaaGreatBLotNumbers8
import Derived.Test.YtckekncllmhohaaGreatBLotNumbers9
namespace Go.Proofs.YtckekncllmhohaaGreat.Q
open Go.RowKit Go.Proofs.YtckekncllmhohaaGreatW.PrintWords Go.Proofs.YtckekncllmhohaaGreat.G
namespace SayLotNumbers
/-- The law's pure statement: at every input that can be read. -/
def Pure : Prop := ∃ k, storemanlaw04_LotNumbers.f k  = some true
end SayLotNumbers
end Go.Proofs.YtckekncllmhohaaGreat.Q
namespace Go.Proofs.YtckekncllmhohaaGreat.Q
open Go.RowKit Go.Proofs.YtckekncllmhohaaGreatW.PrintWords Go.Proofs.YtckekncllmhohaaGreat.G
namespace SayLotLists
def Q3 (x : Int) : Prop := (Lit.int .i64 x).wf = true
def Q9 (x : ByteArray) : Prop := x.size ≤ 140737488351232
def Q39 (x : S39) : Prop := Q3 x.f0 ∧ Q3 x.f1
def Q2 (x : Int) : Prop := (Lit.int .i64 x).wf = true
def Q4 (_x : Bool) : Prop := True
def Q41 (x : S41) : Prop := Q3 x.f0 ∧ Q9 x.f1 ∧ Q39 x.f2 ∧ Q2 x.f3 ∧ Q4 x.f4
def Q22 (l : List (S41)) : Prop := l.length * (Tryz.prog.bytesOf 41) ≤ 140737488351232 ∧ l.length ≤ maxLen ∧ ∀ x ∈ l, Q41 x
/-- The law's pure statement: at every input that can be read. -/
def Pure : Prop := ∀ (x0 : List (S41)) (x1 : Int) (x2 : ByteArray), Q22 x0 → Q3 x1 → Q9 x2 → storemanlaw04_LotLists.f x0 x1 x2 = some true
end SayLotLists
end Go.Proofs.YtckekncllmhohaaGreat.Q
namespace Go.Proofs.YtckekncllmhohaaGreat.Pure
open Go.RowKit Go.Proofs.YtckekncllmhohaaGreatW.PrintWords Go.Proofs.YtckekncllmhohaaGreatW.PrintLast Go.Proofs.YtckekncllmhohaaGreatW.PrintMore Go.Proofs.YtckekncllmhohaaGreat.G Go.Proofs.YtckekncllmhohaaGreat.Q
end Go.Proofs.YtckekncllmhohaaGreat.Pure
namespace Go.Proofs.YtckekncllmhohaaGreat.Pure
open Go.RowKit Go.Proofs.YtckekncllmhohaaGreatW.PrintWords Go.Proofs.YtckekncllmhohaaGreatW.PrintLast Go.Proofs.YtckekncllmhohaaGreatW.PrintMore Go.Proofs.YtckekncllmhohaaGreat.G Go.Proofs.YtckekncllmhohaaGreat.Q
set_option maxRecDepth 100000 in
theorem LotNumbers : Q.SayLotNumbers.Pure := ⟨1000, by kernel_rfl⟩
end Go.Proofs.YtckekncllmhohaaGreat.Pure
