import Derived.Test.YtgcgcgmpihjnaaaQ13
import Derived.Test.YtgcgcgmpihjnaaaGOpens
import Derived.KernelRfl
namespace Go.Proofs.Ytgcgcgmpihjnaaa.Q
open Go.RowKit Go.Proofs.YtgcgcgmpihjnaaaW.PrintWords Go.Proofs.Ytgcgcgmpihjnaaa.G
namespace SayTellWhole
def Q5 (x : Int) : Prop := (Lit.int .u8 x).wf = true
theorem o5 : Opens Try.prog 5 (Kd.int .u8) Q5 := opens_int Try.underlying5
def Q31 (l : List (Int)) : Prop := l.length * (Try.prog.bytesOf 5) ≤ 140737488351232 ∧ l.length ≤ maxLen ∧ ∀ x ∈ l, Q5 x
theorem o31 : Opens Try.prog 31 (Kd.slice 5 (Kd.int .u8)) Q31 := opens_slice Try.underlying31 (by kernel_rfl) rfl o5
/-- The law's pure statement: at every input that can be read. -/
def Pure : Prop := ∀ (x0 : List (Int)), Q31 x0 → ∃ k, storemanlaw14_TellWhole.f k x0 = some true
end SayTellWhole
end Go.Proofs.Ytgcgcgmpihjnaaa.Q
