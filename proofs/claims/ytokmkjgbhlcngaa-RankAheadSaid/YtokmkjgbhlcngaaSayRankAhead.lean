import Derived.Test.YtokmkjgbhlcngaaGAhead
import Derived.Test.YtokmkjgbhlcngaaGOpens
import Derived.KernelRfl
namespace Go.Proofs.Ytokmkjgbhlcngaa.Q
open Go.RowKit Go.Proofs.YtokmkjgbhlcngaaW.PrintWords Go.Proofs.Ytokmkjgbhlcngaa.G
namespace SayRankAhead
def Q3 (x : Int) : Prop := (Lit.int .i64 x).wf = true
theorem o3 : Opens Try.prog 3 (Kd.int .i64) Q3 := opens_int Try.underlying3
def Q9 (x : ByteArray) : Prop := x.size ≤ 140737488351232
theorem o9 : Opens Try.prog 9 Kd.string Q9 := opens_string Try.underlying9
def Q2 (x : Int) : Prop := (Lit.int .i64 x).wf = true
theorem o2 : Opens Try.prog 2 (Kd.int .i64) Q2 := opens_int Try.underlying2
def Q22 (x : Int) : Prop := (Lit.int .u8 x).wf = true
theorem o22 : Opens Try.prog 22 (Kd.int .u8) Q22 := opens_int Try.underlying22
def Q24 (x : S24) : Prop := Q3 x.f0 ∧ Q9 x.f1 ∧ Q2 x.f2 ∧ Q3 x.f3 ∧ Q3 x.f4 ∧ Q22 x.f5 ∧ Q3 x.f6 ∧ Q9 x.f7
theorem o24 : Opens Try.prog 24 k24 Q24 := (opens_struct (fun x : S24 => (x.f0, x.f1, x.f2, x.f3, x.f4, x.f5, x.f6, x.f7)) (fun p => ⟨p.1, p.2.1, p.2.2.1, p.2.2.2.1, p.2.2.2.2.1, p.2.2.2.2.2.1, p.2.2.2.2.2.2.1, p.2.2.2.2.2.2.2⟩) (fun _ => rfl) Try.underlying24 (by kernel_rfl) (opensF_cons o3 rfl (by kernel_rfl) rfl (opensF_cons o9 rfl (by kernel_rfl) rfl (opensF_cons o2 rfl (by kernel_rfl) rfl (opensF_cons o3 rfl (by kernel_rfl) rfl (opensF_cons o3 rfl (by kernel_rfl) rfl (opensF_cons o22 rfl (by kernel_rfl) rfl (opensF_cons o3 rfl (by kernel_rfl) rfl (opensF_last o9 rfl (by kernel_rfl)))))))))).imp (fun _ h => h)
def Q29 (l : List (S24)) : Prop := l.length * (Try.prog.bytesOf 24) ≤ 140737488351232 ∧ l.length ≤ maxLen ∧ ∀ x ∈ l, Q24 x
theorem o29 : Opens Try.prog 29 (Kd.slice 24 k24) Q29 := opens_slice Try.underlying29 (by kernel_rfl) rfl o24
/-- The law's pure statement: at every input that can be read. -/
def Pure : Prop := ∀ (x0 : List (S24)) (x1 : Int), Q29 x0 → Q3 x1 → ∃ k, storemanlaw09_RankAhead.f k x0 x1 = some true
end SayRankAhead
end Go.Proofs.Ytokmkjgbhlcngaa.Q
