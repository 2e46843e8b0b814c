import Derived.Test.YtckekncllmhohaaQ7
import Derived.Test.YtckekncllmhohaaGOpens
import Derived.KernelRfl
namespace Go.Proofs.Ytckekncllmhohaa.Q
open Go.RowKit Go.Proofs.YtckekncllmhohaaW.PrintWords Go.Proofs.Ytckekncllmhohaa.G
namespace SayLotRights
def Q3 (x : Int) : Prop := (Lit.int .i64 x).wf = true
theorem o3 : Opens Try.prog 3 (Kd.int .i64) Q3 := opens_int Try.underlying3
def Q9 (x : ByteArray) : Prop := x.size ≤ 140737488351232
theorem o9 : Opens Try.prog 9 Kd.string Q9 := opens_string Try.underlying9
def Q23 (x : S23) : Prop := Q3 x.f0 ∧ Q3 x.f1
theorem o23 : Opens Try.prog 23 k23 Q23 := (opens_struct (fun x : S23 => (x.f0, x.f1)) (fun p => ⟨p.1, p.2⟩) (fun _ => rfl) Try.underlying23 (by kernel_rfl) (opensF_cons o3 rfl (by kernel_rfl) rfl (opensF_last o3 rfl (by kernel_rfl)))).imp (fun _ h => h)
def Q2 (x : Int) : Prop := (Lit.int .i64 x).wf = true
theorem o2 : Opens Try.prog 2 (Kd.int .i64) Q2 := opens_int Try.underlying2
def Q4 (_x : Bool) : Prop := True
theorem o4 : Opens Try.prog 4 Kd.bool Q4 := opens_bool Try.underlying4
def Q25 (x : S25) : Prop := Q3 x.f0 ∧ Q9 x.f1 ∧ Q23 x.f2 ∧ Q2 x.f3 ∧ Q4 x.f4
theorem o25 : Opens Try.prog 25 k25 Q25 := (opens_struct (fun x : S25 => (x.f0, x.f1, x.f2, x.f3, x.f4)) (fun p => ⟨p.1, p.2.1, p.2.2.1, p.2.2.2.1, p.2.2.2.2⟩) (fun _ => rfl) Try.underlying25 (by kernel_rfl) (opensF_cons o3 rfl (by kernel_rfl) rfl (opensF_cons o9 rfl (by kernel_rfl) rfl (opensF_cons o23 rfl (by kernel_rfl) rfl (opensF_cons o2 rfl (by kernel_rfl) rfl (opensF_last o4 rfl (by kernel_rfl))))))).imp (fun _ h => h)
/-- The law's pure statement: at every input that can be read. -/
def Pure : Prop := ∀ (x0 : S25) (x1 : S25), Q25 x0 → Q25 x1 → ∃ k, storemanlaw04_LotRights.f k (x0.f0) (x0.f1) (x0.f2.f0) (x0.f2.f1) (x0.f3) (x0.f4) (x1.f0) (x1.f1) (x1.f2.f0) (x1.f2.f1) (x1.f3) (x1.f4) = some true
end SayLotRights
end Go.Proofs.Ytckekncllmhohaa.Q
