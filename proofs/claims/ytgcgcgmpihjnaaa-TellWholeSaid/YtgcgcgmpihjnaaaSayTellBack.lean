import Derived.Test.YtgcgcgmpihjnaaaQ12
import Derived.Test.YtgcgcgmpihjnaaaGOpens
import Derived.KernelRfl
namespace Go.Proofs.Ytgcgcgmpihjnaaa.Q
open Go.RowKit Go.Proofs.YtgcgcgmpihjnaaaW.PrintWords Go.Proofs.Ytgcgcgmpihjnaaa.G
namespace SayTellBack
def Q22 (x : Int) : Prop := (Lit.int .i64 x).wf = true
theorem o22 : Opens Try.prog 22 (Kd.int .i64) Q22 := opens_int Try.underlying22
def Q3 (x : Int) : Prop := (Lit.int .i64 x).wf = true
theorem o3 : Opens Try.prog 3 (Kd.int .i64) Q3 := opens_int Try.underlying3
def Q9 (x : ByteArray) : Prop := x.size ≤ 140737488351232
theorem o9 : Opens Try.prog 9 Kd.string Q9 := opens_string Try.underlying9
def Q23 (x : Int) : Prop := (Lit.int .u8 x).wf = true
theorem o23 : Opens Try.prog 23 (Kd.int .u8) Q23 := opens_int Try.underlying23
def Q53 (x : S53) : Prop := Q3 x.f0 ∧ Q3 x.f1
theorem o53 : Opens Try.prog 53 k53 Q53 := (opens_struct (fun x : S53 => (x.f0, x.f1)) (fun p => ⟨p.1, p.2⟩) (fun _ => rfl) Try.underlying53 (by kernel_rfl) (opensF_cons o3 rfl (by kernel_rfl) rfl (opensF_last o3 rfl (by kernel_rfl)))).imp (fun _ h => h)
def Q2 (x : Int) : Prop := (Lit.int .i64 x).wf = true
theorem o2 : Opens Try.prog 2 (Kd.int .i64) Q2 := opens_int Try.underlying2
def Q4 (_x : Bool) : Prop := True
theorem o4 : Opens Try.prog 4 Kd.bool Q4 := opens_bool Try.underlying4
def Q55 (x : S55) : Prop := Q3 x.f0 ∧ Q9 x.f1 ∧ Q53 x.f2 ∧ Q2 x.f3 ∧ Q4 x.f4
theorem o55 : Opens Try.prog 55 k55 Q55 := (opens_struct (fun x : S55 => (x.f0, x.f1, x.f2, x.f3, x.f4)) (fun p => ⟨p.1, p.2.1, p.2.2.1, p.2.2.2.1, p.2.2.2.2⟩) (fun _ => rfl) Try.underlying55 (by kernel_rfl) (opensF_cons o3 rfl (by kernel_rfl) rfl (opensF_cons o9 rfl (by kernel_rfl) rfl (opensF_cons o53 rfl (by kernel_rfl) rfl (opensF_cons o2 rfl (by kernel_rfl) rfl (opensF_last o4 rfl (by kernel_rfl))))))).imp (fun _ h => h)
def Q24 (l : List (S55)) : Prop := l.length * (Try.prog.bytesOf 55) ≤ 140737488351232 ∧ l.length ≤ maxLen ∧ ∀ x ∈ l, Q55 x
theorem o24 : Opens Try.prog 24 (Kd.slice 55 k55) Q24 := opens_slice Try.underlying24 (by kernel_rfl) rfl o55
def Q57 (x : S57) : Prop := Q3 x.f0 ∧ Q3 x.f1 ∧ Q2 x.f2
theorem o57 : Opens Try.prog 57 k57 Q57 := (opens_struct (fun x : S57 => (x.f0, x.f1, x.f2)) (fun p => ⟨p.1, p.2.1, p.2.2⟩) (fun _ => rfl) Try.underlying57 (by kernel_rfl) (opensF_cons o3 rfl (by kernel_rfl) rfl (opensF_cons o3 rfl (by kernel_rfl) rfl (opensF_last o2 rfl (by kernel_rfl))))).imp (fun _ h => h)
def Q25 (l : List (S57)) : Prop := l.length * (Try.prog.bytesOf 57) ≤ 140737488351232 ∧ l.length ≤ maxLen ∧ ∀ x ∈ l, Q57 x
theorem o25 : Opens Try.prog 25 (Kd.slice 57 k57) Q25 := opens_slice Try.underlying25 (by kernel_rfl) rfl o57
def Q27 (x : S27) : Prop := Q22 x.f0 ∧ Q3 x.f1 ∧ Q3 x.f2 ∧ Q9 x.f3 ∧ Q23 x.f4 ∧ Q24 x.f5 ∧ Q25 x.f6
theorem o27 : Opens Try.prog 27 k27 Q27 := (opens_struct (fun x : S27 => (x.f0, x.f1, x.f2, x.f3, x.f4, x.f5, x.f6)) (fun p => ⟨p.1, p.2.1, p.2.2.1, p.2.2.2.1, p.2.2.2.2.1, p.2.2.2.2.2.1, p.2.2.2.2.2.2⟩) (fun _ => rfl) Try.underlying27 (by kernel_rfl) (opensF_cons o22 rfl (by kernel_rfl) rfl (opensF_cons o3 rfl (by kernel_rfl) rfl (opensF_cons o3 rfl (by kernel_rfl) rfl (opensF_cons o9 rfl (by kernel_rfl) rfl (opensF_cons o23 rfl (by kernel_rfl) rfl (opensF_cons o24 rfl (by kernel_rfl) rfl (opensF_last o25 rfl (by kernel_rfl))))))))).imp (fun _ h => h)
def Q5 (x : Int) : Prop := (Lit.int .u8 x).wf = true
theorem o5 : Opens Try.prog 5 (Kd.int .u8) Q5 := opens_int Try.underlying5
def Q31 (l : List (Int)) : Prop := l.length * (Try.prog.bytesOf 5) ≤ 140737488351232 ∧ l.length ≤ maxLen ∧ ∀ x ∈ l, Q5 x
theorem o31 : Opens Try.prog 31 (Kd.slice 5 (Kd.int .u8)) Q31 := opens_slice Try.underlying31 (by kernel_rfl) rfl o5
/-- The law's pure statement: at every input that can be read. -/
def Pure : Prop := ∀ (x0 : S27) (x1 : List (Int)), Q27 x0 → Q31 x1 → ∃ k, storemanlaw14_TellBack.f k (x0.f0) (x0.f1) (x0.f2) (x0.f3) (x0.f4) (x0.f5) (x0.f6) x1 = some true
end SayTellBack
end Go.Proofs.Ytgcgcgmpihjnaaa.Q
