/- Plain facts on codes: which bytes are one (no program in sight). -/
import Derived.Test.YtckekncllmhohaaWMore
namespace Go.Proofs.Ytckekncllmhohaa.G
open Go.RowKit Go.Proofs.YtckekncllmhohaaW.PrintWords Go.Proofs.YtckekncllmhohaaW.PrintLast Go.Proofs.YtckekncllmhohaaW.PrintMore

theorem ret_bool {a b : Bool} (h : a = b) : Ending.returned (.bool a) = Ending.returned (.bool b) := by rw [h]
theorem ret_int {k : IntKind} {a b : Int} (h : a = b) : Ending.returned (.int k a) = Ending.returned (.int k b) := by rw [h]
/-- A cut of what is read, its address a letter. -/
theorem cut_mid_any {P : Program} {α : Type} (k : Kd α) (t e : TypeId) (kl kh : IntKind) {i : TypeInfo} (ht : P.underlying t = some (.slice e)) (hi : P.info? e = some i) (hsz : i.size = k.sz) (A : Option Addr) (c : Nat) (xs : List α) (lo hi' : Int) (h0 : 0 ≤ lo) (h1 : lo ≤ hi') (h2 : hi' ≤ (xs.length : Int)) (hc : xs.length ≤ c) :
    ∃ A' : Option Addr, (∀ W : World, (Instr.slice t (.slice A xs.length c) (some (.int kl lo)) (some (.int kh hi')) none).run P W = .ok (.slice A' (hi'.toNat - lo.toNat) (c - lo.toNat)) W) ∧
      (∀ w : World, k.C w A xs.length xs → k.C w A' (hi'.toNat - lo.toNat) ((xs.take hi'.toNat).drop lo.toNat)) := by
  refine ⟨if c = lo.toNat then A else A.map (·.add (lo.toNat * k.sz)), cut_mid t e kl kh ht hi k.sz hsz A xs.length c lo hi' h0 h1 h2 hc, fun w h => ?_⟩
  have := Kd.C_mid (lo := lo.toNat) (hi := hi'.toNat) h (by omega) (by omega) hc
  have hl : ((xs.take hi'.toNat).drop lo.toNat).length = hi'.toNat - lo.toNat := by rw [List.length_drop, List.length_take]; omega
  rwa [hl] at this
theorem cut_from_any {P : Program} {α : Type} (k : Kd α) (t e : TypeId) (kl : IntKind) {i : TypeInfo} (ht : P.underlying t = some (.slice e)) (hi : P.info? e = some i) (hsz : i.size = k.sz) (A : Option Addr) (c : Nat) (xs : List α) (lo : Int) (h0 : 0 ≤ lo) (h2 : lo ≤ (xs.length : Int)) (hc : xs.length ≤ c) :
    ∃ A' : Option Addr, (∀ W : World, (Instr.slice t (.slice A xs.length c) (some (.int kl lo)) none none).run P W = .ok (.slice A' (xs.length - lo.toNat) (c - lo.toNat)) W) ∧
      (∀ w : World, k.C w A xs.length xs → k.C w A' (xs.length - lo.toNat) (xs.drop lo.toNat)) := by
  refine ⟨if c = lo.toNat then A else A.map (·.add (lo.toNat * k.sz)), cut_from t e kl ht hi k.sz hsz A xs.length c lo h0 h2, fun w h => ?_⟩
  have := Kd.C_drop (m := lo.toNat) h (by omega) hc
  rwa [List.length_drop] at this
/-- May a byte stand at a place of a code? -/
def okAt (i : Nat) (c : Int) : Bool := (decide (65 ≤ c) && decide (c ≤ 90)) || (decide (0 < i) && ((decide (48 ≤ c) && decide (c ≤ 57)) || (c == 45)))
def okFrom : Nat → List Int → Bool
  | _, [] => true
  | i, c :: r => okAt i c && okFrom (i + 1) r
/-- Are bytes a code? -/
def codeB (l : List Int) : Bool := !l.isEmpty && (decide (l.length ≤ 12) && okFrom 0 l)

theorem bytesOf_drop (s : ByteArray) (pos : Nat) (h : pos < s.size) : (bytesOf s).drop pos = ((s[pos]'h).toNat : Int) :: (bytesOf s).drop (pos + 1) := by
  have h' : pos < (bytesOf s).length := by rw [bytesOf_length]; exact h
  rw [List.drop_eq_getElem_cons h']
  congr 1
  simp [bytesOf]
  rfl
theorem okAt_high {i : Nat} {c : Int} (h : 128 ≤ c) : okAt i c = false := by
  unfold okAt
  have h1 : decide (c ≤ 90) = false := decide_eq_false (by omega)
  have h2 : decide (c ≤ 57) = false := decide_eq_false (by omega)
  have h3 : (c == 45) = false := by simp; omega
  simp [h1, h2, h3]
theorem okFrom_drop_all (s : ByteArray) (pos : Nat) (h : ¬ pos < s.size) : okFrom pos ((bytesOf s).drop pos) = true := by
  rw [List.drop_of_length_le (by rw [bytesOf_length]; omega)]
  rfl
theorem bytesOf_ne (s : ByteArray) : (bytesOf s).isEmpty = s.data.toList.isEmpty := by simp [bytesOf]
end Go.Proofs.Ytckekncllmhohaa.G
