/- RankRights, without the program; awake. -/
import Derived.Test.YtokmkjgbhlcngaaGRef03
import Derived.Test.YtokmkjgbhlcngaaGOpen
import Derived.Test.YtokmkjgbhlcngaaQ8
import Derived.Test.YtokmkjgbhlcngaaSayRankRights
import Derived.KernelRfl
namespace Go.Proofs.Ytokmkjgbhlcngaa.Q
open Go.RowKit Go.Sort Go.Proofs.YtokmkjgbhlcngaaW.PrintWords Go.Proofs.YtokmkjgbhlcngaaW.PrintLast Go.Proofs.YtokmkjgbhlcngaaW.PrintMore Go.Proofs.Ytokmkjgbhlcngaa.G
set_option linter.all false

theorem right_j0 (k : Nat) (hk : 18 ≤ k) (b : Bool) (a0 : Int) (a1 : ByteArray) (a2 a3 a4 a5 a6 : Int) (a7 : ByteArray) : rank_Right.j0 k b a0 a1 a2 a3 a4 a5 a6 a7 = storemanref09_Right.j0 k b a0 a1 a2 a3 a4 a5 a6 a7 := by
  obtain ⟨k, rfl⟩ : ∃ m, k = m + 3 := ⟨k - 3, by omega⟩
  simp only [rank_Right.j0, rank_Right.j1, storemanref09_Right.j0, storemanref09_Right.j1, storemanref09_Right.j2, code_Right.f, Option.bind_some, ref03_is _ (k + 1) (by omega)]
  cases b with
  | true => simp
  | false =>
    by_cases hd : a6 = -1
    · subst hd
      by_cases h1 : a5 < 1
      · have e1 : ¬ a5 = 1 := by omega
        have e2 : ¬ a5 = 2 := by omega
        have e3 : ¬ a5 = 3 := by omega
        simp [h1, e1, e2, e3]
      · by_cases h3 : a5 > 3
        · have e1 : ¬ a5 = 1 := by omega
          have e2 : ¬ a5 = 2 := by omega
          have e3 : ¬ a5 = 3 := by omega
          simp [h1, h3, e1, e2, e3]
        · by_cases e1 : a5 = 1
          · subst e1; by_cases hc : a7.toList = [] <;> simp [hc]
          · by_cases e2 : a5 = 2
            · subst e2; by_cases hc : a7.toList = [] <;> simp [hc]
            · have e3 : a5 = 3 := by omega
              subst e3; by_cases hc : a7.toList = [] <;> simp [hc]
    · by_cases h1 : a5 < 1
      · have e1 : ¬ a5 = 1 := by omega
        have e2 : ¬ a5 = 2 := by omega
        have e3 : ¬ a5 = 3 := by omega
        by_cases p1 : a6 ≥ 0 <;> by_cases p2 : a6 ≤ 4000 <;> simp [hd, h1, e1, e2, e3, p1, p2]
      · by_cases h3 : a5 > 3
        · have e1 : ¬ a5 = 1 := by omega
          have e2 : ¬ a5 = 2 := by omega
          have e3 : ¬ a5 = 3 := by omega
          by_cases p1 : a6 ≥ 0 <;> by_cases p2 : a6 ≤ 4000 <;> simp [hd, h1, h3, e1, e2, e3, p1, p2]
        · have h4 : a5 = 1 ∨ a5 = 2 ∨ a5 = 3 := by omega
          rcases h4 with rfl | rfl | rfl <;> by_cases p1 : a6 ≥ 0 <;> by_cases p2 : a6 ≤ 4000 <;> cases hc : codeB (bytesOf a7) <;> simp [hd, p1, p2, hc]
theorem right_eq (k : Nat) (hk : 18 ≤ k) (a0 : Int) (a1 : ByteArray) (a2 a3 a4 a5 a6 : Int) (a7 : ByteArray) : storemanref09_Right.f k a0 a1 a2 a3 a4 a5 a6 a7 = rank_Right.f k a0 a1 a2 a3 a4 a5 a6 a7 := by
  unfold storemanref09_Right.f rank_Right.f code_Right.f
  simp only [ref03_is _ k (by omega), right_j0 k hk, Option.bind_some]
theorem right_j0_some (k : Nat) (hk : 18 ≤ k) (b : Bool) (a0 : Int) (a1 : ByteArray) (a2 a3 a4 a5 a6 : Int) (a7 : ByteArray) : ∃ r, rank_Right.j0 k b a0 a1 a2 a3 a4 a5 a6 a7 = some r := by
  obtain ⟨k, rfl⟩ : ∃ m, k = m + 3 := ⟨k - 3, by omega⟩
  simp only [rank_Right.j0, rank_Right.j1, code_Right.f, Option.bind_some]
  repeat' split
  all_goals exact ⟨_, rfl⟩
theorem right_some (k : Nat) (hk : 18 ≤ k) (a0 : Int) (a1 : ByteArray) (a2 a3 a4 a5 a6 : Int) (a7 : ByteArray) : ∃ r, rank_Right.f k a0 a1 a2 a3 a4 a5 a6 a7 = some r := by
  unfold rank_Right.f code_Right.f
  simp only [Option.bind_some]
  repeat' split
  all_goals first | exact right_j0_some k hk _ _ _ _ _ _ _ _ _ | exact ⟨_, rfl⟩
theorem refCmp_is (x y : S24) : storemanref09_Compare.f x.f0 x.f1 x.f2 x.f3 x.f4 x.f5 x.f6 x.f7 y.f0 y.f1 y.f2 y.f3 y.f4 y.f5 y.f6 y.f7 = some (lineCmp x y) := by
  unfold storemanref09_Compare.f lineCmp
  by_cases h1 : x.f4 < y.f4
  · rw [if_pos h1, if_pos h1]
  · rw [if_neg h1, if_neg h1]
    by_cases h2 : x.f4 > y.f4
    · rw [if_pos h2, if_pos h2]
    · rw [if_neg h2, if_neg h2]
      by_cases h3 : x.f0 < y.f0
      · rw [if_pos h3, if_pos h3]
      · rw [if_neg h3, if_neg h3]
        by_cases h4 : x.f0 > y.f0
        · rw [if_pos h4, if_pos h4]
        · rw [if_neg h4, if_neg h4]
theorem awake_is : storemanlaw09_awake.f 20 = some true := by kernel_rfl
end Go.Proofs.Ytokmkjgbhlcngaa.Q
namespace Go.Proofs.Ytokmkjgbhlcngaa.Pure
open Go.RowKit Go.Proofs.YtokmkjgbhlcngaaW.PrintWords Go.Proofs.YtokmkjgbhlcngaaW.PrintLast Go.Proofs.YtokmkjgbhlcngaaW.PrintMore Go.Proofs.Ytokmkjgbhlcngaa.G Go.Proofs.Ytokmkjgbhlcngaa.Q
theorem RankRights : Q.SayRankRights.Pure := by
  intro x y _ _
  refine ⟨20, ?_⟩
  unfold storemanlaw09_RankRights.f
  obtain ⟨r, hr⟩ := right_some 20 (by omega) x.f0 x.f1 x.f2 x.f3 x.f4 x.f5 x.f6 x.f7
  rw [right_eq 20 (by omega), hr, Option.bind_some, Option.bind_some, if_pos (by simp), lineCmp_is x y 17, Option.bind_some, refCmp_is x y, Option.bind_some, if_pos rfl, awake_is, Option.bind_some]
end Go.Proofs.Ytokmkjgbhlcngaa.Pure
