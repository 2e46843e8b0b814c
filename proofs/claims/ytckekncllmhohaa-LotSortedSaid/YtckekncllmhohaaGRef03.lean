/- storemanref03.Right: the same bytes are a code. -/
import Derived.Test.YtckekncllmhohaaGCodeR
import Derived.Test.YtckekncllmhohaaQ2
namespace Go.Proofs.Ytckekncllmhohaa.Q
open Go.RowKit Go.Proofs.YtckekncllmhohaaW.PrintWords Go.Proofs.YtckekncllmhohaaW.PrintLast Go.Proofs.YtckekncllmhohaaW.PrintMore Go.Proofs.Ytckekncllmhohaa.G
set_option linter.unusedVariables false
set_option linter.unusedSimpArgs false
set_option linter.all false

theorem bt_at (s : ByteArray) (i : Nat) (h : i < s.size) : bt s (i : Int) = ((s[i]'h).toNat : Int) := by
  unfold bt
  simp [h]
theorem ref03_l0 (s : ByteArray) (hs : s.size ≤ 12) (d : Nat) : ∀ (k i : Nat), i ≤ s.size → s.size - i = d → d < k → storemanref03_Right.l0 k s (i : Int) = some (okFrom i ((bytesOf s).drop i)) := by
  induction d with
  | zero =>
    intro k i hi hd hk
    obtain ⟨k, rfl⟩ : ∃ m, k = m + 1 := ⟨k - 1, by omega⟩
    simp only [storemanref03_Right.l0]
    rw [if_neg (by omega), okFrom_drop_all s i (by omega)]
  | succ d ih =>
    intro k i hi hd hk
    obtain ⟨k, rfl⟩ : ∃ m, k = m + 1 := ⟨k - 1, by omega⟩
    have hlt : i < s.size := by omega
    simp only [storemanref03_Right.l0]
    have hw : wrap64 ((i : Int) + 1) = ((i + 1 : Nat) : Int) := by unfold wrap64; omega
    rw [if_pos (by omega), if_pos (by omega), hw, ih k (i + 1) (by omega) (by omega) (by omega), bt_at s i hlt, bytesOf_drop s i hlt]
    have hz : ((i : Int) = 0) ↔ (i = 0) := by omega
    generalize ((s[i]'hlt).toNat : Int) = c
    generalize (bytesOf s).drop (i + 1) = r
    show _ = some (okAt i c && okFrom (i + 1) r)
    unfold okAt
    by_cases h1 : 65 ≤ c
    · by_cases h2 : c ≤ 90
      · have h4 : ¬ c ≤ 57 := by omega
        simp [h1, h2, h4]
      · have h4 : ¬ c ≤ 57 := by omega
        have h5 : ¬ c = 45 := by omega
        by_cases h0 : i = 0
        · simp [h1, h2, h4, h5, h0]
        · simp [h1, h2, h4, h5, h0, hz]
    · by_cases h3 : 48 ≤ c
      · by_cases h4 : c ≤ 57
        · by_cases h0 : i = 0
          · simp [h1, h3, h4, h0]
          · have hp : 0 < i := by omega
            simp [h1, h3, h4, h0, hz, hp]
        · have h5 : ¬ c = 45 := by omega
          by_cases h0 : i = 0
          · simp [h1, h3, h4, h5, h0]
          · simp [h1, h3, h4, h5, h0, hz]
      · by_cases h5 : c = 45
        · subst h5
          by_cases h0 : i = 0
          · simp [h0]
          · have hp : 0 < i := by omega
            simp [h0, hz, hp]
        · by_cases h0 : i = 0
          · simp [h1, h3, h5, h0]
          · simp [h1, h3, h5, h0, hz]
theorem ref03_is (s : ByteArray) (k : Nat) (hk : 15 ≤ k) : storemanref03_Right.f k s = some (codeB (bytesOf s)) := by
  obtain ⟨k, rfl⟩ : ∃ m, k = m + 1 := ⟨k - 1, by omega⟩
  unfold storemanref03_Right.f codeB
  simp only [storemanref03_Right.j0]
  have hl := bytesOf_length s
  have he : (bytesOf s).isEmpty = decide (s.size = 0) := by
    rw [← hl]
    cases bytesOf s with
    | nil => rfl
    | cons a t => simp
  by_cases h1 : (s.size : Int) < 1
  · have h0 : s.size = 0 := by omega
    rw [if_pos h1, he]
    simp [h0]
  · rw [if_neg h1]
    by_cases h2 : (s.size : Int) > 12
    · have h3 : ¬ s.size ≤ 12 := by omega
      rw [hl]
      simp [h2, h3]
    · have h3 : s.size ≤ 12 := by omega
      have h4 : ¬ s.size = 0 := by omega
      have := ref03_l0 s h3 s.size k 0 (by omega) (by omega) (by omega)
      rw [show (0 : Int) = ((0 : Nat) : Int) from rfl, this, hl, he]
      simp [h2, h3, h4]
end Go.Proofs.Ytckekncllmhohaa.Q
