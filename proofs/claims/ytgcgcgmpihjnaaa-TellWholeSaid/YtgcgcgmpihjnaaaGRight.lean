/- tell.Right, lot.Right: what they answer, as plain Bool functions. -/
import Derived.Test.YtgcgcgmpihjnaaaQ9
namespace Go.Proofs.Ytgcgcgmpihjnaaa.Q
open Go.RowKit Go.Proofs.YtgcgcgmpihjnaaaW.PrintWords Go.Proofs.YtgcgcgmpihjnaaaW.PrintLast Go.Proofs.YtgcgcgmpihjnaaaW.PrintMore Go.Proofs.Ytgcgcgmpihjnaaa.G

def lotB (x : S55) : Bool := decide (0 < x.f0) && (codeB (bytesOf x.f1) && (decide (0 ≤ x.f2.f0) && (decide (x.f2.f0 < x.f2.f1) && (decide (x.f2.f1 ≤ 4001) && (decide (0 < x.f3) && decide (x.f3 ≤ 1073741824))))))
def useB (x : S57) : Bool := decide (0 ≤ x.f0) && (decide (1 ≤ x.f1) && decide (1 ≤ x.f2))
def rightB (err id day : Int) (code : ByteArray) (state : Int) (lots : List S55) (uses : List S57) : Bool :=
  if err < 0 ∨ 999 < err then false
  else if 0 < err then decide (id = 0) && (decide (day = 0) && (decide (code.toList = []) && (decide (state = 0) && (decide (lots.length = 0) && decide (uses.length = 0)))))
  else decide (0 ≤ id) && (decide (-1 ≤ day) && (decide (day ≤ 4000) && ((decide (code.toList = []) || codeB (bytesOf code)) && (decide (state ≤ 3) && (decide (lots.length ≤ 300) && (decide (uses.length ≤ 2000) && (lots.all lotB && uses.all useB)))))))

theorem lot_Right_is (x : S55) : lot_Right.f x.f0 x.f1 x.f2.f0 x.f2.f1 x.f3 x.f4 = some (lotB x) := by
  unfold lot_Right.f code_Right.f window_Right.f lotB
  by_cases h0 : x.f0 > 0
  · rw [if_pos h0]
    cases hc : codeB (bytesOf x.f1)
    · simp
    · by_cases h1 : 0 ≤ x.f2.f0
      · by_cases h2 : x.f2.f0 ≤ x.f2.f1
        · by_cases h3 : x.f2.f1 ≤ 4001
          · by_cases h4 : x.f2.f0 < x.f2.f1
            · by_cases h5 : x.f3 > 0
              · have h5' : 0 < x.f3 := h5
                have h0' : 0 < x.f0 := h0
                simp [h0', h1, h2, h3, h4, h5']
              · have h5' : ¬ 0 < x.f3 := h5
                simp [h1, h2, h3, h4, h5']
            · simp [h1, h2, h3, h4]
          · simp [h1, h2, h3]
        · have h4 : ¬ x.f2.f0 < x.f2.f1 := by omega
          simp [h1, h2, h4]
      · simp [h1]
  · rw [if_neg h0]
    have : ¬ 0 < x.f0 := h0
    simp [this]

theorem wrap_id {i : Int} (h0 : -9223372036854775808 ≤ i) (h : i ≤ 9223372036854775807) : wrap64 i = i := by unfold wrap64; omega
theorem rd_drop {α : Type} (l : List α) (z : α) (i : Nat) (h : i < l.length) : l.drop i = l.getD i z :: l.drop (i + 1) := by
  rw [List.drop_eq_getElem_cons h]
  simp [List.getD_eq_getElem?_getD, List.getElem?_eq_getElem h]

theorem tell_Right_l1 (us : List S57) (hu : us.length ≤ 2000) (d : Nat) : ∀ (k i : Nat), i ≤ us.length → us.length - i = d → d < k →
    tell_Right.l1 k us (us.length : Int) (i : Int) = some ((us.drop i).all useB) := by
  induction d with
  | zero =>
    intro k i hi hd hk
    obtain ⟨k, rfl⟩ : ∃ m, k = m + 1 := ⟨k - 1, by omega⟩
    simp only [tell_Right.l1]
    rw [if_neg (by omega), List.drop_of_length_le (by omega)]
    rfl
  | succ d ih =>
    intro k i hi hd hk
    obtain ⟨k, rfl⟩ : ∃ m, k = m + 1 := ⟨k - 1, by omega⟩
    have hlt : i < us.length := by omega
    simp only [tell_Right.l1]
    rw [if_pos (by omega), if_pos (by omega), if_pos (by omega)]
    have hr : rd_T57 us (i : Int) = us.getD i z57 := rfl
    rw [hr, rd_drop us z57 i hlt, List.all_cons]
    generalize us.getD i z57 = u
    have hw : wrap64 ((i : Int) + 1) = ((i + 1 : Nat) : Int) := by rw [wrap_id (by omega) (by omega)]; rfl
    by_cases h1 : u.f0 < 0
    · rw [if_pos h1]
      have : useB u = false := by unfold useB; rw [decide_eq_false (by omega : ¬ 0 ≤ u.f0)]; rfl
      rw [this]; rfl
    · rw [if_neg h1]
      by_cases h2 : u.f1 < 1
      · rw [if_pos h2]
        have : useB u = false := by unfold useB; rw [decide_eq_false (by omega : ¬ 1 ≤ u.f1)]; simp
        rw [this]; rfl
      · rw [if_neg h2]
        by_cases h3 : u.f2 < 1
        · rw [if_pos h3]
          have : useB u = false := by unfold useB; rw [decide_eq_false (by omega : ¬ 1 ≤ u.f2)]; simp
          rw [this]; rfl
        · rw [if_neg h3, hw, ih k (i + 1) (by omega) (by omega) (by omega)]
          have : useB u = true := by unfold useB; rw [decide_eq_true (by omega : 0 ≤ u.f0), decide_eq_true (by omega : 1 ≤ u.f1), decide_eq_true (by omega : 1 ≤ u.f2)]; rfl
          rw [this, Bool.true_and]

theorem tell_Right_l0 (err id day : Int) (code : ByteArray) (state : Int) (ls : List S55) (us : List S57) (hl : ls.length ≤ 300) (hu : us.length ≤ 2000) (d : Nat) : ∀ (k i : Nat), i ≤ ls.length → ls.length - i = d → d + 2001 < k →
    tell_Right.l0 k ls (ls.length : Int) (i : Int) err id day code state ls us = some ((ls.drop i).all lotB && us.all useB) := by
  induction d with
  | zero =>
    intro k i hi hd hk
    obtain ⟨k, rfl⟩ : ∃ m, k = m + 1 := ⟨k - 1, by omega⟩
    simp only [tell_Right.l0]
    have h0 := tell_Right_l1 us hu us.length k 0 (by omega) (by omega) (by omega)
    rw [if_neg (by omega), List.drop_of_length_le (by omega), show (0 : Int) = ((0 : Nat) : Int) from rfl, h0]
    rfl
  | succ d ih =>
    intro k i hi hd hk
    obtain ⟨k, rfl⟩ : ∃ m, k = m + 1 := ⟨k - 1, by omega⟩
    have hlt : i < ls.length := by omega
    simp only [tell_Right.l0]
    rw [if_pos (by omega), if_pos (by omega), if_pos (by omega)]
    have hr : rd_T55 ls (i : Int) = ls.getD i z55 := rfl
    rw [hr, rd_drop ls z55 i hlt, List.all_cons, lot_Right_is, Option.bind_some]
    generalize ls.getD i z55 = x
    have hw : wrap64 ((i : Int) + 1) = ((i + 1 : Nat) : Int) := by rw [wrap_id (by omega) (by omega)]; rfl
    cases hx : lotB x
    · rfl
    · rw [if_pos rfl, hw, ih k (i + 1) (by omega) (by omega) (by omega), Bool.true_and]

theorem tell_Right_is (err id day : Int) (code : ByteArray) (state : Int) (ls : List S55) (us : List S57) (hl : ls.length ≤ 1152921504606846976) (hu : us.length ≤ 1152921504606846976) (k : Nat) (hk : 2400 ≤ k) :
    tell_Right.f k err id day code state ls us = some (rightB err id day code state ls us) := by
  have hj2 : ∀ m, 2305 ≤ m → ls.length ≤ 300 → us.length ≤ 2000 → tell_Right.j2 m err id day code state ls us = some (ls.all lotB && us.all useB) := by
    intro m hm h1 h2
    obtain ⟨m, rfl⟩ : ∃ q, m = q + 1 := ⟨m - 1, by omega⟩
    simp only [tell_Right.j2]
    have := tell_Right_l0 err id day code state ls us h1 h2 ls.length m 0 (by omega) (by omega) (by omega)
    rw [show (0 : Int) = ((0 : Nat) : Int) from rfl, this]
    rfl
  have hj1 : ∀ m x3, 2306 ≤ m → tell_Right.j1 m x3 false err id day code state ls us = some (if 0 < err then x3 else decide (0 ≤ id) && (decide (-1 ≤ day) && (decide (day ≤ 4000) && ((decide (code.toList = []) || codeB (bytesOf code)) && (decide (state ≤ 3) && (decide (ls.length ≤ 300) && (decide (us.length ≤ 2000) && (ls.all lotB && us.all useB)))))))) := by
    intro m x3 hm
    obtain ⟨m, rfl⟩ : ∃ q, m = q + 1 := ⟨m - 1, by omega⟩
    simp only [tell_Right.j1]
    rw [if_neg (by decide)]
    by_cases h0 : err > 0
    · rw [if_pos h0, if_pos (show 0 < err from h0)]
    · rw [if_neg h0, if_neg (show ¬ 0 < err from h0)]
      by_cases h1 : id < 0
      · rw [if_pos h1, decide_eq_false (by omega : ¬ 0 ≤ id)]; rfl
      · rw [if_neg h1, decide_eq_true (by omega : 0 ≤ id), Bool.true_and]
        by_cases h2 : day < -1
        · rw [if_pos h2, decide_eq_false (by omega : ¬ -1 ≤ day)]; rfl
        · rw [if_neg h2, decide_eq_true (by omega : -1 ≤ day), Bool.true_and]
          by_cases h3 : day > 4000
          · rw [if_pos h3, decide_eq_false (by omega : ¬ day ≤ 4000)]; rfl
          · rw [if_neg h3, decide_eq_true (by omega : day ≤ 4000), Bool.true_and]
            have tail : (if state > 3 then (some false) else (if (ls.length : Int) > 300 then (some false) else (if (us.length : Int) > 2000 then (some false) else (tell_Right.j2 m err id day code state ls us)))) = some (decide (state ≤ 3) && (decide (ls.length ≤ 300) && (decide (us.length ≤ 2000) && (ls.all lotB && us.all useB)))) := by
              by_cases h5 : state > 3
              · rw [if_pos h5, decide_eq_false (by omega : ¬ state ≤ 3)]; rfl
              · rw [if_neg h5, decide_eq_true (by omega : state ≤ 3), Bool.true_and]
                by_cases h6 : (ls.length : Int) > 300
                · rw [if_pos h6, decide_eq_false (by omega : ¬ ls.length ≤ 300)]; rfl
                · rw [if_neg h6, decide_eq_true (by omega : ls.length ≤ 300), Bool.true_and]
                  by_cases h7 : (us.length : Int) > 2000
                  · rw [if_pos h7, decide_eq_false (by omega : ¬ us.length ≤ 2000)]; rfl
                  · rw [if_neg h7, decide_eq_true (by omega : us.length ≤ 2000), Bool.true_and, hj2 m (by omega) (by omega) (by omega)]
            by_cases h4 : code.toList = ([] : List UInt8)
            · rw [if_pos h4, tail, decide_eq_true h4, Bool.true_or, Bool.true_and]
            · rw [if_neg h4, decide_eq_false h4, Bool.false_or]
              unfold code_Right.f
              rw [Option.bind_some]
              cases hc : codeB (bytesOf code)
              · rfl
              · rw [if_pos rfl, tail, Bool.true_and]
  have hj0 : ∀ m x3, 2307 ≤ m → tell_Right.j0 m x3 err id day code state ls us = some (if err < 0 ∨ 999 < err then false else if 0 < err then x3 else decide (0 ≤ id) && (decide (-1 ≤ day) && (decide (day ≤ 4000) && ((decide (code.toList = []) || codeB (bytesOf code)) && (decide (state ≤ 3) && (decide (ls.length ≤ 300) && (decide (us.length ≤ 2000) && (ls.all lotB && us.all useB)))))))) := by
    intro m x3 hm
    obtain ⟨m, rfl⟩ : ∃ q, m = q + 2 := ⟨m - 2, by omega⟩
    simp only [tell_Right.j0]
    by_cases h0 : err < 0
    · rw [if_pos h0, if_pos (Or.inl h0)]
      simp only [tell_Right.j1]
      rfl
    · rw [if_neg h0]
      by_cases h1 : err > 999
      · rw [if_pos (Or.inr h1), decide_eq_true h1]
        simp only [tell_Right.j1]
        rfl
      · rw [if_neg (by omega), decide_eq_false h1, hj1 (m + 1) x3 (by omega)]
  have hw : (wrap64 ((ls.length : Int) + (us.length : Int)) == 0) = (decide (ls.length = 0) && decide (us.length = 0)) := by
    rw [wrap_id (by omega) (by omega)]
    by_cases h1 : ls.length = 0
    · by_cases h2 : us.length = 0
      · rw [h1, h2]; rfl
      · rw [decide_eq_false h2, Bool.and_false, beq_eq_false_iff_ne]
        omega
    · rw [decide_eq_false h1]
      rw [Bool.false_and, beq_eq_false_iff_ne]
      omega
  unfold tell_Right.f rightB
  by_cases h1 : id = 0
  · rw [if_pos h1]
    by_cases h2 : day = 0
    · rw [if_pos h2]
      by_cases h3 : code.toList = ([] : List UInt8)
      · rw [if_pos h3]
        by_cases h4 : state = 0
        · rw [if_pos h4, hj0 k _ (by omega), hw, decide_eq_true h1, decide_eq_true h2, decide_eq_true h3, decide_eq_true h4, Bool.true_and, Bool.true_and, Bool.true_and, Bool.true_and]
        · rw [if_neg h4, hj0 k _ (by omega), decide_eq_false h4]
          simp
      · rw [if_neg h3, hj0 k _ (by omega), decide_eq_false h3]
        simp
    · rw [if_neg h2, hj0 k _ (by omega), decide_eq_false h2]
      simp
  · rw [if_neg h1, hj0 k _ (by omega), decide_eq_false h1]
    simp
end Go.Proofs.Ytgcgcgmpihjnaaa.Q
