/- tell.Put as a list of bytes. -/
import Derived.Test.YtgcgcgmpihjnaaaQ10
import Derived.Test.YtgcgcgmpihjnaaaGRight
import Derived.Test.YtgcgcgmpihjnaaaGCodeL
namespace Go.Proofs.Ytgcgcgmpihjnaaa.Q
open Go.RowKit Go.Proofs.YtgcgcgmpihjnaaaW.PrintWords Go.Proofs.YtgcgcgmpihjnaaaW.PrintLast Go.Proofs.YtgcgcgmpihjnaaaW.PrintMore Go.Proofs.Ytgcgcgmpihjnaaa.G
set_option linter.unusedVariables false
set_option linter.unusedSimpArgs false

theorem put_step (k : Nat) (x : List Int) (n : Int) (j : Int) (D : Int) (h0 : 0 ≤ j) (h7 : j ≤ 7) (hl : x.length < 140737488355328) (hD : (2 : Int) ^ (8 * j).toNat = D) :
    tell_put.l0 (k + 1) x n j = tell_put.l0 k (x ++ [n / D % 256]) n (j - 1) := by
  simp only [tell_put.l0]
  have w1 : wrap64 (8 * j) = 8 * j := wrap_id (by omega) (by omega)
  have w2 : wrap64 (j - 1) = j - 1 := wrap_id (by omega) (by omega)
  rw [if_pos (show j ≥ 0 from h0), w1, w2, if_pos (by omega), if_pos hl]
  unfold shr
  rw [Nat.min_eq_left (show (8 * j).toNat ≤ IntKind.i64.bits from by rw [show IntKind.i64.bits = 64 from rfl]; omega), hD]
theorem put_end (k : Nat) (x : List Int) (n : Int) : tell_put.l0 (k + 1) x n (-1) = some x := by
  simp only [tell_put.l0]
  rw [if_neg (by decide)]
theorem tell_put_1 (k : Nat) (hk : 9 ≤ k) (x : List Int) (n : Int) (hl : x.length + 8 < 140737488355328) : tell_put.f k x n 1 = some (x ++ b1 n) := by
  obtain ⟨m, rfl⟩ : ∃ m, k = m + 9 := ⟨k - 9, by omega⟩
  unfold tell_put.f
  rw [show wrap64 (1 - 1) = 0 from by unfold wrap64; omega]
  rw [put_step (m + 8) x n 0 1 (by decide) (by decide) (by omega) (by decide), show (0 : Int) - 1 = -1 from rfl, put_end]
  unfold b1
  rw [Int.ediv_one]
theorem tell_put_2 (k : Nat) (hk : 9 ≤ k) (x : List Int) (n : Int) (hl : x.length + 8 < 140737488355328) : tell_put.f k x n 2 = some (x ++ b2 n) := by
  obtain ⟨m, rfl⟩ : ∃ m, k = m + 9 := ⟨k - 9, by omega⟩
  unfold tell_put.f
  rw [show wrap64 (2 - 1) = 1 from by unfold wrap64; omega]
  rw [put_step (m + 8) x n 1 256 (by decide) (by decide) (by omega) (by decide), show (1 : Int) - 1 = 0 from rfl]
  rw [put_step (m + 7) _ n 0 1 (by decide) (by decide) (by simp only [List.length_append, List.length_cons, List.length_nil]; omega) (by decide), show (0 : Int) - 1 = -1 from rfl, put_end]
  unfold b2
  rw [Int.ediv_one, List.append_assoc]
  rfl
theorem tell_put_8 (k : Nat) (hk : 9 ≤ k) (x : List Int) (n : Int) (hl : x.length + 8 < 140737488355328) : tell_put.f k x n 8 = some (x ++ b8 n) := by
  obtain ⟨m, rfl⟩ : ∃ m, k = m + 9 := ⟨k - 9, by omega⟩
  unfold tell_put.f
  rw [show wrap64 (8 - 1) = 7 from by unfold wrap64; omega]
  rw [put_step (m + 8) x n 7 72057594037927936 (by decide) (by decide) (by omega) (by decide), show (7 : Int) - 1 = 6 from rfl]
  rw [put_step (m + 7) _ n 6 281474976710656 (by decide) (by decide) (by simp only [List.length_append, List.length_cons, List.length_nil]; omega) (by decide), show (6 : Int) - 1 = 5 from rfl]
  rw [put_step (m + 6) _ n 5 1099511627776 (by decide) (by decide) (by simp only [List.length_append, List.length_cons, List.length_nil]; omega) (by decide), show (5 : Int) - 1 = 4 from rfl]
  rw [put_step (m + 5) _ n 4 4294967296 (by decide) (by decide) (by simp only [List.length_append, List.length_cons, List.length_nil]; omega) (by decide), show (4 : Int) - 1 = 3 from rfl]
  rw [put_step (m + 4) _ n 3 16777216 (by decide) (by decide) (by simp only [List.length_append, List.length_cons, List.length_nil]; omega) (by decide), show (3 : Int) - 1 = 2 from rfl]
  rw [put_step (m + 3) _ n 2 65536 (by decide) (by decide) (by simp only [List.length_append, List.length_cons, List.length_nil]; omega) (by decide), show (2 : Int) - 1 = 1 from rfl]
  rw [put_step (m + 2) _ n 1 256 (by decide) (by decide) (by simp only [List.length_append, List.length_cons, List.length_nil]; omega) (by decide), show (1 : Int) - 1 = 0 from rfl]
  rw [put_step (m + 1) _ n 0 1 (by decide) (by decide) (by simp only [List.length_append, List.length_cons, List.length_nil]; omega) (by decide), show (0 : Int) - 1 = -1 from rfl, put_end]
  unfold b8
  rw [Int.ediv_one]
  simp only [List.append_assoc, List.cons_append, List.nil_append]

theorem b1_length (n : Int) : (b1 n).length = 1 := rfl
theorem b2_length (n : Int) : (b2 n).length = 2 := rfl
theorem b8_length (n : Int) : (b8 n).length = 8 := rfl
def lotBytes (x : S55) : List Int := b8 x.f0 ++ codeBytes x.f1 ++ b2 x.f2.f0 ++ b2 x.f2.f1 ++ b8 x.f3 ++ b1 (if x.f4 then 1 else 0)
def useBytes (x : S57) : List Int := b8 x.f0 ++ b8 x.f1 ++ b8 x.f2
def tellBytes (err id day : Int) (code : ByteArray) (state : Int) (ls : List S55) (us : List S57) : List Int :=
  if 0 < err then b2 err else b2 err ++ b8 id ++ b2 (day + 1) ++ codeBytes code ++ [state] ++ b2 (ls.length : Int) ++ ls.flatMap lotBytes ++ b2 (us.length : Int) ++ us.flatMap useBytes

theorem code_Put_is {s : ByteArray} (h : s.toList = [] ∨ codeB (bytesOf s) = true) : code_Put.f s = some (codeBytes s) := by
  unfold code_Put.f
  rw [if_pos h]; rfl
theorem codeBytes_length {s : ByteArray} (h : s.toList = [] ∨ codeB (bytesOf s) = true) : (codeBytes s).length ≤ 13 := by
  unfold codeBytes
  rw [List.length_cons]
  rcases h with h | h
  · rw [bytesOf_length, size_of_empty h]; omega
  · have := codeB_len h; omega
theorem lotB_code {x : S55} (h : lotB x = true) : codeB (bytesOf x.f1) = true := by
  unfold lotB at h
  simp only [Bool.and_eq_true] at h
  exact h.2.1
theorem lotBytes_length {x : S55} (h : lotB x = true) : (lotBytes x).length ≤ 34 := by
  unfold lotBytes
  have := codeBytes_length (Or.inr (lotB_code h))
  simp only [List.length_append, b8_length, b2_length, b1_length]
  omega
theorem useBytes_length (x : S57) : (useBytes x).length = 24 := rfl

theorem tell_Put_l1 (us : List S57) (hu : us.length ≤ 2000) (d : Nat) : ∀ (k i : Nat) (x : List Int), i ≤ us.length → us.length - i = d → d + 10 ≤ k → x.length + 24 * d < 1000000 →
    tell_Put.l1 k x us (us.length : Int) (i : Int) = some (x ++ (us.drop i).flatMap useBytes, 0) := by
  induction d with
  | zero =>
    intro k i x hi hd hk hx
    obtain ⟨k, rfl⟩ : ∃ m, k = m + 1 := ⟨k - 1, by omega⟩
    simp only [tell_Put.l1]
    rw [if_neg (by omega), List.drop_of_length_le (by omega)]
    simp
  | succ d ih =>
    intro k i x hi hd hk hx
    obtain ⟨k, rfl⟩ : ∃ m, k = m + 1 := ⟨k - 1, by omega⟩
    have hlt : i < us.length := by omega
    simp only [tell_Put.l1]
    rw [if_pos (by omega), if_pos (by omega), if_pos (by omega)]
    have hr : rd_T57 us (i : Int) = us.getD i z57 := rfl
    rw [hr, rd_drop us z57 i hlt, List.flatMap_cons]
    generalize us.getD i z57 = u
    have hw : wrap64 ((i : Int) + 1) = ((i + 1 : Nat) : Int) := by rw [wrap_id (by omega) (by omega)]; rfl
    rw [tell_put_8 k (by omega) x u.f0 (by omega), Option.bind_some, tell_put_8 k (by omega) _ u.f1 (by simp only [List.length_append, b8_length]; omega), Option.bind_some, tell_put_8 k (by omega) _ u.f2 (by simp only [List.length_append, b8_length]; omega), Option.bind_some, hw]
    rw [ih k (i + 1) _ (by omega) (by omega) (by omega) (by simp only [List.length_append, b8_length]; omega)]
    unfold useBytes
    simp only [List.append_assoc]

theorem tell_Put_l0 (err id day : Int) (code : ByteArray) (state : Int) (ls : List S55) (us : List S57) (hl : ls.length ≤ 300) (hu : us.length ≤ 2000) (hb : ls.all lotB = true) (d : Nat) : ∀ (k i : Nat) (x : List Int), i ≤ ls.length → ls.length - i = d → d + 2012 ≤ k → x.length + 34 * d < 100000 →
    tell_Put.l0 k x ls (ls.length : Int) (i : Int) err id day code state ls us = some (x ++ ((ls.drop i).flatMap lotBytes ++ (b2 (us.length : Int) ++ us.flatMap useBytes)), 0) := by
  induction d with
  | zero =>
    intro k i x hi hd hk hx
    obtain ⟨k, rfl⟩ : ∃ m, k = m + 1 := ⟨k - 1, by omega⟩
    simp only [tell_Put.l0]
    rw [if_neg (by omega), List.drop_of_length_le (by omega), tell_put_2 k (by omega) x _ (by omega), Option.bind_some]
    have h1 := tell_Put_l1 us hu us.length k 0 (x ++ b2 (us.length : Int)) (by omega) (by omega) (by omega) (by simp only [List.length_append, b2_length]; omega)
    rw [show (0 : Int) = ((0 : Nat) : Int) from rfl, h1]
    simp only [List.drop_zero, List.flatMap_nil, List.nil_append, List.append_assoc]
    rfl
  | succ d ih =>
    intro k i x hi hd hk hx
    obtain ⟨k, rfl⟩ : ∃ m, k = m + 1 := ⟨k - 1, by omega⟩
    have hlt : i < ls.length := by omega
    simp only [tell_Put.l0]
    rw [if_pos (by omega), if_pos (by omega), if_pos (by omega)]
    have hr : rd_T55 ls (i : Int) = ls.getD i z55 := rfl
    have hm : lotB (ls.getD i z55) = true := by
      rw [List.getD_eq_getElem?_getD, List.getElem?_eq_getElem hlt]
      exact List.all_eq_true.mp hb _ (List.getElem_mem hlt)
    rw [hr, rd_drop ls z55 i hlt, List.flatMap_cons]
    generalize ls.getD i z55 = u at hm
    have hw : wrap64 ((i : Int) + 1) = ((i + 1 : Nat) : Int) := by rw [wrap_id (by omega) (by omega)]; rfl
    have hcl := codeBytes_length (Or.inr (lotB_code hm))
    rw [tell_put_8 k (by omega) x u.f0 (by omega), Option.bind_some, code_Put_is (Or.inr (lotB_code hm)), Option.bind_some]
    rw [if_pos (by simp only [List.length_append, b8_length]; omega)]
    rw [tell_put_2 k (by omega) _ u.f2.f0 (by simp only [List.length_append, b8_length]; omega), Option.bind_some, tell_put_2 k (by omega) _ u.f2.f1 (by simp only [List.length_append, b8_length, b2_length]; omega), Option.bind_some, tell_put_8 k (by omega) _ u.f3 (by simp only [List.length_append, b8_length, b2_length]; omega), Option.bind_some]
    cases hs : u.f4
    · rw [if_neg (by decide), tell_put_1 k (by omega) _ 0 (by simp only [List.length_append, b8_length, b2_length]; omega), Option.bind_some, hw]
      rw [ih k (i + 1) _ (by omega) (by omega) (by omega) (by simp only [List.length_append, b8_length, b2_length, b1_length]; omega)]
      unfold lotBytes
      rw [hs, if_neg (by decide)]
      simp only [List.append_assoc]
    · rw [if_pos rfl, tell_put_1 k (by omega) _ 1 (by simp only [List.length_append, b8_length, b2_length]; omega), Option.bind_some, hw]
      rw [ih k (i + 1) _ (by omega) (by omega) (by omega) (by simp only [List.length_append, b8_length, b2_length, b1_length]; omega)]
      unfold lotBytes
      rw [hs, if_pos rfl]
      simp only [List.append_assoc]

theorem rightB_err {err id day : Int} {code : ByteArray} {state : Int} {ls : List S55} {us : List S57} (h : rightB err id day code state ls us = true) : 0 ≤ err ∧ err ≤ 999 := by
  unfold rightB at h
  by_cases h1 : err < 0 ∨ 999 < err
  · rw [if_pos h1] at h; cases h
  · omega
theorem rightB_pos {err id day : Int} {code : ByteArray} {state : Int} {ls : List S55} {us : List S57} (h : rightB err id day code state ls us = true) (he : 0 < err) : id = 0 ∧ day = 0 ∧ code.toList = [] ∧ state = 0 ∧ ls = [] ∧ us = [] := by
  unfold rightB at h
  have h1 : ¬ (err < 0 ∨ 999 < err) := by
    intro h1; rw [if_pos h1] at h; cases h
  rw [if_neg h1, if_pos he] at h
  simp only [Bool.and_eq_true, decide_eq_true_eq] at h
  exact ⟨h.1, h.2.1, h.2.2.1, h.2.2.2.1, List.length_eq_zero_iff.mp h.2.2.2.2.1, List.length_eq_zero_iff.mp h.2.2.2.2.2⟩
theorem rightB_zero {err id day : Int} {code : ByteArray} {state : Int} {ls : List S55} {us : List S57} (h : rightB err id day code state ls us = true) (he : ¬ 0 < err) : err = 0 ∧ 0 ≤ id ∧ -1 ≤ day ∧ day ≤ 4000 ∧ (code.toList = [] ∨ codeB (bytesOf code) = true) ∧ state ≤ 3 ∧ ls.length ≤ 300 ∧ us.length ≤ 2000 ∧ ls.all lotB = true ∧ us.all useB = true := by
  have h0 := rightB_err h
  unfold rightB at h
  rw [if_neg (by omega), if_neg he] at h
  simp only [Bool.and_eq_true, Bool.or_eq_true, decide_eq_true_eq] at h
  obtain ⟨h1, h2, h3, h4, h5, h6, h7, h8, h9⟩ := h
  exact ⟨by omega, h1, h2, h3, h4, h5, h6, h7, h8, h9⟩

/-- A right answer's bytes. -/
theorem tell_Put_right (k : Nat) (hk : 2500 ≤ k) (err id day : Int) (code : ByteArray) (state : Int) (ls : List S55) (us : List S57) (h : rightB err id day code state ls us = true) (hl : ls.length ≤ 1152921504606846976) (hu : us.length ≤ 1152921504606846976) :
    tell_Put.f k err id day code state ls us = some (tellBytes err id day code state ls us, 0) := by
  unfold tell_Put.f
  rw [tell_Right_is err id day code state ls us hl hu k (by omega), h, Option.bind_some, if_pos rfl, tell_put_2 k (by omega) [] err (by simp), Option.bind_some, List.nil_append]
  by_cases he : 0 < err
  · rw [if_pos he]
    unfold tellBytes
    rw [if_pos he]
  · obtain ⟨h0, h1, h2, h3, h4, h5, h6, h7, h8, h9⟩ := rightB_zero h he
    have hcl := codeBytes_length h4
    rw [if_neg he, tell_put_8 k (by omega) _ id (by rw [b2_length]; omega), Option.bind_some, wrap_id (by omega) (by omega), tell_put_2 k (by omega) _ (day + 1) (by simp only [List.length_append, b8_length, b2_length]; omega), Option.bind_some, code_Put_is h4, Option.bind_some]
    rw [if_pos (by simp only [List.length_append, b8_length, b2_length]; omega), Option.bind_some, if_pos (by simp only [List.length_append, b8_length, b2_length]; omega)]
    rw [tell_put_2 k (by omega) _ _ (by simp only [List.length_append, b8_length, b2_length, List.length_cons, List.length_nil]; omega), Option.bind_some]
    have := tell_Put_l0 err id day code state ls us h6 h7 h8 ls.length k 0 (b2 err ++ b8 id ++ b2 (day + 1) ++ codeBytes code ++ [state] ++ b2 (ls.length : Int)) (by omega) (by omega) (by omega) (by simp only [List.length_append, b8_length, b2_length, List.length_cons, List.length_nil]; omega)
    rw [show (0 : Int) = ((0 : Nat) : Int) from rfl, this]
    unfold tellBytes
    rw [if_neg he]
    simp only [List.append_assoc, List.drop_zero]
    rfl
theorem tell_Put_wrong (k : Nat) (hk : 2500 ≤ k) (err id day : Int) (code : ByteArray) (state : Int) (ls : List S55) (us : List S57) (h : rightB err id day code state ls us = false) (hl : ls.length ≤ 1152921504606846976) (hu : us.length ≤ 1152921504606846976) :
    tell_Put.f k err id day code state ls us = some ([], 2) := by
  unfold tell_Put.f
  rw [tell_Right_is err id day code state ls us hl hu k (by omega), h, Option.bind_some, if_neg (by decide)]
end Go.Proofs.Ytgcgcgmpihjnaaa.Q
