/- TellBack, without the program. -/
import Derived.Test.YtgcgcgmpihjnaaaGBack
import Derived.Test.YtgcgcgmpihjnaaaQ3
import Derived.Test.YtgcgcgmpihjnaaaQ12
namespace Go.Proofs.Ytgcgcgmpihjnaaa.Q
open Go.RowKit Go.Proofs.YtgcgcgmpihjnaaaW.PrintWords Go.Proofs.YtgcgcgmpihjnaaaW.PrintLast Go.Proofs.YtgcgcgmpihjnaaaW.PrintMore Go.Proofs.Ytgcgcgmpihjnaaa.G
set_option linter.unusedVariables false
set_option linter.unusedSimpArgs false

theorem sameBytes_refl (l : List Int) (hl : l.length ≤ 140737488355328) (d : Nat) : ∀ (k i : Nat), i ≤ l.length → l.length - i = d → d < k → storemankit_SameBytes.l0 k l l (i : Int) = some true := by
  induction d with
  | zero =>
    intro k i hi hd hk
    obtain ⟨k, rfl⟩ : ∃ m, k = m + 1 := ⟨k - 1, by omega⟩
    simp only [storemankit_SameBytes.l0]
    rw [if_neg (by omega)]
  | succ d ih =>
    intro k i hi hd hk
    obtain ⟨k, rfl⟩ : ∃ m, k = m + 1 := ⟨k - 1, by omega⟩
    simp only [storemankit_SameBytes.l0]
    have hw : wrap64 ((i : Int) + 1) = ((i + 1 : Nat) : Int) := by rw [wrap_id (by omega) (by omega)]; rfl
    rw [if_pos (by omega), if_pos (by omega), if_pos (by omega), if_pos trivial, hw, ih k (i + 1) (by omega) (by omega) (by omega)]
theorem sameBytes_is (k : Nat) (l : List Int) (hl : l.length ≤ 140737488355328) (hk : l.length < k) : storemankit_SameBytes.f k l l = some true := by
  unfold storemankit_SameBytes.f
  rw [if_pos rfl]
  exact sameBytes_refl l hl l.length k 0 (by omega) (by omega) hk
theorem sameLots_refl (l : List S55) (hl : l.length ≤ 140737488355328) (d : Nat) : ∀ (k i : Nat), i ≤ l.length → l.length - i = d → d < k → storemankit_SameLots.l0 k l l (i : Int) = some true := by
  induction d with
  | zero =>
    intro k i hi hd hk
    obtain ⟨k, rfl⟩ : ∃ m, k = m + 1 := ⟨k - 1, by omega⟩
    simp only [storemankit_SameLots.l0]
    rw [if_neg (by omega)]
  | succ d ih =>
    intro k i hi hd hk
    obtain ⟨k, rfl⟩ : ∃ m, k = m + 1 := ⟨k - 1, by omega⟩
    simp only [storemankit_SameLots.l0]
    have hw : wrap64 ((i : Int) + 1) = ((i + 1 : Nat) : Int) := by rw [wrap_id (by omega) (by omega)]; rfl
    rw [if_pos (by omega), if_pos (by omega), if_pos (by omega), hw, ih k (i + 1) (by omega) (by omega) (by omega)]
    simp only [beq_self_eq_true, Bool.not_true, Bool.or_false, Bool.false_eq_true, if_false]
theorem sameLots_is (k : Nat) (l : List S55) (hl : l.length ≤ 140737488355328) (hk : l.length < k) : storemankit_SameLots.f k l l = some true := by
  unfold storemankit_SameLots.f
  rw [if_pos rfl]
  exact sameLots_refl l hl l.length k 0 (by omega) (by omega) hk
theorem sameUses_refl (l : List S57) (hl : l.length ≤ 140737488355328) (d : Nat) : ∀ (k i : Nat), i ≤ l.length → l.length - i = d → d < k → storemankit_SameUses.l0 k l l (i : Int) = some true := by
  induction d with
  | zero =>
    intro k i hi hd hk
    obtain ⟨k, rfl⟩ : ∃ m, k = m + 1 := ⟨k - 1, by omega⟩
    simp only [storemankit_SameUses.l0]
    rw [if_neg (by omega)]
  | succ d ih =>
    intro k i hi hd hk
    obtain ⟨k, rfl⟩ : ∃ m, k = m + 1 := ⟨k - 1, by omega⟩
    simp only [storemankit_SameUses.l0]
    have hw : wrap64 ((i : Int) + 1) = ((i + 1 : Nat) : Int) := by rw [wrap_id (by omega) (by omega)]; rfl
    rw [if_pos (by omega), if_pos (by omega), if_pos (by omega), hw, ih k (i + 1) (by omega) (by omega) (by omega)]
    simp only [beq_self_eq_true, Bool.not_true, Bool.or_false, Bool.false_eq_true, if_false]
theorem sameUses_is (k : Nat) (l : List S57) (hl : l.length ≤ 140737488355328) (hk : l.length < k) : storemankit_SameUses.f k l l = some true := by
  unfold storemankit_SameUses.f
  rw [if_pos rfl]
  exact sameUses_refl l hl l.length k 0 (by omega) (by omega) hk
theorem sameTell_is (k : Nat) (e i d : Int) (c : ByteArray) (s : Int) (ls : List S55) (us : List S57) (hl : ls.length ≤ 300) (hu : us.length ≤ 2000) (hk : 2001 ≤ k) : storemankit_SameTell.f k e i d c s ls us e i d c s ls us = some true := by
  unfold storemankit_SameTell.f
  rw [if_pos rfl, if_pos rfl, if_pos rfl, if_pos rfl, if_pos rfl, sameLots_is k ls (by omega) (by omega), Option.bind_some, if_pos rfl, sameUses_is k us (by omega) (by omega), Option.bind_some]

/-! ### the bytes are bytes -/
theorem isB_b1 (n : Int) : ∀ c ∈ b1 n, isB c := by
  intro c hc; unfold b1 at hc; simp only [List.mem_cons, List.not_mem_nil, or_false] at hc; subst hc; exact isB_mod _
theorem isB_b2 (n : Int) : ∀ c ∈ b2 n, isB c := by
  intro c hc; unfold b2 at hc; simp only [List.mem_cons, List.not_mem_nil, or_false] at hc
  rcases hc with rfl | rfl <;> exact isB_mod _
theorem isB_b8 (n : Int) : ∀ c ∈ b8 n, isB c := by
  intro c hc; unfold b8 at hc; simp only [List.mem_cons, List.not_mem_nil, or_false] at hc
  rcases hc with rfl | rfl | rfl | rfl | rfl | rfl | rfl | rfl <;> exact isB_mod _
theorem isB_app {a b : List Int} (ha : ∀ c ∈ a, isB c) (hb : ∀ c ∈ b, isB c) : ∀ c ∈ a ++ b, isB c := by
  intro c hc; rcases List.mem_append.mp hc with h | h
  · exact ha c h
  · exact hb c h
theorem isB_code (s : ByteArray) : ∀ c ∈ codeBytes s, isB c := by
  intro c hc; unfold codeBytes at hc
  rcases List.mem_cons.mp hc with rfl | h
  · exact isB_mod _
  · exact bytesOf_range s c h
theorem isB_flat {α : Type} {f : α → List Int} (hf : ∀ x, ∀ c ∈ f x, isB c) (l : List α) : ∀ c ∈ l.flatMap f, isB c := by
  intro c hc
  obtain ⟨x, _, hx⟩ := List.mem_flatMap.mp hc
  exact hf x c hx
theorem isB_tell (e i d : Int) (c : ByteArray) (s : Int) (ls : List S55) (us : List S57) (hs : isB s) : ∀ x ∈ tellBytes e i d c s ls us, isB x := by
  have h1 : ∀ x ∈ [s], isB x := by intro x hx; rw [List.mem_singleton] at hx; subst hx; exact hs
  unfold tellBytes
  split
  · exact isB_b2 _
  · exact isB_app (isB_app (isB_app (isB_app (isB_app (isB_app (isB_app (isB_app (isB_b2 _) (isB_b8 _)) (isB_b2 _)) (isB_code _)) h1) (isB_b2 _)) (isB_flat (fun x => isB_app (isB_app (isB_app (isB_app (isB_app (isB_b8 _) (isB_code _)) (isB_b2 _)) (isB_b2 _)) (isB_b8 _)) (isB_b1 _)) _)) (isB_b2 _)) (isB_flat (fun x => isB_app (isB_app (isB_b8 _) (isB_b8 _)) (isB_b8 _)) _)
theorem flat_len {α : Type} {f : α → List Int} {B : Nat} : ∀ (l : List α), (∀ x ∈ l, (f x).length ≤ B) → (l.flatMap f).length ≤ B * l.length
  | [], _ => by simp
  | x :: l, h => by
    have h1 := flat_len l (fun y hy => h y (List.mem_cons_of_mem _ hy))
    have h2 := h x List.mem_cons_self
    rw [List.flatMap_cons, List.length_append, List.length_cons, Nat.mul_succ]
    omega
theorem tellBytes_len {e i d : Int} {c : ByteArray} {s : Int} {ls : List S55} {us : List S57} (h : rightB e i d c s ls us = true) : (tellBytes e i d c s ls us).length ≤ 60000 := by
  unfold tellBytes
  by_cases he : 0 < e
  · rw [if_pos he, b2_length]; omega
  · obtain ⟨h0, h1, h2, h3, h4, h5, h6, h7, h8, h9⟩ := rightB_zero h he
    rw [if_neg he]
    have a1 := codeBytes_length h4
    have a2 := flat_len (f := lotBytes) (B := 34) ls (fun x hx => lotBytes_length (List.all_eq_true.mp h8 x hx))
    have a3 := flat_len (f := useBytes) (B := 24) us (fun x hx => by rw [useBytes_length]; omega)
    simp only [List.length_append, b2_length, b8_length, List.length_cons, List.length_nil]
    omega
theorem empty_of_toList {c : ByteArray} (h : c.toList = []) : c = (⟨#[]⟩ : ByteArray) := by
  have h1 := size_of_empty h
  apply ByteArray.ext
  exact Array.eq_empty_of_size_eq_zero h1

theorem tell_at {l : List Int} (hl : BL l) {e i d : Int} {c : ByteArray} {s : Int} {ls : List S55} {us : List S57} {Y : List Int} (h : l = tellBytes e i d c s ls us ++ Y) (hr : rightB e i d c s ls us = true)
    (hi : i < 9223372036854775808) (hs : 0 ≤ s) (hls : ∀ x ∈ ls, x.f0 < 9223372036854775808) (hus : ∀ x ∈ us, x.f0 < 9223372036854775808 ∧ x.f1 < 9223372036854775808 ∧ x.f2 < 9223372036854775808) :
    tell_Get.f l = some (e, i, d, c, s, ls, us, ((tellBytes e i d c s ls us).length : Int), 0) := by
  have he0 := rightB_err hr
  unfold tell_Get.f tell_read
  by_cases he : 0 < e
  · obtain ⟨rfl, rfl, h3, rfl, rfl, rfl⟩ := rightB_pos hr he
    obtain rfl := empty_of_toList h3
    have ht : tellBytes e 0 0 ⟨#[]⟩ 0 [] [] = b2 e := by unfold tellBytes; rw [if_pos he]
    rw [ht] at h ⊢
    have h0 : At l 0 (b2 e ++ Y) := ⟨Nat.zero_le _, by rw [List.drop_zero]; exact h⟩
    have a1 : tell_reader_number.f l 0 false 2 = some (be (b2 e), ((0 + (b2 e).length : Nat) : Int), false) := number_at h0 2 rfl (by decide)
    rw [a1, Option.bind_some, be_b2 _ (by omega) (by omega)]
    dsimp only
    rw [if_neg (by omega), Option.bind_some]
    dsimp only
    rw [if_neg (by decide), if_pos hr, b2_length]
  · obtain ⟨h0, h1, h2, h3, h4, h5, h6, h7, h8, h9⟩ := rightB_zero hr he
    subst h0
    have hst : [s] = b1 s := by unfold b1; rw [show s % 256 = s by omega]
    have ht : tellBytes 0 i d c s ls us = b2 0 ++ (b8 i ++ (b2 (d + 1) ++ (codeBytes c ++ (b1 s ++ (b2 (ls.length : Int) ++ (ls.flatMap lotBytes ++ (b2 (us.length : Int) ++ us.flatMap useBytes))))))) := by
      unfold tellBytes
      rw [if_neg he, hst]
      simp only [List.append_assoc]
    have htl : (tellBytes 0 i d c s ls us).length = 2 + 8 + 2 + (codeBytes c).length + 1 + (2 + (ls.flatMap lotBytes).length) + (2 + (us.flatMap useBytes).length) := by
      rw [ht]
      simp only [List.length_append, b2_length, b8_length, b1_length]
      omega
    rw [ht] at h
    simp only [List.append_assoc] at h
    have p0 := At.mk (l := l) (p := 0) (Nat.zero_le _) (List.drop_zero.trans h)
    have a1 : tell_reader_number.f l 0 false 2 = some (be (b2 0), ((0 + (b2 0).length : Nat) : Int), false) := number_at p0 2 rfl (by decide)
    have a2 := number_at p0.step 8 rfl (by decide)
    have a3 := number_at p0.step.step 2 rfl (by decide)
    have a4 := code_at p0.step.step.step hl h4
    have a5 := number_at p0.step.step.step.step 1 rfl (by decide)
    have a6 := list_at (ok := fun x => lotB x = true ∧ x.f0 < 9223372036854775808) (fun p x Y hx hat => oneLot_at hat hl hx.1 hx.2) ls _ _ (fun x hx => ⟨List.all_eq_true.mp h8 x hx, hls x hx⟩) (by omega) p0.step.step.step.step.step
    have a7 := list_at (ok := fun x => useB x = true ∧ x.f0 < 9223372036854775808 ∧ x.f1 < 9223372036854775808 ∧ x.f2 < 9223372036854775808) (fun p x Y hx hat => oneUse_at hat hx.1 hx.2.1 hx.2.2.1 hx.2.2.2) us _ _ (fun x hx => ⟨List.all_eq_true.mp h9 x hx, hus x hx⟩) (by omega) p0.step.step.step.step.step.step.step
    rw [show ((8 : Nat) : Int) = 8 from rfl] at a2
    rw [show ((2 : Nat) : Int) = 2 from rfl] at a3
    rw [show ((1 : Nat) : Int) = 1 from rfl] at a5
    rw [show (b2 (ls.length : Int)).length = 2 from rfl, Nat.add_assoc _ 2] at a7
    rw [a1, Option.bind_some, be_b2 0 (by omega) (by omega)]
    dsimp only
    rw [if_pos rfl, a2, Option.bind_some]
    dsimp only
    rw [a3, Option.bind_some]
    dsimp only
    rw [a4, Option.bind_some]
    dsimp only
    rw [a5, Option.bind_some]
    dsimp only
    rw [a6, Option.bind_some]
    dsimp only
    rw [a7, Option.bind_some, Option.bind_some]
    dsimp only
    rw [be_b8 _ (by omega) (by omega), be_b2 _ (by omega) (by omega), be_b1 _ (by omega) (by omega), show wrap64 (d + 1 - 1) = d by rw [wrap_id (by omega) (by omega)]; omega, show s % 256 = s by omega, if_neg (by decide), if_pos hr, htl]
    simp only [b2_length, b8_length, b1_length, Nat.zero_add]
end Go.Proofs.Ytgcgcgmpihjnaaa.Q
