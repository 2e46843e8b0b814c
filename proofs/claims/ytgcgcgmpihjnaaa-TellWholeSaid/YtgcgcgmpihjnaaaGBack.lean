/- tell.Get behind tell.Put, and tell.Put behind tell.Get. -/
import Derived.Test.YtgcgcgmpihjnaaaGParse
namespace Go.Proofs.Ytgcgcgmpihjnaaa.Q
open Go.RowKit Go.Proofs.YtgcgcgmpihjnaaaW.PrintWords Go.Proofs.YtgcgcgmpihjnaaaW.PrintLast Go.Proofs.YtgcgcgmpihjnaaaW.PrintMore Go.Proofs.Ytgcgcgmpihjnaaa.G
set_option linter.unusedVariables false
set_option linter.unusedSimpArgs false

/-! ### forward -/
/-- At place p of l stands X. -/
structure At (l : List Int) (p : Nat) (X : List Int) : Prop where
  le : p ≤ l.length
  eq : l.drop p = X
theorem At.step {l : List Int} {p : Nat} {X Y : List Int} (h : At l p (X ++ Y)) : At l (p + X.length) Y := by
  have hl : (l.drop p).length = l.length - p := List.length_drop
  have h2 := h.eq
  rw [h2, List.length_append] at hl
  have := h.le
  refine ⟨by omega, ?_⟩
  rw [← List.drop_drop, h2, List.drop_left]
theorem At.len {l : List Int} {p : Nat} {X Y : List Int} (h : At l p (X ++ Y)) : p + X.length ≤ l.length := h.step.le
theorem At.take {l : List Int} {p : Nat} {X Y : List Int} (h : At l p (X ++ Y)) : (l.drop p).take X.length = X := by rw [h.eq, List.take_left]

theorem number_at {l : List Int} {p : Nat} {X Y : List Int} (h : At l p (X ++ Y)) (z : Nat) (hz : X.length = z) (z8 : z ≤ 8) : tell_reader_number.f l (p : Int) false (z : Int) = some (be X, ((p + X.length : Nat) : Int), false) := by
  have h1 := h.len
  rw [number_eq l p z (by omega) (by omega) (by omega) (by omega), if_neg (by omega), Int.toNat_natCast, Int.toNat_natCast, ← hz, h.take]
  rfl
theorem code_at {l : List Int} {p : Nat} {s : ByteArray} {Y : List Int} (h : At l p (codeBytes s ++ Y)) (hl : BL l) (hs : s.toList = [] ∨ codeB (bytesOf s) = true) : tell_reader_code.f l (p : Int) false = some (s, ((p + (codeBytes s).length : Nat) : Int), false) := by
  have h1 := h.le
  have hsz : s.size ≤ 12 := by
    rcases hs with hs | hs
    · rw [size_of_empty hs]; omega
    · have := codeB_len hs; rw [bytesOf_length] at this; exact this
  rw [code_eq l p (by omega) (by omega) hl, Int.toNat_natCast, h.eq]
  unfold codeBytes
  rw [show (s.size : Int) % 256 = s.size by omega, List.cons_append]
  dsimp only
  have ht : (bytesOf s ++ Y).take s.size = bytesOf s := by
    rw [← bytesOf_length s, List.take_left]
  rw [if_neg (by rw [List.length_append, bytesOf_length]; omega), Int.toNat_natCast, ht, strOf_bytes, if_pos hs, List.length_cons, bytesOf_length]
  rw [show (p : Int) + 1 + (s.size : Int) = ((p + (s.size + 1) : Nat) : Int) by omega]

theorem oneUse_at {l : List Int} {p : Nat} {u : S57} {Y : List Int} (h : At l p (useBytes u ++ Y)) (hu : useB u = true) (h0 : u.f0 < 9223372036854775808) (h1 : u.f1 < 9223372036854775808) (h2 : u.f2 < 9223372036854775808) : oneUse l (p : Int) false = some (u, ((p + (useBytes u).length : Nat) : Int), false) := by
  unfold useB at hu
  simp only [Bool.and_eq_true, decide_eq_true_eq] at hu
  obtain ⟨u0, u1, u2⟩ := hu
  unfold useBytes at h
  rw [List.append_assoc, List.append_assoc] at h
  have a1 := number_at h 8 rfl (by decide)
  have a2 := number_at h.step 8 rfl (by decide)
  have a3 := number_at h.step.step 8 rfl (by decide)
  unfold oneUse tell_reader_use.f
  rw [show ((8 : Nat) : Int) = 8 from rfl] at a1 a2 a3
  rw [a1, Option.bind_some, a2, Option.bind_some, a3, Option.bind_some, Option.map_some, be_b8 _ (by omega) (by omega), be_b8 _ (by omega) (by omega), be_b8 _ (by omega) (by omega)]
  simp only [useBytes_length, b8_length]
theorem oneLot_at {l : List Int} {p : Nat} {x : S55} {Y : List Int} (h : At l p (lotBytes x ++ Y)) (hl : BL l) (hx : lotB x = true) (h0 : x.f0 < 9223372036854775808) : oneLot l (p : Int) false = some (x, ((p + (lotBytes x).length : Nat) : Int), false) := by
  have hcode := lotB_code hx
  unfold lotB at hx
  simp only [Bool.and_eq_true, decide_eq_true_eq] at hx
  obtain ⟨x0, x1, x2, x3, x4, x5, x6⟩ := hx
  have hlen : (lotBytes x).length = 8 + (codeBytes x.f1).length + 2 + 2 + 8 + 1 := by
    unfold lotBytes
    simp only [List.length_append, b8_length, b2_length, b1_length]
  unfold lotBytes at h
  simp only [List.append_assoc] at h
  have a1 := number_at h 8 rfl (by decide)
  have a2 := code_at h.step hl (Or.inr hcode)
  have a3 := number_at h.step.step 2 rfl (by decide)
  have a4 := number_at h.step.step.step 2 rfl (by decide)
  have a5 := number_at h.step.step.step.step 8 rfl (by decide)
  have a6 := number_at h.step.step.step.step.step 1 rfl (by decide)
  unfold oneLot tell_reader_lot.f
  rw [show ((8 : Nat) : Int) = 8 from rfl] at a1 a5
  rw [show ((2 : Nat) : Int) = 2 from rfl] at a3 a4
  rw [show ((1 : Nat) : Int) = 1 from rfl] at a6
  rw [a1, Option.bind_some, a2, Option.bind_some, a3, Option.bind_some, a4, Option.bind_some, a5, Option.bind_some, a6, Option.bind_some]
  dsimp only
  have hf : be (b1 (if x.f4 = true then 1 else 0)) = if x.f4 = true then 1 else 0 := by
    cases x.f4
    · exact be_b1 0 (by decide) (by decide)
    · exact be_b1 1 (by decide) (by decide)
  rw [if_neg (by decide), Option.map_some, be_b8 _ (by omega) (by omega), be_b2 _ (by omega) (by omega), be_b2 _ (by omega) (by omega), be_b8 _ (by omega) (by omega), hf, hlen]
  simp only [b8_length, b2_length, b1_length]
  have e1 : ((if x.f4 = true then (1 : Int) else 0) == 1) = x.f4 := by cases x.f4 <;> rfl
  have e2 : decide ((if x.f4 = true then (1 : Int) else 0) > 1) = false := by cases x.f4 <;> rfl
  rw [e1, e2]
  simp only [Nat.add_assoc]
theorem readList_at {α : Type} {one : Int → Bool → Option (α × Int × Bool)} {enc : α → List Int} {l : List Int} {ok : α → Prop} (h1 : ∀ (p : Nat) (x : α) (Y : List Int), ok x → At l p (enc x ++ Y) → one (p : Int) false = some (x, ((p + (enc x).length : Nat) : Int), false)) :
    ∀ (xs : List α) (p : Nat) (Y : List Int), (∀ x ∈ xs, ok x) → At l p (xs.flatMap enc ++ Y) → readList one xs.length (p : Int) false = some (xs, ((p + (xs.flatMap enc).length : Nat) : Int), false)
  | [], p, Y, _, h => rfl
  | x :: xs, p, Y, hok, h => by
    rw [List.flatMap_cons, List.append_assoc] at h
    rw [List.length_cons, readList, if_neg (by decide), h1 p x _ (hok x List.mem_cons_self) h, Option.bind_some]
    dsimp only
    rw [readList_at h1 xs _ Y (fun y hy => hok y (List.mem_cons_of_mem _ hy)) h.step, Option.map_some, List.flatMap_cons, List.length_append]
    simp only [Nat.add_assoc]
theorem list_at {α : Type} {one : Int → Bool → Option (α × Int × Bool)} {enc : α → List Int} {l : List Int} {ok : α → Prop} (h1 : ∀ (p : Nat) (x : α) (Y : List Int), ok x → At l p (enc x ++ Y) → one (p : Int) false = some (x, ((p + (enc x).length : Nat) : Int), false))
    (xs : List α) (p : Nat) (Y : List Int) (hok : ∀ x ∈ xs, ok x) (hn : xs.length ≤ 65535) (h : At l p (b2 (xs.length : Int) ++ (xs.flatMap enc ++ Y))) : tell_list one l (p : Int) false = some (xs, ((p + (2 + (xs.flatMap enc).length) : Nat) : Int), false) := by
  have a1 := number_at h 2 rfl (by decide)
  rw [show ((2 : Nat) : Int) = 2 from rfl] at a1
  unfold tell_list
  rw [a1, Option.bind_some, be_b2 _ (by omega) (by omega)]
  dsimp only
  rw [if_pos (by omega), Int.toNat_natCast, readList_at h1 xs _ Y hok h.step, b2_length]
  simp only [Nat.add_assoc]
end Go.Proofs.Ytgcgcgmpihjnaaa.Q
