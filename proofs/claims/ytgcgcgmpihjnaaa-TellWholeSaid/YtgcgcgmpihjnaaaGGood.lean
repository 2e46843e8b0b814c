/- Readers of bytes: what all of them keep (no program in sight). -/
import Derived.Test.YtgcgcgmpihjnaaaGNums
namespace Go.Proofs.Ytgcgcgmpihjnaaa.G
open Go.RowKit Go.Proofs.YtgcgcgmpihjnaaaW.PrintWords Go.Proofs.YtgcgcgmpihjnaaaW.PrintLast Go.Proofs.YtgcgcgmpihjnaaaW.PrintMore
set_option linter.unusedVariables false
set_option linter.unusedSimpArgs false

theorem ofInt_wrap64 (x : Int) : BitVec.ofInt 64 (wrap64 x) = BitVec.ofInt 64 x := by
  apply BitVec.eq_of_toNat_eq
  rw [BitVec.toNat_ofInt, BitVec.toNat_ofInt]
  congr 1
  unfold wrap64
  rw [show ((2 ^ 64 : Nat) : Int) = 18446744073709551616 from by decide]
  omega
theorem beStep_any {n c : Int} (h0 : 0 ≤ n) (h1 : n < 72057594037927936) (hc : isB c) : beStep n c = wrap64 (n * 256 + c) := by
  obtain ⟨c0, c1⟩ := hc
  unfold beStep
  have hu : Go.bits .or .u64 (n * 256) c = n * 256 + c := by
    refine bits_join .u64 64 (by decide) (fun m h0 h1 => ?_) 8 (n * 256) c (by omega) (by omega) (by omega) c0 (by omega) (by omega)
    have h1' : m < 18446744073709551616 := by simpa using h1
    show IntKind.u64.wrap m = m
    unfold IntKind.wrap
    simp [IntKind.bits, IntKind.signed]
    omega
  have hi : Go.bits .or .i64 (wrap64 (n * 256)) (wrap64 c) = IntKind.i64.wrap ((BitVec.ofInt 64 (n * 256) ||| BitVec.ofInt 64 c).toNat : Int) := by
    show IntKind.i64.wrap ((BitVec.ofInt 64 (wrap64 (n * 256)) ||| BitVec.ofInt 64 (wrap64 c)).toNat : Int) = _
    rw [ofInt_wrap64, ofInt_wrap64]
  have hv : IntKind.u64.wrap ((BitVec.ofInt 64 (n * 256) ||| BitVec.ofInt 64 c).toNat : Int) = n * 256 + c := hu
  have hx : ((BitVec.ofInt 64 (n * 256) ||| BitVec.ofInt 64 c).toNat : Int) < 18446744073709551616 := by
    have := (BitVec.ofInt 64 (n * 256) ||| BitVec.ofInt 64 c).isLt
    omega
  rw [hi, IntKind.wrap_i64]
  have hw : IntKind.u64.wrap ((BitVec.ofInt 64 (n * 256) ||| BitVec.ofInt 64 c).toNat : Int) = ((BitVec.ofInt 64 (n * 256) ||| BitVec.ofInt 64 c).toNat : Int) := by
    generalize ((BitVec.ofInt 64 (n * 256) ||| BitVec.ofInt 64 c).toNat) = q at *
    unfold IntKind.wrap
    simp [IntKind.bits, IntKind.signed]
    omega
  rw [← hw, hv]
  unfold wrap64
  rfl

theorem be_lt : ∀ (l : List Int) (n : Int) (B : Int), 0 ≤ n → (∀ c ∈ l, isB c) → n < B → B * 256 ^ l.length ≤ 72057594037927936 → 0 ≤ l.foldl beStep n ∧ l.foldl beStep n < B * 256 ^ l.length
  | [], n, B, h0, _, h1, _ => ⟨h0, by simpa using h1⟩
  | c :: l, n, B, h0, hc, h1, hB => by
    have hb := hc c (List.mem_cons_self)
    obtain ⟨c0, c1⟩ := hb
    have hp : (1 : Int) ≤ 256 ^ l.length := by have : (0 : Int) < 256 ^ l.length := Int.pow_pos (by decide)
                                               omega
    rw [List.length_cons, Int.pow_succ] at hB ⊢
    have hB' : (B * 256) * 256 ^ l.length ≤ 72057594037927936 := by
      rw [Int.mul_assoc, Int.mul_comm 256]; exact hB
    have hB2 : B * 256 ≤ 72057594037927936 := by
      have h : (B * 256) * 1 ≤ (B * 256) * 256 ^ l.length := Int.mul_le_mul_of_nonneg_left hp (by omega)
      omega
    have hs : beStep n c = n * 256 + c := by
      rw [beStep_any h0 (by omega) ⟨c0, c1⟩]
      unfold wrap64; omega
    have := be_lt l (beStep n c) (B * 256) (by rw [hs]; omega) (fun d hd => hc d (List.mem_cons_of_mem _ hd)) (by rw [hs]; omega) hB'
    rw [List.foldl_cons, show B * (256 ^ l.length * 256) = (B * 256) * 256 ^ l.length from by rw [Int.mul_assoc, Int.mul_comm 256]]
    exact this

theorem be_range1 {l : List Int} (h : ∀ c ∈ l, isB c) (hl : l.length = 1) : 0 ≤ be l ∧ be l < 256 := by
  have := be_lt l 0 1 (by omega) h (by omega) (by rw [hl]; decide)
  rw [hl] at this
  exact this
theorem be_range2 {l : List Int} (h : ∀ c ∈ l, isB c) (hl : l.length = 2) : 0 ≤ be l ∧ be l < 65536 := by
  have := be_lt l 0 1 (by omega) h (by omega) (by rw [hl]; decide)
  rw [hl] at this
  exact this

theorem b1_be {l : List Int} (h : ∀ c ∈ l, isB c) (hl : l.length = 1) : b1 (be l) = l := by
  match l, hl with
  | [a], _ =>
    obtain ⟨a0, a1⟩ := h a (by simp)
    have : be [a] = a := by
      show beStep 0 a = a
      rw [beStep_any (by omega) (by omega) ⟨a0, a1⟩]; unfold wrap64; omega
    rw [this]
    unfold b1
    rw [show a % 256 = a by omega]
theorem b2_be {l : List Int} (h : ∀ c ∈ l, isB c) (hl : l.length = 2) : b2 (be l) = l := by
  match l, hl with
  | [a, b], _ =>
    obtain ⟨a0, a1⟩ := h a (by simp)
    obtain ⟨b0, b1⟩ := h b (by simp)
    have : be [a, b] = a * 256 + b := by
      show beStep (beStep 0 a) b = _
      rw [beStep_any (n := 0) (by omega) (by omega) ⟨a0, a1⟩, show wrap64 (0 * 256 + a) = a by unfold wrap64; omega, beStep_any (by omega) (by omega) ⟨b0, b1⟩]; unfold wrap64; omega
    rw [this]
    unfold b2
    rw [show (a * 256 + b) / 256 % 256 = a by omega, show (a * 256 + b) % 256 = b by omega]
theorem b8_be {l : List Int} (h : ∀ c ∈ l, isB c) (hl : l.length = 8) (hn : 0 ≤ be l) : b8 (be l) = l := by
  match l, hl with
  | [a, b, c, d, e, f, g, x], _ =>
    obtain ⟨a0, a1⟩ := h a (by simp)
    obtain ⟨b0, b1⟩ := h b (by simp)
    obtain ⟨c0, c1⟩ := h c (by simp)
    obtain ⟨d0, d1⟩ := h d (by simp)
    obtain ⟨e0, e1⟩ := h e (by simp)
    obtain ⟨f0, f1⟩ := h f (by simp)
    obtain ⟨g0, g1⟩ := h g (by simp)
    obtain ⟨x0, x1⟩ := h x (by simp)
    have hv : be [a, b, c, d, e, f, g, x] = wrap64 (((((((a * 256 + b) * 256 + c) * 256 + d) * 256 + e) * 256 + f) * 256 + g) * 256 + x) := by
      show beStep (beStep (beStep (beStep (beStep (beStep (beStep (beStep 0 a) b) c) d) e) f) g) x = _
      have s1 : beStep 0 a = a := by rw [beStep_any (n := 0) (by omega) (by omega) ⟨a0, a1⟩]; unfold wrap64; omega
      have s2 : beStep a b = a * 256 + b := by rw [beStep_any (by omega) (by omega) ⟨b0, b1⟩]; unfold wrap64; omega
      have s3 : beStep (a * 256 + b) c = (a * 256 + b) * 256 + c := by rw [beStep_any (by omega) (by omega) ⟨c0, c1⟩]; unfold wrap64; omega
      have s4 : beStep ((a * 256 + b) * 256 + c) d = ((a * 256 + b) * 256 + c) * 256 + d := by rw [beStep_any (by omega) (by omega) ⟨d0, d1⟩]; unfold wrap64; omega
      have s5 : beStep (((a * 256 + b) * 256 + c) * 256 + d) e = (((a * 256 + b) * 256 + c) * 256 + d) * 256 + e := by rw [beStep_any (by omega) (by omega) ⟨e0, e1⟩]; unfold wrap64; omega
      have s6 : beStep ((((a * 256 + b) * 256 + c) * 256 + d) * 256 + e) f = ((((a * 256 + b) * 256 + c) * 256 + d) * 256 + e) * 256 + f := by rw [beStep_any (by omega) (by omega) ⟨f0, f1⟩]; unfold wrap64; omega
      have s7 : beStep (((((a * 256 + b) * 256 + c) * 256 + d) * 256 + e) * 256 + f) g = (((((a * 256 + b) * 256 + c) * 256 + d) * 256 + e) * 256 + f) * 256 + g := by rw [beStep_any (by omega) (by omega) ⟨g0, g1⟩]; unfold wrap64; omega
      rw [s1, s2, s3, s4, s5, s6, s7, beStep_any (by omega) (by omega) ⟨x0, x1⟩]
    rw [hv] at hn ⊢
    have hw : wrap64 (((((((a * 256 + b) * 256 + c) * 256 + d) * 256 + e) * 256 + f) * 256 + g) * 256 + x) = ((((((a * 256 + b) * 256 + c) * 256 + d) * 256 + e) * 256 + f) * 256 + g) * 256 + x := by
      unfold wrap64 at hn ⊢; omega
    rw [hw]
    unfold b8
    congr 1
    · omega
    congr 1
    · omega
    congr 1
    · omega
    congr 1
    · omega
    congr 1
    · omega
    congr 1
    · omega
    congr 1
    · omega
    congr 1
    · omega

/-- Bytes, and not more than there can be. -/
def BL (l : List Int) : Prop := (∀ c ∈ l, isB c) ∧ l.length < 9223372036854775807
/-- A reader of bytes: what it keeps, bad or not, and what a cut of the bytes does to it. -/
structure RGood {α : Type} (R : List Int → Int → Bool → Option (α × Int × Bool)) : Prop where
  bad : ∀ (l : List Int) (a : Int), 0 ≤ a → a ≤ l.length → BL l → ∃ x, R l a true = some (x, a, true)
  ok : ∀ (l : List Int) (a : Int), 0 ≤ a → a ≤ l.length → BL l → ∃ x a' b', R l a false = some (x, a', b') ∧ a ≤ a' ∧ a' ≤ l.length
  cut : ∀ (l : List Int) (a : Int) (x : α) (a' : Int), 0 ≤ a → a ≤ l.length → BL l → R l a false = some (x, a', false) → ∀ m : Nat, a ≤ m → m ≤ l.length →
    if a' ≤ m then R (l.take m) a false = some (x, a', false) else ∃ y a'', R (l.take m) a false = some (y, a'', true) ∧ a ≤ a'' ∧ a'' ≤ m

theorem RGood.any {α : Type} {R : List Int → Int → Bool → Option (α × Int × Bool)} (h : RGood R) (l : List Int) (a : Int) (b : Bool) (h0 : 0 ≤ a) (h1 : a ≤ l.length) (hl : BL l) : ∃ x a' b', R l a b = some (x, a', b') ∧ a ≤ a' ∧ a' ≤ l.length := by
  cases b
  · exact h.ok l a h0 h1 hl
  · obtain ⟨x, hx⟩ := h.bad l a h0 h1 hl
    exact ⟨x, a, true, hx, Int.le_refl _, h1⟩
theorem take_isB {l : List Int} (hl : BL l) (m : Nat) : BL (l.take m) := ⟨fun c hc => hl.1 c (List.mem_of_mem_take hc), Nat.lt_of_le_of_lt (by rw [List.length_take]; exact Nat.min_le_right _ _) hl.2⟩
/-- What is said of a good reader that has ended well: it was well before. -/
theorem RGood.was {α : Type} {R : List Int → Int → Bool → Option (α × Int × Bool)} (h : RGood R) {l : List Int} {a : Int} {b : Bool} {x : α} {a' : Int} (h0 : 0 ≤ a) (h1 : a ≤ l.length) (hl : BL l) (he : R l a b = some (x, a', false)) : b = false := by
  cases b
  · rfl
  · obtain ⟨y, hy⟩ := h.bad l a h0 h1 hl
    rw [he] at hy
    simp at hy

theorem RGood.bind {α β : Type} {R : List Int → Int → Bool → Option (α × Int × Bool)} {S : α → List Int → Int → Bool → Option (β × Int × Bool)} (hR : RGood R) (hS : ∀ x, RGood (S x)) :
    RGood fun l a b => (R l a b).bind fun r => S r.1 l r.2.1 r.2.2 where
  bad l a h0 h1 hl := by
    obtain ⟨x, hx⟩ := hR.bad l a h0 h1 hl
    obtain ⟨y, hy⟩ := (hS x).bad l a h0 h1 hl
    exact ⟨y, by rw [hx]; exact hy⟩
  ok l a h0 h1 hl := by
    obtain ⟨x, a', b', hx, h2, h3⟩ := hR.ok l a h0 h1 hl
    obtain ⟨y, a'', b'', hy, h4, h5⟩ := (hS x).any l a' b' (by omega) h3 hl
    exact ⟨y, a'', b'', by rw [hx]; exact hy, by omega, h5⟩
  cut l a y a'' h0 h1 hl he m hm hml := by
    obtain ⟨x, a', b', hx, h2, h3⟩ := hR.ok l a h0 h1 hl
    have he' : S x l a' b' = some (y, a'', false) := by
      have := he
      try dsimp only at this
      rw [hx] at this
      exact this
    have hb : b' = false := (hS x).was (by omega) h3 hl he'
    subst hb
    have hc := hR.cut l a x a' h0 h1 hl hx m hm hml
    obtain ⟨y2, a2, b2, hy2, h4, h5⟩ := (hS x).ok l a' (by omega) h3 hl
    rw [he'] at hy2
    simp only [Option.some.injEq, Prod.mk.injEq] at hy2
    obtain ⟨rfl, rfl, rfl⟩ := hy2
    have hml' : ((l.take m).length : Int) = m := by rw [List.length_take]; omega
    by_cases h6 : a' ≤ m
    · rw [if_pos h6] at hc
      have hc2 := (hS x).cut l a' y a'' (by omega) h3 hl he' m h6 hml
      by_cases h7 : a'' ≤ m
      · rw [if_pos h7] at hc2 ⊢
        try dsimp only
        rw [hc]; exact hc2
      · rw [if_neg h7] at hc2 ⊢
        obtain ⟨z, q, hz, h8, h9⟩ := hc2
        refine ⟨z, q, ?_, by omega, h9⟩
        try dsimp only
        rw [hc]; exact hz
    · rw [if_neg h6] at hc
      rw [if_neg (by omega)]
      obtain ⟨z, q, hz, h8, h9⟩ := hc
      obtain ⟨z2, hz2⟩ := (hS z).bad (l.take m) q (by omega) (by rw [hml']; exact h9) (take_isB hl m)
      refine ⟨z2, q, ?_, h8, h9⟩
      try dsimp only
      rw [hz]; exact hz2
/-- A leaf: nothing is read. -/
theorem RGood.leaf {α : Type} (x : α) (d : Bool) (y : α) : RGood fun (l : List Int) a b => if b = true then some (y, a, true) else some (x, a, d) where
  bad l a h0 h1 hl := ⟨y, rfl⟩
  ok l a h0 h1 hl := ⟨x, a, d, rfl, Int.le_refl _, h1⟩
  cut l a x' a' h0 h1 hl he m hm hml := by
    rw [if_neg (by decide)] at he
    simp only [Option.some.injEq, Prod.mk.injEq] at he
    obtain ⟨rfl, rfl, rfl⟩ := he
    rw [if_pos hm, if_neg (by decide)]
theorem RGood.pure {α : Type} (x : α) : RGood fun (l : List Int) a b => some (x, a, b) where
  bad l a h0 h1 hl := ⟨x, rfl⟩
  ok l a h0 h1 hl := ⟨x, a, false, rfl, Int.le_refl _, h1⟩
  cut l a x' a' h0 h1 hl he m hm hml := by
    simp only [Option.some.injEq, Prod.mk.injEq] at he
    obtain ⟨rfl, rfl, _⟩ := he
    rw [if_pos hm]
theorem RGood.congr {α : Type} {R S : List Int → Int → Bool → Option (α × Int × Bool)} (hR : RGood R) (h : ∀ l a b, 0 ≤ a → a ≤ l.length → BL l → S l a b = R l a b) : RGood S where
  bad l a h0 h1 hl := by rw [h l a true h0 h1 hl]; exact hR.bad l a h0 h1 hl
  ok l a h0 h1 hl := by rw [h l a false h0 h1 hl]; exact hR.ok l a h0 h1 hl
  cut l a x a' h0 h1 hl he m hm hml := by
    rw [h l a false h0 h1 hl] at he
    have := hR.cut l a x a' h0 h1 hl he m hm hml
    rw [h (l.take m) a false h0 (by rw [List.length_take]; omega) (take_isB hl m)]
    exact this
end Go.Proofs.Ytgcgcgmpihjnaaa.G
