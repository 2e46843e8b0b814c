/- Which bytes tell.Get has read: those that tell.Put writes. -/
import Derived.Test.YtgcgcgmpihjnaaaGBack2
namespace Go.Proofs.Ytgcgcgmpihjnaaa.Q
open Go.RowKit Go.Proofs.YtgcgcgmpihjnaaaW.PrintWords Go.Proofs.YtgcgcgmpihjnaaaW.PrintLast Go.Proofs.YtgcgcgmpihjnaaaW.PrintMore Go.Proofs.Ytgcgcgmpihjnaaa.G
set_option linter.unusedVariables false
set_option linter.unusedSimpArgs false

/-- From a to a' of l stands X. -/
structure Seg (l : List Int) (a : Int) (X : List Int) (a' : Int) : Prop where
  eq : l.drop a.toNat = X ++ l.drop a'.toNat
  fin : a' = a + X.length
theorem Seg.trans {l : List Int} {a b c : Int} {X Y : List Int} (h : Seg l a X b) (k : Seg l b Y c) : Seg l a (X ++ Y) c :=
  ⟨by rw [h.eq, k.eq, List.append_assoc], by rw [k.fin, h.fin, List.length_append]; omega⟩
theorem Seg.nil (l : List Int) (a : Int) : Seg l a [] a := ⟨by simp, by simp⟩
theorem rng {α : Type} {R : List Int → Int → Bool → Option (α × Int × Bool)} (h : RGood R) {l : List Int} {a : Int} {b : Bool} {x : α} {a' : Int} {b' : Bool} (h0 : 0 ≤ a) (h1 : a ≤ l.length) (hl : BL l) (he : R l a b = some (x, a', b')) : 0 ≤ a' ∧ a' ≤ l.length := by
  obtain ⟨y, q, c, hy, h2, h3⟩ := h.any l a b h0 h1 hl
  rw [he] at hy
  simp only [Option.some.injEq, Prod.mk.injEq] at hy
  omega
theorem number_seg {l : List Int} {a z : Int} {x a' : Int} (h0 : 0 ≤ a) (h1 : a ≤ l.length) (z0 : 0 ≤ z) (z8 : z ≤ 8) (hl : BL l) (he : tell_reader_number.f l a false z = some (x, a', false)) :
    ∃ X : List Int, X.length = z.toNat ∧ (∀ c ∈ X, isB c) ∧ x = be X ∧ Seg l a X a' := by
  rw [number_eq l a z h0 h1 z0 z8] at he
  by_cases h : (l.length : Int) - a < z
  · rw [if_pos h] at he; simp at he
  · rw [if_neg h] at he
    simp only [Option.some.injEq, Prod.mk.injEq] at he
    obtain ⟨rfl, rfl, _⟩ := he
    have hlen : ((l.drop a.toNat).take z.toNat).length = z.toNat := by rw [List.length_take, List.length_drop]; omega
    refine ⟨_, hlen, fun c hc => hl.1 c (List.mem_of_mem_drop (List.mem_of_mem_take hc)), rfl, ⟨?_, ?_⟩⟩
    · rw [show (a + z).toNat = a.toNat + z.toNat by omega, ← List.drop_drop, List.take_append_drop]
    · rw [hlen]; omega
theorem number_seg1 {l : List Int} {a : Int} {b : Bool} {x a' : Int} (h0 : 0 ≤ a) (h1 : a ≤ l.length) (hl : BL l) (he : tell_reader_number.f l a b 1 = some (x, a', false)) : 0 ≤ x ∧ x < 256 ∧ Seg l a (b1 x) a' := by
  have hb := RGood.was num1 h0 h1 hl he
  subst hb
  obtain ⟨X, hX, hB, rfl, hs⟩ := number_seg h0 h1 (by decide) (by decide) hl he
  have hr := be_range1 hB hX
  exact ⟨hr.1, hr.2, by rw [b1_be hB hX]; exact hs⟩
theorem number_seg2 {l : List Int} {a : Int} {b : Bool} {x a' : Int} (h0 : 0 ≤ a) (h1 : a ≤ l.length) (hl : BL l) (he : tell_reader_number.f l a b 2 = some (x, a', false)) : 0 ≤ x ∧ x < 65536 ∧ Seg l a (b2 x) a' := by
  have hb := RGood.was num2 h0 h1 hl he
  subst hb
  obtain ⟨X, hX, hB, rfl, hs⟩ := number_seg h0 h1 (by decide) (by decide) hl he
  have hr := be_range2 hB hX
  exact ⟨hr.1, hr.2, by rw [b2_be hB hX]; exact hs⟩
theorem number_seg8 {l : List Int} {a : Int} {b : Bool} {x a' : Int} (h0 : 0 ≤ a) (h1 : a ≤ l.length) (hl : BL l) (he : tell_reader_number.f l a b 8 = some (x, a', false)) (hx : 0 ≤ x) : Seg l a (b8 x) a' := by
  have hb := RGood.was num8 h0 h1 hl he
  subst hb
  obtain ⟨X, hX, hB, rfl, hs⟩ := number_seg h0 h1 (by decide) (by decide) hl he
  rw [b8_be hB hX hx]; exact hs
theorem code_seg {l : List Int} {a : Int} {b : Bool} {s : ByteArray} {a' : Int} (h0 : 0 ≤ a) (h1 : a ≤ l.length) (hl : BL l) (he : tell_reader_code.f l a b = some (s, a', false)) : Seg l a (codeBytes s) a' := by
  have hb := RGood.was code_good h0 h1 hl he
  subst hb
  rw [code_eq l a h0 h1 hl] at he
  cases hdl : l.drop a.toNat with
  | nil => rw [hdl] at he; simp at he
  | cons c rest =>
    have hmem : ∀ d ∈ c :: rest, isB d := fun d hd => hl.1 d (List.mem_of_mem_drop (hdl ▸ hd))
    obtain ⟨c0, c1⟩ := hmem c List.mem_cons_self
    rw [hdl] at he
    dsimp only at he
    by_cases h : (rest.length : Int) < c
    · rw [if_pos h] at he; simp at he
    · rw [if_neg h] at he
      by_cases h2 : (strOfNums (rest.take c.toNat)).toList = ([] : List UInt8) ∨ codeB (bytesOf (strOfNums (rest.take c.toNat))) = true
      · rw [if_pos h2] at he
        simp only [Option.some.injEq, Prod.mk.injEq] at he
        obtain ⟨rfl, rfl, _⟩ := he
        have hsz : (strOfNums (rest.take c.toNat)).size = c.toNat := by rw [strOf_size, List.length_take]; omega
        have hcb : codeBytes (strOfNums (rest.take c.toNat)) = c :: rest.take c.toNat := by
          unfold codeBytes
          rw [hsz, bytesOf_strOf _ (fun d hd => hmem d (List.mem_cons_of_mem _ (List.mem_of_mem_take hd))), show ((c.toNat : Nat) : Int) % 256 = c by omega]
        rw [hcb]
        refine ⟨?_, ?_⟩
        · rw [hdl, show (a + 1 + c).toNat = a.toNat + (1 + c.toNat) by omega, ← List.drop_drop, hdl, show 1 + c.toNat = c.toNat + 1 by omega, List.drop_succ_cons, List.cons_append, List.take_append_drop]
        · rw [List.length_cons, List.length_take]; omega
      · rw [if_neg h2] at he; simp at he
theorem use_seg {l : List Int} {a : Int} {b : Bool} {u : S57} {a' : Int} (h0 : 0 ≤ a) (h1 : a ≤ l.length) (hl : BL l) (he : oneUse l a b = some (u, a', false)) (hu : useB u = true) : Seg l a (useBytes u) a' := by
  unfold useB at hu
  simp only [Bool.and_eq_true, decide_eq_true_eq] at hu
  unfold oneUse tell_reader_use.f at he
  obtain ⟨r, he, hr⟩ := Option.map_eq_some_iff.mp he
  obtain ⟨⟨n0, a0, b0⟩, e0, he⟩ := Option.bind_eq_some_iff.mp he
  have r0 := rng num8 h0 h1 hl e0
  obtain ⟨⟨n1, a1, b1⟩, e1, he⟩ := Option.bind_eq_some_iff.mp he
  dsimp only at e1 he
  have r1 := rng num8 r0.1 r0.2 hl e1
  obtain ⟨⟨n2, a2, b2⟩, e2, he⟩ := Option.bind_eq_some_iff.mp he
  dsimp only at e2 he
  have r2 := rng num8 r1.1 r1.2 hl e2
  obtain rfl := Option.some.inj he
  simp only [Prod.mk.injEq] at hr
  obtain ⟨rfl, rfl, rfl⟩ := hr
  have f1 := RGood.was num8 r1.1 r1.2 hl e2
  subst f1
  have f0 := RGood.was num8 r0.1 r0.2 hl e1
  subst f0
  have s0 := number_seg8 h0 h1 hl e0 hu.1
  have s1 := number_seg8 r0.1 r0.2 hl e1 (by have := hu.2.1; dsimp only at this; omega)
  have s2 := number_seg8 r1.1 r1.2 hl e2 (by have := hu.2.2; dsimp only at this; omega)
  exact (s0.trans s1).trans s2
theorem lot_seg {l : List Int} {a : Int} {b : Bool} {x : S55} {a' : Int} (h0 : 0 ≤ a) (h1 : a ≤ l.length) (hl : BL l) (he : oneLot l a b = some (x, a', false)) (hx : lotB x = true) : Seg l a (lotBytes x) a' := by
  unfold lotB at hx
  simp only [Bool.and_eq_true, decide_eq_true_eq] at hx
  unfold oneLot tell_reader_lot.f at he
  obtain ⟨r, he, hr⟩ := Option.map_eq_some_iff.mp he
  obtain ⟨⟨n0, a0, b0⟩, e0, he⟩ := Option.bind_eq_some_iff.mp he
  have r0 := rng num8 h0 h1 hl e0
  obtain ⟨⟨s1, a1, b1⟩, e1, he⟩ := Option.bind_eq_some_iff.mp he
  dsimp only at e1 he
  have r1 := rng code_good r0.1 r0.2 hl e1
  obtain ⟨⟨n2, a2, b2⟩, e2, he⟩ := Option.bind_eq_some_iff.mp he
  dsimp only at e2 he
  have r2 := rng num2 r1.1 r1.2 hl e2
  obtain ⟨⟨n3, a3, b3⟩, e3, he⟩ := Option.bind_eq_some_iff.mp he
  dsimp only at e3 he
  have r3 := rng num2 r2.1 r2.2 hl e3
  obtain ⟨⟨n4, a4, b4⟩, e4, he⟩ := Option.bind_eq_some_iff.mp he
  dsimp only at e4 he
  have r4 := rng num8 r3.1 r3.2 hl e4
  obtain ⟨⟨n5, a5, b5⟩, e5, he⟩ := Option.bind_eq_some_iff.mp he
  dsimp only at e5 he
  have r5 := rng num1 r4.1 r4.2 hl e5
  cases b5
  · rw [if_neg (by decide)] at he
    obtain rfl := Option.some.inj he
    simp only [Prod.mk.injEq] at hr
    obtain ⟨rfl, rfl, hn5⟩ := hr
    have hn5' : ¬ n5 > 1 := of_decide_eq_false hn5
    have f4 := RGood.was num1 r4.1 r4.2 hl e5
    subst f4
    have f3 := RGood.was num8 r3.1 r3.2 hl e4
    subst f3
    have f2 := RGood.was num2 r2.1 r2.2 hl e3
    subst f2
    have f1 := RGood.was num2 r1.1 r1.2 hl e2
    subst f1
    have f0 := RGood.was code_good r0.1 r0.2 hl e1
    subst f0
    have s0 := number_seg8 h0 h1 hl e0 (by have := hx.1; dsimp only at this; omega)
    have s1 := code_seg r0.1 r0.2 hl e1
    have s2 := (number_seg2 r1.1 r1.2 hl e2).2.2
    have s3 := (number_seg2 r2.1 r2.2 hl e3).2.2
    have s4 := number_seg8 r3.1 r3.2 hl e4 (by have := hx.2.2.2.2.2.1; dsimp only at this; omega)
    obtain ⟨k0, k1, s5⟩ := number_seg1 r4.1 r4.2 hl e5
    have hf : (if (n5 == 1) = true then (1 : Int) else 0) = n5 := by
      rcases (show n5 = 0 ∨ n5 = 1 by omega) with rfl | rfl <;> rfl
    have := ((((s0.trans s1).trans s2).trans s3).trans s4).trans s5
    unfold lotBytes
    dsimp only
    rw [hf]
    exact this
  · rw [if_pos rfl] at he
    obtain rfl := Option.some.inj he
    simp only [Prod.mk.injEq] at hr
    obtain ⟨_, _, hb⟩ := hr
    cases hb
theorem readList_seg {α : Type} {one : List Int → Int → Bool → Option (α × Int × Bool)} {enc : α → List Int} {ok : α → Prop} (hG : RGood one) {l : List Int} (hl : BL l)
    (h1 : ∀ (a : Int) (b : Bool) (x : α) (a' : Int), 0 ≤ a → a ≤ l.length → one l a b = some (x, a', false) → ok x → Seg l a (enc x) a') :
    ∀ (n : Nat) (a : Int) (b : Bool) (xs : List α) (a' : Int), 0 ≤ a → a ≤ l.length → readList (one l) n a b = some (xs, a', false) → (∀ x ∈ xs, ok x) → xs.length = n ∧ Seg l a (xs.flatMap enc) a'
  | 0, a, b, xs, a', h0, h2, he, hok => by
    simp only [readList, Option.some.injEq, Prod.mk.injEq] at he
    obtain ⟨rfl, rfl, _⟩ := he
    exact ⟨rfl, Seg.nil _ _⟩
  | n + 1, a, b, xs, a', h0, h2, he, hok => by
    cases b
    · rw [readList, if_neg (by decide)] at he
      obtain ⟨⟨x, q, c⟩, e1, he⟩ := Option.bind_eq_some_iff.mp he
      have r1 := rng hG h0 h2 hl e1
      obtain ⟨⟨ys, q', c'⟩, e2, he⟩ := Option.map_eq_some_iff.mp he
      dsimp only at e2 he
      simp only [Prod.mk.injEq] at he
      obtain ⟨rfl, rfl, rfl⟩ := he
      have f := RGood.was (readList_good hG n) r1.1 r1.2 hl e2
      subst f
      obtain ⟨h3, h4⟩ := readList_seg hG hl h1 n q false ys q' r1.1 r1.2 e2 (fun y hy => hok y (List.mem_cons_of_mem _ hy))
      refine ⟨by rw [List.length_cons, h3], ?_⟩
      rw [List.flatMap_cons]
      exact (h1 a false x q h0 h2 e1 (hok x List.mem_cons_self)).trans h4
    · rw [readList, if_pos rfl] at he
      simp at he
theorem list_seg {α : Type} {one : List Int → Int → Bool → Option (α × Int × Bool)} {enc : α → List Int} {ok : α → Prop} (hG : RGood one) {l : List Int} (hl : BL l)
    (h1 : ∀ (a : Int) (b : Bool) (x : α) (a' : Int), 0 ≤ a → a ≤ l.length → one l a b = some (x, a', false) → ok x → Seg l a (enc x) a')
    {a : Int} {b : Bool} {xs : List α} {a' : Int} (h0 : 0 ≤ a) (h2 : a ≤ l.length) (he : tell_list (one l) l a b = some (xs, a', false)) (hok : ∀ x ∈ xs, ok x) : Seg l a (b2 (xs.length : Int) ++ xs.flatMap enc) a' := by
  unfold tell_list at he
  obtain ⟨⟨n, q, c⟩, e1, he⟩ := Option.bind_eq_some_iff.mp he
  have r1 := rng num2 h0 h2 hl e1
  dsimp only at he
  by_cases hr : 0 ≤ n ∧ n ≤ 65535
  · rw [if_pos hr] at he
    have f := RGood.was (readList_good hG n.toNat) r1.1 r1.2 hl he
    subst f
    obtain ⟨h3, h4⟩ := readList_seg hG hl h1 n.toNat q false xs a' r1.1 r1.2 he hok
    have s := (number_seg2 h0 h2 hl e1).2.2
    rw [h3, show ((n.toNat : Nat) : Int) = n by omega]
    exact s.trans h4
  · rw [if_neg hr] at he; cases he

/-! ### all of it -/
@[reducible] def TR : Type := Int × Int × Int × ByteArray × Int × List S55 × List S57
def restR (n0 : Int) (l : List Int) (a : Int) (b : Bool) : Option (TR × Int × Bool) :=
  if n0 = 0 then
    (tell_reader_number.f l a b 8).bind fun r1 => (tell_reader_number.f l r1.2.1 r1.2.2 2).bind fun r2 => (tell_reader_code.f l r2.2.1 r2.2.2).bind fun r3 => (tell_reader_number.f l r3.2.1 r3.2.2 1).bind fun r4 =>
      (tell_list (oneLot l) l r4.2.1 r4.2.2).bind fun r5 => (tell_list (oneUse l) l r5.2.1 r5.2.2).bind fun r6 => some ((n0, r1.1, wrap64 (r2.1 - 1), r3.1, r4.1 % 256, r5.1, r6.1), r6.2.1, r6.2.2)
  else some ((n0, 0, 0, (⟨#[]⟩ : ByteArray), 0, [], []), a, b)
def tellR (l : List Int) (a : Int) (b : Bool) : Option (TR × Int × Bool) := (tell_reader_number.f l a b 2).bind fun r => restR r.1 l r.2.1 r.2.2
theorem restR_good (n0 : Int) : RGood (restR n0) := by
  by_cases h : n0 = 0
  · refine (num8.bind (S := fun n1 l a b => (tell_reader_number.f l a b 2).bind fun r2 => (tell_reader_code.f l r2.2.1 r2.2.2).bind fun r3 => (tell_reader_number.f l r3.2.1 r3.2.2 1).bind fun r4 => (tell_list (oneLot l) l r4.2.1 r4.2.2).bind fun r5 => (tell_list (oneUse l) l r5.2.1 r5.2.2).bind fun r6 => some (((n0, n1, wrap64 (r2.1 - 1), r3.1, r4.1 % 256, r5.1, r6.1) : TR), r6.2.1, r6.2.2))
      (fun n1 => num2.bind (S := fun n2 l a b => (tell_reader_code.f l a b).bind fun r3 => (tell_reader_number.f l r3.2.1 r3.2.2 1).bind fun r4 => (tell_list (oneLot l) l r4.2.1 r4.2.2).bind fun r5 => (tell_list (oneUse l) l r5.2.1 r5.2.2).bind fun r6 => some (((n0, n1, wrap64 (n2 - 1), r3.1, r4.1 % 256, r5.1, r6.1) : TR), r6.2.1, r6.2.2))
      (fun n2 => code_good.bind (S := fun s3 l a b => (tell_reader_number.f l a b 1).bind fun r4 => (tell_list (oneLot l) l r4.2.1 r4.2.2).bind fun r5 => (tell_list (oneUse l) l r5.2.1 r5.2.2).bind fun r6 => some (((n0, n1, wrap64 (n2 - 1), s3, r4.1 % 256, r5.1, r6.1) : TR), r6.2.1, r6.2.2))
      (fun s3 => num1.bind (S := fun n4 l a b => (tell_list (oneLot l) l a b).bind fun r5 => (tell_list (oneUse l) l r5.2.1 r5.2.2).bind fun r6 => some (((n0, n1, wrap64 (n2 - 1), s3, n4 % 256, r5.1, r6.1) : TR), r6.2.1, r6.2.2))
      (fun n4 => (list_good oneLot_good).bind (S := fun ls l a b => (tell_list (oneUse l) l a b).bind fun r6 => some (((n0, n1, wrap64 (n2 - 1), s3, n4 % 256, ls, r6.1) : TR), r6.2.1, r6.2.2))
      (fun ls => (list_good oneUse_good).bind (S := fun us l a b => some (((n0, n1, wrap64 (n2 - 1), s3, n4 % 256, ls, us) : TR), a, b)) (fun us => RGood.pure _))))))).congr fun l a b h0 h1 hl => ?_
    unfold restR
    rw [if_pos h]
  · refine (RGood.pure (((n0, 0, 0, (⟨#[]⟩ : ByteArray), 0, [], []) : TR))).congr fun l a b h0 h1 hl => ?_
    unfold restR
    rw [if_neg h]
theorem tellR_good : RGood tellR := num2.bind restR_good
theorem tell_read_eq (l : List Int) : tell_read l = (tellR l 0 false).map fun r => (r.1.1, r.1.2.1, r.1.2.2.1, r.1.2.2.2.1, r.1.2.2.2.2.1, r.1.2.2.2.2.2.1, r.1.2.2.2.2.2.2, r.2.1, r.2.2) := by
  unfold tell_read tellR restR
  rw [Option.map_bind]
  congr 1
  funext r0
  simp only [Function.comp_def]
  by_cases h : r0.1 = 0
  · rw [if_pos h, if_pos h]
    simp only [Option.map_bind, Function.comp_def, Option.map_some]
  · rw [if_neg h, if_neg h, Option.map_some]
/-- What a right answer was read from. -/
theorem tell_seg {l : List Int} (hl : BL l) {q : TR} {a' : Int} (he : tellR l 0 false = some (q, a', false)) (hr : rightB q.1 q.2.1 q.2.2.1 q.2.2.2.1 q.2.2.2.2.1 q.2.2.2.2.2.1 q.2.2.2.2.2.2 = true) :
    Seg l 0 (tellBytes q.1 q.2.1 q.2.2.1 q.2.2.2.1 q.2.2.2.2.1 q.2.2.2.2.2.1 q.2.2.2.2.2.2) a' := by
  have z0 : (0 : Int) ≤ 0 := Int.le_refl _
  have z1 : (0 : Int) ≤ l.length := by omega
  unfold tellR at he
  obtain ⟨⟨n0, a0, b0⟩, e0, he⟩ := Option.bind_eq_some_iff.mp he
  have r0 := rng num2 z0 z1 hl e0
  dsimp only at he
  have f0 := RGood.was (restR_good n0) r0.1 r0.2 hl he
  subst f0
  obtain ⟨k0, k1, s0⟩ := number_seg2 z0 z1 hl e0
  unfold restR at he
  by_cases h : n0 = 0
  · rw [if_pos h] at he
    subst h
    obtain ⟨⟨n1, a1, b1⟩, e1, he⟩ := Option.bind_eq_some_iff.mp he
    have r1 := rng num8 r0.1 r0.2 hl e1
    obtain ⟨⟨n2, a2, b2⟩, e2, he⟩ := Option.bind_eq_some_iff.mp he
    dsimp only at e2 he
    have r2 := rng num2 r1.1 r1.2 hl e2
    obtain ⟨⟨s3, a3, b3⟩, e3, he⟩ := Option.bind_eq_some_iff.mp he
    dsimp only at e3 he
    have r3 := rng code_good r2.1 r2.2 hl e3
    obtain ⟨⟨n4, a4, b4⟩, e4, he⟩ := Option.bind_eq_some_iff.mp he
    dsimp only at e4 he
    have r4 := rng num1 r3.1 r3.2 hl e4
    obtain ⟨⟨ls, a5, b5⟩, e5, he⟩ := Option.bind_eq_some_iff.mp he
    dsimp only at e5 he
    have r5 := rng (list_good oneLot_good) r4.1 r4.2 hl e5
    obtain ⟨⟨us, a6, b6⟩, e6, he⟩ := Option.bind_eq_some_iff.mp he
    dsimp only at e6 he
    have hq := Option.some.inj he
    simp only [Prod.mk.injEq] at hq
    obtain ⟨rfl, rfl, rfl⟩ := hq
    dsimp only at hr ⊢
    obtain ⟨-, h1, h2, h3, h4, h5, h6, h7, h8, h9⟩ := rightB_zero hr (by decide)
    have f5 := RGood.was (list_good oneUse_good) r5.1 r5.2 hl e6
    subst f5
    have f4 := RGood.was (list_good oneLot_good) r4.1 r4.2 hl e5
    subst f4
    have f3 := RGood.was num1 r3.1 r3.2 hl e4
    subst f3
    have f2 := RGood.was code_good r2.1 r2.2 hl e3
    subst f2
    have f1 := RGood.was num2 r1.1 r1.2 hl e2
    subst f1
    have s1 := number_seg8 r0.1 r0.2 hl e1 h1
    obtain ⟨m0, m1, s2⟩ := number_seg2 r1.1 r1.2 hl e2
    have s3 := code_seg r2.1 r2.2 hl e3
    obtain ⟨m2, m3, s4⟩ := number_seg1 r3.1 r3.2 hl e4
    have s5 := list_seg oneLot_good hl (fun a b x a' h0 h1 he hx => lot_seg h0 h1 hl he hx) r4.1 r4.2 e5 (fun x hx => List.all_eq_true.mp h8 x hx)
    have s6 := list_seg oneUse_good hl (fun a b x a' h0 h1 he hx => use_seg h0 h1 hl he hx) r5.1 r5.2 e6 (fun x hx => List.all_eq_true.mp h9 x hx)
    have ht := (((((s0.trans s1).trans s2).trans s3).trans s4).trans s5).trans s6
    unfold tellBytes
    rw [if_neg (by decide)]
    have hw : wrap64 (n2 - 1) = n2 - 1 := wrap_id (by omega) (by omega)
    rw [hw, show n2 - 1 + 1 = n2 by omega, show [n4 % 256] = b1 n4 from rfl]
    simp only [List.append_assoc] at ht ⊢
    exact ht
  · rw [if_neg h] at he
    have hq := Option.some.inj he
    simp only [Prod.mk.injEq] at hq
    obtain ⟨rfl, rfl, _⟩ := hq
    dsimp only at hr ⊢
    unfold tellBytes
    rw [if_pos (by omega)]
    exact s0
end Go.Proofs.Ytgcgcgmpihjnaaa.Q
