/- tell.Get's parts: what they keep, what they make of bytes that were put, and which bytes they make something of. -/
import Derived.Test.YtgcgcgmpihjnaaaGTell
import Derived.Test.YtgcgcgmpihjnaaaGPut
import Derived.Test.YtgcgcgmpihjnaaaGGood
namespace Go.Proofs.Ytgcgcgmpihjnaaa.Q
open Go.RowKit Go.Proofs.YtgcgcgmpihjnaaaW.PrintWords Go.Proofs.YtgcgcgmpihjnaaaW.PrintLast Go.Proofs.YtgcgcgmpihjnaaaW.PrintMore Go.Proofs.Ytgcgcgmpihjnaaa.G
set_option linter.unusedVariables false
set_option linter.unusedSimpArgs false

theorem number_eq (l : List Int) (a z : Int) (h0 : 0 ≤ a) (h1 : a ≤ l.length) (z0 : 0 ≤ z) (z8 : z ≤ 8) :
    tell_reader_number.f l a false z = if (l.length : Int) - a < z then some (0, a, true) else some (be ((l.drop a.toNat).take z.toNat), a + z, false) := by
  unfold tell_reader_number.f
  rw [if_pos ⟨h0, h1, z0, z8⟩, if_neg (by decide)]
theorem number_bad (l : List Int) (a z : Int) (h0 : 0 ≤ a) (h1 : a ≤ l.length) (z0 : 0 ≤ z) (z8 : z ≤ 8) : tell_reader_number.f l a true z = some (0, a, true) := by
  unfold tell_reader_number.f
  rw [if_pos ⟨h0, h1, z0, z8⟩, if_pos rfl]
theorem number_good (z : Int) (z0 : 0 ≤ z) (z8 : z ≤ 8) : RGood fun l a b => tell_reader_number.f l a b z where
  bad l a h0 h1 hl := ⟨0, number_bad l a z h0 h1 z0 z8⟩
  ok l a h0 h1 hl := by
    rw [number_eq l a z h0 h1 z0 z8]
    by_cases h : (l.length : Int) - a < z
    · rw [if_pos h]; exact ⟨_, _, _, rfl, Int.le_refl _, h1⟩
    · rw [if_neg h]; exact ⟨_, _, _, rfl, by omega, by omega⟩
  cut l a x a' h0 h1 hl he m hm hml := by
    rw [number_eq l a z h0 h1 z0 z8] at he
    have hlm : ((l.take m).length : Int) = m := by rw [List.length_take]; omega
    by_cases h : (l.length : Int) - a < z
    · rw [if_pos h] at he; simp at he
    · rw [if_neg h] at he
      simp only [Option.some.injEq, Prod.mk.injEq] at he
      obtain ⟨rfl, rfl, _⟩ := he
      rw [number_eq (l.take m) a z h0 (by omega) z0 z8]
      by_cases h2 : a + z ≤ m
      · rw [if_pos h2, if_neg (by omega), List.drop_take, List.take_take, Nat.min_eq_left (by omega)]
      · rw [if_neg h2, if_pos (by omega)]
        exact ⟨0, a, rfl, Int.le_refl _, hm⟩

theorem code_Get_nil : code_Get.f [] = some ((⟨#[]⟩ : ByteArray), 0, false) := by
  unfold code_Get.f
  rw [if_pos (show ([] : List Int).length = 0 from rfl)]
theorem code_Get_cons (c : Int) (rest : List Int) (hc : isB c) : code_Get.f (c :: rest) = if (rest.length : Int) < c then some ((⟨#[]⟩ : ByteArray), 0, false) else if (strOfNums (rest.take c.toNat)).toList = ([] : List UInt8) ∨ codeB (bytesOf (strOfNums (rest.take c.toNat))) = true then some (strOfNums (rest.take c.toNat), 1 + c, true) else some ((⟨#[]⟩ : ByteArray), 0, false) := by
  obtain ⟨c0, c1⟩ := hc
  unfold code_Get.f
  have hr : rd (c :: rest) 0 = c := rfl
  have ht : ((c :: rest).take (1 + c).toNat).drop 1 = rest.take c.toNat := by
    rw [show (1 + c).toNat = c.toNat + 1 by omega, List.take_succ_cons, List.drop_succ_cons, List.drop_zero]
  rw [hr, ht, if_neg (by simp), if_pos ⟨c0, c1⟩, List.length_cons]
  by_cases h : (rest.length : Int) < c
  · rw [if_pos h, if_pos (by omega)]
  · rw [if_neg h, if_neg (by omega), strOf_size, List.length_take, Nat.min_eq_left (by omega)]
    rw [show ((c.toNat : Nat) : Int) = c by omega]
theorem code_eq (l : List Int) (a : Int) (h0 : 0 ≤ a) (h1 : a ≤ l.length) (hl : BL l) : tell_reader_code.f l a false = match l.drop a.toNat with
    | [] => some ((⟨#[]⟩ : ByteArray), a, true)
    | c :: rest => if (rest.length : Int) < c then some ((⟨#[]⟩ : ByteArray), a, true) else if (strOfNums (rest.take c.toNat)).toList = ([] : List UInt8) ∨ codeB (bytesOf (strOfNums (rest.take c.toNat))) = true then some (strOfNums (rest.take c.toNat), a + 1 + c, false) else some ((⟨#[]⟩ : ByteArray), a, true) := by
  have hlen := hl.2
  unfold tell_reader_code.f
  rw [if_neg (by decide), if_pos ⟨h0, h1⟩]
  have hd : (l.drop a.toNat).length = l.length - a.toNat := List.length_drop
  have hw : wrap64 (a + 0) = a := by rw [wrap_id (by omega) (by omega)]; omega
  cases hdl : l.drop a.toNat with
  | nil => rw [code_Get_nil, Option.map_some]; dsimp only; rw [hw]; rfl
  | cons c rest =>
    have hc : isB c := hl.1 c (List.mem_of_mem_drop (hdl ▸ List.mem_cons_self))
    obtain ⟨c0, c1⟩ := hc
    rw [code_Get_cons c rest ⟨c0, c1⟩]
    dsimp only
    rw [hdl, List.length_cons] at hd
    by_cases h : (rest.length : Int) < c
    · rw [if_pos h, if_pos h, Option.map_some, hw]; rfl
    · rw [if_neg h, if_neg h]
      by_cases h2 : (strOfNums (rest.take c.toNat)).toList = ([] : List UInt8) ∨ codeB (bytesOf (strOfNums (rest.take c.toNat))) = true
      · rw [if_pos h2, if_pos h2, Option.map_some]
        dsimp only
        rw [wrap_id (by omega) (by omega), show a + (1 + c) = a + 1 + c by omega]; rfl
      · rw [if_neg h2, if_neg h2, Option.map_some, hw]; rfl
theorem code_bad (l : List Int) (a : Int) : tell_reader_code.f l a true = some ((⟨#[]⟩ : ByteArray), a, true) := by
  unfold tell_reader_code.f
  rw [if_pos rfl]
theorem code_good : RGood tell_reader_code.f where
  bad l a h0 h1 hl := ⟨_, code_bad l a⟩
  ok l a h0 h1 hl := by
    rw [code_eq l a h0 h1 hl]
    have hd : (l.drop a.toNat).length = l.length - a.toNat := List.length_drop
    cases hdl : l.drop a.toNat with
    | nil => exact ⟨_, _, _, rfl, Int.le_refl _, h1⟩
    | cons c rest =>
      obtain ⟨c0, c1⟩ := hl.1 c (List.mem_of_mem_drop (hdl ▸ List.mem_cons_self))
      rw [hdl, List.length_cons] at hd
      dsimp only
      split
      · exact ⟨_, _, _, rfl, Int.le_refl _, h1⟩
      · split
        · exact ⟨_, _, _, rfl, by omega, by omega⟩
        · exact ⟨_, _, _, rfl, Int.le_refl _, h1⟩
  cut l a x a' h0 h1 hl he m hm hml := by
    have hlm : ((l.take m).length : Int) = m := by rw [List.length_take]; omega
    have hd : (l.drop a.toNat).length = l.length - a.toNat := List.length_drop
    rw [code_eq l a h0 h1 hl] at he
    rw [code_eq (l.take m) a h0 (by omega) (take_isB hl m), List.drop_take]
    cases hdl : l.drop a.toNat with
    | nil => rw [hdl] at he; simp at he
    | cons c rest =>
      obtain ⟨c0, c1⟩ := hl.1 c (List.mem_of_mem_drop (hdl ▸ List.mem_cons_self))
      rw [hdl] at he
      rw [hdl, List.length_cons] at hd
      dsimp only at he
      by_cases h : (rest.length : Int) < c
      · rw [if_pos h] at he; simp at he
      · rw [if_neg h] at he
        by_cases h2 : (strOfNums (rest.take c.toNat)).toList = ([] : List UInt8) ∨ codeB (bytesOf (strOfNums (rest.take c.toNat))) = true
        · rw [if_pos h2] at he
          simp only [Option.some.injEq, Prod.mk.injEq] at he
          obtain ⟨rfl, rfl, _⟩ := he
          obtain ⟨q, hq⟩ | hq : (∃ q, m - a.toNat = q + 1) ∨ m - a.toNat = 0 := by
            rcases Nat.eq_zero_or_pos (m - a.toNat) with h | h
            · exact .inr h
            · exact .inl ⟨m - a.toNat - 1, by omega⟩
          · rw [hq, List.take_succ_cons]
            dsimp only
            by_cases h3 : a + 1 + c ≤ m
            · rw [if_pos h3, if_neg (by rw [List.length_take]; omega), List.take_take, Nat.min_eq_left (by omega), if_pos h2]
            · rw [if_neg h3, if_pos (by rw [List.length_take]; omega)]
              exact ⟨_, _, rfl, Int.le_refl _, hm⟩
          · rw [hq, List.take_zero, if_neg (by omega)]
            exact ⟨_, _, rfl, Int.le_refl _, hm⟩
        · rw [if_neg h2] at he; simp at he

theorem number2_good : RGood fun l a b => (tell_reader_number.f l a b 2).bind fun r => if 0 ≤ r.1 ∧ r.1 ≤ 65535 then some (r.1.toNat, r.2.1, r.2.2) else none := by
  have h := (number_good 2 (by decide) (by decide)).bind (S := fun n l a b => some (n.toNat, a, b)) (fun n => RGood.pure n.toNat)
  refine h.congr fun l a b h0 h1 hl => ?_
  obtain ⟨x, a', b', hx, h2, h3⟩ := (number_good 2 (by decide) (by decide)).any l a b h0 h1 hl
  have hr : 0 ≤ x ∧ x ≤ 65535 := by
    cases b
    · rw [number_eq l a 2 h0 h1 (by decide) (by decide)] at hx
      by_cases h : (l.length : Int) - a < 2
      · rw [if_pos h] at hx
        simp only [Option.some.injEq, Prod.mk.injEq] at hx
        omega
      · rw [if_neg h] at hx
        simp only [Option.some.injEq, Prod.mk.injEq] at hx
        have := be_range2 (l := (l.drop a.toNat).take (2 : Int).toNat) (fun c hc => hl.1 c (List.mem_of_mem_drop (List.mem_of_mem_take hc))) (by rw [List.length_take, List.length_drop]; omega)
        omega
    · rw [number_bad l a 2 h0 h1 (by decide) (by decide)] at hx
      simp only [Option.some.injEq, Prod.mk.injEq] at hx
      omega
  rw [hx, Option.bind_some, Option.bind_some]
  dsimp only
  rw [if_pos hr]
theorem readList_good {α : Type} {one : List Int → Int → Bool → Option (α × Int × Bool)} (h : RGood one) : ∀ n, RGood fun l a b => readList (one l) n a b
  | 0 => RGood.pure []
  | n + 1 => by
    have h2 := h.bind (S := fun x l a b => (readList (one l) n a b).bind fun q => some (x :: q.1, q.2.1, q.2.2)) (fun x => (readList_good h n).bind (S := fun ys l a b => some (x :: ys, a, b)) (fun ys => RGood.pure (x :: ys)))
    have e1 : ∀ l a, readList (one l) (n + 1) a true = some ([], a, true) := fun l a => by rw [readList, if_pos rfl]
    have e2 : ∀ l a, readList (one l) (n + 1) a false = (one l a false).bind fun r => (readList (one l) n r.2.1 r.2.2).bind fun q => some (r.1 :: q.1, q.2.1, q.2.2) := fun l a => by
      rw [readList, if_neg (by decide)]
      cases one l a false with
      | none => rfl
      | some r =>
        rw [Option.bind_some, Option.bind_some]
        cases readList (one l) n r.2.1 r.2.2 with
        | none => rfl
        | some q => rfl
    constructor
    · intro l a h0 h1 hl
      exact ⟨_, e1 l a⟩
    · intro l a h0 h1 hl
      rw [e2]
      exact h2.ok l a h0 h1 hl
    · intro l a x a' h0 h1 hl he m hm hml
      rw [e2] at he ⊢
      exact h2.cut l a x a' h0 h1 hl he m hm hml
theorem list_good {α : Type} {one : List Int → Int → Bool → Option (α × Int × Bool)} (h : RGood one) : RGood fun l a b => tell_list (one l) l a b := by
  refine (number2_good.bind (S := fun n l a b => readList (one l) n a b) (fun n => readList_good h n)).congr fun l a b h0 h1 hl => ?_
  unfold tell_list
  cases tell_reader_number.f l a b 2 with
  | none => rfl
  | some r =>
    rw [Option.bind_some, Option.bind_some]
    by_cases hr : 0 ≤ r.1 ∧ r.1 ≤ 65535
    · rw [if_pos hr, if_pos hr]; rfl
    · rw [if_neg hr, if_neg hr]; rfl
theorem num8 : RGood fun l a b => tell_reader_number.f l a b 8 := number_good 8 (by decide) (by decide)
theorem num2 : RGood fun l a b => tell_reader_number.f l a b 2 := number_good 2 (by decide) (by decide)
theorem num1 : RGood fun l a b => tell_reader_number.f l a b 1 := number_good 1 (by decide) (by decide)
theorem oneUse_good : RGood oneUse := by
  refine (num8.bind (S := fun n0 l a b => (tell_reader_number.f l a b 8).bind fun r1 => (tell_reader_number.f l r1.2.1 r1.2.2 8).bind fun r2 => some ((⟨n0, r1.1, r2.1⟩ : S57), r2.2.1, r2.2.2)) (fun n0 => num8.bind (S := fun n1 l a b => (tell_reader_number.f l a b 8).bind fun r2 => some ((⟨n0, n1, r2.1⟩ : S57), r2.2.1, r2.2.2)) (fun n1 => num8.bind (S := fun n2 l a b => some ((⟨n0, n1, n2⟩ : S57), a, b)) (fun n2 => RGood.pure _)))).congr fun l a b h0 h1 hl => ?_
  unfold oneUse tell_reader_use.f
  simp only [Option.map_bind, Function.comp_def, Option.map_some]
theorem oneLot_good : RGood oneLot := by
  refine (num8.bind (S := fun n0 l a b => (tell_reader_code.f l a b).bind fun r1 => (tell_reader_number.f l r1.2.1 r1.2.2 2).bind fun r2 => (tell_reader_number.f l r2.2.1 r2.2.2 2).bind fun r3 => (tell_reader_number.f l r3.2.1 r3.2.2 8).bind fun r4 => (tell_reader_number.f l r4.2.1 r4.2.2 1).bind fun r5 => if r5.2.2 = true then some ((⟨n0, r1.1, ⟨r2.1, r3.1⟩, r4.1, r5.1 == 1⟩ : S55), r5.2.1, true) else some ((⟨n0, r1.1, ⟨r2.1, r3.1⟩, r4.1, r5.1 == 1⟩ : S55), r5.2.1, decide (r5.1 > 1)))
    (fun n0 => code_good.bind (S := fun s1 l a b => (tell_reader_number.f l a b 2).bind fun r2 => (tell_reader_number.f l r2.2.1 r2.2.2 2).bind fun r3 => (tell_reader_number.f l r3.2.1 r3.2.2 8).bind fun r4 => (tell_reader_number.f l r4.2.1 r4.2.2 1).bind fun r5 => if r5.2.2 = true then some ((⟨n0, s1, ⟨r2.1, r3.1⟩, r4.1, r5.1 == 1⟩ : S55), r5.2.1, true) else some ((⟨n0, s1, ⟨r2.1, r3.1⟩, r4.1, r5.1 == 1⟩ : S55), r5.2.1, decide (r5.1 > 1)))
    (fun s1 => num2.bind (S := fun n2 l a b => (tell_reader_number.f l a b 2).bind fun r3 => (tell_reader_number.f l r3.2.1 r3.2.2 8).bind fun r4 => (tell_reader_number.f l r4.2.1 r4.2.2 1).bind fun r5 => if r5.2.2 = true then some ((⟨n0, s1, ⟨n2, r3.1⟩, r4.1, r5.1 == 1⟩ : S55), r5.2.1, true) else some ((⟨n0, s1, ⟨n2, r3.1⟩, r4.1, r5.1 == 1⟩ : S55), r5.2.1, decide (r5.1 > 1)))
    (fun n2 => num2.bind (S := fun n3 l a b => (tell_reader_number.f l a b 8).bind fun r4 => (tell_reader_number.f l r4.2.1 r4.2.2 1).bind fun r5 => if r5.2.2 = true then some ((⟨n0, s1, ⟨n2, n3⟩, r4.1, r5.1 == 1⟩ : S55), r5.2.1, true) else some ((⟨n0, s1, ⟨n2, n3⟩, r4.1, r5.1 == 1⟩ : S55), r5.2.1, decide (r5.1 > 1)))
    (fun n3 => num8.bind (S := fun n4 l a b => (tell_reader_number.f l a b 1).bind fun r5 => if r5.2.2 = true then some ((⟨n0, s1, ⟨n2, n3⟩, n4, r5.1 == 1⟩ : S55), r5.2.1, true) else some ((⟨n0, s1, ⟨n2, n3⟩, n4, r5.1 == 1⟩ : S55), r5.2.1, decide (r5.1 > 1)))
    (fun n4 => num1.bind (S := fun n5 l a b => if b = true then some ((⟨n0, s1, ⟨n2, n3⟩, n4, n5 == 1⟩ : S55), a, true) else some ((⟨n0, s1, ⟨n2, n3⟩, n4, n5 == 1⟩ : S55), a, decide (n5 > 1)))
    (fun n5 => RGood.leaf _ _ _))))))).congr fun l a b h0 h1 hl => ?_
  unfold oneLot tell_reader_lot.f
  simp only [Option.map_bind, Function.comp_def, Option.map_some, apply_ite (Option.map _)]
end Go.Proofs.Ytgcgcgmpihjnaaa.Q
