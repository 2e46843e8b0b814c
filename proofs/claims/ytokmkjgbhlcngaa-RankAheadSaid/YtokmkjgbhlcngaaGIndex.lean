/- slices.IndexFunc at lines; the closures of rank. -/
import Derived.Test.YtokmkjgbhlcngaaGLineSort
namespace Go.Proofs.Ytokmkjgbhlcngaa.Q
open Go.RowKit Go.Proofs.YtokmkjgbhlcngaaW.PrintWords Go.Proofs.YtokmkjgbhlcngaaW.PrintLast Go.Proofs.YtokmkjgbhlcngaaW.PrintMore Go.Proofs.Ytokmkjgbhlcngaa.G
set_option linter.unusedVariables false
set_option linter.unusedSimpArgs false

/-- The place of the first of which p holds, counted from i; else -1. -/
def idxP {α : Type} (p : α → Bool) : List α → Nat → Int
  | [], _ => -1
  | x :: r, i => if p x = true then (i : Int) else idxP p r (i + 1)
theorem drop_next {α : Type} (l : List α) (z : α) (i : Nat) (h : i < l.length) : l.drop i = l.getD i z :: l.drop (i + 1) := by
  rw [List.drop_eq_getElem_cons h]
  simp [List.getD_eq_getElem?_getD, List.getElem?_eq_getElem h]
def lineCells (x : S24) : Array Value := #[.int .i64 x.f0, .string x.f1, .int .i64 x.f2, .int .i64 x.f3, .int .i64 x.f4, .int .u8 x.f5, .int .i64 x.f6, .string x.f7]

set_option maxHeartbeats 4000000 in
set_option maxRecDepth 100000 in
theorem index_line (p : S24 → Bool) (g : Nat) (cb : Array Value) (A0 : Option Addr) (c0 : Nat) (l0 : List S24) (w : World) (eg : ∀ args W, (callFunc g args).run Try.prog W = .ok (.enter g args) W)
    (hf : ∀ (W : World) (x : S24), Below w.heap.size w W → Calls Try.prog g (#[.agg (lineCells x)] ++ cb) W fun e w' => e = .returned (.bool (p x)) ∧ Below W.heap.size W w')
    (hr0 : Kd.C k24 w A0 l0.length l0) (hlen : l0.length ≤ 1000000) :
    Calls Try.prog 36 #[.slice A0 l0.length c0, .func (.func g) #[] cb] w fun e w' => e = .returned (.int .i64 (idxP p l0 0)) ∧ Below w.heap.size w w' := by
  have HR0 := Aside0.mk hr0
  have HF := Lib.hid hf
  have HLN := Aside0.mk hlen
  have HB0 := Aside0.mk (Below.refl w.heap.size w)
  clear hr0 hf hlen
  go_enter Try.func36, Try.ntmps36
  go_wp2
  go_loopg [8] l0.length (fun k s8 wr => ∃ i : Nat, s8 = .int .i64 (i : Int) ∧ Hid (i + k = l0.length) ∧ Hid (idxP p (l0.drop i) i = idxP p l0 0) ∧ Aside0 (Below w.heap.size w wr))
  case atStart => exact ⟨0, rfl, Lib.hid (by omega), Lib.hid rfl, HB0⟩
  case round =>
    obtain ⟨i, rfl, HI, HX, HB⟩ := hrel
    cases gk with
    | zero =>
      have hk : ¬ (i : Int) < (l0.length : Int) := by have := HI.out; omega
      have hall : idxP p l0 0 = -1 := by rw [← HX.out, List.drop_of_length_le (by have := HI.out; omega)]; rfl
      have HALL := Lib.hid hall
      clear hall
      go_wp2
      go_ret
      exact ⟨ret_int HALL.out.symm, HB.out⟩
    | succ n =>
      have hk : (i : Int) < (l0.length : Int) := by have := HI.out; omega
      have hin : i < l0.length := by have := HI.out; omega
      obtain ⟨ad, e, q0, q1, q2, q3, q4, q5, q6, q7⟩ := at_T24 (Kd.C_below HR0.out HB.out) (i : Int) (by omega) (by omega)
      have hx : rd_T24 l0 (i : Int) = l0.getD i z24 := rfl
      have hdr := drop_next l0 z24 i hin
      rw [hx] at q0 q1 q2 q3 q4 q5 q6 q7
      generalize l0.getD i z24 = x at q0 q1 q2 q3 q4 q5 q6 q7 hdr
      rw [Int.toNat_natCast] at q0 q1 q2 q3 q4 q5 q6 q7
      have HDR := Lib.hid hdr
      have HIN := Lib.hid hin
      clear hdr hx hin
      subst e
      have hw : wrap64 ((i : Int) + 1) = ((i + 1 : Nat) : Int) := by have := HLN.out; have := HIN.out; unfold wrap64; omega
      have HW := Lib.hid hw
      clear hw
      cases hpx : p x
      · have HPX := Lib.hid hpx
        clear hpx
        go_wp2_with fail
        refine (HF.out _ x HB.out).mono ?_
        rintro e w2 ⟨rfl, hb⟩
        have HB2 := Aside0.mk (below_then HB.out HB.out.size hb)
        rw [HPX.out]
        clear hb
        go_wp2_with fail
        go_roundg n
        case measure => omega
        case rel => exact ⟨i + 1, congrArg (Value.int .i64) HW.out, Lib.hid (by have := HI.out; omega), Lib.hid (by rw [← HX.out, HDR.out, idxP, HPX.out, if_neg (by decide)]), HB2⟩
      · have hix : idxP p l0 0 = (i : Int) := by rw [← HX.out, HDR.out, idxP, hpx, if_pos rfl]
        have HIX := Lib.hid hix
        have HPX := Lib.hid hpx
        clear hpx hix
        go_wp2_with fail
        refine (HF.out _ x HB.out).mono ?_
        rintro e w2 ⟨rfl, hb⟩
        have HB2 := Aside0.mk (below_then HB.out HB.out.size hb)
        rw [HPX.out]
        clear hb
        go_wp2_with fail
        go_ret
        exact ⟨ret_int HIX.out.symm, HB2.out⟩

theorem open_1.calls (x : S24) (w : World) :
    Calls Try.prog 34 (#[.agg (lineCells x)] ++ #[]) w fun e w' => e = .returned (.bool (x.f5 != 1)) ∧ Below w.heap.size w w' := by
  have HB := Lib.hid (below_alloc (Below.refl w.heap.size w) (Obj.cells (lineCells x) 24))
  show Calls Try.prog 34 #[.agg #[.int .i64 x.f0, .string x.f1, .int .i64 x.f2, .int .i64 x.f3, .int .i64 x.f4, .int .u8 x.f5, .int .i64 x.f6, .string x.f7]] w _
  go_enter Try.func34, Try.ntmps34
  go_wp2
  go_ret
  exact ⟨ret_bool (by first | rfl | simp), HB.out⟩
theorem ahead_1.calls (id : Int) (a : Nat) (x : S24) (w : World) (ha : w.cell? ⟨a, 0, none⟩ = some (.int .i64 id)) :
    Calls Try.prog 37 (#[.agg (lineCells x)] ++ #[.pointer (some ⟨a, 0, none⟩)]) w fun e w' => e = .returned (.bool (x.f0 == id)) ∧ Below w.heap.size w w' := by
  have hlt := World.block_lt_of_cell? w _ ha
  have HB := Lib.hid (below_alloc (Below.refl w.heap.size w) (Obj.cells (lineCells x) 24))
  show Calls Try.prog 37 #[.agg #[.int .i64 x.f0, .string x.f1, .int .i64 x.f2, .int .i64 x.f3, .int .i64 x.f4, .int .u8 x.f5, .int .i64 x.f6, .string x.f7], .pointer (some ⟨a, 0, none⟩)] w _
  go_enter Try.func37, Try.ntmps37
  go_wp2
  go_ret
  exact ⟨ret_bool (by first | rfl | simp), HB.out⟩
end Go.Proofs.Ytokmkjgbhlcngaa.Q
