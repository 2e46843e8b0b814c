/- code.Right, code.row, code.Put, code.Get: what they answer. -/
import Derived.Test.YtckekncllmhohaaGPlain
import Derived.Test.YtckekncllmhohaaQ0
import Derived.Laws.RangeAny
import Derived.LoopTactic
import Derived.Outline
import Derived.WalkSpells
import Derived.Lib.Hide
namespace Go.Proofs.Ytckekncllmhohaa.Q
open Go.RowKit Go.Proofs.YtckekncllmhohaaW.PrintWords Go.Proofs.YtckekncllmhohaaW.PrintLast Go.Proofs.YtckekncllmhohaaW.PrintMore Go.Proofs.Ytckekncllmhohaa.G
set_option linter.unusedVariables false
set_option linter.unusedSimpArgs false
set_option linter.all false

/-- One step of a range over a string: the rune c, the next place. -/
theorem next_some (P : Program) (w : World) (s : ByteArray) (pos : Nat) (h : pos < s.size) :
    ∃ (c : Int) (pos' : Nat), (∀ ty, (Instr.next (.pointer (some ⟨w.heap.size, 0, none⟩)) true ty).run P (w.iter s pos) = .ok (.tuple #[.bool true, .int .i64 pos, .int .i32 c]) (w.iter s pos')) ∧
      pos < pos' ∧ 0 ≤ c ∧ c ≤ 2147483647 ∧ ((c = ((s[pos]'h).toNat : Int) ∧ pos' = pos + 1) ∨ (128 ≤ c ∧ 128 ≤ ((s[pos]'h).toNat : Int))) := by
  by_cases ha : (s[pos]'h).toNat < 128
  · exact ⟨((s[pos]'h).toNat : Int), pos + 1, fun ty => run_next_ascii w s pos ty h ha, by omega, by omega, by omega, .inl ⟨rfl, rfl⟩⟩
  · have hh := decode_high s pos h (by omega)
    have hl := decode_le s pos
    exact ⟨((Utf8.decode s pos).1 : Int), pos + (Utf8.decode s pos).2, fun ty => run_next_any w s pos ty h, by omega, by omega, by omega, .inr ⟨by omega, by omega⟩⟩

def code_Right.f (a0 : ByteArray) : Option Bool := some (codeB (bytesOf a0))

theorem okFrom_step (s : ByteArray) (pos : Nat) (h : pos < s.size) : okFrom pos ((bytesOf s).drop pos) = (okAt pos ((s[pos]'h).toNat : Int) && okFrom (pos + 1) ((bytesOf s).drop (pos + 1))) := by
  rw [bytesOf_drop s pos h]; rfl

theorem codeB_false {s : ByteArray} (h : okFrom 0 (bytesOf s) = false) : codeB (bytesOf s) = false := by
  unfold codeB; rw [h]; simp

set_option maxHeartbeats 4000000 in
set_option maxRecDepth 100000 in
theorem code_Right_any (s : ByteArray) (w : World) :
    Calls Try.prog 19 #[.string s] w fun e w' => e = .returned (.bool (codeB (bytesOf s))) ∧ Below w.heap.size w w' := by
  go_enter Try.func19, Try.ntmps19
  go_wp2
  go_loopw [] (fun wr => ∃ pos : Nat, wr = w.iter s pos ∧ Hid (okFrom pos ((bytesOf s).drop pos) = okFrom 0 (bytesOf s))) (fun wr => s.size - wr.iterPos w.heap.size)
  case atStart => exact ⟨0, rfl, rfl⟩
  case round =>
    obtain ⟨pos, rfl, HR⟩ := hrel
    by_cases hp : pos < s.size
    · obtain ⟨c, pos', hnx, hpp, hc0, hc1, hcase⟩ := next_some Try.prog w s pos hp
      have HCASE := Lib.hid hcase
      clear hcase
      have hstep : ∀ b, okAt pos c = b → b = true → pos' = pos + 1 ∧ Hid (okFrom (pos + 1) ((bytesOf s).drop (pos + 1)) = okFrom 0 (bytesOf s)) := by
        intro b hb ht
        rcases HCASE.out with ⟨h1, h2⟩ | ⟨h1, h2⟩
        · refine ⟨h2, ?_⟩
          show _ = _
          rw [← HR.out, okFrom_step s pos hp, ← h1, hb, ht]; rfl
        · rw [okAt_high h1] at hb; subst hb; cases ht
      have hstop : okAt pos c = false → codeB (bytesOf s) = false := by
        intro hb
        refine codeB_false ?_
        rw [← HR.out, okFrom_step s pos hp]
        rcases HCASE.out with ⟨h1, h2⟩ | ⟨h1, h2⟩
        · rw [← h1, hb]; rfl
        · rw [okAt_high h2]; rfl
      have HSTEP := Lib.hid hstep
      have HSTOP := Lib.hid hstop
      clear hstep hstop
      by_cases hA : 65 ≤ c ∧ c ≤ 90
      · obtain ⟨hA1, hA2⟩ := hA
        go_wp2
        obtain ⟨hq, HR'⟩ := HSTEP.out true (by unfold okAt; simp [hA1, hA2]) rfl
        go_roundw
        case rel => exact ⟨pos', rfl, by rw [hq]; exact HR'⟩
        case measure => simp; omega
      · have hbel : ∀ q, Below w.heap.size w (w.iter s q) := fun q => (Below.refl _ _).alloc (Nat.le_refl _) _
        have HBEL := Lib.hid hbel
        clear hbel
        have HA := Lib.hid hA
        clear hA
        by_cases h0 : pos = 0
        · have hstop := HSTOP.out (by unfold okAt; rw [h0]; simp; intro h1; have := HA.out; omega)
          have HS2 := Lib.hid hstop
          clear hstop HSTOP HSTEP
          have hp0 : ¬ (0 : Int) < (pos : Int) := by omega
          clear h0
          by_cases h65 : 65 ≤ c
          · have h90 : ¬ c ≤ 90 := by have := HA.out; omega
            go_wp2
            go_ret
            exact ⟨ret_bool HS2.out.symm, HBEL.out _⟩
          · go_wp2
            go_ret
            exact ⟨ret_bool HS2.out.symm, HBEL.out _⟩
        · have hp0 : (0 : Int) < (pos : Int) := by omega
          have hpn : 0 < pos := by omega
          by_cases h48 : 48 ≤ c ∧ c ≤ 57
          · obtain ⟨h48a, h48b⟩ := h48
            have h65 : ¬ 65 ≤ c := by omega
            obtain ⟨hq, HR'⟩ := HSTEP.out true (by unfold okAt; simp [hpn, h48a, h48b]) rfl
            have HQ := Lib.hid hq
            clear hq HSTOP HSTEP h0
            go_wp2
            go_roundw
            case rel => exact ⟨pos', rfl, by rw [HQ.out]; exact HR'⟩
            case measure => simp; omega
          · by_cases h45 : c = 45
            · have h65 : ¬ 65 ≤ c := by omega
              have h48' : ¬ 48 ≤ c := by omega
              have e45 : (c == 45) = true := by simp [h45]
              obtain ⟨hq, HR'⟩ := HSTEP.out true (by unfold okAt; simp [hpn, h45]) rfl
              have HQ := Lib.hid hq
              have H45 := Lib.hid h45
              clear hq HSTOP HSTEP h0 h45 h48
              go_wp2
              go_roundw
              case rel => exact ⟨pos', rfl, by rw [HQ.out]; exact HR'⟩
              case measure => simp; omega
            · have hstop := HSTOP.out (by unfold okAt; simp [h45]; constructor <;> intros <;> (have := HA.out; omega))
              have HS2 := Lib.hid hstop
              have e45 : (c == 45) = false := by simp [h45]
              have H48 := Lib.hid h48
              clear hstop HSTOP HSTEP h48 h0 h45
              by_cases h65 : 65 ≤ c
              · have h90 : ¬ c ≤ 90 := by have := HA.out; omega
                have h57 : ¬ c ≤ 57 := by omega
                have h48 : 48 ≤ c := by omega
                go_wp2
                go_ret
                exact ⟨ret_bool HS2.out.symm, HBEL.out _⟩
              · by_cases h48 : 48 ≤ c
                · have h57 : ¬ c ≤ 57 := by have := H48.out; omega
                  go_wp2
                  go_ret
                  exact ⟨ret_bool HS2.out.symm, HBEL.out _⟩
                · go_wp2
                  go_ret
                  exact ⟨ret_bool HS2.out.symm, HBEL.out _⟩
    · have hall : okFrom 0 (bytesOf s) = true := by rw [← HR.out]; exact okFrom_drop_all s pos hp
      have HALL := Lib.hid hall
      have hnx : ∀ ty, (Instr.next (.pointer (some ⟨w.heap.size, 0, none⟩)) true ty).run Try.prog (w.iter s pos) = _ := fun ty => run_next_end w s pos ty hp
      have HBEL : Hid (Below w.heap.size w (w.iter s pos)) := (Below.refl _ _).alloc (Nat.le_refl _) _
      clear hall HR
      by_cases hz : s.toList = []
      · have hz' : s.toList.isEmpty = true := by simp [hz]
        have hres : codeB (bytesOf s) = false := by
          have : bytesOf s = [] := by rw [bytesOf, ← Go.ByteArray.toList_eq, hz]; rfl
          rw [this]; rfl
        have HRES := Lib.hid hres
        clear hres hp hz
        go_wp2
        go_ret
        exact ⟨ret_bool HRES.out.symm, HBEL.out⟩
      · have hz' : s.toList.isEmpty = false := by simpa using hz
        have hne : (bytesOf s).isEmpty = false := by rw [bytesOf_ne, ← Go.ByteArray.toList_eq]; exact hz'
        by_cases h12 : s.size ≤ 12
        · have hres : codeB (bytesOf s) = true := by unfold codeB; rw [hne, HALL.out, bytesOf_length, decide_eq_true h12]; rfl
          have HRES := Lib.hid hres
          clear hres hp hz hne
          go_wp2
          go_ret
          exact ⟨ret_bool (by rw [HRES.out]; exact decide_eq_true (by omega)), HBEL.out⟩
        · have hres : codeB (bytesOf s) = false := by unfold codeB; rw [hne, bytesOf_length, decide_eq_false h12]; rfl
          have HRES := Lib.hid hres
          clear hres hp hz hne
          go_wp2
          go_ret
          exact ⟨ret_bool (by rw [HRES.out]; exact decide_eq_false (by omega)), HBEL.out⟩

theorem code_Right.calls (a0 : ByteArray) (r : Bool) (w : World) (h : code_Right.f a0 = some r) :
    Calls Try.prog 19 #[.string a0] w fun e w' => e = .returned (.bool r) ∧ Below w.heap.size w w' := by
  obtain rfl : codeB (bytesOf a0) = r := by injection h
  exact code_Right_any a0 w
end Go.Proofs.Ytckekncllmhohaa.Q
