/- code.Right, code.row, code.Put, code.Get: what they answer. -/
import Derived.Test.YtgcgcgmpihjnaaaGPlain
import Derived.Test.YtgcgcgmpihjnaaaQ0
import Derived.Test.YtgcgcgmpihjnaaaQ3
import Derived.Laws.RangeAny
import Derived.LoopTactic
import Derived.Outline
import Derived.WalkSpells
import Derived.Lib.Hide
namespace Go.Proofs.Ytgcgcgmpihjnaaa.Q
open Go.RowKit Go.Proofs.YtgcgcgmpihjnaaaW.PrintWords Go.Proofs.YtgcgcgmpihjnaaaW.PrintLast Go.Proofs.YtgcgcgmpihjnaaaW.PrintMore Go.Proofs.Ytgcgcgmpihjnaaa.G
set_option linter.unusedVariables false
set_option linter.unusedSimpArgs false

/-- One step of a range over a string: the rune c, the next place. -/
theorem next_some (P : Program) (w : World) (s : ByteArray) (pos : Nat) (h : pos < s.size) :
    ∃ (c : Int) (pos' : Nat), (∀ ty, (Instr.next (.pointer (some ⟨w.heap.size, 0, none⟩)) true ty).run P (w.iter s pos) = .ok (.tuple #[.bool true, .int .i64 pos, .int .i32 c]) (w.iter s pos')) ∧
      pos < pos' ∧ 0 ≤ c ∧ c ≤ 2147483647 ∧ ((c = ((s[pos]'h).toNat : Int) ∧ pos' = pos + 1) ∨ (128 ≤ c ∧ 128 ≤ ((s[pos]'h).toNat : Int))) := by
  by_cases ha : (s[pos]'h).toNat < 128
  · exact ⟨((s[pos]'h).toNat : Int), pos + 1, fun ty => run_next_ascii w s pos ty h ha, by omega, by omega, by omega, .inl ⟨rfl, rfl⟩⟩
  · have hh := decode_high s pos h (by omega)
    have hl := decode_le s pos
    exact ⟨((Utf8.decode s pos).1 : Int), pos + (Utf8.decode s pos).2, fun ty => run_next_any w s pos ty h, by omega, by omega, by omega, .inr ⟨by omega, by omega⟩⟩

def code_Right.f (a0 : ByteArray) : Option Bool := some (codeB (bytesOf a0))

theorem okFrom_step (s : ByteArray) (pos : Nat) (h : pos < s.size) : okFrom pos ((bytesOf s).drop pos) = (okAt pos ((s[pos]'h).toNat : Int) && okFrom (pos + 1) ((bytesOf s).drop (pos + 1))) := by
  rw [bytesOf_drop s pos h]; rfl

theorem codeB_false {s : ByteArray} (h : okFrom 0 (bytesOf s) = false) : codeB (bytesOf s) = false := by
  unfold codeB; rw [h]; simp

set_option maxHeartbeats 4000000 in
set_option maxRecDepth 100000 in
theorem code_Right_any (s : ByteArray) (w : World) :
    Calls Try.prog 30 #[.string s] w fun e w' => e = .returned (.bool (codeB (bytesOf s))) ∧ Below w.heap.size w w' := by
  go_enter Try.func30, Try.ntmps30
  go_wp2
  go_loopw [] (fun wr => ∃ pos : Nat, wr = w.iter s pos ∧ Hid (okFrom pos ((bytesOf s).drop pos) = okFrom 0 (bytesOf s))) (fun wr => s.size - wr.iterPos w.heap.size)
  case atStart => exact ⟨0, rfl, rfl⟩
  case round =>
    obtain ⟨pos, rfl, HR⟩ := hrel
    by_cases hp : pos < s.size
    · obtain ⟨c, pos', hnx, hpp, hc0, hc1, hcase⟩ := next_some Try.prog w s pos hp
      have HCASE := Lib.hid hcase
      clear hcase
      have hstep : ∀ b, okAt pos c = b → b = true → pos' = pos + 1 ∧ Hid (okFrom (pos + 1) ((bytesOf s).drop (pos + 1)) = okFrom 0 (bytesOf s)) := by
        intro b hb ht
        rcases HCASE.out with ⟨h1, h2⟩ | ⟨h1, h2⟩
        · refine ⟨h2, ?_⟩
          show _ = _
          rw [← HR.out, okFrom_step s pos hp, ← h1, hb, ht]; rfl
        · rw [okAt_high h1] at hb; subst hb; cases ht
      have hstop : okAt pos c = false → codeB (bytesOf s) = false := by
        intro hb
        refine codeB_false ?_
        rw [← HR.out, okFrom_step s pos hp]
        rcases HCASE.out with ⟨h1, h2⟩ | ⟨h1, h2⟩
        · rw [← h1, hb]; rfl
        · rw [okAt_high h2]; rfl
      have HSTEP := Lib.hid hstep
      have HSTOP := Lib.hid hstop
      clear hstep hstop
      by_cases hA : 65 ≤ c ∧ c ≤ 90
      · obtain ⟨hA1, hA2⟩ := hA
        go_wp2
        obtain ⟨hq, HR'⟩ := HSTEP.out true (by unfold okAt; simp [hA1, hA2]) rfl
        go_roundw
        case rel => exact ⟨pos', rfl, by rw [hq]; exact HR'⟩
        case measure => simp; omega
      · have hbel : ∀ q, Below w.heap.size w (w.iter s q) := fun q => (Below.refl _ _).alloc (Nat.le_refl _) _
        have HBEL := Lib.hid hbel
        clear hbel
        have HA := Lib.hid hA
        clear hA
        by_cases h0 : pos = 0
        · have hstop := HSTOP.out (by unfold okAt; rw [h0]; simp; intro h1; have := HA.out; omega)
          have HS2 := Lib.hid hstop
          clear hstop HSTOP HSTEP
          have hp0 : ¬ (0 : Int) < (pos : Int) := by omega
          clear h0
          by_cases h65 : 65 ≤ c
          · have h90 : ¬ c ≤ 90 := by have := HA.out; omega
            go_wp2
            go_ret
            exact ⟨ret_bool HS2.out.symm, HBEL.out _⟩
          · go_wp2
            go_ret
            exact ⟨ret_bool HS2.out.symm, HBEL.out _⟩
        · have hp0 : (0 : Int) < (pos : Int) := by omega
          have hpn : 0 < pos := by omega
          by_cases h48 : 48 ≤ c ∧ c ≤ 57
          · obtain ⟨h48a, h48b⟩ := h48
            have h65 : ¬ 65 ≤ c := by omega
            obtain ⟨hq, HR'⟩ := HSTEP.out true (by unfold okAt; simp [hpn, h48a, h48b]) rfl
            have HQ := Lib.hid hq
            clear hq HSTOP HSTEP h0
            go_wp2
            go_roundw
            case rel => exact ⟨pos', rfl, by rw [HQ.out]; exact HR'⟩
            case measure => simp; omega
          · by_cases h45 : c = 45
            · have h65 : ¬ 65 ≤ c := by omega
              have h48' : ¬ 48 ≤ c := by omega
              have e45 : (c == 45) = true := by simp [h45]
              obtain ⟨hq, HR'⟩ := HSTEP.out true (by unfold okAt; simp [hpn, h45]) rfl
              have HQ := Lib.hid hq
              have H45 := Lib.hid h45
              clear hq HSTOP HSTEP h0 h45 h48
              go_wp2
              go_roundw
              case rel => exact ⟨pos', rfl, by rw [HQ.out]; exact HR'⟩
              case measure => simp; omega
            · have hstop := HSTOP.out (by unfold okAt; simp [h45]; constructor <;> intros <;> (have := HA.out; omega))
              have HS2 := Lib.hid hstop
              have e45 : (c == 45) = false := by simp [h45]
              have H48 := Lib.hid h48
              clear hstop HSTOP HSTEP h48 h0 h45
              by_cases h65 : 65 ≤ c
              · have h90 : ¬ c ≤ 90 := by have := HA.out; omega
                have h57 : ¬ c ≤ 57 := by omega
                have h48 : 48 ≤ c := by omega
                go_wp2
                go_ret
                exact ⟨ret_bool HS2.out.symm, HBEL.out _⟩
              · by_cases h48 : 48 ≤ c
                · have h57 : ¬ c ≤ 57 := by have := H48.out; omega
                  go_wp2
                  go_ret
                  exact ⟨ret_bool HS2.out.symm, HBEL.out _⟩
                · go_wp2
                  go_ret
                  exact ⟨ret_bool HS2.out.symm, HBEL.out _⟩
    · have hall : okFrom 0 (bytesOf s) = true := by rw [← HR.out]; exact okFrom_drop_all s pos hp
      have HALL := Lib.hid hall
      have hnx : ∀ ty, (Instr.next (.pointer (some ⟨w.heap.size, 0, none⟩)) true ty).run Try.prog (w.iter s pos) = _ := fun ty => run_next_end w s pos ty hp
      have HBEL : Hid (Below w.heap.size w (w.iter s pos)) := (Below.refl _ _).alloc (Nat.le_refl _) _
      clear hall HR
      by_cases hz : s.toList = []
      · have hz' : s.toList.isEmpty = true := by simp [hz]
        have hres : codeB (bytesOf s) = false := by
          have : bytesOf s = [] := by rw [bytesOf, ← Go.ByteArray.toList_eq, hz]; rfl
          rw [this]; rfl
        have HRES := Lib.hid hres
        clear hres hp hz
        go_wp2
        go_ret
        exact ⟨ret_bool HRES.out.symm, HBEL.out⟩
      · have hz' : s.toList.isEmpty = false := by simpa using hz
        have hne : (bytesOf s).isEmpty = false := by rw [bytesOf_ne, ← Go.ByteArray.toList_eq]; exact hz'
        by_cases h12 : s.size ≤ 12
        · have hres : codeB (bytesOf s) = true := by unfold codeB; rw [hne, HALL.out, bytesOf_length, decide_eq_true h12]; rfl
          have HRES := Lib.hid hres
          clear hres hp hz hne
          go_wp2
          go_ret
          exact ⟨ret_bool (by rw [HRES.out]; exact decide_eq_true (by omega)), HBEL.out⟩
        · have hres : codeB (bytesOf s) = false := by unfold codeB; rw [hne, bytesOf_length, decide_eq_false h12]; rfl
          have HRES := Lib.hid hres
          clear hres hp hz hne
          go_wp2
          go_ret
          exact ⟨ret_bool (by rw [HRES.out]; exact decide_eq_false (by omega)), HBEL.out⟩

theorem code_Right.calls (a0 : ByteArray) (r : Bool) (w : World) (h : code_Right.f a0 = some r) :
    Calls Try.prog 30 #[.string a0] w fun e w' => e = .returned (.bool r) ∧ Below w.heap.size w w' := by
  obtain rfl : codeB (bytesOf a0) = r := by injection h
  exact code_Right_any a0 w

/-! ### code.Put -/
def code_Put.f (a0 : ByteArray) : Option (List Int) := if a0.toList = ([] : List UInt8) ∨ codeB (bytesOf a0) = true then some ((a0.size : Int) % 256 :: bytesOf a0) else some []

theorem codeB_len {l : List Int} (h : codeB l = true) : l.length ≤ 12 := by
  unfold codeB at h
  simp at h
  exact h.2.1
theorem size_of_empty {s : ByteArray} (h : s.toList = []) : s.size = 0 := by
  rw [Go.ByteArray.toList_eq] at h
  have := data_length s
  rw [h] at this
  simpa using this.symm

theorem row_bytes (s : ByteArray) (hs : s.size ≤ 12) (x : Int) (w w1 : World) (hb : Below w.heap.size w w1) :
    Calls Try.prog 57 #[.int .u8 x, .slice (some ⟨w1.heap.size, 0, none⟩) s.size (grownCap w1 s.size 0 5)] (Lib.bytesWorld w1 5 s) fun e w' =>
      ∃ v0_ : Value, e = .returned v0_ ∧ Kd.R (Kd.int .u8) 5 w' w.heap.size (fun _ => True) v0_ (x :: bytesOf s) ∧ Below w.heap.size w w' := by
  have hrow : code_row.f x (bytesOf s) = some (x :: bytesOf s) := by
    unfold code_row.f
    simp [bytesOf_length]
    omega
  have hb2 := bytes_below hb hb.size 5 s
  have hc := code_row.calls x (some ⟨w1.heap.size, 0, none⟩) (grownCap w1 s.size 0 5) (bytesOf s) _ (Lib.bytesWorld w1 5 s)
    (Kd.C_of_reads (d := (0 : Int)) (h1 := fun _ => rfl) (by rw [bytesOf_length]; exact bytes_reads w1 5 s (by omega))) (by rw [bytesOf_length]; exact grownCap_ge _ _ _ _) hrow
  rw [bytesOf_length] at hc
  refine hc.mono ?_
  rintro e w' ⟨v, rfl, hR, hb3⟩
  exact ⟨v, rfl, Kd.R_lower hR hb2.size, below_then hb2 hb2.size hb3⟩

set_option maxHeartbeats 4000000 in
set_option maxRecDepth 100000 in
theorem code_Put_right (s : ByteArray) (w : World) (hr : codeB (bytesOf s) = true) (he' : s.toList.isEmpty = false) :
    Calls Try.prog 29 #[.string s] w fun e w' => ∃ v0_ : Value, e = .returned (v0_) ∧ Kd.R (Kd.int .u8) 5 w' w.heap.size (fun _ => True) v0_ ((s.size : Int) % 256 :: bytesOf s) ∧ Below w.heap.size w w' := by
  have kb := fun W => print_bytes (P := Try.prog) 9 31 5 Try.underlying9 Try.underlying31 Try.underlying5 s W
  have HS : Hid (s.size ≤ 12) := by show _ ≤ _; rw [← bytesOf_length]; exact codeB_len hr
  have HR : Aside0 (code_Right.f s = some true) := ⟨by unfold code_Right.f; rw [hr]⟩
  clear hr
  go_enter Try.func29, Try.ntmps29
  go_wp2_with (first | (go_at_call 30; refine (code_Right.calls s true _ HR.out).mono ?_; rintro e w1 ⟨rfl, hb1⟩))
  refine (row_bytes s HS.out _ w w1 hb1).mono ?_
  rintro e w2 ⟨v, rfl, hR, hb2⟩
  have HRR := Aside0.mk hR
  have HBB := Aside0.mk hb2
  clear hR hb2 hb1
  go_wp2_with fail
  go_ret
  exact ⟨v, rfl, HRR.out, HBB.out⟩

set_option maxHeartbeats 4000000 in
set_option maxRecDepth 100000 in
theorem code_Put_empty (s : ByteArray) (w : World) (hs : s.toList = []) :
    Calls Try.prog 29 #[.string s] w fun e w' => ∃ v0_ : Value, e = .returned (v0_) ∧ Kd.R (Kd.int .u8) 5 w' w.heap.size (fun _ => True) v0_ ((s.size : Int) % 256 :: bytesOf s) ∧ Below w.heap.size w w' := by
  have kb := fun W => print_bytes (P := Try.prog) 9 31 5 Try.underlying9 Try.underlying31 Try.underlying5 s W
  have HS : Hid (s.size ≤ 12) := by show _ ≤ _; rw [size_of_empty hs]; omega
  have he' : s.toList.isEmpty = true := by simp [hs]
  clear hs
  go_enter Try.func29, Try.ntmps29
  go_wp2_with fail
  refine (row_bytes s HS.out _ w w (Below.refl _ _)).mono ?_
  rintro e w2 ⟨v, rfl, hR, hb2⟩
  have HRR := Aside0.mk hR
  have HBB := Aside0.mk hb2
  clear hR hb2
  go_wp2_with fail
  go_ret
  exact ⟨v, rfl, HRR.out, HBB.out⟩

set_option maxHeartbeats 4000000 in
set_option maxRecDepth 100000 in
theorem code_Put_wrong (s : ByteArray) (w : World) (hr : codeB (bytesOf s) = false) (he' : s.toList.isEmpty = false) :
    Calls Try.prog 29 #[.string s] w fun e w' => ∃ v0_ : Value, e = .returned (v0_) ∧ Kd.R (Kd.int .u8) 5 w' w.heap.size (fun _ => True) v0_ [] ∧ Below w.heap.size w w' := by
  have HR : Aside0 (code_Right.f s = some false) := ⟨by unfold code_Right.f; rw [hr]⟩
  clear hr
  go_enter Try.func29, Try.ntmps29
  go_wp2_with (first | (go_at_call 30; refine (code_Right.calls s false _ HR.out).mono ?_; rintro e w1 ⟨rfl, hb1⟩))
  go_ret
  exact ⟨_, rfl, Kd.R_nil _ _ _ _ _, hb1⟩

theorem code_Put.calls (a0 : ByteArray) (r : List Int) (w : World) (h : code_Put.f a0 = some r) :
    Calls Try.prog 29 #[.string a0] w fun e w' => ∃ v0_ : Value, e = .returned (v0_) ∧ Kd.R (Kd.int .u8) 5 w' w.heap.size (fun _ => True) v0_ r ∧ Below w.heap.size w w' := by
  unfold code_Put.f at h
  by_cases he : a0.toList = []
  · rw [if_pos (Or.inl he)] at h
    injection h with h
    subst h
    exact code_Put_empty a0 w he
  · have he' : a0.toList.isEmpty = false := by simpa using he
    cases hc : codeB (bytesOf a0)
    · rw [if_neg (by simp [he, hc])] at h
      injection h with h
      subst h
      exact code_Put_wrong a0 w hc he'
    · rw [if_pos (Or.inr hc)] at h
      injection h with h
      subst h
      exact code_Put_right a0 w hc he'

/-! ### code.Get -/
def code_Get.f (l : List Int) : Option (ByteArray × Int × Bool) :=
  if l.length = 0 then some ((⟨#[]⟩ : ByteArray), 0, false)
  else if 0 ≤ rd l 0 ∧ rd l 0 < 256 then
    if (l.length : Int) < 1 + rd l 0 then some ((⟨#[]⟩ : ByteArray), 0, false)
    else if (strOfNums ((l.take (1 + rd l 0).toNat).drop 1)).toList = ([] : List UInt8) ∨ codeB (bytesOf (strOfNums ((l.take (1 + rd l 0).toNat).drop 1))) = true then
      some (strOfNums ((l.take (1 + rd l 0).toNat).drop 1), 1 + ((strOfNums ((l.take (1 + rd l 0).toNat).drop 1)).size : Int), true)
    else some ((⟨#[]⟩ : ByteArray), 0, false)
  else none

theorem wrap_id' {i : Int} (h0 : -9223372036854775808 ≤ i) (h : i ≤ 9223372036854775807) : wrap64 i = i := by unfold wrap64; omega
theorem ret_tup3 {s s' : ByteArray} {n n' : Int} {b b' : Bool} (h1 : s = s') (h2 : n = n') (h3 : b = b') : Ending.returned (.tuple #[.string s, .int .i64 n, .bool b]) = Ending.returned (.tuple #[.string s', .int .i64 n', .bool b']) := by rw [h1, h2, h3]

set_option maxHeartbeats 4000000 in
set_option maxRecDepth 100000 in
theorem code_Get.calls (A0 : Option Addr) (c0 : Nat) (l0 : List Int) (r1 : ByteArray) (r2 : Int) (r3 : Bool) (w : World) (hr0 : Kd.C (Kd.int .u8) w A0 l0.length l0) (hc0 : l0.length ≤ c0) (h : code_Get.f l0 = some (r1, r2, r3)) :
    Calls Try.prog 83 #[.slice A0 l0.length c0] w fun e w' => e = .returned (.tuple #[.string r1, .int .i64 r2, .bool r3]) ∧ Below w.heap.size w w' := by
  have HB := Lib.hid (Below.refl w.heap.size w)
  unfold code_Get.f at h
  by_cases h0 : l0.length = 0
  · rw [if_pos h0] at h
    simp only [Option.some.injEq, Prod.mk.injEq] at h
    obtain ⟨rfl, rfl, rfl⟩ := h
    have e0 : ((l0.length : Int) == 0) = true := by simp [h0]
    clear h0 hr0 hc0
    go_enter Try.func83, Try.ntmps83
    go_wp2
    go_ret3
    exact ⟨rfl, HB.out⟩
  · rw [if_neg h0] at h
    have e0 : ((l0.length : Int) == 0) = false := by simp; exact fun h => h0 (by rw [h]; rfl)
    have hpos : 0 < l0.length := by omega
    obtain ⟨ad, rfl, hx⟩ := Kd.at_int hr0 0 (by omega) (by omega)
    simp only [Int.toNat_zero, Addr.add_zero'] at hx
    have HR := Aside0.mk hr0
    generalize hn : rd l0 0 = n at h hx
    have HN := Lib.hid hn
    clear hn h0 hr0
    by_cases hr : 0 ≤ n ∧ n < 256
    · rw [if_pos hr] at h
      obtain ⟨hn0, hn1⟩ := hr
      by_cases hl : (l0.length : Int) < 1 + n
      · rw [if_pos hl] at h
        simp only [Option.some.injEq, Prod.mk.injEq] at h
        obtain ⟨rfl, rfl, rfl⟩ := h
        go_enter Try.func83, Try.ntmps83
        go_wp2
        go_ret3
        exact ⟨rfl, HB.out⟩
      · rw [if_neg hl] at h
        obtain ⟨A', hcut, hA'⟩ := cut_mid_any (P := Try.prog) (Kd.int .u8) 31 5 .i64 .i64 Try.underlying31 (i := (Try.prog.info? 5).get!) (by kernel_rfl) (by kernel_rfl) (some ad) c0 l0 1 (1 + n) (by omega) (by omega) (by omega) hc0
        have hst := fun c => Kd.C_string (c := c) Try.underlying31 Try.underlying5 Try.underlying9 (hA' w HR.out)
        simp only [Int.toNat_one] at hcut hst h
        generalize strOfNums ((l0.take (1 + n).toNat).drop 1) = s at hst h
        clear hA'
        by_cases he : s.toList = []
        · rw [if_pos (Or.inl he)] at h
          simp only [Option.some.injEq, Prod.mk.injEq] at h
          obtain ⟨rfl, rfl, rfl⟩ := h
          have he' : s.toList.isEmpty = true := by simp [he]
          have hsz := size_of_empty he
          have HZ := Lib.hid hsz
          clear he hsz
          go_enter Try.func83, Try.ntmps83
          go_wp2
          go_ret3
          exact ⟨ret_tup3 rfl (wrap_id' (by omega) (by have := HZ.out; omega)) rfl, HB.out⟩
        · have he' : s.toList.isEmpty = false := by simpa using he
          cases hcb : codeB (bytesOf s)
          · rw [if_neg (by simp [he, hcb])] at h
            simp only [Option.some.injEq, Prod.mk.injEq] at h
            obtain ⟨rfl, rfl, rfl⟩ := h
            have HC : Aside0 (code_Right.f s = some false) := ⟨by unfold code_Right.f; rw [hcb]⟩
            clear he hcb
            go_enter Try.func83, Try.ntmps83
            go_wp2_with (first | (go_at_call 30; refine (code_Right.calls s false _ HC.out).mono ?_; rintro e w1 ⟨rfl, hb1⟩))
            go_ret3
            exact ⟨rfl, hb1⟩
          · rw [if_pos (Or.inr hcb)] at h
            simp only [Option.some.injEq, Prod.mk.injEq] at h
            obtain ⟨rfl, rfl, rfl⟩ := h
            have HC : Aside0 (code_Right.f s = some true) := ⟨by unfold code_Right.f; rw [hcb]⟩
            have HZ : Hid (s.size ≤ 12) := by show _ ≤ _; rw [← bytesOf_length]; exact codeB_len hcb
            clear he hcb
            go_enter Try.func83, Try.ntmps83
            go_wp2_with (first | (go_at_call 30; refine (code_Right.calls s true _ HC.out).mono ?_; rintro e w1 ⟨rfl, hb1⟩))
            go_ret3
            exact ⟨ret_tup3 rfl (wrap_id' (by omega) (by have := HZ.out; omega)) rfl, hb1⟩
    · rw [if_neg hr] at h
      cases h
end Go.Proofs.Ytgcgcgmpihjnaaa.Q
