/- (*tell.reader).number: what it answers, and what it leaves. -/
import Derived.Test.YtgcgcgmpihjnaaaGCode
import Derived.Test.YtgcgcgmpihjnaaaGNums
import Derived.Deep.RegionHeld3
import Derived.StillTailTactics
import Derived.Outline
import Derived.Lib.QuietBelow
namespace Go.Proofs.Ytgcgcgmpihjnaaa.Q
open Go.RowKit Go.Proofs.YtgcgcgmpihjnaaaW.PrintWords Go.Proofs.YtgcgcgmpihjnaaaW.PrintLast Go.Proofs.YtgcgcgmpihjnaaaW.PrintMore Go.Proofs.Ytgcgcgmpihjnaaa.G
set_option linter.unusedVariables false
set_option linter.unusedSimpArgs false

def tell_reader_number.f (l : List Int) (at_ : Int) (bad : Bool) (size : Int) : Option (Int × Int × Bool) :=
  if 0 ≤ at_ ∧ at_ ≤ (l.length : Int) ∧ 0 ≤ size ∧ size ≤ 8 then
    if bad = true then some (0, at_, true) else if (l.length : Int) - at_ < size then some (0, at_, true) else some (be ((l.drop at_.toNat).take size.toNat), at_ + size, false)
  else none

theorem wpStill_skip {P : Program} {ops : Array Oper} {w : World} {Q : Act → Prop} {a : Act} {o : Oper} {rest : List Oper} (hw : Region.wanted o (yielded ops a.tmps) = false) (h : wpStill P ops w Q rest (a.put o.dst undef)) : wpStill P ops w Q (o :: rest) a := by
  unfold wpStill
  rw [if_neg (by rw [hw]; exact Bool.false_ne_true)]
  exact h
theorem foldl_take_succ (l : List Int) (n : Int) (k : Nat) (h : k < l.length) : (l.take (k + 1)).foldl beStep n = beStep ((l.take k).foldl beStep n) (rd l (k : Int)) := by
  rw [List.take_succ_eq_append_getElem h, List.foldl_append]
  simp [rd, List.getD_eq_getElem?_getD, List.getElem?_eq_getElem h]

attribute [local irreducible] wpStill
set_option maxHeartbeats 400000 in
set_option maxRecDepth 100000 in
theorem tell_reader_number.calls (g : Nat) (s0_0 : List Int) (s0_1 : Int) (s0_2 : Bool) (a1 : Int) (r1 : Int) (r2 : Int) (r3 : Bool) (w0 w : World) (hI : IsS92 w0 w g s0_0 s0_1 s0_2) (hB : Below w0.heap.size w0 w) (h : tell_reader_number.f s0_0 s0_1 s0_2 a1 = some (r1, r2, r3)) :
    Calls Try.prog 43 #[.pointer (some ⟨g, 0, none⟩), .int .i64 a1] w fun e w' => e = .returned (.int .i64 r1) ∧ IsS92 w0 w' g s0_0 r2 r3 ∧ Below w0.heap.size w0 w' ∧ KeepBut w w' g none := by
  have HI := Aside0.mk hI
  obtain ⟨A0, c0, HG, ⟨hge, hlc⟩, HR⟩ := hI
  have HB := Aside0.mk hB
  have hx0 := cellS92_0 HG
  have hx1 := cellS92_1 HG
  have hx2 := cellS92_2 HG
  have hf2 := blk_frozen HG 2
  have hf1 := blk_frozen HG 1
  have HGE := Aside0.mk hge
  have HRR := Aside0.mk HR
  have hlen63 : (s0_0.length : Int) ≤ 9223372036854775807 := by have := HR.2.1; omega
  clear HG hge HR hB
  unfold tell_reader_number.f at h
  by_cases hin : 0 ≤ s0_1 ∧ s0_1 ≤ (s0_0.length : Int) ∧ 0 ≤ a1 ∧ a1 ≤ 8
  · rw [if_pos hin] at h
    obtain ⟨ha0, ha1, hz0, hz1⟩ := hin
    cases s0_2
    · rw [if_neg (by decide)] at h
      by_cases hlt : (s0_0.length : Int) - s0_1 < a1
      · rw [if_pos hlt] at h
        simp only [Option.some.injEq, Prod.mk.injEq] at h
        obtain ⟨rfl, rfl, rfl⟩ := h
        go_enter Try.func43, Try.ntmps43
        go_wp2
        refine wp_region_still_tail 21 (by kernel_rfl) (by kernel_rfl) ?_
        simp only [List.take_succ_cons, List.take_zero, List.drop_succ_cons, List.drop_zero]
        iterate 21 still_step
        refine wpStill_nil ?_
        change wpList _ _ _ _ _ w.drew
        go_wp2
        go_ret
        exact ⟨ret_int rfl, IsS92.set_2 (IsS92.drew HI.out) true, (below_drew HB.out).setCell (p := ⟨g, 2, none⟩) HGE.out _, KeepBut.set_ (keep_drew (KeepBut.refl _ _ _)) 2 _⟩
      · rw [if_neg hlt] at h
        simp only [Option.some.injEq, Prod.mk.injEq] at h
        obtain ⟨rfl, rfl, rfl⟩ := h
        obtain ⟨p, rfl⟩ := Int.eq_ofNat_of_zero_le ha0
        obtain ⟨z, rfl⟩ := Int.eq_ofNat_of_zero_le hz0
        obtain ⟨A', hcut, hA'⟩ := cut_mid_any (P := Try.prog) (Kd.int .u8) 31 5 .i64 .i64 Try.underlying31 (i := (Try.prog.info? 5).get!) (by kernel_rfl) (by kernel_rfl) A0 c0 s0_0 (p : Int) ((p : Int) + (z : Int)) (by omega) (by omega) (by omega) hlc
        rw [show ((p : Int) + (z : Int)).toNat - ((p : Int)).toNat = z by omega] at hcut hA'
        have hxs : ((s0_0.take ((p : Int) + (z : Int)).toNat).drop ((p : Int)).toNat) = (s0_0.drop p).take z := by
          rw [show ((p : Int) + (z : Int)).toNat = p + z by omega, Int.toNat_natCast, List.drop_take, Nat.add_sub_cancel_left]
        rw [hxs] at hA'
        simp only [Int.toNat_natCast]
        have hxl : ((s0_0.drop p).take z).length = z := by rw [List.length_take, List.length_drop]; omega
        generalize hxg : (s0_0.drop p).take z = xs at hA' hxl ⊢
        have HXL := Lib.hid hxl
        have HA' := Aside0.mk hA'
        clear hxs hxl hxg hA'
        go_enter Try.func43, Try.ntmps43
        go_wp2
        refine wp_region_still_tail 21 (by kernel_rfl) (by kernel_rfl) ?_
        simp only [List.take_succ_cons, List.take_zero, List.drop_succ_cons, List.drop_zero]
        iterate 21 still_step
        refine wpStill_nil ?_
        change wpList _ _ _ _ _ w.drew
        go_wp2
        rw [show (decide ((s0_0.length : Int) - (p : Int) < (z : Int))) = false from decide_eq_false (by omega)]
        go_quiet (fail)
        have hIW : IsS92 w0 (World.drewN ((w.setCell ⟨g, 2, none⟩ (.bool false)).drew) nq) g s0_0 (p : Int) false := IsS92.drewN (IsS92.drew (IsS92.set_2 HI.out false)) nq
        have hBW : Below w0.heap.size w0 (World.drewN ((w.setCell ⟨g, 2, none⟩ (.bool false)).drew) nq) := pw_below_drewN (below_drew (HB.out.setCell (p := ⟨g, 2, none⟩) HGE.out _)) nq
        have hKW : KeepBut w (World.drewN ((w.setCell ⟨g, 2, none⟩ (.bool false)).drew) nq) g none := keep_drewN (keep_drew (KeepBut.set_ (KeepBut.refl _ _ _) 2 _)) nq
        have hCW := Kd.C_below (HA'.out _ HRR.out) hBW
        generalize (World.drewN ((w.setCell ⟨g, 2, none⟩ (.bool false)).drew) nq) = W at hIW hBW hKW hCW ⊢
        clear hx0 hx1 hx2 hf1 hf2 hcut
        have HIW := Aside0.mk hIW
        obtain ⟨A2, c2, HG2, -, -⟩ := hIW
        have hx1 := cellS92_1 HG2
        have hf1 := blk_frozen HG2 1
        have HBW := Aside0.mk hBW
        have HKW := Aside0.mk hKW
        have HCW := Aside0.mk hCW
        clear hBW hKW hCW HG2
        go_wp2
        go_loopg [5, 49] z (fun n s5 s49 wr => wr = W ∧ ∃ k : Nat, Hid (k + n = z) ∧ s5 = .int .i64 ((xs.take k).foldl beStep 0) ∧ s49 = .int .i64 (k : Int))
        case atStart => exact ⟨rfl, 0, Lib.hid (by omega), rfl, rfl⟩
        case round =>
          obtain ⟨rfl, k, HK, rfl, rfl⟩ := hrel
          cases gk with
          | zero =>
            have hk : ¬ (k : Int) < (z : Int) := by have := HK.out; omega
            have hkz : (xs.take k).foldl beStep 0 = be xs := by
              have := HK.out
              have := HXL.out
              rw [List.take_of_length_le (by omega)]
              rfl
            rw [hkz]
            have hwr : wrap64 ((p : Int) + (z : Int)) = (p : Int) + (z : Int) := by unfold wrap64; omega
            have HWR := Lib.hid hwr
            clear hwr
            go_wp2
            go_ret
            have _ := HWR
            exact ⟨ret_int rfl, IsS92.set_1 HIW.out _, HBW.out.setCell (p := ⟨g, 1, none⟩) HGE.out _, KeepBut.set_ HKW.out 1 _⟩
          | succ n =>
            have hk : (k : Int) < (z : Int) := by have := HK.out; omega
            obtain ⟨ad, rfl, hcell⟩ := Kd.at_int HCW.out (k : Int) (by omega) (by omega)
            rw [Int.toNat_natCast] at hcell
            go_wp2
            go_roundg n
            case measure => omega
            case rel => exact ⟨rfl, k + 1, Lib.hid (by have := HK.out; omega), by rw [foldl_take_succ _ _ _ (by have := HXL.out; omega)]; rfl, rfl⟩
    · rw [if_pos rfl] at h
      simp only [Option.some.injEq, Prod.mk.injEq] at h
      obtain ⟨rfl, rfl, rfl⟩ := h
      go_enter Try.func43, Try.ntmps43
      go_wp2
      refine wp_region_still_tail 21 (by kernel_rfl) (by kernel_rfl) ?_
      simp only [List.take_succ_cons, List.take_zero, List.drop_succ_cons, List.drop_zero]
      iterate 6 still_step
      iterate 12 (refine wpStill_skip (by kernel_rfl) ?_)
      iterate 3 still_step
      refine wpStill_nil ?_
      change wpList _ _ _ _ _ w.drew
      go_wp2
      go_ret
      exact ⟨ret_int rfl, IsS92.set_2 (IsS92.drew HI.out) true, (below_drew HB.out).setCell (p := ⟨g, 2, none⟩) HGE.out _, KeepBut.set_ (keep_drew (KeepBut.refl _ _ _)) 2 _⟩
  · rw [if_neg hin] at h
    cases h
/-! ### (*tell.reader).code -/
def tell_reader_code.f (l : List Int) (at_ : Int) (bad : Bool) : Option (ByteArray × Int × Bool) :=
  if bad = true then some ((⟨#[]⟩ : ByteArray), at_, true)
  else if 0 ≤ at_ ∧ at_ ≤ (l.length : Int) then (code_Get.f (l.drop at_.toNat)).map fun r => (r.1, wrap64 (at_ + r.2.1), !r.2.2) else none

set_option maxHeartbeats 400000 in
set_option maxRecDepth 100000 in
theorem tell_reader_code.calls (g : Nat) (s0_0 : List Int) (s0_1 : Int) (s0_2 : Bool) (r1 : ByteArray) (r2 : Int) (r3 : Bool) (w0 w : World) (hI : IsS92 w0 w g s0_0 s0_1 s0_2) (hB : Below w0.heap.size w0 w) (h : tell_reader_code.f s0_0 s0_1 s0_2 = some (r1, r2, r3)) :
    Calls Try.prog 44 #[.pointer (some ⟨g, 0, none⟩)] w fun e w' => e = .returned (.string r1) ∧ IsS92 w0 w' g s0_0 r2 r3 ∧ Below w0.heap.size w0 w' ∧ KeepBut w w' g none := by
  have HI := Aside0.mk hI
  obtain ⟨A0, c0, HG, ⟨hge, hlc⟩, HR⟩ := hI
  have HB := Aside0.mk hB
  have hx0 := cellS92_0 HG
  have hx1 := cellS92_1 HG
  have hx2 := cellS92_2 HG
  have hf2 := blk_frozen HG 2
  have hf1 := blk_frozen HG 1
  have HGE := Aside0.mk hge
  have HRR := Aside0.mk HR
  have hlen63 : (s0_0.length : Int) ≤ 9223372036854775807 := by have := HR.2.1; omega
  clear HG hge HR hB
  unfold tell_reader_code.f at h
  cases s0_2
  · rw [if_neg (by decide)] at h
    by_cases hin : 0 ≤ s0_1 ∧ s0_1 ≤ (s0_0.length : Int)
    · rw [if_pos hin] at h
      obtain ⟨⟨q1, q2, q3⟩, hq, he⟩ := Option.map_eq_some_iff.mp h
      simp only [Prod.mk.injEq] at he
      obtain ⟨rfl, rfl, rfl⟩ := he
      obtain ⟨ha0, ha1⟩ := hin
      obtain ⟨p, rfl⟩ := Int.eq_ofNat_of_zero_le ha0
      obtain ⟨A', hcut, hA'⟩ := cut_from_any (P := Try.prog) (Kd.int .u8) 31 5 .i64 Try.underlying31 (i := (Try.prog.info? 5).get!) (by kernel_rfl) (by kernel_rfl) A0 c0 s0_0 (p : Int) (by omega) (by omega) hlc
      simp only [Int.toNat_natCast] at hcut hA' hq
      have hxl : (s0_0.drop p).length = s0_0.length - p := List.length_drop
      have hcc : (s0_0.drop p).length ≤ c0 - p := by omega
      rw [← hxl] at hcut hA'
      have hCW := Kd.C_below (hA' _ HRR.out) HB.out
      generalize s0_0.drop p = xs at hcut hCW hcc hq
      have hcall : ∀ (d : Nat) (os : Array Obj), Calls Try.prog 83 #[.slice A' xs.length (c0 - p)] (Sort.grow (redrawn w d) os) fun e w'' => e = .returned (.tuple #[.string q1, .int .i64 q2, .bool q3]) ∧ ∃ p : Regrown, w'' = Sort.grow (redrawn w p.d) p.os :=
        fun d os => Calls.regrown_of (code_Get.calls A' (c0 - p) xs q1 q2 q3 _ (Kd.C_below hCW (below_regrown w d os)) hcc hq)
      have hg0 := fun d os => cell_regrown hx0 d os
      have hg1 := fun d os => cell_regrown hx1 d os
      have HCALL := Lib.hid hcall
      clear hA' hxl hCW hcc hq h hcall
      go_enter Try.func44, Try.ntmps44
      go_wp2
      refine wp_region_quiet_below (by kernel_rfl) (by kernel_rfl) ?_
      repeat (quiet_step (exact HCALL.out _ _))
      refine wpQuiet_nil ?_
      intro _ hw'
      obtain ⟨⟨dq, osq⟩, hw''⟩ := hw'
      subst hw''
      have hb := below_regrown w dq osq
      have hIW := IsS92.below HI.out hb
      have hBW := below_then HB.out HB.out.size hb
      have hKW := KeepBut.of_below hb g none
      generalize (Sort.grow (redrawn w dq) osq) = W at hIW hBW hKW ⊢
      clear hg0 hg1 hx0 hx1 hx2 hf1 hf2 hcut hb HCALL
      have HIW := Aside0.mk hIW
      obtain ⟨A2, c2, HG2, -, -⟩ := hIW
      have hx1 := cellS92_1 HG2
      have hx2 := cellS92_2 HG2
      have hf1 := blk_frozen HG2 1
      have hf2 := blk_frozen HG2 2
      have HBW := Aside0.mk hBW
      have HKW := Aside0.mk hKW
      clear hBW hKW HG2
      go_wp2
      go_ret
      exact ⟨rfl, IsS92.set_1 (IsS92.set_2 HIW.out _) _, (HBW.out.setCell (p := ⟨g, 2, none⟩) HGE.out _).setCell (p := ⟨g, 1, none⟩) HGE.out _, KeepBut.set_ (KeepBut.set_ HKW.out 2 _) 1 _⟩
    · rw [if_neg hin] at h
      cases h
  · rw [if_pos rfl] at h
    simp only [Option.some.injEq, Prod.mk.injEq] at h
    obtain ⟨rfl, rfl, rfl⟩ := h
    go_enter Try.func44, Try.ntmps44
    go_wp2
    go_ret
    exact ⟨rfl, HI.out, HB.out, KeepBut.refl _ _ _⟩
end Go.Proofs.Ytgcgcgmpihjnaaa.Q
