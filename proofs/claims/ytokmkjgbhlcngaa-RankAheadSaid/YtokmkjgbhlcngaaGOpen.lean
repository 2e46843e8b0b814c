/- rank.Open, rank.Ahead. -/
import Derived.Test.YtokmkjgbhlcngaaGDelete
namespace Go.Proofs.Ytokmkjgbhlcngaa.Q
open Go.RowKit Go.Sort Go.Proofs Go.Proofs.YtokmkjgbhlcngaaW.PrintWords Go.Proofs.YtokmkjgbhlcngaaW.PrintLast Go.Proofs.YtokmkjgbhlcngaaW.PrintMore Go.Proofs.Ytokmkjgbhlcngaa.G
set_option linter.all false

theorem eg_open1 (args : Array Value) (W : World) : (callFunc 34 args).run Try.prog W = .ok (.enter 34 args) W := enters_ Try.func34 (by kernel_rfl) rfl args W
def openL (l : List S24) : List S24 := l.filter fun x => !(x.f5 != 1)
theorem delete_nil (fn : Nat) (c : Nat) (w : World) :
    Calls Try.prog 33 #[.slice none 0 c, .func (.func fn) #[] #[]] w fun e w' => e = .returned (.slice none 0 c) ∧ w' = w := by
  have HIX : Hid (∀ w, Calls Try.prog 36 #[.slice none 0 c, .func (.func fn) #[] #[]] w fun e w' => e = .returned (.int .i64 (-1)) ∧ w' = w) := by
    intro w
    go_enter Try.func36, Try.ntmps36
    go_wp2
    refine wp_loop_rounds 1 ?_
    rw [rounds_succ]
    go_wp2
    go_ret
    exact ⟨rfl, rfl⟩
  go_enter Try.func33, Try.ntmps33
  go_wp2_with fail
  refine (HIX.out _).mono ?_
  rintro e w1 ⟨rfl, rfl⟩
  go_wp2_with fail
  go_ret
  exact ⟨rfl, rfl⟩
def rank_Open.f (l : List S24) : Option (List S24) := if l.length ≤ 1000000 then some (stabl (ltOf lineCmp) (openL l)) else none
set_option maxHeartbeats 4000000 in
set_option maxRecDepth 100000 in
theorem rank_Open.calls (A0 : Option Addr) (c0 : Nat) (l0 : List S24) (r : List S24) (w : World) (hr0 : Kd.C k24 w A0 l0.length l0) (hc0 : l0.length ≤ c0) (h : rank_Open.f l0 = some r) :
    Calls Try.prog 15 #[.slice A0 l0.length c0] w fun e w' => ∃ v0_ : Value, e = .returned (v0_) ∧ Kd.R k24 24 w' w.heap.size (fun _ => True) v0_ r ∧ RowKit.Below w.heap.size w w' := by
  unfold rank_Open.f at h
  by_cases hl : l0.length ≤ 1000000
  · rw [if_pos hl] at h
    obtain rfl := Option.some.inj h
    clear h
    cases A0 with
    | none =>
      have h0 : l0.length = 0 := by
        by_cases hn : 0 < l0.length
        · obtain ⟨ad, e, -⟩ := at_T24 hr0 0 (by omega) (by omega)
          cases e
        · omega
      obtain rfl := List.length_eq_zero_iff.1 h0
      have HCL := Lib.hid (clone_nil c0 w)
      have HDN := Lib.hid (delete_nil 34 0 w)
      have HSN := Lib.hid (sortStable_nil 0 w)
      clear hr0 hc0 hl h0
      rw [List.length_nil]
      go_enter Try.func15, Try.ntmps15
      go_wp2_with fail
      refine HCL.out.mono ?_
      rintro e w1 ⟨rfl, rfl⟩
      go_wp2_with fail
      refine HDN.out.mono ?_
      rintro e w1 ⟨rfl, rfl⟩
      go_wp2_with fail
      refine HSN.out.mono ?_
      rintro e w2 ⟨rfl, rfl⟩
      go_wp2_with fail
      go_ret
      exact ⟨_, rfl, Kd.R_nil _ _ _ _ _, Below.refl _ _⟩
    | some ad =>
      have hol : (openL l0).length ≤ l0.length := List.length_filter_le _ _
      have HCL := Lib.hid (clone_line ad c0 l0 w hr0 hl)
      clear hr0 hc0
      go_enter Try.func15, Try.ntmps15
      go_wp2_with fail
      refine HCL.out.mono ?_
      rintro e w1 ⟨g, cap, rfl, hR, hb⟩
      have HDEL := Lib.hid (delete_line (fun x => x.f5 != 1) _ g cap l0 w w1 (fun _ => True) eg_open1 (fun W x => open_1.calls x W) hR hb hl)
      clear hR hb HCL
      go_wp2_with fail
      refine HDEL.out.mono ?_
      rintro e w2 ⟨rfl, hR, hb⟩
      change Kd.R _ _ _ _ _ (.slice (some ⟨g, 0, none⟩) (openL l0).length cap) (openL l0) at hR
      obtain ⟨hH, -, hg, -, cur, hcur, h1, h2, h3⟩ := holds_of_R k24 lineEnc 8 lineEnc_len rfl line_M hR
      have hsort := sortStable_line g cap (openL l0).toArray w2 hH (blk_lt hcur) (by simp; omega)
      rw [List.size_toArray, stableSort_is line_swo (openL l0)] at hsort
      have HSORT := Lib.hid hsort
      have hst : (stabl (ltOf lineCmp) (openL l0)).length = (openL l0).length := stabl_length _ _
      have hsa : (stabl (ltOf lineCmp) (openL l0)).toArray.size = (openL l0).length := by simpa using hst
      have hfin : ∀ m os, Kd.R k24 24 (sortWorldK lineEnc 8 (redrawn w2 0) g 0 m (stabl (ltOf lineCmp) (openL l0)).toArray os) w.heap.size (fun _ => True) (.slice (some ⟨g, 0, none⟩) (openL l0).length cap) (stabl (ltOf lineCmp) (openL l0)) ∧ RowKit.Below w.heap.size w (sortWorldK lineEnc 8 (redrawn w2 0) g 0 m (stabl (ltOf lineCmp) (openL l0)).toArray os) := fun m os => by
        refine ⟨?_, below_of_sorted lineEnc 8 hb hg⟩
        have := R_of_sorted k24 lineEnc 8 lineEnc_len rfl line_mk (ok := fun _ => True) (base := w.heap.size) (m := m) (os := os) (dk := (stabl (ltOf lineCmp) (openL l0)).toArray) hcur hg trivial (by rw [hsa]; exact h1) h2 h3
        rw [hsa] at this
        exact this
      have HFIN := Lib.hid hfin
      clear hR hb hH hg hcur h1 h2 h3 hsort hfin hst hsa HDEL
      change _ at HSORT
      go_wp2_with fail
      refine HSORT.out.mono ?_
      rintro e w3 ⟨rfl, m, os, rfl⟩
      go_wp2_with fail
      go_ret
      exact ⟨_, rfl, (HFIN.out m os).1, (HFIN.out m os).2⟩
  · rw [if_neg hl] at h; cases h

/-! ### rank.Ahead -/
theorem eg_ahead1 (args : Array Value) (W : World) : (callFunc 37 args).run Try.prog W = .ok (.enter 37 args) W := enters_ Try.func37 (by kernel_rfl) rfl args W
def aheadL (l : List S24) (id : Int) : List S24 := if idxP (fun x => x.f0 == id) l 0 < 0 then [] else l.take (idxP (fun x => x.f0 == id) l 0).toNat
def rank_Ahead.f (l : List S24) (id : Int) : Option (List S24) := if l.length ≤ 1000000 then some (aheadL (stabl (ltOf lineCmp) (openL l)) id) else none
theorem V_true {α : Type} {d : Kd α} {e : Nat} {W : World} {base : Nat} {v : Value} {xs : List α} (h : Kd.R d e W base (fun _ => True) v xs) : Kd.R d e W base (fun k_ => base ≤ k_) v xs :=
  Kd.R_mono (Kd.R_bound h) (fun k hk => hk.2.1)
set_option maxHeartbeats 4000000 in
set_option maxRecDepth 100000 in
theorem rank_Ahead.calls (A0 : Option Addr) (c0 : Nat) (l0 : List S24) (id : Int) (r : List S24) (w : World) (hr0 : Kd.C k24 w A0 l0.length l0) (hc0 : l0.length ≤ c0) (h : rank_Ahead.f l0 id = some r) :
    Calls Try.prog 16 #[.slice A0 l0.length c0, .int .i64 id] w fun e w' => ∃ v0_ : Value, e = .returned (v0_) ∧ Kd.V k24 24 w' w.heap.size (fun k_ => w.heap.size ≤ k_) v0_ r ∧ RowKit.Below w.heap.size w w' := by
  unfold rank_Ahead.f at h
  by_cases hl : l0.length ≤ 1000000
  · rw [if_pos hl] at h
    obtain rfl := Option.some.inj h
    clear h
    have HO : ∀ W : World, RowKit.Below w.heap.size w W → Calls Try.prog 15 #[.slice A0 l0.length c0] W fun e w' => ∃ v0_ : Value, e = .returned (v0_) ∧ Kd.R k24 24 w' W.heap.size (fun _ => True) v0_ (stabl (ltOf lineCmp) (openL l0)) ∧ RowKit.Below W.heap.size W w' := fun W hb =>
      rank_Open.calls A0 c0 l0 _ W (Kd.C_below hr0 hb) hc0 (by unfold rank_Open.f; rw [if_pos hl])
    have HO' := Lib.hid HO
    have hlen : (stabl (ltOf lineCmp) (openL l0)).length ≤ 1000000 := by rw [stabl_length]; exact Nat.le_trans (List.length_filter_le _ _) hl
    clear hr0 hc0 hl HO
    generalize stabl (ltOf lineCmp) (openL l0) = all at HO' hlen
    have hb0 := below_alloc (Below.refl w.heap.size w) (Obj.cells #[.int .i64 id] 3)
    have HC := Lib.hid (HO'.out _ hb0)
    have HB0 := Lib.hid hb0
    have HLN := Lib.hid hlen
    clear HO' hb0 hlen
    go_enter Try.func16, Try.ntmps16
    go_wp2_with fail
    refine HC.out.mono ?_
    rintro e w1 ⟨v, rfl, hR, hb⟩
    obtain ⟨A, c, rfl, hlc, hCC⟩ := Kd.R_reads hR
    have hF := Kd.R_F (Kd.R_mono (V_true hR) (ok' := fun k_ => w.heap.size ≤ k_) (fun k hk => Nat.le_trans HB0.out.size hk))
    have hsz : w.heap.size < w1.heap.size := by have := hb.size; simp at this; omega
    have hcell : w1.cell? ⟨w.heap.size, 0, none⟩ = some (.int .i64 id) := by
      rw [hb.cell (p := ⟨w.heap.size, 0, none⟩) (by simp)]; simp
    have hix := index_line (fun x => x.f0 == id) 37 #[.pointer (some ⟨w.heap.size, 0, none⟩)] A c all w1 eg_ahead1 (fun W x hbW => ahead_1.calls id w.heap.size x W (by rw [hbW.cell (p := ⟨w.heap.size, 0, none⟩) hsz]; exact hcell)) hCC HLN.out
    have HIX := Lib.hid hix
    have HF := Lib.hid hF
    have HB1 := Lib.hid (below_then HB0.out HB0.out.size hb)
    clear hR hCC hF hix hb hcell hsz
    by_cases hi : idxP (fun x : S24 => x.f0 == id) all 0 = -1
    · have HA : Hid (aheadL all id = []) := (show _ = _ from by unfold aheadL; rw [if_pos (by rw [hi]; decide)])
      rw [hi] at HIX
      clear hi
      go_wp2_with fail
      refine HIX.out.mono ?_
      rintro e w2 ⟨rfl, hb2⟩
      have HB2 := Lib.hid (below_then HB1.out HB1.out.size hb2)
      clear hb2
      go_wp2_with fail
      go_ret
      exact ⟨_, rfl, by rw [HA.out]; exact Kd.V_nil _ _ _ _ _, HB2.out⟩
    · obtain ⟨i, hi1, hi2, -⟩ := idxP_some (fun x : S24 => x.f0 == id) all 0 hi
      rw [Nat.zero_add] at hi2
      have HA : Hid (aheadL all id = all.take i) := (show _ = _ from by unfold aheadL; rw [hi2, if_neg (by omega), Int.toNat_natCast])
      rw [hi2] at HIX
      clear hi hi2
      have hz0 : ¬ (i : Int) < 0 := by omega
      have hz1 : (0 : Int) ≤ (i : Int) := by omega
      have hz2 : (i : Int) ≤ (c : Int) := by omega
      go_wp2_with fail
      refine HIX.out.mono ?_
      rintro e w2 ⟨rfl, hb2⟩
      have HB2 := Lib.hid (below_then HB1.out HB1.out.size hb2)
      have HF2 := Lib.hid (Kd.F_take (Kd.F_below HF.out hb2) (m := i) (by omega))
      have HL := Lib.hid (show (all.take i).length = i from by rw [List.length_take]; omega)
      clear hb2
      go_wp2_with fail
      go_ret
      refine ⟨_, rfl, ?_, HB2.out⟩
      have h1 := HF2.out
      have h2 := HL.out
      rw [HA.out]
      have := Kd.V_mk (c := i) (e := 24) (base := w.heap.size) (by omega) h1
      rw [h2] at this
      exact this
  · rw [if_neg hl] at h; cases h
end Go.Proofs.Ytokmkjgbhlcngaa.Q
