/- lot.Sort. -/
import Derived.Test.YtckekncllmhohaaGSym
import Derived.Test.YtckekncllmhohaaQ3
namespace Go.Proofs.Ytckekncllmhohaa.Q
open Go.RowKit Go.Sort Go.Proofs Go.Proofs.YtckekncllmhohaaW.PrintWords Go.Proofs.YtckekncllmhohaaW.PrintLast Go.Proofs.YtckekncllmhohaaW.PrintMore Go.Proofs.Ytckekncllmhohaa.G
set_option linter.unusedVariables false
set_option linter.unusedSimpArgs false
set_option linter.all false

instance : Inhabited S25 := ⟨z25⟩
def lotEnc (x : S25) : List Value := [.int .i64 x.f0, .string x.f1, .int .i64 x.f2.f0, .int .i64 x.f2.f1, .int .i64 x.f3, .bool x.f4]
def lotCmp (x y : S25) : Int := if x.f2.f1 < y.f2.f1 then -1 else if x.f2.f1 > y.f2.f1 then 1 else if x.f0 < y.f0 then -1 else if x.f0 > y.f0 then 1 else 0
theorem cmpInt_is (a b : Int) : cmp_Compare_int.f a b = some (if a < b then -1 else if a > b then 1 else 0) := by
  unfold cmp_Compare_int.f cmp_isNaN_int.f
  simp
  split <;> (try split) <;> simp_all
theorem cmpOr_is (k : Nat) (a b : Int) : cmp_Or_int.f (k + 3) [a, b] = some (if a = 0 then b else a) := by
  unfold cmp_Or_int.f
  have w1 : wrap64 1 = 1 := by unfold wrap64; omega
  have w2 : wrap64 2 = 2 := by unfold wrap64; omega
  have r0 : rd [a, b] 0 = a := rfl
  have r1 : rd [a, b] 1 = b := rfl
  simp only [cmp_Or_int.l0, List.length_cons, List.length_nil]
  by_cases ha : a = 0
  · by_cases hb : b = 0
    · simp [ha, hb, r0, r1, w1, w2, rd]
    · simp [ha, hb, r0, r1, w1, w2, rd]
  · simp [ha, r0, rd]
theorem lotCmp_is (x y : S25) (k : Nat) : lot_Compare.f (k + 3) x.f0 x.f1 x.f2.f0 x.f2.f1 x.f3 x.f4 y.f0 y.f1 y.f2.f0 y.f2.f1 y.f3 y.f4 = some (lotCmp x y) := by
  unfold lot_Compare.f lotCmp
  rw [cmpInt_is, Option.bind_some, cmpInt_is, Option.bind_some, cmpOr_is, Option.bind_some]
  congr 1
  by_cases h1 : x.f2.f1 < y.f2.f1
  · simp [h1]
  · by_cases h2 : x.f2.f1 > y.f2.f1
    · simp [h1, h2]
    · simp [h1, h2]
theorem lot_cmp (W : World) (x y : S25) : Calls Try.prog 8 (#[.agg (lotEnc x).toArray, .agg (lotEnc y).toArray] ++ #[]) W fun e w' => e = .returned (.int .i64 (lotCmp x y)) ∧ Below W.heap.size W w' :=
  lot_Compare.calls 3 x.f0 x.f1 x.f2.f0 x.f2.f1 x.f3 x.f4 y.f0 y.f1 y.f2.f0 y.f2.f1 y.f3 y.f4 (lotCmp x y) W (lotCmp_is x y 0)
theorem eg_cmp (args : Array Value) (W : World) : (callFunc 8 args).run Try.prog W = .ok (.enter 8 args) W := enters_ Try.func8 (by kernel_rfl) rfl args W
theorem lotEnc_len (x : S25) : (lotEnc x).length = 6 := rfl
theorem lotEnc_one (x : S25) : ∀ v ∈ lotEnc x, v.oneCell' = true := by
  intro v hv
  unfold lotEnc at hv
  simp only [List.mem_cons, List.not_mem_nil, or_false] at hv
  rcases hv with rfl | rfl | rfl | rfl | rfl | rfl <;> rfl
theorem lot_swo : SWO (ltOf lotCmp) where
  irrefl x := by unfold ltOf lotCmp; simp
  trans x y z := by
    unfold ltOf lotCmp
    simp only [decide_eq_true_eq]
    intro h1 h2
    split at h1 <;> split at h2 <;> split <;> (try split at h1) <;> (try split at h2) <;> (try split) <;> (try split at h1) <;> (try split at h2) <;> (try split) <;> (try split at h1) <;> (try split at h2) <;> (try split) <;> omega
  ntrans x y z := by
    unfold ltOf lotCmp
    simp only [decide_eq_false_iff_not]
    intro h1 h2
    split at h1 <;> split at h2 <;> split <;> (try split at h1) <;> (try split at h2) <;> (try split) <;> (try split at h1) <;> (try split at h2) <;> (try split) <;> (try split at h1) <;> (try split at h2) <;> (try split) <;> omega
theorem lot_lays : SLays Try.prog where
  mixed := by kernel_rfl
  fIns := Try.func34
  fSwap := Try.func37
  fRot := Try.func36
  fSym := Try.func35
  fStable := Try.func33
  t3 := Try.underlying3
  a3 := fun w => by kernel_rfl
  z3 := fun w => by kernel_rfl
  v3 := fun w => by kernel_rfl
  tu := Try.underlying54
  t4 := Try.underlying4
  a4 := fun w => by kernel_rfl
  z4 := fun w => by kernel_rfl
  v4 := fun w => by kernel_rfl
  t22 := Try.underlying30
  a22 := fun w => by kernel_rfl
  z22 := fun w => by kernel_rfl
  a25 := fun w => by kernel_rfl
  z25 := fun w => by kernel_rfl
theorem lot_agg : ∀ w, (isAgg 25).run Try.prog w = .ok true w := fun w => by kernel_rfl
theorem lot_size : ∀ w, (Go.sizeOf 25).run Try.prog w = .ok 6 w := fun w => by kernel_rfl
theorem stable_lot (g cap : Nat) (d : Array S25) (w : World) (hH : HoldsK lotEnc 6 w g 0 d) (hg : g < w.heap.size) (hn : d.size < 1000000000000) :
    Calls Try.prog 33 #[.slice (some ⟨g, 0, none⟩) d.size cap, .int .i64 d.size, .func (.func 8) #[] #[]] w fun e w' =>
      e = .returned (.tuple #[]) ∧ ∃ n os, w' = sortWorldK lotEnc 6 (redrawn w 0) g 0 n (stableSort (ltOf lotCmp) d) os :=
  stable_any lot_lays 6 lot_agg lot_size lotEnc lotCmp lot_swo _ #[] g 0 cap d.size d d (redrawn w 0) w eg_cmp (fun _ W _ _ x y => lot_cmp W x y) (Lib.hid rfl) ⟨lotEnc_len, lotEnc_one, hH, hg⟩ rfl rfl ⟨w.drawn, #[], (hid_start lotEnc 6 w g 0 d hH).out⟩ hn
theorem sortStable_lot (g cap : Nat) (d : Array S25) (w : World) (hH : HoldsK lotEnc 6 w g 0 d) (hg : g < w.heap.size) (hn : d.size < 1000000000000) :
    Calls Try.prog 26 #[.slice (some ⟨g, 0, none⟩) d.size cap, .func (.func 8) #[] #[]] w fun e w' =>
      e = .returned (.tuple #[]) ∧ ∃ n os, w' = sortWorldK lotEnc 6 (redrawn w 0) g 0 n (stableSort (ltOf lotCmp) d) os := by
  have HS := Lib.hid (stable_lot g cap d w hH hg hn)
  clear hH hg hn
  go_enter Try.func26, Try.ntmps26
  go_wp2_with fail
  refine HS.out.mono ?_
  rintro e w1 ⟨rfl, n, os, hw⟩
  have HW := Lib.hid hw
  clear hw
  go_wp2_with fail
  go_end0
  exact ⟨rfl, n, os, HW.out⟩
/-! ### of nil -/
theorem insertion_nil (c : Nat) (w : World) :
    Calls Try.prog 34 #[.slice none 0 c, .int .i64 0, .int .i64 0, .func (.func 8) #[] #[]] w fun e w' => e = .returned (.tuple #[]) ∧ w' = w := by
  go_enter Try.func34, Try.ntmps34
  go_wp2
  refine wp_loop_rounds 1 ?_
  rw [rounds_succ]
  go_wp2
  go_end0
  exact ⟨rfl, rfl⟩
theorem stable_nil (c : Nat) (w : World) :
    Calls Try.prog 33 #[.slice none 0 c, .int .i64 0, .func (.func 8) #[] #[]] w fun e w' => e = .returned (.tuple #[]) ∧ w' = w := by
  have HI := Lib.hid (insertion_nil c w)
  go_enter Try.func33, Try.ntmps33
  go_wp2
  refine wp_loop_rounds 1 ?_
  rw [rounds_succ]
  go_wp2_with fail
  refine HI.out.mono ?_
  rintro e w1 ⟨rfl, rfl⟩
  go_wp2_with fail
  refine wp_loop_rounds 1 ?_
  rw [rounds_succ]
  go_wp2
  go_end0
  exact ⟨rfl, rfl⟩
theorem sortStable_nil (c : Nat) (w : World) :
    Calls Try.prog 26 #[.slice none 0 c, .func (.func 8) #[] #[]] w fun e w' => e = .returned (.tuple #[]) ∧ w' = w := by
  have HS := Lib.hid (stable_nil c w)
  go_enter Try.func26, Try.ntmps26
  go_wp2_with fail
  refine HS.out.mono ?_
  rintro e w1 ⟨rfl, rfl⟩
  go_wp2_with fail
  go_end0
  exact ⟨rfl, rfl⟩
theorem clone_nil (c : Nat) (w : World) :
    Calls Try.prog 25 #[.slice none 0 c] w fun e w' => e = .returned (.slice none 0 0) ∧ w' = w := by
  have heq : ∀ W : World, (binOp .eql 30 (.slice none 0 c) (.slice none 0 0)).run Try.prog W = .ok (.bool true) W := fun W => by kernel_rfl
  go_enter Try.func25, Try.ntmps25
  go_wp2
  go_ret
  exact ⟨rfl, rfl⟩

theorem lot_M {w : World} {base : Nat} {ok : Nat → Prop} {x : S25} {cs : List Value} (h : k25.M w base ok x cs) : cs = lotEnc x := k25_openM h
theorem lot_mk (w : World) (base : Nat) (ok : Nat → Prop) (x : S25) : k25.M w base ok x (lotEnc x) := k25_mkM w base ok x

set_option maxHeartbeats 4000000 in
set_option maxRecDepth 100000 in
theorem clone_lot (ad : Addr) (c0 : Nat) (l0 : List S25) (w : World) (hr0 : Kd.C k25 w (some ad) l0.length l0) (hl : l0.length ≤ 1000000) :
    Calls Try.prog 25 #[.slice (some ad) l0.length c0] w fun e w' => ∃ g cap : Nat, e = .returned (.slice (some ⟨g, 0, none⟩) l0.length cap) ∧ Kd.R k25 25 w' w.heap.size (fun _ => True) (.slice (some ⟨g, 0, none⟩) l0.length cap) l0 ∧ Below w.heap.size w w' := by
  have HR0 := Aside0.mk hr0
  have HL := Lib.hid hl
  have HB := Aside0.mk (below_alloc (Below.refl w.heap.size w) (Obj.cells #[] 25))
  have hn0 : Kd.R k25 25 (w.alloc (Obj.cells #[] 25)) w.heap.size (fun _ => True) (.slice (some ⟨w.heap.size, 0, none⟩) 0 0) [] :=
    ⟨fun _ _ => trivial, [], World.ownsRow_lit (base := w.heap.size) (e := 25) (size := k25.sz) w #[] 0 (Nat.le_refl _) (Nat.zero_le _) (by simp), Reps.none _ _⟩
  have HN0 := Aside0.mk hn0
  have heq : ∀ W : World, (binOp .eql 30 (.slice (some ad) l0.length c0) (.slice none 0 0)).run Try.prog W = .ok (.bool false) W := fun W => by kernel_rfl
  clear hr0 hn0 hl
  go_enter Try.func25, Try.ntmps25
  go_wp2_with (first | ((with_reducible refine gate_builtin (b := .append) (xs := #[.tmp 5, .tmp 6]) rfl ?_); refine Kd.R_append_rows k25 (Rr := k25.K w) (w0 := w) w.heap.size rfl (.tmp 5) (.tmp 6) 30 25 zLot 56 rfl Try.underlying30 infoLot rfl (by decide) (by omega) (.slice (some ⟨w.heap.size, 0, none⟩) 0 0) [] l0 (some ad) l0.length c0 (fun _ => True) (fun _ => False) rfl rfl HN0.out ?aR (fun x cs h => by rw [k25_open h]; exact lot_mk _ _ _ _) (fun _ hk => hk.elim) (fun k hk => trivial) HB.out HB.out.size (by have := HL.out; simp; omega) ?_; (case aR => exact ReadsRow.imp_ HR0.out HB.out (fun _ _ h => h)); intro v1 w3 ho hb hg hat; have HR3 := Aside0.mk ho; have HB3 := Aside0.mk hb; have HAT := Lib.hid hat; clear ho hb hg hat) | fail)
  go_ret
  have hv := HAT.out
  have hR := HR3.out
  rw [List.nil_append] at hR
  obtain ⟨A1, c1, rfl, hl1, hC⟩ := Kd.R_reads hR
  obtain ⟨g, hg⟩ : ∃ g, A1 = some ⟨g, 0, none⟩ := by
    obtain ⟨-, inner, ⟨-, hown⟩, -⟩ := hR
    rcases hown with ⟨hv', -⟩ | ⟨g, cap, cur, hv', -⟩
    · simp only [Value.slice.injEq] at hv'
      rw [hv'.1] at hv
      rcases hv with hv | ⟨b, hb, -⟩
      · simp [Value.ownBlock] at hv
      · simp [Value.ownBlock] at hb
    · simp only [Value.slice.injEq] at hv'
      exact ⟨g, hv'.1⟩
  subst hg
  exact ⟨g, c1, rfl, hR, HB3.out⟩

def lot_Sort.f (l : List S25) : Option (List S25) := if l.length ≤ 1000000 then some (stabl (ltOf lotCmp) l) else none
set_option maxHeartbeats 4000000 in
set_option maxRecDepth 100000 in
theorem lot_Sort.calls (A0 : Option Addr) (c0 : Nat) (l0 : List S25) (r : List S25) (w : World) (hr0 : Kd.C k25 w A0 l0.length l0) (hc0 : l0.length ≤ c0) (h : lot_Sort.f l0 = some r) :
    Calls Try.prog 12 #[.slice A0 l0.length c0] w fun e w' => ∃ v0_ : Value, e = .returned (v0_) ∧ Kd.R k25 25 w' w.heap.size (fun _ => True) v0_ r ∧ Below w.heap.size w w' := by
  unfold lot_Sort.f at h
  by_cases hl : l0.length ≤ 1000000
  · rw [if_pos hl] at h
    obtain rfl := Option.some.inj h
    clear h
    cases A0 with
    | none =>
      have h0 : l0.length = 0 := by
        by_cases hn : 0 < l0.length
        · obtain ⟨ad, e, -⟩ := at_T25 hr0 0 (by omega) (by omega)
          cases e
        · omega
      obtain rfl := List.length_eq_zero_iff.1 h0
      have HCL := Lib.hid (clone_nil c0 w)
      have HSN := Lib.hid (sortStable_nil 0 w)
      clear hr0 hc0 hl h0
      rw [List.length_nil]
      go_enter Try.func12, Try.ntmps12
      go_wp2_with fail
      refine HCL.out.mono ?_
      rintro e w1 ⟨rfl, rfl⟩
      go_wp2_with fail
      refine HSN.out.mono ?_
      rintro e w2 ⟨rfl, rfl⟩
      go_wp2_with fail
      go_ret
      exact ⟨_, rfl, Kd.R_nil _ _ _ _ _, Below.refl _ _⟩
    | some ad =>
      have HCL := Lib.hid (clone_lot ad c0 l0 w hr0 hl)
      clear hr0 hc0
      go_enter Try.func12, Try.ntmps12
      go_wp2_with fail
      refine HCL.out.mono ?_
      rintro e w1 ⟨g, cap, rfl, hR, hb⟩
      obtain ⟨hH, -, hg, -, cur, hcur, h1, h2, h3⟩ := holds_of_R k25 lotEnc 6 lotEnc_len rfl lot_M hR
      have hsort := sortStable_lot g cap l0.toArray w1 hH (blk_lt hcur) (by simp; omega)
      rw [List.size_toArray, stableSort_is lot_swo l0] at hsort
      have HSORT := Lib.hid hsort
      have hst : (stabl (ltOf lotCmp) l0).length = l0.length := stabl_length _ _
      have hsa : (stabl (ltOf lotCmp) l0).toArray.size = l0.length := by simpa using hst
      have hfin : ∀ m os, Kd.R k25 25 (sortWorldK lotEnc 6 (redrawn w1 0) g 0 m (stabl (ltOf lotCmp) l0).toArray os) w.heap.size (fun _ => True) (.slice (some ⟨g, 0, none⟩) l0.length cap) (stabl (ltOf lotCmp) l0) ∧ RowKit.Below w.heap.size w (sortWorldK lotEnc 6 (redrawn w1 0) g 0 m (stabl (ltOf lotCmp) l0).toArray os) := fun m os => by
        refine ⟨?_, below_of_sorted lotEnc 6 hb hg⟩
        have := R_of_sorted k25 lotEnc 6 lotEnc_len rfl lot_mk (ok := fun _ => True) (base := w.heap.size) (m := m) (os := os) (dk := (stabl (ltOf lotCmp) l0).toArray) hcur hg trivial (by rw [hsa]; exact h1) h2 h3
        rw [hsa] at this
        exact this
      have HFIN := Lib.hid hfin
      clear hR hb hH hg hcur h1 h2 h3 hsort hfin hst hsa HCL
      go_wp2_with fail
      refine HSORT.out.mono ?_
      rintro e w2 ⟨rfl, m, os, rfl⟩
      go_wp2_with fail
      go_ret
      exact ⟨_, rfl, (HFIN.out m os).1, (HFIN.out m os).2⟩
  · rw [if_neg hl] at h; cases h
end Go.Proofs.Ytckekncllmhohaa.Q
