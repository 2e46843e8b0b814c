/- The stable sort of lines, slices.Clone at lines. -/
import Derived.Test.YtokmkjgbhlcngaaGSym
import Derived.Test.YtokmkjgbhlcngaaQ4
namespace Go.Proofs.Ytokmkjgbhlcngaa.Q
open Go.RowKit Go.Sort Go.Proofs Go.Proofs.YtokmkjgbhlcngaaW.PrintWords Go.Proofs.YtokmkjgbhlcngaaW.PrintLast Go.Proofs.YtokmkjgbhlcngaaW.PrintMore Go.Proofs.Ytokmkjgbhlcngaa.G
set_option linter.unusedVariables false
set_option linter.unusedSimpArgs false
set_option linter.all false

instance : Inhabited S24 := ⟨z24⟩
def lineEnc (x : S24) : List Value := [.int .i64 x.f0, .string x.f1, .int .i64 x.f2, .int .i64 x.f3, .int .i64 x.f4, .int .u8 x.f5, .int .i64 x.f6, .string x.f7]
def zLine : Value := .agg #[.int .i64 0, .string (⟨#[]⟩ : ByteArray), .int .i64 0, .int .i64 0, .int .i64 0, .int .u8 0, .int .i64 0, .string (⟨#[]⟩ : ByteArray)]
theorem infoLine : (Try.prog.info? 24).map (fun i => (i.zero, i.size, i.bytes)) = some (some zLine, k24.sz, 80) := by kernel_rfl
def lineCmp (x y : S24) : Int := if x.f4 < y.f4 then -1 else if x.f4 > y.f4 then 1 else if x.f0 < y.f0 then -1 else if x.f0 > y.f0 then 1 else 0
theorem cmpInt_is (a b : Int) : cmp_Compare_int.f a b = some (if a < b then -1 else if a > b then 1 else 0) := by
  unfold cmp_Compare_int.f cmp_isNaN_int.f
  simp
  split <;> (try split) <;> simp_all
theorem cmpOr_is (k : Nat) (a b : Int) : cmp_Or_int.f (k + 3) [a, b] = some (if a = 0 then b else a) := by
  unfold cmp_Or_int.f
  have w1 : wrap64 1 = 1 := by unfold wrap64; omega
  have w2 : wrap64 2 = 2 := by unfold wrap64; omega
  have r0 : rd [a, b] 0 = a := rfl
  have r1 : rd [a, b] 1 = b := rfl
  simp only [cmp_Or_int.l0, List.length_cons, List.length_nil]
  by_cases ha : a = 0
  · by_cases hb : b = 0
    · simp [ha, hb, r0, r1, w1, w2, rd]
    · simp [ha, hb, r0, r1, w1, w2, rd]
  · simp [ha, r0, rd]
theorem lineCmp_is (x y : S24) (k : Nat) : rank_Compare.f (k + 3) x.f0 x.f1 x.f2 x.f3 x.f4 x.f5 x.f6 x.f7 y.f0 y.f1 y.f2 y.f3 y.f4 y.f5 y.f6 y.f7 = some (lineCmp x y) := by
  unfold rank_Compare.f lineCmp
  rw [cmpInt_is, Option.bind_some, cmpInt_is, Option.bind_some, cmpOr_is, Option.bind_some]
  congr 1
  by_cases h1 : x.f4 < y.f4
  · simp [h1]
  · by_cases h2 : x.f4 > y.f4
    · simp [h1, h2]
    · simp [h1, h2]
theorem line_cmp (W : World) (x y : S24) : Calls Try.prog 10 (#[.agg (lineEnc x).toArray, .agg (lineEnc y).toArray] ++ #[]) W fun e w' => e = .returned (.int .i64 (lineCmp x y)) ∧ Below W.heap.size W w' :=
  rank_Compare.calls 3 x.f0 x.f1 x.f2 x.f3 x.f4 x.f5 x.f6 x.f7 y.f0 y.f1 y.f2 y.f3 y.f4 y.f5 y.f6 y.f7 (lineCmp x y) W (lineCmp_is x y 0)
theorem eg_cmp (args : Array Value) (W : World) : (callFunc 10 args).run Try.prog W = .ok (.enter 10 args) W := enters_ Try.func10 (by kernel_rfl) rfl args W
theorem lineEnc_len (x : S24) : (lineEnc x).length = 8 := rfl
theorem lineEnc_one (x : S24) : ∀ v ∈ lineEnc x, v.oneCell' = true := by
  intro v hv
  unfold lineEnc at hv
  simp only [List.mem_cons, List.not_mem_nil, or_false] at hv
  rcases hv with rfl | rfl | rfl | rfl | rfl | rfl | rfl | rfl <;> rfl
theorem line_swo : SWO (ltOf lineCmp) where
  irrefl x := by unfold ltOf lineCmp; simp
  trans x y z := by
    unfold ltOf lineCmp
    simp only [decide_eq_true_eq]
    intro h1 h2
    split at h1 <;> split at h2 <;> split <;> (try split at h1) <;> (try split at h2) <;> (try split) <;> (try split at h1) <;> (try split at h2) <;> (try split) <;> (try split at h1) <;> (try split at h2) <;> (try split) <;> omega
  ntrans x y z := by
    unfold ltOf lineCmp
    simp only [decide_eq_false_iff_not]
    intro h1 h2
    split at h1 <;> split at h2 <;> split <;> (try split at h1) <;> (try split at h2) <;> (try split) <;> (try split at h1) <;> (try split at h2) <;> (try split) <;> (try split at h1) <;> (try split at h2) <;> (try split) <;> omega
theorem line_lays : SLays Try.prog where
  mixed := by kernel_rfl
  fIns := Try.func66
  fSwap := Try.func106
  fRot := Try.func96
  fSym := Try.func67
  fStable := Try.func42
  t3 := Try.underlying3
  a3 := fun w => by kernel_rfl
  z3 := fun w => by kernel_rfl
  v3 := fun w => by kernel_rfl
  tu := Try.underlying190
  t4 := Try.underlying4
  a4 := fun w => by kernel_rfl
  z4 := fun w => by kernel_rfl
  v4 := fun w => by kernel_rfl
  t22 := Try.underlying29
  a22 := fun w => by kernel_rfl
  z22 := fun w => by kernel_rfl
  a25 := fun w => by kernel_rfl
  z25 := fun w => by kernel_rfl
theorem line_agg : ∀ w, (isAgg 24).run Try.prog w = .ok true w := fun w => by kernel_rfl
theorem line_size : ∀ w, (Go.sizeOf 24).run Try.prog w = .ok 8 w := fun w => by kernel_rfl
theorem stable_line (g cap : Nat) (d : Array S24) (w : World) (hH : HoldsK lineEnc 8 w g 0 d) (hg : g < w.heap.size) (hn : d.size < 1000000000000) :
    Calls Try.prog 42 #[.slice (some ⟨g, 0, none⟩) d.size cap, .int .i64 d.size, .func (.func 10) #[] #[]] w fun e w' =>
      e = .returned (.tuple #[]) ∧ ∃ n os, w' = sortWorldK lineEnc 8 (redrawn w 0) g 0 n (stableSort (ltOf lineCmp) d) os :=
  stable_any line_lays 8 line_agg line_size lineEnc lineCmp line_swo _ #[] g 0 cap d.size d d (redrawn w 0) w eg_cmp (fun _ W _ _ x y => line_cmp W x y) (Lib.hid rfl) ⟨lineEnc_len, lineEnc_one, hH, hg⟩ rfl rfl ⟨w.drawn, #[], (hid_start lineEnc 8 w g 0 d hH).out⟩ hn
theorem sortStable_line (g cap : Nat) (d : Array S24) (w : World) (hH : HoldsK lineEnc 8 w g 0 d) (hg : g < w.heap.size) (hn : d.size < 1000000000000) :
    Calls Try.prog 35 #[.slice (some ⟨g, 0, none⟩) d.size cap, .func (.func 10) #[] #[]] w fun e w' =>
      e = .returned (.tuple #[]) ∧ ∃ n os, w' = sortWorldK lineEnc 8 (redrawn w 0) g 0 n (stableSort (ltOf lineCmp) d) os := by
  have HS := Lib.hid (stable_line g cap d w hH hg hn)
  clear hH hg hn
  go_enter Try.func35, Try.ntmps35
  go_wp2_with fail
  refine HS.out.mono ?_
  rintro e w1 ⟨rfl, n, os, hw⟩
  have HW := Lib.hid hw
  clear hw
  go_wp2_with fail
  go_end0
  exact ⟨rfl, n, os, HW.out⟩
/-! ### of nil -/
theorem insertion_nil (c : Nat) (w : World) :
    Calls Try.prog 66 #[.slice none 0 c, .int .i64 0, .int .i64 0, .func (.func 10) #[] #[]] w fun e w' => e = .returned (.tuple #[]) ∧ w' = w := by
  go_enter Try.func66, Try.ntmps66
  go_wp2
  refine wp_loop_rounds 1 ?_
  rw [rounds_succ]
  go_wp2
  go_end0
  exact ⟨rfl, rfl⟩
theorem stable_nil (c : Nat) (w : World) :
    Calls Try.prog 42 #[.slice none 0 c, .int .i64 0, .func (.func 10) #[] #[]] w fun e w' => e = .returned (.tuple #[]) ∧ w' = w := by
  have HI := Lib.hid (insertion_nil c w)
  go_enter Try.func42, Try.ntmps42
  go_wp2
  refine wp_loop_rounds 1 ?_
  rw [rounds_succ]
  go_wp2_with fail
  refine HI.out.mono ?_
  rintro e w1 ⟨rfl, rfl⟩
  go_wp2_with fail
  refine wp_loop_rounds 1 ?_
  rw [rounds_succ]
  go_wp2
  go_end0
  exact ⟨rfl, rfl⟩
theorem sortStable_nil (c : Nat) (w : World) :
    Calls Try.prog 35 #[.slice none 0 c, .func (.func 10) #[] #[]] w fun e w' => e = .returned (.tuple #[]) ∧ w' = w := by
  have HS := Lib.hid (stable_nil c w)
  go_enter Try.func35, Try.ntmps35
  go_wp2_with fail
  refine HS.out.mono ?_
  rintro e w1 ⟨rfl, rfl⟩
  go_wp2_with fail
  go_end0
  exact ⟨rfl, rfl⟩
theorem clone_nil (c : Nat) (w : World) :
    Calls Try.prog 32 #[.slice none 0 c] w fun e w' => e = .returned (.slice none 0 0) ∧ w' = w := by
  have heq : ∀ W : World, (binOp .eql 29 (.slice none 0 c) (.slice none 0 0)).run Try.prog W = .ok (.bool true) W := fun W => by kernel_rfl
  go_enter Try.func32, Try.ntmps32
  go_wp2
  go_ret
  exact ⟨rfl, rfl⟩

theorem line_M {w : World} {base : Nat} {ok : Nat → Prop} {x : S24} {cs : List Value} (h : k24.M w base ok x cs) : cs = lineEnc x := k24_openM h
theorem line_mk (w : World) (base : Nat) (ok : Nat → Prop) (x : S24) : k24.M w base ok x (lineEnc x) := k24_mkM w base ok x

set_option maxHeartbeats 4000000 in
set_option maxRecDepth 100000 in
theorem clone_line (ad : Addr) (c0 : Nat) (l0 : List S24) (w : World) (hr0 : Kd.C k24 w (some ad) l0.length l0) (hl : l0.length ≤ 1000000) :
    Calls Try.prog 32 #[.slice (some ad) l0.length c0] w fun e w' => ∃ g cap : Nat, e = .returned (.slice (some ⟨g, 0, none⟩) l0.length cap) ∧ Kd.R k24 24 w' w.heap.size (fun _ => True) (.slice (some ⟨g, 0, none⟩) l0.length cap) l0 ∧ Below w.heap.size w w' := by
  have HR0 := Aside0.mk hr0
  have HL := Lib.hid hl
  have HB := Aside0.mk (below_alloc (Below.refl w.heap.size w) (Obj.cells #[] 24))
  have hn0 : Kd.R k24 24 (w.alloc (Obj.cells #[] 24)) w.heap.size (fun _ => True) (.slice (some ⟨w.heap.size, 0, none⟩) 0 0) [] :=
    ⟨fun _ _ => trivial, [], World.ownsRow_lit (base := w.heap.size) (e := 24) (size := k24.sz) w #[] 0 (Nat.le_refl _) (Nat.zero_le _) (by simp), Reps.none _ _⟩
  have HN0 := Aside0.mk hn0
  have heq : ∀ W : World, (binOp .eql 29 (.slice (some ad) l0.length c0) (.slice none 0 0)).run Try.prog W = .ok (.bool false) W := fun W => by kernel_rfl
  clear hr0 hn0 hl
  go_enter Try.func32, Try.ntmps32
  go_wp2_with (first | ((with_reducible refine gate_builtin (b := .append) (xs := #[.tmp 5, .tmp 6]) rfl ?_); refine Kd.R_append_rows k24 (Rr := k24.K w) (w0 := w) w.heap.size rfl (.tmp 5) (.tmp 6) 29 24 zLine 80 rfl Try.underlying29 infoLine rfl (by decide) (by omega) (.slice (some ⟨w.heap.size, 0, none⟩) 0 0) [] l0 (some ad) l0.length c0 (fun _ => True) (fun _ => False) rfl rfl HN0.out ?aR (fun x cs h => by rw [k24_open h]; exact line_mk _ _ _ _) (fun _ hk => hk.elim) (fun k hk => trivial) HB.out HB.out.size (by have := HL.out; simp; omega) ?_; (case aR => exact ReadsRow.imp_ HR0.out HB.out (fun _ _ h => h)); intro v1 w3 ho hb hg hat; have HR3 := Aside0.mk ho; have HB3 := Aside0.mk hb; have HAT := Lib.hid hat; clear ho hb hg hat) | fail)
  go_ret
  have hv := HAT.out
  have hR := HR3.out
  rw [List.nil_append] at hR
  obtain ⟨A1, c1, rfl, hl1, hC⟩ := Kd.R_reads hR
  obtain ⟨g, hg⟩ : ∃ g, A1 = some ⟨g, 0, none⟩ := by
    obtain ⟨-, inner, ⟨-, hown⟩, -⟩ := hR
    rcases hown with ⟨hv', -⟩ | ⟨g, cap, cur, hv', -⟩
    · simp only [Value.slice.injEq] at hv'
      rw [hv'.1] at hv
      rcases hv with hv | ⟨b, hb, -⟩
      · simp [Value.ownBlock] at hv
      · simp [Value.ownBlock] at hb
    · simp only [Value.slice.injEq] at hv'
      exact ⟨g, hv'.1⟩
  subst hg
  exact ⟨g, c1, rfl, hR, HB3.out⟩

end Go.Proofs.Ytokmkjgbhlcngaa.Q
