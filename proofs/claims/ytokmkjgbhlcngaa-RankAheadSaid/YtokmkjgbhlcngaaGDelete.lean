/- slices.DeleteFunc at lines. -/
import Derived.Test.YtokmkjgbhlcngaaGIndex
import Derived.Laws.IdiomCopy
namespace Go.Proofs.Ytokmkjgbhlcngaa.Q
open Go.RowKit Go.Proofs.YtokmkjgbhlcngaaW.PrintWords Go.Proofs.YtokmkjgbhlcngaaW.PrintLast Go.Proofs.YtokmkjgbhlcngaaW.PrintMore Go.Proofs.Ytokmkjgbhlcngaa.G
set_option linter.unusedVariables false
set_option linter.unusedSimpArgs false

theorem idxP_none {α : Type} (p : α → Bool) : ∀ (l : List α) (k : Nat), idxP p l k = -1 → l.filter (fun x => !p x) = l
  | [], _, _ => rfl
  | x :: r, k, h => by
    unfold idxP at h
    by_cases hx : p x = true
    · rw [if_pos hx] at h; omega
    · rw [if_neg hx] at h
      rw [List.filter_cons_of_pos (by simp [hx]), idxP_none p r (k + 1) h]
theorem idxP_some {α : Type} (p : α → Bool) : ∀ (l : List α) (k : Nat), idxP p l k ≠ -1 → ∃ i, i < l.length ∧ idxP p l k = ((k + i : Nat) : Int) ∧ (l.take (i + 1)).filter (fun x => !p x) = l.take i
  | [], k, h => absurd rfl h
  | x :: r, k, h => by
    unfold idxP at h ⊢
    by_cases hx : p x = true
    · rw [if_pos hx]
      exact ⟨0, by simp, rfl, by simp [hx]⟩
    · rw [if_neg hx] at h ⊢
      obtain ⟨i, hi, he, hf⟩ := idxP_some p r (k + 1) h
      refine ⟨i + 1, by simp; omega, by rw [he]; congr 1; omega, ?_⟩
      rw [List.take_succ_cons, List.filter_cons_of_pos (by simp [hx]), hf, List.take_succ_cons]
theorem add_zero_at (g m : Nat) : (⟨g, 0, none⟩ : Addr).add m = ⟨g, m, none⟩ := by
  unfold Addr.add
  split <;> simp_all
theorem below_alloc' {w0 w : World} {o : Obj} (h : Below w0.heap.size w0 w) : Below w0.heap.size w0 (w.alloc o) := below_alloc h o
theorem rd_next' {α : Type} (l : List α) (z : α) (i : Nat) (h : i < l.length) : l.take (i + 1) = l.take i ++ [l.getD i z] := by
  rw [List.take_succ_eq_append_getElem h]
  simp [List.getD_eq_getElem?_getD, List.getElem?_eq_getElem h]
/-- A row's first elements stand where what lies behind them is written over. -/
theorem R_tail {W : World} {base : Nat} {ok : Nat → Prop} {g m cap : Nat} {xs : List S24} (h : Kd.R k24 24 W base ok (.slice (some ⟨g, 0, none⟩) m cap) xs) (vs : List Value) (o : Nat) (ho : m * 8 ≤ o) :
    Kd.R k24 24 (W.setCells g o vs) base ok (.slice (some ⟨g, 0, none⟩) m cap) xs := by
  induction vs generalizing W o with
  | nil => exact h
  | cons v r ih =>
    unfold World.setCells
    refine ih ?_ (o + 1) (by omega)
    obtain ⟨hok, inner, ⟨hl, hown⟩, hr⟩ := h
    rcases hown with ⟨hv, _⟩ | ⟨g', cap', cur, hv, hg, hh, h1, h2, h3, h4⟩
    · simp at hv
    · simp only [Value.slice.injEq, Option.some.injEq, Addr.mk.injEq] at hv
      obtain ⟨⟨rfl, -, -⟩, rfl, rfl⟩ := hv
      have hsz : (k24).sz = 8 := rfl
      refine ⟨hok, inner, ⟨hl, .inr ⟨g, cap, _, rfl, hg, blk_set hh o v, h1, h2, by simpa using h3, ?_⟩⟩, ⟨hr.1, fun j q hj => ?_⟩⟩
      · rw [← h4, Array.toList_setIfInBounds, List.take_set_of_le]
        rw [hsz] at *
        omega
      · have := hr.2 j q hj
        rw [line_M this]
        exact line_mk _ _ _ _

theorem below_cells {w0 W : World} {g : Nat} (h : Below w0.heap.size w0 W) (hg : w0.heap.size ≤ g) (vs : List Value) (o : Nat) : Below w0.heap.size w0 (W.setCells g o vs) := by
  induction vs generalizing W o with
  | nil => exact h
  | cons v r ih =>
    unfold World.setCells
    exact ih (h.setCell (p := ⟨g, o, none⟩) hg v) (o + 1)
/-- clear at rows of structs (after the kit's Lib.run_clear_slice, which is at rows of one cell). -/
theorem run_clear_rows {P : Program} {n : Nat} (w : World) (t e ty : TypeId) (z : Value) (ht : P.underlying t = some (.slice e)) (hv : ∀ w, (zeroValue e).run P w = .ok z w) (h1 : ∀ v ∈ (Builtin.zeroCells z.cells n).toList, v.oneCell' = true) (b o c : Nat) (hn : 0 < n)
    (hc : ∀ j, j < (Builtin.zeroCells z.cells n).toList.length → (w.cell? ⟨b, o + j, none⟩).isSome = true) (hf : ∀ j, j < (Builtin.zeroCells z.cells n).toList.length → w.frozen? ⟨b, o + j, none⟩ = false) :
    (Builtin.clear_ #[t] ty #[.slice (some ⟨b, o, none⟩) n c]).run P w = .ok (.tuple #[]) (w.setCells b o (Builtin.zeroCells z.cells n).toList) := by
  have hst := run_storeCells_cells (P := P) b o (Builtin.zeroCells z.cells n).toList 0 w (by simpa using hc) (by simpa using hf) h1
  simp only [Nat.add_zero] at hst
  obtain ⟨m, rfl⟩ : ∃ m, n = m + 1 := ⟨n - 1, by omega⟩
  simp [Builtin.clear_, run_underlying ht, hv, hst]
set_option maxHeartbeats 4000000 in
set_option maxRecDepth 100000 in
theorem delete_line (p : S24 → Bool) (fn : Nat) (g cap : Nat) (xs : List S24) (w0 w : World) (ok : Nat → Prop) (eg : ∀ args W, (callFunc fn args).run Try.prog W = .ok (.enter fn args) W)
    (hf : ∀ (W : World) (x : S24), Calls Try.prog fn (#[.agg (lineCells x)] ++ #[]) W fun e w' => e = .returned (.bool (p x)) ∧ Below W.heap.size W w')
    (hR : Kd.R k24 24 w w0.heap.size ok (.slice (some ⟨g, 0, none⟩) xs.length cap) xs) (hB : Below w0.heap.size w0 w) (hlen : xs.length ≤ 1000000) :
    Calls Try.prog 33 #[.slice (some ⟨g, 0, none⟩) xs.length cap, .func (.func fn) #[] #[]] w fun e w' => e = .returned (.slice (some ⟨g, 0, none⟩) (xs.filter fun x => !p x).length cap) ∧
      Kd.R k24 24 w' w0.heap.size ok (.slice (some ⟨g, 0, none⟩) (xs.filter fun x => !p x).length cap) (xs.filter fun x => !p x) ∧ Below w0.heap.size w0 w' := by
  have hrd := Kd.R_reads' hR
  have HF := Lib.hid hf
  have HLN := Aside0.mk hlen
  have HR0 := Aside0.mk hR
  have HB0 := Aside0.mk hB
  have HIX := Lib.hid (index_line p fn #[] (some ⟨g, 0, none⟩) cap xs w eg (fun W x _ => hf W x) hrd.2.2 hlen)
  clear hR hB hf hlen hrd
  go_enter Try.func33, Try.ntmps33
  go_wp2_with fail
  refine HIX.out.mono ?_
  rintro e w1 ⟨rfl, hb⟩
  have HB1 := Aside0.mk (below_then HB0.out HB0.out.size hb)
  have HR1 := Aside0.mk (Kd.R_below HR0.out hb)
  clear hb HIX
  by_cases hix : idxP p xs 0 = -1
  · have hfl := idxP_none p xs 0 hix
    rw [hix]
    have HFL := Lib.hid hfl
    clear hix hfl
    go_wp2_with fail
    go_ret
    rw [HFL.out]
    exact ⟨rfl, HR1.out, HB1.out⟩
  · obtain ⟨i0, hi0, he, hfi⟩ := idxP_some p xs 0 hix
    rw [Nat.zero_add] at he
    rw [he]
    have HI0 := Lib.hid hi0
    have HFI := Lib.hid hfi
    have hne : ((i0 : Int) == -1) = false := by rw [beq_eq_false_iff_ne]; omega
    have hw0 : wrap64 ((i0 : Int) + 1) = ((i0 + 1 : Nat) : Int) := by have := HLN.out; unfold wrap64; omega
    have HW0 := Lib.hid hw0
    clear hix he hi0 hfi hw0
    go_wp2_with fail
    go_loopg [5, 6] xs.length (fun k s5 s6 wr => ∃ (i j : Nat) (ys : List S24), s5 = .int .i64 (i : Int) ∧ s6 = .int .i64 (j : Int) ∧ Hid (i < j ∧ j ≤ xs.length ∧ xs.length ≤ j + k ∧ ys.length = xs.length ∧ ys.take i = (xs.take j).filter (fun x => !p x) ∧ ys.drop j = xs.drop j) ∧ Aside0 (Kd.R k24 24 wr w0.heap.size ok (.slice (some ⟨g, 0, none⟩) xs.length cap) ys) ∧ Aside0 (Below w0.heap.size w0 wr))
    case atStart => exact ⟨i0, i0 + 1, xs, rfl, congrArg (Value.int .i64) HW0.out, Lib.hid ⟨by omega, HI0.out, by omega, rfl, HFI.out.symm, rfl⟩, HR1, HB1⟩
    case round =>
      obtain ⟨i, j, ys, rfl, rfl, HY, HR, HB⟩ := hrel
      by_cases hj : (j : Int) < (xs.length : Int)
      · obtain ⟨n, rfl⟩ : ∃ n, gk = n + 1 := ⟨gk - 1, by have := HY.out; omega⟩
        have hrd := Kd.R_reads' HR.out
        obtain ⟨ad, e, q0, q1, q2, q3, q4, q5, q6, q7⟩ := at_T24 hrd.2.2 (j : Int) (by omega) (by have := HY.out; omega)
        have hx : rd_T24 ys (j : Int) = ys.getD j z24 := rfl
        have hxs : ys.getD j z24 = xs.getD j z24 := by
          have h1 := drop_next ys z24 j (by have := HY.out; omega)
          have h2 := drop_next xs z24 j (by omega)
          have h3 := HY.out.2.2.2.2.2
          rw [h1, h2] at h3
          exact (List.cons.inj h3).1
        have htn := rd_next' xs z24 j (by omega)
        rw [hx, hxs] at q0 q1 q2 q3 q4 q5 q6 q7
        generalize xs.getD j z24 = x at q0 q1 q2 q3 q4 q5 q6 q7 htn
        rw [Int.toNat_natCast] at q0 q1 q2 q3 q4 q5 q6 q7
        injection e with e
        subst e
        simp only [add_zero_at] at q0 q1 q2 q3 q4 q5 q6 q7
        have HTN := Lib.hid htn
        have hw : wrap64 ((j : Int) + 1) = ((j + 1 : Nat) : Int) := by have := HLN.out; unfold wrap64; omega
        have HW := Lib.hid hw
        have hwi : wrap64 ((i : Int) + 1) = ((i + 1 : Nat) : Int) := by have := HLN.out; have := HY.out; unfold wrap64; omega
        have HWI := Lib.hid hwi
        clear hw hwi hx hxs htn hrd
        cases hpx : p x
        · have HPX := Lib.hid hpx
          clear hpx
          go_wp2_with fail
          refine (HF.out _ x).mono ?_
          rintro e w2 ⟨rfl, hb⟩
          have hblk := blk_below (blk_new wr (Obj.cells #[.int .i64 x.f0, .string x.f1, .int .i64 x.f2, .int .i64 x.f3, .int .i64 x.f4, .int .u8 x.f5, .int .i64 x.f6, .string x.f7] 24)) hb
          have HB2 := Aside0.mk (below_then (below_alloc' HB.out) (below_alloc' HB.out).size hb)
          have HR2 := Aside0.mk (Kd.R_below (Kd.R_alloc HR.out _) hb)
          rw [HPX.out]
          generalize wr.heap.size = T at hblk ⊢
          have hz0 : w2.cell? ⟨T, 0, none⟩ = some (.int .i64 x.f0) := (blk_cell hblk 0).trans rfl
          have hz1 : w2.cell? ⟨T, 1, none⟩ = some (.string x.f1) := (blk_cell hblk 1).trans rfl
          have hz2 : w2.cell? ⟨T, 2, none⟩ = some (.int .i64 x.f2) := (blk_cell hblk 2).trans rfl
          have hz3 : w2.cell? ⟨T, 3, none⟩ = some (.int .i64 x.f3) := (blk_cell hblk 3).trans rfl
          have hz4 : w2.cell? ⟨T, 4, none⟩ = some (.int .i64 x.f4) := (blk_cell hblk 4).trans rfl
          have hz5 : w2.cell? ⟨T, 5, none⟩ = some (.int .u8 x.f5) := (blk_cell hblk 5).trans rfl
          have hz6 : w2.cell? ⟨T, 6, none⟩ = some (.int .i64 x.f6) := (blk_cell hblk 6).trans rfl
          have hz7 : w2.cell? ⟨T, 7, none⟩ = some (.string x.f7) := (blk_cell hblk 7).trans rfl
          clear hb hblk
          obtain ⟨y, hy⟩ : ∃ y, y = ys.getD i z24 := ⟨_, rfl⟩
          have hrd2 := Kd.R_reads' HR2.out
          obtain ⟨ad2, c2, e2, hcl, hK2, hcc⟩ := Kd.C_get hrd2.2.2 z24 (i : Int) (by omega) (by have := HY.out; omega)
          injection e2 with e2
          subst e2
          simp only [add_zero_at] at hcc
          have HCC := Lib.hid hcc
          have HCL := Lib.hid hcl
          clear hrd2 hcc hcl hK2 hy
          have hin2 : (i : Int) < (xs.length : Int) := by have := HY.out; omega
          go_wp2_with (first | ((with_reducible refine gate_store (p := 33) (t := 24) (v := .tmp 32) rfl ?_); refine Kd.R_store k24 (w0 := w0) w0.heap.size rfl rfl 24 (.tmp 33) (.tmp 32) rfl 24 (g := g) (n := xs.length) (cap := cap) (o' := i * 8) (i : Int) 0 ys x (.agg (lineCells x)) (lineEnc x) c2 ok (fun _ => False) rfl (by simp; rfl) rfl rfl (by kernel_rfl) (lineEnc_one x) HR2.out (by omega) (by have := HY.out; omega) HCL.out HCC.out (Nat.le_refl 8) (by rw [List.take_zero, List.nil_append, List.drop_of_length_le (by rw [HCL.out]; exact Nat.le_refl 8), List.append_nil]; exact line_mk _ _ _ x) (fun _ hk => hk.elim) HB2.out ?_; intro w3 ho hb hg; have HR3 := Aside0.mk ho; have HB3 := Aside0.mk hb; clear ho hb hg) | fail)
          go_roundg n
          case measure => omega
          case rel =>
            refine ⟨i + 1, j + 1, ys.set i x, congrArg (Value.int .i64) HWI.out, congrArg (Value.int .i64) HW.out, Lib.hid ⟨by have := HY.out; omega, by omega, by have := HY.out; omega, by rw [List.length_set]; exact HY.out.2.2.2.1, ?_, ?_⟩, by rw [Int.toNat_natCast] at HR3; exact HR3, HB3⟩
            · have hyl := HY.out.2.2.2.1
              have hij := HY.out.1
              rw [HTN.out, List.filter_append, show List.filter (fun x => !p x) [x] = [x] from by simp [HPX.out], ← HY.out.2.2.2.2.1, rd_next' (ys.set i x) x i (by rw [List.length_set]; omega), List.take_set_of_le (Nat.le_refl i), List.getD_eq_getElem?_getD, List.getElem?_set_self (by omega)]
              rfl
            · have hij := HY.out.1
              rw [List.drop_set_of_lt (by omega), ← List.drop_drop, HY.out.2.2.2.2.2, List.drop_drop]
        · have HPX := Lib.hid hpx
          clear hpx
          go_wp2_with fail
          refine (HF.out _ x).mono ?_
          rintro e w2 ⟨rfl, hb⟩
          have hblk := blk_below (blk_new wr (Obj.cells #[.int .i64 x.f0, .string x.f1, .int .i64 x.f2, .int .i64 x.f3, .int .i64 x.f4, .int .u8 x.f5, .int .i64 x.f6, .string x.f7] 24)) hb
          have HB2 := Aside0.mk (below_then (below_alloc' HB.out) (below_alloc' HB.out).size hb)
          have HR2 := Aside0.mk (Kd.R_below (Kd.R_alloc HR.out _) hb)
          rw [HPX.out]
          generalize wr.heap.size = T at hblk ⊢
          clear hb hblk
          go_wp2_with fail
          go_roundg n
          case measure => omega
          case rel => exact ⟨i, j + 1, ys, rfl, congrArg (Value.int .i64) HW.out, Lib.hid ⟨by have := HY.out; omega, by omega, by have := HY.out; omega, HY.out.2.2.2.1, by rw [HTN.out, List.filter_append, show List.filter (fun x => !p x) [x] = [] from by simp [HPX.out], List.append_nil]; exact HY.out.2.2.2.2.1, by rw [← List.drop_drop, HY.out.2.2.2.2.2, List.drop_drop]⟩, HR2, HB2⟩
      · have hil : i < xs.length := by have := HY.out; omega
        have hrd := Kd.R_reads' HR.out
        have hci : ¬ cap = i := by have := hrd.2.1; omega
        have hcut1 := cut_from (P := Try.prog) 29 24 .i64 (i := (Try.prog.info? 24).get!) Try.underlying29 (by kernel_rfl) 8 (by kernel_rfl) (some ⟨g, 0, none⟩) xs.length cap (i : Int) (by omega) (by omega)
        rw [Int.toNat_natCast, if_neg hci, Option.map_some, add_zero_at] at hcut1
        have hcut2 := cut_to (P := Try.prog) 29 24 .i64 (i := (Try.prog.info? 24).get!) Try.underlying29 (by kernel_rfl) (some ⟨g, 0, none⟩) xs.length cap (i : Int) (by omega) (by omega) (by have := hrd.2.1; omega)
        have hys : ys.take i = xs.filter (fun x => !p x) := by
          rw [HY.out.2.2.2.2.1, List.take_of_length_le (by omega)]
        have hm : (xs.filter fun x => !p x).length = i := by rw [← hys, List.length_take]; have := HY.out; omega
        have hRt := Kd.R_take HR.out (m := i) (by have := HY.out; omega)
        rw [hys] at hRt
        have hbl : ∃ cur, wr.heap[g]? = some (.cells cur 24 (0, 0)) ∧ w0.heap.size ≤ g ∧ cur.size = cap * 8 := by
          obtain ⟨-, inner, ⟨-, hown⟩, -⟩ := HR.out
          rcases hown with ⟨hv, _⟩ | ⟨g', cap', cur, hv, hg, hh, h1, h2, h3, h4⟩
          · simp at hv
          · simp only [Value.slice.injEq, Option.some.injEq, Addr.mk.injEq] at hv
            obtain ⟨⟨rfl, -, -⟩, -, rfl⟩ := hv
            exact ⟨cur, hh, hg, h3⟩
        obtain ⟨cur, hcur, hge, hcs⟩ := hbl
        have hzl : (Builtin.zeroCells zLine.cells (xs.length - i)).toList.length = (xs.length - i) * 8 := by simp [Builtin.zeroCells, zLine, Value.cells]
        have hcl : ∀ ty, (Builtin.clear_ #[29] ty #[.slice (some ⟨g, i * 8, none⟩) (xs.length - i) (cap - i)]).run Try.prog wr = .ok (.tuple #[]) (wr.setCells g (i * 8) (Builtin.zeroCells zLine.cells (xs.length - i)).toList) := fun ty =>
          run_clear_rows (n := xs.length - i) wr _ 24 ty zLine Try.underlying29 (fun w => by kernel_rfl) (by
            intro v hv
            simp only [Builtin.zeroCells, Array.toList_map, List.mem_map] at hv
            obtain ⟨q, -, rfl⟩ := hv
            have : q % zLine.cells.size < 8 := Nat.mod_lt _ (by decide)
            generalize q % zLine.cells.size = m at this
            match m, this with
            | 0, _ | 1, _ | 2, _ | 3, _ | 4, _ | 5, _ | 6, _ | 7, _ => rfl) g (i * 8) (cap - i) (by omega)
            (fun t ht => by rw [hzl] at ht; rw [blk_cell hcur, Array.getElem?_eq_getElem (by have := hrd.2.1; omega)]; rfl) (fun t _ => blk_frozen hcur _)
        generalize (Builtin.zeroCells zLine.cells (xs.length - i)).toList = ZS at hcl
        have HRT := Aside0.mk (R_tail hRt ZS (i * 8) (Nat.le_refl _))
        have HBT := Aside0.mk (below_cells HB.out hge ZS (i * 8))
        have HM := Lib.hid hm
        clear hRt hcur hcs hzl hys hm hrd
        go_wp2_with fail
        go_ret
        rw [HM.out]
        exact ⟨rfl, HRT.out, HBT.out⟩
end Go.Proofs.Ytokmkjgbhlcngaa.Q
