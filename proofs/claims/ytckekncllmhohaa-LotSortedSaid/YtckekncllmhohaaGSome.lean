/- lot.some and its users: what of a list a function keeps. -/
import Derived.Test.YtckekncllmhohaaGPlain
import Derived.Test.YtckekncllmhohaaQ5
import Derived.Test.YtckekncllmhohaaQ3
import Derived.Deep.LoopGhost
import Derived.Outline
import Derived.Lib.Hide
import Derived.Deep.RegionHeld3
import Derived.Deep.Cut
import Derived.Laws.EntriesVeiled
namespace Go.Proofs.Ytckekncllmhohaa.Q
open Go.RowKit Go.Proofs.YtckekncllmhohaaW.PrintWords Go.Proofs.YtckekncllmhohaaW.PrintLast Go.Proofs.YtckekncllmhohaaW.PrintMore Go.Proofs.Ytckekncllmhohaa.G
set_option linter.unusedVariables false
set_option linter.unusedSimpArgs false
set_option linter.all false

def lotCells (x : S25) : Array Value := #[.int .i64 x.f0, .string x.f1, .int .i64 x.f2.f0, .int .i64 x.f2.f1, .int .i64 x.f3, .bool x.f4]
def zLot : Value := .agg #[.int .i64 0, .string (⟨#[]⟩ : ByteArray), .int .i64 0, .int .i64 0, .int .i64 0, .bool false]
theorem infoLot : (Try.prog.info? 25).map (fun i => (i.zero, i.size, i.bytes)) = some (some zLot, k25.sz, 56) := by kernel_rfl
theorem cell_alloc_of {w : World} {a : Addr} {v : Value} (h : w.cell? a = some v) (o : Obj) : (w.alloc o).cell? a = some v := by
  rw [World.cell?_alloc_lt _ _ _ (World.block_lt_of_cell? w a h)]; exact h
theorem cell_below_of {w w1 : World} {a : Addr} {v : Value} (h : w.cell? a = some v) (hb : Below w.heap.size w w1) : w1.cell? a = some v := by
  rw [hb.cell (World.block_lt_of_cell? w a h)]; exact h
theorem rd_next {α : Type} (l : List α) (z : α) (i : Nat) (h : i < l.length) : l.take (i + 1) = l.take i ++ [l.getD i z] := by
  rw [List.take_succ_eq_append_getElem h]
  simp [List.getD_eq_getElem?_getD, List.getElem?_eq_getElem h]

set_option maxHeartbeats 4000000 in
set_option maxRecDepth 100000 in
theorem lot_some.calls (keep : S25 → Bool) (g : Nat) (cb : Array Value) (A0 : Option Addr) (c0 : Nat) (l0 : List S25) (w : World) (eg : ∀ args W, (callFunc g args).run Try.prog W = .ok (.enter g args) W)
    (hf : ∀ (W : World) (x : S25), Below w.heap.size w W → Calls Try.prog g (#[.agg (lotCells x)] ++ cb) W fun e w' => e = .returned (.bool (keep x)) ∧ Below W.heap.size W w')
    (hr0 : Kd.C k25 w A0 l0.length l0) (hc0 : l0.length ≤ c0) (hlen : l0.length ≤ 1000000) :
    Calls Try.prog 28 #[.slice A0 l0.length c0, .func (.func g) #[] cb] w fun e w' => ∃ v : Value, e = .returned v ∧ Kd.R k25 25 w' w.heap.size (fun _ => True) v (l0.filter keep) ∧ Below w.heap.size w w' := by
  have HR0 := Aside0.mk hr0
  have HF := Lib.hid hf
  have HLN := Aside0.mk hlen
  have HB0 := Aside0.mk (Below.refl w.heap.size w)
  clear hr0 hf hlen
  go_enter Try.func28, Try.ntmps28
  go_wp2
  go_loopg [5, 10] l0.length (fun k s5 s10 wr => ∃ i : Nat, s10 = .int .i64 (i : Int) ∧ Hid (i + k = l0.length) ∧ Aside0 (Kd.R k25 25 wr w.heap.size (fun _ => True) s5 ((l0.take i).filter keep)) ∧ Aside0 (Below w.heap.size w wr))
  case atStart => exact ⟨0, rfl, Lib.hid (by omega), Aside0.mk (Kd.R_nil _ _ _ _ _), HB0⟩
  case round =>
    obtain ⟨i, rfl, HI, HR, HB⟩ := hrel
    cases gk with
    | zero =>
      have hk : ¬ (i : Int) < (l0.length : Int) := by have := HI.out; omega
      have hall : l0.take i = l0 := List.take_of_length_le (by have := HI.out; omega)
      have HALL := Lib.hid hall
      clear hall
      go_wp2
      go_ret
      exact ⟨_, rfl, by have := HR.out; rwa [HALL.out] at this, HB.out⟩
    | succ n =>
      have hk : (i : Int) < (l0.length : Int) := by have := HI.out; omega
      have hin : i < l0.length := by have := HI.out; omega
      obtain ⟨ad, e, q0, q1, q2, q3, q4, q5⟩ := at_T25 (Kd.C_below HR0.out HB.out) (i : Int) (by omega) (by omega)
      have hx : rd_T25 l0 (i : Int) = l0.getD i z25 := rfl
      have htk := rd_next l0 z25 i hin
      rw [hx] at q0 q1 q2 q3 q4 q5
      generalize l0.getD i z25 = x at q0 q1 q2 q3 q4 q5 htk
      rw [Int.toNat_natCast] at q0 q1 q2 q3 q4 q5
      have HTK := Lib.hid htk
      have HIN := Lib.hid hin
      clear htk hx hin
      subst e
      have hw : wrap64 ((i : Int) + 1) = ((i + 1 : Nat) : Int) := by have := HLN.out; have := HIN.out; unfold wrap64; omega
      have HW := Lib.hid hw
      clear hw
      cases hkx : keep x
      · have HKX := Lib.hid hkx
        clear hkx
        go_wp2_with fail
        refine (HF.out _ x (below_alloc HB.out _)).mono ?_
        rintro e w2 ⟨rfl, hb⟩
        have hblk := blk_below (blk_new wr (Obj.cells #[.int .i64 x.f0, .string x.f1, .int .i64 x.f2.f0, .int .i64 x.f2.f1, .int .i64 x.f3, .bool x.f4] 25)) hb
        have HB2 := Aside0.mk (below_then (below_alloc HB.out _) (below_alloc HB.out _).size hb)
        have HR2 := Aside0.mk (Kd.R_below (Kd.R_alloc HR.out _) hb)
        rw [HKX.out]
        generalize wr.heap.size = T at hblk ⊢
        have HBK := Aside0.mk hblk
        clear hb hblk
        go_wp2_with fail
        go_roundg n
        case measure => omega
        case rel => exact ⟨i + 1, congrArg (Value.int .i64) HW.out, Lib.hid (by have := HI.out; omega), Aside0.mk (by rw [HTK.out, List.filter_append, show List.filter keep [x] = [] from by simp [HKX.out], List.append_nil]; exact HR2.out), HB2⟩
      · have HKX := Lib.hid hkx
        clear hkx
        go_wp2_with fail
        refine (HF.out _ x (below_alloc HB.out _)).mono ?_
        rintro e w2 ⟨rfl, hb⟩
        have hblk := blk_below (blk_new wr (Obj.cells #[.int .i64 x.f0, .string x.f1, .int .i64 x.f2.f0, .int .i64 x.f2.f1, .int .i64 x.f3, .bool x.f4] 25)) hb
        have HB2 := Aside0.mk (below_then (below_alloc HB.out _) (below_alloc HB.out _).size hb)
        have HR2 := Aside0.mk (Kd.R_below (Kd.R_alloc HR.out _) hb)
        rw [HKX.out]
        generalize wr.heap.size = T at hblk ⊢
        have HBK := Aside0.mk hblk
        have hz0 : w2.cell? ⟨T, 0, none⟩ = some (.int .i64 x.f0) := (blk_cell hblk 0).trans rfl
        have hz1 : w2.cell? ⟨T, 1, none⟩ = some (.string x.f1) := (blk_cell hblk 1).trans rfl
        have hz2 : w2.cell? ⟨T, 2, none⟩ = some (.int .i64 x.f2.f0) := (blk_cell hblk 2).trans rfl
        have hz3 : w2.cell? ⟨T, 3, none⟩ = some (.int .i64 x.f2.f1) := (blk_cell hblk 3).trans rfl
        have hz4 : w2.cell? ⟨T, 4, none⟩ = some (.int .i64 x.f3) := (blk_cell hblk 4).trans rfl
        have hz5 : w2.cell? ⟨T, 5, none⟩ = some (.bool x.f4) := (blk_cell hblk 5).trans rfl
        clear hb hblk
        go_wp2_with (first | ((with_reducible refine gate_builtin (b := .append) (xs := #[.tmp 17, .tmp 19]) rfl ?_); at_builtin; refine Kd.R_append k25 (w0 := w) w.heap.size rfl (.tmp 17) (.tmp 19) 30 25 zLot 56 rfl Try.underlying30 infoLot rfl (by decide) (by omega) u5 ((l0.take i).filter keep) x _ (fun _ => True) (fun _ => False) rfl rfl (k25_mkM _ _ _ _) (fun _ hk => hk.elim) (fun k hk => trivial) HR2.out HB2.out HB2.out.size (by have := HLN.out; have := HIN.out; have hfl := List.length_filter_le keep (l0.take i); rw [List.length_take] at hfl; omega) ?_; intro v1 w3 ho hb hg hat; have HR3 := Aside0.mk ho; have HB3 := Aside0.mk hb; clear ho hb hg hat) | fail)
        go_roundg n
        case measure => omega
        case rel => exact ⟨i + 1, congrArg (Value.int .i64) HW.out, Lib.hid (by have := HI.out; omega), Aside0.mk (by rw [HTK.out, List.filter_append, show List.filter keep [x] = [x] from by simp [HKX.out]]; exact HR3.out), HB3⟩

/-! ### the closures -/
def overB (now : Int) (x : S25) : Bool := x.f4 && decide (x.f2.f1 ≤ now)
theorem sweep_1.calls (now : Int) (a : Nat) (x : S25) (w : World) (ha : w.cell? ⟨a, 0, none⟩ = some (.int .i64 now)) :
    Calls Try.prog 27 (#[.agg (lotCells x)] ++ #[.pointer (some ⟨a, 0, none⟩)]) w fun e w' => e = .returned (.bool (overB now x)) ∧ Below w.heap.size w w' := by
  have hlt := World.block_lt_of_cell? w _ ha
  have HB := Lib.hid (below_alloc (Below.refl w.heap.size w) (Obj.cells (lotCells x) 25))
  show Calls Try.prog 27 #[.agg #[.int .i64 x.f0, .string x.f1, .int .i64 x.f2.f0, .int .i64 x.f2.f1, .int .i64 x.f3, .bool x.f4], .pointer (some ⟨a, 0, none⟩)] w _
  unfold overB
  cases hx : x.f4
  · go_enter Try.func27, Try.ntmps27
    go_wp2
    go_ret
    exact ⟨ret_bool (by first | rfl | simp), by have := HB.out; unfold lotCells at this; rw [hx] at this; exact this⟩
  · go_enter Try.func27, Try.ntmps27
    go_wp2
    go_ret
    exact ⟨ret_bool (by first | rfl | simp), by have := HB.out; unfold lotCells at this; rw [hx] at this; exact this⟩
theorem of_1.calls (item : ByteArray) (a : Nat) (x : S25) (w : World) (ha : w.cell? ⟨a, 0, none⟩ = some (.string item)) :
    Calls Try.prog 31 (#[.agg (lotCells x)] ++ #[.pointer (some ⟨a, 0, none⟩)]) w fun e w' => e = .returned (.bool (x.f1.toList == item.toList)) ∧ Below w.heap.size w w' := by
  have hlt := World.block_lt_of_cell? w _ ha
  have HB := Lib.hid (below_alloc (Below.refl w.heap.size w) (Obj.cells (lotCells x) 25))
  show Calls Try.prog 31 #[.agg #[.int .i64 x.f0, .string x.f1, .int .i64 x.f2.f0, .int .i64 x.f2.f1, .int .i64 x.f3, .bool x.f4], .pointer (some ⟨a, 0, none⟩)] w _
  go_enter Try.func31, Try.ntmps31
  go_wp2
  go_ret
  exact ⟨ret_bool (by first | rfl | simp), HB.out⟩
theorem sweep_2.calls (now : Int) (a b : Nat) (x : S25) (w : World) (ha : w.cell? ⟨a, 0, none⟩ = some (.int .i64 now)) (hb : w.cell? ⟨b, 0, none⟩ = some (.func (.func 27) #[] #[.pointer (some ⟨a, 0, none⟩)])) :
    Calls Try.prog 29 (#[.agg (lotCells x)] ++ #[.pointer (some ⟨b, 0, none⟩)]) w fun e w' => e = .returned (.bool (!overB now x)) ∧ Below w.heap.size w w' := by
  have HA := Lib.hid ha
  have hlt := World.block_lt_of_cell? w _ hb
  have HB := Lib.hid (below_alloc (Below.refl w.heap.size w) (Obj.cells (lotCells x) 25))
  show Calls Try.prog 29 #[.agg #[.int .i64 x.f0, .string x.f1, .int .i64 x.f2.f0, .int .i64 x.f2.f1, .int .i64 x.f3, .bool x.f4], .pointer (some ⟨b, 0, none⟩)] w _
  clear ha
  go_enter Try.func29, Try.ntmps29
  go_wp2_with fail
  refine (sweep_1.calls now a x _ ?_).mono ?_
  · exact cell_alloc_of HA.out _
  rintro e w' ⟨rfl, hb'⟩
  have HB2 := Lib.hid (below_then HB.out HB.out.size hb')
  clear hb'
  go_wp2
  go_ret
  exact ⟨rfl, HB2.out⟩

/-! ### their users -/
theorem eg_sweep1 (args : Array Value) (W : World) : (callFunc 27 args).run Try.prog W = .ok (.enter 27 args) W := enters_ Try.func27 (by kernel_rfl) rfl args W
theorem eg_sweep2 (args : Array Value) (W : World) : (callFunc 29 args).run Try.prog W = .ok (.enter 29 args) W := enters_ Try.func29 (by kernel_rfl) rfl args W
theorem eg_of1 (args : Array Value) (W : World) : (callFunc 31 args).run Try.prog W = .ok (.enter 31 args) W := enters_ Try.func31 (by kernel_rfl) rfl args W
theorem eg_right (args : Array Value) (W : World) : (callFunc 6 args).run Try.prog W = .ok (.enter 6 args) W := enters_ Try.func6 (by kernel_rfl) rfl args W

def lot_Of.f (l : List S25) (item : ByteArray) : Option (List S25) := if l.length ≤ 1000000 then some (l.filter fun x => x.f1.toList == item.toList) else none
theorem lot_Of.calls (A0 : Option Addr) (c0 : Nat) (l0 : List S25) (a1 : ByteArray) (r : List S25) (w : World) (hr0 : Kd.C k25 w A0 l0.length l0) (hc0 : l0.length ≤ c0) (h : lot_Of.f l0 a1 = some r) :
    Calls Try.prog 18 #[.slice A0 l0.length c0, .string a1] w fun e w' => ∃ v0_ : Value, e = .returned (v0_) ∧ Kd.R k25 25 w' w.heap.size (fun _ => True) v0_ r ∧ Below w.heap.size w w' := by
  unfold lot_Of.f at h
  by_cases hl : l0.length ≤ 1000000
  · rw [if_pos hl] at h
    obtain rfl := Option.some.inj h
    have HR0 := Aside0.mk hr0
    have HB := Aside0.mk (below_alloc (Below.refl w.heap.size w) (Obj.cells #[.string a1] 9))
    have HCELL := Lib.hid ((blk_cell (blk_new w (Obj.cells #[.string a1] 9)) 0).trans rfl : (w.alloc (Obj.cells #[.string a1] 9)).cell? ⟨w.heap.size, 0, none⟩ = some (.string a1))
    have HLL := Lib.hid hl
    have HHC := Lib.hid hc0
    clear hr0 h hl
    go_enter Try.func18, Try.ntmps18
    go_wp2_with fail
    refine (lot_some.calls (fun x => x.f1.toList == a1.toList) _ #[.pointer (some ⟨w.heap.size, 0, none⟩)] A0 c0 l0 _ eg_of1 (fun W x hW => of_1.calls a1 w.heap.size x W (cell_below_of HCELL.out hW)) (Kd.C_below HR0.out HB.out) HHC.out HLL.out).mono ?_
    rintro e w' ⟨v, rfl, hR, hb⟩
    have HR := Aside0.mk hR
    have HB2 := Aside0.mk hb
    clear hR hb
    go_wp2
    go_ret
    exact ⟨_, rfl, Kd.R_lower HR.out HB.out.size, below_then HB.out HB.out.size HB2.out⟩
  · rw [if_neg hl] at h; cases h

def lot_Sweep.f (l : List S25) (now : Int) : Option (List S25 × List S25) := if l.length ≤ 1000000 then some (l.filter (fun x => !overB now x), l.filter (overB now)) else none
set_option maxHeartbeats 4000000 in
set_option maxRecDepth 100000 in
theorem lot_Sweep.calls (A0 : Option Addr) (c0 : Nat) (l0 : List S25) (a1 : Int) (r1 r2 : List S25) (w : World) (hr0 : Kd.C k25 w A0 l0.length l0) (hc0 : l0.length ≤ c0) (h : lot_Sweep.f l0 a1 = some (r1, r2)) :
    Calls Try.prog 15 #[.slice A0 l0.length c0, .int .i64 a1] w fun e w' => ∃ v0_ v1_ : Value, e = .returned (.tuple #[v0_, v1_]) ∧ Kd.R k25 25 w' w.heap.size (fun _ => True) v0_ r1 ∧ Kd.R k25 25 w' w.heap.size (fun _ => True) v1_ r2 ∧ Below w.heap.size w w' := by
  unfold lot_Sweep.f at h
  by_cases hl : l0.length ≤ 1000000
  · rw [if_pos hl] at h
    have h2 := Option.some.inj h
    simp only [Prod.mk.injEq] at h2
    obtain ⟨rfl, rfl⟩ := h2
    have HR0 := Aside0.mk hr0
    have HLL := Lib.hid hl
    have HHC := Lib.hid hc0
    clear hr0 h hl
    go_enter Try.func15, Try.ntmps15
    go_upto_region 2 with fail
    have hb0 : Below w.heap.size w ((w.alloc (Obj.cells #[Value.int IntKind.i64 a1] 3)).alloc (Obj.cells #[Value.func (Fn.func 27) #[] #[Value.pointer (some { block := w.heap.size, off := 0 })]] 26)) := below_alloc (below_alloc (Below.refl _ _) _) _
    have hca : ((w.alloc (Obj.cells #[Value.int IntKind.i64 a1] 3)).alloc (Obj.cells #[Value.func (Fn.func 27) #[] #[Value.pointer (some { block := w.heap.size, off := 0 })]] 26)).cell? ⟨w.heap.size, 0, none⟩ = some (.int .i64 a1) := cell_alloc_of ((blk_cell (blk_new w _) 0).trans rfl) _
    have hcb : ((w.alloc (Obj.cells #[Value.int IntKind.i64 a1] 3)).alloc (Obj.cells #[Value.func (Fn.func 27) #[] #[Value.pointer (some { block := w.heap.size, off := 0 })]] 26)).cell? ⟨w.heap.size + 1, 0, none⟩ = some (Value.func (Fn.func 27) #[] #[Value.pointer (some { block := w.heap.size, off := 0 })]) := by
      have := (blk_cell (blk_new (w.alloc (Obj.cells #[Value.int IntKind.i64 a1] 3)) (Obj.cells #[Value.func (Fn.func 27) #[] #[Value.pointer (some { block := w.heap.size, off := 0 })]] 26)) 0)
      simpa using this
    generalize ((w.alloc (Obj.cells #[Value.int IntKind.i64 a1] 3)).alloc (Obj.cells #[Value.func (Fn.func 27) #[] #[Value.pointer (some { block := w.heap.size, off := 0 })]] 26)) = W0 at hb0 hca hcb ⊢
    generalize hTa : w.heap.size = Ta at hca hcb ⊢
    generalize hTb : Ta + 1 = Tb at hcb ⊢
    have HTA := Lib.hid hTa
    have HTB := Lib.hid hTb
    have HB0 := Aside0.mk hb0
    have h29 : ∀ W : World, Below W0.heap.size W0 W → Calls Try.prog 28 #[.slice A0 l0.length c0, .func (.func 29) #[] #[.pointer (some ⟨Tb, 0, none⟩)]] W fun e w' => ∃ v : Value, e = .returned v ∧ Kd.R k25 25 w' W.heap.size (fun _ => True) v (l0.filter fun x => !overB a1 x) ∧ Below W.heap.size W w' := fun W hW =>
      lot_some.calls (fun x => !overB a1 x) _ #[.pointer (some ⟨Tb, 0, none⟩)] A0 c0 l0 W eg_sweep2 (fun W2 x hW2 => sweep_2.calls a1 Ta Tb x W2 (cell_below_of (cell_below_of hca hW) hW2) (cell_below_of (cell_below_of hcb hW) hW2)) (Kd.C_below (Kd.C_below HR0.out hb0) hW) HHC.out HLL.out
    have h27 : ∀ W : World, Below W0.heap.size W0 W → Calls Try.prog 28 #[.slice A0 l0.length c0, .func (.func 27) #[] #[.pointer (some ⟨Ta, 0, none⟩)]] W fun e w' => ∃ v : Value, e = .returned v ∧ Kd.R k25 25 w' W.heap.size (fun _ => True) v (l0.filter (overB a1)) ∧ Below W.heap.size W w' := fun W hW =>
      lot_some.calls (overB a1) _ #[.pointer (some ⟨Ta, 0, none⟩)] A0 c0 l0 W eg_sweep1 (fun W2 x hW2 => sweep_1.calls a1 Ta x W2 (cell_below_of (cell_below_of hca hW) hW2)) (Kd.C_below (Kd.C_below HR0.out hb0) hW) HHC.out HLL.out
    have H29 := Lib.hid h29
    have H27 := Lib.hid h27
    have hs0 : W0.drew.cell? ⟨Tb, 0, none⟩ = some (Value.func (Fn.func 27) #[] #[Value.pointer (some { block := Ta, off := 0 })]) ∧ Below W0.heap.size W0 W0.drew := ⟨hcb, below_drew (Below.refl _ _)⟩
    have HS0 := Aside0.mk hs0
    have HCB := Aside0.mk hcb
    clear h29 h27 hs0 hca hcb hb0 hTa hTb
    go_region_held3 (fun w' => w'.cell? ⟨Tb, 0, none⟩ = some (Value.func (Fn.func 27) #[] #[Value.pointer (some { block := Ta, off := 0 })]) ∧ Below W0.heap.size W0 w') (first | exact HS0.out | exact HS1.out | exact HS2.out) (first | ((with_reducible refine (H29.out _ HS0.out.2).mono ?_); rintro e w1 ⟨v1, rfl, hR1, hb1⟩; have HR1 := Aside0.mk hR1; have HB1 := Aside0.mk hb1; have HS1 : Aside0 (w1.cell? ⟨Tb, 0, none⟩ = some (Value.func (Fn.func 27) #[] #[Value.pointer (some { block := Ta, off := 0 })]) ∧ Below W0.heap.size W0 w1) := Aside0.mk ⟨cell_below_of HS0.out.1 hb1, below_then HS0.out.2 HS0.out.2.size hb1⟩; clear hR1 hb1) | ((with_reducible refine (H27.out _ HS1.out.2).mono ?_); rintro e w2 ⟨v2, rfl, hR2, hb2⟩; have HR2 := Aside0.mk hR2; have HB2 := Aside0.mk hb2; have HS2 : Aside0 (w2.cell? ⟨Tb, 0, none⟩ = some (Value.func (Fn.func 27) #[] #[Value.pointer (some { block := Ta, off := 0 })]) ∧ Below W0.heap.size W0 w2) := Aside0.mk ⟨cell_below_of HS1.out.1 hb2, below_then HS1.out.2 HS1.out.2.size hb2⟩; clear hR2 hb2))
    go_wp2_with fail
    go_ret2
    exact ⟨v1, v2, rfl, Kd.R_lower (Kd.R_below HR1.out HB2.out) HB0.out.size, Kd.R_lower HR2.out (Nat.le_trans HB0.out.size HS1.out.2.size), below_then HB0.out HB0.out.size HS2.out.2⟩
  · rw [if_neg hl] at h; cases h
def lotB (x : S25) : Bool := decide (0 < x.f0) && (codeB (bytesOf x.f1) && (decide (0 ≤ x.f2.f0) && (decide (x.f2.f0 < x.f2.f1) && (decide (x.f2.f1 ≤ 4001) && (decide (0 < x.f3) && decide (x.f3 ≤ 1073741824))))))
theorem lot_Right_is (x : S25) : lot_Right.f x.f0 x.f1 x.f2.f0 x.f2.f1 x.f3 x.f4 = some (lotB x) := by
  unfold lot_Right.f code_Right.f window_Right.f lotB
  by_cases h0 : x.f0 > 0
  · rw [if_pos h0]
    cases hc : codeB (bytesOf x.f1)
    · simp
    · by_cases h1 : 0 ≤ x.f2.f0
      · by_cases h2 : x.f2.f0 ≤ x.f2.f1
        · by_cases h3 : x.f2.f1 ≤ 4001
          · by_cases h4 : x.f2.f0 < x.f2.f1
            · by_cases h5 : x.f3 > 0
              · have h5' : 0 < x.f3 := h5
                have h0' : 0 < x.f0 := h0
                simp [h0', h1, h2, h3, h4, h5']
              · have h5' : ¬ 0 < x.f3 := h5
                simp [h1, h2, h3, h4, h5']
            · simp [h1, h2, h3, h4]
          · simp [h1, h2, h3]
        · have h4 : ¬ x.f2.f0 < x.f2.f1 := by omega
          simp [h1, h2, h4]
      · simp [h1]
  · rw [if_neg h0]
    have : ¬ 0 < x.f0 := h0
    simp [this]

theorem wrap_id {i : Int} (h0 : -9223372036854775808 ≤ i) (h : i ≤ 9223372036854775807) : wrap64 i = i := by unfold wrap64; omega
theorem rd_drop {α : Type} (l : List α) (z : α) (i : Nat) (h : i < l.length) : l.drop i = l.getD i z :: l.drop (i + 1) := by
  rw [List.drop_eq_getElem_cons h]
  simp [List.getD_eq_getElem?_getD, List.getElem?_eq_getElem h]


def hasB (a b day : Int) : Bool := decide (0 ≤ a) && (decide (a ≤ b) && (decide (b ≤ 4001) && (decide (a ≤ day) && decide (day < b))))
theorem window_Has_is (a b day : Int) : window_Has.f a b day = some (hasB a b day) := by
  unfold window_Has.f window_Right.f hasB
  by_cases h1 : 0 ≤ a
  · by_cases h2 : a ≤ b
    · by_cases h3 : b ≤ 4001
      · by_cases h4 : a ≤ day
        · simp [h1, h2, h3, h4]
        · simp [h1, h2, h3, h4]
      · simp [h1, h2, h3]
    · simp [h1, h2]
  · simp [h1]
def onStep (day : Int) (n : Int) (x : S25) : Int := if hasB x.f2.f0 x.f2.f1 day = true then wrap64 (n + x.f3) else n
def onSum (day : Int) (l : List S25) : Int := l.foldl (onStep day) 0
def lot_On.f (l : List S25) (day : Int) : Option Int := if l.length ≤ 1000000 then some (onSum day (l.filter lotB)) else none
theorem eg_lotRight (W : World) (x : S25) : Calls Try.prog 6 (#[.agg (lotCells x)] ++ #[]) W fun e w' => e = .returned (.bool (lotB x)) ∧ Below W.heap.size W w' :=
  lot_Right.calls x.f0 x.f1 x.f2.f0 x.f2.f1 x.f3 x.f4 (lotB x) W (lot_Right_is x)
theorem onSum_next (day : Int) (l : List S25) (z : S25) (i : Nat) (h : i < l.length) : onSum day (l.take (i + 1)) = onStep day (onSum day (l.take i)) (l.getD i z) := by
  unfold onSum
  rw [rd_next l z i h, List.foldl_append]
  rfl

set_option maxHeartbeats 4000000 in
set_option maxRecDepth 100000 in
theorem lot_On.calls (A0 : Option Addr) (c0 : Nat) (l0 : List S25) (a1 : Int) (r : Int) (w : World) (hr0 : Kd.C k25 w A0 l0.length l0) (hc0 : l0.length ≤ c0) (h : lot_On.f l0 a1 = some r) :
    Calls Try.prog 16 #[.slice A0 l0.length c0, .int .i64 a1] w fun e w' => e = .returned (.int .i64 r) ∧ Below w.heap.size w w' := by
  unfold lot_On.f at h
  by_cases hl : l0.length ≤ 1000000
  · rw [if_pos hl] at h
    obtain rfl := Option.some.inj h
    have hfl := List.length_filter_le lotB l0
    have HS := Lib.hid (lot_some.calls lotB _ #[] A0 c0 l0 w eg_right (fun W x _ => eg_lotRight W x) hr0 hc0 hl)
    generalize hls : l0.filter lotB = ls at hfl HS ⊢
    have hll : ls.length ≤ 1000000 := Nat.le_trans hfl hl
    have HLN := Lib.hid hll
    clear hr0 hc0 h hl hfl hls hll
    go_enter Try.func16, Try.ntmps16
    go_wp2_with fail
    refine HS.out.mono ?_
    rintro e w1 ⟨v, rfl, hR, hb⟩
    obtain ⟨A1, c1, hv⟩ := Kd.R_slice hR
    subst hv
    have hrd := Kd.R_reads' hR
    have HC := Aside0.mk hrd.2.2
    have HB1 := Aside0.mk hb
    clear hR hb hrd HS
    go_wp2_with fail
    go_loopg [5, 11] ls.length (fun k s5 s11 wr => ∃ i : Nat, s11 = .int .i64 (i : Int) ∧ Hid (i + k = ls.length) ∧ s5 = .int .i64 (onSum a1 (ls.take i)) ∧ Aside0 (Below w1.heap.size w1 wr))
    case atStart => exact ⟨0, rfl, Lib.hid (by omega), rfl, Aside0.mk (Below.refl _ _)⟩
    case round =>
      obtain ⟨i, rfl, HI, rfl, HB⟩ := hrel
      cases gk with
      | zero =>
        have hk : ¬ (i : Int) < (ls.length : Int) := by have := HI.out; omega
        have hall : ls.take i = ls := List.take_of_length_le (by have := HI.out; omega)
        rw [hall]
        clear hall
        go_wp2
        go_ret
        exact ⟨rfl, below_then HB1.out HB1.out.size HB.out⟩
      | succ n =>
        have hk : (i : Int) < (ls.length : Int) := by have := HI.out; omega
        have hin : i < ls.length := by have := HI.out; omega
        obtain ⟨ad, e, q0, q1, q2, q3, q4, q5⟩ := at_T25 (Kd.C_below HC.out HB.out) (i : Int) (by omega) (by omega)
        have hx : rd_T25 ls (i : Int) = ls.getD i z25 := rfl
        have hnx := onSum_next a1 ls z25 i hin
        rw [hx] at q0 q1 q2 q3 q4 q5
        generalize ls.getD i z25 = x at q0 q1 q2 q3 q4 q5 hnx
        rw [Int.toNat_natCast] at q0 q1 q2 q3 q4 q5
        generalize onSum a1 (ls.take i) = acc at hnx ⊢
        have HNX := Lib.hid hnx
        have HIN := Lib.hid hin
        clear hnx hx hin
        subst e
        have hw : wrap64 ((i : Int) + 1) = ((i + 1 : Nat) : Int) := by have := HLN.out; have := HIN.out; unfold wrap64; omega
        have HW := Lib.hid hw
        clear hw
        cases hkx : hasB x.f2.f0 x.f2.f1 a1
        · have HKX := Lib.hid hkx
          clear hkx
          go_wp2_with fail
          refine (window_Has.calls x.f2.f0 x.f2.f1 a1 _ _ (window_Has_is x.f2.f0 x.f2.f1 a1)).mono ?_
          rintro e w2 ⟨rfl, hb⟩
          have HB2 := Aside0.mk (below_then (below_alloc HB.out _) (below_alloc HB.out _).size hb)
          rw [HKX.out]
          clear hb
          go_wp2_with fail
          go_roundg n
          case measure => omega
          case rel => exact ⟨i + 1, congrArg (Value.int .i64) HW.out, Lib.hid (by have := HI.out; omega), congrArg (Value.int .i64) (by rw [HNX.out]; unfold onStep; rw [HKX.out]; rfl), HB2⟩
        · have HKX := Lib.hid hkx
          clear hkx
          go_wp2_with fail
          refine (window_Has.calls x.f2.f0 x.f2.f1 a1 _ _ (window_Has_is x.f2.f0 x.f2.f1 a1)).mono ?_
          rintro e w2 ⟨rfl, hb⟩
          have hblk := blk_below (blk_new wr (Obj.cells #[.int .i64 x.f0, .string x.f1, .int .i64 x.f2.f0, .int .i64 x.f2.f1, .int .i64 x.f3, .bool x.f4] 25)) hb
          have HB2 := Aside0.mk (below_then (below_alloc HB.out _) (below_alloc HB.out _).size hb)
          rw [HKX.out]
          generalize wr.heap.size = T at hblk ⊢
          have hz4 : w2.cell? ⟨T, 4, none⟩ = some (.int .i64 x.f3) := (blk_cell hblk 4).trans rfl
          clear hb hblk
          go_wp2_with fail
          go_roundg n
          case measure => omega
          case rel => exact ⟨i + 1, congrArg (Value.int .i64) HW.out, Lib.hid (by have := HI.out; omega), congrArg (Value.int .i64) (by rw [HNX.out]; unfold onStep; rw [HKX.out, if_pos rfl]), HB2⟩
  · rw [if_neg hl] at h; cases h
end Go.Proofs.Ytckekncllmhohaa.Q
