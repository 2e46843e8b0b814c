/- What leads to LotNumbers: the functions' contracts and the plain laws under them. -/
import Derived.Deep.Cut
import Derived.Deep.LoopGhost
import Derived.Deep.RegionHeld3
import Derived.Laws.EntriesVeiled
import Derived.Lib.Hide
import Derived.Lib.QuietBelow
import Derived.Outline
import Derived.Shelf.SlSortCmp.InsertionK
import Derived.Shelf.SlSortCmp.KitK
import Derived.Sort.LotA
import Derived.Sort.WalkB12
import Derived.Sort.WalkB2
import Derived.Test.YtckekncllmhohaaGreatVLotNumbers0
import Derived.Test.YtckekncllmhohaaGreatBLotNumbers0
namespace Go.Proofs.YtckekncllmhohaaGreat.Q
open Go.RowKit Go.Proofs.YtckekncllmhohaaGreatW.PrintWords Go.Proofs.YtckekncllmhohaaGreatW.PrintLast Go.Proofs.YtckekncllmhohaaGreatW.PrintMore Go.Proofs.YtckekncllmhohaaGreat.G
set_option linter.unusedVariables false
set_option linter.unusedSimpArgs false
set_option linter.all false

def lotCells (x : S41) : Array Value := #[.int .i64 x.f0, .string x.f1, .int .i64 x.f2.f0, .int .i64 x.f2.f1, .int .i64 x.f3, .bool x.f4]
def zLot : Value := .agg #[.int .i64 0, .string (⟨#[]⟩ : ByteArray), .int .i64 0, .int .i64 0, .int .i64 0, .bool false]
theorem infoLot : (Tryz.prog.info? 41).map (fun i => (i.zero, i.size, i.bytes)) = some (some zLot, k41.sz, 56) := by kernel_rfl
theorem cell_alloc_of {w : World} {a : Addr} {v : Value} (h : w.cell? a = some v) (o : Obj) : (w.alloc o).cell? a = some v := by
  rw [World.cell?_alloc_lt _ _ _ (World.block_lt_of_cell? w a h)]; exact h
theorem cell_below_of {w w1 : World} {a : Addr} {v : Value} (h : w.cell? a = some v) (hb : Below w.heap.size w w1) : w1.cell? a = some v := by
  rw [hb.cell (World.block_lt_of_cell? w a h)]; exact h
theorem rd_next {α : Type} (l : List α) (z : α) (i : Nat) (h : i < l.length) : l.take (i + 1) = l.take i ++ [l.getD i z] := by
  rw [List.take_succ_eq_append_getElem h]
  simp [List.getD_eq_getElem?_getD, List.getElem?_eq_getElem h]

set_option maxHeartbeats 4000000 in
set_option maxRecDepth 100000 in
theorem lot_some.calls (keep : S41 → Bool) (g : Nat) (cb : Array Value) (A0 : Option Addr) (c0 : Nat) (l0 : List S41) (w : World) (eg : ∀ args W, (callFunc g args).run Tryz.prog W = .ok (.enter g args) W)
    (hf : ∀ (W : World) (x : S41), Below w.heap.size w W → Calls Tryz.prog g (#[.agg (lotCells x)] ++ cb) W fun e w' => e = .returned (.bool (keep x)) ∧ Below W.heap.size W w')
    (hr0 : Kd.C k41 w A0 l0.length l0) (hc0 : l0.length ≤ c0) (hlen : l0.length ≤ 1000000) :
    Calls Tryz.prog 27 #[.slice A0 l0.length c0, .func (.func g) #[] cb] w fun e w' => ∃ v : Value, e = .returned v ∧ Kd.R k41 41 w' w.heap.size (fun _ => True) v (l0.filter keep) ∧ Below w.heap.size w w' := by
  have HR0 := Aside0.mk hr0
  have HF := Lib.hid hf
  have HLN := Aside0.mk hlen
  have HB0 := Aside0.mk (Below.refl w.heap.size w)
  clear hr0 hf hlen
  go_enter Tryz.func27, Tryz.ntmps27
  go_wp2
  go_loopg [5, 10] l0.length (fun k s5 s10 wr => ∃ i : Nat, s10 = .int .i64 (i : Int) ∧ Hid (i + k = l0.length) ∧ Aside0 (Kd.R k41 41 wr w.heap.size (fun _ => True) s5 ((l0.take i).filter keep)) ∧ Aside0 (Below w.heap.size w wr))
  case atStart => exact ⟨0, rfl, Lib.hid (by omega), Aside0.mk (Kd.R_nil _ _ _ _ _), HB0⟩
  case round =>
    obtain ⟨i, rfl, HI, HR, HB⟩ := hrel
    cases gk with
    | zero =>
      have hk : ¬ (i : Int) < (l0.length : Int) := by have := HI.out; omega
      have hall : l0.take i = l0 := List.take_of_length_le (by have := HI.out; omega)
      have HALL := Lib.hid hall
      clear hall
      go_wp2
      go_ret
      exact ⟨_, rfl, by have := HR.out; rwa [HALL.out] at this, HB.out⟩
    | succ n =>
      have hk : (i : Int) < (l0.length : Int) := by have := HI.out; omega
      have hin : i < l0.length := by have := HI.out; omega
      obtain ⟨ad, e, q0, q1, q2, q3, q4, q5⟩ := at_T41 (Kd.C_below HR0.out HB.out) (i : Int) (by omega) (by omega)
      have hx : rd_T41 l0 (i : Int) = l0.getD i z41 := rfl
      have htk := rd_next l0 z41 i hin
      rw [hx] at q0 q1 q2 q3 q4 q5
      generalize l0.getD i z41 = x at q0 q1 q2 q3 q4 q5 htk
      rw [Int.toNat_natCast] at q0 q1 q2 q3 q4 q5
      have HTK := Lib.hid htk
      have HIN := Lib.hid hin
      clear htk hx hin
      subst e
      have hw : wrap64 ((i : Int) + 1) = ((i + 1 : Nat) : Int) := by have := HLN.out; have := HIN.out; unfold wrap64; omega
      have HW := Lib.hid hw
      clear hw
      cases hkx : keep x
      · have HKX := Lib.hid hkx
        clear hkx
        go_wp2_with fail
        refine (HF.out _ x (below_alloc HB.out _)).mono ?_
        rintro e w2 ⟨rfl, hb⟩
        have hblk := blk_below (blk_new wr (Obj.cells #[.int .i64 x.f0, .string x.f1, .int .i64 x.f2.f0, .int .i64 x.f2.f1, .int .i64 x.f3, .bool x.f4] 41)) hb
        have HB2 := Aside0.mk (below_then (below_alloc HB.out _) (below_alloc HB.out _).size hb)
        have HR2 := Aside0.mk (Kd.R_below (Kd.R_alloc HR.out _) hb)
        rw [HKX.out]
        generalize wr.heap.size = T at hblk ⊢
        have HBK := Aside0.mk hblk
        clear hb hblk
        go_wp2_with fail
        go_roundg n
        case measure => omega
        case rel => exact ⟨i + 1, congrArg (Value.int .i64) HW.out, Lib.hid (by have := HI.out; omega), Aside0.mk (by rw [HTK.out, List.filter_append, show List.filter keep [x] = [] from by simp [HKX.out], List.append_nil]; exact HR2.out), HB2⟩
      · have HKX := Lib.hid hkx
        clear hkx
        go_wp2_with fail
        refine (HF.out _ x (below_alloc HB.out _)).mono ?_
        rintro e w2 ⟨rfl, hb⟩
        have hblk := blk_below (blk_new wr (Obj.cells #[.int .i64 x.f0, .string x.f1, .int .i64 x.f2.f0, .int .i64 x.f2.f1, .int .i64 x.f3, .bool x.f4] 41)) hb
        have HB2 := Aside0.mk (below_then (below_alloc HB.out _) (below_alloc HB.out _).size hb)
        have HR2 := Aside0.mk (Kd.R_below (Kd.R_alloc HR.out _) hb)
        rw [HKX.out]
        generalize wr.heap.size = T at hblk ⊢
        have HBK := Aside0.mk hblk
        have hz0 : w2.cell? ⟨T, 0, none⟩ = some (.int .i64 x.f0) := (blk_cell hblk 0).trans rfl
        have hz1 : w2.cell? ⟨T, 1, none⟩ = some (.string x.f1) := (blk_cell hblk 1).trans rfl
        have hz2 : w2.cell? ⟨T, 2, none⟩ = some (.int .i64 x.f2.f0) := (blk_cell hblk 2).trans rfl
        have hz3 : w2.cell? ⟨T, 3, none⟩ = some (.int .i64 x.f2.f1) := (blk_cell hblk 3).trans rfl
        have hz4 : w2.cell? ⟨T, 4, none⟩ = some (.int .i64 x.f3) := (blk_cell hblk 4).trans rfl
        have hz5 : w2.cell? ⟨T, 5, none⟩ = some (.bool x.f4) := (blk_cell hblk 5).trans rfl
        clear hb hblk
        go_wp2_with (first | ((with_reducible refine gate_builtin (b := .append) (xs := #[.tmp 17, .tmp 19]) rfl ?_); at_builtin; refine Kd.R_append k41 (w0 := w) w.heap.size rfl (.tmp 17) (.tmp 19) 22 41 zLot 56 rfl Tryz.underlying22 infoLot rfl (by decide) (by omega) u5 ((l0.take i).filter keep) x _ (fun _ => True) (fun _ => False) rfl rfl (k41_mkM _ _ _ _) (fun _ hk => hk.elim) (fun k hk => trivial) HR2.out HB2.out HB2.out.size (by have := HLN.out; have := HIN.out; have hfl := List.length_filter_le keep (l0.take i); rw [List.length_take] at hfl; omega) ?_; intro v1 w3 ho hb hg hat; have HR3 := Aside0.mk ho; have HB3 := Aside0.mk hb; clear ho hb hg hat) | fail)
        go_roundg n
        case measure => omega
        case rel => exact ⟨i + 1, congrArg (Value.int .i64) HW.out, Lib.hid (by have := HI.out; omega), Aside0.mk (by rw [HTK.out, List.filter_append, show List.filter keep [x] = [x] from by simp [HKX.out]]; exact HR3.out), HB3⟩

def overB (now : Int) (x : S41) : Bool := x.f4 && decide (x.f2.f1 ≤ now)
theorem sweep_1.calls (now : Int) (a : Nat) (x : S41) (w : World) (ha : w.cell? ⟨a, 0, none⟩ = some (.int .i64 now)) :
    Calls Tryz.prog 29 (#[.agg (lotCells x)] ++ #[.pointer (some ⟨a, 0, none⟩)]) w fun e w' => e = .returned (.bool (overB now x)) ∧ Below w.heap.size w w' := by
  have hlt := World.block_lt_of_cell? w _ ha
  have HB := Lib.hid (below_alloc (Below.refl w.heap.size w) (Obj.cells (lotCells x) 41))
  show Calls Tryz.prog 29 #[.agg #[.int .i64 x.f0, .string x.f1, .int .i64 x.f2.f0, .int .i64 x.f2.f1, .int .i64 x.f3, .bool x.f4], .pointer (some ⟨a, 0, none⟩)] w _
  unfold overB
  cases hx : x.f4
  · go_enter Tryz.func29, Tryz.ntmps29
    go_wp2
    go_ret
    exact ⟨ret_bool (by first | rfl | simp), by have := HB.out; unfold lotCells at this; rw [hx] at this; exact this⟩
  · go_enter Tryz.func29, Tryz.ntmps29
    go_wp2
    go_ret
    exact ⟨ret_bool (by first | rfl | simp), by have := HB.out; unfold lotCells at this; rw [hx] at this; exact this⟩
theorem of_1.calls (item : ByteArray) (a : Nat) (x : S41) (w : World) (ha : w.cell? ⟨a, 0, none⟩ = some (.string item)) :
    Calls Tryz.prog 28 (#[.agg (lotCells x)] ++ #[.pointer (some ⟨a, 0, none⟩)]) w fun e w' => e = .returned (.bool (x.f1.toList == item.toList)) ∧ Below w.heap.size w w' := by
  have hlt := World.block_lt_of_cell? w _ ha
  have HB := Lib.hid (below_alloc (Below.refl w.heap.size w) (Obj.cells (lotCells x) 41))
  show Calls Tryz.prog 28 #[.agg #[.int .i64 x.f0, .string x.f1, .int .i64 x.f2.f0, .int .i64 x.f2.f1, .int .i64 x.f3, .bool x.f4], .pointer (some ⟨a, 0, none⟩)] w _
  go_enter Tryz.func28, Tryz.ntmps28
  go_wp2
  go_ret
  exact ⟨ret_bool (by first | rfl | simp), HB.out⟩
theorem sweep_2.calls (now : Int) (a b : Nat) (x : S41) (w : World) (ha : w.cell? ⟨a, 0, none⟩ = some (.int .i64 now)) (hb : w.cell? ⟨b, 0, none⟩ = some (.func (.func 29) #[] #[.pointer (some ⟨a, 0, none⟩)])) :
    Calls Tryz.prog 30 (#[.agg (lotCells x)] ++ #[.pointer (some ⟨b, 0, none⟩)]) w fun e w' => e = .returned (.bool (!overB now x)) ∧ Below w.heap.size w w' := by
  have HA := Lib.hid ha
  have hlt := World.block_lt_of_cell? w _ hb
  have HB := Lib.hid (below_alloc (Below.refl w.heap.size w) (Obj.cells (lotCells x) 41))
  show Calls Tryz.prog 30 #[.agg #[.int .i64 x.f0, .string x.f1, .int .i64 x.f2.f0, .int .i64 x.f2.f1, .int .i64 x.f3, .bool x.f4], .pointer (some ⟨b, 0, none⟩)] w _
  clear ha
  go_enter Tryz.func30, Tryz.ntmps30
  go_wp2_with fail
  refine (sweep_1.calls now a x _ ?_).mono ?_
  · exact cell_alloc_of HA.out _
  rintro e w' ⟨rfl, hb'⟩
  have HB2 := Lib.hid (below_then HB.out HB.out.size hb')
  clear hb'
  go_wp2
  go_ret
  exact ⟨rfl, HB2.out⟩

theorem eg_sweep1 (args : Array Value) (W : World) : (callFunc 29 args).run Tryz.prog W = .ok (.enter 29 args) W := enters_ Tryz.func29 (by kernel_rfl) rfl args W
theorem eg_sweep2 (args : Array Value) (W : World) : (callFunc 30 args).run Tryz.prog W = .ok (.enter 30 args) W := enters_ Tryz.func30 (by kernel_rfl) rfl args W
theorem eg_of1 (args : Array Value) (W : World) : (callFunc 28 args).run Tryz.prog W = .ok (.enter 28 args) W := enters_ Tryz.func28 (by kernel_rfl) rfl args W
theorem eg_right (args : Array Value) (W : World) : (callFunc 22 args).run Tryz.prog W = .ok (.enter 22 args) W := enters_ Tryz.func22 (by kernel_rfl) rfl args W

def lot_Of.f (l : List S41) (item : ByteArray) : Option (List S41) := if l.length ≤ 1000000 then some (l.filter fun x => x.f1.toList == item.toList) else none
theorem lot_Of.calls (A0 : Option Addr) (c0 : Nat) (l0 : List S41) (a1 : ByteArray) (r : List S41) (w : World) (hr0 : Kd.C k41 w A0 l0.length l0) (hc0 : l0.length ≤ c0) (h : lot_Of.f l0 a1 = some r) :
    Calls Tryz.prog 9 #[.slice A0 l0.length c0, .string a1] w fun e w' => ∃ v0_ : Value, e = .returned (v0_) ∧ Kd.R k41 41 w' w.heap.size (fun _ => True) v0_ r ∧ Below w.heap.size w w' := by
  unfold lot_Of.f at h
  by_cases hl : l0.length ≤ 1000000
  · rw [if_pos hl] at h
    obtain rfl := Option.some.inj h
    have HR0 := Aside0.mk hr0
    have HB := Aside0.mk (below_alloc (Below.refl w.heap.size w) (Obj.cells #[.string a1] 9))
    have HCELL := Lib.hid ((blk_cell (blk_new w (Obj.cells #[.string a1] 9)) 0).trans rfl : (w.alloc (Obj.cells #[.string a1] 9)).cell? ⟨w.heap.size, 0, none⟩ = some (.string a1))
    have HLL := Lib.hid hl
    have HHC := Lib.hid hc0
    clear hr0 h hl
    go_enter Tryz.func9, Tryz.ntmps9
    go_wp2_with fail
    refine (lot_some.calls (fun x => x.f1.toList == a1.toList) _ #[.pointer (some ⟨w.heap.size, 0, none⟩)] A0 c0 l0 _ eg_of1 (fun W x hW => of_1.calls a1 w.heap.size x W (cell_below_of HCELL.out hW)) (Kd.C_below HR0.out HB.out) HHC.out HLL.out).mono ?_
    rintro e w' ⟨v, rfl, hR, hb⟩
    have HR := Aside0.mk hR
    have HB2 := Aside0.mk hb
    clear hR hb
    go_wp2
    go_ret
    exact ⟨_, rfl, Kd.R_lower HR.out HB.out.size, below_then HB.out HB.out.size HB2.out⟩
  · rw [if_neg hl] at h; cases h

def lot_Sweep.f (l : List S41) (now : Int) : Option (List S41 × List S41) := if l.length ≤ 1000000 then some (l.filter (fun x => !overB now x), l.filter (overB now)) else none
set_option maxHeartbeats 4000000 in
set_option maxRecDepth 100000 in
theorem lot_Sweep.own (A0 : Option Addr) (c0 : Nat) (l0 : List S41) (a1 : Int) (r1 r2 : List S41) (w : World) (hr0 : Kd.C k41 w A0 l0.length l0) (hc0 : l0.length ≤ c0) (h : lot_Sweep.f l0 a1 = some (r1, r2)) :
    Calls Tryz.prog 10 #[.slice A0 l0.length c0, .int .i64 a1] w fun e w' => ∃ v0_ v1_ : Value, e = .returned (.tuple #[v0_, v1_]) ∧ Kd.R k41 41 w' w.heap.size (fun _ => True) v0_ r1 ∧ Kd.R k41 41 w' w.heap.size (fun _ => True) v1_ r2 ∧ Below w.heap.size w w' ∧ ∀ b, v0_.ownBlock = some b → v1_.ownBlock ≠ some b := by
  unfold lot_Sweep.f at h
  by_cases hl : l0.length ≤ 1000000
  · rw [if_pos hl] at h
    have h2 := Option.some.inj h
    simp only [Prod.mk.injEq] at h2
    obtain ⟨rfl, rfl⟩ := h2
    have HR0 := Aside0.mk hr0
    have HLL := Lib.hid hl
    have HHC := Lib.hid hc0
    clear hr0 h hl
    go_enter Tryz.func10, Tryz.ntmps10
    go_upto_region 2 with fail
    have hb0 : Below w.heap.size w ((w.alloc (Obj.cells #[Value.int IntKind.i64 a1] 3)).alloc (Obj.cells #[Value.func (Fn.func 29) #[] #[Value.pointer (some { block := w.heap.size, off := 0 })]] 44)) := below_alloc (below_alloc (Below.refl _ _) _) _
    have hca : ((w.alloc (Obj.cells #[Value.int IntKind.i64 a1] 3)).alloc (Obj.cells #[Value.func (Fn.func 29) #[] #[Value.pointer (some { block := w.heap.size, off := 0 })]] 44)).cell? ⟨w.heap.size, 0, none⟩ = some (.int .i64 a1) := cell_alloc_of ((blk_cell (blk_new w _) 0).trans rfl) _
    have hcb : ((w.alloc (Obj.cells #[Value.int IntKind.i64 a1] 3)).alloc (Obj.cells #[Value.func (Fn.func 29) #[] #[Value.pointer (some { block := w.heap.size, off := 0 })]] 44)).cell? ⟨w.heap.size + 1, 0, none⟩ = some (Value.func (Fn.func 29) #[] #[Value.pointer (some { block := w.heap.size, off := 0 })]) := by
      have := (blk_cell (blk_new (w.alloc (Obj.cells #[Value.int IntKind.i64 a1] 3)) (Obj.cells #[Value.func (Fn.func 29) #[] #[Value.pointer (some { block := w.heap.size, off := 0 })]] 44)) 0)
      simpa using this
    generalize ((w.alloc (Obj.cells #[Value.int IntKind.i64 a1] 3)).alloc (Obj.cells #[Value.func (Fn.func 29) #[] #[Value.pointer (some { block := w.heap.size, off := 0 })]] 44)) = W0 at hb0 hca hcb ⊢
    generalize hTa : w.heap.size = Ta at hca hcb ⊢
    generalize hTb : Ta + 1 = Tb at hcb ⊢
    have HTA := Lib.hid hTa
    have HTB := Lib.hid hTb
    have HB0 := Aside0.mk hb0
    have h29 : ∀ W : World, Below W0.heap.size W0 W → Calls Tryz.prog 27 #[.slice A0 l0.length c0, .func (.func 30) #[] #[.pointer (some ⟨Tb, 0, none⟩)]] W fun e w' => ∃ v : Value, e = .returned v ∧ Kd.R k41 41 w' W.heap.size (fun _ => True) v (l0.filter fun x => !overB a1 x) ∧ Below W.heap.size W w' := fun W hW =>
      lot_some.calls (fun x => !overB a1 x) _ #[.pointer (some ⟨Tb, 0, none⟩)] A0 c0 l0 W eg_sweep2 (fun W2 x hW2 => sweep_2.calls a1 Ta Tb x W2 (cell_below_of (cell_below_of hca hW) hW2) (cell_below_of (cell_below_of hcb hW) hW2)) (Kd.C_below (Kd.C_below HR0.out hb0) hW) HHC.out HLL.out
    have h27 : ∀ W : World, Below W0.heap.size W0 W → Calls Tryz.prog 27 #[.slice A0 l0.length c0, .func (.func 29) #[] #[.pointer (some ⟨Ta, 0, none⟩)]] W fun e w' => ∃ v : Value, e = .returned v ∧ Kd.R k41 41 w' W.heap.size (fun _ => True) v (l0.filter (overB a1)) ∧ Below W.heap.size W w' := fun W hW =>
      lot_some.calls (overB a1) _ #[.pointer (some ⟨Ta, 0, none⟩)] A0 c0 l0 W eg_sweep1 (fun W2 x hW2 => sweep_1.calls a1 Ta x W2 (cell_below_of (cell_below_of hca hW) hW2)) (Kd.C_below (Kd.C_below HR0.out hb0) hW) HHC.out HLL.out
    have H29 := Lib.hid h29
    have H27 := Lib.hid h27
    have hs0 : W0.drew.cell? ⟨Tb, 0, none⟩ = some (Value.func (Fn.func 29) #[] #[Value.pointer (some { block := Ta, off := 0 })]) ∧ Below W0.heap.size W0 W0.drew := ⟨hcb, below_drew (Below.refl _ _)⟩
    have HS0 := Aside0.mk hs0
    have HCB := Aside0.mk hcb
    clear h29 h27 hs0 hca hcb hb0 hTa hTb
    go_region_held3 (fun w' => w'.cell? ⟨Tb, 0, none⟩ = some (Value.func (Fn.func 29) #[] #[Value.pointer (some { block := Ta, off := 0 })]) ∧ Below W0.heap.size W0 w') (first | exact HS0.out | exact HS1.out | exact HS2.out) (first | ((with_reducible refine (H29.out _ HS0.out.2).mono ?_); rintro e w1 ⟨v1, rfl, hR1, hb1⟩; have HR1 := Aside0.mk hR1; have HB1 := Aside0.mk hb1; have HS1 : Aside0 (w1.cell? ⟨Tb, 0, none⟩ = some (Value.func (Fn.func 29) #[] #[Value.pointer (some { block := Ta, off := 0 })]) ∧ Below W0.heap.size W0 w1) := Aside0.mk ⟨cell_below_of HS0.out.1 hb1, below_then HS0.out.2 HS0.out.2.size hb1⟩; clear hR1 hb1) | ((with_reducible refine (H27.out _ HS1.out.2).mono ?_); rintro e w2 ⟨v2, rfl, hR2, hb2⟩; have HR2 := Aside0.mk hR2; have HB2 := Aside0.mk hb2; have HS2 : Aside0 (w2.cell? ⟨Tb, 0, none⟩ = some (Value.func (Fn.func 29) #[] #[Value.pointer (some { block := Ta, off := 0 })]) ∧ Below W0.heap.size W0 w2) := Aside0.mk ⟨cell_below_of HS1.out.1 hb2, below_then HS1.out.2 HS1.out.2.size hb2⟩; clear hR2 hb2))
    go_wp2_with fail
    go_ret2
    exact ⟨v1, v2, rfl, Kd.R_lower (Kd.R_below HR1.out HB2.out) HB0.out.size, Kd.R_lower HR2.out (Nat.le_trans HB0.out.size HS1.out.2.size), below_then HB0.out HB0.out.size HS2.out.2, fun b h1 h2 => by
      obtain ⟨_, ho1⟩ := Kd.R_own HR1.out
      obtain ⟨_, ho2⟩ := Kd.R_own HR2.out
      have := own_lt ho1 b h1
      have := own_base ho2 b h2
      omega⟩
  · rw [if_neg hl] at h; cases h
theorem lot_Sweep.calls (A0 : Option Addr) (c0 : Nat) (l0 : List S41) (a1 : Int) (r1 r2 : List S41) (w : World) (hr0 : Kd.C k41 w A0 l0.length l0) (hc0 : l0.length ≤ c0) (h : lot_Sweep.f l0 a1 = some (r1, r2)) :
    Calls Tryz.prog 10 #[.slice A0 l0.length c0, .int .i64 a1] w fun e w' => ∃ v0_ v1_ : Value, e = .returned (.tuple #[v0_, v1_]) ∧ Kd.R k41 41 w' w.heap.size (fun _ => True) v0_ r1 ∧ Kd.R k41 41 w' w.heap.size (fun _ => True) v1_ r2 ∧ Below w.heap.size w w' :=
  (lot_Sweep.own A0 c0 l0 a1 r1 r2 w hr0 hc0 h).mono fun _ _ hh => by
    obtain ⟨v0, v1, he, h1, h2, h3, -⟩ := hh
    exact ⟨v0, v1, he, h1, h2, h3⟩
def lotB (x : S41) : Bool := decide (0 < x.f0) && (codeB (bytesOf x.f1) && (decide (0 ≤ x.f2.f0) && (decide (x.f2.f0 < x.f2.f1) && (decide (x.f2.f1 ≤ 4001) && (decide (0 < x.f3) && decide (x.f3 ≤ 1073741824))))))
theorem lot_Right_is (x : S41) : lot_Right.f x.f0 x.f1 x.f2.f0 x.f2.f1 x.f3 x.f4 = some (lotB x) := by
  unfold lot_Right.f code_Right.f window_Right.f lotB
  by_cases h0 : x.f0 > 0
  · rw [if_pos h0]
    cases hc : codeB (bytesOf x.f1)
    · simp
    · by_cases h1 : 0 ≤ x.f2.f0
      · by_cases h2 : x.f2.f0 ≤ x.f2.f1
        · by_cases h3 : x.f2.f1 ≤ 4001
          · by_cases h4 : x.f2.f0 < x.f2.f1
            · by_cases h5 : x.f3 > 0
              · have h5' : 0 < x.f3 := h5
                have h0' : 0 < x.f0 := h0
                simp [h0', h1, h2, h3, h4, h5']
              · have h5' : ¬ 0 < x.f3 := h5
                simp [h1, h2, h3, h4, h5']
            · simp [h1, h2, h3, h4]
          · simp [h1, h2, h3]
        · have h4 : ¬ x.f2.f0 < x.f2.f1 := by omega
          simp [h1, h2, h4]
      · simp [h1]
  · rw [if_neg h0]
    have : ¬ 0 < x.f0 := h0
    simp [this]

def hasB (a b day : Int) : Bool := decide (0 ≤ a) && (decide (a ≤ b) && (decide (b ≤ 4001) && (decide (a ≤ day) && decide (day < b))))
theorem window_Has_is (a b day : Int) : window_Has.f a b day = some (hasB a b day) := by
  unfold window_Has.f window_Right.f hasB
  by_cases h1 : 0 ≤ a
  · by_cases h2 : a ≤ b
    · by_cases h3 : b ≤ 4001
      · by_cases h4 : a ≤ day
        · simp [h1, h2, h3, h4]
        · simp [h1, h2, h3, h4]
      · simp [h1, h2, h3]
    · simp [h1, h2]
  · simp [h1]
def onStep (day : Int) (n : Int) (x : S41) : Int := if hasB x.f2.f0 x.f2.f1 day = true then wrap64 (n + x.f3) else n
def onSum (day : Int) (l : List S41) : Int := l.foldl (onStep day) 0
def lot_On.f (l : List S41) (day : Int) : Option Int := if l.length ≤ 1000000 then some (onSum day (l.filter lotB)) else none
theorem eg_lotRight (W : World) (x : S41) : Calls Tryz.prog 22 (#[.agg (lotCells x)] ++ #[]) W fun e w' => e = .returned (.bool (lotB x)) ∧ Below W.heap.size W w' :=
  lot_Right.calls x.f0 x.f1 x.f2.f0 x.f2.f1 x.f3 x.f4 (lotB x) W (lot_Right_is x)
theorem onSum_next (day : Int) (l : List S41) (z : S41) (i : Nat) (h : i < l.length) : onSum day (l.take (i + 1)) = onStep day (onSum day (l.take i)) (l.getD i z) := by
  unfold onSum
  rw [rd_next l z i h, List.foldl_append]
  rfl

set_option maxHeartbeats 4000000 in
set_option maxRecDepth 100000 in
theorem lot_On.calls (A0 : Option Addr) (c0 : Nat) (l0 : List S41) (a1 : Int) (r : Int) (w : World) (hr0 : Kd.C k41 w A0 l0.length l0) (hc0 : l0.length ≤ c0) (h : lot_On.f l0 a1 = some r) :
    Calls Tryz.prog 11 #[.slice A0 l0.length c0, .int .i64 a1] w fun e w' => e = .returned (.int .i64 r) ∧ Below w.heap.size w w' := by
  unfold lot_On.f at h
  by_cases hl : l0.length ≤ 1000000
  · rw [if_pos hl] at h
    obtain rfl := Option.some.inj h
    have hfl := List.length_filter_le lotB l0
    have HS := Lib.hid (lot_some.calls lotB _ #[] A0 c0 l0 w eg_right (fun W x _ => eg_lotRight W x) hr0 hc0 hl)
    generalize hls : l0.filter lotB = ls at hfl HS ⊢
    have hll : ls.length ≤ 1000000 := Nat.le_trans hfl hl
    have HLN := Lib.hid hll
    clear hr0 hc0 h hl hfl hls hll
    go_enter Tryz.func11, Tryz.ntmps11
    go_wp2_with fail
    refine HS.out.mono ?_
    rintro e w1 ⟨v, rfl, hR, hb⟩
    obtain ⟨A1, c1, hv⟩ := Kd.R_slice hR
    subst hv
    have hrd := Kd.R_reads' hR
    have HC := Aside0.mk hrd.2.2
    have HB1 := Aside0.mk hb
    clear hR hb hrd HS
    go_wp2_with fail
    go_loopg [5, 11] ls.length (fun k s5 s11 wr => ∃ i : Nat, s11 = .int .i64 (i : Int) ∧ Hid (i + k = ls.length) ∧ s5 = .int .i64 (onSum a1 (ls.take i)) ∧ Aside0 (Below w1.heap.size w1 wr))
    case atStart => exact ⟨0, rfl, Lib.hid (by omega), rfl, Aside0.mk (Below.refl _ _)⟩
    case round =>
      obtain ⟨i, rfl, HI, rfl, HB⟩ := hrel
      cases gk with
      | zero =>
        have hk : ¬ (i : Int) < (ls.length : Int) := by have := HI.out; omega
        have hall : ls.take i = ls := List.take_of_length_le (by have := HI.out; omega)
        rw [hall]
        clear hall
        go_wp2
        go_ret
        exact ⟨rfl, below_then HB1.out HB1.out.size HB.out⟩
      | succ n =>
        have hk : (i : Int) < (ls.length : Int) := by have := HI.out; omega
        have hin : i < ls.length := by have := HI.out; omega
        obtain ⟨ad, e, q0, q1, q2, q3, q4, q5⟩ := at_T41 (Kd.C_below HC.out HB.out) (i : Int) (by omega) (by omega)
        have hx : rd_T41 ls (i : Int) = ls.getD i z41 := rfl
        have hnx := onSum_next a1 ls z41 i hin
        rw [hx] at q0 q1 q2 q3 q4 q5
        generalize ls.getD i z41 = x at q0 q1 q2 q3 q4 q5 hnx
        rw [Int.toNat_natCast] at q0 q1 q2 q3 q4 q5
        generalize onSum a1 (ls.take i) = acc at hnx ⊢
        have HNX := Lib.hid hnx
        have HIN := Lib.hid hin
        clear hnx hx hin
        subst e
        have hw : wrap64 ((i : Int) + 1) = ((i + 1 : Nat) : Int) := by have := HLN.out; have := HIN.out; unfold wrap64; omega
        have HW := Lib.hid hw
        clear hw
        cases hkx : hasB x.f2.f0 x.f2.f1 a1
        · have HKX := Lib.hid hkx
          clear hkx
          go_wp2_with fail
          refine (window_Has.calls x.f2.f0 x.f2.f1 a1 _ _ (window_Has_is x.f2.f0 x.f2.f1 a1)).mono ?_
          rintro e w2 ⟨rfl, hb⟩
          have HB2 := Aside0.mk (below_then (below_alloc HB.out _) (below_alloc HB.out _).size hb)
          rw [HKX.out]
          clear hb
          go_wp2_with fail
          go_roundg n
          case measure => omega
          case rel => exact ⟨i + 1, congrArg (Value.int .i64) HW.out, Lib.hid (by have := HI.out; omega), congrArg (Value.int .i64) (by rw [HNX.out]; unfold onStep; rw [HKX.out]; rfl), HB2⟩
        · have HKX := Lib.hid hkx
          clear hkx
          go_wp2_with fail
          refine (window_Has.calls x.f2.f0 x.f2.f1 a1 _ _ (window_Has_is x.f2.f0 x.f2.f1 a1)).mono ?_
          rintro e w2 ⟨rfl, hb⟩
          have hblk := blk_below (blk_new wr (Obj.cells #[.int .i64 x.f0, .string x.f1, .int .i64 x.f2.f0, .int .i64 x.f2.f1, .int .i64 x.f3, .bool x.f4] 41)) hb
          have HB2 := Aside0.mk (below_then (below_alloc HB.out _) (below_alloc HB.out _).size hb)
          rw [HKX.out]
          generalize wr.heap.size = T at hblk ⊢
          have hz4 : w2.cell? ⟨T, 4, none⟩ = some (.int .i64 x.f3) := (blk_cell hblk 4).trans rfl
          clear hb hblk
          go_wp2_with fail
          go_roundg n
          case measure => omega
          case rel => exact ⟨i + 1, congrArg (Value.int .i64) HW.out, Lib.hid (by have := HI.out; omega), congrArg (Value.int .i64) (by rw [HNX.out]; unfold onStep; rw [HKX.out, if_pos rfl]), HB2⟩
  · rw [if_neg hl] at h; cases h
end Go.Proofs.YtckekncllmhohaaGreat.Q
namespace Go.Proofs.YtckekncllmhohaaGreat.Q
open Go.Shelf Go.RowKit Go.Lib Go.Sort Go.Proofs
set_option linter.unusedVariables false
set_option linter.unusedSimpArgs false
set_option linter.all false

section
variable {α : Type} [Inhabited α]
theorem sortWorldK_regrown (enc : α → List Value) (k : Nat) (w : World) (h0 : w.drawn = 0) (blk off m n : Nat) (dk : Array α) (os os' : Array Obj) : grow (redrawn (sortWorldK enc k w blk off m dk os) n) os' = sortWorldK enc k w blk off n dk (os ++ os') := by
  have e : redrawn (sortWorldK enc k w blk off m dk os) n = sortWorldK enc k w blk off n dk os := by
    unfold sortWorldK Sort.ahead
    rw [h0, Nat.zero_add, Nat.zero_add]
    rfl
  rw [e]
  unfold sortWorldK
  rw [grow_grow]
theorem hid_start (enc : α → List Value) (k : Nat) (w : World) (blk off : Nat) (d : Array α) (hH : HoldsK enc k w blk off d) : Hid (w = sortWorldK enc k (redrawn w 0) blk off w.drawn d #[]) := by
  have h1 : Sort.ahead (redrawn w 0) w.drawn = w := by
    unfold Sort.ahead redrawn
    simp
  show w = _
  unfold sortWorldK
  rw [grow_empty, h1]
  exact (putRowK_self enc k w blk off d hH).symm

/-- What is asked of 'cmp': in every world of the sort's it tells 'cf', and turns nothing that lay there. -/
def CmpBelow (P : Program) (g : Nat) (cb : Array Value) (enc : α → List Value) (k : Nat) (cf : α → α → Int) (blk off size : Nat) (w0 : World) : Prop :=
  ∀ (dk : Array α) (W : World), dk.size = size → SWK enc k w0 blk off dk W → ∀ x y : α, Calls P g (#[.agg (enc x).toArray, .agg (enc y).toArray] ++ cb) W fun e w' => e = .returned (.int .i64 (cf x y)) ∧ RowKit.Below W.heap.size W w'

set_option maxHeartbeats 4000000 in
set_option maxRecDepth 1000000 in
theorem insertionSort_any {P : Program} (mixed : P.follows .mixedOrders = true) (hF : P.funcs[(66 : Nat)]? = some Tryz.f66)
    (t3 : P.underlying 3 = some (TypeDesc.int IntKind.i64)) (a3 : ∀ w, (isAgg 3).run P w = .ok false w) (z3 : ∀ w, (Go.sizeOf 3).run P w = .ok 1 w) (v3 : ∀ w, (zeroValue 3).run P w = .ok (Value.int IntKind.i64 0) w)
    (t4 : P.underlying 4 = some TypeDesc.bool) (a4 : ∀ w, (isAgg 4).run P w = .ok false w) (z4 : ∀ w, (Go.sizeOf 4).run P w = .ok 1 w) (v4 : ∀ w, (zeroValue 4).run P w = .ok (Value.bool false) w)
    (t22 : P.underlying 22 = some (TypeDesc.slice 41)) (a22 : ∀ w, (isAgg 22).run P w = .ok false w) (z22 : ∀ w, (Go.sizeOf 22).run P w = .ok 1 w)
    (a25 : ∀ w, (isAgg 47).run P w = .ok false w) (z25 : ∀ w, (Go.sizeOf 47).run P w = .ok 1 w)
    (k : Nat) (aE : ∀ w, (isAgg 41).run P w = .ok true w) (zE : ∀ w, (Go.sizeOf 41).run P w = .ok k w) (enc : α → List Value) (hk : ∀ x, (enc x).length = k) (h1 : ∀ x, ∀ v ∈ enc x, v.oneCell' = true)
    (cf : α → α → Int) (g : Nat) (cb : Array Value) (blk off cap a b : Nat) (d : Array α) (w : World)
    (eg : ∀ args w, (callFunc g args).run P w = .ok (.enter g args) w) (hcmp : CmpBelow P g cb enc k cf blk off d.size (redrawn w 0))
    (hH : HoldsK enc k w blk off d) (hblk : blk < w.heap.size) (hab : a ≤ b) (hb : b ≤ d.size) (hsz : d.size < 4611686018427387904) :
    Calls P 66 #[.slice (some ⟨blk, off, none⟩) d.size cap, .int .i64 a, .int .i64 b, .func (.func g) #[] cb] w fun e w' =>
      e = .returned (.tuple #[]) ∧ ∃ n os, w' = sortWorldK enc k (redrawn w 0) blk off n (Sort.insertionSort (ltOf cf) d a b) os := by
  have u22 := run_underlying t22
  have HC : Aside _ := hcmp
  have HST : Hid (w = sortWorldK enc k (redrawn w 0) blk off w.drawn d #[]) := hid_start enc k w blk off d hH
  have HD : Hid ((redrawn w 0).drawn = 0) := rfl
  have HHZ : Hid (HoldsK enc k (redrawn w 0) blk off d) := hH
  have HH : Hid (HoldsK enc k w blk off d) := hH
  have HK : Hid (∀ x, (enc x).length = k) := hk
  have H1 : Hid (∀ x, ∀ v ∈ enc x, v.oneCell' = true) := h1
  clear hcmp hH hk h1
  have hblkz : blk < (redrawn w 0).heap.size := hblk
  generalize hwz : redrawn w 0 = wz at HST HD HHZ HC hblkz ⊢
  have HWZ : Hid (redrawn w 0 = wz) := hwz
  clear hwz
  go_enter hF, Tryz.ntmps66
  go_wp2
  go_loopg [8] (b - a) (fun g1 vi wr => ∃ (i n : Nat) (dk : Array α) (os : Array Obj), vi = .int .i64 i ∧ a < i ∧ i ≤ b + 1 ∧ b + 1 - i ≤ g1 + 1 ∧ dk.size = d.size ∧ wr = sortWorldK enc k wz blk off n dk os ∧ Hid (insOuter (ltOf cf) a b i dk = insOuter (ltOf cf) a b (a + 1) d))
  case atStart => exact ⟨a + 1, w.drawn, d, #[], by go_num, by omega, by omega, by omega, rfl, HST.out, rfl⟩
  case round =>
    obtain ⟨i, n, dk, os, rfl, hai, hib, hg1, hsk, rfl, HO⟩ := hrel
    by_cases hlt : i < b
    · have hltz : (i : Int) < (b : Int) := by omega
      go_wp2
      -- the inner loop
      go_loopg [9] i (fun g2 vj wr2 => ∃ (j m : Nat) (dj : Array α) (oj : Array Obj), vj = .int .i64 j ∧ a ≤ j ∧ j ≤ i ∧ j ≤ g2 ∧ dj.size = d.size ∧ wr2 = sortWorldK enc k wz blk off m dj oj ∧ Hid (insInner (ltOf cf) a j dj = insInner (ltOf cf) a i dk))
      case atStart => exact ⟨i, n, dk, os, rfl, by omega, Nat.le_refl _, Nat.le_refl _, hsk, rfl, rfl⟩
      case round =>
        obtain ⟨j, m, dj, oj, rfl, haj, hji, hg2, hsj, rfl, HI⟩ := hrel
        have out : (j ≤ a ∨ ltOf cf dj[j]! dj[j - 1]! = false) → Hid (insOuter (ltOf cf) a b (i + 1) dj = insOuter (ltOf cf) a b (a + 1) d) := fun hs => by
          show _ = _
          rw [← HO.out, insOuter_go _ _ _ _ _ hlt, ← HI.out, insInner_stop _ _ _ _ hs]
        have OUT : Aside _ := out
        clear out
        by_cases hja : a < j
        · have hjaz : (a : Int) < (j : Int) := by omega
          obtain ⟨jp, rfl⟩ : ∃ jp, j = jp + 1 := ⟨j - 1, by omega⟩
          obtain ⟨xj, hxj⟩ : ∃ x, dj[jp + 1]! = x := ⟨_, rfl⟩
          obtain ⟨xp, hxp⟩ : ∃ x, dj[jp]! = x := ⟨_, rfl⟩
          have hwp : IntKind.i64.wrap (jp : Int) = (jp : Int) := by rw [IntKind.wrap_i64]; omega
          have jz : (jp : Int) + 1 < (d.size : Int) := by omega
          have jz1 : (jp : Int) < (d.size : Int) := by omega
          have hjaz' : (a : Int) < (jp : Int) + 1 := by omega
          have p0 : (0 : Int) ≤ (jp : Int) + 1 := by omega
          have e0 : ((jp : Int) + 1).toNat = jp + 1 := by omega
          -- every world of the class is one of the sort's
          have hcls : ∀ n' os', grow (redrawn (sortWorldK enc k wz blk off m dj oj) n') os' = sortWorldK enc k wz blk off n' dj (oj ++ os') := fun n' os' => sortWorldK_regrown enc k wz HD.out blk off m n' dj oj os'
          have hHc : ∀ n' os', HoldsK enc k (grow (redrawn (sortWorldK enc k wz blk off m dj oj) n') os') blk off dj := fun n' os' => by rw [hcls]; exact holdsK_sortWorldK_c enc k wz blk off d dj _ _ HHZ.out hblkz hsj
          have lj : ∀ n' os', Sem.run P (loadCellsFrom ⟨blk, off + (jp + 1) * k, none⟩ 0 k #[]) (grow (redrawn (sortWorldK enc k wz blk off m dj oj) n') os') = .ok (enc xj).toArray (grow (redrawn (sortWorldK enc k wz blk off m dj oj) n') os') := fun n' os' => by
            rw [← hxj]; exact run_loadCellsFrom_list P _ _ _ k (HK.out _) (HoldsK.cells (hHc n' os') HK.out (by omega))
          have lp : ∀ n' os', Sem.run P (loadCellsFrom ⟨blk, off + jp * k, none⟩ 0 k #[]) (grow (redrawn (sortWorldK enc k wz blk off m dj oj) n') os') = .ok (enc xp).toArray (grow (redrawn (sortWorldK enc k wz blk off m dj oj) n') os') := fun n' os' => by
            rw [← hxp]; exact run_loadCellsFrom_list P _ _ _ k (HK.out _) (HoldsK.cells (hHc n' os') HK.out (by omega))
          have hcg : ∀ n' os', Calls P g (#[.agg (enc xj).toArray, .agg (enc xp).toArray] ++ cb) (grow (redrawn (sortWorldK enc k wz blk off m dj oj) n') os') fun e w' => e = .returned (.int .i64 (cf xj xp)) ∧ ∃ p : Regrown, w' = grow (redrawn (sortWorldK enc k wz blk off m dj oj) p.d) p.os := fun n' os' => Calls.regrown_of (HC.out dj _ hsj ⟨n', oj ++ os', hcls n' os'⟩ xj xp)
          have CLS : Hid _ := hcls
          clear hcls hHc
          generalize hwq : sortWorldK enc k wz blk off m dj oj = wq at lj lp hcg CLS ⊢
          by_cases hlv : cf xj xp < 0
          · go_wp2_with fail
            refine wp_region_quiet_below (by assumption) (by kernel_rfl) ?_
            repeat (quiet_step (first | (go_at_fn g; exact hcg _ _)))
            refine wpQuiet_nil ?_
            intro _ hw'
            obtain ⟨⟨nq, osq⟩, hw''⟩ := hw'
            subst hw''
            go_wp2_with fail
            have hw2 : grow (redrawn wq nq) osq = sortWorldK enc k wz blk off nq dj (oj ++ osq) := CLS.out nq osq
            have hHd : HoldsK enc k (grow (redrawn wq nq) osq).drew blk off dj := by
              have : HoldsK enc k (grow (redrawn wq nq) osq) blk off dj := by rw [hw2]; exact holdsK_sortWorldK_c enc k wz blk off d dj _ _ HHZ.out hblkz hsj
              exact this
            have bnd : ∀ x, x < dj.size → x * k + k ≤ dj.size * k := fun x hx => by
              have := Nat.mul_le_mul_right k (show x + 1 ≤ dj.size from hx); rwa [Nat.add_mul, Nat.one_mul] at this
            clear lj lp hcg
            generalize grow (redrawn wq nq) osq = wq2 at hw2 hHd ⊢
            have lj2 : Sem.run P (loadCellsFrom ⟨blk, off + (jp + 1) * k, none⟩ 0 k #[]) wq2.drew = .ok (enc xj).toArray wq2.drew := by rw [← hxj]; exact run_loadCellsFrom_list P _ _ _ k (HK.out _) (HoldsK.cells hHd HK.out (by omega))
            have lp2 : Sem.run P (loadCellsFrom ⟨blk, off + jp * k, none⟩ 0 k #[]) wq2.drew = .ok (enc xp).toArray wq2.drew := by rw [← hxp]; exact run_loadCellsFrom_list P _ _ _ k (HK.out _) (HoldsK.cells hHd HK.out (by omega))
            have s1 : Sem.run P (storeCells ⟨blk, off + (jp + 1) * k, none⟩ (enc xp) 0) wq2.drew = .ok () (wq2.drew.setCells blk (off + (jp + 1) * k) (enc xp)) := stores_of_holds P hHd ((jp + 1) * k) _ (by rw [HK.out, size_flatK]; exact bnd (jp + 1) (by omega)) (H1.out _)
            have s2 : Sem.run P (storeCells ⟨blk, off + jp * k, none⟩ (enc xj) 0) (wq2.drew.setCells blk (off + (jp + 1) * k) (enc xp)) = .ok () ((wq2.drew.setCells blk (off + (jp + 1) * k) (enc xp)).setCells blk (off + jp * k) (enc xj)) :=
              stores_of_holds P (holds_setCells_c hHd ((jp + 1) * k) _ (by rw [HK.out, size_flatK]; exact bnd (jp + 1) (by omega))) (jp * k) _ (by rw [HK.out, size_setMany, size_flatK]; exact bnd jp (by omega)) (H1.out _)
            have hsJ : (enc xj).length = k := HK.out _
            have hsP : (enc xp).length = k := HK.out _
            have HW2 : Hid (wq2 = sortWorldK enc k wz blk off nq dj (oj ++ osq)) := hw2
            clear hw2 hHd bnd
            obtain ⟨cJ, hcJ⟩ : ∃ c, c = enc xj := ⟨_, rfl⟩
            obtain ⟨cP, hcP⟩ : ∃ c, c = enc xp := ⟨_, rfl⟩
            rw [← hcP] at s1 lp2 hsP
            rw [← hcJ] at lj2 hsJ
            rw [← hcJ, ← hcP] at s2
            have CC : Hid (cJ = enc xj ∧ cP = enc xp) := ⟨hcJ, hcP⟩
            clear hcJ hcP
            go_big_region_o
            all_goals go_wp2
            go_roundg jp
            case measure => omega
            case rel =>
              refine ⟨jp, nq + 1, swp dj (jp + 1) jp, oj ++ osq, by first | rfl | go_num | (congr 1; omega), by omega, by omega, Nat.le_refl _, by rw [size_swp]; exact hsj, ?_, (show Hid _ from ?_)⟩
              · rw [CC.out.1, CC.out.2, HW2.out, ← hxp, ← hxj]
                exact sortWorldK_swp_c enc k wz blk off HK.out nq dj (oj ++ osq) hblkz (jp + 1) jp (by omega) (by omega)
              · show _ = _
                have := insInner_go (ltOf cf) a (jp + 1) dj hja (by simp only [Nat.add_sub_cancel]; rw [hxj, hxp]; exact decide_eq_true hlv)
                simp only [Nat.add_sub_cancel] at this
                rw [← HI.out, this]
          · -- not less: out of the inner loop
            go_wp2_with fail
            refine wp_region_quiet_below (by assumption) (by kernel_rfl) ?_
            repeat (quiet_step (first | (go_at_fn g; exact hcg _ _)))
            refine wpQuiet_nil ?_
            intro _ hw'
            obtain ⟨⟨nq, osq⟩, hw''⟩ := hw'
            subst hw''
            go_wp2
            go_roundg (b - (i + 1))
            case measure => omega
            case rel => exact ⟨i + 1, _, dj, _, by go_num, by omega, by omega, by omega, hsj, CLS.out nq osq, OUT.out (Or.inr (by simp only [Nat.add_sub_cancel]; rw [hxj, hxp]; exact decide_eq_false (by omega)))⟩
        · -- j = a: out of the inner loop (the guard is false: 'cmp' is not called)
          have hjaz : decide ((j : Int) > (a : Int)) = false := decide_eq_false (by omega)
          have hjaz' : ¬ (a : Int) < (j : Int) := by omega
          have hdr : (sortWorldK enc k wz blk off m dj oj).drew = sortWorldK enc k wz blk off (m + 1) dj oj := rfl
          generalize hwq : sortWorldK enc k wz blk off m dj oj = wq at hdr
          have HDR : Hid _ := hdr
          clear hdr
          go_wp2_with fail
          go_big_region_o
          all_goals go_wp2
          go_roundg (b - (i + 1))
          case measure => omega
          case rel => exact ⟨i + 1, m + 1, dj, oj, by go_num, by omega, by omega, by omega, hsj, HDR.out, OUT.out (Or.inl (by omega))⟩
    · have hltz : ¬ (i : Int) < (b : Int) := by omega
      go_wp2
      go_end0
      exact ⟨rfl, n, os, by unfold Sort.insertionSort; rw [← HO.out, insOuter_stop _ _ _ _ _ hlt]⟩
end
end Go.Proofs.YtckekncllmhohaaGreat.Q
namespace Go.Proofs.YtckekncllmhohaaGreat.G
open Go.RowKit Go.Sort Go.Proofs Go.Proofs.YtckekncllmhohaaGreatW.PrintWords Go.Proofs.YtckekncllmhohaaGreatW.PrintLast Go.Proofs.YtckekncllmhohaaGreatW.PrintMore
set_option linter.unusedVariables false
set_option linter.unusedSimpArgs false
set_option linter.all false
section
variable {α : Type} [Inhabited α]
theorem flatK_seg (enc : α → List Value) (k : Nat) (hk : ∀ x, (enc x).length = k) (d : Array α) (j : Nat) (hj : j < d.size) : ((flatK enc k d).toList.drop (j * k)).take k = enc d[j]! := by
  have hb : j * k + k ≤ d.size * k := by rw [← Nat.succ_mul]; exact Nat.mul_le_mul_right k hj
  apply List.ext_getElem
  · rw [List.length_take, List.length_drop, Array.length_toList, size_flatK, hk]; omega
  · intro t h1 h2
    rw [hk] at h2
    rw [List.getElem_take, List.getElem_drop, Array.getElem_toList]
    have h3 := get_flatK enc k d (j * k + t) (by omega)
    have hk0 : 0 < k := by omega
    rw [show (j * k + t) / k = j from by rw [Nat.mul_comm, Nat.mul_add_div hk0, Nat.div_eq_of_lt h2]; omega, show (j * k + t) % k = t from by rw [Nat.mul_comm, Nat.mul_add_mod, Nat.mod_eq_of_lt h2]] at h3
    rw [getElem!_pos _ _ (by rw [size_flatK]; omega), getElem!_pos _ _ (by rw [hk]; exact h2)] at h3
    exact h3
theorem holds_of_R (d : Kd α) (enc : α → List Value) (k : Nat) (hk : ∀ x, (enc x).length = k) (hsz : d.sz = k) (hM : ∀ {w base ok x cs}, d.M w base ok x cs → cs = enc x) {e : Nat} {W : World} {base : Nat} {ok : Nat → Prop} {g n cap : Nat} {xs : List α}
    (h : d.R e W base ok (.slice (some ⟨g, 0, none⟩) n cap) xs) : HoldsK enc k W g 0 xs.toArray ∧ n = xs.length ∧ base ≤ g ∧ ok g ∧ ∃ cur, W.heap[g]? = some (.cells cur e (0, 0)) ∧ n ≤ cap ∧ cap ≤ maxLen ∧ cur.size = cap * k := by
  obtain ⟨hok, inner, ⟨hl, hown⟩, hr⟩ := h
  rw [hsz] at hl hown hr
  rcases hown with ⟨hv, _⟩ | ⟨g', cap', cur, hv, hg, hh, h1, h2, h3, h4⟩
  · simp at hv
  · simp only [Value.slice.injEq, Option.some.injEq, Addr.mk.injEq] at hv
    obtain ⟨⟨rfl, -, -⟩, rfl, rfl⟩ := hv
    have hn : xs.length * k = inner.length := hl.symm
    refine ⟨fun t ht => ?_, rfl, hg, hok _ (by simp [Value.ownBlock]), cur, hh, h1, h2, h3⟩
    rw [size_flatK, List.size_toArray] at ht
    have hk0 : 0 < k := by
      rcases Nat.eq_zero_or_pos k with h0 | h0
      · rw [h0] at ht; omega
      · exact h0
    have hq : t / k < xs.length := Nat.div_lt_of_lt_mul (by rw [Nat.mul_comm]; exact ht)
    have hm : t % k < k := Nat.mod_lt _ hk0
    have hp := hM (hr.2 (t / k) xs[t / k] (List.getElem?_eq_getElem hq))
    have hct : t < cur.size := by
      have h5 : xs.length * k ≤ cap * k := Nat.mul_le_mul_right k h1
      omega
    refine ⟨?_, by simp [World.frozen?, hh]⟩
    rw [show (0 + t) = t from Nat.zero_add t, blk_cell hh t, get_flatK enc k _ t (by simpa using ht)]
    have e1 : inner[t]? = cur[t]? := by
      rw [← h4, List.getElem?_take, if_pos (by omega), Array.getElem?_toList]
    have e2 : ((inner.drop (t / k * k)).take k)[t % k]? = inner[t]? := by
      rw [List.getElem?_take, if_pos hm, List.getElem?_drop, show t / k * k + t % k = t from by rw [Nat.mul_comm]; exact Nat.div_add_mod t k]
    rw [← e1, ← e2, hp]
    rw [getElem!_pos (xs.toArray) _ (by simpa using hq), getElem!_pos _ _ (by rw [hk]; exact hm)]
    simp [hk, hm]
theorem R_of_sorted (d : Kd α) (enc : α → List Value) (k : Nat) (hk : ∀ x, (enc x).length = k) (hsz : d.sz = k) (hM : ∀ (w : World) (base : Nat) (ok : Nat → Prop) (x : α), d.M w base ok x (enc x)) {e : Nat} {W : World} {base : Nat} {ok : Nat → Prop} {g cap : Nat} {m : Nat} {dk : Array α} {os : Array Obj} {cur : Array Value}
    (hh : W.heap[g]? = some (.cells cur e (0, 0))) (hg : base ≤ g) (ho : ok g) (h1 : dk.size ≤ cap) (h2 : cap ≤ maxLen) (h3 : cur.size = cap * k) : d.R e (sortWorldK enc k (redrawn W 0) g 0 m dk os) base ok (.slice (some ⟨g, 0, none⟩) dk.size cap) dk.toList := by
  have hlt : g < W.heap.size := blk_lt hh
  have hh' : (sortWorldK enc k (redrawn W 0) g 0 m dk os).heap[g]? = some (.cells (putCells id 0 (flatK enc k dk) cur) e (0, 0)) := by
    unfold sortWorldK grow putRowK putRow mapBlock
    rw [Array.getElem?_append_left (by simpa [Sort.ahead, redrawn] using hlt)]
    simp [Sort.ahead, redrawn, Array.getElem?_modify, hh, onCells]
  have hle : dk.size * k ≤ cap * k := Nat.mul_le_mul_right k h1
  refine ⟨fun q hq => by simp [Value.ownBlock] at hq; rw [← hq]; exact ho, (flatK enc k dk).toList, ⟨by rw [hsz]; simp, .inr ⟨g, cap, _, by simp, hg, hh', by simpa using h1, h2, by rw [hsz, ← h3]; simp [putCells], ?_⟩⟩, ⟨by rw [hsz]; simp, fun j p hj => ?_⟩⟩
  · rw [hsz]
    apply List.ext_getElem?
    intro t
    rw [List.getElem?_take, Array.length_toList]
    by_cases ht : t < dk.size * k
    · rw [if_pos ht, Array.getElem?_toList, Array.getElem?_toList]
      unfold putCells
      rw [Array.getElem?_mapIdx, Array.getElem?_eq_getElem (by rw [h3]; omega), Option.map_some, if_pos ⟨Nat.zero_le _, by rw [size_flatK]; omega⟩, Nat.sub_zero, Array.getElem?_eq_getElem (by rw [size_flatK]; exact ht), getElem!_pos _ _ (by rw [size_flatK]; exact ht)]
      rfl
    · rw [if_neg ht, Array.getElem?_toList, Array.getElem?_eq_none (by rw [size_flatK]; omega)]
  · rw [hsz]
    have hjl : j < dk.size := by
      have := (List.getElem?_eq_some_iff.1 hj).1
      simpa using this
    rw [flatK_seg enc k hk dk j hjl]
    have hp : dk[j]! = p := by
      rw [getElem!_pos dk j hjl]
      have := (List.getElem?_eq_some_iff.1 hj).2
      simpa using this
    rw [hp]
    exact hM _ _ _ _
theorem below_of_sorted (enc : α → List Value) (k : Nat) {w W : World} {g : Nat} {m : Nat} {dk : Array α} {os : Array Obj} (h : Below w.heap.size w W) (hg : w.heap.size ≤ g) : Below w.heap.size w (sortWorldK enc k (redrawn W 0) g 0 m dk os) := by
  refine ⟨h.os, h.tape, h.output, ?_, fun i hi => ?_⟩
  · have := h.size
    unfold sortWorldK grow putRowK putRow mapBlock
    simp [Sort.ahead, redrawn]
    omega
  · have := h.size
    rw [← h.block i hi]
    unfold sortWorldK grow putRowK putRow mapBlock
    rw [Array.getElem?_append_left (by simp [Sort.ahead, redrawn]; omega)]
    simp [Sort.ahead, redrawn, Array.getElem?_modify]
    intro h2
    omega

/-- A thing laid into a row that is turned round, behind all that it is not less than. -/
def insRev (lt : α → α → Bool) (x : α) : List α → List α
  | [] => [x]
  | y :: t => if lt x y = true then y :: insRev lt x t else x :: y :: t
def sortRev (lt : α → α → Bool) (l : List α) : List α := l.foldl (fun acc x => insRev lt x acc) []
def stabl (lt : α → α → Bool) (l : List α) : List α := (sortRev lt l).reverse
theorem insRev_length (lt : α → α → Bool) (x : α) : ∀ acc : List α, (insRev lt x acc).length = acc.length + 1
  | [] => rfl
  | y :: t => by
    unfold insRev
    split
    · rw [List.length_cons, insRev_length lt x t, List.length_cons]
    · rfl
theorem foldRev_length (lt : α → α → Bool) : ∀ (l acc : List α), (l.foldl (fun acc x => insRev lt x acc) acc).length = acc.length + l.length
  | [], acc => rfl
  | x :: l, acc => by rw [List.foldl_cons, foldRev_length lt l, insRev_length, List.length_cons]; omega
theorem stabl_length (lt : α → α → Bool) (l : List α) : (stabl lt l).length = l.length := by
  unfold stabl sortRev
  rw [List.length_reverse, foldRev_length]
  simp
theorem get_mid (pre : List α) (x : α) (post : List α) : ((pre ++ x :: post).toArray)[pre.length]! = x := by
  rw [getElem!_pos _ _ (by simp)]
  simp
theorem insInner_list (lt : α → α → Bool) (x : α) (rest : List α) : ∀ (acc : List α), insInner lt 0 acc.length ((acc.reverse ++ x :: rest).toArray) = ((insRev lt x acc).reverse ++ rest).toArray
  | [] => rfl
  | y :: t => by
    have e0 : (y :: t).reverse ++ x :: rest = t.reverse ++ y :: x :: rest := by simp
    have g1 : ((t.reverse ++ y :: x :: rest).toArray)[t.length + 1]! = x := by
      have := get_mid (t.reverse ++ [y]) x rest
      simpa using this
    have g2 : ((t.reverse ++ y :: x :: rest).toArray)[t.length]! = y := by
      have := get_mid t.reverse y (x :: rest)
      simpa using this
    rw [List.length_cons, insInner, e0, g1, g2]
    unfold insRev
    by_cases h : lt x y = true
    · rw [if_pos (by simp [h]), if_pos h]
      have e1 : swp ((t.reverse ++ y :: x :: rest).toArray) (t.length + 1) t.length = ((t.reverse ++ x :: y :: rest).toArray) := by
        unfold swp
        rw [g1, g2, List.setIfInBounds_toArray, List.setIfInBounds_toArray]
        congr 1
        have h1 : (t.reverse ++ y :: x :: rest).set (t.length + 1) y = t.reverse ++ y :: y :: rest := by
          rw [List.set_append_right _ _ (by simp)]
          simp
        rw [h1, List.set_append_right _ _ (by simp)]
        simp
      rw [e1, insInner_list lt x (y :: rest) t]
      simp
    · rw [if_neg (by simp [h]), if_neg h]
      simp
theorem insOuter_list (lt : α → α → Bool) : ∀ (rest acc : List α), insOuter lt 0 (acc.length + rest.length) acc.length ((acc.reverse ++ rest).toArray) = ((rest.foldl (fun acc x => insRev lt x acc) acc).reverse).toArray
  | [], acc => by
    unfold insOuter
    simp
  | x :: rest, acc => by
    unfold insOuter
    rw [if_pos (by simp), insInner_list lt x rest acc]
    have hlen : (insRev lt x acc).length = acc.length + 1 := by
      induction acc with
      | nil => rfl
      | cons y t ih =>
        unfold insRev
        split
        · simp [ih]
        · simp
    have := insOuter_list lt rest (insRev lt x acc)
    rw [hlen] at this
    rw [List.length_cons, show acc.length + (rest.length + 1) = acc.length + 1 + rest.length by omega, this]
    rfl
theorem insertionSort_list (lt : α → α → Bool) (l : List α) (hl : 0 < l.length) : Sort.insertionSort lt l.toArray 0 l.length = (stabl lt l).toArray := by
  cases l with
  | nil => simp at hl
  | cons x r =>
    unfold Sort.insertionSort stabl sortRev
    have := insOuter_list lt r [x]
    simp only [List.length_cons, List.length_nil, List.reverse_cons, List.reverse_nil, List.nil_append, List.singleton_append, Nat.zero_add] at this
    rw [Nat.zero_add, List.length_cons, Nat.add_comm, this]
    rfl
end
end Go.Proofs.YtckekncllmhohaaGreat.G
namespace Go.Proofs.YtckekncllmhohaaGreat.G
open Go.Sort
set_option linter.unusedVariables false
set_option linter.unusedSimpArgs false
set_option linter.all false
section
variable {α : Type} [Inhabited α]

def swapRange : Nat → Nat → Nat → Array α → Array α
  | 0, _, _, d => d
  | n + 1, a, b, d => swapRange n (a + 1) (b + 1) (swp d a b)
def rotLoop (m : Nat) : Nat → Nat → Nat → Array α → Array α
  | 0, _, _, d => d
  | f + 1, i, j, d => if i = j then swapRange i (m - i) m d else if j < i then rotLoop m f (i - j) j (swapRange j (m - i) m d) else rotLoop m f i (j - i) (swapRange i (m - i) (m + j - i) d)
def rotate (a m b : Nat) (d : Array α) : Array α := rotLoop m (m - a + (b - m)) (m - a) (b - m) d
def bsr (p : Nat → Bool) (i j : Nat) : Nat := if i < j then (if p ((i + j) / 2) = true then bsr p ((i + j) / 2 + 1) j else bsr p i ((i + j) / 2)) else i
termination_by j - i
decreasing_by all_goals omega
def upMove : Nat → Nat → Array α → Array α
  | 0, _, d => d
  | n + 1, k, d => upMove n (k + 1) (swp d k (k + 1))
def downMove : Nat → Nat → Array α → Array α
  | 0, _, d => d
  | n + 1, k, d => downMove n (k - 1) (swp d k (k - 1))
/-- Where symMerge's search ends. -/
def smStart (lt : α → α → Bool) (a m b : Nat) (d : Array α) : Nat :=
  bsr (fun c => !lt d[(a + b) / 2 + m - 1 - c]! d[c]!) (if (a + b) / 2 < m then (a + b) / 2 + m - b else a) (if (a + b) / 2 < m then (a + b) / 2 else m)
def smRot (m st e : Nat) (d : Array α) : Array α := if st < m ∧ m < e then rotate st m e d else d
def symMerge (lt : α → α → Bool) : Nat → Nat → Nat → Nat → Array α → Array α
  | 0, _, _, _, d => d
  | f + 1, a, m, b, d =>
    if m - a = 1 then upMove (bsr (fun h => lt d[h]! d[a]!) m b - 1 - a) a d
    else if b - m = 1 then downMove (m - bsr (fun h => !lt d[m]! d[h]!) a m) m d
    else (fun d2 => if (a + b) / 2 < (a + b) / 2 + m - smStart lt a m b d ∧ (a + b) / 2 + m - smStart lt a m b d < b then symMerge lt f ((a + b) / 2) ((a + b) / 2 + m - smStart lt a m b d) b d2 else d2)
      ((fun d1 => if a < smStart lt a m b d ∧ smStart lt a m b d < (a + b) / 2 then symMerge lt f a (smStart lt a m b d) ((a + b) / 2) d1 else d1)
        (smRot m (smStart lt a m b d) ((a + b) / 2 + m - smStart lt a m b d) d))
def insBlocks (lt : α → α → Bool) (n a : Nat) (d : Array α) : Array α :=
  if a + 20 ≤ n then insBlocks lt n (a + 20) (Sort.insertionSort lt d a (a + 20)) else Sort.insertionSort lt d a n
termination_by n - a
def mergePass (lt : α → α → Bool) (s n a : Nat) (d : Array α) : Array α :=
  if 0 < s ∧ a + 2 * s ≤ n then mergePass lt s n (a + 2 * s) (symMerge lt n a (a + s) (a + 2 * s) d) else if a + s < n then symMerge lt n a (a + s) n d else d
termination_by n - a
decreasing_by all_goals omega
def mergeAll (lt : α → α → Bool) (s n : Nat) (d : Array α) : Array α :=
  if 0 < s ∧ s < n then mergeAll lt (s * 2) n (mergePass lt s n 0 d) else d
termination_by n - s
decreasing_by all_goals omega
def stableSort (lt : α → α → Bool) (d : Array α) : Array α := mergeAll lt 20 d.size (insBlocks lt d.size 0 d)

theorem size_swapRange : ∀ (n a b : Nat) (d : Array α), (swapRange n a b d).size = d.size
  | 0, _, _, _ => rfl
  | n + 1, a, b, d => by unfold swapRange; rw [size_swapRange n, swp_size]
theorem size_rotLoop (m : Nat) : ∀ (f i j : Nat) (d : Array α), (rotLoop m f i j d).size = d.size
  | 0, _, _, _ => rfl
  | f + 1, i, j, d => by
    unfold rotLoop
    split
    · rw [size_swapRange]
    · split
      · rw [size_rotLoop m f, size_swapRange]
      · rw [size_rotLoop m f, size_swapRange]
theorem size_rotate (a m b : Nat) (d : Array α) : (rotate a m b d).size = d.size := size_rotLoop _ _ _ _ _
theorem size_smRot (m st e : Nat) (d : Array α) : (smRot m st e d).size = d.size := by unfold smRot; split; exact size_rotate _ _ _ _; rfl
theorem size_upMove : ∀ (n k : Nat) (d : Array α), (upMove n k d).size = d.size
  | 0, _, _ => rfl
  | n + 1, k, d => by unfold upMove; rw [size_upMove n, swp_size]
theorem size_downMove : ∀ (n k : Nat) (d : Array α), (downMove n k d).size = d.size
  | 0, _, _ => rfl
  | n + 1, k, d => by unfold downMove; rw [size_downMove n, swp_size]
theorem size_symMerge (lt : α → α → Bool) : ∀ (f a m b : Nat) (d : Array α), (symMerge lt f a m b d).size = d.size
  | 0, _, _, _, _ => rfl
  | f + 1, a, m, b, d => by
    unfold symMerge
    split
    · exact size_upMove _ _ _
    · split
      · exact size_downMove _ _ _
      · dsimp only
        split <;> (try rw [size_symMerge lt f]) <;> split <;> (try rw [size_symMerge lt f]) <;> exact size_smRot _ _ _ _
theorem size_insInner (lt : α → α → Bool) (a : Nat) : ∀ (j : Nat) (d : Array α), (insInner lt a j d).size = d.size
  | 0, _ => rfl
  | j + 1, d => by
    unfold insInner
    split
    · rw [size_insInner lt a j, swp_size]
    · rfl
theorem size_insOuter (lt : α → α → Bool) (a b : Nat) : ∀ (n i : Nat) (d : Array α), b - i = n → (insOuter lt a b i d).size = d.size
  | 0, i, d, h => by rw [insOuter, if_neg (by omega)]
  | n + 1, i, d, h => by rw [insOuter, if_pos (by omega), size_insOuter lt a b n (i + 1) _ (by omega), size_insInner]
theorem size_insertion (lt : α → α → Bool) (a b : Nat) (d : Array α) : (Sort.insertionSort lt d a b).size = d.size := size_insOuter lt a b _ _ _ rfl
theorem size_mergePass (lt : α → α → Bool) (s n : Nat) : ∀ (k a : Nat) (d : Array α), n - a ≤ k → (mergePass lt s n a d).size = d.size
  | 0, a, d, h => by rw [mergePass, if_neg (by omega), if_neg (by omega)]
  | k + 1, a, d, h => by
    rw [mergePass]
    split
    · rw [size_mergePass lt s n k _ _ (by omega), size_symMerge]
    · split
      · rw [size_symMerge]
      · rfl

theorem bsr_spec (p : Nat → Bool) : ∀ (n i j : Nat), j - i ≤ n → i ≤ j → i ≤ bsr p i j ∧ bsr p i j ≤ j ∧ (bsr p i j = i ∨ p (bsr p i j - 1) = true) ∧ (bsr p i j = j ∨ p (bsr p i j) = false)
  | 0, i, j, hn, hij => by
    obtain rfl : i = j := by omega
    rw [bsr, if_neg (Nat.lt_irrefl _)]
    exact ⟨Nat.le_refl _, Nat.le_refl _, Or.inl rfl, Or.inl rfl⟩
  | n + 1, i, j, hn, hij => by
    rw [bsr]
    by_cases h : i < j
    · rw [if_pos h]
      by_cases hp : p ((i + j) / 2) = true
      · rw [if_pos hp]
        obtain ⟨h1, h2, h3, h4⟩ := bsr_spec p n ((i + j) / 2 + 1) j (by omega) (by omega)
        refine ⟨by omega, h2, ?_, h4⟩
        rcases h3 with h3 | h3
        · right; rw [h3]; simpa using hp
        · exact Or.inr h3
      · rw [if_neg hp]
        obtain ⟨h1, h2, h3, h4⟩ := bsr_spec p n i ((i + j) / 2) (by omega) (by omega)
        refine ⟨h1, by omega, h3, ?_⟩
        rcases h4 with h4 | h4
        · right; rw [h4]; simpa using hp
        · exact Or.inr h4
    · rw [if_neg h]
      exact ⟨Nat.le_refl _, hij, Or.inl rfl, Or.inl (by omega)⟩

theorem swp_list (X M Y : List α) (x y : α) (a b : Nat) (ha : a = X.length) (hb : b = X.length + 1 + M.length) : swp ((X ++ (x :: (M ++ y :: Y))).toArray) a b = ((X ++ (y :: (M ++ x :: Y))).toArray) := by
  subst ha hb
  have g1 : ((X ++ (x :: (M ++ y :: Y))).toArray)[X.length]! = x := get_mid X x _
  have g2 : ((X ++ (x :: (M ++ y :: Y))).toArray)[X.length + 1 + M.length]! = y := by
    have := get_mid (X ++ x :: M) y Y
    simpa [Nat.add_assoc, Nat.add_comm, Nat.add_left_comm] using this
  unfold swp
  rw [g1, g2, List.setIfInBounds_toArray, List.setIfInBounds_toArray]
  congr 1
  rw [List.set_append_right _ _ (Nat.le_refl _), Nat.sub_self, List.set_cons_zero, List.set_append_right _ _ (by omega), show X.length + 1 + M.length - X.length = M.length + 1 by omega, List.set_cons_succ, List.set_append_right _ _ (Nat.le_refl _), Nat.sub_self, List.set_cons_zero]
theorem swapRange_list : ∀ (P : List α) (X M Q Y : List α) (n a b : Nat), P.length = n → Q.length = n → a = X.length → b = X.length + n + M.length → swapRange n a b ((X ++ (P ++ (M ++ (Q ++ Y)))).toArray) = ((X ++ (Q ++ (M ++ (P ++ Y)))).toArray)
  | [], X, M, [], Y, n, a, b, hp, hq, ha, hb => by subst hp; simp [swapRange]
  | [], X, M, q :: Q, Y, n, a, b, hp, hq, ha, hb => by subst hp; simp at hq
  | p :: P, X, M, [], Y, n, a, b, hp, hq, ha, hb => by subst hq; simp at hp
  | p :: P, X, M, q :: Q, Y, n, a, b, hp, hq, ha, hb => by
    obtain ⟨n, rfl⟩ : ∃ k, n = k + 1 := ⟨P.length, by simpa using hp.symm⟩
    simp only [List.length_cons, Nat.add_right_cancel_iff] at hp hq
    unfold swapRange
    have e1 := swp_list X (P ++ M) (Q ++ Y) p q a b ha (by rw [List.length_append, hp, hb]; omega)
    simp only [List.append_assoc] at e1
    simp only [List.cons_append]
    rw [e1]
    have e2 := swapRange_list P (X ++ [q]) (M ++ [p]) Q Y n (a + 1) (b + 1) hp hq (by simp [ha]) (by simp [hb]; omega)
    simpa using e2
theorem rotLoop_list : ∀ (f : Nat) (X U V Y : List α) (m i j : Nat), U.length = i → V.length = j → 0 < i → 0 < j → i + j ≤ f → m = X.length + i → rotLoop m f i j ((X ++ (U ++ (V ++ Y))).toArray) = ((X ++ (V ++ (U ++ Y))).toArray)
  | 0, _, _, _, _, _, _, _, _, _, _, _, hf, _ => by omega
  | f + 1, X, U, V, Y, m, i, j, hU, hV, hi, hj, hf, hm => by
    unfold rotLoop
    by_cases h1 : i = j
    · rw [if_pos h1]
      subst h1
      have := swapRange_list U X [] V Y i (m - i) m hU hV (by omega) (by simp; omega)
      simpa using this
    · rw [if_neg h1]
      by_cases h2 : j < i
      · rw [if_pos h2]
        have hU1 : (U.take j).length = j := by rw [List.length_take]; omega
        have hU2 : (U.drop j).length = i - j := by rw [List.length_drop, hU]
        have e := swapRange_list (U.take j) X (U.drop j) V Y j (m - i) m hU1 hV (by omega) (by rw [hU2]; omega)
        rw [show U.take j ++ (U.drop j ++ (V ++ Y)) = U ++ (V ++ Y) by rw [← List.append_assoc, List.take_append_drop]] at e
        rw [e]
        have e2 := rotLoop_list f (X ++ V) (U.drop j) (U.take j) Y m (i - j) j hU2 hU1 (by omega) hj (by omega) (by rw [List.length_append, hV, hm]; omega)
        simp only [List.append_assoc] at e2
        rw [e2, ← List.append_assoc (U.take j), List.take_append_drop]
      · rw [if_neg h2]
        have hV1 : (V.take (j - i)).length = j - i := by rw [List.length_take]; omega
        have hV2 : (V.drop (j - i)).length = i := by rw [List.length_drop, hV]; omega
        have e := swapRange_list U X (V.take (j - i)) (V.drop (j - i)) Y i (m - i) (m + j - i) hU hV2 (by omega) (by rw [hV1]; omega)
        rw [show V.take (j - i) ++ (V.drop (j - i) ++ Y) = V ++ Y by rw [← List.append_assoc, List.take_append_drop]] at e
        rw [e]
        have e2 := rotLoop_list f X (V.drop (j - i)) (V.take (j - i)) (U ++ Y) m i (j - i) hV2 hV1 hi (by omega) (by omega) hm
        rw [e2, ← List.append_assoc (V.take (j - i)), List.take_append_drop]
/-- An array in four parts. -/
theorem four_parts (d : Array α) (s m e : Nat) (h1 : s ≤ m) (h2 : m ≤ e) (h3 : e ≤ d.size) : ∃ X U V Y : List α, d = ((X ++ (U ++ (V ++ Y))).toArray) ∧ X.length = s ∧ U.length = m - s ∧ V.length = e - m := by
  refine ⟨d.toList.take s, (d.toList.drop s).take (m - s), (d.toList.drop m).take (e - m), d.toList.drop e, ?_, ?_, ?_, ?_⟩
  · have a1 : (d.toList.drop m).take (e - m) ++ d.toList.drop e = d.toList.drop m := by
      have := List.take_append_drop (e - m) (d.toList.drop m)
      rw [List.drop_drop, show m + (e - m) = e by omega] at this
      exact this
    have a2 : (d.toList.drop s).take (m - s) ++ d.toList.drop m = d.toList.drop s := by
      have := List.take_append_drop (m - s) (d.toList.drop s)
      rw [List.drop_drop, show s + (m - s) = m by omega] at this
      exact this
    rw [a1, a2, List.take_append_drop]
  · rw [List.length_take, Array.length_toList]; omega
  · rw [List.length_take, List.length_drop, Array.length_toList]; omega
  · rw [List.length_take, List.length_drop, Array.length_toList]; omega
theorem get_list (l : List α) (i : Nat) : (l.toArray)[i]! = (l[i]?).getD default := by
  rw [getElem!_def]
  simp
  cases l[i]? <;> rfl

def eqv (lt : α → α → Bool) (c x : α) : Bool := !lt c x && !lt x c
/-- Those that are alike stand in their order. -/
def St (lt : α → α → Bool) (d d' : Array α) : Prop := ∀ c, d'.toList.filter (eqv lt c) = d.toList.filter (eqv lt c)
theorem St.refl (lt : α → α → Bool) (d : Array α) : St lt d d := fun _ => rfl
theorem St.trans {lt : α → α → Bool} {d d' d'' : Array α} (h : St lt d d') (h' : St lt d' d'') : St lt d d'' := fun c => (h' c).trans (h c)
variable {lt : α → α → Bool}
omit [Inhabited α] in
theorem lt_of_le_lt (hS : SWO lt) {x y z : α} (h1 : lt y x = false) (h2 : lt y z = true) : lt x z = true := by
  cases h : lt x z with
  | true => rfl
  | false => rw [hS.ntrans y x z h1 h] at h2; cases h2
omit [Inhabited α] in
theorem lt_of_lt_le (hS : SWO lt) {x y z : α} (h1 : lt x y = true) (h2 : lt z y = false) : lt x z = true := by
  cases h : lt x z with
  | true => rfl
  | false => rw [hS.ntrans x z y h h2] at h1; cases h1
omit [Inhabited α] in
theorem eqv_not (hS : SWO lt) {c u v : α} (h : lt v u = true) (hu : eqv lt c u = true) : eqv lt c v = false := by
  cases hv : eqv lt c v with
  | false => rfl
  | true =>
    simp only [eqv, Bool.and_eq_true, Bool.not_eq_true'] at hu hv
    rw [hS.ntrans v c u hv.2 hu.1] at h
    cases h
theorem st_swap (hS : SWO lt) (X U V Y : List α) (h : ∀ u ∈ U, ∀ v ∈ V, lt v u = true) : St lt ((X ++ (U ++ (V ++ Y))).toArray) ((X ++ (V ++ (U ++ Y))).toArray) := by
  intro c
  simp only [List.filter_append]
  congr 1
  rw [← List.append_assoc, ← List.append_assoc]
  congr 1
  by_cases hu : ∃ u ∈ U, eqv lt c u = true
  · obtain ⟨u, hu, hcu⟩ := hu
    have : V.filter (eqv lt c) = [] := by
      rw [List.filter_eq_nil_iff]
      intro v hv
      rw [eqv_not hS (h u hu v hv) hcu]
      simp
    rw [this]; simp
  · have : U.filter (eqv lt c) = [] := by
      rw [List.filter_eq_nil_iff]
      intro u hu'
      intro hc
      exact hu ⟨u, hu', hc⟩
    rw [this]; simp
theorem swp_comm (d : Array α) {i j : Nat} (hi : i < d.size) (hj : j < d.size) : swp d i j = swp d j i := by
  apply Array.ext
  · rw [swp_size, swp_size]
  · intro k h1 h2
    rw [← getElem!_pos, ← getElem!_pos, swp_get d hi hj, swp_get d hj hi]
    by_cases h : k = i
    · by_cases h' : k = j
      · rw [if_pos h', if_pos h]; subst h; subst h'; rfl
      · rw [if_neg h', if_pos h, if_pos h]
    · by_cases h' : k = j
      · rw [if_pos h', if_neg h, if_pos h']
      · rw [if_neg h', if_neg h, if_neg h, if_neg h']
theorem st_adj (hS : SWO lt) (d : Array α) (k : Nat) (hk : k + 1 < d.size) (h : lt d[k + 1]! d[k]! = true) : St lt d (swp d k (k + 1)) := by
  obtain ⟨X, U, V, Y, hd, hX, hU, hV⟩ := four_parts d k (k + 1) (k + 2) (by omega) (by omega) (by omega)
  obtain ⟨u, rfl⟩ : ∃ u, U = [u] := List.length_eq_one_iff.1 (by omega)
  obtain ⟨v, rfl⟩ : ∃ v, V = [v] := List.length_eq_one_iff.1 (by omega)
  have e := swp_list X [] Y u v k (k + 1) hX.symm (by simp [hX])
  simp only [List.nil_append] at e
  simp only [List.cons_append, List.nil_append] at hd
  have gu : d[k]! = u := by rw [hd, ← hX]; exact get_mid X u _
  have gv : d[k + 1]! = v := by
    have := get_mid (X ++ [u]) v Y
    rw [hd]
    simpa [hX] using this
  rw [gu, gv] at h
  rw [hd, e]
  have := st_swap hS X [u] [v] Y (by simpa using h)
  simpa using this
theorem st_adj' (hS : SWO lt) (d : Array α) (k : Nat) (hk : k + 1 < d.size) (h : lt d[k + 1]! d[k]! = true) : St lt d (swp d (k + 1) k) := by
  rw [swp_comm d hk (by omega)]; exact st_adj hS d k hk h

theorem st_insInner (hS : SWO lt) (a : Nat) : ∀ (j : Nat) (d : Array α), j < d.size → St lt d (insInner lt a j d)
  | 0, d, _ => St.refl _ _
  | j + 1, d, hj => by
    unfold insInner
    split
    · rename_i h
      rw [Bool.and_eq_true] at h
      exact (st_adj' hS d j hj h.2).trans (st_insInner hS a j _ (by rw [swp_size]; omega))
    · exact St.refl _ _
theorem st_insOuter (hS : SWO lt) (a b : Nat) : ∀ (n i : Nat) (d : Array α), b - i = n → b ≤ d.size → St lt d (insOuter lt a b i d)
  | 0, i, d, h, _ => by rw [insOuter, if_neg (by omega)]; exact St.refl _ _
  | n + 1, i, d, h, hb => by
    rw [insOuter, if_pos (by omega)]
    exact (st_insInner hS a i d (by omega)).trans (st_insOuter hS a b n (i + 1) _ (by omega) (by rw [size_insInner]; exact hb))
theorem st_insertion (hS : SWO lt) (a b : Nat) (d : Array α) (hb : b ≤ d.size) : St lt d (Sort.insertionSort lt d a b) := st_insOuter hS a b _ _ _ rfl hb

theorem sorted_one (hS : SWO lt) : ∀ (l1 l2 : List α), l1.Pairwise (fun x y => lt y x = false) → l2.Pairwise (fun x y => lt y x = false) → (∀ c, l1.filter (eqv lt c) = l2.filter (eqv lt c)) → l1 = l2
  | [], [], _, _, _ => rfl
  | [], y :: t, _, _, h => by
    have := h y
    have hy : eqv lt y y = true := by simp [eqv, hS.irrefl]
    rw [List.filter_cons, if_pos hy] at this
    simp at this
  | x :: t, [], _, _, h => by
    have := h x
    have hx : eqv lt x x = true := by simp [eqv, hS.irrefl]
    rw [List.filter_cons, if_pos hx] at this
    simp at this
  | x :: t1, y :: t2, h1, h2, h => by
    have hx : eqv lt x x = true := by simp [eqv, hS.irrefl]
    have hy : eqv lt y y = true := by simp [eqv, hS.irrefl]
    have low : ∀ (x y : α) (t1 t2 : List α), (y :: t2).Pairwise (fun x y => lt y x = false) → (x :: t1).filter (eqv lt x) = (y :: t2).filter (eqv lt x) → eqv lt x x = true → lt x y = false := fun x y t1 t2 h2 h hx => by
      have hm : x ∈ (y :: t2).filter (eqv lt x) := by rw [← h, List.filter_cons, if_pos hx]; simp
      rw [List.mem_filter, List.mem_cons] at hm
      rcases hm.1 with rfl | hm'
      · exact hS.irrefl _
      · exact (List.pairwise_cons.1 h2).1 x hm'
    have lxy := low x y t1 t2 h2 (h x) hx
    have lyx := low y x t2 t1 h1 (h y).symm hy
    have exy : eqv lt x y = true := by simp [eqv, lxy, lyx]
    have e := h x
    rw [List.filter_cons, if_pos hx, List.filter_cons, if_pos exy] at e
    obtain ⟨rfl, -⟩ := List.cons.inj e
    congr 1
    refine sorted_one hS t1 t2 (List.pairwise_cons.1 h1).2 (List.pairwise_cons.1 h2).2 (fun c => ?_)
    have e := h c
    rw [List.filter_cons, List.filter_cons] at e
    by_cases hc : eqv lt c x = true
    · rw [if_pos hc, if_pos hc] at e; exact (List.cons.inj e).2
    · rw [if_neg hc, if_neg hc] at e; exact e
theorem pairwise_of_sorted {d : Array α} (h : SortedIn lt 0 d.size d) : d.toList.Pairwise (fun x y => lt y x = false) := by
  rw [List.pairwise_iff_getElem]
  intro i j hi hj hij
  have := h i j (Nat.zero_le _) hij (by simpa using hj)
  rw [getElem!_pos d j (by simpa using hj), getElem!_pos d i (by simpa using hi)] at this
  simpa using this

theorem perm_swapRange {lo hi : Nat} : ∀ (n a b : Nat) (d : Array α), lo ≤ a → a + n ≤ hi → lo ≤ b → b + n ≤ hi → hi ≤ d.size → PermIn lo hi d (swapRange n a b d)
  | 0, _, _, d, _, _, _, _, _ => permIn_refl d lo hi
  | n + 1, a, b, d, h1, h2, h3, h4, h5 => by
    unfold swapRange
    exact permIn_trans _ _ _ lo hi (swp_permIn d lo hi a b h1 (by omega) h3 (by omega) h5) (perm_swapRange n (a + 1) (b + 1) _ (by omega) (by omega) (by omega) (by omega) (by rw [swp_size]; exact h5))
theorem perm_rotLoop {lo hi m : Nat} : ∀ (f i j : Nat) (d : Array α), lo + i ≤ m → m + j ≤ hi → hi ≤ d.size → PermIn lo hi d (rotLoop m f i j d)
  | 0, _, _, d, _, _, _ => permIn_refl d lo hi
  | f + 1, i, j, d, h1, h2, h3 => by
    unfold rotLoop
    split
    · exact perm_swapRange _ _ _ _ (by omega) (by omega) (by omega) (by omega) h3
    · split
      · exact permIn_trans _ _ _ lo hi (perm_swapRange j (m - i) m d (by omega) (by omega) (by omega) (by omega) h3) (perm_rotLoop f (i - j) j _ (by omega) h2 (by rw [size_swapRange]; exact h3))
      · exact permIn_trans _ _ _ lo hi (perm_swapRange i (m - i) (m + j - i) d (by omega) (by omega) (by omega) (by omega) h3) (perm_rotLoop f i (j - i) _ h1 (by omega) (by rw [size_swapRange]; exact h3))
theorem perm_smRot {lo hi st m e : Nat} (d : Array α) (h1 : lo ≤ st) (h2 : st ≤ m) (h3 : m ≤ e) (h4 : e ≤ hi) (h5 : hi ≤ d.size) : PermIn lo hi d (smRot m st e d) := by
  unfold smRot rotate
  split
  · exact perm_rotLoop _ _ _ _ (by omega) (by omega) h5
  · exact permIn_refl d lo hi
/-- What lies where behind a rotation (which may be none). -/
theorem smRot_get (d : Array α) (st m e : Nat) (h1 : st ≤ m) (h2 : m ≤ e) (h3 : e ≤ d.size) (i : Nat) :
    (smRot m st e d)[i]! = if i < st ∨ e ≤ i then d[i]! else if i < st + (e - m) then d[i + (m - st)]! else d[i - (e - m)]! := by
  unfold smRot
  by_cases h : st < m ∧ m < e
  · rw [if_pos h]
    obtain ⟨X, U, V, Y, hd, hX, hU, hV⟩ := four_parts d st m e h1 h2 h3
    have hr : rotate st m e d = ((X ++ (V ++ (U ++ Y))).toArray) := by
      rw [hd]; exact rotLoop_list _ X U V Y m _ _ hU hV (by omega) (by omega) (Nat.le_refl _) (by omega)
    rw [hr, hd]
    simp only [get_list]
    by_cases c1 : i < st
    · rw [if_pos (Or.inl c1), List.getElem?_append_left (by omega), List.getElem?_append_left (by omega)]
    · by_cases c2 : e ≤ i
      · rw [if_pos (Or.inr c2)]
        rw [List.getElem?_append_right (by omega), List.getElem?_append_right (by omega), List.getElem?_append_right (by omega), List.getElem?_append_right (by omega), List.getElem?_append_right (by omega), List.getElem?_append_right (by omega)]
        congr 2
        omega
      · rw [if_neg (by omega)]
        by_cases c3 : i < st + (e - m)
        · rw [if_pos c3, List.getElem?_append_right (by omega), List.getElem?_append_left (by omega), List.getElem?_append_right (by omega), List.getElem?_append_right (by omega), List.getElem?_append_left (by omega)]
          congr 2
          omega
        · rw [if_neg c3, List.getElem?_append_right (by omega), List.getElem?_append_right (by omega), List.getElem?_append_left (by omega), List.getElem?_append_right (by omega), List.getElem?_append_left (by omega)]
          congr 2
          omega
  · rw [if_neg h]
    by_cases c1 : i < st ∨ e ≤ i
    · rw [if_pos c1]
    · rw [if_neg c1]
      by_cases c3 : i < st + (e - m)
      · rw [if_pos c3, show i + (m - st) = i by omega]
      · rw [if_neg c3, show i - (e - m) = i by omega]
theorem st_smRot (hS : SWO lt) (d : Array α) (st m e : Nat) (h1 : st ≤ m) (h2 : m ≤ e) (h3 : e ≤ d.size) (hc : ∀ i j, st ≤ i → i < m → m ≤ j → j < e → lt d[j]! d[i]! = true) : St lt d (smRot m st e d) := by
  unfold smRot
  by_cases h : st < m ∧ m < e
  · rw [if_pos h]
    obtain ⟨X, U, V, Y, hd, hX, hU, hV⟩ := four_parts d st m e h1 h2 h3
    have hr : rotate st m e d = ((X ++ (V ++ (U ++ Y))).toArray) := by
      rw [hd]; exact rotLoop_list _ X U V Y m _ _ hU hV (by omega) (by omega) (Nat.le_refl _) (by omega)
    rw [hr]
    have hc' : ∀ u ∈ U, ∀ v ∈ V, lt v u = true := by
      intro u hu v hv
      obtain ⟨i, hi, rfl⟩ := List.mem_iff_getElem.1 hu
      obtain ⟨j, hj, rfl⟩ := List.mem_iff_getElem.1 hv
      have := hc (st + i) (m + j) (by omega) (by omega) (by omega) (by omega)
      have gi : d[st + i]! = U[i] := by
        rw [hd, get_list, List.getElem?_append_right (by omega), List.getElem?_append_left (by omega), show st + i - X.length = i by omega, List.getElem?_eq_getElem hi]; rfl
      have gj : d[m + j]! = V[j] := by
        rw [hd, get_list, List.getElem?_append_right (by omega), List.getElem?_append_right (by omega), List.getElem?_append_left (by omega), show m + j - X.length - U.length = j by omega, List.getElem?_eq_getElem hj]; rfl
      rw [gi, gj] at this
      exact this
    have := st_swap hS X U V Y hc'
    rw [← hd] at this
    exact this
  · rw [if_neg h]; exact St.refl _ _

theorem upMove_spec (hS : SWO lt) {lo hi : Nat} : ∀ (n a : Nat) (d : Array α), lo ≤ a → a + n < hi → hi ≤ d.size → (∀ k, a < k → k ≤ a + n → lt d[k]! d[a]! = true) →
    PermIn lo hi d (upMove n a d) ∧ St lt d (upMove n a d) ∧ ∀ k, (upMove n a d)[k]! = if k < a ∨ a + n < k then d[k]! else if k < a + n then d[k + 1]! else d[a]!
  | 0, a, d, h1, h2, h3, h => by
    unfold upMove
    refine ⟨permIn_refl d lo hi, St.refl _ _, fun k => ?_⟩
    split
    · rfl
    · split
      · omega
      · congr 1; omega
  | n + 1, a, d, h1, h2, h3, h => by
    unfold upMove
    have g := swp_get d (show a < d.size by omega) (show a + 1 < d.size by omega)
    obtain ⟨p, s, t⟩ := upMove_spec hS n (a + 1) (swp d a (a + 1)) (show lo ≤ a + 1 by omega) (show a + 1 + n < hi by omega) (by rw [swp_size]; exact h3) (fun k hk1 hk2 => by
      rw [g, g, if_pos rfl, if_neg (by omega), if_neg (by omega)]
      exact h k (by omega) (by omega))
    refine ⟨permIn_trans _ _ _ lo hi (swp_permIn d lo hi a (a + 1) h1 (by omega) (by omega) (by omega) h3) p, (st_adj hS d a (by omega) (h (a + 1) (by omega) (by omega))).trans s, fun k => ?_⟩
    rw [t k]
    simp only [g]
    by_cases c1 : k < a ∨ a + (n + 1) < k
    · rw [if_pos c1, if_pos (by omega), if_neg (by omega), if_neg (by omega)]
    · rw [if_neg c1]
      by_cases c2 : k = a
      · subst c2
        rw [if_pos (by omega), if_neg (by omega), if_pos rfl, if_pos (by omega)]
      · rw [if_neg (by omega)]
        by_cases c3 : k < a + (n + 1)
        · rw [if_pos (by omega), if_neg (by omega), if_neg (by omega), if_pos c3]
        · rw [if_neg (by omega), if_pos trivial, if_neg c3]
theorem downMove_spec (hS : SWO lt) {lo hi : Nat} : ∀ (n m : Nat) (d : Array α), lo + n ≤ m → m < hi → hi ≤ d.size → (∀ k, m - n ≤ k → k < m → lt d[m]! d[k]! = true) →
    PermIn lo hi d (downMove n m d) ∧ St lt d (downMove n m d) ∧ ∀ k, (downMove n m d)[k]! = if k < m - n ∨ m < k then d[k]! else if k = m - n then d[m]! else d[k - 1]!
  | 0, m, d, h1, h2, h3, h => by
    unfold downMove
    refine ⟨permIn_refl d lo hi, St.refl _ _, fun k => ?_⟩
    split
    · rfl
    · rw [if_pos (by omega)]; congr 1; omega
  | n + 1, m, d, h1, h2, h3, h => by
    unfold downMove
    have g := swp_get d (show m < d.size by omega) (show m - 1 < d.size by omega)
    obtain ⟨p, s, t⟩ := downMove_spec hS n (m - 1) (swp d m (m - 1)) (show lo + n ≤ m - 1 by omega) (show m - 1 < hi by omega) (by rw [swp_size]; exact h3) (fun k hk1 hk2 => by
      rw [g, g, if_pos rfl, if_neg (by omega), if_neg (by omega)]
      exact h k (by omega) (by omega))
    have hst : St lt d (swp d m (m - 1)) := by
      have := st_adj' hS d (m - 1) (by omega) (by rw [show m - 1 + 1 = m by omega]; exact h (m - 1) (by omega) (by omega))
      rw [show m - 1 + 1 = m by omega] at this
      exact this
    refine ⟨permIn_trans _ _ _ lo hi (swp_permIn d lo hi m (m - 1) (by omega) (by omega) (by omega) (by omega) h3) p, hst.trans s, fun k => ?_⟩
    rw [t k]
    simp only [g]
    by_cases c1 : k < m - (n + 1) ∨ m < k
    · rw [if_pos c1, if_pos (by omega), if_neg (by omega), if_neg (by omega)]
    · rw [if_neg c1]
      by_cases c2 : k = m
      · subst c2
        rw [if_pos (by omega), if_neg (by omega), if_pos rfl, if_neg (by omega)]
      · rw [if_neg (by omega)]
        by_cases c3 : k = m - (n + 1)
        · rw [if_pos (by omega), if_pos trivial, if_pos c3]
        · rw [if_neg (by omega), if_neg (by omega), if_neg (by omega), if_neg c3]

theorem smStart_spec (hS : SWO lt) {a m b : Nat} (d : Array α) (ham : a < m) (hmb : m < b) :
    a ≤ smStart lt a m b d ∧ smStart lt a m b d ≤ m ∧ smStart lt a m b d ≤ (a + b) / 2 ∧ (a + b) / 2 + m - smStart lt a m b d ≤ b ∧
    (smStart lt a m b d = a ∨ (a + b) / 2 + m - smStart lt a m b d = b ∨ lt d[(a + b) / 2 + m - smStart lt a m b d]! d[smStart lt a m b d - 1]! = false) ∧
    (smStart lt a m b d = (a + b) / 2 ∨ smStart lt a m b d = m ∨ lt d[(a + b) / 2 + m - smStart lt a m b d - 1]! d[smStart lt a m b d]! = true) := by
  by_cases hm : (a + b) / 2 < m
  · have hs := bsr_spec (fun c => !lt d[(a + b) / 2 + m - 1 - c]! d[c]!) _ ((a + b) / 2 + m - b) ((a + b) / 2) (Nat.le_refl _) (by omega)
    have e : smStart lt a m b d = bsr (fun c => !lt d[(a + b) / 2 + m - 1 - c]! d[c]!) ((a + b) / 2 + m - b) ((a + b) / 2) := by unfold smStart; rw [if_pos hm, if_pos hm]
    rw [← e] at hs
    generalize smStart lt a m b d = st at hs ⊢
    obtain ⟨h1, h2, h3, h4⟩ := hs
    refine ⟨by omega, by omega, h2, by omega, ?_, ?_⟩
    · by_cases h0 : st = (a + b) / 2 + m - b
      · right; left; omega
      · rcases h3 with h3 | h3
        · exact absurd h3 h0
        · right; right
          simp only [Bool.not_eq_true'] at h3
          rwa [show (a + b) / 2 + m - 1 - (st - 1) = (a + b) / 2 + m - st by omega] at h3
    · rcases h4 with h4 | h4
      · exact Or.inl h4
      · right; right
        simp only [Bool.not_eq_false'] at h4
        rwa [show (a + b) / 2 + m - 1 - st = (a + b) / 2 + m - st - 1 by omega] at h4
  · have hs := bsr_spec (fun c => !lt d[(a + b) / 2 + m - 1 - c]! d[c]!) _ a m (Nat.le_refl _) (by omega)
    have e : smStart lt a m b d = bsr (fun c => !lt d[(a + b) / 2 + m - 1 - c]! d[c]!) a m := by unfold smStart; rw [if_neg hm, if_neg hm]
    rw [← e] at hs
    generalize smStart lt a m b d = st at hs ⊢
    obtain ⟨h1, h2, h3, h4⟩ := hs
    refine ⟨h1, h2, by omega, by omega, ?_, ?_⟩
    · by_cases h0 : st = a
      · exact Or.inl h0
      · rcases h3 with h3 | h3
        · exact absurd h3 h0
        · right; right
          simp only [Bool.not_eq_true'] at h3
          rwa [show (a + b) / 2 + m - 1 - (st - 1) = (a + b) / 2 + m - st by omega] at h3
    · rcases h4 with h4 | h4
      · exact Or.inr (Or.inl h4)
      · right; right
        simp only [Bool.not_eq_false'] at h4
        rwa [show (a + b) / 2 + m - 1 - st = (a + b) / 2 + m - st - 1 by omega] at h4

theorem symMerge_law (hS : SWO lt) : ∀ (f a m b : Nat) (d : Array α), a < m → m < b → b ≤ d.size → b - a ≤ f → SortedIn lt a m d → SortedIn lt m b d →
    PermIn a b d (symMerge lt f a m b d) ∧ SortedIn lt a b (symMerge lt f a m b d) ∧ St lt d (symMerge lt f a m b d)
  | 0, a, m, b, d, ham, hmb, hb, hf, s1, s2 => by omega
  | f + 1, a, m, b, d, ham, hmb, hb, hf, s1, s2 => by
    unfold symMerge
    have le1 : ∀ i j, a ≤ i → i ≤ j → j < m → lt d[j]! d[i]! = false := fun i j h1 h2 h3 => by
      rcases Nat.lt_or_ge i j with h | h
      · exact s1 i j h1 h h3
      · obtain rfl : i = j := by omega
        exact hS.irrefl _
    have le2 : ∀ i j, m ≤ i → i ≤ j → j < b → lt d[j]! d[i]! = false := fun i j h1 h2 h3 => by
      rcases Nat.lt_or_ge i j with h | h
      · exact s2 i j h1 h h3
      · obtain rfl : i = j := by omega
        exact hS.irrefl _
    by_cases c1 : m - a = 1
    · rw [if_pos c1]
      obtain rfl : m = a + 1 := by omega
      obtain ⟨b1, b2, b3, b4⟩ := bsr_spec (fun h => lt d[h]! d[a]!) _ (a + 1) b (Nat.le_refl _) (by omega)
      generalize bsr (fun h => lt d[h]! d[a]!) (a + 1) b = i at b1 b2 b3 b4 ⊢
      have x1 : ∀ k, a < k → k < i → lt d[k]! d[a]! = true := fun k hk1 hk2 => by
        rcases b3 with b3 | b3
        · omega
        · exact lt_of_le_lt hS (le2 k (i - 1) (by omega) (by omega) (by omega)) b3
      have x2 : ∀ k, i ≤ k → k < b → lt d[k]! d[a]! = false := fun k hk1 hk2 => by
        rcases b4 with b4 | b4
        · omega
        · exact hS.ntrans _ _ _ (le2 i k (by omega) hk1 hk2) b4
      obtain ⟨p, s, t⟩ := upMove_spec hS (lo := a) (hi := b) (i - 1 - a) a d (Nat.le_refl _) (by omega) hb (fun k hk1 hk2 => x1 k hk1 (by omega))
      refine ⟨p, fun q r h1 h2 h3 => ?_, s⟩
      rw [t q, t r]
      by_cases cr : r < a ∨ a + (i - 1 - a) < r
      · rw [if_pos cr]
        by_cases cq : q < a ∨ a + (i - 1 - a) < q
        · rw [if_pos cq]; exact le2 q r (by omega) (by omega) h3
        · rw [if_neg cq]
          by_cases cq2 : q < a + (i - 1 - a)
          · rw [if_pos cq2]; exact le2 (q + 1) r (by omega) (by omega) h3
          · rw [if_neg cq2]; exact x2 r (by omega) h3
      · rw [if_neg cr]
        by_cases cr2 : r < a + (i - 1 - a)
        · rw [if_pos cr2, if_neg (by omega), if_pos (by omega)]; exact le2 (q + 1) (r + 1) (by omega) (by omega) (by omega)
        · rw [if_neg cr2, if_neg (by omega), if_pos (by omega)]; exact hS.asymmA (x1 (q + 1) (by omega) (by omega))
    · rw [if_neg c1]
      by_cases c2 : b - m = 1
      · rw [if_pos c2]
        obtain rfl : b = m + 1 := by omega
        obtain ⟨b1, b2, b3, b4⟩ := bsr_spec (fun h => !lt d[m]! d[h]!) _ a m (Nat.le_refl _) (by omega)
        generalize bsr (fun h => !lt d[m]! d[h]!) a m = i at b1 b2 b3 b4 ⊢
        simp only [Bool.not_eq_true', Bool.not_eq_false'] at b3 b4
        have x1 : ∀ k, i ≤ k → k < m → lt d[m]! d[k]! = true := fun k hk1 hk2 => by
          rcases b4 with b4 | b4
          · omega
          · exact lt_of_lt_le hS b4 (le1 i k (by omega) hk1 hk2)
        have x2 : ∀ k, a ≤ k → k < i → lt d[m]! d[k]! = false := fun k hk1 hk2 => by
          rcases b3 with b3 | b3
          · omega
          · exact hS.ntrans _ _ _ b3 (le1 k (i - 1) hk1 (by omega) (by omega))
        obtain ⟨p, s, t⟩ := downMove_spec hS (lo := a) (hi := m + 1) (m - i) m d (by omega) (by omega) hb (fun k hk1 hk2 => x1 k (by omega) hk2)
        refine ⟨p, fun q r h1 h2 h3 => ?_, s⟩
        rw [t q, t r]
        by_cases cq : q < m - (m - i) ∨ m < q
        · rw [if_pos cq]
          by_cases cr : r < m - (m - i) ∨ m < r
          · rw [if_pos cr]; exact le1 q r h1 (by omega) (by omega)
          · rw [if_neg cr]
            by_cases cr2 : r = m - (m - i)
            · rw [if_pos cr2]; exact x2 q h1 (by omega)
            · rw [if_neg cr2]; exact le1 q (r - 1) h1 (by omega) (by omega)
        · rw [if_neg cq, if_neg (by omega), if_neg (by omega)]
          by_cases cq2 : q = m - (m - i)
          · rw [if_pos cq2]; exact hS.asymmA (x1 (r - 1) (by omega) (by omega))
          · rw [if_neg cq2]; exact le1 (q - 1) (r - 1) (by omega) (by omega) (by omega)
      · rw [if_neg c2]
        dsimp only
        obtain ⟨p1, p2, p3, p4, p5, p6⟩ := smStart_spec hS d ham hmb
        generalize smStart lt a m b d = st at p1 p2 p3 p4 p5 p6 ⊢
        obtain ⟨mid, hmid⟩ : ∃ mid, (a + b) / 2 = mid := ⟨_, rfl⟩
        rw [hmid] at p3 p4 p5 p6 ⊢
        have ha1 : a < mid := by omega
        have hb1 : mid < b := by omega
        obtain ⟨e, he⟩ : ∃ e, mid + m - st = e := ⟨_, rfl⟩
        rw [he] at p4 p5 p6 ⊢
        have hme : m ≤ e := by omega
        have hV : e - m = mid - st := by omega
        -- what lies where
        have g := smRot_get d st m e p2 hme (by omega)
        have hstr : ∀ i j, st ≤ i → i < m → m ≤ j → j < e → lt d[j]! d[i]! = true := fun i j h1 h2 h3 h4 => by
          rcases p6 with p6 | p6 | p6
          · omega
          · omega
          · exact lt_of_lt_le hS (lt_of_le_lt hS (le2 j (e - 1) h3 (by omega) (by omega)) p6) (le1 st i p1 h1 h2)
        have hst1 := st_smRot hS d st m e p2 hme (by omega) hstr
        have hp1 := perm_smRot (lo := a) (hi := b) d p1 p2 hme p4 hb
        have hz1 : (smRot m st e d).size = d.size := size_smRot _ _ _ _
        generalize smRot m st e d = d1 at g hst1 hp1 hz1 ⊢
        have sA : SortedIn lt a st d1 := fun q r h1 h2 h3 => by rw [g, g, if_pos (by omega), if_pos (by omega)]; exact le1 q r h1 (by omega) (by omega)
        have sV : SortedIn lt st mid d1 := fun q r h1 h2 h3 => by rw [g, g, if_neg (by omega), if_pos (by omega), if_neg (by omega), if_pos (by omega)]; exact le2 _ _ (by omega) (by omega) (by omega)
        have sU : SortedIn lt mid e d1 := fun q r h1 h2 h3 => by rw [g, g, if_neg (by omega), if_neg (by omega), if_neg (by omega), if_neg (by omega)]; exact le1 _ _ (by omega) (by omega) (by omega)
        have sB : SortedIn lt e b d1 := fun q r h1 h2 h3 => by rw [g, g, if_pos (by omega), if_pos (by omega)]; exact le2 q r (by omega) (by omega) (by omega)
        have hx : ∀ i j, a ≤ i → i < mid → mid ≤ j → j < b → lt d1[j]! d1[i]! = false := fun i j h1 h2 h3 h4 => by
          rw [g i, g j]
          by_cases ci : i < st
          · rw [if_pos (Or.inl ci)]
            by_cases cj : e ≤ j
            · rw [if_pos (Or.inr cj)]
              rcases p5 with p5 | p5 | p5
              · omega
              · omega
              · exact hS.ntrans _ _ _ (hS.ntrans _ _ _ (le2 e j hme cj h4) p5) (le1 i (st - 1) h1 (by omega) (by omega))
            · rw [if_neg (by omega), if_neg (by omega)]; exact le1 _ _ h1 (by omega) (by omega)
          · by_cases cj : e ≤ j
            · rw [if_pos (show j < st ∨ e ≤ j from Or.inr cj), if_neg (show ¬ (i < st ∨ e ≤ i) by omega), if_pos (show i < st + (e - m) by omega)]; exact le2 _ _ (by omega) (by omega) h4
            · rw [if_neg (show ¬ (j < st ∨ e ≤ j) by omega), if_neg (show ¬ (j < st + (e - m)) by omega), if_neg (show ¬ (i < st ∨ e ≤ i) by omega), if_pos (show i < st + (e - m) by omega)]; exact hS.asymmA (hstr _ _ (by omega) (by omega) (by omega) (by omega))
        -- the left half
        have hL : ∃ d2, (if a < st ∧ st < mid then symMerge lt f a st mid d1 else d1) = d2 ∧ PermIn a mid d1 d2 ∧ SortedIn lt a mid d2 ∧ St lt d1 d2 := by
          by_cases cl : a < st ∧ st < mid
          · rw [if_pos cl]
            obtain ⟨x, y, z⟩ := symMerge_law hS f a st mid d1 cl.1 cl.2 (by omega) (by omega) sA sV
            exact ⟨_, rfl, x, y, z⟩
          · rw [if_neg cl]
            refine ⟨_, rfl, permIn_refl d1 a mid, ?_, St.refl _ _⟩
            by_cases hh : st = a
            · rw [hh] at sV; exact sV
            · obtain rfl : st = mid := by omega
              exact sA
        obtain ⟨d2, hd2, q1, q2, q3⟩ := hL
        rw [hd2]
        have hz2 : d2.size = d.size := q1.1.trans hz1
        have g2 : ∀ i, mid ≤ i → d2[i]! = d1[i]! := fun i hi => q1.2.1 i (Or.inr hi)
        have sU2 : SortedIn lt mid e d2 := fun q r h1 h2 h3 => by rw [g2 q h1, g2 r (by omega)]; exact sU q r h1 h2 h3
        have sB2 : SortedIn lt e b d2 := fun q r h1 h2 h3 => by rw [g2 q (by omega), g2 r (by omega)]; exact sB q r h1 h2 h3
        have hR : ∃ d3, (if mid < e ∧ e < b then symMerge lt f mid e b d2 else d2) = d3 ∧ PermIn mid b d2 d3 ∧ SortedIn lt mid b d3 ∧ St lt d2 d3 := by
          by_cases cl : mid < e ∧ e < b
          · rw [if_pos cl]
            obtain ⟨x, y, z⟩ := symMerge_law hS f mid e b d2 cl.1 cl.2 (by omega) (by omega) sU2 sB2
            exact ⟨_, rfl, x, y, z⟩
          · rw [if_neg cl]
            refine ⟨_, rfl, permIn_refl d2 mid b, ?_, St.refl _ _⟩
            by_cases hh : e = mid
            · rw [hh] at sB2; exact sB2
            · obtain rfl : e = b := by omega
              exact sU2
        obtain ⟨d3, hd3, r1, r2, r3⟩ := hR
        rw [hd3]
        refine ⟨permIn_trans _ _ _ a b hp1 (permIn_trans _ _ _ a b (permIn_mono d1 d2 a mid a b (Nat.le_refl _) (by omega) (by omega) q1) (permIn_mono d2 d3 mid b a b (by omega) (Nat.le_refl _) (by omega) r1)), ?_, hst1.trans (q3.trans r3)⟩
        have hx2 : ∀ i j, a ≤ i → i < mid → mid ≤ j → j < b → lt d2[j]! d2[i]! = false := fun i j h1 h2 h3 h4 => by
          rw [g2 j h3]
          exact permIn_all d1 d2 a mid (fun x => lt d1[j]! x = false) (by omega) q1 (fun i' h1' h2' => hx i' j h1' h2' h3 h4) i h1 h2
        have hx3 : ∀ i j, a ≤ i → i < mid → mid ≤ j → j < b → lt d3[j]! d3[i]! = false := fun i j h1 h2 h3 h4 => by
          rw [r1.2.1 i (Or.inl h2)]
          exact permIn_all d2 d3 mid b (fun x => lt x d2[i]! = false) (by omega) r1 (fun j' h1' h2' => hx2 i j' h1 h2 h1' h2') j h3 h4
        intro q r h1 h2 h3
        by_cases cq : q < mid
        · by_cases cr : r < mid
          · rw [r1.2.1 q (Or.inl cq), r1.2.1 r (Or.inl cr)]; exact q2 q r h1 h2 cr
          · exact hx3 q r h1 cq (by omega) h3
        · exact r2 q r (by omega) h2 h3

/-- Every block of s is sorted (up to n). -/
def Runs (lt : α → α → Bool) (s n : Nat) (d : Array α) : Prop := ∀ q, SortedIn lt (q * s) (min (q * s + s) n) d
theorem insBlocks_law (hS : SWO lt) (n : Nat) : ∀ (k q : Nat) (d : Array α), n - q * 20 ≤ k → n = d.size → (q * 20 ≤ n) → (∀ p, p < q → SortedIn lt (p * 20) (p * 20 + 20) d) →
    (insBlocks lt n (q * 20) d).size = d.size ∧ Runs lt 20 n (insBlocks lt n (q * 20) d) ∧ St lt d (insBlocks lt n (q * 20) d)
  | k, q, d, hk, hn, hq, h => by
    rw [insBlocks]
    by_cases c : q * 20 + 20 ≤ n
    · rw [if_pos c]
      obtain ⟨k, rfl⟩ : ∃ j, k = j + 1 := ⟨k - 1, by omega⟩
      obtain ⟨x1, x2⟩ := insertionSort_holds hS d (q * 20) (q * 20 + 20) (by omega) (by omega)
      have x3 := st_insertion hS (q * 20) (q * 20 + 20) d (by omega)
      have hz := size_insertion lt (q * 20) (q * 20 + 20) d
      generalize Sort.insertionSort lt d (q * 20) (q * 20 + 20) = d' at x1 x2 x3 hz ⊢
      obtain ⟨y1, y2, y3⟩ := insBlocks_law hS n k (q + 1) d' (by omega) (by omega) (by omega) (fun p hp => by
        by_cases e : p = q
        · subst e; exact x2
        · intro i j h1 h2 h3
          rw [x1.2.1 i (Or.inl (by omega)), x1.2.1 j (Or.inl (by omega))]
          exact h p (by omega) i j h1 h2 h3)
      rw [show (q + 1) * 20 = q * 20 + 20 by omega] at y1 y2 y3
      exact ⟨by omega, y2, x3.trans y3⟩
    · rw [if_neg c]
      obtain ⟨x1, x2⟩ := insertionSort_holds hS d (q * 20) n hq (by omega)
      have x3 := st_insertion hS (q * 20) n d (by omega)
      refine ⟨size_insertion _ _ _ _, fun p => ?_, x3⟩
      intro i j h1 h2 h3
      by_cases e : p = q
      · subst e; exact x2 i j h1 h2 (by omega)
      · have hpq : p < q := by omega
        rw [x1.2.1 i (Or.inl (by omega)), x1.2.1 j (Or.inl (by omega))]
        exact h p hpq i j h1 h2 (by omega)
theorem mergePass_law (hS : SWO lt) (s n : Nat) (hs : 0 < s) : ∀ (k q : Nat) (d : Array α), n - q * (s * 2) ≤ k → n = d.size → (∀ p, p < q → SortedIn lt (p * (s * 2)) (min (p * (s * 2) + s * 2) n) d) → (∀ p, q * 2 ≤ p → SortedIn lt (p * s) (min (p * s + s) n) d) →
    Runs lt (s * 2) n (mergePass lt s n (q * (s * 2)) d) ∧ St lt d (mergePass lt s n (q * (s * 2)) d)
  | k, q, d, hk, hn, h, h' => by
    have e1 : q * (s * 2) = q * 2 * s := by rw [Nat.mul_assoc, Nat.mul_comm 2 s]
    have e2 : (q * 2 + 1) * s = q * (s * 2) + s := by rw [Nat.add_mul, Nat.one_mul, e1]
    have e3 : (q + 1) * (s * 2) = q * (s * 2) + s * 2 := by rw [Nat.add_mul, Nat.one_mul]
    have hA := h' (q * 2) (Nat.le_refl _)
    have hB := h' (q * 2 + 1) (by omega)
    rw [← e1] at hA
    rw [e2] at hB
    have far : ∀ p, q + 1 ≤ p → q * (s * 2) + s * 2 ≤ p * (s * 2) := fun p hp => by rw [← e3]; exact Nat.mul_le_mul_right _ hp
    have far2 : ∀ p, (q + 1) * 2 ≤ p → q * (s * 2) + s * 2 ≤ p * s := fun p hp => by
      rw [← e3, show (q + 1) * (s * 2) = (q + 1) * 2 * s by rw [Nat.mul_assoc, Nat.mul_comm 2 s]]; exact Nat.mul_le_mul_right _ hp
    have near : ∀ p, p < q → p * (s * 2) + s * 2 ≤ q * (s * 2) := fun p hp => by
      have := Nat.mul_le_mul_right (s * 2) (show p + 1 ≤ q from hp)
      rwa [Nat.add_mul, Nat.one_mul] at this
    generalize hq0 : q * (s * 2) = a at hk h h' hA hB far far2 near e3 ⊢
    rw [mergePass]
    by_cases c : 0 < s ∧ a + 2 * s ≤ n
    · rw [if_pos c]
      obtain ⟨k, rfl⟩ : ∃ j, k = j + 1 := ⟨k - 1, by omega⟩
      have hA' : SortedIn lt a (a + s) d := by rw [Nat.min_eq_left (by omega)] at hA; exact hA
      have hB' : SortedIn lt (a + s) (a + 2 * s) d := by rw [Nat.min_eq_left (by omega), show a + s + s = a + 2 * s by omega] at hB; exact hB
      obtain ⟨x1, x2, x3⟩ := symMerge_law hS n a (a + s) (a + 2 * s) d (by omega) (by omega) (by omega) (by omega) hA' hB'
      generalize symMerge lt n a (a + s) (a + 2 * s) d = d' at x1 x2 x3 ⊢
      obtain ⟨y1, y2⟩ := mergePass_law hS s n hs k (q + 1) d' (by omega) (by rw [x1.1]; exact hn) (fun p hp => by
        by_cases e : p = q
        · subst e
          rw [hq0, Nat.min_eq_left (by omega), show a + s * 2 = a + 2 * s by omega]
          exact x2
        · have := near p (by omega)
          intro i j h1 h2 h3
          rw [x1.2.1 i (Or.inl (by omega)), x1.2.1 j (Or.inl (by omega))]
          exact h p (by omega) i j h1 h2 h3) (fun p hp => by
        have := far2 p hp
        intro i j h1 h2 h3
        rw [x1.2.1 i (Or.inr (by omega)), x1.2.1 j (Or.inr (by omega))]
        exact h' p (by omega) i j h1 h2 h3)
      rw [e3, show a + s * 2 = a + 2 * s by omega] at y1 y2
      exact ⟨y1, x3.trans y2⟩
    · rw [if_neg c]
      by_cases c2 : a + s < n
      · rw [if_pos c2]
        have hA' : SortedIn lt a (a + s) d := by rw [Nat.min_eq_left (by omega)] at hA; exact hA
        have hB' : SortedIn lt (a + s) n d := by rw [Nat.min_eq_right (by omega)] at hB; exact hB
        obtain ⟨x1, x2, x3⟩ := symMerge_law hS n a (a + s) n d (by omega) (by omega) (by omega) (by omega) hA' hB'
        refine ⟨fun p => ?_, x3⟩
        intro i j h1 h2 h3
        rcases Nat.lt_trichotomy p q with hp | hp | hp
        · have := near p hp
          rw [x1.2.1 i (Or.inl (by omega)), x1.2.1 j (Or.inl (by omega))]
          exact h p hp i j h1 h2 h3
        · subst hp
          rw [hq0] at h1 h3
          exact x2 i j h1 h2 (by omega)
        · have := far p hp
          omega
      · rw [if_neg c2]
        refine ⟨fun p => ?_, St.refl _ _⟩
        intro i j h1 h2 h3
        rcases Nat.lt_trichotomy p q with hp | hp | hp
        · exact h p hp i j h1 h2 h3
        · subst hp
          rw [hq0] at h1 h3
          exact hA i j h1 h2 (by omega)
        · have := far p hp
          omega
theorem mergeAll_law (hS : SWO lt) (n : Nat) : ∀ (k s : Nat) (d : Array α), n - s ≤ k → 0 < s → n = d.size → Runs lt s n d → SortedIn lt 0 n (mergeAll lt s n d) ∧ St lt d (mergeAll lt s n d) ∧ (mergeAll lt s n d).size = d.size
  | k, s, d, hk, hs, hn, h => by
    rw [mergeAll]
    by_cases c : 0 < s ∧ s < n
    · rw [if_pos c]
      obtain ⟨k, rfl⟩ : ∃ j, k = j + 1 := ⟨k - 1, by omega⟩
      obtain ⟨x1, x2⟩ := mergePass_law hS s n hs n 0 d (by omega) hn (fun p hp => absurd hp (Nat.not_lt_zero _)) (fun p _ => h p)
      rw [Nat.zero_mul] at x1 x2
      have x3 := size_mergePass lt s n n 0 d (by omega)
      obtain ⟨y1, y2, y3⟩ := mergeAll_law hS n k (s * 2) (mergePass lt s n 0 d) (by omega) (by omega) (by omega) x1
      exact ⟨y1, x2.trans y2, y3.trans x3⟩
    · rw [if_neg c]
      refine ⟨?_, St.refl _ _, rfl⟩
      have := h 0
      rw [Nat.zero_mul, Nat.zero_add, Nat.min_eq_right (by omega)] at this
      exact this
theorem stableSort_law (hS : SWO lt) (d : Array α) : SortedIn lt 0 d.size (stableSort lt d) ∧ St lt d (stableSort lt d) ∧ (stableSort lt d).size = d.size := by
  unfold stableSort
  obtain ⟨x1, x2, x3⟩ := insBlocks_law hS d.size d.size 0 d (by omega) rfl (by omega) (fun p hp => absurd hp (Nat.not_lt_zero _))
  rw [Nat.zero_mul] at x1 x2 x3
  obtain ⟨y1, y2, y3⟩ := mergeAll_law hS d.size d.size 20 _ (by omega) (by omega) x1.symm x2
  exact ⟨y1, x3.trans y2, y3.trans x1⟩
theorem stableSort_is (hS : SWO lt) (l : List α) : stableSort lt l.toArray = (stabl lt l).toArray := by
  cases l with
  | nil =>
    have := (stableSort_law hS (#[] : Array α)).2.2
    show stableSort lt #[] = #[]
    simpa using this
  | cons x r =>
    obtain ⟨a1, a2, a3⟩ := stableSort_law hS (x :: r).toArray
    have hi := insertionSort_list lt (x :: r) (by simp)
    have b1 := (insertionSort_holds hS (x :: r).toArray 0 (x :: r).length (by simp) (by simp)).2
    have b2 := st_insertion hS 0 (x :: r).length (x :: r).toArray (by simp)
    rw [hi] at b1 b2
    have hz : (stabl lt (x :: r)).toArray.size = (x :: r).length := by simpa using stabl_length lt (x :: r)
    have e : (stableSort lt (x :: r).toArray).toList = (stabl lt (x :: r)).toArray.toList := by
      refine sorted_one hS _ _ (pairwise_of_sorted (by rw [a3]; exact a1)) (pairwise_of_sorted (by rw [hz]; exact b1)) (fun c => ?_)
      rw [a2 c, b2 c]
    exact Array.toList_inj.1 e
theorem stabl_sorted (hS : SWO lt) (l : List α) : (stabl lt l).Pairwise (fun x y => lt y x = false) := by
  have h := (stableSort_law hS l.toArray).1
  have hz := (stableSort_law hS l.toArray).2.2
  rw [← hz] at h
  have := pairwise_of_sorted h
  rw [stableSort_is hS l] at this
  simpa using this
theorem stabl_st (hS : SWO lt) (l : List α) (c : α) : (stabl lt l).filter (eqv lt c) = l.filter (eqv lt c) := by
  have h := (stableSort_law hS l.toArray).2.1 c
  rw [stableSort_is hS l] at h
  simpa using h
end
end Go.Proofs.YtckekncllmhohaaGreat.G
namespace Go.Proofs.YtckekncllmhohaaGreat.Q
open Go.Shelf Go.RowKit Go.Lib Go.Sort Go.Proofs Go.Proofs.YtckekncllmhohaaGreat.G
set_option linter.all false

section
variable {α : Type} [Inhabited α]
theorem SWK_regrownZ {enc : α → List Value} {k : Nat} {w0 W : World} {blk off : Nat} {dk : Array α} (h : SWK enc k w0 blk off dk W) (hz : Hid (w0.drawn = 0)) (n : Nat) (os : Array Obj) : SWK enc k w0 blk off dk (grow (redrawn W n) os) := by
  obtain ⟨m, os0, rfl⟩ := h
  exact ⟨n, os0 ++ os, sortWorldK_regrown enc k w0 hz.out blk off m n dk os0 os⟩
theorem _root_.Go.Proofs.SWK.regrownZ {enc : α → List Value} {k : Nat} {w0 W : World} {blk off : Nat} {dk : Array α} (h : SWK enc k w0 blk off dk W) (hz : Hid (w0.drawn = 0)) (n : Nat) (os : Array Obj) : SWK enc k w0 blk off dk (grow (redrawn W n) os) := SWK_regrownZ h hz n os
theorem _root_.Go.Proofs.SWK.ldz {enc : α → List Value} {k : Nat} {w0 W : World} {blk off : Nat} {dk d0 : Array α} (h : SWK enc k w0 blk off dk W) (hz : Hid (w0.drawn = 0)) (R : RowK enc k w0 blk off d0) (hs : dk.size = d0.size) (P : Program) (i : Nat) (hi : i < dk.size) (n : Nat) (os : Array Obj) :
    Sem.run P (loadCellsFrom ⟨blk, off + i * k, none⟩ 0 k #[]) (grow (redrawn W n) os) = .ok (enc dk[i]!).toArray (grow (redrawn W n) os) := (SWK_regrownZ h hz n os).load R hs P i hi
theorem _root_.Go.Proofs.SWK.cmpz {P : Program} {g : Nat} {cb : Array Value} {cf : α → α → Int} {size : Nat} {enc : α → List Value} {k : Nat} {w0 W : World} {blk off : Nat} {dk : Array α} (h : SWK enc k w0 blk off dk W) (hz : Hid (w0.drawn = 0)) (hC : CmpBelow P g cb enc k cf blk off size w0) (hs : dk.size = size) (x y : α) (n : Nat) (os : Array Obj) :
    Calls P g (#[.agg (enc x).toArray, .agg (enc y).toArray] ++ cb) (grow (redrawn W n) os) fun e w' => e = .returned (.int .i64 (cf x y)) ∧ ∃ p : Regrown, w' = grow (redrawn W p.d) p.os :=
  Calls.regrown_of (hC dk _ hs (SWK_regrownZ h hz n os) x y)

/-- What the walks ask of the program. -/
structure SLays (P : Program) : Prop where
  mixed : P.follows .mixedOrders = true
  fIns : P.funcs[(66 : Nat)]? = some Tryz.f66
  fSwap : P.funcs[(107 : Nat)]? = some Tryz.f107
  fRot : P.funcs[(97 : Nat)]? = some Tryz.f97
  fSym : P.funcs[(67 : Nat)]? = some Tryz.f67
  fStable : P.funcs[(39 : Nat)]? = some Tryz.f39
  t3 : P.underlying 3 = some (TypeDesc.int IntKind.i64)
  a3 : ∀ w, (isAgg 3).run P w = .ok false w
  z3 : ∀ w, (Go.sizeOf 3).run P w = .ok 1 w
  v3 : ∀ w, (zeroValue 3).run P w = .ok (Value.int IntKind.i64 0) w
  tu : P.underlying 191 = some (TypeDesc.int IntKind.u64)
  t4 : P.underlying 4 = some TypeDesc.bool
  a4 : ∀ w, (isAgg 4).run P w = .ok false w
  z4 : ∀ w, (Go.sizeOf 4).run P w = .ok 1 w
  v4 : ∀ w, (zeroValue 4).run P w = .ok (Value.bool false) w
  t22 : P.underlying 22 = some (TypeDesc.slice 41)
  a22 : ∀ w, (isAgg 22).run P w = .ok false w
  z22 : ∀ w, (Go.sizeOf 22).run P w = .ok 1 w
  a25 : ∀ w, (isAgg 47).run P w = .ok false w
  z25 : ∀ w, (Go.sizeOf 47).run P w = .ok 1 w
def smL (lt : α → α → Bool) (f a st mid : Nat) (d : Array α) : Array α := if a < st ∧ st < mid then symMerge lt f a st mid d else d
theorem smL_pos {lt : α → α → Bool} {f a st mid : Nat} {d : Array α} (h : a < st ∧ st < mid) : smL lt f a st mid d = symMerge lt f a st mid d := if_pos h
theorem smL_neg {lt : α → α → Bool} {f a st mid : Nat} {d : Array α} (h : ¬ (a < st ∧ st < mid)) : smL lt f a st mid d = d := if_neg h
theorem size_smL (lt : α → α → Bool) (f a st mid : Nat) (d : Array α) : (smL lt f a st mid d).size = d.size := by
  unfold smL
  split
  · exact size_symMerge _ _ _ _ _ _
  · rfl
theorem rot_fuel (m : Nat) : ∀ (f f' i j : Nat) (d : Array α), i + j ≤ f → i + j ≤ f' → 0 < i → 0 < j → rotLoop m f i j d = rotLoop m f' i j d
  | 0, _, i, j, d, h, _, h1, h2 => by omega
  | f + 1, 0, i, j, d, _, h, h1, h2 => by omega
  | f + 1, f' + 1, i, j, d, h, h', h1, h2 => by
    rw [rotLoop, rotLoop]
    by_cases hij : i = j
    · rw [if_pos hij, if_pos hij]
    · rw [if_neg hij, if_neg hij]
      by_cases hji : j < i
      · rw [if_pos hji, if_pos hji]; exact rot_fuel m f f' _ _ _ (by omega) (by omega) (by omega) h2
      · rw [if_neg hji, if_neg hji]; exact rot_fuel m f f' _ _ _ (by omega) (by omega) h1 (by omega)
theorem bsr_true (p : Nat → Bool) {i j h : Nat} (hij : i < j) (hh : h = (i + j) / 2) (hp : p h = true) : bsr p i j = bsr p (h + 1) j := by rw [bsr, if_pos hij, ← hh, if_pos hp]
theorem bsr_false (p : Nat → Bool) {i j h : Nat} (hij : i < j) (hh : h = (i + j) / 2) (hp : p h = false) : bsr p i j = bsr p i h := by rw [bsr, if_pos hij, ← hh, if_neg (by simp [hp])]
theorem bsr_stop (p : Nat → Bool) (i : Nat) : bsr p i i = i := by rw [bsr, if_neg (Nat.lt_irrefl _)]
set_option maxHeartbeats 8000000 in
set_option maxRecDepth 1000000 in
/-- slices.swapRangeCmpFunc: n exchanges. -/
theorem swapRange_any {P : Program} (L : SLays P) (k : Nat) (aE : ∀ w, (isAgg 41).run P w = .ok true w) (zE : ∀ w, (Go.sizeOf 41).run P w = .ok k w) (enc : α → List Value) (cf : α → α → Int) (g : Nat) (cb : Array Value) (blk off cap : Nat) (d0 d : Array α) (w0 w : World)
    (R : RowK enc k w0 blk off d0) (hs : d0.size = d.size) (S0 : Aside (SWK enc k w0 blk off d w)) (hsz : d.size < 1000000000000) (a b n : Nat) (ha : a + n ≤ d.size) (hb : b + n ≤ d.size) :
    Calls P 107 #[.slice (some ⟨blk, off, none⟩) d.size cap, .int .i64 a, .int .i64 b, .int .i64 n, .func (.func g) #[] cb] w fun e w' => e = .returned (.tuple #[]) ∧ SWK enc k w0 blk off (swapRange n a b d) w' := by
  have mixed := L.mixed; have t3 := L.t3; have a3 := L.a3; have z3 := L.z3; have v3 := L.v3; have tu := L.tu; have t4 := L.t4; have a4 := L.a4; have z4 := L.z4; have v4 := L.v4; have t22 := L.t22; have a22 := L.a22; have z22 := L.z22; have a25 := L.a25; have z25 := L.z25; have u22 := run_underlying L.t22
  have FG := L.fSwap
  go_enter FG, Tryz.ntmps107
  go_wp2
  go_loopg [10] n (fun kx s10 wr => ∃ (i : Nat) (dk : Array α), s10 = .int .i64 i ∧ i ≤ n ∧ n - i ≤ kx ∧ dk.size = d.size ∧ Aside (SWK enc k w0 blk off dk wr) ∧ Hid (swapRange (n - i) (a + i) (b + i) dk = swapRange n a b d))
  case atStart => exact ⟨0, d, rfl, Nat.zero_le _, by omega, rfl, S0, rfl⟩
  case round =>
    clear S0
    obtain ⟨i, dk, rfl, hin, hkx, hds, S1, HE⟩ := hrel
    by_cases hlt : i < n
    · have hltz : (i : Int) < (n : Int) := by omega
      go_wp2_with fail
      have ea1 : ((a : Int) + (i : Int)).toNat = a + i := by omega
      have pa1 : (0 : Int) ≤ (a : Int) + (i : Int) := by omega
      have ba1 : (a : Int) + (i : Int) < (d.size : Int) := by omega
      have ra1 : IntKind.i64.wrap ((a : Int) + (i : Int)) = (a : Int) + (i : Int) := by rw [IntKind.wrap_i64]; omega
      have ec1 : ((b : Int) + (i : Int)).toNat = b + i := by omega
      have pc1 : (0 : Int) ≤ (b : Int) + (i : Int) := by omega
      have bc1 : (b : Int) + (i : Int) < (d.size : Int) := by omega
      have rc1 : IntKind.i64.wrap ((b : Int) + (i : Int)) = (b : Int) + (i : Int) := by rw [IntKind.wrap_i64]; omega
      have S2 : Aside (SWK enc k w0 blk off (swp dk (a + i) (b + i)) ((wr.drew.setCells blk (off + (a + i) * k) (enc dk[b + i]!)).setCells blk (off + (b + i) * k) (enc dk[a + i]!))) := S1.out.swapped R (a + i) (b + i) (by omega) (by omega)
      have l1a := S1.out.ld1 R (by omega) P (a + i) (by omega)
      have l1b := S1.out.ld1 R (by omega) P (b + i) (by omega)
      have s1a := S1.out.st1 R (by omega) P (a + i) (by omega) dk[b + i]!
      have s1b := S1.out.st2 R (by omega) P (a + i) (b + i) (by omega) (by omega) dk[b + i]! dk[a + i]!
      have n1a : (enc dk[a + i]!).length = k := R.hk _
      have n1b : (enc dk[b + i]!).length = k := R.hk _
      generalize enc dk[a + i]! = cI1 at S2 l1a s1b n1a
      generalize enc dk[b + i]! = cJ1 at S2 l1b s1a s1b n1b
      clear S1
      go_wp2_with fail
      go_big_region_o
      clear l1a l1b s1a s1b
      generalize (wr.drew.setCells blk (off + (a + i) * k) cJ1).setCells blk (off + (b + i) * k) cI1 = w2 at S2 ⊢
      go_wp2
      go_roundg (n - (i + 1))
      case measure => omega
      case rel =>
        refine ⟨i + 1, swp dk (a + i) (b + i), by go_num, by omega, Nat.le_refl _, by rw [size_swp]; exact hds, S2, (show Hid _ from ?_)⟩
        show _ = _
        rw [← HE.out, show n - i = (n - (i + 1)) + 1 by omega, swapRange]
        rfl
    · have hltz : ¬ (i : Int) < (n : Int) := by omega
      go_wp2
      go_end0
      refine ⟨rfl, ?_⟩
      have := HE.out
      rw [show n - i = 0 by omega, swapRange] at this
      rw [← this]
      exact S1.out
set_option maxHeartbeats 8000000 in
set_option maxRecDepth 1000000 in
/-- slices.rotateCmpFunc. -/
theorem rotate_any {P : Program} (L : SLays P) (k : Nat) (aE : ∀ w, (isAgg 41).run P w = .ok true w) (zE : ∀ w, (Go.sizeOf 41).run P w = .ok k w) (enc : α → List Value) (cf : α → α → Int) (g : Nat) (cb : Array Value) (blk off cap : Nat) (d0 d : Array α) (w0 w : World)
    (R : RowK enc k w0 blk off d0) (hs : d0.size = d.size) (S0 : Aside (SWK enc k w0 blk off d w)) (hsz : d.size < 1000000000000) (a m b : Nat) (ham : a < m) (hmb : m < b) (hb : b ≤ d.size) :
    Calls P 97 #[.slice (some ⟨blk, off, none⟩) d.size cap, .int .i64 a, .int .i64 m, .int .i64 b, .func (.func g) #[] cb] w fun e w' => e = .returned (.tuple #[]) ∧ SWK enc k w0 blk off (rotate a m b d) w' := by
  have mixed := L.mixed; have t3 := L.t3; have a3 := L.a3; have z3 := L.z3; have v3 := L.v3; have tu := L.tu; have t4 := L.t4; have a4 := L.a4; have z4 := L.z4; have v4 := L.v4; have t22 := L.t22; have a22 := L.a22; have z22 := L.z22; have a25 := L.a25; have z25 := L.z25; have u22 := run_underlying L.t22
  have FG := L.fRot
  have e29 : ∀ args w, (callFunc 107 args).run P w = .ok (.enter 107 args) w := enters_of L.fSwap (by kernel_rfl) rfl
  have HS : ∀ (x y n : Nat) (dk : Array α) (wk : World), dk.size = d.size → Aside (SWK enc k w0 blk off dk wk) → x + n ≤ d.size → y + n ≤ d.size → Calls P 107 #[.slice (some ⟨blk, off, none⟩) d.size cap, .int .i64 x, .int .i64 y, .int .i64 n, .func (.func g) #[] cb] wk fun e w' => e = .returned (.tuple #[]) ∧ SWK enc k w0 blk off (swapRange n x y dk) w' := fun x y n dk wk h1 h2 h3 h4 => by
    have := swapRange_any L k aE zE enc cf g cb blk off cap d0 dk w0 wk R (by omega) h2 (by omega) x y n (by omega) (by omega)
    rwa [h1] at this
  have HS' := Lib.hid HS
  clear HS
  go_enter FG, Tryz.ntmps97
  go_wp2
  go_loopg [10, 11] (b - a) (fun kx s10 s11 wr => ∃ (i j : Nat) (dk : Array α), s10 = .int .i64 i ∧ s11 = .int .i64 j ∧ 0 < i ∧ 0 < j ∧ a + i ≤ m ∧ m + j ≤ b ∧ i + j ≤ kx ∧ dk.size = d.size ∧ Aside (SWK enc k w0 blk off dk wr) ∧ Hid (∀ f, i + j ≤ f → rotLoop m f i j dk = rotate a m b d))
  case atStart => exact ⟨m - a, b - m, d, by first | rfl | (congr 1; omega), by first | rfl | (congr 1; omega), by omega, by omega, by omega, by omega, by omega, rfl, S0, (show Hid _ from fun f hf => rot_fuel m _ _ _ _ _ hf (Nat.le_refl _) (by omega) (by omega))⟩
  case round =>
    clear S0
    obtain ⟨i, j, dk, rfl, rfl, hi0, hj0, hai, hmj, hkx, hds, S1, HE⟩ := hrel
    by_cases hij : i = j
    · subst hij
      have hne : ((i : Int) != (i : Int)) = false := by simp
      have hmi : (m : Int) - (i : Int) = ((m - i : Nat) : Int) := by omega
      have HC1 := Lib.hid (HS'.out (m - i) m i dk wr hds S1 (by omega) (by omega))
      go_wp2_with fail
      refine HC1.out.mono ?_
      rintro e w1 ⟨rfl, S2⟩
      have S2' : Aside _ := S2
      clear S2
      go_wp2_with fail
      go_end0
      refine ⟨rfl, ?_⟩
      have := HE.out (i + i) (Nat.le_refl _)
      rw [← this, show i + i = (i + i - 1) + 1 by omega, rotLoop, if_pos rfl]
      exact S2'.out
    · have hne : ((i : Int) != (j : Int)) = true := by rw [bne_iff_ne]; omega
      by_cases hgt : j < i
      · have hgtz : (j : Int) < (i : Int) := by omega
        have hmi : (m : Int) - (i : Int) = ((m - i : Nat) : Int) := by omega
        have HC1 := Lib.hid (HS'.out (m - i) m j dk wr hds S1 (by omega) (by omega))
        go_wp2_with fail
        refine HC1.out.mono ?_
        rintro e w1 ⟨rfl, S2⟩
        have S2' : Aside _ := S2
        clear S2
        go_wp2
        go_roundg (i - j + j)
        case measure => omega
        case rel =>
          refine ⟨i - j, j, _, by first | rfl | (congr 1; omega), rfl, by omega, hj0, by omega, hmj, Nat.le_refl _, by rw [size_swapRange]; exact hds, S2', (show Hid _ from fun f hf => ?_)⟩
          rw [rot_fuel m f (f + i + j) _ _ _ hf (by omega) (by omega) hj0, ← HE.out (f + i + j + 1) (by omega), rotLoop, if_neg hij, if_pos hgt]
      · have hgtz : ¬ (j : Int) < (i : Int) := by omega
        have hmi : (m : Int) - (i : Int) = ((m - i : Nat) : Int) := by omega
        have hmi2 : (m : Int) + (j : Int) - (i : Int) = ((m + j - i : Nat) : Int) := by omega
        have HC1 := Lib.hid (HS'.out (m - i) (m + j - i) i dk wr hds S1 (by omega) (by omega))
        go_wp2_with fail
        refine HC1.out.mono ?_
        rintro e w1 ⟨rfl, S2⟩
        have S2' : Aside _ := S2
        clear S2
        go_wp2
        go_roundg (i + (j - i))
        case measure => omega
        case rel =>
          refine ⟨i, j - i, _, rfl, by first | rfl | (congr 1; omega), hi0, by omega, hai, by omega, Nat.le_refl _, by rw [size_swapRange]; exact hds, S2', (show Hid _ from fun f hf => ?_)⟩
          rw [rot_fuel m f (f + i + j) _ _ _ hf (by omega) hi0 (by omega), ← HE.out (f + i + j + 1) (by omega), rotLoop, if_neg hij, if_neg hgt]
theorem insertion_w {P : Program} (L : SLays P) (k : Nat) (aE : ∀ w, (isAgg 41).run P w = .ok true w) (zE : ∀ w, (Go.sizeOf 41).run P w = .ok k w) (enc : α → List Value) (cf : α → α → Int) (g : Nat) (cb : Array Value) (blk off cap : Nat) (d0 d : Array α) (w0 w : World)
    (eg : ∀ args w, (callFunc g args).run P w = .ok (.enter g args) w) (HC : Aside (CmpBelow P g cb enc k cf blk off d0.size w0)) (HZ : Hid (w0.drawn = 0)) (R : RowK enc k w0 blk off d0) (hs : d.size = d0.size) (S0 : Aside (SWK enc k w0 blk off d w)) (hsz : d0.size < 1000000000000) (a b : Nat) (hab : a ≤ b) (hb : b ≤ d0.size) :
    Calls P 66 #[.slice (some ⟨blk, off, none⟩) d0.size cap, .int .i64 a, .int .i64 b, .func (.func g) #[] cb] w fun e w' => e = .returned (.tuple #[]) ∧ SWK enc k w0 blk off (Sort.insertionSort (ltOf cf) d a b) w' := by
  have S' : SWK enc k w0 blk off d (redrawn w 0) := by have := S0.out.regrownZ HZ 0 #[]; rwa [grow_empty] at this
  have hc : CmpBelow P g cb enc k cf blk off d.size (redrawn w 0) := fun dk W h1 h2 => by
    obtain ⟨n, os, rfl⟩ := h2
    exact HC.out dk _ (by omega) (S'.on R.hblk n dk os h1)
  have h := insertionSort_any (P := P) L.mixed L.fIns L.t3 L.a3 L.z3 L.v3 L.t4 L.a4 L.z4 L.v4 L.t22 L.a22 L.z22 L.a25 L.z25 k aE zE enc R.hk R.h1 cf g cb blk off cap a b d w eg hc (S0.out.holds R.hblk R.hH (by omega)) (S0.out.lt R.hblk) hab (by omega) (by omega)
  rw [hs] at h
  refine h.mono ?_
  rintro e w' ⟨rfl, n, os, rfl⟩
  exact ⟨rfl, S'.on R.hblk n _ os (by rw [size_insertion])⟩

end
end Go.Proofs.YtckekncllmhohaaGreat.Q
namespace Go.Proofs.YtckekncllmhohaaGreat.Q
open Go.Shelf Go.RowKit Go.Lib Go.Sort Go.Proofs Go.Proofs.YtckekncllmhohaaGreat.G
set_option linter.all false

section
variable {α : Type} [Inhabited α]
set_option maxHeartbeats 8000000 in
set_option maxRecDepth 1000000 in
/-- slices.symMergeCmpFunc: one element on the left. -/
theorem symMerge_one {P : Program} (L : SLays P) (k : Nat) (aE : ∀ w, (isAgg 41).run P w = .ok true w) (zE : ∀ w, (Go.sizeOf 41).run P w = .ok k w) (enc : α → List Value) (cf : α → α → Int) (g : Nat) (cb : Array Value) (blk off cap : Nat) (d0 d : Array α) (w0 w : World)
    (eg : ∀ args w, (callFunc g args).run P w = .ok (.enter g args) w) (HC : Aside (CmpBelow P g cb enc k cf blk off d0.size w0)) (HZ : Hid (w0.drawn = 0)) (R : RowK enc k w0 blk off d0) (hs : d0.size = d.size) (S0 : Aside (SWK enc k w0 blk off d w)) (hsz : d.size < 1000000000000) (a m b : Nat) (ham : m = a + 1) (hmb : m < b) (hb : b ≤ d.size) :
    Calls P 67 #[.slice (some ⟨blk, off, none⟩) d.size cap, .int .i64 a, .int .i64 m, .int .i64 b, .func (.func g) #[] cb] w fun e w' => e = .returned (.tuple #[]) ∧ SWK enc k w0 blk off (upMove (bsr (fun h => ltOf cf d[h]! d[a]!) m b - 1 - a) a d) w' := by
  have mixed := L.mixed; have t3 := L.t3; have a3 := L.a3; have z3 := L.z3; have v3 := L.v3; have tu := L.tu; have t4 := L.t4; have a4 := L.a4; have z4 := L.z4; have v4 := L.v4; have t22 := L.t22; have a22 := L.a22; have z22 := L.z22; have a25 := L.a25; have z25 := L.z25; have u22 := run_underlying L.t22
  have FG := L.fSym
  subst ham
  have hq : (((a + 1 : Nat) : Int) - (a : Int) == 1) = true := beq_iff_eq.2 (by omega)
  have hcast : ((a + 1 : Nat) : Int) = (a : Int) + 1 := by omega
  rw [hcast] at hq ⊢
  clear hcast
  have hq' : ((a : Int) + 1 - (a : Int)) = 1 := by omega
  clear hq
  go_enter FG, Tryz.ntmps67
  go_wp2
  go_loopg [10, 11] (b - (a + 1)) (fun kx s10 s11 wr => ∃ (i j : Nat), s10 = .int .i64 i ∧ s11 = .int .i64 j ∧ a < i ∧ i ≤ j ∧ j ≤ b ∧ j - i ≤ kx ∧ Aside (SWK enc k w0 blk off d wr) ∧ Hid (bsr (fun h => ltOf cf d[h]! d[a]!) i j = bsr (fun h => ltOf cf d[h]! d[a]!) (a + 1) b))
  case atStart => exact ⟨a + 1, b, by first | rfl | go_num, rfl, by omega, by omega, Nat.le_refl _, Nat.le_refl _, S0, rfl⟩
  case round =>
    clear S0 hq'
    obtain ⟨i, j, rfl, rfl, hai, hij, hjb, hkx, S1, HE⟩ := hrel
    by_cases hlt : i < j
    · have hltz : (i : Int) < (j : Int) := by omega
      obtain ⟨h, hh⟩ : ∃ h : Nat, h = (i + j) / 2 := ⟨_, rfl⟩
      have h1 : i ≤ h := by omega
      have h2 : h < j := by omega
      have hz : ((i : Int) + (j : Int)) / 2 = (h : Int) := by omega
      have HH := Lib.hid hh
      clear hh
      cases hL : ltOf cf d[h]! d[a]! with
      | true =>
        have ea2 : ((h : Int)).toNat = h := by omega
        have pa2 : (0 : Int) ≤ (h : Int) := by omega
        have ba2 : (h : Int) < (d.size : Int) := by omega
        have ra2 : IntKind.i64.wrap ((h : Int)) = (h : Int) := by rw [IntKind.wrap_i64]; omega
        have ec2 : ((a : Int)).toNat = a := by omega
        have pc2 : (0 : Int) ≤ (a : Int) := by omega
        have bc2 : (a : Int) < (d.size : Int) := by omega
        have rc2 : IntKind.i64.wrap ((a : Int)) = (a : Int) := by rw [IntKind.wrap_i64]; omega
        obtain ⟨x2, hx2⟩ : ∃ x, x = d[h]! := ⟨_, rfl⟩
        obtain ⟨y2, hy2⟩ : ∃ x, x = d[a]! := ⟨_, rfl⟩
        have l2a := S1.out.ldz HZ R (by omega) P (h) (by omega)
        have l2b := S1.out.ldz HZ R (by omega) P (a) (by omega)
        rw [← hx2] at l2a
        rw [← hy2] at l2b
        have hc2 := S1.out.cmpz HZ HC.out (by omega) x2 y2
        have hv2 : cf x2 y2 < 0 := by rw [hx2, hy2]; exact of_decide_eq_true hL
        have hd2 : decide (cf x2 y2 < 0) = true := decide_eq_true hv2
        clear hx2 hy2
        go_wp2_with fail
        refine wp_region_quiet_below (by assumption) (by kernel_rfl) ?_
        repeat (quiet_step (first | (go_at_fn g; exact hc2 _ _)))
        refine wpQuiet_nil ?_
        intro _ hw'
        obtain ⟨⟨nq, osq⟩, hw''⟩ := hw'
        subst hw''
        have S2 : Aside (SWK enc k w0 blk off d (grow (redrawn wr nq) osq)) := S1.out.regrownZ HZ nq osq
        clear l2a l2b hc2 S1
        generalize grow (redrawn wr nq) osq = w2 at S2 ⊢
        clear nq osq
        go_wp2
        go_roundg (j - (h + 1))
        case measure => omega
        case rel =>
          refine ⟨h + 1, j, by first | rfl | go_num, rfl, by omega, by omega, hjb, Nat.le_refl _, S2, (show Hid _ from ?_)⟩
          show _ = _
          rw [← HE.out, bsr_true (fun h => ltOf cf d[h]! d[a]!) hlt HH.out hL]
      | false =>
        have ea3 : ((h : Int)).toNat = h := by omega
        have pa3 : (0 : Int) ≤ (h : Int) := by omega
        have ba3 : (h : Int) < (d.size : Int) := by omega
        have ra3 : IntKind.i64.wrap ((h : Int)) = (h : Int) := by rw [IntKind.wrap_i64]; omega
        have ec3 : ((a : Int)).toNat = a := by omega
        have pc3 : (0 : Int) ≤ (a : Int) := by omega
        have bc3 : (a : Int) < (d.size : Int) := by omega
        have rc3 : IntKind.i64.wrap ((a : Int)) = (a : Int) := by rw [IntKind.wrap_i64]; omega
        obtain ⟨x3, hx3⟩ : ∃ x, x = d[h]! := ⟨_, rfl⟩
        obtain ⟨y3, hy3⟩ : ∃ x, x = d[a]! := ⟨_, rfl⟩
        have l3a := S1.out.ldz HZ R (by omega) P (h) (by omega)
        have l3b := S1.out.ldz HZ R (by omega) P (a) (by omega)
        rw [← hx3] at l3a
        rw [← hy3] at l3b
        have hc3 := S1.out.cmpz HZ HC.out (by omega) x3 y3
        have hv3 : ¬ cf x3 y3 < 0 := by rw [hx3, hy3]; exact of_decide_eq_false hL
        have hd3 : decide (cf x3 y3 < 0) = false := decide_eq_false hv3
        clear hx3 hy3
        go_wp2_with fail
        refine wp_region_quiet_below (by assumption) (by kernel_rfl) ?_
        repeat (quiet_step (first | (go_at_fn g; exact hc3 _ _)))
        refine wpQuiet_nil ?_
        intro _ hw'
        obtain ⟨⟨nq, osq⟩, hw''⟩ := hw'
        subst hw''
        have S2 : Aside (SWK enc k w0 blk off d (grow (redrawn wr nq) osq)) := S1.out.regrownZ HZ nq osq
        clear l3a l3b hc3 S1
        generalize grow (redrawn wr nq) osq = w2 at S2 ⊢
        clear nq osq
        go_wp2
        go_roundg (h - i)
        case measure => omega
        case rel =>
          refine ⟨i, h, rfl, rfl, hai, h1, by omega, Nat.le_refl _, S2, (show Hid _ from ?_)⟩
          show _ = _
          rw [← HE.out, bsr_false (fun h => ltOf cf d[h]! d[a]!) hlt HH.out hL]
    · obtain rfl : i = j := by omega
      have hltz : ¬ (i : Int) < (i : Int) := by omega
      have HI : Hid (bsr (fun h => ltOf cf d[h]! d[a]!) (a + 1) b = i) := (show _ = _ from by rw [← HE.out, bsr_stop])
      clear HE
      go_wp2
      go_loopg [13] (i - 1 - a) (fun kx s13 wr2 => ∃ (q : Nat) (dk : Array α), s13 = .int .i64 q ∧ a ≤ q ∧ q ≤ i - 1 ∧ i - 1 - q ≤ kx ∧ dk.size = d.size ∧ Aside (SWK enc k w0 blk off dk wr2) ∧ Hid (upMove (i - 1 - q) q dk = upMove (i - 1 - a) a d))
      case atStart => exact ⟨a, d, rfl, Nat.le_refl _, by omega, Nat.le_refl _, rfl, S1, rfl⟩
      case round =>
        clear S1
        obtain ⟨q, dk, rfl, haq, hqi, hkx2, hds, S1, HE⟩ := hrel
        by_cases hlt : q < i - 1
        · have hqz : (q : Int) < (i : Int) - 1 := by omega
          go_wp2_with fail
          have ea4 : ((q : Int)).toNat = q := by omega
          have pa4 : (0 : Int) ≤ (q : Int) := by omega
          have ba4 : (q : Int) < (d.size : Int) := by omega
          have ra4 : IntKind.i64.wrap ((q : Int)) = (q : Int) := by rw [IntKind.wrap_i64]; omega
          have ec4 : ((q : Int) + 1).toNat = q + 1 := by omega
          have pc4 : (0 : Int) ≤ (q : Int) + 1 := by omega
          have bc4 : (q : Int) + 1 < (d.size : Int) := by omega
          have rc4 : IntKind.i64.wrap ((q : Int) + 1) = (q : Int) + 1 := by rw [IntKind.wrap_i64]; omega
          have S2 : Aside (SWK enc k w0 blk off (swp dk (q) (q + 1)) ((wr.drew.setCells blk (off + (q) * k) (enc dk[q + 1]!)).setCells blk (off + (q + 1) * k) (enc dk[q]!))) := S1.out.swapped R (q) (q + 1) (by omega) (by omega)
          have l4a := S1.out.ld1 R (by omega) P (q) (by omega)
          have l4b := S1.out.ld1 R (by omega) P (q + 1) (by omega)
          have s4a := S1.out.st1 R (by omega) P (q) (by omega) dk[q + 1]!
          have s4b := S1.out.st2 R (by omega) P (q) (q + 1) (by omega) (by omega) dk[q + 1]! dk[q]!
          have n4a : (enc dk[q]!).length = k := R.hk _
          have n4b : (enc dk[q + 1]!).length = k := R.hk _
          generalize enc dk[q]! = cI4 at S2 l4a s4b n4a
          generalize enc dk[q + 1]! = cJ4 at S2 l4b s4a s4b n4b
          clear S1
          go_wp2_with fail
          go_big_region_o
          clear l4a l4b s4a s4b
          generalize (wr.drew.setCells blk (off + (q) * k) cJ4).setCells blk (off + (q + 1) * k) cI4 = w2 at S2 ⊢
          go_wp2
          go_roundg (i - 1 - (q + 1))
          case measure => omega
          case rel =>
            refine ⟨q + 1, swp dk q (q + 1), by go_num, by omega, by omega, Nat.le_refl _, by rw [size_swp]; exact hds, S2, (show Hid _ from ?_)⟩
            show _ = _
            rw [← HE.out, show i - 1 - q = (i - 1 - (q + 1)) + 1 by omega, upMove]
        · have hqz : ¬ (q : Int) < (i : Int) - 1 := by omega
          go_wp2
          (try simp only [Exit.inBlock, Exit.then]); refine bodyPost_ret (results_none rfl _ _ _) rfl ?_
          refine ⟨rfl, ?_⟩
          have := HE.out
          rw [show i - 1 - q = 0 by omega, upMove] at this
          rw [HI.out, ← this]
          exact S1.out
set_option maxHeartbeats 8000000 in
set_option maxRecDepth 1000000 in
/-- slices.symMergeCmpFunc: one element on the right. -/
theorem symMerge_two {P : Program} (L : SLays P) (k : Nat) (aE : ∀ w, (isAgg 41).run P w = .ok true w) (zE : ∀ w, (Go.sizeOf 41).run P w = .ok k w) (enc : α → List Value) (cf : α → α → Int) (g : Nat) (cb : Array Value) (blk off cap : Nat) (d0 d : Array α) (w0 w : World)
    (eg : ∀ args w, (callFunc g args).run P w = .ok (.enter g args) w) (HC : Aside (CmpBelow P g cb enc k cf blk off d0.size w0)) (HZ : Hid (w0.drawn = 0)) (R : RowK enc k w0 blk off d0) (hs : d0.size = d.size) (S0 : Aside (SWK enc k w0 blk off d w)) (hsz : d.size < 1000000000000) (a m b : Nat) (ham : a + 1 < m) (hmb : b = m + 1) (hb : b ≤ d.size) :
    Calls P 67 #[.slice (some ⟨blk, off, none⟩) d.size cap, .int .i64 a, .int .i64 m, .int .i64 b, .func (.func g) #[] cb] w fun e w' => e = .returned (.tuple #[]) ∧ SWK enc k w0 blk off (downMove (m - bsr (fun h => !ltOf cf d[m]! d[h]!) a m) m d) w' := by
  have mixed := L.mixed; have t3 := L.t3; have a3 := L.a3; have z3 := L.z3; have v3 := L.v3; have tu := L.tu; have t4 := L.t4; have a4 := L.a4; have z4 := L.z4; have v4 := L.v4; have t22 := L.t22; have a22 := L.a22; have z22 := L.z22; have a25 := L.a25; have z25 := L.z25; have u22 := run_underlying L.t22
  have FG := L.fSym
  subst hmb
  have hq : ((m : Int) - (a : Int) == 1) = false := beq_eq_false_iff_ne.2 (by omega)
  have hq1 : ¬ ((m : Int) - (a : Int) = 1) := by omega
  have hcast : ((m + 1 : Nat) : Int) = (m : Int) + 1 := by omega
  rw [hcast]
  clear hcast
  have hq' : ((m : Int) + 1 - (m : Int)) = 1 := by omega
  go_enter FG, Tryz.ntmps67
  go_wp2
  go_loopg [14, 15] (m - a) (fun kx s14 s15 wr => ∃ (i j : Nat), s14 = .int .i64 i ∧ s15 = .int .i64 j ∧ a ≤ i ∧ i ≤ j ∧ j ≤ m ∧ j - i ≤ kx ∧ Aside (SWK enc k w0 blk off d wr) ∧ Hid (bsr (fun h => !ltOf cf d[m]! d[h]!) i j = bsr (fun h => !ltOf cf d[m]! d[h]!) a m))
  case atStart => exact ⟨a, m, rfl, rfl, Nat.le_refl _, by omega, Nat.le_refl _, Nat.le_refl _, S0, rfl⟩
  case round =>
    clear S0 hq' hq hq1
    obtain ⟨i, j, rfl, rfl, hai, hij, hjb, hkx, S1, HE⟩ := hrel
    by_cases hlt : i < j
    · have hltz : (i : Int) < (j : Int) := by omega
      obtain ⟨h, hh⟩ : ∃ h : Nat, h = (i + j) / 2 := ⟨_, rfl⟩
      have h1 : i ≤ h := by omega
      have h2 : h < j := by omega
      have hz : ((i : Int) + (j : Int)) / 2 = (h : Int) := by omega
      have HH := Lib.hid hh
      clear hh
      cases hL : ltOf cf d[m]! d[h]! with
      | true =>
        have ea5 : ((m : Int)).toNat = m := by omega
        have pa5 : (0 : Int) ≤ (m : Int) := by omega
        have ba5 : (m : Int) < (d.size : Int) := by omega
        have ra5 : IntKind.i64.wrap ((m : Int)) = (m : Int) := by rw [IntKind.wrap_i64]; omega
        have ec5 : ((h : Int)).toNat = h := by omega
        have pc5 : (0 : Int) ≤ (h : Int) := by omega
        have bc5 : (h : Int) < (d.size : Int) := by omega
        have rc5 : IntKind.i64.wrap ((h : Int)) = (h : Int) := by rw [IntKind.wrap_i64]; omega
        obtain ⟨x5, hx5⟩ : ∃ x, x = d[m]! := ⟨_, rfl⟩
        obtain ⟨y5, hy5⟩ : ∃ x, x = d[h]! := ⟨_, rfl⟩
        have l5a := S1.out.ldz HZ R (by omega) P (m) (by omega)
        have l5b := S1.out.ldz HZ R (by omega) P (h) (by omega)
        rw [← hx5] at l5a
        rw [← hy5] at l5b
        have hc5 := S1.out.cmpz HZ HC.out (by omega) x5 y5
        have hv5 : cf x5 y5 < 0 := by rw [hx5, hy5]; exact of_decide_eq_true hL
        have hd5 : decide (cf x5 y5 < 0) = true := decide_eq_true hv5
        clear hx5 hy5
        go_wp2_with fail
        refine wp_region_quiet_below (by assumption) (by kernel_rfl) ?_
        repeat (quiet_step (first | (go_at_fn g; exact hc5 _ _)))
        refine wpQuiet_nil ?_
        intro _ hw'
        obtain ⟨⟨nq, osq⟩, hw''⟩ := hw'
        subst hw''
        have S2 : Aside (SWK enc k w0 blk off d (grow (redrawn wr nq) osq)) := S1.out.regrownZ HZ nq osq
        clear l5a l5b hc5 S1
        generalize grow (redrawn wr nq) osq = w2 at S2 ⊢
        clear nq osq
        go_wp2
        go_roundg (h - i)
        case measure => omega
        case rel =>
          refine ⟨i, h, rfl, rfl, hai, h1, by omega, Nat.le_refl _, S2, (show Hid _ from ?_)⟩
          show _ = _
          rw [← HE.out, bsr_false (fun h => !ltOf cf d[m]! d[h]!) hlt HH.out (by simp only [hL, Bool.not_true])]
      | false =>
        have ea6 : ((m : Int)).toNat = m := by omega
        have pa6 : (0 : Int) ≤ (m : Int) := by omega
        have ba6 : (m : Int) < (d.size : Int) := by omega
        have ra6 : IntKind.i64.wrap ((m : Int)) = (m : Int) := by rw [IntKind.wrap_i64]; omega
        have ec6 : ((h : Int)).toNat = h := by omega
        have pc6 : (0 : Int) ≤ (h : Int) := by omega
        have bc6 : (h : Int) < (d.size : Int) := by omega
        have rc6 : IntKind.i64.wrap ((h : Int)) = (h : Int) := by rw [IntKind.wrap_i64]; omega
        obtain ⟨x6, hx6⟩ : ∃ x, x = d[m]! := ⟨_, rfl⟩
        obtain ⟨y6, hy6⟩ : ∃ x, x = d[h]! := ⟨_, rfl⟩
        have l6a := S1.out.ldz HZ R (by omega) P (m) (by omega)
        have l6b := S1.out.ldz HZ R (by omega) P (h) (by omega)
        rw [← hx6] at l6a
        rw [← hy6] at l6b
        have hc6 := S1.out.cmpz HZ HC.out (by omega) x6 y6
        have hv6 : ¬ cf x6 y6 < 0 := by rw [hx6, hy6]; exact of_decide_eq_false hL
        have hd6 : decide (cf x6 y6 < 0) = false := decide_eq_false hv6
        clear hx6 hy6
        go_wp2_with fail
        refine wp_region_quiet_below (by assumption) (by kernel_rfl) ?_
        repeat (quiet_step (first | (go_at_fn g; exact hc6 _ _)))
        refine wpQuiet_nil ?_
        intro _ hw'
        obtain ⟨⟨nq, osq⟩, hw''⟩ := hw'
        subst hw''
        have S2 : Aside (SWK enc k w0 blk off d (grow (redrawn wr nq) osq)) := S1.out.regrownZ HZ nq osq
        clear l6a l6b hc6 S1
        generalize grow (redrawn wr nq) osq = w2 at S2 ⊢
        clear nq osq
        go_wp2
        go_roundg (j - (h + 1))
        case measure => omega
        case rel =>
          refine ⟨h + 1, j, by first | rfl | go_num, rfl, by omega, by omega, hjb, Nat.le_refl _, S2, (show Hid _ from ?_)⟩
          show _ = _
          rw [← HE.out, bsr_true (fun h => !ltOf cf d[m]! d[h]!) hlt HH.out (by simp only [hL, Bool.not_false])]
    · obtain rfl : i = j := by omega
      have hltz : ¬ (i : Int) < (i : Int) := by omega
      have HI : Hid (bsr (fun h => !ltOf cf d[m]! d[h]!) a m = i) := (show _ = _ from by rw [← HE.out, bsr_stop])
      clear HE
      go_wp2
      go_loopg [17] (m - i) (fun kx s17 wr2 => ∃ (q : Nat) (dk : Array α), s17 = .int .i64 q ∧ i ≤ q ∧ q ≤ m ∧ q - i ≤ kx ∧ dk.size = d.size ∧ Aside (SWK enc k w0 blk off dk wr2) ∧ Hid (downMove (q - i) q dk = downMove (m - i) m d))
      case atStart => exact ⟨m, d, rfl, hjb, Nat.le_refl _, Nat.le_refl _, rfl, S1, rfl⟩
      case round =>
        clear S1
        obtain ⟨q, dk, rfl, hiq, hqm, hkx2, hds, S1, HE⟩ := hrel
        by_cases hlt : i < q
        · have hqz : (i : Int) < (q : Int) := by omega
          go_wp2_with fail
          have ea7 : ((q : Int)).toNat = q := by omega
          have pa7 : (0 : Int) ≤ (q : Int) := by omega
          have ba7 : (q : Int) < (d.size : Int) := by omega
          have ra7 : IntKind.i64.wrap ((q : Int)) = (q : Int) := by rw [IntKind.wrap_i64]; omega
          have ec7 : ((q : Int) - 1).toNat = q - 1 := by omega
          have pc7 : (0 : Int) ≤ (q : Int) - 1 := by omega
          have bc7 : (q : Int) - 1 < (d.size : Int) := by omega
          have rc7 : IntKind.i64.wrap ((q : Int) - 1) = (q : Int) - 1 := by rw [IntKind.wrap_i64]; omega
          have S2 : Aside (SWK enc k w0 blk off (swp dk (q) (q - 1)) ((wr.drew.setCells blk (off + (q) * k) (enc dk[q - 1]!)).setCells blk (off + (q - 1) * k) (enc dk[q]!))) := S1.out.swapped R (q) (q - 1) (by omega) (by omega)
          have l7a := S1.out.ld1 R (by omega) P (q) (by omega)
          have l7b := S1.out.ld1 R (by omega) P (q - 1) (by omega)
          have s7a := S1.out.st1 R (by omega) P (q) (by omega) dk[q - 1]!
          have s7b := S1.out.st2 R (by omega) P (q) (q - 1) (by omega) (by omega) dk[q - 1]! dk[q]!
          have n7a : (enc dk[q]!).length = k := R.hk _
          have n7b : (enc dk[q - 1]!).length = k := R.hk _
          generalize enc dk[q]! = cI7 at S2 l7a s7b n7a
          generalize enc dk[q - 1]! = cJ7 at S2 l7b s7a s7b n7b
          clear S1
          go_wp2_with fail
          go_big_region_o
          clear l7a l7b s7a s7b
          generalize (wr.drew.setCells blk (off + (q) * k) cJ7).setCells blk (off + (q - 1) * k) cI7 = w2 at S2 ⊢
          go_wp2
          go_roundg (q - 1 - i)
          case measure => omega
          case rel =>
            refine ⟨q - 1, swp dk q (q - 1), by first | rfl | (congr 1; omega), by omega, by omega, Nat.le_refl _, by rw [size_swp]; exact hds, S2, (show Hid _ from ?_)⟩
            show _ = _
            rw [← HE.out, show q - i = (q - 1 - i) + 1 by omega, downMove]
        · have hqz : ¬ (i : Int) < (q : Int) := by omega
          go_wp2
          (try simp only [Exit.inBlock, Exit.then]); refine bodyPost_ret (results_none rfl _ _ _) rfl ?_
          refine ⟨rfl, ?_⟩
          have := HE.out
          rw [show q - i = 0 by omega, downMove] at this
          rw [HI.out, ← this]
          exact S1.out
end
end Go.Proofs.YtckekncllmhohaaGreat.Q
