/- What leads to LotNumbers: the functions' contracts and the plain laws under them. -/
import Derived.BigQuiet
import Derived.Deep.Cut
import Derived.Deep.DrawnRows
import Derived.Deep.LoopGhost
import Derived.Deep.RegionHeld3
import Derived.KernelRfl
import Derived.Lib.QuietBelow
import Derived.Lib.Walk
import Derived.Outline
import Derived.OwnWalk
import Derived.Test.YtckekncllmhohaaGreatProg
import Derived.WalkKit
import Derived.Test.YtckekncllmhohaaGreatVLotNumbers0
import Derived.Test.YtckekncllmhohaaGreatBLotNumbers0
import Derived.Test.YtckekncllmhohaaGreatBLotNumbers1
import Derived.Test.YtckekncllmhohaaGreatBLotNumbers2
import Derived.Test.YtckekncllmhohaaGreatBLotNumbers3
import Derived.Test.YtckekncllmhohaaGreatBLotNumbers4
import Derived.Test.YtckekncllmhohaaGreatBLotNumbers5
import Derived.Test.YtckekncllmhohaaGreatBLotNumbers6
namespace Go.Proofs.YtckekncllmhohaaGreat.Ap
open Go.RowKit Go.Sort Go.Lib Go.Proofs
set_option linter.all false
attribute [local go_sem ↓] Go.wp_at_zero Go.wp_at_succ

noncomputable def zLots : Value := ((Tryz.prog.info? 41).bind (fun i => i.zero)).getD Go.undef
theorem infoLots : (Tryz.prog.info? 41).map (fun i => (i.zero, i.size, i.bytes)) = some (some zLots, 6, 56) := by kernel_rfl
theorem zoneLots : zLots.cells.toList.all Value.oneCell' = true := by kernel_rfl
theorem infoSLots : (Tryz.prog.info? 22).map (fun i => (i.zero, i.size, i.bytes)) = some (some (.slice none 0 0), 1, 24) := by kernel_rfl

set_option maxHeartbeats 4000000 in
set_option maxRecDepth 100000 in
theorem flatLots_any (enc : Int → Int → List Value) (hK : ∀ k i, (enc k i).length = 6) (h1 : ∀ k i, ∀ u ∈ enc k i, u.oneCell' = true)
    (hmark : ∀ (k i : Int) (W : World), Calls Tryz.prog 23 #[.int .i64 k, .int .i64 i] W fun e w' => e = .returned (.agg (enc k i).toArray) ∧ Below W.heap.size W w')
    (ev : Nat → Int → Int → Value) (hev : ∀ k i, enc k i = [ev 0 k i, ev 1 k i, ev 2 k i, ev 3 k i, ev 4 k i, ev 5 k i])
    (heq : ∀ (k i : Int) (W : World), (binOp .eql 41 (.agg #[ev 0 k i, ev 1 k i, ev 2 k i, ev 3 k i, ev 4 k i, ev 5 k i]) (.agg #[ev 0 k i, ev 1 k i, ev 2 k i, ev 3 k i, ev 4 k i, ev 5 k i])).run Tryz.prog W = .ok (.bool true) W)
    (hbt : ∀ (k i : Int), Tryz.prog.builtSlice 41 1 [(0, .agg (enc k i).toArray)] = some (enc k i).toArray)
    (m G capG B : Nat) (cG : Array Value) (v : Nat → Value) (n : Nat → Nat) (w : World)
    (hG : w.heap[G]? = some (.cells cG 22 (0, 0))) (hv : ∀ k, k < m → cG[k]? = some (v k)) (hown : ∀ k, k < m → ∃ xs, ownW w B 41 6 (v k) (n k) xs)
    (hap : ∀ j k, j < m → k < m → j ≠ k → ∀ b, (v j).ownBlock = some b → (v k).ownBlock ≠ some b) (hn : ∀ k, k < m → n k ≤ 1000000000) (hm : m ≤ 1000000000) (hB : B ≤ w.heap.size) :
    Calls Tryz.prog 49 #[.slice (some ⟨G, 0, none⟩) m capG] w fun e w' => e = .returned (.bool true) ∧ Bt B 41 w w' := by
  have HK := Lib.hid hK
  have H1 := Lib.hid h1
  have HM := Lib.hid hmark
  have HEQ := Lib.hid heq
  have HBT := Lib.hid hbt
  have HEV := Lib.hid hev
  have HV := Lib.hid hv
  have HAP := Lib.hid hap
  have HN := Lib.hid hn
  have HP0 : Hid (∀ j, j < m → Mk enc 6 w B 41 (v j) (n j) (j : Int) (pr n 0 0 j)) := fun j hj => by
    obtain ⟨xs, hx⟩ := hown j hj
    have : pr n 0 0 j = 0 := by unfold pr; rw [if_neg (by omega)]; split <;> rfl
    rw [this]
    exact Mk.zero hx _
  have HG0 := Lib.hid hG
  have HBB := Lib.hid hB
  clear hK h1 hmark heq hbt hev hv hap hn hown hG hB
  go_enter Tryz.func49, Tryz.ntmps49
  go_wp2_with fail
  go_loopg [3] m (fun kx s3 wr => ∃ k : Nat, s3 = .int .i64 k ∧ k ≤ m ∧ Hid (m ≤ k + kx) ∧ Hid (∀ j, j < m → Mk enc 6 wr B 41 (v j) (n j) (j : Int) (pr n k 0 j)) ∧ Hid (wr.heap[G]? = some (.cells cG 22 (0, 0))) ∧ Hid (Bt B 41 w wr) ∧ Hid (B ≤ wr.heap.size))
  case atStart => exact ⟨0, rfl, Nat.zero_le _, Lib.hid (by omega), HP0, HG0, Lib.hid (Bt.refl _ _ _), HBB⟩
  case round =>
    obtain ⟨k, rfl, hkm, HKX, HP, HGr, HBr, HBs⟩ := hrel
    by_cases hk : k < m
    · have hkz : (k : Int) < (m : Int) := by omega
      have HKK := Lib.hid hk
      have hnk := HN.out k hk
      obtain ⟨A, c, hvk, hnc, hA⟩ := (HP.out k hk).own.choose_spec.slice
      have HVK := Lib.hid hvk
      have HA := Lib.hid hA
      clear hk hvk hA
      go_wp2_with fail
      go_loopg [4] (n k) (fun kx s4 wi => ∃ i : Nat, s4 = .int .i64 i ∧ i ≤ n k ∧ Hid (n k ≤ i + kx) ∧ Hid (∀ j, j < m → Mk enc 6 wi B 41 (v j) (n j) (j : Int) (pr n k i j)) ∧ Hid (wi.heap[G]? = some (.cells cG 22 (0, 0))) ∧ Hid (Bt B 41 w wi) ∧ Hid (B ≤ wi.heap.size))
      case atStart => exact ⟨0, rfl, Nat.zero_le _, Lib.hid (by omega), HP, HGr, HBr, HBs⟩
      case round =>
        clear HP HGr HBr HBs
        obtain ⟨i, rfl, hin, HIX, HP, HGr, HBr, HBs⟩ := hrel
        have hcell : wr.cell? ⟨G, k, none⟩ = some (.slice A (n k) c) := cell_hd HGr.out ((HV.out k HKK.out).trans (congrArg some HVK.out))
        by_cases hi : i < n k
        · have hiz : (i : Int) < (n k : Int) := by omega
          obtain ⟨g, hg⟩ := HA.out (by omega)
          subst hg
          have HII := Lib.hid hi
          clear hi
          have hi0 : (0 : Int) ≤ (i : Int) := by omega
          have hlE : (enc (k : Int) (i : Int)).length = 6 := HK.out _ _
          have hGg : G ≠ g := by
            rintro rfl
            obtain ⟨xs, hx⟩ := (HP.out k HKK.out).own
            obtain ⟨cur, hcur⟩ := hx.typed (g := G) (by rw [HVK.out]; simp [Value.ownBlock])
            rw [HGr.out] at hcur
            simp at hcur
          have hMk := HP.out k HKK.out
          rw [pr_at, HVK.out] at hMk
          have HMK := Lib.hid hMk
          clear hMk
          go_wp2_with fail
          go_region_held3 (fun w' => w'.cell? ⟨G, k, none⟩ = some (.slice (some ⟨g, 0, none⟩) (n k) c)) (first | go_keep | (rw [hb.cell (p := ⟨G, k, none⟩) (World.block_lt_of_cell? _ _ hcell)]; exact hcell) | (rw [World.cell?_setCells_out _ _ _ _ _ (fun e => absurd e hGg)]; go_keep)) ((go_at_call 23; refine (HM.out (k : Int) (i : Int) _).mono ?_; rintro e w' ⟨rfl, hb0⟩; have hb : Below wr.heap.size wr w' := ⟨hb0.os, hb0.tape, hb0.output, hb0.size, hb0.block⟩; clear hb0; have hst := (HMK.out.below (w' := w') hb).stores Tryz.prog i HII.out (enc (k : Int) (i : Int)) (HK.out _ _) (H1.out _ _)))
          have HP2 := Lib.hid (fam_store (w1 := w') (p' := pr n k (i + 1)) HK.out HP.out HAP.out HKK.out HVK.out HII.out (pr_at n k i) (pr_at n k (i + 1)) (fun j hj => pr_ne hj) hb)
          have HG2 := Lib.hid ((setCells_other w' g (enc (k : Int) (i : Int)) (i * 6) G hGg).trans ((hb.block G (Array.getElem?_eq_some_iff.1 HGr.out).1).trans HGr.out))
          have hgB : B ≤ g := ((HMK.out.own.choose_spec).lt g (by simp [Value.ownBlock])).1
          have HB2 := Lib.hid (Bt.grown (Bt.on HBr.out HBs.out hb) (setCells_grown w' g (enc (k : Int) (i : Int)) (i * 6)) (Nat.le_trans HBs.out hb.size) (fun b hb2 => by simp only [Option.some.injEq] at hb2; omega) (fun b hb2 => by simp only [Option.some.injEq] at hb2; subst hb2; exact (HMK.out.below hb).typed (by simp [Value.ownBlock])))
          have HS2 := Lib.hid (Nat.le_trans (Nat.le_trans HBs.out hb.size) (setCells_grown w' g (enc (k : Int) (i : Int)) (i * 6)).size)
          generalize w'.setCells g (i * 6) (enc (k : Int) (i : Int)) = w2 at HP2 HG2 HB2 HS2 ⊢
          clear hst hb hgB hcell hlE hGg HMK
          go_wp2_with fail
          go_roundg (n k - (i + 1))
          case measure => have := HIX.out; have := HII.out; omega
          case rel => exact ⟨i + 1, by go_num, HII.out, Lib.hid (by have := HII.out; omega), HP2, HG2, HB2, HS2⟩
        · have hiz : ¬ (i : Int) < (n k : Int) := by omega
          obtain rfl : i = n k := by omega
          clear hi
          go_wp2_with fail
          go_roundg (m - (k + 1))
          case measure => have := HKX.out; have := HKK.out; omega
          case rel => exact ⟨k + 1, by go_num, HKK.out, Lib.hid (by have := HKK.out; omega), Lib.hid (fun j hj => by rw [pr_next]; exact HP.out j hj), HGr, HBr, HBs⟩
    · have hkz : ¬ (k : Int) < (m : Int) := by omega
      obtain rfl : m = k := by omega
      clear hk
      have HF : Hid (∀ j, j < m → Mk enc 6 wr B 41 (v j) (n j) (j : Int) (n j)) := Lib.hid fun j hj => by have := HP.out j hj; rwa [pr_lt hj] at this
      clear HP HKX HG0 HBB HP0 hkz hkm
      obtain ⟨iS, hiS, hzS, hsS, hbS⟩ := info_parts infoSLots
      go_wp2_with (first | (at_make; refine wpList_make_full _ rfl _ _ 33 rfl B 22 iS _ 1 Tryz.underlying33 hiS hzS hsS .i64 .i64 _ _ m rfl rfl rfl rfl (by rw [hbS]; omega) (by simp only [maxLen]; omega) HBs.out ?_))
      intro w1 hH hg1
      have HH1 : Hid (Hd w1 B 22 wr.heap.size m v 0) := Lib.hid ⟨_, ownW_of hH, fun j hj => by omega⟩
      have HF1 : Hid (Fam enc 6 w1 B 41 m v n v (fun j => n j + pr (fun _ => 64) 0 0 j) (fun j => n j + pr (fun _ => 64) 0 0 j)) := Lib.hid (((Fam.start HF.out HAP.out).none hg1).congr (fun j => by rw [pr_zero]; rfl) (fun j => by rw [pr_zero]; rfl))
      have HG1 : Hid (w1.heap[G]? = some (.cells cG 22 (0, 0))) := Lib.hid ((hg1.block G (Array.getElem?_eq_some_iff.1 HGr.out).1 (by simp)).trans HGr.out)
      have HB1 := Lib.hid (Bt.grown HBr.out hg1 HBs.out (fun _ h => by cases h) (fun _ h => by cases h))
      have HS1 := Lib.hid (Nat.le_trans HBs.out hg1.size)
      have HGH : Hid (G ≠ wr.heap.size) := Lib.hid (fun e => by have := (Array.getElem?_eq_some_iff.1 HGr.out).1; omega)
      have HWH : Hid (w.heap.size ≤ wr.heap.size) := Lib.hid HBr.out.below.size
      clear hH hg1 hiS hzS hsS hbS HF HGr HBr HBs
      generalize wr.heap.size = H at HH1 HGH HWH ⊢
      go_wp2_with fail
      go_loopg [6] m (fun kx s6 wr => ∃ (k : Nat) (u : Nat → Value), s6 = .int .i64 k ∧ k ≤ m ∧ Hid (m ≤ k + kx) ∧ Hid (Fam enc 6 wr B 41 m v n u (fun j => n j + pr (fun _ => 64) k 0 j) (fun j => n j + pr (fun _ => 64) k 0 j)) ∧ Hid (∀ j, k ≤ j → j < m → u j = v j) ∧ Hid (wr.heap[G]? = some (.cells cG 22 (0, 0))) ∧ Hid (Hd wr B 22 H m u k) ∧ Hid (Bt B 41 w wr) ∧ Hid (B ≤ wr.heap.size))
      case atStart => exact ⟨0, v, rfl, Nat.zero_le _, Lib.hid (by omega), HF1, Lib.hid (fun _ _ _ => rfl), HG1, HH1, HB1, HS1⟩
      case round =>
        clear HF1 HG1 HH1 HB1 HS1
        obtain ⟨k, u, rfl, hkm, HKX, HP, HUV, HGr, HHr, HBr, HBs⟩ := hrel
        by_cases hk : k < m
        · have hkz : (k : Int) < (m : Int) := by omega
          have HKK := Lib.hid hk
          have hnk := HN.out k hk
          obtain ⟨A, c, hvk, hnc, hA⟩ := (HP.out.rows k hk).own.choose_spec.slice
          have HVK := Lib.hid hvk
          have hcell : wr.cell? ⟨G, k, none⟩ = some (v k) := cell_hd HGr.out (HV.out k hk)
          clear hk hvk hA
          go_wp2_with fail
          go_loopg [7, 8] 64 (fun kx s7 s8 wi => ∃ (i : Nat) (u : Nat → Value), s7 = u k ∧ s8 = .int .i64 i ∧ i ≤ 64 ∧ Hid (64 ≤ i + kx) ∧ Hid (Fam enc 6 wi B 41 m v n u (fun j => n j + pr (fun _ => 64) k i j) (fun j => n j + pr (fun _ => 64) k i j)) ∧ Hid (∀ j, k < j → j < m → u j = v j) ∧ Hid (wi.heap[G]? = some (.cells cG 22 (0, 0))) ∧ Hid (Hd wi B 22 H m u k) ∧ Hid (Bt B 41 w wi) ∧ Hid (B ≤ wi.heap.size))
          case atStart => exact ⟨0, u, (HUV.out k (Nat.le_refl _) HKK.out).symm, rfl, Nat.zero_le _, Lib.hid (by omega), HP, Lib.hid (fun j hj hjm => HUV.out j (by omega) hjm), HGr, HHr, HBr, HBs⟩
          case round =>
            clear HP HUV HGr HHr HBr HBs hcell
            obtain ⟨i, u, rfl, rfl, hin, HIX, HP, HUV, HGr, HHr, HBr, HBs⟩ := hrel
            by_cases hi : i < 64
            · have hiz : (i : Int) < 64 := by omega
              have hcell : wr.cell? ⟨G, k, none⟩ = some (.slice A (n k) c) := cell_hd HGr.out ((HV.out k HKK.out).trans (congrArg some HVK.out))
              have hcast : ((n k + i : Nat) : Int) = (n k : Int) + (i : Int) := Int.natCast_add _ _
              have hown := (HP.out.own k HKK.out)
              simp only [pr_at] at hown
              have hown := hown.whole
              have HOW := Lib.hid hown
              clear hown
              go_wp2_with (first | (go_at_call 23; refine (HM.out _ _ _).mono ?_; rintro e w' ⟨rfl, hb0⟩) | ((with_reducible refine gate_bs _ _ #[(0, .tmp 66)] rfl ?_); go_loud (refine wpList_build1 rfl 22 41 (.tmp 66) rfl Tryz.underlying22 w'.heap.size rfl (enc _ _) rfl (HBT.out _ _) ?_)) | ((with_reducible refine gate_ap #[.tmp 57, .tmp 67] _ rfl ?_); go_loud (refine wpList_grow_fam _ rfl (.tmp 57) (.tmp 67) 22 rfl Tryz.underlying22 zLots 56 infoLots (by kernel_rfl) (by decide) HP.out HAP.out HKK.out (u k) (.inl rfl) (n k + i) (Nat.le_add_right _ _) (marks enc (k : Int) (n k + i)) rfl HOW.out (Below.alloc hb0 hb0.size _) ⟨w'.heap.size, 0, none⟩ 1 1 (enc (k : Int) ((n k : Int) + (i : Int))) rfl (by rw [HK.out, Nat.one_mul]) (new_cell _ _ _) (H1.out _ _) (by decide) (by simp only [maxLen]; omega) (by omega) HBs.out (n k + i + 1) (marks_take_next HK.out _ _ _ hcast.symm) ?_)))
              intro v' w2 hF2 hb2 hs2 hsame
              have HF2 := Lib.hid (hF2.congr (l' := fun j => n j + pr (fun _ => 64) k (i + 1) j) (q' := fun j => n j + pr (fun _ => 64) k (i + 1) j) (slots_next n k i) (slots_next n k i))
              have HG2 := Lib.hid ((hsame G 22 cG (by decide) HGr.out).trans HGr.out)
              obtain ⟨cH, hcH⟩ := HHr.out.typed
              have HH2 := Lib.hid ((HHr.out.same (hsame H 22 cH (by decide) hcH)).congr (u' := fun j => if j = k then v' else u j) (fun j hj => if_neg (by omega)))
              have HB2 := Lib.hid (Bt.append HBr.out hb2 hsame)
              have HS2 := Lib.hid hs2
              have HU2 : Hid (∀ j, k < j → j < m → (if j = k then v' else u j) = v j) := Lib.hid (fun j hj hjm => (if_neg (by omega)).trans (HUV.out j hj hjm))
              clear hF2 hb2 hs2 hsame hcH hb0 HOW hcast hcell
              go_wp2_with fail
              go_roundg (64 - (i + 1))
              case measure => have := HIX.out; omega
              case rel => exact ⟨i + 1, fun j => if j = k then v' else u j, (if_pos rfl).symm, by go_num, hi, Lib.hid (by omega), HF2, HU2, HG2, HH2, HB2, HS2⟩
            · have hiz : ¬ (i : Int) < 64 := by omega
              obtain rfl : i = 64 := by omega
              have hown := (HP.out.own k HKK.out).own.choose_spec
              obtain ⟨A', c', huk, -, -⟩ := hown.slice
              rw [pr_at] at huk
              rw [huk]
              have HUK := Lib.hid huk
              obtain ⟨x0, hx0, hfz⟩ := HHr.out.old HKK.out
              clear hown huk
              go_wp2_with fail
              obtain ⟨cH, hcH⟩ := HHr.out.typed
              have HF2 := Lib.hid ((HP.out.aside hcH (by decide) (setCell_grown wr H k (.slice A' (n k + 64) c'))).congr (l' := fun j => n j + pr (fun _ => 64) (k + 1) 0 j) (q' := fun j => n j + pr (fun _ => 64) (k + 1) 0 j) (slots_step n k) (slots_step n k))
              have HG2 := Lib.hid ((Below.heap_setCell wr ⟨H, k, none⟩ (.slice A' (n k + 64) c') G HGH.out).trans HGr.out)
              have HH2 := Lib.hid (HHr.out.store1 (k' := k + 1) (u' := u) HKK.out HUK.out (fun j hj hjk => ⟨by omega, rfl⟩))
              have HB2 := Lib.hid (HBr.out.setCell (i := k) HHr.out.lt.1 HWH.out (.slice A' (n k + 64) c'))
              have HS2 := Lib.hid (Nat.le_trans HBs.out (setCell_grown wr H k (.slice A' (n k + 64) c')).size)
              go_roundg (m - (k + 1))
              case measure => have := HKX.out; have := HKK.out; omega
              case rel => exact ⟨k + 1, u, by go_num, HKK.out, Lib.hid (by have := HKK.out; omega), HF2, Lib.hid (fun j hj hjm => HUV.out j (by omega) hjm), HG2, HH2, HB2, HS2⟩
        · have hkz : ¬ (k : Int) < (m : Int) := by omega
          obtain rfl : m = k := by omega
          clear hk hkm HKX hkz HUV
          have HF3 := Lib.hid (HP.out.congrm (l' := fun j => n j + 64) (q' := fun j => n j + 64) (fun j hj => (slots_all (m := m) n m j hj).symm) (fun j hj => (slots_all (m := m) n m j hj).symm))
          clear HP
          go_wp2_with fail
          go_loopg [9] m (fun kx s9 wr => ∃ (k : Nat), s9 = .int .i64 k ∧ k ≤ m ∧ Hid (m ≤ k + kx) ∧ Hid (Fam enc 6 wr B 41 m v n u (fun j => n j + 64) (fun j => n j + 64)) ∧ Hid (wr.heap[G]? = some (.cells cG 22 (0, 0))) ∧ Hid (Hd wr B 22 H m u m) ∧ Hid (Bt B 41 w wr) ∧ Hid (B ≤ wr.heap.size))
          case atStart => exact ⟨0, rfl, Nat.zero_le _, Lib.hid (by omega), HF3, HGr, HHr, HBr, HBs⟩
          case round =>
            clear HF3 HGr HHr HBr HBs
            obtain ⟨k, rfl, hkm, HKX, HP, HGr, HHr, HBr, HBs⟩ := hrel
            by_cases hk : k < m
            · have hkz : (k : Int) < (m : Int) := by omega
              have HKK := Lib.hid hk
              have hnk := HN.out k hk
              obtain ⟨A, c, hvk, hnc, hA⟩ := (HP.out.rows k hk).own.choose_spec.slice
              have HVK := Lib.hid hvk
              have HA := Lib.hid hA
              obtain ⟨A', c', huk, hnc', hA'⟩ := (HP.out.own k hk).own.choose_spec.slice
              obtain ⟨g', rfl⟩ := hA' (by omega)
              have HUK := Lib.hid huk
              clear hk hvk hA huk hA'
              go_wp2_with fail
              go_loopg [10] (n k + 64) (fun kx s10 wr => ∃ (i : Nat), s10 = .int .i64 i ∧ i ≤ n k + 64 ∧ Hid (n k + 64 ≤ i + kx) ∧ Hid (Fam enc 6 wr B 41 m v n u (fun j => n j + 64) (fun j => n j + 64)) ∧ Hid (wr.heap[G]? = some (.cells cG 22 (0, 0))) ∧ Hid (Hd wr B 22 H m u m) ∧ Hid (Bt B 41 w wr) ∧ Hid (B ≤ wr.heap.size))
              case atStart => exact ⟨0, rfl, Nat.zero_le _, Lib.hid (by omega), HP, HGr, HHr, HBr, HBs⟩
              case round =>
                clear HP HGr HHr HBr HBs
                obtain ⟨i, rfl, hin, HIX, HP, HGr, HHr, HBr, HBs⟩ := hrel
                have hcG : wr.cell? ⟨G, k, none⟩ = some (.slice A (n k) c) := cell_hd HGr.out ((HV.out k HKK.out).trans (congrArg some HVK.out))
                have hcH : wr.cell? ⟨H, k, none⟩ = some (.slice (some ⟨g', 0, none⟩) (n k + 64) c') := (HHr.out.cell HKK.out).trans (congrArg some HUK.out)
                by_cases hi : i < n k + 64
                · have hiz : (i : Int) < (n k : Int) + 64 := by omega
                  have hi0 : (0 : Int) ≤ (i : Int) := by omega
                  have hMu := HP.out.own k HKK.out
                  rw [HUK.out] at hMu
                  have p0 : ∀ d os, (grow (redrawn wr d) os).cell? ⟨g', i * 6, none⟩ = some (ev 0 (k : Int) (i : Int)) := fun d os => cell_regrown (hMu.cell HK.out (t := i) (c := 0) (by omega) (by decide) (u := ev 0 (k : Int) (i : Int)) (by rw [HEV.out]; rfl)) d os
                  have p1 : ∀ d os, (grow (redrawn wr d) os).cell? ⟨g', i * 6 + 1, none⟩ = some (ev 1 (k : Int) (i : Int)) := fun d os => cell_regrown (hMu.cell HK.out (t := i) (c := 1) (by omega) (by decide) (u := ev 1 (k : Int) (i : Int)) (by rw [HEV.out]; rfl)) d os
                  have p2 : ∀ d os, (grow (redrawn wr d) os).cell? ⟨g', i * 6 + 2, none⟩ = some (ev 2 (k : Int) (i : Int)) := fun d os => cell_regrown (hMu.cell HK.out (t := i) (c := 2) (by omega) (by decide) (u := ev 2 (k : Int) (i : Int)) (by rw [HEV.out]; rfl)) d os
                  have p3 : ∀ d os, (grow (redrawn wr d) os).cell? ⟨g', i * 6 + 3, none⟩ = some (ev 3 (k : Int) (i : Int)) := fun d os => cell_regrown (hMu.cell HK.out (t := i) (c := 3) (by omega) (by decide) (u := ev 3 (k : Int) (i : Int)) (by rw [HEV.out]; rfl)) d os
                  have p4 : ∀ d os, (grow (redrawn wr d) os).cell? ⟨g', i * 6 + 4, none⟩ = some (ev 4 (k : Int) (i : Int)) := fun d os => cell_regrown (hMu.cell HK.out (t := i) (c := 4) (by omega) (by decide) (u := ev 4 (k : Int) (i : Int)) (by rw [HEV.out]; rfl)) d os
                  have p5 : ∀ d os, (grow (redrawn wr d) os).cell? ⟨g', i * 6 + 5, none⟩ = some (ev 5 (k : Int) (i : Int)) := fun d os => cell_regrown (hMu.cell HK.out (t := i) (c := 5) (by omega) (by decide) (u := ev 5 (k : Int) (i : Int)) (by rw [HEV.out]; rfl)) d os
                  have hmk : ∀ d os, Calls Tryz.prog 23 #[.int .i64 (k : Int), .int .i64 (i : Int)] (grow (redrawn wr d) os) fun e w'' => e = .returned (.agg #[ev 0 (k : Int) (i : Int), ev 1 (k : Int) (i : Int), ev 2 (k : Int) (i : Int), ev 3 (k : Int) (i : Int), ev 4 (k : Int) (i : Int), ev 5 (k : Int) (i : Int)]) ∧ ∃ q : Regrown, w'' = grow (redrawn wr q.d) q.os := fun d os => Calls.regrown_of ((HM.out (k : Int) (i : Int) _).mono fun e w' hh => ⟨by rw [hh.1, HEV.out], hh.2⟩)
                  have hse := HEQ.out (k : Int) (i : Int)
                  have kG := fun d os => cell_regrown hcG d os
                  have kH := fun d os => cell_regrown hcH d os
                  by_cases hin2 : i < n k
                  · have hd : decide ((i : Int) < (n k : Int)) = true := decide_eq_true (by omega)
                    obtain ⟨g, hg⟩ := HA.out (by omega)
                    subst hg
                    have hMv := HP.out.rows k HKK.out
                    rw [HVK.out] at hMv
                    have q0 : ∀ d os, (grow (redrawn wr d) os).cell? ⟨g, i * 6, none⟩ = some (ev 0 (k : Int) (i : Int)) := fun d os => cell_regrown (hMv.cell HK.out (t := i) (c := 0) (by omega) (by decide) (u := ev 0 (k : Int) (i : Int)) (by rw [HEV.out]; rfl)) d os
                    have q1 : ∀ d os, (grow (redrawn wr d) os).cell? ⟨g, i * 6 + 1, none⟩ = some (ev 1 (k : Int) (i : Int)) := fun d os => cell_regrown (hMv.cell HK.out (t := i) (c := 1) (by omega) (by decide) (u := ev 1 (k : Int) (i : Int)) (by rw [HEV.out]; rfl)) d os
                    have q2 : ∀ d os, (grow (redrawn wr d) os).cell? ⟨g, i * 6 + 2, none⟩ = some (ev 2 (k : Int) (i : Int)) := fun d os => cell_regrown (hMv.cell HK.out (t := i) (c := 2) (by omega) (by decide) (u := ev 2 (k : Int) (i : Int)) (by rw [HEV.out]; rfl)) d os
                    have q3 : ∀ d os, (grow (redrawn wr d) os).cell? ⟨g, i * 6 + 3, none⟩ = some (ev 3 (k : Int) (i : Int)) := fun d os => cell_regrown (hMv.cell HK.out (t := i) (c := 3) (by omega) (by decide) (u := ev 3 (k : Int) (i : Int)) (by rw [HEV.out]; rfl)) d os
                    have q4 : ∀ d os, (grow (redrawn wr d) os).cell? ⟨g, i * 6 + 4, none⟩ = some (ev 4 (k : Int) (i : Int)) := fun d os => cell_regrown (hMv.cell HK.out (t := i) (c := 4) (by omega) (by decide) (u := ev 4 (k : Int) (i : Int)) (by rw [HEV.out]; rfl)) d os
                    have q5 : ∀ d os, (grow (redrawn wr d) os).cell? ⟨g, i * 6 + 5, none⟩ = some (ev 5 (k : Int) (i : Int)) := fun d os => cell_regrown (hMv.cell HK.out (t := i) (c := 5) (by omega) (by decide) (u := ev 5 (k : Int) (i : Int)) (by rw [HEV.out]; rfl)) d os
                    go_wp2_with fail
                    refine wp_region_quiet_below (by kernel_rfl) (by kernel_rfl) ?_
                    repeat (first | go_big_quiet_step ((go_at_call 23; (with_reducible exact hmk _ _))) | quiet_step ((go_at_call 23; (with_reducible exact hmk _ _))))
                    refine wpQuiet_nil ?_
                    intro _ hw'
                    obtain ⟨⟨nq, osq⟩, hw''⟩ := hw'
                    subst hw''
                    have HB6 := below_regrown wr nq osq
                    generalize grow (redrawn wr nq) osq = w6 at HB6 ⊢
                    have HP2 := Lib.hid (HP.out.below HB6)
                    have HG2 := Lib.hid ((HB6.block G (Array.getElem?_eq_some_iff.1 HGr.out).1).trans HGr.out)
                    have HH2 := Lib.hid (HHr.out.below HB6)
                    have HB2 := Lib.hid (Bt.on HBr.out HBs.out HB6)
                    have HS2 := Lib.hid (Nat.le_trans HBs.out HB6.size)
                    go_wp2_with fail
                    go_roundg (n k + 64 - (i + 1))
                    case measure => have := HIX.out; omega
                    case rel => exact ⟨i + 1, by go_num, hi, Lib.hid (by omega), HP2, HG2, HH2, HB2, HS2⟩
                  · have hd : decide ((i : Int) < (n k : Int)) = false := decide_eq_false (by omega)
                    go_wp2_with fail
                    refine wp_region_quiet_below (by kernel_rfl) (by kernel_rfl) ?_
                    repeat (first | go_big_quiet_step ((go_at_call 23; (with_reducible exact hmk _ _))) | quiet_step ((go_at_call 23; (with_reducible exact hmk _ _))))
                    refine wpQuiet_nil ?_
                    intro _ hw'
                    obtain ⟨⟨nq, osq⟩, hw''⟩ := hw'
                    subst hw''
                    have HB6 := below_regrown wr nq osq
                    generalize grow (redrawn wr nq) osq = w6 at HB6 ⊢
                    have HP2 := Lib.hid (HP.out.below HB6)
                    have HG2 := Lib.hid ((HB6.block G (Array.getElem?_eq_some_iff.1 HGr.out).1).trans HGr.out)
                    have HH2 := Lib.hid (HHr.out.below HB6)
                    have HB2 := Lib.hid (Bt.on HBr.out HBs.out HB6)
                    have HS2 := Lib.hid (Nat.le_trans HBs.out HB6.size)
                    go_wp2_with fail
                    go_roundg (n k + 64 - (i + 1))
                    case measure => have := HIX.out; omega
                    case rel => exact ⟨i + 1, by go_num, hi, Lib.hid (by omega), HP2, HG2, HH2, HB2, HS2⟩
                · have hiz : ¬ (i : Int) < (n k : Int) + 64 := by omega
                  go_wp2_with fail
                  go_roundg (m - (k + 1))
                  case measure => have := HKX.out; have := HKK.out; omega
                  case rel => exact ⟨k + 1, by go_num, HKK.out, Lib.hid (by have := HKK.out; omega), HP, HGr, HHr, HBr, HBs⟩
            · have hkz : ¬ (k : Int) < (m : Int) := by omega
              obtain rfl : m = k := by omega
              clear hk hkm HKX hkz
              have HF4 := Lib.hid (HP.out.less HK.out (q' := fun j => n j) (fun j _ => Nat.le_add_right _ _))
              clear HP
              go_wp2_with fail
              go_loopg [11] m (fun kx s11 wr => ∃ (k : Nat) (u : Nat → Value), s11 = .int .i64 k ∧ k ≤ m ∧ Hid (m ≤ k + kx) ∧ Hid (Fam enc 6 wr B 41 m v n u (fun j => n j + 64) (fun j => n j)) ∧ Hid (wr.heap[G]? = some (.cells cG 22 (0, 0))) ∧ Hid (Hd wr B 22 H m u m) ∧ Hid (Bt B 41 w wr) ∧ Hid (B ≤ wr.heap.size))
              case atStart => exact ⟨0, u, rfl, Nat.zero_le _, Lib.hid (by omega), HF4, HGr, HHr, HBr, HBs⟩
              case round =>
                clear HF4 HGr HHr HBr HBs
                obtain ⟨k, u, rfl, hkm, HKX, HP, HGr, HHr, HBr, HBs⟩ := hrel
                by_cases hk : k < m
                · have hkz : (k : Int) < (m : Int) := by omega
                  have HKK := Lib.hid hk
                  have hnk := HN.out k hk
                  obtain ⟨A, c, hvk, hnc, hA⟩ := (HP.out.rows k hk).own.choose_spec.slice
                  have HVK := Lib.hid hvk
                  clear hk hvk hA
                  obtain ⟨iE, hiE, hzE, hsE, hbE⟩ := info_parts infoLots
                  go_wp2_with (first | (at_make; refine wpList_make_full _ rfl _ _ 22 rfl B 41 iE _ 6 Tryz.underlying22 hiE hzE hsE .i64 .i64 _ _ 64 rfl rfl rfl rfl (by rw [hbE]; decide) (by decide) HBs.out ?_; intro w1 hM hg1; have HM1 : Hid (∃ xs, ownW w1 B 41 6 (.slice (some ⟨wr.heap.size, 0, none⟩) 64 64) 64 xs ∧ ∀ x ∈ xs, x.oneCell' = true) := Lib.hid ⟨_, ownW_of hM, made_one zoneLots _⟩; clear hM; have hgate : wr.grownBy w1 none := hg1; clear hg1; fail_if_success done))
                  have hg1 := hgate
                  clear hgate
                  have HF1 := Lib.hid (HP.out.none hg1)
                  have HG1 : Hid (w1.heap[G]? = some (.cells cG 22 (0, 0))) := Lib.hid ((hg1.block G (Array.getElem?_eq_some_iff.1 HGr.out).1 (by simp)).trans HGr.out)
                  have HH1 := Lib.hid (HHr.out.kept hg1 (by simp))
                  have HB1 := Lib.hid (Bt.grown HBr.out hg1 HBs.out (fun _ h => by cases h) (fun _ h => by cases h))
                  have HS1 := Lib.hid (Nat.le_trans HBs.out hg1.size)
                  have HGM : Hid (G ≠ wr.heap.size) := Lib.hid (fun e => by have := (Array.getElem?_eq_some_iff.1 HGr.out).1; omega)
                  have HHM : Hid (H ≠ wr.heap.size) := Lib.hid (fun e => by have := HHr.out.lt.2; omega)
                  have HOM := Lib.hid HP.out.old
                  have HBM := HBs
                  clear hg1 hiE hzE hsE hbE HP HGr HHr HBr HBs
                  generalize wr.heap.size = M at HM1 HGM HHM HOM HBM ⊢
                  go_wp2_with fail
                  go_loopg [13] 64 (fun kx s13 wr => ∃ (i : Nat), s13 = .int .i64 i ∧ i ≤ 64 ∧ Hid (64 ≤ i + kx) ∧ Hid (∃ xs, ownW wr B 41 6 (.slice (some ⟨M, 0, none⟩) 64 64) 64 xs ∧ ∀ x ∈ xs, x.oneCell' = true) ∧ Hid (Fam enc 6 wr B 41 m v n u (fun j => n j + 64) (fun j => n j)) ∧ Hid (wr.heap[G]? = some (.cells cG 22 (0, 0))) ∧ Hid (Hd wr B 22 H m u m) ∧ Hid (Bt B 41 w wr) ∧ Hid (B ≤ wr.heap.size))
                  case atStart => exact ⟨0, rfl, Nat.zero_le _, Lib.hid (by omega), HM1, HF1, HG1, HH1, HB1, HS1⟩
                  case round =>
                    clear HM1 HF1 HG1 HH1 HB1 HS1
                    obtain ⟨i, rfl, hin, HIX, HMs, HP, HGr, HHr, HBr, HBs⟩ := hrel
                    obtain ⟨xs, hxo, hx1⟩ := HMs.out
                    have HXO := Lib.hid hxo
                    have HX1 := Lib.hid hx1
                    clear hxo hx1 HMs
                    by_cases hi : i < 64
                    · have hiz : (i : Int) < 64 := by omega
                      have hi0 : (0 : Int) ≤ (i : Int) := by omega
                      have hlE : (enc ((k : Int) + (m : Int)) (i : Int)).length = 6 := HK.out _ _
                      go_wp2_with (go_at_call 23; refine (HM.out _ _ _).mono ?_; rintro e w' ⟨rfl, hb⟩; have hst := (HXO.out.below hb).stores Tryz.prog i hi (enc ((k : Int) + (m : Int)) (i : Int)) (HK.out _ _) (H1.out _ _))
                      have HM2 : Hid (∃ xs, ownW (w'.setCells M (i * 6) (enc ((k : Int) + (m : Int)) (i : Int))) B 41 6 (.slice (some ⟨M, 0, none⟩) 64 64) 64 xs ∧ ∀ x ∈ xs, x.oneCell' = true) := Lib.hid ⟨_, ownW_store (HXO.out.below hb) i hi _ (HK.out _ _), over_one HX1.out (H1.out _ _)⟩
                      have hgr := setCells_grown w' M (enc ((k : Int) + (m : Int)) (i : Int)) (i * 6)
                      have HF2 := Lib.hid ((HP.out.below hb).kept hgr (fun j hj b hb2 => by simp only [Option.some.injEq] at hb2; subst hb2; exact HOM.out j hj))
                      have HG2 := Lib.hid ((setCells_other w' M (enc ((k : Int) + (m : Int)) (i : Int)) (i * 6) G HGM.out).trans ((hb.block G (Array.getElem?_eq_some_iff.1 HGr.out).1).trans HGr.out))
                      have HH2 := Lib.hid ((HHr.out.below hb).kept hgr (by simpa using HHM.out))
                      have HB2 := Lib.hid (Bt.grown (Bt.on HBr.out HBs.out hb) hgr (Nat.le_trans HBs.out hb.size) (fun b hb2 => by simp only [Option.some.injEq] at hb2; subst hb2; exact HBM.out) (fun b hb2 => by simp only [Option.some.injEq] at hb2; subst hb2; exact (HXO.out.below hb).typed (by simp [Value.ownBlock])))
                      have HS2 := Lib.hid (Nat.le_trans (Nat.le_trans HBs.out hb.size) hgr.size)
                      go_roundg (64 - (i + 1))
                      case measure => have := HIX.out; omega
                      case rel => exact ⟨i + 1, by go_num, hi, Lib.hid (by omega), HM2, HF2, HG2, HH2, HB2, HS2⟩
                    · have hiz : ¬ (i : Int) < 64 := by omega
                      clear hi hin HIX
                      have hcG : wr.cell? ⟨G, k, none⟩ = some (.slice A (n k) c) := cell_hd HGr.out ((HV.out k HKK.out).trans (congrArg some HVK.out))
                      have HOW := Lib.hid (HP.out.rows k HKK.out).whole
                      go_wp2_with ((with_reducible refine gate_ap #[.tmp 148, .tmp 149] _ rfl ?_); go_loud (refine wpList_grow_fam _ rfl (.tmp 148) (.tmp 149) 22 rfl Tryz.underlying22 zLots 56 infoLots (by kernel_rfl) (by decide) HP.out HAP.out HKK.out (.slice A (n k) c) (.inr HVK.out.symm) (n k) (Nat.le_refl _) (marks enc (k : Int) (n k)) rfl (HVK.out ▸ HOW.out) (Below.refl _ _) ⟨M, 0, none⟩ 64 64 xs rfl HXO.out.1 (fun j u hu => row_cell HXO.out j u hu) HX1.out (by decide) (by simp only [maxLen]; omega) (by omega) HBs.out (n k) (marks_take_over HK.out _ _ _) ?_; intro v' w2 hF2 hb2 hs2 hsame; obtain ⟨A2, c2, hv2, -, -⟩ := (hF2.own k HKK.out).own.choose_spec.slice; simp only [if_true] at hv2; subst hv2; have HF2 := Lib.hid (hF2.congr (l' := fun j => n j + 64) (q' := fun j => n j) (fun j => by by_cases h : j = k <;> simp [h]) (fun j => by by_cases h : j = k <;> simp [h])); have HSM := Lib.hid hsame; have HB2 := Lib.hid (Bt.append HBr.out hb2 hsame); obtain ⟨cH, hcH⟩ := HHr.out.typed; have HH2 := Lib.hid (HHr.out.same (hsame H 22 cH (by decide) hcH)); obtain ⟨x0, hx0, hfz⟩ := HH2.out.old HKK.out; clear hF2 hb2 hsame))
                      obtain ⟨cH2, hcH2⟩ := HH2.out.typed
                      have HF3 := Lib.hid (HF2.out.aside hcH2 (by decide) (setCell_grown w2 H k (.slice A2 (n k + 64) c2)))
                      have HG3 := Lib.hid ((Below.heap_setCell w2 ⟨H, k, none⟩ (.slice A2 (n k + 64) c2) G HGH.out).trans ((HSM.out G 22 cG (by decide) HGr.out).trans HGr.out))
                      have HH3 := Lib.hid (HH2.out.store1 (k' := m) (u' := fun j => if j = k then (.slice A2 (n k + 64) c2) else u j) HKK.out (if_pos rfl) (fun j hj hjk => ⟨hj, if_neg hjk⟩))
                      have HB3 := Lib.hid (HB2.out.setCell (i := k) HH2.out.lt.1 HWH.out (.slice A2 (n k + 64) c2))
                      have HS3 := Lib.hid (Nat.le_trans hs2 (setCell_grown w2 H k (.slice A2 (n k + 64) c2)).size)
                      go_roundg (m - (k + 1))
                      case measure => have := HKX.out; have := HKK.out; omega
                      case rel => exact ⟨k + 1, fun j => if j = k then (.slice A2 (n k + 64) c2) else u j, by go_num, HKK.out, Lib.hid (by have := HKK.out; omega), HF3, HG3, HH3, HB3, HS3⟩
                · have hkz : ¬ (k : Int) < (m : Int) := by omega
                  obtain rfl : m = k := by omega
                  clear hk hkm HKX hkz
                  go_wp2_with fail
                  go_loopg [14] m (fun kx s14 wr => ∃ (k : Nat), s14 = .int .i64 k ∧ k ≤ m ∧ Hid (m ≤ k + kx) ∧ Hid (Fam enc 6 wr B 41 m v n u (fun j => n j + 64) (fun j => n j)) ∧ Hid (wr.heap[G]? = some (.cells cG 22 (0, 0))) ∧ Hid (Hd wr B 22 H m u m) ∧ Hid (Bt B 41 w wr) ∧ Hid (B ≤ wr.heap.size))
                  case atStart => exact ⟨0, rfl, Nat.zero_le _, Lib.hid (by omega), HP, HGr, HHr, HBr, HBs⟩
                  case round =>
                    clear HP HGr HHr HBr HBs
                    obtain ⟨k, rfl, hkm, HKX, HP, HGr, HHr, HBr, HBs⟩ := hrel
                    by_cases hk : k < m
                    · have hkz : (k : Int) < (m : Int) := by omega
                      have HKK := Lib.hid hk
                      have hnk := HN.out k hk
                      obtain ⟨A, c, hvk, hnc, hA⟩ := (HP.out.rows k hk).own.choose_spec.slice
                      have HVK := Lib.hid hvk
                      have HA := Lib.hid hA
                      obtain ⟨A', c', huk, hnc', hA'⟩ := (HP.out.own k hk).own.choose_spec.slice
                      obtain ⟨g', rfl⟩ := hA' (by omega)
                      have HUK := Lib.hid huk
                      clear hk hvk hA huk hA'
                      go_wp2_with fail
                      go_loopg [15] (n k) (fun kx s15 wr => ∃ (i : Nat), s15 = .int .i64 i ∧ i ≤ n k ∧ Hid (n k ≤ i + kx) ∧ Hid (Fam enc 6 wr B 41 m v n u (fun j => n j + 64) (fun j => n j)) ∧ Hid (wr.heap[G]? = some (.cells cG 22 (0, 0))) ∧ Hid (Hd wr B 22 H m u m) ∧ Hid (Bt B 41 w wr) ∧ Hid (B ≤ wr.heap.size))
                      case atStart => exact ⟨0, rfl, Nat.zero_le _, Lib.hid (by omega), HP, HGr, HHr, HBr, HBs⟩
                      case round =>
                        clear HP HGr HHr HBr HBs
                        obtain ⟨i, rfl, hin, HIX, HP, HGr, HHr, HBr, HBs⟩ := hrel
                        have hcG : wr.cell? ⟨G, k, none⟩ = some (.slice A (n k) c) := cell_hd HGr.out ((HV.out k HKK.out).trans (congrArg some HVK.out))
                        have hcH : wr.cell? ⟨H, k, none⟩ = some (.slice (some ⟨g', 0, none⟩) (n k + 64) c') := (HHr.out.cell HKK.out).trans (congrArg some HUK.out)
                        by_cases hi : i < n k
                        · have hiz : (i : Int) < (n k : Int) := by omega
                          have hi0 : (0 : Int) ≤ (i : Int) := by omega
                          have hMu := HP.out.own k HKK.out
                          rw [HUK.out] at hMu
                          have p0 : ∀ d os, (grow (redrawn wr d) os).cell? ⟨g', i * 6, none⟩ = some (ev 0 (k : Int) (i : Int)) := fun d os => cell_regrown (hMu.cell HK.out (t := i) (c := 0) (by omega) (by decide) (u := ev 0 (k : Int) (i : Int)) (by rw [HEV.out]; rfl)) d os
                          have p1 : ∀ d os, (grow (redrawn wr d) os).cell? ⟨g', i * 6 + 1, none⟩ = some (ev 1 (k : Int) (i : Int)) := fun d os => cell_regrown (hMu.cell HK.out (t := i) (c := 1) (by omega) (by decide) (u := ev 1 (k : Int) (i : Int)) (by rw [HEV.out]; rfl)) d os
                          have p2 : ∀ d os, (grow (redrawn wr d) os).cell? ⟨g', i * 6 + 2, none⟩ = some (ev 2 (k : Int) (i : Int)) := fun d os => cell_regrown (hMu.cell HK.out (t := i) (c := 2) (by omega) (by decide) (u := ev 2 (k : Int) (i : Int)) (by rw [HEV.out]; rfl)) d os
                          have p3 : ∀ d os, (grow (redrawn wr d) os).cell? ⟨g', i * 6 + 3, none⟩ = some (ev 3 (k : Int) (i : Int)) := fun d os => cell_regrown (hMu.cell HK.out (t := i) (c := 3) (by omega) (by decide) (u := ev 3 (k : Int) (i : Int)) (by rw [HEV.out]; rfl)) d os
                          have p4 : ∀ d os, (grow (redrawn wr d) os).cell? ⟨g', i * 6 + 4, none⟩ = some (ev 4 (k : Int) (i : Int)) := fun d os => cell_regrown (hMu.cell HK.out (t := i) (c := 4) (by omega) (by decide) (u := ev 4 (k : Int) (i : Int)) (by rw [HEV.out]; rfl)) d os
                          have p5 : ∀ d os, (grow (redrawn wr d) os).cell? ⟨g', i * 6 + 5, none⟩ = some (ev 5 (k : Int) (i : Int)) := fun d os => cell_regrown (hMu.cell HK.out (t := i) (c := 5) (by omega) (by decide) (u := ev 5 (k : Int) (i : Int)) (by rw [HEV.out]; rfl)) d os
                          have hmk : ∀ d os, Calls Tryz.prog 23 #[.int .i64 (k : Int), .int .i64 (i : Int)] (grow (redrawn wr d) os) fun e w'' => e = .returned (.agg #[ev 0 (k : Int) (i : Int), ev 1 (k : Int) (i : Int), ev 2 (k : Int) (i : Int), ev 3 (k : Int) (i : Int), ev 4 (k : Int) (i : Int), ev 5 (k : Int) (i : Int)]) ∧ ∃ q : Regrown, w'' = grow (redrawn wr q.d) q.os := fun d os => Calls.regrown_of ((HM.out (k : Int) (i : Int) _).mono fun e w' hh => ⟨by rw [hh.1, HEV.out], hh.2⟩)
                          have hse := HEQ.out (k : Int) (i : Int)
                          have kG := fun d os => cell_regrown hcG d os
                          have kH := fun d os => cell_regrown hcH d os
                          have hi64 : (i : Int) < (n k : Int) + 64 := by omega
                          have hi64n : i < n k + 64 := by omega
                          obtain ⟨g, hg⟩ := HA.out (by omega)
                          subst hg
                          have hMv := HP.out.rows k HKK.out
                          rw [HVK.out] at hMv
                          have q0 : ∀ d os, (grow (redrawn wr d) os).cell? ⟨g, i * 6, none⟩ = some (ev 0 (k : Int) (i : Int)) := fun d os => cell_regrown (hMv.cell HK.out (t := i) (c := 0) (by omega) (by decide) (u := ev 0 (k : Int) (i : Int)) (by rw [HEV.out]; rfl)) d os
                          have q1 : ∀ d os, (grow (redrawn wr d) os).cell? ⟨g, i * 6 + 1, none⟩ = some (ev 1 (k : Int) (i : Int)) := fun d os => cell_regrown (hMv.cell HK.out (t := i) (c := 1) (by omega) (by decide) (u := ev 1 (k : Int) (i : Int)) (by rw [HEV.out]; rfl)) d os
                          have q2 : ∀ d os, (grow (redrawn wr d) os).cell? ⟨g, i * 6 + 2, none⟩ = some (ev 2 (k : Int) (i : Int)) := fun d os => cell_regrown (hMv.cell HK.out (t := i) (c := 2) (by omega) (by decide) (u := ev 2 (k : Int) (i : Int)) (by rw [HEV.out]; rfl)) d os
                          have q3 : ∀ d os, (grow (redrawn wr d) os).cell? ⟨g, i * 6 + 3, none⟩ = some (ev 3 (k : Int) (i : Int)) := fun d os => cell_regrown (hMv.cell HK.out (t := i) (c := 3) (by omega) (by decide) (u := ev 3 (k : Int) (i : Int)) (by rw [HEV.out]; rfl)) d os
                          have q4 : ∀ d os, (grow (redrawn wr d) os).cell? ⟨g, i * 6 + 4, none⟩ = some (ev 4 (k : Int) (i : Int)) := fun d os => cell_regrown (hMv.cell HK.out (t := i) (c := 4) (by omega) (by decide) (u := ev 4 (k : Int) (i : Int)) (by rw [HEV.out]; rfl)) d os
                          have q5 : ∀ d os, (grow (redrawn wr d) os).cell? ⟨g, i * 6 + 5, none⟩ = some (ev 5 (k : Int) (i : Int)) := fun d os => cell_regrown (hMv.cell HK.out (t := i) (c := 5) (by omega) (by decide) (u := ev 5 (k : Int) (i : Int)) (by rw [HEV.out]; rfl)) d os
                          go_wp2_with fail
                          refine wp_region_quiet_below (by kernel_rfl) (by kernel_rfl) ?_
                          repeat (first | go_big_quiet_step ((go_at_call 23; (with_reducible exact hmk _ _))) | quiet_step ((go_at_call 23; (with_reducible exact hmk _ _))))
                          refine wpQuiet_nil ?_
                          intro _ hw'
                          obtain ⟨⟨nq, osq⟩, hw''⟩ := hw'
                          subst hw''
                          have HB6 := below_regrown wr nq osq
                          generalize grow (redrawn wr nq) osq = w6 at HB6 ⊢
                          have HP2 := Lib.hid (HP.out.below HB6)
                          have HG2 := Lib.hid ((HB6.block G (Array.getElem?_eq_some_iff.1 HGr.out).1).trans HGr.out)
                          have HH2 := Lib.hid (HHr.out.below HB6)
                          have HB2 := Lib.hid (Bt.on HBr.out HBs.out HB6)
                          have HS2 := Lib.hid (Nat.le_trans HBs.out HB6.size)
                          go_wp2_with fail
                          go_roundg (n k - (i + 1))
                          case measure => have := HIX.out; omega
                          case rel => exact ⟨i + 1, by go_num, hi, Lib.hid (by omega), HP2, HG2, HH2, HB2, HS2⟩
                        · have hiz : ¬ (i : Int) < (n k : Int) := by omega
                          go_wp2_with fail
                          go_roundg (m - (k + 1))
                          case measure => have := HKX.out; have := HKK.out; omega
                          case rel => exact ⟨k + 1, by go_num, HKK.out, Lib.hid (by have := HKK.out; omega), HP, HGr, HHr, HBr, HBs⟩
                    · have hkz : ¬ (k : Int) < (m : Int) := by omega
                      obtain rfl : m = k := by omega
                      go_wp2_with fail
                      go_ret
                      exact ⟨rfl, HBr.out⟩
end Go.Proofs.YtckekncllmhohaaGreat.Ap
namespace Go.Proofs.YtckekncllmhohaaGreat.Ap
open Go.RowKit Go.Sort Go.Lib Go.Proofs Go.Proofs.YtckekncllmhohaaGreat.Q
set_option linter.all false
/-- The cells of a mark of storeman/api.Lot. -/
def evLot (c : Nat) (k i : Int) : Value := match c with
  | 0 => .int .i64 (mk k i) | 1 => .string ⟨#[]⟩ | 5 => .bool false | _ => .int .i64 0
def encLot (k i : Int) : List Value := [.int .i64 (mk k i), .string ⟨#[]⟩, .int .i64 0, .int .i64 0, .int .i64 0, .bool false]
set_option maxHeartbeats 4000000 in
theorem markLot_runs (k i : Int) (W : World) : Calls Tryz.prog 23 #[.int .i64 k, .int .i64 i] W fun e w' => e = .returned (.agg (encLot k i).toArray) ∧ Below W.heap.size W w' := by
  have hul := Tryz.underlying41
  go_enter Tryz.func23, Tryz.ntmps23
  go_wp2_with (go_at_call 38; refine (mark_runs _ _ _).mono ?_; rintro e w' ⟨rfl, rfl⟩)
  (try simp only [Exit.inBlock, Exit.then])
  refine bodyPost_ret (results_cell_row rfl _ _ W.heap.size 41 _ (0, 0) _ rfl (heap_alloc_new W _) hul rfl (by kernel_rfl)) rfl ?_
  exact ⟨rfl, Below.alloc (Below.refl _ _) (Nat.le_refl _) _⟩
theorem built_lot (k i : Int) : Tryz.prog.builtSlice 41 1 [(0, .agg (encLot k i).toArray)] = some (encLot k i).toArray := by kernel_rfl
attribute [local go_sem high] eqA41
theorem eq_lot (k i : Int) (W : World) : (binOp .eql 41 (.agg #[evLot 0 k i, evLot 1 k i, evLot 2 k i, evLot 3 k i, evLot 4 k i, evLot 5 k i]) (.agg #[evLot 0 k i, evLot 1 k i, evLot 2 k i, evLot 3 k i, evLot 4 k i, evLot 5 k i])).run Tryz.prog W = .ok (.bool true) W := by
  simp only [evLot]
  go_simp
theorem one_lot (k i : Int) : ∀ u ∈ encLot k i, u.oneCell' = true := by
  intro u hu
  simp only [encLot, List.mem_cons, List.not_mem_nil, or_false] at hu
  rcases hu with rfl | rfl | rfl | rfl | rfl | rfl <;> rfl
/-- flatLots. -/
theorem flatLots_rows (m G capG B : Nat) (cG : Array Value) (v : Nat → Value) (n : Nat → Nat) (w : World)
    (hG : w.heap[G]? = some (.cells cG 22 (0, 0))) (hv : ∀ k, k < m → cG[k]? = some (v k)) (hown : ∀ k, k < m → ∃ xs, ownW w B 41 6 (v k) (n k) xs)
    (hap : ∀ j k, j < m → k < m → j ≠ k → ∀ b, (v j).ownBlock = some b → (v k).ownBlock ≠ some b) (hn : ∀ k, k < m → n k ≤ 1000000000) (hm : m ≤ 1000000000) (hB : B ≤ w.heap.size) :
    Calls Tryz.prog 49 #[.slice (some ⟨G, 0, none⟩) m capG] w fun e w' => e = .returned (.bool true) ∧ Bt B 41 w w' :=
  flatLots_any encLot (fun _ _ => rfl) one_lot
    markLot_runs evLot (fun _ _ => rfl) eq_lot built_lot m G capG B cG v n w hG hv hown hap hn hm hB
end Go.Proofs.YtckekncllmhohaaGreat.Ap
namespace Go.Proofs.YtckekncllmhohaaGreat.Ap
open Go.RowKit Go.Sort Go.Lib Go.Proofs
set_option linter.all false
theorem owns_below {w w1 : World} {B : Nat} {e : TypeId} {K : Nat} {v : Value} {n : Nat} {xs : List Value} (h : w.ownsRow B e K v n xs) (hb : Below w.heap.size w w1) : w1.ownsRow B e K v n xs := by
  refine ⟨h.1, ?_⟩
  rcases h.2 with h | ⟨g, cap, cur, h1, h2, h3, h4⟩
  · exact .inl h
  · exact .inr ⟨g, cap, cur, h1, h2, (hb.block g (Array.getElem?_eq_some_iff.1 h3).1).trans h3, h4⟩
theorem cells_over {w w1 : World} {A : Option Addr} {n K : Nat} {ys : List Value} (h : 0 < n → ∃ ad, A = some ad ∧ ∀ j u, ys[j]? = some u → w.cell? (ad.add j) = some u) (hb : Below w.heap.size w w1) (hl : ys.length = n * K) : ∀ ad, A = some ad → ∀ j u, ys[j]? = some u → w1.cell? (ad.add j) = some u := by
  intro ad had j u hu
  have hn : 0 < n := by
    rcases Nat.eq_zero_or_pos n with rfl | h'
    · have := (List.getElem?_eq_some_iff.1 hu).1; simp at hl; subst hl; simp at this
    · exact h'
  obtain ⟨ad', e, hc⟩ := h hn
  rw [had] at e
  obtain rfl : ad = ad' := Option.some.inj e
  rw [hb.cell (World.block_lt_of_cell? _ _ (hc j u hu))]
  exact hc j u hu
theorem src_none {n : Nat} {A : Option Addr} {F : Addr → Prop} (h : 0 < n → ∃ ad, A = some ad ∧ F ad) (e : A = none) : n = 0 := by
  rcases Nat.eq_zero_or_pos n with h0 | h0
  · exact h0
  · obtain ⟨ad, e2, -⟩ := h h0
    rw [e] at e2; cases e2
theorem run_append_none {P : Program} {w : World} (base : Nat) (t ty e : TypeId) (i : TypeInfo) (size : Nat) (ht : P.underlying t = some (.slice e)) (hi : P.info? e = some i) (v : Value) (n : Nat) (xs : List Value) (hown : w.ownsRow base e size v n xs) (c : Nat) :
    (Builtin.append_ #[t, t] ty #[v, .slice none 0 c]).run P w = .ok v w := by
  rcases hown.2 with ⟨rfl, rfl⟩ | ⟨g, cap, cur, rfl, _, _, hnc, _⟩
  · simp [Builtin.append_, run_underlying ht, sizeOf, typeInfo, hi, Builtin.lenOf, Builtin.firstCells]
  · simp [Builtin.append_, run_underlying ht, sizeOf, typeInfo, hi, Builtin.lenOf, Builtin.firstCells, hnc, storeCells]
/-- The kit's append within the capacity; a nil source may bear any capacity. -/
theorem append_fits_nil {P : Program} (w : World) {ops : Array Oper} {rest : List Oper} {o : Oper} {a : Act} {Q : Exit → Act → World → Prop}
    (hg : o.guard = none) (s x : Operand) (t : TypeId) (hop : o.op = Op.call { callee := Callee.builtin Builtin.append, args := #[s, x], argTypes := #[t, t] })
    (base : Nat) (e : TypeId) (i : TypeInfo) (size : Nat) (h1 : P.underlying t = some (.slice e)) (h2 : P.info? e = some i) (h4 : i.size = size)
    (g k cap : Nat) (xs : List Value) (hs : a.eval s = .slice (some ⟨g, 0, none⟩) k cap) (hown : w.ownsRow base e size (.slice (some ⟨g, 0, none⟩) k cap) k xs) (ao : Option Addr) (m c : Nat) (news : List Value) (hx : a.eval x = .slice ao m c) (hn : news.length = m * size)
    (hnone : ao = none → m = 0) (hc : ∀ ad, ao = some ad → ∀ j u, news[j]? = some u → w.cell? (ad.add j) = some u) (h1c : ∀ u ∈ news, u.oneCell' = true) (b1 : k + m ≤ cap)
    (hK : ∀ w', w'.ownsRow base e size (.slice (some ⟨g, 0, none⟩) (k + m) cap) (k + m) (xs ++ news) → w.grownBy w' (some g) → wpList P ops Q rest (a.put o.dst (.slice (some ⟨g, 0, none⟩) (k + m) cap)) w') :
    wpList P ops Q (o :: rest) a w := by
  cases ao with
  | some ad => exact wpList_append_fits w hg s x t hop base e i size h1 h2 h4 g k cap xs hs hown ad m c news hx hn (hc ad rfl) h1c b1 hK
  | none =>
    obtain rfl := hnone rfl
    have hnews : news = [] := List.eq_nil_of_length_eq_zero (by simpa using hn)
    subst hnews
    refine wpList_plain hg fun K hK' => ?_
    have hrun := run_append_none (P := P) (w := w) base t o.type e i size h1 h2 _ k xs hown c
    unfold Oper.wp
    simp [execOp, hop, resolve, invoke, builtin, hs, hx, hrun, Result.andThen]
    exact hK' _ _ (by simpa using hK w (by simpa using hown) (World.grownBy.refl _ _))
theorem lent_mark {enc : Int → Int → List Value} {K n : Nat} (hK : ∀ k i, (enc k i).length = K) {ys : List Value} (hy : ys.length = n * K) {i c : Nat} (h1 : n ≤ i) (h2 : i < n + 12) (hc : c < K) {u : Value} (hu : (enc 1 ((i : Int) - (n : Int)))[c]? = some u) : (ys ++ marks enc 1 12)[i * K + c]? = some u := by
  have e : i * K + c - n * K = (i - n) * K + c := by rw [Nat.sub_mul]; have := Nat.mul_le_mul_right K h1; omega
  rw [List.getElem?_append_right (by rw [hy]; have := Nat.mul_le_mul_right K h1; omega), hy, e, marks_get enc K hK 1 12 (i - n) c (by omega) hc]
  have : ((i - n : Nat) : Int) = (i : Int) - (n : Int) := by omega
  rw [this]; exact hu
theorem lent_old {K n i c : Nat} {ys zs : List Value} (hy : ys.length = n * K) (h : i < n) (hc : c < K) : (ys ++ zs)[i * K + c]? = ys[i * K + c]? := by
  rw [List.getElem?_append_left (by rw [hy]; have := Nat.mul_le_mul_right K (show i + 1 ≤ n from h); rw [Nat.succ_mul] at this; omega)]
theorem row_at {w : World} {B : Nat} {e : TypeId} {K g n cap : Nat} {xs : List Value} (h : w.ownsRow B e K (.slice (some ⟨g, 0, none⟩) n cap) n xs) (j : Nat) {u : Value} (hu : xs[j]? = some u) : w.cell? ⟨g, j, none⟩ = some u :=
  (ownW_of h).cells (g := g) (by simp [Value.ownBlock]) j u hu
end Go.Proofs.YtckekncllmhohaaGreat.Ap
namespace Go.Proofs.YtckekncllmhohaaGreat.Ap
open Go.RowKit Go.Sort Go.Lib Go.Proofs
set_option linter.all false
attribute [local irreducible] Go.Calls
set_option maxHeartbeats 8000000 in
set_option maxRecDepth 100000 in
theorem LentLots_runs (A : Option Addr) (n c : Nat) (ys : List Value) (w : World) (hy : ys.length = n * 6) (h1 : ∀ u ∈ ys, u.oneCell' = true) (hA : 0 < n → ∃ ad, A = some ad ∧ ∀ j u, ys[j]? = some u → w.cell? (ad.add j) = some u) (hn : n ≤ 1000000) :
    Calls Tryz.prog 7 #[.slice A n c] w fun e w' => ∃ g, e = .returned (.slice (some ⟨g, 0, none⟩) n (n + 12)) ∧ w'.ownsRow w.heap.size 41 6 (.slice (some ⟨g, 0, none⟩) (n + 12) (n + 12)) (n + 12) (ys ++ marks encLot 1 12) ∧ Below w.heap.size w w' := by
  have HY := Lib.hid hy
  have H1 := Lib.hid h1
  have HA := Lib.hid hA
  clear hy h1 hA
  obtain ⟨iE, hiE, hzE, hsE, hbE⟩ := info_parts infoLots
  go_enter Tryz.func7, Tryz.ntmps7
  go_wp2_with (first | (at_make; refine wpList_make_own _ rfl _ _ 22 rfl w.heap.size 41 iE _ 6 Tryz.underlying22 hiE hzE hsE .i64 .i64 _ (n + 12) rfl rfl (by simp) (by rw [hbE]; omega) (by simp only [maxLen]; omega) (Nat.le_refl _) ?_))
  intro w1 hO hg1
  have HO1 := Lib.hid hO
  have HB1 : Hid (Below w.heap.size w w1) := Lib.hid (below_grown (Below.refl _ _) hg1 (Nat.le_refl _) (fun _ h => by cases h))
  clear hO hg1
  go_wp2_with ((with_reducible refine gate_ap #[.tmp 9, .tmp 10] _ rfl ?_); go_loud (refine append_fits_nil _ rfl (.tmp 9) (.tmp 10) 22 rfl w.heap.size 41 iE 6 Tryz.underlying22 hiE hsE w.heap.size 0 (n + 12) [] rfl HO1.out A n c ys rfl HY.out (src_none HA.out) (cells_over HA.out HB1.out HY.out) H1.out (by omega) ?_))
  intro w2 ho2 hg2
  have HO2 : Hid (w2.ownsRow w.heap.size 41 6 (.slice (some ⟨w.heap.size, 0, none⟩) (n + 0) (n + 12)) (n + 0) (ys ++ marks encLot 1 0)) := Lib.hid (by simpa [marks] using ho2)
  have HB2 := Lib.hid (below_grown HB1.out hg2 HB1.out.size (fun k hk => by simp only [Option.some.injEq] at hk; omega))
  clear ho2 hg2 HO1 HB1
  go_wp2_with fail
  go_loopg [3, 4] 12 (fun kx s3 s4 wr => ∃ i : Nat, s3 = .slice (some ⟨w.heap.size, 0, none⟩) (n + i) (n + 12) ∧ s4 = .int .i64 i ∧ i ≤ 12 ∧ Hid (12 ≤ i + kx) ∧ Hid (wr.ownsRow w.heap.size 41 6 (.slice (some ⟨w.heap.size, 0, none⟩) (n + i) (n + 12)) (n + i) (ys ++ marks encLot 1 i)) ∧ Hid (Below w.heap.size w wr))
  case atStart => exact ⟨0, rfl, rfl, by omega, Lib.hid (by omega), HO2, HB2⟩
  case round =>
    clear HO2 HB2
    obtain ⟨i, rfl, rfl, hin, HIX, HO, HB⟩ := hrel
    by_cases hi : i < 12
    · have hiz : (i : Int) < 12 := by omega
      go_wp2_with (first | (go_at_call 23; refine (markLot_runs _ _ _).mono ?_; rintro e w' ⟨rfl, hb0⟩) | ((with_reducible refine gate_bs _ _ #[(0, .tmp 18)] rfl ?_); refine wpList_build1 rfl 22 41 (.tmp 18) rfl Tryz.underlying22 w'.heap.size rfl (encLot _ _) rfl (built_lot _ _) ?_) | ((with_reducible refine gate_ap #[.tmp 16, .tmp 19] _ rfl ?_); go_loud (refine wpList_append_fits _ rfl (.tmp 16) (.tmp 19) 22 rfl w.heap.size 41 iE 6 Tryz.underlying22 hiE hsE w.heap.size (n + i) (n + 12) (ys ++ marks encLot 1 i) rfl (owns_below HO.out (Below.alloc hb0 hb0.size _)) ⟨w'.heap.size, 0, none⟩ 1 1 (encLot 1 (i : Int)) rfl rfl (new_cell _ _ _) (one_lot _ _) (by omega) ?_)))
      intro w3 ho3 hg3
      rw [← marks_succ] at ho3
      have HO3 := Lib.hid ho3
      have HB3 := Lib.hid (below_grown (Below.alloc (below_on HB.out HB.out.size hb0) (Nat.le_trans HB.out.size hb0.size) _) hg3 (Nat.le_trans (Nat.le_trans HB.out.size hb0.size) (alloc_le _ _)) (fun k hk => by simp only [Option.some.injEq] at hk; omega))
      clear ho3 hg3 hb0
      go_wp2_with fail
      go_roundg (12 - (i + 1))
      case measure => have := HIX.out; omega
      case rel => exact ⟨i + 1, rfl, by go_num, hi, Lib.hid (by omega), HO3, HB3⟩
    · have hiz : ¬ (i : Int) < 12 := by omega
      obtain rfl : i = 12 := by omega
      have hz1 : (n : Int) ≤ ((n + 12 : Nat) : Int) := by omega
      have hz2 : (0 : Int) ≤ (n : Int) := by omega
      have hz3 : (n : Int) ≤ (n : Int) + 12 := by omega
      go_wp2_with fail
      go_ret
      exact ⟨w.heap.size, rfl, HO.out, HB.out⟩
end Go.Proofs.YtckekncllmhohaaGreat.Ap
namespace Go.Proofs.YtckekncllmhohaaGreat.Ap
open Go.RowKit Go.Sort Go.Lib Go.Proofs
set_option linter.all false
attribute [local irreducible] Go.Calls
set_option maxHeartbeats 8000000 in
set_option maxRecDepth 100000 in
theorem KeptLots_runs (A : Option Addr) (n c g B : Nat) (ys : List Value) (el : Nat → Nat → Value) (w : World) (hy : ys.length = n * 6) (hel : ∀ i, i < n → ∀ c, c < 6 → ys[i * 6 + c]? = some (el c i))
    (heq : ∀ i, i < n → ∀ W : World, (binOp .eql 41 (.agg #[el 0 i, el 1 i, el 2 i, el 3 i, el 4 i, el 5 i]) (.agg #[el 0 i, el 1 i, el 2 i, el 3 i, el 4 i, el 5 i])).run Tryz.prog W = .ok (.bool true) W)
    (hown : w.ownsRow B 41 6 (.slice (some ⟨g, 0, none⟩) (n + 12) (n + 12)) (n + 12) (ys ++ marks encLot 1 12))
    (hA : ∀ (W : World), Below w.heap.size w W → ∀ i, i < n → ∃ ad, A = some ad ∧ W.cell? (ad.add (i * 6)) = some (el 0 i) ∧ W.cell? ⟨(ad.add (i * 6)).block, (ad.add (i * 6)).off + 1, none⟩ = some (el 1 i) ∧ W.cell? ⟨(ad.add (i * 6)).block, (ad.add (i * 6)).off + 2, none⟩ = some (el 2 i) ∧ W.cell? ⟨(ad.add (i * 6)).block, (ad.add (i * 6)).off + 3, none⟩ = some (el 3 i) ∧ W.cell? ⟨(ad.add (i * 6)).block, (ad.add (i * 6)).off + 4, none⟩ = some (el 4 i) ∧ W.cell? ⟨(ad.add (i * 6)).block, (ad.add (i * 6)).off + 5, none⟩ = some (el 5 i)) (hn : n ≤ 1000000) :
    Calls Tryz.prog 12 #[.slice (some ⟨g, 0, none⟩) n (n + 12), .slice A n c] w fun e w' => e = .returned (.bool true) ∧ Below w.heap.size w w' := by
  have HY := Lib.hid hy
  have HEL := Lib.hid hel
  have HEQ := Lib.hid heq
  have HO := Lib.hid hown
  have HA := Lib.hid hA
  clear hy hel heq hown hA
  have hz1 : ((n : Int) + 12) ≤ (((n + 12 : Nat)) : Int) := by omega
  have hz2 : (0 : Int) ≤ (n : Int) + 12 := by omega
  go_enter Tryz.func12, Tryz.ntmps12
  go_wp2_with fail
  go_loopg [6] (n + 12) (fun kx s6 wr => ∃ i : Nat, s6 = .int .i64 i ∧ i ≤ n + 12 ∧ Hid (n + 12 ≤ i + kx) ∧ Hid (Below w.heap.size w wr))
  case atStart => exact ⟨0, rfl, by omega, Lib.hid (by omega), Lib.hid (Below.refl _ _)⟩
  case round =>
    obtain ⟨i, rfl, hin, HIX, HB⟩ := hrel
    have hO := owns_below HO.out HB.out
    by_cases hi : i < n + 12
    · have hiz : (i : Int) < (n : Int) + 12 := by omega
      have hi0 : (0 : Int) ≤ (i : Int) := by omega
      by_cases h2 : i < n
      · have hd : decide ((i : Int) < (n : Int)) = true := decide_eq_true (by omega)
        have hd2 : decide ((n : Int) ≤ (i : Int)) = false := decide_eq_false (by omega)
        have h2z : (i : Int) < (n : Int) := by omega
        have hd3 : decide (n ≤ i) = false := decide_eq_false (by omega)
        have hd4 : ¬ n ≤ i := by omega
        have hd5 : ¬ (n : Int) ≤ (i : Int) := by omega
        have p0 : ∀ d os, (grow (redrawn wr d) os).cell? ⟨g, i * 6, none⟩ = some (el 0 i) := fun d os => cell_regrown (row_at hO (i * 6) ((lent_old HY.out h2 (c := 0) (by decide)).trans (HEL.out i h2 0 (by decide)))) d os
        have p1 : ∀ d os, (grow (redrawn wr d) os).cell? ⟨g, i * 6 + 1, none⟩ = some (el 1 i) := fun d os => cell_regrown (row_at hO (i * 6 + 1) ((lent_old HY.out h2 (c := 1) (by decide)).trans (HEL.out i h2 1 (by decide)))) d os
        have p2 : ∀ d os, (grow (redrawn wr d) os).cell? ⟨g, i * 6 + 2, none⟩ = some (el 2 i) := fun d os => cell_regrown (row_at hO (i * 6 + 2) ((lent_old HY.out h2 (c := 2) (by decide)).trans (HEL.out i h2 2 (by decide)))) d os
        have p3 : ∀ d os, (grow (redrawn wr d) os).cell? ⟨g, i * 6 + 3, none⟩ = some (el 3 i) := fun d os => cell_regrown (row_at hO (i * 6 + 3) ((lent_old HY.out h2 (c := 3) (by decide)).trans (HEL.out i h2 3 (by decide)))) d os
        have p4 : ∀ d os, (grow (redrawn wr d) os).cell? ⟨g, i * 6 + 4, none⟩ = some (el 4 i) := fun d os => cell_regrown (row_at hO (i * 6 + 4) ((lent_old HY.out h2 (c := 4) (by decide)).trans (HEL.out i h2 4 (by decide)))) d os
        have p5 : ∀ d os, (grow (redrawn wr d) os).cell? ⟨g, i * 6 + 5, none⟩ = some (el 5 i) := fun d os => cell_regrown (row_at hO (i * 6 + 5) ((lent_old HY.out h2 (c := 5) (by decide)).trans (HEL.out i h2 5 (by decide)))) d os
        obtain ⟨ad, rfl, q0, q1, q2, q3, q4, q5⟩ := HA.out wr HB.out i h2
        have r0 := fun d os => cell_regrown q0 d os
        have r1 := fun d os => cell_regrown q1 d os
        have r2 := fun d os => cell_regrown q2 d os
        have r3 := fun d os => cell_regrown q3 d os
        have r4 := fun d os => cell_regrown q4 d os
        have r5 := fun d os => cell_regrown q5 d os
        have hse := HEQ.out i h2
        go_wp2_with fail
        refine wp_region_quiet_below (by kernel_rfl) (by kernel_rfl) ?_
        repeat (first | go_big_quiet_step (fail) | quiet_step (fail))
        refine wpQuiet_nil ?_
        intro _ hw'
        obtain ⟨⟨nq, osq⟩, hw''⟩ := hw'
        subst hw''
        have HB6 := Lib.hid (below_on HB.out HB.out.size (below_regrown wr nq osq))
        generalize grow (redrawn wr nq) osq = w6 at HB6 ⊢
        go_wp2_with fail
        go_roundg (n + 12 - (i + 1))
        case measure => have := HIX.out; omega
        case rel => exact ⟨i + 1, by go_num, hi, Lib.hid (by omega), HB6⟩
      · have hd : decide ((i : Int) < (n : Int)) = false := decide_eq_false (by omega)
        have hd2 : decide ((n : Int) ≤ (i : Int)) = true := decide_eq_true (by omega)
        have h2z : ¬ (i : Int) < (n : Int) := by omega
        have h3z : (n : Int) ≤ (i : Int) := by omega
        have hd3 : decide (n ≤ i) = true := decide_eq_true (by omega)
        have hd4 : n ≤ i := by omega
        have p0 : ∀ d os, (grow (redrawn wr d) os).cell? ⟨g, i * 6, none⟩ = some (evLot 0 1 ((i : Int) - (n : Int))) := fun d os => cell_regrown (row_at hO (i * 6) (lent_mark (enc := encLot) (fun _ _ => rfl) HY.out (by omega) hi (c := 0) (by decide) rfl)) d os
        have p1 : ∀ d os, (grow (redrawn wr d) os).cell? ⟨g, i * 6 + 1, none⟩ = some (evLot 1 1 ((i : Int) - (n : Int))) := fun d os => cell_regrown (row_at hO (i * 6 + 1) (lent_mark (enc := encLot) (fun _ _ => rfl) HY.out (by omega) hi (c := 1) (by decide) rfl)) d os
        have p2 : ∀ d os, (grow (redrawn wr d) os).cell? ⟨g, i * 6 + 2, none⟩ = some (evLot 2 1 ((i : Int) - (n : Int))) := fun d os => cell_regrown (row_at hO (i * 6 + 2) (lent_mark (enc := encLot) (fun _ _ => rfl) HY.out (by omega) hi (c := 2) (by decide) rfl)) d os
        have p3 : ∀ d os, (grow (redrawn wr d) os).cell? ⟨g, i * 6 + 3, none⟩ = some (evLot 3 1 ((i : Int) - (n : Int))) := fun d os => cell_regrown (row_at hO (i * 6 + 3) (lent_mark (enc := encLot) (fun _ _ => rfl) HY.out (by omega) hi (c := 3) (by decide) rfl)) d os
        have p4 : ∀ d os, (grow (redrawn wr d) os).cell? ⟨g, i * 6 + 4, none⟩ = some (evLot 4 1 ((i : Int) - (n : Int))) := fun d os => cell_regrown (row_at hO (i * 6 + 4) (lent_mark (enc := encLot) (fun _ _ => rfl) HY.out (by omega) hi (c := 4) (by decide) rfl)) d os
        have p5 : ∀ d os, (grow (redrawn wr d) os).cell? ⟨g, i * 6 + 5, none⟩ = some (evLot 5 1 ((i : Int) - (n : Int))) := fun d os => cell_regrown (row_at hO (i * 6 + 5) (lent_mark (enc := encLot) (fun _ _ => rfl) HY.out (by omega) hi (c := 5) (by decide) rfl)) d os
        have hmk : ∀ d os, Calls Tryz.prog 23 #[.int .i64 1, .int .i64 ((i : Int) - (n : Int))] (grow (redrawn wr d) os) fun e w'' => e = .returned (.agg #[evLot 0 1 ((i : Int) - (n : Int)), evLot 1 1 ((i : Int) - (n : Int)), evLot 2 1 ((i : Int) - (n : Int)), evLot 3 1 ((i : Int) - (n : Int)), evLot 4 1 ((i : Int) - (n : Int)), evLot 5 1 ((i : Int) - (n : Int))]) ∧ ∃ q : Regrown, w'' = grow (redrawn wr q.d) q.os := fun d os => Calls.regrown_of (markLot_runs 1 ((i : Int) - (n : Int)) _)
        have hse := eq_lot 1 ((i : Int) - (n : Int))
        go_wp2_with fail
        refine wp_region_quiet_below (by kernel_rfl) (by kernel_rfl) ?_
        repeat (first | go_big_quiet_step ((go_at_call 23; (with_reducible exact hmk _ _))) | quiet_step ((go_at_call 23; (with_reducible exact hmk _ _))))
        refine wpQuiet_nil ?_
        intro _ hw'
        obtain ⟨⟨nq, osq⟩, hw''⟩ := hw'
        subst hw''
        have HB6 := Lib.hid (below_on HB.out HB.out.size (below_regrown wr nq osq))
        generalize grow (redrawn wr nq) osq = w6 at HB6 ⊢
        go_wp2_with fail
        go_roundg (n + 12 - (i + 1))
        case measure => have := HIX.out; omega
        case rel => exact ⟨i + 1, by go_num, hi, Lib.hid (by omega), HB6⟩
    · have hiz : ¬ (i : Int) < (n : Int) + 12 := by omega
      go_wp2_with fail
      go_ret
      exact ⟨rfl, HB.out⟩
end Go.Proofs.YtckekncllmhohaaGreat.Ap
namespace Go.Proofs.YtckekncllmhohaaGreat.Ap
open Go.RowKit Go.Sort Go.Lib Go.Proofs
set_option linter.all false
attribute [local irreducible] Go.Calls
set_option maxHeartbeats 8000000 in
set_option maxRecDepth 100000 in
theorem OverLots_runs (n g B : Nat) (xs : List Value) (w : World) (hown : ownW w B 41 6 (.slice (some ⟨g, 0, none⟩) (n + 12) (n + 12)) (n + 12) xs) (hn : n ≤ 1000000) :
    Calls Tryz.prog 13 #[.slice (some ⟨g, 0, none⟩) n (n + 12)] w fun e w' => e = .returned (.tuple #[]) ∧ w.grownBy w' (some g) := by
  have HO0 : Hid (∃ xs, ownW w B 41 6 (.slice (some ⟨g, 0, none⟩) (n + 12) (n + 12)) (n + 12) xs) := Lib.hid ⟨xs, hown⟩
  clear hown xs
  have hz1 : ((n : Int) + 12) ≤ (((n + 12 : Nat)) : Int) := by omega
  have hz2 : (0 : Int) ≤ (n : Int) + 12 := by omega
  go_enter Tryz.func13, Tryz.ntmps13
  go_wp2_with fail
  go_loopg [3] (n + 12) (fun kx s3 wr => ∃ i : Nat, s3 = .int .i64 i ∧ i ≤ n + 12 ∧ Hid (n + 12 ≤ i + kx) ∧ Hid (w.grownBy wr (some g)) ∧ Hid (∃ xs, ownW wr B 41 6 (.slice (some ⟨g, 0, none⟩) (n + 12) (n + 12)) (n + 12) xs))
  case atStart => exact ⟨0, rfl, by omega, Lib.hid (by omega), Lib.hid (grown_refl _ _), HO0⟩
  case round =>
    clear HO0
    obtain ⟨i, rfl, hin, HIX, HG, HO⟩ := hrel
    by_cases hi : i < n + 12
    · have hiz : (i : Int) < (n : Int) + 12 := by omega
      have hi0 : (0 : Int) ≤ (i : Int) := by omega
      have hlE : (encLot 2 (i : Int)).length = 6 := rfl
      obtain ⟨ys, hy⟩ := HO.out
      have HY := Lib.hid hy
      clear hy
      go_wp2_with (go_at_call 23; refine (markLot_runs _ _ _).mono ?_; rintro e w' ⟨rfl, hb⟩; have hst := (HY.out.below hb).stores Tryz.prog i hi (encLot 2 (i : Int)) rfl (one_lot _ _); generalize encLot 2 (i : Int) = cs at hst hlE ⊢)
      have HG2 := Lib.hid (grown_trans (grown_trans HG.out (grown_below hb (some g))) (setCells_grown w' g cs (i * 6)))
      have HO2 : Hid (∃ xs, ownW (w'.setCells g (i * 6) cs) B 41 6 (.slice (some ⟨g, 0, none⟩) (n + 12) (n + 12)) (n + 12) xs) := Lib.hid ⟨_, ownW_store (HY.out.below hb) i hi cs hlE⟩
      go_roundg (n + 12 - (i + 1))
      case measure => have := HIX.out; omega
      case rel => exact ⟨i + 1, by go_num, hi, Lib.hid (by omega), HG2, HO2⟩
    · have hiz : ¬ (i : Int) < (n : Int) + 12 := by omega
      go_wp2_with fail
      go_end0
      exact ⟨rfl, HG.out⟩
end Go.Proofs.YtckekncllmhohaaGreat.Ap
namespace Go.Proofs.YtckekncllmhohaaGreat.Ap
open Go.RowKit Go.Sort Go.Lib Go.Proofs
set_option linter.all false
attribute [local go_sem ↓] Go.wp_at_zero Go.wp_at_succ

theorem infoNWords : (Tryz.prog.info? 105).map (fun i => (i.zero, i.size, i.bytes)) = some (some (.slice none 0 0), 1, 24) := by kernel_rfl
set_option maxHeartbeats 4000000 in
set_option maxRecDepth 100000 in
theorem flatWords_nil (w : World) : Calls Tryz.prog 43 #[.slice none 0 0] w fun e w' => e = .returned (.bool true) ∧ Below w.heap.size w w' := by
  go_enter Tryz.func43, Tryz.ntmps43
  go_wp2_with fail
  go_loopg [3] 0 (fun kx s3 wr => s3 = .int .i64 0 ∧ Hid (Below w.heap.size w wr))
  case atStart => exact ⟨rfl, Lib.hid (Below.refl _ _)⟩
  case round =>
    obtain ⟨rfl, HB⟩ := hrel
    obtain ⟨iS, hiS, hzS, hsS, hbS⟩ := info_parts infoNWords
    go_wp2_with (first | (at_make; refine wpList_make_full _ rfl _ _ 51 rfl wr.heap.size 105 iS _ 1 Tryz.underlying51 hiS hzS hsS .i64 .i64 _ _ 0 rfl rfl rfl rfl (by rw [hbS]; decide) (by decide) (Nat.le_refl _) ?_))
    intro w1 hH hg1
    have HB1 := Lib.hid (below_grown HB.out hg1 HB.out.size (fun _ h => by cases h))
    clear hH hg1 hiS hzS hsS hbS HB
    go_wp2_with fail
    go_loopg [6] 0 (fun kx s6 wr => s6 = .int .i64 0 ∧ Hid (Below w.heap.size w wr))
    case atStart => exact ⟨rfl, HB1⟩
    case round =>
      clear HB1
      obtain ⟨rfl, HB2⟩ := hrel
      go_wp2_with fail
      go_loopg [9] 0 (fun kx s9 wr => s9 = .int .i64 0 ∧ Hid (Below w.heap.size w wr))
      case atStart => exact ⟨rfl, HB2⟩
      case round =>
        clear HB2
        obtain ⟨rfl, HB3⟩ := hrel
        go_wp2_with fail
        go_loopg [11] 0 (fun kx s11 wr => s11 = .int .i64 0 ∧ Hid (Below w.heap.size w wr))
        case atStart => exact ⟨rfl, HB3⟩
        case round =>
          clear HB3
          obtain ⟨rfl, HB4⟩ := hrel
          go_wp2_with fail
          go_loopg [14] 0 (fun kx s14 wr => s14 = .int .i64 0 ∧ Hid (Below w.heap.size w wr))
          case atStart => exact ⟨rfl, HB4⟩
          case round =>
            clear HB4
            obtain ⟨rfl, HB5⟩ := hrel
            go_wp2_with fail
            go_ret
            exact ⟨rfl, HB5.out⟩
theorem infoNInts : (Tryz.prog.info? 35).map (fun i => (i.zero, i.size, i.bytes)) = some (some (.slice none 0 0), 1, 24) := by kernel_rfl
set_option maxHeartbeats 4000000 in
set_option maxRecDepth 100000 in
theorem flatInts_nil (w : World) : Calls Tryz.prog 44 #[.slice none 0 0] w fun e w' => e = .returned (.bool true) ∧ Below w.heap.size w w' := by
  go_enter Tryz.func44, Tryz.ntmps44
  go_wp2_with fail
  go_loopg [3] 0 (fun kx s3 wr => s3 = .int .i64 0 ∧ Hid (Below w.heap.size w wr))
  case atStart => exact ⟨rfl, Lib.hid (Below.refl _ _)⟩
  case round =>
    obtain ⟨rfl, HB⟩ := hrel
    obtain ⟨iS, hiS, hzS, hsS, hbS⟩ := info_parts infoNInts
    go_wp2_with (first | (at_make; refine wpList_make_full _ rfl _ _ 52 rfl wr.heap.size 35 iS _ 1 Tryz.underlying52 hiS hzS hsS .i64 .i64 _ _ 0 rfl rfl rfl rfl (by rw [hbS]; decide) (by decide) (Nat.le_refl _) ?_))
    intro w1 hH hg1
    have HB1 := Lib.hid (below_grown HB.out hg1 HB.out.size (fun _ h => by cases h))
    clear hH hg1 hiS hzS hsS hbS HB
    go_wp2_with fail
    go_loopg [6] 0 (fun kx s6 wr => s6 = .int .i64 0 ∧ Hid (Below w.heap.size w wr))
    case atStart => exact ⟨rfl, HB1⟩
    case round =>
      clear HB1
      obtain ⟨rfl, HB2⟩ := hrel
      go_wp2_with fail
      go_loopg [9] 0 (fun kx s9 wr => s9 = .int .i64 0 ∧ Hid (Below w.heap.size w wr))
      case atStart => exact ⟨rfl, HB2⟩
      case round =>
        clear HB2
        obtain ⟨rfl, HB3⟩ := hrel
        go_wp2_with fail
        go_loopg [11] 0 (fun kx s11 wr => s11 = .int .i64 0 ∧ Hid (Below w.heap.size w wr))
        case atStart => exact ⟨rfl, HB3⟩
        case round =>
          clear HB3
          obtain ⟨rfl, HB4⟩ := hrel
          go_wp2_with fail
          go_loopg [14] 0 (fun kx s14 wr => s14 = .int .i64 0 ∧ Hid (Below w.heap.size w wr))
          case atStart => exact ⟨rfl, HB4⟩
          case round =>
            clear HB4
            obtain ⟨rfl, HB5⟩ := hrel
            go_wp2_with fail
            go_ret
            exact ⟨rfl, HB5.out⟩
theorem infoNLongs : (Tryz.prog.info? 36).map (fun i => (i.zero, i.size, i.bytes)) = some (some (.slice none 0 0), 1, 24) := by kernel_rfl
set_option maxHeartbeats 4000000 in
set_option maxRecDepth 100000 in
theorem flatLongs_nil (w : World) : Calls Tryz.prog 45 #[.slice none 0 0] w fun e w' => e = .returned (.bool true) ∧ Below w.heap.size w w' := by
  go_enter Tryz.func45, Tryz.ntmps45
  go_wp2_with fail
  go_loopg [3] 0 (fun kx s3 wr => s3 = .int .i64 0 ∧ Hid (Below w.heap.size w wr))
  case atStart => exact ⟨rfl, Lib.hid (Below.refl _ _)⟩
  case round =>
    obtain ⟨rfl, HB⟩ := hrel
    obtain ⟨iS, hiS, hzS, hsS, hbS⟩ := info_parts infoNLongs
    go_wp2_with (first | (at_make; refine wpList_make_full _ rfl _ _ 53 rfl wr.heap.size 36 iS _ 1 Tryz.underlying53 hiS hzS hsS .i64 .i64 _ _ 0 rfl rfl rfl rfl (by rw [hbS]; decide) (by decide) (Nat.le_refl _) ?_))
    intro w1 hH hg1
    have HB1 := Lib.hid (below_grown HB.out hg1 HB.out.size (fun _ h => by cases h))
    clear hH hg1 hiS hzS hsS hbS HB
    go_wp2_with fail
    go_loopg [6] 0 (fun kx s6 wr => s6 = .int .i64 0 ∧ Hid (Below w.heap.size w wr))
    case atStart => exact ⟨rfl, HB1⟩
    case round =>
      clear HB1
      obtain ⟨rfl, HB2⟩ := hrel
      go_wp2_with fail
      go_loopg [9] 0 (fun kx s9 wr => s9 = .int .i64 0 ∧ Hid (Below w.heap.size w wr))
      case atStart => exact ⟨rfl, HB2⟩
      case round =>
        clear HB2
        obtain ⟨rfl, HB3⟩ := hrel
        go_wp2_with fail
        go_loopg [11] 0 (fun kx s11 wr => s11 = .int .i64 0 ∧ Hid (Below w.heap.size w wr))
        case atStart => exact ⟨rfl, HB3⟩
        case round =>
          clear HB3
          obtain ⟨rfl, HB4⟩ := hrel
          go_wp2_with fail
          go_loopg [14] 0 (fun kx s14 wr => s14 = .int .i64 0 ∧ Hid (Below w.heap.size w wr))
          case atStart => exact ⟨rfl, HB4⟩
          case round =>
            clear HB4
            obtain ⟨rfl, HB5⟩ := hrel
            go_wp2_with fail
            go_ret
            exact ⟨rfl, HB5.out⟩
theorem infoNTexts : (Tryz.prog.info? 37).map (fun i => (i.zero, i.size, i.bytes)) = some (some (.slice none 0 0), 1, 24) := by kernel_rfl
set_option maxHeartbeats 4000000 in
set_option maxRecDepth 100000 in
theorem flatTexts_nil (w : World) : Calls Tryz.prog 46 #[.slice none 0 0] w fun e w' => e = .returned (.bool true) ∧ Below w.heap.size w w' := by
  go_enter Tryz.func46, Tryz.ntmps46
  go_wp2_with fail
  go_loopg [3] 0 (fun kx s3 wr => s3 = .int .i64 0 ∧ Hid (Below w.heap.size w wr))
  case atStart => exact ⟨rfl, Lib.hid (Below.refl _ _)⟩
  case round =>
    obtain ⟨rfl, HB⟩ := hrel
    obtain ⟨iS, hiS, hzS, hsS, hbS⟩ := info_parts infoNTexts
    go_wp2_with (first | (at_make; refine wpList_make_full _ rfl _ _ 54 rfl wr.heap.size 37 iS _ 1 Tryz.underlying54 hiS hzS hsS .i64 .i64 _ _ 0 rfl rfl rfl rfl (by rw [hbS]; decide) (by decide) (Nat.le_refl _) ?_))
    intro w1 hH hg1
    have HB1 := Lib.hid (below_grown HB.out hg1 HB.out.size (fun _ h => by cases h))
    clear hH hg1 hiS hzS hsS hbS HB
    go_wp2_with fail
    go_loopg [6] 0 (fun kx s6 wr => s6 = .int .i64 0 ∧ Hid (Below w.heap.size w wr))
    case atStart => exact ⟨rfl, HB1⟩
    case round =>
      clear HB1
      obtain ⟨rfl, HB2⟩ := hrel
      go_wp2_with fail
      go_loopg [9] 0 (fun kx s9 wr => s9 = .int .i64 0 ∧ Hid (Below w.heap.size w wr))
      case atStart => exact ⟨rfl, HB2⟩
      case round =>
        clear HB2
        obtain ⟨rfl, HB3⟩ := hrel
        go_wp2_with fail
        go_loopg [11] 0 (fun kx s11 wr => s11 = .int .i64 0 ∧ Hid (Below w.heap.size w wr))
        case atStart => exact ⟨rfl, HB3⟩
        case round =>
          clear HB3
          obtain ⟨rfl, HB4⟩ := hrel
          go_wp2_with fail
          go_loopg [14] 0 (fun kx s14 wr => s14 = .int .i64 0 ∧ Hid (Below w.heap.size w wr))
          case atStart => exact ⟨rfl, HB4⟩
          case round =>
            clear HB4
            obtain ⟨rfl, HB5⟩ := hrel
            go_wp2_with fail
            go_ret
            exact ⟨rfl, HB5.out⟩
theorem infoNBytes : (Tryz.prog.info? 108).map (fun i => (i.zero, i.size, i.bytes)) = some (some (.slice none 0 0), 1, 24) := by kernel_rfl
set_option maxHeartbeats 4000000 in
set_option maxRecDepth 100000 in
theorem flatBytes_nil (w : World) : Calls Tryz.prog 47 #[.slice none 0 0] w fun e w' => e = .returned (.bool true) ∧ Below w.heap.size w w' := by
  go_enter Tryz.func47, Tryz.ntmps47
  go_wp2_with fail
  go_loopg [3] 0 (fun kx s3 wr => s3 = .int .i64 0 ∧ Hid (Below w.heap.size w wr))
  case atStart => exact ⟨rfl, Lib.hid (Below.refl _ _)⟩
  case round =>
    obtain ⟨rfl, HB⟩ := hrel
    obtain ⟨iS, hiS, hzS, hsS, hbS⟩ := info_parts infoNBytes
    go_wp2_with (first | (at_make; refine wpList_make_full _ rfl _ _ 55 rfl wr.heap.size 108 iS _ 1 Tryz.underlying55 hiS hzS hsS .i64 .i64 _ _ 0 rfl rfl rfl rfl (by rw [hbS]; decide) (by decide) (Nat.le_refl _) ?_))
    intro w1 hH hg1
    have HB1 := Lib.hid (below_grown HB.out hg1 HB.out.size (fun _ h => by cases h))
    clear hH hg1 hiS hzS hsS hbS HB
    go_wp2_with fail
    go_loopg [6] 0 (fun kx s6 wr => s6 = .int .i64 0 ∧ Hid (Below w.heap.size w wr))
    case atStart => exact ⟨rfl, HB1⟩
    case round =>
      clear HB1
      obtain ⟨rfl, HB2⟩ := hrel
      go_wp2_with fail
      go_loopg [9] 0 (fun kx s9 wr => s9 = .int .i64 0 ∧ Hid (Below w.heap.size w wr))
      case atStart => exact ⟨rfl, HB2⟩
      case round =>
        clear HB2
        obtain ⟨rfl, HB3⟩ := hrel
        go_wp2_with fail
        go_loopg [11] 0 (fun kx s11 wr => s11 = .int .i64 0 ∧ Hid (Below w.heap.size w wr))
        case atStart => exact ⟨rfl, HB3⟩
        case round =>
          clear HB3
          obtain ⟨rfl, HB4⟩ := hrel
          go_wp2_with fail
          go_loopg [14] 0 (fun kx s14 wr => s14 = .int .i64 0 ∧ Hid (Below w.heap.size w wr))
          case atStart => exact ⟨rfl, HB4⟩
          case round =>
            clear HB4
            obtain ⟨rfl, HB5⟩ := hrel
            go_wp2_with fail
            go_ret
            exact ⟨rfl, HB5.out⟩
theorem infoNWindows : (Tryz.prog.info? 110).map (fun i => (i.zero, i.size, i.bytes)) = some (some (.slice none 0 0), 1, 24) := by kernel_rfl
set_option maxHeartbeats 4000000 in
set_option maxRecDepth 100000 in
theorem flatWindows_nil (w : World) : Calls Tryz.prog 48 #[.slice none 0 0] w fun e w' => e = .returned (.bool true) ∧ Below w.heap.size w w' := by
  go_enter Tryz.func48, Tryz.ntmps48
  go_wp2_with fail
  go_loopg [3] 0 (fun kx s3 wr => s3 = .int .i64 0 ∧ Hid (Below w.heap.size w wr))
  case atStart => exact ⟨rfl, Lib.hid (Below.refl _ _)⟩
  case round =>
    obtain ⟨rfl, HB⟩ := hrel
    obtain ⟨iS, hiS, hzS, hsS, hbS⟩ := info_parts infoNWindows
    go_wp2_with (first | (at_make; refine wpList_make_full _ rfl _ _ 56 rfl wr.heap.size 110 iS _ 1 Tryz.underlying56 hiS hzS hsS .i64 .i64 _ _ 0 rfl rfl rfl rfl (by rw [hbS]; decide) (by decide) (Nat.le_refl _) ?_))
    intro w1 hH hg1
    have HB1 := Lib.hid (below_grown HB.out hg1 HB.out.size (fun _ h => by cases h))
    clear hH hg1 hiS hzS hsS hbS HB
    go_wp2_with fail
    go_loopg [6] 0 (fun kx s6 wr => s6 = .int .i64 0 ∧ Hid (Below w.heap.size w wr))
    case atStart => exact ⟨rfl, HB1⟩
    case round =>
      clear HB1
      obtain ⟨rfl, HB2⟩ := hrel
      go_wp2_with fail
      go_loopg [9] 0 (fun kx s9 wr => s9 = .int .i64 0 ∧ Hid (Below w.heap.size w wr))
      case atStart => exact ⟨rfl, HB2⟩
      case round =>
        clear HB2
        obtain ⟨rfl, HB3⟩ := hrel
        go_wp2_with fail
        go_loopg [11] 0 (fun kx s11 wr => s11 = .int .i64 0 ∧ Hid (Below w.heap.size w wr))
        case atStart => exact ⟨rfl, HB3⟩
        case round =>
          clear HB3
          obtain ⟨rfl, HB4⟩ := hrel
          go_wp2_with fail
          go_loopg [14] 0 (fun kx s14 wr => s14 = .int .i64 0 ∧ Hid (Below w.heap.size w wr))
          case atStart => exact ⟨rfl, HB4⟩
          case round =>
            clear HB4
            obtain ⟨rfl, HB5⟩ := hrel
            go_wp2_with fail
            go_ret
            exact ⟨rfl, HB5.out⟩
theorem infoNLots : (Tryz.prog.info? 22).map (fun i => (i.zero, i.size, i.bytes)) = some (some (.slice none 0 0), 1, 24) := by kernel_rfl
theorem infoNWants : (Tryz.prog.info? 112).map (fun i => (i.zero, i.size, i.bytes)) = some (some (.slice none 0 0), 1, 24) := by kernel_rfl
set_option maxHeartbeats 4000000 in
set_option maxRecDepth 100000 in
theorem flatWants_nil (w : World) : Calls Tryz.prog 50 #[.slice none 0 0] w fun e w' => e = .returned (.bool true) ∧ Below w.heap.size w w' := by
  go_enter Tryz.func50, Tryz.ntmps50
  go_wp2_with fail
  go_loopg [3] 0 (fun kx s3 wr => s3 = .int .i64 0 ∧ Hid (Below w.heap.size w wr))
  case atStart => exact ⟨rfl, Lib.hid (Below.refl _ _)⟩
  case round =>
    obtain ⟨rfl, HB⟩ := hrel
    obtain ⟨iS, hiS, hzS, hsS, hbS⟩ := info_parts infoNWants
    go_wp2_with (first | (at_make; refine wpList_make_full _ rfl _ _ 57 rfl wr.heap.size 112 iS _ 1 Tryz.underlying57 hiS hzS hsS .i64 .i64 _ _ 0 rfl rfl rfl rfl (by rw [hbS]; decide) (by decide) (Nat.le_refl _) ?_))
    intro w1 hH hg1
    have HB1 := Lib.hid (below_grown HB.out hg1 HB.out.size (fun _ h => by cases h))
    clear hH hg1 hiS hzS hsS hbS HB
    go_wp2_with fail
    go_loopg [6] 0 (fun kx s6 wr => s6 = .int .i64 0 ∧ Hid (Below w.heap.size w wr))
    case atStart => exact ⟨rfl, HB1⟩
    case round =>
      clear HB1
      obtain ⟨rfl, HB2⟩ := hrel
      go_wp2_with fail
      go_loopg [9] 0 (fun kx s9 wr => s9 = .int .i64 0 ∧ Hid (Below w.heap.size w wr))
      case atStart => exact ⟨rfl, HB2⟩
      case round =>
        clear HB2
        obtain ⟨rfl, HB3⟩ := hrel
        go_wp2_with fail
        go_loopg [11] 0 (fun kx s11 wr => s11 = .int .i64 0 ∧ Hid (Below w.heap.size w wr))
        case atStart => exact ⟨rfl, HB3⟩
        case round =>
          clear HB3
          obtain ⟨rfl, HB4⟩ := hrel
          go_wp2_with fail
          go_loopg [14] 0 (fun kx s14 wr => s14 = .int .i64 0 ∧ Hid (Below w.heap.size w wr))
          case atStart => exact ⟨rfl, HB4⟩
          case round =>
            clear HB4
            obtain ⟨rfl, HB5⟩ := hrel
            go_wp2_with fail
            go_ret
            exact ⟨rfl, HB5.out⟩
theorem infoNUses : (Tryz.prog.info? 116).map (fun i => (i.zero, i.size, i.bytes)) = some (some (.slice none 0 0), 1, 24) := by kernel_rfl
set_option maxHeartbeats 4000000 in
set_option maxRecDepth 100000 in
theorem flatUses_nil (w : World) : Calls Tryz.prog 51 #[.slice none 0 0] w fun e w' => e = .returned (.bool true) ∧ Below w.heap.size w w' := by
  go_enter Tryz.func51, Tryz.ntmps51
  go_wp2_with fail
  go_loopg [3] 0 (fun kx s3 wr => s3 = .int .i64 0 ∧ Hid (Below w.heap.size w wr))
  case atStart => exact ⟨rfl, Lib.hid (Below.refl _ _)⟩
  case round =>
    obtain ⟨rfl, HB⟩ := hrel
    obtain ⟨iS, hiS, hzS, hsS, hbS⟩ := info_parts infoNUses
    go_wp2_with (first | (at_make; refine wpList_make_full _ rfl _ _ 58 rfl wr.heap.size 116 iS _ 1 Tryz.underlying58 hiS hzS hsS .i64 .i64 _ _ 0 rfl rfl rfl rfl (by rw [hbS]; decide) (by decide) (Nat.le_refl _) ?_))
    intro w1 hH hg1
    have HB1 := Lib.hid (below_grown HB.out hg1 HB.out.size (fun _ h => by cases h))
    clear hH hg1 hiS hzS hsS hbS HB
    go_wp2_with fail
    go_loopg [6] 0 (fun kx s6 wr => s6 = .int .i64 0 ∧ Hid (Below w.heap.size w wr))
    case atStart => exact ⟨rfl, HB1⟩
    case round =>
      clear HB1
      obtain ⟨rfl, HB2⟩ := hrel
      go_wp2_with fail
      go_loopg [9] 0 (fun kx s9 wr => s9 = .int .i64 0 ∧ Hid (Below w.heap.size w wr))
      case atStart => exact ⟨rfl, HB2⟩
      case round =>
        clear HB2
        obtain ⟨rfl, HB3⟩ := hrel
        go_wp2_with fail
        go_loopg [11] 0 (fun kx s11 wr => s11 = .int .i64 0 ∧ Hid (Below w.heap.size w wr))
        case atStart => exact ⟨rfl, HB3⟩
        case round =>
          clear HB3
          obtain ⟨rfl, HB4⟩ := hrel
          go_wp2_with fail
          go_loopg [14] 0 (fun kx s14 wr => s14 = .int .i64 0 ∧ Hid (Below w.heap.size w wr))
          case atStart => exact ⟨rfl, HB4⟩
          case round =>
            clear HB4
            obtain ⟨rfl, HB5⟩ := hrel
            go_wp2_with fail
            go_ret
            exact ⟨rfl, HB5.out⟩
theorem infoNParts : (Tryz.prog.info? 120).map (fun i => (i.zero, i.size, i.bytes)) = some (some (.slice none 0 0), 1, 24) := by kernel_rfl
set_option maxHeartbeats 4000000 in
set_option maxRecDepth 100000 in
theorem flatParts_nil (w : World) : Calls Tryz.prog 52 #[.slice none 0 0] w fun e w' => e = .returned (.bool true) ∧ Below w.heap.size w w' := by
  go_enter Tryz.func52, Tryz.ntmps52
  go_wp2_with fail
  go_loopg [3] 0 (fun kx s3 wr => s3 = .int .i64 0 ∧ Hid (Below w.heap.size w wr))
  case atStart => exact ⟨rfl, Lib.hid (Below.refl _ _)⟩
  case round =>
    obtain ⟨rfl, HB⟩ := hrel
    obtain ⟨iS, hiS, hzS, hsS, hbS⟩ := info_parts infoNParts
    go_wp2_with (first | (at_make; refine wpList_make_full _ rfl _ _ 59 rfl wr.heap.size 120 iS _ 1 Tryz.underlying59 hiS hzS hsS .i64 .i64 _ _ 0 rfl rfl rfl rfl (by rw [hbS]; decide) (by decide) (Nat.le_refl _) ?_))
    intro w1 hH hg1
    have HB1 := Lib.hid (below_grown HB.out hg1 HB.out.size (fun _ h => by cases h))
    clear hH hg1 hiS hzS hsS hbS HB
    go_wp2_with fail
    go_loopg [6] 0 (fun kx s6 wr => s6 = .int .i64 0 ∧ Hid (Below w.heap.size w wr))
    case atStart => exact ⟨rfl, HB1⟩
    case round =>
      clear HB1
      obtain ⟨rfl, HB2⟩ := hrel
      go_wp2_with fail
      go_loopg [9] 0 (fun kx s9 wr => s9 = .int .i64 0 ∧ Hid (Below w.heap.size w wr))
      case atStart => exact ⟨rfl, HB2⟩
      case round =>
        clear HB2
        obtain ⟨rfl, HB3⟩ := hrel
        go_wp2_with fail
        go_loopg [11] 0 (fun kx s11 wr => s11 = .int .i64 0 ∧ Hid (Below w.heap.size w wr))
        case atStart => exact ⟨rfl, HB3⟩
        case round =>
          clear HB3
          obtain ⟨rfl, HB4⟩ := hrel
          go_wp2_with fail
          go_loopg [14] 0 (fun kx s14 wr => s14 = .int .i64 0 ∧ Hid (Below w.heap.size w wr))
          case atStart => exact ⟨rfl, HB4⟩
          case round =>
            clear HB4
            obtain ⟨rfl, HB5⟩ := hrel
            go_wp2_with fail
            go_ret
            exact ⟨rfl, HB5.out⟩
theorem infoNItems : (Tryz.prog.info? 124).map (fun i => (i.zero, i.size, i.bytes)) = some (some (.slice none 0 0), 1, 24) := by kernel_rfl
set_option maxHeartbeats 4000000 in
set_option maxRecDepth 100000 in
theorem flatItems_nil (w : World) : Calls Tryz.prog 53 #[.slice none 0 0] w fun e w' => e = .returned (.bool true) ∧ Below w.heap.size w w' := by
  go_enter Tryz.func53, Tryz.ntmps53
  go_wp2_with fail
  go_loopg [3] 0 (fun kx s3 wr => s3 = .int .i64 0 ∧ Hid (Below w.heap.size w wr))
  case atStart => exact ⟨rfl, Lib.hid (Below.refl _ _)⟩
  case round =>
    obtain ⟨rfl, HB⟩ := hrel
    obtain ⟨iS, hiS, hzS, hsS, hbS⟩ := info_parts infoNItems
    go_wp2_with (first | (at_make; refine wpList_make_full _ rfl _ _ 60 rfl wr.heap.size 124 iS _ 1 Tryz.underlying60 hiS hzS hsS .i64 .i64 _ _ 0 rfl rfl rfl rfl (by rw [hbS]; decide) (by decide) (Nat.le_refl _) ?_))
    intro w1 hH hg1
    have HB1 := Lib.hid (below_grown HB.out hg1 HB.out.size (fun _ h => by cases h))
    clear hH hg1 hiS hzS hsS hbS HB
    go_wp2_with fail
    go_loopg [6] 0 (fun kx s6 wr => s6 = .int .i64 0 ∧ Hid (Below w.heap.size w wr))
    case atStart => exact ⟨rfl, HB1⟩
    case round =>
      clear HB1
      obtain ⟨rfl, HB2⟩ := hrel
      go_wp2_with fail
      go_loopg [9] 0 (fun kx s9 wr => s9 = .int .i64 0 ∧ Hid (Below w.heap.size w wr))
      case atStart => exact ⟨rfl, HB2⟩
      case round =>
        clear HB2
        obtain ⟨rfl, HB3⟩ := hrel
        go_wp2_with fail
        go_loopg [11] 0 (fun kx s11 wr => s11 = .int .i64 0 ∧ Hid (Below w.heap.size w wr))
        case atStart => exact ⟨rfl, HB3⟩
        case round =>
          clear HB3
          obtain ⟨rfl, HB4⟩ := hrel
          go_wp2_with fail
          go_loopg [14] 0 (fun kx s14 wr => s14 = .int .i64 0 ∧ Hid (Below w.heap.size w wr))
          case atStart => exact ⟨rfl, HB4⟩
          case round =>
            clear HB4
            obtain ⟨rfl, HB5⟩ := hrel
            go_wp2_with fail
            go_ret
            exact ⟨rfl, HB5.out⟩
theorem infoNLines : (Tryz.prog.info? 129).map (fun i => (i.zero, i.size, i.bytes)) = some (some (.slice none 0 0), 1, 24) := by kernel_rfl
set_option maxHeartbeats 4000000 in
set_option maxRecDepth 100000 in
theorem flatLines_nil (w : World) : Calls Tryz.prog 54 #[.slice none 0 0] w fun e w' => e = .returned (.bool true) ∧ Below w.heap.size w w' := by
  go_enter Tryz.func54, Tryz.ntmps54
  go_wp2_with fail
  go_loopg [3] 0 (fun kx s3 wr => s3 = .int .i64 0 ∧ Hid (Below w.heap.size w wr))
  case atStart => exact ⟨rfl, Lib.hid (Below.refl _ _)⟩
  case round =>
    obtain ⟨rfl, HB⟩ := hrel
    obtain ⟨iS, hiS, hzS, hsS, hbS⟩ := info_parts infoNLines
    go_wp2_with (first | (at_make; refine wpList_make_full _ rfl _ _ 61 rfl wr.heap.size 129 iS _ 1 Tryz.underlying61 hiS hzS hsS .i64 .i64 _ _ 0 rfl rfl rfl rfl (by rw [hbS]; decide) (by decide) (Nat.le_refl _) ?_))
    intro w1 hH hg1
    have HB1 := Lib.hid (below_grown HB.out hg1 HB.out.size (fun _ h => by cases h))
    clear hH hg1 hiS hzS hsS hbS HB
    go_wp2_with fail
    go_loopg [6] 0 (fun kx s6 wr => s6 = .int .i64 0 ∧ Hid (Below w.heap.size w wr))
    case atStart => exact ⟨rfl, HB1⟩
    case round =>
      clear HB1
      obtain ⟨rfl, HB2⟩ := hrel
      go_wp2_with fail
      go_loopg [9] 0 (fun kx s9 wr => s9 = .int .i64 0 ∧ Hid (Below w.heap.size w wr))
      case atStart => exact ⟨rfl, HB2⟩
      case round =>
        clear HB2
        obtain ⟨rfl, HB3⟩ := hrel
        go_wp2_with fail
        go_loopg [11] 0 (fun kx s11 wr => s11 = .int .i64 0 ∧ Hid (Below w.heap.size w wr))
        case atStart => exact ⟨rfl, HB3⟩
        case round =>
          clear HB3
          obtain ⟨rfl, HB4⟩ := hrel
          go_wp2_with fail
          go_loopg [14] 0 (fun kx s14 wr => s14 = .int .i64 0 ∧ Hid (Below w.heap.size w wr))
          case atStart => exact ⟨rfl, HB4⟩
          case round =>
            clear HB4
            obtain ⟨rfl, HB5⟩ := hrel
            go_wp2_with fail
            go_ret
            exact ⟨rfl, HB5.out⟩
theorem infoNAsks : (Tryz.prog.info? 134).map (fun i => (i.zero, i.size, i.bytes)) = some (some (.slice none 0 0), 1, 24) := by kernel_rfl
set_option maxHeartbeats 4000000 in
set_option maxRecDepth 100000 in
theorem flatAsks_nil (w : World) : Calls Tryz.prog 55 #[.slice none 0 0] w fun e w' => e = .returned (.bool true) ∧ Below w.heap.size w w' := by
  go_enter Tryz.func55, Tryz.ntmps55
  go_wp2_with fail
  go_loopg [3] 0 (fun kx s3 wr => s3 = .int .i64 0 ∧ Hid (Below w.heap.size w wr))
  case atStart => exact ⟨rfl, Lib.hid (Below.refl _ _)⟩
  case round =>
    obtain ⟨rfl, HB⟩ := hrel
    obtain ⟨iS, hiS, hzS, hsS, hbS⟩ := info_parts infoNAsks
    go_wp2_with (first | (at_make; refine wpList_make_full _ rfl _ _ 62 rfl wr.heap.size 134 iS _ 1 Tryz.underlying62 hiS hzS hsS .i64 .i64 _ _ 0 rfl rfl rfl rfl (by rw [hbS]; decide) (by decide) (Nat.le_refl _) ?_))
    intro w1 hH hg1
    have HB1 := Lib.hid (below_grown HB.out hg1 HB.out.size (fun _ h => by cases h))
    clear hH hg1 hiS hzS hsS hbS HB
    go_wp2_with fail
    go_loopg [6] 0 (fun kx s6 wr => s6 = .int .i64 0 ∧ Hid (Below w.heap.size w wr))
    case atStart => exact ⟨rfl, HB1⟩
    case round =>
      clear HB1
      obtain ⟨rfl, HB2⟩ := hrel
      go_wp2_with fail
      go_loopg [9] 0 (fun kx s9 wr => s9 = .int .i64 0 ∧ Hid (Below w.heap.size w wr))
      case atStart => exact ⟨rfl, HB2⟩
      case round =>
        clear HB2
        obtain ⟨rfl, HB3⟩ := hrel
        go_wp2_with fail
        go_loopg [11] 0 (fun kx s11 wr => s11 = .int .i64 0 ∧ Hid (Below w.heap.size w wr))
        case atStart => exact ⟨rfl, HB3⟩
        case round =>
          clear HB3
          obtain ⟨rfl, HB4⟩ := hrel
          go_wp2_with fail
          go_loopg [14] 0 (fun kx s14 wr => s14 = .int .i64 0 ∧ Hid (Below w.heap.size w wr))
          case atStart => exact ⟨rfl, HB4⟩
          case round =>
            clear HB4
            obtain ⟨rfl, HB5⟩ := hrel
            go_wp2_with fail
            go_ret
            exact ⟨rfl, HB5.out⟩
theorem infoNTells : (Tryz.prog.info? 140).map (fun i => (i.zero, i.size, i.bytes)) = some (some (.slice none 0 0), 1, 24) := by kernel_rfl
set_option maxHeartbeats 4000000 in
set_option maxRecDepth 100000 in
theorem flatTells_nil (w : World) : Calls Tryz.prog 56 #[.slice none 0 0] w fun e w' => e = .returned (.bool true) ∧ Below w.heap.size w w' := by
  go_enter Tryz.func56, Tryz.ntmps56
  go_wp2_with fail
  go_loopg [3] 0 (fun kx s3 wr => s3 = .int .i64 0 ∧ Hid (Below w.heap.size w wr))
  case atStart => exact ⟨rfl, Lib.hid (Below.refl _ _)⟩
  case round =>
    obtain ⟨rfl, HB⟩ := hrel
    obtain ⟨iS, hiS, hzS, hsS, hbS⟩ := info_parts infoNTells
    go_wp2_with (first | (at_make; refine wpList_make_full _ rfl _ _ 63 rfl wr.heap.size 140 iS _ 1 Tryz.underlying63 hiS hzS hsS .i64 .i64 _ _ 0 rfl rfl rfl rfl (by rw [hbS]; decide) (by decide) (Nat.le_refl _) ?_))
    intro w1 hH hg1
    have HB1 := Lib.hid (below_grown HB.out hg1 HB.out.size (fun _ h => by cases h))
    clear hH hg1 hiS hzS hsS hbS HB
    go_wp2_with fail
    go_loopg [6] 0 (fun kx s6 wr => s6 = .int .i64 0 ∧ Hid (Below w.heap.size w wr))
    case atStart => exact ⟨rfl, HB1⟩
    case round =>
      clear HB1
      obtain ⟨rfl, HB2⟩ := hrel
      go_wp2_with fail
      go_loopg [9] 0 (fun kx s9 wr => s9 = .int .i64 0 ∧ Hid (Below w.heap.size w wr))
      case atStart => exact ⟨rfl, HB2⟩
      case round =>
        clear HB2
        obtain ⟨rfl, HB3⟩ := hrel
        go_wp2_with fail
        go_loopg [11] 0 (fun kx s11 wr => s11 = .int .i64 0 ∧ Hid (Below w.heap.size w wr))
        case atStart => exact ⟨rfl, HB3⟩
        case round =>
          clear HB3
          obtain ⟨rfl, HB4⟩ := hrel
          go_wp2_with fail
          go_loopg [14] 0 (fun kx s14 wr => s14 = .int .i64 0 ∧ Hid (Below w.heap.size w wr))
          case atStart => exact ⟨rfl, HB4⟩
          case round =>
            clear HB4
            obtain ⟨rfl, HB5⟩ := hrel
            go_wp2_with fail
            go_ret
            exact ⟨rfl, HB5.out⟩
theorem infoNStates : (Tryz.prog.info? 146).map (fun i => (i.zero, i.size, i.bytes)) = some (some (.slice none 0 0), 1, 24) := by kernel_rfl
set_option maxHeartbeats 4000000 in
set_option maxRecDepth 100000 in
theorem flatStates_nil (w : World) : Calls Tryz.prog 57 #[.slice none 0 0] w fun e w' => e = .returned (.bool true) ∧ Below w.heap.size w w' := by
  go_enter Tryz.func57, Tryz.ntmps57
  go_wp2_with fail
  go_loopg [3] 0 (fun kx s3 wr => s3 = .int .i64 0 ∧ Hid (Below w.heap.size w wr))
  case atStart => exact ⟨rfl, Lib.hid (Below.refl _ _)⟩
  case round =>
    obtain ⟨rfl, HB⟩ := hrel
    obtain ⟨iS, hiS, hzS, hsS, hbS⟩ := info_parts infoNStates
    go_wp2_with (first | (at_make; refine wpList_make_full _ rfl _ _ 64 rfl wr.heap.size 146 iS _ 1 Tryz.underlying64 hiS hzS hsS .i64 .i64 _ _ 0 rfl rfl rfl rfl (by rw [hbS]; decide) (by decide) (Nat.le_refl _) ?_))
    intro w1 hH hg1
    have HB1 := Lib.hid (below_grown HB.out hg1 HB.out.size (fun _ h => by cases h))
    clear hH hg1 hiS hzS hsS hbS HB
    go_wp2_with fail
    go_loopg [6] 0 (fun kx s6 wr => s6 = .int .i64 0 ∧ Hid (Below w.heap.size w wr))
    case atStart => exact ⟨rfl, HB1⟩
    case round =>
      clear HB1
      obtain ⟨rfl, HB2⟩ := hrel
      go_wp2_with fail
      go_loopg [9] 0 (fun kx s9 wr => s9 = .int .i64 0 ∧ Hid (Below w.heap.size w wr))
      case atStart => exact ⟨rfl, HB2⟩
      case round =>
        clear HB2
        obtain ⟨rfl, HB3⟩ := hrel
        go_wp2_with fail
        go_loopg [11] 0 (fun kx s11 wr => s11 = .int .i64 0 ∧ Hid (Below w.heap.size w wr))
        case atStart => exact ⟨rfl, HB3⟩
        case round =>
          clear HB3
          obtain ⟨rfl, HB4⟩ := hrel
          go_wp2_with fail
          go_loopg [14] 0 (fun kx s14 wr => s14 = .int .i64 0 ∧ Hid (Below w.heap.size w wr))
          case atStart => exact ⟨rfl, HB4⟩
          case round =>
            clear HB4
            obtain ⟨rfl, HB5⟩ := hrel
            go_wp2_with fail
            go_ret
            exact ⟨rfl, HB5.out⟩
theorem infoNRows : (Tryz.prog.info? 151).map (fun i => (i.zero, i.size, i.bytes)) = some (some (.slice none 0 0), 1, 24) := by kernel_rfl
set_option maxHeartbeats 4000000 in
set_option maxRecDepth 100000 in
theorem flatRows_nil (w : World) : Calls Tryz.prog 58 #[.slice none 0 0] w fun e w' => e = .returned (.bool true) ∧ Below w.heap.size w w' := by
  go_enter Tryz.func58, Tryz.ntmps58
  go_wp2_with fail
  go_loopg [3] 0 (fun kx s3 wr => s3 = .int .i64 0 ∧ Hid (Below w.heap.size w wr))
  case atStart => exact ⟨rfl, Lib.hid (Below.refl _ _)⟩
  case round =>
    obtain ⟨rfl, HB⟩ := hrel
    obtain ⟨iS, hiS, hzS, hsS, hbS⟩ := info_parts infoNRows
    go_wp2_with (first | (at_make; refine wpList_make_full _ rfl _ _ 65 rfl wr.heap.size 151 iS _ 1 Tryz.underlying65 hiS hzS hsS .i64 .i64 _ _ 0 rfl rfl rfl rfl (by rw [hbS]; decide) (by decide) (Nat.le_refl _) ?_))
    intro w1 hH hg1
    have HB1 := Lib.hid (below_grown HB.out hg1 HB.out.size (fun _ h => by cases h))
    clear hH hg1 hiS hzS hsS hbS HB
    go_wp2_with fail
    go_loopg [6] 0 (fun kx s6 wr => s6 = .int .i64 0 ∧ Hid (Below w.heap.size w wr))
    case atStart => exact ⟨rfl, HB1⟩
    case round =>
      clear HB1
      obtain ⟨rfl, HB2⟩ := hrel
      go_wp2_with fail
      go_loopg [9] 0 (fun kx s9 wr => s9 = .int .i64 0 ∧ Hid (Below w.heap.size w wr))
      case atStart => exact ⟨rfl, HB2⟩
      case round =>
        clear HB2
        obtain ⟨rfl, HB3⟩ := hrel
        go_wp2_with fail
        go_loopg [11] 0 (fun kx s11 wr => s11 = .int .i64 0 ∧ Hid (Below w.heap.size w wr))
        case atStart => exact ⟨rfl, HB3⟩
        case round =>
          clear HB3
          obtain ⟨rfl, HB4⟩ := hrel
          go_wp2_with fail
          go_loopg [14] 0 (fun kx s14 wr => s14 = .int .i64 0 ∧ Hid (Below w.heap.size w wr))
          case atStart => exact ⟨rfl, HB4⟩
          case round =>
            clear HB4
            obtain ⟨rfl, HB5⟩ := hrel
            go_wp2_with fail
            go_ret
            exact ⟨rfl, HB5.out⟩
theorem infoNTurns : (Tryz.prog.info? 156).map (fun i => (i.zero, i.size, i.bytes)) = some (some (.slice none 0 0), 1, 24) := by kernel_rfl
set_option maxHeartbeats 4000000 in
set_option maxRecDepth 100000 in
theorem flatTurns_nil (w : World) : Calls Tryz.prog 59 #[.slice none 0 0] w fun e w' => e = .returned (.bool true) ∧ Below w.heap.size w w' := by
  go_enter Tryz.func59, Tryz.ntmps59
  go_wp2_with fail
  go_loopg [3] 0 (fun kx s3 wr => s3 = .int .i64 0 ∧ Hid (Below w.heap.size w wr))
  case atStart => exact ⟨rfl, Lib.hid (Below.refl _ _)⟩
  case round =>
    obtain ⟨rfl, HB⟩ := hrel
    obtain ⟨iS, hiS, hzS, hsS, hbS⟩ := info_parts infoNTurns
    go_wp2_with (first | (at_make; refine wpList_make_full _ rfl _ _ 66 rfl wr.heap.size 156 iS _ 1 Tryz.underlying66 hiS hzS hsS .i64 .i64 _ _ 0 rfl rfl rfl rfl (by rw [hbS]; decide) (by decide) (Nat.le_refl _) ?_))
    intro w1 hH hg1
    have HB1 := Lib.hid (below_grown HB.out hg1 HB.out.size (fun _ h => by cases h))
    clear hH hg1 hiS hzS hsS hbS HB
    go_wp2_with fail
    go_loopg [6] 0 (fun kx s6 wr => s6 = .int .i64 0 ∧ Hid (Below w.heap.size w wr))
    case atStart => exact ⟨rfl, HB1⟩
    case round =>
      clear HB1
      obtain ⟨rfl, HB2⟩ := hrel
      go_wp2_with fail
      go_loopg [9] 0 (fun kx s9 wr => s9 = .int .i64 0 ∧ Hid (Below w.heap.size w wr))
      case atStart => exact ⟨rfl, HB2⟩
      case round =>
        clear HB2
        obtain ⟨rfl, HB3⟩ := hrel
        go_wp2_with fail
        go_loopg [11] 0 (fun kx s11 wr => s11 = .int .i64 0 ∧ Hid (Below w.heap.size w wr))
        case atStart => exact ⟨rfl, HB3⟩
        case round =>
          clear HB3
          obtain ⟨rfl, HB4⟩ := hrel
          go_wp2_with fail
          go_loopg [14] 0 (fun kx s14 wr => s14 = .int .i64 0 ∧ Hid (Below w.heap.size w wr))
          case atStart => exact ⟨rfl, HB4⟩
          case round =>
            clear HB4
            obtain ⟨rfl, HB5⟩ := hrel
            go_wp2_with fail
            go_ret
            exact ⟨rfl, HB5.out⟩
theorem infoNFates : (Tryz.prog.info? 161).map (fun i => (i.zero, i.size, i.bytes)) = some (some (.slice none 0 0), 1, 24) := by kernel_rfl
set_option maxHeartbeats 4000000 in
set_option maxRecDepth 100000 in
theorem flatFates_nil (w : World) : Calls Tryz.prog 60 #[.slice none 0 0] w fun e w' => e = .returned (.bool true) ∧ Below w.heap.size w w' := by
  go_enter Tryz.func60, Tryz.ntmps60
  go_wp2_with fail
  go_loopg [3] 0 (fun kx s3 wr => s3 = .int .i64 0 ∧ Hid (Below w.heap.size w wr))
  case atStart => exact ⟨rfl, Lib.hid (Below.refl _ _)⟩
  case round =>
    obtain ⟨rfl, HB⟩ := hrel
    obtain ⟨iS, hiS, hzS, hsS, hbS⟩ := info_parts infoNFates
    go_wp2_with (first | (at_make; refine wpList_make_full _ rfl _ _ 67 rfl wr.heap.size 161 iS _ 1 Tryz.underlying67 hiS hzS hsS .i64 .i64 _ _ 0 rfl rfl rfl rfl (by rw [hbS]; decide) (by decide) (Nat.le_refl _) ?_))
    intro w1 hH hg1
    have HB1 := Lib.hid (below_grown HB.out hg1 HB.out.size (fun _ h => by cases h))
    clear hH hg1 hiS hzS hsS hbS HB
    go_wp2_with fail
    go_loopg [6] 0 (fun kx s6 wr => s6 = .int .i64 0 ∧ Hid (Below w.heap.size w wr))
    case atStart => exact ⟨rfl, HB1⟩
    case round =>
      clear HB1
      obtain ⟨rfl, HB2⟩ := hrel
      go_wp2_with fail
      go_loopg [9] 0 (fun kx s9 wr => s9 = .int .i64 0 ∧ Hid (Below w.heap.size w wr))
      case atStart => exact ⟨rfl, HB2⟩
      case round =>
        clear HB2
        obtain ⟨rfl, HB3⟩ := hrel
        go_wp2_with fail
        go_loopg [11] 0 (fun kx s11 wr => s11 = .int .i64 0 ∧ Hid (Below w.heap.size w wr))
        case atStart => exact ⟨rfl, HB3⟩
        case round =>
          clear HB3
          obtain ⟨rfl, HB4⟩ := hrel
          go_wp2_with fail
          go_loopg [14] 0 (fun kx s14 wr => s14 = .int .i64 0 ∧ Hid (Below w.heap.size w wr))
          case atStart => exact ⟨rfl, HB4⟩
          case round =>
            clear HB4
            obtain ⟨rfl, HB5⟩ := hrel
            go_wp2_with fail
            go_ret
            exact ⟨rfl, HB5.out⟩
theorem infoNDirties : (Tryz.prog.info? 165).map (fun i => (i.zero, i.size, i.bytes)) = some (some (.slice none 0 0), 1, 24) := by kernel_rfl
set_option maxHeartbeats 4000000 in
set_option maxRecDepth 100000 in
theorem flatDirties_nil (w : World) : Calls Tryz.prog 61 #[.slice none 0 0] w fun e w' => e = .returned (.bool true) ∧ Below w.heap.size w w' := by
  go_enter Tryz.func61, Tryz.ntmps61
  go_wp2_with fail
  go_loopg [3] 0 (fun kx s3 wr => s3 = .int .i64 0 ∧ Hid (Below w.heap.size w wr))
  case atStart => exact ⟨rfl, Lib.hid (Below.refl _ _)⟩
  case round =>
    obtain ⟨rfl, HB⟩ := hrel
    obtain ⟨iS, hiS, hzS, hsS, hbS⟩ := info_parts infoNDirties
    go_wp2_with (first | (at_make; refine wpList_make_full _ rfl _ _ 68 rfl wr.heap.size 165 iS _ 1 Tryz.underlying68 hiS hzS hsS .i64 .i64 _ _ 0 rfl rfl rfl rfl (by rw [hbS]; decide) (by decide) (Nat.le_refl _) ?_))
    intro w1 hH hg1
    have HB1 := Lib.hid (below_grown HB.out hg1 HB.out.size (fun _ h => by cases h))
    clear hH hg1 hiS hzS hsS hbS HB
    go_wp2_with fail
    go_loopg [6] 0 (fun kx s6 wr => s6 = .int .i64 0 ∧ Hid (Below w.heap.size w wr))
    case atStart => exact ⟨rfl, HB1⟩
    case round =>
      clear HB1
      obtain ⟨rfl, HB2⟩ := hrel
      go_wp2_with fail
      go_loopg [9] 0 (fun kx s9 wr => s9 = .int .i64 0 ∧ Hid (Below w.heap.size w wr))
      case atStart => exact ⟨rfl, HB2⟩
      case round =>
        clear HB2
        obtain ⟨rfl, HB3⟩ := hrel
        go_wp2_with fail
        go_loopg [11] 0 (fun kx s11 wr => s11 = .int .i64 0 ∧ Hid (Below w.heap.size w wr))
        case atStart => exact ⟨rfl, HB3⟩
        case round =>
          clear HB3
          obtain ⟨rfl, HB4⟩ := hrel
          go_wp2_with fail
          go_loopg [14] 0 (fun kx s14 wr => s14 = .int .i64 0 ∧ Hid (Below w.heap.size w wr))
          case atStart => exact ⟨rfl, HB4⟩
          case round =>
            clear HB4
            obtain ⟨rfl, HB5⟩ := hrel
            go_wp2_with fail
            go_ret
            exact ⟨rfl, HB5.out⟩
theorem infoNOpens : (Tryz.prog.info? 169).map (fun i => (i.zero, i.size, i.bytes)) = some (some (.slice none 0 0), 1, 24) := by kernel_rfl
set_option maxHeartbeats 4000000 in
set_option maxRecDepth 100000 in
theorem flatOpens_nil (w : World) : Calls Tryz.prog 62 #[.slice none 0 0] w fun e w' => e = .returned (.bool true) ∧ Below w.heap.size w w' := by
  go_enter Tryz.func62, Tryz.ntmps62
  go_wp2_with fail
  go_loopg [3] 0 (fun kx s3 wr => s3 = .int .i64 0 ∧ Hid (Below w.heap.size w wr))
  case atStart => exact ⟨rfl, Lib.hid (Below.refl _ _)⟩
  case round =>
    obtain ⟨rfl, HB⟩ := hrel
    obtain ⟨iS, hiS, hzS, hsS, hbS⟩ := info_parts infoNOpens
    go_wp2_with (first | (at_make; refine wpList_make_full _ rfl _ _ 69 rfl wr.heap.size 169 iS _ 1 Tryz.underlying69 hiS hzS hsS .i64 .i64 _ _ 0 rfl rfl rfl rfl (by rw [hbS]; decide) (by decide) (Nat.le_refl _) ?_))
    intro w1 hH hg1
    have HB1 := Lib.hid (below_grown HB.out hg1 HB.out.size (fun _ h => by cases h))
    clear hH hg1 hiS hzS hsS hbS HB
    go_wp2_with fail
    go_loopg [6] 0 (fun kx s6 wr => s6 = .int .i64 0 ∧ Hid (Below w.heap.size w wr))
    case atStart => exact ⟨rfl, HB1⟩
    case round =>
      clear HB1
      obtain ⟨rfl, HB2⟩ := hrel
      go_wp2_with fail
      go_loopg [9] 0 (fun kx s9 wr => s9 = .int .i64 0 ∧ Hid (Below w.heap.size w wr))
      case atStart => exact ⟨rfl, HB2⟩
      case round =>
        clear HB2
        obtain ⟨rfl, HB3⟩ := hrel
        go_wp2_with fail
        go_loopg [11] 0 (fun kx s11 wr => s11 = .int .i64 0 ∧ Hid (Below w.heap.size w wr))
        case atStart => exact ⟨rfl, HB3⟩
        case round =>
          clear HB3
          obtain ⟨rfl, HB4⟩ := hrel
          go_wp2_with fail
          go_loopg [14] 0 (fun kx s14 wr => s14 = .int .i64 0 ∧ Hid (Below w.heap.size w wr))
          case atStart => exact ⟨rfl, HB4⟩
          case round =>
            clear HB4
            obtain ⟨rfl, HB5⟩ := hrel
            go_wp2_with fail
            go_ret
            exact ⟨rfl, HB5.out⟩
theorem infoNRecords : (Tryz.prog.info? 173).map (fun i => (i.zero, i.size, i.bytes)) = some (some (.slice none 0 0), 1, 24) := by kernel_rfl
set_option maxHeartbeats 4000000 in
set_option maxRecDepth 100000 in
theorem flatRecords_nil (w : World) : Calls Tryz.prog 63 #[.slice none 0 0] w fun e w' => e = .returned (.bool true) ∧ Below w.heap.size w w' := by
  go_enter Tryz.func63, Tryz.ntmps63
  go_wp2_with fail
  go_loopg [3] 0 (fun kx s3 wr => s3 = .int .i64 0 ∧ Hid (Below w.heap.size w wr))
  case atStart => exact ⟨rfl, Lib.hid (Below.refl _ _)⟩
  case round =>
    obtain ⟨rfl, HB⟩ := hrel
    obtain ⟨iS, hiS, hzS, hsS, hbS⟩ := info_parts infoNRecords
    go_wp2_with (first | (at_make; refine wpList_make_full _ rfl _ _ 70 rfl wr.heap.size 173 iS _ 1 Tryz.underlying70 hiS hzS hsS .i64 .i64 _ _ 0 rfl rfl rfl rfl (by rw [hbS]; decide) (by decide) (Nat.le_refl _) ?_))
    intro w1 hH hg1
    have HB1 := Lib.hid (below_grown HB.out hg1 HB.out.size (fun _ h => by cases h))
    clear hH hg1 hiS hzS hsS hbS HB
    go_wp2_with fail
    go_loopg [6] 0 (fun kx s6 wr => s6 = .int .i64 0 ∧ Hid (Below w.heap.size w wr))
    case atStart => exact ⟨rfl, HB1⟩
    case round =>
      clear HB1
      obtain ⟨rfl, HB2⟩ := hrel
      go_wp2_with fail
      go_loopg [9] 0 (fun kx s9 wr => s9 = .int .i64 0 ∧ Hid (Below w.heap.size w wr))
      case atStart => exact ⟨rfl, HB2⟩
      case round =>
        clear HB2
        obtain ⟨rfl, HB3⟩ := hrel
        go_wp2_with fail
        go_loopg [11] 0 (fun kx s11 wr => s11 = .int .i64 0 ∧ Hid (Below w.heap.size w wr))
        case atStart => exact ⟨rfl, HB3⟩
        case round =>
          clear HB3
          obtain ⟨rfl, HB4⟩ := hrel
          go_wp2_with fail
          go_loopg [14] 0 (fun kx s14 wr => s14 = .int .i64 0 ∧ Hid (Below w.heap.size w wr))
          case atStart => exact ⟨rfl, HB4⟩
          case round =>
            clear HB4
            obtain ⟨rfl, HB5⟩ := hrel
            go_wp2_with fail
            go_ret
            exact ⟨rfl, HB5.out⟩
theorem infoNSteps : (Tryz.prog.info? 179).map (fun i => (i.zero, i.size, i.bytes)) = some (some (.slice none 0 0), 1, 24) := by kernel_rfl
set_option maxHeartbeats 4000000 in
set_option maxRecDepth 100000 in
theorem flatSteps_nil (w : World) : Calls Tryz.prog 64 #[.slice none 0 0] w fun e w' => e = .returned (.bool true) ∧ Below w.heap.size w w' := by
  go_enter Tryz.func64, Tryz.ntmps64
  go_wp2_with fail
  go_loopg [3] 0 (fun kx s3 wr => s3 = .int .i64 0 ∧ Hid (Below w.heap.size w wr))
  case atStart => exact ⟨rfl, Lib.hid (Below.refl _ _)⟩
  case round =>
    obtain ⟨rfl, HB⟩ := hrel
    obtain ⟨iS, hiS, hzS, hsS, hbS⟩ := info_parts infoNSteps
    go_wp2_with (first | (at_make; refine wpList_make_full _ rfl _ _ 71 rfl wr.heap.size 179 iS _ 1 Tryz.underlying71 hiS hzS hsS .i64 .i64 _ _ 0 rfl rfl rfl rfl (by rw [hbS]; decide) (by decide) (Nat.le_refl _) ?_))
    intro w1 hH hg1
    have HB1 := Lib.hid (below_grown HB.out hg1 HB.out.size (fun _ h => by cases h))
    clear hH hg1 hiS hzS hsS hbS HB
    go_wp2_with fail
    go_loopg [6] 0 (fun kx s6 wr => s6 = .int .i64 0 ∧ Hid (Below w.heap.size w wr))
    case atStart => exact ⟨rfl, HB1⟩
    case round =>
      clear HB1
      obtain ⟨rfl, HB2⟩ := hrel
      go_wp2_with fail
      go_loopg [9] 0 (fun kx s9 wr => s9 = .int .i64 0 ∧ Hid (Below w.heap.size w wr))
      case atStart => exact ⟨rfl, HB2⟩
      case round =>
        clear HB2
        obtain ⟨rfl, HB3⟩ := hrel
        go_wp2_with fail
        go_loopg [11] 0 (fun kx s11 wr => s11 = .int .i64 0 ∧ Hid (Below w.heap.size w wr))
        case atStart => exact ⟨rfl, HB3⟩
        case round =>
          clear HB3
          obtain ⟨rfl, HB4⟩ := hrel
          go_wp2_with fail
          go_loopg [14] 0 (fun kx s14 wr => s14 = .int .i64 0 ∧ Hid (Below w.heap.size w wr))
          case atStart => exact ⟨rfl, HB4⟩
          case round =>
            clear HB4
            obtain ⟨rfl, HB5⟩ := hrel
            go_wp2_with fail
            go_ret
            exact ⟨rfl, HB5.out⟩
theorem infoNTales : (Tryz.prog.info? 185).map (fun i => (i.zero, i.size, i.bytes)) = some (some (.slice none 0 0), 1, 24) := by kernel_rfl
set_option maxHeartbeats 4000000 in
set_option maxRecDepth 100000 in
theorem flatTales_nil (w : World) : Calls Tryz.prog 65 #[.slice none 0 0] w fun e w' => e = .returned (.bool true) ∧ Below w.heap.size w w' := by
  go_enter Tryz.func65, Tryz.ntmps65
  go_wp2_with fail
  go_loopg [3] 0 (fun kx s3 wr => s3 = .int .i64 0 ∧ Hid (Below w.heap.size w wr))
  case atStart => exact ⟨rfl, Lib.hid (Below.refl _ _)⟩
  case round =>
    obtain ⟨rfl, HB⟩ := hrel
    obtain ⟨iS, hiS, hzS, hsS, hbS⟩ := info_parts infoNTales
    go_wp2_with (first | (at_make; refine wpList_make_full _ rfl _ _ 72 rfl wr.heap.size 185 iS _ 1 Tryz.underlying72 hiS hzS hsS .i64 .i64 _ _ 0 rfl rfl rfl rfl (by rw [hbS]; decide) (by decide) (Nat.le_refl _) ?_))
    intro w1 hH hg1
    have HB1 := Lib.hid (below_grown HB.out hg1 HB.out.size (fun _ h => by cases h))
    clear hH hg1 hiS hzS hsS hbS HB
    go_wp2_with fail
    go_loopg [6] 0 (fun kx s6 wr => s6 = .int .i64 0 ∧ Hid (Below w.heap.size w wr))
    case atStart => exact ⟨rfl, HB1⟩
    case round =>
      clear HB1
      obtain ⟨rfl, HB2⟩ := hrel
      go_wp2_with fail
      go_loopg [9] 0 (fun kx s9 wr => s9 = .int .i64 0 ∧ Hid (Below w.heap.size w wr))
      case atStart => exact ⟨rfl, HB2⟩
      case round =>
        clear HB2
        obtain ⟨rfl, HB3⟩ := hrel
        go_wp2_with fail
        go_loopg [11] 0 (fun kx s11 wr => s11 = .int .i64 0 ∧ Hid (Below w.heap.size w wr))
        case atStart => exact ⟨rfl, HB3⟩
        case round =>
          clear HB3
          obtain ⟨rfl, HB4⟩ := hrel
          go_wp2_with fail
          go_loopg [14] 0 (fun kx s14 wr => s14 = .int .i64 0 ∧ Hid (Below w.heap.size w wr))
          case atStart => exact ⟨rfl, HB4⟩
          case round =>
            clear HB4
            obtain ⟨rfl, HB5⟩ := hrel
            go_wp2_with fail
            go_ret
            exact ⟨rfl, HB5.out⟩
end Go.Proofs.YtckekncllmhohaaGreat.Ap
namespace Go.Proofs.YtckekncllmhohaaGreat.Ap
open Go.RowKit Go.Sort Go.Lib Go.Proofs
set_option linter.all false

theorem builtPLots (A : Option Addr) (n c : Nat) : Tryz.prog.builtSlice 22 1 [(0, .slice A n c)] = some [Value.slice A n c].toArray := by kernel_rfl
set_option maxHeartbeats 4000000 in
set_option maxRecDepth 100000 in
theorem putLots_runs (B Bk : Nat) (cur : Array Value) (v : Value) (n : Nat) (hs : List Value) (A : Option Addr) (x c : Nat) (w : World)
    (hb : w.heap[Bk]? = some (.cells cur 74 (0, 0))) (hB : B ≤ Bk) (hc : cur[6]? = some v) (how : ownW w B 22 1 v n hs) (hn : n ≤ 1000000000) :
    Calls Tryz.prog 34 #[.pointer (some ⟨Bk, 0, none⟩), .slice A x c] w fun e w' => e = .returned (.tuple #[]) ∧ Below B w w' ∧ ∃ v', w'.heap[Bk]? = some (.cells (cur.setIfInBounds 6 v') 74 (0, 0)) ∧ ownW w' B 22 1 v' (n + 1) (hs ++ [.slice A x c]) := by
  obtain ⟨A0, c0, rfl, hnc, -⟩ := how.slice
  have HB := Lib.hid hb
  have HBB := Lib.hid hB
  have HOW := Lib.hid how
  have hlt := (Array.getElem?_eq_some_iff.1 hb).1
  have hcell : w.cell? ⟨Bk, 6, none⟩ = some (.slice A0 n c0) := cell_hd hb hc
  have hBs : B ≤ w.heap.size := by omega
  clear hb how
  go_enter Tryz.func34, Tryz.ntmps34
  go_wp2_with (first | ((with_reducible refine gate_bs _ _ #[(0, .tmp 9)] rfl ?_); go_loud (refine wpList_buildV rfl 33 22 (.tmp 9) rfl Tryz.underlying33 w.heap.size rfl (.slice A x c) [.slice A x c] rfl (builtPLots A x c) ?_)) | ((with_reducible refine gate_ap #[.tmp 8, .tmp 10] _ rfl ?_); go_loud (refine wpList_append_ownW _ rfl (.tmp 8) (.tmp 10) 33 rfl B 22 (.slice none 0 0) 1 24 Tryz.underlying33 infoNLots rfl (by decide) (.slice A0 n c0) n hs rfl (HOW.out.below (Below.alloc (Below.refl _ _) (Nat.le_refl _) _)) ⟨w.heap.size, 0, none⟩ 1 1 [.slice A x c] rfl rfl (new_cell w [.slice A x c] 22) (by intro u hu; rw [List.mem_singleton.1 hu]; rfl) (by decide) (by simp only [maxLen]; omega) (by omega) (Nat.le_trans hBs (alloc_le w _)) ?_; intro v' w2 ho2 hg2 hs2 hkk; have HB2 : Hid (w2.heap[Bk]? = some (.cells cur 74 (0, 0))) := Lib.hid ((hg2.block Bk (Nat.lt_of_lt_of_le hlt (alloc_le w _)) (own_ne HOW.out HB.out (by decide))).trans ((Below.heap_alloc w _ _ hlt).trans HB.out)); have hcell2 : w2.cell? ⟨Bk, 6, none⟩ = some (.slice A0 n c0) := cell_hd HB2.out hc; have hfz := froz_of HB2.out 6; obtain ⟨A2, c2, rfl, -, -⟩ := ho2.slice; have HO2 := Lib.hid ho2; have HG2 := Lib.hid hg2; clear ho2 hg2 hs2 hkk)))
  go_end0
  refine ⟨rfl, ?_, .slice A2 (n + 1) c2, ?_, ?_⟩
  · exact (below_grown (Below.alloc (Below.refl B w) hBs _) HG2.out (Nat.le_trans hBs (alloc_le w _)) (fun k hk => (HOW.out.lt k hk).1)).setCell (p := ⟨Bk, 6, none⟩) HBB.out _
  · exact setCell_block HB2.out 6 _
  · exact HO2.out.keep (fun k hk => Below.heap_setCell w2 ⟨Bk, 6, none⟩ _ k (own_ne2 HO2.out HB2.out (by decide) hk))
end Go.Proofs.YtckekncllmhohaaGreat.Ap
namespace Go.Proofs.YtckekncllmhohaaGreat.Ap
open Go.RowKit Go.Sort Go.Lib Go.Proofs
set_option linter.all false
attribute [local irreducible] Go.Calls
set_option maxHeartbeats 8000000 in
set_option maxRecDepth 100000 in
theorem apartLots_runs (Bk : Nat) (cur : Array Value) (m G capG B : Nat) (cG : Array Value) (v : Nat → Value) (n : Nat → Nat) (w : World)
    (hb : w.heap[Bk]? = some (.cells cur 74 (0, 0))) (hnil : ∀ f, f < 23 → f ≠ 6 → cur[f]? = some (.slice none 0 0)) (hbag : cur[6]? = some (.slice (some ⟨G, 0, none⟩) m capG))
    (hG : w.heap[G]? = some (.cells cG 22 (0, 0))) (hv : ∀ k, k < m → cG[k]? = some (v k)) (hown : ∀ k, k < m → ∃ xs, ownW w B 41 6 (v k) (n k) xs)
    (hap : ∀ j k, j < m → k < m → j ≠ k → ∀ b, (v j).ownBlock = some b → (v k).ownBlock ≠ some b) (hn : ∀ k, k < m → n k ≤ 1000000000) (hm : m ≤ 1000000000) (hB : B ≤ w.heap.size) :
    Calls Tryz.prog 35 #[.pointer (some ⟨Bk, 0, none⟩)] w fun e w' => e = .returned (.bool true) ∧ Below B w w' := by
  have HN := Lib.hid hnil
  have HG0 := Lib.hid hG
  have HV := Lib.hid hv
  have HOW := Lib.hid hown
  have HAP := Lib.hid hap
  have HNN := Lib.hid hn
  have HK0 := Lib.hid hb
  have HS0 := Lib.hid hB
  have HB0 : Hid (Below B w w) := Lib.hid (Below.refl _ _)
  have HW0 : Hid (Below w.heap.size w w) := Lib.hid (Below.refl _ _)
  have c0 : w.cell? ⟨Bk, 0, none⟩ = some (.slice none 0 0) := cell_hd HK0.out (HN.out 0 (by decide) (by decide))
  clear hnil hG hv hown hap hn hb hB
  go_enter Tryz.func35, Tryz.ntmps35
  go_wp2_with fail
  refine (flatWords_nil _).mono ?_
  rintro e w1 ⟨rfl, hb⟩
  have HK1 := Lib.hid ((hb.block Bk (Array.getElem?_eq_some_iff.1 HK0.out).1).trans HK0.out)
  have HB1 := Lib.hid (below_on HB0.out HS0.out hb)
  have HS1 := Lib.hid (Nat.le_trans HS0.out hb.size)
  have HW1 := Lib.hid (below_on HW0.out HW0.out.size hb)
  clear hb c0 HB0 HS0 HK0 HW0
  have c1 : w1.cell? ⟨Bk, 1, none⟩ = some (.slice none 0 0) := cell_hd HK1.out (HN.out 1 (by decide) (by decide))
  go_wp2_with fail
  refine (flatInts_nil _).mono ?_
  rintro e w2 ⟨rfl, hb⟩
  have HK2 := Lib.hid ((hb.block Bk (Array.getElem?_eq_some_iff.1 HK1.out).1).trans HK1.out)
  have HB2 := Lib.hid (below_on HB1.out HS1.out hb)
  have HS2 := Lib.hid (Nat.le_trans HS1.out hb.size)
  have HW2 := Lib.hid (below_on HW1.out HW1.out.size hb)
  clear hb c1 HB1 HS1 HK1 HW1
  have c2 : w2.cell? ⟨Bk, 2, none⟩ = some (.slice none 0 0) := cell_hd HK2.out (HN.out 2 (by decide) (by decide))
  go_wp2_with fail
  refine (flatLongs_nil _).mono ?_
  rintro e w3 ⟨rfl, hb⟩
  have HK3 := Lib.hid ((hb.block Bk (Array.getElem?_eq_some_iff.1 HK2.out).1).trans HK2.out)
  have HB3 := Lib.hid (below_on HB2.out HS2.out hb)
  have HS3 := Lib.hid (Nat.le_trans HS2.out hb.size)
  have HW3 := Lib.hid (below_on HW2.out HW2.out.size hb)
  clear hb c2 HB2 HS2 HK2 HW2
  have c3 : w3.cell? ⟨Bk, 3, none⟩ = some (.slice none 0 0) := cell_hd HK3.out (HN.out 3 (by decide) (by decide))
  go_wp2_with fail
  refine (flatTexts_nil _).mono ?_
  rintro e w4 ⟨rfl, hb⟩
  have HK4 := Lib.hid ((hb.block Bk (Array.getElem?_eq_some_iff.1 HK3.out).1).trans HK3.out)
  have HB4 := Lib.hid (below_on HB3.out HS3.out hb)
  have HS4 := Lib.hid (Nat.le_trans HS3.out hb.size)
  have HW4 := Lib.hid (below_on HW3.out HW3.out.size hb)
  clear hb c3 HB3 HS3 HK3 HW3
  have c4 : w4.cell? ⟨Bk, 4, none⟩ = some (.slice none 0 0) := cell_hd HK4.out (HN.out 4 (by decide) (by decide))
  go_wp2_with fail
  refine (flatBytes_nil _).mono ?_
  rintro e w5 ⟨rfl, hb⟩
  have HK5 := Lib.hid ((hb.block Bk (Array.getElem?_eq_some_iff.1 HK4.out).1).trans HK4.out)
  have HB5 := Lib.hid (below_on HB4.out HS4.out hb)
  have HS5 := Lib.hid (Nat.le_trans HS4.out hb.size)
  have HW5 := Lib.hid (below_on HW4.out HW4.out.size hb)
  clear hb c4 HB4 HS4 HK4 HW4
  have c5 : w5.cell? ⟨Bk, 5, none⟩ = some (.slice none 0 0) := cell_hd HK5.out (HN.out 5 (by decide) (by decide))
  go_wp2_with fail
  refine (flatWindows_nil _).mono ?_
  rintro e w6 ⟨rfl, hb⟩
  have HK6 := Lib.hid ((hb.block Bk (Array.getElem?_eq_some_iff.1 HK5.out).1).trans HK5.out)
  have HB6 := Lib.hid (below_on HB5.out HS5.out hb)
  have HS6 := Lib.hid (Nat.le_trans HS5.out hb.size)
  have HW6 := Lib.hid (below_on HW5.out HW5.out.size hb)
  clear hb c5 HB5 HS5 HK5 HW5
  have c6 : w6.cell? ⟨Bk, 6, none⟩ = some (.slice (some ⟨G, 0, none⟩) m capG) := cell_hd HK6.out hbag
  go_wp2_with fail
  refine (flatLots_rows m G capG B cG v n w6 ((HW6.out.block G (Array.getElem?_eq_some_iff.1 HG0.out).1).trans HG0.out) HV.out (fun k hk => (HOW.out k hk).imp fun xs h => h.below HW6.out) HAP.out HNN.out hm HS6.out).mono ?_
  rintro e w7 ⟨rfl, hb⟩
  have HK7 := Lib.hid ((hb.side Bk 74 cur (by decide) HK6.out).trans HK6.out)
  have HB7 := Lib.hid (HB6.out.trans hb.below)
  have HS7 := Lib.hid (Nat.le_trans HS6.out hb.below.size)
  clear hb c6 HB6 HS6 HK6 HW6
  have c7 : w7.cell? ⟨Bk, 7, none⟩ = some (.slice none 0 0) := cell_hd HK7.out (HN.out 7 (by decide) (by decide))
  go_wp2_with fail
  refine (flatWants_nil _).mono ?_
  rintro e w8 ⟨rfl, hb⟩
  have HK8 := Lib.hid ((hb.block Bk (Array.getElem?_eq_some_iff.1 HK7.out).1).trans HK7.out)
  have HB8 := Lib.hid (below_on HB7.out HS7.out hb)
  have HS8 := Lib.hid (Nat.le_trans HS7.out hb.size)
  clear hb c7 HB7 HS7 HK7
  have c8 : w8.cell? ⟨Bk, 8, none⟩ = some (.slice none 0 0) := cell_hd HK8.out (HN.out 8 (by decide) (by decide))
  go_wp2_with fail
  refine (flatUses_nil _).mono ?_
  rintro e w9 ⟨rfl, hb⟩
  have HK9 := Lib.hid ((hb.block Bk (Array.getElem?_eq_some_iff.1 HK8.out).1).trans HK8.out)
  have HB9 := Lib.hid (below_on HB8.out HS8.out hb)
  have HS9 := Lib.hid (Nat.le_trans HS8.out hb.size)
  clear hb c8 HB8 HS8 HK8
  have c9 : w9.cell? ⟨Bk, 9, none⟩ = some (.slice none 0 0) := cell_hd HK9.out (HN.out 9 (by decide) (by decide))
  go_wp2_with fail
  refine (flatParts_nil _).mono ?_
  rintro e w10 ⟨rfl, hb⟩
  have HK10 := Lib.hid ((hb.block Bk (Array.getElem?_eq_some_iff.1 HK9.out).1).trans HK9.out)
  have HB10 := Lib.hid (below_on HB9.out HS9.out hb)
  have HS10 := Lib.hid (Nat.le_trans HS9.out hb.size)
  clear hb c9 HB9 HS9 HK9
  have c10 : w10.cell? ⟨Bk, 10, none⟩ = some (.slice none 0 0) := cell_hd HK10.out (HN.out 10 (by decide) (by decide))
  go_wp2_with fail
  refine (flatItems_nil _).mono ?_
  rintro e w11 ⟨rfl, hb⟩
  have HK11 := Lib.hid ((hb.block Bk (Array.getElem?_eq_some_iff.1 HK10.out).1).trans HK10.out)
  have HB11 := Lib.hid (below_on HB10.out HS10.out hb)
  have HS11 := Lib.hid (Nat.le_trans HS10.out hb.size)
  clear hb c10 HB10 HS10 HK10
  have c11 : w11.cell? ⟨Bk, 11, none⟩ = some (.slice none 0 0) := cell_hd HK11.out (HN.out 11 (by decide) (by decide))
  go_wp2_with fail
  refine (flatLines_nil _).mono ?_
  rintro e w12 ⟨rfl, hb⟩
  have HK12 := Lib.hid ((hb.block Bk (Array.getElem?_eq_some_iff.1 HK11.out).1).trans HK11.out)
  have HB12 := Lib.hid (below_on HB11.out HS11.out hb)
  have HS12 := Lib.hid (Nat.le_trans HS11.out hb.size)
  clear hb c11 HB11 HS11 HK11
  have c12 : w12.cell? ⟨Bk, 12, none⟩ = some (.slice none 0 0) := cell_hd HK12.out (HN.out 12 (by decide) (by decide))
  go_wp2_with fail
  refine (flatAsks_nil _).mono ?_
  rintro e w13 ⟨rfl, hb⟩
  have HK13 := Lib.hid ((hb.block Bk (Array.getElem?_eq_some_iff.1 HK12.out).1).trans HK12.out)
  have HB13 := Lib.hid (below_on HB12.out HS12.out hb)
  have HS13 := Lib.hid (Nat.le_trans HS12.out hb.size)
  clear hb c12 HB12 HS12 HK12
  have c13 : w13.cell? ⟨Bk, 13, none⟩ = some (.slice none 0 0) := cell_hd HK13.out (HN.out 13 (by decide) (by decide))
  go_wp2_with fail
  refine (flatTells_nil _).mono ?_
  rintro e w14 ⟨rfl, hb⟩
  have HK14 := Lib.hid ((hb.block Bk (Array.getElem?_eq_some_iff.1 HK13.out).1).trans HK13.out)
  have HB14 := Lib.hid (below_on HB13.out HS13.out hb)
  have HS14 := Lib.hid (Nat.le_trans HS13.out hb.size)
  clear hb c13 HB13 HS13 HK13
  have c14 : w14.cell? ⟨Bk, 14, none⟩ = some (.slice none 0 0) := cell_hd HK14.out (HN.out 14 (by decide) (by decide))
  go_wp2_with fail
  refine (flatStates_nil _).mono ?_
  rintro e w15 ⟨rfl, hb⟩
  have HK15 := Lib.hid ((hb.block Bk (Array.getElem?_eq_some_iff.1 HK14.out).1).trans HK14.out)
  have HB15 := Lib.hid (below_on HB14.out HS14.out hb)
  have HS15 := Lib.hid (Nat.le_trans HS14.out hb.size)
  clear hb c14 HB14 HS14 HK14
  have c15 : w15.cell? ⟨Bk, 15, none⟩ = some (.slice none 0 0) := cell_hd HK15.out (HN.out 15 (by decide) (by decide))
  go_wp2_with fail
  refine (flatRows_nil _).mono ?_
  rintro e w16 ⟨rfl, hb⟩
  have HK16 := Lib.hid ((hb.block Bk (Array.getElem?_eq_some_iff.1 HK15.out).1).trans HK15.out)
  have HB16 := Lib.hid (below_on HB15.out HS15.out hb)
  have HS16 := Lib.hid (Nat.le_trans HS15.out hb.size)
  clear hb c15 HB15 HS15 HK15
  have c16 : w16.cell? ⟨Bk, 16, none⟩ = some (.slice none 0 0) := cell_hd HK16.out (HN.out 16 (by decide) (by decide))
  go_wp2_with fail
  refine (flatTurns_nil _).mono ?_
  rintro e w17 ⟨rfl, hb⟩
  have HK17 := Lib.hid ((hb.block Bk (Array.getElem?_eq_some_iff.1 HK16.out).1).trans HK16.out)
  have HB17 := Lib.hid (below_on HB16.out HS16.out hb)
  have HS17 := Lib.hid (Nat.le_trans HS16.out hb.size)
  clear hb c16 HB16 HS16 HK16
  have c17 : w17.cell? ⟨Bk, 17, none⟩ = some (.slice none 0 0) := cell_hd HK17.out (HN.out 17 (by decide) (by decide))
  go_wp2_with fail
  refine (flatFates_nil _).mono ?_
  rintro e w18 ⟨rfl, hb⟩
  have HK18 := Lib.hid ((hb.block Bk (Array.getElem?_eq_some_iff.1 HK17.out).1).trans HK17.out)
  have HB18 := Lib.hid (below_on HB17.out HS17.out hb)
  have HS18 := Lib.hid (Nat.le_trans HS17.out hb.size)
  clear hb c17 HB17 HS17 HK17
  have c18 : w18.cell? ⟨Bk, 18, none⟩ = some (.slice none 0 0) := cell_hd HK18.out (HN.out 18 (by decide) (by decide))
  go_wp2_with fail
  refine (flatDirties_nil _).mono ?_
  rintro e w19 ⟨rfl, hb⟩
  have HK19 := Lib.hid ((hb.block Bk (Array.getElem?_eq_some_iff.1 HK18.out).1).trans HK18.out)
  have HB19 := Lib.hid (below_on HB18.out HS18.out hb)
  have HS19 := Lib.hid (Nat.le_trans HS18.out hb.size)
  clear hb c18 HB18 HS18 HK18
  have c19 : w19.cell? ⟨Bk, 19, none⟩ = some (.slice none 0 0) := cell_hd HK19.out (HN.out 19 (by decide) (by decide))
  go_wp2_with fail
  refine (flatOpens_nil _).mono ?_
  rintro e w20 ⟨rfl, hb⟩
  have HK20 := Lib.hid ((hb.block Bk (Array.getElem?_eq_some_iff.1 HK19.out).1).trans HK19.out)
  have HB20 := Lib.hid (below_on HB19.out HS19.out hb)
  have HS20 := Lib.hid (Nat.le_trans HS19.out hb.size)
  clear hb c19 HB19 HS19 HK19
  have c20 : w20.cell? ⟨Bk, 20, none⟩ = some (.slice none 0 0) := cell_hd HK20.out (HN.out 20 (by decide) (by decide))
  go_wp2_with fail
  refine (flatRecords_nil _).mono ?_
  rintro e w21 ⟨rfl, hb⟩
  have HK21 := Lib.hid ((hb.block Bk (Array.getElem?_eq_some_iff.1 HK20.out).1).trans HK20.out)
  have HB21 := Lib.hid (below_on HB20.out HS20.out hb)
  have HS21 := Lib.hid (Nat.le_trans HS20.out hb.size)
  clear hb c20 HB20 HS20 HK20
  have c21 : w21.cell? ⟨Bk, 21, none⟩ = some (.slice none 0 0) := cell_hd HK21.out (HN.out 21 (by decide) (by decide))
  go_wp2_with fail
  refine (flatSteps_nil _).mono ?_
  rintro e w22 ⟨rfl, hb⟩
  have HK22 := Lib.hid ((hb.block Bk (Array.getElem?_eq_some_iff.1 HK21.out).1).trans HK21.out)
  have HB22 := Lib.hid (below_on HB21.out HS21.out hb)
  have HS22 := Lib.hid (Nat.le_trans HS21.out hb.size)
  clear hb c21 HB21 HS21 HK21
  have c22 : w22.cell? ⟨Bk, 22, none⟩ = some (.slice none 0 0) := cell_hd HK22.out (HN.out 22 (by decide) (by decide))
  go_wp2_with fail
  refine (flatTales_nil _).mono ?_
  rintro e w23 ⟨rfl, hb⟩
  have HK23 := Lib.hid ((hb.block Bk (Array.getElem?_eq_some_iff.1 HK22.out).1).trans HK22.out)
  have HB23 := Lib.hid (below_on HB22.out HS22.out hb)
  have HS23 := Lib.hid (Nat.le_trans HS22.out hb.size)
  clear hb c22 HB22 HS22 HK22
  go_wp2_with fail
  go_ret
  exact ⟨rfl, HB23.out⟩
end Go.Proofs.YtckekncllmhohaaGreat.Ap
namespace Go.Proofs.YtckekncllmhohaaGreat.Ap
open Go.RowKit Go.Sort Go.Lib Go.Proofs
set_option linter.all false
attribute [local irreducible] Go.Calls
set_option maxHeartbeats 8000000 in
set_option maxRecDepth 100000 in
theorem ApartLots_runs (m G capG B : Nat) (cG : Array Value) (v : Nat → Value) (n : Nat → Nat) (w : World) (h0 : 0 < m)
    (hG : w.heap[G]? = some (.cells cG 22 (0, 0))) (hv : ∀ k, k < m → cG[k]? = some (v k)) (hown : ∀ k, k < m → ∃ xs, ownW w B 41 6 (v k) (n k) xs)
    (hap : ∀ j k, j < m → k < m → j ≠ k → ∀ b, (v j).ownBlock = some b → (v k).ownBlock ≠ some b) (hn : ∀ k, k < m → n k ≤ 1000000000) (hm : m ≤ 1000000000) (hB : B ≤ w.heap.size) :
    Calls Tryz.prog 19 #[.slice (some ⟨G, 0, none⟩) m capG] w fun e w' => e = .returned (.bool true) ∧ Below B w w' := by
  have HG0 := Lib.hid hG
  have HV := Lib.hid hv
  have HOW := Lib.hid hown
  have HAP := Lib.hid hap
  have HNN := Lib.hid hn
  have HS0 := Lib.hid hB
  clear hG hv hown hap hn hB
  go_enter Tryz.func19, Tryz.ntmps19
  go_wp2_with fail
  have HW1 : Hid (Below w.heap.size w (w.alloc (.cells (Array.replicate 23 (.slice none 0 0)) 74))) := Lib.hid (Below.alloc (Below.refl _ _) (Nat.le_refl _) _)
  have HK1 : Hid (∃ cur, (w.alloc (.cells (Array.replicate 23 (.slice none 0 0)) 74)).heap[w.heap.size]? = some (Obj.cells cur 74 (0, 0)) ∧ (∀ f, f < 23 → f ≠ 6 → cur[f]? = some (.slice none 0 0)) ∧ cur[6]? = some (.slice none 0 0)) :=
    Lib.hid ⟨_, heap_alloc_new w _, fun f hf _ => by rw [Array.getElem?_replicate, if_pos hf], by rw [Array.getElem?_replicate, if_pos (by decide)]⟩
  go_loopg [4] m (fun kx s4 wr => ∃ (k : Nat) (vh : Value), s4 = .int .i64 k ∧ k ≤ m ∧ Hid (m ≤ k + kx) ∧ Hid (∃ cur, wr.heap[w.heap.size]? = some (Obj.cells cur 74 (0, 0)) ∧ (∀ f, f < 23 → f ≠ 6 → cur[f]? = some (.slice none 0 0)) ∧ cur[6]? = some vh) ∧ Hid (ownW wr w.heap.size 22 1 vh k ((List.range k).map v)) ∧ Hid (Below w.heap.size w wr))
  case atStart => exact ⟨0, .slice none 0 0, rfl, Nat.zero_le _, Lib.hid (by omega), HK1, Lib.hid ⟨rfl, .inl ⟨rfl, rfl⟩⟩, HW1⟩
  case round =>
    clear HK1 HW1
    obtain ⟨k, vh, rfl, hkm, HKX, HK, HH, HW⟩ := hrel
    by_cases hk : k < m
    · have hkz : (k : Int) < (m : Int) := by omega
      obtain ⟨A, c, hvk, hnc, -⟩ := (HOW.out k hk).choose_spec.slice
      obtain ⟨cur, hb, hnil, hc⟩ := HK.out
      have hcG : wr.cell? ⟨G, k, none⟩ = some (.slice A (n k) c) := cell_hd ((HW.out.block G (Array.getElem?_eq_some_iff.1 HG0.out).1).trans HG0.out) ((HV.out k hk).trans (congrArg some hvk))
      go_wp2_with (first | (go_at_call 34; refine (putLots_runs w.heap.size w.heap.size cur vh k ((List.range k).map v) A (n k) c wr hb (Nat.le_refl _) hc HH.out (by omega)).mono ?_; rintro e w' ⟨rfl, hb2, v', hk2, ho2⟩; have HB2 := Lib.hid hb2; have HK2 := Lib.hid hk2; have HO2 := Lib.hid ho2; clear hb2 hk2 ho2))
      go_roundg (m - (k + 1))
      case measure => have := HKX.out; omega
      case rel =>
        refine ⟨k + 1, v', by go_num, hk, Lib.hid (by omega), Lib.hid ⟨_, HK2.out, fun f hf hne => ?_, ?_⟩, Lib.hid ?_, Lib.hid (HW.out.trans HB2.out)⟩
        · rw [Array.getElem?_setIfInBounds_ne (by omega)]; exact hnil f hf hne
        · rw [Array.getElem?_setIfInBounds_self, if_pos (Array.getElem?_eq_some_iff.1 hc).1]
        · rw [List.range_succ, List.map_append, List.map_singleton, hvk]; exact HO2.out
    · have hkz : ¬ (k : Int) < (m : Int) := by omega
      obtain rfl : k = m := by omega
      obtain ⟨cur, hb, hnil, hc⟩ := HK.out
      have hl := HH.out.1
      rcases HH.out.2 with ⟨-, h⟩ | ⟨g, cap, cg, rfl, hg, hgg, hnc, hcm, hcs, ht⟩
      · omega
      · go_wp2_with (first | (go_at_call 35; refine (apartLots_runs w.heap.size cur k g cap B cg v n wr hb hnil hc hgg (fun j hj => ?_) (fun j hj => (HOW.out j hj).imp fun xs h => h.below HW.out) HAP.out HNN.out hm (Nat.le_trans HS0.out HW.out.size)).mono ?_; rotate_left; rintro e w' ⟨rfl, hb2⟩; have HB2 := Lib.hid hb2; clear hb2))
        go_ret
        exact ⟨rfl, (below_on (Below.refl B w) HS0.out HW.out).trans HB2.out⟩
        · have : (cg.toList.take (k * 1))[j]? = some (v j) := by rw [ht, List.getElem?_map, List.getElem?_range hj]; rfl
          rw [List.getElem?_take, if_pos (by omega)] at this
          simpa using this
end Go.Proofs.YtckekncllmhohaaGreat.Ap
namespace Go.Proofs.YtckekncllmhohaaGreat.Ap
open Go.RowKit Go.Proofs.YtckekncllmhohaaGreatW.PrintWords Go.Proofs.YtckekncllmhohaaGreatW.PrintLast Go.Proofs.YtckekncllmhohaaGreatW.PrintMore
theorem ownW.base {w : World} {B B' : Nat} {e : TypeId} {K : Nat} {v : Value} {n : Nat} {xs : List Value} (h : ownW w B e K v n xs) (hB : B' ≤ B) : ownW w B' e K v n xs := by
  refine ⟨h.1, ?_⟩
  rcases h.2 with h | ⟨g, cap, cur, h1, h2, h3⟩
  · exact .inl h
  · exact .inr ⟨g, cap, cur, h1, Nat.le_trans hB h2, h3⟩
theorem own_R {α : Type} {d : Kd α} {e base : Nat} {W : World} {ok : Nat → Prop} {v : Value} {xs : List α} (h : Kd.R d e W base ok v xs) : ∃ ys, ownW W base e d.sz v xs.length ys := by
  obtain ⟨-, ys, hy, -⟩ := h
  exact ⟨ys, ownW_of hy⟩
end Go.Proofs.YtckekncllmhohaaGreat.Ap
namespace Go.Proofs.YtckekncllmhohaaGreat.Q
open Go.RowKit Go.Sort Go.Proofs Go.Proofs.YtckekncllmhohaaGreatW.PrintWords Go.Proofs.YtckekncllmhohaaGreatW.PrintLast Go.Proofs.YtckekncllmhohaaGreatW.PrintMore Go.Proofs.YtckekncllmhohaaGreat.G
set_option linter.all false
abbrev LtS := S41
def cellsL (l : List LtS) : List Value := l.flatMap lotEnc
theorem cellsL_length (l : List LtS) : (cellsL l).length = l.length * 6 := by
  unfold cellsL
  induction l with
  | nil => rfl
  | cons x r ih => rw [List.flatMap_cons, List.length_append, ih, lotEnc_len, List.length_cons]; omega
theorem cellsL_get (l : List LtS) (i c : Nat) (hi : i < l.length) (hc : c < 6) : (cellsL l)[i * 6 + c]? = (lotEnc (l.getD i z41))[c]? := by
  induction l generalizing i with
  | nil => simp at hi
  | cons x r ih =>
    unfold cellsL
    rw [List.flatMap_cons]
    cases i with
    | zero => rw [List.getElem?_append_left (by rw [lotEnc_len]; omega), Nat.zero_mul, Nat.zero_add]; rfl
    | succ i =>
      rw [List.getElem?_append_right (by rw [lotEnc_len]; omega), lotEnc_len, show (i + 1) * 6 + c - 6 = i * 6 + c by omega]
      exact ih i (by simpa using hi)
theorem cellsL_one (l : List LtS) : ∀ u ∈ cellsL l, u.oneCell' = true := by
  intro u hu
  obtain ⟨x, -, hx⟩ := List.mem_flatMap.1 hu
  exact lotEnc_one x u hx
theorem cellsL_src {w : World} {A : Option Addr} {l : List LtS} (h : Kd.C k41 w A l.length l) : 0 < l.length → ∃ ad, A = some ad ∧ ∀ j u, (cellsL l)[j]? = some u → w.cell? (ad.add j) = some u := by
  intro hn
  obtain ⟨ad, e, hc⟩ := h.2.2 hn
  refine ⟨ad, e, fun j u hu => ?_⟩
  have hj : j < l.length * 6 := by rw [← cellsL_length]; exact (List.getElem?_eq_some_iff.1 hu).1
  have hi : j / 6 < l.length := by omega
  obtain ⟨c, -, hK, hcell⟩ := hc (j / 6) _ (List.getElem?_eq_getElem hi)
  have hlc : (lotEnc (l.getD (j / 6) z41))[j % 6]? = some u := by rw [← cellsL_get l (j / 6) (j % 6) hi (by omega), show j / 6 * 6 + j % 6 = j by omega]; exact hu
  have e2 : c = lotEnc (l.getD (j / 6) z41) := by
    rw [List.getD_eq_getElem?_getD, List.getElem?_eq_getElem hi]; exact k41_open hK
  have : w.cell? (ad.add (j / 6 * 6 + j % 6)) = some u := hcell (j % 6) u (by rw [e2]; exact hlc)
  rw [show j / 6 * 6 + j % 6 = j by omega] at this
  exact this
theorem cellsL_C {w : World} {g : Nat} {l : List LtS} (hl : l.length ≤ 9223372036854775807) (h : ∀ j u, (cellsL l)[j]? = some u → w.cell? ⟨g, j, none⟩ = some u) : Kd.C k41 w (some ⟨g, 0, none⟩) l.length l := by
  refine ⟨rfl, hl, fun _ => ⟨_, rfl, fun j p hj => ?_⟩⟩
  have hjl := (List.getElem?_eq_some_iff.1 hj).1
  refine ⟨lotEnc p, lotEnc_len p, k41_mk w p, fun i u hu => ?_⟩
  have hi : i < 6 := by have := (List.getElem?_eq_some_iff.1 hu).1; rw [lotEnc_len] at this; exact this
  have hp : l.getD j z41 = p := by rw [List.getD_eq_getElem?_getD, hj]; rfl
  have := h (j * 6 + i) u (by rw [cellsL_get l j i hjl hi, hp]; exact hu)
  have e0 : ∀ n, Addr.add ⟨g, 0, none⟩ n = ⟨g, n, none⟩ := fun n => by
    unfold Addr.add
    split <;> simp_all
  show w.cell? (Addr.add ⟨g, 0, none⟩ (j * 6 + i)) = some u
  rw [e0]
  exact this
theorem lent_C {w : World} {B g : Nat} {zs : List Value} {l : List LtS} (hl : l.length ≤ 9223372036854775807) (h : w.ownsRow B 41 6 (.slice (some ⟨g, 0, none⟩) (l.length + 12) (l.length + 12)) (l.length + 12) (cellsL l ++ zs)) :
    Kd.C k41 w (some ⟨g, 0, none⟩) l.length l :=
  cellsL_C hl (fun j u hu => Ap.row_at h j (by rw [List.getElem?_append_left (List.getElem?_eq_some_iff.1 hu).1]; exact hu))
/-- A field's value. -/
def elL (l : List LtS) (c i : Nat) : Value := (lotEnc (l.getD i z41)).getD c Go.undef
theorem elL_is (l : List LtS) (i : Nat) (hi : i < l.length) (c : Nat) (hc : c < 6) : (cellsL l)[i * 6 + c]? = some (elL l c i) := by
  rw [cellsL_get l i c hi hc]
  unfold elL
  generalize l.getD i z41 = x
  have hx : c < (lotEnc x).length := by rw [lotEnc_len]; exact hc
  rw [List.getD_eq_getElem?_getD, List.getElem?_eq_getElem hx, Option.getD_some]
attribute [local go_sem high] eqA41
theorem elL_same (l : List LtS) (i : Nat) (W : World) : (binOp .eql 41 (.agg #[elL l 0 i, elL l 1 i, elL l 2 i, elL l 3 i, elL l 4 i, elL l 5 i]) (.agg #[elL l 0 i, elL l 1 i, elL l 2 i, elL l 3 i, elL l 4 i, elL l 5 i])).run Tryz.prog W = .ok (.bool true) W := by
  unfold elL
  generalize l.getD i z41 = x
  simp only [lotEnc, List.getD_cons_zero, List.getD_cons_succ]
  go_simp
theorem elL_at {w : World} {A : Option Addr} {l : List LtS} (h : Kd.C k41 w A l.length l) (W : World) (hb : RowKit.Below w.heap.size w W) (i : Nat) (hi : i < l.length) :
    ∃ ad, A = some ad ∧ W.cell? (ad.add (i * 6)) = some (elL l 0 i) ∧ W.cell? ⟨(ad.add (i * 6)).block, (ad.add (i * 6)).off + 1, none⟩ = some (elL l 1 i) ∧ W.cell? ⟨(ad.add (i * 6)).block, (ad.add (i * 6)).off + 2, none⟩ = some (elL l 2 i) ∧ W.cell? ⟨(ad.add (i * 6)).block, (ad.add (i * 6)).off + 3, none⟩ = some (elL l 3 i) ∧ W.cell? ⟨(ad.add (i * 6)).block, (ad.add (i * 6)).off + 4, none⟩ = some (elL l 4 i) ∧ W.cell? ⟨(ad.add (i * 6)).block, (ad.add (i * 6)).off + 5, none⟩ = some (elL l 5 i) := by
  obtain ⟨ad, e, q0, q1, q2, q3, q4, q5⟩ := at_T41 (Kd.C_below h hb) (i : Int) (by omega) (by omega)
  exact ⟨ad, e, q0, q1, q2, q3, q4, q5⟩
/-- What was handed out ahead of a write into an elder block stays. -/
theorem R_over {α : Type} {d : Kd α} {e base : Nat} {W W1 : World} {ok : Nat → Prop} {v : Value} {xs : List α} (h : Kd.R d e W base ok v xs) {g : Nat} (hg : W.grownBy W1 (some g)) (hlt : g < base) : Kd.R d e W1 base ok v xs :=
  Kd.R_mono (Kd.R_grown (Kd.R_bound h) hg (fun k hk e => by have := hk.2.1; simp only [Option.some.injEq] at e; omega)) (fun k hk => hk.1)
end Go.Proofs.YtckekncllmhohaaGreat.Q
