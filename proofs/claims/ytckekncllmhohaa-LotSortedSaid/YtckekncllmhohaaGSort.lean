/- slices' stable sort at the seat's structs: the insertion sort (lines of the kit's worked proof of slices.insertionSortCmpFunc, turned to a 'cmp' whose contract ends in Below). -/
import Derived.Test.YtckekncllmhohaaGSome
import Derived.Shelf.SlSortCmp.InsertionK
import Derived.Lib.QuietBelow
import Derived.Shelf.SlSortCmp.KitK
namespace Go.Proofs.Ytckekncllmhohaa.Q
open Go.Shelf Go.RowKit Go.Lib Go.Sort Go.Proofs
set_option linter.unusedVariables false
set_option linter.unusedSimpArgs false
set_option linter.all false

section
variable {α : Type} [Inhabited α]
theorem sortWorldK_regrown (enc : α → List Value) (k : Nat) (w : World) (h0 : w.drawn = 0) (blk off m n : Nat) (dk : Array α) (os os' : Array Obj) : grow (redrawn (sortWorldK enc k w blk off m dk os) n) os' = sortWorldK enc k w blk off n dk (os ++ os') := by
  have e : redrawn (sortWorldK enc k w blk off m dk os) n = sortWorldK enc k w blk off n dk os := by
    unfold sortWorldK Sort.ahead
    rw [h0, Nat.zero_add, Nat.zero_add]
    rfl
  rw [e]
  unfold sortWorldK
  rw [grow_grow]
theorem hid_start (enc : α → List Value) (k : Nat) (w : World) (blk off : Nat) (d : Array α) (hH : HoldsK enc k w blk off d) : Hid (w = sortWorldK enc k (redrawn w 0) blk off w.drawn d #[]) := by
  have h1 : Sort.ahead (redrawn w 0) w.drawn = w := by
    unfold Sort.ahead redrawn
    simp
  show w = _
  unfold sortWorldK
  rw [grow_empty, h1]
  exact (putRowK_self enc k w blk off d hH).symm

/-- What is asked of 'cmp': in every world of the sort's it tells 'cf', and turns nothing that lay there. -/
def CmpBelow (P : Program) (g : Nat) (cb : Array Value) (enc : α → List Value) (k : Nat) (cf : α → α → Int) (blk off size : Nat) (w0 : World) : Prop :=
  ∀ (dk : Array α) (W : World), dk.size = size → SWK enc k w0 blk off dk W → ∀ x y : α, Calls P g (#[.agg (enc x).toArray, .agg (enc y).toArray] ++ cb) W fun e w' => e = .returned (.int .i64 (cf x y)) ∧ RowKit.Below W.heap.size W w'

set_option maxHeartbeats 4000000 in
set_option maxRecDepth 1000000 in
theorem insertionSort_any {P : Program} (mixed : P.follows .mixedOrders = true) (hF : P.funcs[(34 : Nat)]? = some Try.f34)
    (t3 : P.underlying 3 = some (TypeDesc.int IntKind.i64)) (a3 : ∀ w, (isAgg 3).run P w = .ok false w) (z3 : ∀ w, (Go.sizeOf 3).run P w = .ok 1 w) (v3 : ∀ w, (zeroValue 3).run P w = .ok (Value.int IntKind.i64 0) w)
    (t4 : P.underlying 4 = some TypeDesc.bool) (a4 : ∀ w, (isAgg 4).run P w = .ok false w) (z4 : ∀ w, (Go.sizeOf 4).run P w = .ok 1 w) (v4 : ∀ w, (zeroValue 4).run P w = .ok (Value.bool false) w)
    (t22 : P.underlying 30 = some (TypeDesc.slice 25)) (a22 : ∀ w, (isAgg 30).run P w = .ok false w) (z22 : ∀ w, (Go.sizeOf 30).run P w = .ok 1 w)
    (a25 : ∀ w, (isAgg 27).run P w = .ok false w) (z25 : ∀ w, (Go.sizeOf 27).run P w = .ok 1 w)
    (k : Nat) (aE : ∀ w, (isAgg 25).run P w = .ok true w) (zE : ∀ w, (Go.sizeOf 25).run P w = .ok k w) (enc : α → List Value) (hk : ∀ x, (enc x).length = k) (h1 : ∀ x, ∀ v ∈ enc x, v.oneCell' = true)
    (cf : α → α → Int) (g : Nat) (cb : Array Value) (blk off cap a b : Nat) (d : Array α) (w : World)
    (eg : ∀ args w, (callFunc g args).run P w = .ok (.enter g args) w) (hcmp : CmpBelow P g cb enc k cf blk off d.size (redrawn w 0))
    (hH : HoldsK enc k w blk off d) (hblk : blk < w.heap.size) (hab : a ≤ b) (hb : b ≤ d.size) (hsz : d.size < 4611686018427387904) :
    Calls P 34 #[.slice (some ⟨blk, off, none⟩) d.size cap, .int .i64 a, .int .i64 b, .func (.func g) #[] cb] w fun e w' =>
      e = .returned (.tuple #[]) ∧ ∃ n os, w' = sortWorldK enc k (redrawn w 0) blk off n (Sort.insertionSort (ltOf cf) d a b) os := by
  have u22 := run_underlying t22
  have HC : Aside _ := hcmp
  have HST : Hid (w = sortWorldK enc k (redrawn w 0) blk off w.drawn d #[]) := hid_start enc k w blk off d hH
  have HD : Hid ((redrawn w 0).drawn = 0) := rfl
  have HHZ : Hid (HoldsK enc k (redrawn w 0) blk off d) := hH
  have HH : Hid (HoldsK enc k w blk off d) := hH
  have HK : Hid (∀ x, (enc x).length = k) := hk
  have H1 : Hid (∀ x, ∀ v ∈ enc x, v.oneCell' = true) := h1
  clear hcmp hH hk h1
  have hblkz : blk < (redrawn w 0).heap.size := hblk
  generalize hwz : redrawn w 0 = wz at HST HD HHZ HC hblkz ⊢
  have HWZ : Hid (redrawn w 0 = wz) := hwz
  clear hwz
  go_enter hF, Try.ntmps34
  go_wp2
  go_loopg [8] (b - a) (fun g1 vi wr => ∃ (i n : Nat) (dk : Array α) (os : Array Obj), vi = .int .i64 i ∧ a < i ∧ i ≤ b + 1 ∧ b + 1 - i ≤ g1 + 1 ∧ dk.size = d.size ∧ wr = sortWorldK enc k wz blk off n dk os ∧ Hid (insOuter (ltOf cf) a b i dk = insOuter (ltOf cf) a b (a + 1) d))
  case atStart => exact ⟨a + 1, w.drawn, d, #[], by go_num, by omega, by omega, by omega, rfl, HST.out, rfl⟩
  case round =>
    obtain ⟨i, n, dk, os, rfl, hai, hib, hg1, hsk, rfl, HO⟩ := hrel
    by_cases hlt : i < b
    · have hltz : (i : Int) < (b : Int) := by omega
      go_wp2
      -- the inner loop
      go_loopg [9] i (fun g2 vj wr2 => ∃ (j m : Nat) (dj : Array α) (oj : Array Obj), vj = .int .i64 j ∧ a ≤ j ∧ j ≤ i ∧ j ≤ g2 ∧ dj.size = d.size ∧ wr2 = sortWorldK enc k wz blk off m dj oj ∧ Hid (insInner (ltOf cf) a j dj = insInner (ltOf cf) a i dk))
      case atStart => exact ⟨i, n, dk, os, rfl, by omega, Nat.le_refl _, Nat.le_refl _, hsk, rfl, rfl⟩
      case round =>
        obtain ⟨j, m, dj, oj, rfl, haj, hji, hg2, hsj, rfl, HI⟩ := hrel
        have out : (j ≤ a ∨ ltOf cf dj[j]! dj[j - 1]! = false) → Hid (insOuter (ltOf cf) a b (i + 1) dj = insOuter (ltOf cf) a b (a + 1) d) := fun hs => by
          show _ = _
          rw [← HO.out, insOuter_go _ _ _ _ _ hlt, ← HI.out, insInner_stop _ _ _ _ hs]
        have OUT : Aside _ := out
        clear out
        by_cases hja : a < j
        · have hjaz : (a : Int) < (j : Int) := by omega
          obtain ⟨jp, rfl⟩ : ∃ jp, j = jp + 1 := ⟨j - 1, by omega⟩
          obtain ⟨xj, hxj⟩ : ∃ x, dj[jp + 1]! = x := ⟨_, rfl⟩
          obtain ⟨xp, hxp⟩ : ∃ x, dj[jp]! = x := ⟨_, rfl⟩
          have hwp : IntKind.i64.wrap (jp : Int) = (jp : Int) := by rw [IntKind.wrap_i64]; omega
          have jz : (jp : Int) + 1 < (d.size : Int) := by omega
          have jz1 : (jp : Int) < (d.size : Int) := by omega
          have hjaz' : (a : Int) < (jp : Int) + 1 := by omega
          have p0 : (0 : Int) ≤ (jp : Int) + 1 := by omega
          have e0 : ((jp : Int) + 1).toNat = jp + 1 := by omega
          -- every world of the class is one of the sort's
          have hcls : ∀ n' os', grow (redrawn (sortWorldK enc k wz blk off m dj oj) n') os' = sortWorldK enc k wz blk off n' dj (oj ++ os') := fun n' os' => sortWorldK_regrown enc k wz HD.out blk off m n' dj oj os'
          have hHc : ∀ n' os', HoldsK enc k (grow (redrawn (sortWorldK enc k wz blk off m dj oj) n') os') blk off dj := fun n' os' => by rw [hcls]; exact holdsK_sortWorldK_c enc k wz blk off d dj _ _ HHZ.out hblkz hsj
          have lj : ∀ n' os', Sem.run P (loadCellsFrom ⟨blk, off + (jp + 1) * k, none⟩ 0 k #[]) (grow (redrawn (sortWorldK enc k wz blk off m dj oj) n') os') = .ok (enc xj).toArray (grow (redrawn (sortWorldK enc k wz blk off m dj oj) n') os') := fun n' os' => by
            rw [← hxj]; exact run_loadCellsFrom_list P _ _ _ k (HK.out _) (HoldsK.cells (hHc n' os') HK.out (by omega))
          have lp : ∀ n' os', Sem.run P (loadCellsFrom ⟨blk, off + jp * k, none⟩ 0 k #[]) (grow (redrawn (sortWorldK enc k wz blk off m dj oj) n') os') = .ok (enc xp).toArray (grow (redrawn (sortWorldK enc k wz blk off m dj oj) n') os') := fun n' os' => by
            rw [← hxp]; exact run_loadCellsFrom_list P _ _ _ k (HK.out _) (HoldsK.cells (hHc n' os') HK.out (by omega))
          have hcg : ∀ n' os', Calls P g (#[.agg (enc xj).toArray, .agg (enc xp).toArray] ++ cb) (grow (redrawn (sortWorldK enc k wz blk off m dj oj) n') os') fun e w' => e = .returned (.int .i64 (cf xj xp)) ∧ ∃ p : Regrown, w' = grow (redrawn (sortWorldK enc k wz blk off m dj oj) p.d) p.os := fun n' os' => Calls.regrown_of (HC.out dj _ hsj ⟨n', oj ++ os', hcls n' os'⟩ xj xp)
          have CLS : Hid _ := hcls
          clear hcls hHc
          generalize hwq : sortWorldK enc k wz blk off m dj oj = wq at lj lp hcg CLS ⊢
          by_cases hlv : cf xj xp < 0
          · go_wp2_with fail
            refine wp_region_quiet_below (by assumption) (by kernel_rfl) ?_
            repeat (quiet_step (first | (go_at_fn g; exact hcg _ _)))
            refine wpQuiet_nil ?_
            intro _ hw'
            obtain ⟨⟨nq, osq⟩, hw''⟩ := hw'
            subst hw''
            go_wp2_with fail
            have hw2 : grow (redrawn wq nq) osq = sortWorldK enc k wz blk off nq dj (oj ++ osq) := CLS.out nq osq
            have hHd : HoldsK enc k (grow (redrawn wq nq) osq).drew blk off dj := by
              have : HoldsK enc k (grow (redrawn wq nq) osq) blk off dj := by rw [hw2]; exact holdsK_sortWorldK_c enc k wz blk off d dj _ _ HHZ.out hblkz hsj
              exact this
            have bnd : ∀ x, x < dj.size → x * k + k ≤ dj.size * k := fun x hx => by
              have := Nat.mul_le_mul_right k (show x + 1 ≤ dj.size from hx); rwa [Nat.add_mul, Nat.one_mul] at this
            clear lj lp hcg
            generalize grow (redrawn wq nq) osq = wq2 at hw2 hHd ⊢
            have lj2 : Sem.run P (loadCellsFrom ⟨blk, off + (jp + 1) * k, none⟩ 0 k #[]) wq2.drew = .ok (enc xj).toArray wq2.drew := by rw [← hxj]; exact run_loadCellsFrom_list P _ _ _ k (HK.out _) (HoldsK.cells hHd HK.out (by omega))
            have lp2 : Sem.run P (loadCellsFrom ⟨blk, off + jp * k, none⟩ 0 k #[]) wq2.drew = .ok (enc xp).toArray wq2.drew := by rw [← hxp]; exact run_loadCellsFrom_list P _ _ _ k (HK.out _) (HoldsK.cells hHd HK.out (by omega))
            have s1 : Sem.run P (storeCells ⟨blk, off + (jp + 1) * k, none⟩ (enc xp) 0) wq2.drew = .ok () (wq2.drew.setCells blk (off + (jp + 1) * k) (enc xp)) := stores_of_holds P hHd ((jp + 1) * k) _ (by rw [HK.out, size_flatK]; exact bnd (jp + 1) (by omega)) (H1.out _)
            have s2 : Sem.run P (storeCells ⟨blk, off + jp * k, none⟩ (enc xj) 0) (wq2.drew.setCells blk (off + (jp + 1) * k) (enc xp)) = .ok () ((wq2.drew.setCells blk (off + (jp + 1) * k) (enc xp)).setCells blk (off + jp * k) (enc xj)) :=
              stores_of_holds P (holds_setCells_c hHd ((jp + 1) * k) _ (by rw [HK.out, size_flatK]; exact bnd (jp + 1) (by omega))) (jp * k) _ (by rw [HK.out, size_setMany, size_flatK]; exact bnd jp (by omega)) (H1.out _)
            have hsJ : (enc xj).length = k := HK.out _
            have hsP : (enc xp).length = k := HK.out _
            have HW2 : Hid (wq2 = sortWorldK enc k wz blk off nq dj (oj ++ osq)) := hw2
            clear hw2 hHd bnd
            obtain ⟨cJ, hcJ⟩ : ∃ c, c = enc xj := ⟨_, rfl⟩
            obtain ⟨cP, hcP⟩ : ∃ c, c = enc xp := ⟨_, rfl⟩
            rw [← hcP] at s1 lp2 hsP
            rw [← hcJ] at lj2 hsJ
            rw [← hcJ, ← hcP] at s2
            have CC : Hid (cJ = enc xj ∧ cP = enc xp) := ⟨hcJ, hcP⟩
            clear hcJ hcP
            go_big_region_o
            all_goals go_wp2
            go_roundg jp
            case measure => omega
            case rel =>
              refine ⟨jp, nq + 1, swp dj (jp + 1) jp, oj ++ osq, by first | rfl | go_num | (congr 1; omega), by omega, by omega, Nat.le_refl _, by rw [size_swp]; exact hsj, ?_, (show Hid _ from ?_)⟩
              · rw [CC.out.1, CC.out.2, HW2.out, ← hxp, ← hxj]
                exact sortWorldK_swp_c enc k wz blk off HK.out nq dj (oj ++ osq) hblkz (jp + 1) jp (by omega) (by omega)
              · show _ = _
                have := insInner_go (ltOf cf) a (jp + 1) dj hja (by simp only [Nat.add_sub_cancel]; rw [hxj, hxp]; exact decide_eq_true hlv)
                simp only [Nat.add_sub_cancel] at this
                rw [← HI.out, this]
          · -- not less: out of the inner loop
            go_wp2_with fail
            refine wp_region_quiet_below (by assumption) (by kernel_rfl) ?_
            repeat (quiet_step (first | (go_at_fn g; exact hcg _ _)))
            refine wpQuiet_nil ?_
            intro _ hw'
            obtain ⟨⟨nq, osq⟩, hw''⟩ := hw'
            subst hw''
            go_wp2
            go_roundg (b - (i + 1))
            case measure => omega
            case rel => exact ⟨i + 1, _, dj, _, by go_num, by omega, by omega, by omega, hsj, CLS.out nq osq, OUT.out (Or.inr (by simp only [Nat.add_sub_cancel]; rw [hxj, hxp]; exact decide_eq_false (by omega)))⟩
        · -- j = a: out of the inner loop (the guard is false: 'cmp' is not called)
          have hjaz : decide ((j : Int) > (a : Int)) = false := decide_eq_false (by omega)
          have hjaz' : ¬ (a : Int) < (j : Int) := by omega
          have hdr : (sortWorldK enc k wz blk off m dj oj).drew = sortWorldK enc k wz blk off (m + 1) dj oj := rfl
          generalize hwq : sortWorldK enc k wz blk off m dj oj = wq at hdr
          have HDR : Hid _ := hdr
          clear hdr
          go_wp2_with fail
          go_big_region_o
          all_goals go_wp2
          go_roundg (b - (i + 1))
          case measure => omega
          case rel => exact ⟨i + 1, m + 1, dj, oj, by go_num, by omega, by omega, by omega, hsj, HDR.out, OUT.out (Or.inl (by omega))⟩
    · have hltz : ¬ (i : Int) < (b : Int) := by omega
      go_wp2
      go_end0
      exact ⟨rfl, n, os, by unfold Sort.insertionSort; rw [← HO.out, insOuter_stop _ _ _ _ _ hlt]⟩
end
end Go.Proofs.Ytckekncllmhohaa.Q
