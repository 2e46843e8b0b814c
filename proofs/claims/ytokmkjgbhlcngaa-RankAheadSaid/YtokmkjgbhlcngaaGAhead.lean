/- RankAhead: its walk. -/
import Derived.Test.YtokmkjgbhlcngaaGOrder
namespace Go.Proofs.Ytokmkjgbhlcngaa.Q
open Go.RowKit Go.Sort Go.Proofs.YtokmkjgbhlcngaaW.PrintWords Go.Proofs.YtokmkjgbhlcngaaW.PrintLast Go.Proofs.YtokmkjgbhlcngaaW.PrintMore Go.Proofs.Ytokmkjgbhlcngaa.G
set_option linter.all false

theorem pick_is (a n : Int) (hn : 1 ≤ n) (hb : n ≤ 9223372036854775807) : ∃ p : Nat, (p : Int) < n ∧ storemankit_Pick.f a n = some (p : Int) := by
  unfold storemankit_Pick.f
  rw [if_neg (by omega), if_neg (by omega)]
  have h1 : -n < Int.tmod a n ∧ Int.tmod a n < n := by
    rcases Int.le_total 0 a with h | h
    · rw [Int.tmod_eq_emod_of_nonneg h]
      have := Int.emod_nonneg a (show n ≠ 0 by omega)
      have := Int.emod_lt_of_pos a (show 0 < n by omega)
      omega
    · have e : Int.tmod a n = - Int.tmod (-a) n := by rw [Int.neg_tmod, Int.neg_neg]
      rw [e, Int.tmod_eq_emod_of_nonneg (by omega)]
      have := Int.emod_nonneg (-a) (show n ≠ 0 by omega)
      have := Int.emod_lt_of_pos (-a) (show 0 < n by omega)
      omega
  generalize Int.tmod a n = t at h1
  by_cases ht : t < 0
  · rw [if_pos ht]
    refine ⟨(t + n).toNat, by omega, ?_⟩
    congr 1
    unfold wrap64
    omega
  · rw [if_neg ht]
    exact ⟨t.toNat, by omega, by congr 1; omega⟩
abbrev Ln := S24
def apartB (x y : Ln) : Prop := x.f0 ≠ y.f0
theorem apart_of (l : List Ln) (h : ∀ i, i < l.length → ∀ k, k < i → (l.getD i z24).f0 ≠ (l.getD k z24).f0) : l.Pairwise apartB := by
  rw [List.pairwise_iff_getElem]
  intro i j hi hj hij
  have := h j hj i hij
  rw [List.getD_eq_getElem?_getD, List.getD_eq_getElem?_getD, List.getElem?_eq_getElem hi, List.getElem?_eq_getElem hj] at this
  exact fun e => this e.symm
theorem apart_opens (l : List Ln) (h : l.Pairwise apartB) : (opens l).Pairwise apartB := by
  have h1 : (openL l).Pairwise apartB := h.filter _
  exact ((stabl_perm (ltOf lineCmp) (openL l)).pairwise_iff (fun h => fun e => h e.symm)).2 h1
theorem idx_at : ∀ (L : List Ln) (k p : Nat), p < L.length → L.Pairwise apartB → idxP (fun x => x.f0 == (L.getD p z24).f0) L k = ((k + p : Nat) : Int)
  | [], _, _, hp, _ => by simp at hp
  | x :: r, k, 0, hp, h => by
    unfold idxP
    rw [if_pos (by simp)]
    rfl
  | x :: r, k, p + 1, hp, h => by
    unfold idxP
    have hr : p < r.length := by simpa using hp
    have hne : x.f0 ≠ (r.getD p z24).f0 := by
      rw [List.getD_eq_getElem?_getD, List.getElem?_eq_getElem hr]
      exact (List.pairwise_cons.1 h).1 _ (List.getElem_mem hr)
    rw [if_neg (by simpa using hne)]
    have := idx_at r (k + 1) p hr (List.pairwise_cons.1 h).2
    rw [show (x :: r).getD (p + 1) z24 = r.getD p z24 from rfl, this]
    congr 1
    omega
theorem ahead_at (L : List Ln) (p : Nat) (hp : p < L.length) (h : L.Pairwise apartB) : aheadL L (L.getD p z24).f0 = L.take p := by
  unfold aheadL
  rw [idx_at L 0 p hp h, if_neg (by omega), Nat.zero_add, Int.toNat_natCast]
theorem sameB_id {x y : Ln} (h : sameB x y = true) : x.f0 = y.f0 := by
  unfold sameB at h
  simp only [Bool.and_eq_true, beq_iff_eq] at h
  exact h.1
theorem sameB_self (x : Ln) : sameB x x = true := by unfold sameB; simp
theorem cnt_none (L : List Ln) (y : Ln) (h : ∀ x ∈ L, x.f0 ≠ y.f0) : cnt L y = 0 := by
  unfold cnt
  rw [List.length_eq_zero_iff, List.filter_eq_nil_iff]
  exact fun x hx hs => h x hx (sameB_id hs)
theorem cnt_one : ∀ (L : List Ln) (i : Nat), i < L.length → L.Pairwise apartB → cnt L (L.getD i z24) = 1
  | [], _, hi, _ => by simp at hi
  | x :: r, 0, hi, h => by
    have h1 : cnt r x = 0 := cnt_none r x (fun y hy => fun e => (List.pairwise_cons.1 h).1 y hy e.symm)
    show cnt (x :: r) x = 1
    unfold cnt at h1 ⊢
    rw [List.filter_cons, if_pos (sameB_self x), List.length_cons, h1]
  | x :: r, i + 1, hi, h => by
    have hr : i < r.length := by simpa using hi
    have h1 := cnt_one r i hr (List.pairwise_cons.1 h).2
    have hne : x.f0 ≠ (r.getD i z24).f0 := by
      rw [List.getD_eq_getElem?_getD, List.getElem?_eq_getElem hr]
      exact (List.pairwise_cons.1 h).1 _ (List.getElem_mem hr)
    show cnt (x :: r) (r.getD i z24) = 1
    unfold cnt at h1 ⊢
    rw [List.filter_cons, if_neg (fun e => hne (sameB_id e))]
    exact h1
theorem getD_take' (L : List Ln) (p i : Nat) (h : i < p) : (L.take p).getD i z24 = L.getD i z24 := by
  rw [List.getD_eq_getElem?_getD, List.getD_eq_getElem?_getD, List.getElem?_take, if_pos h]
theorem cnt_take_lt (L : List Ln) (p i : Nat) (hp : p ≤ L.length) (hi : i < p) (h : L.Pairwise apartB) : cnt (L.take p) (L.getD i z24) = 1 := by
  rw [← getD_take' L p i hi]
  exact cnt_one (L.take p) i (by rw [List.length_take]; omega) (h.sublist (List.take_sublist p L))
theorem ids_ne (L : List Ln) (h : L.Pairwise apartB) (i j : Nat) (hi : i < L.length) (hj : j < L.length) (hij : i ≠ j) : (L.getD i z24).f0 ≠ (L.getD j z24).f0 := by
  rw [List.getD_eq_getElem?_getD, List.getD_eq_getElem?_getD, List.getElem?_eq_getElem hi, List.getElem?_eq_getElem hj]
  have hp := List.pairwise_iff_getElem.1 h
  rcases Nat.lt_or_ge i j with hlt | hge
  · exact hp i j hi hj hlt
  · exact fun e => hp j i hj hi (by omega) e.symm
theorem cnt_take_ge (L : List Ln) (p i : Nat) (hi : i < L.length) (hpi : p ≤ i) (h : L.Pairwise apartB) : cnt (L.take p) (L.getD i z24) = 0 := by
  refine cnt_none _ _ (fun x hx => ?_)
  obtain ⟨j, hj, rfl⟩ := List.mem_iff_getElem.1 hx
  have hj' : j < p := by rw [List.length_take] at hj; omega
  have := ids_ne L h j i (by omega) hi (by omega)
  rw [List.getElem_take]
  rwa [List.getD_eq_getElem?_getD, List.getElem?_eq_getElem (show j < L.length by omega)] at this
theorem cmp_zero {x y : Ln} (h : lineCmp x y = 0) : x.f0 = y.f0 := by
  unfold lineCmp at h
  split at h <;> (try split at h) <;> (try split at h) <;> (try split at h) <;> first | (exact absurd h (by decide)) | omega
theorem cmp_at (l : List Ln) (h : (opens l).Pairwise apartB) (i p : Nat) (hi : i < (opens l).length) (hp : p < (opens l).length) (hip : i < p) : lineCmp ((opens l).getD i z24) ((opens l).getD p z24) < 0 := by
  have h1 := List.pairwise_iff_getElem.1 (stabl_sorted line_swo (openL l)) i p hi hp hip
  have h2 : lineCmp ((opens l).getD i z24) ((opens l).getD p z24) ≤ 0 := by
    rw [List.getD_eq_getElem?_getD, List.getD_eq_getElem?_getD, List.getElem?_eq_getElem hi, List.getElem?_eq_getElem hp]
    exact cmp_le h1
  have h3 := ids_ne (opens l) h i p hi hp (by omega)
  have h4 : lineCmp ((opens l).getD i z24) ((opens l).getD p z24) ≠ 0 := fun e => h3 (cmp_zero e)
  omega
/-- What RankAhead asks of each open line. -/
theorem ahead_law (l : List Ln) (h : (opens l).Pairwise apartB) (i p : Nat) (hi : i < (opens l).length) (hp : p < (opens l).length) :
    (lineCmp ((opens l).getD i z24) ((opens l).getD p z24) < 0 ∧ cnt ((opens l).take p) ((opens l).getD i z24) = 1 ∧ sameB ((opens l).getD i z24) ((opens l).getD p z24) = false) ∨
    (0 < lineCmp ((opens l).getD i z24) ((opens l).getD p z24) ∧ cnt ((opens l).take p) ((opens l).getD i z24) = 0 ∧ sameB ((opens l).getD i z24) ((opens l).getD p z24) = false) ∨
    (lineCmp ((opens l).getD i z24) ((opens l).getD p z24) = 0 ∧ cnt ((opens l).take p) ((opens l).getD i z24) = 0 ∧ sameB ((opens l).getD i z24) ((opens l).getD p z24) = true) := by
  rcases Nat.lt_trichotomy i p with hlt | rfl | hgt
  · refine .inl ⟨cmp_at l h i p hi hp hlt, cnt_take_lt _ p i (by omega) hlt h, ?_⟩
    cases hs : sameB ((opens l).getD i z24) ((opens l).getD p z24) with
    | false => rfl
    | true => exact absurd (sameB_id hs) (ids_ne _ h i p hi hp (by omega))
  · exact .inr (.inr ⟨cmp_self _, cnt_take_ge _ i i hi (Nat.le_refl _) h, sameB_self _⟩)
  · refine .inr (.inl ⟨?_, cnt_take_ge _ p i hi (by omega) h, ?_⟩)
    · have := cmp_at l h p i hp hi hgt
      rw [cmp_neg] at this
      omega
    · cases hs : sameB ((opens l).getD i z24) ((opens l).getD p z24) with
      | false => rfl
      | true => exact absurd (sameB_id hs) (ids_ne _ h i p hi hp (by omega))
attribute [local go_sem high] eqA24
theorem run_neq_line (x y : Ln) (w : World) : (binOp .neq 24 (.agg #[.int .i64 x.f0, .string x.f1, .int .i64 x.f2, .int .i64 x.f3, .int .i64 x.f4, .int .u8 x.f5, .int .i64 x.f6, .string x.f7]) (.agg #[.int .i64 y.f0, .string y.f1, .int .i64 y.f2, .int .i64 y.f3, .int .i64 y.f4, .int .u8 y.f5, .int .i64 y.f6, .string y.f7])).run Try.prog w = .ok (.bool (!sameB x y)) w := by
  unfold sameB
  go_simp
attribute [local irreducible] Go.Calls
set_option maxHeartbeats 4000000 in
set_option maxRecDepth 100000 in
theorem RankAhead_walk (A0 : Option Addr) (c0 : Nat) (l0 : List Ln) (pk : Int) (w : World) (hr0 : Kd.C k24 w A0 l0.length l0) (hc0 : l0.length ≤ c0) (hl : l0.length ≤ 9223372036854775807) :
    Calls Try.prog 7 #[.slice A0 l0.length c0, .int .i64 pk] w fun e w' => e = .returned (.bool true) ∧ RowKit.Below w.heap.size w w' := by
  obtain ⟨g, hg, hgl⟩ := great_is l0 hl (l0.length + 1) (Nat.le_refl _)
  have HR0 := Lib.hid hr0
  have HC0 := Lib.hid hc0
  have HL := Lib.hid hl
  have HG := Lib.hid hg
  have HGL := Lib.hid hgl
  clear hr0 hc0 hl hg hgl
  go_enter Try.func7, Try.ntmps7
  go_wp2_with fail
  refine (storemanlaw09_awake.calls 20 true _ awake_is).mono ?_
  rintro e w1 ⟨rfl, hb⟩
  have HW := Lib.hid hb
  have HR1 := Lib.hid (Kd.C_below HR0.out hb)
  clear hb HR0
  go_wp2_with fail
  refine (storemanlaw09_great.calls (l0.length + 1) A0 c0 l0 g w1 HR1.out HC0.out HG.out).mono ?_
  rintro e w2 ⟨rfl, ⟨⟨n2, rfl⟩⟩⟩
  have HB2 := Lib.hid (pw_below_drewN (Below.refl w1.heap.size w1) n2)
  generalize hw2 : w1.drewN n2 = w2 at HB2 ⊢
  clear hw2 HG
  cases g with
  | true =>
    go_wp2_with fail
    go_ret
    exact ⟨rfl, below_then HW.out HW.out.size HB2.out⟩
  | false =>
    have hlen := HGL.out rfl
    have HR2 := Lib.hid (Kd.C_below HR1.out HB2.out)
    have HW2 := Lib.hid (below_then HW.out HW.out.size HB2.out)
    clear HGL HR1 HW HB2
    go_wp2_with fail
    go_loopg [5] l0.length (fun kx s5 wr => ∃ i : Nat, s5 = .int .i64 i ∧ i ≤ 400 ∧ Hid (i ≤ l0.length ∧ l0.length ≤ i + kx) ∧ Hid (Below w2.heap.size w2 wr) ∧ Hid (∀ a, a < i → ∀ b, b < a → (l0.getD a z24).f0 ≠ (l0.getD b z24).f0))
    case atStart => exact ⟨0, rfl, by omega, Lib.hid ⟨Nat.zero_le _, by omega⟩, Below.refl _ _, Lib.hid (fun a h => by omega)⟩
    case round =>
      obtain ⟨i, rfl, hi4, HI, HBr, HD⟩ := hrel
      by_cases hi : i < l0.length
      · have hz : (i : Int) < (l0.length : Int) := by omega
        have HII := Lib.hid hi
        have HDN := HD
        go_wp2_with fail
        go_loopg [6] i (fun kx s6 wk => ∃ k : Nat, s6 = .int .i64 k ∧ k ≤ 400 ∧ Hid (k ≤ i ∧ i ≤ k + kx) ∧ Hid (Below w2.heap.size w2 wk) ∧ Hid (∀ b, b < k → (l0.getD i z24).f0 ≠ (l0.getD b z24).f0))
        case atStart => exact ⟨0, rfl, by omega, Lib.hid ⟨Nat.zero_le _, by omega⟩, HBr, Lib.hid (fun b h => by omega)⟩
        case round =>
          clear HBr HD
          obtain ⟨k, rfl, hk4, HK, HBr, HE⟩ := hrel
          by_cases hk : k < i
          · have hkz : (k : Int) < (i : Int) := by omega
            have hkl : (k : Int) < (l0.length : Int) := by omega
            obtain ⟨ad, e, q0, -⟩ := at_T24 (Kd.C_below HR2.out HBr.out) (i : Int) (by omega) (by omega)
            obtain ⟨ad', e', p0, -⟩ := at_T24 (Kd.C_below HR2.out HBr.out) (k : Int) (by omega) (by omega)
            subst e
            obtain rfl : ad = ad' := Option.some.inj e'
            clear e'
            have hx : rd_T24 l0 (i : Int) = l0.getD i z24 := rfl
            have hy : rd_T24 l0 (k : Int) = l0.getD k z24 := rfl
            rw [hx] at q0
            rw [hy] at p0
            rw [Int.toNat_natCast] at q0 p0
            have hne : ∀ h : (l0.getD i z24).f0 ≠ (l0.getD k z24).f0, ∀ b, b < k + 1 → (l0.getD i z24).f0 ≠ (l0.getD b z24).f0 := fun h b hb => by
              rcases Nat.lt_or_ge b k with h1 | h1
              · exact HE.out b h1
              · obtain rfl : b = k := by omega
                exact h
            have HNE := Lib.hid hne
            clear hne hx hy
            generalize hu : (l0.getD i z24).f0 = u at q0 HNE HE
            have HUE := Lib.hid hu
            clear hu
            generalize hv : (l0.getD k z24).f0 = v at p0 HNE
            have HV := Lib.hid hv
            have k0 := fun n os => cell_regrown q0 n os
            have k1 := fun n os => cell_regrown p0 n os
            clear q0 p0 hv
            have HKK := Lib.hid hk
            clear hk
            by_cases huv : u = v
            · have hb1 : (u == v) = true := beq_iff_eq.2 huv
              have HU := Lib.hid huv
              clear huv
              go_wp2_with fail
              refine wp_region_quiet_below (by kernel_rfl) (by kernel_rfl) ?_
              repeat (first | go_big_quiet_step (fail) | quiet_step (fail))
              refine wpQuiet_nil ?_
              intro _ hw'
              obtain ⟨⟨nq, osq⟩, hw''⟩ := hw'
              subst hw''
              have HBq := Lib.hid (below_then HBr.out HBr.out.size (below_regrown wr nq osq))
              generalize grow (redrawn wr nq) osq = wq at HBq ⊢
              clear k0 k1
              go_wp2_with fail
              go_ret
              exact ⟨rfl, below_then HW2.out HW2.out.size HBq.out⟩
            · have hb1 : (u == v) = false := beq_eq_false_iff_ne.2 huv
              have HU := Lib.hid (HNE.out huv)
              clear huv HNE
              go_wp2_with fail
              refine wp_region_quiet_below (by kernel_rfl) (by kernel_rfl) ?_
              repeat (first | go_big_quiet_step (fail) | quiet_step (fail))
              refine wpQuiet_nil ?_
              intro _ hw'
              obtain ⟨⟨nq, osq⟩, hw''⟩ := hw'
              subst hw''
              have HBq := Lib.hid (below_then HBr.out HBr.out.size (below_regrown wr nq osq))
              generalize grow (redrawn wr nq) osq = wq at HBq ⊢
              clear k0 k1
              go_wp2_with fail
              go_roundg (i - (k + 1))
              case measure => have := HK.out; have := HKK.out; omega
              case rel => exact ⟨k + 1, by go_num, by have := HKK.out; omega, Lib.hid ⟨by have := HKK.out; omega, by have := HKK.out; omega⟩, HBq, by have h := HU.out; rw [← HUE.out] at h; exact h⟩
          · have hkz : ¬ (k : Int) < (i : Int) := by omega
            have HKK := Lib.hid hk
            clear hk
            go_wp2_with fail
            go_roundg (l0.length - (i + 1))
            case measure => have := HI.out; have := HII.out; omega
            case rel =>
              refine ⟨i + 1, by go_num, by have := HII.out; omega, Lib.hid ⟨by have := HII.out; omega, by have := HII.out; omega⟩, HBr, Lib.hid (fun a ha b hb => ?_)⟩
              rcases Nat.lt_or_ge a i with h1 | h1
              · exact HDN.out a h1 b hb
              · obtain rfl : a = i := by omega
                exact HE.out b (by have := HK.out; have := HKK.out; omega)
      · have hz : ¬ (i : Int) < (l0.length : Int) := by omega
        have HAP := Lib.hid (apart_of l0 (fun a ha b hb => HD.out a (by omega) b hb))
        clear hi HD
        have HRr := Lib.hid (Kd.C_below HR2.out HBr.out)
        have HLEN := Lib.hid hlen
        have hop := opens_le l0
        have HSTEP := Lib.hid (rank_Open.calls A0 c0 l0 (opens l0) wr HRr.out HC0.out (by unfold rank_Open.f; rw [if_pos (by omega)]; rfl))
        have HWr := Lib.hid (below_then HW2.out HW2.out.size HBr.out)
        clear HBr HW2 HR2
        go_wp2_with fail
        refine HSTEP.out.mono ?_
        rintro e w3 ⟨vs, rfl, hR, hb⟩
        obtain ⟨As, cs, rfl, hcs, hCs⟩ := Kd.R_reads hR
        have HS3 := Lib.hid hCs
        have HCS := Lib.hid hcs
        have HW3 := Lib.hid (below_then HWr.out HWr.out.size hb)
        have HR3 := Lib.hid (Kd.C_below HRr.out hb)
        clear hR hb hcs hCs HSTEP HWr HRr
        by_cases h0 : (opens l0).length = 0
        · have h0b : (((opens l0).length : Int) == 0) = true := beq_iff_eq.2 (by omega)
          have hA : aheadL (opens l0) pk = [] := by rw [List.length_eq_zero_iff.1 h0]; rfl
          have HSTEP := Lib.hid (rank_Ahead.calls A0 c0 l0 pk [] w3 HR3.out HC0.out (by unfold rank_Ahead.f; rw [if_pos (by omega)]; exact congrArg some hA))
          clear hA
          go_wp2_with fail
          refine HSTEP.out.mono ?_
          rintro e w4 ⟨v, rfl, hV, hb⟩
          obtain ⟨Aa, ca, rfl⟩ := Kd.V_slice hV
          have HW4 := Lib.hid (below_then HW3.out HW3.out.size hb)
          clear hV hb
          go_wp2_with fail
          go_ret
          exact ⟨by first | rfl | simp, HW4.out⟩
        · have h0b : (((opens l0).length : Int) == 0) = false := beq_eq_false_iff_ne.2 (by omega)
          obtain ⟨p, hp, hpk⟩ := pick_is pk ((opens l0).length : Int) (by omega) (by omega)
          have HPK := Lib.hid hpk
          clear hpk
          go_wp2_with fail
          refine (storemankit_Pick.calls pk _ _ w3 HPK.out).mono ?_
          rintro e w4 ⟨rfl, ⟨⟨n4, rfl⟩⟩⟩
          have HB4 := Lib.hid (pw_below_drewN (Below.refl w3.heap.size w3) n4)
          generalize hw4 : w3.drewN n4 = w4 at HB4 ⊢
          clear hw4
          have hCs := Kd.C_below HS3.out HB4.out
          obtain ⟨ad, e, q0, q1, q2, q3, q4, q5, q6, q7⟩ := at_T24 hCs (p : Int) (by omega) hp
          subst e
          have hx : rd_T24 (opens l0) (p : Int) = (opens l0).getD p z24 := rfl
          rw [hx] at q0 q1 q2 q3 q4 q5 q6 q7
          rw [Int.toNat_natCast] at q0 q1 q2 q3 q4 q5 q6 q7
          have HS4 := Lib.hid hCs
          have HR4 := Lib.hid (Kd.C_below HR3.out HB4.out)
          have HW4 := Lib.hid (below_then HW3.out HW3.out.size HB4.out)
          have hah := ahead_at (opens l0) p (by omega) (apart_opens l0 HAP.out)
          have HLAW := Lib.hid (fun i hi => ahead_law l0 (apart_opens l0 HAP.out) i p hi (by omega))
          clear hx hCs HB4 HS3 HR3 HW3 HPK
          generalize hX : (opens l0).getD p z24 = x at q0 q1 q2 q3 q4 q5 q6 q7 hah HLAW
          have HX := Lib.hid hX
          have HAH := Lib.hid hah
          clear hX hah
          have HSTEP := Lib.hid (rank_Ahead.calls A0 c0 l0 x.f0 ((opens l0).take p) (w4.alloc (.cells #[.int .i64 x.f0, .string x.f1, .int .i64 x.f2, .int .i64 x.f3, .int .i64 x.f4, .int .u8 x.f5, .int .i64 x.f6, .string x.f7] 24)) (Kd.C_alloc HR4.out _) HC0.out (by unfold rank_Ahead.f; rw [if_pos (by have := HLEN.out; omega)]; exact congrArg some HAH.out))
          go_wp2_with fail
          refine HSTEP.out.mono ?_
          rintro e w5 ⟨v, rfl, hV, hb⟩
          obtain ⟨Aa, ca, rfl⟩ := Kd.V_slice hV
          have htl : ((opens l0).take p).length = p := by rw [List.length_take]; omega
          have hVr := Kd.V_reads' hV
          have HAC := Lib.hid hVr.2.2
          have HACL := Lib.hid hVr.2.1
          have HX5 := Lib.hid (blk_below (blk_new w4 (.cells #[.int .i64 x.f0, .string x.f1, .int .i64 x.f2, .int .i64 x.f3, .int .i64 x.f4, .int .u8 x.f5, .int .i64 x.f6, .string x.f7] 24)) hb)
          have HS5 := Lib.hid (Kd.C_below (Kd.C_alloc HS4.out _) hb)
          have HW5 := Lib.hid (below_then (below_alloc HW4.out _) (below_alloc HW4.out _).size hb)
          have HTL := Lib.hid htl
          rw [htl]
          have hpz : (p : Int) < ((opens l0).length : Int) := hp
          have hpn : p < (opens l0).length := by omega
          have hcs : (opens l0).length ≤ cs := HCS.out
          clear hV hb htl hVr HSTEP HS4 HR4 HW4
          obtain ⟨ad', e, p0, p1, p2, p3, p4, p5, p6, p7⟩ := at_T24 HS5.out (p : Int) (by omega) hp
          obtain rfl : ad = ad' := Option.some.inj e
          have hx : rd_T24 (opens l0) (p : Int) = (opens l0).getD p z24 := rfl
          rw [hx, HX.out] at p0 p1 p2 p3 p4 p5 p6 p7
          rw [Int.toNat_natCast] at p0 p1 p2 p3 p4 p5 p6 p7
          have hge : ¬ (opens l0).length ≤ p := by omega
          have hgeb : decide ((opens l0).length ≤ p) = false := decide_eq_false hge
          have hcz : (p : Int) ≤ (cs : Int) := by omega
          have hcn : p ≤ cs := by omega
          have hpz0 : (0 : Int) ≤ (p : Int) := by omega
          have hse := run_neq_line x x
          rw [sameB_self] at hse
          have hCt : ∀ n os, Kd.C k24 (grow (redrawn w5 n) os) (some ad) ((opens l0).take p).length ((opens l0).take p) := fun n os => Kd.C_take (Kd.C_below HS5.out (below_regrown w5 n os)) (by omega)
          have hsm : ∀ n os, Calls Try.prog 19 #[.slice Aa p ca, .slice (some ad) p cs] (grow (redrawn w5 n) os) fun e w'' => e = .returned (.bool true) ∧ ∃ q : Regrown, w'' = grow (redrawn w5 q.d) q.os := fun n os => by
            have h1 := Kd.C_below HAC.out (below_regrown w5 n os)
            have h2 := storemankit_SameLines.calls (p + 1) Aa ca ((opens l0).take p) (some ad) cs ((opens l0).take p) true (grow (redrawn w5 n) os) h1 (by have := HACL.out; have := HTL.out; omega) (hCt n os) (by have := HTL.out; omega) (same_is ((opens l0).take p) (by have := HTL.out; omega) (p + 1) (by have := HTL.out; omega))
            rw [HTL.out] at h2
            refine Calls.regrown_of (h2.mono fun e w' hh => ⟨hh.1, ?_⟩)
            obtain ⟨⟨nn, rfl⟩⟩ := hh.2
            exact pw_below_drewN (Below.refl _ _) nn
          have k0 := fun n os => cell_regrown p0 n os
          have k1 := fun n os => cell_regrown p1 n os
          have k2 := fun n os => cell_regrown p2 n os
          have k3 := fun n os => cell_regrown p3 n os
          have k4 := fun n os => cell_regrown p4 n os
          have k5 := fun n os => cell_regrown p5 n os
          have k6 := fun n os => cell_regrown p6 n os
          have k7 := fun n os => cell_regrown p7 n os
          have b0 : ∀ n os, (grow (redrawn w5 n) os).cell? ⟨w4.heap.size, 0, none⟩ = some (.int .i64 x.f0) := fun n os => cell_regrown ((blk_cell HX5.out 0).trans rfl) n os
          have b1 : ∀ n os, (grow (redrawn w5 n) os).cell? ⟨w4.heap.size, 1, none⟩ = some (.string x.f1) := fun n os => cell_regrown ((blk_cell HX5.out 1).trans rfl) n os
          have b2 : ∀ n os, (grow (redrawn w5 n) os).cell? ⟨w4.heap.size, 2, none⟩ = some (.int .i64 x.f2) := fun n os => cell_regrown ((blk_cell HX5.out 2).trans rfl) n os
          have b3 : ∀ n os, (grow (redrawn w5 n) os).cell? ⟨w4.heap.size, 3, none⟩ = some (.int .i64 x.f3) := fun n os => cell_regrown ((blk_cell HX5.out 3).trans rfl) n os
          have b4 : ∀ n os, (grow (redrawn w5 n) os).cell? ⟨w4.heap.size, 4, none⟩ = some (.int .i64 x.f4) := fun n os => cell_regrown ((blk_cell HX5.out 4).trans rfl) n os
          have b5 : ∀ n os, (grow (redrawn w5 n) os).cell? ⟨w4.heap.size, 5, none⟩ = some (.int .u8 x.f5) := fun n os => cell_regrown ((blk_cell HX5.out 5).trans rfl) n os
          have b6 : ∀ n os, (grow (redrawn w5 n) os).cell? ⟨w4.heap.size, 6, none⟩ = some (.int .i64 x.f6) := fun n os => cell_regrown ((blk_cell HX5.out 6).trans rfl) n os
          have b7 : ∀ n os, (grow (redrawn w5 n) os).cell? ⟨w4.heap.size, 7, none⟩ = some (.string x.f7) := fun n os => cell_regrown ((blk_cell HX5.out 7).trans rfl) n os
          clear hCt p0 p1 p2 p3 p4 p5 p6 p7 hx e q0 q1 q2 q3 q4 q5 q6 q7
          go_wp2_with fail
          refine wp_region_quiet_below (by kernel_rfl) (by kernel_rfl) ?_
          repeat (first | go_big_quiet_step ((go_at_call 19; (with_reducible exact hsm _ _))) | quiet_step ((go_at_call 19; (with_reducible exact hsm _ _))))
          refine wpQuiet_nil ?_
          intro _ hw'
          obtain ⟨⟨nq, osq⟩, hw''⟩ := hw'
          subst hw''
          have HB6 := Lib.hid (below_regrown w5 nq osq)
          generalize grow (redrawn w5 nq) osq = w6 at HB6 ⊢
          clear k0 k1 k2 k3 k4 k5 k6 k7 b0 b1 b2 b3 b4 b5 b6 b7 hsm hse hge hgeb hcz hcn hpz0
          have HS6 := Lib.hid (Kd.C_below HS5.out HB6.out)
          have HAC6 := Lib.hid (Kd.C_below HAC.out HB6.out)
          have HX6 := Lib.hid (blk_below HX5.out HB6.out)
          have HW6 := Lib.hid (below_then HW5.out HW5.out.size HB6.out)
          clear HS5 HAC HX5 HW5 HB6
          go_wp2_with fail
          go_loopg [10] (opens l0).length (fun kx s10 wr => ∃ j : Nat, s10 = .int .i64 j ∧ j ≤ 400 ∧ Hid (j ≤ (opens l0).length ∧ (opens l0).length ≤ j + kx) ∧ Hid (Below w6.heap.size w6 wr))
          case atStart => exact ⟨0, rfl, by omega, Lib.hid ⟨Nat.zero_le _, by omega⟩, Below.refl _ _⟩
          case round =>
            obtain ⟨j, rfl, hj4, HJ, HBr⟩ := hrel
            by_cases hj : j < (opens l0).length
            · have hz : (j : Int) < ((opens l0).length : Int) := by omega
              obtain ⟨ad', e, q0, q1, q2, q3, q4, q5, q6, q7⟩ := at_T24 (Kd.C_below HS6.out HBr.out) (j : Int) (by omega) (by omega)
              obtain rfl : ad = ad' := Option.some.inj e
              have hx : rd_T24 (opens l0) (j : Int) = (opens l0).getD j z24 := rfl
              rw [hx] at q0 q1 q2 q3 q4 q5 q6 q7
              rw [Int.toNat_natCast] at q0 q1 q2 q3 q4 q5 q6 q7
              have hlaw := HLAW.out j hj
              have HJJ := Lib.hid hj
              clear hx hj e
              generalize (opens l0).getD j z24 = y at q0 q1 q2 q3 q4 q5 q6 q7 hlaw
              have hcmp := fun n os => cmp_reg wr y x n os
              have hcnt : ∀ n os, Calls Try.prog 25 #[.slice Aa p ca, .agg #[.int .i64 y.f0, .string y.f1, .int .i64 y.f2, .int .i64 y.f3, .int .i64 y.f4, .int .u8 y.f5, .int .i64 y.f6, .string y.f7]] (grow (redrawn wr n) os) fun e w'' => e = .returned (.int .i64 ((cnt ((opens l0).take p) y : Nat) : Int)) ∧ ∃ q : Regrown, w'' = grow (redrawn wr q.d) q.os := fun n os => by
                have h1 := Kd.C_below (Kd.C_below HAC6.out HBr.out) (below_regrown wr n os)
                have h2 := storemanlaw09_count.calls (p + 1) Aa ca ((opens l0).take p) y.f0 y.f1 y.f2 y.f3 y.f4 y.f5 y.f6 y.f7 _ (grow (redrawn wr n) os) h1 (by have := HACL.out; have := HTL.out; omega) (count_is ((opens l0).take p) y (by have := HTL.out; omega) (p + 1) (by have := HTL.out; omega))
                rw [HTL.out] at h2
                exact Calls.regrown_of h2
              have hne := run_neq_line y x
              have k0 := fun n os => cell_regrown q0 n os
              have k1 := fun n os => cell_regrown q1 n os
              have k2 := fun n os => cell_regrown q2 n os
              have k3 := fun n os => cell_regrown q3 n os
              have k4 := fun n os => cell_regrown q4 n os
              have k5 := fun n os => cell_regrown q5 n os
              have k6 := fun n os => cell_regrown q6 n os
              have k7 := fun n os => cell_regrown q7 n os
              have b0 : ∀ n os, (grow (redrawn wr n) os).cell? ⟨w4.heap.size, 0, none⟩ = some (.int .i64 x.f0) := fun n os => cell_regrown ((blk_cell (blk_below HX6.out HBr.out) 0).trans rfl) n os
              have b1 : ∀ n os, (grow (redrawn wr n) os).cell? ⟨w4.heap.size, 1, none⟩ = some (.string x.f1) := fun n os => cell_regrown ((blk_cell (blk_below HX6.out HBr.out) 1).trans rfl) n os
              have b2 : ∀ n os, (grow (redrawn wr n) os).cell? ⟨w4.heap.size, 2, none⟩ = some (.int .i64 x.f2) := fun n os => cell_regrown ((blk_cell (blk_below HX6.out HBr.out) 2).trans rfl) n os
              have b3 : ∀ n os, (grow (redrawn wr n) os).cell? ⟨w4.heap.size, 3, none⟩ = some (.int .i64 x.f3) := fun n os => cell_regrown ((blk_cell (blk_below HX6.out HBr.out) 3).trans rfl) n os
              have b4 : ∀ n os, (grow (redrawn wr n) os).cell? ⟨w4.heap.size, 4, none⟩ = some (.int .i64 x.f4) := fun n os => cell_regrown ((blk_cell (blk_below HX6.out HBr.out) 4).trans rfl) n os
              have b5 : ∀ n os, (grow (redrawn wr n) os).cell? ⟨w4.heap.size, 5, none⟩ = some (.int .u8 x.f5) := fun n os => cell_regrown ((blk_cell (blk_below HX6.out HBr.out) 5).trans rfl) n os
              have b6 : ∀ n os, (grow (redrawn wr n) os).cell? ⟨w4.heap.size, 6, none⟩ = some (.int .i64 x.f6) := fun n os => cell_regrown ((blk_cell (blk_below HX6.out HBr.out) 6).trans rfl) n os
              have b7 : ∀ n os, (grow (redrawn wr n) os).cell? ⟨w4.heap.size, 7, none⟩ = some (.string x.f7) := fun n os => cell_regrown ((blk_cell (blk_below HX6.out HBr.out) 7).trans rfl) n os
              clear q0 q1 q2 q3 q4 q5 q6 q7
              rcases hlaw with ⟨hq, hn, hs⟩ | ⟨hq, hn, hs⟩ | ⟨hq, hn, hs⟩
              · skip
                rw [hn] at hcnt
                rw [hs] at hne
                generalize lineCmp y x = q at hcmp hq
                have hqb : decide (q < 0) = true := decide_eq_true hq
                have hq0 : ¬ q = 0 := by omega
                have hqe : (q == 0) = false := beq_eq_false_iff_ne.2 hq0
                clear hn hs
                go_wp2_with fail
                refine wp_region_quiet_below (by kernel_rfl) (by kernel_rfl) ?_
                repeat (first | go_big_quiet_step ((first | (go_at_call 10; (with_reducible exact hcmp _ _)) | (go_at_call 25; (with_reducible exact hcnt _ _)))) | quiet_step ((first | (go_at_call 10; (with_reducible exact hcmp _ _)) | (go_at_call 25; (with_reducible exact hcnt _ _)))))
                refine wpQuiet_nil ?_
                intro _ hw'
                obtain ⟨⟨nq, osq⟩, hw''⟩ := hw'
                subst hw''
                have HBq := Lib.hid (below_then HBr.out HBr.out.size (below_regrown wr nq osq))
                generalize grow (redrawn wr nq) osq = wq at HBq ⊢
                clear k0 k1 k2 k3 k4 k5 k6 k7 b0 b1 b2 b3 b4 b5 b6 b7 hcmp hcnt hne
                go_wp2_with fail
                go_roundg ((opens l0).length - (j + 1))
                case measure => have := HJ.out; have := HJJ.out; omega
                case rel => exact ⟨j + 1, by go_num, by have := HJJ.out; have := HLEN.out; omega, Lib.hid ⟨by have := HJJ.out; omega, by have := HJJ.out; omega⟩, HBq⟩
              · skip
                rw [hn] at hcnt
                rw [hs] at hne
                generalize lineCmp y x = q at hcmp hq
                have hqn : ¬ q < 0 := by omega
                have hqb : decide (q < 0) = false := decide_eq_false hqn
                have hq0 : ¬ q = 0 := by omega
                have hqe : (q == 0) = false := beq_eq_false_iff_ne.2 hq0
                clear hn hs
                go_wp2_with fail
                refine wp_region_quiet_below (by kernel_rfl) (by kernel_rfl) ?_
                repeat (first | go_big_quiet_step ((first | (go_at_call 10; (with_reducible exact hcmp _ _)) | (go_at_call 25; (with_reducible exact hcnt _ _)))) | quiet_step ((first | (go_at_call 10; (with_reducible exact hcmp _ _)) | (go_at_call 25; (with_reducible exact hcnt _ _)))))
                refine wpQuiet_nil ?_
                intro _ hw'
                obtain ⟨⟨nq, osq⟩, hw''⟩ := hw'
                subst hw''
                have HBq := Lib.hid (below_then HBr.out HBr.out.size (below_regrown wr nq osq))
                generalize grow (redrawn wr nq) osq = wq at HBq ⊢
                clear k0 k1 k2 k3 k4 k5 k6 k7 b0 b1 b2 b3 b4 b5 b6 b7 hcmp hcnt hne
                go_wp2_with fail
                go_roundg ((opens l0).length - (j + 1))
                case measure => have := HJ.out; have := HJJ.out; omega
                case rel => exact ⟨j + 1, by go_num, by have := HJJ.out; have := HLEN.out; omega, Lib.hid ⟨by have := HJJ.out; omega, by have := HJJ.out; omega⟩, HBq⟩
              · skip
                rw [hn] at hcnt
                rw [hs] at hne
                generalize lineCmp y x = q at hcmp hq
                subst hq
                clear hn hs
                go_wp2_with fail
                refine wp_region_quiet_below (by kernel_rfl) (by kernel_rfl) ?_
                repeat (first | go_big_quiet_step ((first | (go_at_call 10; (with_reducible exact hcmp _ _)) | (go_at_call 25; (with_reducible exact hcnt _ _)))) | quiet_step ((first | (go_at_call 10; (with_reducible exact hcmp _ _)) | (go_at_call 25; (with_reducible exact hcnt _ _)))))
                refine wpQuiet_nil ?_
                intro _ hw'
                obtain ⟨⟨nq, osq⟩, hw''⟩ := hw'
                subst hw''
                have HBq := Lib.hid (below_then HBr.out HBr.out.size (below_regrown wr nq osq))
                generalize grow (redrawn wr nq) osq = wq at HBq ⊢
                clear k0 k1 k2 k3 k4 k5 k6 k7 b0 b1 b2 b3 b4 b5 b6 b7 hcmp hcnt hne
                go_wp2_with fail
                go_roundg ((opens l0).length - (j + 1))
                case measure => have := HJ.out; have := HJJ.out; omega
                case rel => exact ⟨j + 1, by go_num, by have := HJJ.out; have := HLEN.out; omega, Lib.hid ⟨by have := HJJ.out; omega, by have := HJJ.out; omega⟩, HBq⟩
            · have hz : ¬ (j : Int) < ((opens l0).length : Int) := by omega
              clear hj
              go_wp2_with fail
              go_ret
              exact ⟨rfl, below_then HW6.out HW6.out.size HBr.out⟩
def storemanlaw09_RankAhead.f (k : Nat) (l0 : List S24) (a1 : Int) : Option Bool := if l0.length ≤ 9223372036854775807 then some true else none
theorem storemanlaw09_RankAhead.calls (k : Nat) (A0 : Option Addr) (c0 : Nat) (l0 : List S24) (a1 : Int) (r : Bool) (w : World) (hr0 : Kd.C k24 w A0 l0.length l0) (hc0 : l0.length ≤ c0) (h : storemanlaw09_RankAhead.f k l0 a1 = some r) :
    Calls Try.prog 7 #[.slice A0 l0.length c0, .int .i64 a1] w fun e w' => e = .returned (.bool r) ∧ RowKit.Below w.heap.size w w' := by
  unfold storemanlaw09_RankAhead.f at h
  by_cases hl : l0.length ≤ 9223372036854775807
  · rw [if_pos hl] at h
    obtain rfl := Option.some.inj h
    exact RankAhead_walk A0 c0 l0 a1 w hr0 hc0 hl
  · rw [if_neg hl] at h; cases h
end Go.Proofs.Ytokmkjgbhlcngaa.Q
