/- What leads to LotNumbers: the functions' contracts and the plain laws under them. -/
import Derived.Test.YtckekncllmhohaaGreatVLotNumbers0
import Derived.Test.YtckekncllmhohaaGreatBLotNumbers0
import Derived.Test.YtckekncllmhohaaGreatBLotNumbers1
import Derived.Test.YtckekncllmhohaaGreatBLotNumbers2
import Derived.Test.YtckekncllmhohaaGreatBLotNumbers3
import Derived.Test.YtckekncllmhohaaGreatBLotNumbers4
import Derived.Test.YtckekncllmhohaaGreatBLotNumbers5
import Derived.Test.YtckekncllmhohaaGreatBLotNumbers6
import Derived.Test.YtckekncllmhohaaGreatBLotNumbers7
namespace Go.Proofs.YtckekncllmhohaaGreat.Q
open Go.RowKit Go.Sort Go.Proofs Go.Proofs.YtckekncllmhohaaGreatW.PrintWords Go.Proofs.YtckekncllmhohaaGreatW.PrintLast Go.Proofs.YtckekncllmhohaaGreatW.PrintMore Go.Proofs.YtckekncllmhohaaGreat.G
set_option linter.all false
theorem flt_le {α : Type} (p : α → Bool) (l : List α) : (l.filter p).length ≤ l.length := List.length_filter_le _ _
/-- A row of the call's own, told by its block. -/
theorem R_blk {α : Type} {d : Kd α} {e base : Nat} {W : World} {ok : Nat → Prop} {v : Value} {xs : List α} (h : Kd.R d e W base ok v xs) : ∀ k, v.ownBlock = some k → base ≤ k ∧ k < W.heap.size := fun k hk => by
  obtain ⟨ys, hy⟩ := Kd.R_own h
  exact ⟨own_base hy k hk, own_lt hy k hk⟩
attribute [local irreducible] Go.Calls
set_option maxHeartbeats 8000000 in
set_option maxRecDepth 100000 in
theorem LotLists_walk (A0 : Option Addr) (c0 : Nat) (l0 : List LtS) (day : Int) (item : ByteArray) (w : World) (hr0 : Kd.C k41 w A0 l0.length l0) (hc0 : l0.length ≤ c0) (hl : l0.length ≤ 9223372036854775807) (hit : item.size ≤ 140737488351232) :
    Calls Tryz.prog 3 #[.slice A0 l0.length c0, .int .i64 day, .string item] w fun e w' => e = .returned (.bool true) ∧ RowKit.Below w.heap.size w w' := by
  obtain ⟨g, hg, hgl⟩ := great_is l0 hl (l0.length + 1) (Nat.le_refl _)
  have HR0 := Lib.hid hr0
  have HC0 := Lib.hid hc0
  have HL := Lib.hid hl
  have HG := Lib.hid hg
  have HGL := Lib.hid hgl
  have hit0 : (0 : Int) ≤ (item.size : Int) := by omega
  clear hr0 hc0 hl hg hgl
  go_enter Tryz.func3, Tryz.ntmps3
  go_wp2_with fail
  refine (storemanlaw04_great.calls (l0.length + 1) A0 c0 l0 g w HR0.out HC0.out HG.out).mono ?_
  rintro e w2 ⟨rfl, ⟨⟨n2, rfl⟩⟩⟩
  have HB2 := Lib.hid (pw_below_drewN (Below.refl w.heap.size w) n2)
  generalize hw2 : w.drewN n2 = w2 at HB2 ⊢
  clear hw2 HG
  have hend : ∀ W : World, Calls Tryz.prog 6 #[] W fun e w' => e = .returned (.bool true) ∧ RowKit.Below W.heap.size W w' := fun W => storemanlaw04_awake.calls true W awake_is
  have HEND := Lib.hid hend
  clear hend
  cases g with
  | true =>
    go_wp2_with fail
    refine (HEND.out _).mono ?_
    rintro e w3 ⟨rfl, hb⟩
    have HB3 := Lib.hid (below_then HB2.out HB2.out.size hb)
    clear hb
    go_wp2_with fail
    go_ret
    exact ⟨rfl, HB3.out⟩
  | false =>
    by_cases hlong : (10000 : Int) < (item.size : Int)
    · have hd : decide ((10000 : Int) < (item.size : Int)) = true := decide_eq_true hlong
      have hdn : decide (10000 < item.size) = true := decide_eq_true (by omega)
      go_wp2_with fail
      refine (HEND.out _).mono ?_
      rintro e w3 ⟨rfl, hb⟩
      have HB3 := Lib.hid (below_then HB2.out HB2.out.size hb)
      clear hb
      go_wp2_with fail
      go_ret
      exact ⟨rfl, HB3.out⟩
    · have hd : decide ((10000 : Int) < (item.size : Int)) = false := decide_eq_false hlong
      have hdn : decide (10000 < item.size) = false := decide_eq_false (by omega)
      have HLEN := Lib.hid (HGL.out rfl)
      have HR2 := Lib.hid (Kd.C_below HR0.out HB2.out)
      clear HGL
      go_wp2_with fail
      refine (Ap.LentLots_runs A0 l0.length c0 (cellsL l0) w2 (cellsL_length l0) (cellsL_one l0) (cellsL_src HR2.out) (by have := HLEN.out; omega)).mono ?_
      rintro e w3 ⟨g, rfl, ho, hb⟩
      have hgg : w2.heap.size ≤ g ∧ g < w3.heap.size := ⟨own_base ho g (by simp [Value.ownBlock]), own_lt ho g (by simp [Value.ownBlock])⟩
      have HGG := Lib.hid hgg
      have HO3 := Lib.hid ho
      have HCI := Lib.hid (lent_C HL.out ho)
      have HB3 := Lib.hid (below_then HB2.out HB2.out.size hb)
      have HLE : Hid (l0.length ≤ 1000000) := Lib.hid (by have := HLEN.out; omega)
      clear hgg ho hb hd hdn hlong
      -- Sort
      have HSTEP := Lib.hid (lot_Sort.calls (some ⟨g, 0, none⟩) (l0.length + 12) l0 (sorts l0) w3 HCI.out (by omega) (by unfold lot_Sort.f; rw [if_pos HLE.out]; rfl))
      go_wp2_with fail
      refine HSTEP.out.mono ?_
      rintro e w4 ⟨v1, rfl, hR, hb⟩
      have HB4 := Lib.hid (below_then HB3.out HB3.out.size hb)
      have HX4 := Lib.hid hb
      have HS34 := Lib.hid hb.size
      have H1 := Lib.hid hR
      have HK1 := Lib.hid (R_blk hR)
      clear hR hb HSTEP
      -- Of
      have HSTEP := Lib.hid (lot_Of.calls (some ⟨g, 0, none⟩) (l0.length + 12) l0 item (l0.filter fun x => x.f1.toList == item.toList) w4 (Kd.C_below HCI.out HX4.out) (by omega) (by unfold lot_Of.f; rw [if_pos HLE.out]))
      go_wp2_with fail
      refine HSTEP.out.mono ?_
      rintro e w5 ⟨v2, rfl, hR, hb⟩
      have HB5 := Lib.hid (below_then HB4.out HB4.out.size hb)
      have HX5 := Lib.hid (below_then HX4.out HX4.out.size hb)
      have H1' := Lib.hid (Kd.R_below H1.out hb)
      have H2 := Lib.hid hR
      have HK2 := Lib.hid (R_blk hR)
      have HS45 := Lib.hid hb.size
      clear hR hb HSTEP H1
      -- Sweep
      have HSTEP := Lib.hid (lot_Sweep.own (some ⟨g, 0, none⟩) (l0.length + 12) l0 day (l0.filter (fun x => !overB day x)) (l0.filter (overB day)) w5 (Kd.C_below HCI.out HX5.out) (by omega) (by unfold lot_Sweep.f; rw [if_pos HLE.out]))
      go_wp2_with fail
      refine HSTEP.out.mono ?_
      rintro e w6 ⟨v3, v4, rfl, hR3, hR4, hb, hne⟩
      have HB6 := Lib.hid (below_then HB5.out HB5.out.size hb)
      have HX6 := Lib.hid (below_then HX5.out HX5.out.size hb)
      have H1 := Lib.hid (Kd.R_below H1'.out hb)
      have H2' := Lib.hid (Kd.R_below H2.out hb)
      have H3 := Lib.hid hR3
      have H4 := Lib.hid hR4
      have HK3 := Lib.hid (R_blk hR3)
      have HK4 := Lib.hid (R_blk hR4)
      have HNE := Lib.hid hne
      have HS56 := Lib.hid hb.size
      clear hR3 hR4 hb hne HSTEP H1' H2
      -- On
      obtain ⟨q, hq, hqr⟩ : ∃ q, lot_On.f l0 day = some q ∧ ∃ k, storemanref04_On.f k l0 day = some q := refOn_is l0 day HLE.out
      have HQR := Lib.hid hqr
      have HSTEP := Lib.hid (lot_On.calls (some ⟨g, 0, none⟩) (l0.length + 12) l0 day q w6 (Kd.C_below HCI.out HX6.out) (by omega) hq)
      clear hq hqr
      go_wp2_with fail
      refine HSTEP.out.mono ?_
      rintro e w7 ⟨rfl, hb⟩
      have HB7 := Lib.hid (below_then HB6.out HB6.out.size hb)
      have HX7 := Lib.hid (below_then HX6.out HX6.out.size hb)
      have H1' := Lib.hid (Kd.R_below H1.out hb)
      have H2 := Lib.hid (Kd.R_below H2'.out hb)
      have H3' := Lib.hid (Kd.R_below H3.out hb)
      have H4' := Lib.hid (Kd.R_below H4.out hb)
      have HO7 := Lib.hid (Ap.owns_below HO3.out HX7.out)
      have HR7 := Lib.hid (Kd.C_below HR0.out HB7.out)
      clear hb HSTEP H1 H2' H3 H4 HO3 HX4 HX5 HX6 HB3 HB4 HB5 HB6 HR2
      -- Kept
      have HSTEP := Lib.hid (Ap.KeptLots_runs A0 l0.length c0 g w2.heap.size (cellsL l0) (elL l0) w7 (cellsL_length l0) (elL_is l0) (fun i hi W => elL_same l0 i W) HO7.out (fun W hW i hi => elL_at HR7.out W hW i hi) (by have := HLEN.out; omega))
      go_wp2_with fail
      refine HSTEP.out.mono ?_
      rintro e w8 ⟨rfl, hb⟩
      have HB8 := Lib.hid (below_then HB7.out HB7.out.size hb)
      have HX8 := Lib.hid (below_then HX7.out HX7.out.size hb)
      have H1 := Lib.hid (Kd.R_below H1'.out hb)
      have H2' := Lib.hid (Kd.R_below H2.out hb)
      have H3 := Lib.hid (Kd.R_below H3'.out hb)
      have H4 := Lib.hid (Kd.R_below H4'.out hb)
      have HO8 := Lib.hid (Ap.owns_below HO7.out hb)
      clear hb HSTEP H1' H2 H3' H4' HO7
      -- Over
      have HSTEP := Lib.hid (Ap.OverLots_runs l0.length g w2.heap.size _ w8 (Ap.ownW_of HO8.out) (by have := HLEN.out; omega))
      go_wp2_with fail
      refine HSTEP.out.mono ?_
      rintro e w9 ⟨rfl, hg⟩
      have HSZ := Lib.hid (show w3.heap.size ≤ w9.heap.size from Nat.le_trans HX8.out.size hg.size)
      have HB9 := Lib.hid (Ap.below_grown HB8.out hg HB8.out.size (fun k hk => by simp only [Option.some.injEq] at hk; have := HB2.out.size; have := HGG.out.1; omega))
      have hlt4 : g < w4.heap.size ∧ g < w5.heap.size := by have := HGG.out.2; have := HS34.out; have := HS45.out; omega
      have h1 := R_over H1.out hg HGG.out.2
      have h2 := R_over H2'.out hg hlt4.1
      have h3 := R_over H3.out hg hlt4.2
      have h4 := R_over H4.out hg hlt4.2
      have ho1 := Ap.own_R h1
      have ho2 := Ap.own_R h2
      have ho3 := Ap.own_R h3
      have ho4 := Ap.own_R h4
      obtain ⟨A1, c1, rfl, hc1, hC1⟩ := Kd.R_reads h1
      obtain ⟨A2, c2, rfl, hc2, hC2⟩ := Kd.R_reads h2
      obtain ⟨A3, c3, rfl, hc3, hC3⟩ := Kd.R_reads h3
      obtain ⟨A4, c4, rfl, hc4, hC4⟩ := Kd.R_reads h4
      have HR9 := Lib.hid (Kd.C_below HR0.out HB9.out)
      have HO1 := Lib.hid ho1
      have HO2 := Lib.hid ho2
      have HO3 := Lib.hid ho3
      have HO4 := Lib.hid ho4
      have HQ1 := Lib.hid hC1
      have HQ2 := Lib.hid hC2
      have HQ3 := Lib.hid hC3
      have HQ4 := Lib.hid hC4
      have HC1 := Lib.hid hc1
      have HC2 := Lib.hid hc2
      have HC3 := Lib.hid hc3
      have HC4 := Lib.hid hc4
      clear hg hlt4 h1 h2 h3 h4 ho1 ho2 ho3 ho4 hC1 hC2 hC3 hC4 hc1 hc2 hc3 hc4 HSTEP H1 H2' H3 H4 HO8 HB8 HX8 HX7 HB7 HR7
      -- the reference's answers, one by one
      obtain ⟨kw, hkw⟩ := refSweep_is l0 day HLE.out
      have HSTEP := Lib.hid (storemanref04_Sweep.calls kw A0 c0 l0 day (l0.filter (fun x => !overB day x)) (l0.filter (overB day)) w9 HR9.out HC0.out hkw)
      clear hkw
      go_wp2_with fail
      refine HSTEP.out.mono ?_
      rintro e w10 ⟨u1, u2, rfl, hR1, hR2, hb⟩
      obtain ⟨B1, d1, rfl, hd1, hD1⟩ := Kd.R_reads hR1
      obtain ⟨B2, d2, rfl, hd2, hD2⟩ := Kd.R_reads hR2
      have HX10 := Lib.hid hb
      have HD1 := Lib.hid hD1
      have HD2 := Lib.hid hD2
      have HE1 := Lib.hid hd1
      have HE2 := Lib.hid hd2
      clear hR1 hR2 hb hd1 hd2 hD1 hD2 HSTEP
      -- Sort
      obtain ⟨ks, hks⟩ := refSort_is l0 HLE.out
      have HSTEP := Lib.hid (storemanref04_Sort.calls ks A0 c0 l0 (sorts l0) w10 (Kd.C_below HR9.out HX10.out) HC0.out hks)
      clear hks
      go_wp2_with fail
      refine HSTEP.out.mono ?_
      rintro e w11 ⟨u3, rfl, hR1, hb⟩
      obtain ⟨B3, d3, rfl, hd3, hD3⟩ := Kd.R_reads hR1
      have HX11 := Lib.hid (below_then HX10.out HX10.out.size hb)
      have HY11 := Lib.hid hb
      have HD3 := Lib.hid hD3
      have HE3 := Lib.hid hd3
      clear hR1 hb hd3 hD3 HSTEP
      have HSTEP := Lib.hid (storemankit_SameLots.calls ((sorts l0).length + 1) A1 c1 (sorts l0) B3 d3 (sorts l0) true w11 (Kd.C_below HQ1.out HX11.out) HC1.out HD3.out HE3.out (same_is (sorts l0) (by have h_ := HLE.out; have := sorts_length l0; omega) _ (Nat.le_refl _)))
      go_wp2_with fail
      refine HSTEP.out.mono ?_
      rintro e w12 ⟨rfl, ⟨⟨n_, rfl⟩⟩⟩
      have hb := pw_below_drewN (Below.refl w11.heap.size w11) n_
      generalize w11.drewN n_ = w12 at hb ⊢
      have HX12 := Lib.hid (below_then HX11.out HX11.out.size hb)
      have HY12 := Lib.hid (below_then HY11.out HY11.out.size hb)
      clear hb HSTEP HY11
      -- Of
      obtain ⟨ko, hko⟩ := refOf_is l0 item HLE.out
      have HSTEP := Lib.hid (storemanref04_Of.calls ko A0 c0 l0 item (l0.filter fun x => x.f1.toList == item.toList) w12 (Kd.C_below HR9.out HX12.out) HC0.out hko)
      clear hko
      go_wp2_with fail
      refine HSTEP.out.mono ?_
      rintro e w13 ⟨u4, rfl, hR1, hb⟩
      obtain ⟨B4, d4, rfl, hd4, hD4⟩ := Kd.R_reads hR1
      have HX13 := Lib.hid (below_then HX12.out HX12.out.size hb)
      have HY13 := Lib.hid (below_then HY12.out HY12.out.size hb)
      have HD4 := Lib.hid hD4
      have HE4 := Lib.hid hd4
      clear hR1 hb hd4 hD4 HSTEP HY12
      have HSTEP := Lib.hid (storemankit_SameLots.calls ((l0.filter fun x => x.f1.toList == item.toList).length + 1) A2 c2 (l0.filter fun x => x.f1.toList == item.toList) B4 d4 (l0.filter fun x => x.f1.toList == item.toList) true w13 (Kd.C_below HQ2.out HX13.out) HC2.out HD4.out HE4.out (same_is (l0.filter fun x => x.f1.toList == item.toList) (by have h_ := HLE.out; have := flt_le (fun x : S41 => x.f1.toList == item.toList) l0; omega) _ (Nat.le_refl _)))
      go_wp2_with fail
      refine HSTEP.out.mono ?_
      rintro e w14 ⟨rfl, ⟨⟨n_, rfl⟩⟩⟩
      have hb := pw_below_drewN (Below.refl w13.heap.size w13) n_
      generalize w13.drewN n_ = w14 at hb ⊢
      have HX14 := Lib.hid (below_then HX13.out HX13.out.size hb)
      have HY14 := Lib.hid (below_then HY13.out HY13.out.size hb)
      clear hb HSTEP HY13
      -- Sweep's two
      have HZ1 := Lib.hid (Kd.C_below HD1.out HY14.out)
      have HZ2 := Lib.hid (Kd.C_below HD2.out HY14.out)
      have HSTEP := Lib.hid (storemankit_SameLots.calls ((l0.filter fun x => !overB day x).length + 1) A3 c3 (l0.filter fun x => !overB day x) B1 d1 (l0.filter fun x => !overB day x) true w14 (Kd.C_below HQ3.out HX14.out) HC3.out HZ1.out HE1.out (same_is (l0.filter fun x => !overB day x) (by have h_ := HLE.out; have := flt_le (fun x : S41 => !overB day x) l0; omega) _ (Nat.le_refl _)))
      go_wp2_with fail
      refine HSTEP.out.mono ?_
      rintro e w15 ⟨rfl, ⟨⟨n_, rfl⟩⟩⟩
      have hb := pw_below_drewN (Below.refl w14.heap.size w14) n_
      generalize w14.drewN n_ = w15 at hb ⊢
      have HX15 := Lib.hid (below_then HX14.out HX14.out.size hb)
      have HZ3 := Lib.hid (Kd.C_below HZ2.out hb)
      clear hb HSTEP HZ1 HZ2
      have HSTEP := Lib.hid (storemankit_SameLots.calls ((l0.filter (overB day)).length + 1) A4 c4 (l0.filter (overB day)) B2 d2 (l0.filter (overB day)) true w15 (Kd.C_below HQ4.out HX15.out) HC4.out HZ3.out HE2.out (same_is (l0.filter (overB day)) (by have h_ := HLE.out; have := flt_le (overB day) l0; omega) _ (Nat.le_refl _)))
      go_wp2_with fail
      refine HSTEP.out.mono ?_
      rintro e w16 ⟨rfl, ⟨⟨n_, rfl⟩⟩⟩
      have hb := pw_below_drewN (Below.refl w15.heap.size w15) n_
      generalize w15.drewN n_ = w16 at hb ⊢
      have HX16 := Lib.hid (below_then HX15.out HX15.out.size hb)
      clear hb HSTEP HZ3 HX10 HX11 HX12 HX13 HX14 HX15
      -- On
      obtain ⟨kn, hkn⟩ := HQR.out
      have HSTEP := Lib.hid (storemanref04_On.calls kn A0 c0 l0 day q w16 (Kd.C_below HR9.out HX16.out) HC0.out hkn)
      clear hkn
      go_wp2_with fail
      refine HSTEP.out.mono ?_
      rintro e w17 ⟨rfl, hb⟩
      have HX17 := Lib.hid (below_then HX16.out HX16.out.size hb)
      have HB17 := Lib.hid (below_then HB9.out HB9.out.size HX17.out)
      clear hb HSTEP HX16
      -- Apart
      have hap := Ap.ApartLots_runs 4 w17.heap.size 4 w3.heap.size #[Value.slice A1 (sorts l0).length c1, Value.slice A2 (l0.filter fun x => x.f1.toList == item.toList).length c2, Value.slice A3 (l0.filter fun x => !overB day x).length c3, Value.slice A4 (l0.filter (overB day)).length c4]
        (fun k => if k = 0 then Value.slice A1 (sorts l0).length c1 else if k = 1 then Value.slice A2 (l0.filter fun x => x.f1.toList == item.toList).length c2 else if k = 2 then Value.slice A3 (l0.filter fun x => !overB day x).length c3 else Value.slice A4 (l0.filter (overB day)).length c4)
        (fun k => if k = 0 then (sorts l0).length else if k = 1 then (l0.filter fun x => x.f1.toList == item.toList).length else if k = 2 then (l0.filter fun x => !overB day x).length else (l0.filter (overB day)).length)
        (w17.alloc (Obj.cells #[Value.slice A1 (sorts l0).length c1, Value.slice A2 (l0.filter fun x => x.f1.toList == item.toList).length c2, Value.slice A3 (l0.filter fun x => !overB day x).length c3, Value.slice A4 (l0.filter (overB day)).length c4] 22)) (by decide) (heap_alloc_new w17 _)
        (fun k hk => by
          have : k = 0 ∨ k = 1 ∨ k = 2 ∨ k = 3 := by omega
          rcases this with rfl | rfl | rfl | rfl <;> rfl)
        (fun k hk => by
          have hbz := below_alloc (Below.refl w17.heap.size w17) (Obj.cells #[Value.slice A1 (sorts l0).length c1, Value.slice A2 (l0.filter fun x => x.f1.toList == item.toList).length c2, Value.slice A3 (l0.filter fun x => !overB day x).length c3, Value.slice A4 (l0.filter (overB day)).length c4] 22)
          have : k = 0 ∨ k = 1 ∨ k = 2 ∨ k = 3 := by omega
          rcases this with rfl | rfl | rfl | rfl
          · obtain ⟨ys, h⟩ := HO1.out
            exact ⟨ys, (h.below HX17.out).below hbz⟩
          · obtain ⟨ys, h⟩ := HO2.out
            exact ⟨ys, ((h.base HS34.out).below HX17.out).below hbz⟩
          · obtain ⟨ys, h⟩ := HO3.out
            exact ⟨ys, ((h.base (Nat.le_trans HS34.out HS45.out)).below HX17.out).below hbz⟩
          · obtain ⟨ys, h⟩ := HO4.out
            exact ⟨ys, ((h.base (Nat.le_trans HS34.out HS45.out)).below HX17.out).below hbz⟩)
        (fun j k hj hk hjk b h1 h2 => by
          have t1 := HK1.out b
          have t2 := HK2.out b
          have t3 := HK3.out b
          have t4 := HK4.out b
          have t5 := HNE.out b
          have a1 := HS45.out
          have a2 := HS56.out
          have e1 : j = 0 ∨ j = 1 ∨ j = 2 ∨ j = 3 := by omega
          have e2 : k = 0 ∨ k = 1 ∨ k = 2 ∨ k = 3 := by omega
          rcases e1 with rfl | rfl | rfl | rfl <;> rcases e2 with rfl | rfl | rfl | rfl <;> first
            | exact absurd rfl hjk
            | (have := t1 h1; have := t2 h2; omega) | (have := t2 h1; have := t1 h2; omega)
            | (have := t1 h1; have := t3 h2; omega) | (have := t3 h1; have := t1 h2; omega)
            | (have := t1 h1; have := t4 h2; omega) | (have := t4 h1; have := t1 h2; omega)
            | (have := t2 h1; have := t3 h2; omega) | (have := t3 h1; have := t2 h2; omega)
            | (have := t2 h1; have := t4 h2; omega) | (have := t4 h1; have := t2 h2; omega)
            | exact t5 h1 h2 | exact t5 h2 h1)
        (fun k hk => by
          have := HLE.out; have := sorts_length l0; have := flt_le (fun x : S41 => x.f1.toList == item.toList) l0; have := flt_le (fun x : S41 => !overB day x) l0; have := flt_le (overB day) l0
          show (if k = 0 then _ else _) ≤ _
          split
          · omega
          · split
            · exact Nat.le_trans (List.length_filter_le _ _) (by omega)
            · split <;> exact Nat.le_trans (List.length_filter_le _ _) (by omega)) (by decide) (by have := HX17.out.size; have := HSZ.out; simp; omega)
      have HAP := Lib.hid hap
      clear hap HO1 HO2 HO3 HO4 HQ1 HQ2 HQ3 HQ4
      go_wp2_with fail
      refine HAP.out.mono ?_
      rintro e w18 ⟨rfl, hb⟩
      have HB18 := Lib.hid ((below_alloc HB17.out (Obj.cells #[Value.slice A1 (sorts l0).length c1, Value.slice A2 (l0.filter fun x => x.f1.toList == item.toList).length c2, Value.slice A3 (l0.filter fun x => !overB day x).length c3, Value.slice A4 (l0.filter (overB day)).length c4] 22)).trans (hb.mono (by have := HB2.out.size; have := HGG.out; omega)))
      clear hb HAP HB17 HX17
      go_wp2_with fail
      refine (HEND.out _).mono ?_
      rintro e w19 ⟨rfl, hb⟩
      have HB19 := Lib.hid (below_then HB18.out HB18.out.size hb)
      clear hb HB18
      go_wp2_with fail
      go_ret
      exact ⟨rfl, HB19.out⟩
def storemanlaw04_LotLists.f (l0 : List S41) (_a1 : Int) (a2 : ByteArray) : Option Bool := if l0.length ≤ 9223372036854775807 ∧ a2.size ≤ 140737488351232 then some true else none
theorem storemanlaw04_LotLists.calls (A0 : Option Addr) (c0 : Nat) (l0 : List S41) (a1 : Int) (a2 : ByteArray) (r : Bool) (w : World) (hr0 : Kd.C k41 w A0 l0.length l0) (hc0 : l0.length ≤ c0) (h : storemanlaw04_LotLists.f l0 a1 a2 = some r) :
    Calls Tryz.prog 3 #[.slice A0 l0.length c0, .int .i64 a1, .string a2] w fun e w' => e = .returned (.bool r) ∧ RowKit.Below w.heap.size w w' := by
  unfold storemanlaw04_LotLists.f at h
  by_cases hl : l0.length ≤ 9223372036854775807 ∧ a2.size ≤ 140737488351232
  · rw [if_pos hl] at h
    obtain rfl := Option.some.inj h
    exact LotLists_walk A0 c0 l0 a1 a2 w hr0 hc0 hl.1 hl.2
  · rw [if_neg hl] at h; cases h
end Go.Proofs.YtckekncllmhohaaGreat.Q
