/- What leads to LotNumbers: the functions' contracts and the plain laws under them. -/
import Derived.Test.YtckekncllmhohaaGreatVLotNumbers0
import Derived.Test.YtckekncllmhohaaGreatBLotNumbers0
import Derived.Test.YtckekncllmhohaaGreatBLotNumbers1
namespace Go.Proofs.YtckekncllmhohaaGreat.Q
open Go.Shelf Go.RowKit Go.Lib Go.Sort Go.Proofs Go.Proofs.YtckekncllmhohaaGreat.G
set_option linter.all false

section
variable {α : Type} [Inhabited α]
set_option maxHeartbeats 8000000 in
set_option maxRecDepth 1000000 in
/-- slices.symMergeCmpFunc: more than one on either side. -/
theorem symMerge_goL {P : Program} (L : SLays P) (k : Nat) (aE : ∀ w, (isAgg 41).run P w = .ok true w) (zE : ∀ w, (Go.sizeOf 41).run P w = .ok k w) (enc : α → List Value) (cf : α → α → Int) (g : Nat) (cb : Array Value) (blk off cap : Nat) (d0 d : Array α) (w0 w : World)
    (eg : ∀ args w, (callFunc g args).run P w = .ok (.enter g args) w) (HC : Aside (CmpBelow P g cb enc k cf blk off d0.size w0)) (HZ : Hid (w0.drawn = 0)) (R : RowK enc k w0 blk off d0) (hs : d0.size = d.size) (S0 : Aside (SWK enc k w0 blk off d w)) (hsz : d.size < 1000000000000)
    (f a m b mid st e : Nat) (ham : a + 1 < m) (hmb : m + 1 < b) (hb : b ≤ d.size) (hf : b - a ≤ f + 1) (hmid : mid = (a + b) / 2) (hside : mid < m) (hst : smStart (ltOf cf) a m b d = st) (he : e = mid + m - st) (p1 : a ≤ st) (p2 : st ≤ m) (p3 : st ≤ mid) (p4 : e ≤ b)
    (IH : Hid (∀ (a m b : Nat) (dk : Array α) (wk : World), a < m → m < b → b ≤ d.size → b - a ≤ f → dk.size = d.size → Aside (SWK enc k w0 blk off dk wk) → Calls P 67 #[.slice (some ⟨blk, off, none⟩) d.size cap, .int .i64 a, .int .i64 m, .int .i64 b, .func (.func g) #[] cb] wk fun e w' => e = .returned (.tuple #[]) ∧ SWK enc k w0 blk off (symMerge (ltOf cf) f a m b dk) w')) :
    Calls P 67 #[.slice (some ⟨blk, off, none⟩) d.size cap, .int .i64 a, .int .i64 m, .int .i64 b, .func (.func g) #[] cb] w fun e' w' => e' = .returned (.tuple #[]) ∧ SWK enc k w0 blk off
      (smL (ltOf cf) f mid e b (smL (ltOf cf) f a st mid (smRot m st e d))) w' := by
  have mixed := L.mixed; have t3 := L.t3; have a3 := L.a3; have z3 := L.z3; have v3 := L.v3; have tu := L.tu; have t4 := L.t4; have a4 := L.a4; have z4 := L.z4; have v4 := L.v4; have t22 := L.t22; have a22 := L.a22; have z22 := L.z22; have a25 := L.a25; have z25 := L.z25; have u22 := run_underlying L.t22
  have FG := L.fSym
  have e67 : ∀ args w, (callFunc 67 args).run P w = .ok (.enter 67 args) w := enters_of L.fSym (by kernel_rfl) rfl
  have e96 : ∀ args w, (callFunc 97 args).run P w = .ok (.enter 97 args) w := enters_of L.fRot (by kernel_rfl) rfl
  have HS := Lib.hid hst
  have hmid2 : mid < b := by omega
  have hmid1 : a < mid := by omega
  have hmd := Lib.hid hmid
  have hmz : ((a : Int) + (b : Int)) / 2 = (mid : Int) := by omega
  have hq1 : ((m : Int) - (a : Int) == 1) = false := beq_eq_false_iff_ne.2 (by omega)
  have hq2 : ((b : Int) - (m : Int) == 1) = false := beq_eq_false_iff_ne.2 (by omega)
  have hmm : mid + m ≤ a + b ∨ mid < m := by omega
  have hsz1 : (mid : Int) < (m : Int) := by omega
  have HEQ := Lib.hid he
  clear hst hmid he
  go_enter FG, Tryz.ntmps67
  go_wp2
  go_loopg [20, 21] ((mid) - (mid + m - b)) (fun kx s20 s21 wr => ∃ (i j : Nat), s20 = .int .i64 i ∧ s21 = .int .i64 j ∧ mid + m - b ≤ i ∧ i ≤ j ∧ j ≤ mid ∧ j - i ≤ kx ∧ Aside (SWK enc k w0 blk off d wr) ∧ Hid (bsr (fun c => !ltOf cf d[mid + m - 1 - c]! d[c]!) i j = bsr (fun c => !ltOf cf d[mid + m - 1 - c]! d[c]!) (mid + m - b) (mid)))
  case atStart => exact ⟨mid + m - b, mid, by first | rfl | (congr 1; omega), rfl, Nat.le_refl _, by omega, Nat.le_refl _, Nat.le_refl _, S0, rfl⟩
  case round =>
    clear S0 hmz hq1 hq2
    obtain ⟨i, j, rfl, rfl, hai, hij, hjb, hkx, S1, HE⟩ := hrel
    by_cases hlt : i < j
    · have hltz : (i : Int) < (j : Int) := by omega
      obtain ⟨c, hh⟩ : ∃ c : Nat, c = (i + j) / 2 := ⟨_, rfl⟩
      have h1 : i ≤ c := by omega
      have h2 : c < j := by omega
      have hz : ((i : Int) + (j : Int)) / 2 = (c : Int) := by omega
      have HH := Lib.hid hh
      clear hh
      obtain ⟨u, hu⟩ : ∃ u : Nat, u = mid + m - 1 - c := ⟨_, rfl⟩
      have huz : (mid : Int) + (m : Int) - 1 - (c : Int) = (u : Int) := by omega
      have hub : u < d.size := by omega
      clear hmm
      have HU := Lib.hid hu
      clear hu
      cases hL : ltOf cf d[u]! d[c]! with
      | true =>
        have ea8 : ((u : Int)).toNat = u := by omega
        have pa8 : (0 : Int) ≤ (u : Int) := by omega
        have ba8 : (u : Int) < (d.size : Int) := by omega
        have ra8 : IntKind.i64.wrap ((u : Int)) = (u : Int) := by rw [IntKind.wrap_i64]; omega
        have ec8 : ((c : Int)).toNat = c := by omega
        have pc8 : (0 : Int) ≤ (c : Int) := by omega
        have bc8 : (c : Int) < (d.size : Int) := by omega
        have rc8 : IntKind.i64.wrap ((c : Int)) = (c : Int) := by rw [IntKind.wrap_i64]; omega
        obtain ⟨x8, hx8⟩ : ∃ x, x = d[u]! := ⟨_, rfl⟩
        obtain ⟨y8, hy8⟩ : ∃ x, x = d[c]! := ⟨_, rfl⟩
        have l8a := S1.out.ldz HZ R (by omega) P (u) (by omega)
        have l8b := S1.out.ldz HZ R (by omega) P (c) (by omega)
        rw [← hx8] at l8a
        rw [← hy8] at l8b
        have hc8 := S1.out.cmpz HZ HC.out (by omega) x8 y8
        have hv8 : cf x8 y8 < 0 := by rw [hx8, hy8]; exact of_decide_eq_true hL
        have hd8 : decide (cf x8 y8 < 0) = true := decide_eq_true hv8
        clear hx8 hy8
        go_wp2_with fail
        refine wp_region_quiet_below (by assumption) (by kernel_rfl) ?_
        repeat (quiet_step (first | (go_at_fn g; exact hc8 _ _)))
        refine wpQuiet_nil ?_
        intro _ hw'
        obtain ⟨⟨nq, osq⟩, hw''⟩ := hw'
        subst hw''
        have S2 : Aside (SWK enc k w0 blk off d (grow (redrawn wr nq) osq)) := S1.out.regrownZ HZ nq osq
        clear l8a l8b hc8 S1
        generalize grow (redrawn wr nq) osq = w2 at S2 ⊢
        clear nq osq
        go_wp2
        go_roundg (c - i)
        case measure => omega
        case rel =>
          refine ⟨i, c, rfl, rfl, hai, h1, by omega, Nat.le_refl _, S2, (show Hid _ from ?_)⟩
          show _ = _
          rw [← HE.out, bsr_false (fun c => !ltOf cf d[mid + m - 1 - c]! d[c]!) hlt HH.out (by simp only [← HU.out, hL, Bool.not_true])]
      | false =>
        have ea9 : ((u : Int)).toNat = u := by omega
        have pa9 : (0 : Int) ≤ (u : Int) := by omega
        have ba9 : (u : Int) < (d.size : Int) := by omega
        have ra9 : IntKind.i64.wrap ((u : Int)) = (u : Int) := by rw [IntKind.wrap_i64]; omega
        have ec9 : ((c : Int)).toNat = c := by omega
        have pc9 : (0 : Int) ≤ (c : Int) := by omega
        have bc9 : (c : Int) < (d.size : Int) := by omega
        have rc9 : IntKind.i64.wrap ((c : Int)) = (c : Int) := by rw [IntKind.wrap_i64]; omega
        obtain ⟨x9, hx9⟩ : ∃ x, x = d[u]! := ⟨_, rfl⟩
        obtain ⟨y9, hy9⟩ : ∃ x, x = d[c]! := ⟨_, rfl⟩
        have l9a := S1.out.ldz HZ R (by omega) P (u) (by omega)
        have l9b := S1.out.ldz HZ R (by omega) P (c) (by omega)
        rw [← hx9] at l9a
        rw [← hy9] at l9b
        have hc9 := S1.out.cmpz HZ HC.out (by omega) x9 y9
        have hv9 : ¬ cf x9 y9 < 0 := by rw [hx9, hy9]; exact of_decide_eq_false hL
        have hd9 : decide (cf x9 y9 < 0) = false := decide_eq_false hv9
        clear hx9 hy9
        go_wp2_with fail
        refine wp_region_quiet_below (by assumption) (by kernel_rfl) ?_
        repeat (quiet_step (first | (go_at_fn g; exact hc9 _ _)))
        refine wpQuiet_nil ?_
        intro _ hw'
        obtain ⟨⟨nq, osq⟩, hw''⟩ := hw'
        subst hw''
        have S2 : Aside (SWK enc k w0 blk off d (grow (redrawn wr nq) osq)) := S1.out.regrownZ HZ nq osq
        clear l9a l9b hc9 S1
        generalize grow (redrawn wr nq) osq = w2 at S2 ⊢
        clear nq osq
        go_wp2
        go_roundg (j - (c + 1))
        case measure => omega
        case rel =>
          refine ⟨c + 1, j, by first | rfl | go_num, rfl, by omega, by omega, hjb, Nat.le_refl _, S2, (show Hid _ from ?_)⟩
          show _ = _
          rw [← HE.out, bsr_true (fun c => !ltOf cf d[mid + m - 1 - c]! d[c]!) hlt HH.out (by simp only [← HU.out, hL, Bool.not_false])]
    · obtain rfl : i = j := by omega
      have hltz : ¬ (i : Int) < (i : Int) := by omega
      obtain rfl : i = st := by
        have h1 := HS.out
        have h2 := HE.out
        rw [bsr_stop] at h2
        unfold smStart at h1
        rw [← hmd.out] at h1
        rw [if_pos hside, if_pos hside] at h1
        exact h2.trans h1
      clear HE HS hkx hjb hai hij
      have hez : (mid : Int) + (m : Int) - (i : Int) = (e : Int) := by have := HEQ.out; omega
      have hme : m ≤ e := by have := HEQ.out; omega
      have hme2 : mid ≤ e := by have := HEQ.out; omega
      by_cases c1 : i < m ∧ m < e
      · have c1x : (i : Int) < (m : Int) := by omega
        have c1y : (m : Int) < (e : Int) := by omega
        by_cases c2 : a < i ∧ i < mid
        · have c2x : (a : Int) < (i : Int) := by omega
          have c2y : (i : Int) < (mid : Int) := by omega
          by_cases c3 : mid < e ∧ e < b
          · have c3x : (mid : Int) < (e : Int) := by omega
            have c3y : (e : Int) < (b : Int) := by omega
            first | (exfalso; have := HEQ.out; omega) | skip
            all_goals
              have HC1 := Lib.hid (rotate_any L k aE zE enc cf g cb blk off cap d0 d w0 wr R hs S1 hsz i m e c1.1 c1.2 (by omega))
              go_wp2_with fail
              refine HC1.out.mono ?_
              rintro e1 w1 ⟨rfl, S2⟩
              have S3 : Aside (SWK enc k w0 blk off (smRot m i e d) w1) := by unfold smRot; rw [if_pos c1]; exact S2
              clear S2 HC1
              have hz3 := Lib.hid (show (smRot m i e d).size = d.size from size_smRot _ _ _ _)
              have HC2 := Lib.hid (IH.out a i mid _ w1 c2.1 c2.2 (by omega) (by omega) hz3.out S3)
              go_wp2_with fail
              refine HC2.out.mono ?_
              rintro e2 w2 ⟨rfl, S4⟩
              have S5 : Aside (SWK enc k w0 blk off (smL (ltOf cf) f a i mid (smRot m i e d)) w2) := by rw [smL_pos c2]; exact S4
              clear S4 HC2
              have hz5 := Lib.hid (show (smL (ltOf cf) f a i mid (smRot m i e d)).size = d.size from by rw [size_smL]; exact hz3.out)
              have HC3 := Lib.hid (IH.out mid e b _ w2 c3.1 c3.2 hb (by omega) hz5.out S5)
              go_wp2_with fail
              refine HC3.out.mono ?_
              rintro e3 w3 ⟨rfl, S6⟩
              have S7 : Aside (SWK enc k w0 blk off (symMerge (ltOf cf) f mid e b (smL (ltOf cf) f a i mid (smRot m i e d))) w3) := S6
              clear S6 HC3
              go_wp2_with fail
              go_end0
              refine ⟨rfl, ?_⟩
              rw [smL_pos c3]
              exact S7.out
          · by_cases c3f : mid < e
            · have c3x : (mid : Int) < (e : Int) := by omega
              have c3y : ¬ (e : Int) < (b : Int) := by omega
              first | (exfalso; have := HEQ.out; omega) | skip
              all_goals
                have HC1 := Lib.hid (rotate_any L k aE zE enc cf g cb blk off cap d0 d w0 wr R hs S1 hsz i m e c1.1 c1.2 (by omega))
                go_wp2_with fail
                refine HC1.out.mono ?_
                rintro e1 w1 ⟨rfl, S2⟩
                have S3 : Aside (SWK enc k w0 blk off (smRot m i e d) w1) := by unfold smRot; rw [if_pos c1]; exact S2
                clear S2 HC1
                have hz3 := Lib.hid (show (smRot m i e d).size = d.size from size_smRot _ _ _ _)
                have HC2 := Lib.hid (IH.out a i mid _ w1 c2.1 c2.2 (by omega) (by omega) hz3.out S3)
                go_wp2_with fail
                refine HC2.out.mono ?_
                rintro e2 w2 ⟨rfl, S4⟩
                have S5 : Aside (SWK enc k w0 blk off (smL (ltOf cf) f a i mid (smRot m i e d)) w2) := by rw [smL_pos c2]; exact S4
                clear S4 HC2
                have hz5 := Lib.hid (show (smL (ltOf cf) f a i mid (smRot m i e d)).size = d.size from by rw [size_smL]; exact hz3.out)
                go_wp2_with fail
                go_end0
                refine ⟨rfl, ?_⟩
                rw [smL_neg c3]
                exact S5.out
            · have c3x : ¬ (mid : Int) < (e : Int) := by omega
              first | (exfalso; have := HEQ.out; omega) | skip
              all_goals
                have HC1 := Lib.hid (rotate_any L k aE zE enc cf g cb blk off cap d0 d w0 wr R hs S1 hsz i m e c1.1 c1.2 (by omega))
                go_wp2_with fail
                refine HC1.out.mono ?_
                rintro e1 w1 ⟨rfl, S2⟩
                have S3 : Aside (SWK enc k w0 blk off (smRot m i e d) w1) := by unfold smRot; rw [if_pos c1]; exact S2
                clear S2 HC1
                have hz3 := Lib.hid (show (smRot m i e d).size = d.size from size_smRot _ _ _ _)
                have HC2 := Lib.hid (IH.out a i mid _ w1 c2.1 c2.2 (by omega) (by omega) hz3.out S3)
                go_wp2_with fail
                refine HC2.out.mono ?_
                rintro e2 w2 ⟨rfl, S4⟩
                have S5 : Aside (SWK enc k w0 blk off (smL (ltOf cf) f a i mid (smRot m i e d)) w2) := by rw [smL_pos c2]; exact S4
                clear S4 HC2
                have hz5 := Lib.hid (show (smL (ltOf cf) f a i mid (smRot m i e d)).size = d.size from by rw [size_smL]; exact hz3.out)
                go_wp2_with fail
                go_end0
                refine ⟨rfl, ?_⟩
                rw [smL_neg c3]
                exact S5.out
        · by_cases c2f : a < i
          · have c2x : (a : Int) < (i : Int) := by omega
            have c2y : ¬ (i : Int) < (mid : Int) := by omega
            by_cases c3 : mid < e ∧ e < b
            · have c3x : (mid : Int) < (e : Int) := by omega
              have c3y : (e : Int) < (b : Int) := by omega
              first | (exfalso; have := HEQ.out; omega) | skip
              all_goals
                have HC1 := Lib.hid (rotate_any L k aE zE enc cf g cb blk off cap d0 d w0 wr R hs S1 hsz i m e c1.1 c1.2 (by omega))
                go_wp2_with fail
                refine HC1.out.mono ?_
                rintro e1 w1 ⟨rfl, S2⟩
                have S3 : Aside (SWK enc k w0 blk off (smRot m i e d) w1) := by unfold smRot; rw [if_pos c1]; exact S2
                clear S2 HC1
                have hz3 := Lib.hid (show (smRot m i e d).size = d.size from size_smRot _ _ _ _)
                have S5 : Aside (SWK enc k w0 blk off (smL (ltOf cf) f a i mid (smRot m i e d)) w1) := by rw [smL_neg c2]; exact S3
                have hz5 := Lib.hid (show (smL (ltOf cf) f a i mid (smRot m i e d)).size = d.size from by rw [size_smL]; exact hz3.out)
                have HC3 := Lib.hid (IH.out mid e b _ w1 c3.1 c3.2 hb (by omega) hz5.out S5)
                go_wp2_with fail
                refine HC3.out.mono ?_
                rintro e3 w3 ⟨rfl, S6⟩
                have S7 : Aside (SWK enc k w0 blk off (symMerge (ltOf cf) f mid e b (smL (ltOf cf) f a i mid (smRot m i e d))) w3) := S6
                clear S6 HC3
                go_wp2_with fail
                go_end0
                refine ⟨rfl, ?_⟩
                rw [smL_pos c3]
                exact S7.out
            · by_cases c3f : mid < e
              · have c3x : (mid : Int) < (e : Int) := by omega
                have c3y : ¬ (e : Int) < (b : Int) := by omega
                first | (exfalso; have := HEQ.out; omega) | skip
                all_goals
                  have HC1 := Lib.hid (rotate_any L k aE zE enc cf g cb blk off cap d0 d w0 wr R hs S1 hsz i m e c1.1 c1.2 (by omega))
                  go_wp2_with fail
                  refine HC1.out.mono ?_
                  rintro e1 w1 ⟨rfl, S2⟩
                  have S3 : Aside (SWK enc k w0 blk off (smRot m i e d) w1) := by unfold smRot; rw [if_pos c1]; exact S2
                  clear S2 HC1
                  have hz3 := Lib.hid (show (smRot m i e d).size = d.size from size_smRot _ _ _ _)
                  have S5 : Aside (SWK enc k w0 blk off (smL (ltOf cf) f a i mid (smRot m i e d)) w1) := by rw [smL_neg c2]; exact S3
                  have hz5 := Lib.hid (show (smL (ltOf cf) f a i mid (smRot m i e d)).size = d.size from by rw [size_smL]; exact hz3.out)
                  go_wp2_with fail
                  go_end0
                  refine ⟨rfl, ?_⟩
                  rw [smL_neg c3]
                  exact S5.out
              · have c3x : ¬ (mid : Int) < (e : Int) := by omega
                first | (exfalso; have := HEQ.out; omega) | skip
                all_goals
                  have HC1 := Lib.hid (rotate_any L k aE zE enc cf g cb blk off cap d0 d w0 wr R hs S1 hsz i m e c1.1 c1.2 (by omega))
                  go_wp2_with fail
                  refine HC1.out.mono ?_
                  rintro e1 w1 ⟨rfl, S2⟩
                  have S3 : Aside (SWK enc k w0 blk off (smRot m i e d) w1) := by unfold smRot; rw [if_pos c1]; exact S2
                  clear S2 HC1
                  have hz3 := Lib.hid (show (smRot m i e d).size = d.size from size_smRot _ _ _ _)
                  have S5 : Aside (SWK enc k w0 blk off (smL (ltOf cf) f a i mid (smRot m i e d)) w1) := by rw [smL_neg c2]; exact S3
                  have hz5 := Lib.hid (show (smL (ltOf cf) f a i mid (smRot m i e d)).size = d.size from by rw [size_smL]; exact hz3.out)
                  go_wp2_with fail
                  go_end0
                  refine ⟨rfl, ?_⟩
                  rw [smL_neg c3]
                  exact S5.out
          · have c2x : ¬ (a : Int) < (i : Int) := by omega
            by_cases c3 : mid < e ∧ e < b
            · have c3x : (mid : Int) < (e : Int) := by omega
              have c3y : (e : Int) < (b : Int) := by omega
              first | (exfalso; have := HEQ.out; omega) | skip
              all_goals
                have HC1 := Lib.hid (rotate_any L k aE zE enc cf g cb blk off cap d0 d w0 wr R hs S1 hsz i m e c1.1 c1.2 (by omega))
                go_wp2_with fail
                refine HC1.out.mono ?_
                rintro e1 w1 ⟨rfl, S2⟩
                have S3 : Aside (SWK enc k w0 blk off (smRot m i e d) w1) := by unfold smRot; rw [if_pos c1]; exact S2
                clear S2 HC1
                have hz3 := Lib.hid (show (smRot m i e d).size = d.size from size_smRot _ _ _ _)
                have S5 : Aside (SWK enc k w0 blk off (smL (ltOf cf) f a i mid (smRot m i e d)) w1) := by rw [smL_neg c2]; exact S3
                have hz5 := Lib.hid (show (smL (ltOf cf) f a i mid (smRot m i e d)).size = d.size from by rw [size_smL]; exact hz3.out)
                have HC3 := Lib.hid (IH.out mid e b _ w1 c3.1 c3.2 hb (by omega) hz5.out S5)
                go_wp2_with fail
                refine HC3.out.mono ?_
                rintro e3 w3 ⟨rfl, S6⟩
                have S7 : Aside (SWK enc k w0 blk off (symMerge (ltOf cf) f mid e b (smL (ltOf cf) f a i mid (smRot m i e d))) w3) := S6
                clear S6 HC3
                go_wp2_with fail
                go_end0
                refine ⟨rfl, ?_⟩
                rw [smL_pos c3]
                exact S7.out
            · by_cases c3f : mid < e
              · have c3x : (mid : Int) < (e : Int) := by omega
                have c3y : ¬ (e : Int) < (b : Int) := by omega
                first | (exfalso; have := HEQ.out; omega) | skip
                all_goals
                  have HC1 := Lib.hid (rotate_any L k aE zE enc cf g cb blk off cap d0 d w0 wr R hs S1 hsz i m e c1.1 c1.2 (by omega))
                  go_wp2_with fail
                  refine HC1.out.mono ?_
                  rintro e1 w1 ⟨rfl, S2⟩
                  have S3 : Aside (SWK enc k w0 blk off (smRot m i e d) w1) := by unfold smRot; rw [if_pos c1]; exact S2
                  clear S2 HC1
                  have hz3 := Lib.hid (show (smRot m i e d).size = d.size from size_smRot _ _ _ _)
                  have S5 : Aside (SWK enc k w0 blk off (smL (ltOf cf) f a i mid (smRot m i e d)) w1) := by rw [smL_neg c2]; exact S3
                  have hz5 := Lib.hid (show (smL (ltOf cf) f a i mid (smRot m i e d)).size = d.size from by rw [size_smL]; exact hz3.out)
                  go_wp2_with fail
                  go_end0
                  refine ⟨rfl, ?_⟩
                  rw [smL_neg c3]
                  exact S5.out
              · have c3x : ¬ (mid : Int) < (e : Int) := by omega
                first | (exfalso; have := HEQ.out; omega) | skip
                all_goals
                  have HC1 := Lib.hid (rotate_any L k aE zE enc cf g cb blk off cap d0 d w0 wr R hs S1 hsz i m e c1.1 c1.2 (by omega))
                  go_wp2_with fail
                  refine HC1.out.mono ?_
                  rintro e1 w1 ⟨rfl, S2⟩
                  have S3 : Aside (SWK enc k w0 blk off (smRot m i e d) w1) := by unfold smRot; rw [if_pos c1]; exact S2
                  clear S2 HC1
                  have hz3 := Lib.hid (show (smRot m i e d).size = d.size from size_smRot _ _ _ _)
                  have S5 : Aside (SWK enc k w0 blk off (smL (ltOf cf) f a i mid (smRot m i e d)) w1) := by rw [smL_neg c2]; exact S3
                  have hz5 := Lib.hid (show (smL (ltOf cf) f a i mid (smRot m i e d)).size = d.size from by rw [size_smL]; exact hz3.out)
                  go_wp2_with fail
                  go_end0
                  refine ⟨rfl, ?_⟩
                  rw [smL_neg c3]
                  exact S5.out
      · by_cases c1f : i < m
        · have c1x : (i : Int) < (m : Int) := by omega
          have c1y : ¬ (m : Int) < (e : Int) := by omega
          by_cases c2 : a < i ∧ i < mid
          · have c2x : (a : Int) < (i : Int) := by omega
            have c2y : (i : Int) < (mid : Int) := by omega
            by_cases c3 : mid < e ∧ e < b
            · have c3x : (mid : Int) < (e : Int) := by omega
              have c3y : (e : Int) < (b : Int) := by omega
              first | (exfalso; have := HEQ.out; omega) | skip
              all_goals
                have S3 : Aside (SWK enc k w0 blk off (smRot m i e d) wr) := by unfold smRot; rw [if_neg c1]; exact S1
                have hz3 := Lib.hid (show (smRot m i e d).size = d.size from size_smRot _ _ _ _)
                have HC2 := Lib.hid (IH.out a i mid _ wr c2.1 c2.2 (by omega) (by omega) hz3.out S3)
                go_wp2_with fail
                refine HC2.out.mono ?_
                rintro e2 w2 ⟨rfl, S4⟩
                have S5 : Aside (SWK enc k w0 blk off (smL (ltOf cf) f a i mid (smRot m i e d)) w2) := by rw [smL_pos c2]; exact S4
                clear S4 HC2
                have hz5 := Lib.hid (show (smL (ltOf cf) f a i mid (smRot m i e d)).size = d.size from by rw [size_smL]; exact hz3.out)
                have HC3 := Lib.hid (IH.out mid e b _ w2 c3.1 c3.2 hb (by omega) hz5.out S5)
                go_wp2_with fail
                refine HC3.out.mono ?_
                rintro e3 w3 ⟨rfl, S6⟩
                have S7 : Aside (SWK enc k w0 blk off (symMerge (ltOf cf) f mid e b (smL (ltOf cf) f a i mid (smRot m i e d))) w3) := S6
                clear S6 HC3
                go_wp2_with fail
                go_end0
                refine ⟨rfl, ?_⟩
                rw [smL_pos c3]
                exact S7.out
            · by_cases c3f : mid < e
              · have c3x : (mid : Int) < (e : Int) := by omega
                have c3y : ¬ (e : Int) < (b : Int) := by omega
                first | (exfalso; have := HEQ.out; omega) | skip
                all_goals
                  have S3 : Aside (SWK enc k w0 blk off (smRot m i e d) wr) := by unfold smRot; rw [if_neg c1]; exact S1
                  have hz3 := Lib.hid (show (smRot m i e d).size = d.size from size_smRot _ _ _ _)
                  have HC2 := Lib.hid (IH.out a i mid _ wr c2.1 c2.2 (by omega) (by omega) hz3.out S3)
                  go_wp2_with fail
                  refine HC2.out.mono ?_
                  rintro e2 w2 ⟨rfl, S4⟩
                  have S5 : Aside (SWK enc k w0 blk off (smL (ltOf cf) f a i mid (smRot m i e d)) w2) := by rw [smL_pos c2]; exact S4
                  clear S4 HC2
                  have hz5 := Lib.hid (show (smL (ltOf cf) f a i mid (smRot m i e d)).size = d.size from by rw [size_smL]; exact hz3.out)
                  go_wp2_with fail
                  go_end0
                  refine ⟨rfl, ?_⟩
                  rw [smL_neg c3]
                  exact S5.out
              · have c3x : ¬ (mid : Int) < (e : Int) := by omega
                first | (exfalso; have := HEQ.out; omega) | skip
                all_goals
                  have S3 : Aside (SWK enc k w0 blk off (smRot m i e d) wr) := by unfold smRot; rw [if_neg c1]; exact S1
                  have hz3 := Lib.hid (show (smRot m i e d).size = d.size from size_smRot _ _ _ _)
                  have HC2 := Lib.hid (IH.out a i mid _ wr c2.1 c2.2 (by omega) (by omega) hz3.out S3)
                  go_wp2_with fail
                  refine HC2.out.mono ?_
                  rintro e2 w2 ⟨rfl, S4⟩
                  have S5 : Aside (SWK enc k w0 blk off (smL (ltOf cf) f a i mid (smRot m i e d)) w2) := by rw [smL_pos c2]; exact S4
                  clear S4 HC2
                  have hz5 := Lib.hid (show (smL (ltOf cf) f a i mid (smRot m i e d)).size = d.size from by rw [size_smL]; exact hz3.out)
                  go_wp2_with fail
                  go_end0
                  refine ⟨rfl, ?_⟩
                  rw [smL_neg c3]
                  exact S5.out
          · by_cases c2f : a < i
            · have c2x : (a : Int) < (i : Int) := by omega
              have c2y : ¬ (i : Int) < (mid : Int) := by omega
              by_cases c3 : mid < e ∧ e < b
              · have c3x : (mid : Int) < (e : Int) := by omega
                have c3y : (e : Int) < (b : Int) := by omega
                first | (exfalso; have := HEQ.out; omega) | skip
                all_goals
                  have S3 : Aside (SWK enc k w0 blk off (smRot m i e d) wr) := by unfold smRot; rw [if_neg c1]; exact S1
                  have hz3 := Lib.hid (show (smRot m i e d).size = d.size from size_smRot _ _ _ _)
                  have S5 : Aside (SWK enc k w0 blk off (smL (ltOf cf) f a i mid (smRot m i e d)) wr) := by rw [smL_neg c2]; exact S3
                  have hz5 := Lib.hid (show (smL (ltOf cf) f a i mid (smRot m i e d)).size = d.size from by rw [size_smL]; exact hz3.out)
                  have HC3 := Lib.hid (IH.out mid e b _ wr c3.1 c3.2 hb (by omega) hz5.out S5)
                  go_wp2_with fail
                  refine HC3.out.mono ?_
                  rintro e3 w3 ⟨rfl, S6⟩
                  have S7 : Aside (SWK enc k w0 blk off (symMerge (ltOf cf) f mid e b (smL (ltOf cf) f a i mid (smRot m i e d))) w3) := S6
                  clear S6 HC3
                  go_wp2_with fail
                  go_end0
                  refine ⟨rfl, ?_⟩
                  rw [smL_pos c3]
                  exact S7.out
              · by_cases c3f : mid < e
                · have c3x : (mid : Int) < (e : Int) := by omega
                  have c3y : ¬ (e : Int) < (b : Int) := by omega
                  first | (exfalso; have := HEQ.out; omega) | skip
                  all_goals
                    have S3 : Aside (SWK enc k w0 blk off (smRot m i e d) wr) := by unfold smRot; rw [if_neg c1]; exact S1
                    have hz3 := Lib.hid (show (smRot m i e d).size = d.size from size_smRot _ _ _ _)
                    have S5 : Aside (SWK enc k w0 blk off (smL (ltOf cf) f a i mid (smRot m i e d)) wr) := by rw [smL_neg c2]; exact S3
                    have hz5 := Lib.hid (show (smL (ltOf cf) f a i mid (smRot m i e d)).size = d.size from by rw [size_smL]; exact hz3.out)
                    go_wp2_with fail
                    go_end0
                    refine ⟨rfl, ?_⟩
                    rw [smL_neg c3]
                    exact S5.out
                · have c3x : ¬ (mid : Int) < (e : Int) := by omega
                  first | (exfalso; have := HEQ.out; omega) | skip
                  all_goals
                    have S3 : Aside (SWK enc k w0 blk off (smRot m i e d) wr) := by unfold smRot; rw [if_neg c1]; exact S1
                    have hz3 := Lib.hid (show (smRot m i e d).size = d.size from size_smRot _ _ _ _)
                    have S5 : Aside (SWK enc k w0 blk off (smL (ltOf cf) f a i mid (smRot m i e d)) wr) := by rw [smL_neg c2]; exact S3
                    have hz5 := Lib.hid (show (smL (ltOf cf) f a i mid (smRot m i e d)).size = d.size from by rw [size_smL]; exact hz3.out)
                    go_wp2_with fail
                    go_end0
                    refine ⟨rfl, ?_⟩
                    rw [smL_neg c3]
                    exact S5.out
            · have c2x : ¬ (a : Int) < (i : Int) := by omega
              by_cases c3 : mid < e ∧ e < b
              · have c3x : (mid : Int) < (e : Int) := by omega
                have c3y : (e : Int) < (b : Int) := by omega
                first | (exfalso; have := HEQ.out; omega) | skip
                all_goals
                  have S3 : Aside (SWK enc k w0 blk off (smRot m i e d) wr) := by unfold smRot; rw [if_neg c1]; exact S1
                  have hz3 := Lib.hid (show (smRot m i e d).size = d.size from size_smRot _ _ _ _)
                  have S5 : Aside (SWK enc k w0 blk off (smL (ltOf cf) f a i mid (smRot m i e d)) wr) := by rw [smL_neg c2]; exact S3
                  have hz5 := Lib.hid (show (smL (ltOf cf) f a i mid (smRot m i e d)).size = d.size from by rw [size_smL]; exact hz3.out)
                  have HC3 := Lib.hid (IH.out mid e b _ wr c3.1 c3.2 hb (by omega) hz5.out S5)
                  go_wp2_with fail
                  refine HC3.out.mono ?_
                  rintro e3 w3 ⟨rfl, S6⟩
                  have S7 : Aside (SWK enc k w0 blk off (symMerge (ltOf cf) f mid e b (smL (ltOf cf) f a i mid (smRot m i e d))) w3) := S6
                  clear S6 HC3
                  go_wp2_with fail
                  go_end0
                  refine ⟨rfl, ?_⟩
                  rw [smL_pos c3]
                  exact S7.out
              · by_cases c3f : mid < e
                · have c3x : (mid : Int) < (e : Int) := by omega
                  have c3y : ¬ (e : Int) < (b : Int) := by omega
                  first | (exfalso; have := HEQ.out; omega) | skip
                  all_goals
                    have S3 : Aside (SWK enc k w0 blk off (smRot m i e d) wr) := by unfold smRot; rw [if_neg c1]; exact S1
                    have hz3 := Lib.hid (show (smRot m i e d).size = d.size from size_smRot _ _ _ _)
                    have S5 : Aside (SWK enc k w0 blk off (smL (ltOf cf) f a i mid (smRot m i e d)) wr) := by rw [smL_neg c2]; exact S3
                    have hz5 := Lib.hid (show (smL (ltOf cf) f a i mid (smRot m i e d)).size = d.size from by rw [size_smL]; exact hz3.out)
                    go_wp2_with fail
                    go_end0
                    refine ⟨rfl, ?_⟩
                    rw [smL_neg c3]
                    exact S5.out
                · have c3x : ¬ (mid : Int) < (e : Int) := by omega
                  first | (exfalso; have := HEQ.out; omega) | skip
                  all_goals
                    have S3 : Aside (SWK enc k w0 blk off (smRot m i e d) wr) := by unfold smRot; rw [if_neg c1]; exact S1
                    have hz3 := Lib.hid (show (smRot m i e d).size = d.size from size_smRot _ _ _ _)
                    have S5 : Aside (SWK enc k w0 blk off (smL (ltOf cf) f a i mid (smRot m i e d)) wr) := by rw [smL_neg c2]; exact S3
                    have hz5 := Lib.hid (show (smL (ltOf cf) f a i mid (smRot m i e d)).size = d.size from by rw [size_smL]; exact hz3.out)
                    go_wp2_with fail
                    go_end0
                    refine ⟨rfl, ?_⟩
                    rw [smL_neg c3]
                    exact S5.out
        · have c1x : ¬ (i : Int) < (m : Int) := by omega
          by_cases c2 : a < i ∧ i < mid
          · have c2x : (a : Int) < (i : Int) := by omega
            have c2y : (i : Int) < (mid : Int) := by omega
            by_cases c3 : mid < e ∧ e < b
            · have c3x : (mid : Int) < (e : Int) := by omega
              have c3y : (e : Int) < (b : Int) := by omega
              first | (exfalso; have := HEQ.out; omega) | skip
              all_goals
                have S3 : Aside (SWK enc k w0 blk off (smRot m i e d) wr) := by unfold smRot; rw [if_neg c1]; exact S1
                have hz3 := Lib.hid (show (smRot m i e d).size = d.size from size_smRot _ _ _ _)
                have HC2 := Lib.hid (IH.out a i mid _ wr c2.1 c2.2 (by omega) (by omega) hz3.out S3)
                go_wp2_with fail
                refine HC2.out.mono ?_
                rintro e2 w2 ⟨rfl, S4⟩
                have S5 : Aside (SWK enc k w0 blk off (smL (ltOf cf) f a i mid (smRot m i e d)) w2) := by rw [smL_pos c2]; exact S4
                clear S4 HC2
                have hz5 := Lib.hid (show (smL (ltOf cf) f a i mid (smRot m i e d)).size = d.size from by rw [size_smL]; exact hz3.out)
                have HC3 := Lib.hid (IH.out mid e b _ w2 c3.1 c3.2 hb (by omega) hz5.out S5)
                go_wp2_with fail
                refine HC3.out.mono ?_
                rintro e3 w3 ⟨rfl, S6⟩
                have S7 : Aside (SWK enc k w0 blk off (symMerge (ltOf cf) f mid e b (smL (ltOf cf) f a i mid (smRot m i e d))) w3) := S6
                clear S6 HC3
                go_wp2_with fail
                go_end0
                refine ⟨rfl, ?_⟩
                rw [smL_pos c3]
                exact S7.out
            · by_cases c3f : mid < e
              · have c3x : (mid : Int) < (e : Int) := by omega
                have c3y : ¬ (e : Int) < (b : Int) := by omega
                first | (exfalso; have := HEQ.out; omega) | skip
                all_goals
                  have S3 : Aside (SWK enc k w0 blk off (smRot m i e d) wr) := by unfold smRot; rw [if_neg c1]; exact S1
                  have hz3 := Lib.hid (show (smRot m i e d).size = d.size from size_smRot _ _ _ _)
                  have HC2 := Lib.hid (IH.out a i mid _ wr c2.1 c2.2 (by omega) (by omega) hz3.out S3)
                  go_wp2_with fail
                  refine HC2.out.mono ?_
                  rintro e2 w2 ⟨rfl, S4⟩
                  have S5 : Aside (SWK enc k w0 blk off (smL (ltOf cf) f a i mid (smRot m i e d)) w2) := by rw [smL_pos c2]; exact S4
                  clear S4 HC2
                  have hz5 := Lib.hid (show (smL (ltOf cf) f a i mid (smRot m i e d)).size = d.size from by rw [size_smL]; exact hz3.out)
                  go_wp2_with fail
                  go_end0
                  refine ⟨rfl, ?_⟩
                  rw [smL_neg c3]
                  exact S5.out
              · have c3x : ¬ (mid : Int) < (e : Int) := by omega
                first | (exfalso; have := HEQ.out; omega) | skip
                all_goals
                  have S3 : Aside (SWK enc k w0 blk off (smRot m i e d) wr) := by unfold smRot; rw [if_neg c1]; exact S1
                  have hz3 := Lib.hid (show (smRot m i e d).size = d.size from size_smRot _ _ _ _)
                  have HC2 := Lib.hid (IH.out a i mid _ wr c2.1 c2.2 (by omega) (by omega) hz3.out S3)
                  go_wp2_with fail
                  refine HC2.out.mono ?_
                  rintro e2 w2 ⟨rfl, S4⟩
                  have S5 : Aside (SWK enc k w0 blk off (smL (ltOf cf) f a i mid (smRot m i e d)) w2) := by rw [smL_pos c2]; exact S4
                  clear S4 HC2
                  have hz5 := Lib.hid (show (smL (ltOf cf) f a i mid (smRot m i e d)).size = d.size from by rw [size_smL]; exact hz3.out)
                  go_wp2_with fail
                  go_end0
                  refine ⟨rfl, ?_⟩
                  rw [smL_neg c3]
                  exact S5.out
          · by_cases c2f : a < i
            · have c2x : (a : Int) < (i : Int) := by omega
              have c2y : ¬ (i : Int) < (mid : Int) := by omega
              by_cases c3 : mid < e ∧ e < b
              · have c3x : (mid : Int) < (e : Int) := by omega
                have c3y : (e : Int) < (b : Int) := by omega
                first | (exfalso; have := HEQ.out; omega) | skip
                all_goals
                  have S3 : Aside (SWK enc k w0 blk off (smRot m i e d) wr) := by unfold smRot; rw [if_neg c1]; exact S1
                  have hz3 := Lib.hid (show (smRot m i e d).size = d.size from size_smRot _ _ _ _)
                  have S5 : Aside (SWK enc k w0 blk off (smL (ltOf cf) f a i mid (smRot m i e d)) wr) := by rw [smL_neg c2]; exact S3
                  have hz5 := Lib.hid (show (smL (ltOf cf) f a i mid (smRot m i e d)).size = d.size from by rw [size_smL]; exact hz3.out)
                  have HC3 := Lib.hid (IH.out mid e b _ wr c3.1 c3.2 hb (by omega) hz5.out S5)
                  go_wp2_with fail
                  refine HC3.out.mono ?_
                  rintro e3 w3 ⟨rfl, S6⟩
                  have S7 : Aside (SWK enc k w0 blk off (symMerge (ltOf cf) f mid e b (smL (ltOf cf) f a i mid (smRot m i e d))) w3) := S6
                  clear S6 HC3
                  go_wp2_with fail
                  go_end0
                  refine ⟨rfl, ?_⟩
                  rw [smL_pos c3]
                  exact S7.out
              · by_cases c3f : mid < e
                · have c3x : (mid : Int) < (e : Int) := by omega
                  have c3y : ¬ (e : Int) < (b : Int) := by omega
                  first | (exfalso; have := HEQ.out; omega) | skip
                  all_goals
                    have S3 : Aside (SWK enc k w0 blk off (smRot m i e d) wr) := by unfold smRot; rw [if_neg c1]; exact S1
                    have hz3 := Lib.hid (show (smRot m i e d).size = d.size from size_smRot _ _ _ _)
                    have S5 : Aside (SWK enc k w0 blk off (smL (ltOf cf) f a i mid (smRot m i e d)) wr) := by rw [smL_neg c2]; exact S3
                    have hz5 := Lib.hid (show (smL (ltOf cf) f a i mid (smRot m i e d)).size = d.size from by rw [size_smL]; exact hz3.out)
                    go_wp2_with fail
                    go_end0
                    refine ⟨rfl, ?_⟩
                    rw [smL_neg c3]
                    exact S5.out
                · have c3x : ¬ (mid : Int) < (e : Int) := by omega
                  first | (exfalso; have := HEQ.out; omega) | skip
                  all_goals
                    have S3 : Aside (SWK enc k w0 blk off (smRot m i e d) wr) := by unfold smRot; rw [if_neg c1]; exact S1
                    have hz3 := Lib.hid (show (smRot m i e d).size = d.size from size_smRot _ _ _ _)
                    have S5 : Aside (SWK enc k w0 blk off (smL (ltOf cf) f a i mid (smRot m i e d)) wr) := by rw [smL_neg c2]; exact S3
                    have hz5 := Lib.hid (show (smL (ltOf cf) f a i mid (smRot m i e d)).size = d.size from by rw [size_smL]; exact hz3.out)
                    go_wp2_with fail
                    go_end0
                    refine ⟨rfl, ?_⟩
                    rw [smL_neg c3]
                    exact S5.out
            · have c2x : ¬ (a : Int) < (i : Int) := by omega
              by_cases c3 : mid < e ∧ e < b
              · have c3x : (mid : Int) < (e : Int) := by omega
                have c3y : (e : Int) < (b : Int) := by omega
                first | (exfalso; have := HEQ.out; omega) | skip
                all_goals
                  have S3 : Aside (SWK enc k w0 blk off (smRot m i e d) wr) := by unfold smRot; rw [if_neg c1]; exact S1
                  have hz3 := Lib.hid (show (smRot m i e d).size = d.size from size_smRot _ _ _ _)
                  have S5 : Aside (SWK enc k w0 blk off (smL (ltOf cf) f a i mid (smRot m i e d)) wr) := by rw [smL_neg c2]; exact S3
                  have hz5 := Lib.hid (show (smL (ltOf cf) f a i mid (smRot m i e d)).size = d.size from by rw [size_smL]; exact hz3.out)
                  have HC3 := Lib.hid (IH.out mid e b _ wr c3.1 c3.2 hb (by omega) hz5.out S5)
                  go_wp2_with fail
                  refine HC3.out.mono ?_
                  rintro e3 w3 ⟨rfl, S6⟩
                  have S7 : Aside (SWK enc k w0 blk off (symMerge (ltOf cf) f mid e b (smL (ltOf cf) f a i mid (smRot m i e d))) w3) := S6
                  clear S6 HC3
                  go_wp2_with fail
                  go_end0
                  refine ⟨rfl, ?_⟩
                  rw [smL_pos c3]
                  exact S7.out
              · by_cases c3f : mid < e
                · have c3x : (mid : Int) < (e : Int) := by omega
                  have c3y : ¬ (e : Int) < (b : Int) := by omega
                  first | (exfalso; have := HEQ.out; omega) | skip
                  all_goals
                    have S3 : Aside (SWK enc k w0 blk off (smRot m i e d) wr) := by unfold smRot; rw [if_neg c1]; exact S1
                    have hz3 := Lib.hid (show (smRot m i e d).size = d.size from size_smRot _ _ _ _)
                    have S5 : Aside (SWK enc k w0 blk off (smL (ltOf cf) f a i mid (smRot m i e d)) wr) := by rw [smL_neg c2]; exact S3
                    have hz5 := Lib.hid (show (smL (ltOf cf) f a i mid (smRot m i e d)).size = d.size from by rw [size_smL]; exact hz3.out)
                    go_wp2_with fail
                    go_end0
                    refine ⟨rfl, ?_⟩
                    rw [smL_neg c3]
                    exact S5.out
                · have c3x : ¬ (mid : Int) < (e : Int) := by omega
                  first | (exfalso; have := HEQ.out; omega) | skip
                  all_goals
                    have S3 : Aside (SWK enc k w0 blk off (smRot m i e d) wr) := by unfold smRot; rw [if_neg c1]; exact S1
                    have hz3 := Lib.hid (show (smRot m i e d).size = d.size from size_smRot _ _ _ _)
                    have S5 : Aside (SWK enc k w0 blk off (smL (ltOf cf) f a i mid (smRot m i e d)) wr) := by rw [smL_neg c2]; exact S3
                    have hz5 := Lib.hid (show (smL (ltOf cf) f a i mid (smRot m i e d)).size = d.size from by rw [size_smL]; exact hz3.out)
                    go_wp2_with fail
                    go_end0
                    refine ⟨rfl, ?_⟩
                    rw [smL_neg c3]
                    exact S5.out
end
end Go.Proofs.YtckekncllmhohaaGreat.Q
namespace Go.Proofs.YtckekncllmhohaaGreat.Q
open Go.Shelf Go.RowKit Go.Lib Go.Sort Go.Proofs Go.Proofs.YtckekncllmhohaaGreat.G
set_option linter.all false

section
variable {α : Type} [Inhabited α]
set_option maxHeartbeats 8000000 in
set_option maxRecDepth 1000000 in
/-- slices.symMergeCmpFunc: more than one on either side. -/
theorem symMerge_goR {P : Program} (L : SLays P) (k : Nat) (aE : ∀ w, (isAgg 41).run P w = .ok true w) (zE : ∀ w, (Go.sizeOf 41).run P w = .ok k w) (enc : α → List Value) (cf : α → α → Int) (g : Nat) (cb : Array Value) (blk off cap : Nat) (d0 d : Array α) (w0 w : World)
    (eg : ∀ args w, (callFunc g args).run P w = .ok (.enter g args) w) (HC : Aside (CmpBelow P g cb enc k cf blk off d0.size w0)) (HZ : Hid (w0.drawn = 0)) (R : RowK enc k w0 blk off d0) (hs : d0.size = d.size) (S0 : Aside (SWK enc k w0 blk off d w)) (hsz : d.size < 1000000000000)
    (f a m b mid st e : Nat) (ham : a + 1 < m) (hmb : m + 1 < b) (hb : b ≤ d.size) (hf : b - a ≤ f + 1) (hmid : mid = (a + b) / 2) (hside : ¬ mid < m) (hst : smStart (ltOf cf) a m b d = st) (he : e = mid + m - st) (p1 : a ≤ st) (p2 : st ≤ m) (p3 : st ≤ mid) (p4 : e ≤ b)
    (IH : Hid (∀ (a m b : Nat) (dk : Array α) (wk : World), a < m → m < b → b ≤ d.size → b - a ≤ f → dk.size = d.size → Aside (SWK enc k w0 blk off dk wk) → Calls P 67 #[.slice (some ⟨blk, off, none⟩) d.size cap, .int .i64 a, .int .i64 m, .int .i64 b, .func (.func g) #[] cb] wk fun e w' => e = .returned (.tuple #[]) ∧ SWK enc k w0 blk off (symMerge (ltOf cf) f a m b dk) w')) :
    Calls P 67 #[.slice (some ⟨blk, off, none⟩) d.size cap, .int .i64 a, .int .i64 m, .int .i64 b, .func (.func g) #[] cb] w fun e' w' => e' = .returned (.tuple #[]) ∧ SWK enc k w0 blk off
      (smL (ltOf cf) f mid e b (smL (ltOf cf) f a st mid (smRot m st e d))) w' := by
  have mixed := L.mixed; have t3 := L.t3; have a3 := L.a3; have z3 := L.z3; have v3 := L.v3; have tu := L.tu; have t4 := L.t4; have a4 := L.a4; have z4 := L.z4; have v4 := L.v4; have t22 := L.t22; have a22 := L.a22; have z22 := L.z22; have a25 := L.a25; have z25 := L.z25; have u22 := run_underlying L.t22
  have FG := L.fSym
  have e67 : ∀ args w, (callFunc 67 args).run P w = .ok (.enter 67 args) w := enters_of L.fSym (by kernel_rfl) rfl
  have e96 : ∀ args w, (callFunc 97 args).run P w = .ok (.enter 97 args) w := enters_of L.fRot (by kernel_rfl) rfl
  have HS := Lib.hid hst
  have hmid2 : mid < b := by omega
  have hmid1 : a < mid := by omega
  have hmd := Lib.hid hmid
  have hmz : ((a : Int) + (b : Int)) / 2 = (mid : Int) := by omega
  have hq1 : ((m : Int) - (a : Int) == 1) = false := beq_eq_false_iff_ne.2 (by omega)
  have hq2 : ((b : Int) - (m : Int) == 1) = false := beq_eq_false_iff_ne.2 (by omega)
  have hmm : mid + m ≤ a + b ∨ mid < m := by omega
  have hsz1 : ¬ (mid : Int) < (m : Int) := by omega
  have HEQ := Lib.hid he
  clear hst hmid he
  go_enter FG, Tryz.ntmps67
  go_wp2
  go_loopg [20, 21] ((m) - (a)) (fun kx s20 s21 wr => ∃ (i j : Nat), s20 = .int .i64 i ∧ s21 = .int .i64 j ∧ a ≤ i ∧ i ≤ j ∧ j ≤ m ∧ j - i ≤ kx ∧ Aside (SWK enc k w0 blk off d wr) ∧ Hid (bsr (fun c => !ltOf cf d[mid + m - 1 - c]! d[c]!) i j = bsr (fun c => !ltOf cf d[mid + m - 1 - c]! d[c]!) (a) (m)))
  case atStart => exact ⟨a, m, by first | rfl | (congr 1; omega), rfl, Nat.le_refl _, by omega, Nat.le_refl _, Nat.le_refl _, S0, rfl⟩
  case round =>
    clear S0 hmz hq1 hq2
    obtain ⟨i, j, rfl, rfl, hai, hij, hjb, hkx, S1, HE⟩ := hrel
    by_cases hlt : i < j
    · have hltz : (i : Int) < (j : Int) := by omega
      obtain ⟨c, hh⟩ : ∃ c : Nat, c = (i + j) / 2 := ⟨_, rfl⟩
      have h1 : i ≤ c := by omega
      have h2 : c < j := by omega
      have hz : ((i : Int) + (j : Int)) / 2 = (c : Int) := by omega
      have HH := Lib.hid hh
      clear hh
      obtain ⟨u, hu⟩ : ∃ u : Nat, u = mid + m - 1 - c := ⟨_, rfl⟩
      have huz : (mid : Int) + (m : Int) - 1 - (c : Int) = (u : Int) := by omega
      have hub : u < d.size := by omega
      clear hmm
      have HU := Lib.hid hu
      clear hu
      cases hL : ltOf cf d[u]! d[c]! with
      | true =>
        have ea10 : ((u : Int)).toNat = u := by omega
        have pa10 : (0 : Int) ≤ (u : Int) := by omega
        have ba10 : (u : Int) < (d.size : Int) := by omega
        have ra10 : IntKind.i64.wrap ((u : Int)) = (u : Int) := by rw [IntKind.wrap_i64]; omega
        have ec10 : ((c : Int)).toNat = c := by omega
        have pc10 : (0 : Int) ≤ (c : Int) := by omega
        have bc10 : (c : Int) < (d.size : Int) := by omega
        have rc10 : IntKind.i64.wrap ((c : Int)) = (c : Int) := by rw [IntKind.wrap_i64]; omega
        obtain ⟨x10, hx10⟩ : ∃ x, x = d[u]! := ⟨_, rfl⟩
        obtain ⟨y10, hy10⟩ : ∃ x, x = d[c]! := ⟨_, rfl⟩
        have l10a := S1.out.ldz HZ R (by omega) P (u) (by omega)
        have l10b := S1.out.ldz HZ R (by omega) P (c) (by omega)
        rw [← hx10] at l10a
        rw [← hy10] at l10b
        have hc10 := S1.out.cmpz HZ HC.out (by omega) x10 y10
        have hv10 : cf x10 y10 < 0 := by rw [hx10, hy10]; exact of_decide_eq_true hL
        have hd10 : decide (cf x10 y10 < 0) = true := decide_eq_true hv10
        clear hx10 hy10
        go_wp2_with fail
        refine wp_region_quiet_below (by assumption) (by kernel_rfl) ?_
        repeat (quiet_step (first | (go_at_fn g; exact hc10 _ _)))
        refine wpQuiet_nil ?_
        intro _ hw'
        obtain ⟨⟨nq, osq⟩, hw''⟩ := hw'
        subst hw''
        have S2 : Aside (SWK enc k w0 blk off d (grow (redrawn wr nq) osq)) := S1.out.regrownZ HZ nq osq
        clear l10a l10b hc10 S1
        generalize grow (redrawn wr nq) osq = w2 at S2 ⊢
        clear nq osq
        go_wp2
        go_roundg (c - i)
        case measure => omega
        case rel =>
          refine ⟨i, c, rfl, rfl, hai, h1, by omega, Nat.le_refl _, S2, (show Hid _ from ?_)⟩
          show _ = _
          rw [← HE.out, bsr_false (fun c => !ltOf cf d[mid + m - 1 - c]! d[c]!) hlt HH.out (by simp only [← HU.out, hL, Bool.not_true])]
      | false =>
        have ea11 : ((u : Int)).toNat = u := by omega
        have pa11 : (0 : Int) ≤ (u : Int) := by omega
        have ba11 : (u : Int) < (d.size : Int) := by omega
        have ra11 : IntKind.i64.wrap ((u : Int)) = (u : Int) := by rw [IntKind.wrap_i64]; omega
        have ec11 : ((c : Int)).toNat = c := by omega
        have pc11 : (0 : Int) ≤ (c : Int) := by omega
        have bc11 : (c : Int) < (d.size : Int) := by omega
        have rc11 : IntKind.i64.wrap ((c : Int)) = (c : Int) := by rw [IntKind.wrap_i64]; omega
        obtain ⟨x11, hx11⟩ : ∃ x, x = d[u]! := ⟨_, rfl⟩
        obtain ⟨y11, hy11⟩ : ∃ x, x = d[c]! := ⟨_, rfl⟩
        have l11a := S1.out.ldz HZ R (by omega) P (u) (by omega)
        have l11b := S1.out.ldz HZ R (by omega) P (c) (by omega)
        rw [← hx11] at l11a
        rw [← hy11] at l11b
        have hc11 := S1.out.cmpz HZ HC.out (by omega) x11 y11
        have hv11 : ¬ cf x11 y11 < 0 := by rw [hx11, hy11]; exact of_decide_eq_false hL
        have hd11 : decide (cf x11 y11 < 0) = false := decide_eq_false hv11
        clear hx11 hy11
        go_wp2_with fail
        refine wp_region_quiet_below (by assumption) (by kernel_rfl) ?_
        repeat (quiet_step (first | (go_at_fn g; exact hc11 _ _)))
        refine wpQuiet_nil ?_
        intro _ hw'
        obtain ⟨⟨nq, osq⟩, hw''⟩ := hw'
        subst hw''
        have S2 : Aside (SWK enc k w0 blk off d (grow (redrawn wr nq) osq)) := S1.out.regrownZ HZ nq osq
        clear l11a l11b hc11 S1
        generalize grow (redrawn wr nq) osq = w2 at S2 ⊢
        clear nq osq
        go_wp2
        go_roundg (j - (c + 1))
        case measure => omega
        case rel =>
          refine ⟨c + 1, j, by first | rfl | go_num, rfl, by omega, by omega, hjb, Nat.le_refl _, S2, (show Hid _ from ?_)⟩
          show _ = _
          rw [← HE.out, bsr_true (fun c => !ltOf cf d[mid + m - 1 - c]! d[c]!) hlt HH.out (by simp only [← HU.out, hL, Bool.not_false])]
    · obtain rfl : i = j := by omega
      have hltz : ¬ (i : Int) < (i : Int) := by omega
      obtain rfl : i = st := by
        have h1 := HS.out
        have h2 := HE.out
        rw [bsr_stop] at h2
        unfold smStart at h1
        rw [← hmd.out] at h1
        rw [if_neg hside, if_neg hside] at h1
        exact h2.trans h1
      clear HE HS hkx hjb hai hij
      have hez : (mid : Int) + (m : Int) - (i : Int) = (e : Int) := by have := HEQ.out; omega
      have hme : m ≤ e := by have := HEQ.out; omega
      have hme2 : mid ≤ e := by have := HEQ.out; omega
      by_cases c1 : i < m ∧ m < e
      · have c1x : (i : Int) < (m : Int) := by omega
        have c1y : (m : Int) < (e : Int) := by omega
        by_cases c2 : a < i ∧ i < mid
        · have c2x : (a : Int) < (i : Int) := by omega
          have c2y : (i : Int) < (mid : Int) := by omega
          by_cases c3 : mid < e ∧ e < b
          · have c3x : (mid : Int) < (e : Int) := by omega
            have c3y : (e : Int) < (b : Int) := by omega
            first | (exfalso; have := HEQ.out; omega) | skip
            all_goals
              have HC1 := Lib.hid (rotate_any L k aE zE enc cf g cb blk off cap d0 d w0 wr R hs S1 hsz i m e c1.1 c1.2 (by omega))
              go_wp2_with fail
              refine HC1.out.mono ?_
              rintro e1 w1 ⟨rfl, S2⟩
              have S3 : Aside (SWK enc k w0 blk off (smRot m i e d) w1) := by unfold smRot; rw [if_pos c1]; exact S2
              clear S2 HC1
              have hz3 := Lib.hid (show (smRot m i e d).size = d.size from size_smRot _ _ _ _)
              have HC2 := Lib.hid (IH.out a i mid _ w1 c2.1 c2.2 (by omega) (by omega) hz3.out S3)
              go_wp2_with fail
              refine HC2.out.mono ?_
              rintro e2 w2 ⟨rfl, S4⟩
              have S5 : Aside (SWK enc k w0 blk off (smL (ltOf cf) f a i mid (smRot m i e d)) w2) := by rw [smL_pos c2]; exact S4
              clear S4 HC2
              have hz5 := Lib.hid (show (smL (ltOf cf) f a i mid (smRot m i e d)).size = d.size from by rw [size_smL]; exact hz3.out)
              have HC3 := Lib.hid (IH.out mid e b _ w2 c3.1 c3.2 hb (by omega) hz5.out S5)
              go_wp2_with fail
              refine HC3.out.mono ?_
              rintro e3 w3 ⟨rfl, S6⟩
              have S7 : Aside (SWK enc k w0 blk off (symMerge (ltOf cf) f mid e b (smL (ltOf cf) f a i mid (smRot m i e d))) w3) := S6
              clear S6 HC3
              go_wp2_with fail
              go_end0
              refine ⟨rfl, ?_⟩
              rw [smL_pos c3]
              exact S7.out
          · by_cases c3f : mid < e
            · have c3x : (mid : Int) < (e : Int) := by omega
              have c3y : ¬ (e : Int) < (b : Int) := by omega
              first | (exfalso; have := HEQ.out; omega) | skip
              all_goals
                have HC1 := Lib.hid (rotate_any L k aE zE enc cf g cb blk off cap d0 d w0 wr R hs S1 hsz i m e c1.1 c1.2 (by omega))
                go_wp2_with fail
                refine HC1.out.mono ?_
                rintro e1 w1 ⟨rfl, S2⟩
                have S3 : Aside (SWK enc k w0 blk off (smRot m i e d) w1) := by unfold smRot; rw [if_pos c1]; exact S2
                clear S2 HC1
                have hz3 := Lib.hid (show (smRot m i e d).size = d.size from size_smRot _ _ _ _)
                have HC2 := Lib.hid (IH.out a i mid _ w1 c2.1 c2.2 (by omega) (by omega) hz3.out S3)
                go_wp2_with fail
                refine HC2.out.mono ?_
                rintro e2 w2 ⟨rfl, S4⟩
                have S5 : Aside (SWK enc k w0 blk off (smL (ltOf cf) f a i mid (smRot m i e d)) w2) := by rw [smL_pos c2]; exact S4
                clear S4 HC2
                have hz5 := Lib.hid (show (smL (ltOf cf) f a i mid (smRot m i e d)).size = d.size from by rw [size_smL]; exact hz3.out)
                go_wp2_with fail
                go_end0
                refine ⟨rfl, ?_⟩
                rw [smL_neg c3]
                exact S5.out
            · have c3x : ¬ (mid : Int) < (e : Int) := by omega
              first | (exfalso; have := HEQ.out; omega) | skip
              all_goals
                have HC1 := Lib.hid (rotate_any L k aE zE enc cf g cb blk off cap d0 d w0 wr R hs S1 hsz i m e c1.1 c1.2 (by omega))
                go_wp2_with fail
                refine HC1.out.mono ?_
                rintro e1 w1 ⟨rfl, S2⟩
                have S3 : Aside (SWK enc k w0 blk off (smRot m i e d) w1) := by unfold smRot; rw [if_pos c1]; exact S2
                clear S2 HC1
                have hz3 := Lib.hid (show (smRot m i e d).size = d.size from size_smRot _ _ _ _)
                have HC2 := Lib.hid (IH.out a i mid _ w1 c2.1 c2.2 (by omega) (by omega) hz3.out S3)
                go_wp2_with fail
                refine HC2.out.mono ?_
                rintro e2 w2 ⟨rfl, S4⟩
                have S5 : Aside (SWK enc k w0 blk off (smL (ltOf cf) f a i mid (smRot m i e d)) w2) := by rw [smL_pos c2]; exact S4
                clear S4 HC2
                have hz5 := Lib.hid (show (smL (ltOf cf) f a i mid (smRot m i e d)).size = d.size from by rw [size_smL]; exact hz3.out)
                go_wp2_with fail
                go_end0
                refine ⟨rfl, ?_⟩
                rw [smL_neg c3]
                exact S5.out
        · by_cases c2f : a < i
          · have c2x : (a : Int) < (i : Int) := by omega
            have c2y : ¬ (i : Int) < (mid : Int) := by omega
            by_cases c3 : mid < e ∧ e < b
            · have c3x : (mid : Int) < (e : Int) := by omega
              have c3y : (e : Int) < (b : Int) := by omega
              first | (exfalso; have := HEQ.out; omega) | skip
              all_goals
                have HC1 := Lib.hid (rotate_any L k aE zE enc cf g cb blk off cap d0 d w0 wr R hs S1 hsz i m e c1.1 c1.2 (by omega))
                go_wp2_with fail
                refine HC1.out.mono ?_
                rintro e1 w1 ⟨rfl, S2⟩
                have S3 : Aside (SWK enc k w0 blk off (smRot m i e d) w1) := by unfold smRot; rw [if_pos c1]; exact S2
                clear S2 HC1
                have hz3 := Lib.hid (show (smRot m i e d).size = d.size from size_smRot _ _ _ _)
                have S5 : Aside (SWK enc k w0 blk off (smL (ltOf cf) f a i mid (smRot m i e d)) w1) := by rw [smL_neg c2]; exact S3
                have hz5 := Lib.hid (show (smL (ltOf cf) f a i mid (smRot m i e d)).size = d.size from by rw [size_smL]; exact hz3.out)
                have HC3 := Lib.hid (IH.out mid e b _ w1 c3.1 c3.2 hb (by omega) hz5.out S5)
                go_wp2_with fail
                refine HC3.out.mono ?_
                rintro e3 w3 ⟨rfl, S6⟩
                have S7 : Aside (SWK enc k w0 blk off (symMerge (ltOf cf) f mid e b (smL (ltOf cf) f a i mid (smRot m i e d))) w3) := S6
                clear S6 HC3
                go_wp2_with fail
                go_end0
                refine ⟨rfl, ?_⟩
                rw [smL_pos c3]
                exact S7.out
            · by_cases c3f : mid < e
              · have c3x : (mid : Int) < (e : Int) := by omega
                have c3y : ¬ (e : Int) < (b : Int) := by omega
                first | (exfalso; have := HEQ.out; omega) | skip
                all_goals
                  have HC1 := Lib.hid (rotate_any L k aE zE enc cf g cb blk off cap d0 d w0 wr R hs S1 hsz i m e c1.1 c1.2 (by omega))
                  go_wp2_with fail
                  refine HC1.out.mono ?_
                  rintro e1 w1 ⟨rfl, S2⟩
                  have S3 : Aside (SWK enc k w0 blk off (smRot m i e d) w1) := by unfold smRot; rw [if_pos c1]; exact S2
                  clear S2 HC1
                  have hz3 := Lib.hid (show (smRot m i e d).size = d.size from size_smRot _ _ _ _)
                  have S5 : Aside (SWK enc k w0 blk off (smL (ltOf cf) f a i mid (smRot m i e d)) w1) := by rw [smL_neg c2]; exact S3
                  have hz5 := Lib.hid (show (smL (ltOf cf) f a i mid (smRot m i e d)).size = d.size from by rw [size_smL]; exact hz3.out)
                  go_wp2_with fail
                  go_end0
                  refine ⟨rfl, ?_⟩
                  rw [smL_neg c3]
                  exact S5.out
              · have c3x : ¬ (mid : Int) < (e : Int) := by omega
                first | (exfalso; have := HEQ.out; omega) | skip
                all_goals
                  have HC1 := Lib.hid (rotate_any L k aE zE enc cf g cb blk off cap d0 d w0 wr R hs S1 hsz i m e c1.1 c1.2 (by omega))
                  go_wp2_with fail
                  refine HC1.out.mono ?_
                  rintro e1 w1 ⟨rfl, S2⟩
                  have S3 : Aside (SWK enc k w0 blk off (smRot m i e d) w1) := by unfold smRot; rw [if_pos c1]; exact S2
                  clear S2 HC1
                  have hz3 := Lib.hid (show (smRot m i e d).size = d.size from size_smRot _ _ _ _)
                  have S5 : Aside (SWK enc k w0 blk off (smL (ltOf cf) f a i mid (smRot m i e d)) w1) := by rw [smL_neg c2]; exact S3
                  have hz5 := Lib.hid (show (smL (ltOf cf) f a i mid (smRot m i e d)).size = d.size from by rw [size_smL]; exact hz3.out)
                  go_wp2_with fail
                  go_end0
                  refine ⟨rfl, ?_⟩
                  rw [smL_neg c3]
                  exact S5.out
          · have c2x : ¬ (a : Int) < (i : Int) := by omega
            by_cases c3 : mid < e ∧ e < b
            · have c3x : (mid : Int) < (e : Int) := by omega
              have c3y : (e : Int) < (b : Int) := by omega
              first | (exfalso; have := HEQ.out; omega) | skip
              all_goals
                have HC1 := Lib.hid (rotate_any L k aE zE enc cf g cb blk off cap d0 d w0 wr R hs S1 hsz i m e c1.1 c1.2 (by omega))
                go_wp2_with fail
                refine HC1.out.mono ?_
                rintro e1 w1 ⟨rfl, S2⟩
                have S3 : Aside (SWK enc k w0 blk off (smRot m i e d) w1) := by unfold smRot; rw [if_pos c1]; exact S2
                clear S2 HC1
                have hz3 := Lib.hid (show (smRot m i e d).size = d.size from size_smRot _ _ _ _)
                have S5 : Aside (SWK enc k w0 blk off (smL (ltOf cf) f a i mid (smRot m i e d)) w1) := by rw [smL_neg c2]; exact S3
                have hz5 := Lib.hid (show (smL (ltOf cf) f a i mid (smRot m i e d)).size = d.size from by rw [size_smL]; exact hz3.out)
                have HC3 := Lib.hid (IH.out mid e b _ w1 c3.1 c3.2 hb (by omega) hz5.out S5)
                go_wp2_with fail
                refine HC3.out.mono ?_
                rintro e3 w3 ⟨rfl, S6⟩
                have S7 : Aside (SWK enc k w0 blk off (symMerge (ltOf cf) f mid e b (smL (ltOf cf) f a i mid (smRot m i e d))) w3) := S6
                clear S6 HC3
                go_wp2_with fail
                go_end0
                refine ⟨rfl, ?_⟩
                rw [smL_pos c3]
                exact S7.out
            · by_cases c3f : mid < e
              · have c3x : (mid : Int) < (e : Int) := by omega
                have c3y : ¬ (e : Int) < (b : Int) := by omega
                first | (exfalso; have := HEQ.out; omega) | skip
                all_goals
                  have HC1 := Lib.hid (rotate_any L k aE zE enc cf g cb blk off cap d0 d w0 wr R hs S1 hsz i m e c1.1 c1.2 (by omega))
                  go_wp2_with fail
                  refine HC1.out.mono ?_
                  rintro e1 w1 ⟨rfl, S2⟩
                  have S3 : Aside (SWK enc k w0 blk off (smRot m i e d) w1) := by unfold smRot; rw [if_pos c1]; exact S2
                  clear S2 HC1
                  have hz3 := Lib.hid (show (smRot m i e d).size = d.size from size_smRot _ _ _ _)
                  have S5 : Aside (SWK enc k w0 blk off (smL (ltOf cf) f a i mid (smRot m i e d)) w1) := by rw [smL_neg c2]; exact S3
                  have hz5 := Lib.hid (show (smL (ltOf cf) f a i mid (smRot m i e d)).size = d.size from by rw [size_smL]; exact hz3.out)
                  go_wp2_with fail
                  go_end0
                  refine ⟨rfl, ?_⟩
                  rw [smL_neg c3]
                  exact S5.out
              · have c3x : ¬ (mid : Int) < (e : Int) := by omega
                first | (exfalso; have := HEQ.out; omega) | skip
                all_goals
                  have HC1 := Lib.hid (rotate_any L k aE zE enc cf g cb blk off cap d0 d w0 wr R hs S1 hsz i m e c1.1 c1.2 (by omega))
                  go_wp2_with fail
                  refine HC1.out.mono ?_
                  rintro e1 w1 ⟨rfl, S2⟩
                  have S3 : Aside (SWK enc k w0 blk off (smRot m i e d) w1) := by unfold smRot; rw [if_pos c1]; exact S2
                  clear S2 HC1
                  have hz3 := Lib.hid (show (smRot m i e d).size = d.size from size_smRot _ _ _ _)
                  have S5 : Aside (SWK enc k w0 blk off (smL (ltOf cf) f a i mid (smRot m i e d)) w1) := by rw [smL_neg c2]; exact S3
                  have hz5 := Lib.hid (show (smL (ltOf cf) f a i mid (smRot m i e d)).size = d.size from by rw [size_smL]; exact hz3.out)
                  go_wp2_with fail
                  go_end0
                  refine ⟨rfl, ?_⟩
                  rw [smL_neg c3]
                  exact S5.out
      · by_cases c1f : i < m
        · have c1x : (i : Int) < (m : Int) := by omega
          have c1y : ¬ (m : Int) < (e : Int) := by omega
          by_cases c2 : a < i ∧ i < mid
          · have c2x : (a : Int) < (i : Int) := by omega
            have c2y : (i : Int) < (mid : Int) := by omega
            by_cases c3 : mid < e ∧ e < b
            · have c3x : (mid : Int) < (e : Int) := by omega
              have c3y : (e : Int) < (b : Int) := by omega
              first | (exfalso; have := HEQ.out; omega) | skip
              all_goals
                have S3 : Aside (SWK enc k w0 blk off (smRot m i e d) wr) := by unfold smRot; rw [if_neg c1]; exact S1
                have hz3 := Lib.hid (show (smRot m i e d).size = d.size from size_smRot _ _ _ _)
                have HC2 := Lib.hid (IH.out a i mid _ wr c2.1 c2.2 (by omega) (by omega) hz3.out S3)
                go_wp2_with fail
                refine HC2.out.mono ?_
                rintro e2 w2 ⟨rfl, S4⟩
                have S5 : Aside (SWK enc k w0 blk off (smL (ltOf cf) f a i mid (smRot m i e d)) w2) := by rw [smL_pos c2]; exact S4
                clear S4 HC2
                have hz5 := Lib.hid (show (smL (ltOf cf) f a i mid (smRot m i e d)).size = d.size from by rw [size_smL]; exact hz3.out)
                have HC3 := Lib.hid (IH.out mid e b _ w2 c3.1 c3.2 hb (by omega) hz5.out S5)
                go_wp2_with fail
                refine HC3.out.mono ?_
                rintro e3 w3 ⟨rfl, S6⟩
                have S7 : Aside (SWK enc k w0 blk off (symMerge (ltOf cf) f mid e b (smL (ltOf cf) f a i mid (smRot m i e d))) w3) := S6
                clear S6 HC3
                go_wp2_with fail
                go_end0
                refine ⟨rfl, ?_⟩
                rw [smL_pos c3]
                exact S7.out
            · by_cases c3f : mid < e
              · have c3x : (mid : Int) < (e : Int) := by omega
                have c3y : ¬ (e : Int) < (b : Int) := by omega
                first | (exfalso; have := HEQ.out; omega) | skip
                all_goals
                  have S3 : Aside (SWK enc k w0 blk off (smRot m i e d) wr) := by unfold smRot; rw [if_neg c1]; exact S1
                  have hz3 := Lib.hid (show (smRot m i e d).size = d.size from size_smRot _ _ _ _)
                  have HC2 := Lib.hid (IH.out a i mid _ wr c2.1 c2.2 (by omega) (by omega) hz3.out S3)
                  go_wp2_with fail
                  refine HC2.out.mono ?_
                  rintro e2 w2 ⟨rfl, S4⟩
                  have S5 : Aside (SWK enc k w0 blk off (smL (ltOf cf) f a i mid (smRot m i e d)) w2) := by rw [smL_pos c2]; exact S4
                  clear S4 HC2
                  have hz5 := Lib.hid (show (smL (ltOf cf) f a i mid (smRot m i e d)).size = d.size from by rw [size_smL]; exact hz3.out)
                  go_wp2_with fail
                  go_end0
                  refine ⟨rfl, ?_⟩
                  rw [smL_neg c3]
                  exact S5.out
              · have c3x : ¬ (mid : Int) < (e : Int) := by omega
                first | (exfalso; have := HEQ.out; omega) | skip
                all_goals
                  have S3 : Aside (SWK enc k w0 blk off (smRot m i e d) wr) := by unfold smRot; rw [if_neg c1]; exact S1
                  have hz3 := Lib.hid (show (smRot m i e d).size = d.size from size_smRot _ _ _ _)
                  have HC2 := Lib.hid (IH.out a i mid _ wr c2.1 c2.2 (by omega) (by omega) hz3.out S3)
                  go_wp2_with fail
                  refine HC2.out.mono ?_
                  rintro e2 w2 ⟨rfl, S4⟩
                  have S5 : Aside (SWK enc k w0 blk off (smL (ltOf cf) f a i mid (smRot m i e d)) w2) := by rw [smL_pos c2]; exact S4
                  clear S4 HC2
                  have hz5 := Lib.hid (show (smL (ltOf cf) f a i mid (smRot m i e d)).size = d.size from by rw [size_smL]; exact hz3.out)
                  go_wp2_with fail
                  go_end0
                  refine ⟨rfl, ?_⟩
                  rw [smL_neg c3]
                  exact S5.out
          · by_cases c2f : a < i
            · have c2x : (a : Int) < (i : Int) := by omega
              have c2y : ¬ (i : Int) < (mid : Int) := by omega
              by_cases c3 : mid < e ∧ e < b
              · have c3x : (mid : Int) < (e : Int) := by omega
                have c3y : (e : Int) < (b : Int) := by omega
                first | (exfalso; have := HEQ.out; omega) | skip
                all_goals
                  have S3 : Aside (SWK enc k w0 blk off (smRot m i e d) wr) := by unfold smRot; rw [if_neg c1]; exact S1
                  have hz3 := Lib.hid (show (smRot m i e d).size = d.size from size_smRot _ _ _ _)
                  have S5 : Aside (SWK enc k w0 blk off (smL (ltOf cf) f a i mid (smRot m i e d)) wr) := by rw [smL_neg c2]; exact S3
                  have hz5 := Lib.hid (show (smL (ltOf cf) f a i mid (smRot m i e d)).size = d.size from by rw [size_smL]; exact hz3.out)
                  have HC3 := Lib.hid (IH.out mid e b _ wr c3.1 c3.2 hb (by omega) hz5.out S5)
                  go_wp2_with fail
                  refine HC3.out.mono ?_
                  rintro e3 w3 ⟨rfl, S6⟩
                  have S7 : Aside (SWK enc k w0 blk off (symMerge (ltOf cf) f mid e b (smL (ltOf cf) f a i mid (smRot m i e d))) w3) := S6
                  clear S6 HC3
                  go_wp2_with fail
                  go_end0
                  refine ⟨rfl, ?_⟩
                  rw [smL_pos c3]
                  exact S7.out
              · by_cases c3f : mid < e
                · have c3x : (mid : Int) < (e : Int) := by omega
                  have c3y : ¬ (e : Int) < (b : Int) := by omega
                  first | (exfalso; have := HEQ.out; omega) | skip
                  all_goals
                    have S3 : Aside (SWK enc k w0 blk off (smRot m i e d) wr) := by unfold smRot; rw [if_neg c1]; exact S1
                    have hz3 := Lib.hid (show (smRot m i e d).size = d.size from size_smRot _ _ _ _)
                    have S5 : Aside (SWK enc k w0 blk off (smL (ltOf cf) f a i mid (smRot m i e d)) wr) := by rw [smL_neg c2]; exact S3
                    have hz5 := Lib.hid (show (smL (ltOf cf) f a i mid (smRot m i e d)).size = d.size from by rw [size_smL]; exact hz3.out)
                    go_wp2_with fail
                    go_end0
                    refine ⟨rfl, ?_⟩
                    rw [smL_neg c3]
                    exact S5.out
                · have c3x : ¬ (mid : Int) < (e : Int) := by omega
                  first | (exfalso; have := HEQ.out; omega) | skip
                  all_goals
                    have S3 : Aside (SWK enc k w0 blk off (smRot m i e d) wr) := by unfold smRot; rw [if_neg c1]; exact S1
                    have hz3 := Lib.hid (show (smRot m i e d).size = d.size from size_smRot _ _ _ _)
                    have S5 : Aside (SWK enc k w0 blk off (smL (ltOf cf) f a i mid (smRot m i e d)) wr) := by rw [smL_neg c2]; exact S3
                    have hz5 := Lib.hid (show (smL (ltOf cf) f a i mid (smRot m i e d)).size = d.size from by rw [size_smL]; exact hz3.out)
                    go_wp2_with fail
                    go_end0
                    refine ⟨rfl, ?_⟩
                    rw [smL_neg c3]
                    exact S5.out
            · have c2x : ¬ (a : Int) < (i : Int) := by omega
              by_cases c3 : mid < e ∧ e < b
              · have c3x : (mid : Int) < (e : Int) := by omega
                have c3y : (e : Int) < (b : Int) := by omega
                first | (exfalso; have := HEQ.out; omega) | skip
                all_goals
                  have S3 : Aside (SWK enc k w0 blk off (smRot m i e d) wr) := by unfold smRot; rw [if_neg c1]; exact S1
                  have hz3 := Lib.hid (show (smRot m i e d).size = d.size from size_smRot _ _ _ _)
                  have S5 : Aside (SWK enc k w0 blk off (smL (ltOf cf) f a i mid (smRot m i e d)) wr) := by rw [smL_neg c2]; exact S3
                  have hz5 := Lib.hid (show (smL (ltOf cf) f a i mid (smRot m i e d)).size = d.size from by rw [size_smL]; exact hz3.out)
                  have HC3 := Lib.hid (IH.out mid e b _ wr c3.1 c3.2 hb (by omega) hz5.out S5)
                  go_wp2_with fail
                  refine HC3.out.mono ?_
                  rintro e3 w3 ⟨rfl, S6⟩
                  have S7 : Aside (SWK enc k w0 blk off (symMerge (ltOf cf) f mid e b (smL (ltOf cf) f a i mid (smRot m i e d))) w3) := S6
                  clear S6 HC3
                  go_wp2_with fail
                  go_end0
                  refine ⟨rfl, ?_⟩
                  rw [smL_pos c3]
                  exact S7.out
              · by_cases c3f : mid < e
                · have c3x : (mid : Int) < (e : Int) := by omega
                  have c3y : ¬ (e : Int) < (b : Int) := by omega
                  first | (exfalso; have := HEQ.out; omega) | skip
                  all_goals
                    have S3 : Aside (SWK enc k w0 blk off (smRot m i e d) wr) := by unfold smRot; rw [if_neg c1]; exact S1
                    have hz3 := Lib.hid (show (smRot m i e d).size = d.size from size_smRot _ _ _ _)
                    have S5 : Aside (SWK enc k w0 blk off (smL (ltOf cf) f a i mid (smRot m i e d)) wr) := by rw [smL_neg c2]; exact S3
                    have hz5 := Lib.hid (show (smL (ltOf cf) f a i mid (smRot m i e d)).size = d.size from by rw [size_smL]; exact hz3.out)
                    go_wp2_with fail
                    go_end0
                    refine ⟨rfl, ?_⟩
                    rw [smL_neg c3]
                    exact S5.out
                · have c3x : ¬ (mid : Int) < (e : Int) := by omega
                  first | (exfalso; have := HEQ.out; omega) | skip
                  all_goals
                    have S3 : Aside (SWK enc k w0 blk off (smRot m i e d) wr) := by unfold smRot; rw [if_neg c1]; exact S1
                    have hz3 := Lib.hid (show (smRot m i e d).size = d.size from size_smRot _ _ _ _)
                    have S5 : Aside (SWK enc k w0 blk off (smL (ltOf cf) f a i mid (smRot m i e d)) wr) := by rw [smL_neg c2]; exact S3
                    have hz5 := Lib.hid (show (smL (ltOf cf) f a i mid (smRot m i e d)).size = d.size from by rw [size_smL]; exact hz3.out)
                    go_wp2_with fail
                    go_end0
                    refine ⟨rfl, ?_⟩
                    rw [smL_neg c3]
                    exact S5.out
        · have c1x : ¬ (i : Int) < (m : Int) := by omega
          by_cases c2 : a < i ∧ i < mid
          · have c2x : (a : Int) < (i : Int) := by omega
            have c2y : (i : Int) < (mid : Int) := by omega
            by_cases c3 : mid < e ∧ e < b
            · have c3x : (mid : Int) < (e : Int) := by omega
              have c3y : (e : Int) < (b : Int) := by omega
              first | (exfalso; have := HEQ.out; omega) | skip
              all_goals
                have S3 : Aside (SWK enc k w0 blk off (smRot m i e d) wr) := by unfold smRot; rw [if_neg c1]; exact S1
                have hz3 := Lib.hid (show (smRot m i e d).size = d.size from size_smRot _ _ _ _)
                have HC2 := Lib.hid (IH.out a i mid _ wr c2.1 c2.2 (by omega) (by omega) hz3.out S3)
                go_wp2_with fail
                refine HC2.out.mono ?_
                rintro e2 w2 ⟨rfl, S4⟩
                have S5 : Aside (SWK enc k w0 blk off (smL (ltOf cf) f a i mid (smRot m i e d)) w2) := by rw [smL_pos c2]; exact S4
                clear S4 HC2
                have hz5 := Lib.hid (show (smL (ltOf cf) f a i mid (smRot m i e d)).size = d.size from by rw [size_smL]; exact hz3.out)
                have HC3 := Lib.hid (IH.out mid e b _ w2 c3.1 c3.2 hb (by omega) hz5.out S5)
                go_wp2_with fail
                refine HC3.out.mono ?_
                rintro e3 w3 ⟨rfl, S6⟩
                have S7 : Aside (SWK enc k w0 blk off (symMerge (ltOf cf) f mid e b (smL (ltOf cf) f a i mid (smRot m i e d))) w3) := S6
                clear S6 HC3
                go_wp2_with fail
                go_end0
                refine ⟨rfl, ?_⟩
                rw [smL_pos c3]
                exact S7.out
            · by_cases c3f : mid < e
              · have c3x : (mid : Int) < (e : Int) := by omega
                have c3y : ¬ (e : Int) < (b : Int) := by omega
                first | (exfalso; have := HEQ.out; omega) | skip
                all_goals
                  have S3 : Aside (SWK enc k w0 blk off (smRot m i e d) wr) := by unfold smRot; rw [if_neg c1]; exact S1
                  have hz3 := Lib.hid (show (smRot m i e d).size = d.size from size_smRot _ _ _ _)
                  have HC2 := Lib.hid (IH.out a i mid _ wr c2.1 c2.2 (by omega) (by omega) hz3.out S3)
                  go_wp2_with fail
                  refine HC2.out.mono ?_
                  rintro e2 w2 ⟨rfl, S4⟩
                  have S5 : Aside (SWK enc k w0 blk off (smL (ltOf cf) f a i mid (smRot m i e d)) w2) := by rw [smL_pos c2]; exact S4
                  clear S4 HC2
                  have hz5 := Lib.hid (show (smL (ltOf cf) f a i mid (smRot m i e d)).size = d.size from by rw [size_smL]; exact hz3.out)
                  go_wp2_with fail
                  go_end0
                  refine ⟨rfl, ?_⟩
                  rw [smL_neg c3]
                  exact S5.out
              · have c3x : ¬ (mid : Int) < (e : Int) := by omega
                first | (exfalso; have := HEQ.out; omega) | skip
                all_goals
                  have S3 : Aside (SWK enc k w0 blk off (smRot m i e d) wr) := by unfold smRot; rw [if_neg c1]; exact S1
                  have hz3 := Lib.hid (show (smRot m i e d).size = d.size from size_smRot _ _ _ _)
                  have HC2 := Lib.hid (IH.out a i mid _ wr c2.1 c2.2 (by omega) (by omega) hz3.out S3)
                  go_wp2_with fail
                  refine HC2.out.mono ?_
                  rintro e2 w2 ⟨rfl, S4⟩
                  have S5 : Aside (SWK enc k w0 blk off (smL (ltOf cf) f a i mid (smRot m i e d)) w2) := by rw [smL_pos c2]; exact S4
                  clear S4 HC2
                  have hz5 := Lib.hid (show (smL (ltOf cf) f a i mid (smRot m i e d)).size = d.size from by rw [size_smL]; exact hz3.out)
                  go_wp2_with fail
                  go_end0
                  refine ⟨rfl, ?_⟩
                  rw [smL_neg c3]
                  exact S5.out
          · by_cases c2f : a < i
            · have c2x : (a : Int) < (i : Int) := by omega
              have c2y : ¬ (i : Int) < (mid : Int) := by omega
              by_cases c3 : mid < e ∧ e < b
              · have c3x : (mid : Int) < (e : Int) := by omega
                have c3y : (e : Int) < (b : Int) := by omega
                first | (exfalso; have := HEQ.out; omega) | skip
                all_goals
                  have S3 : Aside (SWK enc k w0 blk off (smRot m i e d) wr) := by unfold smRot; rw [if_neg c1]; exact S1
                  have hz3 := Lib.hid (show (smRot m i e d).size = d.size from size_smRot _ _ _ _)
                  have S5 : Aside (SWK enc k w0 blk off (smL (ltOf cf) f a i mid (smRot m i e d)) wr) := by rw [smL_neg c2]; exact S3
                  have hz5 := Lib.hid (show (smL (ltOf cf) f a i mid (smRot m i e d)).size = d.size from by rw [size_smL]; exact hz3.out)
                  have HC3 := Lib.hid (IH.out mid e b _ wr c3.1 c3.2 hb (by omega) hz5.out S5)
                  go_wp2_with fail
                  refine HC3.out.mono ?_
                  rintro e3 w3 ⟨rfl, S6⟩
                  have S7 : Aside (SWK enc k w0 blk off (symMerge (ltOf cf) f mid e b (smL (ltOf cf) f a i mid (smRot m i e d))) w3) := S6
                  clear S6 HC3
                  go_wp2_with fail
                  go_end0
                  refine ⟨rfl, ?_⟩
                  rw [smL_pos c3]
                  exact S7.out
              · by_cases c3f : mid < e
                · have c3x : (mid : Int) < (e : Int) := by omega
                  have c3y : ¬ (e : Int) < (b : Int) := by omega
                  first | (exfalso; have := HEQ.out; omega) | skip
                  all_goals
                    have S3 : Aside (SWK enc k w0 blk off (smRot m i e d) wr) := by unfold smRot; rw [if_neg c1]; exact S1
                    have hz3 := Lib.hid (show (smRot m i e d).size = d.size from size_smRot _ _ _ _)
                    have S5 : Aside (SWK enc k w0 blk off (smL (ltOf cf) f a i mid (smRot m i e d)) wr) := by rw [smL_neg c2]; exact S3
                    have hz5 := Lib.hid (show (smL (ltOf cf) f a i mid (smRot m i e d)).size = d.size from by rw [size_smL]; exact hz3.out)
                    go_wp2_with fail
                    go_end0
                    refine ⟨rfl, ?_⟩
                    rw [smL_neg c3]
                    exact S5.out
                · have c3x : ¬ (mid : Int) < (e : Int) := by omega
                  first | (exfalso; have := HEQ.out; omega) | skip
                  all_goals
                    have S3 : Aside (SWK enc k w0 blk off (smRot m i e d) wr) := by unfold smRot; rw [if_neg c1]; exact S1
                    have hz3 := Lib.hid (show (smRot m i e d).size = d.size from size_smRot _ _ _ _)
                    have S5 : Aside (SWK enc k w0 blk off (smL (ltOf cf) f a i mid (smRot m i e d)) wr) := by rw [smL_neg c2]; exact S3
                    have hz5 := Lib.hid (show (smL (ltOf cf) f a i mid (smRot m i e d)).size = d.size from by rw [size_smL]; exact hz3.out)
                    go_wp2_with fail
                    go_end0
                    refine ⟨rfl, ?_⟩
                    rw [smL_neg c3]
                    exact S5.out
            · have c2x : ¬ (a : Int) < (i : Int) := by omega
              by_cases c3 : mid < e ∧ e < b
              · have c3x : (mid : Int) < (e : Int) := by omega
                have c3y : (e : Int) < (b : Int) := by omega
                first | (exfalso; have := HEQ.out; omega) | skip
                all_goals
                  have S3 : Aside (SWK enc k w0 blk off (smRot m i e d) wr) := by unfold smRot; rw [if_neg c1]; exact S1
                  have hz3 := Lib.hid (show (smRot m i e d).size = d.size from size_smRot _ _ _ _)
                  have S5 : Aside (SWK enc k w0 blk off (smL (ltOf cf) f a i mid (smRot m i e d)) wr) := by rw [smL_neg c2]; exact S3
                  have hz5 := Lib.hid (show (smL (ltOf cf) f a i mid (smRot m i e d)).size = d.size from by rw [size_smL]; exact hz3.out)
                  have HC3 := Lib.hid (IH.out mid e b _ wr c3.1 c3.2 hb (by omega) hz5.out S5)
                  go_wp2_with fail
                  refine HC3.out.mono ?_
                  rintro e3 w3 ⟨rfl, S6⟩
                  have S7 : Aside (SWK enc k w0 blk off (symMerge (ltOf cf) f mid e b (smL (ltOf cf) f a i mid (smRot m i e d))) w3) := S6
                  clear S6 HC3
                  go_wp2_with fail
                  go_end0
                  refine ⟨rfl, ?_⟩
                  rw [smL_pos c3]
                  exact S7.out
              · by_cases c3f : mid < e
                · have c3x : (mid : Int) < (e : Int) := by omega
                  have c3y : ¬ (e : Int) < (b : Int) := by omega
                  first | (exfalso; have := HEQ.out; omega) | skip
                  all_goals
                    have S3 : Aside (SWK enc k w0 blk off (smRot m i e d) wr) := by unfold smRot; rw [if_neg c1]; exact S1
                    have hz3 := Lib.hid (show (smRot m i e d).size = d.size from size_smRot _ _ _ _)
                    have S5 : Aside (SWK enc k w0 blk off (smL (ltOf cf) f a i mid (smRot m i e d)) wr) := by rw [smL_neg c2]; exact S3
                    have hz5 := Lib.hid (show (smL (ltOf cf) f a i mid (smRot m i e d)).size = d.size from by rw [size_smL]; exact hz3.out)
                    go_wp2_with fail
                    go_end0
                    refine ⟨rfl, ?_⟩
                    rw [smL_neg c3]
                    exact S5.out
                · have c3x : ¬ (mid : Int) < (e : Int) := by omega
                  first | (exfalso; have := HEQ.out; omega) | skip
                  all_goals
                    have S3 : Aside (SWK enc k w0 blk off (smRot m i e d) wr) := by unfold smRot; rw [if_neg c1]; exact S1
                    have hz3 := Lib.hid (show (smRot m i e d).size = d.size from size_smRot _ _ _ _)
                    have S5 : Aside (SWK enc k w0 blk off (smL (ltOf cf) f a i mid (smRot m i e d)) wr) := by rw [smL_neg c2]; exact S3
                    have hz5 := Lib.hid (show (smL (ltOf cf) f a i mid (smRot m i e d)).size = d.size from by rw [size_smL]; exact hz3.out)
                    go_wp2_with fail
                    go_end0
                    refine ⟨rfl, ?_⟩
                    rw [smL_neg c3]
                    exact S5.out
end
end Go.Proofs.YtckekncllmhohaaGreat.Q
namespace Go.Proofs.YtckekncllmhohaaGreat.Q
open Go.Shelf Go.RowKit Go.Lib Go.Sort Go.Proofs Go.Proofs.YtckekncllmhohaaGreat.G
set_option linter.all false

section
variable {α : Type} [Inhabited α]

theorem symMerge_any {P : Program} (L : SLays P) (k : Nat) (aE : ∀ w, (isAgg 41).run P w = .ok true w) (zE : ∀ w, (Go.sizeOf 41).run P w = .ok k w) (enc : α → List Value) (cf : α → α → Int) (hO : SWO (ltOf cf)) (g : Nat) (cb : Array Value) (blk off cap : Nat) (d0 : Array α) (w0 : World)
    (eg : ∀ args w, (callFunc g args).run P w = .ok (.enter g args) w) (HC : Aside (CmpBelow P g cb enc k cf blk off d0.size w0)) (HZ : Hid (w0.drawn = 0)) (R : RowK enc k w0 blk off d0) (hsz : d0.size < 1000000000000) :
    ∀ (f a m b : Nat) (d : Array α) (w : World), a < m → m < b → b ≤ d0.size → b - a ≤ f → d.size = d0.size → Aside (SWK enc k w0 blk off d w) →
    Calls P 67 #[.slice (some ⟨blk, off, none⟩) d0.size cap, .int .i64 a, .int .i64 m, .int .i64 b, .func (.func g) #[] cb] w fun e w' => e = .returned (.tuple #[]) ∧ SWK enc k w0 blk off (symMerge (ltOf cf) f a m b d) w'
  | 0, a, m, b, d, w, ham, hmb, hb, hf, hd, S => by omega
  | f + 1, a, m, b, d, w, ham, hmb, hb, hf, hd, S => by
    have ih := symMerge_any L k aE zE enc cf hO g cb blk off cap d0 w0 eg HC HZ R hsz f
    rw [← hd] at ih hb hsz ⊢
    unfold symMerge
    by_cases c1 : m - a = 1
    · rw [if_pos c1]
      exact symMerge_one L k aE zE enc cf g cb blk off cap d0 d w0 w eg HC HZ R hd.symm S hsz a m b (by omega) hmb hb
    · rw [if_neg c1]
      by_cases c2 : b - m = 1
      · rw [if_pos c2]
        exact symMerge_two L k aE zE enc cf g cb blk off cap d0 d w0 w eg HC HZ R hd.symm S hsz a m b (by omega) (by omega) hb
      · rw [if_neg c2]
        obtain ⟨p1, p2, p3, p4, -, -⟩ := smStart_spec hO d ham hmb
        by_cases c3 : (a + b) / 2 < m
        · exact symMerge_goL L k aE zE enc cf g cb blk off cap d0 d w0 w eg HC HZ R hd.symm S hsz f a m b _ _ _ (by omega) (by omega) hb hf rfl c3 rfl rfl p1 p2 p3 p4 ih
        · exact symMerge_goR L k aE zE enc cf g cb blk off cap d0 d w0 w eg HC HZ R hd.symm S hsz f a m b _ _ _ (by omega) (by omega) hb hf rfl c3 rfl rfl p1 p2 p3 p4 ih
set_option maxHeartbeats 8000000 in
set_option maxRecDepth 1000000 in
theorem stable_any {P : Program} (L : SLays P) (k : Nat) (aE : ∀ w, (isAgg 41).run P w = .ok true w) (zE : ∀ w, (Go.sizeOf 41).run P w = .ok k w) (enc : α → List Value) (cf : α → α → Int) (hO : SWO (ltOf cf)) (g : Nat) (cb : Array Value) (blk off cap n : Nat) (d0 d : Array α) (w0 w : World)
    (eg : ∀ args w, (callFunc g args).run P w = .ok (.enter g args) w) (HC : Aside (CmpBelow P g cb enc k cf blk off d0.size w0)) (HZ : Hid (w0.drawn = 0)) (R : RowK enc k w0 blk off d0) (hn : d0.size = n) (hs : d.size = n) (S0 : Aside (SWK enc k w0 blk off d w)) (hsz : n < 1000000000000) :
    Calls P 39 #[.slice (some ⟨blk, off, none⟩) n cap, .int .i64 n, .func (.func g) #[] cb] w fun e w' => e = .returned (.tuple #[]) ∧ SWK enc k w0 blk off (stableSort (ltOf cf) d) w' := by
  have mixed := L.mixed; have t3 := L.t3; have a3 := L.a3; have z3 := L.z3; have v3 := L.v3; have tu := L.tu; have t4 := L.t4; have a4 := L.a4; have z4 := L.z4; have v4 := L.v4; have t22 := L.t22; have a22 := L.a22; have z22 := L.z22; have a25 := L.a25; have z25 := L.z25; have u22 := run_underlying L.t22
  have FG := L.fStable
  have e29 : ∀ args w, (callFunc 66 args).run P w = .ok (.enter 66 args) w := enters_of L.fIns (by kernel_rfl) rfl
  have e67 : ∀ args w, (callFunc 67 args).run P w = .ok (.enter 67 args) w := enters_of L.fSym (by kernel_rfl) rfl
  have HI : ∀ (a b : Nat) (dk : Array α) (wk : World), a ≤ b → b ≤ n → dk.size = n → Aside (SWK enc k w0 blk off dk wk) → Calls P 66 #[.slice (some ⟨blk, off, none⟩) n cap, .int .i64 a, .int .i64 b, .func (.func g) #[] cb] wk fun e w' => e = .returned (.tuple #[]) ∧ SWK enc k w0 blk off (Sort.insertionSort (ltOf cf) dk a b) w' := fun a b dk wk h1 h2 h3 h4 => by
    have := insertion_w L k aE zE enc cf g cb blk off cap d0 dk w0 wk eg HC HZ R (by omega) h4 (by omega) a b h1 (by omega)
    rwa [hn] at this
  have HM : ∀ (a m b : Nat) (dk : Array α) (wk : World), a < m → m < b → b ≤ n → dk.size = n → Aside (SWK enc k w0 blk off dk wk) → Calls P 67 #[.slice (some ⟨blk, off, none⟩) n cap, .int .i64 a, .int .i64 m, .int .i64 b, .func (.func g) #[] cb] wk fun e w' => e = .returned (.tuple #[]) ∧ SWK enc k w0 blk off (symMerge (ltOf cf) n a m b dk) w' := fun a m b dk wk h1 h2 h3 h4 h5 => by
    have := symMerge_any L k aE zE enc cf hO g cb blk off cap d0 w0 eg HC HZ R (by omega) n a m b dk wk h1 h2 (by omega) (by omega) (by omega) h5
    rwa [hn] at this
  have HI' := Lib.hid HI
  have HM' := Lib.hid HM
  have HN := Lib.hid hn
  have HS := Lib.hid hs
  clear HI HM hn
  go_enter FG, Tryz.ntmps39
  go_wp2
  go_loopg [7, 8] n (fun kx s7 s8 wr => ∃ (aa : Nat) (dk : Array α), s7 = .int .i64 aa ∧ s8 = .int .i64 ((aa : Int) + 20) ∧ aa ≤ n ∧ n - aa ≤ kx ∧ dk.size = n ∧ Aside (SWK enc k w0 blk off dk wr) ∧ Hid (insBlocks (ltOf cf) n aa dk = insBlocks (ltOf cf) n 0 d))
  case atStart => exact ⟨0, d, rfl, by first | rfl | simp, Nat.zero_le _, by omega, hs, S0, rfl⟩
  case round =>
    clear S0 hs
    obtain ⟨aa, dk, rfl, rfl, haa, hkx, hds, S1, HE⟩ := hrel
    by_cases hlt : aa + 20 ≤ n
    · have hltz : (aa : Int) + 20 ≤ (n : Int) := by omega
      have hc := HI'.out aa (aa + 20) dk wr (by omega) hlt hds S1
      rw [show ((aa + 20 : Nat) : Int) = (aa : Int) + 20 from by omega] at hc
      have HC1 := Lib.hid hc
      clear hc S1
      go_wp2_with fail
      refine HC1.out.mono ?_
      rintro e w1 ⟨rfl, S2⟩
      have S3 : Aside _ := S2
      clear S2 HC1
      go_wp2
      go_roundg (n - (aa + 20))
      case measure => omega
      case rel =>
        refine ⟨aa + 20, _, by go_num, by first | rfl | (congr 1; omega), hlt, Nat.le_refl _, by rw [size_insertion]; exact hds, S3, (show Hid _ from ?_)⟩
        show _ = _
        rw [← HE.out]
        conv => rhs; rw [insBlocks, if_pos hlt]
    · have hltz : ¬ (aa : Int) + 20 ≤ (n : Int) := by omega
      have HC1 := Lib.hid (HI'.out aa n dk wr haa (Nat.le_refl _) hds S1)
      clear S1
      go_wp2_with fail
      refine HC1.out.mono ?_
      rintro e w1 ⟨rfl, S2⟩
      have S3 : Aside (SWK enc k w0 blk off (insBlocks (ltOf cf) n 0 d) w1) := by rw [← HE.out, insBlocks, if_neg hlt]; exact S2
      clear S2 HC1
      have hz1 : (insBlocks (ltOf cf) n 0 d).size = n := by rw [← HE.out, insBlocks, if_neg hlt, size_insertion]; exact hds
      have HT : Hid (stableSort (ltOf cf) d = mergeAll (ltOf cf) 20 n (insBlocks (ltOf cf) n 0 d)) := (show _ = _ from by unfold stableSort; rw [HS.out])
      clear HE
      generalize insBlocks (ltOf cf) n 0 d = d1 at S3 hz1 HT
      go_wp2_with fail
      go_loopg [6, 7, 8, 9] n (fun kx s6 s7 s8 s9 wr2 => ∃ (s : Nat) (dk2 : Array α), s6 = .int .i64 s ∧ 0 < s ∧ s ≤ 2 * n + 20 ∧ n - s ≤ kx ∧ dk2.size = n ∧ Aside (SWK enc k w0 blk off dk2 wr2) ∧ Hid (mergeAll (ltOf cf) s n dk2 = mergeAll (ltOf cf) 20 n d1))
      case atStart => exact ⟨20, d1, rfl, by omega, by omega, by omega, hz1, S3, rfl⟩
      case round =>
        clear S3 hds hlt hltz hz1
        obtain ⟨s, dk2, rfl, hs0, hs2, hkx2, hds, S1, HE⟩ := hrel
        by_cases hsn : s < n
        · have hsz' : (s : Int) < (n : Int) := by omega
          go_wp2
          go_loopg [7, 8] n (fun kx3 s7 s8 wr3 => ∃ (ab : Nat) (dk3 : Array α), s7 = .int .i64 ab ∧ s8 = .int .i64 ((ab : Int) + 2 * (s : Int)) ∧ ab ≤ n ∧ n - ab ≤ kx3 ∧ dk3.size = n ∧ Aside (SWK enc k w0 blk off dk3 wr3) ∧ Hid (mergePass (ltOf cf) s n ab dk3 = mergePass (ltOf cf) s n 0 dk2))
          case atStart => exact ⟨0, dk2, rfl, by first | rfl | (congr 1; omega), Nat.zero_le _, by omega, hds, S1, rfl⟩
          case round =>
            clear S1 hds
            obtain ⟨ab, dk3, rfl, rfl, hab, hkx3, hds, S1, HE3⟩ := hrel
            by_cases hlt : ab + 2 * s ≤ n
            · have hltz : (ab : Int) + 2 * (s : Int) ≤ (n : Int) := by omega
              have hc := HM'.out ab (ab + s) (ab + 2 * s) dk3 wr (by omega) (by omega) hlt hds S1
              rw [show ((ab + s : Nat) : Int) = (ab : Int) + (s : Int) from by omega, show ((ab + 2 * s : Nat) : Int) = (ab : Int) + 2 * (s : Int) from by omega] at hc
              have HC1 := Lib.hid hc
              clear hc S1
              go_wp2_with fail
              refine HC1.out.mono ?_
              rintro e w4 ⟨rfl, S2⟩
              have S3 : Aside _ := S2
              clear S2 HC1
              go_wp2
              go_roundg (n - (ab + 2 * s))
              case measure => omega
              case rel =>
                refine ⟨ab + 2 * s, _, by first | rfl | (congr 1; omega), by first | rfl | (congr 1; omega), hlt, Nat.le_refl _, by rw [size_symMerge]; exact hds, S3, (show Hid _ from ?_)⟩
                show _ = _
                rw [← HE3.out]
                conv => rhs; rw [mergePass, if_pos ⟨hs0, hlt⟩]
            · have hltz : ¬ (ab : Int) + 2 * (s : Int) ≤ (n : Int) := by omega
              by_cases hmn : ab + s < n
              · have hmz : (ab : Int) + (s : Int) < (n : Int) := by omega
                have hc := HM'.out ab (ab + s) n dk3 wr (by omega) hmn (Nat.le_refl _) hds S1
                rw [show ((ab + s : Nat) : Int) = (ab : Int) + (s : Int) from by omega] at hc
                have HC1 := Lib.hid hc
                clear hc S1
                go_wp2_with fail
                refine HC1.out.mono ?_
                rintro e w4 ⟨rfl, S2⟩
                have S3 : Aside _ := S2
                clear S2 HC1
                have HP : Hid (mergePass (ltOf cf) s n 0 dk2 = symMerge (ltOf cf) n ab (ab + s) n dk3) := (show _ = _ from by rw [← HE3.out, mergePass, if_neg (by omega), if_pos hmn])
                have hzz : (symMerge (ltOf cf) n ab (ab + s) n dk3).size = n := by rw [size_symMerge]; exact hds
                go_wp2
                go_roundg (n - s * 2)
                case measure => omega
                case rel =>
                  refine ⟨s * 2, _, by first | rfl | (congr 1; omega), by omega, by omega, Nat.le_refl _, hzz, S3, (show Hid _ from ?_)⟩
                  show _ = _
                  rw [← HE.out, ← HP.out]
                  conv => rhs; rw [mergeAll, if_pos ⟨hs0, hsn⟩]
              · have hmz : ¬ (ab : Int) + (s : Int) < (n : Int) := by omega
                have S3 := S1
                clear S1
                have HP : Hid (mergePass (ltOf cf) s n 0 dk2 = dk3) := (show _ = _ from by rw [← HE3.out, mergePass, if_neg (by omega), if_neg hmn])
                have hzz := hds
                go_wp2
                go_roundg (n - s * 2)
                case measure => omega
                case rel =>
                  refine ⟨s * 2, _, by first | rfl | (congr 1; omega), by omega, by omega, Nat.le_refl _, hzz, S3, (show Hid _ from ?_)⟩
                  show _ = _
                  rw [← HE.out, ← HP.out]
                  conv => rhs; rw [mergeAll, if_pos ⟨hs0, hsn⟩]
        · have hsz' : ¬ (s : Int) < (n : Int) := by omega
          go_wp2
          go_end0
          refine ⟨rfl, ?_⟩
          rw [HT.out, ← HE.out, mergeAll, if_neg (by omega)]
          exact S1.out
end
end Go.Proofs.YtckekncllmhohaaGreat.Q
namespace Go.Proofs.YtckekncllmhohaaGreat.Q
open Go.RowKit Go.Sort Go.Proofs Go.Proofs.YtckekncllmhohaaGreatW.PrintWords Go.Proofs.YtckekncllmhohaaGreatW.PrintLast Go.Proofs.YtckekncllmhohaaGreatW.PrintMore Go.Proofs.YtckekncllmhohaaGreat.G
set_option linter.unusedVariables false
set_option linter.unusedSimpArgs false
set_option linter.all false

instance : Inhabited S41 := ⟨z41⟩
def lotEnc (x : S41) : List Value := [.int .i64 x.f0, .string x.f1, .int .i64 x.f2.f0, .int .i64 x.f2.f1, .int .i64 x.f3, .bool x.f4]
def lotCmp (x y : S41) : Int := if x.f2.f1 < y.f2.f1 then -1 else if x.f2.f1 > y.f2.f1 then 1 else if x.f0 < y.f0 then -1 else if x.f0 > y.f0 then 1 else 0
theorem cmpInt_is (a b : Int) : cmp_Compare_int.f a b = some (if a < b then -1 else if a > b then 1 else 0) := by
  unfold cmp_Compare_int.f cmp_isNaN_int.f
  simp
  split <;> (try split) <;> simp_all
theorem cmpOr_is (k : Nat) (a b : Int) : cmp_Or_int.f (k + 3) [a, b] = some (if a = 0 then b else a) := by
  unfold cmp_Or_int.f
  have w1 : wrap64 1 = 1 := by unfold wrap64; omega
  have w2 : wrap64 2 = 2 := by unfold wrap64; omega
  have r0 : rd [a, b] 0 = a := rfl
  have r1 : rd [a, b] 1 = b := rfl
  simp only [cmp_Or_int.l0, List.length_cons, List.length_nil]
  by_cases ha : a = 0
  · by_cases hb : b = 0
    · simp [ha, hb, r0, r1, w1, w2, rd]
    · simp [ha, hb, r0, r1, w1, w2, rd]
  · simp [ha, r0, rd]
theorem lotCmp_is (x y : S41) (k : Nat) : lot_Compare.f (k + 3) x.f0 x.f1 x.f2.f0 x.f2.f1 x.f3 x.f4 y.f0 y.f1 y.f2.f0 y.f2.f1 y.f3 y.f4 = some (lotCmp x y) := by
  unfold lot_Compare.f lotCmp
  rw [cmpInt_is, Option.bind_some, cmpInt_is, Option.bind_some, cmpOr_is, Option.bind_some]
  congr 1
  by_cases h1 : x.f2.f1 < y.f2.f1
  · simp [h1]
  · by_cases h2 : x.f2.f1 > y.f2.f1
    · simp [h1, h2]
    · simp [h1, h2]
theorem lot_cmp (W : World) (x y : S41) : Calls Tryz.prog 26 (#[.agg (lotEnc x).toArray, .agg (lotEnc y).toArray] ++ #[]) W fun e w' => e = .returned (.int .i64 (lotCmp x y)) ∧ Below W.heap.size W w' :=
  lot_Compare.calls 3 x.f0 x.f1 x.f2.f0 x.f2.f1 x.f3 x.f4 y.f0 y.f1 y.f2.f0 y.f2.f1 y.f3 y.f4 (lotCmp x y) W (lotCmp_is x y 0)
theorem eg_cmp (args : Array Value) (W : World) : (callFunc 26 args).run Tryz.prog W = .ok (.enter 26 args) W := enters_ Tryz.func26 (by kernel_rfl) rfl args W
theorem lotEnc_len (x : S41) : (lotEnc x).length = 6 := rfl
theorem lotEnc_one (x : S41) : ∀ v ∈ lotEnc x, v.oneCell' = true := by
  intro v hv
  unfold lotEnc at hv
  simp only [List.mem_cons, List.not_mem_nil, or_false] at hv
  rcases hv with rfl | rfl | rfl | rfl | rfl | rfl <;> rfl
theorem lot_swo : SWO (ltOf lotCmp) where
  irrefl x := by unfold ltOf lotCmp; simp
  trans x y z := by
    unfold ltOf lotCmp
    simp only [decide_eq_true_eq]
    intro h1 h2
    split at h1 <;> split at h2 <;> split <;> (try split at h1) <;> (try split at h2) <;> (try split) <;> (try split at h1) <;> (try split at h2) <;> (try split) <;> (try split at h1) <;> (try split at h2) <;> (try split) <;> omega
  ntrans x y z := by
    unfold ltOf lotCmp
    simp only [decide_eq_false_iff_not]
    intro h1 h2
    split at h1 <;> split at h2 <;> split <;> (try split at h1) <;> (try split at h2) <;> (try split) <;> (try split at h1) <;> (try split at h2) <;> (try split) <;> (try split at h1) <;> (try split at h2) <;> (try split) <;> omega
theorem lot_lays : SLays Tryz.prog where
  mixed := by kernel_rfl
  fIns := Tryz.func66
  fSwap := Tryz.func107
  fRot := Tryz.func97
  fSym := Tryz.func67
  fStable := Tryz.func39
  t3 := Tryz.underlying3
  a3 := fun w => by kernel_rfl
  z3 := fun w => by kernel_rfl
  v3 := fun w => by kernel_rfl
  tu := Tryz.underlying191
  t4 := Tryz.underlying4
  a4 := fun w => by kernel_rfl
  z4 := fun w => by kernel_rfl
  v4 := fun w => by kernel_rfl
  t22 := Tryz.underlying22
  a22 := fun w => by kernel_rfl
  z22 := fun w => by kernel_rfl
  a25 := fun w => by kernel_rfl
  z25 := fun w => by kernel_rfl
theorem lot_agg : ∀ w, (isAgg 41).run Tryz.prog w = .ok true w := fun w => by kernel_rfl
theorem lot_size : ∀ w, (Go.sizeOf 41).run Tryz.prog w = .ok 6 w := fun w => by kernel_rfl
theorem stable_lot (g cap : Nat) (d : Array S41) (w : World) (hH : HoldsK lotEnc 6 w g 0 d) (hg : g < w.heap.size) (hn : d.size < 1000000000000) :
    Calls Tryz.prog 39 #[.slice (some ⟨g, 0, none⟩) d.size cap, .int .i64 d.size, .func (.func 26) #[] #[]] w fun e w' =>
      e = .returned (.tuple #[]) ∧ ∃ n os, w' = sortWorldK lotEnc 6 (redrawn w 0) g 0 n (stableSort (ltOf lotCmp) d) os :=
  stable_any lot_lays 6 lot_agg lot_size lotEnc lotCmp lot_swo _ #[] g 0 cap d.size d d (redrawn w 0) w eg_cmp (fun _ W _ _ x y => lot_cmp W x y) (Lib.hid rfl) ⟨lotEnc_len, lotEnc_one, hH, hg⟩ rfl rfl ⟨w.drawn, #[], (hid_start lotEnc 6 w g 0 d hH).out⟩ hn
theorem sortStable_lot (g cap : Nat) (d : Array S41) (w : World) (hH : HoldsK lotEnc 6 w g 0 d) (hg : g < w.heap.size) (hn : d.size < 1000000000000) :
    Calls Tryz.prog 25 #[.slice (some ⟨g, 0, none⟩) d.size cap, .func (.func 26) #[] #[]] w fun e w' =>
      e = .returned (.tuple #[]) ∧ ∃ n os, w' = sortWorldK lotEnc 6 (redrawn w 0) g 0 n (stableSort (ltOf lotCmp) d) os := by
  have HS := Lib.hid (stable_lot g cap d w hH hg hn)
  clear hH hg hn
  go_enter Tryz.func25, Tryz.ntmps25
  go_wp2_with fail
  refine HS.out.mono ?_
  rintro e w1 ⟨rfl, n, os, hw⟩
  have HW := Lib.hid hw
  clear hw
  go_wp2_with fail
  go_end0
  exact ⟨rfl, n, os, HW.out⟩
theorem insertion_nil (c : Nat) (w : World) :
    Calls Tryz.prog 66 #[.slice none 0 c, .int .i64 0, .int .i64 0, .func (.func 26) #[] #[]] w fun e w' => e = .returned (.tuple #[]) ∧ w' = w := by
  go_enter Tryz.func66, Tryz.ntmps66
  go_wp2
  refine wp_loop_rounds 1 ?_
  rw [rounds_succ]
  go_wp2
  go_end0
  exact ⟨rfl, rfl⟩
theorem stable_nil (c : Nat) (w : World) :
    Calls Tryz.prog 39 #[.slice none 0 c, .int .i64 0, .func (.func 26) #[] #[]] w fun e w' => e = .returned (.tuple #[]) ∧ w' = w := by
  have HI := Lib.hid (insertion_nil c w)
  go_enter Tryz.func39, Tryz.ntmps39
  go_wp2
  refine wp_loop_rounds 1 ?_
  rw [rounds_succ]
  go_wp2_with fail
  refine HI.out.mono ?_
  rintro e w1 ⟨rfl, rfl⟩
  go_wp2_with fail
  refine wp_loop_rounds 1 ?_
  rw [rounds_succ]
  go_wp2
  go_end0
  exact ⟨rfl, rfl⟩
theorem sortStable_nil (c : Nat) (w : World) :
    Calls Tryz.prog 25 #[.slice none 0 c, .func (.func 26) #[] #[]] w fun e w' => e = .returned (.tuple #[]) ∧ w' = w := by
  have HS := Lib.hid (stable_nil c w)
  go_enter Tryz.func25, Tryz.ntmps25
  go_wp2_with fail
  refine HS.out.mono ?_
  rintro e w1 ⟨rfl, rfl⟩
  go_wp2_with fail
  go_end0
  exact ⟨rfl, rfl⟩
theorem clone_nil (c : Nat) (w : World) :
    Calls Tryz.prog 24 #[.slice none 0 c] w fun e w' => e = .returned (.slice none 0 0) ∧ w' = w := by
  have heq : ∀ W : World, (binOp .eql 22 (.slice none 0 c) (.slice none 0 0)).run Tryz.prog W = .ok (.bool true) W := fun W => by kernel_rfl
  go_enter Tryz.func24, Tryz.ntmps24
  go_wp2
  go_ret
  exact ⟨rfl, rfl⟩

theorem lot_M {w : World} {base : Nat} {ok : Nat → Prop} {x : S41} {cs : List Value} (h : k41.M w base ok x cs) : cs = lotEnc x := k41_openM h
theorem lot_mk (w : World) (base : Nat) (ok : Nat → Prop) (x : S41) : k41.M w base ok x (lotEnc x) := k41_mkM w base ok x

set_option maxHeartbeats 4000000 in
set_option maxRecDepth 100000 in
theorem clone_lot (ad : Addr) (c0 : Nat) (l0 : List S41) (w : World) (hr0 : Kd.C k41 w (some ad) l0.length l0) (hl : l0.length ≤ 1000000) :
    Calls Tryz.prog 24 #[.slice (some ad) l0.length c0] w fun e w' => ∃ g cap : Nat, e = .returned (.slice (some ⟨g, 0, none⟩) l0.length cap) ∧ Kd.R k41 41 w' w.heap.size (fun _ => True) (.slice (some ⟨g, 0, none⟩) l0.length cap) l0 ∧ Below w.heap.size w w' := by
  have HR0 := Aside0.mk hr0
  have HL := Lib.hid hl
  have HB := Aside0.mk (below_alloc (Below.refl w.heap.size w) (Obj.cells #[] 41))
  have hn0 : Kd.R k41 41 (w.alloc (Obj.cells #[] 41)) w.heap.size (fun _ => True) (.slice (some ⟨w.heap.size, 0, none⟩) 0 0) [] :=
    ⟨fun _ _ => trivial, [], World.ownsRow_lit (base := w.heap.size) (e := 41) (size := k41.sz) w #[] 0 (Nat.le_refl _) (Nat.zero_le _) (by simp), Reps.none _ _⟩
  have HN0 := Aside0.mk hn0
  have heq : ∀ W : World, (binOp .eql 22 (.slice (some ad) l0.length c0) (.slice none 0 0)).run Tryz.prog W = .ok (.bool false) W := fun W => by kernel_rfl
  clear hr0 hn0 hl
  go_enter Tryz.func24, Tryz.ntmps24
  go_wp2_with (first | ((with_reducible refine gate_builtin (b := .append) (xs := #[.tmp 5, .tmp 6]) rfl ?_); refine Kd.R_append_rows k41 (Rr := k41.K w) (w0 := w) w.heap.size rfl (.tmp 5) (.tmp 6) 22 41 zLot 56 rfl Tryz.underlying22 infoLot rfl (by decide) (by omega) (.slice (some ⟨w.heap.size, 0, none⟩) 0 0) [] l0 (some ad) l0.length c0 (fun _ => True) (fun _ => False) rfl rfl HN0.out ?aR (fun x cs h => by rw [k41_open h]; exact lot_mk _ _ _ _) (fun _ hk => hk.elim) (fun k hk => trivial) HB.out HB.out.size (by have := HL.out; simp; omega) ?_; (case aR => exact ReadsRow.imp_ HR0.out HB.out (fun _ _ h => h)); intro v1 w3 ho hb hg hat; have HR3 := Aside0.mk ho; have HB3 := Aside0.mk hb; have HAT := Lib.hid hat; clear ho hb hg hat) | fail)
  go_ret
  have hv := HAT.out
  have hR := HR3.out
  rw [List.nil_append] at hR
  obtain ⟨A1, c1, rfl, hl1, hC⟩ := Kd.R_reads hR
  obtain ⟨g, hg⟩ : ∃ g, A1 = some ⟨g, 0, none⟩ := by
    obtain ⟨-, inner, ⟨-, hown⟩, -⟩ := hR
    rcases hown with ⟨hv', -⟩ | ⟨g, cap, cur, hv', -⟩
    · simp only [Value.slice.injEq] at hv'
      rw [hv'.1] at hv
      rcases hv with hv | ⟨b, hb, -⟩
      · simp [Value.ownBlock] at hv
      · simp [Value.ownBlock] at hb
    · simp only [Value.slice.injEq] at hv'
      exact ⟨g, hv'.1⟩
  subst hg
  exact ⟨g, c1, rfl, hR, HB3.out⟩

def lot_Sort.f (l : List S41) : Option (List S41) := if l.length ≤ 1000000 then some (stabl (ltOf lotCmp) l) else none
set_option maxHeartbeats 4000000 in
set_option maxRecDepth 100000 in
theorem lot_Sort.calls (A0 : Option Addr) (c0 : Nat) (l0 : List S41) (r : List S41) (w : World) (hr0 : Kd.C k41 w A0 l0.length l0) (hc0 : l0.length ≤ c0) (h : lot_Sort.f l0 = some r) :
    Calls Tryz.prog 8 #[.slice A0 l0.length c0] w fun e w' => ∃ v0_ : Value, e = .returned (v0_) ∧ Kd.R k41 41 w' w.heap.size (fun _ => True) v0_ r ∧ Below w.heap.size w w' := by
  unfold lot_Sort.f at h
  by_cases hl : l0.length ≤ 1000000
  · rw [if_pos hl] at h
    obtain rfl := Option.some.inj h
    clear h
    cases A0 with
    | none =>
      have h0 : l0.length = 0 := by
        by_cases hn : 0 < l0.length
        · obtain ⟨ad, e, -⟩ := at_T41 hr0 0 (by omega) (by omega)
          cases e
        · omega
      obtain rfl := List.length_eq_zero_iff.1 h0
      have HCL := Lib.hid (clone_nil c0 w)
      have HSN := Lib.hid (sortStable_nil 0 w)
      clear hr0 hc0 hl h0
      rw [List.length_nil]
      go_enter Tryz.func8, Tryz.ntmps8
      go_wp2_with fail
      refine HCL.out.mono ?_
      rintro e w1 ⟨rfl, rfl⟩
      go_wp2_with fail
      refine HSN.out.mono ?_
      rintro e w2 ⟨rfl, rfl⟩
      go_wp2_with fail
      go_ret
      exact ⟨_, rfl, Kd.R_nil _ _ _ _ _, Below.refl _ _⟩
    | some ad =>
      have HCL := Lib.hid (clone_lot ad c0 l0 w hr0 hl)
      clear hr0 hc0
      go_enter Tryz.func8, Tryz.ntmps8
      go_wp2_with fail
      refine HCL.out.mono ?_
      rintro e w1 ⟨g, cap, rfl, hR, hb⟩
      obtain ⟨hH, -, hg, -, cur, hcur, h1, h2, h3⟩ := holds_of_R k41 lotEnc 6 lotEnc_len rfl lot_M hR
      have hsort := sortStable_lot g cap l0.toArray w1 hH (blk_lt hcur) (by simp; omega)
      rw [List.size_toArray, stableSort_is lot_swo l0] at hsort
      have HSORT := Lib.hid hsort
      have hst : (stabl (ltOf lotCmp) l0).length = l0.length := stabl_length _ _
      have hsa : (stabl (ltOf lotCmp) l0).toArray.size = l0.length := by simpa using hst
      have hfin : ∀ m os, Kd.R k41 41 (sortWorldK lotEnc 6 (redrawn w1 0) g 0 m (stabl (ltOf lotCmp) l0).toArray os) w.heap.size (fun _ => True) (.slice (some ⟨g, 0, none⟩) l0.length cap) (stabl (ltOf lotCmp) l0) ∧ RowKit.Below w.heap.size w (sortWorldK lotEnc 6 (redrawn w1 0) g 0 m (stabl (ltOf lotCmp) l0).toArray os) := fun m os => by
        refine ⟨?_, below_of_sorted lotEnc 6 hb hg⟩
        have := R_of_sorted k41 lotEnc 6 lotEnc_len rfl lot_mk (ok := fun _ => True) (base := w.heap.size) (m := m) (os := os) (dk := (stabl (ltOf lotCmp) l0).toArray) hcur hg trivial (by rw [hsa]; exact h1) h2 h3
        rw [hsa] at this
        exact this
      have HFIN := Lib.hid hfin
      clear hR hb hH hg hcur h1 h2 h3 hsort hfin hst hsa HCL
      go_wp2_with fail
      refine HSORT.out.mono ?_
      rintro e w2 ⟨rfl, m, os, rfl⟩
      go_wp2_with fail
      go_ret
      exact ⟨_, rfl, (HFIN.out m os).1, (HFIN.out m os).2⟩
  · rw [if_neg hl] at h; cases h
end Go.Proofs.YtckekncllmhohaaGreat.Q
