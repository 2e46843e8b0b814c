/- slices' stable sort at structs: symMerge, the left side longer. (printed by wip/gensym.py; in the manner of the kit's worked sorts) -/
import Derived.Test.YtckekncllmhohaaGSymA
namespace Go.Proofs.Ytckekncllmhohaa.Q
open Go.Shelf Go.RowKit Go.Lib Go.Sort Go.Proofs Go.Proofs.Ytckekncllmhohaa.G
set_option linter.all false

section
variable {α : Type} [Inhabited α]
set_option maxHeartbeats 8000000 in
set_option maxRecDepth 1000000 in
/-- slices.symMergeCmpFunc: more than one on either side. -/
theorem symMerge_goL {P : Program} (L : SLays P) (k : Nat) (aE : ∀ w, (isAgg 25).run P w = .ok true w) (zE : ∀ w, (Go.sizeOf 25).run P w = .ok k w) (enc : α → List Value) (cf : α → α → Int) (g : Nat) (cb : Array Value) (blk off cap : Nat) (d0 d : Array α) (w0 w : World)
    (eg : ∀ args w, (callFunc g args).run P w = .ok (.enter g args) w) (HC : Aside (CmpBelow P g cb enc k cf blk off d0.size w0)) (HZ : Hid (w0.drawn = 0)) (R : RowK enc k w0 blk off d0) (hs : d0.size = d.size) (S0 : Aside (SWK enc k w0 blk off d w)) (hsz : d.size < 1000000000000)
    (f a m b mid st e : Nat) (ham : a + 1 < m) (hmb : m + 1 < b) (hb : b ≤ d.size) (hf : b - a ≤ f + 1) (hmid : mid = (a + b) / 2) (hside : mid < m) (hst : smStart (ltOf cf) a m b d = st) (he : e = mid + m - st) (p1 : a ≤ st) (p2 : st ≤ m) (p3 : st ≤ mid) (p4 : e ≤ b)
    (IH : Hid (∀ (a m b : Nat) (dk : Array α) (wk : World), a < m → m < b → b ≤ d.size → b - a ≤ f → dk.size = d.size → Aside (SWK enc k w0 blk off dk wk) → Calls P 35 #[.slice (some ⟨blk, off, none⟩) d.size cap, .int .i64 a, .int .i64 m, .int .i64 b, .func (.func g) #[] cb] wk fun e w' => e = .returned (.tuple #[]) ∧ SWK enc k w0 blk off (symMerge (ltOf cf) f a m b dk) w')) :
    Calls P 35 #[.slice (some ⟨blk, off, none⟩) d.size cap, .int .i64 a, .int .i64 m, .int .i64 b, .func (.func g) #[] cb] w fun e' w' => e' = .returned (.tuple #[]) ∧ SWK enc k w0 blk off
      (smL (ltOf cf) f mid e b (smL (ltOf cf) f a st mid (smRot m st e d))) w' := by
  have mixed := L.mixed; have t3 := L.t3; have a3 := L.a3; have z3 := L.z3; have v3 := L.v3; have tu := L.tu; have t4 := L.t4; have a4 := L.a4; have z4 := L.z4; have v4 := L.v4; have t22 := L.t22; have a22 := L.a22; have z22 := L.z22; have a25 := L.a25; have z25 := L.z25; have u22 := run_underlying L.t22
  have FG := L.fSym
  have e67 : ∀ args w, (callFunc 35 args).run P w = .ok (.enter 35 args) w := enters_of L.fSym (by kernel_rfl) rfl
  have e96 : ∀ args w, (callFunc 36 args).run P w = .ok (.enter 36 args) w := enters_of L.fRot (by kernel_rfl) rfl
  have HS := Lib.hid hst
  have hmid2 : mid < b := by omega
  have hmid1 : a < mid := by omega
  have hmd := Lib.hid hmid
  have hmz : ((a : Int) + (b : Int)) / 2 = (mid : Int) := by omega
  have hq1 : ((m : Int) - (a : Int) == 1) = false := beq_eq_false_iff_ne.2 (by omega)
  have hq2 : ((b : Int) - (m : Int) == 1) = false := beq_eq_false_iff_ne.2 (by omega)
  have hmm : mid + m ≤ a + b ∨ mid < m := by omega
  have hsz1 : (mid : Int) < (m : Int) := by omega
  have HEQ := Lib.hid he
  clear hst hmid he
  go_enter FG, Try.ntmps35
  go_wp2
  go_loopg [20, 21] ((mid) - (mid + m - b)) (fun kx s20 s21 wr => ∃ (i j : Nat), s20 = .int .i64 i ∧ s21 = .int .i64 j ∧ mid + m - b ≤ i ∧ i ≤ j ∧ j ≤ mid ∧ j - i ≤ kx ∧ Aside (SWK enc k w0 blk off d wr) ∧ Hid (bsr (fun c => !ltOf cf d[mid + m - 1 - c]! d[c]!) i j = bsr (fun c => !ltOf cf d[mid + m - 1 - c]! d[c]!) (mid + m - b) (mid)))
  case atStart => exact ⟨mid + m - b, mid, by first | rfl | (congr 1; omega), rfl, Nat.le_refl _, by omega, Nat.le_refl _, Nat.le_refl _, S0, rfl⟩
  case round =>
    clear S0 hmz hq1 hq2
    obtain ⟨i, j, rfl, rfl, hai, hij, hjb, hkx, S1, HE⟩ := hrel
    by_cases hlt : i < j
    · have hltz : (i : Int) < (j : Int) := by omega
      obtain ⟨c, hh⟩ : ∃ c : Nat, c = (i + j) / 2 := ⟨_, rfl⟩
      have h1 : i ≤ c := by omega
      have h2 : c < j := by omega
      have hz : ((i : Int) + (j : Int)) / 2 = (c : Int) := by omega
      have HH := Lib.hid hh
      clear hh
      obtain ⟨u, hu⟩ : ∃ u : Nat, u = mid + m - 1 - c := ⟨_, rfl⟩
      have huz : (mid : Int) + (m : Int) - 1 - (c : Int) = (u : Int) := by omega
      have hub : u < d.size := by omega
      clear hmm
      have HU := Lib.hid hu
      clear hu
      cases hL : ltOf cf d[u]! d[c]! with
      | true =>
        have ea8 : ((u : Int)).toNat = u := by omega
        have pa8 : (0 : Int) ≤ (u : Int) := by omega
        have ba8 : (u : Int) < (d.size : Int) := by omega
        have ra8 : IntKind.i64.wrap ((u : Int)) = (u : Int) := by rw [IntKind.wrap_i64]; omega
        have ec8 : ((c : Int)).toNat = c := by omega
        have pc8 : (0 : Int) ≤ (c : Int) := by omega
        have bc8 : (c : Int) < (d.size : Int) := by omega
        have rc8 : IntKind.i64.wrap ((c : Int)) = (c : Int) := by rw [IntKind.wrap_i64]; omega
        obtain ⟨x8, hx8⟩ : ∃ x, x = d[u]! := ⟨_, rfl⟩
        obtain ⟨y8, hy8⟩ : ∃ x, x = d[c]! := ⟨_, rfl⟩
        have l8a := S1.out.ldz HZ R (by omega) P (u) (by omega)
        have l8b := S1.out.ldz HZ R (by omega) P (c) (by omega)
        rw [← hx8] at l8a
        rw [← hy8] at l8b
        have hc8 := S1.out.cmpz HZ HC.out (by omega) x8 y8
        have hv8 : cf x8 y8 < 0 := by rw [hx8, hy8]; exact of_decide_eq_true hL
        have hd8 : decide (cf x8 y8 < 0) = true := decide_eq_true hv8
        clear hx8 hy8
        go_wp2_with fail
        refine wp_region_quiet_below (by assumption) (by kernel_rfl) ?_
        repeat (quiet_step (first | (go_at_fn g; exact hc8 _ _)))
        refine wpQuiet_nil ?_
        intro _ hw'
        obtain ⟨⟨nq, osq⟩, hw''⟩ := hw'
        subst hw''
        have S2 : Aside (SWK enc k w0 blk off d (grow (redrawn wr nq) osq)) := S1.out.regrownZ HZ nq osq
        clear l8a l8b hc8 S1
        generalize grow (redrawn wr nq) osq = w2 at S2 ⊢
        clear nq osq
        go_wp2
        go_roundg (c - i)
        case measure => omega
        case rel =>
          refine ⟨i, c, rfl, rfl, hai, h1, by omega, Nat.le_refl _, S2, (show Hid _ from ?_)⟩
          show _ = _
          rw [← HE.out, bsr_false (fun c => !ltOf cf d[mid + m - 1 - c]! d[c]!) hlt HH.out (by simp only [← HU.out, hL, Bool.not_true])]
      | false =>
        have ea9 : ((u : Int)).toNat = u := by omega
        have pa9 : (0 : Int) ≤ (u : Int) := by omega
        have ba9 : (u : Int) < (d.size : Int) := by omega
        have ra9 : IntKind.i64.wrap ((u : Int)) = (u : Int) := by rw [IntKind.wrap_i64]; omega
        have ec9 : ((c : Int)).toNat = c := by omega
        have pc9 : (0 : Int) ≤ (c : Int) := by omega
        have bc9 : (c : Int) < (d.size : Int) := by omega
        have rc9 : IntKind.i64.wrap ((c : Int)) = (c : Int) := by rw [IntKind.wrap_i64]; omega
        obtain ⟨x9, hx9⟩ : ∃ x, x = d[u]! := ⟨_, rfl⟩
        obtain ⟨y9, hy9⟩ : ∃ x, x = d[c]! := ⟨_, rfl⟩
        have l9a := S1.out.ldz HZ R (by omega) P (u) (by omega)
        have l9b := S1.out.ldz HZ R (by omega) P (c) (by omega)
        rw [← hx9] at l9a
        rw [← hy9] at l9b
        have hc9 := S1.out.cmpz HZ HC.out (by omega) x9 y9
        have hv9 : ¬ cf x9 y9 < 0 := by rw [hx9, hy9]; exact of_decide_eq_false hL
        have hd9 : decide (cf x9 y9 < 0) = false := decide_eq_false hv9
        clear hx9 hy9
        go_wp2_with fail
        refine wp_region_quiet_below (by assumption) (by kernel_rfl) ?_
        repeat (quiet_step (first | (go_at_fn g; exact hc9 _ _)))
        refine wpQuiet_nil ?_
        intro _ hw'
        obtain ⟨⟨nq, osq⟩, hw''⟩ := hw'
        subst hw''
        have S2 : Aside (SWK enc k w0 blk off d (grow (redrawn wr nq) osq)) := S1.out.regrownZ HZ nq osq
        clear l9a l9b hc9 S1
        generalize grow (redrawn wr nq) osq = w2 at S2 ⊢
        clear nq osq
        go_wp2
        go_roundg (j - (c + 1))
        case measure => omega
        case rel =>
          refine ⟨c + 1, j, by first | rfl | go_num, rfl, by omega, by omega, hjb, Nat.le_refl _, S2, (show Hid _ from ?_)⟩
          show _ = _
          rw [← HE.out, bsr_true (fun c => !ltOf cf d[mid + m - 1 - c]! d[c]!) hlt HH.out (by simp only [← HU.out, hL, Bool.not_false])]
    · obtain rfl : i = j := by omega
      have hltz : ¬ (i : Int) < (i : Int) := by omega
      obtain rfl : i = st := by
        have h1 := HS.out
        have h2 := HE.out
        rw [bsr_stop] at h2
        unfold smStart at h1
        rw [← hmd.out] at h1
        rw [if_pos hside, if_pos hside] at h1
        exact h2.trans h1
      clear HE HS hkx hjb hai hij
      have hez : (mid : Int) + (m : Int) - (i : Int) = (e : Int) := by have := HEQ.out; omega
      have hme : m ≤ e := by have := HEQ.out; omega
      have hme2 : mid ≤ e := by have := HEQ.out; omega
      by_cases c1 : i < m ∧ m < e
      · have c1x : (i : Int) < (m : Int) := by omega
        have c1y : (m : Int) < (e : Int) := by omega
        by_cases c2 : a < i ∧ i < mid
        · have c2x : (a : Int) < (i : Int) := by omega
          have c2y : (i : Int) < (mid : Int) := by omega
          by_cases c3 : mid < e ∧ e < b
          · have c3x : (mid : Int) < (e : Int) := by omega
            have c3y : (e : Int) < (b : Int) := by omega
            first | (exfalso; have := HEQ.out; omega) | skip
            all_goals
              have HC1 := Lib.hid (rotate_any L k aE zE enc cf g cb blk off cap d0 d w0 wr R hs S1 hsz i m e c1.1 c1.2 (by omega))
              go_wp2_with fail
              refine HC1.out.mono ?_
              rintro e1 w1 ⟨rfl, S2⟩
              have S3 : Aside (SWK enc k w0 blk off (smRot m i e d) w1) := by unfold smRot; rw [if_pos c1]; exact S2
              clear S2 HC1
              have hz3 := Lib.hid (show (smRot m i e d).size = d.size from size_smRot _ _ _ _)
              have HC2 := Lib.hid (IH.out a i mid _ w1 c2.1 c2.2 (by omega) (by omega) hz3.out S3)
              go_wp2_with fail
              refine HC2.out.mono ?_
              rintro e2 w2 ⟨rfl, S4⟩
              have S5 : Aside (SWK enc k w0 blk off (smL (ltOf cf) f a i mid (smRot m i e d)) w2) := by rw [smL_pos c2]; exact S4
              clear S4 HC2
              have hz5 := Lib.hid (show (smL (ltOf cf) f a i mid (smRot m i e d)).size = d.size from by rw [size_smL]; exact hz3.out)
              have HC3 := Lib.hid (IH.out mid e b _ w2 c3.1 c3.2 hb (by omega) hz5.out S5)
              go_wp2_with fail
              refine HC3.out.mono ?_
              rintro e3 w3 ⟨rfl, S6⟩
              have S7 : Aside (SWK enc k w0 blk off (symMerge (ltOf cf) f mid e b (smL (ltOf cf) f a i mid (smRot m i e d))) w3) := S6
              clear S6 HC3
              go_wp2_with fail
              go_end0
              refine ⟨rfl, ?_⟩
              rw [smL_pos c3]
              exact S7.out
          · by_cases c3f : mid < e
            · have c3x : (mid : Int) < (e : Int) := by omega
              have c3y : ¬ (e : Int) < (b : Int) := by omega
              first | (exfalso; have := HEQ.out; omega) | skip
              all_goals
                have HC1 := Lib.hid (rotate_any L k aE zE enc cf g cb blk off cap d0 d w0 wr R hs S1 hsz i m e c1.1 c1.2 (by omega))
                go_wp2_with fail
                refine HC1.out.mono ?_
                rintro e1 w1 ⟨rfl, S2⟩
                have S3 : Aside (SWK enc k w0 blk off (smRot m i e d) w1) := by unfold smRot; rw [if_pos c1]; exact S2
                clear S2 HC1
                have hz3 := Lib.hid (show (smRot m i e d).size = d.size from size_smRot _ _ _ _)
                have HC2 := Lib.hid (IH.out a i mid _ w1 c2.1 c2.2 (by omega) (by omega) hz3.out S3)
                go_wp2_with fail
                refine HC2.out.mono ?_
                rintro e2 w2 ⟨rfl, S4⟩
                have S5 : Aside (SWK enc k w0 blk off (smL (ltOf cf) f a i mid (smRot m i e d)) w2) := by rw [smL_pos c2]; exact S4
                clear S4 HC2
                have hz5 := Lib.hid (show (smL (ltOf cf) f a i mid (smRot m i e d)).size = d.size from by rw [size_smL]; exact hz3.out)
                go_wp2_with fail
                go_end0
                refine ⟨rfl, ?_⟩
                rw [smL_neg c3]
                exact S5.out
            · have c3x : ¬ (mid : Int) < (e : Int) := by omega
              first | (exfalso; have := HEQ.out; omega) | skip
              all_goals
                have HC1 := Lib.hid (rotate_any L k aE zE enc cf g cb blk off cap d0 d w0 wr R hs S1 hsz i m e c1.1 c1.2 (by omega))
                go_wp2_with fail
                refine HC1.out.mono ?_
                rintro e1 w1 ⟨rfl, S2⟩
                have S3 : Aside (SWK enc k w0 blk off (smRot m i e d) w1) := by unfold smRot; rw [if_pos c1]; exact S2
                clear S2 HC1
                have hz3 := Lib.hid (show (smRot m i e d).size = d.size from size_smRot _ _ _ _)
                have HC2 := Lib.hid (IH.out a i mid _ w1 c2.1 c2.2 (by omega) (by omega) hz3.out S3)
                go_wp2_with fail
                refine HC2.out.mono ?_
                rintro e2 w2 ⟨rfl, S4⟩
                have S5 : Aside (SWK enc k w0 blk off (smL (ltOf cf) f a i mid (smRot m i e d)) w2) := by rw [smL_pos c2]; exact S4
                clear S4 HC2
                have hz5 := Lib.hid (show (smL (ltOf cf) f a i mid (smRot m i e d)).size = d.size from by rw [size_smL]; exact hz3.out)
                go_wp2_with fail
                go_end0
                refine ⟨rfl, ?_⟩
                rw [smL_neg c3]
                exact S5.out
        · by_cases c2f : a < i
          · have c2x : (a : Int) < (i : Int) := by omega
            have c2y : ¬ (i : Int) < (mid : Int) := by omega
            by_cases c3 : mid < e ∧ e < b
            · have c3x : (mid : Int) < (e : Int) := by omega
              have c3y : (e : Int) < (b : Int) := by omega
              first | (exfalso; have := HEQ.out; omega) | skip
              all_goals
                have HC1 := Lib.hid (rotate_any L k aE zE enc cf g cb blk off cap d0 d w0 wr R hs S1 hsz i m e c1.1 c1.2 (by omega))
                go_wp2_with fail
                refine HC1.out.mono ?_
                rintro e1 w1 ⟨rfl, S2⟩
                have S3 : Aside (SWK enc k w0 blk off (smRot m i e d) w1) := by unfold smRot; rw [if_pos c1]; exact S2
                clear S2 HC1
                have hz3 := Lib.hid (show (smRot m i e d).size = d.size from size_smRot _ _ _ _)
                have S5 : Aside (SWK enc k w0 blk off (smL (ltOf cf) f a i mid (smRot m i e d)) w1) := by rw [smL_neg c2]; exact S3
                have hz5 := Lib.hid (show (smL (ltOf cf) f a i mid (smRot m i e d)).size = d.size from by rw [size_smL]; exact hz3.out)
                have HC3 := Lib.hid (IH.out mid e b _ w1 c3.1 c3.2 hb (by omega) hz5.out S5)
                go_wp2_with fail
                refine HC3.out.mono ?_
                rintro e3 w3 ⟨rfl, S6⟩
                have S7 : Aside (SWK enc k w0 blk off (symMerge (ltOf cf) f mid e b (smL (ltOf cf) f a i mid (smRot m i e d))) w3) := S6
                clear S6 HC3
                go_wp2_with fail
                go_end0
                refine ⟨rfl, ?_⟩
                rw [smL_pos c3]
                exact S7.out
            · by_cases c3f : mid < e
              · have c3x : (mid : Int) < (e : Int) := by omega
                have c3y : ¬ (e : Int) < (b : Int) := by omega
                first | (exfalso; have := HEQ.out; omega) | skip
                all_goals
                  have HC1 := Lib.hid (rotate_any L k aE zE enc cf g cb blk off cap d0 d w0 wr R hs S1 hsz i m e c1.1 c1.2 (by omega))
                  go_wp2_with fail
                  refine HC1.out.mono ?_
                  rintro e1 w1 ⟨rfl, S2⟩
                  have S3 : Aside (SWK enc k w0 blk off (smRot m i e d) w1) := by unfold smRot; rw [if_pos c1]; exact S2
                  clear S2 HC1
                  have hz3 := Lib.hid (show (smRot m i e d).size = d.size from size_smRot _ _ _ _)
                  have S5 : Aside (SWK enc k w0 blk off (smL (ltOf cf) f a i mid (smRot m i e d)) w1) := by rw [smL_neg c2]; exact S3
                  have hz5 := Lib.hid (show (smL (ltOf cf) f a i mid (smRot m i e d)).size = d.size from by rw [size_smL]; exact hz3.out)
                  go_wp2_with fail
                  go_end0
                  refine ⟨rfl, ?_⟩
                  rw [smL_neg c3]
                  exact S5.out
              · have c3x : ¬ (mid : Int) < (e : Int) := by omega
                first | (exfalso; have := HEQ.out; omega) | skip
                all_goals
                  have HC1 := Lib.hid (rotate_any L k aE zE enc cf g cb blk off cap d0 d w0 wr R hs S1 hsz i m e c1.1 c1.2 (by omega))
                  go_wp2_with fail
                  refine HC1.out.mono ?_
                  rintro e1 w1 ⟨rfl, S2⟩
                  have S3 : Aside (SWK enc k w0 blk off (smRot m i e d) w1) := by unfold smRot; rw [if_pos c1]; exact S2
                  clear S2 HC1
                  have hz3 := Lib.hid (show (smRot m i e d).size = d.size from size_smRot _ _ _ _)
                  have S5 : Aside (SWK enc k w0 blk off (smL (ltOf cf) f a i mid (smRot m i e d)) w1) := by rw [smL_neg c2]; exact S3
                  have hz5 := Lib.hid (show (smL (ltOf cf) f a i mid (smRot m i e d)).size = d.size from by rw [size_smL]; exact hz3.out)
                  go_wp2_with fail
                  go_end0
                  refine ⟨rfl, ?_⟩
                  rw [smL_neg c3]
                  exact S5.out
          · have c2x : ¬ (a : Int) < (i : Int) := by omega
            by_cases c3 : mid < e ∧ e < b
            · have c3x : (mid : Int) < (e : Int) := by omega
              have c3y : (e : Int) < (b : Int) := by omega
              first | (exfalso; have := HEQ.out; omega) | skip
              all_goals
                have HC1 := Lib.hid (rotate_any L k aE zE enc cf g cb blk off cap d0 d w0 wr R hs S1 hsz i m e c1.1 c1.2 (by omega))
                go_wp2_with fail
                refine HC1.out.mono ?_
                rintro e1 w1 ⟨rfl, S2⟩
                have S3 : Aside (SWK enc k w0 blk off (smRot m i e d) w1) := by unfold smRot; rw [if_pos c1]; exact S2
                clear S2 HC1
                have hz3 := Lib.hid (show (smRot m i e d).size = d.size from size_smRot _ _ _ _)
                have S5 : Aside (SWK enc k w0 blk off (smL (ltOf cf) f a i mid (smRot m i e d)) w1) := by rw [smL_neg c2]; exact S3
                have hz5 := Lib.hid (show (smL (ltOf cf) f a i mid (smRot m i e d)).size = d.size from by rw [size_smL]; exact hz3.out)
                have HC3 := Lib.hid (IH.out mid e b _ w1 c3.1 c3.2 hb (by omega) hz5.out S5)
                go_wp2_with fail
                refine HC3.out.mono ?_
                rintro e3 w3 ⟨rfl, S6⟩
                have S7 : Aside (SWK enc k w0 blk off (symMerge (ltOf cf) f mid e b (smL (ltOf cf) f a i mid (smRot m i e d))) w3) := S6
                clear S6 HC3
                go_wp2_with fail
                go_end0
                refine ⟨rfl, ?_⟩
                rw [smL_pos c3]
                exact S7.out
            · by_cases c3f : mid < e
              · have c3x : (mid : Int) < (e : Int) := by omega
                have c3y : ¬ (e : Int) < (b : Int) := by omega
                first | (exfalso; have := HEQ.out; omega) | skip
                all_goals
                  have HC1 := Lib.hid (rotate_any L k aE zE enc cf g cb blk off cap d0 d w0 wr R hs S1 hsz i m e c1.1 c1.2 (by omega))
                  go_wp2_with fail
                  refine HC1.out.mono ?_
                  rintro e1 w1 ⟨rfl, S2⟩
                  have S3 : Aside (SWK enc k w0 blk off (smRot m i e d) w1) := by unfold smRot; rw [if_pos c1]; exact S2
                  clear S2 HC1
                  have hz3 := Lib.hid (show (smRot m i e d).size = d.size from size_smRot _ _ _ _)
                  have S5 : Aside (SWK enc k w0 blk off (smL (ltOf cf) f a i mid (smRot m i e d)) w1) := by rw [smL_neg c2]; exact S3
                  have hz5 := Lib.hid (show (smL (ltOf cf) f a i mid (smRot m i e d)).size = d.size from by rw [size_smL]; exact hz3.out)
                  go_wp2_with fail
                  go_end0
                  refine ⟨rfl, ?_⟩
                  rw [smL_neg c3]
                  exact S5.out
              · have c3x : ¬ (mid : Int) < (e : Int) := by omega
                first | (exfalso; have := HEQ.out; omega) | skip
                all_goals
                  have HC1 := Lib.hid (rotate_any L k aE zE enc cf g cb blk off cap d0 d w0 wr R hs S1 hsz i m e c1.1 c1.2 (by omega))
                  go_wp2_with fail
                  refine HC1.out.mono ?_
                  rintro e1 w1 ⟨rfl, S2⟩
                  have S3 : Aside (SWK enc k w0 blk off (smRot m i e d) w1) := by unfold smRot; rw [if_pos c1]; exact S2
                  clear S2 HC1
                  have hz3 := Lib.hid (show (smRot m i e d).size = d.size from size_smRot _ _ _ _)
                  have S5 : Aside (SWK enc k w0 blk off (smL (ltOf cf) f a i mid (smRot m i e d)) w1) := by rw [smL_neg c2]; exact S3
                  have hz5 := Lib.hid (show (smL (ltOf cf) f a i mid (smRot m i e d)).size = d.size from by rw [size_smL]; exact hz3.out)
                  go_wp2_with fail
                  go_end0
                  refine ⟨rfl, ?_⟩
                  rw [smL_neg c3]
                  exact S5.out
      · by_cases c1f : i < m
        · have c1x : (i : Int) < (m : Int) := by omega
          have c1y : ¬ (m : Int) < (e : Int) := by omega
          by_cases c2 : a < i ∧ i < mid
          · have c2x : (a : Int) < (i : Int) := by omega
            have c2y : (i : Int) < (mid : Int) := by omega
            by_cases c3 : mid < e ∧ e < b
            · have c3x : (mid : Int) < (e : Int) := by omega
              have c3y : (e : Int) < (b : Int) := by omega
              first | (exfalso; have := HEQ.out; omega) | skip
              all_goals
                have S3 : Aside (SWK enc k w0 blk off (smRot m i e d) wr) := by unfold smRot; rw [if_neg c1]; exact S1
                have hz3 := Lib.hid (show (smRot m i e d).size = d.size from size_smRot _ _ _ _)
                have HC2 := Lib.hid (IH.out a i mid _ wr c2.1 c2.2 (by omega) (by omega) hz3.out S3)
                go_wp2_with fail
                refine HC2.out.mono ?_
                rintro e2 w2 ⟨rfl, S4⟩
                have S5 : Aside (SWK enc k w0 blk off (smL (ltOf cf) f a i mid (smRot m i e d)) w2) := by rw [smL_pos c2]; exact S4
                clear S4 HC2
                have hz5 := Lib.hid (show (smL (ltOf cf) f a i mid (smRot m i e d)).size = d.size from by rw [size_smL]; exact hz3.out)
                have HC3 := Lib.hid (IH.out mid e b _ w2 c3.1 c3.2 hb (by omega) hz5.out S5)
                go_wp2_with fail
                refine HC3.out.mono ?_
                rintro e3 w3 ⟨rfl, S6⟩
                have S7 : Aside (SWK enc k w0 blk off (symMerge (ltOf cf) f mid e b (smL (ltOf cf) f a i mid (smRot m i e d))) w3) := S6
                clear S6 HC3
                go_wp2_with fail
                go_end0
                refine ⟨rfl, ?_⟩
                rw [smL_pos c3]
                exact S7.out
            · by_cases c3f : mid < e
              · have c3x : (mid : Int) < (e : Int) := by omega
                have c3y : ¬ (e : Int) < (b : Int) := by omega
                first | (exfalso; have := HEQ.out; omega) | skip
                all_goals
                  have S3 : Aside (SWK enc k w0 blk off (smRot m i e d) wr) := by unfold smRot; rw [if_neg c1]; exact S1
                  have hz3 := Lib.hid (show (smRot m i e d).size = d.size from size_smRot _ _ _ _)
                  have HC2 := Lib.hid (IH.out a i mid _ wr c2.1 c2.2 (by omega) (by omega) hz3.out S3)
                  go_wp2_with fail
                  refine HC2.out.mono ?_
                  rintro e2 w2 ⟨rfl, S4⟩
                  have S5 : Aside (SWK enc k w0 blk off (smL (ltOf cf) f a i mid (smRot m i e d)) w2) := by rw [smL_pos c2]; exact S4
                  clear S4 HC2
                  have hz5 := Lib.hid (show (smL (ltOf cf) f a i mid (smRot m i e d)).size = d.size from by rw [size_smL]; exact hz3.out)
                  go_wp2_with fail
                  go_end0
                  refine ⟨rfl, ?_⟩
                  rw [smL_neg c3]
                  exact S5.out
              · have c3x : ¬ (mid : Int) < (e : Int) := by omega
                first | (exfalso; have := HEQ.out; omega) | skip
                all_goals
                  have S3 : Aside (SWK enc k w0 blk off (smRot m i e d) wr) := by unfold smRot; rw [if_neg c1]; exact S1
                  have hz3 := Lib.hid (show (smRot m i e d).size = d.size from size_smRot _ _ _ _)
                  have HC2 := Lib.hid (IH.out a i mid _ wr c2.1 c2.2 (by omega) (by omega) hz3.out S3)
                  go_wp2_with fail
                  refine HC2.out.mono ?_
                  rintro e2 w2 ⟨rfl, S4⟩
                  have S5 : Aside (SWK enc k w0 blk off (smL (ltOf cf) f a i mid (smRot m i e d)) w2) := by rw [smL_pos c2]; exact S4
                  clear S4 HC2
                  have hz5 := Lib.hid (show (smL (ltOf cf) f a i mid (smRot m i e d)).size = d.size from by rw [size_smL]; exact hz3.out)
                  go_wp2_with fail
                  go_end0
                  refine ⟨rfl, ?_⟩
                  rw [smL_neg c3]
                  exact S5.out
          · by_cases c2f : a < i
            · have c2x : (a : Int) < (i : Int) := by omega
              have c2y : ¬ (i : Int) < (mid : Int) := by omega
              by_cases c3 : mid < e ∧ e < b
              · have c3x : (mid : Int) < (e : Int) := by omega
                have c3y : (e : Int) < (b : Int) := by omega
                first | (exfalso; have := HEQ.out; omega) | skip
                all_goals
                  have S3 : Aside (SWK enc k w0 blk off (smRot m i e d) wr) := by unfold smRot; rw [if_neg c1]; exact S1
                  have hz3 := Lib.hid (show (smRot m i e d).size = d.size from size_smRot _ _ _ _)
                  have S5 : Aside (SWK enc k w0 blk off (smL (ltOf cf) f a i mid (smRot m i e d)) wr) := by rw [smL_neg c2]; exact S3
                  have hz5 := Lib.hid (show (smL (ltOf cf) f a i mid (smRot m i e d)).size = d.size from by rw [size_smL]; exact hz3.out)
                  have HC3 := Lib.hid (IH.out mid e b _ wr c3.1 c3.2 hb (by omega) hz5.out S5)
                  go_wp2_with fail
                  refine HC3.out.mono ?_
                  rintro e3 w3 ⟨rfl, S6⟩
                  have S7 : Aside (SWK enc k w0 blk off (symMerge (ltOf cf) f mid e b (smL (ltOf cf) f a i mid (smRot m i e d))) w3) := S6
                  clear S6 HC3
                  go_wp2_with fail
                  go_end0
                  refine ⟨rfl, ?_⟩
                  rw [smL_pos c3]
                  exact S7.out
              · by_cases c3f : mid < e
                · have c3x : (mid : Int) < (e : Int) := by omega
                  have c3y : ¬ (e : Int) < (b : Int) := by omega
                  first | (exfalso; have := HEQ.out; omega) | skip
                  all_goals
                    have S3 : Aside (SWK enc k w0 blk off (smRot m i e d) wr) := by unfold smRot; rw [if_neg c1]; exact S1
                    have hz3 := Lib.hid (show (smRot m i e d).size = d.size from size_smRot _ _ _ _)
                    have S5 : Aside (SWK enc k w0 blk off (smL (ltOf cf) f a i mid (smRot m i e d)) wr) := by rw [smL_neg c2]; exact S3
                    have hz5 := Lib.hid (show (smL (ltOf cf) f a i mid (smRot m i e d)).size = d.size from by rw [size_smL]; exact hz3.out)
                    go_wp2_with fail
                    go_end0
                    refine ⟨rfl, ?_⟩
                    rw [smL_neg c3]
                    exact S5.out
                · have c3x : ¬ (mid : Int) < (e : Int) := by omega
                  first | (exfalso; have := HEQ.out; omega) | skip
                  all_goals
                    have S3 : Aside (SWK enc k w0 blk off (smRot m i e d) wr) := by unfold smRot; rw [if_neg c1]; exact S1
                    have hz3 := Lib.hid (show (smRot m i e d).size = d.size from size_smRot _ _ _ _)
                    have S5 : Aside (SWK enc k w0 blk off (smL (ltOf cf) f a i mid (smRot m i e d)) wr) := by rw [smL_neg c2]; exact S3
                    have hz5 := Lib.hid (show (smL (ltOf cf) f a i mid (smRot m i e d)).size = d.size from by rw [size_smL]; exact hz3.out)
                    go_wp2_with fail
                    go_end0
                    refine ⟨rfl, ?_⟩
                    rw [smL_neg c3]
                    exact S5.out
            · have c2x : ¬ (a : Int) < (i : Int) := by omega
              by_cases c3 : mid < e ∧ e < b
              · have c3x : (mid : Int) < (e : Int) := by omega
                have c3y : (e : Int) < (b : Int) := by omega
                first | (exfalso; have := HEQ.out; omega) | skip
                all_goals
                  have S3 : Aside (SWK enc k w0 blk off (smRot m i e d) wr) := by unfold smRot; rw [if_neg c1]; exact S1
                  have hz3 := Lib.hid (show (smRot m i e d).size = d.size from size_smRot _ _ _ _)
                  have S5 : Aside (SWK enc k w0 blk off (smL (ltOf cf) f a i mid (smRot m i e d)) wr) := by rw [smL_neg c2]; exact S3
                  have hz5 := Lib.hid (show (smL (ltOf cf) f a i mid (smRot m i e d)).size = d.size from by rw [size_smL]; exact hz3.out)
                  have HC3 := Lib.hid (IH.out mid e b _ wr c3.1 c3.2 hb (by omega) hz5.out S5)
                  go_wp2_with fail
                  refine HC3.out.mono ?_
                  rintro e3 w3 ⟨rfl, S6⟩
                  have S7 : Aside (SWK enc k w0 blk off (symMerge (ltOf cf) f mid e b (smL (ltOf cf) f a i mid (smRot m i e d))) w3) := S6
                  clear S6 HC3
                  go_wp2_with fail
                  go_end0
                  refine ⟨rfl, ?_⟩
                  rw [smL_pos c3]
                  exact S7.out
              · by_cases c3f : mid < e
                · have c3x : (mid : Int) < (e : Int) := by omega
                  have c3y : ¬ (e : Int) < (b : Int) := by omega
                  first | (exfalso; have := HEQ.out; omega) | skip
                  all_goals
                    have S3 : Aside (SWK enc k w0 blk off (smRot m i e d) wr) := by unfold smRot; rw [if_neg c1]; exact S1
                    have hz3 := Lib.hid (show (smRot m i e d).size = d.size from size_smRot _ _ _ _)
                    have S5 : Aside (SWK enc k w0 blk off (smL (ltOf cf) f a i mid (smRot m i e d)) wr) := by rw [smL_neg c2]; exact S3
                    have hz5 := Lib.hid (show (smL (ltOf cf) f a i mid (smRot m i e d)).size = d.size from by rw [size_smL]; exact hz3.out)
                    go_wp2_with fail
                    go_end0
                    refine ⟨rfl, ?_⟩
                    rw [smL_neg c3]
                    exact S5.out
                · have c3x : ¬ (mid : Int) < (e : Int) := by omega
                  first | (exfalso; have := HEQ.out; omega) | skip
                  all_goals
                    have S3 : Aside (SWK enc k w0 blk off (smRot m i e d) wr) := by unfold smRot; rw [if_neg c1]; exact S1
                    have hz3 := Lib.hid (show (smRot m i e d).size = d.size from size_smRot _ _ _ _)
                    have S5 : Aside (SWK enc k w0 blk off (smL (ltOf cf) f a i mid (smRot m i e d)) wr) := by rw [smL_neg c2]; exact S3
                    have hz5 := Lib.hid (show (smL (ltOf cf) f a i mid (smRot m i e d)).size = d.size from by rw [size_smL]; exact hz3.out)
                    go_wp2_with fail
                    go_end0
                    refine ⟨rfl, ?_⟩
                    rw [smL_neg c3]
                    exact S5.out
        · have c1x : ¬ (i : Int) < (m : Int) := by omega
          by_cases c2 : a < i ∧ i < mid
          · have c2x : (a : Int) < (i : Int) := by omega
            have c2y : (i : Int) < (mid : Int) := by omega
            by_cases c3 : mid < e ∧ e < b
            · have c3x : (mid : Int) < (e : Int) := by omega
              have c3y : (e : Int) < (b : Int) := by omega
              first | (exfalso; have := HEQ.out; omega) | skip
              all_goals
                have S3 : Aside (SWK enc k w0 blk off (smRot m i e d) wr) := by unfold smRot; rw [if_neg c1]; exact S1
                have hz3 := Lib.hid (show (smRot m i e d).size = d.size from size_smRot _ _ _ _)
                have HC2 := Lib.hid (IH.out a i mid _ wr c2.1 c2.2 (by omega) (by omega) hz3.out S3)
                go_wp2_with fail
                refine HC2.out.mono ?_
                rintro e2 w2 ⟨rfl, S4⟩
                have S5 : Aside (SWK enc k w0 blk off (smL (ltOf cf) f a i mid (smRot m i e d)) w2) := by rw [smL_pos c2]; exact S4
                clear S4 HC2
                have hz5 := Lib.hid (show (smL (ltOf cf) f a i mid (smRot m i e d)).size = d.size from by rw [size_smL]; exact hz3.out)
                have HC3 := Lib.hid (IH.out mid e b _ w2 c3.1 c3.2 hb (by omega) hz5.out S5)
                go_wp2_with fail
                refine HC3.out.mono ?_
                rintro e3 w3 ⟨rfl, S6⟩
                have S7 : Aside (SWK enc k w0 blk off (symMerge (ltOf cf) f mid e b (smL (ltOf cf) f a i mid (smRot m i e d))) w3) := S6
                clear S6 HC3
                go_wp2_with fail
                go_end0
                refine ⟨rfl, ?_⟩
                rw [smL_pos c3]
                exact S7.out
            · by_cases c3f : mid < e
              · have c3x : (mid : Int) < (e : Int) := by omega
                have c3y : ¬ (e : Int) < (b : Int) := by omega
                first | (exfalso; have := HEQ.out; omega) | skip
                all_goals
                  have S3 : Aside (SWK enc k w0 blk off (smRot m i e d) wr) := by unfold smRot; rw [if_neg c1]; exact S1
                  have hz3 := Lib.hid (show (smRot m i e d).size = d.size from size_smRot _ _ _ _)
                  have HC2 := Lib.hid (IH.out a i mid _ wr c2.1 c2.2 (by omega) (by omega) hz3.out S3)
                  go_wp2_with fail
                  refine HC2.out.mono ?_
                  rintro e2 w2 ⟨rfl, S4⟩
                  have S5 : Aside (SWK enc k w0 blk off (smL (ltOf cf) f a i mid (smRot m i e d)) w2) := by rw [smL_pos c2]; exact S4
                  clear S4 HC2
                  have hz5 := Lib.hid (show (smL (ltOf cf) f a i mid (smRot m i e d)).size = d.size from by rw [size_smL]; exact hz3.out)
                  go_wp2_with fail
                  go_end0
                  refine ⟨rfl, ?_⟩
                  rw [smL_neg c3]
                  exact S5.out
              · have c3x : ¬ (mid : Int) < (e : Int) := by omega
                first | (exfalso; have := HEQ.out; omega) | skip
                all_goals
                  have S3 : Aside (SWK enc k w0 blk off (smRot m i e d) wr) := by unfold smRot; rw [if_neg c1]; exact S1
                  have hz3 := Lib.hid (show (smRot m i e d).size = d.size from size_smRot _ _ _ _)
                  have HC2 := Lib.hid (IH.out a i mid _ wr c2.1 c2.2 (by omega) (by omega) hz3.out S3)
                  go_wp2_with fail
                  refine HC2.out.mono ?_
                  rintro e2 w2 ⟨rfl, S4⟩
                  have S5 : Aside (SWK enc k w0 blk off (smL (ltOf cf) f a i mid (smRot m i e d)) w2) := by rw [smL_pos c2]; exact S4
                  clear S4 HC2
                  have hz5 := Lib.hid (show (smL (ltOf cf) f a i mid (smRot m i e d)).size = d.size from by rw [size_smL]; exact hz3.out)
                  go_wp2_with fail
                  go_end0
                  refine ⟨rfl, ?_⟩
                  rw [smL_neg c3]
                  exact S5.out
          · by_cases c2f : a < i
            · have c2x : (a : Int) < (i : Int) := by omega
              have c2y : ¬ (i : Int) < (mid : Int) := by omega
              by_cases c3 : mid < e ∧ e < b
              · have c3x : (mid : Int) < (e : Int) := by omega
                have c3y : (e : Int) < (b : Int) := by omega
                first | (exfalso; have := HEQ.out; omega) | skip
                all_goals
                  have S3 : Aside (SWK enc k w0 blk off (smRot m i e d) wr) := by unfold smRot; rw [if_neg c1]; exact S1
                  have hz3 := Lib.hid (show (smRot m i e d).size = d.size from size_smRot _ _ _ _)
                  have S5 : Aside (SWK enc k w0 blk off (smL (ltOf cf) f a i mid (smRot m i e d)) wr) := by rw [smL_neg c2]; exact S3
                  have hz5 := Lib.hid (show (smL (ltOf cf) f a i mid (smRot m i e d)).size = d.size from by rw [size_smL]; exact hz3.out)
                  have HC3 := Lib.hid (IH.out mid e b _ wr c3.1 c3.2 hb (by omega) hz5.out S5)
                  go_wp2_with fail
                  refine HC3.out.mono ?_
                  rintro e3 w3 ⟨rfl, S6⟩
                  have S7 : Aside (SWK enc k w0 blk off (symMerge (ltOf cf) f mid e b (smL (ltOf cf) f a i mid (smRot m i e d))) w3) := S6
                  clear S6 HC3
                  go_wp2_with fail
                  go_end0
                  refine ⟨rfl, ?_⟩
                  rw [smL_pos c3]
                  exact S7.out
              · by_cases c3f : mid < e
                · have c3x : (mid : Int) < (e : Int) := by omega
                  have c3y : ¬ (e : Int) < (b : Int) := by omega
                  first | (exfalso; have := HEQ.out; omega) | skip
                  all_goals
                    have S3 : Aside (SWK enc k w0 blk off (smRot m i e d) wr) := by unfold smRot; rw [if_neg c1]; exact S1
                    have hz3 := Lib.hid (show (smRot m i e d).size = d.size from size_smRot _ _ _ _)
                    have S5 : Aside (SWK enc k w0 blk off (smL (ltOf cf) f a i mid (smRot m i e d)) wr) := by rw [smL_neg c2]; exact S3
                    have hz5 := Lib.hid (show (smL (ltOf cf) f a i mid (smRot m i e d)).size = d.size from by rw [size_smL]; exact hz3.out)
                    go_wp2_with fail
                    go_end0
                    refine ⟨rfl, ?_⟩
                    rw [smL_neg c3]
                    exact S5.out
                · have c3x : ¬ (mid : Int) < (e : Int) := by omega
                  first | (exfalso; have := HEQ.out; omega) | skip
                  all_goals
                    have S3 : Aside (SWK enc k w0 blk off (smRot m i e d) wr) := by unfold smRot; rw [if_neg c1]; exact S1
                    have hz3 := Lib.hid (show (smRot m i e d).size = d.size from size_smRot _ _ _ _)
                    have S5 : Aside (SWK enc k w0 blk off (smL (ltOf cf) f a i mid (smRot m i e d)) wr) := by rw [smL_neg c2]; exact S3
                    have hz5 := Lib.hid (show (smL (ltOf cf) f a i mid (smRot m i e d)).size = d.size from by rw [size_smL]; exact hz3.out)
                    go_wp2_with fail
                    go_end0
                    refine ⟨rfl, ?_⟩
                    rw [smL_neg c3]
                    exact S5.out
            · have c2x : ¬ (a : Int) < (i : Int) := by omega
              by_cases c3 : mid < e ∧ e < b
              · have c3x : (mid : Int) < (e : Int) := by omega
                have c3y : (e : Int) < (b : Int) := by omega
                first | (exfalso; have := HEQ.out; omega) | skip
                all_goals
                  have S3 : Aside (SWK enc k w0 blk off (smRot m i e d) wr) := by unfold smRot; rw [if_neg c1]; exact S1
                  have hz3 := Lib.hid (show (smRot m i e d).size = d.size from size_smRot _ _ _ _)
                  have S5 : Aside (SWK enc k w0 blk off (smL (ltOf cf) f a i mid (smRot m i e d)) wr) := by rw [smL_neg c2]; exact S3
                  have hz5 := Lib.hid (show (smL (ltOf cf) f a i mid (smRot m i e d)).size = d.size from by rw [size_smL]; exact hz3.out)
                  have HC3 := Lib.hid (IH.out mid e b _ wr c3.1 c3.2 hb (by omega) hz5.out S5)
                  go_wp2_with fail
                  refine HC3.out.mono ?_
                  rintro e3 w3 ⟨rfl, S6⟩
                  have S7 : Aside (SWK enc k w0 blk off (symMerge (ltOf cf) f mid e b (smL (ltOf cf) f a i mid (smRot m i e d))) w3) := S6
                  clear S6 HC3
                  go_wp2_with fail
                  go_end0
                  refine ⟨rfl, ?_⟩
                  rw [smL_pos c3]
                  exact S7.out
              · by_cases c3f : mid < e
                · have c3x : (mid : Int) < (e : Int) := by omega
                  have c3y : ¬ (e : Int) < (b : Int) := by omega
                  first | (exfalso; have := HEQ.out; omega) | skip
                  all_goals
                    have S3 : Aside (SWK enc k w0 blk off (smRot m i e d) wr) := by unfold smRot; rw [if_neg c1]; exact S1
                    have hz3 := Lib.hid (show (smRot m i e d).size = d.size from size_smRot _ _ _ _)
                    have S5 : Aside (SWK enc k w0 blk off (smL (ltOf cf) f a i mid (smRot m i e d)) wr) := by rw [smL_neg c2]; exact S3
                    have hz5 := Lib.hid (show (smL (ltOf cf) f a i mid (smRot m i e d)).size = d.size from by rw [size_smL]; exact hz3.out)
                    go_wp2_with fail
                    go_end0
                    refine ⟨rfl, ?_⟩
                    rw [smL_neg c3]
                    exact S5.out
                · have c3x : ¬ (mid : Int) < (e : Int) := by omega
                  first | (exfalso; have := HEQ.out; omega) | skip
                  all_goals
                    have S3 : Aside (SWK enc k w0 blk off (smRot m i e d) wr) := by unfold smRot; rw [if_neg c1]; exact S1
                    have hz3 := Lib.hid (show (smRot m i e d).size = d.size from size_smRot _ _ _ _)
                    have S5 : Aside (SWK enc k w0 blk off (smL (ltOf cf) f a i mid (smRot m i e d)) wr) := by rw [smL_neg c2]; exact S3
                    have hz5 := Lib.hid (show (smL (ltOf cf) f a i mid (smRot m i e d)).size = d.size from by rw [size_smL]; exact hz3.out)
                    go_wp2_with fail
                    go_end0
                    refine ⟨rfl, ?_⟩
                    rw [smL_neg c3]
                    exact S5.out
end
end Go.Proofs.Ytckekncllmhohaa.Q
