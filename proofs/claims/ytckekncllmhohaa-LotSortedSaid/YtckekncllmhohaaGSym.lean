/- slices' stable sort at structs: the whole. (printed by wip/gensym.py; in the manner of the kit's worked sorts) -/
import Derived.Test.YtckekncllmhohaaGSymB
import Derived.Test.YtckekncllmhohaaGSymL
import Derived.Test.YtckekncllmhohaaGSymR
namespace Go.Proofs.Ytckekncllmhohaa.Q
open Go.Shelf Go.RowKit Go.Lib Go.Sort Go.Proofs Go.Proofs.Ytckekncllmhohaa.G
set_option linter.all false

section
variable {α : Type} [Inhabited α]

theorem symMerge_any {P : Program} (L : SLays P) (k : Nat) (aE : ∀ w, (isAgg 25).run P w = .ok true w) (zE : ∀ w, (Go.sizeOf 25).run P w = .ok k w) (enc : α → List Value) (cf : α → α → Int) (hO : SWO (ltOf cf)) (g : Nat) (cb : Array Value) (blk off cap : Nat) (d0 : Array α) (w0 : World)
    (eg : ∀ args w, (callFunc g args).run P w = .ok (.enter g args) w) (HC : Aside (CmpBelow P g cb enc k cf blk off d0.size w0)) (HZ : Hid (w0.drawn = 0)) (R : RowK enc k w0 blk off d0) (hsz : d0.size < 1000000000000) :
    ∀ (f a m b : Nat) (d : Array α) (w : World), a < m → m < b → b ≤ d0.size → b - a ≤ f → d.size = d0.size → Aside (SWK enc k w0 blk off d w) →
    Calls P 35 #[.slice (some ⟨blk, off, none⟩) d0.size cap, .int .i64 a, .int .i64 m, .int .i64 b, .func (.func g) #[] cb] w fun e w' => e = .returned (.tuple #[]) ∧ SWK enc k w0 blk off (symMerge (ltOf cf) f a m b d) w'
  | 0, a, m, b, d, w, ham, hmb, hb, hf, hd, S => by omega
  | f + 1, a, m, b, d, w, ham, hmb, hb, hf, hd, S => by
    have ih := symMerge_any L k aE zE enc cf hO g cb blk off cap d0 w0 eg HC HZ R hsz f
    rw [← hd] at ih hb hsz ⊢
    unfold symMerge
    by_cases c1 : m - a = 1
    · rw [if_pos c1]
      exact symMerge_one L k aE zE enc cf g cb blk off cap d0 d w0 w eg HC HZ R hd.symm S hsz a m b (by omega) hmb hb
    · rw [if_neg c1]
      by_cases c2 : b - m = 1
      · rw [if_pos c2]
        exact symMerge_two L k aE zE enc cf g cb blk off cap d0 d w0 w eg HC HZ R hd.symm S hsz a m b (by omega) (by omega) hb
      · rw [if_neg c2]
        obtain ⟨p1, p2, p3, p4, -, -⟩ := smStart_spec hO d ham hmb
        by_cases c3 : (a + b) / 2 < m
        · exact symMerge_goL L k aE zE enc cf g cb blk off cap d0 d w0 w eg HC HZ R hd.symm S hsz f a m b _ _ _ (by omega) (by omega) hb hf rfl c3 rfl rfl p1 p2 p3 p4 ih
        · exact symMerge_goR L k aE zE enc cf g cb blk off cap d0 d w0 w eg HC HZ R hd.symm S hsz f a m b _ _ _ (by omega) (by omega) hb hf rfl c3 rfl rfl p1 p2 p3 p4 ih
set_option maxHeartbeats 8000000 in
set_option maxRecDepth 1000000 in
theorem stable_any {P : Program} (L : SLays P) (k : Nat) (aE : ∀ w, (isAgg 25).run P w = .ok true w) (zE : ∀ w, (Go.sizeOf 25).run P w = .ok k w) (enc : α → List Value) (cf : α → α → Int) (hO : SWO (ltOf cf)) (g : Nat) (cb : Array Value) (blk off cap n : Nat) (d0 d : Array α) (w0 w : World)
    (eg : ∀ args w, (callFunc g args).run P w = .ok (.enter g args) w) (HC : Aside (CmpBelow P g cb enc k cf blk off d0.size w0)) (HZ : Hid (w0.drawn = 0)) (R : RowK enc k w0 blk off d0) (hn : d0.size = n) (hs : d.size = n) (S0 : Aside (SWK enc k w0 blk off d w)) (hsz : n < 1000000000000) :
    Calls P 33 #[.slice (some ⟨blk, off, none⟩) n cap, .int .i64 n, .func (.func g) #[] cb] w fun e w' => e = .returned (.tuple #[]) ∧ SWK enc k w0 blk off (stableSort (ltOf cf) d) w' := by
  have mixed := L.mixed; have t3 := L.t3; have a3 := L.a3; have z3 := L.z3; have v3 := L.v3; have tu := L.tu; have t4 := L.t4; have a4 := L.a4; have z4 := L.z4; have v4 := L.v4; have t22 := L.t22; have a22 := L.a22; have z22 := L.z22; have a25 := L.a25; have z25 := L.z25; have u22 := run_underlying L.t22
  have FG := L.fStable
  have e29 : ∀ args w, (callFunc 34 args).run P w = .ok (.enter 34 args) w := enters_of L.fIns (by kernel_rfl) rfl
  have e67 : ∀ args w, (callFunc 35 args).run P w = .ok (.enter 35 args) w := enters_of L.fSym (by kernel_rfl) rfl
  have HI : ∀ (a b : Nat) (dk : Array α) (wk : World), a ≤ b → b ≤ n → dk.size = n → Aside (SWK enc k w0 blk off dk wk) → Calls P 34 #[.slice (some ⟨blk, off, none⟩) n cap, .int .i64 a, .int .i64 b, .func (.func g) #[] cb] wk fun e w' => e = .returned (.tuple #[]) ∧ SWK enc k w0 blk off (Sort.insertionSort (ltOf cf) dk a b) w' := fun a b dk wk h1 h2 h3 h4 => by
    have := insertion_w L k aE zE enc cf g cb blk off cap d0 dk w0 wk eg HC HZ R (by omega) h4 (by omega) a b h1 (by omega)
    rwa [hn] at this
  have HM : ∀ (a m b : Nat) (dk : Array α) (wk : World), a < m → m < b → b ≤ n → dk.size = n → Aside (SWK enc k w0 blk off dk wk) → Calls P 35 #[.slice (some ⟨blk, off, none⟩) n cap, .int .i64 a, .int .i64 m, .int .i64 b, .func (.func g) #[] cb] wk fun e w' => e = .returned (.tuple #[]) ∧ SWK enc k w0 blk off (symMerge (ltOf cf) n a m b dk) w' := fun a m b dk wk h1 h2 h3 h4 h5 => by
    have := symMerge_any L k aE zE enc cf hO g cb blk off cap d0 w0 eg HC HZ R (by omega) n a m b dk wk h1 h2 (by omega) (by omega) (by omega) h5
    rwa [hn] at this
  have HI' := Lib.hid HI
  have HM' := Lib.hid HM
  have HN := Lib.hid hn
  have HS := Lib.hid hs
  clear HI HM hn
  go_enter FG, Try.ntmps33
  go_wp2
  go_loopg [7, 8] n (fun kx s7 s8 wr => ∃ (aa : Nat) (dk : Array α), s7 = .int .i64 aa ∧ s8 = .int .i64 ((aa : Int) + 20) ∧ aa ≤ n ∧ n - aa ≤ kx ∧ dk.size = n ∧ Aside (SWK enc k w0 blk off dk wr) ∧ Hid (insBlocks (ltOf cf) n aa dk = insBlocks (ltOf cf) n 0 d))
  case atStart => exact ⟨0, d, rfl, by first | rfl | simp, Nat.zero_le _, by omega, hs, S0, rfl⟩
  case round =>
    clear S0 hs
    obtain ⟨aa, dk, rfl, rfl, haa, hkx, hds, S1, HE⟩ := hrel
    by_cases hlt : aa + 20 ≤ n
    · have hltz : (aa : Int) + 20 ≤ (n : Int) := by omega
      have hc := HI'.out aa (aa + 20) dk wr (by omega) hlt hds S1
      rw [show ((aa + 20 : Nat) : Int) = (aa : Int) + 20 from by omega] at hc
      have HC1 := Lib.hid hc
      clear hc S1
      go_wp2_with fail
      refine HC1.out.mono ?_
      rintro e w1 ⟨rfl, S2⟩
      have S3 : Aside _ := S2
      clear S2 HC1
      go_wp2
      go_roundg (n - (aa + 20))
      case measure => omega
      case rel =>
        refine ⟨aa + 20, _, by go_num, by first | rfl | (congr 1; omega), hlt, Nat.le_refl _, by rw [size_insertion]; exact hds, S3, (show Hid _ from ?_)⟩
        show _ = _
        rw [← HE.out]
        conv => rhs; rw [insBlocks, if_pos hlt]
    · have hltz : ¬ (aa : Int) + 20 ≤ (n : Int) := by omega
      have HC1 := Lib.hid (HI'.out aa n dk wr haa (Nat.le_refl _) hds S1)
      clear S1
      go_wp2_with fail
      refine HC1.out.mono ?_
      rintro e w1 ⟨rfl, S2⟩
      have S3 : Aside (SWK enc k w0 blk off (insBlocks (ltOf cf) n 0 d) w1) := by rw [← HE.out, insBlocks, if_neg hlt]; exact S2
      clear S2 HC1
      have hz1 : (insBlocks (ltOf cf) n 0 d).size = n := by rw [← HE.out, insBlocks, if_neg hlt, size_insertion]; exact hds
      have HT : Hid (stableSort (ltOf cf) d = mergeAll (ltOf cf) 20 n (insBlocks (ltOf cf) n 0 d)) := (show _ = _ from by unfold stableSort; rw [HS.out])
      clear HE
      generalize insBlocks (ltOf cf) n 0 d = d1 at S3 hz1 HT
      go_wp2_with fail
      go_loopg [6, 7, 8, 9] n (fun kx s6 s7 s8 s9 wr2 => ∃ (s : Nat) (dk2 : Array α), s6 = .int .i64 s ∧ 0 < s ∧ s ≤ 2 * n + 20 ∧ n - s ≤ kx ∧ dk2.size = n ∧ Aside (SWK enc k w0 blk off dk2 wr2) ∧ Hid (mergeAll (ltOf cf) s n dk2 = mergeAll (ltOf cf) 20 n d1))
      case atStart => exact ⟨20, d1, rfl, by omega, by omega, by omega, hz1, S3, rfl⟩
      case round =>
        clear S3 hds hlt hltz hz1
        obtain ⟨s, dk2, rfl, hs0, hs2, hkx2, hds, S1, HE⟩ := hrel
        by_cases hsn : s < n
        · have hsz' : (s : Int) < (n : Int) := by omega
          go_wp2
          go_loopg [7, 8] n (fun kx3 s7 s8 wr3 => ∃ (ab : Nat) (dk3 : Array α), s7 = .int .i64 ab ∧ s8 = .int .i64 ((ab : Int) + 2 * (s : Int)) ∧ ab ≤ n ∧ n - ab ≤ kx3 ∧ dk3.size = n ∧ Aside (SWK enc k w0 blk off dk3 wr3) ∧ Hid (mergePass (ltOf cf) s n ab dk3 = mergePass (ltOf cf) s n 0 dk2))
          case atStart => exact ⟨0, dk2, rfl, by first | rfl | (congr 1; omega), Nat.zero_le _, by omega, hds, S1, rfl⟩
          case round =>
            clear S1 hds
            obtain ⟨ab, dk3, rfl, rfl, hab, hkx3, hds, S1, HE3⟩ := hrel
            by_cases hlt : ab + 2 * s ≤ n
            · have hltz : (ab : Int) + 2 * (s : Int) ≤ (n : Int) := by omega
              have hc := HM'.out ab (ab + s) (ab + 2 * s) dk3 wr (by omega) (by omega) hlt hds S1
              rw [show ((ab + s : Nat) : Int) = (ab : Int) + (s : Int) from by omega, show ((ab + 2 * s : Nat) : Int) = (ab : Int) + 2 * (s : Int) from by omega] at hc
              have HC1 := Lib.hid hc
              clear hc S1
              go_wp2_with fail
              refine HC1.out.mono ?_
              rintro e w4 ⟨rfl, S2⟩
              have S3 : Aside _ := S2
              clear S2 HC1
              go_wp2
              go_roundg (n - (ab + 2 * s))
              case measure => omega
              case rel =>
                refine ⟨ab + 2 * s, _, by first | rfl | (congr 1; omega), by first | rfl | (congr 1; omega), hlt, Nat.le_refl _, by rw [size_symMerge]; exact hds, S3, (show Hid _ from ?_)⟩
                show _ = _
                rw [← HE3.out]
                conv => rhs; rw [mergePass, if_pos ⟨hs0, hlt⟩]
            · have hltz : ¬ (ab : Int) + 2 * (s : Int) ≤ (n : Int) := by omega
              by_cases hmn : ab + s < n
              · have hmz : (ab : Int) + (s : Int) < (n : Int) := by omega
                have hc := HM'.out ab (ab + s) n dk3 wr (by omega) hmn (Nat.le_refl _) hds S1
                rw [show ((ab + s : Nat) : Int) = (ab : Int) + (s : Int) from by omega] at hc
                have HC1 := Lib.hid hc
                clear hc S1
                go_wp2_with fail
                refine HC1.out.mono ?_
                rintro e w4 ⟨rfl, S2⟩
                have S3 : Aside _ := S2
                clear S2 HC1
                have HP : Hid (mergePass (ltOf cf) s n 0 dk2 = symMerge (ltOf cf) n ab (ab + s) n dk3) := (show _ = _ from by rw [← HE3.out, mergePass, if_neg (by omega), if_pos hmn])
                have hzz : (symMerge (ltOf cf) n ab (ab + s) n dk3).size = n := by rw [size_symMerge]; exact hds
                go_wp2
                go_roundg (n - s * 2)
                case measure => omega
                case rel =>
                  refine ⟨s * 2, _, by first | rfl | (congr 1; omega), by omega, by omega, Nat.le_refl _, hzz, S3, (show Hid _ from ?_)⟩
                  show _ = _
                  rw [← HE.out, ← HP.out]
                  conv => rhs; rw [mergeAll, if_pos ⟨hs0, hsn⟩]
              · have hmz : ¬ (ab : Int) + (s : Int) < (n : Int) := by omega
                have S3 := S1
                clear S1
                have HP : Hid (mergePass (ltOf cf) s n 0 dk2 = dk3) := (show _ = _ from by rw [← HE3.out, mergePass, if_neg (by omega), if_neg hmn])
                have hzz := hds
                go_wp2
                go_roundg (n - s * 2)
                case measure => omega
                case rel =>
                  refine ⟨s * 2, _, by first | rfl | (congr 1; omega), by omega, by omega, Nat.le_refl _, hzz, S3, (show Hid _ from ?_)⟩
                  show _ = _
                  rw [← HE.out, ← HP.out]
                  conv => rhs; rw [mergeAll, if_pos ⟨hs0, hsn⟩]
        · have hsz' : ¬ (s : Int) < (n : Int) := by omega
          go_wp2
          go_end0
          refine ⟨rfl, ?_⟩
          rw [HT.out, ← HE.out, mergeAll, if_neg (by omega)]
          exact S1.out
end
end Go.Proofs.Ytckekncllmhohaa.Q
