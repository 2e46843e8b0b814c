/- slices' stable sort at structs: symMerge's two short cases. (printed by wip/gensym.py; in the manner of the kit's worked sorts) -/
import Derived.Test.YtckekncllmhohaaGSymA
namespace Go.Proofs.Ytckekncllmhohaa.Q
open Go.Shelf Go.RowKit Go.Lib Go.Sort Go.Proofs Go.Proofs.Ytckekncllmhohaa.G
set_option linter.all false

section
variable {α : Type} [Inhabited α]
set_option maxHeartbeats 8000000 in
set_option maxRecDepth 1000000 in
/-- slices.symMergeCmpFunc: one element on the left. -/
theorem symMerge_one {P : Program} (L : SLays P) (k : Nat) (aE : ∀ w, (isAgg 25).run P w = .ok true w) (zE : ∀ w, (Go.sizeOf 25).run P w = .ok k w) (enc : α → List Value) (cf : α → α → Int) (g : Nat) (cb : Array Value) (blk off cap : Nat) (d0 d : Array α) (w0 w : World)
    (eg : ∀ args w, (callFunc g args).run P w = .ok (.enter g args) w) (HC : Aside (CmpBelow P g cb enc k cf blk off d0.size w0)) (HZ : Hid (w0.drawn = 0)) (R : RowK enc k w0 blk off d0) (hs : d0.size = d.size) (S0 : Aside (SWK enc k w0 blk off d w)) (hsz : d.size < 1000000000000) (a m b : Nat) (ham : m = a + 1) (hmb : m < b) (hb : b ≤ d.size) :
    Calls P 35 #[.slice (some ⟨blk, off, none⟩) d.size cap, .int .i64 a, .int .i64 m, .int .i64 b, .func (.func g) #[] cb] w fun e w' => e = .returned (.tuple #[]) ∧ SWK enc k w0 blk off (upMove (bsr (fun h => ltOf cf d[h]! d[a]!) m b - 1 - a) a d) w' := by
  have mixed := L.mixed; have t3 := L.t3; have a3 := L.a3; have z3 := L.z3; have v3 := L.v3; have tu := L.tu; have t4 := L.t4; have a4 := L.a4; have z4 := L.z4; have v4 := L.v4; have t22 := L.t22; have a22 := L.a22; have z22 := L.z22; have a25 := L.a25; have z25 := L.z25; have u22 := run_underlying L.t22
  have FG := L.fSym
  subst ham
  have hq : (((a + 1 : Nat) : Int) - (a : Int) == 1) = true := beq_iff_eq.2 (by omega)
  have hcast : ((a + 1 : Nat) : Int) = (a : Int) + 1 := by omega
  rw [hcast] at hq ⊢
  clear hcast
  have hq' : ((a : Int) + 1 - (a : Int)) = 1 := by omega
  clear hq
  go_enter FG, Try.ntmps35
  go_wp2
  go_loopg [10, 11] (b - (a + 1)) (fun kx s10 s11 wr => ∃ (i j : Nat), s10 = .int .i64 i ∧ s11 = .int .i64 j ∧ a < i ∧ i ≤ j ∧ j ≤ b ∧ j - i ≤ kx ∧ Aside (SWK enc k w0 blk off d wr) ∧ Hid (bsr (fun h => ltOf cf d[h]! d[a]!) i j = bsr (fun h => ltOf cf d[h]! d[a]!) (a + 1) b))
  case atStart => exact ⟨a + 1, b, by first | rfl | go_num, rfl, by omega, by omega, Nat.le_refl _, Nat.le_refl _, S0, rfl⟩
  case round =>
    clear S0 hq'
    obtain ⟨i, j, rfl, rfl, hai, hij, hjb, hkx, S1, HE⟩ := hrel
    by_cases hlt : i < j
    · have hltz : (i : Int) < (j : Int) := by omega
      obtain ⟨h, hh⟩ : ∃ h : Nat, h = (i + j) / 2 := ⟨_, rfl⟩
      have h1 : i ≤ h := by omega
      have h2 : h < j := by omega
      have hz : ((i : Int) + (j : Int)) / 2 = (h : Int) := by omega
      have HH := Lib.hid hh
      clear hh
      cases hL : ltOf cf d[h]! d[a]! with
      | true =>
        have ea2 : ((h : Int)).toNat = h := by omega
        have pa2 : (0 : Int) ≤ (h : Int) := by omega
        have ba2 : (h : Int) < (d.size : Int) := by omega
        have ra2 : IntKind.i64.wrap ((h : Int)) = (h : Int) := by rw [IntKind.wrap_i64]; omega
        have ec2 : ((a : Int)).toNat = a := by omega
        have pc2 : (0 : Int) ≤ (a : Int) := by omega
        have bc2 : (a : Int) < (d.size : Int) := by omega
        have rc2 : IntKind.i64.wrap ((a : Int)) = (a : Int) := by rw [IntKind.wrap_i64]; omega
        obtain ⟨x2, hx2⟩ : ∃ x, x = d[h]! := ⟨_, rfl⟩
        obtain ⟨y2, hy2⟩ : ∃ x, x = d[a]! := ⟨_, rfl⟩
        have l2a := S1.out.ldz HZ R (by omega) P (h) (by omega)
        have l2b := S1.out.ldz HZ R (by omega) P (a) (by omega)
        rw [← hx2] at l2a
        rw [← hy2] at l2b
        have hc2 := S1.out.cmpz HZ HC.out (by omega) x2 y2
        have hv2 : cf x2 y2 < 0 := by rw [hx2, hy2]; exact of_decide_eq_true hL
        have hd2 : decide (cf x2 y2 < 0) = true := decide_eq_true hv2
        clear hx2 hy2
        go_wp2_with fail
        refine wp_region_quiet_below (by assumption) (by kernel_rfl) ?_
        repeat (quiet_step (first | (go_at_fn g; exact hc2 _ _)))
        refine wpQuiet_nil ?_
        intro _ hw'
        obtain ⟨⟨nq, osq⟩, hw''⟩ := hw'
        subst hw''
        have S2 : Aside (SWK enc k w0 blk off d (grow (redrawn wr nq) osq)) := S1.out.regrownZ HZ nq osq
        clear l2a l2b hc2 S1
        generalize grow (redrawn wr nq) osq = w2 at S2 ⊢
        clear nq osq
        go_wp2
        go_roundg (j - (h + 1))
        case measure => omega
        case rel =>
          refine ⟨h + 1, j, by first | rfl | go_num, rfl, by omega, by omega, hjb, Nat.le_refl _, S2, (show Hid _ from ?_)⟩
          show _ = _
          rw [← HE.out, bsr_true (fun h => ltOf cf d[h]! d[a]!) hlt HH.out hL]
      | false =>
        have ea3 : ((h : Int)).toNat = h := by omega
        have pa3 : (0 : Int) ≤ (h : Int) := by omega
        have ba3 : (h : Int) < (d.size : Int) := by omega
        have ra3 : IntKind.i64.wrap ((h : Int)) = (h : Int) := by rw [IntKind.wrap_i64]; omega
        have ec3 : ((a : Int)).toNat = a := by omega
        have pc3 : (0 : Int) ≤ (a : Int) := by omega
        have bc3 : (a : Int) < (d.size : Int) := by omega
        have rc3 : IntKind.i64.wrap ((a : Int)) = (a : Int) := by rw [IntKind.wrap_i64]; omega
        obtain ⟨x3, hx3⟩ : ∃ x, x = d[h]! := ⟨_, rfl⟩
        obtain ⟨y3, hy3⟩ : ∃ x, x = d[a]! := ⟨_, rfl⟩
        have l3a := S1.out.ldz HZ R (by omega) P (h) (by omega)
        have l3b := S1.out.ldz HZ R (by omega) P (a) (by omega)
        rw [← hx3] at l3a
        rw [← hy3] at l3b
        have hc3 := S1.out.cmpz HZ HC.out (by omega) x3 y3
        have hv3 : ¬ cf x3 y3 < 0 := by rw [hx3, hy3]; exact of_decide_eq_false hL
        have hd3 : decide (cf x3 y3 < 0) = false := decide_eq_false hv3
        clear hx3 hy3
        go_wp2_with fail
        refine wp_region_quiet_below (by assumption) (by kernel_rfl) ?_
        repeat (quiet_step (first | (go_at_fn g; exact hc3 _ _)))
        refine wpQuiet_nil ?_
        intro _ hw'
        obtain ⟨⟨nq, osq⟩, hw''⟩ := hw'
        subst hw''
        have S2 : Aside (SWK enc k w0 blk off d (grow (redrawn wr nq) osq)) := S1.out.regrownZ HZ nq osq
        clear l3a l3b hc3 S1
        generalize grow (redrawn wr nq) osq = w2 at S2 ⊢
        clear nq osq
        go_wp2
        go_roundg (h - i)
        case measure => omega
        case rel =>
          refine ⟨i, h, rfl, rfl, hai, h1, by omega, Nat.le_refl _, S2, (show Hid _ from ?_)⟩
          show _ = _
          rw [← HE.out, bsr_false (fun h => ltOf cf d[h]! d[a]!) hlt HH.out hL]
    · obtain rfl : i = j := by omega
      have hltz : ¬ (i : Int) < (i : Int) := by omega
      have HI : Hid (bsr (fun h => ltOf cf d[h]! d[a]!) (a + 1) b = i) := (show _ = _ from by rw [← HE.out, bsr_stop])
      clear HE
      go_wp2
      go_loopg [13] (i - 1 - a) (fun kx s13 wr2 => ∃ (q : Nat) (dk : Array α), s13 = .int .i64 q ∧ a ≤ q ∧ q ≤ i - 1 ∧ i - 1 - q ≤ kx ∧ dk.size = d.size ∧ Aside (SWK enc k w0 blk off dk wr2) ∧ Hid (upMove (i - 1 - q) q dk = upMove (i - 1 - a) a d))
      case atStart => exact ⟨a, d, rfl, Nat.le_refl _, by omega, Nat.le_refl _, rfl, S1, rfl⟩
      case round =>
        clear S1
        obtain ⟨q, dk, rfl, haq, hqi, hkx2, hds, S1, HE⟩ := hrel
        by_cases hlt : q < i - 1
        · have hqz : (q : Int) < (i : Int) - 1 := by omega
          go_wp2_with fail
          have ea4 : ((q : Int)).toNat = q := by omega
          have pa4 : (0 : Int) ≤ (q : Int) := by omega
          have ba4 : (q : Int) < (d.size : Int) := by omega
          have ra4 : IntKind.i64.wrap ((q : Int)) = (q : Int) := by rw [IntKind.wrap_i64]; omega
          have ec4 : ((q : Int) + 1).toNat = q + 1 := by omega
          have pc4 : (0 : Int) ≤ (q : Int) + 1 := by omega
          have bc4 : (q : Int) + 1 < (d.size : Int) := by omega
          have rc4 : IntKind.i64.wrap ((q : Int) + 1) = (q : Int) + 1 := by rw [IntKind.wrap_i64]; omega
          have S2 : Aside (SWK enc k w0 blk off (swp dk (q) (q + 1)) ((wr.drew.setCells blk (off + (q) * k) (enc dk[q + 1]!)).setCells blk (off + (q + 1) * k) (enc dk[q]!))) := S1.out.swapped R (q) (q + 1) (by omega) (by omega)
          have l4a := S1.out.ld1 R (by omega) P (q) (by omega)
          have l4b := S1.out.ld1 R (by omega) P (q + 1) (by omega)
          have s4a := S1.out.st1 R (by omega) P (q) (by omega) dk[q + 1]!
          have s4b := S1.out.st2 R (by omega) P (q) (q + 1) (by omega) (by omega) dk[q + 1]! dk[q]!
          have n4a : (enc dk[q]!).length = k := R.hk _
          have n4b : (enc dk[q + 1]!).length = k := R.hk _
          generalize enc dk[q]! = cI4 at S2 l4a s4b n4a
          generalize enc dk[q + 1]! = cJ4 at S2 l4b s4a s4b n4b
          clear S1
          go_wp2_with fail
          go_big_region_o
          clear l4a l4b s4a s4b
          generalize (wr.drew.setCells blk (off + (q) * k) cJ4).setCells blk (off + (q + 1) * k) cI4 = w2 at S2 ⊢
          go_wp2
          go_roundg (i - 1 - (q + 1))
          case measure => omega
          case rel =>
            refine ⟨q + 1, swp dk q (q + 1), by go_num, by omega, by omega, Nat.le_refl _, by rw [size_swp]; exact hds, S2, (show Hid _ from ?_)⟩
            show _ = _
            rw [← HE.out, show i - 1 - q = (i - 1 - (q + 1)) + 1 by omega, upMove]
        · have hqz : ¬ (q : Int) < (i : Int) - 1 := by omega
          go_wp2
          (try simp only [Exit.inBlock, Exit.then]); refine bodyPost_ret (results_none rfl _ _ _) rfl ?_
          refine ⟨rfl, ?_⟩
          have := HE.out
          rw [show i - 1 - q = 0 by omega, upMove] at this
          rw [HI.out, ← this]
          exact S1.out
set_option maxHeartbeats 8000000 in
set_option maxRecDepth 1000000 in
/-- slices.symMergeCmpFunc: one element on the right. -/
theorem symMerge_two {P : Program} (L : SLays P) (k : Nat) (aE : ∀ w, (isAgg 25).run P w = .ok true w) (zE : ∀ w, (Go.sizeOf 25).run P w = .ok k w) (enc : α → List Value) (cf : α → α → Int) (g : Nat) (cb : Array Value) (blk off cap : Nat) (d0 d : Array α) (w0 w : World)
    (eg : ∀ args w, (callFunc g args).run P w = .ok (.enter g args) w) (HC : Aside (CmpBelow P g cb enc k cf blk off d0.size w0)) (HZ : Hid (w0.drawn = 0)) (R : RowK enc k w0 blk off d0) (hs : d0.size = d.size) (S0 : Aside (SWK enc k w0 blk off d w)) (hsz : d.size < 1000000000000) (a m b : Nat) (ham : a + 1 < m) (hmb : b = m + 1) (hb : b ≤ d.size) :
    Calls P 35 #[.slice (some ⟨blk, off, none⟩) d.size cap, .int .i64 a, .int .i64 m, .int .i64 b, .func (.func g) #[] cb] w fun e w' => e = .returned (.tuple #[]) ∧ SWK enc k w0 blk off (downMove (m - bsr (fun h => !ltOf cf d[m]! d[h]!) a m) m d) w' := by
  have mixed := L.mixed; have t3 := L.t3; have a3 := L.a3; have z3 := L.z3; have v3 := L.v3; have tu := L.tu; have t4 := L.t4; have a4 := L.a4; have z4 := L.z4; have v4 := L.v4; have t22 := L.t22; have a22 := L.a22; have z22 := L.z22; have a25 := L.a25; have z25 := L.z25; have u22 := run_underlying L.t22
  have FG := L.fSym
  subst hmb
  have hq : ((m : Int) - (a : Int) == 1) = false := beq_eq_false_iff_ne.2 (by omega)
  have hq1 : ¬ ((m : Int) - (a : Int) = 1) := by omega
  have hcast : ((m + 1 : Nat) : Int) = (m : Int) + 1 := by omega
  rw [hcast]
  clear hcast
  have hq' : ((m : Int) + 1 - (m : Int)) = 1 := by omega
  go_enter FG, Try.ntmps35
  go_wp2
  go_loopg [14, 15] (m - a) (fun kx s14 s15 wr => ∃ (i j : Nat), s14 = .int .i64 i ∧ s15 = .int .i64 j ∧ a ≤ i ∧ i ≤ j ∧ j ≤ m ∧ j - i ≤ kx ∧ Aside (SWK enc k w0 blk off d wr) ∧ Hid (bsr (fun h => !ltOf cf d[m]! d[h]!) i j = bsr (fun h => !ltOf cf d[m]! d[h]!) a m))
  case atStart => exact ⟨a, m, rfl, rfl, Nat.le_refl _, by omega, Nat.le_refl _, Nat.le_refl _, S0, rfl⟩
  case round =>
    clear S0 hq' hq hq1
    obtain ⟨i, j, rfl, rfl, hai, hij, hjb, hkx, S1, HE⟩ := hrel
    by_cases hlt : i < j
    · have hltz : (i : Int) < (j : Int) := by omega
      obtain ⟨h, hh⟩ : ∃ h : Nat, h = (i + j) / 2 := ⟨_, rfl⟩
      have h1 : i ≤ h := by omega
      have h2 : h < j := by omega
      have hz : ((i : Int) + (j : Int)) / 2 = (h : Int) := by omega
      have HH := Lib.hid hh
      clear hh
      cases hL : ltOf cf d[m]! d[h]! with
      | true =>
        have ea5 : ((m : Int)).toNat = m := by omega
        have pa5 : (0 : Int) ≤ (m : Int) := by omega
        have ba5 : (m : Int) < (d.size : Int) := by omega
        have ra5 : IntKind.i64.wrap ((m : Int)) = (m : Int) := by rw [IntKind.wrap_i64]; omega
        have ec5 : ((h : Int)).toNat = h := by omega
        have pc5 : (0 : Int) ≤ (h : Int) := by omega
        have bc5 : (h : Int) < (d.size : Int) := by omega
        have rc5 : IntKind.i64.wrap ((h : Int)) = (h : Int) := by rw [IntKind.wrap_i64]; omega
        obtain ⟨x5, hx5⟩ : ∃ x, x = d[m]! := ⟨_, rfl⟩
        obtain ⟨y5, hy5⟩ : ∃ x, x = d[h]! := ⟨_, rfl⟩
        have l5a := S1.out.ldz HZ R (by omega) P (m) (by omega)
        have l5b := S1.out.ldz HZ R (by omega) P (h) (by omega)
        rw [← hx5] at l5a
        rw [← hy5] at l5b
        have hc5 := S1.out.cmpz HZ HC.out (by omega) x5 y5
        have hv5 : cf x5 y5 < 0 := by rw [hx5, hy5]; exact of_decide_eq_true hL
        have hd5 : decide (cf x5 y5 < 0) = true := decide_eq_true hv5
        clear hx5 hy5
        go_wp2_with fail
        refine wp_region_quiet_below (by assumption) (by kernel_rfl) ?_
        repeat (quiet_step (first | (go_at_fn g; exact hc5 _ _)))
        refine wpQuiet_nil ?_
        intro _ hw'
        obtain ⟨⟨nq, osq⟩, hw''⟩ := hw'
        subst hw''
        have S2 : Aside (SWK enc k w0 blk off d (grow (redrawn wr nq) osq)) := S1.out.regrownZ HZ nq osq
        clear l5a l5b hc5 S1
        generalize grow (redrawn wr nq) osq = w2 at S2 ⊢
        clear nq osq
        go_wp2
        go_roundg (h - i)
        case measure => omega
        case rel =>
          refine ⟨i, h, rfl, rfl, hai, h1, by omega, Nat.le_refl _, S2, (show Hid _ from ?_)⟩
          show _ = _
          rw [← HE.out, bsr_false (fun h => !ltOf cf d[m]! d[h]!) hlt HH.out (by simp only [hL, Bool.not_true])]
      | false =>
        have ea6 : ((m : Int)).toNat = m := by omega
        have pa6 : (0 : Int) ≤ (m : Int) := by omega
        have ba6 : (m : Int) < (d.size : Int) := by omega
        have ra6 : IntKind.i64.wrap ((m : Int)) = (m : Int) := by rw [IntKind.wrap_i64]; omega
        have ec6 : ((h : Int)).toNat = h := by omega
        have pc6 : (0 : Int) ≤ (h : Int) := by omega
        have bc6 : (h : Int) < (d.size : Int) := by omega
        have rc6 : IntKind.i64.wrap ((h : Int)) = (h : Int) := by rw [IntKind.wrap_i64]; omega
        obtain ⟨x6, hx6⟩ : ∃ x, x = d[m]! := ⟨_, rfl⟩
        obtain ⟨y6, hy6⟩ : ∃ x, x = d[h]! := ⟨_, rfl⟩
        have l6a := S1.out.ldz HZ R (by omega) P (m) (by omega)
        have l6b := S1.out.ldz HZ R (by omega) P (h) (by omega)
        rw [← hx6] at l6a
        rw [← hy6] at l6b
        have hc6 := S1.out.cmpz HZ HC.out (by omega) x6 y6
        have hv6 : ¬ cf x6 y6 < 0 := by rw [hx6, hy6]; exact of_decide_eq_false hL
        have hd6 : decide (cf x6 y6 < 0) = false := decide_eq_false hv6
        clear hx6 hy6
        go_wp2_with fail
        refine wp_region_quiet_below (by assumption) (by kernel_rfl) ?_
        repeat (quiet_step (first | (go_at_fn g; exact hc6 _ _)))
        refine wpQuiet_nil ?_
        intro _ hw'
        obtain ⟨⟨nq, osq⟩, hw''⟩ := hw'
        subst hw''
        have S2 : Aside (SWK enc k w0 blk off d (grow (redrawn wr nq) osq)) := S1.out.regrownZ HZ nq osq
        clear l6a l6b hc6 S1
        generalize grow (redrawn wr nq) osq = w2 at S2 ⊢
        clear nq osq
        go_wp2
        go_roundg (j - (h + 1))
        case measure => omega
        case rel =>
          refine ⟨h + 1, j, by first | rfl | go_num, rfl, by omega, by omega, hjb, Nat.le_refl _, S2, (show Hid _ from ?_)⟩
          show _ = _
          rw [← HE.out, bsr_true (fun h => !ltOf cf d[m]! d[h]!) hlt HH.out (by simp only [hL, Bool.not_false])]
    · obtain rfl : i = j := by omega
      have hltz : ¬ (i : Int) < (i : Int) := by omega
      have HI : Hid (bsr (fun h => !ltOf cf d[m]! d[h]!) a m = i) := (show _ = _ from by rw [← HE.out, bsr_stop])
      clear HE
      go_wp2
      go_loopg [17] (m - i) (fun kx s17 wr2 => ∃ (q : Nat) (dk : Array α), s17 = .int .i64 q ∧ i ≤ q ∧ q ≤ m ∧ q - i ≤ kx ∧ dk.size = d.size ∧ Aside (SWK enc k w0 blk off dk wr2) ∧ Hid (downMove (q - i) q dk = downMove (m - i) m d))
      case atStart => exact ⟨m, d, rfl, hjb, Nat.le_refl _, Nat.le_refl _, rfl, S1, rfl⟩
      case round =>
        clear S1
        obtain ⟨q, dk, rfl, hiq, hqm, hkx2, hds, S1, HE⟩ := hrel
        by_cases hlt : i < q
        · have hqz : (i : Int) < (q : Int) := by omega
          go_wp2_with fail
          have ea7 : ((q : Int)).toNat = q := by omega
          have pa7 : (0 : Int) ≤ (q : Int) := by omega
          have ba7 : (q : Int) < (d.size : Int) := by omega
          have ra7 : IntKind.i64.wrap ((q : Int)) = (q : Int) := by rw [IntKind.wrap_i64]; omega
          have ec7 : ((q : Int) - 1).toNat = q - 1 := by omega
          have pc7 : (0 : Int) ≤ (q : Int) - 1 := by omega
          have bc7 : (q : Int) - 1 < (d.size : Int) := by omega
          have rc7 : IntKind.i64.wrap ((q : Int) - 1) = (q : Int) - 1 := by rw [IntKind.wrap_i64]; omega
          have S2 : Aside (SWK enc k w0 blk off (swp dk (q) (q - 1)) ((wr.drew.setCells blk (off + (q) * k) (enc dk[q - 1]!)).setCells blk (off + (q - 1) * k) (enc dk[q]!))) := S1.out.swapped R (q) (q - 1) (by omega) (by omega)
          have l7a := S1.out.ld1 R (by omega) P (q) (by omega)
          have l7b := S1.out.ld1 R (by omega) P (q - 1) (by omega)
          have s7a := S1.out.st1 R (by omega) P (q) (by omega) dk[q - 1]!
          have s7b := S1.out.st2 R (by omega) P (q) (q - 1) (by omega) (by omega) dk[q - 1]! dk[q]!
          have n7a : (enc dk[q]!).length = k := R.hk _
          have n7b : (enc dk[q - 1]!).length = k := R.hk _
          generalize enc dk[q]! = cI7 at S2 l7a s7b n7a
          generalize enc dk[q - 1]! = cJ7 at S2 l7b s7a s7b n7b
          clear S1
          go_wp2_with fail
          go_big_region_o
          clear l7a l7b s7a s7b
          generalize (wr.drew.setCells blk (off + (q) * k) cJ7).setCells blk (off + (q - 1) * k) cI7 = w2 at S2 ⊢
          go_wp2
          go_roundg (q - 1 - i)
          case measure => omega
          case rel =>
            refine ⟨q - 1, swp dk q (q - 1), by first | rfl | (congr 1; omega), by omega, by omega, Nat.le_refl _, by rw [size_swp]; exact hds, S2, (show Hid _ from ?_)⟩
            show _ = _
            rw [← HE.out, show q - i = (q - 1 - i) + 1 by omega, downMove]
        · have hqz : ¬ (i : Int) < (q : Int) := by omega
          go_wp2
          (try simp only [Exit.inBlock, Exit.then]); refine bodyPost_ret (results_none rfl _ _ _) rfl ?_
          refine ⟨rfl, ?_⟩
          have := HE.out
          rw [show q - i = 0 by omega, downMove] at this
          rw [HI.out, ← this]
          exact S1.out
end
end Go.Proofs.Ytckekncllmhohaa.Q
