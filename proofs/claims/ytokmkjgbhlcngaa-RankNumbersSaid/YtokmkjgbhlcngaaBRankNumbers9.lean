/- What leads to RankNumbers: the functions' contracts and the plain laws under them. -/
import Derived.BigQuiet
import Derived.Deep.Cut
import Derived.Deep.DrawnRows
import Derived.Deep.LoopGhost
import Derived.Deep.RegionHeld3
import Derived.IntWalk
import Derived.KernelRfl
import Derived.Lib.QuietBelow
import Derived.Lib.Walk
import Derived.Outline
import Derived.Test.YtokmkjgbhlcngaaProg
import Derived.WalkKit
import Derived.Test.YtokmkjgbhlcngaaVRankNumbers0
import Derived.Test.YtokmkjgbhlcngaaVRankNumbers1
import Derived.Test.YtokmkjgbhlcngaaBRankNumbers0
import Derived.Test.YtokmkjgbhlcngaaBRankNumbers1
import Derived.Test.YtokmkjgbhlcngaaBRankNumbers2
import Derived.Test.YtokmkjgbhlcngaaBRankNumbers3
import Derived.Test.YtokmkjgbhlcngaaBRankNumbers4
import Derived.Test.YtokmkjgbhlcngaaBRankNumbers5
import Derived.Test.YtokmkjgbhlcngaaBRankNumbers6
import Derived.Test.YtokmkjgbhlcngaaBRankNumbers7
import Derived.Test.YtokmkjgbhlcngaaBRankNumbers8
namespace Go.Proofs.Ytokmkjgbhlcngaa.Ap
open Go.RowKit Go.Sort Go.Lib Go.Proofs
set_option linter.all false
attribute [local go_sem ↓] Go.wp_at_zero Go.wp_at_succ

theorem infoNWords : (Try.prog.info? 103).map (fun i => (i.zero, i.size, i.bytes)) = some (some (.slice none 0 0), 1, 24) := by kernel_rfl
set_option maxHeartbeats 4000000 in
set_option maxRecDepth 100000 in
theorem flatWords_nil (w : World) : Calls Try.prog 43 #[.slice none 0 0] w fun e w' => e = .returned (.bool true) ∧ Below w.heap.size w w' := by
  go_enter Try.func43, Try.ntmps43
  go_wp2_with fail
  go_loopg [3] 0 (fun kx s3 wr => s3 = .int .i64 0 ∧ Hid (Below w.heap.size w wr))
  case atStart => exact ⟨rfl, Lib.hid (Below.refl _ _)⟩
  case round =>
    obtain ⟨rfl, HB⟩ := hrel
    obtain ⟨iS, hiS, hzS, hsS, hbS⟩ := info_parts infoNWords
    go_wp2_with (first | (at_make; refine wpList_make_full _ rfl _ _ 53 rfl wr.heap.size 103 iS _ 1 Try.underlying53 hiS hzS hsS .i64 .i64 _ _ 0 rfl rfl rfl rfl (by rw [hbS]; decide) (by decide) (Nat.le_refl _) ?_))
    intro w1 hH hg1
    have HB1 := Lib.hid (below_grown HB.out hg1 HB.out.size (fun _ h => by cases h))
    clear hH hg1 hiS hzS hsS hbS HB
    go_wp2_with fail
    go_loopg [6] 0 (fun kx s6 wr => s6 = .int .i64 0 ∧ Hid (Below w.heap.size w wr))
    case atStart => exact ⟨rfl, HB1⟩
    case round =>
      clear HB1
      obtain ⟨rfl, HB2⟩ := hrel
      go_wp2_with fail
      go_loopg [9] 0 (fun kx s9 wr => s9 = .int .i64 0 ∧ Hid (Below w.heap.size w wr))
      case atStart => exact ⟨rfl, HB2⟩
      case round =>
        clear HB2
        obtain ⟨rfl, HB3⟩ := hrel
        go_wp2_with fail
        go_loopg [11] 0 (fun kx s11 wr => s11 = .int .i64 0 ∧ Hid (Below w.heap.size w wr))
        case atStart => exact ⟨rfl, HB3⟩
        case round =>
          clear HB3
          obtain ⟨rfl, HB4⟩ := hrel
          go_wp2_with fail
          go_loopg [14] 0 (fun kx s14 wr => s14 = .int .i64 0 ∧ Hid (Below w.heap.size w wr))
          case atStart => exact ⟨rfl, HB4⟩
          case round =>
            clear HB4
            obtain ⟨rfl, HB5⟩ := hrel
            go_wp2_with fail
            go_ret
            exact ⟨rfl, HB5.out⟩
theorem infoNInts : (Try.prog.info? 38).map (fun i => (i.zero, i.size, i.bytes)) = some (some (.slice none 0 0), 1, 24) := by kernel_rfl
set_option maxHeartbeats 4000000 in
set_option maxRecDepth 100000 in
theorem flatInts_nil (w : World) : Calls Try.prog 44 #[.slice none 0 0] w fun e w' => e = .returned (.bool true) ∧ Below w.heap.size w w' := by
  go_enter Try.func44, Try.ntmps44
  go_wp2_with fail
  go_loopg [3] 0 (fun kx s3 wr => s3 = .int .i64 0 ∧ Hid (Below w.heap.size w wr))
  case atStart => exact ⟨rfl, Lib.hid (Below.refl _ _)⟩
  case round =>
    obtain ⟨rfl, HB⟩ := hrel
    obtain ⟨iS, hiS, hzS, hsS, hbS⟩ := info_parts infoNInts
    go_wp2_with (first | (at_make; refine wpList_make_full _ rfl _ _ 54 rfl wr.heap.size 38 iS _ 1 Try.underlying54 hiS hzS hsS .i64 .i64 _ _ 0 rfl rfl rfl rfl (by rw [hbS]; decide) (by decide) (Nat.le_refl _) ?_))
    intro w1 hH hg1
    have HB1 := Lib.hid (below_grown HB.out hg1 HB.out.size (fun _ h => by cases h))
    clear hH hg1 hiS hzS hsS hbS HB
    go_wp2_with fail
    go_loopg [6] 0 (fun kx s6 wr => s6 = .int .i64 0 ∧ Hid (Below w.heap.size w wr))
    case atStart => exact ⟨rfl, HB1⟩
    case round =>
      clear HB1
      obtain ⟨rfl, HB2⟩ := hrel
      go_wp2_with fail
      go_loopg [9] 0 (fun kx s9 wr => s9 = .int .i64 0 ∧ Hid (Below w.heap.size w wr))
      case atStart => exact ⟨rfl, HB2⟩
      case round =>
        clear HB2
        obtain ⟨rfl, HB3⟩ := hrel
        go_wp2_with fail
        go_loopg [11] 0 (fun kx s11 wr => s11 = .int .i64 0 ∧ Hid (Below w.heap.size w wr))
        case atStart => exact ⟨rfl, HB3⟩
        case round =>
          clear HB3
          obtain ⟨rfl, HB4⟩ := hrel
          go_wp2_with fail
          go_loopg [14] 0 (fun kx s14 wr => s14 = .int .i64 0 ∧ Hid (Below w.heap.size w wr))
          case atStart => exact ⟨rfl, HB4⟩
          case round =>
            clear HB4
            obtain ⟨rfl, HB5⟩ := hrel
            go_wp2_with fail
            go_ret
            exact ⟨rfl, HB5.out⟩
theorem infoNLongs : (Try.prog.info? 39).map (fun i => (i.zero, i.size, i.bytes)) = some (some (.slice none 0 0), 1, 24) := by kernel_rfl
set_option maxHeartbeats 4000000 in
set_option maxRecDepth 100000 in
theorem flatLongs_nil (w : World) : Calls Try.prog 45 #[.slice none 0 0] w fun e w' => e = .returned (.bool true) ∧ Below w.heap.size w w' := by
  go_enter Try.func45, Try.ntmps45
  go_wp2_with fail
  go_loopg [3] 0 (fun kx s3 wr => s3 = .int .i64 0 ∧ Hid (Below w.heap.size w wr))
  case atStart => exact ⟨rfl, Lib.hid (Below.refl _ _)⟩
  case round =>
    obtain ⟨rfl, HB⟩ := hrel
    obtain ⟨iS, hiS, hzS, hsS, hbS⟩ := info_parts infoNLongs
    go_wp2_with (first | (at_make; refine wpList_make_full _ rfl _ _ 55 rfl wr.heap.size 39 iS _ 1 Try.underlying55 hiS hzS hsS .i64 .i64 _ _ 0 rfl rfl rfl rfl (by rw [hbS]; decide) (by decide) (Nat.le_refl _) ?_))
    intro w1 hH hg1
    have HB1 := Lib.hid (below_grown HB.out hg1 HB.out.size (fun _ h => by cases h))
    clear hH hg1 hiS hzS hsS hbS HB
    go_wp2_with fail
    go_loopg [6] 0 (fun kx s6 wr => s6 = .int .i64 0 ∧ Hid (Below w.heap.size w wr))
    case atStart => exact ⟨rfl, HB1⟩
    case round =>
      clear HB1
      obtain ⟨rfl, HB2⟩ := hrel
      go_wp2_with fail
      go_loopg [9] 0 (fun kx s9 wr => s9 = .int .i64 0 ∧ Hid (Below w.heap.size w wr))
      case atStart => exact ⟨rfl, HB2⟩
      case round =>
        clear HB2
        obtain ⟨rfl, HB3⟩ := hrel
        go_wp2_with fail
        go_loopg [11] 0 (fun kx s11 wr => s11 = .int .i64 0 ∧ Hid (Below w.heap.size w wr))
        case atStart => exact ⟨rfl, HB3⟩
        case round =>
          clear HB3
          obtain ⟨rfl, HB4⟩ := hrel
          go_wp2_with fail
          go_loopg [14] 0 (fun kx s14 wr => s14 = .int .i64 0 ∧ Hid (Below w.heap.size w wr))
          case atStart => exact ⟨rfl, HB4⟩
          case round =>
            clear HB4
            obtain ⟨rfl, HB5⟩ := hrel
            go_wp2_with fail
            go_ret
            exact ⟨rfl, HB5.out⟩
theorem infoNTexts : (Try.prog.info? 40).map (fun i => (i.zero, i.size, i.bytes)) = some (some (.slice none 0 0), 1, 24) := by kernel_rfl
set_option maxHeartbeats 4000000 in
set_option maxRecDepth 100000 in
theorem flatTexts_nil (w : World) : Calls Try.prog 46 #[.slice none 0 0] w fun e w' => e = .returned (.bool true) ∧ Below w.heap.size w w' := by
  go_enter Try.func46, Try.ntmps46
  go_wp2_with fail
  go_loopg [3] 0 (fun kx s3 wr => s3 = .int .i64 0 ∧ Hid (Below w.heap.size w wr))
  case atStart => exact ⟨rfl, Lib.hid (Below.refl _ _)⟩
  case round =>
    obtain ⟨rfl, HB⟩ := hrel
    obtain ⟨iS, hiS, hzS, hsS, hbS⟩ := info_parts infoNTexts
    go_wp2_with (first | (at_make; refine wpList_make_full _ rfl _ _ 56 rfl wr.heap.size 40 iS _ 1 Try.underlying56 hiS hzS hsS .i64 .i64 _ _ 0 rfl rfl rfl rfl (by rw [hbS]; decide) (by decide) (Nat.le_refl _) ?_))
    intro w1 hH hg1
    have HB1 := Lib.hid (below_grown HB.out hg1 HB.out.size (fun _ h => by cases h))
    clear hH hg1 hiS hzS hsS hbS HB
    go_wp2_with fail
    go_loopg [6] 0 (fun kx s6 wr => s6 = .int .i64 0 ∧ Hid (Below w.heap.size w wr))
    case atStart => exact ⟨rfl, HB1⟩
    case round =>
      clear HB1
      obtain ⟨rfl, HB2⟩ := hrel
      go_wp2_with fail
      go_loopg [9] 0 (fun kx s9 wr => s9 = .int .i64 0 ∧ Hid (Below w.heap.size w wr))
      case atStart => exact ⟨rfl, HB2⟩
      case round =>
        clear HB2
        obtain ⟨rfl, HB3⟩ := hrel
        go_wp2_with fail
        go_loopg [11] 0 (fun kx s11 wr => s11 = .int .i64 0 ∧ Hid (Below w.heap.size w wr))
        case atStart => exact ⟨rfl, HB3⟩
        case round =>
          clear HB3
          obtain ⟨rfl, HB4⟩ := hrel
          go_wp2_with fail
          go_loopg [14] 0 (fun kx s14 wr => s14 = .int .i64 0 ∧ Hid (Below w.heap.size w wr))
          case atStart => exact ⟨rfl, HB4⟩
          case round =>
            clear HB4
            obtain ⟨rfl, HB5⟩ := hrel
            go_wp2_with fail
            go_ret
            exact ⟨rfl, HB5.out⟩
theorem infoNBytes : (Try.prog.info? 106).map (fun i => (i.zero, i.size, i.bytes)) = some (some (.slice none 0 0), 1, 24) := by kernel_rfl
set_option maxHeartbeats 4000000 in
set_option maxRecDepth 100000 in
theorem flatBytes_nil (w : World) : Calls Try.prog 47 #[.slice none 0 0] w fun e w' => e = .returned (.bool true) ∧ Below w.heap.size w w' := by
  go_enter Try.func47, Try.ntmps47
  go_wp2_with fail
  go_loopg [3] 0 (fun kx s3 wr => s3 = .int .i64 0 ∧ Hid (Below w.heap.size w wr))
  case atStart => exact ⟨rfl, Lib.hid (Below.refl _ _)⟩
  case round =>
    obtain ⟨rfl, HB⟩ := hrel
    obtain ⟨iS, hiS, hzS, hsS, hbS⟩ := info_parts infoNBytes
    go_wp2_with (first | (at_make; refine wpList_make_full _ rfl _ _ 57 rfl wr.heap.size 106 iS _ 1 Try.underlying57 hiS hzS hsS .i64 .i64 _ _ 0 rfl rfl rfl rfl (by rw [hbS]; decide) (by decide) (Nat.le_refl _) ?_))
    intro w1 hH hg1
    have HB1 := Lib.hid (below_grown HB.out hg1 HB.out.size (fun _ h => by cases h))
    clear hH hg1 hiS hzS hsS hbS HB
    go_wp2_with fail
    go_loopg [6] 0 (fun kx s6 wr => s6 = .int .i64 0 ∧ Hid (Below w.heap.size w wr))
    case atStart => exact ⟨rfl, HB1⟩
    case round =>
      clear HB1
      obtain ⟨rfl, HB2⟩ := hrel
      go_wp2_with fail
      go_loopg [9] 0 (fun kx s9 wr => s9 = .int .i64 0 ∧ Hid (Below w.heap.size w wr))
      case atStart => exact ⟨rfl, HB2⟩
      case round =>
        clear HB2
        obtain ⟨rfl, HB3⟩ := hrel
        go_wp2_with fail
        go_loopg [11] 0 (fun kx s11 wr => s11 = .int .i64 0 ∧ Hid (Below w.heap.size w wr))
        case atStart => exact ⟨rfl, HB3⟩
        case round =>
          clear HB3
          obtain ⟨rfl, HB4⟩ := hrel
          go_wp2_with fail
          go_loopg [14] 0 (fun kx s14 wr => s14 = .int .i64 0 ∧ Hid (Below w.heap.size w wr))
          case atStart => exact ⟨rfl, HB4⟩
          case round =>
            clear HB4
            obtain ⟨rfl, HB5⟩ := hrel
            go_wp2_with fail
            go_ret
            exact ⟨rfl, HB5.out⟩
theorem infoNWindows : (Try.prog.info? 108).map (fun i => (i.zero, i.size, i.bytes)) = some (some (.slice none 0 0), 1, 24) := by kernel_rfl
set_option maxHeartbeats 4000000 in
set_option maxRecDepth 100000 in
theorem flatWindows_nil (w : World) : Calls Try.prog 48 #[.slice none 0 0] w fun e w' => e = .returned (.bool true) ∧ Below w.heap.size w w' := by
  go_enter Try.func48, Try.ntmps48
  go_wp2_with fail
  go_loopg [3] 0 (fun kx s3 wr => s3 = .int .i64 0 ∧ Hid (Below w.heap.size w wr))
  case atStart => exact ⟨rfl, Lib.hid (Below.refl _ _)⟩
  case round =>
    obtain ⟨rfl, HB⟩ := hrel
    obtain ⟨iS, hiS, hzS, hsS, hbS⟩ := info_parts infoNWindows
    go_wp2_with (first | (at_make; refine wpList_make_full _ rfl _ _ 58 rfl wr.heap.size 108 iS _ 1 Try.underlying58 hiS hzS hsS .i64 .i64 _ _ 0 rfl rfl rfl rfl (by rw [hbS]; decide) (by decide) (Nat.le_refl _) ?_))
    intro w1 hH hg1
    have HB1 := Lib.hid (below_grown HB.out hg1 HB.out.size (fun _ h => by cases h))
    clear hH hg1 hiS hzS hsS hbS HB
    go_wp2_with fail
    go_loopg [6] 0 (fun kx s6 wr => s6 = .int .i64 0 ∧ Hid (Below w.heap.size w wr))
    case atStart => exact ⟨rfl, HB1⟩
    case round =>
      clear HB1
      obtain ⟨rfl, HB2⟩ := hrel
      go_wp2_with fail
      go_loopg [9] 0 (fun kx s9 wr => s9 = .int .i64 0 ∧ Hid (Below w.heap.size w wr))
      case atStart => exact ⟨rfl, HB2⟩
      case round =>
        clear HB2
        obtain ⟨rfl, HB3⟩ := hrel
        go_wp2_with fail
        go_loopg [11] 0 (fun kx s11 wr => s11 = .int .i64 0 ∧ Hid (Below w.heap.size w wr))
        case atStart => exact ⟨rfl, HB3⟩
        case round =>
          clear HB3
          obtain ⟨rfl, HB4⟩ := hrel
          go_wp2_with fail
          go_loopg [14] 0 (fun kx s14 wr => s14 = .int .i64 0 ∧ Hid (Below w.heap.size w wr))
          case atStart => exact ⟨rfl, HB4⟩
          case round =>
            clear HB4
            obtain ⟨rfl, HB5⟩ := hrel
            go_wp2_with fail
            go_ret
            exact ⟨rfl, HB5.out⟩
theorem infoNLots : (Try.prog.info? 112).map (fun i => (i.zero, i.size, i.bytes)) = some (some (.slice none 0 0), 1, 24) := by kernel_rfl
set_option maxHeartbeats 4000000 in
set_option maxRecDepth 100000 in
theorem flatLots_nil (w : World) : Calls Try.prog 49 #[.slice none 0 0] w fun e w' => e = .returned (.bool true) ∧ Below w.heap.size w w' := by
  go_enter Try.func49, Try.ntmps49
  go_wp2_with fail
  go_loopg [3] 0 (fun kx s3 wr => s3 = .int .i64 0 ∧ Hid (Below w.heap.size w wr))
  case atStart => exact ⟨rfl, Lib.hid (Below.refl _ _)⟩
  case round =>
    obtain ⟨rfl, HB⟩ := hrel
    obtain ⟨iS, hiS, hzS, hsS, hbS⟩ := info_parts infoNLots
    go_wp2_with (first | (at_make; refine wpList_make_full _ rfl _ _ 59 rfl wr.heap.size 112 iS _ 1 Try.underlying59 hiS hzS hsS .i64 .i64 _ _ 0 rfl rfl rfl rfl (by rw [hbS]; decide) (by decide) (Nat.le_refl _) ?_))
    intro w1 hH hg1
    have HB1 := Lib.hid (below_grown HB.out hg1 HB.out.size (fun _ h => by cases h))
    clear hH hg1 hiS hzS hsS hbS HB
    go_wp2_with fail
    go_loopg [6] 0 (fun kx s6 wr => s6 = .int .i64 0 ∧ Hid (Below w.heap.size w wr))
    case atStart => exact ⟨rfl, HB1⟩
    case round =>
      clear HB1
      obtain ⟨rfl, HB2⟩ := hrel
      go_wp2_with fail
      go_loopg [9] 0 (fun kx s9 wr => s9 = .int .i64 0 ∧ Hid (Below w.heap.size w wr))
      case atStart => exact ⟨rfl, HB2⟩
      case round =>
        clear HB2
        obtain ⟨rfl, HB3⟩ := hrel
        go_wp2_with fail
        go_loopg [11] 0 (fun kx s11 wr => s11 = .int .i64 0 ∧ Hid (Below w.heap.size w wr))
        case atStart => exact ⟨rfl, HB3⟩
        case round =>
          clear HB3
          obtain ⟨rfl, HB4⟩ := hrel
          go_wp2_with fail
          go_loopg [14] 0 (fun kx s14 wr => s14 = .int .i64 0 ∧ Hid (Below w.heap.size w wr))
          case atStart => exact ⟨rfl, HB4⟩
          case round =>
            clear HB4
            obtain ⟨rfl, HB5⟩ := hrel
            go_wp2_with fail
            go_ret
            exact ⟨rfl, HB5.out⟩
theorem infoNWants : (Try.prog.info? 116).map (fun i => (i.zero, i.size, i.bytes)) = some (some (.slice none 0 0), 1, 24) := by kernel_rfl
set_option maxHeartbeats 4000000 in
set_option maxRecDepth 100000 in
theorem flatWants_nil (w : World) : Calls Try.prog 50 #[.slice none 0 0] w fun e w' => e = .returned (.bool true) ∧ Below w.heap.size w w' := by
  go_enter Try.func50, Try.ntmps50
  go_wp2_with fail
  go_loopg [3] 0 (fun kx s3 wr => s3 = .int .i64 0 ∧ Hid (Below w.heap.size w wr))
  case atStart => exact ⟨rfl, Lib.hid (Below.refl _ _)⟩
  case round =>
    obtain ⟨rfl, HB⟩ := hrel
    obtain ⟨iS, hiS, hzS, hsS, hbS⟩ := info_parts infoNWants
    go_wp2_with (first | (at_make; refine wpList_make_full _ rfl _ _ 60 rfl wr.heap.size 116 iS _ 1 Try.underlying60 hiS hzS hsS .i64 .i64 _ _ 0 rfl rfl rfl rfl (by rw [hbS]; decide) (by decide) (Nat.le_refl _) ?_))
    intro w1 hH hg1
    have HB1 := Lib.hid (below_grown HB.out hg1 HB.out.size (fun _ h => by cases h))
    clear hH hg1 hiS hzS hsS hbS HB
    go_wp2_with fail
    go_loopg [6] 0 (fun kx s6 wr => s6 = .int .i64 0 ∧ Hid (Below w.heap.size w wr))
    case atStart => exact ⟨rfl, HB1⟩
    case round =>
      clear HB1
      obtain ⟨rfl, HB2⟩ := hrel
      go_wp2_with fail
      go_loopg [9] 0 (fun kx s9 wr => s9 = .int .i64 0 ∧ Hid (Below w.heap.size w wr))
      case atStart => exact ⟨rfl, HB2⟩
      case round =>
        clear HB2
        obtain ⟨rfl, HB3⟩ := hrel
        go_wp2_with fail
        go_loopg [11] 0 (fun kx s11 wr => s11 = .int .i64 0 ∧ Hid (Below w.heap.size w wr))
        case atStart => exact ⟨rfl, HB3⟩
        case round =>
          clear HB3
          obtain ⟨rfl, HB4⟩ := hrel
          go_wp2_with fail
          go_loopg [14] 0 (fun kx s14 wr => s14 = .int .i64 0 ∧ Hid (Below w.heap.size w wr))
          case atStart => exact ⟨rfl, HB4⟩
          case round =>
            clear HB4
            obtain ⟨rfl, HB5⟩ := hrel
            go_wp2_with fail
            go_ret
            exact ⟨rfl, HB5.out⟩
theorem infoNUses : (Try.prog.info? 120).map (fun i => (i.zero, i.size, i.bytes)) = some (some (.slice none 0 0), 1, 24) := by kernel_rfl
set_option maxHeartbeats 4000000 in
set_option maxRecDepth 100000 in
theorem flatUses_nil (w : World) : Calls Try.prog 51 #[.slice none 0 0] w fun e w' => e = .returned (.bool true) ∧ Below w.heap.size w w' := by
  go_enter Try.func51, Try.ntmps51
  go_wp2_with fail
  go_loopg [3] 0 (fun kx s3 wr => s3 = .int .i64 0 ∧ Hid (Below w.heap.size w wr))
  case atStart => exact ⟨rfl, Lib.hid (Below.refl _ _)⟩
  case round =>
    obtain ⟨rfl, HB⟩ := hrel
    obtain ⟨iS, hiS, hzS, hsS, hbS⟩ := info_parts infoNUses
    go_wp2_with (first | (at_make; refine wpList_make_full _ rfl _ _ 61 rfl wr.heap.size 120 iS _ 1 Try.underlying61 hiS hzS hsS .i64 .i64 _ _ 0 rfl rfl rfl rfl (by rw [hbS]; decide) (by decide) (Nat.le_refl _) ?_))
    intro w1 hH hg1
    have HB1 := Lib.hid (below_grown HB.out hg1 HB.out.size (fun _ h => by cases h))
    clear hH hg1 hiS hzS hsS hbS HB
    go_wp2_with fail
    go_loopg [6] 0 (fun kx s6 wr => s6 = .int .i64 0 ∧ Hid (Below w.heap.size w wr))
    case atStart => exact ⟨rfl, HB1⟩
    case round =>
      clear HB1
      obtain ⟨rfl, HB2⟩ := hrel
      go_wp2_with fail
      go_loopg [9] 0 (fun kx s9 wr => s9 = .int .i64 0 ∧ Hid (Below w.heap.size w wr))
      case atStart => exact ⟨rfl, HB2⟩
      case round =>
        clear HB2
        obtain ⟨rfl, HB3⟩ := hrel
        go_wp2_with fail
        go_loopg [11] 0 (fun kx s11 wr => s11 = .int .i64 0 ∧ Hid (Below w.heap.size w wr))
        case atStart => exact ⟨rfl, HB3⟩
        case round =>
          clear HB3
          obtain ⟨rfl, HB4⟩ := hrel
          go_wp2_with fail
          go_loopg [14] 0 (fun kx s14 wr => s14 = .int .i64 0 ∧ Hid (Below w.heap.size w wr))
          case atStart => exact ⟨rfl, HB4⟩
          case round =>
            clear HB4
            obtain ⟨rfl, HB5⟩ := hrel
            go_wp2_with fail
            go_ret
            exact ⟨rfl, HB5.out⟩
theorem infoNParts : (Try.prog.info? 124).map (fun i => (i.zero, i.size, i.bytes)) = some (some (.slice none 0 0), 1, 24) := by kernel_rfl
set_option maxHeartbeats 4000000 in
set_option maxRecDepth 100000 in
theorem flatParts_nil (w : World) : Calls Try.prog 52 #[.slice none 0 0] w fun e w' => e = .returned (.bool true) ∧ Below w.heap.size w w' := by
  go_enter Try.func52, Try.ntmps52
  go_wp2_with fail
  go_loopg [3] 0 (fun kx s3 wr => s3 = .int .i64 0 ∧ Hid (Below w.heap.size w wr))
  case atStart => exact ⟨rfl, Lib.hid (Below.refl _ _)⟩
  case round =>
    obtain ⟨rfl, HB⟩ := hrel
    obtain ⟨iS, hiS, hzS, hsS, hbS⟩ := info_parts infoNParts
    go_wp2_with (first | (at_make; refine wpList_make_full _ rfl _ _ 62 rfl wr.heap.size 124 iS _ 1 Try.underlying62 hiS hzS hsS .i64 .i64 _ _ 0 rfl rfl rfl rfl (by rw [hbS]; decide) (by decide) (Nat.le_refl _) ?_))
    intro w1 hH hg1
    have HB1 := Lib.hid (below_grown HB.out hg1 HB.out.size (fun _ h => by cases h))
    clear hH hg1 hiS hzS hsS hbS HB
    go_wp2_with fail
    go_loopg [6] 0 (fun kx s6 wr => s6 = .int .i64 0 ∧ Hid (Below w.heap.size w wr))
    case atStart => exact ⟨rfl, HB1⟩
    case round =>
      clear HB1
      obtain ⟨rfl, HB2⟩ := hrel
      go_wp2_with fail
      go_loopg [9] 0 (fun kx s9 wr => s9 = .int .i64 0 ∧ Hid (Below w.heap.size w wr))
      case atStart => exact ⟨rfl, HB2⟩
      case round =>
        clear HB2
        obtain ⟨rfl, HB3⟩ := hrel
        go_wp2_with fail
        go_loopg [11] 0 (fun kx s11 wr => s11 = .int .i64 0 ∧ Hid (Below w.heap.size w wr))
        case atStart => exact ⟨rfl, HB3⟩
        case round =>
          clear HB3
          obtain ⟨rfl, HB4⟩ := hrel
          go_wp2_with fail
          go_loopg [14] 0 (fun kx s14 wr => s14 = .int .i64 0 ∧ Hid (Below w.heap.size w wr))
          case atStart => exact ⟨rfl, HB4⟩
          case round =>
            clear HB4
            obtain ⟨rfl, HB5⟩ := hrel
            go_wp2_with fail
            go_ret
            exact ⟨rfl, HB5.out⟩
theorem infoNItems : (Try.prog.info? 128).map (fun i => (i.zero, i.size, i.bytes)) = some (some (.slice none 0 0), 1, 24) := by kernel_rfl
set_option maxHeartbeats 4000000 in
set_option maxRecDepth 100000 in
theorem flatItems_nil (w : World) : Calls Try.prog 53 #[.slice none 0 0] w fun e w' => e = .returned (.bool true) ∧ Below w.heap.size w w' := by
  go_enter Try.func53, Try.ntmps53
  go_wp2_with fail
  go_loopg [3] 0 (fun kx s3 wr => s3 = .int .i64 0 ∧ Hid (Below w.heap.size w wr))
  case atStart => exact ⟨rfl, Lib.hid (Below.refl _ _)⟩
  case round =>
    obtain ⟨rfl, HB⟩ := hrel
    obtain ⟨iS, hiS, hzS, hsS, hbS⟩ := info_parts infoNItems
    go_wp2_with (first | (at_make; refine wpList_make_full _ rfl _ _ 63 rfl wr.heap.size 128 iS _ 1 Try.underlying63 hiS hzS hsS .i64 .i64 _ _ 0 rfl rfl rfl rfl (by rw [hbS]; decide) (by decide) (Nat.le_refl _) ?_))
    intro w1 hH hg1
    have HB1 := Lib.hid (below_grown HB.out hg1 HB.out.size (fun _ h => by cases h))
    clear hH hg1 hiS hzS hsS hbS HB
    go_wp2_with fail
    go_loopg [6] 0 (fun kx s6 wr => s6 = .int .i64 0 ∧ Hid (Below w.heap.size w wr))
    case atStart => exact ⟨rfl, HB1⟩
    case round =>
      clear HB1
      obtain ⟨rfl, HB2⟩ := hrel
      go_wp2_with fail
      go_loopg [9] 0 (fun kx s9 wr => s9 = .int .i64 0 ∧ Hid (Below w.heap.size w wr))
      case atStart => exact ⟨rfl, HB2⟩
      case round =>
        clear HB2
        obtain ⟨rfl, HB3⟩ := hrel
        go_wp2_with fail
        go_loopg [11] 0 (fun kx s11 wr => s11 = .int .i64 0 ∧ Hid (Below w.heap.size w wr))
        case atStart => exact ⟨rfl, HB3⟩
        case round =>
          clear HB3
          obtain ⟨rfl, HB4⟩ := hrel
          go_wp2_with fail
          go_loopg [14] 0 (fun kx s14 wr => s14 = .int .i64 0 ∧ Hid (Below w.heap.size w wr))
          case atStart => exact ⟨rfl, HB4⟩
          case round =>
            clear HB4
            obtain ⟨rfl, HB5⟩ := hrel
            go_wp2_with fail
            go_ret
            exact ⟨rfl, HB5.out⟩
theorem infoNLines : (Try.prog.info? 29).map (fun i => (i.zero, i.size, i.bytes)) = some (some (.slice none 0 0), 1, 24) := by kernel_rfl
theorem infoNAsks : (Try.prog.info? 133).map (fun i => (i.zero, i.size, i.bytes)) = some (some (.slice none 0 0), 1, 24) := by kernel_rfl
set_option maxHeartbeats 4000000 in
set_option maxRecDepth 100000 in
theorem flatAsks_nil (w : World) : Calls Try.prog 55 #[.slice none 0 0] w fun e w' => e = .returned (.bool true) ∧ Below w.heap.size w w' := by
  go_enter Try.func55, Try.ntmps55
  go_wp2_with fail
  go_loopg [3] 0 (fun kx s3 wr => s3 = .int .i64 0 ∧ Hid (Below w.heap.size w wr))
  case atStart => exact ⟨rfl, Lib.hid (Below.refl _ _)⟩
  case round =>
    obtain ⟨rfl, HB⟩ := hrel
    obtain ⟨iS, hiS, hzS, hsS, hbS⟩ := info_parts infoNAsks
    go_wp2_with (first | (at_make; refine wpList_make_full _ rfl _ _ 64 rfl wr.heap.size 133 iS _ 1 Try.underlying64 hiS hzS hsS .i64 .i64 _ _ 0 rfl rfl rfl rfl (by rw [hbS]; decide) (by decide) (Nat.le_refl _) ?_))
    intro w1 hH hg1
    have HB1 := Lib.hid (below_grown HB.out hg1 HB.out.size (fun _ h => by cases h))
    clear hH hg1 hiS hzS hsS hbS HB
    go_wp2_with fail
    go_loopg [6] 0 (fun kx s6 wr => s6 = .int .i64 0 ∧ Hid (Below w.heap.size w wr))
    case atStart => exact ⟨rfl, HB1⟩
    case round =>
      clear HB1
      obtain ⟨rfl, HB2⟩ := hrel
      go_wp2_with fail
      go_loopg [9] 0 (fun kx s9 wr => s9 = .int .i64 0 ∧ Hid (Below w.heap.size w wr))
      case atStart => exact ⟨rfl, HB2⟩
      case round =>
        clear HB2
        obtain ⟨rfl, HB3⟩ := hrel
        go_wp2_with fail
        go_loopg [11] 0 (fun kx s11 wr => s11 = .int .i64 0 ∧ Hid (Below w.heap.size w wr))
        case atStart => exact ⟨rfl, HB3⟩
        case round =>
          clear HB3
          obtain ⟨rfl, HB4⟩ := hrel
          go_wp2_with fail
          go_loopg [14] 0 (fun kx s14 wr => s14 = .int .i64 0 ∧ Hid (Below w.heap.size w wr))
          case atStart => exact ⟨rfl, HB4⟩
          case round =>
            clear HB4
            obtain ⟨rfl, HB5⟩ := hrel
            go_wp2_with fail
            go_ret
            exact ⟨rfl, HB5.out⟩
theorem infoNTells : (Try.prog.info? 139).map (fun i => (i.zero, i.size, i.bytes)) = some (some (.slice none 0 0), 1, 24) := by kernel_rfl
set_option maxHeartbeats 4000000 in
set_option maxRecDepth 100000 in
theorem flatTells_nil (w : World) : Calls Try.prog 56 #[.slice none 0 0] w fun e w' => e = .returned (.bool true) ∧ Below w.heap.size w w' := by
  go_enter Try.func56, Try.ntmps56
  go_wp2_with fail
  go_loopg [3] 0 (fun kx s3 wr => s3 = .int .i64 0 ∧ Hid (Below w.heap.size w wr))
  case atStart => exact ⟨rfl, Lib.hid (Below.refl _ _)⟩
  case round =>
    obtain ⟨rfl, HB⟩ := hrel
    obtain ⟨iS, hiS, hzS, hsS, hbS⟩ := info_parts infoNTells
    go_wp2_with (first | (at_make; refine wpList_make_full _ rfl _ _ 65 rfl wr.heap.size 139 iS _ 1 Try.underlying65 hiS hzS hsS .i64 .i64 _ _ 0 rfl rfl rfl rfl (by rw [hbS]; decide) (by decide) (Nat.le_refl _) ?_))
    intro w1 hH hg1
    have HB1 := Lib.hid (below_grown HB.out hg1 HB.out.size (fun _ h => by cases h))
    clear hH hg1 hiS hzS hsS hbS HB
    go_wp2_with fail
    go_loopg [6] 0 (fun kx s6 wr => s6 = .int .i64 0 ∧ Hid (Below w.heap.size w wr))
    case atStart => exact ⟨rfl, HB1⟩
    case round =>
      clear HB1
      obtain ⟨rfl, HB2⟩ := hrel
      go_wp2_with fail
      go_loopg [9] 0 (fun kx s9 wr => s9 = .int .i64 0 ∧ Hid (Below w.heap.size w wr))
      case atStart => exact ⟨rfl, HB2⟩
      case round =>
        clear HB2
        obtain ⟨rfl, HB3⟩ := hrel
        go_wp2_with fail
        go_loopg [11] 0 (fun kx s11 wr => s11 = .int .i64 0 ∧ Hid (Below w.heap.size w wr))
        case atStart => exact ⟨rfl, HB3⟩
        case round =>
          clear HB3
          obtain ⟨rfl, HB4⟩ := hrel
          go_wp2_with fail
          go_loopg [14] 0 (fun kx s14 wr => s14 = .int .i64 0 ∧ Hid (Below w.heap.size w wr))
          case atStart => exact ⟨rfl, HB4⟩
          case round =>
            clear HB4
            obtain ⟨rfl, HB5⟩ := hrel
            go_wp2_with fail
            go_ret
            exact ⟨rfl, HB5.out⟩
theorem infoNStates : (Try.prog.info? 145).map (fun i => (i.zero, i.size, i.bytes)) = some (some (.slice none 0 0), 1, 24) := by kernel_rfl
set_option maxHeartbeats 4000000 in
set_option maxRecDepth 100000 in
theorem flatStates_nil (w : World) : Calls Try.prog 57 #[.slice none 0 0] w fun e w' => e = .returned (.bool true) ∧ Below w.heap.size w w' := by
  go_enter Try.func57, Try.ntmps57
  go_wp2_with fail
  go_loopg [3] 0 (fun kx s3 wr => s3 = .int .i64 0 ∧ Hid (Below w.heap.size w wr))
  case atStart => exact ⟨rfl, Lib.hid (Below.refl _ _)⟩
  case round =>
    obtain ⟨rfl, HB⟩ := hrel
    obtain ⟨iS, hiS, hzS, hsS, hbS⟩ := info_parts infoNStates
    go_wp2_with (first | (at_make; refine wpList_make_full _ rfl _ _ 66 rfl wr.heap.size 145 iS _ 1 Try.underlying66 hiS hzS hsS .i64 .i64 _ _ 0 rfl rfl rfl rfl (by rw [hbS]; decide) (by decide) (Nat.le_refl _) ?_))
    intro w1 hH hg1
    have HB1 := Lib.hid (below_grown HB.out hg1 HB.out.size (fun _ h => by cases h))
    clear hH hg1 hiS hzS hsS hbS HB
    go_wp2_with fail
    go_loopg [6] 0 (fun kx s6 wr => s6 = .int .i64 0 ∧ Hid (Below w.heap.size w wr))
    case atStart => exact ⟨rfl, HB1⟩
    case round =>
      clear HB1
      obtain ⟨rfl, HB2⟩ := hrel
      go_wp2_with fail
      go_loopg [9] 0 (fun kx s9 wr => s9 = .int .i64 0 ∧ Hid (Below w.heap.size w wr))
      case atStart => exact ⟨rfl, HB2⟩
      case round =>
        clear HB2
        obtain ⟨rfl, HB3⟩ := hrel
        go_wp2_with fail
        go_loopg [11] 0 (fun kx s11 wr => s11 = .int .i64 0 ∧ Hid (Below w.heap.size w wr))
        case atStart => exact ⟨rfl, HB3⟩
        case round =>
          clear HB3
          obtain ⟨rfl, HB4⟩ := hrel
          go_wp2_with fail
          go_loopg [14] 0 (fun kx s14 wr => s14 = .int .i64 0 ∧ Hid (Below w.heap.size w wr))
          case atStart => exact ⟨rfl, HB4⟩
          case round =>
            clear HB4
            obtain ⟨rfl, HB5⟩ := hrel
            go_wp2_with fail
            go_ret
            exact ⟨rfl, HB5.out⟩
theorem infoNRows : (Try.prog.info? 150).map (fun i => (i.zero, i.size, i.bytes)) = some (some (.slice none 0 0), 1, 24) := by kernel_rfl
set_option maxHeartbeats 4000000 in
set_option maxRecDepth 100000 in
theorem flatRows_nil (w : World) : Calls Try.prog 58 #[.slice none 0 0] w fun e w' => e = .returned (.bool true) ∧ Below w.heap.size w w' := by
  go_enter Try.func58, Try.ntmps58
  go_wp2_with fail
  go_loopg [3] 0 (fun kx s3 wr => s3 = .int .i64 0 ∧ Hid (Below w.heap.size w wr))
  case atStart => exact ⟨rfl, Lib.hid (Below.refl _ _)⟩
  case round =>
    obtain ⟨rfl, HB⟩ := hrel
    obtain ⟨iS, hiS, hzS, hsS, hbS⟩ := info_parts infoNRows
    go_wp2_with (first | (at_make; refine wpList_make_full _ rfl _ _ 67 rfl wr.heap.size 150 iS _ 1 Try.underlying67 hiS hzS hsS .i64 .i64 _ _ 0 rfl rfl rfl rfl (by rw [hbS]; decide) (by decide) (Nat.le_refl _) ?_))
    intro w1 hH hg1
    have HB1 := Lib.hid (below_grown HB.out hg1 HB.out.size (fun _ h => by cases h))
    clear hH hg1 hiS hzS hsS hbS HB
    go_wp2_with fail
    go_loopg [6] 0 (fun kx s6 wr => s6 = .int .i64 0 ∧ Hid (Below w.heap.size w wr))
    case atStart => exact ⟨rfl, HB1⟩
    case round =>
      clear HB1
      obtain ⟨rfl, HB2⟩ := hrel
      go_wp2_with fail
      go_loopg [9] 0 (fun kx s9 wr => s9 = .int .i64 0 ∧ Hid (Below w.heap.size w wr))
      case atStart => exact ⟨rfl, HB2⟩
      case round =>
        clear HB2
        obtain ⟨rfl, HB3⟩ := hrel
        go_wp2_with fail
        go_loopg [11] 0 (fun kx s11 wr => s11 = .int .i64 0 ∧ Hid (Below w.heap.size w wr))
        case atStart => exact ⟨rfl, HB3⟩
        case round =>
          clear HB3
          obtain ⟨rfl, HB4⟩ := hrel
          go_wp2_with fail
          go_loopg [14] 0 (fun kx s14 wr => s14 = .int .i64 0 ∧ Hid (Below w.heap.size w wr))
          case atStart => exact ⟨rfl, HB4⟩
          case round =>
            clear HB4
            obtain ⟨rfl, HB5⟩ := hrel
            go_wp2_with fail
            go_ret
            exact ⟨rfl, HB5.out⟩
theorem infoNTurns : (Try.prog.info? 155).map (fun i => (i.zero, i.size, i.bytes)) = some (some (.slice none 0 0), 1, 24) := by kernel_rfl
set_option maxHeartbeats 4000000 in
set_option maxRecDepth 100000 in
theorem flatTurns_nil (w : World) : Calls Try.prog 59 #[.slice none 0 0] w fun e w' => e = .returned (.bool true) ∧ Below w.heap.size w w' := by
  go_enter Try.func59, Try.ntmps59
  go_wp2_with fail
  go_loopg [3] 0 (fun kx s3 wr => s3 = .int .i64 0 ∧ Hid (Below w.heap.size w wr))
  case atStart => exact ⟨rfl, Lib.hid (Below.refl _ _)⟩
  case round =>
    obtain ⟨rfl, HB⟩ := hrel
    obtain ⟨iS, hiS, hzS, hsS, hbS⟩ := info_parts infoNTurns
    go_wp2_with (first | (at_make; refine wpList_make_full _ rfl _ _ 68 rfl wr.heap.size 155 iS _ 1 Try.underlying68 hiS hzS hsS .i64 .i64 _ _ 0 rfl rfl rfl rfl (by rw [hbS]; decide) (by decide) (Nat.le_refl _) ?_))
    intro w1 hH hg1
    have HB1 := Lib.hid (below_grown HB.out hg1 HB.out.size (fun _ h => by cases h))
    clear hH hg1 hiS hzS hsS hbS HB
    go_wp2_with fail
    go_loopg [6] 0 (fun kx s6 wr => s6 = .int .i64 0 ∧ Hid (Below w.heap.size w wr))
    case atStart => exact ⟨rfl, HB1⟩
    case round =>
      clear HB1
      obtain ⟨rfl, HB2⟩ := hrel
      go_wp2_with fail
      go_loopg [9] 0 (fun kx s9 wr => s9 = .int .i64 0 ∧ Hid (Below w.heap.size w wr))
      case atStart => exact ⟨rfl, HB2⟩
      case round =>
        clear HB2
        obtain ⟨rfl, HB3⟩ := hrel
        go_wp2_with fail
        go_loopg [11] 0 (fun kx s11 wr => s11 = .int .i64 0 ∧ Hid (Below w.heap.size w wr))
        case atStart => exact ⟨rfl, HB3⟩
        case round =>
          clear HB3
          obtain ⟨rfl, HB4⟩ := hrel
          go_wp2_with fail
          go_loopg [14] 0 (fun kx s14 wr => s14 = .int .i64 0 ∧ Hid (Below w.heap.size w wr))
          case atStart => exact ⟨rfl, HB4⟩
          case round =>
            clear HB4
            obtain ⟨rfl, HB5⟩ := hrel
            go_wp2_with fail
            go_ret
            exact ⟨rfl, HB5.out⟩
theorem infoNFates : (Try.prog.info? 160).map (fun i => (i.zero, i.size, i.bytes)) = some (some (.slice none 0 0), 1, 24) := by kernel_rfl
set_option maxHeartbeats 4000000 in
set_option maxRecDepth 100000 in
theorem flatFates_nil (w : World) : Calls Try.prog 60 #[.slice none 0 0] w fun e w' => e = .returned (.bool true) ∧ Below w.heap.size w w' := by
  go_enter Try.func60, Try.ntmps60
  go_wp2_with fail
  go_loopg [3] 0 (fun kx s3 wr => s3 = .int .i64 0 ∧ Hid (Below w.heap.size w wr))
  case atStart => exact ⟨rfl, Lib.hid (Below.refl _ _)⟩
  case round =>
    obtain ⟨rfl, HB⟩ := hrel
    obtain ⟨iS, hiS, hzS, hsS, hbS⟩ := info_parts infoNFates
    go_wp2_with (first | (at_make; refine wpList_make_full _ rfl _ _ 69 rfl wr.heap.size 160 iS _ 1 Try.underlying69 hiS hzS hsS .i64 .i64 _ _ 0 rfl rfl rfl rfl (by rw [hbS]; decide) (by decide) (Nat.le_refl _) ?_))
    intro w1 hH hg1
    have HB1 := Lib.hid (below_grown HB.out hg1 HB.out.size (fun _ h => by cases h))
    clear hH hg1 hiS hzS hsS hbS HB
    go_wp2_with fail
    go_loopg [6] 0 (fun kx s6 wr => s6 = .int .i64 0 ∧ Hid (Below w.heap.size w wr))
    case atStart => exact ⟨rfl, HB1⟩
    case round =>
      clear HB1
      obtain ⟨rfl, HB2⟩ := hrel
      go_wp2_with fail
      go_loopg [9] 0 (fun kx s9 wr => s9 = .int .i64 0 ∧ Hid (Below w.heap.size w wr))
      case atStart => exact ⟨rfl, HB2⟩
      case round =>
        clear HB2
        obtain ⟨rfl, HB3⟩ := hrel
        go_wp2_with fail
        go_loopg [11] 0 (fun kx s11 wr => s11 = .int .i64 0 ∧ Hid (Below w.heap.size w wr))
        case atStart => exact ⟨rfl, HB3⟩
        case round =>
          clear HB3
          obtain ⟨rfl, HB4⟩ := hrel
          go_wp2_with fail
          go_loopg [14] 0 (fun kx s14 wr => s14 = .int .i64 0 ∧ Hid (Below w.heap.size w wr))
          case atStart => exact ⟨rfl, HB4⟩
          case round =>
            clear HB4
            obtain ⟨rfl, HB5⟩ := hrel
            go_wp2_with fail
            go_ret
            exact ⟨rfl, HB5.out⟩
theorem infoNDirties : (Try.prog.info? 164).map (fun i => (i.zero, i.size, i.bytes)) = some (some (.slice none 0 0), 1, 24) := by kernel_rfl
set_option maxHeartbeats 4000000 in
set_option maxRecDepth 100000 in
theorem flatDirties_nil (w : World) : Calls Try.prog 61 #[.slice none 0 0] w fun e w' => e = .returned (.bool true) ∧ Below w.heap.size w w' := by
  go_enter Try.func61, Try.ntmps61
  go_wp2_with fail
  go_loopg [3] 0 (fun kx s3 wr => s3 = .int .i64 0 ∧ Hid (Below w.heap.size w wr))
  case atStart => exact ⟨rfl, Lib.hid (Below.refl _ _)⟩
  case round =>
    obtain ⟨rfl, HB⟩ := hrel
    obtain ⟨iS, hiS, hzS, hsS, hbS⟩ := info_parts infoNDirties
    go_wp2_with (first | (at_make; refine wpList_make_full _ rfl _ _ 70 rfl wr.heap.size 164 iS _ 1 Try.underlying70 hiS hzS hsS .i64 .i64 _ _ 0 rfl rfl rfl rfl (by rw [hbS]; decide) (by decide) (Nat.le_refl _) ?_))
    intro w1 hH hg1
    have HB1 := Lib.hid (below_grown HB.out hg1 HB.out.size (fun _ h => by cases h))
    clear hH hg1 hiS hzS hsS hbS HB
    go_wp2_with fail
    go_loopg [6] 0 (fun kx s6 wr => s6 = .int .i64 0 ∧ Hid (Below w.heap.size w wr))
    case atStart => exact ⟨rfl, HB1⟩
    case round =>
      clear HB1
      obtain ⟨rfl, HB2⟩ := hrel
      go_wp2_with fail
      go_loopg [9] 0 (fun kx s9 wr => s9 = .int .i64 0 ∧ Hid (Below w.heap.size w wr))
      case atStart => exact ⟨rfl, HB2⟩
      case round =>
        clear HB2
        obtain ⟨rfl, HB3⟩ := hrel
        go_wp2_with fail
        go_loopg [11] 0 (fun kx s11 wr => s11 = .int .i64 0 ∧ Hid (Below w.heap.size w wr))
        case atStart => exact ⟨rfl, HB3⟩
        case round =>
          clear HB3
          obtain ⟨rfl, HB4⟩ := hrel
          go_wp2_with fail
          go_loopg [14] 0 (fun kx s14 wr => s14 = .int .i64 0 ∧ Hid (Below w.heap.size w wr))
          case atStart => exact ⟨rfl, HB4⟩
          case round =>
            clear HB4
            obtain ⟨rfl, HB5⟩ := hrel
            go_wp2_with fail
            go_ret
            exact ⟨rfl, HB5.out⟩
theorem infoNOpens : (Try.prog.info? 168).map (fun i => (i.zero, i.size, i.bytes)) = some (some (.slice none 0 0), 1, 24) := by kernel_rfl
set_option maxHeartbeats 4000000 in
set_option maxRecDepth 100000 in
theorem flatOpens_nil (w : World) : Calls Try.prog 62 #[.slice none 0 0] w fun e w' => e = .returned (.bool true) ∧ Below w.heap.size w w' := by
  go_enter Try.func62, Try.ntmps62
  go_wp2_with fail
  go_loopg [3] 0 (fun kx s3 wr => s3 = .int .i64 0 ∧ Hid (Below w.heap.size w wr))
  case atStart => exact ⟨rfl, Lib.hid (Below.refl _ _)⟩
  case round =>
    obtain ⟨rfl, HB⟩ := hrel
    obtain ⟨iS, hiS, hzS, hsS, hbS⟩ := info_parts infoNOpens
    go_wp2_with (first | (at_make; refine wpList_make_full _ rfl _ _ 71 rfl wr.heap.size 168 iS _ 1 Try.underlying71 hiS hzS hsS .i64 .i64 _ _ 0 rfl rfl rfl rfl (by rw [hbS]; decide) (by decide) (Nat.le_refl _) ?_))
    intro w1 hH hg1
    have HB1 := Lib.hid (below_grown HB.out hg1 HB.out.size (fun _ h => by cases h))
    clear hH hg1 hiS hzS hsS hbS HB
    go_wp2_with fail
    go_loopg [6] 0 (fun kx s6 wr => s6 = .int .i64 0 ∧ Hid (Below w.heap.size w wr))
    case atStart => exact ⟨rfl, HB1⟩
    case round =>
      clear HB1
      obtain ⟨rfl, HB2⟩ := hrel
      go_wp2_with fail
      go_loopg [9] 0 (fun kx s9 wr => s9 = .int .i64 0 ∧ Hid (Below w.heap.size w wr))
      case atStart => exact ⟨rfl, HB2⟩
      case round =>
        clear HB2
        obtain ⟨rfl, HB3⟩ := hrel
        go_wp2_with fail
        go_loopg [11] 0 (fun kx s11 wr => s11 = .int .i64 0 ∧ Hid (Below w.heap.size w wr))
        case atStart => exact ⟨rfl, HB3⟩
        case round =>
          clear HB3
          obtain ⟨rfl, HB4⟩ := hrel
          go_wp2_with fail
          go_loopg [14] 0 (fun kx s14 wr => s14 = .int .i64 0 ∧ Hid (Below w.heap.size w wr))
          case atStart => exact ⟨rfl, HB4⟩
          case round =>
            clear HB4
            obtain ⟨rfl, HB5⟩ := hrel
            go_wp2_with fail
            go_ret
            exact ⟨rfl, HB5.out⟩
theorem infoNRecords : (Try.prog.info? 172).map (fun i => (i.zero, i.size, i.bytes)) = some (some (.slice none 0 0), 1, 24) := by kernel_rfl
set_option maxHeartbeats 4000000 in
set_option maxRecDepth 100000 in
theorem flatRecords_nil (w : World) : Calls Try.prog 63 #[.slice none 0 0] w fun e w' => e = .returned (.bool true) ∧ Below w.heap.size w w' := by
  go_enter Try.func63, Try.ntmps63
  go_wp2_with fail
  go_loopg [3] 0 (fun kx s3 wr => s3 = .int .i64 0 ∧ Hid (Below w.heap.size w wr))
  case atStart => exact ⟨rfl, Lib.hid (Below.refl _ _)⟩
  case round =>
    obtain ⟨rfl, HB⟩ := hrel
    obtain ⟨iS, hiS, hzS, hsS, hbS⟩ := info_parts infoNRecords
    go_wp2_with (first | (at_make; refine wpList_make_full _ rfl _ _ 72 rfl wr.heap.size 172 iS _ 1 Try.underlying72 hiS hzS hsS .i64 .i64 _ _ 0 rfl rfl rfl rfl (by rw [hbS]; decide) (by decide) (Nat.le_refl _) ?_))
    intro w1 hH hg1
    have HB1 := Lib.hid (below_grown HB.out hg1 HB.out.size (fun _ h => by cases h))
    clear hH hg1 hiS hzS hsS hbS HB
    go_wp2_with fail
    go_loopg [6] 0 (fun kx s6 wr => s6 = .int .i64 0 ∧ Hid (Below w.heap.size w wr))
    case atStart => exact ⟨rfl, HB1⟩
    case round =>
      clear HB1
      obtain ⟨rfl, HB2⟩ := hrel
      go_wp2_with fail
      go_loopg [9] 0 (fun kx s9 wr => s9 = .int .i64 0 ∧ Hid (Below w.heap.size w wr))
      case atStart => exact ⟨rfl, HB2⟩
      case round =>
        clear HB2
        obtain ⟨rfl, HB3⟩ := hrel
        go_wp2_with fail
        go_loopg [11] 0 (fun kx s11 wr => s11 = .int .i64 0 ∧ Hid (Below w.heap.size w wr))
        case atStart => exact ⟨rfl, HB3⟩
        case round =>
          clear HB3
          obtain ⟨rfl, HB4⟩ := hrel
          go_wp2_with fail
          go_loopg [14] 0 (fun kx s14 wr => s14 = .int .i64 0 ∧ Hid (Below w.heap.size w wr))
          case atStart => exact ⟨rfl, HB4⟩
          case round =>
            clear HB4
            obtain ⟨rfl, HB5⟩ := hrel
            go_wp2_with fail
            go_ret
            exact ⟨rfl, HB5.out⟩
theorem infoNSteps : (Try.prog.info? 178).map (fun i => (i.zero, i.size, i.bytes)) = some (some (.slice none 0 0), 1, 24) := by kernel_rfl
set_option maxHeartbeats 4000000 in
set_option maxRecDepth 100000 in
theorem flatSteps_nil (w : World) : Calls Try.prog 64 #[.slice none 0 0] w fun e w' => e = .returned (.bool true) ∧ Below w.heap.size w w' := by
  go_enter Try.func64, Try.ntmps64
  go_wp2_with fail
  go_loopg [3] 0 (fun kx s3 wr => s3 = .int .i64 0 ∧ Hid (Below w.heap.size w wr))
  case atStart => exact ⟨rfl, Lib.hid (Below.refl _ _)⟩
  case round =>
    obtain ⟨rfl, HB⟩ := hrel
    obtain ⟨iS, hiS, hzS, hsS, hbS⟩ := info_parts infoNSteps
    go_wp2_with (first | (at_make; refine wpList_make_full _ rfl _ _ 73 rfl wr.heap.size 178 iS _ 1 Try.underlying73 hiS hzS hsS .i64 .i64 _ _ 0 rfl rfl rfl rfl (by rw [hbS]; decide) (by decide) (Nat.le_refl _) ?_))
    intro w1 hH hg1
    have HB1 := Lib.hid (below_grown HB.out hg1 HB.out.size (fun _ h => by cases h))
    clear hH hg1 hiS hzS hsS hbS HB
    go_wp2_with fail
    go_loopg [6] 0 (fun kx s6 wr => s6 = .int .i64 0 ∧ Hid (Below w.heap.size w wr))
    case atStart => exact ⟨rfl, HB1⟩
    case round =>
      clear HB1
      obtain ⟨rfl, HB2⟩ := hrel
      go_wp2_with fail
      go_loopg [9] 0 (fun kx s9 wr => s9 = .int .i64 0 ∧ Hid (Below w.heap.size w wr))
      case atStart => exact ⟨rfl, HB2⟩
      case round =>
        clear HB2
        obtain ⟨rfl, HB3⟩ := hrel
        go_wp2_with fail
        go_loopg [11] 0 (fun kx s11 wr => s11 = .int .i64 0 ∧ Hid (Below w.heap.size w wr))
        case atStart => exact ⟨rfl, HB3⟩
        case round =>
          clear HB3
          obtain ⟨rfl, HB4⟩ := hrel
          go_wp2_with fail
          go_loopg [14] 0 (fun kx s14 wr => s14 = .int .i64 0 ∧ Hid (Below w.heap.size w wr))
          case atStart => exact ⟨rfl, HB4⟩
          case round =>
            clear HB4
            obtain ⟨rfl, HB5⟩ := hrel
            go_wp2_with fail
            go_ret
            exact ⟨rfl, HB5.out⟩
theorem infoNTales : (Try.prog.info? 184).map (fun i => (i.zero, i.size, i.bytes)) = some (some (.slice none 0 0), 1, 24) := by kernel_rfl
set_option maxHeartbeats 4000000 in
set_option maxRecDepth 100000 in
theorem flatTales_nil (w : World) : Calls Try.prog 65 #[.slice none 0 0] w fun e w' => e = .returned (.bool true) ∧ Below w.heap.size w w' := by
  go_enter Try.func65, Try.ntmps65
  go_wp2_with fail
  go_loopg [3] 0 (fun kx s3 wr => s3 = .int .i64 0 ∧ Hid (Below w.heap.size w wr))
  case atStart => exact ⟨rfl, Lib.hid (Below.refl _ _)⟩
  case round =>
    obtain ⟨rfl, HB⟩ := hrel
    obtain ⟨iS, hiS, hzS, hsS, hbS⟩ := info_parts infoNTales
    go_wp2_with (first | (at_make; refine wpList_make_full _ rfl _ _ 74 rfl wr.heap.size 184 iS _ 1 Try.underlying74 hiS hzS hsS .i64 .i64 _ _ 0 rfl rfl rfl rfl (by rw [hbS]; decide) (by decide) (Nat.le_refl _) ?_))
    intro w1 hH hg1
    have HB1 := Lib.hid (below_grown HB.out hg1 HB.out.size (fun _ h => by cases h))
    clear hH hg1 hiS hzS hsS hbS HB
    go_wp2_with fail
    go_loopg [6] 0 (fun kx s6 wr => s6 = .int .i64 0 ∧ Hid (Below w.heap.size w wr))
    case atStart => exact ⟨rfl, HB1⟩
    case round =>
      clear HB1
      obtain ⟨rfl, HB2⟩ := hrel
      go_wp2_with fail
      go_loopg [9] 0 (fun kx s9 wr => s9 = .int .i64 0 ∧ Hid (Below w.heap.size w wr))
      case atStart => exact ⟨rfl, HB2⟩
      case round =>
        clear HB2
        obtain ⟨rfl, HB3⟩ := hrel
        go_wp2_with fail
        go_loopg [11] 0 (fun kx s11 wr => s11 = .int .i64 0 ∧ Hid (Below w.heap.size w wr))
        case atStart => exact ⟨rfl, HB3⟩
        case round =>
          clear HB3
          obtain ⟨rfl, HB4⟩ := hrel
          go_wp2_with fail
          go_loopg [14] 0 (fun kx s14 wr => s14 = .int .i64 0 ∧ Hid (Below w.heap.size w wr))
          case atStart => exact ⟨rfl, HB4⟩
          case round =>
            clear HB4
            obtain ⟨rfl, HB5⟩ := hrel
            go_wp2_with fail
            go_ret
            exact ⟨rfl, HB5.out⟩
end Go.Proofs.Ytokmkjgbhlcngaa.Ap
namespace Go.Proofs.Ytokmkjgbhlcngaa.Ap
open Go.RowKit Go.Sort Go.Lib Go.Proofs
set_option linter.all false

theorem builtPLines (A : Option Addr) (n c : Nat) : Try.prog.builtSlice 29 1 [(0, .slice A n c)] = some [Value.slice A n c].toArray := by kernel_rfl
set_option maxHeartbeats 4000000 in
set_option maxRecDepth 100000 in
theorem putLines_runs (B Bk : Nat) (cur : Array Value) (v : Value) (n : Nat) (hs : List Value) (A : Option Addr) (x c : Nat) (w : World)
    (hb : w.heap[Bk]? = some (.cells cur 76 (0, 0))) (hB : B ≤ Bk) (hc : cur[11]? = some v) (how : ownW w B 29 1 v n hs) (hn : n ≤ 1000000000) :
    Calls Try.prog 38 #[.pointer (some ⟨Bk, 0, none⟩), .slice A x c] w fun e w' => e = .returned (.tuple #[]) ∧ Below B w w' ∧ ∃ v', w'.heap[Bk]? = some (.cells (cur.setIfInBounds 11 v') 76 (0, 0)) ∧ ownW w' B 29 1 v' (n + 1) (hs ++ [.slice A x c]) := by
  obtain ⟨A0, c0, rfl, hnc, -⟩ := how.slice
  have HB := Lib.hid hb
  have HBB := Lib.hid hB
  have HOW := Lib.hid how
  have hlt := (Array.getElem?_eq_some_iff.1 hb).1
  have hcell : w.cell? ⟨Bk, 11, none⟩ = some (.slice A0 n c0) := cell_hd hb hc
  have hBs : B ≤ w.heap.size := by omega
  clear hb how
  go_enter Try.func38, Try.ntmps38
  go_wp2_with (first | ((with_reducible refine gate_bs _ _ #[(0, .tmp 9)] rfl ?_); go_loud (refine wpList_buildV rfl 36 29 (.tmp 9) rfl Try.underlying36 w.heap.size rfl (.slice A x c) [.slice A x c] rfl (builtPLines A x c) ?_)) | ((with_reducible refine gate_ap #[.tmp 8, .tmp 10] _ rfl ?_); go_loud (refine wpList_append_ownW _ rfl (.tmp 8) (.tmp 10) 36 rfl B 29 (.slice none 0 0) 1 24 Try.underlying36 infoNLines rfl (by decide) (.slice A0 n c0) n hs rfl (HOW.out.below (Below.alloc (Below.refl _ _) (Nat.le_refl _) _)) ⟨w.heap.size, 0, none⟩ 1 1 [.slice A x c] rfl rfl (new_cell w [.slice A x c] 29) (by intro u hu; rw [List.mem_singleton.1 hu]; rfl) (by decide) (by simp only [maxLen]; omega) (by omega) (Nat.le_trans hBs (alloc_le w _)) ?_; intro v' w2 ho2 hg2 hs2 hkk; have HB2 : Hid (w2.heap[Bk]? = some (.cells cur 76 (0, 0))) := Lib.hid ((hg2.block Bk (Nat.lt_of_lt_of_le hlt (alloc_le w _)) (own_ne HOW.out HB.out (by decide))).trans ((Below.heap_alloc w _ _ hlt).trans HB.out)); have hcell2 : w2.cell? ⟨Bk, 11, none⟩ = some (.slice A0 n c0) := cell_hd HB2.out hc; have hfz := froz_of HB2.out 11; obtain ⟨A2, c2, rfl, -, -⟩ := ho2.slice; have HO2 := Lib.hid ho2; have HG2 := Lib.hid hg2; clear ho2 hg2 hs2 hkk)))
  go_end0
  refine ⟨rfl, ?_, .slice A2 (n + 1) c2, ?_, ?_⟩
  · exact (below_grown (Below.alloc (Below.refl B w) hBs _) HG2.out (Nat.le_trans hBs (alloc_le w _)) (fun k hk => (HOW.out.lt k hk).1)).setCell (p := ⟨Bk, 11, none⟩) HBB.out _
  · exact setCell_block HB2.out 11 _
  · exact HO2.out.keep (fun k hk => Below.heap_setCell w2 ⟨Bk, 11, none⟩ _ k (own_ne2 HO2.out HB2.out (by decide) hk))
end Go.Proofs.Ytokmkjgbhlcngaa.Ap
namespace Go.Proofs.Ytokmkjgbhlcngaa.Ap
open Go.RowKit Go.Sort Go.Lib Go.Proofs
set_option linter.all false
attribute [local irreducible] Go.Calls
set_option maxHeartbeats 8000000 in
set_option maxRecDepth 100000 in
theorem apartLines_runs (Bk : Nat) (cur : Array Value) (m G capG B : Nat) (cG : Array Value) (v : Nat → Value) (n : Nat → Nat) (w : World)
    (hb : w.heap[Bk]? = some (.cells cur 76 (0, 0))) (hnil : ∀ f, f < 23 → f ≠ 11 → cur[f]? = some (.slice none 0 0)) (hbag : cur[11]? = some (.slice (some ⟨G, 0, none⟩) m capG))
    (hG : w.heap[G]? = some (.cells cG 29 (0, 0))) (hv : ∀ k, k < m → cG[k]? = some (v k)) (hown : ∀ k, k < m → ∃ xs, ownW w B 24 8 (v k) (n k) xs)
    (hap : ∀ j k, j < m → k < m → j ≠ k → ∀ b, (v j).ownBlock = some b → (v k).ownBlock ≠ some b) (hn : ∀ k, k < m → n k ≤ 1000000000) (hm : m ≤ 1000000000) (hB : B ≤ w.heap.size) :
    Calls Try.prog 39 #[.pointer (some ⟨Bk, 0, none⟩)] w fun e w' => e = .returned (.bool true) ∧ Below B w w' := by
  have HN := Lib.hid hnil
  have HG0 := Lib.hid hG
  have HV := Lib.hid hv
  have HOW := Lib.hid hown
  have HAP := Lib.hid hap
  have HNN := Lib.hid hn
  have HK0 := Lib.hid hb
  have HS0 := Lib.hid hB
  have HB0 : Hid (Below B w w) := Lib.hid (Below.refl _ _)
  have HW0 : Hid (Below w.heap.size w w) := Lib.hid (Below.refl _ _)
  have c0 : w.cell? ⟨Bk, 0, none⟩ = some (.slice none 0 0) := cell_hd HK0.out (HN.out 0 (by decide) (by decide))
  clear hnil hG hv hown hap hn hb hB
  go_enter Try.func39, Try.ntmps39
  go_wp2_with fail
  refine (flatWords_nil _).mono ?_
  rintro e w1 ⟨rfl, hb⟩
  have HK1 := Lib.hid ((hb.block Bk (Array.getElem?_eq_some_iff.1 HK0.out).1).trans HK0.out)
  have HB1 := Lib.hid (below_on HB0.out HS0.out hb)
  have HS1 := Lib.hid (Nat.le_trans HS0.out hb.size)
  have HW1 := Lib.hid (below_on HW0.out HW0.out.size hb)
  clear hb c0 HB0 HS0 HK0 HW0
  have c1 : w1.cell? ⟨Bk, 1, none⟩ = some (.slice none 0 0) := cell_hd HK1.out (HN.out 1 (by decide) (by decide))
  go_wp2_with fail
  refine (flatInts_nil _).mono ?_
  rintro e w2 ⟨rfl, hb⟩
  have HK2 := Lib.hid ((hb.block Bk (Array.getElem?_eq_some_iff.1 HK1.out).1).trans HK1.out)
  have HB2 := Lib.hid (below_on HB1.out HS1.out hb)
  have HS2 := Lib.hid (Nat.le_trans HS1.out hb.size)
  have HW2 := Lib.hid (below_on HW1.out HW1.out.size hb)
  clear hb c1 HB1 HS1 HK1 HW1
  have c2 : w2.cell? ⟨Bk, 2, none⟩ = some (.slice none 0 0) := cell_hd HK2.out (HN.out 2 (by decide) (by decide))
  go_wp2_with fail
  refine (flatLongs_nil _).mono ?_
  rintro e w3 ⟨rfl, hb⟩
  have HK3 := Lib.hid ((hb.block Bk (Array.getElem?_eq_some_iff.1 HK2.out).1).trans HK2.out)
  have HB3 := Lib.hid (below_on HB2.out HS2.out hb)
  have HS3 := Lib.hid (Nat.le_trans HS2.out hb.size)
  have HW3 := Lib.hid (below_on HW2.out HW2.out.size hb)
  clear hb c2 HB2 HS2 HK2 HW2
  have c3 : w3.cell? ⟨Bk, 3, none⟩ = some (.slice none 0 0) := cell_hd HK3.out (HN.out 3 (by decide) (by decide))
  go_wp2_with fail
  refine (flatTexts_nil _).mono ?_
  rintro e w4 ⟨rfl, hb⟩
  have HK4 := Lib.hid ((hb.block Bk (Array.getElem?_eq_some_iff.1 HK3.out).1).trans HK3.out)
  have HB4 := Lib.hid (below_on HB3.out HS3.out hb)
  have HS4 := Lib.hid (Nat.le_trans HS3.out hb.size)
  have HW4 := Lib.hid (below_on HW3.out HW3.out.size hb)
  clear hb c3 HB3 HS3 HK3 HW3
  have c4 : w4.cell? ⟨Bk, 4, none⟩ = some (.slice none 0 0) := cell_hd HK4.out (HN.out 4 (by decide) (by decide))
  go_wp2_with fail
  refine (flatBytes_nil _).mono ?_
  rintro e w5 ⟨rfl, hb⟩
  have HK5 := Lib.hid ((hb.block Bk (Array.getElem?_eq_some_iff.1 HK4.out).1).trans HK4.out)
  have HB5 := Lib.hid (below_on HB4.out HS4.out hb)
  have HS5 := Lib.hid (Nat.le_trans HS4.out hb.size)
  have HW5 := Lib.hid (below_on HW4.out HW4.out.size hb)
  clear hb c4 HB4 HS4 HK4 HW4
  have c5 : w5.cell? ⟨Bk, 5, none⟩ = some (.slice none 0 0) := cell_hd HK5.out (HN.out 5 (by decide) (by decide))
  go_wp2_with fail
  refine (flatWindows_nil _).mono ?_
  rintro e w6 ⟨rfl, hb⟩
  have HK6 := Lib.hid ((hb.block Bk (Array.getElem?_eq_some_iff.1 HK5.out).1).trans HK5.out)
  have HB6 := Lib.hid (below_on HB5.out HS5.out hb)
  have HS6 := Lib.hid (Nat.le_trans HS5.out hb.size)
  have HW6 := Lib.hid (below_on HW5.out HW5.out.size hb)
  clear hb c5 HB5 HS5 HK5 HW5
  have c6 : w6.cell? ⟨Bk, 6, none⟩ = some (.slice none 0 0) := cell_hd HK6.out (HN.out 6 (by decide) (by decide))
  go_wp2_with fail
  refine (flatLots_nil _).mono ?_
  rintro e w7 ⟨rfl, hb⟩
  have HK7 := Lib.hid ((hb.block Bk (Array.getElem?_eq_some_iff.1 HK6.out).1).trans HK6.out)
  have HB7 := Lib.hid (below_on HB6.out HS6.out hb)
  have HS7 := Lib.hid (Nat.le_trans HS6.out hb.size)
  have HW7 := Lib.hid (below_on HW6.out HW6.out.size hb)
  clear hb c6 HB6 HS6 HK6 HW6
  have c7 : w7.cell? ⟨Bk, 7, none⟩ = some (.slice none 0 0) := cell_hd HK7.out (HN.out 7 (by decide) (by decide))
  go_wp2_with fail
  refine (flatWants_nil _).mono ?_
  rintro e w8 ⟨rfl, hb⟩
  have HK8 := Lib.hid ((hb.block Bk (Array.getElem?_eq_some_iff.1 HK7.out).1).trans HK7.out)
  have HB8 := Lib.hid (below_on HB7.out HS7.out hb)
  have HS8 := Lib.hid (Nat.le_trans HS7.out hb.size)
  have HW8 := Lib.hid (below_on HW7.out HW7.out.size hb)
  clear hb c7 HB7 HS7 HK7 HW7
  have c8 : w8.cell? ⟨Bk, 8, none⟩ = some (.slice none 0 0) := cell_hd HK8.out (HN.out 8 (by decide) (by decide))
  go_wp2_with fail
  refine (flatUses_nil _).mono ?_
  rintro e w9 ⟨rfl, hb⟩
  have HK9 := Lib.hid ((hb.block Bk (Array.getElem?_eq_some_iff.1 HK8.out).1).trans HK8.out)
  have HB9 := Lib.hid (below_on HB8.out HS8.out hb)
  have HS9 := Lib.hid (Nat.le_trans HS8.out hb.size)
  have HW9 := Lib.hid (below_on HW8.out HW8.out.size hb)
  clear hb c8 HB8 HS8 HK8 HW8
  have c9 : w9.cell? ⟨Bk, 9, none⟩ = some (.slice none 0 0) := cell_hd HK9.out (HN.out 9 (by decide) (by decide))
  go_wp2_with fail
  refine (flatParts_nil _).mono ?_
  rintro e w10 ⟨rfl, hb⟩
  have HK10 := Lib.hid ((hb.block Bk (Array.getElem?_eq_some_iff.1 HK9.out).1).trans HK9.out)
  have HB10 := Lib.hid (below_on HB9.out HS9.out hb)
  have HS10 := Lib.hid (Nat.le_trans HS9.out hb.size)
  have HW10 := Lib.hid (below_on HW9.out HW9.out.size hb)
  clear hb c9 HB9 HS9 HK9 HW9
  have c10 : w10.cell? ⟨Bk, 10, none⟩ = some (.slice none 0 0) := cell_hd HK10.out (HN.out 10 (by decide) (by decide))
  go_wp2_with fail
  refine (flatItems_nil _).mono ?_
  rintro e w11 ⟨rfl, hb⟩
  have HK11 := Lib.hid ((hb.block Bk (Array.getElem?_eq_some_iff.1 HK10.out).1).trans HK10.out)
  have HB11 := Lib.hid (below_on HB10.out HS10.out hb)
  have HS11 := Lib.hid (Nat.le_trans HS10.out hb.size)
  have HW11 := Lib.hid (below_on HW10.out HW10.out.size hb)
  clear hb c10 HB10 HS10 HK10 HW10
  have c11 : w11.cell? ⟨Bk, 11, none⟩ = some (.slice (some ⟨G, 0, none⟩) m capG) := cell_hd HK11.out hbag
  go_wp2_with fail
  refine (flatLines_rows m G capG B cG v n w11 ((HW11.out.block G (Array.getElem?_eq_some_iff.1 HG0.out).1).trans HG0.out) HV.out (fun k hk => (HOW.out k hk).imp fun xs h => h.below HW11.out) HAP.out HNN.out hm HS11.out).mono ?_
  rintro e w12 ⟨rfl, hb⟩
  have HK12 := Lib.hid ((hb.side Bk 76 cur (by decide) HK11.out).trans HK11.out)
  have HB12 := Lib.hid (HB11.out.trans hb.below)
  have HS12 := Lib.hid (Nat.le_trans HS11.out hb.below.size)
  clear hb c11 HB11 HS11 HK11 HW11
  have c12 : w12.cell? ⟨Bk, 12, none⟩ = some (.slice none 0 0) := cell_hd HK12.out (HN.out 12 (by decide) (by decide))
  go_wp2_with fail
  refine (flatAsks_nil _).mono ?_
  rintro e w13 ⟨rfl, hb⟩
  have HK13 := Lib.hid ((hb.block Bk (Array.getElem?_eq_some_iff.1 HK12.out).1).trans HK12.out)
  have HB13 := Lib.hid (below_on HB12.out HS12.out hb)
  have HS13 := Lib.hid (Nat.le_trans HS12.out hb.size)
  clear hb c12 HB12 HS12 HK12
  have c13 : w13.cell? ⟨Bk, 13, none⟩ = some (.slice none 0 0) := cell_hd HK13.out (HN.out 13 (by decide) (by decide))
  go_wp2_with fail
  refine (flatTells_nil _).mono ?_
  rintro e w14 ⟨rfl, hb⟩
  have HK14 := Lib.hid ((hb.block Bk (Array.getElem?_eq_some_iff.1 HK13.out).1).trans HK13.out)
  have HB14 := Lib.hid (below_on HB13.out HS13.out hb)
  have HS14 := Lib.hid (Nat.le_trans HS13.out hb.size)
  clear hb c13 HB13 HS13 HK13
  have c14 : w14.cell? ⟨Bk, 14, none⟩ = some (.slice none 0 0) := cell_hd HK14.out (HN.out 14 (by decide) (by decide))
  go_wp2_with fail
  refine (flatStates_nil _).mono ?_
  rintro e w15 ⟨rfl, hb⟩
  have HK15 := Lib.hid ((hb.block Bk (Array.getElem?_eq_some_iff.1 HK14.out).1).trans HK14.out)
  have HB15 := Lib.hid (below_on HB14.out HS14.out hb)
  have HS15 := Lib.hid (Nat.le_trans HS14.out hb.size)
  clear hb c14 HB14 HS14 HK14
  have c15 : w15.cell? ⟨Bk, 15, none⟩ = some (.slice none 0 0) := cell_hd HK15.out (HN.out 15 (by decide) (by decide))
  go_wp2_with fail
  refine (flatRows_nil _).mono ?_
  rintro e w16 ⟨rfl, hb⟩
  have HK16 := Lib.hid ((hb.block Bk (Array.getElem?_eq_some_iff.1 HK15.out).1).trans HK15.out)
  have HB16 := Lib.hid (below_on HB15.out HS15.out hb)
  have HS16 := Lib.hid (Nat.le_trans HS15.out hb.size)
  clear hb c15 HB15 HS15 HK15
  have c16 : w16.cell? ⟨Bk, 16, none⟩ = some (.slice none 0 0) := cell_hd HK16.out (HN.out 16 (by decide) (by decide))
  go_wp2_with fail
  refine (flatTurns_nil _).mono ?_
  rintro e w17 ⟨rfl, hb⟩
  have HK17 := Lib.hid ((hb.block Bk (Array.getElem?_eq_some_iff.1 HK16.out).1).trans HK16.out)
  have HB17 := Lib.hid (below_on HB16.out HS16.out hb)
  have HS17 := Lib.hid (Nat.le_trans HS16.out hb.size)
  clear hb c16 HB16 HS16 HK16
  have c17 : w17.cell? ⟨Bk, 17, none⟩ = some (.slice none 0 0) := cell_hd HK17.out (HN.out 17 (by decide) (by decide))
  go_wp2_with fail
  refine (flatFates_nil _).mono ?_
  rintro e w18 ⟨rfl, hb⟩
  have HK18 := Lib.hid ((hb.block Bk (Array.getElem?_eq_some_iff.1 HK17.out).1).trans HK17.out)
  have HB18 := Lib.hid (below_on HB17.out HS17.out hb)
  have HS18 := Lib.hid (Nat.le_trans HS17.out hb.size)
  clear hb c17 HB17 HS17 HK17
  have c18 : w18.cell? ⟨Bk, 18, none⟩ = some (.slice none 0 0) := cell_hd HK18.out (HN.out 18 (by decide) (by decide))
  go_wp2_with fail
  refine (flatDirties_nil _).mono ?_
  rintro e w19 ⟨rfl, hb⟩
  have HK19 := Lib.hid ((hb.block Bk (Array.getElem?_eq_some_iff.1 HK18.out).1).trans HK18.out)
  have HB19 := Lib.hid (below_on HB18.out HS18.out hb)
  have HS19 := Lib.hid (Nat.le_trans HS18.out hb.size)
  clear hb c18 HB18 HS18 HK18
  have c19 : w19.cell? ⟨Bk, 19, none⟩ = some (.slice none 0 0) := cell_hd HK19.out (HN.out 19 (by decide) (by decide))
  go_wp2_with fail
  refine (flatOpens_nil _).mono ?_
  rintro e w20 ⟨rfl, hb⟩
  have HK20 := Lib.hid ((hb.block Bk (Array.getElem?_eq_some_iff.1 HK19.out).1).trans HK19.out)
  have HB20 := Lib.hid (below_on HB19.out HS19.out hb)
  have HS20 := Lib.hid (Nat.le_trans HS19.out hb.size)
  clear hb c19 HB19 HS19 HK19
  have c20 : w20.cell? ⟨Bk, 20, none⟩ = some (.slice none 0 0) := cell_hd HK20.out (HN.out 20 (by decide) (by decide))
  go_wp2_with fail
  refine (flatRecords_nil _).mono ?_
  rintro e w21 ⟨rfl, hb⟩
  have HK21 := Lib.hid ((hb.block Bk (Array.getElem?_eq_some_iff.1 HK20.out).1).trans HK20.out)
  have HB21 := Lib.hid (below_on HB20.out HS20.out hb)
  have HS21 := Lib.hid (Nat.le_trans HS20.out hb.size)
  clear hb c20 HB20 HS20 HK20
  have c21 : w21.cell? ⟨Bk, 21, none⟩ = some (.slice none 0 0) := cell_hd HK21.out (HN.out 21 (by decide) (by decide))
  go_wp2_with fail
  refine (flatSteps_nil _).mono ?_
  rintro e w22 ⟨rfl, hb⟩
  have HK22 := Lib.hid ((hb.block Bk (Array.getElem?_eq_some_iff.1 HK21.out).1).trans HK21.out)
  have HB22 := Lib.hid (below_on HB21.out HS21.out hb)
  have HS22 := Lib.hid (Nat.le_trans HS21.out hb.size)
  clear hb c21 HB21 HS21 HK21
  have c22 : w22.cell? ⟨Bk, 22, none⟩ = some (.slice none 0 0) := cell_hd HK22.out (HN.out 22 (by decide) (by decide))
  go_wp2_with fail
  refine (flatTales_nil _).mono ?_
  rintro e w23 ⟨rfl, hb⟩
  have HK23 := Lib.hid ((hb.block Bk (Array.getElem?_eq_some_iff.1 HK22.out).1).trans HK22.out)
  have HB23 := Lib.hid (below_on HB22.out HS22.out hb)
  have HS23 := Lib.hid (Nat.le_trans HS22.out hb.size)
  clear hb c22 HB22 HS22 HK22
  go_wp2_with fail
  go_ret
  exact ⟨rfl, HB23.out⟩
end Go.Proofs.Ytokmkjgbhlcngaa.Ap
namespace Go.Proofs.Ytokmkjgbhlcngaa.Ap
open Go.RowKit Go.Sort Go.Lib Go.Proofs
set_option linter.all false
attribute [local irreducible] Go.Calls
set_option maxHeartbeats 8000000 in
set_option maxRecDepth 100000 in
theorem ApartLines_runs (m G capG B : Nat) (cG : Array Value) (v : Nat → Value) (n : Nat → Nat) (w : World) (h0 : 0 < m)
    (hG : w.heap[G]? = some (.cells cG 29 (0, 0))) (hv : ∀ k, k < m → cG[k]? = some (v k)) (hown : ∀ k, k < m → ∃ xs, ownW w B 24 8 (v k) (n k) xs)
    (hap : ∀ j k, j < m → k < m → j ≠ k → ∀ b, (v j).ownBlock = some b → (v k).ownBlock ≠ some b) (hn : ∀ k, k < m → n k ≤ 1000000000) (hm : m ≤ 1000000000) (hB : B ≤ w.heap.size) :
    Calls Try.prog 22 #[.slice (some ⟨G, 0, none⟩) m capG] w fun e w' => e = .returned (.bool true) ∧ Below B w w' := by
  have HG0 := Lib.hid hG
  have HV := Lib.hid hv
  have HOW := Lib.hid hown
  have HAP := Lib.hid hap
  have HNN := Lib.hid hn
  have HS0 := Lib.hid hB
  clear hG hv hown hap hn hB
  go_enter Try.func22, Try.ntmps22
  go_wp2_with fail
  have HW1 : Hid (Below w.heap.size w (w.alloc (.cells (Array.replicate 23 (.slice none 0 0)) 76))) := Lib.hid (Below.alloc (Below.refl _ _) (Nat.le_refl _) _)
  have HK1 : Hid (∃ cur, (w.alloc (.cells (Array.replicate 23 (.slice none 0 0)) 76)).heap[w.heap.size]? = some (Obj.cells cur 76 (0, 0)) ∧ (∀ f, f < 23 → f ≠ 11 → cur[f]? = some (.slice none 0 0)) ∧ cur[11]? = some (.slice none 0 0)) :=
    Lib.hid ⟨_, heap_alloc_new w _, fun f hf _ => by rw [Array.getElem?_replicate, if_pos hf], by rw [Array.getElem?_replicate, if_pos (by decide)]⟩
  go_loopg [4] m (fun kx s4 wr => ∃ (k : Nat) (vh : Value), s4 = .int .i64 k ∧ k ≤ m ∧ Hid (m ≤ k + kx) ∧ Hid (∃ cur, wr.heap[w.heap.size]? = some (Obj.cells cur 76 (0, 0)) ∧ (∀ f, f < 23 → f ≠ 11 → cur[f]? = some (.slice none 0 0)) ∧ cur[11]? = some vh) ∧ Hid (ownW wr w.heap.size 29 1 vh k ((List.range k).map v)) ∧ Hid (Below w.heap.size w wr))
  case atStart => exact ⟨0, .slice none 0 0, rfl, Nat.zero_le _, Lib.hid (by omega), HK1, Lib.hid ⟨rfl, .inl ⟨rfl, rfl⟩⟩, HW1⟩
  case round =>
    clear HK1 HW1
    obtain ⟨k, vh, rfl, hkm, HKX, HK, HH, HW⟩ := hrel
    by_cases hk : k < m
    · have hkz : (k : Int) < (m : Int) := by omega
      obtain ⟨A, c, hvk, hnc, -⟩ := (HOW.out k hk).choose_spec.slice
      obtain ⟨cur, hb, hnil, hc⟩ := HK.out
      have hcG : wr.cell? ⟨G, k, none⟩ = some (.slice A (n k) c) := cell_hd ((HW.out.block G (Array.getElem?_eq_some_iff.1 HG0.out).1).trans HG0.out) ((HV.out k hk).trans (congrArg some hvk))
      go_wp2_with (first | (go_at_call 38; refine (putLines_runs w.heap.size w.heap.size cur vh k ((List.range k).map v) A (n k) c wr hb (Nat.le_refl _) hc HH.out (by omega)).mono ?_; rintro e w' ⟨rfl, hb2, v', hk2, ho2⟩; have HB2 := Lib.hid hb2; have HK2 := Lib.hid hk2; have HO2 := Lib.hid ho2; clear hb2 hk2 ho2))
      go_roundg (m - (k + 1))
      case measure => have := HKX.out; omega
      case rel =>
        refine ⟨k + 1, v', by go_num, hk, Lib.hid (by omega), Lib.hid ⟨_, HK2.out, fun f hf hne => ?_, ?_⟩, Lib.hid ?_, Lib.hid (HW.out.trans HB2.out)⟩
        · rw [Array.getElem?_setIfInBounds_ne (by omega)]; exact hnil f hf hne
        · rw [Array.getElem?_setIfInBounds_self, if_pos (Array.getElem?_eq_some_iff.1 hc).1]
        · rw [List.range_succ, List.map_append, List.map_singleton, hvk]; exact HO2.out
    · have hkz : ¬ (k : Int) < (m : Int) := by omega
      obtain rfl : k = m := by omega
      obtain ⟨cur, hb, hnil, hc⟩ := HK.out
      have hl := HH.out.1
      rcases HH.out.2 with ⟨-, h⟩ | ⟨g, cap, cg, rfl, hg, hgg, hnc, hcm, hcs, ht⟩
      · omega
      · go_wp2_with (first | (go_at_call 39; refine (apartLines_runs w.heap.size cur k g cap B cg v n wr hb hnil hc hgg (fun j hj => ?_) (fun j hj => (HOW.out j hj).imp fun xs h => h.below HW.out) HAP.out HNN.out hm (Nat.le_trans HS0.out HW.out.size)).mono ?_; rotate_left; rintro e w' ⟨rfl, hb2⟩; have HB2 := Lib.hid hb2; clear hb2))
        go_ret
        exact ⟨rfl, (below_on (Below.refl B w) HS0.out HW.out).trans HB2.out⟩
        · have : (cg.toList.take (k * 1))[j]? = some (v j) := by rw [ht, List.getElem?_map, List.getElem?_range hj]; rfl
          rw [List.getElem?_take, if_pos (by omega)] at this
          simpa using this
end Go.Proofs.Ytokmkjgbhlcngaa.Ap
namespace Go.Proofs.Ytokmkjgbhlcngaa.Q
open Go.RowKit Go.Sort Go.Proofs Go.Proofs.YtokmkjgbhlcngaaW.PrintWords Go.Proofs.YtokmkjgbhlcngaaW.PrintLast Go.Proofs.YtokmkjgbhlcngaaW.PrintMore Go.Proofs.Ytokmkjgbhlcngaa.G
set_option linter.all false
abbrev LnS := S24
def cellsL (l : List LnS) : List Value := l.flatMap lineEnc
theorem cellsL_length (l : List LnS) : (cellsL l).length = l.length * 8 := by
  unfold cellsL
  induction l with
  | nil => rfl
  | cons x r ih => rw [List.flatMap_cons, List.length_append, ih, lineEnc_len, List.length_cons]; omega
theorem cellsL_get (l : List LnS) (i c : Nat) (hi : i < l.length) (hc : c < 8) : (cellsL l)[i * 8 + c]? = (lineEnc (l.getD i z24))[c]? := by
  induction l generalizing i with
  | nil => simp at hi
  | cons x r ih =>
    unfold cellsL
    rw [List.flatMap_cons]
    cases i with
    | zero => rw [List.getElem?_append_left (by rw [lineEnc_len]; omega), Nat.zero_mul, Nat.zero_add]; rfl
    | succ i =>
      rw [List.getElem?_append_right (by rw [lineEnc_len]; omega), lineEnc_len, show (i + 1) * 8 + c - 8 = i * 8 + c by omega]
      exact ih i (by simpa using hi)
theorem cellsL_one (l : List LnS) : ∀ u ∈ cellsL l, u.oneCell' = true := by
  intro u hu
  obtain ⟨x, -, hx⟩ := List.mem_flatMap.1 hu
  exact lineEnc_one x u hx
theorem cellsL_src {w : World} {A : Option Addr} {l : List LnS} (h : Kd.C k24 w A l.length l) : 0 < l.length → ∃ ad, A = some ad ∧ ∀ j u, (cellsL l)[j]? = some u → w.cell? (ad.add j) = some u := by
  intro hn
  obtain ⟨ad, e, hc⟩ := h.2.2 hn
  refine ⟨ad, e, fun j u hu => ?_⟩
  have hj : j < l.length * 8 := by rw [← cellsL_length]; exact (List.getElem?_eq_some_iff.1 hu).1
  have hi : j / 8 < l.length := by omega
  obtain ⟨c, -, hK, hcell⟩ := hc (j / 8) _ (List.getElem?_eq_getElem hi)
  have hlc : (lineEnc (l.getD (j / 8) z24))[j % 8]? = some u := by rw [← cellsL_get l (j / 8) (j % 8) hi (by omega), show j / 8 * 8 + j % 8 = j by omega]; exact hu
  have e2 : c = lineEnc (l.getD (j / 8) z24) := by
    rw [List.getD_eq_getElem?_getD, List.getElem?_eq_getElem hi]; exact k24_open hK
  have : w.cell? (ad.add (j / 8 * 8 + j % 8)) = some u := hcell (j % 8) u (by rw [e2]; exact hlc)
  rw [show j / 8 * 8 + j % 8 = j by omega] at this
  exact this
theorem cellsL_C {w : World} {g : Nat} {l : List LnS} (hl : l.length ≤ 9223372036854775807) (h : ∀ j u, (cellsL l)[j]? = some u → w.cell? ⟨g, j, none⟩ = some u) : Kd.C k24 w (some ⟨g, 0, none⟩) l.length l := by
  refine ⟨rfl, hl, fun _ => ⟨_, rfl, fun j p hj => ?_⟩⟩
  have hjl := (List.getElem?_eq_some_iff.1 hj).1
  refine ⟨lineEnc p, lineEnc_len p, k24_mk w p, fun i u hu => ?_⟩
  have hi : i < 8 := by have := (List.getElem?_eq_some_iff.1 hu).1; rw [lineEnc_len] at this; exact this
  have hp : l.getD j z24 = p := by rw [List.getD_eq_getElem?_getD, hj]; rfl
  have := h (j * 8 + i) u (by rw [cellsL_get l j i hjl hi, hp]; exact hu)
  have e0 : ∀ n, Addr.add ⟨g, 0, none⟩ n = ⟨g, n, none⟩ := fun n => by
    unfold Addr.add
    split <;> simp_all
  show w.cell? (Addr.add ⟨g, 0, none⟩ (j * 8 + i)) = some u
  rw [e0]
  exact this
theorem lent_C {w : World} {B g : Nat} {zs : List Value} {l : List LnS} (hl : l.length ≤ 9223372036854775807) (h : w.ownsRow B 24 8 (.slice (some ⟨g, 0, none⟩) (l.length + 12) (l.length + 12)) (l.length + 12) (cellsL l ++ zs)) :
    Kd.C k24 w (some ⟨g, 0, none⟩) l.length l :=
  cellsL_C hl (fun j u hu => Ap.row_at h j (by rw [List.getElem?_append_left (List.getElem?_eq_some_iff.1 hu).1]; exact hu))
/-- A field's value. -/
def elL (l : List LnS) (c i : Nat) : Value := (lineEnc (l.getD i z24)).getD c Go.undef
theorem elL_is (l : List LnS) (i : Nat) (hi : i < l.length) (c : Nat) (hc : c < 8) : (cellsL l)[i * 8 + c]? = some (elL l c i) := by
  rw [cellsL_get l i c hi hc]
  unfold elL
  generalize l.getD i z24 = x
  have hx : c < (lineEnc x).length := by rw [lineEnc_len]; exact hc
  rw [List.getD_eq_getElem?_getD, List.getElem?_eq_getElem hx, Option.getD_some]
attribute [local go_sem high] eqA24
theorem elL_same (l : List LnS) (i : Nat) (W : World) : (binOp .eql 24 (.agg #[elL l 0 i, elL l 1 i, elL l 2 i, elL l 3 i, elL l 4 i, elL l 5 i, elL l 6 i, elL l 7 i]) (.agg #[elL l 0 i, elL l 1 i, elL l 2 i, elL l 3 i, elL l 4 i, elL l 5 i, elL l 6 i, elL l 7 i])).run Try.prog W = .ok (.bool true) W := by
  unfold elL
  generalize l.getD i z24 = x
  simp only [lineEnc, List.getD_cons_zero, List.getD_cons_succ]
  go_simp
theorem elL_at {w : World} {A : Option Addr} {l : List LnS} (h : Kd.C k24 w A l.length l) (W : World) (hb : RowKit.Below w.heap.size w W) (i : Nat) (hi : i < l.length) :
    ∃ ad, A = some ad ∧ W.cell? (ad.add (i * 8)) = some (elL l 0 i) ∧ W.cell? ⟨(ad.add (i * 8)).block, (ad.add (i * 8)).off + 1, none⟩ = some (elL l 1 i) ∧ W.cell? ⟨(ad.add (i * 8)).block, (ad.add (i * 8)).off + 2, none⟩ = some (elL l 2 i) ∧ W.cell? ⟨(ad.add (i * 8)).block, (ad.add (i * 8)).off + 3, none⟩ = some (elL l 3 i) ∧ W.cell? ⟨(ad.add (i * 8)).block, (ad.add (i * 8)).off + 4, none⟩ = some (elL l 4 i) ∧ W.cell? ⟨(ad.add (i * 8)).block, (ad.add (i * 8)).off + 5, none⟩ = some (elL l 5 i) ∧ W.cell? ⟨(ad.add (i * 8)).block, (ad.add (i * 8)).off + 6, none⟩ = some (elL l 6 i) ∧ W.cell? ⟨(ad.add (i * 8)).block, (ad.add (i * 8)).off + 7, none⟩ = some (elL l 7 i) := by
  obtain ⟨ad, e, q0, q1, q2, q3, q4, q5, q6, q7⟩ := at_T24 (Kd.C_below h hb) (i : Int) (by omega) (by omega)
  exact ⟨ad, e, q0, q1, q2, q3, q4, q5, q6, q7⟩
/-- What was handed out ahead of a write into an elder block stays. -/
theorem R_over {α : Type} {d : Kd α} {e base : Nat} {W W1 : World} {ok : Nat → Prop} {v : Value} {xs : List α} (h : Kd.R d e W base ok v xs) {g : Nat} (hg : W.grownBy W1 (some g)) (hlt : g < base) : Kd.R d e W1 base ok v xs :=
  Kd.R_mono (Kd.R_grown (Kd.R_bound h) hg (fun k hk e => by have := hk.2.1; simp only [Option.some.injEq] at e; omega)) (fun k hk => hk.1)
end Go.Proofs.Ytokmkjgbhlcngaa.Q
namespace Go.Proofs.Ytokmkjgbhlcngaa.Q
open Go.RowKit Go.Sort Go.Proofs Go.Proofs.YtokmkjgbhlcngaaW.PrintWords Go.Proofs.YtokmkjgbhlcngaaW.PrintLast Go.Proofs.YtokmkjgbhlcngaaW.PrintMore Go.Proofs.Ytokmkjgbhlcngaa.G
set_option linter.all false
theorem ahead_le (l : List LnS) (id : Int) : (aheadL l id).length ≤ l.length := by
  unfold aheadL
  split
  · exact Nat.zero_le _
  · rw [List.length_take]; exact Nat.min_le_right _ _
attribute [local irreducible] Go.Calls
set_option maxHeartbeats 4000000 in
set_option maxRecDepth 100000 in
theorem RankLists_walk (A0 : Option Addr) (c0 : Nat) (l0 : List LnS) (id : Int) (w : World) (hr0 : Kd.C k24 w A0 l0.length l0) (hc0 : l0.length ≤ c0) (hl : l0.length ≤ 9223372036854775807) :
    Calls Try.prog 4 #[.slice A0 l0.length c0, .int .i64 id] w fun e w' => e = .returned (.bool true) ∧ RowKit.Below w.heap.size w w' := by
  obtain ⟨g, hg, hgl⟩ := great_is l0 hl (l0.length + 1) (Nat.le_refl _)
  have HR0 := Lib.hid hr0
  have HC0 := Lib.hid hc0
  have HL := Lib.hid hl
  have HG := Lib.hid hg
  have HGL := Lib.hid hgl
  clear hr0 hc0 hl hg hgl
  go_enter Try.func4, Try.ntmps4
  go_wp2_with fail
  refine (storemanlaw09_great.calls (l0.length + 1) A0 c0 l0 g w HR0.out HC0.out HG.out).mono ?_
  rintro e w2 ⟨rfl, ⟨⟨n2, rfl⟩⟩⟩
  have HB2 := Lib.hid (pw_below_drewN (Below.refl w.heap.size w) n2)
  generalize hw2 : w.drewN n2 = w2 at HB2 ⊢
  clear hw2 HG
  cases g with
  | true =>
    go_wp2_with fail
    refine (storemanlaw09_awake.calls 20 true _ awake_is).mono ?_
    rintro e w3 ⟨rfl, hb⟩
    have HB3 := Lib.hid (below_then HB2.out HB2.out.size hb)
    clear hb
    go_wp2_with fail
    go_ret
    exact ⟨rfl, HB3.out⟩
  | false =>
    have HLEN := Lib.hid (HGL.out rfl)
    have HR2 := Lib.hid (Kd.C_below HR0.out HB2.out)
    clear HGL
    go_wp2_with fail
    refine (Ap.LentLines_runs A0 l0.length c0 (cellsL l0) w2 (cellsL_length l0) (cellsL_one l0) (cellsL_src HR2.out) (by have := HLEN.out; omega)).mono ?_
    rintro e w3 ⟨g, rfl, ho, hb⟩
    have hgg : w2.heap.size ≤ g ∧ g < w3.heap.size := ⟨own_base ho g (by simp [Value.ownBlock]), own_lt ho g (by simp [Value.ownBlock])⟩
    have HGG := Lib.hid hgg
    have HO3 := Lib.hid ho
    have HCI := Lib.hid (lent_C HL.out ho)
    have HB3 := Lib.hid (below_then HB2.out HB2.out.size hb)
    have HR3 := Lib.hid (Kd.C_below HR2.out hb)
    have HSTEP := Lib.hid (rank_Open.calls (some ⟨g, 0, none⟩) (l0.length + 12) l0 (opens l0) w3 HCI.out (by omega) (by unfold rank_Open.f; rw [if_pos (by have := HLEN.out; omega)]; rfl))
    clear hgg ho hb
    go_wp2_with fail
    refine HSTEP.out.mono ?_
    rintro e w4 ⟨va, rfl, hR, hb⟩
    have HB4 := Lib.hid (below_then HB3.out HB3.out.size hb)
    have HRA := Lib.hid hR
    have HBA : Hid (∀ k, va.ownBlock = some k → w3.heap.size ≤ k ∧ k < w4.heap.size) := Lib.hid (fun k hk => by obtain ⟨ys, hy⟩ := Ap.own_R hR; exact hy.lt k hk)
    have HBC := Lib.hid hb
    have HY4 := Lib.hid hb.size
    have HCI4 := Lib.hid (Kd.C_below HCI.out hb)
    have HO4 := Lib.hid (Ap.owns_below HO3.out hb)
    have HR4 := Lib.hid (Kd.C_below HR3.out hb)
    have HSTEP := Lib.hid (rank_Ahead.own (some ⟨g, 0, none⟩) (l0.length + 12) l0 id (aheadL (opens l0) id) w4 HCI4.out (by omega) (by unfold rank_Ahead.f; rw [if_pos (by have := HLEN.out; omega)]; rfl))
    clear hR hb HO3 HCI HR3
    go_wp2_with fail
    refine HSTEP.out.mono ?_
    rintro e w5 ⟨vb, rfl, hV, hb, hOW⟩
    have HB5 := Lib.hid (below_then HB4.out HB4.out.size hb)
    have HRA5 := Lib.hid (Kd.R_below HRA.out hb)
    have HRB := Lib.hid hV
    have HOW := Lib.hid hOW
    have HO5 := Lib.hid (Ap.owns_below HO4.out hb)
    have HR5 := Lib.hid (Kd.C_below HR4.out hb)
    have HSZ := Lib.hid (show w3.heap.size ≤ w4.heap.size ∧ w4.heap.size ≤ w5.heap.size from ⟨HBC.out.size, hb.size⟩)
    have HSTEP := Lib.hid (Ap.KeptLines_runs A0 l0.length c0 g w2.heap.size (cellsL l0) (elL l0) w5 (cellsL_length l0) (elL_is l0) (fun i hi W => elL_same l0 i W) HO5.out (fun W hW i hi => elL_at HR5.out W hW i hi) (by have := HLEN.out; omega))
    clear hV hb hOW HRA HO4 HR4 HCI4 HBC
    go_wp2_with fail
    refine HSTEP.out.mono ?_
    rintro e w6 ⟨rfl, hb⟩
    have HB6 := Lib.hid (below_then HB5.out HB5.out.size hb)
    have HRA6 := Lib.hid (Kd.R_below HRA5.out hb)
    have HRB6 := Lib.hid (Kd.V_below HRB.out hb)
    have HOW6 := Lib.hid (HOW.out.imp fun ys h => h.below hb)
    have HO6 := Lib.hid (Ap.owns_below HO5.out hb)
    have HR6 := Lib.hid (Kd.C_below HR5.out hb)
    have HSZ6 := Lib.hid hb.size
    have HSTEP := Lib.hid (Ap.OverLines_runs l0.length g w2.heap.size _ w6 (Ap.ownW_of HO6.out) (by have := HLEN.out; omega))
    clear hb HRA5 HRB HOW HO5 HR5
    go_wp2_with fail
    refine HSTEP.out.mono ?_
    rintro e w7 ⟨rfl, hg⟩
    have HSZ3 := Lib.hid (show w3.heap.size ≤ w7.heap.size from by have := HSZ.out; have := HSZ6.out; have := hg.size; omega)
    have HB7 := Lib.hid (Ap.below_grown HB6.out hg HB6.out.size (fun k hk => by simp only [Option.some.injEq] at hk; have := HB2.out.size; have := HGG.out.1; omega))
    have hRA := R_over HRA6.out hg HGG.out.2
    have hVB := Kd.V_grown HRB6.out hg (fun k hk e => by simp only [Option.some.injEq] at e; have := HSZ.out.1; have := HGG.out.2; omega)
    have hOW : ∃ ys, Ap.ownW w7 w4.heap.size 24 8 vb (aheadL (opens l0) id).length ys := HOW6.out.imp fun ys h => h.kept hg (fun k hk e => by simp only [Option.some.injEq] at e; have := (h.lt k hk).1; have := HSZ.out.1; have := HGG.out.2; omega)
    have hOA := Ap.own_R hRA
    have hba : ∀ k, va.ownBlock = some k → w3.heap.size ≤ k ∧ k < w4.heap.size := fun k hk => HBA.out k hk
    obtain ⟨Aa, ca, rfl, hca, hCa⟩ := Kd.R_reads hRA
    obtain ⟨Ab, cb, rfl⟩ := Kd.V_slice hVB
    have hCb := Kd.V_reads' hVB
    have HCA := Lib.hid hca
    have HA7 := Lib.hid hCa
    have HCB := Lib.hid hCb.2.1
    have HBB := Lib.hid hCb.2.2
    have HOA := Lib.hid hOA
    have HOB := Lib.hid hOW
    have HBA7 := Lib.hid hba
    have HR7 := Lib.hid (Kd.C_below HR0.out HB7.out)
    obtain ⟨kr, hkr⟩ := refOpen_is l0 (by have := HLEN.out; omega)
    obtain ⟨ks, hks⟩ := refAhead_is l0 id (by have := HLEN.out; omega)
    have HKS := Lib.hid hks
    have HSTEP2 := Lib.hid (storemanref09_Open.calls kr A0 c0 l0 (opens l0) w7 HR7.out HC0.out hkr)
    clear hg hRA hVB hOW hOA hba hca hCa hCb HSTEP hkr hks HB6 HRA6 HRB6 HOW6 HO6 HR6 HBA
    go_wp2_with fail
    refine HSTEP2.out.mono ?_
    rintro e w8 ⟨vc, rfl, hR, hb⟩
    obtain ⟨Ac, cc, rfl, hcc, hCc⟩ := Kd.R_reads hR
    have HB8 := Lib.hid (below_then HB7.out HB7.out.size hb)
    have HX8 := Lib.hid hb
    have HR8 := Lib.hid (Kd.C_below HR7.out hb)
    have HSTEP := Lib.hid (storemankit_SameLines.calls ((opens l0).length + 1) Aa ca (opens l0) Ac cc (opens l0) true w8 (Kd.C_below HA7.out hb) HCA.out hCc hcc (same_is (opens l0) (by have := HLEN.out; have := opens_le l0; omega) _ (Nat.le_refl _)))
    clear hR hb hcc hCc HSTEP2 HR7
    go_wp2_with fail
    refine HSTEP.out.mono ?_
    rintro e w9 ⟨rfl, ⟨⟨n9, rfl⟩⟩⟩
    have hb := pw_below_drewN (Below.refl w8.heap.size w8) n9
    generalize w8.drewN n9 = w9 at hb ⊢
    have HB9 := Lib.hid (below_then HB8.out HB8.out.size hb)
    have HX9 := Lib.hid (below_then HX8.out HX8.out.size hb)
    have HR9 := Lib.hid (Kd.C_below HR8.out hb)
    have HSTEP2 := Lib.hid (storemanref09_Ahead.calls ks A0 c0 l0 id (aheadL (opens l0) id) w9 HR9.out HC0.out HKS.out)
    clear hb HSTEP HB8 HX8 HR8 HKS
    go_wp2_with fail
    refine HSTEP2.out.mono ?_
    rintro e w10 ⟨vd, rfl, hR, hb⟩
    obtain ⟨Ad, cd, rfl, hcd, hCd⟩ := Kd.R_reads hR
    have HB10 := Lib.hid (below_then HB9.out HB9.out.size hb)
    have HX10 := Lib.hid (below_then HX9.out HX9.out.size hb)
    have HSTEP := Lib.hid (storemankit_SameLines.calls ((aheadL (opens l0) id).length + 1) Ab cb (aheadL (opens l0) id) Ad cd (aheadL (opens l0) id) true w10 (Kd.C_below HBB.out HX10.out) HCB.out hCd hcd (same_is (aheadL (opens l0) id) (by have := HLEN.out; have := opens_le l0; have := ahead_le (opens l0) id; omega) _ (Nat.le_refl _)))
    clear hR hb hcd hCd HSTEP2 HR9 HB9 HX9
    go_wp2_with fail
    refine HSTEP.out.mono ?_
    rintro e w11 ⟨rfl, ⟨⟨n11, rfl⟩⟩⟩
    have hb := pw_below_drewN (Below.refl w10.heap.size w10) n11
    generalize w10.drewN n11 = w11 at hb ⊢
    have HB11 := Lib.hid (below_then HB10.out HB10.out.size hb)
    have HX11 := Lib.hid (below_then HX10.out HX10.out.size hb)
    clear hb HSTEP HB10 HX10
    go_wp2_with fail
    have hap := Ap.ApartLines_runs 2 w11.heap.size 2 w3.heap.size #[Value.slice Aa (opens l0).length ca, Value.slice Ab (aheadL (opens l0) id).length cb]
      (fun k => if k = 0 then Value.slice Aa (opens l0).length ca else Value.slice Ab (aheadL (opens l0) id).length cb) (fun k => if k = 0 then (opens l0).length else (aheadL (opens l0) id).length)
      (w11.alloc (Obj.cells #[Value.slice Aa (opens l0).length ca, Value.slice Ab (aheadL (opens l0) id).length cb] 29)) (by decide) (heap_alloc_new w11 _)
      (fun k hk => by
        have : k = 0 ∨ k = 1 := by omega
        rcases this with rfl | rfl <;> rfl)
      (fun k hk => by
        have : k = 0 ∨ k = 1 := by omega
        rcases this with rfl | rfl
        · obtain ⟨ys, h⟩ := HOA.out
          exact ⟨ys, (h.below HX11.out).below (below_alloc (Below.refl _ _) _)⟩
        · obtain ⟨ys, h⟩ := HOB.out
          exact ⟨ys, ((h.base HSZ.out.1).below HX11.out).below (below_alloc (Below.refl _ _) _)⟩)
      (fun j k hj hk hjk b h1 h2 => by
        obtain ⟨ys, hB⟩ := HOB.out
        have e : (j = 0 ∧ k = 1) ∨ (j = 1 ∧ k = 0) := by omega
        rcases e with ⟨rfl, rfl⟩ | ⟨rfl, rfl⟩
        · have := (HBA7.out b h1).2; have := (hB.lt b h2).1; omega
        · have := (HBA7.out b h2).2; have := (hB.lt b h1).1; omega)
      (fun k hk => by
        have := HLEN.out; have := opens_le l0; have := ahead_le (opens l0) id
        show (if k = 0 then _ else _) ≤ _
        split <;> omega) (by decide) (by have := HX11.out.size; have := HSZ3.out; simp; omega)
    have HAP := Lib.hid hap
    clear hap HOA HOB HA7 HBB
    go_wp2_with fail
    refine HAP.out.mono ?_
    rintro e w12 ⟨rfl, hb⟩
    have HB12 := Lib.hid ((below_alloc HB11.out (Obj.cells #[Value.slice Aa (opens l0).length ca, Value.slice Ab (aheadL (opens l0) id).length cb] 29)).trans (hb.mono (by have := HB2.out.size; have := HGG.out; omega)))
    clear hb HAP HB11 HX11
    go_wp2_with fail
    refine (storemanlaw09_awake.calls 20 true _ awake_is).mono ?_
    rintro e w13 ⟨rfl, hb⟩
    have HB13 := Lib.hid (below_then HB12.out HB12.out.size hb)
    clear hb HB12
    go_wp2_with fail
    go_ret
    exact ⟨rfl, HB13.out⟩
def storemanlaw09_RankLists.f (l0 : List S24) (_a1 : Int) : Option Bool := if l0.length ≤ 9223372036854775807 then some true else none
theorem storemanlaw09_RankLists.calls (A0 : Option Addr) (c0 : Nat) (l0 : List S24) (a1 : Int) (r : Bool) (w : World) (hr0 : Kd.C k24 w A0 l0.length l0) (hc0 : l0.length ≤ c0) (h : storemanlaw09_RankLists.f l0 a1 = some r) :
    Calls Try.prog 4 #[.slice A0 l0.length c0, .int .i64 a1] w fun e w' => e = .returned (.bool r) ∧ RowKit.Below w.heap.size w w' := by
  unfold storemanlaw09_RankLists.f at h
  by_cases hl : l0.length ≤ 9223372036854775807
  · rw [if_pos hl] at h
    obtain rfl := Option.some.inj h
    exact RankLists_walk A0 c0 l0 a1 w hr0 hc0 hl
  · rw [if_neg hl] at h; cases h
end Go.Proofs.Ytokmkjgbhlcngaa.Q
namespace Go.Proofs.Ytokmkjgbhlcngaa.Q
open Go.RowKit Go.Sort Go.Proofs Go.Proofs.YtokmkjgbhlcngaaW.PrintWords Go.Proofs.YtokmkjgbhlcngaaW.PrintLast Go.Proofs.YtokmkjgbhlcngaaW.PrintMore Go.Proofs.Ytokmkjgbhlcngaa.G
set_option linter.all false
theorem ownW_C {w : World} {B : Nat} {e : TypeId} {v : Value} {l : List LnS} (hl : l.length ≤ 9223372036854775807) (h : Ap.ownW w B e 8 v l.length (cellsL l)) : ∃ A c, v = .slice A l.length c ∧ l.length ≤ c ∧ Kd.C k24 w A l.length l := by
  rcases h.2 with ⟨rfl, h0⟩ | ⟨g, cap, cur, rfl, -, -, hc, -⟩
  · obtain rfl := List.eq_nil_of_length_eq_zero h0
    exact ⟨none, 0, rfl, Nat.le_refl _, rfl, hl, fun h => absurd h (by simp)⟩
  · exact ⟨_, cap, rfl, hc, cellsL_C hl (fun j u hu => h.cells (g := g) (by simp [Value.ownBlock]) j u hu)⟩
theorem rights_all (x y : LnS) (W : World) : Calls Try.prog 3 #[.agg #[.int .i64 x.f0, .string x.f1, .int .i64 x.f2, .int .i64 x.f3, .int .i64 x.f4, .int .u8 x.f5, .int .i64 x.f6, .string x.f7], .agg #[.int .i64 y.f0, .string y.f1, .int .i64 y.f2, .int .i64 y.f3, .int .i64 y.f4, .int .u8 y.f5, .int .i64 y.f6, .string y.f7]] W fun e w' => e = .returned (.bool true) ∧ RowKit.Below W.heap.size W w' := by
  obtain ⟨r, hr⟩ := right_some 20 (by omega) x.f0 x.f1 x.f2 x.f3 x.f4 x.f5 x.f6 x.f7
  refine storemanlaw09_RankRights.calls 20 x.f0 x.f1 x.f2 x.f3 x.f4 x.f5 x.f6 x.f7 y.f0 y.f1 y.f2 y.f3 y.f4 y.f5 y.f6 y.f7 true W ?_
  unfold storemanlaw09_RankRights.f
  rw [right_eq 20 (by omega), hr, Option.bind_some, Option.bind_some, if_pos (by simp), lineCmp_is x y 17, Option.bind_some, refCmp_is x y, Option.bind_some, if_pos rfl, awake_is, Option.bind_some]
def intsN : List Int := [-9223372036854775808, -2, -1, 0, 1, 2, 98, 99, 100, 3999, 4000, 4001, 9223372036854775807]
def qtysN : List Int := [-1, 0, 1, 1073741824, 1073741825]
def codesN : List ByteArray := [⟨#[]⟩, ⟨#[65]⟩, ⟨#[97]⟩, ⟨#[65, 66, 67, 68, 69, 70, 71, 72, 73, 74, 75, 76, 77]⟩]
theorem row_enc {α : Type} (enc : α → Value) (d : α) (L : List α) {w : World} {b : Nat} {e : TypeId} (h : w.heap[b]? = some (.cells (L.map enc).toArray e (0, 0))) (j : Nat) (hj : j < L.length) : w.cell? ⟨b, j, none⟩ = some (enc (L.getD j d)) := by
  rw [cell_of_row w b j _ e (0, 0) h]
  simp [List.getD, hj]
theorem set8 {w w0 : World} {g : Nat} {e : TypeId} {z0 z1 z2 z3 z4 z5 z6 z7 : Value} (h : w.heap[g]? = some (.cells #[z0, z1, z2, z3, z4, z5, z6, z7] e (0, 0))) (hg : w0.heap.size ≤ g) (hB : RowKit.Below w0.heap.size w0 w) (v0 v1 v2 v3 v4 v5 v6 v7 : Value) :
    ((((((((w.setCell ⟨g, 0, none⟩ v0).setCell ⟨g, 1, none⟩ v1).setCell ⟨g, 2, none⟩ v2).setCell ⟨g, 3, none⟩ v3).setCell ⟨g, 4, none⟩ v4).setCell ⟨g, 5, none⟩ v5).setCell ⟨g, 6, none⟩ v6).setCell ⟨g, 7, none⟩ v7).heap[g]? = some (.cells #[v0, v1, v2, v3, v4, v5, v6, v7] e (0, 0)) ∧
    RowKit.Below w0.heap.size w0 ((((((((w.setCell ⟨g, 0, none⟩ v0).setCell ⟨g, 1, none⟩ v1).setCell ⟨g, 2, none⟩ v2).setCell ⟨g, 3, none⟩ v3).setCell ⟨g, 4, none⟩ v4).setCell ⟨g, 5, none⟩ v5).setCell ⟨g, 6, none⟩ v6).setCell ⟨g, 7, none⟩ v7) :=
  ⟨by
    have := blk_set (blk_set (blk_set (blk_set (blk_set (blk_set (blk_set (blk_set h 0 v0) 1 v1) 2 v2) 3 v3) 4 v4) 5 v5) 6 v6) 7 v7
    simpa only [List.setIfInBounds_toArray, List.set_cons_zero, List.set_cons_succ] using this,
   below_set (below_set (below_set (below_set (below_set (below_set (below_set (below_set hB hg) hg) hg) hg) hg) hg) hg) hg⟩
def T15 : Bool × List (List Nat × List Nat) := (true, [([], []), ([], []), ([0, 1], [0, 1]), ([2], [2]), ([], []), ([], []), ([], []), ([5, 6], [5, 6]), ([7], [7]), ([4, 8], [4, 8]), ([9], [9]), ([], []), ([11], [11]), ([3, 10, 12], [3, 10, 12]), ([], []), ([14, 13, 13, 0, 1, 2, 3, 4, 5, 6, 7, 8, 9, 10, 11, 12, 13, 14], [13, 14])])
def B15 : List Nat := [0, 0, 3, 7, 0, 0, 0, 96, 224, 496, 1008, 0, 2048, 8191, 0, 32767]
theorem tab15 : rtab .any (opsOf Try.f5 15) = T15 := by kernel_rfl
theorem bits15 : waitsOk T15.2 B15 = true := by kernel_rfl
theorem cellsL_snoc (l : List LnS) (y : LnS) : cellsL (l ++ [y]) = cellsL l ++ lineEnc y := by unfold cellsL; simp
theorem built_any (y : LnS) : Try.prog.builtSlice 24 1 [(0, .agg (lineEnc y).toArray)] = some (lineEnc y).toArray := by kernel_rfl
theorem line_lit (a0 a1 a2 : Int) (W : World) : Calls Try.prog 23 #[.int .i64 a0, .int .i64 a1, .int .u8 a2] W fun e w' => e = .returned (.agg #[.int .i64 a0, .string ⟨#[65]⟩, .int .i64 1, .int .i64 0, .int .i64 a1, .int .u8 a2, .int .i64 (-1), .string ⟨#[]⟩]) ∧ RowKit.Below W.heap.size W w' :=
  storemanlaw09_line.calls a0 a1 a2 a0 ⟨#[65]⟩ 1 0 a1 a2 (-1) ⟨#[]⟩ W rfl
attribute [local irreducible] Go.Calls
set_option maxHeartbeats 8000000 in
set_option maxRecDepth 100000 in
theorem RankNumbers_walk (w : World) : Calls Try.prog 5 #[] w fun e w' => e = .returned (.bool true) ∧ RowKit.Below w.heap.size w w' := by
  go_enter Try.func5, Try.ntmps5
  go_wp2_with fail
  have hI := blk_alloc (blk_alloc (blk_new w (Obj.cells (intsN.map (Value.int .i64)).toArray 3)) (Obj.cells (qtysN.map (Value.int .i64)).toArray 2)) (Obj.cells (codesN.map Value.string).toArray 9)
  have hQ := blk_alloc (blk_new (w.alloc (Obj.cells (intsN.map (Value.int .i64)).toArray 3)) (Obj.cells (qtysN.map (Value.int .i64)).toArray 2)) (Obj.cells (codesN.map Value.string).toArray 9)
  have hC := blk_new ((w.alloc (Obj.cells (intsN.map (Value.int .i64)).toArray 3)).alloc (Obj.cells (qtysN.map (Value.int .i64)).toArray 2)) (Obj.cells (codesN.map Value.string).toArray 9)
  have hB := below_alloc (below_alloc (below_alloc (Below.refl w.heap.size w) (Obj.cells (intsN.map (Value.int .i64)).toArray 3)) (Obj.cells (qtysN.map (Value.int .i64)).toArray 2)) (Obj.cells (codesN.map Value.string).toArray 9)
  rw [show (w.alloc (Obj.cells (intsN.map (Value.int .i64)).toArray 3)).heap.size = w.heap.size + 1 from by simp] at hQ
  rw [show ((w.alloc (Obj.cells (intsN.map (Value.int .i64)).toArray 3)).alloc (Obj.cells (qtysN.map (Value.int .i64)).toArray 2)).heap.size = w.heap.size + 1 + 1 from by simp] at hC
  show Code.wp _ _ _ _ (((w.alloc (Obj.cells (intsN.map (Value.int .i64)).toArray 3)).alloc (Obj.cells (qtysN.map (Value.int .i64)).toArray 2)).alloc (Obj.cells (codesN.map Value.string).toArray 9))
  generalize ((w.alloc (Obj.cells (intsN.map (Value.int .i64)).toArray 3)).alloc (Obj.cells (qtysN.map (Value.int .i64)).toArray 2)).alloc (Obj.cells (codesN.map Value.string).toArray 9) = w1 at hI hQ hC hB ⊢
  generalize w.heap.size + 1 + 1 = Cb at hC ⊢
  generalize w.heap.size + 1 = Qb at hQ ⊢
  have HB := Lib.hid hB
  clear hB
  generalize hIb : w.heap.size = Ib at hI ⊢
  have HIB := Lib.hid hIb
  have HI := Lib.hid hI
  have HQ := Lib.hid hQ
  have HC := Lib.hid hC
  clear hI hQ hC hIb
  have HA0 : Hid (Ap.ownW w1 w1.heap.size 24 8 (.slice none 0 0) ([] : List LnS).length (cellsL [])) := Lib.hid ⟨rfl, .inl ⟨rfl, rfl⟩⟩
  go_loopg [4, 5] 13 (fun kx s4 s5 wr => ∃ (i : Nat) (l : List LnS), s5 = .int .i64 i ∧ i ≤ 13 ∧ Hid (13 ≤ i + kx) ∧ Hid (l.length = i * 20) ∧ Hid (Ap.ownW wr w1.heap.size 24 8 s4 l.length (cellsL l)) ∧ Hid (Below w1.heap.size w1 wr))
  case atStart => exact ⟨0, [], rfl, by omega, Lib.hid (by omega), Lib.hid rfl, HA0, Below.refl _ _⟩
  case round =>
    clear HA0
    obtain ⟨i, l, rfl, hi13, HIX, HL, HO, HW⟩ := hrel
    by_cases hi : i < 13
    · have hiz : (i : Int) < 13 := by omega
      go_wp2_with fail
      go_loopg [4, 6] 5 (fun kx s4 s6 wr => ∃ (s : Nat) (l : List LnS), s6 = .int .i64 s ∧ s ≤ 5 ∧ Hid (5 ≤ s + kx) ∧ Hid (l.length = i * 20 + s * 4) ∧ Hid (Ap.ownW wr w1.heap.size 24 8 s4 l.length (cellsL l)) ∧ Hid (Below w1.heap.size w1 wr))
      case atStart => exact ⟨0, l, rfl, by omega, Lib.hid (by omega), Lib.hid (by have := HL.out; omega), HO, HW⟩
      case round =>
        clear HL HO HW l
        obtain ⟨s, l, rfl, hs5, HSX, HL, HO, HW⟩ := hrel
        by_cases hs : s < 5
        · have hsz : (s : Int) < 5 := by omega
          go_wp2_with fail
          go_loopg [4, 7] 4 (fun kx s4 s7 wr => ∃ (c : Nat) (l : List LnS), s7 = .int .i64 c ∧ c ≤ 4 ∧ Hid (4 ≤ c + kx) ∧ Hid (l.length = i * 20 + s * 4 + c) ∧ Hid (Ap.ownW wr w1.heap.size 24 8 s4 l.length (cellsL l)) ∧ Hid (Below w1.heap.size w1 wr))
          case atStart => exact ⟨0, l, rfl, by omega, Lib.hid (by omega), Lib.hid (by have := HL.out; omega), HO, HW⟩
          case round =>
            clear HL HO HW l
            obtain ⟨c, l, rfl, hc4, HCX, HL, HO, HW⟩ := hrel
            by_cases hc : c < 4
            · have hcz : (c : Int) < 4 := by omega
              have hi0 : (0 : Int) ≤ (i : Int) := by omega
              have hc0 : (0 : Int) ≤ (c : Int) := by omega
              have cI := row_enc (Value.int .i64) 0 intsN (blk_below HI.out HW.out) i hi
              have cC := row_enc Value.string ⟨#[]⟩ codesN (blk_below HC.out HW.out) c hc
              generalize intsN.getD i 0 = vi at cI
              generalize codesN.getD c ⟨#[]⟩ = vc at cC
              go_wp2_with fail
              go_region_held3 (fun w' => w'.cell? ⟨Ib, i, none⟩ = some (.int .i64 vi) ∧ w'.cell? ⟨Cb, c, none⟩ = some (.string vc)) (go_keep) (fail)
              all_goals go_wp2_with fail
              have hX := blk_drew (blk_new wr (Obj.cells (lineCells ⟨1, ⟨#[65]⟩, 1, 0, 0, IntKind.u8.wrap (s : Int), vi, vc⟩) 24))
              have hb := below_drew (below_alloc (Below.refl wr.heap.size wr) (Obj.cells (lineCells ⟨1, ⟨#[65]⟩, 1, 0, 0, IntKind.u8.wrap (s : Int), vi, vc⟩) 24))
              have HW2 := Lib.hid (below_then HW.out HW.out.size hb)
              have HO2 := Lib.hid (HO.out.below hb)
              show Code.wp _ _ _ _ (wr.alloc (Obj.cells (lineCells ⟨1, ⟨#[65]⟩, 1, 0, 0, IntKind.u8.wrap (s : Int), vi, vc⟩) 24)).drew
              generalize (wr.alloc (Obj.cells (lineCells ⟨1, ⟨#[65]⟩, 1, 0, 0, IntKind.u8.wrap (s : Int), vi, vc⟩) 24)).drew = w2 at hX HW2 HO2 ⊢
              generalize (⟨1, ⟨#[65]⟩, 1, 0, 0, IntKind.u8.wrap (s : Int), vi, vc⟩ : LnS) = x at hX
              have HXL : Hid (∀ k, u4.ownBlock = some k → k < wr.heap.size) := Lib.hid (fun k hk => (HO.out.lt k hk).2)
              have HXG : Hid (w1.heap.size ≤ wr.heap.size) := Lib.hid HW.out.size
              generalize wr.heap.size = Xb at hX HXL HXG ⊢
              have HX := Lib.hid hX
              clear hX hb HW HO cI cC
              have cI := row_enc (Value.int .i64) 0 intsN (blk_below HI.out HW2.out) i hi
              have cJ := row_enc (Value.int .i64) 0 intsN (blk_below HI.out HW2.out) ((i + c) % 13) (Nat.mod_lt _ (by decide))
              generalize hq : (i + c) % 13 = q at cJ
              have hw : IntKind.i64.wrap ((i : Int) + (c : Int)) = (i : Int) + (c : Int) := IntWalk.i64_in _ (by omega)
              have hm : Int.tmod ((i : Int) + (c : Int)) 13 = (q : Int) := by rw [Int.tmod_eq_emod_of_nonneg (by omega)]; omega
              have hq0 : (0 : Int) ≤ (q : Int) := by omega
              have hq1 : (q : Int) < 13 := by omega
              clear hq
              generalize intsN.getD i 0 = vi at cI
              generalize intsN.getD q 0 = vj at cJ
              -- REGION15
              refine start_ (n := 16) (S := fun w' => w'.cell? ⟨Ib, i, none⟩ = some (.int .i64 vi) ∧ w'.cell? ⟨Ib, q, none⟩ = some (.int .i64 vj)) (ds := []) #[false, false, false, false, false, false, false, false, false, false, false, false, false, false, false, false] (by kernel_rfl) rfl rfl ⟨cI, cJ⟩ (fun hHeld => ?_); refine with_tabW tab15 bits15 (fun HT_ HW_ => ?_)
              have HW3 := Lib.hid (below_drew HW2.out)
              have HX3 := Lib.hid (blk_drew HX.out)
              have HO3 := Lib.hid (HO2.out.below (below_drew (Below.refl _ _)))
              clear HW2 HX HO2 cI cJ
              generalize w2.drew = w3 at HW3 HX3 HO3 hHeld ⊢
              have HEL : Hid (∀ w', Below w3.heap.size w3 w' → (w'.cell? ⟨Ib, i, none⟩ = some (.int .i64 vi) ∧ w'.cell? ⟨Ib, q, none⟩ = some (.int .i64 vj))) := Lib.hid (fun w' h => ⟨(h.cell (World.block_lt_of_cell? _ _ hHeld.1)).trans hHeld.1, (h.cell (World.block_lt_of_cell? _ _ hHeld.2)).trans hHeld.2⟩)
              refine pure_ (i := 0) (N := some 40) (v := ?_) (a' := ?_) #[true, false, false, false, false, false, false, false, false, false, false, false, false, false, false, false] rfl rfl (any_of HT_.out (by kernel_rfl)) (fun _ _ _ h => h) (Or.inl ⟨by rfl, ?_⟩) ?_ ?_
              rotate_left
              · intro w'
                go_simp
                with_reducible rfl
              rotate_left
              · simp only [Act.put, List.setIfInBounds_toArray, List.set_cons_zero, List.set_cons_succ, i64_w, i32_w]
                rfl
              refine pure_ (i := 1) (N := some 41) (v := ?_) (a' := ?_) #[true, true, false, false, false, false, false, false, false, false, false, false, false, false, false, false] rfl rfl (any_of HT_.out (by kernel_rfl)) (fun _ _ _ h => h) (Or.inl ⟨by rfl, ?_⟩) ?_ ?_
              rotate_left
              · intro w'
                go_simp
                with_reducible rfl
              rotate_left
              · simp only [Act.put, List.setIfInBounds_toArray, List.set_cons_zero, List.set_cons_succ, i64_w, i32_w]
                rfl
              refine pure_ (i := 2) (N := some 42) (v := ?_) (a' := ?_) #[true, true, true, false, false, false, false, false, false, false, false, false, false, false, false, false] rfl rfl (any_of HT_.out (by kernel_rfl)) (fun _ _ _ h => h) (Or.inl ⟨by rfl, ?_⟩) ?_ ?_
              rotate_left
              · intro w'
                go_simp
                with_reducible rfl
              rotate_left
              · simp only [Act.put, List.setIfInBounds_toArray, List.set_cons_zero, List.set_cons_succ, i64_w, i32_w]
                rfl
              refine pure_ (i := 4) (N := some 44) (v := ?_) (a' := ?_) #[true, true, true, false, true, false, false, false, false, false, false, false, false, false, false, false] rfl rfl (any_of HT_.out (by kernel_rfl)) (fun _ _ _ h => h) (Or.inl ⟨by rfl, ?_⟩) ?_ ?_
              rotate_left
              · intro w'
                go_simp
                with_reducible rfl
              rotate_left
              · simp only [Act.put, List.setIfInBounds_toArray, List.set_cons_zero, List.set_cons_succ, i64_w, i32_w]
                rfl
              refine pure_ (i := 5) (N := some 45) (v := ?_) (a' := ?_) #[true, true, true, false, true, true, false, false, false, false, false, false, false, false, false, false] rfl rfl (any_of HT_.out (by kernel_rfl)) (fun _ _ _ h => h) (Or.inl ⟨by rfl, ?_⟩) ?_ ?_
              rotate_left
              · intro w'
                go_simp
                with_reducible rfl
              rotate_left
              · simp only [Act.put, List.setIfInBounds_toArray, List.set_cons_zero, List.set_cons_succ, i64_w, i32_w]
                rfl
              refine pure_ (i := 6) (N := some 46) (v := ?_) (a' := ?_) #[true, true, true, false, true, true, true, false, false, false, false, false, false, false, false, false] rfl rfl (any_of HT_.out (by kernel_rfl)) (fun _ _ _ h => h) (Or.inl ⟨by rfl, ?_⟩) ?_ ?_
              rotate_left
              · intro w'
                go_simp
                with_reducible rfl
              rotate_left
              · simp only [Act.put, List.setIfInBounds_toArray, List.set_cons_zero, List.set_cons_succ, i64_w, i32_w]
                rfl
              refine pure_ (i := 7) (N := some 47) (v := ?_) (a' := ?_) #[true, true, true, false, true, true, true, true, false, false, false, false, false, false, false, false] rfl rfl (any_of HT_.out (by kernel_rfl)) (fun _ _ _ h => h) (Or.inl ⟨by rfl, ?_⟩) ?_ ?_
              rotate_left
              · intro w'
                go_simp
                with_reducible rfl
              rotate_left
              · simp only [Act.put, List.setIfInBounds_toArray, List.set_cons_zero, List.set_cons_succ, i64_w, i32_w]
                rfl
              refine pure_ (i := 8) (N := some 48) (v := ?_) (a' := ?_) #[true, true, true, false, true, true, true, true, true, false, false, false, false, false, false, false] rfl rfl (any_of HT_.out (by kernel_rfl)) (fun _ _ _ h => h) (Or.inl ⟨by rfl, ?_⟩) ?_ ?_
              rotate_left
              · intro w'
                go_simp
                with_reducible rfl
              rotate_left
              · simp only [Act.put, List.setIfInBounds_toArray, List.set_cons_zero, List.set_cons_succ, i64_w, i32_w]
                rfl
              refine pure_ (i := 9) (N := some 49) (v := ?_) (a' := ?_) #[true, true, true, false, true, true, true, true, true, true, false, false, false, false, false, false] rfl rfl (any_of HT_.out (by kernel_rfl)) (fun _ _ _ h => h) (Or.inl ⟨by rfl, ?_⟩) ?_ ?_
              rotate_left
              · intro w'
                go_simp
                with_reducible rfl
              rotate_left
              · simp only [Act.put, List.setIfInBounds_toArray, List.set_cons_zero, List.set_cons_succ, i64_w, i32_w]
                rfl
              refine pure_ (i := 11) (N := some 51) (v := ?_) (a' := ?_) #[true, true, true, false, true, true, true, true, true, true, false, true, false, false, false, false] rfl rfl (any_of HT_.out (by kernel_rfl)) (fun _ _ _ h => h) (Or.inl ⟨by rfl, ?_⟩) ?_ ?_
              rotate_left
              · intro w'
                go_simp
                with_reducible rfl
              rotate_left
              · simp only [Act.put, List.setIfInBounds_toArray, List.set_cons_zero, List.set_cons_succ, i64_w, i32_w]
                rfl
              refine pure_ (i := 12) (N := some 52) (v := ?_) (a' := ?_) #[true, true, true, false, true, true, true, true, true, true, false, true, true, false, false, false] rfl rfl (any_of HT_.out (by kernel_rfl)) (fun _ _ _ h => h) (Or.inl ⟨by rfl, ?_⟩) ?_ ?_
              rotate_left
              · intro w'
                go_simp
                with_reducible rfl
              rotate_left
              · simp only [Act.put, List.setIfInBounds_toArray, List.set_cons_zero, List.set_cons_succ, i64_w, i32_w]
                rfl
              refine take_ (i := 3) (N := some 43) (v := ?_) (a' := ?_) #[true, true, true, true, true, true, true, true, true, true, false, true, true, false, false, false] rfl rfl (take_ofW HT_.out HW_.out (by kernel_rfl)) (fun _ _ _ h => h) (Or.inl ⟨by rfl, ?_⟩) hHeld ?_ ?_
              rotate_left
              · rintro w' ⟨s0, s1⟩
                go_simp
                with_reducible rfl
              rotate_left
              · simp only [Act.put, List.setIfInBounds_toArray, List.set_cons_zero, List.set_cons_succ, i64_w, i32_w]
                rfl
              refine take_ (i := 10) (N := some 50) (v := ?_) (a' := ?_) #[true, true, true, true, true, true, true, true, true, true, true, true, true, false, false, false] rfl rfl (take_ofW HT_.out HW_.out (by kernel_rfl)) (fun _ _ _ h => h) (Or.inl ⟨by rfl, ?_⟩) hHeld ?_ ?_
              rotate_left
              · rintro w' ⟨s0, s1⟩
                go_simp
                with_reducible rfl
              rotate_left
              · simp only [Act.put, List.setIfInBounds_toArray, List.set_cons_zero, List.set_cons_succ, i64_w, i32_w]
                rfl
              refine join_ (σ := Nat) 1 #[true, true, true, true, true, true, true, true, true, true, true, true, true, true, true, false] (fun s_ => [(53, .agg #[.int .i64 vi, .string ⟨#[65]⟩, .int .i64 1, .int .i64 0, .int .i64 vj, .int .u8 ((s : Int) % 256), .int .i64 (-1), .string ⟨#[]⟩]), (9, .pointer (some ⟨s_, 0, none⟩))]) (fun s_ w' => (w'.cell? ⟨Ib, i, none⟩ = some (.int .i64 vi) ∧ w'.cell? ⟨Ib, q, none⟩ = some (.int .i64 vj)) ∧ w'.heap[s_]? = some (.cells #[.int .i64 0, .string (⟨#[]⟩ : ByteArray), .int .i64 0, .int .i64 0, .int .i64 0, .int .u8 0, .int .i64 0, .string (⟨#[]⟩ : ByteArray)] 24 (0, 0)) ∧ w3.heap.size ≤ s_ ∧ Below w3.heap.size w3 w') ?_ ?_
              rotate_left
              · intro hCont
                refine two_ (i := 13) (j := 14) (Ni := some 53) (Nj := some 9) #[true, true, true, true, true, true, true, true, true, true, true, true, true, true, false, false] #[true, true, true, true, true, true, true, true, true, true, true, true, true, false, true, false] rfl rfl rfl rfl (two_of HT_.out (by kernel_rfl)) (by decide) (by decide) (fun K hK => ?_) (fun K hK => ?_)
                · skip
                  refine goes_ Try.func23 (by kernel_rfl) rfl #[.int .i64 vi, .int .i64 vj, .int .u8 ((s : Int) % 256)] (by rfl) rfl rfl (by (try simp only [List.map_toArray, List.map_cons, List.map_nil]); first | done | rfl) ?_
                  with_reducible refine (line_lit _ _ _ _).mono ?_
                  rintro e w4 ⟨rfl, hb⟩
                  have HS0_ := (hb.cell (World.block_lt_of_cell? _ _ (hHeld.1))).trans (hHeld.1)
                  have HS1_ := (hb.cell (World.block_lt_of_cell? _ _ (hHeld.2))).trans (hHeld.2)
                  refine ⟨_, rfl, ?_⟩
                  refine hK.out _ _ ⟨HS0_, HS1_⟩ (fun hHeld => ?_)
                  clear hK K
                  refine norm_ (a' := ?_) ?_ ?_
                  rotate_left
                  · show Act.put _ (some 53) _ = _
                    simp only [Act.put, List.setIfInBounds_toArray, List.set_cons_zero, List.set_cons_succ, i64_w, i32_w]
                    rfl
                  refine one_ (i := 14) (N := some 9) #[true, true, true, true, true, true, true, true, true, true, true, true, true, true, true, false] rfl rfl (one_of HT_.out (by kernel_rfl)) (by decide) (fun K hK => ?_)
                  refine box_step ?hg (N := 9) ?hd (cs := #[.int .i64 0, .string (⟨#[]⟩ : ByteArray), .int .i64 0, .int .i64 0, .int .i64 0, .int .u8 0, .int .i64 0, .string (⟨#[]⟩ : ByteArray)]) (t := 24) ?hr ?_; (case hd => rfl); (case hg => rfl); (case hr => first | (go_simp; done) | (go_simp; rfl))
                  intro gb hg w5 hbox hb2
                  have HS0_ := (hb2.cell (World.block_lt_of_cell? _ _ (hHeld.1))).trans (hHeld.1)
                  have HS1_ := (hb2.cell (World.block_lt_of_cell? _ _ (hHeld.2))).trans (hHeld.2)
                  refine hK.out _ _ ⟨HS0_, HS1_⟩ (fun hHeld => ?_)
                  clear hK K
                  refine norm_ (a' := ?_) ?_ ?_
                  rotate_left
                  · show Act.put _ (some 9) _ = _
                    simp only [Act.put, List.setIfInBounds_toArray, List.set_cons_zero, List.set_cons_succ, i64_w, i32_w]
                    rfl
                  exact norm_ (by simp only [putAll, Act.put, List.setIfInBounds_toArray, List.set_cons_zero, List.set_cons_succ]) (hCont gb _ ⟨hHeld, hbox, by rw [hg]; exact hb.size, below_then hb hb.size hb2⟩)
                · skip
                  refine box_step ?hg (N := 9) ?hd (cs := #[.int .i64 0, .string (⟨#[]⟩ : ByteArray), .int .i64 0, .int .i64 0, .int .i64 0, .int .u8 0, .int .i64 0, .string (⟨#[]⟩ : ByteArray)]) (t := 24) ?hr ?_; (case hd => rfl); (case hg => rfl); (case hr => first | (go_simp; done) | (go_simp; rfl))
                  intro gb hg w4 hbox hb
                  have HS0_ := (hb.cell (World.block_lt_of_cell? _ _ (hHeld.1))).trans (hHeld.1)
                  have HS1_ := (hb.cell (World.block_lt_of_cell? _ _ (hHeld.2))).trans (hHeld.2)
                  refine hK.out _ _ ⟨HS0_, HS1_⟩ (fun hHeld => ?_)
                  clear hK K
                  refine norm_ (a' := ?_) ?_ ?_
                  rotate_left
                  · show Act.put _ (some 9) _ = _
                    simp only [Act.put, List.setIfInBounds_toArray, List.set_cons_zero, List.set_cons_succ, i64_w, i32_w]
                    rfl
                  refine one_ (i := 13) (N := some 53) #[true, true, true, true, true, true, true, true, true, true, true, true, true, true, true, false] rfl rfl (one_of HT_.out (by kernel_rfl)) (by decide) (fun K hK => ?_)
                  refine goes_ Try.func23 (by kernel_rfl) rfl #[.int .i64 vi, .int .i64 vj, .int .u8 ((s : Int) % 256)] (by rfl) rfl rfl (by (try simp only [List.map_toArray, List.map_cons, List.map_nil]); first | done | rfl) ?_
                  with_reducible refine (line_lit _ _ _ _).mono ?_
                  rintro e w5 ⟨rfl, hb2⟩
                  have HS0_ := (hb2.cell (World.block_lt_of_cell? _ _ (hHeld.1))).trans (hHeld.1)
                  have HS1_ := (hb2.cell (World.block_lt_of_cell? _ _ (hHeld.2))).trans (hHeld.2)
                  refine ⟨_, rfl, ?_⟩
                  refine hK.out _ _ ⟨HS0_, HS1_⟩ (fun hHeld => ?_)
                  clear hK K
                  refine norm_ (a' := ?_) ?_ ?_
                  rotate_left
                  · show Act.put _ (some 53) _ = _
                    simp only [Act.put, List.setIfInBounds_toArray, List.set_cons_zero, List.set_cons_succ, i64_w, i32_w]
                    rfl
                  exact norm_ (by simp only [putAll, Act.put, List.setIfInBounds_toArray, List.set_cons_zero, List.set_cons_succ]) (hCont gb _ ⟨hHeld, blk_below hbox hb2, Nat.le_of_eq hg.symm, below_then hb hb.size hb2⟩)
              · skip
                rintro g9 w4 ⟨hHeld, hbox, hge, hB⟩
                refine norm_ (a' := ?_) ?_ ?_
                rotate_left
                · simp only [putAll, Act.put, List.setIfInBounds_toArray, List.set_cons_zero, List.set_cons_succ]
                  rfl
                refine one_ (i := 15) (N := none) #[true, true, true, true, true, true, true, true, true, true, true, true, true, true, true, true] rfl rfl (one_of HT_.out (by kernel_rfl)) (by decide) (fun K hK => ?_)
                have hs0 : w4.cell? ⟨g9, 0, none⟩ = some (.int .i64 0) := (blk_cell hbox 0).trans rfl
                have hf0 := blk_frozen hbox 0
                have hs1 : w4.cell? ⟨g9, 1, none⟩ = some (.string (⟨#[]⟩ : ByteArray)) := (blk_cell hbox 1).trans rfl
                have hf1 := blk_frozen hbox 1
                have hs2 : w4.cell? ⟨g9, 2, none⟩ = some (.int .i64 0) := (blk_cell hbox 2).trans rfl
                have hf2 := blk_frozen hbox 2
                have hs3 : w4.cell? ⟨g9, 3, none⟩ = some (.int .i64 0) := (blk_cell hbox 3).trans rfl
                have hf3 := blk_frozen hbox 3
                have hs4 : w4.cell? ⟨g9, 4, none⟩ = some (.int .i64 0) := (blk_cell hbox 4).trans rfl
                have hf4 := blk_frozen hbox 4
                have hs5 : w4.cell? ⟨g9, 5, none⟩ = some (.int .u8 0) := (blk_cell hbox 5).trans rfl
                have hf5 := blk_frozen hbox 5
                have hs6 : w4.cell? ⟨g9, 6, none⟩ = some (.int .i64 0) := (blk_cell hbox 6).trans rfl
                have hf6 := blk_frozen hbox 6
                have hs7 : w4.cell? ⟨g9, 7, none⟩ = some (.string (⟨#[]⟩ : ByteArray)) := (blk_cell hbox 7).trans rfl
                have hf7 := blk_frozen hbox 7
                refine skip_ (w1 := ?_) (by rfl) rfl ?_ ?_
                rotate_left
                · go_simp
                  rfl
                clear hs0 hf0 hs1 hf1 hs2 hf2 hs3 hf3 hs4 hf4 hs5 hf5 hs6 hf6 hs7 hf7
                have hset := set8 hbox hge hB (.int .i64 vi) (.string ⟨#[65]⟩) (.int .i64 1) (.int .i64 0) (.int .i64 vj) (.int .u8 ((s : Int) % 256)) (.int .i64 (-1)) (.string ⟨#[]⟩)
                refine hK.out _ _ ⟨HEL.out _ hset.2 |>.1, HEL.out _ hset.2 |>.2⟩ (fun hHeld => ?_)
                clear hK K
                refine done_ (done_of HT_.out (by kernel_rfl)) ?_
                have HY := Lib.hid hset.1
                have HW4 := Lib.hid (below_then HW3.out HW3.out.size hset.2)
                have HX4 := Lib.hid (blk_below HX3.out hset.2)
                have HO4 := Lib.hid (HO3.out.below hset.2)
                have HYL : Hid (∀ k, u4.ownBlock = some k → k < g9) := Lib.hid (fun k hk => Nat.lt_of_lt_of_le (HO3.out.lt k hk).2 hge)
                clear hset hHeld HEL HT_ HW_ hbox hge hB HW3 HX3 HO3
                generalize ((((((((w4.setCell ⟨g9, 0, none⟩ (.int .i64 vi)).setCell ⟨g9, 1, none⟩ (.string ⟨#[65]⟩)).setCell ⟨g9, 2, none⟩ (.int .i64 1)).setCell ⟨g9, 3, none⟩ (.int .i64 0)).setCell ⟨g9, 4, none⟩ (.int .i64 vj)).setCell ⟨g9, 5, none⟩ (.int .u8 ((s : Int) % 256))).setCell ⟨g9, 6, none⟩ (.int .i64 (-1))).setCell ⟨g9, 7, none⟩ (.string ⟨#[]⟩)) = w5 at HY HW4 HX4 HO4 ⊢
                have HYX := Lib.hid (show ∃ y : LnS, w5.heap[g9]? = some (.cells (lineCells y) 24 (0, 0)) from ⟨⟨vi, ⟨#[65]⟩, 1, 0, vj, ((s : Int) % 256), -1, ⟨#[]⟩⟩, HY.out⟩)
                clear HY
                obtain ⟨y, hy⟩ := HYX.out
                have HY := Lib.hid hy
                clear hy HYX
                generalize vi = vi0
                generalize vj = vj0
                generalize ((s : Int) % 256) = sb0
                go_wp2_with fail
                have cC := row_enc Value.string ⟨#[]⟩ codesN (blk_below HC.out HW4.out) c hc
                have cQ := row_enc (Value.int .i64) 0 qtysN (blk_below HQ.out HW4.out) (i % 5) (Nat.mod_lt _ (by decide))
                have cI := row_enc (Value.int .i64) 0 intsN (blk_below HI.out HW4.out) i hi
                generalize hq5 : i % 5 = q5 at cQ
                have hm5 : Int.tmod (i : Int) 5 = (q5 : Int) := by rw [Int.tmod_eq_emod_of_nonneg (by omega)]; omega
                have hq50 : (0 : Int) ≤ (q5 : Int) := by omega
                have hq51 : (q5 : Int) < 5 := by omega
                clear hq5
                generalize codesN.getD c ⟨#[]⟩ = vc at cC
                generalize qtysN.getD q5 0 = vq at cQ
                generalize intsN.getD i 0 = vi at cI
                go_region_held3 (fun w' => w'.cell? ⟨Cb, c, none⟩ = some (.string vc) ∧ w'.cell? ⟨Qb, q5, none⟩ = some (.int .i64 vq) ∧ w'.cell? ⟨Ib, i, none⟩ = some (.int .i64 vi)) (go_keep) (fail)
                have hZ := blk_drew (blk_new w5 (Obj.cells #[.int .i64 2, .string vc, .int .i64 vq, .int .i64 vi, .int .i64 99, .int .u8 1, .int .i64 (-1), .string ⟨#[]⟩] 24))
                have hb := below_drew (below_alloc (Below.refl w5.heap.size w5) (Obj.cells #[.int .i64 2, .string vc, .int .i64 vq, .int .i64 vi, .int .i64 99, .int .u8 1, .int .i64 (-1), .string ⟨#[]⟩] 24))
                have HZG : Hid (w1.heap.size ≤ w5.heap.size ∧ ∀ k, u4.ownBlock = some k → k < w5.heap.size) := Lib.hid ⟨HW4.out.size, fun k hk => (HO4.out.lt k hk).2⟩
                generalize (w5.alloc (Obj.cells #[.int .i64 2, .string vc, .int .i64 vq, .int .i64 vi, .int .i64 99, .int .u8 1, .int .i64 (-1), .string ⟨#[]⟩] 24)).drew = w6 at hZ hb ⊢
                have hZ : w6.heap[w5.heap.size]? = some (.cells (lineCells ⟨2, vc, vq, vi, 99, 1, -1, ⟨#[]⟩⟩) 24 (0, 0)) := hZ
                generalize (⟨2, vc, vq, vi, 99, 1, -1, ⟨#[]⟩⟩ : LnS) = z at hZ
                have HW6 := Lib.hid (below_then HW4.out HW4.out.size hb)
                have HX6 := Lib.hid (blk_below HX4.out hb)
                have HY6 := Lib.hid (blk_below HY.out hb)
                have HO6 := Lib.hid (HO4.out.below hb)
                have HZ6 := Lib.hid hZ
                generalize w5.heap.size = Zb at HZG HZ6 hZ ⊢
                clear hZ hb cC cQ cI hm5 hq50 hq51 HW4 HX4 HY HO4
                generalize vc = vc1
                generalize vq = vq1
                generalize vi = vi1
                have b0 : w6.cell? ⟨g9, 0, none⟩ = some (.int .i64 y.f0) := (blk_cell HY6.out 0).trans rfl
                have b1 : w6.cell? ⟨g9, 1, none⟩ = some (.string y.f1) := (blk_cell HY6.out 1).trans rfl
                have b2 : w6.cell? ⟨g9, 2, none⟩ = some (.int .i64 y.f2) := (blk_cell HY6.out 2).trans rfl
                have b3 : w6.cell? ⟨g9, 3, none⟩ = some (.int .i64 y.f3) := (blk_cell HY6.out 3).trans rfl
                have b4 : w6.cell? ⟨g9, 4, none⟩ = some (.int .i64 y.f4) := (blk_cell HY6.out 4).trans rfl
                have b5 : w6.cell? ⟨g9, 5, none⟩ = some (.int .u8 y.f5) := (blk_cell HY6.out 5).trans rfl
                have b6 : w6.cell? ⟨g9, 6, none⟩ = some (.int .i64 y.f6) := (blk_cell HY6.out 6).trans rfl
                have b7 : w6.cell? ⟨g9, 7, none⟩ = some (.string y.f7) := (blk_cell HY6.out 7).trans rfl
                go_wp2_with (first | ((with_reducible refine Ap.gate_bs _ _ #[(0, .tmp 69)] rfl ?_); refine Ap.wpList_build1 rfl 29 24 (.tmp 69) rfl Try.underlying29 w6.heap.size rfl (lineEnc y) rfl (built_any y) ?_) | ((with_reducible refine Ap.gate_ap #[.tmp 68, .tmp 70] _ rfl ?_); go_loud (refine Ap.wpList_append_ownW _ rfl (.tmp 68) (.tmp 70) 29 rfl w1.heap.size 24 zLine 8 80 Try.underlying29 infoLine rfl (by decide) u4 l.length (cellsL l) rfl (HO6.out.below (below_alloc (Below.refl _ _) _)) ⟨w6.heap.size, 0, none⟩ 1 1 (lineEnc y) rfl rfl (Ap.new_cell _ _ _) (lineEnc_one y) (by decide) (by have := HL.out; simp only [maxLen]; omega) (by have := HL.out; omega) (Nat.le_trans HW6.out.size (by simp)) ?_)))
                intro v7 w7 ho hg hloc hkeep
                clear b0 b1 b2 b3 b4 b5 b6 b7 hloc hkeep
                rw [← cellsL_snoc] at ho
                have HO7 : Hid (Ap.ownW w7 w1.heap.size 24 8 v7 (l ++ [y]).length (cellsL (l ++ [y]))) := Lib.hid (by rw [List.length_append]; exact ho)
                have HW7 := Lib.hid (Ap.below_grown (below_alloc HW6.out (Obj.cells (lineEnc y).toArray 24)) hg (Nat.le_trans HW6.out.size (by simp)) (fun k hk => (HO6.out.lt k hk).1))
                have HX7 := Lib.hid (blk_grown (blk_alloc HX6.out _) hg (fun e => Nat.lt_irrefl _ (HXL.out _ e.symm)))
                have HY7 := Lib.hid (blk_grown (blk_alloc HY6.out _) hg (fun e => Nat.lt_irrefl _ (HYL.out _ e.symm)))
                have HZ7 := Lib.hid (blk_grown (blk_alloc HZ6.out _) hg (fun e => Nat.lt_irrefl _ (HZG.out.2 _ e.symm)))
                have HL7 : Hid ((l ++ [y]).length = i * 20 + s * 4 + (c + 1)) := Lib.hid (by rw [List.length_append, HL.out]; rfl)
                clear ho hg HO6 HW6 HX6 HY6 HZ6 HXL HYL HZG HXG HL
                generalize l ++ [y] = l7 at HO7 HL7
                go_wp2_with fail
                have kx0 : ∀ n os, (grow (redrawn w7 n) os).cell? ⟨Xb, 0, none⟩ = some (.int .i64 x.f0) := fun n os => cell_regrown ((blk_cell HX7.out 0).trans rfl) n os
                have kx1 : ∀ n os, (grow (redrawn w7 n) os).cell? ⟨Xb, 1, none⟩ = some (.string x.f1) := fun n os => cell_regrown ((blk_cell HX7.out 1).trans rfl) n os
                have kx2 : ∀ n os, (grow (redrawn w7 n) os).cell? ⟨Xb, 2, none⟩ = some (.int .i64 x.f2) := fun n os => cell_regrown ((blk_cell HX7.out 2).trans rfl) n os
                have kx3 : ∀ n os, (grow (redrawn w7 n) os).cell? ⟨Xb, 3, none⟩ = some (.int .i64 x.f3) := fun n os => cell_regrown ((blk_cell HX7.out 3).trans rfl) n os
                have kx4 : ∀ n os, (grow (redrawn w7 n) os).cell? ⟨Xb, 4, none⟩ = some (.int .i64 x.f4) := fun n os => cell_regrown ((blk_cell HX7.out 4).trans rfl) n os
                have kx5 : ∀ n os, (grow (redrawn w7 n) os).cell? ⟨Xb, 5, none⟩ = some (.int .u8 x.f5) := fun n os => cell_regrown ((blk_cell HX7.out 5).trans rfl) n os
                have kx6 : ∀ n os, (grow (redrawn w7 n) os).cell? ⟨Xb, 6, none⟩ = some (.int .i64 x.f6) := fun n os => cell_regrown ((blk_cell HX7.out 6).trans rfl) n os
                have kx7 : ∀ n os, (grow (redrawn w7 n) os).cell? ⟨Xb, 7, none⟩ = some (.string x.f7) := fun n os => cell_regrown ((blk_cell HX7.out 7).trans rfl) n os
                have ky0 : ∀ n os, (grow (redrawn w7 n) os).cell? ⟨g9, 0, none⟩ = some (.int .i64 y.f0) := fun n os => cell_regrown ((blk_cell HY7.out 0).trans rfl) n os
                have ky1 : ∀ n os, (grow (redrawn w7 n) os).cell? ⟨g9, 1, none⟩ = some (.string y.f1) := fun n os => cell_regrown ((blk_cell HY7.out 1).trans rfl) n os
                have ky2 : ∀ n os, (grow (redrawn w7 n) os).cell? ⟨g9, 2, none⟩ = some (.int .i64 y.f2) := fun n os => cell_regrown ((blk_cell HY7.out 2).trans rfl) n os
                have ky3 : ∀ n os, (grow (redrawn w7 n) os).cell? ⟨g9, 3, none⟩ = some (.int .i64 y.f3) := fun n os => cell_regrown ((blk_cell HY7.out 3).trans rfl) n os
                have ky4 : ∀ n os, (grow (redrawn w7 n) os).cell? ⟨g9, 4, none⟩ = some (.int .i64 y.f4) := fun n os => cell_regrown ((blk_cell HY7.out 4).trans rfl) n os
                have ky5 : ∀ n os, (grow (redrawn w7 n) os).cell? ⟨g9, 5, none⟩ = some (.int .u8 y.f5) := fun n os => cell_regrown ((blk_cell HY7.out 5).trans rfl) n os
                have ky6 : ∀ n os, (grow (redrawn w7 n) os).cell? ⟨g9, 6, none⟩ = some (.int .i64 y.f6) := fun n os => cell_regrown ((blk_cell HY7.out 6).trans rfl) n os
                have ky7 : ∀ n os, (grow (redrawn w7 n) os).cell? ⟨g9, 7, none⟩ = some (.string y.f7) := fun n os => cell_regrown ((blk_cell HY7.out 7).trans rfl) n os
                have kz0 : ∀ n os, (grow (redrawn w7 n) os).cell? ⟨Zb, 0, none⟩ = some (.int .i64 z.f0) := fun n os => cell_regrown ((blk_cell HZ7.out 0).trans rfl) n os
                have kz1 : ∀ n os, (grow (redrawn w7 n) os).cell? ⟨Zb, 1, none⟩ = some (.string z.f1) := fun n os => cell_regrown ((blk_cell HZ7.out 1).trans rfl) n os
                have kz2 : ∀ n os, (grow (redrawn w7 n) os).cell? ⟨Zb, 2, none⟩ = some (.int .i64 z.f2) := fun n os => cell_regrown ((blk_cell HZ7.out 2).trans rfl) n os
                have kz3 : ∀ n os, (grow (redrawn w7 n) os).cell? ⟨Zb, 3, none⟩ = some (.int .i64 z.f3) := fun n os => cell_regrown ((blk_cell HZ7.out 3).trans rfl) n os
                have kz4 : ∀ n os, (grow (redrawn w7 n) os).cell? ⟨Zb, 4, none⟩ = some (.int .i64 z.f4) := fun n os => cell_regrown ((blk_cell HZ7.out 4).trans rfl) n os
                have kz5 : ∀ n os, (grow (redrawn w7 n) os).cell? ⟨Zb, 5, none⟩ = some (.int .u8 z.f5) := fun n os => cell_regrown ((blk_cell HZ7.out 5).trans rfl) n os
                have kz6 : ∀ n os, (grow (redrawn w7 n) os).cell? ⟨Zb, 6, none⟩ = some (.int .i64 z.f6) := fun n os => cell_regrown ((blk_cell HZ7.out 6).trans rfl) n os
                have kz7 : ∀ n os, (grow (redrawn w7 n) os).cell? ⟨Zb, 7, none⟩ = some (.string z.f7) := fun n os => cell_regrown ((blk_cell HZ7.out 7).trans rfl) n os
                have cQ := fun n os => cell_regrown (row_enc (Value.int .i64) 0 qtysN (blk_below HQ.out HW7.out) (i % 5) (Nat.mod_lt _ (by decide))) n os
                have cI := fun n os => cell_regrown (row_enc (Value.int .i64) 0 intsN (blk_below HI.out HW7.out) i hi) n os
                generalize hq5 : i % 5 = q5 at cQ
                have hm5 : Int.tmod (i : Int) 5 = (q5 : Int) := by rw [Int.tmod_eq_emod_of_nonneg (by omega)]; omega
                have hq50 : (0 : Int) ≤ (q5 : Int) := by omega
                have hq51 : (q5 : Int) < 5 := by omega
                clear hq5
                generalize qtysN.getD q5 0 = vq at cQ
                generalize intsN.getD i 0 = vi at cI
                have h1 := fun n os => Calls.regrown_of (rights_all x y (grow (redrawn w7 n) os))
                have h2 := fun n os => Calls.regrown_of (rights_all y z (grow (redrawn w7 n) os))
                have h3 := fun n os => Calls.regrown_of (rights_all z x (grow (redrawn w7 n) os))
                have h4 := fun n os => Calls.regrown_of (rights_all ⟨2, ⟨#[65]⟩, vq, 0, vi, 1, -1, ⟨#[]⟩⟩ z (grow (redrawn w7 n) os))
                refine wp_region_quiet_below (by kernel_rfl) (by kernel_rfl) ?_
                repeat (first | go_big_quiet_step ((go_at_call 3; (first | (with_reducible exact h1 _ _) | (with_reducible exact h2 _ _) | (with_reducible exact h3 _ _) | (with_reducible exact h4 _ _)))) | quiet_step ((go_at_call 3; (first | (with_reducible exact h1 _ _) | (with_reducible exact h2 _ _) | (with_reducible exact h3 _ _) | (with_reducible exact h4 _ _)))))
                refine wpQuiet_nil ?_
                intro _ hw'
                obtain ⟨⟨nq, osq⟩, hw''⟩ := hw'
                subst hw''
                have HBq := Lib.hid (below_regrown w7 nq osq)
                generalize grow (redrawn w7 nq) osq = w8 at HBq ⊢
                clear kx0 kx1 kx2 kx3 kx4 kx5 kx6 kx7 ky0 ky1 ky2 ky3 ky4 ky5 ky6 ky7 kz0 kz1 kz2 kz3 kz4 kz5 kz6 kz7 cQ cI h1 h2 h3 h4 hm5 hq50 hq51
                have HW8 := Lib.hid (below_then HW7.out HW7.out.size HBq.out)
                have HO8 := Lib.hid (HO7.out.below HBq.out)
                clear HBq HW7 HO7 HX7 HY7 HZ7
                go_wp2_with fail
                go_roundg (4 - (c + 1))
                case measure => have := HCX.out; omega
                case rel => exact ⟨c + 1, l7, by go_num, by omega, Lib.hid (by omega), HL7, HO8, HW8⟩
              -- END15
            · have hcz : ¬ (c : Int) < 4 := by omega
              obtain rfl : c = 4 := by omega
              go_wp2_with fail
              go_roundg (5 - (s + 1))
              case measure => have := HSX.out; omega
              case rel => exact ⟨s + 1, l, by go_num, by omega, Lib.hid (by omega), Lib.hid (by have := HL.out; omega), HO, HW⟩
        · have hsz : ¬ (s : Int) < 5 := by omega
          obtain rfl : s = 5 := by omega
          go_wp2_with fail
          go_roundg (13 - (i + 1))
          case measure => have := HIX.out; omega
          case rel => exact ⟨i + 1, l, by go_num, by omega, Lib.hid (by omega), Lib.hid (by have := HL.out; omega), HO, HW⟩
    · have hiz : ¬ (i : Int) < 13 := by omega
      obtain rfl : i = 13 := by omega
      obtain ⟨A, cc, rfl, hcc, hC⟩ := ownW_C (by have := HL.out; omega) HO.out
      have HA := Lib.hid hC
      have HCC := Lib.hid hcc
      clear hC hcc
      go_wp2_with fail
      go_loopg [11] 13 (fun kx s11 w9 => ∃ j : Nat, s11 = .int .i64 j ∧ j ≤ 13 ∧ Hid (13 ≤ j + kx) ∧ Hid (Below wr.heap.size wr w9))
      case atStart => exact ⟨0, rfl, by omega, Lib.hid (by omega), Below.refl _ _⟩
      case round =>
        obtain ⟨j, rfl, hj13, HJX, HW9⟩ := hrel
        have HB9 := Lib.hid (below_then HW.out HW.out.size HW9.out)
        by_cases hj : j < 13
        · have hjz : (j : Int) < 13 := by omega
          have hj0 : (0 : Int) ≤ (j : Int) := by omega
          have cI := row_enc (Value.int .i64) 0 intsN (blk_below HI.out HB9.out) j hj
          generalize intsN.getD j 0 = vi at cI
          go_wp2_with fail
          refine (RankLists_walk A cc l vi _ (Kd.C_below HA.out HW9.out) HCC.out (by have := HL.out; omega)).mono ?_
          rintro e w10 ⟨rfl, hb⟩
          have HW10 := Lib.hid (below_then HW9.out HW9.out.size hb)
          clear hb cI HB9
          go_wp2_with fail
          go_roundg (13 - (j + 1))
          case measure => have := HJX.out; omega
          case rel => exact ⟨j + 1, by go_num, by omega, Lib.hid (by omega), HW10⟩
        · have hjz : ¬ (j : Int) < 13 := by omega
          obtain ⟨f4, hf4, hl4⟩ : ∃ r, storemanlaw09_four.f = some r ∧ r.length = 4 := ⟨_, rfl, rfl⟩
          have HF4 := Lib.hid hf4
          have HL4 := Lib.hid hl4
          clear hf4 hl4
          go_wp2_with fail
          refine (storemanlaw09_four.calls f4 _ HF4.out).mono ?_
          rintro e w10 ⟨v1, rfl, hR, hb⟩
          have HB10 := Lib.hid (below_then HB9.out HB9.out.size hb)
          have HR10 := Lib.hid hR
          have HG10 := Lib.hid hb.size
          clear hR hb
          go_wp2_with fail
          refine (storemanlaw09_four.calls f4 _ HF4.out).mono ?_
          rintro e w11 ⟨v2, rfl, hR, hb⟩
          obtain ⟨A2, c2, rfl, hl2, hC2⟩ := Kd.R_reads hR
          have HB11 := Lib.hid (below_then HB10.out HB10.out.size hb)
          have HX11 := Lib.hid hb
          have HR11 := Lib.hid (Kd.R_below HR10.out hb)
          have HC2 := Lib.hid hC2
          clear hR hb hl2 hC2 HR10
          go_wp2_with (first | ((with_reducible refine gate_builtin (b := .append) (xs := #[.tmp 116, .tmp 117]) rfl ?_); refine Kd.R_append_rows k24 (Rr := k24.K w11) (w0 := w10) _ rfl (.tmp 116) (.tmp 117) 29 24 zLine 80 rfl Try.underlying29 infoLine rfl (by decide) (by omega) v1 f4 f4 A2 f4.length c2 (fun _ => True) (fun _ => False) rfl rfl HR11.out HC2.out (fun x cs h => by rw [k24_open h]; exact line_mk _ _ _ _) (fun _ hk => hk.elim) (fun k hk => trivial) (Below.mono HX11.out HG10.out) (Nat.le_trans HG10.out HX11.out.size) (by have := HL4.out; omega) ?_; intro v3 w12 ho hb hg hat; have HR12 := Lib.hid ho; have HB12 := Lib.hid hb; clear ho hb hg hat) | fail)
          obtain ⟨A3, c3, rfl, hl3, hC3⟩ := Kd.R_reads HR12.out
          have HW12 := Lib.hid (HB10.out.trans (HB12.out.mono HB9.out.size))
          refine (RankLists_walk A3 c3 (f4 ++ f4) 1 w12 hC3 hl3 (by have := HL4.out; rw [List.length_append]; omega)).mono ?_
          rintro e w13 ⟨rfl, hb⟩
          have HW13 := Lib.hid (below_then HW12.out HW12.out.size hb)
          clear hb hl3 hC3
          go_wp2_with fail
          refine (storemanlaw09_awake.calls 20 true _ awake_is).mono ?_
          rintro e w14 ⟨rfl, hb⟩
          have HW14 := Lib.hid (below_then HW13.out HW13.out.size hb)
          clear hb
          go_wp2_with fail
          go_ret
          exact ⟨rfl, HB.out.trans (HW14.out.mono HB.out.size)⟩
def storemanlaw09_RankNumbers.f : Option Bool := some true
theorem storemanlaw09_RankNumbers.calls (r : Bool) (w : World) (h : storemanlaw09_RankNumbers.f = some r) : Calls Try.prog 5 #[] w fun e w' => e = .returned (.bool r) ∧ RowKit.Below w.heap.size w w' := by
  obtain rfl := Option.some.inj h
  exact RankNumbers_walk w
end Go.Proofs.Ytokmkjgbhlcngaa.Q
namespace Go.Proofs.Ytokmkjgbhlcngaa.Q
open Go.RowKit Go.Proofs.YtokmkjgbhlcngaaW.PrintWords Go.Proofs.Ytokmkjgbhlcngaa.G
namespace SayRankNumbers
/-- The law's pure statement: at every input that can be read. -/
def Pure : Prop := storemanlaw09_RankNumbers.f  = some true
end SayRankNumbers
end Go.Proofs.Ytokmkjgbhlcngaa.Q
namespace Go.Proofs.Ytokmkjgbhlcngaa.Pure
open Go.RowKit Go.Proofs.YtokmkjgbhlcngaaW.PrintWords Go.Proofs.YtokmkjgbhlcngaaW.PrintLast Go.Proofs.YtokmkjgbhlcngaaW.PrintMore Go.Proofs.Ytokmkjgbhlcngaa.G Go.Proofs.Ytokmkjgbhlcngaa.Q
theorem RankNumbers : Q.SayRankNumbers.Pure := rfl
end Go.Proofs.Ytokmkjgbhlcngaa.Pure
