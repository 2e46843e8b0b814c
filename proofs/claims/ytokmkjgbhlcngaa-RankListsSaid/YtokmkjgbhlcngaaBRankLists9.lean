/- What leads to RankLists: the functions' contracts and the plain laws under them. -/
import Derived.BigQuiet
import Derived.Deep.Cut
import Derived.Deep.DrawnRows
import Derived.Deep.LoopGhost
import Derived.Deep.RegionHeld3
import Derived.KernelRfl
import Derived.Lib.QuietBelow
import Derived.Lib.Walk
import Derived.Outline
import Derived.Test.YtokmkjgbhlcngaaProg
import Derived.WalkKit
import Derived.Test.YtokmkjgbhlcngaaVRankLists0
import Derived.Test.YtokmkjgbhlcngaaVRankLists1
import Derived.Test.YtokmkjgbhlcngaaBRankLists0
import Derived.Test.YtokmkjgbhlcngaaBRankLists1
import Derived.Test.YtokmkjgbhlcngaaBRankLists2
import Derived.Test.YtokmkjgbhlcngaaBRankLists3
import Derived.Test.YtokmkjgbhlcngaaBRankLists4
import Derived.Test.YtokmkjgbhlcngaaBRankLists5
import Derived.Test.YtokmkjgbhlcngaaBRankLists6
import Derived.Test.YtokmkjgbhlcngaaBRankLists7
import Derived.Test.YtokmkjgbhlcngaaBRankLists8
namespace Go.Proofs.Ytokmkjgbhlcngaa.Ap
open Go.RowKit Go.Sort Go.Lib Go.Proofs
set_option linter.all false
attribute [local go_sem ↓] Go.wp_at_zero Go.wp_at_succ

theorem infoNWords : (Try.prog.info? 103).map (fun i => (i.zero, i.size, i.bytes)) = some (some (.slice none 0 0), 1, 24) := by kernel_rfl
set_option maxHeartbeats 4000000 in
set_option maxRecDepth 100000 in
theorem flatWords_nil (w : World) : Calls Try.prog 43 #[.slice none 0 0] w fun e w' => e = .returned (.bool true) ∧ Below w.heap.size w w' := by
  go_enter Try.func43, Try.ntmps43
  go_wp2_with fail
  go_loopg [3] 0 (fun kx s3 wr => s3 = .int .i64 0 ∧ Hid (Below w.heap.size w wr))
  case atStart => exact ⟨rfl, Lib.hid (Below.refl _ _)⟩
  case round =>
    obtain ⟨rfl, HB⟩ := hrel
    obtain ⟨iS, hiS, hzS, hsS, hbS⟩ := info_parts infoNWords
    go_wp2_with (first | (at_make; refine wpList_make_full _ rfl _ _ 53 rfl wr.heap.size 103 iS _ 1 Try.underlying53 hiS hzS hsS .i64 .i64 _ _ 0 rfl rfl rfl rfl (by rw [hbS]; decide) (by decide) (Nat.le_refl _) ?_))
    intro w1 hH hg1
    have HB1 := Lib.hid (below_grown HB.out hg1 HB.out.size (fun _ h => by cases h))
    clear hH hg1 hiS hzS hsS hbS HB
    go_wp2_with fail
    go_loopg [6] 0 (fun kx s6 wr => s6 = .int .i64 0 ∧ Hid (Below w.heap.size w wr))
    case atStart => exact ⟨rfl, HB1⟩
    case round =>
      clear HB1
      obtain ⟨rfl, HB2⟩ := hrel
      go_wp2_with fail
      go_loopg [9] 0 (fun kx s9 wr => s9 = .int .i64 0 ∧ Hid (Below w.heap.size w wr))
      case atStart => exact ⟨rfl, HB2⟩
      case round =>
        clear HB2
        obtain ⟨rfl, HB3⟩ := hrel
        go_wp2_with fail
        go_loopg [11] 0 (fun kx s11 wr => s11 = .int .i64 0 ∧ Hid (Below w.heap.size w wr))
        case atStart => exact ⟨rfl, HB3⟩
        case round =>
          clear HB3
          obtain ⟨rfl, HB4⟩ := hrel
          go_wp2_with fail
          go_loopg [14] 0 (fun kx s14 wr => s14 = .int .i64 0 ∧ Hid (Below w.heap.size w wr))
          case atStart => exact ⟨rfl, HB4⟩
          case round =>
            clear HB4
            obtain ⟨rfl, HB5⟩ := hrel
            go_wp2_with fail
            go_ret
            exact ⟨rfl, HB5.out⟩
theorem infoNInts : (Try.prog.info? 38).map (fun i => (i.zero, i.size, i.bytes)) = some (some (.slice none 0 0), 1, 24) := by kernel_rfl
set_option maxHeartbeats 4000000 in
set_option maxRecDepth 100000 in
theorem flatInts_nil (w : World) : Calls Try.prog 44 #[.slice none 0 0] w fun e w' => e = .returned (.bool true) ∧ Below w.heap.size w w' := by
  go_enter Try.func44, Try.ntmps44
  go_wp2_with fail
  go_loopg [3] 0 (fun kx s3 wr => s3 = .int .i64 0 ∧ Hid (Below w.heap.size w wr))
  case atStart => exact ⟨rfl, Lib.hid (Below.refl _ _)⟩
  case round =>
    obtain ⟨rfl, HB⟩ := hrel
    obtain ⟨iS, hiS, hzS, hsS, hbS⟩ := info_parts infoNInts
    go_wp2_with (first | (at_make; refine wpList_make_full _ rfl _ _ 54 rfl wr.heap.size 38 iS _ 1 Try.underlying54 hiS hzS hsS .i64 .i64 _ _ 0 rfl rfl rfl rfl (by rw [hbS]; decide) (by decide) (Nat.le_refl _) ?_))
    intro w1 hH hg1
    have HB1 := Lib.hid (below_grown HB.out hg1 HB.out.size (fun _ h => by cases h))
    clear hH hg1 hiS hzS hsS hbS HB
    go_wp2_with fail
    go_loopg [6] 0 (fun kx s6 wr => s6 = .int .i64 0 ∧ Hid (Below w.heap.size w wr))
    case atStart => exact ⟨rfl, HB1⟩
    case round =>
      clear HB1
      obtain ⟨rfl, HB2⟩ := hrel
      go_wp2_with fail
      go_loopg [9] 0 (fun kx s9 wr => s9 = .int .i64 0 ∧ Hid (Below w.heap.size w wr))
      case atStart => exact ⟨rfl, HB2⟩
      case round =>
        clear HB2
        obtain ⟨rfl, HB3⟩ := hrel
        go_wp2_with fail
        go_loopg [11] 0 (fun kx s11 wr => s11 = .int .i64 0 ∧ Hid (Below w.heap.size w wr))
        case atStart => exact ⟨rfl, HB3⟩
        case round =>
          clear HB3
          obtain ⟨rfl, HB4⟩ := hrel
          go_wp2_with fail
          go_loopg [14] 0 (fun kx s14 wr => s14 = .int .i64 0 ∧ Hid (Below w.heap.size w wr))
          case atStart => exact ⟨rfl, HB4⟩
          case round =>
            clear HB4
            obtain ⟨rfl, HB5⟩ := hrel
            go_wp2_with fail
            go_ret
            exact ⟨rfl, HB5.out⟩
theorem infoNLongs : (Try.prog.info? 39).map (fun i => (i.zero, i.size, i.bytes)) = some (some (.slice none 0 0), 1, 24) := by kernel_rfl
set_option maxHeartbeats 4000000 in
set_option maxRecDepth 100000 in
theorem flatLongs_nil (w : World) : Calls Try.prog 45 #[.slice none 0 0] w fun e w' => e = .returned (.bool true) ∧ Below w.heap.size w w' := by
  go_enter Try.func45, Try.ntmps45
  go_wp2_with fail
  go_loopg [3] 0 (fun kx s3 wr => s3 = .int .i64 0 ∧ Hid (Below w.heap.size w wr))
  case atStart => exact ⟨rfl, Lib.hid (Below.refl _ _)⟩
  case round =>
    obtain ⟨rfl, HB⟩ := hrel
    obtain ⟨iS, hiS, hzS, hsS, hbS⟩ := info_parts infoNLongs
    go_wp2_with (first | (at_make; refine wpList_make_full _ rfl _ _ 55 rfl wr.heap.size 39 iS _ 1 Try.underlying55 hiS hzS hsS .i64 .i64 _ _ 0 rfl rfl rfl rfl (by rw [hbS]; decide) (by decide) (Nat.le_refl _) ?_))
    intro w1 hH hg1
    have HB1 := Lib.hid (below_grown HB.out hg1 HB.out.size (fun _ h => by cases h))
    clear hH hg1 hiS hzS hsS hbS HB
    go_wp2_with fail
    go_loopg [6] 0 (fun kx s6 wr => s6 = .int .i64 0 ∧ Hid (Below w.heap.size w wr))
    case atStart => exact ⟨rfl, HB1⟩
    case round =>
      clear HB1
      obtain ⟨rfl, HB2⟩ := hrel
      go_wp2_with fail
      go_loopg [9] 0 (fun kx s9 wr => s9 = .int .i64 0 ∧ Hid (Below w.heap.size w wr))
      case atStart => exact ⟨rfl, HB2⟩
      case round =>
        clear HB2
        obtain ⟨rfl, HB3⟩ := hrel
        go_wp2_with fail
        go_loopg [11] 0 (fun kx s11 wr => s11 = .int .i64 0 ∧ Hid (Below w.heap.size w wr))
        case atStart => exact ⟨rfl, HB3⟩
        case round =>
          clear HB3
          obtain ⟨rfl, HB4⟩ := hrel
          go_wp2_with fail
          go_loopg [14] 0 (fun kx s14 wr => s14 = .int .i64 0 ∧ Hid (Below w.heap.size w wr))
          case atStart => exact ⟨rfl, HB4⟩
          case round =>
            clear HB4
            obtain ⟨rfl, HB5⟩ := hrel
            go_wp2_with fail
            go_ret
            exact ⟨rfl, HB5.out⟩
theorem infoNTexts : (Try.prog.info? 40).map (fun i => (i.zero, i.size, i.bytes)) = some (some (.slice none 0 0), 1, 24) := by kernel_rfl
set_option maxHeartbeats 4000000 in
set_option maxRecDepth 100000 in
theorem flatTexts_nil (w : World) : Calls Try.prog 46 #[.slice none 0 0] w fun e w' => e = .returned (.bool true) ∧ Below w.heap.size w w' := by
  go_enter Try.func46, Try.ntmps46
  go_wp2_with fail
  go_loopg [3] 0 (fun kx s3 wr => s3 = .int .i64 0 ∧ Hid (Below w.heap.size w wr))
  case atStart => exact ⟨rfl, Lib.hid (Below.refl _ _)⟩
  case round =>
    obtain ⟨rfl, HB⟩ := hrel
    obtain ⟨iS, hiS, hzS, hsS, hbS⟩ := info_parts infoNTexts
    go_wp2_with (first | (at_make; refine wpList_make_full _ rfl _ _ 56 rfl wr.heap.size 40 iS _ 1 Try.underlying56 hiS hzS hsS .i64 .i64 _ _ 0 rfl rfl rfl rfl (by rw [hbS]; decide) (by decide) (Nat.le_refl _) ?_))
    intro w1 hH hg1
    have HB1 := Lib.hid (below_grown HB.out hg1 HB.out.size (fun _ h => by cases h))
    clear hH hg1 hiS hzS hsS hbS HB
    go_wp2_with fail
    go_loopg [6] 0 (fun kx s6 wr => s6 = .int .i64 0 ∧ Hid (Below w.heap.size w wr))
    case atStart => exact ⟨rfl, HB1⟩
    case round =>
      clear HB1
      obtain ⟨rfl, HB2⟩ := hrel
      go_wp2_with fail
      go_loopg [9] 0 (fun kx s9 wr => s9 = .int .i64 0 ∧ Hid (Below w.heap.size w wr))
      case atStart => exact ⟨rfl, HB2⟩
      case round =>
        clear HB2
        obtain ⟨rfl, HB3⟩ := hrel
        go_wp2_with fail
        go_loopg [11] 0 (fun kx s11 wr => s11 = .int .i64 0 ∧ Hid (Below w.heap.size w wr))
        case atStart => exact ⟨rfl, HB3⟩
        case round =>
          clear HB3
          obtain ⟨rfl, HB4⟩ := hrel
          go_wp2_with fail
          go_loopg [14] 0 (fun kx s14 wr => s14 = .int .i64 0 ∧ Hid (Below w.heap.size w wr))
          case atStart => exact ⟨rfl, HB4⟩
          case round =>
            clear HB4
            obtain ⟨rfl, HB5⟩ := hrel
            go_wp2_with fail
            go_ret
            exact ⟨rfl, HB5.out⟩
theorem infoNBytes : (Try.prog.info? 106).map (fun i => (i.zero, i.size, i.bytes)) = some (some (.slice none 0 0), 1, 24) := by kernel_rfl
set_option maxHeartbeats 4000000 in
set_option maxRecDepth 100000 in
theorem flatBytes_nil (w : World) : Calls Try.prog 47 #[.slice none 0 0] w fun e w' => e = .returned (.bool true) ∧ Below w.heap.size w w' := by
  go_enter Try.func47, Try.ntmps47
  go_wp2_with fail
  go_loopg [3] 0 (fun kx s3 wr => s3 = .int .i64 0 ∧ Hid (Below w.heap.size w wr))
  case atStart => exact ⟨rfl, Lib.hid (Below.refl _ _)⟩
  case round =>
    obtain ⟨rfl, HB⟩ := hrel
    obtain ⟨iS, hiS, hzS, hsS, hbS⟩ := info_parts infoNBytes
    go_wp2_with (first | (at_make; refine wpList_make_full _ rfl _ _ 57 rfl wr.heap.size 106 iS _ 1 Try.underlying57 hiS hzS hsS .i64 .i64 _ _ 0 rfl rfl rfl rfl (by rw [hbS]; decide) (by decide) (Nat.le_refl _) ?_))
    intro w1 hH hg1
    have HB1 := Lib.hid (below_grown HB.out hg1 HB.out.size (fun _ h => by cases h))
    clear hH hg1 hiS hzS hsS hbS HB
    go_wp2_with fail
    go_loopg [6] 0 (fun kx s6 wr => s6 = .int .i64 0 ∧ Hid (Below w.heap.size w wr))
    case atStart => exact ⟨rfl, HB1⟩
    case round =>
      clear HB1
      obtain ⟨rfl, HB2⟩ := hrel
      go_wp2_with fail
      go_loopg [9] 0 (fun kx s9 wr => s9 = .int .i64 0 ∧ Hid (Below w.heap.size w wr))
      case atStart => exact ⟨rfl, HB2⟩
      case round =>
        clear HB2
        obtain ⟨rfl, HB3⟩ := hrel
        go_wp2_with fail
        go_loopg [11] 0 (fun kx s11 wr => s11 = .int .i64 0 ∧ Hid (Below w.heap.size w wr))
        case atStart => exact ⟨rfl, HB3⟩
        case round =>
          clear HB3
          obtain ⟨rfl, HB4⟩ := hrel
          go_wp2_with fail
          go_loopg [14] 0 (fun kx s14 wr => s14 = .int .i64 0 ∧ Hid (Below w.heap.size w wr))
          case atStart => exact ⟨rfl, HB4⟩
          case round =>
            clear HB4
            obtain ⟨rfl, HB5⟩ := hrel
            go_wp2_with fail
            go_ret
            exact ⟨rfl, HB5.out⟩
theorem infoNWindows : (Try.prog.info? 108).map (fun i => (i.zero, i.size, i.bytes)) = some (some (.slice none 0 0), 1, 24) := by kernel_rfl
set_option maxHeartbeats 4000000 in
set_option maxRecDepth 100000 in
theorem flatWindows_nil (w : World) : Calls Try.prog 48 #[.slice none 0 0] w fun e w' => e = .returned (.bool true) ∧ Below w.heap.size w w' := by
  go_enter Try.func48, Try.ntmps48
  go_wp2_with fail
  go_loopg [3] 0 (fun kx s3 wr => s3 = .int .i64 0 ∧ Hid (Below w.heap.size w wr))
  case atStart => exact ⟨rfl, Lib.hid (Below.refl _ _)⟩
  case round =>
    obtain ⟨rfl, HB⟩ := hrel
    obtain ⟨iS, hiS, hzS, hsS, hbS⟩ := info_parts infoNWindows
    go_wp2_with (first | (at_make; refine wpList_make_full _ rfl _ _ 58 rfl wr.heap.size 108 iS _ 1 Try.underlying58 hiS hzS hsS .i64 .i64 _ _ 0 rfl rfl rfl rfl (by rw [hbS]; decide) (by decide) (Nat.le_refl _) ?_))
    intro w1 hH hg1
    have HB1 := Lib.hid (below_grown HB.out hg1 HB.out.size (fun _ h => by cases h))
    clear hH hg1 hiS hzS hsS hbS HB
    go_wp2_with fail
    go_loopg [6] 0 (fun kx s6 wr => s6 = .int .i64 0 ∧ Hid (Below w.heap.size w wr))
    case atStart => exact ⟨rfl, HB1⟩
    case round =>
      clear HB1
      obtain ⟨rfl, HB2⟩ := hrel
      go_wp2_with fail
      go_loopg [9] 0 (fun kx s9 wr => s9 = .int .i64 0 ∧ Hid (Below w.heap.size w wr))
      case atStart => exact ⟨rfl, HB2⟩
      case round =>
        clear HB2
        obtain ⟨rfl, HB3⟩ := hrel
        go_wp2_with fail
        go_loopg [11] 0 (fun kx s11 wr => s11 = .int .i64 0 ∧ Hid (Below w.heap.size w wr))
        case atStart => exact ⟨rfl, HB3⟩
        case round =>
          clear HB3
          obtain ⟨rfl, HB4⟩ := hrel
          go_wp2_with fail
          go_loopg [14] 0 (fun kx s14 wr => s14 = .int .i64 0 ∧ Hid (Below w.heap.size w wr))
          case atStart => exact ⟨rfl, HB4⟩
          case round =>
            clear HB4
            obtain ⟨rfl, HB5⟩ := hrel
            go_wp2_with fail
            go_ret
            exact ⟨rfl, HB5.out⟩
theorem infoNLots : (Try.prog.info? 112).map (fun i => (i.zero, i.size, i.bytes)) = some (some (.slice none 0 0), 1, 24) := by kernel_rfl
set_option maxHeartbeats 4000000 in
set_option maxRecDepth 100000 in
theorem flatLots_nil (w : World) : Calls Try.prog 49 #[.slice none 0 0] w fun e w' => e = .returned (.bool true) ∧ Below w.heap.size w w' := by
  go_enter Try.func49, Try.ntmps49
  go_wp2_with fail
  go_loopg [3] 0 (fun kx s3 wr => s3 = .int .i64 0 ∧ Hid (Below w.heap.size w wr))
  case atStart => exact ⟨rfl, Lib.hid (Below.refl _ _)⟩
  case round =>
    obtain ⟨rfl, HB⟩ := hrel
    obtain ⟨iS, hiS, hzS, hsS, hbS⟩ := info_parts infoNLots
    go_wp2_with (first | (at_make; refine wpList_make_full _ rfl _ _ 59 rfl wr.heap.size 112 iS _ 1 Try.underlying59 hiS hzS hsS .i64 .i64 _ _ 0 rfl rfl rfl rfl (by rw [hbS]; decide) (by decide) (Nat.le_refl _) ?_))
    intro w1 hH hg1
    have HB1 := Lib.hid (below_grown HB.out hg1 HB.out.size (fun _ h => by cases h))
    clear hH hg1 hiS hzS hsS hbS HB
    go_wp2_with fail
    go_loopg [6] 0 (fun kx s6 wr => s6 = .int .i64 0 ∧ Hid (Below w.heap.size w wr))
    case atStart => exact ⟨rfl, HB1⟩
    case round =>
      clear HB1
      obtain ⟨rfl, HB2⟩ := hrel
      go_wp2_with fail
      go_loopg [9] 0 (fun kx s9 wr => s9 = .int .i64 0 ∧ Hid (Below w.heap.size w wr))
      case atStart => exact ⟨rfl, HB2⟩
      case round =>
        clear HB2
        obtain ⟨rfl, HB3⟩ := hrel
        go_wp2_with fail
        go_loopg [11] 0 (fun kx s11 wr => s11 = .int .i64 0 ∧ Hid (Below w.heap.size w wr))
        case atStart => exact ⟨rfl, HB3⟩
        case round =>
          clear HB3
          obtain ⟨rfl, HB4⟩ := hrel
          go_wp2_with fail
          go_loopg [14] 0 (fun kx s14 wr => s14 = .int .i64 0 ∧ Hid (Below w.heap.size w wr))
          case atStart => exact ⟨rfl, HB4⟩
          case round =>
            clear HB4
            obtain ⟨rfl, HB5⟩ := hrel
            go_wp2_with fail
            go_ret
            exact ⟨rfl, HB5.out⟩
theorem infoNWants : (Try.prog.info? 116).map (fun i => (i.zero, i.size, i.bytes)) = some (some (.slice none 0 0), 1, 24) := by kernel_rfl
set_option maxHeartbeats 4000000 in
set_option maxRecDepth 100000 in
theorem flatWants_nil (w : World) : Calls Try.prog 50 #[.slice none 0 0] w fun e w' => e = .returned (.bool true) ∧ Below w.heap.size w w' := by
  go_enter Try.func50, Try.ntmps50
  go_wp2_with fail
  go_loopg [3] 0 (fun kx s3 wr => s3 = .int .i64 0 ∧ Hid (Below w.heap.size w wr))
  case atStart => exact ⟨rfl, Lib.hid (Below.refl _ _)⟩
  case round =>
    obtain ⟨rfl, HB⟩ := hrel
    obtain ⟨iS, hiS, hzS, hsS, hbS⟩ := info_parts infoNWants
    go_wp2_with (first | (at_make; refine wpList_make_full _ rfl _ _ 60 rfl wr.heap.size 116 iS _ 1 Try.underlying60 hiS hzS hsS .i64 .i64 _ _ 0 rfl rfl rfl rfl (by rw [hbS]; decide) (by decide) (Nat.le_refl _) ?_))
    intro w1 hH hg1
    have HB1 := Lib.hid (below_grown HB.out hg1 HB.out.size (fun _ h => by cases h))
    clear hH hg1 hiS hzS hsS hbS HB
    go_wp2_with fail
    go_loopg [6] 0 (fun kx s6 wr => s6 = .int .i64 0 ∧ Hid (Below w.heap.size w wr))
    case atStart => exact ⟨rfl, HB1⟩
    case round =>
      clear HB1
      obtain ⟨rfl, HB2⟩ := hrel
      go_wp2_with fail
      go_loopg [9] 0 (fun kx s9 wr => s9 = .int .i64 0 ∧ Hid (Below w.heap.size w wr))
      case atStart => exact ⟨rfl, HB2⟩
      case round =>
        clear HB2
        obtain ⟨rfl, HB3⟩ := hrel
        go_wp2_with fail
        go_loopg [11] 0 (fun kx s11 wr => s11 = .int .i64 0 ∧ Hid (Below w.heap.size w wr))
        case atStart => exact ⟨rfl, HB3⟩
        case round =>
          clear HB3
          obtain ⟨rfl, HB4⟩ := hrel
          go_wp2_with fail
          go_loopg [14] 0 (fun kx s14 wr => s14 = .int .i64 0 ∧ Hid (Below w.heap.size w wr))
          case atStart => exact ⟨rfl, HB4⟩
          case round =>
            clear HB4
            obtain ⟨rfl, HB5⟩ := hrel
            go_wp2_with fail
            go_ret
            exact ⟨rfl, HB5.out⟩
theorem infoNUses : (Try.prog.info? 120).map (fun i => (i.zero, i.size, i.bytes)) = some (some (.slice none 0 0), 1, 24) := by kernel_rfl
set_option maxHeartbeats 4000000 in
set_option maxRecDepth 100000 in
theorem flatUses_nil (w : World) : Calls Try.prog 51 #[.slice none 0 0] w fun e w' => e = .returned (.bool true) ∧ Below w.heap.size w w' := by
  go_enter Try.func51, Try.ntmps51
  go_wp2_with fail
  go_loopg [3] 0 (fun kx s3 wr => s3 = .int .i64 0 ∧ Hid (Below w.heap.size w wr))
  case atStart => exact ⟨rfl, Lib.hid (Below.refl _ _)⟩
  case round =>
    obtain ⟨rfl, HB⟩ := hrel
    obtain ⟨iS, hiS, hzS, hsS, hbS⟩ := info_parts infoNUses
    go_wp2_with (first | (at_make; refine wpList_make_full _ rfl _ _ 61 rfl wr.heap.size 120 iS _ 1 Try.underlying61 hiS hzS hsS .i64 .i64 _ _ 0 rfl rfl rfl rfl (by rw [hbS]; decide) (by decide) (Nat.le_refl _) ?_))
    intro w1 hH hg1
    have HB1 := Lib.hid (below_grown HB.out hg1 HB.out.size (fun _ h => by cases h))
    clear hH hg1 hiS hzS hsS hbS HB
    go_wp2_with fail
    go_loopg [6] 0 (fun kx s6 wr => s6 = .int .i64 0 ∧ Hid (Below w.heap.size w wr))
    case atStart => exact ⟨rfl, HB1⟩
    case round =>
      clear HB1
      obtain ⟨rfl, HB2⟩ := hrel
      go_wp2_with fail
      go_loopg [9] 0 (fun kx s9 wr => s9 = .int .i64 0 ∧ Hid (Below w.heap.size w wr))
      case atStart => exact ⟨rfl, HB2⟩
      case round =>
        clear HB2
        obtain ⟨rfl, HB3⟩ := hrel
        go_wp2_with fail
        go_loopg [11] 0 (fun kx s11 wr => s11 = .int .i64 0 ∧ Hid (Below w.heap.size w wr))
        case atStart => exact ⟨rfl, HB3⟩
        case round =>
          clear HB3
          obtain ⟨rfl, HB4⟩ := hrel
          go_wp2_with fail
          go_loopg [14] 0 (fun kx s14 wr => s14 = .int .i64 0 ∧ Hid (Below w.heap.size w wr))
          case atStart => exact ⟨rfl, HB4⟩
          case round =>
            clear HB4
            obtain ⟨rfl, HB5⟩ := hrel
            go_wp2_with fail
            go_ret
            exact ⟨rfl, HB5.out⟩
theorem infoNParts : (Try.prog.info? 124).map (fun i => (i.zero, i.size, i.bytes)) = some (some (.slice none 0 0), 1, 24) := by kernel_rfl
set_option maxHeartbeats 4000000 in
set_option maxRecDepth 100000 in
theorem flatParts_nil (w : World) : Calls Try.prog 52 #[.slice none 0 0] w fun e w' => e = .returned (.bool true) ∧ Below w.heap.size w w' := by
  go_enter Try.func52, Try.ntmps52
  go_wp2_with fail
  go_loopg [3] 0 (fun kx s3 wr => s3 = .int .i64 0 ∧ Hid (Below w.heap.size w wr))
  case atStart => exact ⟨rfl, Lib.hid (Below.refl _ _)⟩
  case round =>
    obtain ⟨rfl, HB⟩ := hrel
    obtain ⟨iS, hiS, hzS, hsS, hbS⟩ := info_parts infoNParts
    go_wp2_with (first | (at_make; refine wpList_make_full _ rfl _ _ 62 rfl wr.heap.size 124 iS _ 1 Try.underlying62 hiS hzS hsS .i64 .i64 _ _ 0 rfl rfl rfl rfl (by rw [hbS]; decide) (by decide) (Nat.le_refl _) ?_))
    intro w1 hH hg1
    have HB1 := Lib.hid (below_grown HB.out hg1 HB.out.size (fun _ h => by cases h))
    clear hH hg1 hiS hzS hsS hbS HB
    go_wp2_with fail
    go_loopg [6] 0 (fun kx s6 wr => s6 = .int .i64 0 ∧ Hid (Below w.heap.size w wr))
    case atStart => exact ⟨rfl, HB1⟩
    case round =>
      clear HB1
      obtain ⟨rfl, HB2⟩ := hrel
      go_wp2_with fail
      go_loopg [9] 0 (fun kx s9 wr => s9 = .int .i64 0 ∧ Hid (Below w.heap.size w wr))
      case atStart => exact ⟨rfl, HB2⟩
      case round =>
        clear HB2
        obtain ⟨rfl, HB3⟩ := hrel
        go_wp2_with fail
        go_loopg [11] 0 (fun kx s11 wr => s11 = .int .i64 0 ∧ Hid (Below w.heap.size w wr))
        case atStart => exact ⟨rfl, HB3⟩
        case round =>
          clear HB3
          obtain ⟨rfl, HB4⟩ := hrel
          go_wp2_with fail
          go_loopg [14] 0 (fun kx s14 wr => s14 = .int .i64 0 ∧ Hid (Below w.heap.size w wr))
          case atStart => exact ⟨rfl, HB4⟩
          case round =>
            clear HB4
            obtain ⟨rfl, HB5⟩ := hrel
            go_wp2_with fail
            go_ret
            exact ⟨rfl, HB5.out⟩
theorem infoNItems : (Try.prog.info? 128).map (fun i => (i.zero, i.size, i.bytes)) = some (some (.slice none 0 0), 1, 24) := by kernel_rfl
set_option maxHeartbeats 4000000 in
set_option maxRecDepth 100000 in
theorem flatItems_nil (w : World) : Calls Try.prog 53 #[.slice none 0 0] w fun e w' => e = .returned (.bool true) ∧ Below w.heap.size w w' := by
  go_enter Try.func53, Try.ntmps53
  go_wp2_with fail
  go_loopg [3] 0 (fun kx s3 wr => s3 = .int .i64 0 ∧ Hid (Below w.heap.size w wr))
  case atStart => exact ⟨rfl, Lib.hid (Below.refl _ _)⟩
  case round =>
    obtain ⟨rfl, HB⟩ := hrel
    obtain ⟨iS, hiS, hzS, hsS, hbS⟩ := info_parts infoNItems
    go_wp2_with (first | (at_make; refine wpList_make_full _ rfl _ _ 63 rfl wr.heap.size 128 iS _ 1 Try.underlying63 hiS hzS hsS .i64 .i64 _ _ 0 rfl rfl rfl rfl (by rw [hbS]; decide) (by decide) (Nat.le_refl _) ?_))
    intro w1 hH hg1
    have HB1 := Lib.hid (below_grown HB.out hg1 HB.out.size (fun _ h => by cases h))
    clear hH hg1 hiS hzS hsS hbS HB
    go_wp2_with fail
    go_loopg [6] 0 (fun kx s6 wr => s6 = .int .i64 0 ∧ Hid (Below w.heap.size w wr))
    case atStart => exact ⟨rfl, HB1⟩
    case round =>
      clear HB1
      obtain ⟨rfl, HB2⟩ := hrel
      go_wp2_with fail
      go_loopg [9] 0 (fun kx s9 wr => s9 = .int .i64 0 ∧ Hid (Below w.heap.size w wr))
      case atStart => exact ⟨rfl, HB2⟩
      case round =>
        clear HB2
        obtain ⟨rfl, HB3⟩ := hrel
        go_wp2_with fail
        go_loopg [11] 0 (fun kx s11 wr => s11 = .int .i64 0 ∧ Hid (Below w.heap.size w wr))
        case atStart => exact ⟨rfl, HB3⟩
        case round =>
          clear HB3
          obtain ⟨rfl, HB4⟩ := hrel
          go_wp2_with fail
          go_loopg [14] 0 (fun kx s14 wr => s14 = .int .i64 0 ∧ Hid (Below w.heap.size w wr))
          case atStart => exact ⟨rfl, HB4⟩
          case round =>
            clear HB4
            obtain ⟨rfl, HB5⟩ := hrel
            go_wp2_with fail
            go_ret
            exact ⟨rfl, HB5.out⟩
theorem infoNLines : (Try.prog.info? 29).map (fun i => (i.zero, i.size, i.bytes)) = some (some (.slice none 0 0), 1, 24) := by kernel_rfl
theorem infoNAsks : (Try.prog.info? 133).map (fun i => (i.zero, i.size, i.bytes)) = some (some (.slice none 0 0), 1, 24) := by kernel_rfl
set_option maxHeartbeats 4000000 in
set_option maxRecDepth 100000 in
theorem flatAsks_nil (w : World) : Calls Try.prog 55 #[.slice none 0 0] w fun e w' => e = .returned (.bool true) ∧ Below w.heap.size w w' := by
  go_enter Try.func55, Try.ntmps55
  go_wp2_with fail
  go_loopg [3] 0 (fun kx s3 wr => s3 = .int .i64 0 ∧ Hid (Below w.heap.size w wr))
  case atStart => exact ⟨rfl, Lib.hid (Below.refl _ _)⟩
  case round =>
    obtain ⟨rfl, HB⟩ := hrel
    obtain ⟨iS, hiS, hzS, hsS, hbS⟩ := info_parts infoNAsks
    go_wp2_with (first | (at_make; refine wpList_make_full _ rfl _ _ 64 rfl wr.heap.size 133 iS _ 1 Try.underlying64 hiS hzS hsS .i64 .i64 _ _ 0 rfl rfl rfl rfl (by rw [hbS]; decide) (by decide) (Nat.le_refl _) ?_))
    intro w1 hH hg1
    have HB1 := Lib.hid (below_grown HB.out hg1 HB.out.size (fun _ h => by cases h))
    clear hH hg1 hiS hzS hsS hbS HB
    go_wp2_with fail
    go_loopg [6] 0 (fun kx s6 wr => s6 = .int .i64 0 ∧ Hid (Below w.heap.size w wr))
    case atStart => exact ⟨rfl, HB1⟩
    case round =>
      clear HB1
      obtain ⟨rfl, HB2⟩ := hrel
      go_wp2_with fail
      go_loopg [9] 0 (fun kx s9 wr => s9 = .int .i64 0 ∧ Hid (Below w.heap.size w wr))
      case atStart => exact ⟨rfl, HB2⟩
      case round =>
        clear HB2
        obtain ⟨rfl, HB3⟩ := hrel
        go_wp2_with fail
        go_loopg [11] 0 (fun kx s11 wr => s11 = .int .i64 0 ∧ Hid (Below w.heap.size w wr))
        case atStart => exact ⟨rfl, HB3⟩
        case round =>
          clear HB3
          obtain ⟨rfl, HB4⟩ := hrel
          go_wp2_with fail
          go_loopg [14] 0 (fun kx s14 wr => s14 = .int .i64 0 ∧ Hid (Below w.heap.size w wr))
          case atStart => exact ⟨rfl, HB4⟩
          case round =>
            clear HB4
            obtain ⟨rfl, HB5⟩ := hrel
            go_wp2_with fail
            go_ret
            exact ⟨rfl, HB5.out⟩
theorem infoNTells : (Try.prog.info? 139).map (fun i => (i.zero, i.size, i.bytes)) = some (some (.slice none 0 0), 1, 24) := by kernel_rfl
set_option maxHeartbeats 4000000 in
set_option maxRecDepth 100000 in
theorem flatTells_nil (w : World) : Calls Try.prog 56 #[.slice none 0 0] w fun e w' => e = .returned (.bool true) ∧ Below w.heap.size w w' := by
  go_enter Try.func56, Try.ntmps56
  go_wp2_with fail
  go_loopg [3] 0 (fun kx s3 wr => s3 = .int .i64 0 ∧ Hid (Below w.heap.size w wr))
  case atStart => exact ⟨rfl, Lib.hid (Below.refl _ _)⟩
  case round =>
    obtain ⟨rfl, HB⟩ := hrel
    obtain ⟨iS, hiS, hzS, hsS, hbS⟩ := info_parts infoNTells
    go_wp2_with (first | (at_make; refine wpList_make_full _ rfl _ _ 65 rfl wr.heap.size 139 iS _ 1 Try.underlying65 hiS hzS hsS .i64 .i64 _ _ 0 rfl rfl rfl rfl (by rw [hbS]; decide) (by decide) (Nat.le_refl _) ?_))
    intro w1 hH hg1
    have HB1 := Lib.hid (below_grown HB.out hg1 HB.out.size (fun _ h => by cases h))
    clear hH hg1 hiS hzS hsS hbS HB
    go_wp2_with fail
    go_loopg [6] 0 (fun kx s6 wr => s6 = .int .i64 0 ∧ Hid (Below w.heap.size w wr))
    case atStart => exact ⟨rfl, HB1⟩
    case round =>
      clear HB1
      obtain ⟨rfl, HB2⟩ := hrel
      go_wp2_with fail
      go_loopg [9] 0 (fun kx s9 wr => s9 = .int .i64 0 ∧ Hid (Below w.heap.size w wr))
      case atStart => exact ⟨rfl, HB2⟩
      case round =>
        clear HB2
        obtain ⟨rfl, HB3⟩ := hrel
        go_wp2_with fail
        go_loopg [11] 0 (fun kx s11 wr => s11 = .int .i64 0 ∧ Hid (Below w.heap.size w wr))
        case atStart => exact ⟨rfl, HB3⟩
        case round =>
          clear HB3
          obtain ⟨rfl, HB4⟩ := hrel
          go_wp2_with fail
          go_loopg [14] 0 (fun kx s14 wr => s14 = .int .i64 0 ∧ Hid (Below w.heap.size w wr))
          case atStart => exact ⟨rfl, HB4⟩
          case round =>
            clear HB4
            obtain ⟨rfl, HB5⟩ := hrel
            go_wp2_with fail
            go_ret
            exact ⟨rfl, HB5.out⟩
theorem infoNStates : (Try.prog.info? 145).map (fun i => (i.zero, i.size, i.bytes)) = some (some (.slice none 0 0), 1, 24) := by kernel_rfl
set_option maxHeartbeats 4000000 in
set_option maxRecDepth 100000 in
theorem flatStates_nil (w : World) : Calls Try.prog 57 #[.slice none 0 0] w fun e w' => e = .returned (.bool true) ∧ Below w.heap.size w w' := by
  go_enter Try.func57, Try.ntmps57
  go_wp2_with fail
  go_loopg [3] 0 (fun kx s3 wr => s3 = .int .i64 0 ∧ Hid (Below w.heap.size w wr))
  case atStart => exact ⟨rfl, Lib.hid (Below.refl _ _)⟩
  case round =>
    obtain ⟨rfl, HB⟩ := hrel
    obtain ⟨iS, hiS, hzS, hsS, hbS⟩ := info_parts infoNStates
    go_wp2_with (first | (at_make; refine wpList_make_full _ rfl _ _ 66 rfl wr.heap.size 145 iS _ 1 Try.underlying66 hiS hzS hsS .i64 .i64 _ _ 0 rfl rfl rfl rfl (by rw [hbS]; decide) (by decide) (Nat.le_refl _) ?_))
    intro w1 hH hg1
    have HB1 := Lib.hid (below_grown HB.out hg1 HB.out.size (fun _ h => by cases h))
    clear hH hg1 hiS hzS hsS hbS HB
    go_wp2_with fail
    go_loopg [6] 0 (fun kx s6 wr => s6 = .int .i64 0 ∧ Hid (Below w.heap.size w wr))
    case atStart => exact ⟨rfl, HB1⟩
    case round =>
      clear HB1
      obtain ⟨rfl, HB2⟩ := hrel
      go_wp2_with fail
      go_loopg [9] 0 (fun kx s9 wr => s9 = .int .i64 0 ∧ Hid (Below w.heap.size w wr))
      case atStart => exact ⟨rfl, HB2⟩
      case round =>
        clear HB2
        obtain ⟨rfl, HB3⟩ := hrel
        go_wp2_with fail
        go_loopg [11] 0 (fun kx s11 wr => s11 = .int .i64 0 ∧ Hid (Below w.heap.size w wr))
        case atStart => exact ⟨rfl, HB3⟩
        case round =>
          clear HB3
          obtain ⟨rfl, HB4⟩ := hrel
          go_wp2_with fail
          go_loopg [14] 0 (fun kx s14 wr => s14 = .int .i64 0 ∧ Hid (Below w.heap.size w wr))
          case atStart => exact ⟨rfl, HB4⟩
          case round =>
            clear HB4
            obtain ⟨rfl, HB5⟩ := hrel
            go_wp2_with fail
            go_ret
            exact ⟨rfl, HB5.out⟩
theorem infoNRows : (Try.prog.info? 150).map (fun i => (i.zero, i.size, i.bytes)) = some (some (.slice none 0 0), 1, 24) := by kernel_rfl
set_option maxHeartbeats 4000000 in
set_option maxRecDepth 100000 in
theorem flatRows_nil (w : World) : Calls Try.prog 58 #[.slice none 0 0] w fun e w' => e = .returned (.bool true) ∧ Below w.heap.size w w' := by
  go_enter Try.func58, Try.ntmps58
  go_wp2_with fail
  go_loopg [3] 0 (fun kx s3 wr => s3 = .int .i64 0 ∧ Hid (Below w.heap.size w wr))
  case atStart => exact ⟨rfl, Lib.hid (Below.refl _ _)⟩
  case round =>
    obtain ⟨rfl, HB⟩ := hrel
    obtain ⟨iS, hiS, hzS, hsS, hbS⟩ := info_parts infoNRows
    go_wp2_with (first | (at_make; refine wpList_make_full _ rfl _ _ 67 rfl wr.heap.size 150 iS _ 1 Try.underlying67 hiS hzS hsS .i64 .i64 _ _ 0 rfl rfl rfl rfl (by rw [hbS]; decide) (by decide) (Nat.le_refl _) ?_))
    intro w1 hH hg1
    have HB1 := Lib.hid (below_grown HB.out hg1 HB.out.size (fun _ h => by cases h))
    clear hH hg1 hiS hzS hsS hbS HB
    go_wp2_with fail
    go_loopg [6] 0 (fun kx s6 wr => s6 = .int .i64 0 ∧ Hid (Below w.heap.size w wr))
    case atStart => exact ⟨rfl, HB1⟩
    case round =>
      clear HB1
      obtain ⟨rfl, HB2⟩ := hrel
      go_wp2_with fail
      go_loopg [9] 0 (fun kx s9 wr => s9 = .int .i64 0 ∧ Hid (Below w.heap.size w wr))
      case atStart => exact ⟨rfl, HB2⟩
      case round =>
        clear HB2
        obtain ⟨rfl, HB3⟩ := hrel
        go_wp2_with fail
        go_loopg [11] 0 (fun kx s11 wr => s11 = .int .i64 0 ∧ Hid (Below w.heap.size w wr))
        case atStart => exact ⟨rfl, HB3⟩
        case round =>
          clear HB3
          obtain ⟨rfl, HB4⟩ := hrel
          go_wp2_with fail
          go_loopg [14] 0 (fun kx s14 wr => s14 = .int .i64 0 ∧ Hid (Below w.heap.size w wr))
          case atStart => exact ⟨rfl, HB4⟩
          case round =>
            clear HB4
            obtain ⟨rfl, HB5⟩ := hrel
            go_wp2_with fail
            go_ret
            exact ⟨rfl, HB5.out⟩
theorem infoNTurns : (Try.prog.info? 155).map (fun i => (i.zero, i.size, i.bytes)) = some (some (.slice none 0 0), 1, 24) := by kernel_rfl
set_option maxHeartbeats 4000000 in
set_option maxRecDepth 100000 in
theorem flatTurns_nil (w : World) : Calls Try.prog 59 #[.slice none 0 0] w fun e w' => e = .returned (.bool true) ∧ Below w.heap.size w w' := by
  go_enter Try.func59, Try.ntmps59
  go_wp2_with fail
  go_loopg [3] 0 (fun kx s3 wr => s3 = .int .i64 0 ∧ Hid (Below w.heap.size w wr))
  case atStart => exact ⟨rfl, Lib.hid (Below.refl _ _)⟩
  case round =>
    obtain ⟨rfl, HB⟩ := hrel
    obtain ⟨iS, hiS, hzS, hsS, hbS⟩ := info_parts infoNTurns
    go_wp2_with (first | (at_make; refine wpList_make_full _ rfl _ _ 68 rfl wr.heap.size 155 iS _ 1 Try.underlying68 hiS hzS hsS .i64 .i64 _ _ 0 rfl rfl rfl rfl (by rw [hbS]; decide) (by decide) (Nat.le_refl _) ?_))
    intro w1 hH hg1
    have HB1 := Lib.hid (below_grown HB.out hg1 HB.out.size (fun _ h => by cases h))
    clear hH hg1 hiS hzS hsS hbS HB
    go_wp2_with fail
    go_loopg [6] 0 (fun kx s6 wr => s6 = .int .i64 0 ∧ Hid (Below w.heap.size w wr))
    case atStart => exact ⟨rfl, HB1⟩
    case round =>
      clear HB1
      obtain ⟨rfl, HB2⟩ := hrel
      go_wp2_with fail
      go_loopg [9] 0 (fun kx s9 wr => s9 = .int .i64 0 ∧ Hid (Below w.heap.size w wr))
      case atStart => exact ⟨rfl, HB2⟩
      case round =>
        clear HB2
        obtain ⟨rfl, HB3⟩ := hrel
        go_wp2_with fail
        go_loopg [11] 0 (fun kx s11 wr => s11 = .int .i64 0 ∧ Hid (Below w.heap.size w wr))
        case atStart => exact ⟨rfl, HB3⟩
        case round =>
          clear HB3
          obtain ⟨rfl, HB4⟩ := hrel
          go_wp2_with fail
          go_loopg [14] 0 (fun kx s14 wr => s14 = .int .i64 0 ∧ Hid (Below w.heap.size w wr))
          case atStart => exact ⟨rfl, HB4⟩
          case round =>
            clear HB4
            obtain ⟨rfl, HB5⟩ := hrel
            go_wp2_with fail
            go_ret
            exact ⟨rfl, HB5.out⟩
theorem infoNFates : (Try.prog.info? 160).map (fun i => (i.zero, i.size, i.bytes)) = some (some (.slice none 0 0), 1, 24) := by kernel_rfl
set_option maxHeartbeats 4000000 in
set_option maxRecDepth 100000 in
theorem flatFates_nil (w : World) : Calls Try.prog 60 #[.slice none 0 0] w fun e w' => e = .returned (.bool true) ∧ Below w.heap.size w w' := by
  go_enter Try.func60, Try.ntmps60
  go_wp2_with fail
  go_loopg [3] 0 (fun kx s3 wr => s3 = .int .i64 0 ∧ Hid (Below w.heap.size w wr))
  case atStart => exact ⟨rfl, Lib.hid (Below.refl _ _)⟩
  case round =>
    obtain ⟨rfl, HB⟩ := hrel
    obtain ⟨iS, hiS, hzS, hsS, hbS⟩ := info_parts infoNFates
    go_wp2_with (first | (at_make; refine wpList_make_full _ rfl _ _ 69 rfl wr.heap.size 160 iS _ 1 Try.underlying69 hiS hzS hsS .i64 .i64 _ _ 0 rfl rfl rfl rfl (by rw [hbS]; decide) (by decide) (Nat.le_refl _) ?_))
    intro w1 hH hg1
    have HB1 := Lib.hid (below_grown HB.out hg1 HB.out.size (fun _ h => by cases h))
    clear hH hg1 hiS hzS hsS hbS HB
    go_wp2_with fail
    go_loopg [6] 0 (fun kx s6 wr => s6 = .int .i64 0 ∧ Hid (Below w.heap.size w wr))
    case atStart => exact ⟨rfl, HB1⟩
    case round =>
      clear HB1
      obtain ⟨rfl, HB2⟩ := hrel
      go_wp2_with fail
      go_loopg [9] 0 (fun kx s9 wr => s9 = .int .i64 0 ∧ Hid (Below w.heap.size w wr))
      case atStart => exact ⟨rfl, HB2⟩
      case round =>
        clear HB2
        obtain ⟨rfl, HB3⟩ := hrel
        go_wp2_with fail
        go_loopg [11] 0 (fun kx s11 wr => s11 = .int .i64 0 ∧ Hid (Below w.heap.size w wr))
        case atStart => exact ⟨rfl, HB3⟩
        case round =>
          clear HB3
          obtain ⟨rfl, HB4⟩ := hrel
          go_wp2_with fail
          go_loopg [14] 0 (fun kx s14 wr => s14 = .int .i64 0 ∧ Hid (Below w.heap.size w wr))
          case atStart => exact ⟨rfl, HB4⟩
          case round =>
            clear HB4
            obtain ⟨rfl, HB5⟩ := hrel
            go_wp2_with fail
            go_ret
            exact ⟨rfl, HB5.out⟩
theorem infoNDirties : (Try.prog.info? 164).map (fun i => (i.zero, i.size, i.bytes)) = some (some (.slice none 0 0), 1, 24) := by kernel_rfl
set_option maxHeartbeats 4000000 in
set_option maxRecDepth 100000 in
theorem flatDirties_nil (w : World) : Calls Try.prog 61 #[.slice none 0 0] w fun e w' => e = .returned (.bool true) ∧ Below w.heap.size w w' := by
  go_enter Try.func61, Try.ntmps61
  go_wp2_with fail
  go_loopg [3] 0 (fun kx s3 wr => s3 = .int .i64 0 ∧ Hid (Below w.heap.size w wr))
  case atStart => exact ⟨rfl, Lib.hid (Below.refl _ _)⟩
  case round =>
    obtain ⟨rfl, HB⟩ := hrel
    obtain ⟨iS, hiS, hzS, hsS, hbS⟩ := info_parts infoNDirties
    go_wp2_with (first | (at_make; refine wpList_make_full _ rfl _ _ 70 rfl wr.heap.size 164 iS _ 1 Try.underlying70 hiS hzS hsS .i64 .i64 _ _ 0 rfl rfl rfl rfl (by rw [hbS]; decide) (by decide) (Nat.le_refl _) ?_))
    intro w1 hH hg1
    have HB1 := Lib.hid (below_grown HB.out hg1 HB.out.size (fun _ h => by cases h))
    clear hH hg1 hiS hzS hsS hbS HB
    go_wp2_with fail
    go_loopg [6] 0 (fun kx s6 wr => s6 = .int .i64 0 ∧ Hid (Below w.heap.size w wr))
    case atStart => exact ⟨rfl, HB1⟩
    case round =>
      clear HB1
      obtain ⟨rfl, HB2⟩ := hrel
      go_wp2_with fail
      go_loopg [9] 0 (fun kx s9 wr => s9 = .int .i64 0 ∧ Hid (Below w.heap.size w wr))
      case atStart => exact ⟨rfl, HB2⟩
      case round =>
        clear HB2
        obtain ⟨rfl, HB3⟩ := hrel
        go_wp2_with fail
        go_loopg [11] 0 (fun kx s11 wr => s11 = .int .i64 0 ∧ Hid (Below w.heap.size w wr))
        case atStart => exact ⟨rfl, HB3⟩
        case round =>
          clear HB3
          obtain ⟨rfl, HB4⟩ := hrel
          go_wp2_with fail
          go_loopg [14] 0 (fun kx s14 wr => s14 = .int .i64 0 ∧ Hid (Below w.heap.size w wr))
          case atStart => exact ⟨rfl, HB4⟩
          case round =>
            clear HB4
            obtain ⟨rfl, HB5⟩ := hrel
            go_wp2_with fail
            go_ret
            exact ⟨rfl, HB5.out⟩
theorem infoNOpens : (Try.prog.info? 168).map (fun i => (i.zero, i.size, i.bytes)) = some (some (.slice none 0 0), 1, 24) := by kernel_rfl
set_option maxHeartbeats 4000000 in
set_option maxRecDepth 100000 in
theorem flatOpens_nil (w : World) : Calls Try.prog 62 #[.slice none 0 0] w fun e w' => e = .returned (.bool true) ∧ Below w.heap.size w w' := by
  go_enter Try.func62, Try.ntmps62
  go_wp2_with fail
  go_loopg [3] 0 (fun kx s3 wr => s3 = .int .i64 0 ∧ Hid (Below w.heap.size w wr))
  case atStart => exact ⟨rfl, Lib.hid (Below.refl _ _)⟩
  case round =>
    obtain ⟨rfl, HB⟩ := hrel
    obtain ⟨iS, hiS, hzS, hsS, hbS⟩ := info_parts infoNOpens
    go_wp2_with (first | (at_make; refine wpList_make_full _ rfl _ _ 71 rfl wr.heap.size 168 iS _ 1 Try.underlying71 hiS hzS hsS .i64 .i64 _ _ 0 rfl rfl rfl rfl (by rw [hbS]; decide) (by decide) (Nat.le_refl _) ?_))
    intro w1 hH hg1
    have HB1 := Lib.hid (below_grown HB.out hg1 HB.out.size (fun _ h => by cases h))
    clear hH hg1 hiS hzS hsS hbS HB
    go_wp2_with fail
    go_loopg [6] 0 (fun kx s6 wr => s6 = .int .i64 0 ∧ Hid (Below w.heap.size w wr))
    case atStart => exact ⟨rfl, HB1⟩
    case round =>
      clear HB1
      obtain ⟨rfl, HB2⟩ := hrel
      go_wp2_with fail
      go_loopg [9] 0 (fun kx s9 wr => s9 = .int .i64 0 ∧ Hid (Below w.heap.size w wr))
      case atStart => exact ⟨rfl, HB2⟩
      case round =>
        clear HB2
        obtain ⟨rfl, HB3⟩ := hrel
        go_wp2_with fail
        go_loopg [11] 0 (fun kx s11 wr => s11 = .int .i64 0 ∧ Hid (Below w.heap.size w wr))
        case atStart => exact ⟨rfl, HB3⟩
        case round =>
          clear HB3
          obtain ⟨rfl, HB4⟩ := hrel
          go_wp2_with fail
          go_loopg [14] 0 (fun kx s14 wr => s14 = .int .i64 0 ∧ Hid (Below w.heap.size w wr))
          case atStart => exact ⟨rfl, HB4⟩
          case round =>
            clear HB4
            obtain ⟨rfl, HB5⟩ := hrel
            go_wp2_with fail
            go_ret
            exact ⟨rfl, HB5.out⟩
theorem infoNRecords : (Try.prog.info? 172).map (fun i => (i.zero, i.size, i.bytes)) = some (some (.slice none 0 0), 1, 24) := by kernel_rfl
set_option maxHeartbeats 4000000 in
set_option maxRecDepth 100000 in
theorem flatRecords_nil (w : World) : Calls Try.prog 63 #[.slice none 0 0] w fun e w' => e = .returned (.bool true) ∧ Below w.heap.size w w' := by
  go_enter Try.func63, Try.ntmps63
  go_wp2_with fail
  go_loopg [3] 0 (fun kx s3 wr => s3 = .int .i64 0 ∧ Hid (Below w.heap.size w wr))
  case atStart => exact ⟨rfl, Lib.hid (Below.refl _ _)⟩
  case round =>
    obtain ⟨rfl, HB⟩ := hrel
    obtain ⟨iS, hiS, hzS, hsS, hbS⟩ := info_parts infoNRecords
    go_wp2_with (first | (at_make; refine wpList_make_full _ rfl _ _ 72 rfl wr.heap.size 172 iS _ 1 Try.underlying72 hiS hzS hsS .i64 .i64 _ _ 0 rfl rfl rfl rfl (by rw [hbS]; decide) (by decide) (Nat.le_refl _) ?_))
    intro w1 hH hg1
    have HB1 := Lib.hid (below_grown HB.out hg1 HB.out.size (fun _ h => by cases h))
    clear hH hg1 hiS hzS hsS hbS HB
    go_wp2_with fail
    go_loopg [6] 0 (fun kx s6 wr => s6 = .int .i64 0 ∧ Hid (Below w.heap.size w wr))
    case atStart => exact ⟨rfl, HB1⟩
    case round =>
      clear HB1
      obtain ⟨rfl, HB2⟩ := hrel
      go_wp2_with fail
      go_loopg [9] 0 (fun kx s9 wr => s9 = .int .i64 0 ∧ Hid (Below w.heap.size w wr))
      case atStart => exact ⟨rfl, HB2⟩
      case round =>
        clear HB2
        obtain ⟨rfl, HB3⟩ := hrel
        go_wp2_with fail
        go_loopg [11] 0 (fun kx s11 wr => s11 = .int .i64 0 ∧ Hid (Below w.heap.size w wr))
        case atStart => exact ⟨rfl, HB3⟩
        case round =>
          clear HB3
          obtain ⟨rfl, HB4⟩ := hrel
          go_wp2_with fail
          go_loopg [14] 0 (fun kx s14 wr => s14 = .int .i64 0 ∧ Hid (Below w.heap.size w wr))
          case atStart => exact ⟨rfl, HB4⟩
          case round =>
            clear HB4
            obtain ⟨rfl, HB5⟩ := hrel
            go_wp2_with fail
            go_ret
            exact ⟨rfl, HB5.out⟩
theorem infoNSteps : (Try.prog.info? 178).map (fun i => (i.zero, i.size, i.bytes)) = some (some (.slice none 0 0), 1, 24) := by kernel_rfl
set_option maxHeartbeats 4000000 in
set_option maxRecDepth 100000 in
theorem flatSteps_nil (w : World) : Calls Try.prog 64 #[.slice none 0 0] w fun e w' => e = .returned (.bool true) ∧ Below w.heap.size w w' := by
  go_enter Try.func64, Try.ntmps64
  go_wp2_with fail
  go_loopg [3] 0 (fun kx s3 wr => s3 = .int .i64 0 ∧ Hid (Below w.heap.size w wr))
  case atStart => exact ⟨rfl, Lib.hid (Below.refl _ _)⟩
  case round =>
    obtain ⟨rfl, HB⟩ := hrel
    obtain ⟨iS, hiS, hzS, hsS, hbS⟩ := info_parts infoNSteps
    go_wp2_with (first | (at_make; refine wpList_make_full _ rfl _ _ 73 rfl wr.heap.size 178 iS _ 1 Try.underlying73 hiS hzS hsS .i64 .i64 _ _ 0 rfl rfl rfl rfl (by rw [hbS]; decide) (by decide) (Nat.le_refl _) ?_))
    intro w1 hH hg1
    have HB1 := Lib.hid (below_grown HB.out hg1 HB.out.size (fun _ h => by cases h))
    clear hH hg1 hiS hzS hsS hbS HB
    go_wp2_with fail
    go_loopg [6] 0 (fun kx s6 wr => s6 = .int .i64 0 ∧ Hid (Below w.heap.size w wr))
    case atStart => exact ⟨rfl, HB1⟩
    case round =>
      clear HB1
      obtain ⟨rfl, HB2⟩ := hrel
      go_wp2_with fail
      go_loopg [9] 0 (fun kx s9 wr => s9 = .int .i64 0 ∧ Hid (Below w.heap.size w wr))
      case atStart => exact ⟨rfl, HB2⟩
      case round =>
        clear HB2
        obtain ⟨rfl, HB3⟩ := hrel
        go_wp2_with fail
        go_loopg [11] 0 (fun kx s11 wr => s11 = .int .i64 0 ∧ Hid (Below w.heap.size w wr))
        case atStart => exact ⟨rfl, HB3⟩
        case round =>
          clear HB3
          obtain ⟨rfl, HB4⟩ := hrel
          go_wp2_with fail
          go_loopg [14] 0 (fun kx s14 wr => s14 = .int .i64 0 ∧ Hid (Below w.heap.size w wr))
          case atStart => exact ⟨rfl, HB4⟩
          case round =>
            clear HB4
            obtain ⟨rfl, HB5⟩ := hrel
            go_wp2_with fail
            go_ret
            exact ⟨rfl, HB5.out⟩
theorem infoNTales : (Try.prog.info? 184).map (fun i => (i.zero, i.size, i.bytes)) = some (some (.slice none 0 0), 1, 24) := by kernel_rfl
set_option maxHeartbeats 4000000 in
set_option maxRecDepth 100000 in
theorem flatTales_nil (w : World) : Calls Try.prog 65 #[.slice none 0 0] w fun e w' => e = .returned (.bool true) ∧ Below w.heap.size w w' := by
  go_enter Try.func65, Try.ntmps65
  go_wp2_with fail
  go_loopg [3] 0 (fun kx s3 wr => s3 = .int .i64 0 ∧ Hid (Below w.heap.size w wr))
  case atStart => exact ⟨rfl, Lib.hid (Below.refl _ _)⟩
  case round =>
    obtain ⟨rfl, HB⟩ := hrel
    obtain ⟨iS, hiS, hzS, hsS, hbS⟩ := info_parts infoNTales
    go_wp2_with (first | (at_make; refine wpList_make_full _ rfl _ _ 74 rfl wr.heap.size 184 iS _ 1 Try.underlying74 hiS hzS hsS .i64 .i64 _ _ 0 rfl rfl rfl rfl (by rw [hbS]; decide) (by decide) (Nat.le_refl _) ?_))
    intro w1 hH hg1
    have HB1 := Lib.hid (below_grown HB.out hg1 HB.out.size (fun _ h => by cases h))
    clear hH hg1 hiS hzS hsS hbS HB
    go_wp2_with fail
    go_loopg [6] 0 (fun kx s6 wr => s6 = .int .i64 0 ∧ Hid (Below w.heap.size w wr))
    case atStart => exact ⟨rfl, HB1⟩
    case round =>
      clear HB1
      obtain ⟨rfl, HB2⟩ := hrel
      go_wp2_with fail
      go_loopg [9] 0 (fun kx s9 wr => s9 = .int .i64 0 ∧ Hid (Below w.heap.size w wr))
      case atStart => exact ⟨rfl, HB2⟩
      case round =>
        clear HB2
        obtain ⟨rfl, HB3⟩ := hrel
        go_wp2_with fail
        go_loopg [11] 0 (fun kx s11 wr => s11 = .int .i64 0 ∧ Hid (Below w.heap.size w wr))
        case atStart => exact ⟨rfl, HB3⟩
        case round =>
          clear HB3
          obtain ⟨rfl, HB4⟩ := hrel
          go_wp2_with fail
          go_loopg [14] 0 (fun kx s14 wr => s14 = .int .i64 0 ∧ Hid (Below w.heap.size w wr))
          case atStart => exact ⟨rfl, HB4⟩
          case round =>
            clear HB4
            obtain ⟨rfl, HB5⟩ := hrel
            go_wp2_with fail
            go_ret
            exact ⟨rfl, HB5.out⟩
end Go.Proofs.Ytokmkjgbhlcngaa.Ap
namespace Go.Proofs.Ytokmkjgbhlcngaa.Ap
open Go.RowKit Go.Sort Go.Lib Go.Proofs
set_option linter.all false

theorem builtPLines (A : Option Addr) (n c : Nat) : Try.prog.builtSlice 29 1 [(0, .slice A n c)] = some [Value.slice A n c].toArray := by kernel_rfl
set_option maxHeartbeats 4000000 in
set_option maxRecDepth 100000 in
theorem putLines_runs (B Bk : Nat) (cur : Array Value) (v : Value) (n : Nat) (hs : List Value) (A : Option Addr) (x c : Nat) (w : World)
    (hb : w.heap[Bk]? = some (.cells cur 76 (0, 0))) (hB : B ≤ Bk) (hc : cur[11]? = some v) (how : ownW w B 29 1 v n hs) (hn : n ≤ 1000000000) :
    Calls Try.prog 38 #[.pointer (some ⟨Bk, 0, none⟩), .slice A x c] w fun e w' => e = .returned (.tuple #[]) ∧ Below B w w' ∧ ∃ v', w'.heap[Bk]? = some (.cells (cur.setIfInBounds 11 v') 76 (0, 0)) ∧ ownW w' B 29 1 v' (n + 1) (hs ++ [.slice A x c]) := by
  obtain ⟨A0, c0, rfl, hnc, -⟩ := how.slice
  have HB := Lib.hid hb
  have HBB := Lib.hid hB
  have HOW := Lib.hid how
  have hlt := (Array.getElem?_eq_some_iff.1 hb).1
  have hcell : w.cell? ⟨Bk, 11, none⟩ = some (.slice A0 n c0) := cell_hd hb hc
  have hBs : B ≤ w.heap.size := by omega
  clear hb how
  go_enter Try.func38, Try.ntmps38
  go_wp2_with (first | ((with_reducible refine gate_bs _ _ #[(0, .tmp 9)] rfl ?_); go_loud (refine wpList_buildV rfl 36 29 (.tmp 9) rfl Try.underlying36 w.heap.size rfl (.slice A x c) [.slice A x c] rfl (builtPLines A x c) ?_)) | ((with_reducible refine gate_ap #[.tmp 8, .tmp 10] _ rfl ?_); go_loud (refine wpList_append_ownW _ rfl (.tmp 8) (.tmp 10) 36 rfl B 29 (.slice none 0 0) 1 24 Try.underlying36 infoNLines rfl (by decide) (.slice A0 n c0) n hs rfl (HOW.out.below (Below.alloc (Below.refl _ _) (Nat.le_refl _) _)) ⟨w.heap.size, 0, none⟩ 1 1 [.slice A x c] rfl rfl (new_cell w [.slice A x c] 29) (by intro u hu; rw [List.mem_singleton.1 hu]; rfl) (by decide) (by simp only [maxLen]; omega) (by omega) (Nat.le_trans hBs (alloc_le w _)) ?_; intro v' w2 ho2 hg2 hs2 hkk; have HB2 : Hid (w2.heap[Bk]? = some (.cells cur 76 (0, 0))) := Lib.hid ((hg2.block Bk (Nat.lt_of_lt_of_le hlt (alloc_le w _)) (own_ne HOW.out HB.out (by decide))).trans ((Below.heap_alloc w _ _ hlt).trans HB.out)); have hcell2 : w2.cell? ⟨Bk, 11, none⟩ = some (.slice A0 n c0) := cell_hd HB2.out hc; have hfz := froz_of HB2.out 11; obtain ⟨A2, c2, rfl, -, -⟩ := ho2.slice; have HO2 := Lib.hid ho2; have HG2 := Lib.hid hg2; clear ho2 hg2 hs2 hkk)))
  go_end0
  refine ⟨rfl, ?_, .slice A2 (n + 1) c2, ?_, ?_⟩
  · exact (below_grown (Below.alloc (Below.refl B w) hBs _) HG2.out (Nat.le_trans hBs (alloc_le w _)) (fun k hk => (HOW.out.lt k hk).1)).setCell (p := ⟨Bk, 11, none⟩) HBB.out _
  · exact setCell_block HB2.out 11 _
  · exact HO2.out.keep (fun k hk => Below.heap_setCell w2 ⟨Bk, 11, none⟩ _ k (own_ne2 HO2.out HB2.out (by decide) hk))
end Go.Proofs.Ytokmkjgbhlcngaa.Ap
namespace Go.Proofs.Ytokmkjgbhlcngaa.Ap
open Go.RowKit Go.Sort Go.Lib Go.Proofs
set_option linter.all false
attribute [local irreducible] Go.Calls
set_option maxHeartbeats 8000000 in
set_option maxRecDepth 100000 in
theorem apartLines_runs (Bk : Nat) (cur : Array Value) (m G capG B : Nat) (cG : Array Value) (v : Nat → Value) (n : Nat → Nat) (w : World)
    (hb : w.heap[Bk]? = some (.cells cur 76 (0, 0))) (hnil : ∀ f, f < 23 → f ≠ 11 → cur[f]? = some (.slice none 0 0)) (hbag : cur[11]? = some (.slice (some ⟨G, 0, none⟩) m capG))
    (hG : w.heap[G]? = some (.cells cG 29 (0, 0))) (hv : ∀ k, k < m → cG[k]? = some (v k)) (hown : ∀ k, k < m → ∃ xs, ownW w B 24 8 (v k) (n k) xs)
    (hap : ∀ j k, j < m → k < m → j ≠ k → ∀ b, (v j).ownBlock = some b → (v k).ownBlock ≠ some b) (hn : ∀ k, k < m → n k ≤ 1000000000) (hm : m ≤ 1000000000) (hB : B ≤ w.heap.size) :
    Calls Try.prog 39 #[.pointer (some ⟨Bk, 0, none⟩)] w fun e w' => e = .returned (.bool true) ∧ Below B w w' := by
  have HN := Lib.hid hnil
  have HG0 := Lib.hid hG
  have HV := Lib.hid hv
  have HOW := Lib.hid hown
  have HAP := Lib.hid hap
  have HNN := Lib.hid hn
  have HK0 := Lib.hid hb
  have HS0 := Lib.hid hB
  have HB0 : Hid (Below B w w) := Lib.hid (Below.refl _ _)
  have HW0 : Hid (Below w.heap.size w w) := Lib.hid (Below.refl _ _)
  have c0 : w.cell? ⟨Bk, 0, none⟩ = some (.slice none 0 0) := cell_hd HK0.out (HN.out 0 (by decide) (by decide))
  clear hnil hG hv hown hap hn hb hB
  go_enter Try.func39, Try.ntmps39
  go_wp2_with fail
  refine (flatWords_nil _).mono ?_
  rintro e w1 ⟨rfl, hb⟩
  have HK1 := Lib.hid ((hb.block Bk (Array.getElem?_eq_some_iff.1 HK0.out).1).trans HK0.out)
  have HB1 := Lib.hid (below_on HB0.out HS0.out hb)
  have HS1 := Lib.hid (Nat.le_trans HS0.out hb.size)
  have HW1 := Lib.hid (below_on HW0.out HW0.out.size hb)
  clear hb c0 HB0 HS0 HK0 HW0
  have c1 : w1.cell? ⟨Bk, 1, none⟩ = some (.slice none 0 0) := cell_hd HK1.out (HN.out 1 (by decide) (by decide))
  go_wp2_with fail
  refine (flatInts_nil _).mono ?_
  rintro e w2 ⟨rfl, hb⟩
  have HK2 := Lib.hid ((hb.block Bk (Array.getElem?_eq_some_iff.1 HK1.out).1).trans HK1.out)
  have HB2 := Lib.hid (below_on HB1.out HS1.out hb)
  have HS2 := Lib.hid (Nat.le_trans HS1.out hb.size)
  have HW2 := Lib.hid (below_on HW1.out HW1.out.size hb)
  clear hb c1 HB1 HS1 HK1 HW1
  have c2 : w2.cell? ⟨Bk, 2, none⟩ = some (.slice none 0 0) := cell_hd HK2.out (HN.out 2 (by decide) (by decide))
  go_wp2_with fail
  refine (flatLongs_nil _).mono ?_
  rintro e w3 ⟨rfl, hb⟩
  have HK3 := Lib.hid ((hb.block Bk (Array.getElem?_eq_some_iff.1 HK2.out).1).trans HK2.out)
  have HB3 := Lib.hid (below_on HB2.out HS2.out hb)
  have HS3 := Lib.hid (Nat.le_trans HS2.out hb.size)
  have HW3 := Lib.hid (below_on HW2.out HW2.out.size hb)
  clear hb c2 HB2 HS2 HK2 HW2
  have c3 : w3.cell? ⟨Bk, 3, none⟩ = some (.slice none 0 0) := cell_hd HK3.out (HN.out 3 (by decide) (by decide))
  go_wp2_with fail
  refine (flatTexts_nil _).mono ?_
  rintro e w4 ⟨rfl, hb⟩
  have HK4 := Lib.hid ((hb.block Bk (Array.getElem?_eq_some_iff.1 HK3.out).1).trans HK3.out)
  have HB4 := Lib.hid (below_on HB3.out HS3.out hb)
  have HS4 := Lib.hid (Nat.le_trans HS3.out hb.size)
  have HW4 := Lib.hid (below_on HW3.out HW3.out.size hb)
  clear hb c3 HB3 HS3 HK3 HW3
  have c4 : w4.cell? ⟨Bk, 4, none⟩ = some (.slice none 0 0) := cell_hd HK4.out (HN.out 4 (by decide) (by decide))
  go_wp2_with fail
  refine (flatBytes_nil _).mono ?_
  rintro e w5 ⟨rfl, hb⟩
  have HK5 := Lib.hid ((hb.block Bk (Array.getElem?_eq_some_iff.1 HK4.out).1).trans HK4.out)
  have HB5 := Lib.hid (below_on HB4.out HS4.out hb)
  have HS5 := Lib.hid (Nat.le_trans HS4.out hb.size)
  have HW5 := Lib.hid (below_on HW4.out HW4.out.size hb)
  clear hb c4 HB4 HS4 HK4 HW4
  have c5 : w5.cell? ⟨Bk, 5, none⟩ = some (.slice none 0 0) := cell_hd HK5.out (HN.out 5 (by decide) (by decide))
  go_wp2_with fail
  refine (flatWindows_nil _).mono ?_
  rintro e w6 ⟨rfl, hb⟩
  have HK6 := Lib.hid ((hb.block Bk (Array.getElem?_eq_some_iff.1 HK5.out).1).trans HK5.out)
  have HB6 := Lib.hid (below_on HB5.out HS5.out hb)
  have HS6 := Lib.hid (Nat.le_trans HS5.out hb.size)
  have HW6 := Lib.hid (below_on HW5.out HW5.out.size hb)
  clear hb c5 HB5 HS5 HK5 HW5
  have c6 : w6.cell? ⟨Bk, 6, none⟩ = some (.slice none 0 0) := cell_hd HK6.out (HN.out 6 (by decide) (by decide))
  go_wp2_with fail
  refine (flatLots_nil _).mono ?_
  rintro e w7 ⟨rfl, hb⟩
  have HK7 := Lib.hid ((hb.block Bk (Array.getElem?_eq_some_iff.1 HK6.out).1).trans HK6.out)
  have HB7 := Lib.hid (below_on HB6.out HS6.out hb)
  have HS7 := Lib.hid (Nat.le_trans HS6.out hb.size)
  have HW7 := Lib.hid (below_on HW6.out HW6.out.size hb)
  clear hb c6 HB6 HS6 HK6 HW6
  have c7 : w7.cell? ⟨Bk, 7, none⟩ = some (.slice none 0 0) := cell_hd HK7.out (HN.out 7 (by decide) (by decide))
  go_wp2_with fail
  refine (flatWants_nil _).mono ?_
  rintro e w8 ⟨rfl, hb⟩
  have HK8 := Lib.hid ((hb.block Bk (Array.getElem?_eq_some_iff.1 HK7.out).1).trans HK7.out)
  have HB8 := Lib.hid (below_on HB7.out HS7.out hb)
  have HS8 := Lib.hid (Nat.le_trans HS7.out hb.size)
  have HW8 := Lib.hid (below_on HW7.out HW7.out.size hb)
  clear hb c7 HB7 HS7 HK7 HW7
  have c8 : w8.cell? ⟨Bk, 8, none⟩ = some (.slice none 0 0) := cell_hd HK8.out (HN.out 8 (by decide) (by decide))
  go_wp2_with fail
  refine (flatUses_nil _).mono ?_
  rintro e w9 ⟨rfl, hb⟩
  have HK9 := Lib.hid ((hb.block Bk (Array.getElem?_eq_some_iff.1 HK8.out).1).trans HK8.out)
  have HB9 := Lib.hid (below_on HB8.out HS8.out hb)
  have HS9 := Lib.hid (Nat.le_trans HS8.out hb.size)
  have HW9 := Lib.hid (below_on HW8.out HW8.out.size hb)
  clear hb c8 HB8 HS8 HK8 HW8
  have c9 : w9.cell? ⟨Bk, 9, none⟩ = some (.slice none 0 0) := cell_hd HK9.out (HN.out 9 (by decide) (by decide))
  go_wp2_with fail
  refine (flatParts_nil _).mono ?_
  rintro e w10 ⟨rfl, hb⟩
  have HK10 := Lib.hid ((hb.block Bk (Array.getElem?_eq_some_iff.1 HK9.out).1).trans HK9.out)
  have HB10 := Lib.hid (below_on HB9.out HS9.out hb)
  have HS10 := Lib.hid (Nat.le_trans HS9.out hb.size)
  have HW10 := Lib.hid (below_on HW9.out HW9.out.size hb)
  clear hb c9 HB9 HS9 HK9 HW9
  have c10 : w10.cell? ⟨Bk, 10, none⟩ = some (.slice none 0 0) := cell_hd HK10.out (HN.out 10 (by decide) (by decide))
  go_wp2_with fail
  refine (flatItems_nil _).mono ?_
  rintro e w11 ⟨rfl, hb⟩
  have HK11 := Lib.hid ((hb.block Bk (Array.getElem?_eq_some_iff.1 HK10.out).1).trans HK10.out)
  have HB11 := Lib.hid (below_on HB10.out HS10.out hb)
  have HS11 := Lib.hid (Nat.le_trans HS10.out hb.size)
  have HW11 := Lib.hid (below_on HW10.out HW10.out.size hb)
  clear hb c10 HB10 HS10 HK10 HW10
  have c11 : w11.cell? ⟨Bk, 11, none⟩ = some (.slice (some ⟨G, 0, none⟩) m capG) := cell_hd HK11.out hbag
  go_wp2_with fail
  refine (flatLines_rows m G capG B cG v n w11 ((HW11.out.block G (Array.getElem?_eq_some_iff.1 HG0.out).1).trans HG0.out) HV.out (fun k hk => (HOW.out k hk).imp fun xs h => h.below HW11.out) HAP.out HNN.out hm HS11.out).mono ?_
  rintro e w12 ⟨rfl, hb⟩
  have HK12 := Lib.hid ((hb.side Bk 76 cur (by decide) HK11.out).trans HK11.out)
  have HB12 := Lib.hid (HB11.out.trans hb.below)
  have HS12 := Lib.hid (Nat.le_trans HS11.out hb.below.size)
  clear hb c11 HB11 HS11 HK11 HW11
  have c12 : w12.cell? ⟨Bk, 12, none⟩ = some (.slice none 0 0) := cell_hd HK12.out (HN.out 12 (by decide) (by decide))
  go_wp2_with fail
  refine (flatAsks_nil _).mono ?_
  rintro e w13 ⟨rfl, hb⟩
  have HK13 := Lib.hid ((hb.block Bk (Array.getElem?_eq_some_iff.1 HK12.out).1).trans HK12.out)
  have HB13 := Lib.hid (below_on HB12.out HS12.out hb)
  have HS13 := Lib.hid (Nat.le_trans HS12.out hb.size)
  clear hb c12 HB12 HS12 HK12
  have c13 : w13.cell? ⟨Bk, 13, none⟩ = some (.slice none 0 0) := cell_hd HK13.out (HN.out 13 (by decide) (by decide))
  go_wp2_with fail
  refine (flatTells_nil _).mono ?_
  rintro e w14 ⟨rfl, hb⟩
  have HK14 := Lib.hid ((hb.block Bk (Array.getElem?_eq_some_iff.1 HK13.out).1).trans HK13.out)
  have HB14 := Lib.hid (below_on HB13.out HS13.out hb)
  have HS14 := Lib.hid (Nat.le_trans HS13.out hb.size)
  clear hb c13 HB13 HS13 HK13
  have c14 : w14.cell? ⟨Bk, 14, none⟩ = some (.slice none 0 0) := cell_hd HK14.out (HN.out 14 (by decide) (by decide))
  go_wp2_with fail
  refine (flatStates_nil _).mono ?_
  rintro e w15 ⟨rfl, hb⟩
  have HK15 := Lib.hid ((hb.block Bk (Array.getElem?_eq_some_iff.1 HK14.out).1).trans HK14.out)
  have HB15 := Lib.hid (below_on HB14.out HS14.out hb)
  have HS15 := Lib.hid (Nat.le_trans HS14.out hb.size)
  clear hb c14 HB14 HS14 HK14
  have c15 : w15.cell? ⟨Bk, 15, none⟩ = some (.slice none 0 0) := cell_hd HK15.out (HN.out 15 (by decide) (by decide))
  go_wp2_with fail
  refine (flatRows_nil _).mono ?_
  rintro e w16 ⟨rfl, hb⟩
  have HK16 := Lib.hid ((hb.block Bk (Array.getElem?_eq_some_iff.1 HK15.out).1).trans HK15.out)
  have HB16 := Lib.hid (below_on HB15.out HS15.out hb)
  have HS16 := Lib.hid (Nat.le_trans HS15.out hb.size)
  clear hb c15 HB15 HS15 HK15
  have c16 : w16.cell? ⟨Bk, 16, none⟩ = some (.slice none 0 0) := cell_hd HK16.out (HN.out 16 (by decide) (by decide))
  go_wp2_with fail
  refine (flatTurns_nil _).mono ?_
  rintro e w17 ⟨rfl, hb⟩
  have HK17 := Lib.hid ((hb.block Bk (Array.getElem?_eq_some_iff.1 HK16.out).1).trans HK16.out)
  have HB17 := Lib.hid (below_on HB16.out HS16.out hb)
  have HS17 := Lib.hid (Nat.le_trans HS16.out hb.size)
  clear hb c16 HB16 HS16 HK16
  have c17 : w17.cell? ⟨Bk, 17, none⟩ = some (.slice none 0 0) := cell_hd HK17.out (HN.out 17 (by decide) (by decide))
  go_wp2_with fail
  refine (flatFates_nil _).mono ?_
  rintro e w18 ⟨rfl, hb⟩
  have HK18 := Lib.hid ((hb.block Bk (Array.getElem?_eq_some_iff.1 HK17.out).1).trans HK17.out)
  have HB18 := Lib.hid (below_on HB17.out HS17.out hb)
  have HS18 := Lib.hid (Nat.le_trans HS17.out hb.size)
  clear hb c17 HB17 HS17 HK17
  have c18 : w18.cell? ⟨Bk, 18, none⟩ = some (.slice none 0 0) := cell_hd HK18.out (HN.out 18 (by decide) (by decide))
  go_wp2_with fail
  refine (flatDirties_nil _).mono ?_
  rintro e w19 ⟨rfl, hb⟩
  have HK19 := Lib.hid ((hb.block Bk (Array.getElem?_eq_some_iff.1 HK18.out).1).trans HK18.out)
  have HB19 := Lib.hid (below_on HB18.out HS18.out hb)
  have HS19 := Lib.hid (Nat.le_trans HS18.out hb.size)
  clear hb c18 HB18 HS18 HK18
  have c19 : w19.cell? ⟨Bk, 19, none⟩ = some (.slice none 0 0) := cell_hd HK19.out (HN.out 19 (by decide) (by decide))
  go_wp2_with fail
  refine (flatOpens_nil _).mono ?_
  rintro e w20 ⟨rfl, hb⟩
  have HK20 := Lib.hid ((hb.block Bk (Array.getElem?_eq_some_iff.1 HK19.out).1).trans HK19.out)
  have HB20 := Lib.hid (below_on HB19.out HS19.out hb)
  have HS20 := Lib.hid (Nat.le_trans HS19.out hb.size)
  clear hb c19 HB19 HS19 HK19
  have c20 : w20.cell? ⟨Bk, 20, none⟩ = some (.slice none 0 0) := cell_hd HK20.out (HN.out 20 (by decide) (by decide))
  go_wp2_with fail
  refine (flatRecords_nil _).mono ?_
  rintro e w21 ⟨rfl, hb⟩
  have HK21 := Lib.hid ((hb.block Bk (Array.getElem?_eq_some_iff.1 HK20.out).1).trans HK20.out)
  have HB21 := Lib.hid (below_on HB20.out HS20.out hb)
  have HS21 := Lib.hid (Nat.le_trans HS20.out hb.size)
  clear hb c20 HB20 HS20 HK20
  have c21 : w21.cell? ⟨Bk, 21, none⟩ = some (.slice none 0 0) := cell_hd HK21.out (HN.out 21 (by decide) (by decide))
  go_wp2_with fail
  refine (flatSteps_nil _).mono ?_
  rintro e w22 ⟨rfl, hb⟩
  have HK22 := Lib.hid ((hb.block Bk (Array.getElem?_eq_some_iff.1 HK21.out).1).trans HK21.out)
  have HB22 := Lib.hid (below_on HB21.out HS21.out hb)
  have HS22 := Lib.hid (Nat.le_trans HS21.out hb.size)
  clear hb c21 HB21 HS21 HK21
  have c22 : w22.cell? ⟨Bk, 22, none⟩ = some (.slice none 0 0) := cell_hd HK22.out (HN.out 22 (by decide) (by decide))
  go_wp2_with fail
  refine (flatTales_nil _).mono ?_
  rintro e w23 ⟨rfl, hb⟩
  have HK23 := Lib.hid ((hb.block Bk (Array.getElem?_eq_some_iff.1 HK22.out).1).trans HK22.out)
  have HB23 := Lib.hid (below_on HB22.out HS22.out hb)
  have HS23 := Lib.hid (Nat.le_trans HS22.out hb.size)
  clear hb c22 HB22 HS22 HK22
  go_wp2_with fail
  go_ret
  exact ⟨rfl, HB23.out⟩
end Go.Proofs.Ytokmkjgbhlcngaa.Ap
namespace Go.Proofs.Ytokmkjgbhlcngaa.Ap
open Go.RowKit Go.Sort Go.Lib Go.Proofs
set_option linter.all false
attribute [local irreducible] Go.Calls
set_option maxHeartbeats 8000000 in
set_option maxRecDepth 100000 in
theorem ApartLines_runs (m G capG B : Nat) (cG : Array Value) (v : Nat → Value) (n : Nat → Nat) (w : World) (h0 : 0 < m)
    (hG : w.heap[G]? = some (.cells cG 29 (0, 0))) (hv : ∀ k, k < m → cG[k]? = some (v k)) (hown : ∀ k, k < m → ∃ xs, ownW w B 24 8 (v k) (n k) xs)
    (hap : ∀ j k, j < m → k < m → j ≠ k → ∀ b, (v j).ownBlock = some b → (v k).ownBlock ≠ some b) (hn : ∀ k, k < m → n k ≤ 1000000000) (hm : m ≤ 1000000000) (hB : B ≤ w.heap.size) :
    Calls Try.prog 22 #[.slice (some ⟨G, 0, none⟩) m capG] w fun e w' => e = .returned (.bool true) ∧ Below B w w' := by
  have HG0 := Lib.hid hG
  have HV := Lib.hid hv
  have HOW := Lib.hid hown
  have HAP := Lib.hid hap
  have HNN := Lib.hid hn
  have HS0 := Lib.hid hB
  clear hG hv hown hap hn hB
  go_enter Try.func22, Try.ntmps22
  go_wp2_with fail
  have HW1 : Hid (Below w.heap.size w (w.alloc (.cells (Array.replicate 23 (.slice none 0 0)) 76))) := Lib.hid (Below.alloc (Below.refl _ _) (Nat.le_refl _) _)
  have HK1 : Hid (∃ cur, (w.alloc (.cells (Array.replicate 23 (.slice none 0 0)) 76)).heap[w.heap.size]? = some (Obj.cells cur 76 (0, 0)) ∧ (∀ f, f < 23 → f ≠ 11 → cur[f]? = some (.slice none 0 0)) ∧ cur[11]? = some (.slice none 0 0)) :=
    Lib.hid ⟨_, heap_alloc_new w _, fun f hf _ => by rw [Array.getElem?_replicate, if_pos hf], by rw [Array.getElem?_replicate, if_pos (by decide)]⟩
  go_loopg [4] m (fun kx s4 wr => ∃ (k : Nat) (vh : Value), s4 = .int .i64 k ∧ k ≤ m ∧ Hid (m ≤ k + kx) ∧ Hid (∃ cur, wr.heap[w.heap.size]? = some (Obj.cells cur 76 (0, 0)) ∧ (∀ f, f < 23 → f ≠ 11 → cur[f]? = some (.slice none 0 0)) ∧ cur[11]? = some vh) ∧ Hid (ownW wr w.heap.size 29 1 vh k ((List.range k).map v)) ∧ Hid (Below w.heap.size w wr))
  case atStart => exact ⟨0, .slice none 0 0, rfl, Nat.zero_le _, Lib.hid (by omega), HK1, Lib.hid ⟨rfl, .inl ⟨rfl, rfl⟩⟩, HW1⟩
  case round =>
    clear HK1 HW1
    obtain ⟨k, vh, rfl, hkm, HKX, HK, HH, HW⟩ := hrel
    by_cases hk : k < m
    · have hkz : (k : Int) < (m : Int) := by omega
      obtain ⟨A, c, hvk, hnc, -⟩ := (HOW.out k hk).choose_spec.slice
      obtain ⟨cur, hb, hnil, hc⟩ := HK.out
      have hcG : wr.cell? ⟨G, k, none⟩ = some (.slice A (n k) c) := cell_hd ((HW.out.block G (Array.getElem?_eq_some_iff.1 HG0.out).1).trans HG0.out) ((HV.out k hk).trans (congrArg some hvk))
      go_wp2_with (first | (go_at_call 38; refine (putLines_runs w.heap.size w.heap.size cur vh k ((List.range k).map v) A (n k) c wr hb (Nat.le_refl _) hc HH.out (by omega)).mono ?_; rintro e w' ⟨rfl, hb2, v', hk2, ho2⟩; have HB2 := Lib.hid hb2; have HK2 := Lib.hid hk2; have HO2 := Lib.hid ho2; clear hb2 hk2 ho2))
      go_roundg (m - (k + 1))
      case measure => have := HKX.out; omega
      case rel =>
        refine ⟨k + 1, v', by go_num, hk, Lib.hid (by omega), Lib.hid ⟨_, HK2.out, fun f hf hne => ?_, ?_⟩, Lib.hid ?_, Lib.hid (HW.out.trans HB2.out)⟩
        · rw [Array.getElem?_setIfInBounds_ne (by omega)]; exact hnil f hf hne
        · rw [Array.getElem?_setIfInBounds_self, if_pos (Array.getElem?_eq_some_iff.1 hc).1]
        · rw [List.range_succ, List.map_append, List.map_singleton, hvk]; exact HO2.out
    · have hkz : ¬ (k : Int) < (m : Int) := by omega
      obtain rfl : k = m := by omega
      obtain ⟨cur, hb, hnil, hc⟩ := HK.out
      have hl := HH.out.1
      rcases HH.out.2 with ⟨-, h⟩ | ⟨g, cap, cg, rfl, hg, hgg, hnc, hcm, hcs, ht⟩
      · omega
      · go_wp2_with (first | (go_at_call 39; refine (apartLines_runs w.heap.size cur k g cap B cg v n wr hb hnil hc hgg (fun j hj => ?_) (fun j hj => (HOW.out j hj).imp fun xs h => h.below HW.out) HAP.out HNN.out hm (Nat.le_trans HS0.out HW.out.size)).mono ?_; rotate_left; rintro e w' ⟨rfl, hb2⟩; have HB2 := Lib.hid hb2; clear hb2))
        go_ret
        exact ⟨rfl, (below_on (Below.refl B w) HS0.out HW.out).trans HB2.out⟩
        · have : (cg.toList.take (k * 1))[j]? = some (v j) := by rw [ht, List.getElem?_map, List.getElem?_range hj]; rfl
          rw [List.getElem?_take, if_pos (by omega)] at this
          simpa using this
end Go.Proofs.Ytokmkjgbhlcngaa.Ap
namespace Go.Proofs.Ytokmkjgbhlcngaa.Q
open Go.RowKit Go.Sort Go.Proofs Go.Proofs.YtokmkjgbhlcngaaW.PrintWords Go.Proofs.YtokmkjgbhlcngaaW.PrintLast Go.Proofs.YtokmkjgbhlcngaaW.PrintMore Go.Proofs.Ytokmkjgbhlcngaa.G
set_option linter.all false
abbrev LnS := S24
def cellsL (l : List LnS) : List Value := l.flatMap lineEnc
theorem cellsL_length (l : List LnS) : (cellsL l).length = l.length * 8 := by
  unfold cellsL
  induction l with
  | nil => rfl
  | cons x r ih => rw [List.flatMap_cons, List.length_append, ih, lineEnc_len, List.length_cons]; omega
theorem cellsL_get (l : List LnS) (i c : Nat) (hi : i < l.length) (hc : c < 8) : (cellsL l)[i * 8 + c]? = (lineEnc (l.getD i z24))[c]? := by
  induction l generalizing i with
  | nil => simp at hi
  | cons x r ih =>
    unfold cellsL
    rw [List.flatMap_cons]
    cases i with
    | zero => rw [List.getElem?_append_left (by rw [lineEnc_len]; omega), Nat.zero_mul, Nat.zero_add]; rfl
    | succ i =>
      rw [List.getElem?_append_right (by rw [lineEnc_len]; omega), lineEnc_len, show (i + 1) * 8 + c - 8 = i * 8 + c by omega]
      exact ih i (by simpa using hi)
theorem cellsL_one (l : List LnS) : ∀ u ∈ cellsL l, u.oneCell' = true := by
  intro u hu
  obtain ⟨x, -, hx⟩ := List.mem_flatMap.1 hu
  exact lineEnc_one x u hx
theorem cellsL_src {w : World} {A : Option Addr} {l : List LnS} (h : Kd.C k24 w A l.length l) : 0 < l.length → ∃ ad, A = some ad ∧ ∀ j u, (cellsL l)[j]? = some u → w.cell? (ad.add j) = some u := by
  intro hn
  obtain ⟨ad, e, hc⟩ := h.2.2 hn
  refine ⟨ad, e, fun j u hu => ?_⟩
  have hj : j < l.length * 8 := by rw [← cellsL_length]; exact (List.getElem?_eq_some_iff.1 hu).1
  have hi : j / 8 < l.length := by omega
  obtain ⟨c, -, hK, hcell⟩ := hc (j / 8) _ (List.getElem?_eq_getElem hi)
  have hlc : (lineEnc (l.getD (j / 8) z24))[j % 8]? = some u := by rw [← cellsL_get l (j / 8) (j % 8) hi (by omega), show j / 8 * 8 + j % 8 = j by omega]; exact hu
  have e2 : c = lineEnc (l.getD (j / 8) z24) := by
    rw [List.getD_eq_getElem?_getD, List.getElem?_eq_getElem hi]; exact k24_open hK
  have : w.cell? (ad.add (j / 8 * 8 + j % 8)) = some u := hcell (j % 8) u (by rw [e2]; exact hlc)
  rw [show j / 8 * 8 + j % 8 = j by omega] at this
  exact this
theorem cellsL_C {w : World} {g : Nat} {l : List LnS} (hl : l.length ≤ 9223372036854775807) (h : ∀ j u, (cellsL l)[j]? = some u → w.cell? ⟨g, j, none⟩ = some u) : Kd.C k24 w (some ⟨g, 0, none⟩) l.length l := by
  refine ⟨rfl, hl, fun _ => ⟨_, rfl, fun j p hj => ?_⟩⟩
  have hjl := (List.getElem?_eq_some_iff.1 hj).1
  refine ⟨lineEnc p, lineEnc_len p, k24_mk w p, fun i u hu => ?_⟩
  have hi : i < 8 := by have := (List.getElem?_eq_some_iff.1 hu).1; rw [lineEnc_len] at this; exact this
  have hp : l.getD j z24 = p := by rw [List.getD_eq_getElem?_getD, hj]; rfl
  have := h (j * 8 + i) u (by rw [cellsL_get l j i hjl hi, hp]; exact hu)
  have e0 : ∀ n, Addr.add ⟨g, 0, none⟩ n = ⟨g, n, none⟩ := fun n => by
    unfold Addr.add
    split <;> simp_all
  show w.cell? (Addr.add ⟨g, 0, none⟩ (j * 8 + i)) = some u
  rw [e0]
  exact this
theorem lent_C {w : World} {B g : Nat} {zs : List Value} {l : List LnS} (hl : l.length ≤ 9223372036854775807) (h : w.ownsRow B 24 8 (.slice (some ⟨g, 0, none⟩) (l.length + 12) (l.length + 12)) (l.length + 12) (cellsL l ++ zs)) :
    Kd.C k24 w (some ⟨g, 0, none⟩) l.length l :=
  cellsL_C hl (fun j u hu => Ap.row_at h j (by rw [List.getElem?_append_left (List.getElem?_eq_some_iff.1 hu).1]; exact hu))
/-- A field's value. -/
def elL (l : List LnS) (c i : Nat) : Value := (lineEnc (l.getD i z24)).getD c Go.undef
theorem elL_is (l : List LnS) (i : Nat) (hi : i < l.length) (c : Nat) (hc : c < 8) : (cellsL l)[i * 8 + c]? = some (elL l c i) := by
  rw [cellsL_get l i c hi hc]
  unfold elL
  generalize l.getD i z24 = x
  have hx : c < (lineEnc x).length := by rw [lineEnc_len]; exact hc
  rw [List.getD_eq_getElem?_getD, List.getElem?_eq_getElem hx, Option.getD_some]
attribute [local go_sem high] eqA24
theorem elL_same (l : List LnS) (i : Nat) (W : World) : (binOp .eql 24 (.agg #[elL l 0 i, elL l 1 i, elL l 2 i, elL l 3 i, elL l 4 i, elL l 5 i, elL l 6 i, elL l 7 i]) (.agg #[elL l 0 i, elL l 1 i, elL l 2 i, elL l 3 i, elL l 4 i, elL l 5 i, elL l 6 i, elL l 7 i])).run Try.prog W = .ok (.bool true) W := by
  unfold elL
  generalize l.getD i z24 = x
  simp only [lineEnc, List.getD_cons_zero, List.getD_cons_succ]
  go_simp
theorem elL_at {w : World} {A : Option Addr} {l : List LnS} (h : Kd.C k24 w A l.length l) (W : World) (hb : RowKit.Below w.heap.size w W) (i : Nat) (hi : i < l.length) :
    ∃ ad, A = some ad ∧ W.cell? (ad.add (i * 8)) = some (elL l 0 i) ∧ W.cell? ⟨(ad.add (i * 8)).block, (ad.add (i * 8)).off + 1, none⟩ = some (elL l 1 i) ∧ W.cell? ⟨(ad.add (i * 8)).block, (ad.add (i * 8)).off + 2, none⟩ = some (elL l 2 i) ∧ W.cell? ⟨(ad.add (i * 8)).block, (ad.add (i * 8)).off + 3, none⟩ = some (elL l 3 i) ∧ W.cell? ⟨(ad.add (i * 8)).block, (ad.add (i * 8)).off + 4, none⟩ = some (elL l 4 i) ∧ W.cell? ⟨(ad.add (i * 8)).block, (ad.add (i * 8)).off + 5, none⟩ = some (elL l 5 i) ∧ W.cell? ⟨(ad.add (i * 8)).block, (ad.add (i * 8)).off + 6, none⟩ = some (elL l 6 i) ∧ W.cell? ⟨(ad.add (i * 8)).block, (ad.add (i * 8)).off + 7, none⟩ = some (elL l 7 i) := by
  obtain ⟨ad, e, q0, q1, q2, q3, q4, q5, q6, q7⟩ := at_T24 (Kd.C_below h hb) (i : Int) (by omega) (by omega)
  exact ⟨ad, e, q0, q1, q2, q3, q4, q5, q6, q7⟩
/-- What was handed out ahead of a write into an elder block stays. -/
theorem R_over {α : Type} {d : Kd α} {e base : Nat} {W W1 : World} {ok : Nat → Prop} {v : Value} {xs : List α} (h : Kd.R d e W base ok v xs) {g : Nat} (hg : W.grownBy W1 (some g)) (hlt : g < base) : Kd.R d e W1 base ok v xs :=
  Kd.R_mono (Kd.R_grown (Kd.R_bound h) hg (fun k hk e => by have := hk.2.1; simp only [Option.some.injEq] at e; omega)) (fun k hk => hk.1)
end Go.Proofs.Ytokmkjgbhlcngaa.Q
namespace Go.Proofs.Ytokmkjgbhlcngaa.Q
open Go.RowKit Go.Sort Go.Proofs Go.Proofs.YtokmkjgbhlcngaaW.PrintWords Go.Proofs.YtokmkjgbhlcngaaW.PrintLast Go.Proofs.YtokmkjgbhlcngaaW.PrintMore Go.Proofs.Ytokmkjgbhlcngaa.G
set_option linter.all false
theorem ahead_le (l : List LnS) (id : Int) : (aheadL l id).length ≤ l.length := by
  unfold aheadL
  split
  · exact Nat.zero_le _
  · rw [List.length_take]; exact Nat.min_le_right _ _
attribute [local irreducible] Go.Calls
set_option maxHeartbeats 4000000 in
set_option maxRecDepth 100000 in
theorem RankLists_walk (A0 : Option Addr) (c0 : Nat) (l0 : List LnS) (id : Int) (w : World) (hr0 : Kd.C k24 w A0 l0.length l0) (hc0 : l0.length ≤ c0) (hl : l0.length ≤ 9223372036854775807) :
    Calls Try.prog 4 #[.slice A0 l0.length c0, .int .i64 id] w fun e w' => e = .returned (.bool true) ∧ RowKit.Below w.heap.size w w' := by
  obtain ⟨g, hg, hgl⟩ := great_is l0 hl (l0.length + 1) (Nat.le_refl _)
  have HR0 := Lib.hid hr0
  have HC0 := Lib.hid hc0
  have HL := Lib.hid hl
  have HG := Lib.hid hg
  have HGL := Lib.hid hgl
  clear hr0 hc0 hl hg hgl
  go_enter Try.func4, Try.ntmps4
  go_wp2_with fail
  refine (storemanlaw09_great.calls (l0.length + 1) A0 c0 l0 g w HR0.out HC0.out HG.out).mono ?_
  rintro e w2 ⟨rfl, ⟨⟨n2, rfl⟩⟩⟩
  have HB2 := Lib.hid (pw_below_drewN (Below.refl w.heap.size w) n2)
  generalize hw2 : w.drewN n2 = w2 at HB2 ⊢
  clear hw2 HG
  cases g with
  | true =>
    go_wp2_with fail
    refine (storemanlaw09_awake.calls 20 true _ awake_is).mono ?_
    rintro e w3 ⟨rfl, hb⟩
    have HB3 := Lib.hid (below_then HB2.out HB2.out.size hb)
    clear hb
    go_wp2_with fail
    go_ret
    exact ⟨rfl, HB3.out⟩
  | false =>
    have HLEN := Lib.hid (HGL.out rfl)
    have HR2 := Lib.hid (Kd.C_below HR0.out HB2.out)
    clear HGL
    go_wp2_with fail
    refine (Ap.LentLines_runs A0 l0.length c0 (cellsL l0) w2 (cellsL_length l0) (cellsL_one l0) (cellsL_src HR2.out) (by have := HLEN.out; omega)).mono ?_
    rintro e w3 ⟨g, rfl, ho, hb⟩
    have hgg : w2.heap.size ≤ g ∧ g < w3.heap.size := ⟨own_base ho g (by simp [Value.ownBlock]), own_lt ho g (by simp [Value.ownBlock])⟩
    have HGG := Lib.hid hgg
    have HO3 := Lib.hid ho
    have HCI := Lib.hid (lent_C HL.out ho)
    have HB3 := Lib.hid (below_then HB2.out HB2.out.size hb)
    have HR3 := Lib.hid (Kd.C_below HR2.out hb)
    have HSTEP := Lib.hid (rank_Open.calls (some ⟨g, 0, none⟩) (l0.length + 12) l0 (opens l0) w3 HCI.out (by omega) (by unfold rank_Open.f; rw [if_pos (by have := HLEN.out; omega)]; rfl))
    clear hgg ho hb
    go_wp2_with fail
    refine HSTEP.out.mono ?_
    rintro e w4 ⟨va, rfl, hR, hb⟩
    have HB4 := Lib.hid (below_then HB3.out HB3.out.size hb)
    have HRA := Lib.hid hR
    have HBA : Hid (∀ k, va.ownBlock = some k → w3.heap.size ≤ k ∧ k < w4.heap.size) := Lib.hid (fun k hk => by obtain ⟨ys, hy⟩ := Ap.own_R hR; exact hy.lt k hk)
    have HBC := Lib.hid hb
    have HY4 := Lib.hid hb.size
    have HCI4 := Lib.hid (Kd.C_below HCI.out hb)
    have HO4 := Lib.hid (Ap.owns_below HO3.out hb)
    have HR4 := Lib.hid (Kd.C_below HR3.out hb)
    have HSTEP := Lib.hid (rank_Ahead.own (some ⟨g, 0, none⟩) (l0.length + 12) l0 id (aheadL (opens l0) id) w4 HCI4.out (by omega) (by unfold rank_Ahead.f; rw [if_pos (by have := HLEN.out; omega)]; rfl))
    clear hR hb HO3 HCI HR3
    go_wp2_with fail
    refine HSTEP.out.mono ?_
    rintro e w5 ⟨vb, rfl, hV, hb, hOW⟩
    have HB5 := Lib.hid (below_then HB4.out HB4.out.size hb)
    have HRA5 := Lib.hid (Kd.R_below HRA.out hb)
    have HRB := Lib.hid hV
    have HOW := Lib.hid hOW
    have HO5 := Lib.hid (Ap.owns_below HO4.out hb)
    have HR5 := Lib.hid (Kd.C_below HR4.out hb)
    have HSZ := Lib.hid (show w3.heap.size ≤ w4.heap.size ∧ w4.heap.size ≤ w5.heap.size from ⟨HBC.out.size, hb.size⟩)
    have HSTEP := Lib.hid (Ap.KeptLines_runs A0 l0.length c0 g w2.heap.size (cellsL l0) (elL l0) w5 (cellsL_length l0) (elL_is l0) (fun i hi W => elL_same l0 i W) HO5.out (fun W hW i hi => elL_at HR5.out W hW i hi) (by have := HLEN.out; omega))
    clear hV hb hOW HRA HO4 HR4 HCI4 HBC
    go_wp2_with fail
    refine HSTEP.out.mono ?_
    rintro e w6 ⟨rfl, hb⟩
    have HB6 := Lib.hid (below_then HB5.out HB5.out.size hb)
    have HRA6 := Lib.hid (Kd.R_below HRA5.out hb)
    have HRB6 := Lib.hid (Kd.V_below HRB.out hb)
    have HOW6 := Lib.hid (HOW.out.imp fun ys h => h.below hb)
    have HO6 := Lib.hid (Ap.owns_below HO5.out hb)
    have HR6 := Lib.hid (Kd.C_below HR5.out hb)
    have HSZ6 := Lib.hid hb.size
    have HSTEP := Lib.hid (Ap.OverLines_runs l0.length g w2.heap.size _ w6 (Ap.ownW_of HO6.out) (by have := HLEN.out; omega))
    clear hb HRA5 HRB HOW HO5 HR5
    go_wp2_with fail
    refine HSTEP.out.mono ?_
    rintro e w7 ⟨rfl, hg⟩
    have HSZ3 := Lib.hid (show w3.heap.size ≤ w7.heap.size from by have := HSZ.out; have := HSZ6.out; have := hg.size; omega)
    have HB7 := Lib.hid (Ap.below_grown HB6.out hg HB6.out.size (fun k hk => by simp only [Option.some.injEq] at hk; have := HB2.out.size; have := HGG.out.1; omega))
    have hRA := R_over HRA6.out hg HGG.out.2
    have hVB := Kd.V_grown HRB6.out hg (fun k hk e => by simp only [Option.some.injEq] at e; have := HSZ.out.1; have := HGG.out.2; omega)
    have hOW : ∃ ys, Ap.ownW w7 w4.heap.size 24 8 vb (aheadL (opens l0) id).length ys := HOW6.out.imp fun ys h => h.kept hg (fun k hk e => by simp only [Option.some.injEq] at e; have := (h.lt k hk).1; have := HSZ.out.1; have := HGG.out.2; omega)
    have hOA := Ap.own_R hRA
    have hba : ∀ k, va.ownBlock = some k → w3.heap.size ≤ k ∧ k < w4.heap.size := fun k hk => HBA.out k hk
    obtain ⟨Aa, ca, rfl, hca, hCa⟩ := Kd.R_reads hRA
    obtain ⟨Ab, cb, rfl⟩ := Kd.V_slice hVB
    have hCb := Kd.V_reads' hVB
    have HCA := Lib.hid hca
    have HA7 := Lib.hid hCa
    have HCB := Lib.hid hCb.2.1
    have HBB := Lib.hid hCb.2.2
    have HOA := Lib.hid hOA
    have HOB := Lib.hid hOW
    have HBA7 := Lib.hid hba
    have HR7 := Lib.hid (Kd.C_below HR0.out HB7.out)
    obtain ⟨kr, hkr⟩ := refOpen_is l0 (by have := HLEN.out; omega)
    obtain ⟨ks, hks⟩ := refAhead_is l0 id (by have := HLEN.out; omega)
    have HKS := Lib.hid hks
    have HSTEP2 := Lib.hid (storemanref09_Open.calls kr A0 c0 l0 (opens l0) w7 HR7.out HC0.out hkr)
    clear hg hRA hVB hOW hOA hba hca hCa hCb HSTEP hkr hks HB6 HRA6 HRB6 HOW6 HO6 HR6 HBA
    go_wp2_with fail
    refine HSTEP2.out.mono ?_
    rintro e w8 ⟨vc, rfl, hR, hb⟩
    obtain ⟨Ac, cc, rfl, hcc, hCc⟩ := Kd.R_reads hR
    have HB8 := Lib.hid (below_then HB7.out HB7.out.size hb)
    have HX8 := Lib.hid hb
    have HR8 := Lib.hid (Kd.C_below HR7.out hb)
    have HSTEP := Lib.hid (storemankit_SameLines.calls ((opens l0).length + 1) Aa ca (opens l0) Ac cc (opens l0) true w8 (Kd.C_below HA7.out hb) HCA.out hCc hcc (same_is (opens l0) (by have := HLEN.out; have := opens_le l0; omega) _ (Nat.le_refl _)))
    clear hR hb hcc hCc HSTEP2 HR7
    go_wp2_with fail
    refine HSTEP.out.mono ?_
    rintro e w9 ⟨rfl, ⟨⟨n9, rfl⟩⟩⟩
    have hb := pw_below_drewN (Below.refl w8.heap.size w8) n9
    generalize w8.drewN n9 = w9 at hb ⊢
    have HB9 := Lib.hid (below_then HB8.out HB8.out.size hb)
    have HX9 := Lib.hid (below_then HX8.out HX8.out.size hb)
    have HR9 := Lib.hid (Kd.C_below HR8.out hb)
    have HSTEP2 := Lib.hid (storemanref09_Ahead.calls ks A0 c0 l0 id (aheadL (opens l0) id) w9 HR9.out HC0.out HKS.out)
    clear hb HSTEP HB8 HX8 HR8 HKS
    go_wp2_with fail
    refine HSTEP2.out.mono ?_
    rintro e w10 ⟨vd, rfl, hR, hb⟩
    obtain ⟨Ad, cd, rfl, hcd, hCd⟩ := Kd.R_reads hR
    have HB10 := Lib.hid (below_then HB9.out HB9.out.size hb)
    have HX10 := Lib.hid (below_then HX9.out HX9.out.size hb)
    have HSTEP := Lib.hid (storemankit_SameLines.calls ((aheadL (opens l0) id).length + 1) Ab cb (aheadL (opens l0) id) Ad cd (aheadL (opens l0) id) true w10 (Kd.C_below HBB.out HX10.out) HCB.out hCd hcd (same_is (aheadL (opens l0) id) (by have := HLEN.out; have := opens_le l0; have := ahead_le (opens l0) id; omega) _ (Nat.le_refl _)))
    clear hR hb hcd hCd HSTEP2 HR9 HB9 HX9
    go_wp2_with fail
    refine HSTEP.out.mono ?_
    rintro e w11 ⟨rfl, ⟨⟨n11, rfl⟩⟩⟩
    have hb := pw_below_drewN (Below.refl w10.heap.size w10) n11
    generalize w10.drewN n11 = w11 at hb ⊢
    have HB11 := Lib.hid (below_then HB10.out HB10.out.size hb)
    have HX11 := Lib.hid (below_then HX10.out HX10.out.size hb)
    clear hb HSTEP HB10 HX10
    go_wp2_with fail
    have hap := Ap.ApartLines_runs 2 w11.heap.size 2 w3.heap.size #[Value.slice Aa (opens l0).length ca, Value.slice Ab (aheadL (opens l0) id).length cb]
      (fun k => if k = 0 then Value.slice Aa (opens l0).length ca else Value.slice Ab (aheadL (opens l0) id).length cb) (fun k => if k = 0 then (opens l0).length else (aheadL (opens l0) id).length)
      (w11.alloc (Obj.cells #[Value.slice Aa (opens l0).length ca, Value.slice Ab (aheadL (opens l0) id).length cb] 29)) (by decide) (heap_alloc_new w11 _)
      (fun k hk => by
        have : k = 0 ∨ k = 1 := by omega
        rcases this with rfl | rfl <;> rfl)
      (fun k hk => by
        have : k = 0 ∨ k = 1 := by omega
        rcases this with rfl | rfl
        · obtain ⟨ys, h⟩ := HOA.out
          exact ⟨ys, (h.below HX11.out).below (below_alloc (Below.refl _ _) _)⟩
        · obtain ⟨ys, h⟩ := HOB.out
          exact ⟨ys, ((h.base HSZ.out.1).below HX11.out).below (below_alloc (Below.refl _ _) _)⟩)
      (fun j k hj hk hjk b h1 h2 => by
        obtain ⟨ys, hB⟩ := HOB.out
        have e : (j = 0 ∧ k = 1) ∨ (j = 1 ∧ k = 0) := by omega
        rcases e with ⟨rfl, rfl⟩ | ⟨rfl, rfl⟩
        · have := (HBA7.out b h1).2; have := (hB.lt b h2).1; omega
        · have := (HBA7.out b h2).2; have := (hB.lt b h1).1; omega)
      (fun k hk => by
        have := HLEN.out; have := opens_le l0; have := ahead_le (opens l0) id
        show (if k = 0 then _ else _) ≤ _
        split <;> omega) (by decide) (by have := HX11.out.size; have := HSZ3.out; simp; omega)
    have HAP := Lib.hid hap
    clear hap HOA HOB HA7 HBB
    go_wp2_with fail
    refine HAP.out.mono ?_
    rintro e w12 ⟨rfl, hb⟩
    have HB12 := Lib.hid ((below_alloc HB11.out (Obj.cells #[Value.slice Aa (opens l0).length ca, Value.slice Ab (aheadL (opens l0) id).length cb] 29)).trans (hb.mono (by have := HB2.out.size; have := HGG.out; omega)))
    clear hb HAP HB11 HX11
    go_wp2_with fail
    refine (storemanlaw09_awake.calls 20 true _ awake_is).mono ?_
    rintro e w13 ⟨rfl, hb⟩
    have HB13 := Lib.hid (below_then HB12.out HB12.out.size hb)
    clear hb HB12
    go_wp2_with fail
    go_ret
    exact ⟨rfl, HB13.out⟩
def storemanlaw09_RankLists.f (l0 : List S24) (_a1 : Int) : Option Bool := if l0.length ≤ 9223372036854775807 then some true else none
theorem storemanlaw09_RankLists.calls (A0 : Option Addr) (c0 : Nat) (l0 : List S24) (a1 : Int) (r : Bool) (w : World) (hr0 : Kd.C k24 w A0 l0.length l0) (hc0 : l0.length ≤ c0) (h : storemanlaw09_RankLists.f l0 a1 = some r) :
    Calls Try.prog 4 #[.slice A0 l0.length c0, .int .i64 a1] w fun e w' => e = .returned (.bool r) ∧ RowKit.Below w.heap.size w w' := by
  unfold storemanlaw09_RankLists.f at h
  by_cases hl : l0.length ≤ 9223372036854775807
  · rw [if_pos hl] at h
    obtain rfl := Option.some.inj h
    exact RankLists_walk A0 c0 l0 a1 w hr0 hc0 hl
  · rw [if_neg hl] at h; cases h
end Go.Proofs.Ytokmkjgbhlcngaa.Q
namespace Go.Proofs.Ytokmkjgbhlcngaa.Q
open Go.RowKit Go.Proofs.YtokmkjgbhlcngaaW.PrintWords Go.Proofs.Ytokmkjgbhlcngaa.G
namespace SayRankLists
def Q3 (x : Int) : Prop := (Lit.int .i64 x).wf = true
theorem o3 : Opens Try.prog 3 (Kd.int .i64) Q3 := opens_int Try.underlying3
def Q9 (x : ByteArray) : Prop := x.size ≤ 140737488351232
theorem o9 : Opens Try.prog 9 Kd.string Q9 := opens_string Try.underlying9
def Q2 (x : Int) : Prop := (Lit.int .i64 x).wf = true
theorem o2 : Opens Try.prog 2 (Kd.int .i64) Q2 := opens_int Try.underlying2
def Q22 (x : Int) : Prop := (Lit.int .u8 x).wf = true
theorem o22 : Opens Try.prog 22 (Kd.int .u8) Q22 := opens_int Try.underlying22
def Q24 (x : S24) : Prop := Q3 x.f0 ∧ Q9 x.f1 ∧ Q2 x.f2 ∧ Q3 x.f3 ∧ Q3 x.f4 ∧ Q22 x.f5 ∧ Q3 x.f6 ∧ Q9 x.f7
theorem o24 : Opens Try.prog 24 k24 Q24 := (opens_struct (fun x : S24 => (x.f0, x.f1, x.f2, x.f3, x.f4, x.f5, x.f6, x.f7)) (fun p => ⟨p.1, p.2.1, p.2.2.1, p.2.2.2.1, p.2.2.2.2.1, p.2.2.2.2.2.1, p.2.2.2.2.2.2.1, p.2.2.2.2.2.2.2⟩) (fun _ => rfl) Try.underlying24 (by kernel_rfl) (opensF_cons o3 rfl (by kernel_rfl) rfl (opensF_cons o9 rfl (by kernel_rfl) rfl (opensF_cons o2 rfl (by kernel_rfl) rfl (opensF_cons o3 rfl (by kernel_rfl) rfl (opensF_cons o3 rfl (by kernel_rfl) rfl (opensF_cons o22 rfl (by kernel_rfl) rfl (opensF_cons o3 rfl (by kernel_rfl) rfl (opensF_last o9 rfl (by kernel_rfl)))))))))).imp (fun _ h => h)
def Q29 (l : List (S24)) : Prop := l.length * (Try.prog.bytesOf 24) ≤ 140737488351232 ∧ l.length ≤ maxLen ∧ ∀ x ∈ l, Q24 x
theorem o29 : Opens Try.prog 29 (Kd.slice 24 k24) Q29 := opens_slice Try.underlying29 (by kernel_rfl) rfl o24
/-- The law's pure statement: at every input that can be read. -/
def Pure : Prop := ∀ (x0 : List (S24)) (x1 : Int), Q29 x0 → Q3 x1 → storemanlaw09_RankLists.f x0 x1 = some true
end SayRankLists
end Go.Proofs.Ytokmkjgbhlcngaa.Q
namespace Go.Proofs.Ytokmkjgbhlcngaa.Pure
open Go.RowKit Go.Proofs.YtokmkjgbhlcngaaW.PrintWords Go.Proofs.YtokmkjgbhlcngaaW.PrintLast Go.Proofs.YtokmkjgbhlcngaaW.PrintMore Go.Proofs.Ytokmkjgbhlcngaa.G Go.Proofs.Ytokmkjgbhlcngaa.Q
theorem RankLists : Q.SayRankLists.Pure := by
  intro l id hq _
  exact if_pos hq.2.1
end Go.Proofs.Ytokmkjgbhlcngaa.Pure
