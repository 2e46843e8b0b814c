/- What leads to RankNumbers: the functions' contracts and the plain laws under them. -/
import Derived.Deep.LoopGhost
import Derived.Shelf.SlSortCmp.KitK
import Derived.Sort.WalkB12
import Derived.Sort.WalkB2
import Derived.Test.YtokmkjgbhlcngaaVRankNumbers0
import Derived.Test.YtokmkjgbhlcngaaVRankNumbers1
import Derived.Test.YtokmkjgbhlcngaaBRankNumbers0
namespace Go.Proofs.Ytokmkjgbhlcngaa.Q
open Go.Shelf Go.RowKit Go.Lib Go.Sort Go.Proofs Go.Proofs.Ytokmkjgbhlcngaa.G
set_option linter.all false

section
variable {α : Type} [Inhabited α]
theorem SWK_regrownZ {enc : α → List Value} {k : Nat} {w0 W : World} {blk off : Nat} {dk : Array α} (h : SWK enc k w0 blk off dk W) (hz : Hid (w0.drawn = 0)) (n : Nat) (os : Array Obj) : SWK enc k w0 blk off dk (grow (redrawn W n) os) := by
  obtain ⟨m, os0, rfl⟩ := h
  exact ⟨n, os0 ++ os, sortWorldK_regrown enc k w0 hz.out blk off m n dk os0 os⟩
theorem _root_.Go.Proofs.SWK.regrownZ {enc : α → List Value} {k : Nat} {w0 W : World} {blk off : Nat} {dk : Array α} (h : SWK enc k w0 blk off dk W) (hz : Hid (w0.drawn = 0)) (n : Nat) (os : Array Obj) : SWK enc k w0 blk off dk (grow (redrawn W n) os) := SWK_regrownZ h hz n os
theorem _root_.Go.Proofs.SWK.ldz {enc : α → List Value} {k : Nat} {w0 W : World} {blk off : Nat} {dk d0 : Array α} (h : SWK enc k w0 blk off dk W) (hz : Hid (w0.drawn = 0)) (R : RowK enc k w0 blk off d0) (hs : dk.size = d0.size) (P : Program) (i : Nat) (hi : i < dk.size) (n : Nat) (os : Array Obj) :
    Sem.run P (loadCellsFrom ⟨blk, off + i * k, none⟩ 0 k #[]) (grow (redrawn W n) os) = .ok (enc dk[i]!).toArray (grow (redrawn W n) os) := (SWK_regrownZ h hz n os).load R hs P i hi
theorem _root_.Go.Proofs.SWK.cmpz {P : Program} {g : Nat} {cb : Array Value} {cf : α → α → Int} {size : Nat} {enc : α → List Value} {k : Nat} {w0 W : World} {blk off : Nat} {dk : Array α} (h : SWK enc k w0 blk off dk W) (hz : Hid (w0.drawn = 0)) (hC : CmpBelow P g cb enc k cf blk off size w0) (hs : dk.size = size) (x y : α) (n : Nat) (os : Array Obj) :
    Calls P g (#[.agg (enc x).toArray, .agg (enc y).toArray] ++ cb) (grow (redrawn W n) os) fun e w' => e = .returned (.int .i64 (cf x y)) ∧ ∃ p : Regrown, w' = grow (redrawn W p.d) p.os :=
  Calls.regrown_of (hC dk _ hs (SWK_regrownZ h hz n os) x y)

/-- What the walks ask of the program. -/
structure SLays (P : Program) : Prop where
  mixed : P.follows .mixedOrders = true
  fIns : P.funcs[(66 : Nat)]? = some Try.f66
  fSwap : P.funcs[(106 : Nat)]? = some Try.f106
  fRot : P.funcs[(96 : Nat)]? = some Try.f96
  fSym : P.funcs[(67 : Nat)]? = some Try.f67
  fStable : P.funcs[(42 : Nat)]? = some Try.f42
  t3 : P.underlying 3 = some (TypeDesc.int IntKind.i64)
  a3 : ∀ w, (isAgg 3).run P w = .ok false w
  z3 : ∀ w, (Go.sizeOf 3).run P w = .ok 1 w
  v3 : ∀ w, (zeroValue 3).run P w = .ok (Value.int IntKind.i64 0) w
  tu : P.underlying 190 = some (TypeDesc.int IntKind.u64)
  t4 : P.underlying 4 = some TypeDesc.bool
  a4 : ∀ w, (isAgg 4).run P w = .ok false w
  z4 : ∀ w, (Go.sizeOf 4).run P w = .ok 1 w
  v4 : ∀ w, (zeroValue 4).run P w = .ok (Value.bool false) w
  t22 : P.underlying 29 = some (TypeDesc.slice 24)
  a22 : ∀ w, (isAgg 29).run P w = .ok false w
  z22 : ∀ w, (Go.sizeOf 29).run P w = .ok 1 w
  a25 : ∀ w, (isAgg 26).run P w = .ok false w
  z25 : ∀ w, (Go.sizeOf 26).run P w = .ok 1 w
def smL (lt : α → α → Bool) (f a st mid : Nat) (d : Array α) : Array α := if a < st ∧ st < mid then symMerge lt f a st mid d else d
theorem smL_pos {lt : α → α → Bool} {f a st mid : Nat} {d : Array α} (h : a < st ∧ st < mid) : smL lt f a st mid d = symMerge lt f a st mid d := if_pos h
theorem smL_neg {lt : α → α → Bool} {f a st mid : Nat} {d : Array α} (h : ¬ (a < st ∧ st < mid)) : smL lt f a st mid d = d := if_neg h
theorem size_smL (lt : α → α → Bool) (f a st mid : Nat) (d : Array α) : (smL lt f a st mid d).size = d.size := by
  unfold smL
  split
  · exact size_symMerge _ _ _ _ _ _
  · rfl
theorem rot_fuel (m : Nat) : ∀ (f f' i j : Nat) (d : Array α), i + j ≤ f → i + j ≤ f' → 0 < i → 0 < j → rotLoop m f i j d = rotLoop m f' i j d
  | 0, _, i, j, d, h, _, h1, h2 => by omega
  | f + 1, 0, i, j, d, _, h, h1, h2 => by omega
  | f + 1, f' + 1, i, j, d, h, h', h1, h2 => by
    rw [rotLoop, rotLoop]
    by_cases hij : i = j
    · rw [if_pos hij, if_pos hij]
    · rw [if_neg hij, if_neg hij]
      by_cases hji : j < i
      · rw [if_pos hji, if_pos hji]; exact rot_fuel m f f' _ _ _ (by omega) (by omega) (by omega) h2
      · rw [if_neg hji, if_neg hji]; exact rot_fuel m f f' _ _ _ (by omega) (by omega) h1 (by omega)
theorem bsr_true (p : Nat → Bool) {i j h : Nat} (hij : i < j) (hh : h = (i + j) / 2) (hp : p h = true) : bsr p i j = bsr p (h + 1) j := by rw [bsr, if_pos hij, ← hh, if_pos hp]
theorem bsr_false (p : Nat → Bool) {i j h : Nat} (hij : i < j) (hh : h = (i + j) / 2) (hp : p h = false) : bsr p i j = bsr p i h := by rw [bsr, if_pos hij, ← hh, if_neg (by simp [hp])]
theorem bsr_stop (p : Nat → Bool) (i : Nat) : bsr p i i = i := by rw [bsr, if_neg (Nat.lt_irrefl _)]
set_option maxHeartbeats 8000000 in
set_option maxRecDepth 1000000 in
/-- slices.swapRangeCmpFunc: n exchanges. -/
theorem swapRange_any {P : Program} (L : SLays P) (k : Nat) (aE : ∀ w, (isAgg 24).run P w = .ok true w) (zE : ∀ w, (Go.sizeOf 24).run P w = .ok k w) (enc : α → List Value) (cf : α → α → Int) (g : Nat) (cb : Array Value) (blk off cap : Nat) (d0 d : Array α) (w0 w : World)
    (R : RowK enc k w0 blk off d0) (hs : d0.size = d.size) (S0 : Aside (SWK enc k w0 blk off d w)) (hsz : d.size < 1000000000000) (a b n : Nat) (ha : a + n ≤ d.size) (hb : b + n ≤ d.size) :
    Calls P 106 #[.slice (some ⟨blk, off, none⟩) d.size cap, .int .i64 a, .int .i64 b, .int .i64 n, .func (.func g) #[] cb] w fun e w' => e = .returned (.tuple #[]) ∧ SWK enc k w0 blk off (swapRange n a b d) w' := by
  have mixed := L.mixed; have t3 := L.t3; have a3 := L.a3; have z3 := L.z3; have v3 := L.v3; have tu := L.tu; have t4 := L.t4; have a4 := L.a4; have z4 := L.z4; have v4 := L.v4; have t22 := L.t22; have a22 := L.a22; have z22 := L.z22; have a25 := L.a25; have z25 := L.z25; have u22 := run_underlying L.t22
  have FG := L.fSwap
  go_enter FG, Try.ntmps106
  go_wp2
  go_loopg [10] n (fun kx s10 wr => ∃ (i : Nat) (dk : Array α), s10 = .int .i64 i ∧ i ≤ n ∧ n - i ≤ kx ∧ dk.size = d.size ∧ Aside (SWK enc k w0 blk off dk wr) ∧ Hid (swapRange (n - i) (a + i) (b + i) dk = swapRange n a b d))
  case atStart => exact ⟨0, d, rfl, Nat.zero_le _, by omega, rfl, S0, rfl⟩
  case round =>
    clear S0
    obtain ⟨i, dk, rfl, hin, hkx, hds, S1, HE⟩ := hrel
    by_cases hlt : i < n
    · have hltz : (i : Int) < (n : Int) := by omega
      go_wp2_with fail
      have ea1 : ((a : Int) + (i : Int)).toNat = a + i := by omega
      have pa1 : (0 : Int) ≤ (a : Int) + (i : Int) := by omega
      have ba1 : (a : Int) + (i : Int) < (d.size : Int) := by omega
      have ra1 : IntKind.i64.wrap ((a : Int) + (i : Int)) = (a : Int) + (i : Int) := by rw [IntKind.wrap_i64]; omega
      have ec1 : ((b : Int) + (i : Int)).toNat = b + i := by omega
      have pc1 : (0 : Int) ≤ (b : Int) + (i : Int) := by omega
      have bc1 : (b : Int) + (i : Int) < (d.size : Int) := by omega
      have rc1 : IntKind.i64.wrap ((b : Int) + (i : Int)) = (b : Int) + (i : Int) := by rw [IntKind.wrap_i64]; omega
      have S2 : Aside (SWK enc k w0 blk off (swp dk (a + i) (b + i)) ((wr.drew.setCells blk (off + (a + i) * k) (enc dk[b + i]!)).setCells blk (off + (b + i) * k) (enc dk[a + i]!))) := S1.out.swapped R (a + i) (b + i) (by omega) (by omega)
      have l1a := S1.out.ld1 R (by omega) P (a + i) (by omega)
      have l1b := S1.out.ld1 R (by omega) P (b + i) (by omega)
      have s1a := S1.out.st1 R (by omega) P (a + i) (by omega) dk[b + i]!
      have s1b := S1.out.st2 R (by omega) P (a + i) (b + i) (by omega) (by omega) dk[b + i]! dk[a + i]!
      have n1a : (enc dk[a + i]!).length = k := R.hk _
      have n1b : (enc dk[b + i]!).length = k := R.hk _
      generalize enc dk[a + i]! = cI1 at S2 l1a s1b n1a
      generalize enc dk[b + i]! = cJ1 at S2 l1b s1a s1b n1b
      clear S1
      go_wp2_with fail
      go_big_region_o
      clear l1a l1b s1a s1b
      generalize (wr.drew.setCells blk (off + (a + i) * k) cJ1).setCells blk (off + (b + i) * k) cI1 = w2 at S2 ⊢
      go_wp2
      go_roundg (n - (i + 1))
      case measure => omega
      case rel =>
        refine ⟨i + 1, swp dk (a + i) (b + i), by go_num, by omega, Nat.le_refl _, by rw [size_swp]; exact hds, S2, (show Hid _ from ?_)⟩
        show _ = _
        rw [← HE.out, show n - i = (n - (i + 1)) + 1 by omega, swapRange]
        rfl
    · have hltz : ¬ (i : Int) < (n : Int) := by omega
      go_wp2
      go_end0
      refine ⟨rfl, ?_⟩
      have := HE.out
      rw [show n - i = 0 by omega, swapRange] at this
      rw [← this]
      exact S1.out
set_option maxHeartbeats 8000000 in
set_option maxRecDepth 1000000 in
/-- slices.rotateCmpFunc. -/
theorem rotate_any {P : Program} (L : SLays P) (k : Nat) (aE : ∀ w, (isAgg 24).run P w = .ok true w) (zE : ∀ w, (Go.sizeOf 24).run P w = .ok k w) (enc : α → List Value) (cf : α → α → Int) (g : Nat) (cb : Array Value) (blk off cap : Nat) (d0 d : Array α) (w0 w : World)
    (R : RowK enc k w0 blk off d0) (hs : d0.size = d.size) (S0 : Aside (SWK enc k w0 blk off d w)) (hsz : d.size < 1000000000000) (a m b : Nat) (ham : a < m) (hmb : m < b) (hb : b ≤ d.size) :
    Calls P 96 #[.slice (some ⟨blk, off, none⟩) d.size cap, .int .i64 a, .int .i64 m, .int .i64 b, .func (.func g) #[] cb] w fun e w' => e = .returned (.tuple #[]) ∧ SWK enc k w0 blk off (rotate a m b d) w' := by
  have mixed := L.mixed; have t3 := L.t3; have a3 := L.a3; have z3 := L.z3; have v3 := L.v3; have tu := L.tu; have t4 := L.t4; have a4 := L.a4; have z4 := L.z4; have v4 := L.v4; have t22 := L.t22; have a22 := L.a22; have z22 := L.z22; have a25 := L.a25; have z25 := L.z25; have u22 := run_underlying L.t22
  have FG := L.fRot
  have e29 : ∀ args w, (callFunc 106 args).run P w = .ok (.enter 106 args) w := enters_of L.fSwap (by kernel_rfl) rfl
  have HS : ∀ (x y n : Nat) (dk : Array α) (wk : World), dk.size = d.size → Aside (SWK enc k w0 blk off dk wk) → x + n ≤ d.size → y + n ≤ d.size → Calls P 106 #[.slice (some ⟨blk, off, none⟩) d.size cap, .int .i64 x, .int .i64 y, .int .i64 n, .func (.func g) #[] cb] wk fun e w' => e = .returned (.tuple #[]) ∧ SWK enc k w0 blk off (swapRange n x y dk) w' := fun x y n dk wk h1 h2 h3 h4 => by
    have := swapRange_any L k aE zE enc cf g cb blk off cap d0 dk w0 wk R (by omega) h2 (by omega) x y n (by omega) (by omega)
    rwa [h1] at this
  have HS' := Lib.hid HS
  clear HS
  go_enter FG, Try.ntmps96
  go_wp2
  go_loopg [10, 11] (b - a) (fun kx s10 s11 wr => ∃ (i j : Nat) (dk : Array α), s10 = .int .i64 i ∧ s11 = .int .i64 j ∧ 0 < i ∧ 0 < j ∧ a + i ≤ m ∧ m + j ≤ b ∧ i + j ≤ kx ∧ dk.size = d.size ∧ Aside (SWK enc k w0 blk off dk wr) ∧ Hid (∀ f, i + j ≤ f → rotLoop m f i j dk = rotate a m b d))
  case atStart => exact ⟨m - a, b - m, d, by first | rfl | (congr 1; omega), by first | rfl | (congr 1; omega), by omega, by omega, by omega, by omega, by omega, rfl, S0, (show Hid _ from fun f hf => rot_fuel m _ _ _ _ _ hf (Nat.le_refl _) (by omega) (by omega))⟩
  case round =>
    clear S0
    obtain ⟨i, j, dk, rfl, rfl, hi0, hj0, hai, hmj, hkx, hds, S1, HE⟩ := hrel
    by_cases hij : i = j
    · subst hij
      have hne : ((i : Int) != (i : Int)) = false := by simp
      have hmi : (m : Int) - (i : Int) = ((m - i : Nat) : Int) := by omega
      have HC1 := Lib.hid (HS'.out (m - i) m i dk wr hds S1 (by omega) (by omega))
      go_wp2_with fail
      refine HC1.out.mono ?_
      rintro e w1 ⟨rfl, S2⟩
      have S2' : Aside _ := S2
      clear S2
      go_wp2_with fail
      go_end0
      refine ⟨rfl, ?_⟩
      have := HE.out (i + i) (Nat.le_refl _)
      rw [← this, show i + i = (i + i - 1) + 1 by omega, rotLoop, if_pos rfl]
      exact S2'.out
    · have hne : ((i : Int) != (j : Int)) = true := by rw [bne_iff_ne]; omega
      by_cases hgt : j < i
      · have hgtz : (j : Int) < (i : Int) := by omega
        have hmi : (m : Int) - (i : Int) = ((m - i : Nat) : Int) := by omega
        have HC1 := Lib.hid (HS'.out (m - i) m j dk wr hds S1 (by omega) (by omega))
        go_wp2_with fail
        refine HC1.out.mono ?_
        rintro e w1 ⟨rfl, S2⟩
        have S2' : Aside _ := S2
        clear S2
        go_wp2
        go_roundg (i - j + j)
        case measure => omega
        case rel =>
          refine ⟨i - j, j, _, by first | rfl | (congr 1; omega), rfl, by omega, hj0, by omega, hmj, Nat.le_refl _, by rw [size_swapRange]; exact hds, S2', (show Hid _ from fun f hf => ?_)⟩
          rw [rot_fuel m f (f + i + j) _ _ _ hf (by omega) (by omega) hj0, ← HE.out (f + i + j + 1) (by omega), rotLoop, if_neg hij, if_pos hgt]
      · have hgtz : ¬ (j : Int) < (i : Int) := by omega
        have hmi : (m : Int) - (i : Int) = ((m - i : Nat) : Int) := by omega
        have hmi2 : (m : Int) + (j : Int) - (i : Int) = ((m + j - i : Nat) : Int) := by omega
        have HC1 := Lib.hid (HS'.out (m - i) (m + j - i) i dk wr hds S1 (by omega) (by omega))
        go_wp2_with fail
        refine HC1.out.mono ?_
        rintro e w1 ⟨rfl, S2⟩
        have S2' : Aside _ := S2
        clear S2
        go_wp2
        go_roundg (i + (j - i))
        case measure => omega
        case rel =>
          refine ⟨i, j - i, _, rfl, by first | rfl | (congr 1; omega), hi0, by omega, hai, by omega, Nat.le_refl _, by rw [size_swapRange]; exact hds, S2', (show Hid _ from fun f hf => ?_)⟩
          rw [rot_fuel m f (f + i + j) _ _ _ hf (by omega) hi0 (by omega), ← HE.out (f + i + j + 1) (by omega), rotLoop, if_neg hij, if_neg hgt]
theorem insertion_w {P : Program} (L : SLays P) (k : Nat) (aE : ∀ w, (isAgg 24).run P w = .ok true w) (zE : ∀ w, (Go.sizeOf 24).run P w = .ok k w) (enc : α → List Value) (cf : α → α → Int) (g : Nat) (cb : Array Value) (blk off cap : Nat) (d0 d : Array α) (w0 w : World)
    (eg : ∀ args w, (callFunc g args).run P w = .ok (.enter g args) w) (HC : Aside (CmpBelow P g cb enc k cf blk off d0.size w0)) (HZ : Hid (w0.drawn = 0)) (R : RowK enc k w0 blk off d0) (hs : d.size = d0.size) (S0 : Aside (SWK enc k w0 blk off d w)) (hsz : d0.size < 1000000000000) (a b : Nat) (hab : a ≤ b) (hb : b ≤ d0.size) :
    Calls P 66 #[.slice (some ⟨blk, off, none⟩) d0.size cap, .int .i64 a, .int .i64 b, .func (.func g) #[] cb] w fun e w' => e = .returned (.tuple #[]) ∧ SWK enc k w0 blk off (Sort.insertionSort (ltOf cf) d a b) w' := by
  have S' : SWK enc k w0 blk off d (redrawn w 0) := by have := S0.out.regrownZ HZ 0 #[]; rwa [grow_empty] at this
  have hc : CmpBelow P g cb enc k cf blk off d.size (redrawn w 0) := fun dk W h1 h2 => by
    obtain ⟨n, os, rfl⟩ := h2
    exact HC.out dk _ (by omega) (S'.on R.hblk n dk os h1)
  have h := insertionSort_any (P := P) L.mixed L.fIns L.t3 L.a3 L.z3 L.v3 L.t4 L.a4 L.z4 L.v4 L.t22 L.a22 L.z22 L.a25 L.z25 k aE zE enc R.hk R.h1 cf g cb blk off cap a b d w eg hc (S0.out.holds R.hblk R.hH (by omega)) (S0.out.lt R.hblk) hab (by omega) (by omega)
  rw [hs] at h
  refine h.mono ?_
  rintro e w' ⟨rfl, n, os, rfl⟩
  exact ⟨rfl, S'.on R.hblk n _ os (by rw [size_insertion])⟩

end
end Go.Proofs.Ytokmkjgbhlcngaa.Q
namespace Go.Proofs.Ytokmkjgbhlcngaa.Q
open Go.Shelf Go.RowKit Go.Lib Go.Sort Go.Proofs Go.Proofs.Ytokmkjgbhlcngaa.G
set_option linter.all false

section
variable {α : Type} [Inhabited α]
set_option maxHeartbeats 8000000 in
set_option maxRecDepth 1000000 in
/-- slices.symMergeCmpFunc: one element on the left. -/
theorem symMerge_one {P : Program} (L : SLays P) (k : Nat) (aE : ∀ w, (isAgg 24).run P w = .ok true w) (zE : ∀ w, (Go.sizeOf 24).run P w = .ok k w) (enc : α → List Value) (cf : α → α → Int) (g : Nat) (cb : Array Value) (blk off cap : Nat) (d0 d : Array α) (w0 w : World)
    (eg : ∀ args w, (callFunc g args).run P w = .ok (.enter g args) w) (HC : Aside (CmpBelow P g cb enc k cf blk off d0.size w0)) (HZ : Hid (w0.drawn = 0)) (R : RowK enc k w0 blk off d0) (hs : d0.size = d.size) (S0 : Aside (SWK enc k w0 blk off d w)) (hsz : d.size < 1000000000000) (a m b : Nat) (ham : m = a + 1) (hmb : m < b) (hb : b ≤ d.size) :
    Calls P 67 #[.slice (some ⟨blk, off, none⟩) d.size cap, .int .i64 a, .int .i64 m, .int .i64 b, .func (.func g) #[] cb] w fun e w' => e = .returned (.tuple #[]) ∧ SWK enc k w0 blk off (upMove (bsr (fun h => ltOf cf d[h]! d[a]!) m b - 1 - a) a d) w' := by
  have mixed := L.mixed; have t3 := L.t3; have a3 := L.a3; have z3 := L.z3; have v3 := L.v3; have tu := L.tu; have t4 := L.t4; have a4 := L.a4; have z4 := L.z4; have v4 := L.v4; have t22 := L.t22; have a22 := L.a22; have z22 := L.z22; have a25 := L.a25; have z25 := L.z25; have u22 := run_underlying L.t22
  have FG := L.fSym
  subst ham
  have hq : (((a + 1 : Nat) : Int) - (a : Int) == 1) = true := beq_iff_eq.2 (by omega)
  have hcast : ((a + 1 : Nat) : Int) = (a : Int) + 1 := by omega
  rw [hcast] at hq ⊢
  clear hcast
  have hq' : ((a : Int) + 1 - (a : Int)) = 1 := by omega
  clear hq
  go_enter FG, Try.ntmps67
  go_wp2
  go_loopg [10, 11] (b - (a + 1)) (fun kx s10 s11 wr => ∃ (i j : Nat), s10 = .int .i64 i ∧ s11 = .int .i64 j ∧ a < i ∧ i ≤ j ∧ j ≤ b ∧ j - i ≤ kx ∧ Aside (SWK enc k w0 blk off d wr) ∧ Hid (bsr (fun h => ltOf cf d[h]! d[a]!) i j = bsr (fun h => ltOf cf d[h]! d[a]!) (a + 1) b))
  case atStart => exact ⟨a + 1, b, by first | rfl | go_num, rfl, by omega, by omega, Nat.le_refl _, Nat.le_refl _, S0, rfl⟩
  case round =>
    clear S0 hq'
    obtain ⟨i, j, rfl, rfl, hai, hij, hjb, hkx, S1, HE⟩ := hrel
    by_cases hlt : i < j
    · have hltz : (i : Int) < (j : Int) := by omega
      obtain ⟨h, hh⟩ : ∃ h : Nat, h = (i + j) / 2 := ⟨_, rfl⟩
      have h1 : i ≤ h := by omega
      have h2 : h < j := by omega
      have hz : ((i : Int) + (j : Int)) / 2 = (h : Int) := by omega
      have HH := Lib.hid hh
      clear hh
      cases hL : ltOf cf d[h]! d[a]! with
      | true =>
        have ea2 : ((h : Int)).toNat = h := by omega
        have pa2 : (0 : Int) ≤ (h : Int) := by omega
        have ba2 : (h : Int) < (d.size : Int) := by omega
        have ra2 : IntKind.i64.wrap ((h : Int)) = (h : Int) := by rw [IntKind.wrap_i64]; omega
        have ec2 : ((a : Int)).toNat = a := by omega
        have pc2 : (0 : Int) ≤ (a : Int) := by omega
        have bc2 : (a : Int) < (d.size : Int) := by omega
        have rc2 : IntKind.i64.wrap ((a : Int)) = (a : Int) := by rw [IntKind.wrap_i64]; omega
        obtain ⟨x2, hx2⟩ : ∃ x, x = d[h]! := ⟨_, rfl⟩
        obtain ⟨y2, hy2⟩ : ∃ x, x = d[a]! := ⟨_, rfl⟩
        have l2a := S1.out.ldz HZ R (by omega) P (h) (by omega)
        have l2b := S1.out.ldz HZ R (by omega) P (a) (by omega)
        rw [← hx2] at l2a
        rw [← hy2] at l2b
        have hc2 := S1.out.cmpz HZ HC.out (by omega) x2 y2
        have hv2 : cf x2 y2 < 0 := by rw [hx2, hy2]; exact of_decide_eq_true hL
        have hd2 : decide (cf x2 y2 < 0) = true := decide_eq_true hv2
        clear hx2 hy2
        go_wp2_with fail
        refine wp_region_quiet_below (by assumption) (by kernel_rfl) ?_
        repeat (quiet_step (first | (go_at_fn g; exact hc2 _ _)))
        refine wpQuiet_nil ?_
        intro _ hw'
        obtain ⟨⟨nq, osq⟩, hw''⟩ := hw'
        subst hw''
        have S2 : Aside (SWK enc k w0 blk off d (grow (redrawn wr nq) osq)) := S1.out.regrownZ HZ nq osq
        clear l2a l2b hc2 S1
        generalize grow (redrawn wr nq) osq = w2 at S2 ⊢
        clear nq osq
        go_wp2
        go_roundg (j - (h + 1))
        case measure => omega
        case rel =>
          refine ⟨h + 1, j, by first | rfl | go_num, rfl, by omega, by omega, hjb, Nat.le_refl _, S2, (show Hid _ from ?_)⟩
          show _ = _
          rw [← HE.out, bsr_true (fun h => ltOf cf d[h]! d[a]!) hlt HH.out hL]
      | false =>
        have ea3 : ((h : Int)).toNat = h := by omega
        have pa3 : (0 : Int) ≤ (h : Int) := by omega
        have ba3 : (h : Int) < (d.size : Int) := by omega
        have ra3 : IntKind.i64.wrap ((h : Int)) = (h : Int) := by rw [IntKind.wrap_i64]; omega
        have ec3 : ((a : Int)).toNat = a := by omega
        have pc3 : (0 : Int) ≤ (a : Int) := by omega
        have bc3 : (a : Int) < (d.size : Int) := by omega
        have rc3 : IntKind.i64.wrap ((a : Int)) = (a : Int) := by rw [IntKind.wrap_i64]; omega
        obtain ⟨x3, hx3⟩ : ∃ x, x = d[h]! := ⟨_, rfl⟩
        obtain ⟨y3, hy3⟩ : ∃ x, x = d[a]! := ⟨_, rfl⟩
        have l3a := S1.out.ldz HZ R (by omega) P (h) (by omega)
        have l3b := S1.out.ldz HZ R (by omega) P (a) (by omega)
        rw [← hx3] at l3a
        rw [← hy3] at l3b
        have hc3 := S1.out.cmpz HZ HC.out (by omega) x3 y3
        have hv3 : ¬ cf x3 y3 < 0 := by rw [hx3, hy3]; exact of_decide_eq_false hL
        have hd3 : decide (cf x3 y3 < 0) = false := decide_eq_false hv3
        clear hx3 hy3
        go_wp2_with fail
        refine wp_region_quiet_below (by assumption) (by kernel_rfl) ?_
        repeat (quiet_step (first | (go_at_fn g; exact hc3 _ _)))
        refine wpQuiet_nil ?_
        intro _ hw'
        obtain ⟨⟨nq, osq⟩, hw''⟩ := hw'
        subst hw''
        have S2 : Aside (SWK enc k w0 blk off d (grow (redrawn wr nq) osq)) := S1.out.regrownZ HZ nq osq
        clear l3a l3b hc3 S1
        generalize grow (redrawn wr nq) osq = w2 at S2 ⊢
        clear nq osq
        go_wp2
        go_roundg (h - i)
        case measure => omega
        case rel =>
          refine ⟨i, h, rfl, rfl, hai, h1, by omega, Nat.le_refl _, S2, (show Hid _ from ?_)⟩
          show _ = _
          rw [← HE.out, bsr_false (fun h => ltOf cf d[h]! d[a]!) hlt HH.out hL]
    · obtain rfl : i = j := by omega
      have hltz : ¬ (i : Int) < (i : Int) := by omega
      have HI : Hid (bsr (fun h => ltOf cf d[h]! d[a]!) (a + 1) b = i) := (show _ = _ from by rw [← HE.out, bsr_stop])
      clear HE
      go_wp2
      go_loopg [13] (i - 1 - a) (fun kx s13 wr2 => ∃ (q : Nat) (dk : Array α), s13 = .int .i64 q ∧ a ≤ q ∧ q ≤ i - 1 ∧ i - 1 - q ≤ kx ∧ dk.size = d.size ∧ Aside (SWK enc k w0 blk off dk wr2) ∧ Hid (upMove (i - 1 - q) q dk = upMove (i - 1 - a) a d))
      case atStart => exact ⟨a, d, rfl, Nat.le_refl _, by omega, Nat.le_refl _, rfl, S1, rfl⟩
      case round =>
        clear S1
        obtain ⟨q, dk, rfl, haq, hqi, hkx2, hds, S1, HE⟩ := hrel
        by_cases hlt : q < i - 1
        · have hqz : (q : Int) < (i : Int) - 1 := by omega
          go_wp2_with fail
          have ea4 : ((q : Int)).toNat = q := by omega
          have pa4 : (0 : Int) ≤ (q : Int) := by omega
          have ba4 : (q : Int) < (d.size : Int) := by omega
          have ra4 : IntKind.i64.wrap ((q : Int)) = (q : Int) := by rw [IntKind.wrap_i64]; omega
          have ec4 : ((q : Int) + 1).toNat = q + 1 := by omega
          have pc4 : (0 : Int) ≤ (q : Int) + 1 := by omega
          have bc4 : (q : Int) + 1 < (d.size : Int) := by omega
          have rc4 : IntKind.i64.wrap ((q : Int) + 1) = (q : Int) + 1 := by rw [IntKind.wrap_i64]; omega
          have S2 : Aside (SWK enc k w0 blk off (swp dk (q) (q + 1)) ((wr.drew.setCells blk (off + (q) * k) (enc dk[q + 1]!)).setCells blk (off + (q + 1) * k) (enc dk[q]!))) := S1.out.swapped R (q) (q + 1) (by omega) (by omega)
          have l4a := S1.out.ld1 R (by omega) P (q) (by omega)
          have l4b := S1.out.ld1 R (by omega) P (q + 1) (by omega)
          have s4a := S1.out.st1 R (by omega) P (q) (by omega) dk[q + 1]!
          have s4b := S1.out.st2 R (by omega) P (q) (q + 1) (by omega) (by omega) dk[q + 1]! dk[q]!
          have n4a : (enc dk[q]!).length = k := R.hk _
          have n4b : (enc dk[q + 1]!).length = k := R.hk _
          generalize enc dk[q]! = cI4 at S2 l4a s4b n4a
          generalize enc dk[q + 1]! = cJ4 at S2 l4b s4a s4b n4b
          clear S1
          go_wp2_with fail
          go_big_region_o
          clear l4a l4b s4a s4b
          generalize (wr.drew.setCells blk (off + (q) * k) cJ4).setCells blk (off + (q + 1) * k) cI4 = w2 at S2 ⊢
          go_wp2
          go_roundg (i - 1 - (q + 1))
          case measure => omega
          case rel =>
            refine ⟨q + 1, swp dk q (q + 1), by go_num, by omega, by omega, Nat.le_refl _, by rw [size_swp]; exact hds, S2, (show Hid _ from ?_)⟩
            show _ = _
            rw [← HE.out, show i - 1 - q = (i - 1 - (q + 1)) + 1 by omega, upMove]
        · have hqz : ¬ (q : Int) < (i : Int) - 1 := by omega
          go_wp2
          (try simp only [Exit.inBlock, Exit.then]); refine bodyPost_ret (results_none rfl _ _ _) rfl ?_
          refine ⟨rfl, ?_⟩
          have := HE.out
          rw [show i - 1 - q = 0 by omega, upMove] at this
          rw [HI.out, ← this]
          exact S1.out
set_option maxHeartbeats 8000000 in
set_option maxRecDepth 1000000 in
/-- slices.symMergeCmpFunc: one element on the right. -/
theorem symMerge_two {P : Program} (L : SLays P) (k : Nat) (aE : ∀ w, (isAgg 24).run P w = .ok true w) (zE : ∀ w, (Go.sizeOf 24).run P w = .ok k w) (enc : α → List Value) (cf : α → α → Int) (g : Nat) (cb : Array Value) (blk off cap : Nat) (d0 d : Array α) (w0 w : World)
    (eg : ∀ args w, (callFunc g args).run P w = .ok (.enter g args) w) (HC : Aside (CmpBelow P g cb enc k cf blk off d0.size w0)) (HZ : Hid (w0.drawn = 0)) (R : RowK enc k w0 blk off d0) (hs : d0.size = d.size) (S0 : Aside (SWK enc k w0 blk off d w)) (hsz : d.size < 1000000000000) (a m b : Nat) (ham : a + 1 < m) (hmb : b = m + 1) (hb : b ≤ d.size) :
    Calls P 67 #[.slice (some ⟨blk, off, none⟩) d.size cap, .int .i64 a, .int .i64 m, .int .i64 b, .func (.func g) #[] cb] w fun e w' => e = .returned (.tuple #[]) ∧ SWK enc k w0 blk off (downMove (m - bsr (fun h => !ltOf cf d[m]! d[h]!) a m) m d) w' := by
  have mixed := L.mixed; have t3 := L.t3; have a3 := L.a3; have z3 := L.z3; have v3 := L.v3; have tu := L.tu; have t4 := L.t4; have a4 := L.a4; have z4 := L.z4; have v4 := L.v4; have t22 := L.t22; have a22 := L.a22; have z22 := L.z22; have a25 := L.a25; have z25 := L.z25; have u22 := run_underlying L.t22
  have FG := L.fSym
  subst hmb
  have hq : ((m : Int) - (a : Int) == 1) = false := beq_eq_false_iff_ne.2 (by omega)
  have hq1 : ¬ ((m : Int) - (a : Int) = 1) := by omega
  have hcast : ((m + 1 : Nat) : Int) = (m : Int) + 1 := by omega
  rw [hcast]
  clear hcast
  have hq' : ((m : Int) + 1 - (m : Int)) = 1 := by omega
  go_enter FG, Try.ntmps67
  go_wp2
  go_loopg [14, 15] (m - a) (fun kx s14 s15 wr => ∃ (i j : Nat), s14 = .int .i64 i ∧ s15 = .int .i64 j ∧ a ≤ i ∧ i ≤ j ∧ j ≤ m ∧ j - i ≤ kx ∧ Aside (SWK enc k w0 blk off d wr) ∧ Hid (bsr (fun h => !ltOf cf d[m]! d[h]!) i j = bsr (fun h => !ltOf cf d[m]! d[h]!) a m))
  case atStart => exact ⟨a, m, rfl, rfl, Nat.le_refl _, by omega, Nat.le_refl _, Nat.le_refl _, S0, rfl⟩
  case round =>
    clear S0 hq' hq hq1
    obtain ⟨i, j, rfl, rfl, hai, hij, hjb, hkx, S1, HE⟩ := hrel
    by_cases hlt : i < j
    · have hltz : (i : Int) < (j : Int) := by omega
      obtain ⟨h, hh⟩ : ∃ h : Nat, h = (i + j) / 2 := ⟨_, rfl⟩
      have h1 : i ≤ h := by omega
      have h2 : h < j := by omega
      have hz : ((i : Int) + (j : Int)) / 2 = (h : Int) := by omega
      have HH := Lib.hid hh
      clear hh
      cases hL : ltOf cf d[m]! d[h]! with
      | true =>
        have ea5 : ((m : Int)).toNat = m := by omega
        have pa5 : (0 : Int) ≤ (m : Int) := by omega
        have ba5 : (m : Int) < (d.size : Int) := by omega
        have ra5 : IntKind.i64.wrap ((m : Int)) = (m : Int) := by rw [IntKind.wrap_i64]; omega
        have ec5 : ((h : Int)).toNat = h := by omega
        have pc5 : (0 : Int) ≤ (h : Int) := by omega
        have bc5 : (h : Int) < (d.size : Int) := by omega
        have rc5 : IntKind.i64.wrap ((h : Int)) = (h : Int) := by rw [IntKind.wrap_i64]; omega
        obtain ⟨x5, hx5⟩ : ∃ x, x = d[m]! := ⟨_, rfl⟩
        obtain ⟨y5, hy5⟩ : ∃ x, x = d[h]! := ⟨_, rfl⟩
        have l5a := S1.out.ldz HZ R (by omega) P (m) (by omega)
        have l5b := S1.out.ldz HZ R (by omega) P (h) (by omega)
        rw [← hx5] at l5a
        rw [← hy5] at l5b
        have hc5 := S1.out.cmpz HZ HC.out (by omega) x5 y5
        have hv5 : cf x5 y5 < 0 := by rw [hx5, hy5]; exact of_decide_eq_true hL
        have hd5 : decide (cf x5 y5 < 0) = true := decide_eq_true hv5
        clear hx5 hy5
        go_wp2_with fail
        refine wp_region_quiet_below (by assumption) (by kernel_rfl) ?_
        repeat (quiet_step (first | (go_at_fn g; exact hc5 _ _)))
        refine wpQuiet_nil ?_
        intro _ hw'
        obtain ⟨⟨nq, osq⟩, hw''⟩ := hw'
        subst hw''
        have S2 : Aside (SWK enc k w0 blk off d (grow (redrawn wr nq) osq)) := S1.out.regrownZ HZ nq osq
        clear l5a l5b hc5 S1
        generalize grow (redrawn wr nq) osq = w2 at S2 ⊢
        clear nq osq
        go_wp2
        go_roundg (h - i)
        case measure => omega
        case rel =>
          refine ⟨i, h, rfl, rfl, hai, h1, by omega, Nat.le_refl _, S2, (show Hid _ from ?_)⟩
          show _ = _
          rw [← HE.out, bsr_false (fun h => !ltOf cf d[m]! d[h]!) hlt HH.out (by simp only [hL, Bool.not_true])]
      | false =>
        have ea6 : ((m : Int)).toNat = m := by omega
        have pa6 : (0 : Int) ≤ (m : Int) := by omega
        have ba6 : (m : Int) < (d.size : Int) := by omega
        have ra6 : IntKind.i64.wrap ((m : Int)) = (m : Int) := by rw [IntKind.wrap_i64]; omega
        have ec6 : ((h : Int)).toNat = h := by omega
        have pc6 : (0 : Int) ≤ (h : Int) := by omega
        have bc6 : (h : Int) < (d.size : Int) := by omega
        have rc6 : IntKind.i64.wrap ((h : Int)) = (h : Int) := by rw [IntKind.wrap_i64]; omega
        obtain ⟨x6, hx6⟩ : ∃ x, x = d[m]! := ⟨_, rfl⟩
        obtain ⟨y6, hy6⟩ : ∃ x, x = d[h]! := ⟨_, rfl⟩
        have l6a := S1.out.ldz HZ R (by omega) P (m) (by omega)
        have l6b := S1.out.ldz HZ R (by omega) P (h) (by omega)
        rw [← hx6] at l6a
        rw [← hy6] at l6b
        have hc6 := S1.out.cmpz HZ HC.out (by omega) x6 y6
        have hv6 : ¬ cf x6 y6 < 0 := by rw [hx6, hy6]; exact of_decide_eq_false hL
        have hd6 : decide (cf x6 y6 < 0) = false := decide_eq_false hv6
        clear hx6 hy6
        go_wp2_with fail
        refine wp_region_quiet_below (by assumption) (by kernel_rfl) ?_
        repeat (quiet_step (first | (go_at_fn g; exact hc6 _ _)))
        refine wpQuiet_nil ?_
        intro _ hw'
        obtain ⟨⟨nq, osq⟩, hw''⟩ := hw'
        subst hw''
        have S2 : Aside (SWK enc k w0 blk off d (grow (redrawn wr nq) osq)) := S1.out.regrownZ HZ nq osq
        clear l6a l6b hc6 S1
        generalize grow (redrawn wr nq) osq = w2 at S2 ⊢
        clear nq osq
        go_wp2
        go_roundg (j - (h + 1))
        case measure => omega
        case rel =>
          refine ⟨h + 1, j, by first | rfl | go_num, rfl, by omega, by omega, hjb, Nat.le_refl _, S2, (show Hid _ from ?_)⟩
          show _ = _
          rw [← HE.out, bsr_true (fun h => !ltOf cf d[m]! d[h]!) hlt HH.out (by simp only [hL, Bool.not_false])]
    · obtain rfl : i = j := by omega
      have hltz : ¬ (i : Int) < (i : Int) := by omega
      have HI : Hid (bsr (fun h => !ltOf cf d[m]! d[h]!) a m = i) := (show _ = _ from by rw [← HE.out, bsr_stop])
      clear HE
      go_wp2
      go_loopg [17] (m - i) (fun kx s17 wr2 => ∃ (q : Nat) (dk : Array α), s17 = .int .i64 q ∧ i ≤ q ∧ q ≤ m ∧ q - i ≤ kx ∧ dk.size = d.size ∧ Aside (SWK enc k w0 blk off dk wr2) ∧ Hid (downMove (q - i) q dk = downMove (m - i) m d))
      case atStart => exact ⟨m, d, rfl, hjb, Nat.le_refl _, Nat.le_refl _, rfl, S1, rfl⟩
      case round =>
        clear S1
        obtain ⟨q, dk, rfl, hiq, hqm, hkx2, hds, S1, HE⟩ := hrel
        by_cases hlt : i < q
        · have hqz : (i : Int) < (q : Int) := by omega
          go_wp2_with fail
          have ea7 : ((q : Int)).toNat = q := by omega
          have pa7 : (0 : Int) ≤ (q : Int) := by omega
          have ba7 : (q : Int) < (d.size : Int) := by omega
          have ra7 : IntKind.i64.wrap ((q : Int)) = (q : Int) := by rw [IntKind.wrap_i64]; omega
          have ec7 : ((q : Int) - 1).toNat = q - 1 := by omega
          have pc7 : (0 : Int) ≤ (q : Int) - 1 := by omega
          have bc7 : (q : Int) - 1 < (d.size : Int) := by omega
          have rc7 : IntKind.i64.wrap ((q : Int) - 1) = (q : Int) - 1 := by rw [IntKind.wrap_i64]; omega
          have S2 : Aside (SWK enc k w0 blk off (swp dk (q) (q - 1)) ((wr.drew.setCells blk (off + (q) * k) (enc dk[q - 1]!)).setCells blk (off + (q - 1) * k) (enc dk[q]!))) := S1.out.swapped R (q) (q - 1) (by omega) (by omega)
          have l7a := S1.out.ld1 R (by omega) P (q) (by omega)
          have l7b := S1.out.ld1 R (by omega) P (q - 1) (by omega)
          have s7a := S1.out.st1 R (by omega) P (q) (by omega) dk[q - 1]!
          have s7b := S1.out.st2 R (by omega) P (q) (q - 1) (by omega) (by omega) dk[q - 1]! dk[q]!
          have n7a : (enc dk[q]!).length = k := R.hk _
          have n7b : (enc dk[q - 1]!).length = k := R.hk _
          generalize enc dk[q]! = cI7 at S2 l7a s7b n7a
          generalize enc dk[q - 1]! = cJ7 at S2 l7b s7a s7b n7b
          clear S1
          go_wp2_with fail
          go_big_region_o
          clear l7a l7b s7a s7b
          generalize (wr.drew.setCells blk (off + (q) * k) cJ7).setCells blk (off + (q - 1) * k) cI7 = w2 at S2 ⊢
          go_wp2
          go_roundg (q - 1 - i)
          case measure => omega
          case rel =>
            refine ⟨q - 1, swp dk q (q - 1), by first | rfl | (congr 1; omega), by omega, by omega, Nat.le_refl _, by rw [size_swp]; exact hds, S2, (show Hid _ from ?_)⟩
            show _ = _
            rw [← HE.out, show q - i = (q - 1 - i) + 1 by omega, downMove]
        · have hqz : ¬ (i : Int) < (q : Int) := by omega
          go_wp2
          (try simp only [Exit.inBlock, Exit.then]); refine bodyPost_ret (results_none rfl _ _ _) rfl ?_
          refine ⟨rfl, ?_⟩
          have := HE.out
          rw [show q - i = 0 by omega, downMove] at this
          rw [HI.out, ← this]
          exact S1.out
end
end Go.Proofs.Ytokmkjgbhlcngaa.Q
namespace Go.Proofs.Ytokmkjgbhlcngaa.Q
open Go.Shelf Go.RowKit Go.Lib Go.Sort Go.Proofs Go.Proofs.Ytokmkjgbhlcngaa.G
set_option linter.all false

section
variable {α : Type} [Inhabited α]
set_option maxHeartbeats 8000000 in
set_option maxRecDepth 1000000 in
/-- slices.symMergeCmpFunc: more than one on either side. -/
theorem symMerge_goL {P : Program} (L : SLays P) (k : Nat) (aE : ∀ w, (isAgg 24).run P w = .ok true w) (zE : ∀ w, (Go.sizeOf 24).run P w = .ok k w) (enc : α → List Value) (cf : α → α → Int) (g : Nat) (cb : Array Value) (blk off cap : Nat) (d0 d : Array α) (w0 w : World)
    (eg : ∀ args w, (callFunc g args).run P w = .ok (.enter g args) w) (HC : Aside (CmpBelow P g cb enc k cf blk off d0.size w0)) (HZ : Hid (w0.drawn = 0)) (R : RowK enc k w0 blk off d0) (hs : d0.size = d.size) (S0 : Aside (SWK enc k w0 blk off d w)) (hsz : d.size < 1000000000000)
    (f a m b mid st e : Nat) (ham : a + 1 < m) (hmb : m + 1 < b) (hb : b ≤ d.size) (hf : b - a ≤ f + 1) (hmid : mid = (a + b) / 2) (hside : mid < m) (hst : smStart (ltOf cf) a m b d = st) (he : e = mid + m - st) (p1 : a ≤ st) (p2 : st ≤ m) (p3 : st ≤ mid) (p4 : e ≤ b)
    (IH : Hid (∀ (a m b : Nat) (dk : Array α) (wk : World), a < m → m < b → b ≤ d.size → b - a ≤ f → dk.size = d.size → Aside (SWK enc k w0 blk off dk wk) → Calls P 67 #[.slice (some ⟨blk, off, none⟩) d.size cap, .int .i64 a, .int .i64 m, .int .i64 b, .func (.func g) #[] cb] wk fun e w' => e = .returned (.tuple #[]) ∧ SWK enc k w0 blk off (symMerge (ltOf cf) f a m b dk) w')) :
    Calls P 67 #[.slice (some ⟨blk, off, none⟩) d.size cap, .int .i64 a, .int .i64 m, .int .i64 b, .func (.func g) #[] cb] w fun e' w' => e' = .returned (.tuple #[]) ∧ SWK enc k w0 blk off
      (smL (ltOf cf) f mid e b (smL (ltOf cf) f a st mid (smRot m st e d))) w' := by
  have mixed := L.mixed; have t3 := L.t3; have a3 := L.a3; have z3 := L.z3; have v3 := L.v3; have tu := L.tu; have t4 := L.t4; have a4 := L.a4; have z4 := L.z4; have v4 := L.v4; have t22 := L.t22; have a22 := L.a22; have z22 := L.z22; have a25 := L.a25; have z25 := L.z25; have u22 := run_underlying L.t22
  have FG := L.fSym
  have e67 : ∀ args w, (callFunc 67 args).run P w = .ok (.enter 67 args) w := enters_of L.fSym (by kernel_rfl) rfl
  have e96 : ∀ args w, (callFunc 96 args).run P w = .ok (.enter 96 args) w := enters_of L.fRot (by kernel_rfl) rfl
  have HS := Lib.hid hst
  have hmid2 : mid < b := by omega
  have hmid1 : a < mid := by omega
  have hmd := Lib.hid hmid
  have hmz : ((a : Int) + (b : Int)) / 2 = (mid : Int) := by omega
  have hq1 : ((m : Int) - (a : Int) == 1) = false := beq_eq_false_iff_ne.2 (by omega)
  have hq2 : ((b : Int) - (m : Int) == 1) = false := beq_eq_false_iff_ne.2 (by omega)
  have hmm : mid + m ≤ a + b ∨ mid < m := by omega
  have hsz1 : (mid : Int) < (m : Int) := by omega
  have HEQ := Lib.hid he
  clear hst hmid he
  go_enter FG, Try.ntmps67
  go_wp2
  go_loopg [20, 21] ((mid) - (mid + m - b)) (fun kx s20 s21 wr => ∃ (i j : Nat), s20 = .int .i64 i ∧ s21 = .int .i64 j ∧ mid + m - b ≤ i ∧ i ≤ j ∧ j ≤ mid ∧ j - i ≤ kx ∧ Aside (SWK enc k w0 blk off d wr) ∧ Hid (bsr (fun c => !ltOf cf d[mid + m - 1 - c]! d[c]!) i j = bsr (fun c => !ltOf cf d[mid + m - 1 - c]! d[c]!) (mid + m - b) (mid)))
  case atStart => exact ⟨mid + m - b, mid, by first | rfl | (congr 1; omega), rfl, Nat.le_refl _, by omega, Nat.le_refl _, Nat.le_refl _, S0, rfl⟩
  case round =>
    clear S0 hmz hq1 hq2
    obtain ⟨i, j, rfl, rfl, hai, hij, hjb, hkx, S1, HE⟩ := hrel
    by_cases hlt : i < j
    · have hltz : (i : Int) < (j : Int) := by omega
      obtain ⟨c, hh⟩ : ∃ c : Nat, c = (i + j) / 2 := ⟨_, rfl⟩
      have h1 : i ≤ c := by omega
      have h2 : c < j := by omega
      have hz : ((i : Int) + (j : Int)) / 2 = (c : Int) := by omega
      have HH := Lib.hid hh
      clear hh
      obtain ⟨u, hu⟩ : ∃ u : Nat, u = mid + m - 1 - c := ⟨_, rfl⟩
      have huz : (mid : Int) + (m : Int) - 1 - (c : Int) = (u : Int) := by omega
      have hub : u < d.size := by omega
      clear hmm
      have HU := Lib.hid hu
      clear hu
      cases hL : ltOf cf d[u]! d[c]! with
      | true =>
        have ea8 : ((u : Int)).toNat = u := by omega
        have pa8 : (0 : Int) ≤ (u : Int) := by omega
        have ba8 : (u : Int) < (d.size : Int) := by omega
        have ra8 : IntKind.i64.wrap ((u : Int)) = (u : Int) := by rw [IntKind.wrap_i64]; omega
        have ec8 : ((c : Int)).toNat = c := by omega
        have pc8 : (0 : Int) ≤ (c : Int) := by omega
        have bc8 : (c : Int) < (d.size : Int) := by omega
        have rc8 : IntKind.i64.wrap ((c : Int)) = (c : Int) := by rw [IntKind.wrap_i64]; omega
        obtain ⟨x8, hx8⟩ : ∃ x, x = d[u]! := ⟨_, rfl⟩
        obtain ⟨y8, hy8⟩ : ∃ x, x = d[c]! := ⟨_, rfl⟩
        have l8a := S1.out.ldz HZ R (by omega) P (u) (by omega)
        have l8b := S1.out.ldz HZ R (by omega) P (c) (by omega)
        rw [← hx8] at l8a
        rw [← hy8] at l8b
        have hc8 := S1.out.cmpz HZ HC.out (by omega) x8 y8
        have hv8 : cf x8 y8 < 0 := by rw [hx8, hy8]; exact of_decide_eq_true hL
        have hd8 : decide (cf x8 y8 < 0) = true := decide_eq_true hv8
        clear hx8 hy8
        go_wp2_with fail
        refine wp_region_quiet_below (by assumption) (by kernel_rfl) ?_
        repeat (quiet_step (first | (go_at_fn g; exact hc8 _ _)))
        refine wpQuiet_nil ?_
        intro _ hw'
        obtain ⟨⟨nq, osq⟩, hw''⟩ := hw'
        subst hw''
        have S2 : Aside (SWK enc k w0 blk off d (grow (redrawn wr nq) osq)) := S1.out.regrownZ HZ nq osq
        clear l8a l8b hc8 S1
        generalize grow (redrawn wr nq) osq = w2 at S2 ⊢
        clear nq osq
        go_wp2
        go_roundg (c - i)
        case measure => omega
        case rel =>
          refine ⟨i, c, rfl, rfl, hai, h1, by omega, Nat.le_refl _, S2, (show Hid _ from ?_)⟩
          show _ = _
          rw [← HE.out, bsr_false (fun c => !ltOf cf d[mid + m - 1 - c]! d[c]!) hlt HH.out (by simp only [← HU.out, hL, Bool.not_true])]
      | false =>
        have ea9 : ((u : Int)).toNat = u := by omega
        have pa9 : (0 : Int) ≤ (u : Int) := by omega
        have ba9 : (u : Int) < (d.size : Int) := by omega
        have ra9 : IntKind.i64.wrap ((u : Int)) = (u : Int) := by rw [IntKind.wrap_i64]; omega
        have ec9 : ((c : Int)).toNat = c := by omega
        have pc9 : (0 : Int) ≤ (c : Int) := by omega
        have bc9 : (c : Int) < (d.size : Int) := by omega
        have rc9 : IntKind.i64.wrap ((c : Int)) = (c : Int) := by rw [IntKind.wrap_i64]; omega
        obtain ⟨x9, hx9⟩ : ∃ x, x = d[u]! := ⟨_, rfl⟩
        obtain ⟨y9, hy9⟩ : ∃ x, x = d[c]! := ⟨_, rfl⟩
        have l9a := S1.out.ldz HZ R (by omega) P (u) (by omega)
        have l9b := S1.out.ldz HZ R (by omega) P (c) (by omega)
        rw [← hx9] at l9a
        rw [← hy9] at l9b
        have hc9 := S1.out.cmpz HZ HC.out (by omega) x9 y9
        have hv9 : ¬ cf x9 y9 < 0 := by rw [hx9, hy9]; exact of_decide_eq_false hL
        have hd9 : decide (cf x9 y9 < 0) = false := decide_eq_false hv9
        clear hx9 hy9
        go_wp2_with fail
        refine wp_region_quiet_below (by assumption) (by kernel_rfl) ?_
        repeat (quiet_step (first | (go_at_fn g; exact hc9 _ _)))
        refine wpQuiet_nil ?_
        intro _ hw'
        obtain ⟨⟨nq, osq⟩, hw''⟩ := hw'
        subst hw''
        have S2 : Aside (SWK enc k w0 blk off d (grow (redrawn wr nq) osq)) := S1.out.regrownZ HZ nq osq
        clear l9a l9b hc9 S1
        generalize grow (redrawn wr nq) osq = w2 at S2 ⊢
        clear nq osq
        go_wp2
        go_roundg (j - (c + 1))
        case measure => omega
        case rel =>
          refine ⟨c + 1, j, by first | rfl | go_num, rfl, by omega, by omega, hjb, Nat.le_refl _, S2, (show Hid _ from ?_)⟩
          show _ = _
          rw [← HE.out, bsr_true (fun c => !ltOf cf d[mid + m - 1 - c]! d[c]!) hlt HH.out (by simp only [← HU.out, hL, Bool.not_false])]
    · obtain rfl : i = j := by omega
      have hltz : ¬ (i : Int) < (i : Int) := by omega
      obtain rfl : i = st := by
        have h1 := HS.out
        have h2 := HE.out
        rw [bsr_stop] at h2
        unfold smStart at h1
        rw [← hmd.out] at h1
        rw [if_pos hside, if_pos hside] at h1
        exact h2.trans h1
      clear HE HS hkx hjb hai hij
      have hez : (mid : Int) + (m : Int) - (i : Int) = (e : Int) := by have := HEQ.out; omega
      have hme : m ≤ e := by have := HEQ.out; omega
      have hme2 : mid ≤ e := by have := HEQ.out; omega
      by_cases c1 : i < m ∧ m < e
      · have c1x : (i : Int) < (m : Int) := by omega
        have c1y : (m : Int) < (e : Int) := by omega
        by_cases c2 : a < i ∧ i < mid
        · have c2x : (a : Int) < (i : Int) := by omega
          have c2y : (i : Int) < (mid : Int) := by omega
          by_cases c3 : mid < e ∧ e < b
          · have c3x : (mid : Int) < (e : Int) := by omega
            have c3y : (e : Int) < (b : Int) := by omega
            first | (exfalso; have := HEQ.out; omega) | skip
            all_goals
              have HC1 := Lib.hid (rotate_any L k aE zE enc cf g cb blk off cap d0 d w0 wr R hs S1 hsz i m e c1.1 c1.2 (by omega))
              go_wp2_with fail
              refine HC1.out.mono ?_
              rintro e1 w1 ⟨rfl, S2⟩
              have S3 : Aside (SWK enc k w0 blk off (smRot m i e d) w1) := by unfold smRot; rw [if_pos c1]; exact S2
              clear S2 HC1
              have hz3 := Lib.hid (show (smRot m i e d).size = d.size from size_smRot _ _ _ _)
              have HC2 := Lib.hid (IH.out a i mid _ w1 c2.1 c2.2 (by omega) (by omega) hz3.out S3)
              go_wp2_with fail
              refine HC2.out.mono ?_
              rintro e2 w2 ⟨rfl, S4⟩
              have S5 : Aside (SWK enc k w0 blk off (smL (ltOf cf) f a i mid (smRot m i e d)) w2) := by rw [smL_pos c2]; exact S4
              clear S4 HC2
              have hz5 := Lib.hid (show (smL (ltOf cf) f a i mid (smRot m i e d)).size = d.size from by rw [size_smL]; exact hz3.out)
              have HC3 := Lib.hid (IH.out mid e b _ w2 c3.1 c3.2 hb (by omega) hz5.out S5)
              go_wp2_with fail
              refine HC3.out.mono ?_
              rintro e3 w3 ⟨rfl, S6⟩
              have S7 : Aside (SWK enc k w0 blk off (symMerge (ltOf cf) f mid e b (smL (ltOf cf) f a i mid (smRot m i e d))) w3) := S6
              clear S6 HC3
              go_wp2_with fail
              go_end0
              refine ⟨rfl, ?_⟩
              rw [smL_pos c3]
              exact S7.out
          · by_cases c3f : mid < e
            · have c3x : (mid : Int) < (e : Int) := by omega
              have c3y : ¬ (e : Int) < (b : Int) := by omega
              first | (exfalso; have := HEQ.out; omega) | skip
              all_goals
                have HC1 := Lib.hid (rotate_any L k aE zE enc cf g cb blk off cap d0 d w0 wr R hs S1 hsz i m e c1.1 c1.2 (by omega))
                go_wp2_with fail
                refine HC1.out.mono ?_
                rintro e1 w1 ⟨rfl, S2⟩
                have S3 : Aside (SWK enc k w0 blk off (smRot m i e d) w1) := by unfold smRot; rw [if_pos c1]; exact S2
                clear S2 HC1
                have hz3 := Lib.hid (show (smRot m i e d).size = d.size from size_smRot _ _ _ _)
                have HC2 := Lib.hid (IH.out a i mid _ w1 c2.1 c2.2 (by omega) (by omega) hz3.out S3)
                go_wp2_with fail
                refine HC2.out.mono ?_
                rintro e2 w2 ⟨rfl, S4⟩
                have S5 : Aside (SWK enc k w0 blk off (smL (ltOf cf) f a i mid (smRot m i e d)) w2) := by rw [smL_pos c2]; exact S4
                clear S4 HC2
                have hz5 := Lib.hid (show (smL (ltOf cf) f a i mid (smRot m i e d)).size = d.size from by rw [size_smL]; exact hz3.out)
                go_wp2_with fail
                go_end0
                refine ⟨rfl, ?_⟩
                rw [smL_neg c3]
                exact S5.out
            · have c3x : ¬ (mid : Int) < (e : Int) := by omega
              first | (exfalso; have := HEQ.out; omega) | skip
              all_goals
                have HC1 := Lib.hid (rotate_any L k aE zE enc cf g cb blk off cap d0 d w0 wr R hs S1 hsz i m e c1.1 c1.2 (by omega))
                go_wp2_with fail
                refine HC1.out.mono ?_
                rintro e1 w1 ⟨rfl, S2⟩
                have S3 : Aside (SWK enc k w0 blk off (smRot m i e d) w1) := by unfold smRot; rw [if_pos c1]; exact S2
                clear S2 HC1
                have hz3 := Lib.hid (show (smRot m i e d).size = d.size from size_smRot _ _ _ _)
                have HC2 := Lib.hid (IH.out a i mid _ w1 c2.1 c2.2 (by omega) (by omega) hz3.out S3)
                go_wp2_with fail
                refine HC2.out.mono ?_
                rintro e2 w2 ⟨rfl, S4⟩
                have S5 : Aside (SWK enc k w0 blk off (smL (ltOf cf) f a i mid (smRot m i e d)) w2) := by rw [smL_pos c2]; exact S4
                clear S4 HC2
                have hz5 := Lib.hid (show (smL (ltOf cf) f a i mid (smRot m i e d)).size = d.size from by rw [size_smL]; exact hz3.out)
                go_wp2_with fail
                go_end0
                refine ⟨rfl, ?_⟩
                rw [smL_neg c3]
                exact S5.out
        · by_cases c2f : a < i
          · have c2x : (a : Int) < (i : Int) := by omega
            have c2y : ¬ (i : Int) < (mid : Int) := by omega
            by_cases c3 : mid < e ∧ e < b
            · have c3x : (mid : Int) < (e : Int) := by omega
              have c3y : (e : Int) < (b : Int) := by omega
              first | (exfalso; have := HEQ.out; omega) | skip
              all_goals
                have HC1 := Lib.hid (rotate_any L k aE zE enc cf g cb blk off cap d0 d w0 wr R hs S1 hsz i m e c1.1 c1.2 (by omega))
                go_wp2_with fail
                refine HC1.out.mono ?_
                rintro e1 w1 ⟨rfl, S2⟩
                have S3 : Aside (SWK enc k w0 blk off (smRot m i e d) w1) := by unfold smRot; rw [if_pos c1]; exact S2
                clear S2 HC1
                have hz3 := Lib.hid (show (smRot m i e d).size = d.size from size_smRot _ _ _ _)
                have S5 : Aside (SWK enc k w0 blk off (smL (ltOf cf) f a i mid (smRot m i e d)) w1) := by rw [smL_neg c2]; exact S3
                have hz5 := Lib.hid (show (smL (ltOf cf) f a i mid (smRot m i e d)).size = d.size from by rw [size_smL]; exact hz3.out)
                have HC3 := Lib.hid (IH.out mid e b _ w1 c3.1 c3.2 hb (by omega) hz5.out S5)
                go_wp2_with fail
                refine HC3.out.mono ?_
                rintro e3 w3 ⟨rfl, S6⟩
                have S7 : Aside (SWK enc k w0 blk off (symMerge (ltOf cf) f mid e b (smL (ltOf cf) f a i mid (smRot m i e d))) w3) := S6
                clear S6 HC3
                go_wp2_with fail
                go_end0
                refine ⟨rfl, ?_⟩
                rw [smL_pos c3]
                exact S7.out
            · by_cases c3f : mid < e
              · have c3x : (mid : Int) < (e : Int) := by omega
                have c3y : ¬ (e : Int) < (b : Int) := by omega
                first | (exfalso; have := HEQ.out; omega) | skip
                all_goals
                  have HC1 := Lib.hid (rotate_any L k aE zE enc cf g cb blk off cap d0 d w0 wr R hs S1 hsz i m e c1.1 c1.2 (by omega))
                  go_wp2_with fail
                  refine HC1.out.mono ?_
                  rintro e1 w1 ⟨rfl, S2⟩
                  have S3 : Aside (SWK enc k w0 blk off (smRot m i e d) w1) := by unfold smRot; rw [if_pos c1]; exact S2
                  clear S2 HC1
                  have hz3 := Lib.hid (show (smRot m i e d).size = d.size from size_smRot _ _ _ _)
                  have S5 : Aside (SWK enc k w0 blk off (smL (ltOf cf) f a i mid (smRot m i e d)) w1) := by rw [smL_neg c2]; exact S3
                  have hz5 := Lib.hid (show (smL (ltOf cf) f a i mid (smRot m i e d)).size = d.size from by rw [size_smL]; exact hz3.out)
                  go_wp2_with fail
                  go_end0
                  refine ⟨rfl, ?_⟩
                  rw [smL_neg c3]
                  exact S5.out
              · have c3x : ¬ (mid : Int) < (e : Int) := by omega
                first | (exfalso; have := HEQ.out; omega) | skip
                all_goals
                  have HC1 := Lib.hid (rotate_any L k aE zE enc cf g cb blk off cap d0 d w0 wr R hs S1 hsz i m e c1.1 c1.2 (by omega))
                  go_wp2_with fail
                  refine HC1.out.mono ?_
                  rintro e1 w1 ⟨rfl, S2⟩
                  have S3 : Aside (SWK enc k w0 blk off (smRot m i e d) w1) := by unfold smRot; rw [if_pos c1]; exact S2
                  clear S2 HC1
                  have hz3 := Lib.hid (show (smRot m i e d).size = d.size from size_smRot _ _ _ _)
                  have S5 : Aside (SWK enc k w0 blk off (smL (ltOf cf) f a i mid (smRot m i e d)) w1) := by rw [smL_neg c2]; exact S3
                  have hz5 := Lib.hid (show (smL (ltOf cf) f a i mid (smRot m i e d)).size = d.size from by rw [size_smL]; exact hz3.out)
                  go_wp2_with fail
                  go_end0
                  refine ⟨rfl, ?_⟩
                  rw [smL_neg c3]
                  exact S5.out
          · have c2x : ¬ (a : Int) < (i : Int) := by omega
            by_cases c3 : mid < e ∧ e < b
            · have c3x : (mid : Int) < (e : Int) := by omega
              have c3y : (e : Int) < (b : Int) := by omega
              first | (exfalso; have := HEQ.out; omega) | skip
              all_goals
                have HC1 := Lib.hid (rotate_any L k aE zE enc cf g cb blk off cap d0 d w0 wr R hs S1 hsz i m e c1.1 c1.2 (by omega))
                go_wp2_with fail
                refine HC1.out.mono ?_
                rintro e1 w1 ⟨rfl, S2⟩
                have S3 : Aside (SWK enc k w0 blk off (smRot m i e d) w1) := by unfold smRot; rw [if_pos c1]; exact S2
                clear S2 HC1
                have hz3 := Lib.hid (show (smRot m i e d).size = d.size from size_smRot _ _ _ _)
                have S5 : Aside (SWK enc k w0 blk off (smL (ltOf cf) f a i mid (smRot m i e d)) w1) := by rw [smL_neg c2]; exact S3
                have hz5 := Lib.hid (show (smL (ltOf cf) f a i mid (smRot m i e d)).size = d.size from by rw [size_smL]; exact hz3.out)
                have HC3 := Lib.hid (IH.out mid e b _ w1 c3.1 c3.2 hb (by omega) hz5.out S5)
                go_wp2_with fail
                refine HC3.out.mono ?_
                rintro e3 w3 ⟨rfl, S6⟩
                have S7 : Aside (SWK enc k w0 blk off (symMerge (ltOf cf) f mid e b (smL (ltOf cf) f a i mid (smRot m i e d))) w3) := S6
                clear S6 HC3
                go_wp2_with fail
                go_end0
                refine ⟨rfl, ?_⟩
                rw [smL_pos c3]
                exact S7.out
            · by_cases c3f : mid < e
              · have c3x : (mid : Int) < (e : Int) := by omega
                have c3y : ¬ (e : Int) < (b : Int) := by omega
                first | (exfalso; have := HEQ.out; omega) | skip
                all_goals
                  have HC1 := Lib.hid (rotate_any L k aE zE enc cf g cb blk off cap d0 d w0 wr R hs S1 hsz i m e c1.1 c1.2 (by omega))
                  go_wp2_with fail
                  refine HC1.out.mono ?_
                  rintro e1 w1 ⟨rfl, S2⟩
                  have S3 : Aside (SWK enc k w0 blk off (smRot m i e d) w1) := by unfold smRot; rw [if_pos c1]; exact S2
                  clear S2 HC1
                  have hz3 := Lib.hid (show (smRot m i e d).size = d.size from size_smRot _ _ _ _)
                  have S5 : Aside (SWK enc k w0 blk off (smL (ltOf cf) f a i mid (smRot m i e d)) w1) := by rw [smL_neg c2]; exact S3
                  have hz5 := Lib.hid (show (smL (ltOf cf) f a i mid (smRot m i e d)).size = d.size from by rw [size_smL]; exact hz3.out)
                  go_wp2_with fail
                  go_end0
                  refine ⟨rfl, ?_⟩
                  rw [smL_neg c3]
                  exact S5.out
              · have c3x : ¬ (mid : Int) < (e : Int) := by omega
                first | (exfalso; have := HEQ.out; omega) | skip
                all_goals
                  have HC1 := Lib.hid (rotate_any L k aE zE enc cf g cb blk off cap d0 d w0 wr R hs S1 hsz i m e c1.1 c1.2 (by omega))
                  go_wp2_with fail
                  refine HC1.out.mono ?_
                  rintro e1 w1 ⟨rfl, S2⟩
                  have S3 : Aside (SWK enc k w0 blk off (smRot m i e d) w1) := by unfold smRot; rw [if_pos c1]; exact S2
                  clear S2 HC1
                  have hz3 := Lib.hid (show (smRot m i e d).size = d.size from size_smRot _ _ _ _)
                  have S5 : Aside (SWK enc k w0 blk off (smL (ltOf cf) f a i mid (smRot m i e d)) w1) := by rw [smL_neg c2]; exact S3
                  have hz5 := Lib.hid (show (smL (ltOf cf) f a i mid (smRot m i e d)).size = d.size from by rw [size_smL]; exact hz3.out)
                  go_wp2_with fail
                  go_end0
                  refine ⟨rfl, ?_⟩
                  rw [smL_neg c3]
                  exact S5.out
      · by_cases c1f : i < m
        · have c1x : (i : Int) < (m : Int) := by omega
          have c1y : ¬ (m : Int) < (e : Int) := by omega
          by_cases c2 : a < i ∧ i < mid
          · have c2x : (a : Int) < (i : Int) := by omega
            have c2y : (i : Int) < (mid : Int) := by omega
            by_cases c3 : mid < e ∧ e < b
            · have c3x : (mid : Int) < (e : Int) := by omega
              have c3y : (e : Int) < (b : Int) := by omega
              first | (exfalso; have := HEQ.out; omega) | skip
              all_goals
                have S3 : Aside (SWK enc k w0 blk off (smRot m i e d) wr) := by unfold smRot; rw [if_neg c1]; exact S1
                have hz3 := Lib.hid (show (smRot m i e d).size = d.size from size_smRot _ _ _ _)
                have HC2 := Lib.hid (IH.out a i mid _ wr c2.1 c2.2 (by omega) (by omega) hz3.out S3)
                go_wp2_with fail
                refine HC2.out.mono ?_
                rintro e2 w2 ⟨rfl, S4⟩
                have S5 : Aside (SWK enc k w0 blk off (smL (ltOf cf) f a i mid (smRot m i e d)) w2) := by rw [smL_pos c2]; exact S4
                clear S4 HC2
                have hz5 := Lib.hid (show (smL (ltOf cf) f a i mid (smRot m i e d)).size = d.size from by rw [size_smL]; exact hz3.out)
                have HC3 := Lib.hid (IH.out mid e b _ w2 c3.1 c3.2 hb (by omega) hz5.out S5)
                go_wp2_with fail
                refine HC3.out.mono ?_
                rintro e3 w3 ⟨rfl, S6⟩
                have S7 : Aside (SWK enc k w0 blk off (symMerge (ltOf cf) f mid e b (smL (ltOf cf) f a i mid (smRot m i e d))) w3) := S6
                clear S6 HC3
                go_wp2_with fail
                go_end0
                refine ⟨rfl, ?_⟩
                rw [smL_pos c3]
                exact S7.out
            · by_cases c3f : mid < e
              · have c3x : (mid : Int) < (e : Int) := by omega
                have c3y : ¬ (e : Int) < (b : Int) := by omega
                first | (exfalso; have := HEQ.out; omega) | skip
                all_goals
                  have S3 : Aside (SWK enc k w0 blk off (smRot m i e d) wr) := by unfold smRot; rw [if_neg c1]; exact S1
                  have hz3 := Lib.hid (show (smRot m i e d).size = d.size from size_smRot _ _ _ _)
                  have HC2 := Lib.hid (IH.out a i mid _ wr c2.1 c2.2 (by omega) (by omega) hz3.out S3)
                  go_wp2_with fail
                  refine HC2.out.mono ?_
                  rintro e2 w2 ⟨rfl, S4⟩
                  have S5 : Aside (SWK enc k w0 blk off (smL (ltOf cf) f a i mid (smRot m i e d)) w2) := by rw [smL_pos c2]; exact S4
                  clear S4 HC2
                  have hz5 := Lib.hid (show (smL (ltOf cf) f a i mid (smRot m i e d)).size = d.size from by rw [size_smL]; exact hz3.out)
                  go_wp2_with fail
                  go_end0
                  refine ⟨rfl, ?_⟩
                  rw [smL_neg c3]
                  exact S5.out
              · have c3x : ¬ (mid : Int) < (e : Int) := by omega
                first | (exfalso; have := HEQ.out; omega) | skip
                all_goals
                  have S3 : Aside (SWK enc k w0 blk off (smRot m i e d) wr) := by unfold smRot; rw [if_neg c1]; exact S1
                  have hz3 := Lib.hid (show (smRot m i e d).size = d.size from size_smRot _ _ _ _)
                  have HC2 := Lib.hid (IH.out a i mid _ wr c2.1 c2.2 (by omega) (by omega) hz3.out S3)
                  go_wp2_with fail
                  refine HC2.out.mono ?_
                  rintro e2 w2 ⟨rfl, S4⟩
                  have S5 : Aside (SWK enc k w0 blk off (smL (ltOf cf) f a i mid (smRot m i e d)) w2) := by rw [smL_pos c2]; exact S4
                  clear S4 HC2
                  have hz5 := Lib.hid (show (smL (ltOf cf) f a i mid (smRot m i e d)).size = d.size from by rw [size_smL]; exact hz3.out)
                  go_wp2_with fail
                  go_end0
                  refine ⟨rfl, ?_⟩
                  rw [smL_neg c3]
                  exact S5.out
          · by_cases c2f : a < i
            · have c2x : (a : Int) < (i : Int) := by omega
              have c2y : ¬ (i : Int) < (mid : Int) := by omega
              by_cases c3 : mid < e ∧ e < b
              · have c3x : (mid : Int) < (e : Int) := by omega
                have c3y : (e : Int) < (b : Int) := by omega
                first | (exfalso; have := HEQ.out; omega) | skip
                all_goals
                  have S3 : Aside (SWK enc k w0 blk off (smRot m i e d) wr) := by unfold smRot; rw [if_neg c1]; exact S1
                  have hz3 := Lib.hid (show (smRot m i e d).size = d.size from size_smRot _ _ _ _)
                  have S5 : Aside (SWK enc k w0 blk off (smL (ltOf cf) f a i mid (smRot m i e d)) wr) := by rw [smL_neg c2]; exact S3
                  have hz5 := Lib.hid (show (smL (ltOf cf) f a i mid (smRot m i e d)).size = d.size from by rw [size_smL]; exact hz3.out)
                  have HC3 := Lib.hid (IH.out mid e b _ wr c3.1 c3.2 hb (by omega) hz5.out S5)
                  go_wp2_with fail
                  refine HC3.out.mono ?_
                  rintro e3 w3 ⟨rfl, S6⟩
                  have S7 : Aside (SWK enc k w0 blk off (symMerge (ltOf cf) f mid e b (smL (ltOf cf) f a i mid (smRot m i e d))) w3) := S6
                  clear S6 HC3
                  go_wp2_with fail
                  go_end0
                  refine ⟨rfl, ?_⟩
                  rw [smL_pos c3]
                  exact S7.out
              · by_cases c3f : mid < e
                · have c3x : (mid : Int) < (e : Int) := by omega
                  have c3y : ¬ (e : Int) < (b : Int) := by omega
                  first | (exfalso; have := HEQ.out; omega) | skip
                  all_goals
                    have S3 : Aside (SWK enc k w0 blk off (smRot m i e d) wr) := by unfold smRot; rw [if_neg c1]; exact S1
                    have hz3 := Lib.hid (show (smRot m i e d).size = d.size from size_smRot _ _ _ _)
                    have S5 : Aside (SWK enc k w0 blk off (smL (ltOf cf) f a i mid (smRot m i e d)) wr) := by rw [smL_neg c2]; exact S3
                    have hz5 := Lib.hid (show (smL (ltOf cf) f a i mid (smRot m i e d)).size = d.size from by rw [size_smL]; exact hz3.out)
                    go_wp2_with fail
                    go_end0
                    refine ⟨rfl, ?_⟩
                    rw [smL_neg c3]
                    exact S5.out
                · have c3x : ¬ (mid : Int) < (e : Int) := by omega
                  first | (exfalso; have := HEQ.out; omega) | skip
                  all_goals
                    have S3 : Aside (SWK enc k w0 blk off (smRot m i e d) wr) := by unfold smRot; rw [if_neg c1]; exact S1
                    have hz3 := Lib.hid (show (smRot m i e d).size = d.size from size_smRot _ _ _ _)
                    have S5 : Aside (SWK enc k w0 blk off (smL (ltOf cf) f a i mid (smRot m i e d)) wr) := by rw [smL_neg c2]; exact S3
                    have hz5 := Lib.hid (show (smL (ltOf cf) f a i mid (smRot m i e d)).size = d.size from by rw [size_smL]; exact hz3.out)
                    go_wp2_with fail
                    go_end0
                    refine ⟨rfl, ?_⟩
                    rw [smL_neg c3]
                    exact S5.out
            · have c2x : ¬ (a : Int) < (i : Int) := by omega
              by_cases c3 : mid < e ∧ e < b
              · have c3x : (mid : Int) < (e : Int) := by omega
                have c3y : (e : Int) < (b : Int) := by omega
                first | (exfalso; have := HEQ.out; omega) | skip
                all_goals
                  have S3 : Aside (SWK enc k w0 blk off (smRot m i e d) wr) := by unfold smRot; rw [if_neg c1]; exact S1
                  have hz3 := Lib.hid (show (smRot m i e d).size = d.size from size_smRot _ _ _ _)
                  have S5 : Aside (SWK enc k w0 blk off (smL (ltOf cf) f a i mid (smRot m i e d)) wr) := by rw [smL_neg c2]; exact S3
                  have hz5 := Lib.hid (show (smL (ltOf cf) f a i mid (smRot m i e d)).size = d.size from by rw [size_smL]; exact hz3.out)
                  have HC3 := Lib.hid (IH.out mid e b _ wr c3.1 c3.2 hb (by omega) hz5.out S5)
                  go_wp2_with fail
                  refine HC3.out.mono ?_
                  rintro e3 w3 ⟨rfl, S6⟩
                  have S7 : Aside (SWK enc k w0 blk off (symMerge (ltOf cf) f mid e b (smL (ltOf cf) f a i mid (smRot m i e d))) w3) := S6
                  clear S6 HC3
                  go_wp2_with fail
                  go_end0
                  refine ⟨rfl, ?_⟩
                  rw [smL_pos c3]
                  exact S7.out
              · by_cases c3f : mid < e
                · have c3x : (mid : Int) < (e : Int) := by omega
                  have c3y : ¬ (e : Int) < (b : Int) := by omega
                  first | (exfalso; have := HEQ.out; omega) | skip
                  all_goals
                    have S3 : Aside (SWK enc k w0 blk off (smRot m i e d) wr) := by unfold smRot; rw [if_neg c1]; exact S1
                    have hz3 := Lib.hid (show (smRot m i e d).size = d.size from size_smRot _ _ _ _)
                    have S5 : Aside (SWK enc k w0 blk off (smL (ltOf cf) f a i mid (smRot m i e d)) wr) := by rw [smL_neg c2]; exact S3
                    have hz5 := Lib.hid (show (smL (ltOf cf) f a i mid (smRot m i e d)).size = d.size from by rw [size_smL]; exact hz3.out)
                    go_wp2_with fail
                    go_end0
                    refine ⟨rfl, ?_⟩
                    rw [smL_neg c3]
                    exact S5.out
                · have c3x : ¬ (mid : Int) < (e : Int) := by omega
                  first | (exfalso; have := HEQ.out; omega) | skip
                  all_goals
                    have S3 : Aside (SWK enc k w0 blk off (smRot m i e d) wr) := by unfold smRot; rw [if_neg c1]; exact S1
                    have hz3 := Lib.hid (show (smRot m i e d).size = d.size from size_smRot _ _ _ _)
                    have S5 : Aside (SWK enc k w0 blk off (smL (ltOf cf) f a i mid (smRot m i e d)) wr) := by rw [smL_neg c2]; exact S3
                    have hz5 := Lib.hid (show (smL (ltOf cf) f a i mid (smRot m i e d)).size = d.size from by rw [size_smL]; exact hz3.out)
                    go_wp2_with fail
                    go_end0
                    refine ⟨rfl, ?_⟩
                    rw [smL_neg c3]
                    exact S5.out
        · have c1x : ¬ (i : Int) < (m : Int) := by omega
          by_cases c2 : a < i ∧ i < mid
          · have c2x : (a : Int) < (i : Int) := by omega
            have c2y : (i : Int) < (mid : Int) := by omega
            by_cases c3 : mid < e ∧ e < b
            · have c3x : (mid : Int) < (e : Int) := by omega
              have c3y : (e : Int) < (b : Int) := by omega
              first | (exfalso; have := HEQ.out; omega) | skip
              all_goals
                have S3 : Aside (SWK enc k w0 blk off (smRot m i e d) wr) := by unfold smRot; rw [if_neg c1]; exact S1
                have hz3 := Lib.hid (show (smRot m i e d).size = d.size from size_smRot _ _ _ _)
                have HC2 := Lib.hid (IH.out a i mid _ wr c2.1 c2.2 (by omega) (by omega) hz3.out S3)
                go_wp2_with fail
                refine HC2.out.mono ?_
                rintro e2 w2 ⟨rfl, S4⟩
                have S5 : Aside (SWK enc k w0 blk off (smL (ltOf cf) f a i mid (smRot m i e d)) w2) := by rw [smL_pos c2]; exact S4
                clear S4 HC2
                have hz5 := Lib.hid (show (smL (ltOf cf) f a i mid (smRot m i e d)).size = d.size from by rw [size_smL]; exact hz3.out)
                have HC3 := Lib.hid (IH.out mid e b _ w2 c3.1 c3.2 hb (by omega) hz5.out S5)
                go_wp2_with fail
                refine HC3.out.mono ?_
                rintro e3 w3 ⟨rfl, S6⟩
                have S7 : Aside (SWK enc k w0 blk off (symMerge (ltOf cf) f mid e b (smL (ltOf cf) f a i mid (smRot m i e d))) w3) := S6
                clear S6 HC3
                go_wp2_with fail
                go_end0
                refine ⟨rfl, ?_⟩
                rw [smL_pos c3]
                exact S7.out
            · by_cases c3f : mid < e
              · have c3x : (mid : Int) < (e : Int) := by omega
                have c3y : ¬ (e : Int) < (b : Int) := by omega
                first | (exfalso; have := HEQ.out; omega) | skip
                all_goals
                  have S3 : Aside (SWK enc k w0 blk off (smRot m i e d) wr) := by unfold smRot; rw [if_neg c1]; exact S1
                  have hz3 := Lib.hid (show (smRot m i e d).size = d.size from size_smRot _ _ _ _)
                  have HC2 := Lib.hid (IH.out a i mid _ wr c2.1 c2.2 (by omega) (by omega) hz3.out S3)
                  go_wp2_with fail
                  refine HC2.out.mono ?_
                  rintro e2 w2 ⟨rfl, S4⟩
                  have S5 : Aside (SWK enc k w0 blk off (smL (ltOf cf) f a i mid (smRot m i e d)) w2) := by rw [smL_pos c2]; exact S4
                  clear S4 HC2
                  have hz5 := Lib.hid (show (smL (ltOf cf) f a i mid (smRot m i e d)).size = d.size from by rw [size_smL]; exact hz3.out)
                  go_wp2_with fail
                  go_end0
                  refine ⟨rfl, ?_⟩
                  rw [smL_neg c3]
                  exact S5.out
              · have c3x : ¬ (mid : Int) < (e : Int) := by omega
                first | (exfalso; have := HEQ.out; omega) | skip
                all_goals
                  have S3 : Aside (SWK enc k w0 blk off (smRot m i e d) wr) := by unfold smRot; rw [if_neg c1]; exact S1
                  have hz3 := Lib.hid (show (smRot m i e d).size = d.size from size_smRot _ _ _ _)
                  have HC2 := Lib.hid (IH.out a i mid _ wr c2.1 c2.2 (by omega) (by omega) hz3.out S3)
                  go_wp2_with fail
                  refine HC2.out.mono ?_
                  rintro e2 w2 ⟨rfl, S4⟩
                  have S5 : Aside (SWK enc k w0 blk off (smL (ltOf cf) f a i mid (smRot m i e d)) w2) := by rw [smL_pos c2]; exact S4
                  clear S4 HC2
                  have hz5 := Lib.hid (show (smL (ltOf cf) f a i mid (smRot m i e d)).size = d.size from by rw [size_smL]; exact hz3.out)
                  go_wp2_with fail
                  go_end0
                  refine ⟨rfl, ?_⟩
                  rw [smL_neg c3]
                  exact S5.out
          · by_cases c2f : a < i
            · have c2x : (a : Int) < (i : Int) := by omega
              have c2y : ¬ (i : Int) < (mid : Int) := by omega
              by_cases c3 : mid < e ∧ e < b
              · have c3x : (mid : Int) < (e : Int) := by omega
                have c3y : (e : Int) < (b : Int) := by omega
                first | (exfalso; have := HEQ.out; omega) | skip
                all_goals
                  have S3 : Aside (SWK enc k w0 blk off (smRot m i e d) wr) := by unfold smRot; rw [if_neg c1]; exact S1
                  have hz3 := Lib.hid (show (smRot m i e d).size = d.size from size_smRot _ _ _ _)
                  have S5 : Aside (SWK enc k w0 blk off (smL (ltOf cf) f a i mid (smRot m i e d)) wr) := by rw [smL_neg c2]; exact S3
                  have hz5 := Lib.hid (show (smL (ltOf cf) f a i mid (smRot m i e d)).size = d.size from by rw [size_smL]; exact hz3.out)
                  have HC3 := Lib.hid (IH.out mid e b _ wr c3.1 c3.2 hb (by omega) hz5.out S5)
                  go_wp2_with fail
                  refine HC3.out.mono ?_
                  rintro e3 w3 ⟨rfl, S6⟩
                  have S7 : Aside (SWK enc k w0 blk off (symMerge (ltOf cf) f mid e b (smL (ltOf cf) f a i mid (smRot m i e d))) w3) := S6
                  clear S6 HC3
                  go_wp2_with fail
                  go_end0
                  refine ⟨rfl, ?_⟩
                  rw [smL_pos c3]
                  exact S7.out
              · by_cases c3f : mid < e
                · have c3x : (mid : Int) < (e : Int) := by omega
                  have c3y : ¬ (e : Int) < (b : Int) := by omega
                  first | (exfalso; have := HEQ.out; omega) | skip
                  all_goals
                    have S3 : Aside (SWK enc k w0 blk off (smRot m i e d) wr) := by unfold smRot; rw [if_neg c1]; exact S1
                    have hz3 := Lib.hid (show (smRot m i e d).size = d.size from size_smRot _ _ _ _)
                    have S5 : Aside (SWK enc k w0 blk off (smL (ltOf cf) f a i mid (smRot m i e d)) wr) := by rw [smL_neg c2]; exact S3
                    have hz5 := Lib.hid (show (smL (ltOf cf) f a i mid (smRot m i e d)).size = d.size from by rw [size_smL]; exact hz3.out)
                    go_wp2_with fail
                    go_end0
                    refine ⟨rfl, ?_⟩
                    rw [smL_neg c3]
                    exact S5.out
                · have c3x : ¬ (mid : Int) < (e : Int) := by omega
                  first | (exfalso; have := HEQ.out; omega) | skip
                  all_goals
                    have S3 : Aside (SWK enc k w0 blk off (smRot m i e d) wr) := by unfold smRot; rw [if_neg c1]; exact S1
                    have hz3 := Lib.hid (show (smRot m i e d).size = d.size from size_smRot _ _ _ _)
                    have S5 : Aside (SWK enc k w0 blk off (smL (ltOf cf) f a i mid (smRot m i e d)) wr) := by rw [smL_neg c2]; exact S3
                    have hz5 := Lib.hid (show (smL (ltOf cf) f a i mid (smRot m i e d)).size = d.size from by rw [size_smL]; exact hz3.out)
                    go_wp2_with fail
                    go_end0
                    refine ⟨rfl, ?_⟩
                    rw [smL_neg c3]
                    exact S5.out
            · have c2x : ¬ (a : Int) < (i : Int) := by omega
              by_cases c3 : mid < e ∧ e < b
              · have c3x : (mid : Int) < (e : Int) := by omega
                have c3y : (e : Int) < (b : Int) := by omega
                first | (exfalso; have := HEQ.out; omega) | skip
                all_goals
                  have S3 : Aside (SWK enc k w0 blk off (smRot m i e d) wr) := by unfold smRot; rw [if_neg c1]; exact S1
                  have hz3 := Lib.hid (show (smRot m i e d).size = d.size from size_smRot _ _ _ _)
                  have S5 : Aside (SWK enc k w0 blk off (smL (ltOf cf) f a i mid (smRot m i e d)) wr) := by rw [smL_neg c2]; exact S3
                  have hz5 := Lib.hid (show (smL (ltOf cf) f a i mid (smRot m i e d)).size = d.size from by rw [size_smL]; exact hz3.out)
                  have HC3 := Lib.hid (IH.out mid e b _ wr c3.1 c3.2 hb (by omega) hz5.out S5)
                  go_wp2_with fail
                  refine HC3.out.mono ?_
                  rintro e3 w3 ⟨rfl, S6⟩
                  have S7 : Aside (SWK enc k w0 blk off (symMerge (ltOf cf) f mid e b (smL (ltOf cf) f a i mid (smRot m i e d))) w3) := S6
                  clear S6 HC3
                  go_wp2_with fail
                  go_end0
                  refine ⟨rfl, ?_⟩
                  rw [smL_pos c3]
                  exact S7.out
              · by_cases c3f : mid < e
                · have c3x : (mid : Int) < (e : Int) := by omega
                  have c3y : ¬ (e : Int) < (b : Int) := by omega
                  first | (exfalso; have := HEQ.out; omega) | skip
                  all_goals
                    have S3 : Aside (SWK enc k w0 blk off (smRot m i e d) wr) := by unfold smRot; rw [if_neg c1]; exact S1
                    have hz3 := Lib.hid (show (smRot m i e d).size = d.size from size_smRot _ _ _ _)
                    have S5 : Aside (SWK enc k w0 blk off (smL (ltOf cf) f a i mid (smRot m i e d)) wr) := by rw [smL_neg c2]; exact S3
                    have hz5 := Lib.hid (show (smL (ltOf cf) f a i mid (smRot m i e d)).size = d.size from by rw [size_smL]; exact hz3.out)
                    go_wp2_with fail
                    go_end0
                    refine ⟨rfl, ?_⟩
                    rw [smL_neg c3]
                    exact S5.out
                · have c3x : ¬ (mid : Int) < (e : Int) := by omega
                  first | (exfalso; have := HEQ.out; omega) | skip
                  all_goals
                    have S3 : Aside (SWK enc k w0 blk off (smRot m i e d) wr) := by unfold smRot; rw [if_neg c1]; exact S1
                    have hz3 := Lib.hid (show (smRot m i e d).size = d.size from size_smRot _ _ _ _)
                    have S5 : Aside (SWK enc k w0 blk off (smL (ltOf cf) f a i mid (smRot m i e d)) wr) := by rw [smL_neg c2]; exact S3
                    have hz5 := Lib.hid (show (smL (ltOf cf) f a i mid (smRot m i e d)).size = d.size from by rw [size_smL]; exact hz3.out)
                    go_wp2_with fail
                    go_end0
                    refine ⟨rfl, ?_⟩
                    rw [smL_neg c3]
                    exact S5.out
end
end Go.Proofs.Ytokmkjgbhlcngaa.Q
namespace Go.Proofs.Ytokmkjgbhlcngaa.Q
open Go.Shelf Go.RowKit Go.Lib Go.Sort Go.Proofs Go.Proofs.Ytokmkjgbhlcngaa.G
set_option linter.all false

section
variable {α : Type} [Inhabited α]
set_option maxHeartbeats 8000000 in
set_option maxRecDepth 1000000 in
/-- slices.symMergeCmpFunc: more than one on either side. -/
theorem symMerge_goR {P : Program} (L : SLays P) (k : Nat) (aE : ∀ w, (isAgg 24).run P w = .ok true w) (zE : ∀ w, (Go.sizeOf 24).run P w = .ok k w) (enc : α → List Value) (cf : α → α → Int) (g : Nat) (cb : Array Value) (blk off cap : Nat) (d0 d : Array α) (w0 w : World)
    (eg : ∀ args w, (callFunc g args).run P w = .ok (.enter g args) w) (HC : Aside (CmpBelow P g cb enc k cf blk off d0.size w0)) (HZ : Hid (w0.drawn = 0)) (R : RowK enc k w0 blk off d0) (hs : d0.size = d.size) (S0 : Aside (SWK enc k w0 blk off d w)) (hsz : d.size < 1000000000000)
    (f a m b mid st e : Nat) (ham : a + 1 < m) (hmb : m + 1 < b) (hb : b ≤ d.size) (hf : b - a ≤ f + 1) (hmid : mid = (a + b) / 2) (hside : ¬ mid < m) (hst : smStart (ltOf cf) a m b d = st) (he : e = mid + m - st) (p1 : a ≤ st) (p2 : st ≤ m) (p3 : st ≤ mid) (p4 : e ≤ b)
    (IH : Hid (∀ (a m b : Nat) (dk : Array α) (wk : World), a < m → m < b → b ≤ d.size → b - a ≤ f → dk.size = d.size → Aside (SWK enc k w0 blk off dk wk) → Calls P 67 #[.slice (some ⟨blk, off, none⟩) d.size cap, .int .i64 a, .int .i64 m, .int .i64 b, .func (.func g) #[] cb] wk fun e w' => e = .returned (.tuple #[]) ∧ SWK enc k w0 blk off (symMerge (ltOf cf) f a m b dk) w')) :
    Calls P 67 #[.slice (some ⟨blk, off, none⟩) d.size cap, .int .i64 a, .int .i64 m, .int .i64 b, .func (.func g) #[] cb] w fun e' w' => e' = .returned (.tuple #[]) ∧ SWK enc k w0 blk off
      (smL (ltOf cf) f mid e b (smL (ltOf cf) f a st mid (smRot m st e d))) w' := by
  have mixed := L.mixed; have t3 := L.t3; have a3 := L.a3; have z3 := L.z3; have v3 := L.v3; have tu := L.tu; have t4 := L.t4; have a4 := L.a4; have z4 := L.z4; have v4 := L.v4; have t22 := L.t22; have a22 := L.a22; have z22 := L.z22; have a25 := L.a25; have z25 := L.z25; have u22 := run_underlying L.t22
  have FG := L.fSym
  have e67 : ∀ args w, (callFunc 67 args).run P w = .ok (.enter 67 args) w := enters_of L.fSym (by kernel_rfl) rfl
  have e96 : ∀ args w, (callFunc 96 args).run P w = .ok (.enter 96 args) w := enters_of L.fRot (by kernel_rfl) rfl
  have HS := Lib.hid hst
  have hmid2 : mid < b := by omega
  have hmid1 : a < mid := by omega
  have hmd := Lib.hid hmid
  have hmz : ((a : Int) + (b : Int)) / 2 = (mid : Int) := by omega
  have hq1 : ((m : Int) - (a : Int) == 1) = false := beq_eq_false_iff_ne.2 (by omega)
  have hq2 : ((b : Int) - (m : Int) == 1) = false := beq_eq_false_iff_ne.2 (by omega)
  have hmm : mid + m ≤ a + b ∨ mid < m := by omega
  have hsz1 : ¬ (mid : Int) < (m : Int) := by omega
  have HEQ := Lib.hid he
  clear hst hmid he
  go_enter FG, Try.ntmps67
  go_wp2
  go_loopg [20, 21] ((m) - (a)) (fun kx s20 s21 wr => ∃ (i j : Nat), s20 = .int .i64 i ∧ s21 = .int .i64 j ∧ a ≤ i ∧ i ≤ j ∧ j ≤ m ∧ j - i ≤ kx ∧ Aside (SWK enc k w0 blk off d wr) ∧ Hid (bsr (fun c => !ltOf cf d[mid + m - 1 - c]! d[c]!) i j = bsr (fun c => !ltOf cf d[mid + m - 1 - c]! d[c]!) (a) (m)))
  case atStart => exact ⟨a, m, by first | rfl | (congr 1; omega), rfl, Nat.le_refl _, by omega, Nat.le_refl _, Nat.le_refl _, S0, rfl⟩
  case round =>
    clear S0 hmz hq1 hq2
    obtain ⟨i, j, rfl, rfl, hai, hij, hjb, hkx, S1, HE⟩ := hrel
    by_cases hlt : i < j
    · have hltz : (i : Int) < (j : Int) := by omega
      obtain ⟨c, hh⟩ : ∃ c : Nat, c = (i + j) / 2 := ⟨_, rfl⟩
      have h1 : i ≤ c := by omega
      have h2 : c < j := by omega
      have hz : ((i : Int) + (j : Int)) / 2 = (c : Int) := by omega
      have HH := Lib.hid hh
      clear hh
      obtain ⟨u, hu⟩ : ∃ u : Nat, u = mid + m - 1 - c := ⟨_, rfl⟩
      have huz : (mid : Int) + (m : Int) - 1 - (c : Int) = (u : Int) := by omega
      have hub : u < d.size := by omega
      clear hmm
      have HU := Lib.hid hu
      clear hu
      cases hL : ltOf cf d[u]! d[c]! with
      | true =>
        have ea10 : ((u : Int)).toNat = u := by omega
        have pa10 : (0 : Int) ≤ (u : Int) := by omega
        have ba10 : (u : Int) < (d.size : Int) := by omega
        have ra10 : IntKind.i64.wrap ((u : Int)) = (u : Int) := by rw [IntKind.wrap_i64]; omega
        have ec10 : ((c : Int)).toNat = c := by omega
        have pc10 : (0 : Int) ≤ (c : Int) := by omega
        have bc10 : (c : Int) < (d.size : Int) := by omega
        have rc10 : IntKind.i64.wrap ((c : Int)) = (c : Int) := by rw [IntKind.wrap_i64]; omega
        obtain ⟨x10, hx10⟩ : ∃ x, x = d[u]! := ⟨_, rfl⟩
        obtain ⟨y10, hy10⟩ : ∃ x, x = d[c]! := ⟨_, rfl⟩
        have l10a := S1.out.ldz HZ R (by omega) P (u) (by omega)
        have l10b := S1.out.ldz HZ R (by omega) P (c) (by omega)
        rw [← hx10] at l10a
        rw [← hy10] at l10b
        have hc10 := S1.out.cmpz HZ HC.out (by omega) x10 y10
        have hv10 : cf x10 y10 < 0 := by rw [hx10, hy10]; exact of_decide_eq_true hL
        have hd10 : decide (cf x10 y10 < 0) = true := decide_eq_true hv10
        clear hx10 hy10
        go_wp2_with fail
        refine wp_region_quiet_below (by assumption) (by kernel_rfl) ?_
        repeat (quiet_step (first | (go_at_fn g; exact hc10 _ _)))
        refine wpQuiet_nil ?_
        intro _ hw'
        obtain ⟨⟨nq, osq⟩, hw''⟩ := hw'
        subst hw''
        have S2 : Aside (SWK enc k w0 blk off d (grow (redrawn wr nq) osq)) := S1.out.regrownZ HZ nq osq
        clear l10a l10b hc10 S1
        generalize grow (redrawn wr nq) osq = w2 at S2 ⊢
        clear nq osq
        go_wp2
        go_roundg (c - i)
        case measure => omega
        case rel =>
          refine ⟨i, c, rfl, rfl, hai, h1, by omega, Nat.le_refl _, S2, (show Hid _ from ?_)⟩
          show _ = _
          rw [← HE.out, bsr_false (fun c => !ltOf cf d[mid + m - 1 - c]! d[c]!) hlt HH.out (by simp only [← HU.out, hL, Bool.not_true])]
      | false =>
        have ea11 : ((u : Int)).toNat = u := by omega
        have pa11 : (0 : Int) ≤ (u : Int) := by omega
        have ba11 : (u : Int) < (d.size : Int) := by omega
        have ra11 : IntKind.i64.wrap ((u : Int)) = (u : Int) := by rw [IntKind.wrap_i64]; omega
        have ec11 : ((c : Int)).toNat = c := by omega
        have pc11 : (0 : Int) ≤ (c : Int) := by omega
        have bc11 : (c : Int) < (d.size : Int) := by omega
        have rc11 : IntKind.i64.wrap ((c : Int)) = (c : Int) := by rw [IntKind.wrap_i64]; omega
        obtain ⟨x11, hx11⟩ : ∃ x, x = d[u]! := ⟨_, rfl⟩
        obtain ⟨y11, hy11⟩ : ∃ x, x = d[c]! := ⟨_, rfl⟩
        have l11a := S1.out.ldz HZ R (by omega) P (u) (by omega)
        have l11b := S1.out.ldz HZ R (by omega) P (c) (by omega)
        rw [← hx11] at l11a
        rw [← hy11] at l11b
        have hc11 := S1.out.cmpz HZ HC.out (by omega) x11 y11
        have hv11 : ¬ cf x11 y11 < 0 := by rw [hx11, hy11]; exact of_decide_eq_false hL
        have hd11 : decide (cf x11 y11 < 0) = false := decide_eq_false hv11
        clear hx11 hy11
        go_wp2_with fail
        refine wp_region_quiet_below (by assumption) (by kernel_rfl) ?_
        repeat (quiet_step (first | (go_at_fn g; exact hc11 _ _)))
        refine wpQuiet_nil ?_
        intro _ hw'
        obtain ⟨⟨nq, osq⟩, hw''⟩ := hw'
        subst hw''
        have S2 : Aside (SWK enc k w0 blk off d (grow (redrawn wr nq) osq)) := S1.out.regrownZ HZ nq osq
        clear l11a l11b hc11 S1
        generalize grow (redrawn wr nq) osq = w2 at S2 ⊢
        clear nq osq
        go_wp2
        go_roundg (j - (c + 1))
        case measure => omega
        case rel =>
          refine ⟨c + 1, j, by first | rfl | go_num, rfl, by omega, by omega, hjb, Nat.le_refl _, S2, (show Hid _ from ?_)⟩
          show _ = _
          rw [← HE.out, bsr_true (fun c => !ltOf cf d[mid + m - 1 - c]! d[c]!) hlt HH.out (by simp only [← HU.out, hL, Bool.not_false])]
    · obtain rfl : i = j := by omega
      have hltz : ¬ (i : Int) < (i : Int) := by omega
      obtain rfl : i = st := by
        have h1 := HS.out
        have h2 := HE.out
        rw [bsr_stop] at h2
        unfold smStart at h1
        rw [← hmd.out] at h1
        rw [if_neg hside, if_neg hside] at h1
        exact h2.trans h1
      clear HE HS hkx hjb hai hij
      have hez : (mid : Int) + (m : Int) - (i : Int) = (e : Int) := by have := HEQ.out; omega
      have hme : m ≤ e := by have := HEQ.out; omega
      have hme2 : mid ≤ e := by have := HEQ.out; omega
      by_cases c1 : i < m ∧ m < e
      · have c1x : (i : Int) < (m : Int) := by omega
        have c1y : (m : Int) < (e : Int) := by omega
        by_cases c2 : a < i ∧ i < mid
        · have c2x : (a : Int) < (i : Int) := by omega
          have c2y : (i : Int) < (mid : Int) := by omega
          by_cases c3 : mid < e ∧ e < b
          · have c3x : (mid : Int) < (e : Int) := by omega
            have c3y : (e : Int) < (b : Int) := by omega
            first | (exfalso; have := HEQ.out; omega) | skip
            all_goals
              have HC1 := Lib.hid (rotate_any L k aE zE enc cf g cb blk off cap d0 d w0 wr R hs S1 hsz i m e c1.1 c1.2 (by omega))
              go_wp2_with fail
              refine HC1.out.mono ?_
              rintro e1 w1 ⟨rfl, S2⟩
              have S3 : Aside (SWK enc k w0 blk off (smRot m i e d) w1) := by unfold smRot; rw [if_pos c1]; exact S2
              clear S2 HC1
              have hz3 := Lib.hid (show (smRot m i e d).size = d.size from size_smRot _ _ _ _)
              have HC2 := Lib.hid (IH.out a i mid _ w1 c2.1 c2.2 (by omega) (by omega) hz3.out S3)
              go_wp2_with fail
              refine HC2.out.mono ?_
              rintro e2 w2 ⟨rfl, S4⟩
              have S5 : Aside (SWK enc k w0 blk off (smL (ltOf cf) f a i mid (smRot m i e d)) w2) := by rw [smL_pos c2]; exact S4
              clear S4 HC2
              have hz5 := Lib.hid (show (smL (ltOf cf) f a i mid (smRot m i e d)).size = d.size from by rw [size_smL]; exact hz3.out)
              have HC3 := Lib.hid (IH.out mid e b _ w2 c3.1 c3.2 hb (by omega) hz5.out S5)
              go_wp2_with fail
              refine HC3.out.mono ?_
              rintro e3 w3 ⟨rfl, S6⟩
              have S7 : Aside (SWK enc k w0 blk off (symMerge (ltOf cf) f mid e b (smL (ltOf cf) f a i mid (smRot m i e d))) w3) := S6
              clear S6 HC3
              go_wp2_with fail
              go_end0
              refine ⟨rfl, ?_⟩
              rw [smL_pos c3]
              exact S7.out
          · by_cases c3f : mid < e
            · have c3x : (mid : Int) < (e : Int) := by omega
              have c3y : ¬ (e : Int) < (b : Int) := by omega
              first | (exfalso; have := HEQ.out; omega) | skip
              all_goals
                have HC1 := Lib.hid (rotate_any L k aE zE enc cf g cb blk off cap d0 d w0 wr R hs S1 hsz i m e c1.1 c1.2 (by omega))
                go_wp2_with fail
                refine HC1.out.mono ?_
                rintro e1 w1 ⟨rfl, S2⟩
                have S3 : Aside (SWK enc k w0 blk off (smRot m i e d) w1) := by unfold smRot; rw [if_pos c1]; exact S2
                clear S2 HC1
                have hz3 := Lib.hid (show (smRot m i e d).size = d.size from size_smRot _ _ _ _)
                have HC2 := Lib.hid (IH.out a i mid _ w1 c2.1 c2.2 (by omega) (by omega) hz3.out S3)
                go_wp2_with fail
                refine HC2.out.mono ?_
                rintro e2 w2 ⟨rfl, S4⟩
                have S5 : Aside (SWK enc k w0 blk off (smL (ltOf cf) f a i mid (smRot m i e d)) w2) := by rw [smL_pos c2]; exact S4
                clear S4 HC2
                have hz5 := Lib.hid (show (smL (ltOf cf) f a i mid (smRot m i e d)).size = d.size from by rw [size_smL]; exact hz3.out)
                go_wp2_with fail
                go_end0
                refine ⟨rfl, ?_⟩
                rw [smL_neg c3]
                exact S5.out
            · have c3x : ¬ (mid : Int) < (e : Int) := by omega
              first | (exfalso; have := HEQ.out; omega) | skip
              all_goals
                have HC1 := Lib.hid (rotate_any L k aE zE enc cf g cb blk off cap d0 d w0 wr R hs S1 hsz i m e c1.1 c1.2 (by omega))
                go_wp2_with fail
                refine HC1.out.mono ?_
                rintro e1 w1 ⟨rfl, S2⟩
                have S3 : Aside (SWK enc k w0 blk off (smRot m i e d) w1) := by unfold smRot; rw [if_pos c1]; exact S2
                clear S2 HC1
                have hz3 := Lib.hid (show (smRot m i e d).size = d.size from size_smRot _ _ _ _)
                have HC2 := Lib.hid (IH.out a i mid _ w1 c2.1 c2.2 (by omega) (by omega) hz3.out S3)
                go_wp2_with fail
                refine HC2.out.mono ?_
                rintro e2 w2 ⟨rfl, S4⟩
                have S5 : Aside (SWK enc k w0 blk off (smL (ltOf cf) f a i mid (smRot m i e d)) w2) := by rw [smL_pos c2]; exact S4
                clear S4 HC2
                have hz5 := Lib.hid (show (smL (ltOf cf) f a i mid (smRot m i e d)).size = d.size from by rw [size_smL]; exact hz3.out)
                go_wp2_with fail
                go_end0
                refine ⟨rfl, ?_⟩
                rw [smL_neg c3]
                exact S5.out
        · by_cases c2f : a < i
          · have c2x : (a : Int) < (i : Int) := by omega
            have c2y : ¬ (i : Int) < (mid : Int) := by omega
            by_cases c3 : mid < e ∧ e < b
            · have c3x : (mid : Int) < (e : Int) := by omega
              have c3y : (e : Int) < (b : Int) := by omega
              first | (exfalso; have := HEQ.out; omega) | skip
              all_goals
                have HC1 := Lib.hid (rotate_any L k aE zE enc cf g cb blk off cap d0 d w0 wr R hs S1 hsz i m e c1.1 c1.2 (by omega))
                go_wp2_with fail
                refine HC1.out.mono ?_
                rintro e1 w1 ⟨rfl, S2⟩
                have S3 : Aside (SWK enc k w0 blk off (smRot m i e d) w1) := by unfold smRot; rw [if_pos c1]; exact S2
                clear S2 HC1
                have hz3 := Lib.hid (show (smRot m i e d).size = d.size from size_smRot _ _ _ _)
                have S5 : Aside (SWK enc k w0 blk off (smL (ltOf cf) f a i mid (smRot m i e d)) w1) := by rw [smL_neg c2]; exact S3
                have hz5 := Lib.hid (show (smL (ltOf cf) f a i mid (smRot m i e d)).size = d.size from by rw [size_smL]; exact hz3.out)
                have HC3 := Lib.hid (IH.out mid e b _ w1 c3.1 c3.2 hb (by omega) hz5.out S5)
                go_wp2_with fail
                refine HC3.out.mono ?_
                rintro e3 w3 ⟨rfl, S6⟩
                have S7 : Aside (SWK enc k w0 blk off (symMerge (ltOf cf) f mid e b (smL (ltOf cf) f a i mid (smRot m i e d))) w3) := S6
                clear S6 HC3
                go_wp2_with fail
                go_end0
                refine ⟨rfl, ?_⟩
                rw [smL_pos c3]
                exact S7.out
            · by_cases c3f : mid < e
              · have c3x : (mid : Int) < (e : Int) := by omega
                have c3y : ¬ (e : Int) < (b : Int) := by omega
                first | (exfalso; have := HEQ.out; omega) | skip
                all_goals
                  have HC1 := Lib.hid (rotate_any L k aE zE enc cf g cb blk off cap d0 d w0 wr R hs S1 hsz i m e c1.1 c1.2 (by omega))
                  go_wp2_with fail
                  refine HC1.out.mono ?_
                  rintro e1 w1 ⟨rfl, S2⟩
                  have S3 : Aside (SWK enc k w0 blk off (smRot m i e d) w1) := by unfold smRot; rw [if_pos c1]; exact S2
                  clear S2 HC1
                  have hz3 := Lib.hid (show (smRot m i e d).size = d.size from size_smRot _ _ _ _)
                  have S5 : Aside (SWK enc k w0 blk off (smL (ltOf cf) f a i mid (smRot m i e d)) w1) := by rw [smL_neg c2]; exact S3
                  have hz5 := Lib.hid (show (smL (ltOf cf) f a i mid (smRot m i e d)).size = d.size from by rw [size_smL]; exact hz3.out)
                  go_wp2_with fail
                  go_end0
                  refine ⟨rfl, ?_⟩
                  rw [smL_neg c3]
                  exact S5.out
              · have c3x : ¬ (mid : Int) < (e : Int) := by omega
                first | (exfalso; have := HEQ.out; omega) | skip
                all_goals
                  have HC1 := Lib.hid (rotate_any L k aE zE enc cf g cb blk off cap d0 d w0 wr R hs S1 hsz i m e c1.1 c1.2 (by omega))
                  go_wp2_with fail
                  refine HC1.out.mono ?_
                  rintro e1 w1 ⟨rfl, S2⟩
                  have S3 : Aside (SWK enc k w0 blk off (smRot m i e d) w1) := by unfold smRot; rw [if_pos c1]; exact S2
                  clear S2 HC1
                  have hz3 := Lib.hid (show (smRot m i e d).size = d.size from size_smRot _ _ _ _)
                  have S5 : Aside (SWK enc k w0 blk off (smL (ltOf cf) f a i mid (smRot m i e d)) w1) := by rw [smL_neg c2]; exact S3
                  have hz5 := Lib.hid (show (smL (ltOf cf) f a i mid (smRot m i e d)).size = d.size from by rw [size_smL]; exact hz3.out)
                  go_wp2_with fail
                  go_end0
                  refine ⟨rfl, ?_⟩
                  rw [smL_neg c3]
                  exact S5.out
          · have c2x : ¬ (a : Int) < (i : Int) := by omega
            by_cases c3 : mid < e ∧ e < b
            · have c3x : (mid : Int) < (e : Int) := by omega
              have c3y : (e : Int) < (b : Int) := by omega
              first | (exfalso; have := HEQ.out; omega) | skip
              all_goals
                have HC1 := Lib.hid (rotate_any L k aE zE enc cf g cb blk off cap d0 d w0 wr R hs S1 hsz i m e c1.1 c1.2 (by omega))
                go_wp2_with fail
                refine HC1.out.mono ?_
                rintro e1 w1 ⟨rfl, S2⟩
                have S3 : Aside (SWK enc k w0 blk off (smRot m i e d) w1) := by unfold smRot; rw [if_pos c1]; exact S2
                clear S2 HC1
                have hz3 := Lib.hid (show (smRot m i e d).size = d.size from size_smRot _ _ _ _)
                have S5 : Aside (SWK enc k w0 blk off (smL (ltOf cf) f a i mid (smRot m i e d)) w1) := by rw [smL_neg c2]; exact S3
                have hz5 := Lib.hid (show (smL (ltOf cf) f a i mid (smRot m i e d)).size = d.size from by rw [size_smL]; exact hz3.out)
                have HC3 := Lib.hid (IH.out mid e b _ w1 c3.1 c3.2 hb (by omega) hz5.out S5)
                go_wp2_with fail
                refine HC3.out.mono ?_
                rintro e3 w3 ⟨rfl, S6⟩
                have S7 : Aside (SWK enc k w0 blk off (symMerge (ltOf cf) f mid e b (smL (ltOf cf) f a i mid (smRot m i e d))) w3) := S6
                clear S6 HC3
                go_wp2_with fail
                go_end0
                refine ⟨rfl, ?_⟩
                rw [smL_pos c3]
                exact S7.out
            · by_cases c3f : mid < e
              · have c3x : (mid : Int) < (e : Int) := by omega
                have c3y : ¬ (e : Int) < (b : Int) := by omega
                first | (exfalso; have := HEQ.out; omega) | skip
                all_goals
                  have HC1 := Lib.hid (rotate_any L k aE zE enc cf g cb blk off cap d0 d w0 wr R hs S1 hsz i m e c1.1 c1.2 (by omega))
                  go_wp2_with fail
                  refine HC1.out.mono ?_
                  rintro e1 w1 ⟨rfl, S2⟩
                  have S3 : Aside (SWK enc k w0 blk off (smRot m i e d) w1) := by unfold smRot; rw [if_pos c1]; exact S2
                  clear S2 HC1
                  have hz3 := Lib.hid (show (smRot m i e d).size = d.size from size_smRot _ _ _ _)
                  have S5 : Aside (SWK enc k w0 blk off (smL (ltOf cf) f a i mid (smRot m i e d)) w1) := by rw [smL_neg c2]; exact S3
                  have hz5 := Lib.hid (show (smL (ltOf cf) f a i mid (smRot m i e d)).size = d.size from by rw [size_smL]; exact hz3.out)
                  go_wp2_with fail
                  go_end0
                  refine ⟨rfl, ?_⟩
                  rw [smL_neg c3]
                  exact S5.out
              · have c3x : ¬ (mid : Int) < (e : Int) := by omega
                first | (exfalso; have := HEQ.out; omega) | skip
                all_goals
                  have HC1 := Lib.hid (rotate_any L k aE zE enc cf g cb blk off cap d0 d w0 wr R hs S1 hsz i m e c1.1 c1.2 (by omega))
                  go_wp2_with fail
                  refine HC1.out.mono ?_
                  rintro e1 w1 ⟨rfl, S2⟩
                  have S3 : Aside (SWK enc k w0 blk off (smRot m i e d) w1) := by unfold smRot; rw [if_pos c1]; exact S2
                  clear S2 HC1
                  have hz3 := Lib.hid (show (smRot m i e d).size = d.size from size_smRot _ _ _ _)
                  have S5 : Aside (SWK enc k w0 blk off (smL (ltOf cf) f a i mid (smRot m i e d)) w1) := by rw [smL_neg c2]; exact S3
                  have hz5 := Lib.hid (show (smL (ltOf cf) f a i mid (smRot m i e d)).size = d.size from by rw [size_smL]; exact hz3.out)
                  go_wp2_with fail
                  go_end0
                  refine ⟨rfl, ?_⟩
                  rw [smL_neg c3]
                  exact S5.out
      · by_cases c1f : i < m
        · have c1x : (i : Int) < (m : Int) := by omega
          have c1y : ¬ (m : Int) < (e : Int) := by omega
          by_cases c2 : a < i ∧ i < mid
          · have c2x : (a : Int) < (i : Int) := by omega
            have c2y : (i : Int) < (mid : Int) := by omega
            by_cases c3 : mid < e ∧ e < b
            · have c3x : (mid : Int) < (e : Int) := by omega
              have c3y : (e : Int) < (b : Int) := by omega
              first | (exfalso; have := HEQ.out; omega) | skip
              all_goals
                have S3 : Aside (SWK enc k w0 blk off (smRot m i e d) wr) := by unfold smRot; rw [if_neg c1]; exact S1
                have hz3 := Lib.hid (show (smRot m i e d).size = d.size from size_smRot _ _ _ _)
                have HC2 := Lib.hid (IH.out a i mid _ wr c2.1 c2.2 (by omega) (by omega) hz3.out S3)
                go_wp2_with fail
                refine HC2.out.mono ?_
                rintro e2 w2 ⟨rfl, S4⟩
                have S5 : Aside (SWK enc k w0 blk off (smL (ltOf cf) f a i mid (smRot m i e d)) w2) := by rw [smL_pos c2]; exact S4
                clear S4 HC2
                have hz5 := Lib.hid (show (smL (ltOf cf) f a i mid (smRot m i e d)).size = d.size from by rw [size_smL]; exact hz3.out)
                have HC3 := Lib.hid (IH.out mid e b _ w2 c3.1 c3.2 hb (by omega) hz5.out S5)
                go_wp2_with fail
                refine HC3.out.mono ?_
                rintro e3 w3 ⟨rfl, S6⟩
                have S7 : Aside (SWK enc k w0 blk off (symMerge (ltOf cf) f mid e b (smL (ltOf cf) f a i mid (smRot m i e d))) w3) := S6
                clear S6 HC3
                go_wp2_with fail
                go_end0
                refine ⟨rfl, ?_⟩
                rw [smL_pos c3]
                exact S7.out
            · by_cases c3f : mid < e
              · have c3x : (mid : Int) < (e : Int) := by omega
                have c3y : ¬ (e : Int) < (b : Int) := by omega
                first | (exfalso; have := HEQ.out; omega) | skip
                all_goals
                  have S3 : Aside (SWK enc k w0 blk off (smRot m i e d) wr) := by unfold smRot; rw [if_neg c1]; exact S1
                  have hz3 := Lib.hid (show (smRot m i e d).size = d.size from size_smRot _ _ _ _)
                  have HC2 := Lib.hid (IH.out a i mid _ wr c2.1 c2.2 (by omega) (by omega) hz3.out S3)
                  go_wp2_with fail
                  refine HC2.out.mono ?_
                  rintro e2 w2 ⟨rfl, S4⟩
                  have S5 : Aside (SWK enc k w0 blk off (smL (ltOf cf) f a i mid (smRot m i e d)) w2) := by rw [smL_pos c2]; exact S4
                  clear S4 HC2
                  have hz5 := Lib.hid (show (smL (ltOf cf) f a i mid (smRot m i e d)).size = d.size from by rw [size_smL]; exact hz3.out)
                  go_wp2_with fail
                  go_end0
                  refine ⟨rfl, ?_⟩
                  rw [smL_neg c3]
                  exact S5.out
              · have c3x : ¬ (mid : Int) < (e : Int) := by omega
                first | (exfalso; have := HEQ.out; omega) | skip
                all_goals
                  have S3 : Aside (SWK enc k w0 blk off (smRot m i e d) wr) := by unfold smRot; rw [if_neg c1]; exact S1
                  have hz3 := Lib.hid (show (smRot m i e d).size = d.size from size_smRot _ _ _ _)
                  have HC2 := Lib.hid (IH.out a i mid _ wr c2.1 c2.2 (by omega) (by omega) hz3.out S3)
                  go_wp2_with fail
                  refine HC2.out.mono ?_
                  rintro e2 w2 ⟨rfl, S4⟩
                  have S5 : Aside (SWK enc k w0 blk off (smL (ltOf cf) f a i mid (smRot m i e d)) w2) := by rw [smL_pos c2]; exact S4
                  clear S4 HC2
                  have hz5 := Lib.hid (show (smL (ltOf cf) f a i mid (smRot m i e d)).size = d.size from by rw [size_smL]; exact hz3.out)
                  go_wp2_with fail
                  go_end0
                  refine ⟨rfl, ?_⟩
                  rw [smL_neg c3]
                  exact S5.out
          · by_cases c2f : a < i
            · have c2x : (a : Int) < (i : Int) := by omega
              have c2y : ¬ (i : Int) < (mid : Int) := by omega
              by_cases c3 : mid < e ∧ e < b
              · have c3x : (mid : Int) < (e : Int) := by omega
                have c3y : (e : Int) < (b : Int) := by omega
                first | (exfalso; have := HEQ.out; omega) | skip
                all_goals
                  have S3 : Aside (SWK enc k w0 blk off (smRot m i e d) wr) := by unfold smRot; rw [if_neg c1]; exact S1
                  have hz3 := Lib.hid (show (smRot m i e d).size = d.size from size_smRot _ _ _ _)
                  have S5 : Aside (SWK enc k w0 blk off (smL (ltOf cf) f a i mid (smRot m i e d)) wr) := by rw [smL_neg c2]; exact S3
                  have hz5 := Lib.hid (show (smL (ltOf cf) f a i mid (smRot m i e d)).size = d.size from by rw [size_smL]; exact hz3.out)
                  have HC3 := Lib.hid (IH.out mid e b _ wr c3.1 c3.2 hb (by omega) hz5.out S5)
                  go_wp2_with fail
                  refine HC3.out.mono ?_
                  rintro e3 w3 ⟨rfl, S6⟩
                  have S7 : Aside (SWK enc k w0 blk off (symMerge (ltOf cf) f mid e b (smL (ltOf cf) f a i mid (smRot m i e d))) w3) := S6
                  clear S6 HC3
                  go_wp2_with fail
                  go_end0
                  refine ⟨rfl, ?_⟩
                  rw [smL_pos c3]
                  exact S7.out
              · by_cases c3f : mid < e
                · have c3x : (mid : Int) < (e : Int) := by omega
                  have c3y : ¬ (e : Int) < (b : Int) := by omega
                  first | (exfalso; have := HEQ.out; omega) | skip
                  all_goals
                    have S3 : Aside (SWK enc k w0 blk off (smRot m i e d) wr) := by unfold smRot; rw [if_neg c1]; exact S1
                    have hz3 := Lib.hid (show (smRot m i e d).size = d.size from size_smRot _ _ _ _)
                    have S5 : Aside (SWK enc k w0 blk off (smL (ltOf cf) f a i mid (smRot m i e d)) wr) := by rw [smL_neg c2]; exact S3
                    have hz5 := Lib.hid (show (smL (ltOf cf) f a i mid (smRot m i e d)).size = d.size from by rw [size_smL]; exact hz3.out)
                    go_wp2_with fail
                    go_end0
                    refine ⟨rfl, ?_⟩
                    rw [smL_neg c3]
                    exact S5.out
                · have c3x : ¬ (mid : Int) < (e : Int) := by omega
                  first | (exfalso; have := HEQ.out; omega) | skip
                  all_goals
                    have S3 : Aside (SWK enc k w0 blk off (smRot m i e d) wr) := by unfold smRot; rw [if_neg c1]; exact S1
                    have hz3 := Lib.hid (show (smRot m i e d).size = d.size from size_smRot _ _ _ _)
                    have S5 : Aside (SWK enc k w0 blk off (smL (ltOf cf) f a i mid (smRot m i e d)) wr) := by rw [smL_neg c2]; exact S3
                    have hz5 := Lib.hid (show (smL (ltOf cf) f a i mid (smRot m i e d)).size = d.size from by rw [size_smL]; exact hz3.out)
                    go_wp2_with fail
                    go_end0
                    refine ⟨rfl, ?_⟩
                    rw [smL_neg c3]
                    exact S5.out
            · have c2x : ¬ (a : Int) < (i : Int) := by omega
              by_cases c3 : mid < e ∧ e < b
              · have c3x : (mid : Int) < (e : Int) := by omega
                have c3y : (e : Int) < (b : Int) := by omega
                first | (exfalso; have := HEQ.out; omega) | skip
                all_goals
                  have S3 : Aside (SWK enc k w0 blk off (smRot m i e d) wr) := by unfold smRot; rw [if_neg c1]; exact S1
                  have hz3 := Lib.hid (show (smRot m i e d).size = d.size from size_smRot _ _ _ _)
                  have S5 : Aside (SWK enc k w0 blk off (smL (ltOf cf) f a i mid (smRot m i e d)) wr) := by rw [smL_neg c2]; exact S3
                  have hz5 := Lib.hid (show (smL (ltOf cf) f a i mid (smRot m i e d)).size = d.size from by rw [size_smL]; exact hz3.out)
                  have HC3 := Lib.hid (IH.out mid e b _ wr c3.1 c3.2 hb (by omega) hz5.out S5)
                  go_wp2_with fail
                  refine HC3.out.mono ?_
                  rintro e3 w3 ⟨rfl, S6⟩
                  have S7 : Aside (SWK enc k w0 blk off (symMerge (ltOf cf) f mid e b (smL (ltOf cf) f a i mid (smRot m i e d))) w3) := S6
                  clear S6 HC3
                  go_wp2_with fail
                  go_end0
                  refine ⟨rfl, ?_⟩
                  rw [smL_pos c3]
                  exact S7.out
              · by_cases c3f : mid < e
                · have c3x : (mid : Int) < (e : Int) := by omega
                  have c3y : ¬ (e : Int) < (b : Int) := by omega
                  first | (exfalso; have := HEQ.out; omega) | skip
                  all_goals
                    have S3 : Aside (SWK enc k w0 blk off (smRot m i e d) wr) := by unfold smRot; rw [if_neg c1]; exact S1
                    have hz3 := Lib.hid (show (smRot m i e d).size = d.size from size_smRot _ _ _ _)
                    have S5 : Aside (SWK enc k w0 blk off (smL (ltOf cf) f a i mid (smRot m i e d)) wr) := by rw [smL_neg c2]; exact S3
                    have hz5 := Lib.hid (show (smL (ltOf cf) f a i mid (smRot m i e d)).size = d.size from by rw [size_smL]; exact hz3.out)
                    go_wp2_with fail
                    go_end0
                    refine ⟨rfl, ?_⟩
                    rw [smL_neg c3]
                    exact S5.out
                · have c3x : ¬ (mid : Int) < (e : Int) := by omega
                  first | (exfalso; have := HEQ.out; omega) | skip
                  all_goals
                    have S3 : Aside (SWK enc k w0 blk off (smRot m i e d) wr) := by unfold smRot; rw [if_neg c1]; exact S1
                    have hz3 := Lib.hid (show (smRot m i e d).size = d.size from size_smRot _ _ _ _)
                    have S5 : Aside (SWK enc k w0 blk off (smL (ltOf cf) f a i mid (smRot m i e d)) wr) := by rw [smL_neg c2]; exact S3
                    have hz5 := Lib.hid (show (smL (ltOf cf) f a i mid (smRot m i e d)).size = d.size from by rw [size_smL]; exact hz3.out)
                    go_wp2_with fail
                    go_end0
                    refine ⟨rfl, ?_⟩
                    rw [smL_neg c3]
                    exact S5.out
        · have c1x : ¬ (i : Int) < (m : Int) := by omega
          by_cases c2 : a < i ∧ i < mid
          · have c2x : (a : Int) < (i : Int) := by omega
            have c2y : (i : Int) < (mid : Int) := by omega
            by_cases c3 : mid < e ∧ e < b
            · have c3x : (mid : Int) < (e : Int) := by omega
              have c3y : (e : Int) < (b : Int) := by omega
              first | (exfalso; have := HEQ.out; omega) | skip
              all_goals
                have S3 : Aside (SWK enc k w0 blk off (smRot m i e d) wr) := by unfold smRot; rw [if_neg c1]; exact S1
                have hz3 := Lib.hid (show (smRot m i e d).size = d.size from size_smRot _ _ _ _)
                have HC2 := Lib.hid (IH.out a i mid _ wr c2.1 c2.2 (by omega) (by omega) hz3.out S3)
                go_wp2_with fail
                refine HC2.out.mono ?_
                rintro e2 w2 ⟨rfl, S4⟩
                have S5 : Aside (SWK enc k w0 blk off (smL (ltOf cf) f a i mid (smRot m i e d)) w2) := by rw [smL_pos c2]; exact S4
                clear S4 HC2
                have hz5 := Lib.hid (show (smL (ltOf cf) f a i mid (smRot m i e d)).size = d.size from by rw [size_smL]; exact hz3.out)
                have HC3 := Lib.hid (IH.out mid e b _ w2 c3.1 c3.2 hb (by omega) hz5.out S5)
                go_wp2_with fail
                refine HC3.out.mono ?_
                rintro e3 w3 ⟨rfl, S6⟩
                have S7 : Aside (SWK enc k w0 blk off (symMerge (ltOf cf) f mid e b (smL (ltOf cf) f a i mid (smRot m i e d))) w3) := S6
                clear S6 HC3
                go_wp2_with fail
                go_end0
                refine ⟨rfl, ?_⟩
                rw [smL_pos c3]
                exact S7.out
            · by_cases c3f : mid < e
              · have c3x : (mid : Int) < (e : Int) := by omega
                have c3y : ¬ (e : Int) < (b : Int) := by omega
                first | (exfalso; have := HEQ.out; omega) | skip
                all_goals
                  have S3 : Aside (SWK enc k w0 blk off (smRot m i e d) wr) := by unfold smRot; rw [if_neg c1]; exact S1
                  have hz3 := Lib.hid (show (smRot m i e d).size = d.size from size_smRot _ _ _ _)
                  have HC2 := Lib.hid (IH.out a i mid _ wr c2.1 c2.2 (by omega) (by omega) hz3.out S3)
                  go_wp2_with fail
                  refine HC2.out.mono ?_
                  rintro e2 w2 ⟨rfl, S4⟩
                  have S5 : Aside (SWK enc k w0 blk off (smL (ltOf cf) f a i mid (smRot m i e d)) w2) := by rw [smL_pos c2]; exact S4
                  clear S4 HC2
                  have hz5 := Lib.hid (show (smL (ltOf cf) f a i mid (smRot m i e d)).size = d.size from by rw [size_smL]; exact hz3.out)
                  go_wp2_with fail
                  go_end0
                  refine ⟨rfl, ?_⟩
                  rw [smL_neg c3]
                  exact S5.out
              · have c3x : ¬ (mid : Int) < (e : Int) := by omega
                first | (exfalso; have := HEQ.out; omega) | skip
                all_goals
                  have S3 : Aside (SWK enc k w0 blk off (smRot m i e d) wr) := by unfold smRot; rw [if_neg c1]; exact S1
                  have hz3 := Lib.hid (show (smRot m i e d).size = d.size from size_smRot _ _ _ _)
                  have HC2 := Lib.hid (IH.out a i mid _ wr c2.1 c2.2 (by omega) (by omega) hz3.out S3)
                  go_wp2_with fail
                  refine HC2.out.mono ?_
                  rintro e2 w2 ⟨rfl, S4⟩
                  have S5 : Aside (SWK enc k w0 blk off (smL (ltOf cf) f a i mid (smRot m i e d)) w2) := by rw [smL_pos c2]; exact S4
                  clear S4 HC2
                  have hz5 := Lib.hid (show (smL (ltOf cf) f a i mid (smRot m i e d)).size = d.size from by rw [size_smL]; exact hz3.out)
                  go_wp2_with fail
                  go_end0
                  refine ⟨rfl, ?_⟩
                  rw [smL_neg c3]
                  exact S5.out
          · by_cases c2f : a < i
            · have c2x : (a : Int) < (i : Int) := by omega
              have c2y : ¬ (i : Int) < (mid : Int) := by omega
              by_cases c3 : mid < e ∧ e < b
              · have c3x : (mid : Int) < (e : Int) := by omega
                have c3y : (e : Int) < (b : Int) := by omega
                first | (exfalso; have := HEQ.out; omega) | skip
                all_goals
                  have S3 : Aside (SWK enc k w0 blk off (smRot m i e d) wr) := by unfold smRot; rw [if_neg c1]; exact S1
                  have hz3 := Lib.hid (show (smRot m i e d).size = d.size from size_smRot _ _ _ _)
                  have S5 : Aside (SWK enc k w0 blk off (smL (ltOf cf) f a i mid (smRot m i e d)) wr) := by rw [smL_neg c2]; exact S3
                  have hz5 := Lib.hid (show (smL (ltOf cf) f a i mid (smRot m i e d)).size = d.size from by rw [size_smL]; exact hz3.out)
                  have HC3 := Lib.hid (IH.out mid e b _ wr c3.1 c3.2 hb (by omega) hz5.out S5)
                  go_wp2_with fail
                  refine HC3.out.mono ?_
                  rintro e3 w3 ⟨rfl, S6⟩
                  have S7 : Aside (SWK enc k w0 blk off (symMerge (ltOf cf) f mid e b (smL (ltOf cf) f a i mid (smRot m i e d))) w3) := S6
                  clear S6 HC3
                  go_wp2_with fail
                  go_end0
                  refine ⟨rfl, ?_⟩
                  rw [smL_pos c3]
                  exact S7.out
              · by_cases c3f : mid < e
                · have c3x : (mid : Int) < (e : Int) := by omega
                  have c3y : ¬ (e : Int) < (b : Int) := by omega
                  first | (exfalso; have := HEQ.out; omega) | skip
                  all_goals
                    have S3 : Aside (SWK enc k w0 blk off (smRot m i e d) wr) := by unfold smRot; rw [if_neg c1]; exact S1
                    have hz3 := Lib.hid (show (smRot m i e d).size = d.size from size_smRot _ _ _ _)
                    have S5 : Aside (SWK enc k w0 blk off (smL (ltOf cf) f a i mid (smRot m i e d)) wr) := by rw [smL_neg c2]; exact S3
                    have hz5 := Lib.hid (show (smL (ltOf cf) f a i mid (smRot m i e d)).size = d.size from by rw [size_smL]; exact hz3.out)
                    go_wp2_with fail
                    go_end0
                    refine ⟨rfl, ?_⟩
                    rw [smL_neg c3]
                    exact S5.out
                · have c3x : ¬ (mid : Int) < (e : Int) := by omega
                  first | (exfalso; have := HEQ.out; omega) | skip
                  all_goals
                    have S3 : Aside (SWK enc k w0 blk off (smRot m i e d) wr) := by unfold smRot; rw [if_neg c1]; exact S1
                    have hz3 := Lib.hid (show (smRot m i e d).size = d.size from size_smRot _ _ _ _)
                    have S5 : Aside (SWK enc k w0 blk off (smL (ltOf cf) f a i mid (smRot m i e d)) wr) := by rw [smL_neg c2]; exact S3
                    have hz5 := Lib.hid (show (smL (ltOf cf) f a i mid (smRot m i e d)).size = d.size from by rw [size_smL]; exact hz3.out)
                    go_wp2_with fail
                    go_end0
                    refine ⟨rfl, ?_⟩
                    rw [smL_neg c3]
                    exact S5.out
            · have c2x : ¬ (a : Int) < (i : Int) := by omega
              by_cases c3 : mid < e ∧ e < b
              · have c3x : (mid : Int) < (e : Int) := by omega
                have c3y : (e : Int) < (b : Int) := by omega
                first | (exfalso; have := HEQ.out; omega) | skip
                all_goals
                  have S3 : Aside (SWK enc k w0 blk off (smRot m i e d) wr) := by unfold smRot; rw [if_neg c1]; exact S1
                  have hz3 := Lib.hid (show (smRot m i e d).size = d.size from size_smRot _ _ _ _)
                  have S5 : Aside (SWK enc k w0 blk off (smL (ltOf cf) f a i mid (smRot m i e d)) wr) := by rw [smL_neg c2]; exact S3
                  have hz5 := Lib.hid (show (smL (ltOf cf) f a i mid (smRot m i e d)).size = d.size from by rw [size_smL]; exact hz3.out)
                  have HC3 := Lib.hid (IH.out mid e b _ wr c3.1 c3.2 hb (by omega) hz5.out S5)
                  go_wp2_with fail
                  refine HC3.out.mono ?_
                  rintro e3 w3 ⟨rfl, S6⟩
                  have S7 : Aside (SWK enc k w0 blk off (symMerge (ltOf cf) f mid e b (smL (ltOf cf) f a i mid (smRot m i e d))) w3) := S6
                  clear S6 HC3
                  go_wp2_with fail
                  go_end0
                  refine ⟨rfl, ?_⟩
                  rw [smL_pos c3]
                  exact S7.out
              · by_cases c3f : mid < e
                · have c3x : (mid : Int) < (e : Int) := by omega
                  have c3y : ¬ (e : Int) < (b : Int) := by omega
                  first | (exfalso; have := HEQ.out; omega) | skip
                  all_goals
                    have S3 : Aside (SWK enc k w0 blk off (smRot m i e d) wr) := by unfold smRot; rw [if_neg c1]; exact S1
                    have hz3 := Lib.hid (show (smRot m i e d).size = d.size from size_smRot _ _ _ _)
                    have S5 : Aside (SWK enc k w0 blk off (smL (ltOf cf) f a i mid (smRot m i e d)) wr) := by rw [smL_neg c2]; exact S3
                    have hz5 := Lib.hid (show (smL (ltOf cf) f a i mid (smRot m i e d)).size = d.size from by rw [size_smL]; exact hz3.out)
                    go_wp2_with fail
                    go_end0
                    refine ⟨rfl, ?_⟩
                    rw [smL_neg c3]
                    exact S5.out
                · have c3x : ¬ (mid : Int) < (e : Int) := by omega
                  first | (exfalso; have := HEQ.out; omega) | skip
                  all_goals
                    have S3 : Aside (SWK enc k w0 blk off (smRot m i e d) wr) := by unfold smRot; rw [if_neg c1]; exact S1
                    have hz3 := Lib.hid (show (smRot m i e d).size = d.size from size_smRot _ _ _ _)
                    have S5 : Aside (SWK enc k w0 blk off (smL (ltOf cf) f a i mid (smRot m i e d)) wr) := by rw [smL_neg c2]; exact S3
                    have hz5 := Lib.hid (show (smL (ltOf cf) f a i mid (smRot m i e d)).size = d.size from by rw [size_smL]; exact hz3.out)
                    go_wp2_with fail
                    go_end0
                    refine ⟨rfl, ?_⟩
                    rw [smL_neg c3]
                    exact S5.out
end
end Go.Proofs.Ytokmkjgbhlcngaa.Q
namespace Go.Proofs.Ytokmkjgbhlcngaa.Q
open Go.Shelf Go.RowKit Go.Lib Go.Sort Go.Proofs Go.Proofs.Ytokmkjgbhlcngaa.G
set_option linter.all false

section
variable {α : Type} [Inhabited α]

theorem symMerge_any {P : Program} (L : SLays P) (k : Nat) (aE : ∀ w, (isAgg 24).run P w = .ok true w) (zE : ∀ w, (Go.sizeOf 24).run P w = .ok k w) (enc : α → List Value) (cf : α → α → Int) (hO : SWO (ltOf cf)) (g : Nat) (cb : Array Value) (blk off cap : Nat) (d0 : Array α) (w0 : World)
    (eg : ∀ args w, (callFunc g args).run P w = .ok (.enter g args) w) (HC : Aside (CmpBelow P g cb enc k cf blk off d0.size w0)) (HZ : Hid (w0.drawn = 0)) (R : RowK enc k w0 blk off d0) (hsz : d0.size < 1000000000000) :
    ∀ (f a m b : Nat) (d : Array α) (w : World), a < m → m < b → b ≤ d0.size → b - a ≤ f → d.size = d0.size → Aside (SWK enc k w0 blk off d w) →
    Calls P 67 #[.slice (some ⟨blk, off, none⟩) d0.size cap, .int .i64 a, .int .i64 m, .int .i64 b, .func (.func g) #[] cb] w fun e w' => e = .returned (.tuple #[]) ∧ SWK enc k w0 blk off (symMerge (ltOf cf) f a m b d) w'
  | 0, a, m, b, d, w, ham, hmb, hb, hf, hd, S => by omega
  | f + 1, a, m, b, d, w, ham, hmb, hb, hf, hd, S => by
    have ih := symMerge_any L k aE zE enc cf hO g cb blk off cap d0 w0 eg HC HZ R hsz f
    rw [← hd] at ih hb hsz ⊢
    unfold symMerge
    by_cases c1 : m - a = 1
    · rw [if_pos c1]
      exact symMerge_one L k aE zE enc cf g cb blk off cap d0 d w0 w eg HC HZ R hd.symm S hsz a m b (by omega) hmb hb
    · rw [if_neg c1]
      by_cases c2 : b - m = 1
      · rw [if_pos c2]
        exact symMerge_two L k aE zE enc cf g cb blk off cap d0 d w0 w eg HC HZ R hd.symm S hsz a m b (by omega) (by omega) hb
      · rw [if_neg c2]
        obtain ⟨p1, p2, p3, p4, -, -⟩ := smStart_spec hO d ham hmb
        by_cases c3 : (a + b) / 2 < m
        · exact symMerge_goL L k aE zE enc cf g cb blk off cap d0 d w0 w eg HC HZ R hd.symm S hsz f a m b _ _ _ (by omega) (by omega) hb hf rfl c3 rfl rfl p1 p2 p3 p4 ih
        · exact symMerge_goR L k aE zE enc cf g cb blk off cap d0 d w0 w eg HC HZ R hd.symm S hsz f a m b _ _ _ (by omega) (by omega) hb hf rfl c3 rfl rfl p1 p2 p3 p4 ih
set_option maxHeartbeats 8000000 in
set_option maxRecDepth 1000000 in
theorem stable_any {P : Program} (L : SLays P) (k : Nat) (aE : ∀ w, (isAgg 24).run P w = .ok true w) (zE : ∀ w, (Go.sizeOf 24).run P w = .ok k w) (enc : α → List Value) (cf : α → α → Int) (hO : SWO (ltOf cf)) (g : Nat) (cb : Array Value) (blk off cap n : Nat) (d0 d : Array α) (w0 w : World)
    (eg : ∀ args w, (callFunc g args).run P w = .ok (.enter g args) w) (HC : Aside (CmpBelow P g cb enc k cf blk off d0.size w0)) (HZ : Hid (w0.drawn = 0)) (R : RowK enc k w0 blk off d0) (hn : d0.size = n) (hs : d.size = n) (S0 : Aside (SWK enc k w0 blk off d w)) (hsz : n < 1000000000000) :
    Calls P 42 #[.slice (some ⟨blk, off, none⟩) n cap, .int .i64 n, .func (.func g) #[] cb] w fun e w' => e = .returned (.tuple #[]) ∧ SWK enc k w0 blk off (stableSort (ltOf cf) d) w' := by
  have mixed := L.mixed; have t3 := L.t3; have a3 := L.a3; have z3 := L.z3; have v3 := L.v3; have tu := L.tu; have t4 := L.t4; have a4 := L.a4; have z4 := L.z4; have v4 := L.v4; have t22 := L.t22; have a22 := L.a22; have z22 := L.z22; have a25 := L.a25; have z25 := L.z25; have u22 := run_underlying L.t22
  have FG := L.fStable
  have e29 : ∀ args w, (callFunc 66 args).run P w = .ok (.enter 66 args) w := enters_of L.fIns (by kernel_rfl) rfl
  have e67 : ∀ args w, (callFunc 67 args).run P w = .ok (.enter 67 args) w := enters_of L.fSym (by kernel_rfl) rfl
  have HI : ∀ (a b : Nat) (dk : Array α) (wk : World), a ≤ b → b ≤ n → dk.size = n → Aside (SWK enc k w0 blk off dk wk) → Calls P 66 #[.slice (some ⟨blk, off, none⟩) n cap, .int .i64 a, .int .i64 b, .func (.func g) #[] cb] wk fun e w' => e = .returned (.tuple #[]) ∧ SWK enc k w0 blk off (Sort.insertionSort (ltOf cf) dk a b) w' := fun a b dk wk h1 h2 h3 h4 => by
    have := insertion_w L k aE zE enc cf g cb blk off cap d0 dk w0 wk eg HC HZ R (by omega) h4 (by omega) a b h1 (by omega)
    rwa [hn] at this
  have HM : ∀ (a m b : Nat) (dk : Array α) (wk : World), a < m → m < b → b ≤ n → dk.size = n → Aside (SWK enc k w0 blk off dk wk) → Calls P 67 #[.slice (some ⟨blk, off, none⟩) n cap, .int .i64 a, .int .i64 m, .int .i64 b, .func (.func g) #[] cb] wk fun e w' => e = .returned (.tuple #[]) ∧ SWK enc k w0 blk off (symMerge (ltOf cf) n a m b dk) w' := fun a m b dk wk h1 h2 h3 h4 h5 => by
    have := symMerge_any L k aE zE enc cf hO g cb blk off cap d0 w0 eg HC HZ R (by omega) n a m b dk wk h1 h2 (by omega) (by omega) (by omega) h5
    rwa [hn] at this
  have HI' := Lib.hid HI
  have HM' := Lib.hid HM
  have HN := Lib.hid hn
  have HS := Lib.hid hs
  clear HI HM hn
  go_enter FG, Try.ntmps42
  go_wp2
  go_loopg [7, 8] n (fun kx s7 s8 wr => ∃ (aa : Nat) (dk : Array α), s7 = .int .i64 aa ∧ s8 = .int .i64 ((aa : Int) + 20) ∧ aa ≤ n ∧ n - aa ≤ kx ∧ dk.size = n ∧ Aside (SWK enc k w0 blk off dk wr) ∧ Hid (insBlocks (ltOf cf) n aa dk = insBlocks (ltOf cf) n 0 d))
  case atStart => exact ⟨0, d, rfl, by first | rfl | simp, Nat.zero_le _, by omega, hs, S0, rfl⟩
  case round =>
    clear S0 hs
    obtain ⟨aa, dk, rfl, rfl, haa, hkx, hds, S1, HE⟩ := hrel
    by_cases hlt : aa + 20 ≤ n
    · have hltz : (aa : Int) + 20 ≤ (n : Int) := by omega
      have hc := HI'.out aa (aa + 20) dk wr (by omega) hlt hds S1
      rw [show ((aa + 20 : Nat) : Int) = (aa : Int) + 20 from by omega] at hc
      have HC1 := Lib.hid hc
      clear hc S1
      go_wp2_with fail
      refine HC1.out.mono ?_
      rintro e w1 ⟨rfl, S2⟩
      have S3 : Aside _ := S2
      clear S2 HC1
      go_wp2
      go_roundg (n - (aa + 20))
      case measure => omega
      case rel =>
        refine ⟨aa + 20, _, by go_num, by first | rfl | (congr 1; omega), hlt, Nat.le_refl _, by rw [size_insertion]; exact hds, S3, (show Hid _ from ?_)⟩
        show _ = _
        rw [← HE.out]
        conv => rhs; rw [insBlocks, if_pos hlt]
    · have hltz : ¬ (aa : Int) + 20 ≤ (n : Int) := by omega
      have HC1 := Lib.hid (HI'.out aa n dk wr haa (Nat.le_refl _) hds S1)
      clear S1
      go_wp2_with fail
      refine HC1.out.mono ?_
      rintro e w1 ⟨rfl, S2⟩
      have S3 : Aside (SWK enc k w0 blk off (insBlocks (ltOf cf) n 0 d) w1) := by rw [← HE.out, insBlocks, if_neg hlt]; exact S2
      clear S2 HC1
      have hz1 : (insBlocks (ltOf cf) n 0 d).size = n := by rw [← HE.out, insBlocks, if_neg hlt, size_insertion]; exact hds
      have HT : Hid (stableSort (ltOf cf) d = mergeAll (ltOf cf) 20 n (insBlocks (ltOf cf) n 0 d)) := (show _ = _ from by unfold stableSort; rw [HS.out])
      clear HE
      generalize insBlocks (ltOf cf) n 0 d = d1 at S3 hz1 HT
      go_wp2_with fail
      go_loopg [6, 7, 8, 9] n (fun kx s6 s7 s8 s9 wr2 => ∃ (s : Nat) (dk2 : Array α), s6 = .int .i64 s ∧ 0 < s ∧ s ≤ 2 * n + 20 ∧ n - s ≤ kx ∧ dk2.size = n ∧ Aside (SWK enc k w0 blk off dk2 wr2) ∧ Hid (mergeAll (ltOf cf) s n dk2 = mergeAll (ltOf cf) 20 n d1))
      case atStart => exact ⟨20, d1, rfl, by omega, by omega, by omega, hz1, S3, rfl⟩
      case round =>
        clear S3 hds hlt hltz hz1
        obtain ⟨s, dk2, rfl, hs0, hs2, hkx2, hds, S1, HE⟩ := hrel
        by_cases hsn : s < n
        · have hsz' : (s : Int) < (n : Int) := by omega
          go_wp2
          go_loopg [7, 8] n (fun kx3 s7 s8 wr3 => ∃ (ab : Nat) (dk3 : Array α), s7 = .int .i64 ab ∧ s8 = .int .i64 ((ab : Int) + 2 * (s : Int)) ∧ ab ≤ n ∧ n - ab ≤ kx3 ∧ dk3.size = n ∧ Aside (SWK enc k w0 blk off dk3 wr3) ∧ Hid (mergePass (ltOf cf) s n ab dk3 = mergePass (ltOf cf) s n 0 dk2))
          case atStart => exact ⟨0, dk2, rfl, by first | rfl | (congr 1; omega), Nat.zero_le _, by omega, hds, S1, rfl⟩
          case round =>
            clear S1 hds
            obtain ⟨ab, dk3, rfl, rfl, hab, hkx3, hds, S1, HE3⟩ := hrel
            by_cases hlt : ab + 2 * s ≤ n
            · have hltz : (ab : Int) + 2 * (s : Int) ≤ (n : Int) := by omega
              have hc := HM'.out ab (ab + s) (ab + 2 * s) dk3 wr (by omega) (by omega) hlt hds S1
              rw [show ((ab + s : Nat) : Int) = (ab : Int) + (s : Int) from by omega, show ((ab + 2 * s : Nat) : Int) = (ab : Int) + 2 * (s : Int) from by omega] at hc
              have HC1 := Lib.hid hc
              clear hc S1
              go_wp2_with fail
              refine HC1.out.mono ?_
              rintro e w4 ⟨rfl, S2⟩
              have S3 : Aside _ := S2
              clear S2 HC1
              go_wp2
              go_roundg (n - (ab + 2 * s))
              case measure => omega
              case rel =>
                refine ⟨ab + 2 * s, _, by first | rfl | (congr 1; omega), by first | rfl | (congr 1; omega), hlt, Nat.le_refl _, by rw [size_symMerge]; exact hds, S3, (show Hid _ from ?_)⟩
                show _ = _
                rw [← HE3.out]
                conv => rhs; rw [mergePass, if_pos ⟨hs0, hlt⟩]
            · have hltz : ¬ (ab : Int) + 2 * (s : Int) ≤ (n : Int) := by omega
              by_cases hmn : ab + s < n
              · have hmz : (ab : Int) + (s : Int) < (n : Int) := by omega
                have hc := HM'.out ab (ab + s) n dk3 wr (by omega) hmn (Nat.le_refl _) hds S1
                rw [show ((ab + s : Nat) : Int) = (ab : Int) + (s : Int) from by omega] at hc
                have HC1 := Lib.hid hc
                clear hc S1
                go_wp2_with fail
                refine HC1.out.mono ?_
                rintro e w4 ⟨rfl, S2⟩
                have S3 : Aside _ := S2
                clear S2 HC1
                have HP : Hid (mergePass (ltOf cf) s n 0 dk2 = symMerge (ltOf cf) n ab (ab + s) n dk3) := (show _ = _ from by rw [← HE3.out, mergePass, if_neg (by omega), if_pos hmn])
                have hzz : (symMerge (ltOf cf) n ab (ab + s) n dk3).size = n := by rw [size_symMerge]; exact hds
                go_wp2
                go_roundg (n - s * 2)
                case measure => omega
                case rel =>
                  refine ⟨s * 2, _, by first | rfl | (congr 1; omega), by omega, by omega, Nat.le_refl _, hzz, S3, (show Hid _ from ?_)⟩
                  show _ = _
                  rw [← HE.out, ← HP.out]
                  conv => rhs; rw [mergeAll, if_pos ⟨hs0, hsn⟩]
              · have hmz : ¬ (ab : Int) + (s : Int) < (n : Int) := by omega
                have S3 := S1
                clear S1
                have HP : Hid (mergePass (ltOf cf) s n 0 dk2 = dk3) := (show _ = _ from by rw [← HE3.out, mergePass, if_neg (by omega), if_neg hmn])
                have hzz := hds
                go_wp2
                go_roundg (n - s * 2)
                case measure => omega
                case rel =>
                  refine ⟨s * 2, _, by first | rfl | (congr 1; omega), by omega, by omega, Nat.le_refl _, hzz, S3, (show Hid _ from ?_)⟩
                  show _ = _
                  rw [← HE.out, ← HP.out]
                  conv => rhs; rw [mergeAll, if_pos ⟨hs0, hsn⟩]
        · have hsz' : ¬ (s : Int) < (n : Int) := by omega
          go_wp2
          go_end0
          refine ⟨rfl, ?_⟩
          rw [HT.out, ← HE.out, mergeAll, if_neg (by omega)]
          exact S1.out
end
end Go.Proofs.Ytokmkjgbhlcngaa.Q
namespace Go.Proofs.Ytokmkjgbhlcngaa.Q
open Go.RowKit Go.Proofs.YtokmkjgbhlcngaaW.PrintWords Go.Proofs.YtokmkjgbhlcngaaW.PrintLast Go.Proofs.YtokmkjgbhlcngaaW.PrintMore
attribute [local go_sem] max2_int min2_int max_two min_two max_three min_three max_four min_four   -- for this text's walks alone
set_option linter.unusedVariables false
set_option linter.unusedSimpArgs false

theorem eqA24 (d : Nat) (w : World) (x0 y0 : Int) (x1 y1 : ByteArray) (x2 y2 : Int) (x3 y3 : Int) (x4 y4 : Int) (x5 y5 : Int) (x6 y6 : Int) (x7 y7 : ByteArray) :
    (Op.equalIn (d + 2) 24 (.agg #[.int .i64 x0, .string x1, .int .i64 x2, .int .i64 x3, .int .i64 x4, .int .u8 x5, .int .i64 x6, .string x7]) (.agg #[.int .i64 y0, .string y1, .int .i64 y2, .int .i64 y3, .int .i64 y4, .int .u8 y5, .int .i64 y6, .string y7])).run Try.prog w = .ok (x0 == y0 && (x1.toList == y1.toList && (x2 == y2 && (x3 == y3 && (x4 == y4 && (x5 == y5 && (x6 == y6 && (x7.toList == y7.toList)))))))) w := by
  refine eqA_of Try.underlying24 (by kernel_rfl) ?_
  refine eqf_cons (by rfl) (by go_simp; rfl) (by go_simp; rfl) (by go_simp) ?_
  refine eqf_cons (by rfl) (by go_simp; rfl) (by go_simp; rfl) (by go_simp) ?_
  refine eqf_cons (by rfl) (by go_simp; rfl) (by go_simp; rfl) (by go_simp) ?_
  refine eqf_cons (by rfl) (by go_simp; rfl) (by go_simp; rfl) (by go_simp) ?_
  refine eqf_cons (by rfl) (by go_simp; rfl) (by go_simp; rfl) (by go_simp) ?_
  refine eqf_cons (by rfl) (by go_simp; rfl) (by go_simp; rfl) (by go_simp) ?_
  refine eqf_cons (by rfl) (by go_simp; rfl) (by go_simp; rfl) (by go_simp) ?_
  exact eqf_last (by rfl) (by go_simp; rfl) (by go_simp; rfl) (by go_simp)
end Go.Proofs.Ytokmkjgbhlcngaa.Q
