/- slices' stable sort at structs: swapRange, rotate. (printed by wip/gensym.py; in the manner of the kit's worked sorts) -/
import Derived.Test.YtckekncllmhohaaGSort
import Derived.Test.YtckekncllmhohaaGStable
import Derived.Shelf.SlSortCmp.KitK
import Derived.Sort.WalkB2
import Derived.Sort.WalkB12
import Derived.Deep.LoopGhost
namespace Go.Proofs.Ytckekncllmhohaa.Q
open Go.Shelf Go.RowKit Go.Lib Go.Sort Go.Proofs Go.Proofs.Ytckekncllmhohaa.G
set_option linter.all false

section
variable {α : Type} [Inhabited α]
theorem SWK_regrownZ {enc : α → List Value} {k : Nat} {w0 W : World} {blk off : Nat} {dk : Array α} (h : SWK enc k w0 blk off dk W) (hz : Hid (w0.drawn = 0)) (n : Nat) (os : Array Obj) : SWK enc k w0 blk off dk (grow (redrawn W n) os) := by
  obtain ⟨m, os0, rfl⟩ := h
  exact ⟨n, os0 ++ os, sortWorldK_regrown enc k w0 hz.out blk off m n dk os0 os⟩
theorem _root_.Go.Proofs.SWK.regrownZ {enc : α → List Value} {k : Nat} {w0 W : World} {blk off : Nat} {dk : Array α} (h : SWK enc k w0 blk off dk W) (hz : Hid (w0.drawn = 0)) (n : Nat) (os : Array Obj) : SWK enc k w0 blk off dk (grow (redrawn W n) os) := SWK_regrownZ h hz n os
theorem _root_.Go.Proofs.SWK.ldz {enc : α → List Value} {k : Nat} {w0 W : World} {blk off : Nat} {dk d0 : Array α} (h : SWK enc k w0 blk off dk W) (hz : Hid (w0.drawn = 0)) (R : RowK enc k w0 blk off d0) (hs : dk.size = d0.size) (P : Program) (i : Nat) (hi : i < dk.size) (n : Nat) (os : Array Obj) :
    Sem.run P (loadCellsFrom ⟨blk, off + i * k, none⟩ 0 k #[]) (grow (redrawn W n) os) = .ok (enc dk[i]!).toArray (grow (redrawn W n) os) := (SWK_regrownZ h hz n os).load R hs P i hi
theorem _root_.Go.Proofs.SWK.cmpz {P : Program} {g : Nat} {cb : Array Value} {cf : α → α → Int} {size : Nat} {enc : α → List Value} {k : Nat} {w0 W : World} {blk off : Nat} {dk : Array α} (h : SWK enc k w0 blk off dk W) (hz : Hid (w0.drawn = 0)) (hC : CmpBelow P g cb enc k cf blk off size w0) (hs : dk.size = size) (x y : α) (n : Nat) (os : Array Obj) :
    Calls P g (#[.agg (enc x).toArray, .agg (enc y).toArray] ++ cb) (grow (redrawn W n) os) fun e w' => e = .returned (.int .i64 (cf x y)) ∧ ∃ p : Regrown, w' = grow (redrawn W p.d) p.os :=
  Calls.regrown_of (hC dk _ hs (SWK_regrownZ h hz n os) x y)

/-- What the walks ask of the program. -/
structure SLays (P : Program) : Prop where
  mixed : P.follows .mixedOrders = true
  fIns : P.funcs[(34 : Nat)]? = some Try.f34
  fSwap : P.funcs[(37 : Nat)]? = some Try.f37
  fRot : P.funcs[(36 : Nat)]? = some Try.f36
  fSym : P.funcs[(35 : Nat)]? = some Try.f35
  fStable : P.funcs[(33 : Nat)]? = some Try.f33
  t3 : P.underlying 3 = some (TypeDesc.int IntKind.i64)
  a3 : ∀ w, (isAgg 3).run P w = .ok false w
  z3 : ∀ w, (Go.sizeOf 3).run P w = .ok 1 w
  v3 : ∀ w, (zeroValue 3).run P w = .ok (Value.int IntKind.i64 0) w
  tu : P.underlying 54 = some (TypeDesc.int IntKind.u64)
  t4 : P.underlying 4 = some TypeDesc.bool
  a4 : ∀ w, (isAgg 4).run P w = .ok false w
  z4 : ∀ w, (Go.sizeOf 4).run P w = .ok 1 w
  v4 : ∀ w, (zeroValue 4).run P w = .ok (Value.bool false) w
  t22 : P.underlying 30 = some (TypeDesc.slice 25)
  a22 : ∀ w, (isAgg 30).run P w = .ok false w
  z22 : ∀ w, (Go.sizeOf 30).run P w = .ok 1 w
  a25 : ∀ w, (isAgg 27).run P w = .ok false w
  z25 : ∀ w, (Go.sizeOf 27).run P w = .ok 1 w
def smL (lt : α → α → Bool) (f a st mid : Nat) (d : Array α) : Array α := if a < st ∧ st < mid then symMerge lt f a st mid d else d
theorem smL_pos {lt : α → α → Bool} {f a st mid : Nat} {d : Array α} (h : a < st ∧ st < mid) : smL lt f a st mid d = symMerge lt f a st mid d := if_pos h
theorem smL_neg {lt : α → α → Bool} {f a st mid : Nat} {d : Array α} (h : ¬ (a < st ∧ st < mid)) : smL lt f a st mid d = d := if_neg h
theorem size_smL (lt : α → α → Bool) (f a st mid : Nat) (d : Array α) : (smL lt f a st mid d).size = d.size := by
  unfold smL
  split
  · exact size_symMerge _ _ _ _ _ _
  · rfl
theorem rot_fuel (m : Nat) : ∀ (f f' i j : Nat) (d : Array α), i + j ≤ f → i + j ≤ f' → 0 < i → 0 < j → rotLoop m f i j d = rotLoop m f' i j d
  | 0, _, i, j, d, h, _, h1, h2 => by omega
  | f + 1, 0, i, j, d, _, h, h1, h2 => by omega
  | f + 1, f' + 1, i, j, d, h, h', h1, h2 => by
    rw [rotLoop, rotLoop]
    by_cases hij : i = j
    · rw [if_pos hij, if_pos hij]
    · rw [if_neg hij, if_neg hij]
      by_cases hji : j < i
      · rw [if_pos hji, if_pos hji]; exact rot_fuel m f f' _ _ _ (by omega) (by omega) (by omega) h2
      · rw [if_neg hji, if_neg hji]; exact rot_fuel m f f' _ _ _ (by omega) (by omega) h1 (by omega)
theorem bsr_true (p : Nat → Bool) {i j h : Nat} (hij : i < j) (hh : h = (i + j) / 2) (hp : p h = true) : bsr p i j = bsr p (h + 1) j := by rw [bsr, if_pos hij, ← hh, if_pos hp]
theorem bsr_false (p : Nat → Bool) {i j h : Nat} (hij : i < j) (hh : h = (i + j) / 2) (hp : p h = false) : bsr p i j = bsr p i h := by rw [bsr, if_pos hij, ← hh, if_neg (by simp [hp])]
theorem bsr_stop (p : Nat → Bool) (i : Nat) : bsr p i i = i := by rw [bsr, if_neg (Nat.lt_irrefl _)]
set_option maxHeartbeats 8000000 in
set_option maxRecDepth 1000000 in
/-- slices.swapRangeCmpFunc: n exchanges. -/
theorem swapRange_any {P : Program} (L : SLays P) (k : Nat) (aE : ∀ w, (isAgg 25).run P w = .ok true w) (zE : ∀ w, (Go.sizeOf 25).run P w = .ok k w) (enc : α → List Value) (cf : α → α → Int) (g : Nat) (cb : Array Value) (blk off cap : Nat) (d0 d : Array α) (w0 w : World)
    (R : RowK enc k w0 blk off d0) (hs : d0.size = d.size) (S0 : Aside (SWK enc k w0 blk off d w)) (hsz : d.size < 1000000000000) (a b n : Nat) (ha : a + n ≤ d.size) (hb : b + n ≤ d.size) :
    Calls P 37 #[.slice (some ⟨blk, off, none⟩) d.size cap, .int .i64 a, .int .i64 b, .int .i64 n, .func (.func g) #[] cb] w fun e w' => e = .returned (.tuple #[]) ∧ SWK enc k w0 blk off (swapRange n a b d) w' := by
  have mixed := L.mixed; have t3 := L.t3; have a3 := L.a3; have z3 := L.z3; have v3 := L.v3; have tu := L.tu; have t4 := L.t4; have a4 := L.a4; have z4 := L.z4; have v4 := L.v4; have t22 := L.t22; have a22 := L.a22; have z22 := L.z22; have a25 := L.a25; have z25 := L.z25; have u22 := run_underlying L.t22
  have FG := L.fSwap
  go_enter FG, Try.ntmps37
  go_wp2
  go_loopg [10] n (fun kx s10 wr => ∃ (i : Nat) (dk : Array α), s10 = .int .i64 i ∧ i ≤ n ∧ n - i ≤ kx ∧ dk.size = d.size ∧ Aside (SWK enc k w0 blk off dk wr) ∧ Hid (swapRange (n - i) (a + i) (b + i) dk = swapRange n a b d))
  case atStart => exact ⟨0, d, rfl, Nat.zero_le _, by omega, rfl, S0, rfl⟩
  case round =>
    clear S0
    obtain ⟨i, dk, rfl, hin, hkx, hds, S1, HE⟩ := hrel
    by_cases hlt : i < n
    · have hltz : (i : Int) < (n : Int) := by omega
      go_wp2_with fail
      have ea1 : ((a : Int) + (i : Int)).toNat = a + i := by omega
      have pa1 : (0 : Int) ≤ (a : Int) + (i : Int) := by omega
      have ba1 : (a : Int) + (i : Int) < (d.size : Int) := by omega
      have ra1 : IntKind.i64.wrap ((a : Int) + (i : Int)) = (a : Int) + (i : Int) := by rw [IntKind.wrap_i64]; omega
      have ec1 : ((b : Int) + (i : Int)).toNat = b + i := by omega
      have pc1 : (0 : Int) ≤ (b : Int) + (i : Int) := by omega
      have bc1 : (b : Int) + (i : Int) < (d.size : Int) := by omega
      have rc1 : IntKind.i64.wrap ((b : Int) + (i : Int)) = (b : Int) + (i : Int) := by rw [IntKind.wrap_i64]; omega
      have S2 : Aside (SWK enc k w0 blk off (swp dk (a + i) (b + i)) ((wr.drew.setCells blk (off + (a + i) * k) (enc dk[b + i]!)).setCells blk (off + (b + i) * k) (enc dk[a + i]!))) := S1.out.swapped R (a + i) (b + i) (by omega) (by omega)
      have l1a := S1.out.ld1 R (by omega) P (a + i) (by omega)
      have l1b := S1.out.ld1 R (by omega) P (b + i) (by omega)
      have s1a := S1.out.st1 R (by omega) P (a + i) (by omega) dk[b + i]!
      have s1b := S1.out.st2 R (by omega) P (a + i) (b + i) (by omega) (by omega) dk[b + i]! dk[a + i]!
      have n1a : (enc dk[a + i]!).length = k := R.hk _
      have n1b : (enc dk[b + i]!).length = k := R.hk _
      generalize enc dk[a + i]! = cI1 at S2 l1a s1b n1a
      generalize enc dk[b + i]! = cJ1 at S2 l1b s1a s1b n1b
      clear S1
      go_wp2_with fail
      go_big_region_o
      clear l1a l1b s1a s1b
      generalize (wr.drew.setCells blk (off + (a + i) * k) cJ1).setCells blk (off + (b + i) * k) cI1 = w2 at S2 ⊢
      go_wp2
      go_roundg (n - (i + 1))
      case measure => omega
      case rel =>
        refine ⟨i + 1, swp dk (a + i) (b + i), by go_num, by omega, Nat.le_refl _, by rw [size_swp]; exact hds, S2, (show Hid _ from ?_)⟩
        show _ = _
        rw [← HE.out, show n - i = (n - (i + 1)) + 1 by omega, swapRange]
        rfl
    · have hltz : ¬ (i : Int) < (n : Int) := by omega
      go_wp2
      go_end0
      refine ⟨rfl, ?_⟩
      have := HE.out
      rw [show n - i = 0 by omega, swapRange] at this
      rw [← this]
      exact S1.out
set_option maxHeartbeats 8000000 in
set_option maxRecDepth 1000000 in
/-- slices.rotateCmpFunc. -/
theorem rotate_any {P : Program} (L : SLays P) (k : Nat) (aE : ∀ w, (isAgg 25).run P w = .ok true w) (zE : ∀ w, (Go.sizeOf 25).run P w = .ok k w) (enc : α → List Value) (cf : α → α → Int) (g : Nat) (cb : Array Value) (blk off cap : Nat) (d0 d : Array α) (w0 w : World)
    (R : RowK enc k w0 blk off d0) (hs : d0.size = d.size) (S0 : Aside (SWK enc k w0 blk off d w)) (hsz : d.size < 1000000000000) (a m b : Nat) (ham : a < m) (hmb : m < b) (hb : b ≤ d.size) :
    Calls P 36 #[.slice (some ⟨blk, off, none⟩) d.size cap, .int .i64 a, .int .i64 m, .int .i64 b, .func (.func g) #[] cb] w fun e w' => e = .returned (.tuple #[]) ∧ SWK enc k w0 blk off (rotate a m b d) w' := by
  have mixed := L.mixed; have t3 := L.t3; have a3 := L.a3; have z3 := L.z3; have v3 := L.v3; have tu := L.tu; have t4 := L.t4; have a4 := L.a4; have z4 := L.z4; have v4 := L.v4; have t22 := L.t22; have a22 := L.a22; have z22 := L.z22; have a25 := L.a25; have z25 := L.z25; have u22 := run_underlying L.t22
  have FG := L.fRot
  have e29 : ∀ args w, (callFunc 37 args).run P w = .ok (.enter 37 args) w := enters_of L.fSwap (by kernel_rfl) rfl
  have HS : ∀ (x y n : Nat) (dk : Array α) (wk : World), dk.size = d.size → Aside (SWK enc k w0 blk off dk wk) → x + n ≤ d.size → y + n ≤ d.size → Calls P 37 #[.slice (some ⟨blk, off, none⟩) d.size cap, .int .i64 x, .int .i64 y, .int .i64 n, .func (.func g) #[] cb] wk fun e w' => e = .returned (.tuple #[]) ∧ SWK enc k w0 blk off (swapRange n x y dk) w' := fun x y n dk wk h1 h2 h3 h4 => by
    have := swapRange_any L k aE zE enc cf g cb blk off cap d0 dk w0 wk R (by omega) h2 (by omega) x y n (by omega) (by omega)
    rwa [h1] at this
  have HS' := Lib.hid HS
  clear HS
  go_enter FG, Try.ntmps36
  go_wp2
  go_loopg [10, 11] (b - a) (fun kx s10 s11 wr => ∃ (i j : Nat) (dk : Array α), s10 = .int .i64 i ∧ s11 = .int .i64 j ∧ 0 < i ∧ 0 < j ∧ a + i ≤ m ∧ m + j ≤ b ∧ i + j ≤ kx ∧ dk.size = d.size ∧ Aside (SWK enc k w0 blk off dk wr) ∧ Hid (∀ f, i + j ≤ f → rotLoop m f i j dk = rotate a m b d))
  case atStart => exact ⟨m - a, b - m, d, by first | rfl | (congr 1; omega), by first | rfl | (congr 1; omega), by omega, by omega, by omega, by omega, by omega, rfl, S0, (show Hid _ from fun f hf => rot_fuel m _ _ _ _ _ hf (Nat.le_refl _) (by omega) (by omega))⟩
  case round =>
    clear S0
    obtain ⟨i, j, dk, rfl, rfl, hi0, hj0, hai, hmj, hkx, hds, S1, HE⟩ := hrel
    by_cases hij : i = j
    · subst hij
      have hne : ((i : Int) != (i : Int)) = false := by simp
      have hmi : (m : Int) - (i : Int) = ((m - i : Nat) : Int) := by omega
      have HC1 := Lib.hid (HS'.out (m - i) m i dk wr hds S1 (by omega) (by omega))
      go_wp2_with fail
      refine HC1.out.mono ?_
      rintro e w1 ⟨rfl, S2⟩
      have S2' : Aside _ := S2
      clear S2
      go_wp2_with fail
      go_end0
      refine ⟨rfl, ?_⟩
      have := HE.out (i + i) (Nat.le_refl _)
      rw [← this, show i + i = (i + i - 1) + 1 by omega, rotLoop, if_pos rfl]
      exact S2'.out
    · have hne : ((i : Int) != (j : Int)) = true := by rw [bne_iff_ne]; omega
      by_cases hgt : j < i
      · have hgtz : (j : Int) < (i : Int) := by omega
        have hmi : (m : Int) - (i : Int) = ((m - i : Nat) : Int) := by omega
        have HC1 := Lib.hid (HS'.out (m - i) m j dk wr hds S1 (by omega) (by omega))
        go_wp2_with fail
        refine HC1.out.mono ?_
        rintro e w1 ⟨rfl, S2⟩
        have S2' : Aside _ := S2
        clear S2
        go_wp2
        go_roundg (i - j + j)
        case measure => omega
        case rel =>
          refine ⟨i - j, j, _, by first | rfl | (congr 1; omega), rfl, by omega, hj0, by omega, hmj, Nat.le_refl _, by rw [size_swapRange]; exact hds, S2', (show Hid _ from fun f hf => ?_)⟩
          rw [rot_fuel m f (f + i + j) _ _ _ hf (by omega) (by omega) hj0, ← HE.out (f + i + j + 1) (by omega), rotLoop, if_neg hij, if_pos hgt]
      · have hgtz : ¬ (j : Int) < (i : Int) := by omega
        have hmi : (m : Int) - (i : Int) = ((m - i : Nat) : Int) := by omega
        have hmi2 : (m : Int) + (j : Int) - (i : Int) = ((m + j - i : Nat) : Int) := by omega
        have HC1 := Lib.hid (HS'.out (m - i) (m + j - i) i dk wr hds S1 (by omega) (by omega))
        go_wp2_with fail
        refine HC1.out.mono ?_
        rintro e w1 ⟨rfl, S2⟩
        have S2' : Aside _ := S2
        clear S2
        go_wp2
        go_roundg (i + (j - i))
        case measure => omega
        case rel =>
          refine ⟨i, j - i, _, rfl, by first | rfl | (congr 1; omega), hi0, by omega, hai, by omega, Nat.le_refl _, by rw [size_swapRange]; exact hds, S2', (show Hid _ from fun f hf => ?_)⟩
          rw [rot_fuel m f (f + i + j) _ _ _ hf (by omega) hi0 (by omega), ← HE.out (f + i + j + 1) (by omega), rotLoop, if_neg hij, if_neg hgt]
theorem insertion_w {P : Program} (L : SLays P) (k : Nat) (aE : ∀ w, (isAgg 25).run P w = .ok true w) (zE : ∀ w, (Go.sizeOf 25).run P w = .ok k w) (enc : α → List Value) (cf : α → α → Int) (g : Nat) (cb : Array Value) (blk off cap : Nat) (d0 d : Array α) (w0 w : World)
    (eg : ∀ args w, (callFunc g args).run P w = .ok (.enter g args) w) (HC : Aside (CmpBelow P g cb enc k cf blk off d0.size w0)) (HZ : Hid (w0.drawn = 0)) (R : RowK enc k w0 blk off d0) (hs : d.size = d0.size) (S0 : Aside (SWK enc k w0 blk off d w)) (hsz : d0.size < 1000000000000) (a b : Nat) (hab : a ≤ b) (hb : b ≤ d0.size) :
    Calls P 34 #[.slice (some ⟨blk, off, none⟩) d0.size cap, .int .i64 a, .int .i64 b, .func (.func g) #[] cb] w fun e w' => e = .returned (.tuple #[]) ∧ SWK enc k w0 blk off (Sort.insertionSort (ltOf cf) d a b) w' := by
  have S' : SWK enc k w0 blk off d (redrawn w 0) := by have := S0.out.regrownZ HZ 0 #[]; rwa [grow_empty] at this
  have hc : CmpBelow P g cb enc k cf blk off d.size (redrawn w 0) := fun dk W h1 h2 => by
    obtain ⟨n, os, rfl⟩ := h2
    exact HC.out dk _ (by omega) (S'.on R.hblk n dk os h1)
  have h := insertionSort_any (P := P) L.mixed L.fIns L.t3 L.a3 L.z3 L.v3 L.t4 L.a4 L.z4 L.v4 L.t22 L.a22 L.z22 L.a25 L.z25 k aE zE enc R.hk R.h1 cf g cb blk off cap a b d w eg hc (S0.out.holds R.hblk R.hH (by omega)) (S0.out.lt R.hblk) hab (by omega) (by omega)
  rw [hs] at h
  refine h.mono ?_
  rintro e w' ⟨rfl, n, os, rfl⟩
  exact ⟨rfl, S'.on R.hblk n _ os (by rw [size_insertion])⟩


end
end Go.Proofs.Ytckekncllmhohaa.Q
