/- tell.Get: the walk. -/
import Derived.Test.YtgcgcgmpihjnaaaGTell
import Derived.Deep.Cut
import Derived.StillTailTactics
import Derived.Outline
import Derived.Deep.RegionHeld3
namespace Go.Proofs.Ytgcgcgmpihjnaaa.Q
open Go.RowKit Go.Proofs.YtgcgcgmpihjnaaaW.PrintWords Go.Proofs.YtgcgcgmpihjnaaaW.PrintLast Go.Proofs.YtgcgcgmpihjnaaaW.PrintMore Go.Proofs.Ytgcgcgmpihjnaaa.G
set_option linter.unusedVariables false
set_option linter.unusedSimpArgs false

/-- Where the walk stands: the reader's block g, the told thing's block T, the result's block R. -/
structure St (w W : World) (l : List Int) (g T R : Nat) (a : Int) (b : Bool) (cs : Array Value) : Prop where
  I : IsS92 w W g l a b
  B : Below w.heap.size w W
  t : W.heap[T]? = some (.cells cs 27 (0, 0))
  r : W.heap[R]? = some (.cells #[.int .i64 0, .int .i64 0, .int .i64 0, .string (⟨#[]⟩ : ByteArray), .int .u8 0, .slice none 0 0, .slice none 0 0] 27 (0, 0))
  ht : w.heap.size ≤ T
  hr : w.heap.size ≤ R
  n1 : T ≠ g
  n2 : R ≠ g
  n3 : T ≠ R
theorem St.call {w W W' : World} {l : List Int} {g T R : Nat} {a a' : Int} {b b' : Bool} {cs : Array Value} (h : St w W l g T R a b cs) (hi : IsS92 w W' g l a' b') (hb : Below w.heap.size w W') (hk : KeepBut W W' g none) : St w W' l g T R a' b' cs :=
  ⟨hi, hb, hk.blk h.t h.n1 (by simp), hk.blk h.r h.n2 (by simp), h.ht, h.hr, h.n1, h.n2, h.n3⟩
theorem St.below {w W W' : World} {l : List Int} {g T R : Nat} {a : Int} {b : Bool} {cs : Array Value} (h : St w W l g T R a b cs) (hb : Below W.heap.size W W') : St w W' l g T R a b cs :=
  ⟨IsS92.below h.I hb, below_then h.B h.B.size hb, blk_below h.t hb, blk_below h.r hb, h.ht, h.hr, h.n1, h.n2, h.n3⟩
theorem St.store {w W : World} {l : List Int} {g T R : Nat} {a : Int} {b : Bool} {cs : Array Value} (h : St w W l g T R a b cs) (j : Nat) (v : Value) : St w (W.setCell ⟨T, j, none⟩ v) l g T R a b (cs.setIfInBounds j v) :=
  ⟨IsS92.far h.I (p := ⟨T, j, none⟩) h.n1.symm v, h.B.setCell (p := ⟨T, j, none⟩) h.ht v, blk_set h.t j v, blk_far h.r (p := ⟨T, j, none⟩) h.n3.symm v, h.ht, h.hr, h.n1, h.n2, h.n3⟩
theorem St.cell {w W : World} {l : List Int} {g T R : Nat} {a : Int} {b : Bool} {cs : Array Value} (h : St w W l g T R a b cs) (j : Nat) {v : Value} (hv : cs[j]? = some v) : W.cell? ⟨T, j, none⟩ = some v := (blk_cell h.t j).trans hv
theorem St.frozen {w W : World} {l : List Int} {g T R : Nat} {a : Int} {b : Bool} {cs : Array Value} (h : St w W l g T R a b cs) (j : Nat) : W.frozen? ⟨T, j, none⟩ = false := blk_frozen h.t j

def tcs (e i d : Int) (c : ByteArray) (s : Int) (x y : Value) : Array Value := #[.int .i64 e, .int .i64 i, .int .i64 d, .string c, .int .u8 s, x, y]

theorem put7 {W : World} {R : Nat} {t : TypeId} {x0 x1 x2 x3 x4 x5 x6 : Value} (h : W.heap[R]? = some (.cells #[x0, x1, x2, x3, x4, x5, x6] t (0, 0))) (v0 v1 v2 v3 v4 v5 v6 : Value) :
    ((((((((W).setCell ⟨R, 0, none⟩ v0).setCell ⟨R, 1, none⟩ v1).setCell ⟨R, 2, none⟩ v2).setCell ⟨R, 3, none⟩ v3).setCell ⟨R, 4, none⟩ v4).setCell ⟨R, 5, none⟩ v5).setCell ⟨R, 6, none⟩ v6).heap[R]? = some (.cells #[v0, v1, v2, v3, v4, v5, v6] t (0, 0)) := by
  have h0 := blk_put (cs' := #[v0, x1, x2, x3, x4, x5, x6]) h 0 v0 rfl
  have h1 := blk_put (cs' := #[v0, v1, x2, x3, x4, x5, x6]) h0 1 v1 rfl
  have h2 := blk_put (cs' := #[v0, v1, v2, x3, x4, x5, x6]) h1 2 v2 rfl
  have h3 := blk_put (cs' := #[v0, v1, v2, v3, x4, x5, x6]) h2 3 v3 rfl
  have h4 := blk_put (cs' := #[v0, v1, v2, v3, v4, x5, x6]) h3 4 v4 rfl
  have h5 := blk_put (cs' := #[v0, v1, v2, v3, v4, v5, x6]) h4 5 v5 rfl
  have h6 := blk_put (cs' := #[v0, v1, v2, v3, v4, v5, v6]) h5 6 v6 rfl
  exact h6
theorem below7 {w W : World} (h : Below w.heap.size w W) (v0 v1 v2 v3 v4 v5 v6 : Value) : Below w.heap.size w ((((((((W).setCell ⟨w.heap.size, 0, none⟩ v0).setCell ⟨w.heap.size, 1, none⟩ v1).setCell ⟨w.heap.size, 2, none⟩ v2).setCell ⟨w.heap.size, 3, none⟩ v3).setCell ⟨w.heap.size, 4, none⟩ v4).setCell ⟨w.heap.size, 5, none⟩ v5).setCell ⟨w.heap.size, 6, none⟩ v6) :=
  below_set (below_set (below_set (below_set (below_set (below_set (below_set (h) (Nat.le_refl _)) (Nat.le_refl _)) (Nat.le_refl _)) (Nat.le_refl _)) (Nat.le_refl _)) (Nat.le_refl _)) (Nat.le_refl _)
theorem R_far7 {α : Type} {d : Kd α} {e : Nat} {W : World} {base R : Nat} {ok : Nat → Prop} {v : Value} {xs : List α} (h : d.R e W base ok v xs) (hok : ∀ k, ok k → k ≠ R) (v0 v1 v2 v3 v4 v5 v6 : Value) : d.R e ((((((((W).setCell ⟨R, 0, none⟩ v0).setCell ⟨R, 1, none⟩ v1).setCell ⟨R, 2, none⟩ v2).setCell ⟨R, 3, none⟩ v3).setCell ⟨R, 4, none⟩ v4).setCell ⟨R, 5, none⟩ v5).setCell ⟨R, 6, none⟩ v6) base ok v xs :=
  Kd.R_far (Kd.R_far (Kd.R_far (Kd.R_far (Kd.R_far (Kd.R_far (Kd.R_far (h) (p := ⟨R, 0, none⟩) hok v0) (p := ⟨R, 1, none⟩) hok v1) (p := ⟨R, 2, none⟩) hok v2) (p := ⟨R, 3, none⟩) hok v3) (p := ⟨R, 4, none⟩) hok v4) (p := ⟨R, 5, none⟩) hok v5) (p := ⟨R, 6, none⟩) hok v6
/-- All is read. -/
structure Dn (w W : World) (l : List Int) (g T : Nat) (q : Int × Int × Int × ByteArray × Int × List S55 × List S57 × Int × Bool) (v5 v6 : Value) : Prop where
  S : St w W l g T w.heap.size q.2.2.2.2.2.2.2.1 q.2.2.2.2.2.2.2.2 (tcs q.1 q.2.1 q.2.2.1 q.2.2.2.1 q.2.2.2.2.1 v5 v6)
  L : Kd.R k55 55 W w.heap.size (fun k => k ≠ g ∧ k ≠ T ∧ k ≠ w.heap.size) v5 q.2.2.2.2.2.1
  U : Kd.R k57 57 W w.heap.size (fun k => k ≠ g ∧ k ≠ T ∧ k ≠ w.heap.size) v6 q.2.2.2.2.2.2.1
  n5 : q.2.2.2.2.2.1.length ≤ 65535
  n6 : q.2.2.2.2.2.2.1.length ≤ 65535

theorem Dn.below {w W W' : World} {l : List Int} {g T : Nat} {q : Int × Int × Int × ByteArray × Int × List S55 × List S57 × Int × Bool} {v5 v6 : Value} (h : Dn w W l g T q v5 v6) (hb : Below W.heap.size W W') : Dn w W' l g T q v5 v6 :=
  ⟨h.S.below hb, Kd.R_below h.L hb, Kd.R_below h.U hb, h.n5, h.n6⟩
set_option maxHeartbeats 4000000 in
set_option maxRecDepth 100000 in
theorem tell_Get.calls (A0 : Option Addr) (c0 : Nat) (l0 : List Int) (r1 r2 r3 : Int) (r4 : ByteArray) (r5 : Int) (r6 : List S55) (r7 : List S57) (r8 r9 : Int) (w : World) (hr0 : Kd.C (Kd.int .u8) w A0 l0.length l0) (hc0 : l0.length ≤ c0) (h : tell_Get.f l0 = some (r1, r2, r3, r4, r5, r6, r7, r8, r9)) :
    Calls Try.prog 19 #[.slice A0 l0.length c0] w fun e w' => ∃ v5_ v6_ : Value, e = .returned (.tuple #[.agg #[.int .i64 r1, .int .i64 r2, .int .i64 r3, .string r4, .int .u8 r5, v5_, v6_], .int .i64 r8, .int .i64 r9]) ∧ Kd.R k55 55 w' w.heap.size (fun _ => True) v5_ r6 ∧ Kd.R k57 57 w' w.heap.size (fun _ => True) v6_ r7 ∧ Below w.heap.size w w' := by
  have HR0 := Aside0.mk hr0
  have HC0 := Aside0.mk hc0
  have hul := Try.underlying27
  clear hr0 hc0
  unfold tell_Get.f at h
  obtain ⟨q, hq, h⟩ := Option.bind_eq_some_iff.mp h
  unfold tell_read at hq
  obtain ⟨⟨n0, a0, b0⟩, hn0, hq⟩ := Option.bind_eq_some_iff.mp hq
  dsimp only at hq
  have HN0 := Lib.hid hn0
  have HQ := Lib.hid hq
  have HH := Lib.hid h
  clear hn0 hq h
  go_enter Try.func19, Try.ntmps19
  go_wp2_with fail
  refine (tell_reader_number.calls (w.heap.size + 1) l0 0 false 2 n0 a0 b0 w _ ?hI ?hB HN0.out).mono ?_
  case hI =>
    have h0 := IsS92.new w (w.alloc (Obj.cells #[Value.int IntKind.i64 0, Value.int IntKind.i64 0, Value.int IntKind.i64 0, Value.string { data := #[] }, Value.int IntKind.u8 0, Value.slice none 0 0, Value.slice none 0 0] 27)) A0 c0 l0 0 false (below_alloc (Below.refl _ _) _) HR0.out HC0.out
    simpa using h0
  case hB => exact below_alloc (below_alloc (Below.refl _ _) _) _
  rintro e w1 ⟨rfl, hi, hb, hk⟩
  have HI1 := Aside0.mk hi
  have HB1 := Aside0.mk hb
  have HR1 := Aside0.mk (hk.blk (g' := w.heap.size) (blk_alloc (blk_new w _) _) (by omega) (by simp))
  clear hi hb hk
  generalize hgg : w.heap.size + 1 = g at HI1 ⊢
  have hS : Aside0 (St w (w1.alloc (Obj.cells #[Value.int IntKind.i64 n0, Value.int IntKind.i64 0, Value.int IntKind.i64 0, Value.string { data := #[] }, Value.int IntKind.u8 0, Value.slice none 0 0, Value.slice none 0 0] 27)) l0 g w1.heap.size w.heap.size a0 b0 (tcs n0 0 0 ⟨#[]⟩ 0 (.slice none 0 0) (.slice none 0 0))) :=
    Aside0.mk ⟨IsS92.alloc HI1.out _, below_alloc HB1.out _, blk_new _ _, blk_alloc HR1.out _, HB1.out.size, Nat.le_refl _, Nat.ne_of_gt (IsS92.lt HI1.out), by omega, Nat.ne_of_gt (blk_lt HR1.out)⟩
  clear HI1 HB1 HR1
  go_upto_if 15 with fail
  generalize (w1.alloc (Obj.cells #[Value.int IntKind.i64 n0, Value.int IntKind.i64 0, Value.int IntKind.i64 0, Value.string { data := #[] }, Value.int IntKind.u8 0, Value.slice none 0 0, Value.slice none 0 0] 27)) = W1 at hS ⊢
  generalize w1.heap.size = T at hS ⊢
  go_cut [] from 7 (fun wc => ∃ v5 v6, Aside0 (Dn w wc l0 g T q v5 v6))
  case first =>
    by_cases hz : n0 = 0
    · have hq := HQ.out
      rw [if_pos hz] at hq
      obtain ⟨⟨n1, a1, b1⟩, h1, hq⟩ := Option.bind_eq_some_iff.mp hq
      obtain ⟨⟨n2, a2, b2⟩, h2, hq⟩ := Option.bind_eq_some_iff.mp hq
      obtain ⟨⟨n3, a3, b3⟩, h3, hq⟩ := Option.bind_eq_some_iff.mp hq
      obtain ⟨⟨n4, a4, b4⟩, h4, hq⟩ := Option.bind_eq_some_iff.mp hq
      obtain ⟨⟨ls, a5, b5⟩, h5, hq⟩ := Option.bind_eq_some_iff.mp hq
      obtain ⟨⟨us, a6, b6⟩, h6, hq⟩ := Option.bind_eq_some_iff.mp hq
      obtain rfl := Option.some.inj hq
      have HN1 := Lib.hid h1
      have HN2 := Lib.hid h2
      have HN3 := Lib.hid h3
      have HN4 := Lib.hid h4
      have HN5 := Lib.hid h5
      have HN6 := Lib.hid h6
      subst hz
      have HL5 := Aside0.mk (tell_list_len h5)
      have HL6 := Aside0.mk (tell_list_len h6)
      clear h1 h2 h3 h4 h5 h6 hq HQ HH h
      go_wp2_with fail
      refine (tell_reader_number.calls g l0 a0 b0 8 n1 a1 b1 w _ hS.out.I hS.out.B HN1.out).mono ?_
      rintro e w2 ⟨rfl, hi, hb, hk⟩
      replace hS := Aside0.mk (hS.out.call hi hb hk)
      clear hi hb hk
      have hc1 := hS.out.cell 1 rfl
      have hf1 := hS.out.frozen 1
      go_wp2_with fail
      replace hS : Aside0 (St w _ l0 g T w.heap.size a1 b1 (tcs 0 n1 0 ⟨#[]⟩ 0 (.slice none 0 0) (.slice none 0 0))) := Aside0.mk (hS.out.store 1 (.int .i64 n1))
      clear hc1 hf1
      refine (tell_reader_number.calls g l0 a1 b1 2 n2 a2 b2 w _ hS.out.I hS.out.B HN2.out).mono ?_
      rintro e w3 ⟨rfl, hi, hb, hk⟩
      replace hS := Aside0.mk (hS.out.call hi hb hk)
      clear hi hb hk
      have hc2 := hS.out.cell 2 rfl
      have hf2 := hS.out.frozen 2
      go_wp2_with fail
      replace hS : Aside0 (St w _ l0 g T w.heap.size a2 b2 (tcs 0 n1 (wrap64 (n2 - 1)) ⟨#[]⟩ 0 (.slice none 0 0) (.slice none 0 0))) := Aside0.mk (hS.out.store 2 (.int .i64 (wrap64 (n2 - 1))))
      clear hc2 hf2
      refine (tell_reader_code.calls g l0 a2 b2 n3 a3 b3 w _ hS.out.I hS.out.B HN3.out).mono ?_
      rintro e w4 ⟨rfl, hi, hb, hk⟩
      replace hS := Aside0.mk (hS.out.call hi hb hk)
      clear hi hb hk
      have hc3 := hS.out.cell 3 rfl
      have hf3 := hS.out.frozen 3
      go_wp2_with fail
      replace hS : Aside0 (St w _ l0 g T w.heap.size a3 b3 (tcs 0 n1 (wrap64 (n2 - 1)) n3 0 (.slice none 0 0) (.slice none 0 0))) := Aside0.mk (hS.out.store 3 (.string n3))
      clear hc3 hf3
      refine (tell_reader_number.calls g l0 a3 b3 1 n4 a4 b4 w _ hS.out.I hS.out.B HN4.out).mono ?_
      rintro e w5 ⟨rfl, hi, hb, hk⟩
      replace hS := Aside0.mk (hS.out.call hi hb hk)
      clear hi hb hk
      have hc4 := hS.out.cell 4 rfl
      have hf4 := hS.out.frozen 4
      go_wp2_with fail
      replace hS : Aside0 (St w _ l0 g T w.heap.size a4 b4 (tcs 0 n1 (wrap64 (n2 - 1)) n3 (n4 % 256) (.slice none 0 0) (.slice none 0 0))) := Aside0.mk (hS.out.store 4 (.int .u8 (n4 % 256)))
      clear hc4 hf4
      have hok5 : ∀ k, (World.setCell w5 ⟨T, 4, none⟩ (.int .u8 (n4 % 256))).heap.size ≤ k → k ≠ g ∧ k ≠ T ∧ k ≠ w.heap.size := fun k hk => ⟨Nat.ne_of_gt (Nat.lt_of_lt_of_le hS.out.I.lt hk), Nat.ne_of_gt (Nat.lt_of_lt_of_le (blk_lt hS.out.t) hk), Nat.ne_of_gt (Nat.lt_of_lt_of_le (blk_lt hS.out.r) hk)⟩
      have HOK5 := Aside0.mk hok5
      clear hok5
      refine (tell_list_Lot.calls g l0 a4 b4 ls a5 b5 w _ hS.out.I hS.out.B HN5.out).mono ?_
      rintro e w6 ⟨v5, rfl, hr5, hi, hb, hk⟩
      obtain ⟨A5, k5, hv5⟩ := Kd.R_slice hr5
      subst hv5
      replace hS := Aside0.mk (hS.out.call hi hb hk)
      have HR5 := Aside0.mk (Kd.R_mono hr5 HOK5.out)
      clear hi hb hk hr5
      have hc5 := hS.out.cell 5 rfl
      have hf5 := hS.out.frozen 5
      go_wp2_with fail
      replace hS : Aside0 (St w _ l0 g T w.heap.size a5 b5 (tcs 0 n1 (wrap64 (n2 - 1)) n3 (n4 % 256) (.slice A5 ls.length k5) (.slice none 0 0))) := Aside0.mk (hS.out.store 5 (.slice A5 ls.length k5))
      replace HR5 := Aside0.mk (Kd.R_far HR5.out (p := ⟨T, 5, none⟩) (fun k hk => hk.2.1) (.slice A5 ls.length k5))
      clear hc5 hf5
      have hok6 : ∀ k, (World.setCell w6 ⟨T, 5, none⟩ (.slice A5 ls.length k5)).heap.size ≤ k → k ≠ g ∧ k ≠ T ∧ k ≠ w.heap.size := fun k hk => ⟨Nat.ne_of_gt (Nat.lt_of_lt_of_le hS.out.I.lt hk), Nat.ne_of_gt (Nat.lt_of_lt_of_le (blk_lt hS.out.t) hk), Nat.ne_of_gt (Nat.lt_of_lt_of_le (blk_lt hS.out.r) hk)⟩
      have HOK6 := Aside0.mk hok6
      clear hok6
      refine (tell_list_Use.calls g l0 a5 b5 us a6 b6 w _ hS.out.I hS.out.B HN6.out).mono ?_
      rintro e w7 ⟨v6, rfl, hr6, hi, hb, hk⟩
      obtain ⟨A6, k6, hv6⟩ := Kd.R_slice hr6
      subst hv6
      replace hS := Aside0.mk (hS.out.call hi hb hk)
      have HR6 := Aside0.mk (Kd.R_mono hr6 HOK6.out)
      replace HR5 := Aside0.mk (Kd.R_keep HR5.out hk (fun k hk => hk.1))
      clear hi hb hk hr6
      have hc6 := hS.out.cell 6 rfl
      have hf6 := hS.out.frozen 6
      go_wp2_with fail
      replace hS : Aside0 (St w _ l0 g T w.heap.size a6 b6 (tcs 0 n1 (wrap64 (n2 - 1)) n3 (n4 % 256) (.slice A5 ls.length k5) (.slice A6 us.length k6))) := Aside0.mk (hS.out.store 6 (.slice A6 us.length k6))
      go_meet
      case rel => exact ⟨(.slice A5 ls.length k5), (.slice A6 us.length k6), Aside0.mk ⟨hS.out, Kd.R_far HR5.out (p := ⟨T, 6, none⟩) (fun k hk => hk.2.1) (.slice A6 us.length k6), Kd.R_far HR6.out (p := ⟨T, 6, none⟩) (fun k hk => hk.2.1) (.slice A6 us.length k6), HL5.out, HL6.out⟩⟩
    · have hq := HQ.out
      rw [if_neg hz] at hq
      obtain rfl := Option.some.inj hq
      clear hq HQ HH h
      go_wp2_with fail
      go_meet
      case rel => exact ⟨_, _, Aside0.mk ⟨hS.out, Kd.R_nil _ _ _ _ _, Kd.R_nil _ _ _ _ _, Nat.zero_le _, Nat.zero_le _⟩⟩
  case rest =>
    obtain ⟨v5, v6, D⟩ := hcut
    obtain ⟨A5, k5, hv5⟩ := Kd.R_slice D.out.L
    obtain ⟨A6, k6, hv6⟩ := Kd.R_slice D.out.U
    subst hv5 hv6
    obtain ⟨e, i, d, c, s, ls, us, a, b⟩ := q
    have hh := HH.out
    dsimp only at hh
    generalize wc = W at D ⊢
    obtain ⟨A2, c2, HG2, -, -⟩ := D.out.S.I
    have hx1 := cellS92_1 HG2
    have hx2 := cellS92_2 HG2
    clear HG2 HQ HH h
    have htc0 : W.cell? ⟨T, 0, none⟩ = some (.int .i64 e) := D.out.S.cell 0 rfl
    have htc1 : W.cell? ⟨T, 1, none⟩ = some (.int .i64 i) := D.out.S.cell 1 rfl
    have htc2 : W.cell? ⟨T, 2, none⟩ = some (.int .i64 d) := D.out.S.cell 2 rfl
    have htc3 : W.cell? ⟨T, 3, none⟩ = some (.string c) := D.out.S.cell 3 rfl
    have htc4 : W.cell? ⟨T, 4, none⟩ = some (.int .u8 s) := D.out.S.cell 4 rfl
    have htc5 : W.cell? ⟨T, 5, none⟩ = some (.slice A5 ls.length k5) := D.out.S.cell 5 rfl
    have htc6 : W.cell? ⟨T, 6, none⟩ = some (.slice A6 us.length k6) := D.out.S.cell 6 rfl
    have hrc0 : W.cell? ⟨w.heap.size, 0, none⟩ = some (.int .i64 0) := (blk_cell D.out.S.r 0).trans rfl
    have hrf0 := blk_frozen D.out.S.r 0
    have hrc1 : W.cell? ⟨w.heap.size, 1, none⟩ = some (.int .i64 0) := (blk_cell D.out.S.r 1).trans rfl
    have hrf1 := blk_frozen D.out.S.r 1
    have hrc2 : W.cell? ⟨w.heap.size, 2, none⟩ = some (.int .i64 0) := (blk_cell D.out.S.r 2).trans rfl
    have hrf2 := blk_frozen D.out.S.r 2
    have hrc3 : W.cell? ⟨w.heap.size, 3, none⟩ = some (.string (⟨#[]⟩ : ByteArray)) := (blk_cell D.out.S.r 3).trans rfl
    have hrf3 := blk_frozen D.out.S.r 3
    have hrc4 : W.cell? ⟨w.heap.size, 4, none⟩ = some (.int .u8 0) := (blk_cell D.out.S.r 4).trans rfl
    have hrf4 := blk_frozen D.out.S.r 4
    have hrc5 : W.cell? ⟨w.heap.size, 5, none⟩ = some (.slice none 0 0) := (blk_cell D.out.S.r 5).trans rfl
    have hrf5 := blk_frozen D.out.S.r 5
    have hrc6 : W.cell? ⟨w.heap.size, 6, none⟩ = some (.slice none 0 0) := (blk_cell D.out.S.r 6).trans rfl
    have hrf6 := blk_frozen D.out.S.r 6
    cases b
    · have hc5 := Kd.R_reads' D.out.L
      have hc6 := Kd.R_reads' D.out.U
      have hb5 : ls.length ≤ 1152921504606846976 := by have h5 : ls.length ≤ 65535 := D.out.n5; omega
      have hb6 : us.length ≤ 1152921504606846976 := by have h6 : us.length ≤ 65535 := D.out.n6; omega
      have HRT := Aside0.mk (tell_Right.calls 2400 e i d c s A5 k5 ls A6 k6 us (rightB e i d c s ls us) W hc5.2.2 hc5.2.1 hc6.2.2 hc6.2.1 (tell_Right_is e i d c s ls us hb5 hb6 2400 (Nat.le_refl _)))
      clear hc5 hc6
      rw [if_neg (by decide)] at hh
      have HH2 := Lib.hid hh
      clear hh hb5 hb6
      go_wp2_with fail
      refine HRT.out.mono ?_
      rintro e' W2 ⟨rfl, hb⟩
      replace D := Aside0.mk (D.out.below hb)
      cases hrb : rightB e i d c s ls us
      · have hh := HH2.out
        rw [if_neg (by rw [hrb]; decide)] at hh
        simp only [Option.some.injEq, Prod.mk.injEq] at hh
        obtain ⟨rfl, rfl, rfl, rfl, rfl, rfl, rfl, rfl, rfl⟩ := hh
        clear hb HRT HH2
        clear hx1 hx2 htc0 htc1 htc2 htc3 htc4 htc5 htc6 hrc0 hrf0 hrc1 hrf1 hrc2 hrf2 hrc3 hrf3 hrc4 hrf4 hrc5 hrf5 hrc6 hrf6
        clear W
        generalize W2 = W at D ⊢
        obtain ⟨A2, c2, HG2, -, -⟩ := D.out.S.I
        have hx1 := cellS92_1 HG2
        have hx2 := cellS92_2 HG2
        clear HG2
        have htc0 : W.cell? ⟨T, 0, none⟩ = some (.int .i64 e) := D.out.S.cell 0 rfl
        have htc1 : W.cell? ⟨T, 1, none⟩ = some (.int .i64 i) := D.out.S.cell 1 rfl
        have htc2 : W.cell? ⟨T, 2, none⟩ = some (.int .i64 d) := D.out.S.cell 2 rfl
        have htc3 : W.cell? ⟨T, 3, none⟩ = some (.string c) := D.out.S.cell 3 rfl
        have htc4 : W.cell? ⟨T, 4, none⟩ = some (.int .u8 s) := D.out.S.cell 4 rfl
        have htc5 : W.cell? ⟨T, 5, none⟩ = some (.slice A5 ls.length k5) := D.out.S.cell 5 rfl
        have htc6 : W.cell? ⟨T, 6, none⟩ = some (.slice A6 us.length k6) := D.out.S.cell 6 rfl
        have hrc0 : W.cell? ⟨w.heap.size, 0, none⟩ = some (.int .i64 0) := (blk_cell D.out.S.r 0).trans rfl
        have hrf0 := blk_frozen D.out.S.r 0
        have hrc1 : W.cell? ⟨w.heap.size, 1, none⟩ = some (.int .i64 0) := (blk_cell D.out.S.r 1).trans rfl
        have hrf1 := blk_frozen D.out.S.r 1
        have hrc2 : W.cell? ⟨w.heap.size, 2, none⟩ = some (.int .i64 0) := (blk_cell D.out.S.r 2).trans rfl
        have hrf2 := blk_frozen D.out.S.r 2
        have hrc3 : W.cell? ⟨w.heap.size, 3, none⟩ = some (.string (⟨#[]⟩ : ByteArray)) := (blk_cell D.out.S.r 3).trans rfl
        have hrf3 := blk_frozen D.out.S.r 3
        have hrc4 : W.cell? ⟨w.heap.size, 4, none⟩ = some (.int .u8 0) := (blk_cell D.out.S.r 4).trans rfl
        have hrf4 := blk_frozen D.out.S.r 4
        have hrc5 : W.cell? ⟨w.heap.size, 5, none⟩ = some (.slice none 0 0) := (blk_cell D.out.S.r 5).trans rfl
        have hrf5 := blk_frozen D.out.S.r 5
        have hrc6 : W.cell? ⟨w.heap.size, 6, none⟩ = some (.slice none 0 0) := (blk_cell D.out.S.r 6).trans rfl
        have hrf6 := blk_frozen D.out.S.r 6
        go_wp2_with fail
        refine bodyPost_ret (results_ctt rfl _ _ w.heap.size 27 _ (0, 0) _ rfl (put7 D.out.S.r _ _ _ _ _ _ _) hul rfl (by kernel_rfl)) rfl ?_
        exact ⟨_, _, rfl, Kd.R_nil _ _ _ _ _, Kd.R_nil _ _ _ _ _, below7 D.out.S.B _ _ _ _ _ _ _⟩
      · have hh := HH2.out
        rw [if_pos hrb] at hh
        simp only [Option.some.injEq, Prod.mk.injEq] at hh
        obtain ⟨rfl, rfl, rfl, rfl, rfl, rfl, rfl, rfl, rfl⟩ := hh
        clear hb HRT HH2
        clear hx1 hx2 htc0 htc1 htc2 htc3 htc4 htc5 htc6 hrc0 hrf0 hrc1 hrf1 hrc2 hrf2 hrc3 hrf3 hrc4 hrf4 hrc5 hrf5 hrc6 hrf6
        clear W
        generalize W2 = W at D ⊢
        obtain ⟨A2, c2, HG2, -, -⟩ := D.out.S.I
        have hx1 := cellS92_1 HG2
        have hx2 := cellS92_2 HG2
        clear HG2
        have htc0 : W.cell? ⟨T, 0, none⟩ = some (.int .i64 e) := D.out.S.cell 0 rfl
        have htc1 : W.cell? ⟨T, 1, none⟩ = some (.int .i64 i) := D.out.S.cell 1 rfl
        have htc2 : W.cell? ⟨T, 2, none⟩ = some (.int .i64 d) := D.out.S.cell 2 rfl
        have htc3 : W.cell? ⟨T, 3, none⟩ = some (.string c) := D.out.S.cell 3 rfl
        have htc4 : W.cell? ⟨T, 4, none⟩ = some (.int .u8 s) := D.out.S.cell 4 rfl
        have htc5 : W.cell? ⟨T, 5, none⟩ = some (.slice A5 ls.length k5) := D.out.S.cell 5 rfl
        have htc6 : W.cell? ⟨T, 6, none⟩ = some (.slice A6 us.length k6) := D.out.S.cell 6 rfl
        have hrc0 : W.cell? ⟨w.heap.size, 0, none⟩ = some (.int .i64 0) := (blk_cell D.out.S.r 0).trans rfl
        have hrf0 := blk_frozen D.out.S.r 0
        have hrc1 : W.cell? ⟨w.heap.size, 1, none⟩ = some (.int .i64 0) := (blk_cell D.out.S.r 1).trans rfl
        have hrf1 := blk_frozen D.out.S.r 1
        have hrc2 : W.cell? ⟨w.heap.size, 2, none⟩ = some (.int .i64 0) := (blk_cell D.out.S.r 2).trans rfl
        have hrf2 := blk_frozen D.out.S.r 2
        have hrc3 : W.cell? ⟨w.heap.size, 3, none⟩ = some (.string (⟨#[]⟩ : ByteArray)) := (blk_cell D.out.S.r 3).trans rfl
        have hrf3 := blk_frozen D.out.S.r 3
        have hrc4 : W.cell? ⟨w.heap.size, 4, none⟩ = some (.int .u8 0) := (blk_cell D.out.S.r 4).trans rfl
        have hrf4 := blk_frozen D.out.S.r 4
        have hrc5 : W.cell? ⟨w.heap.size, 5, none⟩ = some (.slice none 0 0) := (blk_cell D.out.S.r 5).trans rfl
        have hrf5 := blk_frozen D.out.S.r 5
        have hrc6 : W.cell? ⟨w.heap.size, 6, none⟩ = some (.slice none 0 0) := (blk_cell D.out.S.r 6).trans rfl
        have hrf6 := blk_frozen D.out.S.r 6
        go_upto_region 12 with fail
        have hn3 : ¬ T = w.heap.size := D.out.S.n3
        have hn3' : ¬ w.heap.size = T := fun h => D.out.S.n3 h.symm
        have hn2 : ¬ w.heap.size = g := D.out.S.n2
        have hn2' : ¬ g = w.heap.size := fun h => D.out.S.n2 h.symm
        go_region_held3 (fun w' => w'.cell? ⟨g, 1, none⟩ = some (.int .i64 a) ∧ w'.cell? ⟨T, 0, none⟩ = some (.int .i64 e) ∧ w'.cell? ⟨T, 1, none⟩ = some (.int .i64 i) ∧ w'.cell? ⟨T, 2, none⟩ = some (.int .i64 d) ∧ w'.cell? ⟨T, 3, none⟩ = some (.string c) ∧ w'.cell? ⟨T, 4, none⟩ = some (.int .u8 s) ∧ w'.cell? ⟨T, 5, none⟩ = some (.slice A5 ls.length k5) ∧ w'.cell? ⟨T, 6, none⟩ = some (.slice A6 us.length k6)) (go_keep) (fail)
        go_wp2_with fail
        refine bodyPost_ret (results_ctt rfl _ _ w.heap.size 27 _ (0, 0) _ rfl (blk_drew (put7 D.out.S.r _ _ _ _ _ _ _)) hul rfl (by kernel_rfl)) rfl ?_
        exact ⟨_, _, rfl, Kd.R_drew (Kd.R_mono (R_far7 D.out.L (fun k hk => hk.2.2) _ _ _ _ _ _ _) (fun _ _ => trivial)), Kd.R_drew (Kd.R_mono (R_far7 D.out.U (fun k hk => hk.2.2) _ _ _ _ _ _ _) (fun _ _ => trivial)), below_drew (below7 D.out.S.B _ _ _ _ _ _ _)⟩
    · rw [if_pos rfl] at hh
      simp only [Option.some.injEq, Prod.mk.injEq] at hh
      obtain ⟨rfl, rfl, rfl, rfl, rfl, rfl, rfl, rfl, rfl⟩ := hh
      go_wp2_with fail
      refine bodyPost_ret (results_ctt rfl _ _ w.heap.size 27 _ (0, 0) _ rfl (put7 D.out.S.r _ _ _ _ _ _ _) hul rfl (by kernel_rfl)) rfl ?_
      exact ⟨_, _, rfl, Kd.R_nil _ _ _ _ _, Kd.R_nil _ _ _ _ _, below7 D.out.S.B _ _ _ _ _ _ _⟩
end Go.Proofs.Ytgcgcgmpihjnaaa.Q
