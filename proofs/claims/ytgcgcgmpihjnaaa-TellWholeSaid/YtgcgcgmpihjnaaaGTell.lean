/- tell.list, tell.Get: what they answer. -/
import Derived.Test.YtgcgcgmpihjnaaaQ11
import Derived.Test.YtgcgcgmpihjnaaaGRight
import Derived.Test.YtgcgcgmpihjnaaaGRead
import Derived.Deep.LoopGhost
namespace Go.Proofs.Ytgcgcgmpihjnaaa.Q
open Go.RowKit Go.Proofs.YtgcgcgmpihjnaaaW.PrintWords Go.Proofs.YtgcgcgmpihjnaaaW.PrintLast Go.Proofs.YtgcgcgmpihjnaaaW.PrintMore Go.Proofs.Ytgcgcgmpihjnaaa.G
set_option linter.unusedVariables false
set_option linter.unusedSimpArgs false

/-- A list's parts, one by one, till they are all, or the reader is bad. -/
def readList {α : Type} (one : Int → Bool → Option (α × Int × Bool)) : Nat → Int → Bool → Option (List α × Int × Bool)
  | 0, a, b => some ([], a, b)
  | n + 1, a, b => if b = true then some ([], a, b) else (one a b).bind fun r => (readList one n r.2.1 r.2.2).map fun q => (r.1 :: q.1, q.2)
def oneLot (l : List Int) (a : Int) (b : Bool) : Option (S55 × Int × Bool) := (tell_reader_lot.f l a b).map fun r => (⟨r.1, r.2.1, ⟨r.2.2.1, r.2.2.2.1⟩, r.2.2.2.2.1, r.2.2.2.2.2.1⟩, r.2.2.2.2.2.2.1, r.2.2.2.2.2.2.2)
def oneUse (l : List Int) (a : Int) (b : Bool) : Option (S57 × Int × Bool) := (tell_reader_use.f l a b).map fun r => (⟨r.1, r.2.1, r.2.2.1⟩, r.2.2.2.1, r.2.2.2.2)
def tell_list {α : Type} (one : Int → Bool → Option (α × Int × Bool)) (l : List Int) (a : Int) (b : Bool) : Option (List α × Int × Bool) :=
  (tell_reader_number.f l a b 2).bind fun r => if 0 ≤ r.1 ∧ r.1 ≤ 65535 then readList one r.1.toNat r.2.1 r.2.2 else none

/-- The reader's way through bytes: all that was read, whether it was bad, where it stands. -/
def tell_read (l : List Int) : Option (Int × Int × Int × ByteArray × Int × List S55 × List S57 × Int × Bool) :=
  (tell_reader_number.f l 0 false 2).bind fun r0 =>
    if r0.1 = 0 then
      (tell_reader_number.f l r0.2.1 r0.2.2 8).bind fun r1 =>
      (tell_reader_number.f l r1.2.1 r1.2.2 2).bind fun r2 =>
      (tell_reader_code.f l r2.2.1 r2.2.2).bind fun r3 =>
      (tell_reader_number.f l r3.2.1 r3.2.2 1).bind fun r4 =>
      (tell_list (oneLot l) l r4.2.1 r4.2.2).bind fun r5 =>
      (tell_list (oneUse l) l r5.2.1 r5.2.2).bind fun r6 =>
      some (r0.1, r1.1, wrap64 (r2.1 - 1), r3.1, r4.1 % 256, r5.1, r6.1, r6.2.1, r6.2.2)
    else some (r0.1, 0, 0, (⟨#[]⟩ : ByteArray), 0, [], [], r0.2.1, r0.2.2)
def tell_Get.f (l : List Int) : Option (Int × Int × Int × ByteArray × Int × List S55 × List S57 × Int × Int) :=
  (tell_read l).bind fun r =>
    if r.2.2.2.2.2.2.2.2 = true then some (0, 0, 0, (⟨#[]⟩ : ByteArray), 0, [], [], 0, 4)
    else if rightB r.1 r.2.1 r.2.2.1 r.2.2.2.1 r.2.2.2.2.1 r.2.2.2.2.2.1 r.2.2.2.2.2.2.1 = true then some (r.1, r.2.1, r.2.2.1, r.2.2.2.1, r.2.2.2.2.1, r.2.2.2.2.2.1, r.2.2.2.2.2.2.1, r.2.2.2.2.2.2.2.1, 0)
    else some (0, 0, 0, (⟨#[]⟩ : ByteArray), 0, [], [], 0, 4)
def zLot : Value := .agg #[.int .i64 0, .string (⟨#[]⟩ : ByteArray), .int .i64 0, .int .i64 0, .int .i64 0, .bool false]
theorem infoLot : (Try.prog.info? 55).map (fun i => (i.zero, i.size, i.bytes)) = some (some zLot, k55.sz, 56) := by kernel_rfl
theorem own_none_or {v : Value} {n : Nat} (h : ∀ k, v.ownBlock = some k → n ≤ k) : v.ownBlock = none ∨ ∃ b, v.ownBlock = some b ∧ n ≤ b := by
  cases hv : v.ownBlock with
  | none => exact .inl rfl
  | some b => exact .inr ⟨b, rfl, h b hv⟩
theorem readList_len {α : Type} (one : Int → Bool → Option (α × Int × Bool)) : ∀ (n : Nat) (a : Int) (b : Bool) (xs : List α) (r : Int × Bool), readList one n a b = some (xs, r) → xs.length ≤ n
  | 0, a, b, xs, r, h => by
    simp only [readList, Option.some.injEq, Prod.mk.injEq] at h
    rw [← h.1]; exact Nat.le_refl _
  | n + 1, a, b, xs, r, h => by
    unfold readList at h
    cases b
    · rw [if_neg (by decide)] at h
      obtain ⟨x, hx, h⟩ := Option.bind_eq_some_iff.mp h
      obtain ⟨⟨ys, r'⟩, hy, h⟩ := Option.map_eq_some_iff.mp h
      have := readList_len one n _ _ ys r' hy
      simp only [Prod.mk.injEq] at h
      rw [← h.1, List.length_cons]
      omega
    · rw [if_pos rfl] at h
      simp only [Option.some.injEq, Prod.mk.injEq] at h
      rw [← h.1]; exact Nat.zero_le _
theorem tell_list_len {α : Type} {one : Int → Bool → Option (α × Int × Bool)} {l : List Int} {a : Int} {b : Bool} {xs : List α} {r : Int × Bool} (h : tell_list one l a b = some (xs, r)) : xs.length ≤ 65535 := by
  unfold tell_list at h
  obtain ⟨⟨n, a1, b1⟩, hn, h⟩ := Option.bind_eq_some_iff.mp h
  dsimp only at h
  by_cases hr : 0 ≤ n ∧ n ≤ 65535
  · rw [if_pos hr] at h
    have := readList_len one _ _ _ _ _ h
    omega
  · rw [if_neg hr] at h; cases h
set_option maxHeartbeats 4000000 in
set_option maxRecDepth 100000 in
theorem tell_list_Lot.calls (g : Nat) (s0_0 : List Int) (s0_1 : Int) (s0_2 : Bool) (rs : List S55) (r2 : Int) (r3 : Bool) (w0 w : World) (hI : IsS92 w0 w g s0_0 s0_1 s0_2) (hB : Below w0.heap.size w0 w) (h : tell_list (oneLot s0_0) s0_0 s0_1 s0_2 = some (rs, r2, r3)) :
    Calls Try.prog 45 #[.pointer (some ⟨g, 0, none⟩), .func (.func 46) #[.pointer (some ⟨g, 0, none⟩)] #[]] w fun e w' => ∃ v : Value, e = .returned v ∧ k55.R 55 w' w0.heap.size (fun k => w.heap.size ≤ k) v rs ∧ IsS92 w0 w' g s0_0 r2 r3 ∧ Below w0.heap.size w0 w' ∧ KeepBut w w' g none := by
  have HI := Aside0.mk hI
  have HB := Aside0.mk hB
  have HG0 := Aside0.mk hI.ge
  have HGL := Aside0.mk hI.lt
  clear hI hB
  unfold tell_list at h
  obtain ⟨⟨n, a1, b1⟩, hn, h⟩ := Option.bind_eq_some_iff.mp h
  dsimp only at h
  by_cases hr : 0 ≤ n ∧ n ≤ 65535
  · rw [if_pos hr] at h
    obtain ⟨m, rfl⟩ := Int.eq_ofNat_of_zero_le hr.1
    have hm : m ≤ 65535 := by omega
    rw [Int.toNat_natCast] at h
    have HN := Lib.hid hn
    have HH := Lib.hid h
    have HM := Lib.hid hm
    clear hn h hm hr
    go_enter Try.func45, Try.ntmps45
    go_wp2_with (first | (go_at_call 43; refine (tell_reader_number.calls g s0_0 s0_1 s0_2 2 (m : Int) a1 b1 w0 _ HI.out HB.out HN.out).mono ?_; rintro e wa ⟨rfl, hia, hba, hka⟩; have HIA := Aside0.mk hia; have HBA := Aside0.mk hba; have HKA := Aside0.mk hka; clear hia hba hka))
    go_loopg [5, 6] m (fun k s5 s6 wr => ∃ (xs : List S55) (a : Int) (b : Bool), s6 = .int .i64 (k : Int) ∧ Aside0 (k55.R 55 wr w0.heap.size (fun k => w.heap.size ≤ k) s5 xs) ∧ Aside0 (IsS92 w0 wr g s0_0 a b) ∧ Aside0 (Below w0.heap.size w0 wr) ∧ Aside0 (KeepBut w wr g none) ∧ Hid ((readList (oneLot s0_0) k a b).map (fun q => (xs ++ q.1, q.2)) = some (rs, r2, r3)) ∧ Hid (xs.length + k ≤ 65535))
    case atStart => exact ⟨[], a1, b1, rfl, Aside0.mk (Kd.R_nil _ _ _ _ _), HIA, HBA, HKA, Lib.hid (by rw [HH.out]; rfl), Lib.hid (by have := HM.out; simpa using this)⟩
    case round =>
      obtain ⟨xs, a, b, rfl, HR, HI1, HB1, HK1, HE, HL⟩ := hrel
      obtain ⟨A2, c2, HG2, -, -⟩ := HI1.out
      have hx2 := cellS92_2 HG2
      clear HG2
      cases gk with
      | zero =>
        have hz : xs = rs ∧ a = r2 ∧ b = r3 := by
          have he := HE.out
          simp only [readList, Option.map_some, List.append_nil, Option.some.injEq, Prod.mk.injEq] at he
          exact he
        obtain ⟨rfl, rfl, rfl⟩ := hz
        go_wp2
        go_ret
        exact ⟨_, rfl, HR.out, HI1.out, HB1.out, HK1.out⟩
      | succ n =>
        have hpos : (0 : Int) < ((n + 1 : Nat) : Int) := by omega
        cases b
        · have he := HE.out
          rw [readList, if_neg (by decide)] at he
          obtain ⟨q, hq1, hq2⟩ := Option.map_eq_some_iff.mp he
          obtain ⟨⟨x, a', b'⟩, ho, hq1⟩ := Option.bind_eq_some_iff.mp hq1
          obtain ⟨q', hq', rfl⟩ := Option.map_eq_some_iff.mp hq1
          dsimp only at hq' hq2
          obtain ⟨⟨x0, x1, x2, x3, x4, x5, a'', b''⟩, hlot, he⟩ := Option.map_eq_some_iff.mp ho
          simp only [Prod.mk.injEq] at he
          obtain ⟨rfl, rfl, rfl⟩ := he
          have HO := Lib.hid hlot
          have HQ' := Lib.hid hq'
          have HQ2 := Lib.hid hq2
          clear ho hlot hq' hq2 hq1 HE
          have hne : ∀ k, u5.ownBlock = some k → w.heap.size ≤ k := HR.out.1
          have HNE := Lib.hid hne
          clear hne
          go_wp2_with (first | (go_at_call 46; refine (tell_reader_lot.calls g s0_0 a false _ _ _ _ _ _ _ _ w0 _ HI1.out HB1.out HO.out).mono ?_; rintro e wb ⟨rfl, hib, hbb, hkb⟩; have HIB := Aside0.mk hib; have HBB := Aside0.mk hbb; have HKB := Aside0.mk hkb; clear hib hbb hkb) | ((with_reducible refine gate_builtin (b := .append) (xs := #[.tmp 20, .tmp 23]) rfl ?_); at_builtin; refine Kd.R_append k55 (w0 := w0) w0.heap.size rfl (.tmp 20) (.tmp 23) 24 55 zLot 56 rfl Try.underlying24 infoLot rfl (by decide) (by omega) u5 xs ⟨x0, x1, ⟨x2, x3⟩, x4, x5⟩ _ (fun k => w.heap.size ≤ k) (fun _ => False) rfl rfl (k55_mkM _ _ _ _) (fun _ hk => hk.elim) (fun k hk => Nat.le_trans (Nat.le_trans HK1.out.1 HKB.out.1) hk) (Kd.R_keep HR.out HKB.out (fun k hk => by have := HGL.out; omega)) HBB.out HBB.out.size (by have := HL.out; omega) ?_; intro v1 w2 ho hb hg hat; have HR2 := Aside0.mk ho; have HB2 := Aside0.mk hb; have HI2 := Aside0.mk (IsS92.grown HIB.out hg (fun he => by have := HNE.out g he.symm; have := HGL.out; omega)); have HK2 := Aside0.mk ((HK1.out.trans HKB.out (.inl rfl)).trans (KeepBut.of_grown hg g) (own_none_or HNE.out)); clear ho hb hg hat) | fail)
          go_roundg n
          case measure => omega
          case rel => exact ⟨_, a'', b'', congrArg (Value.int .i64) (by have := HL.out; unfold wrap64; omega), HR2, HI2, HB2, HK2, Lib.hid (by rw [HQ'.out, Option.map_some, ← HQ2.out, List.append_assoc]; rfl), Lib.hid (by have := HL.out; simp; omega)⟩
        · have hz : xs = rs ∧ a = r2 ∧ true = r3 := by
            have he := HE.out
            rw [readList, if_pos rfl] at he
            simp only [Option.map_some, List.append_nil, Option.some.injEq, Prod.mk.injEq] at he
            exact he
          obtain ⟨rfl, rfl, rfl⟩ := hz
          go_wp2
          go_ret
          exact ⟨_, rfl, HR.out, HI1.out, HB1.out, HK1.out⟩
  · rw [if_neg hr] at h
    cases h
def zUse : Value := .agg #[.int .i64 0, .int .i64 0, .int .i64 0]
theorem infoUse : (Try.prog.info? 57).map (fun i => (i.zero, i.size, i.bytes)) = some (some zUse, k57.sz, 24) := by kernel_rfl
set_option maxHeartbeats 4000000 in
set_option maxRecDepth 100000 in
theorem tell_list_Use.calls (g : Nat) (s0_0 : List Int) (s0_1 : Int) (s0_2 : Bool) (rs : List S57) (r2 : Int) (r3 : Bool) (w0 w : World) (hI : IsS92 w0 w g s0_0 s0_1 s0_2) (hB : Below w0.heap.size w0 w) (h : tell_list (oneUse s0_0) s0_0 s0_1 s0_2 = some (rs, r2, r3)) :
    Calls Try.prog 47 #[.pointer (some ⟨g, 0, none⟩), .func (.func 48) #[.pointer (some ⟨g, 0, none⟩)] #[]] w fun e w' => ∃ v : Value, e = .returned v ∧ k57.R 57 w' w0.heap.size (fun k => w.heap.size ≤ k) v rs ∧ IsS92 w0 w' g s0_0 r2 r3 ∧ Below w0.heap.size w0 w' ∧ KeepBut w w' g none := by
  have HI := Aside0.mk hI
  have HB := Aside0.mk hB
  have HG0 := Aside0.mk hI.ge
  have HGL := Aside0.mk hI.lt
  clear hI hB
  unfold tell_list at h
  obtain ⟨⟨n, a1, b1⟩, hn, h⟩ := Option.bind_eq_some_iff.mp h
  dsimp only at h
  by_cases hr : 0 ≤ n ∧ n ≤ 65535
  · rw [if_pos hr] at h
    obtain ⟨m, rfl⟩ := Int.eq_ofNat_of_zero_le hr.1
    have hm : m ≤ 65535 := by omega
    rw [Int.toNat_natCast] at h
    have HN := Lib.hid hn
    have HH := Lib.hid h
    have HM := Lib.hid hm
    clear hn h hm hr
    go_enter Try.func47, Try.ntmps47
    go_wp2_with (first | (go_at_call 43; refine (tell_reader_number.calls g s0_0 s0_1 s0_2 2 (m : Int) a1 b1 w0 _ HI.out HB.out HN.out).mono ?_; rintro e wa ⟨rfl, hia, hba, hka⟩; have HIA := Aside0.mk hia; have HBA := Aside0.mk hba; have HKA := Aside0.mk hka; clear hia hba hka))
    go_loopg [5, 6] m (fun k s5 s6 wr => ∃ (xs : List S57) (a : Int) (b : Bool), s6 = .int .i64 (k : Int) ∧ Aside0 (k57.R 57 wr w0.heap.size (fun k => w.heap.size ≤ k) s5 xs) ∧ Aside0 (IsS92 w0 wr g s0_0 a b) ∧ Aside0 (Below w0.heap.size w0 wr) ∧ Aside0 (KeepBut w wr g none) ∧ Hid ((readList (oneUse s0_0) k a b).map (fun q => (xs ++ q.1, q.2)) = some (rs, r2, r3)) ∧ Hid (xs.length + k ≤ 65535))
    case atStart => exact ⟨[], a1, b1, rfl, Aside0.mk (Kd.R_nil _ _ _ _ _), HIA, HBA, HKA, Lib.hid (by rw [HH.out]; rfl), Lib.hid (by have := HM.out; simpa using this)⟩
    case round =>
      obtain ⟨xs, a, b, rfl, HR, HI1, HB1, HK1, HE, HL⟩ := hrel
      obtain ⟨A2, c2, HG2, -, -⟩ := HI1.out
      have hx2 := cellS92_2 HG2
      clear HG2
      cases gk with
      | zero =>
        have hz : xs = rs ∧ a = r2 ∧ b = r3 := by
          have he := HE.out
          simp only [readList, Option.map_some, List.append_nil, Option.some.injEq, Prod.mk.injEq] at he
          exact he
        obtain ⟨rfl, rfl, rfl⟩ := hz
        go_wp2
        go_ret
        exact ⟨_, rfl, HR.out, HI1.out, HB1.out, HK1.out⟩
      | succ n =>
        have hpos : (0 : Int) < ((n + 1 : Nat) : Int) := by omega
        cases b
        · have he := HE.out
          rw [readList, if_neg (by decide)] at he
          obtain ⟨q, hq1, hq2⟩ := Option.map_eq_some_iff.mp he
          obtain ⟨⟨x, a', b'⟩, ho, hq1⟩ := Option.bind_eq_some_iff.mp hq1
          obtain ⟨q', hq', rfl⟩ := Option.map_eq_some_iff.mp hq1
          dsimp only at hq' hq2
          obtain ⟨⟨x0, x1, x2, a'', b''⟩, hlot, he⟩ := Option.map_eq_some_iff.mp ho
          simp only [Prod.mk.injEq] at he
          obtain ⟨rfl, rfl, rfl⟩ := he
          have HO := Lib.hid hlot
          have HQ' := Lib.hid hq'
          have HQ2 := Lib.hid hq2
          clear ho hlot hq' hq2 hq1 HE
          have hne : ∀ k, u5.ownBlock = some k → w.heap.size ≤ k := HR.out.1
          have HNE := Lib.hid hne
          clear hne
          go_wp2_with (first | (go_at_call 48; refine (tell_reader_use.calls g s0_0 a false _ _ _ _ _ w0 _ HI1.out HB1.out HO.out).mono ?_; rintro e wb ⟨rfl, hib, hbb, hkb⟩; have HIB := Aside0.mk hib; have HBB := Aside0.mk hbb; have HKB := Aside0.mk hkb; clear hib hbb hkb) | ((with_reducible refine gate_builtin (b := .append) (xs := #[.tmp 20, .tmp 23]) rfl ?_); at_builtin; refine Kd.R_append k57 (w0 := w0) w0.heap.size rfl (.tmp 20) (.tmp 23) 25 57 zUse 24 rfl Try.underlying25 infoUse rfl (by decide) (by omega) u5 xs ⟨x0, x1, x2⟩ _ (fun k => w.heap.size ≤ k) (fun _ => False) rfl rfl (k57_mkM _ _ _ _) (fun _ hk => hk.elim) (fun k hk => Nat.le_trans (Nat.le_trans HK1.out.1 HKB.out.1) hk) (Kd.R_keep HR.out HKB.out (fun k hk => by have := HGL.out; omega)) HBB.out HBB.out.size (by have := HL.out; omega) ?_; intro v1 w2 ho hb hg hat; have HR2 := Aside0.mk ho; have HB2 := Aside0.mk hb; have HI2 := Aside0.mk (IsS92.grown HIB.out hg (fun he => by have := HNE.out g he.symm; have := HGL.out; omega)); have HK2 := Aside0.mk ((HK1.out.trans HKB.out (.inl rfl)).trans (KeepBut.of_grown hg g) (own_none_or HNE.out)); clear ho hb hg hat) | fail)
          go_roundg n
          case measure => omega
          case rel => exact ⟨_, a'', b'', congrArg (Value.int .i64) (by have := HL.out; unfold wrap64; omega), HR2, HI2, HB2, HK2, Lib.hid (by rw [HQ'.out, Option.map_some, ← HQ2.out, List.append_assoc]; rfl), Lib.hid (by have := HL.out; simp; omega)⟩
        · have hz : xs = rs ∧ a = r2 ∧ true = r3 := by
            have he := HE.out
            rw [readList, if_pos rfl] at he
            simp only [Option.map_some, List.append_nil, Option.some.injEq, Prod.mk.injEq] at he
            exact he
          obtain ⟨rfl, rfl, rfl⟩ := hz
          go_wp2
          go_ret
          exact ⟨_, rfl, HR.out, HI1.out, HB1.out, HK1.out⟩
  · rw [if_neg hr] at h
    cases h
end Go.Proofs.Ytgcgcgmpihjnaaa.Q
