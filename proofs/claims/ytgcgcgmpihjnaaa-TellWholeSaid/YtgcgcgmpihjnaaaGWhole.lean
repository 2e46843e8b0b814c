/- TellWhole, without the program. -/
import Derived.Test.YtgcgcgmpihjnaaaGSeg
import Derived.Test.YtgcgcgmpihjnaaaGLaw
import Derived.Test.YtgcgcgmpihjnaaaQ13
import Derived.Test.YtgcgcgmpihjnaaaSayTellWhole
namespace Go.Proofs.Ytgcgcgmpihjnaaa.Q
open Go.RowKit Go.Proofs.YtgcgcgmpihjnaaaW.PrintWords Go.Proofs.YtgcgcgmpihjnaaaW.PrintLast Go.Proofs.YtgcgcgmpihjnaaaW.PrintMore Go.Proofs.Ytgcgcgmpihjnaaa.G
set_option linter.unusedVariables false
set_option linter.unusedSimpArgs false

theorem get_is (l : List Int) (q : TR) (a' : Int) (b' : Bool) (h : tellR l 0 false = some (q, a', b')) : tell_Get.f l = if b' = true then some (0, 0, 0, (⟨#[]⟩ : ByteArray), 0, [], [], 0, 4)
    else if rightB q.1 q.2.1 q.2.2.1 q.2.2.2.1 q.2.2.2.2.1 q.2.2.2.2.2.1 q.2.2.2.2.2.2 = true then some (q.1, q.2.1, q.2.2.1, q.2.2.2.1, q.2.2.2.2.1, q.2.2.2.2.2.1, q.2.2.2.2.2.2, a', 0)
    else some (0, 0, 0, (⟨#[]⟩ : ByteArray), 0, [], [], 0, 4) := by
  unfold tell_Get.f
  rw [tell_read_eq, h, Option.map_some, Option.bind_some]
theorem whole_l0 (l : List Int) (n : Nat) (hn : n ≤ l.length) (hln : l.length ≤ 9000) (h : ∀ m, m < n → tell_Get.f (l.take m) = some (0, 0, 0, (⟨#[]⟩ : ByteArray), 0, [], [], 0, 4)) (d : Nat) : ∀ (k m : Nat), m ≤ n → n - m = d → d < k → storemanlaw14_TellWhole.l0 k l (n : Int) (m : Int) = some true := by
  induction d with
  | zero =>
    intro k m hm hd hk
    obtain ⟨k, rfl⟩ : ∃ q, k = q + 1 := ⟨k - 1, by omega⟩
    simp only [storemanlaw14_TellWhole.l0]
    rw [if_neg (by omega)]
  | succ d ih =>
    intro k m hm hd hk
    obtain ⟨k, rfl⟩ : ∃ q, k = q + 1 := ⟨k - 1, by omega⟩
    simp only [storemanlaw14_TellWhole.l0]
    have hw : wrap64 ((m : Int) + 1) = ((m + 1 : Nat) : Int) := by rw [wrap_id (by omega) (by omega)]; rfl
    rw [if_pos (by omega), if_pos (by omega), if_pos (by omega), Int.toNat_natCast, h m (by omega), Option.bind_some, hw]
    dsimp only
    rw [if_pos rfl, ih k (m + 1) (by omega) (by omega) (by omega)]
theorem whole_j0 (k : Nat) (hk : 9001 ≤ k) (l : List Int) (n : Nat) (hn : n ≤ l.length) (hln : l.length ≤ 9000) (h : ∀ m, m < n → tell_Get.f (l.take m) = some (0, 0, 0, (⟨#[]⟩ : ByteArray), 0, [], [], 0, 4)) : storemanlaw14_TellWhole.j0 (k + 1) l (n : Int) false = some true := by
  simp only [storemanlaw14_TellWhole.j0]
  rw [if_neg (by decide), wrap_id (by omega) (by omega)]
  obtain ⟨m, hm, hmn⟩ : ∃ m : Nat, mx 0 ((n : Int) - 40) = (m : Int) ∧ m ≤ n := by
    refine ⟨(mx 0 ((n : Int) - 40)).toNat, ?_, ?_⟩
    · unfold mx; split <;> omega
    · unfold mx; split <;> omega
  rw [hm]
  exact whole_l0 l n hn hln h (n - m) k m hmn rfl (by omega)
end Go.Proofs.Ytgcgcgmpihjnaaa.Q
namespace Go.Proofs.Ytgcgcgmpihjnaaa.Pure
open Go.RowKit Go.Proofs.YtgcgcgmpihjnaaaW.PrintWords Go.Proofs.YtgcgcgmpihjnaaaW.PrintLast Go.Proofs.YtgcgcgmpihjnaaaW.PrintMore Go.Proofs.Ytgcgcgmpihjnaaa.G Go.Proofs.Ytgcgcgmpihjnaaa.Q
theorem TellWhole : Q.SayTellWhole.Pure := by
  intro l hq
  refine ⟨9010, ?_⟩
  unfold storemanlaw14_TellWhole.f
  rw [awake_is 9010 (by omega), Option.bind_some, if_pos rfl]
  by_cases hln : (l.length : Int) > 9000
  · rw [if_pos hln]
  · rw [if_neg hln]
    have hl : BL l := ⟨fun c hc => wf_u8 (hq.2.2 c hc), by omega⟩
    obtain ⟨q, a', b', ht, h0, h1⟩ := tellR_good.ok l 0 (Int.le_refl _) (by omega) hl
    have hg := get_is l q a' b' ht
    have h4 : ∀ (r : Int × Int × Int × ByteArray × Int × List S55 × List S57 × Int × Int), r = (0, 0, 0, (⟨#[]⟩ : ByteArray), 0, [], [], 0, 4) → storemankit_SameTell.f 9010 r.1 r.2.1 r.2.2.1 r.2.2.2.1 r.2.2.2.2.1 r.2.2.2.2.2.1 r.2.2.2.2.2.2.1 0 0 0 (⟨#[]⟩ : ByteArray) 0 [] [] = some true := by
      intro r hr
      rw [hr]
      exact sameTell_is 9010 0 0 0 _ 0 [] [] (by decide) (by decide) (by decide)
    cases b'
    · rw [if_neg (by decide)] at hg
      cases hr : rightB q.1 q.2.1 q.2.2.1 q.2.2.2.1 q.2.2.2.2.1 q.2.2.2.2.2.1 q.2.2.2.2.2.2
      · rw [hr, if_neg (by decide)] at hg
        rw [hg, Option.bind_some, if_neg (by decide), if_pos rfl, if_pos rfl, h4 _ rfl, Option.bind_some]
      · rw [hr, if_pos rfl] at hg
        have hs := tell_seg hl ht hr
        have hlu : q.2.2.2.2.2.1.length ≤ 300 ∧ q.2.2.2.2.2.2.length ≤ 2000 := by
          by_cases he : 0 < q.1
          · obtain ⟨_, _, _, _, h5, h6⟩ := rightB_pos hr he
            rw [h5, h6]; exact ⟨by decide, by decide⟩
          · obtain ⟨h0, h1, h2, h3, h4, h5, h6, h7, h8, h9⟩ := rightB_zero hr he
            exact ⟨h6, h7⟩
        have hlen := hs.fin
        have hpos : 1 ≤ (tellBytes q.1 q.2.1 q.2.2.1 q.2.2.2.1 q.2.2.2.2.1 q.2.2.2.2.2.1 q.2.2.2.2.2.2).length := by
          unfold tellBytes
          split
          · rw [b2_length]; omega
          · simp only [List.length_append, b2_length]; omega
        have htk : l.take a'.toNat = tellBytes q.1 q.2.1 q.2.2.1 q.2.2.2.1 q.2.2.2.2.1 q.2.2.2.2.2.1 q.2.2.2.2.2.2 := by
          have h5 := hs.eq
          rw [Int.toNat_zero, List.drop_zero] at h5
          have h6 : a'.toNat = (tellBytes q.1 q.2.1 q.2.2.1 q.2.2.2.1 q.2.2.2.2.1 q.2.2.2.2.2.1 q.2.2.2.2.2.2).length := by omega
          have h7 := congrArg (List.take a'.toNat) h5
          rw [h7, h6, List.take_left]
        have hcut : ∀ m, m < a'.toNat → tell_Get.f (l.take m) = some (0, 0, 0, (⟨#[]⟩ : ByteArray), 0, [], [], 0, 4) := by
          intro m hm
          have h5 := tellR_good.cut l 0 q a' (Int.le_refl _) (by omega) hl ht m (by omega) (by omega)
          rw [if_neg (by omega)] at h5
          obtain ⟨y, a'', h6, -, -⟩ := h5
          rw [get_is _ y a'' true h6, if_pos rfl]
        rw [hg, Option.bind_some, if_pos rfl]
        dsimp only
        rw [tell_Put_right 9010 (by omega) q.1 q.2.1 q.2.2.1 q.2.2.2.1 q.2.2.2.2.1 q.2.2.2.2.2.1 q.2.2.2.2.2.2 hr (by omega) (by omega), Option.bind_some, if_neg (by omega), if_neg (by omega), tell_Right_is q.1 q.2.1 q.2.2.1 q.2.2.2.1 q.2.2.2.2.1 q.2.2.2.2.2.1 q.2.2.2.2.2.2 (by omega) (by omega) 9010 (by omega), Option.bind_some, hr, if_pos rfl, if_pos rfl, if_pos (by omega), if_pos h1, htk]
        dsimp only
        rw [sameBytes_is 9010 _ (by omega) (by omega), Option.bind_some]
        have h8 := whole_j0 9009 (by omega) l a'.toNat (by omega) (by omega) hcut
        rw [show ((a'.toNat : Nat) : Int) = a' by omega] at h8
        exact h8
    · rw [if_pos rfl] at hg
      rw [hg, Option.bind_some, if_neg (by decide), if_pos rfl, if_pos rfl, h4 _ rfl, Option.bind_some]
end Go.Proofs.Ytgcgcgmpihjnaaa.Pure
