/- TellBack and TellWhole, without the program. -/
import Derived.Test.YtgcgcgmpihjnaaaGBack2
import Derived.Test.YtgcgcgmpihjnaaaQ13
import Derived.Test.YtgcgcgmpihjnaaaSayTellBack
import Derived.Test.YtgcgcgmpihjnaaaSayTellWhole
import Derived.KernelRfl
namespace Go.Proofs.Ytgcgcgmpihjnaaa.Q
open Go.RowKit Go.Proofs.YtgcgcgmpihjnaaaW.PrintWords Go.Proofs.YtgcgcgmpihjnaaaW.PrintLast Go.Proofs.YtgcgcgmpihjnaaaW.PrintMore Go.Proofs.Ytgcgcgmpihjnaaa.G
set_option linter.unusedVariables false
set_option linter.unusedSimpArgs false

theorem awake_3000 : storemanlaw14_awake.f 3000 = some true := by kernel_rfl
theorem awake_is : ∀ (k : Nat), 3000 ≤ k → storemanlaw14_awake.f k = some true := by
  intro k hk
  obtain ⟨m, rfl⟩ : ∃ m, k = 3000 + m := ⟨k - 3000, by omega⟩
  induction m with
  | zero => exact awake_3000
  | succ m ih => exact storemanlaw14_awake.mono (3000 + m) true (ih (by omega))
theorem great_is (e i d : Int) (c : ByteArray) (s : Int) (ls : List S55) (us : List S57) : ∃ b, storemanlaw14_great.f e i d c s ls us = some b := by
  unfold storemanlaw14_great.f
  split
  · exact ⟨_, rfl⟩
  · split
    · exact ⟨_, rfl⟩
    · exact ⟨_, rfl⟩

theorem back_j0 (k : Nat) (hk : 3000 ≤ k) (l : List Int) (hl : ∀ c ∈ l, isB c) (hln : l.length ≤ 100000) (e i d : Int) (c : ByteArray) (s : Int) (ls : List S55) (us : List S57) (hll : ls.length ≤ 1152921504606846976) (hul : us.length ≤ 1152921504606846976)
    (hi : i < 9223372036854775808) (hs : isB s) (hls : ∀ x ∈ ls, x.f0 < 9223372036854775808) (hus : ∀ x ∈ us, x.f0 < 9223372036854775808 ∧ x.f1 < 9223372036854775808 ∧ x.f2 < 9223372036854775808) :
    storemanlaw14_TellBack.j0 (k + 1) l false e i d c s ls us = some true := by
  simp only [storemanlaw14_TellBack.j0]
  rw [if_neg (by decide)]
  cases hr : rightB e i d c s ls us
  · rw [tell_Put_wrong k (by omega) e i d c s ls us hr hll hul, Option.bind_some, tell_Right_is e i d c s ls us hll hul k (by omega), hr, Option.bind_some, if_neg (by decide), if_pos rfl]
    rfl
  · have hlen := tellBytes_len hr
    rw [tell_Put_right k (by omega) e i d c s ls us hr hll hul, Option.bind_some, tell_Right_is e i d c s ls us hll hul k (by omega), hr, Option.bind_some, if_pos rfl]
    unfold storemankit_CopyBytes.f
    dsimp only
    rw [if_pos (by simp only [List.length_nil]; omega), Option.bind_some, List.nil_append, if_pos (by omega)]
    have hBL : BL (tellBytes e i d c s ls us ++ l) := ⟨isB_app (isB_tell e i d c s ls us hs) hl, by rw [List.length_append]; omega⟩
    have hlu : ls.length ≤ 300 ∧ us.length ≤ 2000 := by
      by_cases he : 0 < e
      · obtain ⟨_, _, _, _, h5, h6⟩ := rightB_pos hr he
        rw [h5, h6]; exact ⟨by decide, by decide⟩
      · obtain ⟨h0, h1, h2, h3, h4, h5, h6, h7, h8, h9⟩ := rightB_zero hr he
        exact ⟨h6, h7⟩
    rw [tell_at hBL rfl hr hi hs.1 hls hus, Option.bind_some]
    dsimp only
    rw [if_pos rfl, if_pos rfl, if_pos rfl, sameTell_is k e i d c s ls us hlu.1 hlu.2 (by omega), Option.bind_some]
theorem back_true (k : Nat) (l : List Int) (e i d : Int) (c : ByteArray) (s : Int) (ls : List S55) (us : List S57) : storemanlaw14_TellBack.j0 (k + 1) l true e i d c s ls us = some true := by
  simp only [storemanlaw14_TellBack.j0, if_true]
theorem wf_u8 {x : Int} (h : (Lit.int .u8 x).wf = true) : isB x := by
  simp [Lit.wf, IntKind.min, IntKind.max, IntKind.bits, IntKind.signed] at h
  exact ⟨by omega, by omega⟩
theorem wf_i64 {x : Int} (h : (Lit.int .i64 x).wf = true) : -9223372036854775808 ≤ x ∧ x < 9223372036854775808 := by
  simp [Lit.wf, IntKind.min, IntKind.max, IntKind.bits, IntKind.signed] at h
  exact ⟨by omega, by omega⟩
end Go.Proofs.Ytgcgcgmpihjnaaa.Q
namespace Go.Proofs.Ytgcgcgmpihjnaaa.Pure
open Go.RowKit Go.Proofs.YtgcgcgmpihjnaaaW.PrintWords Go.Proofs.YtgcgcgmpihjnaaaW.PrintLast Go.Proofs.YtgcgcgmpihjnaaaW.PrintMore Go.Proofs.Ytgcgcgmpihjnaaa.G Go.Proofs.Ytgcgcgmpihjnaaa.Q
theorem TellBack : Q.SayTellBack.Pure := by
  intro x l hx hl
  obtain ⟨h0, h1, h2, h3, h4, h5, h6⟩ := hx
  refine ⟨3001, ?_⟩
  unfold storemanlaw14_TellBack.f
  rw [awake_is 3001 (by omega), Option.bind_some, if_pos rfl]
  obtain ⟨b, hb⟩ := great_is x.f0 x.f1 x.f2 x.f3 x.f4 x.f5 x.f6
  rw [hb, Option.bind_some]
  cases b
  · rw [if_neg (by decide)]
    by_cases hln : (l.length : Int) > 100000
    · rw [decide_eq_true hln]; exact back_true 3000 _ _ _ _ _ _ _ _
    · rw [decide_eq_false hln]
      refine back_j0 3000 (by omega) l (fun c hc => wf_u8 (hl.2.2 c hc)) (by omega) _ _ _ _ _ _ _ ?_ ?_ (wf_i64 h1).2 (wf_u8 h4) (fun y hy => (wf_i64 (h5.2.2 y hy).1).2) (fun y hy => ⟨(wf_i64 (h6.2.2 y hy).1).2, (wf_i64 (h6.2.2 y hy).2.1).2, (wf_i64 (h6.2.2 y hy).2.2).2⟩)
      · have := h5.1
        rw [show Try.prog.bytesOf 55 = 56 from by kernel_rfl] at this
        omega
      · have := h6.1
        rw [show Try.prog.bytesOf 57 = 24 from by kernel_rfl] at this
        omega
  · rw [if_pos rfl]; exact back_true 3000 _ _ _ _ _ _ _ _
end Go.Proofs.Ytgcgcgmpihjnaaa.Pure
