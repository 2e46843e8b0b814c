/- code.Put and code.Get as lists of bytes (no program in sight beyond their answers). -/
import Derived.Test.YtgcgcgmpihjnaaaGCode
import Derived.Test.YtgcgcgmpihjnaaaGNums
namespace Go.Proofs.Ytgcgcgmpihjnaaa.Q
open Go.RowKit Go.Proofs.YtgcgcgmpihjnaaaW.PrintWords Go.Proofs.YtgcgcgmpihjnaaaW.PrintLast Go.Proofs.YtgcgcgmpihjnaaaW.PrintMore Go.Proofs.Ytgcgcgmpihjnaaa.G

theorem bytesOf_range (s : ByteArray) : ∀ c ∈ bytesOf s, isB c := by
  intro c hc
  simp only [bytesOf, List.mem_map] at hc
  obtain ⟨b, _, rfl⟩ := hc
  have := b.toNat_lt
  exact ⟨by omega, by omega⟩
theorem strOf_bytes (s : ByteArray) : strOfNums (bytesOf s) = s := by
  unfold strOfNums bytesOf
  rw [List.map_map]
  have : (fun n : Int => UInt8.ofNat n.toNat) ∘ (fun b : UInt8 => (b.toNat : Int)) = id := by
    funext b
    simp
  rw [this, List.map_id]
theorem bytesOf_strOf (l : List Int) (h : ∀ c ∈ l, isB c) : bytesOf (strOfNums l) = l := by
  unfold bytesOf strOfNums
  simp only [List.map_map]
  conv => rhs; rw [← List.map_id l]
  apply List.map_congr_left
  intro c hc
  obtain ⟨h0, h1⟩ := h c hc
  simp
  omega
theorem strOf_size (l : List Int) : (strOfNums l).size = l.length := by
  have := bytesOf_length (strOfNums l)
  rw [← this]
  unfold bytesOf strOfNums
  simp
/-- A text's bytes as they are put. -/
def codeBytes (s : ByteArray) : List Int := (s.size : Int) % 256 :: bytesOf s
end Go.Proofs.Ytgcgcgmpihjnaaa.Q
