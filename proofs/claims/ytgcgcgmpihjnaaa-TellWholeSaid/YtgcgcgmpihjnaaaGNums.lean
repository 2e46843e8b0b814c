/- Numbers as bytes, and bytes as numbers (no program in sight). -/
import Derived.Test.YtgcgcgmpihjnaaaGPlain
import Derived.Laws.BitsLemmas
namespace Go.Proofs.Ytgcgcgmpihjnaaa.G
open Go.RowKit Go.Proofs.YtgcgcgmpihjnaaaW.PrintWords Go.Proofs.YtgcgcgmpihjnaaaW.PrintLast Go.Proofs.YtgcgcgmpihjnaaaW.PrintMore

/-- One byte more behind a number. -/
def beStep (n c : Int) : Int := Go.bits .or .i64 (wrap64 (n * 256)) (wrap64 c)
def be (l : List Int) : Int := l.foldl beStep 0
def isB (c : Int) : Prop := 0 ≤ c ∧ c < 256

theorem beStep_small {n c : Int} (h0 : 0 ≤ n) (h1 : n < 36028797018963968) (hc : isB c) : beStep n c = n * 256 + c := by
  obtain ⟨c0, c1⟩ := hc
  unfold beStep
  have e1 : wrap64 (n * 256) = n * 256 := by unfold wrap64; omega
  have e2 : wrap64 c = c := by unfold wrap64; omega
  rw [e1, e2]
  refine bits_join .i64 63 (by decide) (fun m h0 h1 => ?_) 8 (n * 256) c (by omega) (by omega) (by omega) c0 (by omega) (by omega)
  rw [IntKind.wrap_i64]
  have h1' : m < 9223372036854775808 := by simpa using h1
  omega

def b1 (n : Int) : List Int := [n % 256]
def b2 (n : Int) : List Int := [n / 256 % 256, n % 256]
def b8 (n : Int) : List Int := [n / 72057594037927936 % 256, n / 281474976710656 % 256, n / 1099511627776 % 256, n / 4294967296 % 256, n / 16777216 % 256, n / 65536 % 256, n / 256 % 256, n % 256]
theorem isB_mod (n : Int) : isB (n % 256) := ⟨by omega, by omega⟩
theorem be_b1 (n : Int) (h0 : 0 ≤ n) (h1 : n < 256) : be (b1 n) = n := by
  unfold be b1
  simp only [List.foldl]
  rw [beStep_small (by omega) (by omega) (isB_mod _)]
  omega
theorem be_b2 (n : Int) (h0 : 0 ≤ n) (h1 : n < 65536) : be (b2 n) = n := by
  unfold be b2
  simp only [List.foldl]
  rw [beStep_small (n := 0) (by omega) (by omega) (isB_mod _), beStep_small (by omega) (by omega) (isB_mod _)]
  omega
theorem be_b8 (n : Int) (h0 : 0 ≤ n) (h1 : n < 9223372036854775808) : be (b8 n) = n := by
  unfold be b8
  simp only [List.foldl]
  rw [beStep_small (n := 0) (by omega) (by omega) (isB_mod _)]
  rw [beStep_small (n := 0 * 256 + n / 72057594037927936 % 256) (by omega) (by omega) (isB_mod _)]
  rw [beStep_small (n := (0 * 256 + n / 72057594037927936 % 256) * 256 + n / 281474976710656 % 256) (by omega) (by omega) (isB_mod _)]
  rw [beStep_small (n := ((0 * 256 + n / 72057594037927936 % 256) * 256 + n / 281474976710656 % 256) * 256 + n / 1099511627776 % 256) (by omega) (by omega) (isB_mod _)]
  rw [beStep_small (n := (((0 * 256 + n / 72057594037927936 % 256) * 256 + n / 281474976710656 % 256) * 256 + n / 1099511627776 % 256) * 256 + n / 4294967296 % 256) (by omega) (by omega) (isB_mod _)]
  rw [beStep_small (n := ((((0 * 256 + n / 72057594037927936 % 256) * 256 + n / 281474976710656 % 256) * 256 + n / 1099511627776 % 256) * 256 + n / 4294967296 % 256) * 256 + n / 16777216 % 256) (by omega) (by omega) (isB_mod _)]
  rw [beStep_small (n := (((((0 * 256 + n / 72057594037927936 % 256) * 256 + n / 281474976710656 % 256) * 256 + n / 1099511627776 % 256) * 256 + n / 4294967296 % 256) * 256 + n / 16777216 % 256) * 256 + n / 65536 % 256) (by omega) (by omega) (isB_mod _)]
  rw [beStep_small (n := ((((((0 * 256 + n / 72057594037927936 % 256) * 256 + n / 281474976710656 % 256) * 256 + n / 1099511627776 % 256) * 256 + n / 4294967296 % 256) * 256 + n / 16777216 % 256) * 256 + n / 65536 % 256) * 256 + n / 256 % 256) (by omega) (by omega) (isB_mod _)]
  omega
end Go.Proofs.Ytgcgcgmpihjnaaa.G
