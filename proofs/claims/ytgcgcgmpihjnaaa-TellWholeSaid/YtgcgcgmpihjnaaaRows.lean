/-
  No cell of these rows narrows 'for every input' (looked for: loops, veiled, ifaces, maps, wideKeys, modest, calm, conditions, laid).
  DERIVED. THE GIVEN ROWS OF THIS SEAT. 4 by the template 'for every input the law returns true; each argument reads behind the call as it read before'; 0 by the template 'total and deterministic' (their statements: YtgcgcgmpihjnaaaTotals.lean).
  GIVEN WITH THE SEED: the statements are not yours to turn. If you find one false, say at which input.
  Laid BY PROGRAM, IN A SANDBOX (cutbox-rows.mjs): the forced cells as the released guide's own fill.sh prints them over the translation 0ff5dc01b1aaf9ca… (all of the seat's roots in one cut). By AI agents, Wed Nov 11 2026. No macro, syntax, notation, axiom, sorry.
-/
import Derived.Test.YtgcgcgmpihjnaaaChecked
import GoSem.Claim
import GoSem.ClaimJoined
import GoSem.ClaimMapViews
import Derived.JoinedTies
import Derived.KernelRfl
namespace Go.Proofs.Ytgcgcgmpihjnaaa
/- THE CELL 'sum', in the pinned program and in every row, IS THE sha256 OF THE DUMP (.gsa) THAT YtgcgcgmpihjnaaaProg.lean LOADS. Nothing in Lean hashes anything: it is a label: what it is worth is what the hold of that sum in a sandbox is worth. -/
noncomputable def Try.pinned : Pinned := { name := "ytgcgcgmpihjnaaa", sum := "0ff5dc01b1aaf9ca27024c52993d4b15455550f7ef8703dae20b58f3efa48219", checked := Try.checked }
namespace Rows
def none {H : Type} : Left H := { results := [], args := [] }

/-- 'storemanlaw14.TellPuts': WHATEVER THE INPUT: true; the input reads as it did. -/
def tellPutsSpec : ChangeSpec := { name := "tellPuts", fn := fun _ => fun
  | [d] => { results := [.lit (.bool true)], args := [d] }
  | _ => none }
def tellPutsRow : OpenClaim := { program := "ytgcgcgmpihjnaaa", sum := "0ff5dc01b1aaf9ca27024c52993d4b15455550f7ef8703dae20b58f3efa48219", func := "storeman/storemanlaw14.TellPuts", spec := "tellPuts", unfollowed := true, recurses := true, apart := false }
def TellPutsSaid : Prop := tellPutsRow.holds Try.pinned (OpenSpec.ofChange tellPutsSpec)

/-- ITS FALSE NEIGHBOUR: 'it returns false'. Refute it at one input. -/
def tellPutsWrong : ChangeSpec := { name := "tellPuts", fn := fun _ => fun
  | [d] => { results := [.lit (.bool false)], args := [d] }
  | _ => none }
def TellPutsWrongFalsely : Prop := tellPutsRow.holds Try.pinned (OpenSpec.ofChange tellPutsWrong)

/-- 'storemanlaw14.TellGets': WHATEVER THE INPUT: true; the input reads as it did. -/
def tellGetsSpec : ChangeSpec := { name := "tellGets", fn := fun _ => fun
  | [d] => { results := [.lit (.bool true)], args := [d] }
  | _ => none }
def tellGetsRow : OpenClaim := { program := "ytgcgcgmpihjnaaa", sum := "0ff5dc01b1aaf9ca27024c52993d4b15455550f7ef8703dae20b58f3efa48219", func := "storeman/storemanlaw14.TellGets", spec := "tellGets", unfollowed := true, recurses := true, apart := false }
def TellGetsSaid : Prop := tellGetsRow.holds Try.pinned (OpenSpec.ofChange tellGetsSpec)

/-- ITS FALSE NEIGHBOUR: 'it returns false'. Refute it at one input. -/
def tellGetsWrong : ChangeSpec := { name := "tellGets", fn := fun _ => fun
  | [d] => { results := [.lit (.bool false)], args := [d] }
  | _ => none }
def TellGetsWrongFalsely : Prop := tellGetsRow.holds Try.pinned (OpenSpec.ofChange tellGetsWrong)

/-- 'storemanlaw14.TellBack': WHATEVER THE INPUT: true; the input reads as it did. -/
def tellBackSpec : ChangeSpec := { name := "tellBack", fn := fun _ => fun
  | [d1, d2] => { results := [.lit (.bool true)], args := [d1, d2] }
  | _ => none }
def tellBackRow : OpenClaim := { program := "ytgcgcgmpihjnaaa", sum := "0ff5dc01b1aaf9ca27024c52993d4b15455550f7ef8703dae20b58f3efa48219", func := "storeman/storemanlaw14.TellBack", spec := "tellBack", unfollowed := true, recurses := true, apart := false }
def TellBackSaid : Prop := tellBackRow.holds Try.pinned (OpenSpec.ofChange tellBackSpec)

/-- ITS FALSE NEIGHBOUR: 'it returns false'. Refute it at one input. -/
def tellBackWrong : ChangeSpec := { name := "tellBack", fn := fun _ => fun
  | [d1, d2] => { results := [.lit (.bool false)], args := [d1, d2] }
  | _ => none }
def TellBackWrongFalsely : Prop := tellBackRow.holds Try.pinned (OpenSpec.ofChange tellBackWrong)

/-- 'storemanlaw14.TellWhole': WHATEVER THE INPUT: true; the input reads as it did. -/
def tellWholeSpec : ChangeSpec := { name := "tellWhole", fn := fun _ => fun
  | [d] => { results := [.lit (.bool true)], args := [d] }
  | _ => none }
def tellWholeRow : OpenClaim := { program := "ytgcgcgmpihjnaaa", sum := "0ff5dc01b1aaf9ca27024c52993d4b15455550f7ef8703dae20b58f3efa48219", func := "storeman/storemanlaw14.TellWhole", spec := "tellWhole", unfollowed := true, recurses := true, apart := false }
def TellWholeSaid : Prop := tellWholeRow.holds Try.pinned (OpenSpec.ofChange tellWholeSpec)

/-- ITS FALSE NEIGHBOUR: 'it returns false'. Refute it at one input. -/
def tellWholeWrong : ChangeSpec := { name := "tellWhole", fn := fun _ => fun
  | [d] => { results := [.lit (.bool false)], args := [d] }
  | _ => none }
def TellWholeWrongFalsely : Prop := tellWholeRow.holds Try.pinned (OpenSpec.ofChange tellWholeWrong)

/- THE SECOND FORM. 'bulk': how many values and letters a reading holds, each counted each time it is reached (what is shared counts as often as it is met; a slice's spare places count too). A statement '..UptoSaid' is the law's where the arguments, and the package variables that the reading takes, are together of bulk at most 1048576: NARROWER than '..Said'. Prove '..Said' where nothing that the law and all that it calls make is longer than what came in: it says more and counts as full. Else prove '..UptoSaid'. A law counts once. -/
mutual
def uptoBulk {H : Type} : DataW H → Nat
  | .lit (.string bytes) => bytes.length + 1
  | .lit _ => 1
  | .nil => 1
  | .ptr d => uptoBulk d + 1
  | .slice elems spare => uptoBulkAll elems + uptoBulkAll spare + 1
  | .agg parts => uptoBulkAll parts + 1
  | .iface _ d => uptoBulk d + 1
  | .map entries => uptoBulkEntries entries + 1
  | .held _ => 1
def uptoBulkAll {H : Type} : List (DataW H) → Nat
  | [] => 0
  | d :: r => uptoBulk d + uptoBulkAll r
def uptoBulkEntries {H : Type} : List (Lit × DataW H) → Nat
  | [] => 0
  | x :: r => uptoBulkEntry x + uptoBulkEntries r
def uptoBulkEntry {H : Type} : Lit × DataW H → Nat
  | (.string bytes, d) => bytes.length + uptoBulk d + 1
  | (_, d) => uptoBulk d + 1
 end
def uptoSmall : (H : Type) → List (DataW H) → Bool := fun _ ds => decide (uptoBulkAll ds ≤ 1048576)
def OpenSpec.upto (s : _root_.Go.ChangeSpec) : _root_.Go.OpenSpec := { _root_.Go.OpenSpec.ofChange s with cond := some uptoSmall }

/-- 'storemanlaw14.TellPuts', WHERE WHAT IT READS IS OF BULK AT MOST 1048576: true; the input reads as it did. -/
def tellPutsUptoRow : OpenClaim := { program := "ytgcgcgmpihjnaaa", sum := "0ff5dc01b1aaf9ca27024c52993d4b15455550f7ef8703dae20b58f3efa48219", func := "storeman/storemanlaw14.TellPuts", spec := "tellPuts", unfollowed := true, recurses := true, apart := false, narrowed := true }
def TellPutsUptoSaid : Prop := tellPutsUptoRow.holds Try.pinned (OpenSpec.upto tellPutsSpec)

/-- 'storemanlaw14.TellGets', WHERE WHAT IT READS IS OF BULK AT MOST 1048576: true; the input reads as it did. -/
def tellGetsUptoRow : OpenClaim := { program := "ytgcgcgmpihjnaaa", sum := "0ff5dc01b1aaf9ca27024c52993d4b15455550f7ef8703dae20b58f3efa48219", func := "storeman/storemanlaw14.TellGets", spec := "tellGets", unfollowed := true, recurses := true, apart := false, narrowed := true }
def TellGetsUptoSaid : Prop := tellGetsUptoRow.holds Try.pinned (OpenSpec.upto tellGetsSpec)

/-- 'storemanlaw14.TellBack', WHERE WHAT IT READS IS OF BULK AT MOST 1048576: true; the input reads as it did. -/
def tellBackUptoRow : OpenClaim := { program := "ytgcgcgmpihjnaaa", sum := "0ff5dc01b1aaf9ca27024c52993d4b15455550f7ef8703dae20b58f3efa48219", func := "storeman/storemanlaw14.TellBack", spec := "tellBack", unfollowed := true, recurses := true, apart := false, narrowed := true }
def TellBackUptoSaid : Prop := tellBackUptoRow.holds Try.pinned (OpenSpec.upto tellBackSpec)

/-- 'storemanlaw14.TellWhole', WHERE WHAT IT READS IS OF BULK AT MOST 1048576: true; the input reads as it did. -/
def tellWholeUptoRow : OpenClaim := { program := "ytgcgcgmpihjnaaa", sum := "0ff5dc01b1aaf9ca27024c52993d4b15455550f7ef8703dae20b58f3efa48219", func := "storeman/storemanlaw14.TellWhole", spec := "tellWhole", unfollowed := true, recurses := true, apart := false, narrowed := true }
def TellWholeUptoSaid : Prop := tellWholeUptoRow.holds Try.pinned (OpenSpec.upto tellWholeSpec)

end Rows
end Go.Proofs.Ytgcgcgmpihjnaaa
