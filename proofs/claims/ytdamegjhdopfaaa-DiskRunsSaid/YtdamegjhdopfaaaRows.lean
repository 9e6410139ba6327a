/-
  No cell of these rows narrows 'for every input' (looked for: loops, veiled, ifaces, maps, wideKeys, modest, calm, conditions, laid).
  DERIVED. THE GIVEN ROWS OF THIS SEAT. 12 by the template 'for every input the law returns true; each argument reads behind the call as it read before'; 0 by the template 'total and deterministic' (their statements: YtdamegjhdopfaaaTotals.lean).
  GIVEN WITH THE SEED: the statements are not yours to turn. If you find one false, say at which input.
  Laid BY PROGRAM, IN A SANDBOX (cutbox-rows.mjs): the forced cells as the released guide's own fill.sh prints them over the translation c9b6b9d4fd3bda69… (all of the seat's roots in one cut). By AI agents, Wed Nov 11 2026. No macro, syntax, notation, axiom, sorry.
-/
import Derived.Test.YtdamegjhdopfaaaChecked
import GoSem.Claim
import GoSem.ClaimJoined
import GoSem.ClaimMapViews
import Derived.JoinedTies
import Derived.KernelRfl
namespace Go.Proofs.Ytdamegjhdopfaaa
/- THE CELL 'sum', in the pinned program and in every row, IS THE sha256 OF THE DUMP (.gsa) THAT YtdamegjhdopfaaaProg.lean LOADS. Nothing in Lean hashes anything: it is a label: what it is worth is what the hold of that sum in a sandbox is worth. -/
noncomputable def Try.pinned : Pinned := { name := "ytdamegjhdopfaaa", sum := "c9b6b9d4fd3bda69a5e29dfa7d81314f853d2fabe9c31a0204bbdf468bab78bc", checked := Try.checked }
namespace Rows
def none {H : Type} : Left H := { results := [], args := [] }

/-- 'lienlaw03.DiskApart': WHATEVER THE INPUT: true; the input reads as it did. -/
def diskApartSpec : ChangeSpec := { name := "diskApart", fn := fun _ => fun
  | [d1, d2, d3, d4] => { results := [.lit (.bool true)], args := [d1, d2, d3, d4] }
  | _ => none }
def diskApartRow : OpenClaim := { program := "ytdamegjhdopfaaa", sum := "c9b6b9d4fd3bda69a5e29dfa7d81314f853d2fabe9c31a0204bbdf468bab78bc", func := "lien/lienlaw03.DiskApart", spec := "diskApart", unfollowed := true, recurses := true, apart := false }
def DiskApartSaid : Prop := diskApartRow.holds Try.pinned (OpenSpec.ofChange diskApartSpec)

/-- ITS FALSE NEIGHBOUR: 'it returns false'. Refute it at one input. -/
def diskApartWrong : ChangeSpec := { name := "diskApart", fn := fun _ => fun
  | [d1, d2, d3, d4] => { results := [.lit (.bool false)], args := [d1, d2, d3, d4] }
  | _ => none }
def DiskApartWrongFalsely : Prop := diskApartRow.holds Try.pinned (OpenSpec.ofChange diskApartWrong)

/-- 'lienlaw03.DiskOwn': WHATEVER THE INPUT: true; the input reads as it did. -/
def diskOwnSpec : ChangeSpec := { name := "diskOwn", fn := fun _ => fun
  | [d1, d2] => { results := [.lit (.bool true)], args := [d1, d2] }
  | _ => none }
def diskOwnRow : OpenClaim := { program := "ytdamegjhdopfaaa", sum := "c9b6b9d4fd3bda69a5e29dfa7d81314f853d2fabe9c31a0204bbdf468bab78bc", func := "lien/lienlaw03.DiskOwn", spec := "diskOwn", unfollowed := true, recurses := true, apart := false }
def DiskOwnSaid : Prop := diskOwnRow.holds Try.pinned (OpenSpec.ofChange diskOwnSpec)

/-- ITS FALSE NEIGHBOUR: 'it returns false'. Refute it at one input. -/
def diskOwnWrong : ChangeSpec := { name := "diskOwn", fn := fun _ => fun
  | [d1, d2] => { results := [.lit (.bool false)], args := [d1, d2] }
  | _ => none }
def DiskOwnWrongFalsely : Prop := diskOwnRow.holds Try.pinned (OpenSpec.ofChange diskOwnWrong)

/-- 'lienlaw03.DiskReads': WHATEVER THE INPUT: true; the input reads as it did. -/
def diskReadsSpec : ChangeSpec := { name := "diskReads", fn := fun _ => fun
  | [d1, d2, d3] => { results := [.lit (.bool true)], args := [d1, d2, d3] }
  | _ => none }
def diskReadsRow : OpenClaim := { program := "ytdamegjhdopfaaa", sum := "c9b6b9d4fd3bda69a5e29dfa7d81314f853d2fabe9c31a0204bbdf468bab78bc", func := "lien/lienlaw03.DiskReads", spec := "diskReads", unfollowed := true, recurses := true, apart := false }
def DiskReadsSaid : Prop := diskReadsRow.holds Try.pinned (OpenSpec.ofChange diskReadsSpec)

/-- ITS FALSE NEIGHBOUR: 'it returns false'. Refute it at one input. -/
def diskReadsWrong : ChangeSpec := { name := "diskReads", fn := fun _ => fun
  | [d1, d2, d3] => { results := [.lit (.bool false)], args := [d1, d2, d3] }
  | _ => none }
def DiskReadsWrongFalsely : Prop := diskReadsRow.holds Try.pinned (OpenSpec.ofChange diskReadsWrong)

/-- 'lienlaw03.DiskFlushed': WHATEVER THE INPUT: true; the input reads as it did. -/
def diskFlushedSpec : ChangeSpec := { name := "diskFlushed", fn := fun _ => fun
  | [d] => { results := [.lit (.bool true)], args := [d] }
  | _ => none }
def diskFlushedRow : OpenClaim := { program := "ytdamegjhdopfaaa", sum := "c9b6b9d4fd3bda69a5e29dfa7d81314f853d2fabe9c31a0204bbdf468bab78bc", func := "lien/lienlaw03.DiskFlushed", spec := "diskFlushed", unfollowed := true, recurses := true, apart := false }
def DiskFlushedSaid : Prop := diskFlushedRow.holds Try.pinned (OpenSpec.ofChange diskFlushedSpec)

/-- ITS FALSE NEIGHBOUR: 'it returns false'. Refute it at one input. -/
def diskFlushedWrong : ChangeSpec := { name := "diskFlushed", fn := fun _ => fun
  | [d] => { results := [.lit (.bool false)], args := [d] }
  | _ => none }
def DiskFlushedWrongFalsely : Prop := diskFlushedRow.holds Try.pinned (OpenSpec.ofChange diskFlushedWrong)

/-- 'lienlaw03.DiskFuse': WHATEVER THE INPUT: true; the input reads as it did. -/
def diskFuseSpec : ChangeSpec := { name := "diskFuse", fn := fun _ => fun
  | [d1, d2] => { results := [.lit (.bool true)], args := [d1, d2] }
  | _ => none }
def diskFuseRow : OpenClaim := { program := "ytdamegjhdopfaaa", sum := "c9b6b9d4fd3bda69a5e29dfa7d81314f853d2fabe9c31a0204bbdf468bab78bc", func := "lien/lienlaw03.DiskFuse", spec := "diskFuse", unfollowed := true, recurses := true, apart := false }
def DiskFuseSaid : Prop := diskFuseRow.holds Try.pinned (OpenSpec.ofChange diskFuseSpec)

/-- ITS FALSE NEIGHBOUR: 'it returns false'. Refute it at one input. -/
def diskFuseWrong : ChangeSpec := { name := "diskFuse", fn := fun _ => fun
  | [d1, d2] => { results := [.lit (.bool false)], args := [d1, d2] }
  | _ => none }
def DiskFuseWrongFalsely : Prop := diskFuseRow.holds Try.pinned (OpenSpec.ofChange diskFuseWrong)

/-- 'lienlaw03.DiskRuns': WHATEVER THE INPUT: true; the input reads as it did. -/
def diskRunsSpec : ChangeSpec := { name := "diskRuns", fn := fun _ => fun
  | [d1, d2] => { results := [.lit (.bool true)], args := [d1, d2] }
  | _ => none }
def diskRunsRow : OpenClaim := { program := "ytdamegjhdopfaaa", sum := "c9b6b9d4fd3bda69a5e29dfa7d81314f853d2fabe9c31a0204bbdf468bab78bc", func := "lien/lienlaw03.DiskRuns", spec := "diskRuns", unfollowed := true, recurses := true, apart := false }
def DiskRunsSaid : Prop := diskRunsRow.holds Try.pinned (OpenSpec.ofChange diskRunsSpec)

/-- ITS FALSE NEIGHBOUR: 'it returns false'. Refute it at one input. -/
def diskRunsWrong : ChangeSpec := { name := "diskRuns", fn := fun _ => fun
  | [d1, d2] => { results := [.lit (.bool false)], args := [d1, d2] }
  | _ => none }
def DiskRunsWrongFalsely : Prop := diskRunsRow.holds Try.pinned (OpenSpec.ofChange diskRunsWrong)

/-- 'lienlaw03.DiskNobody': WHATEVER THE INPUT: true; the input reads as it did. -/
def diskNobodySpec : ChangeSpec := { name := "diskNobody", fn := fun _ => fun
  | [d] => { results := [.lit (.bool true)], args := [d] }
  | _ => none }
def diskNobodyRow : OpenClaim := { program := "ytdamegjhdopfaaa", sum := "c9b6b9d4fd3bda69a5e29dfa7d81314f853d2fabe9c31a0204bbdf468bab78bc", func := "lien/lienlaw03.DiskNobody", spec := "diskNobody", unfollowed := true, recurses := true, apart := false }
def DiskNobodySaid : Prop := diskNobodyRow.holds Try.pinned (OpenSpec.ofChange diskNobodySpec)

/-- ITS FALSE NEIGHBOUR: 'it returns false'. Refute it at one input. -/
def diskNobodyWrong : ChangeSpec := { name := "diskNobody", fn := fun _ => fun
  | [d] => { results := [.lit (.bool false)], args := [d] }
  | _ => none }
def DiskNobodyWrongFalsely : Prop := diskNobodyRow.holds Try.pinned (OpenSpec.ofChange diskNobodyWrong)

/-- 'lienlaw05.SuperForms': WHATEVER THE INPUT: true; the input reads as it did. -/
def superFormsSpec : ChangeSpec := { name := "superForms", fn := fun _ => fun
  | [d] => { results := [.lit (.bool true)], args := [d] }
  | _ => none }
def superFormsRow : OpenClaim := { program := "ytdamegjhdopfaaa", sum := "c9b6b9d4fd3bda69a5e29dfa7d81314f853d2fabe9c31a0204bbdf468bab78bc", func := "lien/lienlaw05.SuperForms", spec := "superForms", unfollowed := true, recurses := true, apart := false }
def SuperFormsSaid : Prop := superFormsRow.holds Try.pinned (OpenSpec.ofChange superFormsSpec)

/-- ITS FALSE NEIGHBOUR: 'it returns false'. Refute it at one input. -/
def superFormsWrong : ChangeSpec := { name := "superForms", fn := fun _ => fun
  | [d] => { results := [.lit (.bool false)], args := [d] }
  | _ => none }
def SuperFormsWrongFalsely : Prop := superFormsRow.holds Try.pinned (OpenSpec.ofChange superFormsWrong)

/-- 'lienlaw05.SuperReads': WHATEVER THE INPUT: true; the input reads as it did. -/
def superReadsSpec : ChangeSpec := { name := "superReads", fn := fun _ => fun
  | [d] => { results := [.lit (.bool true)], args := [d] }
  | _ => none }
def superReadsRow : OpenClaim := { program := "ytdamegjhdopfaaa", sum := "c9b6b9d4fd3bda69a5e29dfa7d81314f853d2fabe9c31a0204bbdf468bab78bc", func := "lien/lienlaw05.SuperReads", spec := "superReads", unfollowed := true, recurses := true, apart := false }
def SuperReadsSaid : Prop := superReadsRow.holds Try.pinned (OpenSpec.ofChange superReadsSpec)

/-- ITS FALSE NEIGHBOUR: 'it returns false'. Refute it at one input. -/
def superReadsWrong : ChangeSpec := { name := "superReads", fn := fun _ => fun
  | [d] => { results := [.lit (.bool false)], args := [d] }
  | _ => none }
def SuperReadsWrongFalsely : Prop := superReadsRow.holds Try.pinned (OpenSpec.ofChange superReadsWrong)

/-- 'lienlaw05.SuperBack': WHATEVER THE INPUT: true; the input reads as it did. -/
def superBackSpec : ChangeSpec := { name := "superBack", fn := fun _ => fun
  | [d1, d2] => { results := [.lit (.bool true)], args := [d1, d2] }
  | _ => none }
def superBackRow : OpenClaim := { program := "ytdamegjhdopfaaa", sum := "c9b6b9d4fd3bda69a5e29dfa7d81314f853d2fabe9c31a0204bbdf468bab78bc", func := "lien/lienlaw05.SuperBack", spec := "superBack", unfollowed := true, recurses := true, apart := false }
def SuperBackSaid : Prop := superBackRow.holds Try.pinned (OpenSpec.ofChange superBackSpec)

/-- ITS FALSE NEIGHBOUR: 'it returns false'. Refute it at one input. -/
def superBackWrong : ChangeSpec := { name := "superBack", fn := fun _ => fun
  | [d1, d2] => { results := [.lit (.bool false)], args := [d1, d2] }
  | _ => none }
def SuperBackWrongFalsely : Prop := superBackRow.holds Try.pinned (OpenSpec.ofChange superBackWrong)

/-- 'lienlaw05.SuperNobody': WHATEVER THE INPUT: true; the input reads as it did. -/
def superNobodySpec : ChangeSpec := { name := "superNobody", fn := fun _ => fun
  | [d] => { results := [.lit (.bool true)], args := [d] }
  | _ => none }
def superNobodyRow : OpenClaim := { program := "ytdamegjhdopfaaa", sum := "c9b6b9d4fd3bda69a5e29dfa7d81314f853d2fabe9c31a0204bbdf468bab78bc", func := "lien/lienlaw05.SuperNobody", spec := "superNobody", unfollowed := true, recurses := true, apart := false }
def SuperNobodySaid : Prop := superNobodyRow.holds Try.pinned (OpenSpec.ofChange superNobodySpec)

/-- ITS FALSE NEIGHBOUR: 'it returns false'. Refute it at one input. -/
def superNobodyWrong : ChangeSpec := { name := "superNobody", fn := fun _ => fun
  | [d] => { results := [.lit (.bool false)], args := [d] }
  | _ => none }
def SuperNobodyWrongFalsely : Prop := superNobodyRow.holds Try.pinned (OpenSpec.ofChange superNobodyWrong)

/-- 'lienlaw05.SuperCopy': WHATEVER THE INPUT: true; the input reads as it did. -/
def superCopySpec : ChangeSpec := { name := "superCopy", fn := fun _ => fun
  | [d1, d2, d3, d4, d5] => { results := [.lit (.bool true)], args := [d1, d2, d3, d4, d5] }
  | _ => none }
def superCopyRow : OpenClaim := { program := "ytdamegjhdopfaaa", sum := "c9b6b9d4fd3bda69a5e29dfa7d81314f853d2fabe9c31a0204bbdf468bab78bc", func := "lien/lienlaw05.SuperCopy", spec := "superCopy", unfollowed := true, recurses := true, apart := false }
def SuperCopySaid : Prop := superCopyRow.holds Try.pinned (OpenSpec.ofChange superCopySpec)

/-- ITS FALSE NEIGHBOUR: 'it returns false'. Refute it at one input. -/
def superCopyWrong : ChangeSpec := { name := "superCopy", fn := fun _ => fun
  | [d1, d2, d3, d4, d5] => { results := [.lit (.bool false)], args := [d1, d2, d3, d4, d5] }
  | _ => none }
def SuperCopyWrongFalsely : Prop := superCopyRow.holds Try.pinned (OpenSpec.ofChange superCopyWrong)

/- THE SECOND FORM. 'bulk': how many values and letters a reading holds, each counted each time it is reached (what is shared counts as often as it is met; a slice's spare places count too). A statement '..UptoSaid' is the law's where the arguments, and the package variables that the reading takes, are together of bulk at most 1048576: NARROWER than '..Said'. Prove '..Said' where nothing that the law and all that it calls make is longer than what came in: it says more and counts as full. Else prove '..UptoSaid'. A law counts once. -/
mutual
def uptoBulk {H : Type} : DataW H → Nat
  | .lit (.string bytes) => bytes.length + 1
  | .lit _ => 1
  | .nil => 1
  | .ptr d => uptoBulk d + 1
  | .slice elems spare => uptoBulkAll elems + uptoBulkAll spare + 1
  | .agg parts => uptoBulkAll parts + 1
  | .iface _ d => uptoBulk d + 1
  | .map entries => uptoBulkEntries entries + 1
  | .held _ => 1
def uptoBulkAll {H : Type} : List (DataW H) → Nat
  | [] => 0
  | d :: r => uptoBulk d + uptoBulkAll r
def uptoBulkEntries {H : Type} : List (Lit × DataW H) → Nat
  | [] => 0
  | x :: r => uptoBulkEntry x + uptoBulkEntries r
def uptoBulkEntry {H : Type} : Lit × DataW H → Nat
  | (.string bytes, d) => bytes.length + uptoBulk d + 1
  | (_, d) => uptoBulk d + 1
 end
def uptoSmall : (H : Type) → List (DataW H) → Bool := fun _ ds => decide (uptoBulkAll ds ≤ 1048576)
def OpenSpec.upto (s : _root_.Go.ChangeSpec) : _root_.Go.OpenSpec := { _root_.Go.OpenSpec.ofChange s with cond := some uptoSmall }

/-- 'lienlaw03.DiskApart', WHERE WHAT IT READS IS OF BULK AT MOST 1048576: true; the input reads as it did. -/
def diskApartUptoRow : OpenClaim := { program := "ytdamegjhdopfaaa", sum := "c9b6b9d4fd3bda69a5e29dfa7d81314f853d2fabe9c31a0204bbdf468bab78bc", func := "lien/lienlaw03.DiskApart", spec := "diskApart", unfollowed := true, recurses := true, apart := false, narrowed := true }
def DiskApartUptoSaid : Prop := diskApartUptoRow.holds Try.pinned (OpenSpec.upto diskApartSpec)

/-- 'lienlaw03.DiskOwn', WHERE WHAT IT READS IS OF BULK AT MOST 1048576: true; the input reads as it did. -/
def diskOwnUptoRow : OpenClaim := { program := "ytdamegjhdopfaaa", sum := "c9b6b9d4fd3bda69a5e29dfa7d81314f853d2fabe9c31a0204bbdf468bab78bc", func := "lien/lienlaw03.DiskOwn", spec := "diskOwn", unfollowed := true, recurses := true, apart := false, narrowed := true }
def DiskOwnUptoSaid : Prop := diskOwnUptoRow.holds Try.pinned (OpenSpec.upto diskOwnSpec)

/-- 'lienlaw03.DiskReads', WHERE WHAT IT READS IS OF BULK AT MOST 1048576: true; the input reads as it did. -/
def diskReadsUptoRow : OpenClaim := { program := "ytdamegjhdopfaaa", sum := "c9b6b9d4fd3bda69a5e29dfa7d81314f853d2fabe9c31a0204bbdf468bab78bc", func := "lien/lienlaw03.DiskReads", spec := "diskReads", unfollowed := true, recurses := true, apart := false, narrowed := true }
def DiskReadsUptoSaid : Prop := diskReadsUptoRow.holds Try.pinned (OpenSpec.upto diskReadsSpec)

/-- 'lienlaw03.DiskFlushed', WHERE WHAT IT READS IS OF BULK AT MOST 1048576: true; the input reads as it did. -/
def diskFlushedUptoRow : OpenClaim := { program := "ytdamegjhdopfaaa", sum := "c9b6b9d4fd3bda69a5e29dfa7d81314f853d2fabe9c31a0204bbdf468bab78bc", func := "lien/lienlaw03.DiskFlushed", spec := "diskFlushed", unfollowed := true, recurses := true, apart := false, narrowed := true }
def DiskFlushedUptoSaid : Prop := diskFlushedUptoRow.holds Try.pinned (OpenSpec.upto diskFlushedSpec)

/-- 'lienlaw03.DiskFuse', WHERE WHAT IT READS IS OF BULK AT MOST 1048576: true; the input reads as it did. -/
def diskFuseUptoRow : OpenClaim := { program := "ytdamegjhdopfaaa", sum := "c9b6b9d4fd3bda69a5e29dfa7d81314f853d2fabe9c31a0204bbdf468bab78bc", func := "lien/lienlaw03.DiskFuse", spec := "diskFuse", unfollowed := true, recurses := true, apart := false, narrowed := true }
def DiskFuseUptoSaid : Prop := diskFuseUptoRow.holds Try.pinned (OpenSpec.upto diskFuseSpec)

/-- 'lienlaw03.DiskRuns', WHERE WHAT IT READS IS OF BULK AT MOST 1048576: true; the input reads as it did. -/
def diskRunsUptoRow : OpenClaim := { program := "ytdamegjhdopfaaa", sum := "c9b6b9d4fd3bda69a5e29dfa7d81314f853d2fabe9c31a0204bbdf468bab78bc", func := "lien/lienlaw03.DiskRuns", spec := "diskRuns", unfollowed := true, recurses := true, apart := false, narrowed := true }
def DiskRunsUptoSaid : Prop := diskRunsUptoRow.holds Try.pinned (OpenSpec.upto diskRunsSpec)

/-- 'lienlaw03.DiskNobody', WHERE WHAT IT READS IS OF BULK AT MOST 1048576: true; the input reads as it did. -/
def diskNobodyUptoRow : OpenClaim := { program := "ytdamegjhdopfaaa", sum := "c9b6b9d4fd3bda69a5e29dfa7d81314f853d2fabe9c31a0204bbdf468bab78bc", func := "lien/lienlaw03.DiskNobody", spec := "diskNobody", unfollowed := true, recurses := true, apart := false, narrowed := true }
def DiskNobodyUptoSaid : Prop := diskNobodyUptoRow.holds Try.pinned (OpenSpec.upto diskNobodySpec)

/-- 'lienlaw05.SuperForms', WHERE WHAT IT READS IS OF BULK AT MOST 1048576: true; the input reads as it did. -/
def superFormsUptoRow : OpenClaim := { program := "ytdamegjhdopfaaa", sum := "c9b6b9d4fd3bda69a5e29dfa7d81314f853d2fabe9c31a0204bbdf468bab78bc", func := "lien/lienlaw05.SuperForms", spec := "superForms", unfollowed := true, recurses := true, apart := false, narrowed := true }
def SuperFormsUptoSaid : Prop := superFormsUptoRow.holds Try.pinned (OpenSpec.upto superFormsSpec)

/-- 'lienlaw05.SuperReads', WHERE WHAT IT READS IS OF BULK AT MOST 1048576: true; the input reads as it did. -/
def superReadsUptoRow : OpenClaim := { program := "ytdamegjhdopfaaa", sum := "c9b6b9d4fd3bda69a5e29dfa7d81314f853d2fabe9c31a0204bbdf468bab78bc", func := "lien/lienlaw05.SuperReads", spec := "superReads", unfollowed := true, recurses := true, apart := false, narrowed := true }
def SuperReadsUptoSaid : Prop := superReadsUptoRow.holds Try.pinned (OpenSpec.upto superReadsSpec)

/-- 'lienlaw05.SuperBack', WHERE WHAT IT READS IS OF BULK AT MOST 1048576: true; the input reads as it did. -/
def superBackUptoRow : OpenClaim := { program := "ytdamegjhdopfaaa", sum := "c9b6b9d4fd3bda69a5e29dfa7d81314f853d2fabe9c31a0204bbdf468bab78bc", func := "lien/lienlaw05.SuperBack", spec := "superBack", unfollowed := true, recurses := true, apart := false, narrowed := true }
def SuperBackUptoSaid : Prop := superBackUptoRow.holds Try.pinned (OpenSpec.upto superBackSpec)

/-- 'lienlaw05.SuperNobody', WHERE WHAT IT READS IS OF BULK AT MOST 1048576: true; the input reads as it did. -/
def superNobodyUptoRow : OpenClaim := { program := "ytdamegjhdopfaaa", sum := "c9b6b9d4fd3bda69a5e29dfa7d81314f853d2fabe9c31a0204bbdf468bab78bc", func := "lien/lienlaw05.SuperNobody", spec := "superNobody", unfollowed := true, recurses := true, apart := false, narrowed := true }
def SuperNobodyUptoSaid : Prop := superNobodyUptoRow.holds Try.pinned (OpenSpec.upto superNobodySpec)

/-- 'lienlaw05.SuperCopy', WHERE WHAT IT READS IS OF BULK AT MOST 1048576: true; the input reads as it did. -/
def superCopyUptoRow : OpenClaim := { program := "ytdamegjhdopfaaa", sum := "c9b6b9d4fd3bda69a5e29dfa7d81314f853d2fabe9c31a0204bbdf468bab78bc", func := "lien/lienlaw05.SuperCopy", spec := "superCopy", unfollowed := true, recurses := true, apart := false, narrowed := true }
def SuperCopyUptoSaid : Prop := superCopyUptoRow.holds Try.pinned (OpenSpec.upto superCopySpec)

end Rows
end Go.Proofs.Ytdamegjhdopfaaa
