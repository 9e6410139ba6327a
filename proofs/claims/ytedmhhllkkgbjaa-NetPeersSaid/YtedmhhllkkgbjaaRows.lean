/-
  No cell of these rows narrows 'for every input' (looked for: loops, veiled, ifaces, maps, wideKeys, modest, calm, conditions, laid).
  DERIVED. THE GIVEN ROWS OF THIS SEAT. 11 by the template 'for every input the law returns true; each argument reads behind the call as it read before'; 0 by the template 'total and deterministic' (their statements: YtedmhhllkkgbjaaTotals.lean).
  GIVEN WITH THE SEED: the statements are not yours to turn. If you find one false, say at which input.
  Laid BY PROGRAM, IN A SANDBOX (cutbox-rows.mjs): the forced cells as the released guide's own fill.sh prints them over the translation bcf8e38bcd985643… (all of the seat's roots in one cut). By AI agents, Wed Nov 11 2026. No macro, syntax, notation, axiom, sorry.
-/
import Derived.Test.YtedmhhllkkgbjaaChecked
import GoSem.Claim
import GoSem.ClaimJoined
import GoSem.ClaimMapViews
import Derived.JoinedTies
import Derived.KernelRfl
namespace Go.Proofs.Ytedmhhllkkgbjaa
/- THE CELL 'sum', in the pinned program and in every row, IS THE sha256 OF THE DUMP (.gsa) THAT YtedmhhllkkgbjaaProg.lean LOADS. Nothing in Lean hashes anything: it is a label: what it is worth is what the hold of that sum in a sandbox is worth. -/
noncomputable def Try.pinned : Pinned := { name := "ytedmhhllkkgbjaa", sum := "bcf8e38bcd9856433e5250c2cb910d42950d83535b32a20a3a865912201a235f", checked := Try.checked }
namespace Rows
def none {H : Type} : Left H := { results := [], args := [] }

/-- 'lienlaw26.NetMany': WHATEVER THE INPUT: true; the input reads as it did. -/
def netManySpec : ChangeSpec := { name := "netMany", fn := fun _ => fun
  | [d1, d2] => { results := [.lit (.bool true)], args := [d1, d2] }
  | _ => none }
def netManyRow : OpenClaim := { program := "ytedmhhllkkgbjaa", sum := "bcf8e38bcd9856433e5250c2cb910d42950d83535b32a20a3a865912201a235f", func := "lien/lienlaw26.NetMany", spec := "netMany", unfollowed := true, recurses := true, apart := false }
def NetManySaid : Prop := netManyRow.holds Try.pinned (OpenSpec.ofChange netManySpec)

/-- ITS FALSE NEIGHBOUR: 'it returns false'. Refute it at one input. -/
def netManyWrong : ChangeSpec := { name := "netMany", fn := fun _ => fun
  | [d1, d2] => { results := [.lit (.bool false)], args := [d1, d2] }
  | _ => none }
def NetManyWrongFalsely : Prop := netManyRow.holds Try.pinned (OpenSpec.ofChange netManyWrong)

/-- 'lienlaw26.NetRuns': WHATEVER THE INPUT: true; the input reads as it did. -/
def netRunsSpec : ChangeSpec := { name := "netRuns", fn := fun _ => fun
  | [d] => { results := [.lit (.bool true)], args := [d] }
  | _ => none }
def netRunsRow : OpenClaim := { program := "ytedmhhllkkgbjaa", sum := "bcf8e38bcd9856433e5250c2cb910d42950d83535b32a20a3a865912201a235f", func := "lien/lienlaw26.NetRuns", spec := "netRuns", unfollowed := true, recurses := true, apart := false }
def NetRunsSaid : Prop := netRunsRow.holds Try.pinned (OpenSpec.ofChange netRunsSpec)

/-- ITS FALSE NEIGHBOUR: 'it returns false'. Refute it at one input. -/
def netRunsWrong : ChangeSpec := { name := "netRuns", fn := fun _ => fun
  | [d] => { results := [.lit (.bool false)], args := [d] }
  | _ => none }
def NetRunsWrongFalsely : Prop := netRunsRow.holds Try.pinned (OpenSpec.ofChange netRunsWrong)

/-- 'lienlaw08.FragMany': WHATEVER THE INPUT: true; the input reads as it did. -/
def fragManySpec : ChangeSpec := { name := "fragMany", fn := fun _ => fun
  | [d1, d2] => { results := [.lit (.bool true)], args := [d1, d2] }
  | _ => none }
def fragManyRow : OpenClaim := { program := "ytedmhhllkkgbjaa", sum := "bcf8e38bcd9856433e5250c2cb910d42950d83535b32a20a3a865912201a235f", func := "lien/lienlaw08.FragMany", spec := "fragMany", unfollowed := true, recurses := true, apart := false }
def FragManySaid : Prop := fragManyRow.holds Try.pinned (OpenSpec.ofChange fragManySpec)

/-- ITS FALSE NEIGHBOUR: 'it returns false'. Refute it at one input. -/
def fragManyWrong : ChangeSpec := { name := "fragMany", fn := fun _ => fun
  | [d1, d2] => { results := [.lit (.bool false)], args := [d1, d2] }
  | _ => none }
def FragManyWrongFalsely : Prop := fragManyRow.holds Try.pinned (OpenSpec.ofChange fragManyWrong)

/-- 'lienlaw08.FragJoins': WHATEVER THE INPUT: true; the input reads as it did. -/
def fragJoinsSpec : ChangeSpec := { name := "fragJoins", fn := fun _ => fun
  | [d] => { results := [.lit (.bool true)], args := [d] }
  | _ => none }
def fragJoinsRow : OpenClaim := { program := "ytedmhhllkkgbjaa", sum := "bcf8e38bcd9856433e5250c2cb910d42950d83535b32a20a3a865912201a235f", func := "lien/lienlaw08.FragJoins", spec := "fragJoins", unfollowed := true, recurses := true, apart := false }
def FragJoinsSaid : Prop := fragJoinsRow.holds Try.pinned (OpenSpec.ofChange fragJoinsSpec)

/-- ITS FALSE NEIGHBOUR: 'it returns false'. Refute it at one input. -/
def fragJoinsWrong : ChangeSpec := { name := "fragJoins", fn := fun _ => fun
  | [d] => { results := [.lit (.bool false)], args := [d] }
  | _ => none }
def FragJoinsWrongFalsely : Prop := fragJoinsRow.holds Try.pinned (OpenSpec.ofChange fragJoinsWrong)

/-- 'lienlaw08.FragBack': WHATEVER THE INPUT: true; the input reads as it did. -/
def fragBackSpec : ChangeSpec := { name := "fragBack", fn := fun _ => fun
  | [d1, d2] => { results := [.lit (.bool true)], args := [d1, d2] }
  | _ => none }
def fragBackRow : OpenClaim := { program := "ytedmhhllkkgbjaa", sum := "bcf8e38bcd9856433e5250c2cb910d42950d83535b32a20a3a865912201a235f", func := "lien/lienlaw08.FragBack", spec := "fragBack", unfollowed := true, recurses := true, apart := false }
def FragBackSaid : Prop := fragBackRow.holds Try.pinned (OpenSpec.ofChange fragBackSpec)

/-- ITS FALSE NEIGHBOUR: 'it returns false'. Refute it at one input. -/
def fragBackWrong : ChangeSpec := { name := "fragBack", fn := fun _ => fun
  | [d1, d2] => { results := [.lit (.bool false)], args := [d1, d2] }
  | _ => none }
def FragBackWrongFalsely : Prop := fragBackRow.holds Try.pinned (OpenSpec.ofChange fragBackWrong)

/-- 'lienlaw08.FragGroups': WHATEVER THE INPUT: true; the input reads as it did. -/
def fragGroupsSpec : ChangeSpec := { name := "fragGroups", fn := fun _ => fun
  | [d1, d2, d3] => { results := [.lit (.bool true)], args := [d1, d2, d3] }
  | _ => none }
def fragGroupsRow : OpenClaim := { program := "ytedmhhllkkgbjaa", sum := "bcf8e38bcd9856433e5250c2cb910d42950d83535b32a20a3a865912201a235f", func := "lien/lienlaw08.FragGroups", spec := "fragGroups", unfollowed := true, recurses := true, apart := false }
def FragGroupsSaid : Prop := fragGroupsRow.holds Try.pinned (OpenSpec.ofChange fragGroupsSpec)

/-- ITS FALSE NEIGHBOUR: 'it returns false'. Refute it at one input. -/
def fragGroupsWrong : ChangeSpec := { name := "fragGroups", fn := fun _ => fun
  | [d1, d2, d3] => { results := [.lit (.bool false)], args := [d1, d2, d3] }
  | _ => none }
def FragGroupsWrongFalsely : Prop := fragGroupsRow.holds Try.pinned (OpenSpec.ofChange fragGroupsWrong)

/-- 'lienlaw08.FragCuts': WHATEVER THE INPUT: true; the input reads as it did. -/
def fragCutsSpec : ChangeSpec := { name := "fragCuts", fn := fun _ => fun
  | [d] => { results := [.lit (.bool true)], args := [d] }
  | _ => none }
def fragCutsRow : OpenClaim := { program := "ytedmhhllkkgbjaa", sum := "bcf8e38bcd9856433e5250c2cb910d42950d83535b32a20a3a865912201a235f", func := "lien/lienlaw08.FragCuts", spec := "fragCuts", unfollowed := true, recurses := true, apart := false }
def FragCutsSaid : Prop := fragCutsRow.holds Try.pinned (OpenSpec.ofChange fragCutsSpec)

/-- ITS FALSE NEIGHBOUR: 'it returns false'. Refute it at one input. -/
def fragCutsWrong : ChangeSpec := { name := "fragCuts", fn := fun _ => fun
  | [d] => { results := [.lit (.bool false)], args := [d] }
  | _ => none }
def FragCutsWrongFalsely : Prop := fragCutsRow.holds Try.pinned (OpenSpec.ofChange fragCutsWrong)

/-- 'lienlaw08.FragNeeds': WHATEVER THE INPUT: true; the input reads as it did. -/
def fragNeedsSpec : ChangeSpec := { name := "fragNeeds", fn := fun _ => fun
  | [d] => { results := [.lit (.bool true)], args := [d] }
  | _ => none }
def fragNeedsRow : OpenClaim := { program := "ytedmhhllkkgbjaa", sum := "bcf8e38bcd9856433e5250c2cb910d42950d83535b32a20a3a865912201a235f", func := "lien/lienlaw08.FragNeeds", spec := "fragNeeds", unfollowed := true, recurses := true, apart := false }
def FragNeedsSaid : Prop := fragNeedsRow.holds Try.pinned (OpenSpec.ofChange fragNeedsSpec)

/-- ITS FALSE NEIGHBOUR: 'it returns false'. Refute it at one input. -/
def fragNeedsWrong : ChangeSpec := { name := "fragNeeds", fn := fun _ => fun
  | [d] => { results := [.lit (.bool false)], args := [d] }
  | _ => none }
def FragNeedsWrongFalsely : Prop := fragNeedsRow.holds Try.pinned (OpenSpec.ofChange fragNeedsWrong)

/-- 'lienlaw26.NetOnce': WHATEVER THE INPUT: true; the input reads as it did. -/
def netOnceSpec : ChangeSpec := { name := "netOnce", fn := fun _ => fun
  | [d1, d2] => { results := [.lit (.bool true)], args := [d1, d2] }
  | _ => none }
def netOnceRow : OpenClaim := { program := "ytedmhhllkkgbjaa", sum := "bcf8e38bcd9856433e5250c2cb910d42950d83535b32a20a3a865912201a235f", func := "lien/lienlaw26.NetOnce", spec := "netOnce", unfollowed := true, recurses := true, apart := false }
def NetOnceSaid : Prop := netOnceRow.holds Try.pinned (OpenSpec.ofChange netOnceSpec)

/-- ITS FALSE NEIGHBOUR: 'it returns false'. Refute it at one input. -/
def netOnceWrong : ChangeSpec := { name := "netOnce", fn := fun _ => fun
  | [d1, d2] => { results := [.lit (.bool false)], args := [d1, d2] }
  | _ => none }
def NetOnceWrongFalsely : Prop := netOnceRow.holds Try.pinned (OpenSpec.ofChange netOnceWrong)

/-- 'lienlaw26.NetPeers': WHATEVER THE INPUT: true; the input reads as it did. -/
def netPeersSpec : ChangeSpec := { name := "netPeers", fn := fun _ => fun
  | [d1, d2] => { results := [.lit (.bool true)], args := [d1, d2] }
  | _ => none }
def netPeersRow : OpenClaim := { program := "ytedmhhllkkgbjaa", sum := "bcf8e38bcd9856433e5250c2cb910d42950d83535b32a20a3a865912201a235f", func := "lien/lienlaw26.NetPeers", spec := "netPeers", unfollowed := true, recurses := true, apart := false }
def NetPeersSaid : Prop := netPeersRow.holds Try.pinned (OpenSpec.ofChange netPeersSpec)

/-- ITS FALSE NEIGHBOUR: 'it returns false'. Refute it at one input. -/
def netPeersWrong : ChangeSpec := { name := "netPeers", fn := fun _ => fun
  | [d1, d2] => { results := [.lit (.bool false)], args := [d1, d2] }
  | _ => none }
def NetPeersWrongFalsely : Prop := netPeersRow.holds Try.pinned (OpenSpec.ofChange netPeersWrong)

/-- 'lienlaw26.NetNobody': WHATEVER THE INPUT: true; the input reads as it did. -/
def netNobodySpec : ChangeSpec := { name := "netNobody", fn := fun _ => fun
  | [d1, d2, d3] => { results := [.lit (.bool true)], args := [d1, d2, d3] }
  | _ => none }
def netNobodyRow : OpenClaim := { program := "ytedmhhllkkgbjaa", sum := "bcf8e38bcd9856433e5250c2cb910d42950d83535b32a20a3a865912201a235f", func := "lien/lienlaw26.NetNobody", spec := "netNobody", unfollowed := true, recurses := true, apart := false }
def NetNobodySaid : Prop := netNobodyRow.holds Try.pinned (OpenSpec.ofChange netNobodySpec)

/-- ITS FALSE NEIGHBOUR: 'it returns false'. Refute it at one input. -/
def netNobodyWrong : ChangeSpec := { name := "netNobody", fn := fun _ => fun
  | [d1, d2, d3] => { results := [.lit (.bool false)], args := [d1, d2, d3] }
  | _ => none }
def NetNobodyWrongFalsely : Prop := netNobodyRow.holds Try.pinned (OpenSpec.ofChange netNobodyWrong)

/- THE SECOND FORM. 'bulk': how many values and letters a reading holds, each counted each time it is reached (what is shared counts as often as it is met; a slice's spare places count too). A statement '..UptoSaid' is the law's where the arguments, and the package variables that the reading takes, are together of bulk at most 1048576: NARROWER than '..Said'. Prove '..Said' where nothing that the law and all that it calls make is longer than what came in: it says more and counts as full. Else prove '..UptoSaid'. A law counts once. -/
mutual
def uptoBulk {H : Type} : DataW H → Nat
  | .lit (.string bytes) => bytes.length + 1
  | .lit _ => 1
  | .nil => 1
  | .ptr d => uptoBulk d + 1
  | .slice elems spare => uptoBulkAll elems + uptoBulkAll spare + 1
  | .agg parts => uptoBulkAll parts + 1
  | .iface _ d => uptoBulk d + 1
  | .map entries => uptoBulkEntries entries + 1
  | .held _ => 1
def uptoBulkAll {H : Type} : List (DataW H) → Nat
  | [] => 0
  | d :: r => uptoBulk d + uptoBulkAll r
def uptoBulkEntries {H : Type} : List (Lit × DataW H) → Nat
  | [] => 0
  | x :: r => uptoBulkEntry x + uptoBulkEntries r
def uptoBulkEntry {H : Type} : Lit × DataW H → Nat
  | (.string bytes, d) => bytes.length + uptoBulk d + 1
  | (_, d) => uptoBulk d + 1
 end
def uptoSmall : (H : Type) → List (DataW H) → Bool := fun _ ds => decide (uptoBulkAll ds ≤ 1048576)
def OpenSpec.upto (s : _root_.Go.ChangeSpec) : _root_.Go.OpenSpec := { _root_.Go.OpenSpec.ofChange s with cond := some uptoSmall }

/-- 'lienlaw26.NetMany', WHERE WHAT IT READS IS OF BULK AT MOST 1048576: true; the input reads as it did. -/
def netManyUptoRow : OpenClaim := { program := "ytedmhhllkkgbjaa", sum := "bcf8e38bcd9856433e5250c2cb910d42950d83535b32a20a3a865912201a235f", func := "lien/lienlaw26.NetMany", spec := "netMany", unfollowed := true, recurses := true, apart := false, narrowed := true }
def NetManyUptoSaid : Prop := netManyUptoRow.holds Try.pinned (OpenSpec.upto netManySpec)

/-- 'lienlaw26.NetRuns', WHERE WHAT IT READS IS OF BULK AT MOST 1048576: true; the input reads as it did. -/
def netRunsUptoRow : OpenClaim := { program := "ytedmhhllkkgbjaa", sum := "bcf8e38bcd9856433e5250c2cb910d42950d83535b32a20a3a865912201a235f", func := "lien/lienlaw26.NetRuns", spec := "netRuns", unfollowed := true, recurses := true, apart := false, narrowed := true }
def NetRunsUptoSaid : Prop := netRunsUptoRow.holds Try.pinned (OpenSpec.upto netRunsSpec)

/-- 'lienlaw08.FragMany', WHERE WHAT IT READS IS OF BULK AT MOST 1048576: true; the input reads as it did. -/
def fragManyUptoRow : OpenClaim := { program := "ytedmhhllkkgbjaa", sum := "bcf8e38bcd9856433e5250c2cb910d42950d83535b32a20a3a865912201a235f", func := "lien/lienlaw08.FragMany", spec := "fragMany", unfollowed := true, recurses := true, apart := false, narrowed := true }
def FragManyUptoSaid : Prop := fragManyUptoRow.holds Try.pinned (OpenSpec.upto fragManySpec)

/-- 'lienlaw08.FragJoins', WHERE WHAT IT READS IS OF BULK AT MOST 1048576: true; the input reads as it did. -/
def fragJoinsUptoRow : OpenClaim := { program := "ytedmhhllkkgbjaa", sum := "bcf8e38bcd9856433e5250c2cb910d42950d83535b32a20a3a865912201a235f", func := "lien/lienlaw08.FragJoins", spec := "fragJoins", unfollowed := true, recurses := true, apart := false, narrowed := true }
def FragJoinsUptoSaid : Prop := fragJoinsUptoRow.holds Try.pinned (OpenSpec.upto fragJoinsSpec)

/-- 'lienlaw08.FragBack', WHERE WHAT IT READS IS OF BULK AT MOST 1048576: true; the input reads as it did. -/
def fragBackUptoRow : OpenClaim := { program := "ytedmhhllkkgbjaa", sum := "bcf8e38bcd9856433e5250c2cb910d42950d83535b32a20a3a865912201a235f", func := "lien/lienlaw08.FragBack", spec := "fragBack", unfollowed := true, recurses := true, apart := false, narrowed := true }
def FragBackUptoSaid : Prop := fragBackUptoRow.holds Try.pinned (OpenSpec.upto fragBackSpec)

/-- 'lienlaw08.FragGroups', WHERE WHAT IT READS IS OF BULK AT MOST 1048576: true; the input reads as it did. -/
def fragGroupsUptoRow : OpenClaim := { program := "ytedmhhllkkgbjaa", sum := "bcf8e38bcd9856433e5250c2cb910d42950d83535b32a20a3a865912201a235f", func := "lien/lienlaw08.FragGroups", spec := "fragGroups", unfollowed := true, recurses := true, apart := false, narrowed := true }
def FragGroupsUptoSaid : Prop := fragGroupsUptoRow.holds Try.pinned (OpenSpec.upto fragGroupsSpec)

/-- 'lienlaw08.FragCuts', WHERE WHAT IT READS IS OF BULK AT MOST 1048576: true; the input reads as it did. -/
def fragCutsUptoRow : OpenClaim := { program := "ytedmhhllkkgbjaa", sum := "bcf8e38bcd9856433e5250c2cb910d42950d83535b32a20a3a865912201a235f", func := "lien/lienlaw08.FragCuts", spec := "fragCuts", unfollowed := true, recurses := true, apart := false, narrowed := true }
def FragCutsUptoSaid : Prop := fragCutsUptoRow.holds Try.pinned (OpenSpec.upto fragCutsSpec)

/-- 'lienlaw08.FragNeeds', WHERE WHAT IT READS IS OF BULK AT MOST 1048576: true; the input reads as it did. -/
def fragNeedsUptoRow : OpenClaim := { program := "ytedmhhllkkgbjaa", sum := "bcf8e38bcd9856433e5250c2cb910d42950d83535b32a20a3a865912201a235f", func := "lien/lienlaw08.FragNeeds", spec := "fragNeeds", unfollowed := true, recurses := true, apart := false, narrowed := true }
def FragNeedsUptoSaid : Prop := fragNeedsUptoRow.holds Try.pinned (OpenSpec.upto fragNeedsSpec)

/-- 'lienlaw26.NetOnce', WHERE WHAT IT READS IS OF BULK AT MOST 1048576: true; the input reads as it did. -/
def netOnceUptoRow : OpenClaim := { program := "ytedmhhllkkgbjaa", sum := "bcf8e38bcd9856433e5250c2cb910d42950d83535b32a20a3a865912201a235f", func := "lien/lienlaw26.NetOnce", spec := "netOnce", unfollowed := true, recurses := true, apart := false, narrowed := true }
def NetOnceUptoSaid : Prop := netOnceUptoRow.holds Try.pinned (OpenSpec.upto netOnceSpec)

/-- 'lienlaw26.NetPeers', WHERE WHAT IT READS IS OF BULK AT MOST 1048576: true; the input reads as it did. -/
def netPeersUptoRow : OpenClaim := { program := "ytedmhhllkkgbjaa", sum := "bcf8e38bcd9856433e5250c2cb910d42950d83535b32a20a3a865912201a235f", func := "lien/lienlaw26.NetPeers", spec := "netPeers", unfollowed := true, recurses := true, apart := false, narrowed := true }
def NetPeersUptoSaid : Prop := netPeersUptoRow.holds Try.pinned (OpenSpec.upto netPeersSpec)

/-- 'lienlaw26.NetNobody', WHERE WHAT IT READS IS OF BULK AT MOST 1048576: true; the input reads as it did. -/
def netNobodyUptoRow : OpenClaim := { program := "ytedmhhllkkgbjaa", sum := "bcf8e38bcd9856433e5250c2cb910d42950d83535b32a20a3a865912201a235f", func := "lien/lienlaw26.NetNobody", spec := "netNobody", unfollowed := true, recurses := true, apart := false, narrowed := true }
def NetNobodyUptoSaid : Prop := netNobodyUptoRow.holds Try.pinned (OpenSpec.upto netNobodySpec)

end Rows
end Go.Proofs.Ytedmhhllkkgbjaa
