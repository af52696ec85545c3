/-
  NARROWER THAN 'FOR EVERY INPUT', by the rows' own cells (each row's printed sentence says how): MeasureTells: loops · MeasureParts: loops.
  DERIVED. THE GIVEN ROWS OF THIS SEAT. 7 by the template 'for every input the law returns true; each argument reads behind the call as it read before'; 0 by the template 'total and deterministic' (their statements: YtfebcpmbkljaoaaTotals.lean).
  GIVEN WITH THE SEED: the statements are not yours to turn. If you find one false, say at which input.
  Laid BY PROGRAM, IN A SANDBOX (cutbox-rows.mjs): the forced cells as the released guide's own fill.sh prints them over the translation 3b577abdb8410d15… (all of the seat's roots in one cut). By AI agents, Wed Nov 11 2026. No macro, syntax, notation, axiom, sorry.
-/
import Derived.Test.YtfebcpmbkljaoaaChecked
import GoSem.Claim
import GoSem.ClaimJoined
import GoSem.ClaimMapViews
import Derived.JoinedTies
import Derived.KernelRfl
namespace Go.Proofs.Ytfebcpmbkljaoaa
/- THE CELL 'sum', in the pinned program and in every row, IS THE sha256 OF THE DUMP (.gsa) THAT YtfebcpmbkljaoaaProg.lean LOADS. Nothing in Lean hashes anything: it is a label: what it is worth is what the hold of that sum in a sandbox is worth. -/
noncomputable def Try.pinned : Pinned := { name := "ytfebcpmbkljaoaa", sum := "3b577abdb8410d1531a3b88aa3712177f33c2f5028ece2aea179128b5923437b", checked := Try.checked }
namespace Rows
def none {H : Type} : Left H := { results := [], args := [] }

/-- 'lyceumlaw31.MeasureGoals': WHATEVER THE INPUT: true; the input reads as it did. -/
def measureGoalsSpec : ChangeSpec := { name := "measureGoals", fn := fun _ => fun
  | [d] => { results := [.lit (.bool true)], args := [d] }
  | _ => none }
def measureGoalsRow : OpenClaim := { program := "ytfebcpmbkljaoaa", sum := "3b577abdb8410d1531a3b88aa3712177f33c2f5028ece2aea179128b5923437b", func := "lyceum/lyceumlaw31.MeasureGoals", spec := "measureGoals", unfollowed := true, recurses := true, apart := false }
def MeasureGoalsSaid : Prop := measureGoalsRow.holds Try.pinned (OpenSpec.ofChange measureGoalsSpec)

/-- ITS FALSE NEIGHBOUR: 'it returns false'. Refute it at one input. -/
def measureGoalsWrong : ChangeSpec := { name := "measureGoals", fn := fun _ => fun
  | [d] => { results := [.lit (.bool false)], args := [d] }
  | _ => none }
def MeasureGoalsWrongFalsely : Prop := measureGoalsRow.holds Try.pinned (OpenSpec.ofChange measureGoalsWrong)

/-- 'lyceumlaw31.MeasureTells': WHATEVER THE INPUT: true; the input reads as it did. -/
def measureTellsSpec : ChangeSpec := { name := "measureTells", fn := fun _ => fun
  | [d1, d2] => { results := [.lit (.bool true)], args := [d1, d2] }
  | _ => none }
def measureTellsRow : OpenClaim := { program := "ytfebcpmbkljaoaa", sum := "3b577abdb8410d1531a3b88aa3712177f33c2f5028ece2aea179128b5923437b", func := "lyceum/lyceumlaw31.MeasureTells", spec := "measureTells", unfollowed := true, recurses := true, loops := true, apart := false }
def MeasureTellsSaid : Prop := measureTellsRow.holds Try.pinned (OpenSpec.ofChange measureTellsSpec)

/-- ITS FALSE NEIGHBOUR: 'it returns false'. Refute it at one input. -/
def measureTellsWrong : ChangeSpec := { name := "measureTells", fn := fun _ => fun
  | [d1, d2] => { results := [.lit (.bool false)], args := [d1, d2] }
  | _ => none }
def MeasureTellsWrongFalsely : Prop := measureTellsRow.holds Try.pinned (OpenSpec.ofChange measureTellsWrong)

/-- 'lyceumlaw31.MeasureWrong': WHATEVER THE INPUT: true; the input reads as it did. -/
def measureWrongSpec : ChangeSpec := { name := "measureWrong", fn := fun _ => fun
  | [d1, d2] => { results := [.lit (.bool true)], args := [d1, d2] }
  | _ => none }
def measureWrongRow : OpenClaim := { program := "ytfebcpmbkljaoaa", sum := "3b577abdb8410d1531a3b88aa3712177f33c2f5028ece2aea179128b5923437b", func := "lyceum/lyceumlaw31.MeasureWrong", spec := "measureWrong", unfollowed := true, recurses := true, apart := false }
def MeasureWrongSaid : Prop := measureWrongRow.holds Try.pinned (OpenSpec.ofChange measureWrongSpec)

/-- ITS FALSE NEIGHBOUR: 'it returns false'. Refute it at one input. -/
def measureWrongWrong : ChangeSpec := { name := "measureWrong", fn := fun _ => fun
  | [d1, d2] => { results := [.lit (.bool false)], args := [d1, d2] }
  | _ => none }
def MeasureWrongWrongFalsely : Prop := measureWrongRow.holds Try.pinned (OpenSpec.ofChange measureWrongWrong)

/-- 'lyceumlaw31.MeasureGrows': WHATEVER THE INPUT: true; the input reads as it did. -/
def measureGrowsSpec : ChangeSpec := { name := "measureGrows", fn := fun _ => fun
  | [d1, d2, d3] => { results := [.lit (.bool true)], args := [d1, d2, d3] }
  | _ => none }
def measureGrowsRow : OpenClaim := { program := "ytfebcpmbkljaoaa", sum := "3b577abdb8410d1531a3b88aa3712177f33c2f5028ece2aea179128b5923437b", func := "lyceum/lyceumlaw31.MeasureGrows", spec := "measureGrows", unfollowed := true, recurses := true, apart := false }
def MeasureGrowsSaid : Prop := measureGrowsRow.holds Try.pinned (OpenSpec.ofChange measureGrowsSpec)

/-- ITS FALSE NEIGHBOUR: 'it returns false'. Refute it at one input. -/
def measureGrowsWrong : ChangeSpec := { name := "measureGrows", fn := fun _ => fun
  | [d1, d2, d3] => { results := [.lit (.bool false)], args := [d1, d2, d3] }
  | _ => none }
def MeasureGrowsWrongFalsely : Prop := measureGrowsRow.holds Try.pinned (OpenSpec.ofChange measureGrowsWrong)

/-- 'lyceumlaw31.MeasureParts': WHATEVER THE INPUT: true; the input reads as it did. -/
def measurePartsSpec : ChangeSpec := { name := "measureParts", fn := fun _ => fun
  | [d1, d2, d3] => { results := [.lit (.bool true)], args := [d1, d2, d3] }
  | _ => none }
def measurePartsRow : OpenClaim := { program := "ytfebcpmbkljaoaa", sum := "3b577abdb8410d1531a3b88aa3712177f33c2f5028ece2aea179128b5923437b", func := "lyceum/lyceumlaw31.MeasureParts", spec := "measureParts", unfollowed := true, recurses := true, loops := true, apart := false }
def MeasurePartsSaid : Prop := measurePartsRow.holds Try.pinned (OpenSpec.ofChange measurePartsSpec)

/-- ITS FALSE NEIGHBOUR: 'it returns false'. Refute it at one input. -/
def measurePartsWrong : ChangeSpec := { name := "measureParts", fn := fun _ => fun
  | [d1, d2, d3] => { results := [.lit (.bool false)], args := [d1, d2, d3] }
  | _ => none }
def MeasurePartsWrongFalsely : Prop := measurePartsRow.holds Try.pinned (OpenSpec.ofChange measurePartsWrong)

/-- 'lyceumlaw31.MeasureApart': WHATEVER THE INPUT: true; the input reads as it did. -/
def measureApartSpec : ChangeSpec := { name := "measureApart", fn := fun _ => fun
  | [d1, d2, d3, d4, d5] => { results := [.lit (.bool true)], args := [d1, d2, d3, d4, d5] }
  | _ => none }
def measureApartRow : OpenClaim := { program := "ytfebcpmbkljaoaa", sum := "3b577abdb8410d1531a3b88aa3712177f33c2f5028ece2aea179128b5923437b", func := "lyceum/lyceumlaw31.MeasureApart", spec := "measureApart", unfollowed := true, recurses := true, apart := false }
def MeasureApartSaid : Prop := measureApartRow.holds Try.pinned (OpenSpec.ofChange measureApartSpec)

/-- ITS FALSE NEIGHBOUR: 'it returns false'. Refute it at one input. -/
def measureApartWrong : ChangeSpec := { name := "measureApart", fn := fun _ => fun
  | [d1, d2, d3, d4, d5] => { results := [.lit (.bool false)], args := [d1, d2, d3, d4, d5] }
  | _ => none }
def MeasureApartWrongFalsely : Prop := measureApartRow.holds Try.pinned (OpenSpec.ofChange measureApartWrong)

/-- 'lyceumlaw31.MeasureLimits': WHATEVER THE INPUT: true; the input reads as it did. -/
def measureLimitsSpec : ChangeSpec := { name := "measureLimits", fn := fun _ => fun
  | [d1, d2, d3, d4] => { results := [.lit (.bool true)], args := [d1, d2, d3, d4] }
  | _ => none }
def measureLimitsRow : OpenClaim := { program := "ytfebcpmbkljaoaa", sum := "3b577abdb8410d1531a3b88aa3712177f33c2f5028ece2aea179128b5923437b", func := "lyceum/lyceumlaw31.MeasureLimits", spec := "measureLimits", unfollowed := true, recurses := true, apart := false }
def MeasureLimitsSaid : Prop := measureLimitsRow.holds Try.pinned (OpenSpec.ofChange measureLimitsSpec)

/-- ITS FALSE NEIGHBOUR: 'it returns false'. Refute it at one input. -/
def measureLimitsWrong : ChangeSpec := { name := "measureLimits", fn := fun _ => fun
  | [d1, d2, d3, d4] => { results := [.lit (.bool false)], args := [d1, d2, d3, d4] }
  | _ => none }
def MeasureLimitsWrongFalsely : Prop := measureLimitsRow.holds Try.pinned (OpenSpec.ofChange measureLimitsWrong)

/- THE SECOND FORM. 'bulk': how many values and letters a reading holds, each counted each time it is reached (what is shared counts as often as it is met; a slice's spare places count too). A statement '..UptoSaid' is the law's where the arguments, and the package variables that the reading takes, are together of bulk at most 1048576: NARROWER than '..Said'. Prove '..Said' where nothing that the law and all that it calls make is longer than what came in: it says more and counts as full. Else prove '..UptoSaid'. A law counts once. -/
mutual
def uptoBulk {H : Type} : DataW H → Nat
  | .lit (.string bytes) => bytes.length + 1
  | .lit _ => 1
  | .nil => 1
  | .ptr d => uptoBulk d + 1
  | .slice elems spare => uptoBulkAll elems + uptoBulkAll spare + 1
  | .agg parts => uptoBulkAll parts + 1
  | .iface _ d => uptoBulk d + 1
  | .map entries => uptoBulkEntries entries + 1
  | .held _ => 1
def uptoBulkAll {H : Type} : List (DataW H) → Nat
  | [] => 0
  | d :: r => uptoBulk d + uptoBulkAll r
def uptoBulkEntries {H : Type} : List (Lit × DataW H) → Nat
  | [] => 0
  | x :: r => uptoBulkEntry x + uptoBulkEntries r
def uptoBulkEntry {H : Type} : Lit × DataW H → Nat
  | (.string bytes, d) => bytes.length + uptoBulk d + 1
  | (_, d) => uptoBulk d + 1
 end
def uptoSmall : (H : Type) → List (DataW H) → Bool := fun _ ds => decide (uptoBulkAll ds ≤ 1048576)
def OpenSpec.upto (s : _root_.Go.ChangeSpec) : _root_.Go.OpenSpec := { _root_.Go.OpenSpec.ofChange s with cond := some uptoSmall }

/-- 'lyceumlaw31.MeasureGoals', WHERE WHAT IT READS IS OF BULK AT MOST 1048576: true; the input reads as it did. -/
def measureGoalsUptoRow : OpenClaim := { program := "ytfebcpmbkljaoaa", sum := "3b577abdb8410d1531a3b88aa3712177f33c2f5028ece2aea179128b5923437b", func := "lyceum/lyceumlaw31.MeasureGoals", spec := "measureGoals", unfollowed := true, recurses := true, apart := false, narrowed := true }
def MeasureGoalsUptoSaid : Prop := measureGoalsUptoRow.holds Try.pinned (OpenSpec.upto measureGoalsSpec)

/-- 'lyceumlaw31.MeasureTells', WHERE WHAT IT READS IS OF BULK AT MOST 1048576: true; the input reads as it did. -/
def measureTellsUptoRow : OpenClaim := { program := "ytfebcpmbkljaoaa", sum := "3b577abdb8410d1531a3b88aa3712177f33c2f5028ece2aea179128b5923437b", func := "lyceum/lyceumlaw31.MeasureTells", spec := "measureTells", unfollowed := true, recurses := true, loops := true, apart := false, narrowed := true }
def MeasureTellsUptoSaid : Prop := measureTellsUptoRow.holds Try.pinned (OpenSpec.upto measureTellsSpec)

/-- 'lyceumlaw31.MeasureWrong', WHERE WHAT IT READS IS OF BULK AT MOST 1048576: true; the input reads as it did. -/
def measureWrongUptoRow : OpenClaim := { program := "ytfebcpmbkljaoaa", sum := "3b577abdb8410d1531a3b88aa3712177f33c2f5028ece2aea179128b5923437b", func := "lyceum/lyceumlaw31.MeasureWrong", spec := "measureWrong", unfollowed := true, recurses := true, apart := false, narrowed := true }
def MeasureWrongUptoSaid : Prop := measureWrongUptoRow.holds Try.pinned (OpenSpec.upto measureWrongSpec)

/-- 'lyceumlaw31.MeasureGrows', WHERE WHAT IT READS IS OF BULK AT MOST 1048576: true; the input reads as it did. -/
def measureGrowsUptoRow : OpenClaim := { program := "ytfebcpmbkljaoaa", sum := "3b577abdb8410d1531a3b88aa3712177f33c2f5028ece2aea179128b5923437b", func := "lyceum/lyceumlaw31.MeasureGrows", spec := "measureGrows", unfollowed := true, recurses := true, apart := false, narrowed := true }
def MeasureGrowsUptoSaid : Prop := measureGrowsUptoRow.holds Try.pinned (OpenSpec.upto measureGrowsSpec)

/-- 'lyceumlaw31.MeasureParts', WHERE WHAT IT READS IS OF BULK AT MOST 1048576: true; the input reads as it did. -/
def measurePartsUptoRow : OpenClaim := { program := "ytfebcpmbkljaoaa", sum := "3b577abdb8410d1531a3b88aa3712177f33c2f5028ece2aea179128b5923437b", func := "lyceum/lyceumlaw31.MeasureParts", spec := "measureParts", unfollowed := true, recurses := true, loops := true, apart := false, narrowed := true }
def MeasurePartsUptoSaid : Prop := measurePartsUptoRow.holds Try.pinned (OpenSpec.upto measurePartsSpec)

/-- 'lyceumlaw31.MeasureApart', WHERE WHAT IT READS IS OF BULK AT MOST 1048576: true; the input reads as it did. -/
def measureApartUptoRow : OpenClaim := { program := "ytfebcpmbkljaoaa", sum := "3b577abdb8410d1531a3b88aa3712177f33c2f5028ece2aea179128b5923437b", func := "lyceum/lyceumlaw31.MeasureApart", spec := "measureApart", unfollowed := true, recurses := true, apart := false, narrowed := true }
def MeasureApartUptoSaid : Prop := measureApartUptoRow.holds Try.pinned (OpenSpec.upto measureApartSpec)

/-- 'lyceumlaw31.MeasureLimits', WHERE WHAT IT READS IS OF BULK AT MOST 1048576: true; the input reads as it did. -/
def measureLimitsUptoRow : OpenClaim := { program := "ytfebcpmbkljaoaa", sum := "3b577abdb8410d1531a3b88aa3712177f33c2f5028ece2aea179128b5923437b", func := "lyceum/lyceumlaw31.MeasureLimits", spec := "measureLimits", unfollowed := true, recurses := true, apart := false, narrowed := true }
def MeasureLimitsUptoSaid : Prop := measureLimitsUptoRow.holds Try.pinned (OpenSpec.upto measureLimitsSpec)

end Rows
end Go.Proofs.Ytfebcpmbkljaoaa
