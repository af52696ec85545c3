/-
  No cell of these rows narrows 'for every input' (looked for: loops, veiled, ifaces, maps, wideKeys, modest, calm, conditions, laid).
  DERIVED. THE GIVEN ROWS OF THIS SEAT. 9 by the template 'for every input the law returns true; each argument reads behind the call as it read before'; 0 by the template 'total and deterministic' (their statements: YthneinepdbkgeaaTotals.lean).
  GIVEN WITH THE SEED: the statements are not yours to turn. If you find one false, say at which input.
  Laid BY PROGRAM, IN A SANDBOX (cutbox-rows.mjs): the forced cells as the released guide's own fill.sh prints them over the translation cd17a9eb8d9263a4… (all of the seat's roots in one cut). By AI agents, Wed Nov 11 2026. No macro, syntax, notation, axiom, sorry.
-/
import Derived.Test.YthneinepdbkgeaaChecked
import GoSem.Claim
import GoSem.ClaimJoined
import GoSem.ClaimMapViews
import Derived.JoinedTies
import Derived.KernelRfl
namespace Go.Proofs.Ythneinepdbkgeaa
/- THE CELL 'sum', in the pinned program and in every row, IS THE sha256 OF THE DUMP (.gsa) THAT YthneinepdbkgeaaProg.lean LOADS. Nothing in Lean hashes anything: it is a label: what it is worth is what the hold of that sum in a sandbox is worth. -/
noncomputable def Try.pinned : Pinned := { name := "ythneinepdbkgeaa", sum := "cd17a9eb8d9263a4a5cc0d73cff63f74800bca4e7951d85f5ed881d9314c7150", checked := Try.checked }
namespace Rows
def none {H : Type} : Left H := { results := [], args := [] }

/-- 'lyceumlaw24.HistoryBack': WHATEVER THE INPUT: true; the input reads as it did. -/
def historyBackSpec : ChangeSpec := { name := "historyBack", fn := fun _ => fun
  | [d] => { results := [.lit (.bool true)], args := [d] }
  | _ => none }
def historyBackRow : OpenClaim := { program := "ythneinepdbkgeaa", sum := "cd17a9eb8d9263a4a5cc0d73cff63f74800bca4e7951d85f5ed881d9314c7150", func := "lyceum/lyceumlaw24.HistoryBack", spec := "historyBack", unfollowed := true, recurses := true, apart := false }
def HistoryBackSaid : Prop := historyBackRow.holds Try.pinned (OpenSpec.ofChange historyBackSpec)

/-- ITS FALSE NEIGHBOUR: 'it returns false'. Refute it at one input. -/
def historyBackWrong : ChangeSpec := { name := "historyBack", fn := fun _ => fun
  | [d] => { results := [.lit (.bool false)], args := [d] }
  | _ => none }
def HistoryBackWrongFalsely : Prop := historyBackRow.holds Try.pinned (OpenSpec.ofChange historyBackWrong)

/-- 'lyceumlaw24.HistoryOther': WHATEVER THE INPUT: true; the input reads as it did. -/
def historyOtherSpec : ChangeSpec := { name := "historyOther", fn := fun _ => fun
  | [d1, d2] => { results := [.lit (.bool true)], args := [d1, d2] }
  | _ => none }
def historyOtherRow : OpenClaim := { program := "ythneinepdbkgeaa", sum := "cd17a9eb8d9263a4a5cc0d73cff63f74800bca4e7951d85f5ed881d9314c7150", func := "lyceum/lyceumlaw24.HistoryOther", spec := "historyOther", unfollowed := true, recurses := true, apart := false }
def HistoryOtherSaid : Prop := historyOtherRow.holds Try.pinned (OpenSpec.ofChange historyOtherSpec)

/-- ITS FALSE NEIGHBOUR: 'it returns false'. Refute it at one input. -/
def historyOtherWrong : ChangeSpec := { name := "historyOther", fn := fun _ => fun
  | [d1, d2] => { results := [.lit (.bool false)], args := [d1, d2] }
  | _ => none }
def HistoryOtherWrongFalsely : Prop := historyOtherRow.holds Try.pinned (OpenSpec.ofChange historyOtherWrong)

/-- 'lyceumlaw24.HistoryBetween': WHATEVER THE INPUT: true; the input reads as it did. -/
def historyBetweenSpec : ChangeSpec := { name := "historyBetween", fn := fun _ => fun
  | [d1, d2, d3, d4] => { results := [.lit (.bool true)], args := [d1, d2, d3, d4] }
  | _ => none }
def historyBetweenRow : OpenClaim := { program := "ythneinepdbkgeaa", sum := "cd17a9eb8d9263a4a5cc0d73cff63f74800bca4e7951d85f5ed881d9314c7150", func := "lyceum/lyceumlaw24.HistoryBetween", spec := "historyBetween", unfollowed := true, recurses := true, apart := false }
def HistoryBetweenSaid : Prop := historyBetweenRow.holds Try.pinned (OpenSpec.ofChange historyBetweenSpec)

/-- ITS FALSE NEIGHBOUR: 'it returns false'. Refute it at one input. -/
def historyBetweenWrong : ChangeSpec := { name := "historyBetween", fn := fun _ => fun
  | [d1, d2, d3, d4] => { results := [.lit (.bool false)], args := [d1, d2, d3, d4] }
  | _ => none }
def HistoryBetweenWrongFalsely : Prop := historyBetweenRow.holds Try.pinned (OpenSpec.ofChange historyBetweenWrong)

/-- 'lyceumlaw24.HistoryTree': WHATEVER THE INPUT: true; the input reads as it did. -/
def historyTreeSpec : ChangeSpec := { name := "historyTree", fn := fun _ => fun
  | [d] => { results := [.lit (.bool true)], args := [d] }
  | _ => none }
def historyTreeRow : OpenClaim := { program := "ythneinepdbkgeaa", sum := "cd17a9eb8d9263a4a5cc0d73cff63f74800bca4e7951d85f5ed881d9314c7150", func := "lyceum/lyceumlaw24.HistoryTree", spec := "historyTree", unfollowed := true, recurses := true, apart := false }
def HistoryTreeSaid : Prop := historyTreeRow.holds Try.pinned (OpenSpec.ofChange historyTreeSpec)

/-- ITS FALSE NEIGHBOUR: 'it returns false'. Refute it at one input. -/
def historyTreeWrong : ChangeSpec := { name := "historyTree", fn := fun _ => fun
  | [d] => { results := [.lit (.bool false)], args := [d] }
  | _ => none }
def HistoryTreeWrongFalsely : Prop := historyTreeRow.holds Try.pinned (OpenSpec.ofChange historyTreeWrong)

/-- 'lyceumlaw24.HistorySaves': WHATEVER THE INPUT: true; the input reads as it did. -/
def historySavesSpec : ChangeSpec := { name := "historySaves", fn := fun _ => fun
  | [d1, d2, d3] => { results := [.lit (.bool true)], args := [d1, d2, d3] }
  | _ => none }
def historySavesRow : OpenClaim := { program := "ythneinepdbkgeaa", sum := "cd17a9eb8d9263a4a5cc0d73cff63f74800bca4e7951d85f5ed881d9314c7150", func := "lyceum/lyceumlaw24.HistorySaves", spec := "historySaves", unfollowed := true, recurses := true, apart := false }
def HistorySavesSaid : Prop := historySavesRow.holds Try.pinned (OpenSpec.ofChange historySavesSpec)

/-- ITS FALSE NEIGHBOUR: 'it returns false'. Refute it at one input. -/
def historySavesWrong : ChangeSpec := { name := "historySaves", fn := fun _ => fun
  | [d1, d2, d3] => { results := [.lit (.bool false)], args := [d1, d2, d3] }
  | _ => none }
def HistorySavesWrongFalsely : Prop := historySavesRow.holds Try.pinned (OpenSpec.ofChange historySavesWrong)

/-- 'lyceumlaw24.HistoryTells': WHATEVER THE INPUT: true; the input reads as it did. -/
def historyTellsSpec : ChangeSpec := { name := "historyTells", fn := fun _ => fun
  | [d1, d2] => { results := [.lit (.bool true)], args := [d1, d2] }
  | _ => none }
def historyTellsRow : OpenClaim := { program := "ythneinepdbkgeaa", sum := "cd17a9eb8d9263a4a5cc0d73cff63f74800bca4e7951d85f5ed881d9314c7150", func := "lyceum/lyceumlaw24.HistoryTells", spec := "historyTells", unfollowed := true, recurses := true, apart := false }
def HistoryTellsSaid : Prop := historyTellsRow.holds Try.pinned (OpenSpec.ofChange historyTellsSpec)

/-- ITS FALSE NEIGHBOUR: 'it returns false'. Refute it at one input. -/
def historyTellsWrong : ChangeSpec := { name := "historyTells", fn := fun _ => fun
  | [d1, d2] => { results := [.lit (.bool false)], args := [d1, d2] }
  | _ => none }
def HistoryTellsWrongFalsely : Prop := historyTellsRow.holds Try.pinned (OpenSpec.ofChange historyTellsWrong)

/-- 'lyceumlaw24.HistoryOpens': WHATEVER THE INPUT: true; the input reads as it did. -/
def historyOpensSpec : ChangeSpec := { name := "historyOpens", fn := fun _ => fun
  | [d1, d2] => { results := [.lit (.bool true)], args := [d1, d2] }
  | _ => none }
def historyOpensRow : OpenClaim := { program := "ythneinepdbkgeaa", sum := "cd17a9eb8d9263a4a5cc0d73cff63f74800bca4e7951d85f5ed881d9314c7150", func := "lyceum/lyceumlaw24.HistoryOpens", spec := "historyOpens", unfollowed := true, recurses := true, apart := false }
def HistoryOpensSaid : Prop := historyOpensRow.holds Try.pinned (OpenSpec.ofChange historyOpensSpec)

/-- ITS FALSE NEIGHBOUR: 'it returns false'. Refute it at one input. -/
def historyOpensWrong : ChangeSpec := { name := "historyOpens", fn := fun _ => fun
  | [d1, d2] => { results := [.lit (.bool false)], args := [d1, d2] }
  | _ => none }
def HistoryOpensWrongFalsely : Prop := historyOpensRow.holds Try.pinned (OpenSpec.ofChange historyOpensWrong)

/-- 'lyceumlaw24.HistorySmall': WHATEVER THE INPUT: true; the input reads as it did. -/
def historySmallSpec : ChangeSpec := { name := "historySmall", fn := fun _ => fun
  | [] => { results := [.lit (.bool true)], args := [] }
  | _ => none }
def historySmallRow : OpenClaim := { program := "ythneinepdbkgeaa", sum := "cd17a9eb8d9263a4a5cc0d73cff63f74800bca4e7951d85f5ed881d9314c7150", func := "lyceum/lyceumlaw24.HistorySmall", spec := "historySmall", unfollowed := true, recurses := true, apart := false }
def HistorySmallSaid : Prop := historySmallRow.holds Try.pinned (OpenSpec.ofChange historySmallSpec)

/-- ITS FALSE NEIGHBOUR: 'it returns false'. Refute it at one input. -/
def historySmallWrong : ChangeSpec := { name := "historySmall", fn := fun _ => fun
  | [] => { results := [.lit (.bool false)], args := [] }
  | _ => none }
def HistorySmallWrongFalsely : Prop := historySmallRow.holds Try.pinned (OpenSpec.ofChange historySmallWrong)

/-- 'lyceumlaw24.HistoryWrong': WHATEVER THE INPUT: true; the input reads as it did. -/
def historyWrongSpec : ChangeSpec := { name := "historyWrong", fn := fun _ => fun
  | [d1, d2] => { results := [.lit (.bool true)], args := [d1, d2] }
  | _ => none }
def historyWrongRow : OpenClaim := { program := "ythneinepdbkgeaa", sum := "cd17a9eb8d9263a4a5cc0d73cff63f74800bca4e7951d85f5ed881d9314c7150", func := "lyceum/lyceumlaw24.HistoryWrong", spec := "historyWrong", unfollowed := true, recurses := true, apart := false }
def HistoryWrongSaid : Prop := historyWrongRow.holds Try.pinned (OpenSpec.ofChange historyWrongSpec)

/-- ITS FALSE NEIGHBOUR: 'it returns false'. Refute it at one input. -/
def historyWrongWrong : ChangeSpec := { name := "historyWrong", fn := fun _ => fun
  | [d1, d2] => { results := [.lit (.bool false)], args := [d1, d2] }
  | _ => none }
def HistoryWrongWrongFalsely : Prop := historyWrongRow.holds Try.pinned (OpenSpec.ofChange historyWrongWrong)

/- THE SECOND FORM. 'bulk': how many values and letters a reading holds, each counted each time it is reached (what is shared counts as often as it is met; a slice's spare places count too). A statement '..UptoSaid' is the law's where the arguments, and the package variables that the reading takes, are together of bulk at most 1048576: NARROWER than '..Said'. Prove '..Said' where nothing that the law and all that it calls make is longer than what came in: it says more and counts as full. Else prove '..UptoSaid'. A law counts once. -/
mutual
def uptoBulk {H : Type} : DataW H → Nat
  | .lit (.string bytes) => bytes.length + 1
  | .lit _ => 1
  | .nil => 1
  | .ptr d => uptoBulk d + 1
  | .slice elems spare => uptoBulkAll elems + uptoBulkAll spare + 1
  | .agg parts => uptoBulkAll parts + 1
  | .iface _ d => uptoBulk d + 1
  | .map entries => uptoBulkEntries entries + 1
  | .held _ => 1
def uptoBulkAll {H : Type} : List (DataW H) → Nat
  | [] => 0
  | d :: r => uptoBulk d + uptoBulkAll r
def uptoBulkEntries {H : Type} : List (Lit × DataW H) → Nat
  | [] => 0
  | x :: r => uptoBulkEntry x + uptoBulkEntries r
def uptoBulkEntry {H : Type} : Lit × DataW H → Nat
  | (.string bytes, d) => bytes.length + uptoBulk d + 1
  | (_, d) => uptoBulk d + 1
 end
def uptoSmall : (H : Type) → List (DataW H) → Bool := fun _ ds => decide (uptoBulkAll ds ≤ 1048576)
def OpenSpec.upto (s : _root_.Go.ChangeSpec) : _root_.Go.OpenSpec := { _root_.Go.OpenSpec.ofChange s with cond := some uptoSmall }

/-- 'lyceumlaw24.HistoryBack', WHERE WHAT IT READS IS OF BULK AT MOST 1048576: true; the input reads as it did. -/
def historyBackUptoRow : OpenClaim := { program := "ythneinepdbkgeaa", sum := "cd17a9eb8d9263a4a5cc0d73cff63f74800bca4e7951d85f5ed881d9314c7150", func := "lyceum/lyceumlaw24.HistoryBack", spec := "historyBack", unfollowed := true, recurses := true, apart := false, narrowed := true }
def HistoryBackUptoSaid : Prop := historyBackUptoRow.holds Try.pinned (OpenSpec.upto historyBackSpec)

/-- 'lyceumlaw24.HistoryOther', WHERE WHAT IT READS IS OF BULK AT MOST 1048576: true; the input reads as it did. -/
def historyOtherUptoRow : OpenClaim := { program := "ythneinepdbkgeaa", sum := "cd17a9eb8d9263a4a5cc0d73cff63f74800bca4e7951d85f5ed881d9314c7150", func := "lyceum/lyceumlaw24.HistoryOther", spec := "historyOther", unfollowed := true, recurses := true, apart := false, narrowed := true }
def HistoryOtherUptoSaid : Prop := historyOtherUptoRow.holds Try.pinned (OpenSpec.upto historyOtherSpec)

/-- 'lyceumlaw24.HistoryBetween', WHERE WHAT IT READS IS OF BULK AT MOST 1048576: true; the input reads as it did. -/
def historyBetweenUptoRow : OpenClaim := { program := "ythneinepdbkgeaa", sum := "cd17a9eb8d9263a4a5cc0d73cff63f74800bca4e7951d85f5ed881d9314c7150", func := "lyceum/lyceumlaw24.HistoryBetween", spec := "historyBetween", unfollowed := true, recurses := true, apart := false, narrowed := true }
def HistoryBetweenUptoSaid : Prop := historyBetweenUptoRow.holds Try.pinned (OpenSpec.upto historyBetweenSpec)

/-- 'lyceumlaw24.HistoryTree', WHERE WHAT IT READS IS OF BULK AT MOST 1048576: true; the input reads as it did. -/
def historyTreeUptoRow : OpenClaim := { program := "ythneinepdbkgeaa", sum := "cd17a9eb8d9263a4a5cc0d73cff63f74800bca4e7951d85f5ed881d9314c7150", func := "lyceum/lyceumlaw24.HistoryTree", spec := "historyTree", unfollowed := true, recurses := true, apart := false, narrowed := true }
def HistoryTreeUptoSaid : Prop := historyTreeUptoRow.holds Try.pinned (OpenSpec.upto historyTreeSpec)

/-- 'lyceumlaw24.HistorySaves', WHERE WHAT IT READS IS OF BULK AT MOST 1048576: true; the input reads as it did. -/
def historySavesUptoRow : OpenClaim := { program := "ythneinepdbkgeaa", sum := "cd17a9eb8d9263a4a5cc0d73cff63f74800bca4e7951d85f5ed881d9314c7150", func := "lyceum/lyceumlaw24.HistorySaves", spec := "historySaves", unfollowed := true, recurses := true, apart := false, narrowed := true }
def HistorySavesUptoSaid : Prop := historySavesUptoRow.holds Try.pinned (OpenSpec.upto historySavesSpec)

/-- 'lyceumlaw24.HistoryTells', WHERE WHAT IT READS IS OF BULK AT MOST 1048576: true; the input reads as it did. -/
def historyTellsUptoRow : OpenClaim := { program := "ythneinepdbkgeaa", sum := "cd17a9eb8d9263a4a5cc0d73cff63f74800bca4e7951d85f5ed881d9314c7150", func := "lyceum/lyceumlaw24.HistoryTells", spec := "historyTells", unfollowed := true, recurses := true, apart := false, narrowed := true }
def HistoryTellsUptoSaid : Prop := historyTellsUptoRow.holds Try.pinned (OpenSpec.upto historyTellsSpec)

/-- 'lyceumlaw24.HistoryOpens', WHERE WHAT IT READS IS OF BULK AT MOST 1048576: true; the input reads as it did. -/
def historyOpensUptoRow : OpenClaim := { program := "ythneinepdbkgeaa", sum := "cd17a9eb8d9263a4a5cc0d73cff63f74800bca4e7951d85f5ed881d9314c7150", func := "lyceum/lyceumlaw24.HistoryOpens", spec := "historyOpens", unfollowed := true, recurses := true, apart := false, narrowed := true }
def HistoryOpensUptoSaid : Prop := historyOpensUptoRow.holds Try.pinned (OpenSpec.upto historyOpensSpec)

/-- 'lyceumlaw24.HistorySmall', WHERE WHAT IT READS IS OF BULK AT MOST 1048576: true; the input reads as it did. -/
def historySmallUptoRow : OpenClaim := { program := "ythneinepdbkgeaa", sum := "cd17a9eb8d9263a4a5cc0d73cff63f74800bca4e7951d85f5ed881d9314c7150", func := "lyceum/lyceumlaw24.HistorySmall", spec := "historySmall", unfollowed := true, recurses := true, apart := false, narrowed := true }
def HistorySmallUptoSaid : Prop := historySmallUptoRow.holds Try.pinned (OpenSpec.upto historySmallSpec)

/-- 'lyceumlaw24.HistoryWrong', WHERE WHAT IT READS IS OF BULK AT MOST 1048576: true; the input reads as it did. -/
def historyWrongUptoRow : OpenClaim := { program := "ythneinepdbkgeaa", sum := "cd17a9eb8d9263a4a5cc0d73cff63f74800bca4e7951d85f5ed881d9314c7150", func := "lyceum/lyceumlaw24.HistoryWrong", spec := "historyWrong", unfollowed := true, recurses := true, apart := false, narrowed := true }
def HistoryWrongUptoSaid : Prop := historyWrongUptoRow.holds Try.pinned (OpenSpec.upto historyWrongSpec)

end Rows
end Go.Proofs.Ythneinepdbkgeaa
