/-
  NARROWER THAN 'FOR EVERY INPUT', by the rows' own cells (each row's printed sentence says how): ParseTells: laid · ParseSmall: laid.
  DERIVED. THE GIVEN ROWS OF THIS SEAT. 2 by the template 'for every input the law returns true; each argument reads behind the call as it read before'; 0 by the template 'total and deterministic' (their statements: YtdobflpbkfkmgaaGreatDoorTotals.lean).
  GIVEN WITH THE SEED: the statements are not yours to turn. If you find one false, say at which input.
  Laid BY PROGRAM, IN A SANDBOX (cutbox-rows.mjs): the forced cells as the released guide's own fill.sh prints them over the translation a916eb3d11b7c685… (all of the seat's roots in one cut). By AI agents, Wed Nov 11 2026. No macro, syntax, notation, axiom, sorry.
-/
import Derived.Test.YtdobflpbkfkmgaaGreatDoorChecked
import GoSem.Claim
import GoSem.ClaimJoined
import GoSem.ClaimMapViews
import Derived.JoinedTies
import Derived.KernelRfl
namespace Go.Proofs.YtdobflpbkfkmgaaGreatDoor
/- THE CELL 'sum', in the pinned program and in every row, IS THE sha256 OF THE DUMP (.gsa) THAT YtdobflpbkfkmgaaGreatDoorProg.lean LOADS. Nothing in Lean hashes anything: it is a label: what it is worth is what the hold of that sum in a sandbox is worth. -/
noncomputable def Tryz.pinned : Pinned := { name := "ytdobflpbkfkmgaagreatdoor", sum := "a916eb3d11b7c6853ea66bd3bd56b6a3dc6443d0559709882c6cd5452af26d2f", checked := Tryz.checked }
namespace Rows
def none {H : Type} : Left H := { results := [], args := [] }

/- WHAT THE LISTED PACKAGE-LEVEL VARIABLES READ AS WHEN THE CALL BEGINS. Each datum BY PROGRAM (the guide's laid-datum.mjs) off the statement by which the dump's own 'gosem.cut.vars' lays the variable. In a bare row this is a premise. The card (YtdobflpbkfkmgaaGreatDoorCards.lean) ties it to the program's text. -/
def laid_lyceum_syntax_rows {H : Type} : DataW H := .agg [.agg [.lit (.bool false), .lit (.bool false), .lit (.int .u8 0), .lit (.int .i64 0), .lit (.int .i64 0)], .agg [.lit (.bool true), .lit (.bool true), .lit (.int .u8 1), .lit (.int .i64 4), .lit (.int .i64 0)], .agg [.lit (.bool true), .lit (.bool true), .lit (.int .u8 0), .lit (.int .i64 0), .lit (.int .i64 0)], .agg [.lit (.bool true), .lit (.bool true), .lit (.int .u8 0), .lit (.int .i64 0), .lit (.int .i64 1)], .agg [.lit (.bool true), .lit (.bool true), .lit (.int .u8 0), .lit (.int .i64 0), .lit (.int .i64 2)], .agg [.lit (.bool true), .lit (.bool true), .lit (.int .u8 0), .lit (.int .i64 0), .lit (.int .i64 2)], .agg [.lit (.bool true), .lit (.bool true), .lit (.int .u8 0), .lit (.int .i64 0), .lit (.int .i64 2)], .agg [.lit (.bool true), .lit (.bool true), .lit (.int .u8 0), .lit (.int .i64 0), .lit (.int .i64 2)], .agg [.lit (.bool true), .lit (.bool true), .lit (.int .u8 2), .lit (.int .i64 0), .lit (.int .i64 1)], .agg [.lit (.bool true), .lit (.bool true), .lit (.int .u8 2), .lit (.int .i64 0), .lit (.int .i64 1)], .agg [.lit (.bool true), .lit (.bool true), .lit (.int .u8 0), .lit (.int .i64 0), .lit (.int .i64 1)], .agg [.lit (.bool true), .lit (.bool true), .lit (.int .u8 0), .lit (.int .i64 0), .lit (.int .i64 1)], .agg [.lit (.bool true), .lit (.bool true), .lit (.int .u8 0), .lit (.int .i64 0), .lit (.int .i64 1)], .agg [.lit (.bool true), .lit (.bool true), .lit (.int .u8 0), .lit (.int .i64 0), .lit (.int .i64 1)], .agg [.lit (.bool true), .lit (.bool true), .lit (.int .u8 0), .lit (.int .i64 0), .lit (.int .i64 2)], .agg [.lit (.bool false), .lit (.bool true), .lit (.int .u8 3), .lit (.int .i64 0), .lit (.int .i64 0)], .agg [.lit (.bool false), .lit (.bool true), .lit (.int .u8 3), .lit (.int .i64 2), .lit (.int .i64 0)]]
def laid_lyceum_lex_signs {H : Type} : DataW H := .agg [.lit (.string [60, 45, 62]), .lit (.string [45, 62]), .lit (.string [91, 93]), .lit (.string [60, 62]), .lit (.string [40]), .lit (.string [41]), .lit (.string [44]), .lit (.string [126]), .lit (.string [38]), .lit (.string [124]), .lit (.string [47]), .lit (.string [91]), .lit (.string [93])]
def laid_lyceum_parse_levels {H : Type} : DataW H := .agg [.agg [.lit (.string [60, 45, 62]), .lit (.int .u8 7), .lit (.bool false)], .agg [.lit (.string [45, 62]), .lit (.int .u8 6), .lit (.bool true)], .agg [.lit (.string [117, 110, 116, 105, 108]), .lit (.int .u8 14), .lit (.bool true)], .agg [.lit (.string [124]), .lit (.int .u8 5), .lit (.bool false)], .agg [.lit (.string [38]), .lit (.int .u8 4), .lit (.bool false)]]

/-- 'lyceumlaw05.ParseTells': WHATEVER THE INPUT: true; the input reads as it did. -/
def parseTellsSpec : ChangeSpec := { name := "parseTells", fn := fun _ => fun
  | [d] => { results := [.lit (.bool true)], args := [d] }
  | _ => none }
def parseTellsRow : OpenClaim := { program := "ytdobflpbkfkmgaagreatdoor", sum := "a916eb3d11b7c6853ea66bd3bd56b6a3dc6443d0559709882c6cd5452af26d2f", func := "lyceum/lyceumlaw05.ParseTells", spec := "parseTells", unfollowed := true, recurses := true, named := ["lyceum/lex.signs", "lyceum/parse.levels", "lyceum/syntax.rows"], apart := false, laid := [("lyceum/syntax.rows", laid_lyceum_syntax_rows), ("lyceum/lex.signs", laid_lyceum_lex_signs), ("lyceum/parse.levels", laid_lyceum_parse_levels)] }
def ParseTellsSaid : Prop := parseTellsRow.holds Tryz.pinned (OpenSpec.ofChange parseTellsSpec)

/-- ITS FALSE NEIGHBOUR: 'it returns false'. Refute it at one input. -/
def parseTellsWrong : ChangeSpec := { name := "parseTells", fn := fun _ => fun
  | [d] => { results := [.lit (.bool false)], args := [d] }
  | _ => none }
def ParseTellsWrongFalsely : Prop := parseTellsRow.holds Tryz.pinned (OpenSpec.ofChange parseTellsWrong)

/-- 'lyceumlaw05.ParseSmall': WHATEVER THE INPUT: true; the input reads as it did. -/
def parseSmallSpec : ChangeSpec := { name := "parseSmall", fn := fun _ => fun
  | [] => { results := [.lit (.bool true)], args := [] }
  | _ => none }
def parseSmallRow : OpenClaim := { program := "ytdobflpbkfkmgaagreatdoor", sum := "a916eb3d11b7c6853ea66bd3bd56b6a3dc6443d0559709882c6cd5452af26d2f", func := "lyceum/lyceumlaw05.ParseSmall", spec := "parseSmall", unfollowed := true, recurses := true, named := ["lyceum/lex.signs", "lyceum/parse.levels", "lyceum/syntax.rows"], apart := false, laid := [("lyceum/syntax.rows", laid_lyceum_syntax_rows), ("lyceum/lex.signs", laid_lyceum_lex_signs), ("lyceum/parse.levels", laid_lyceum_parse_levels)] }
def ParseSmallSaid : Prop := parseSmallRow.holds Tryz.pinned (OpenSpec.ofChange parseSmallSpec)

/-- ITS FALSE NEIGHBOUR: 'it returns false'. Refute it at one input. -/
def parseSmallWrong : ChangeSpec := { name := "parseSmall", fn := fun _ => fun
  | [] => { results := [.lit (.bool false)], args := [] }
  | _ => none }
def ParseSmallWrongFalsely : Prop := parseSmallRow.holds Tryz.pinned (OpenSpec.ofChange parseSmallWrong)

/- THE SECOND FORM. 'bulk': how many values and letters a reading holds, each counted each time it is reached (what is shared counts as often as it is met; a slice's spare places count too). A statement '..UptoSaid' is the law's where the arguments, and the package variables that the reading takes, are together of bulk at most 1048576: NARROWER than '..Said'. Prove '..Said' where nothing that the law and all that it calls make is longer than what came in: it says more and counts as full. Else prove '..UptoSaid'. A law counts once. -/
mutual
def uptoBulk {H : Type} : DataW H → Nat
  | .lit (.string bytes) => bytes.length + 1
  | .lit _ => 1
  | .nil => 1
  | .ptr d => uptoBulk d + 1
  | .slice elems spare => uptoBulkAll elems + uptoBulkAll spare + 1
  | .agg parts => uptoBulkAll parts + 1
  | .iface _ d => uptoBulk d + 1
  | .map entries => uptoBulkEntries entries + 1
  | .held _ => 1
def uptoBulkAll {H : Type} : List (DataW H) → Nat
  | [] => 0
  | d :: r => uptoBulk d + uptoBulkAll r
def uptoBulkEntries {H : Type} : List (Lit × DataW H) → Nat
  | [] => 0
  | x :: r => uptoBulkEntry x + uptoBulkEntries r
def uptoBulkEntry {H : Type} : Lit × DataW H → Nat
  | (.string bytes, d) => bytes.length + uptoBulk d + 1
  | (_, d) => uptoBulk d + 1
 end
def uptoSmall : (H : Type) → List (DataW H) → Bool := fun _ ds => decide (uptoBulkAll ds ≤ 1048576)
def OpenSpec.upto (s : _root_.Go.ChangeSpec) : _root_.Go.OpenSpec := { _root_.Go.OpenSpec.ofChange s with cond := some uptoSmall }

/-- 'lyceumlaw05.ParseTells', WHERE WHAT IT READS IS OF BULK AT MOST 1048576: true; the input reads as it did. -/
def parseTellsUptoRow : OpenClaim := { program := "ytdobflpbkfkmgaagreatdoor", sum := "a916eb3d11b7c6853ea66bd3bd56b6a3dc6443d0559709882c6cd5452af26d2f", func := "lyceum/lyceumlaw05.ParseTells", spec := "parseTells", unfollowed := true, recurses := true, named := ["lyceum/lex.signs", "lyceum/parse.levels", "lyceum/syntax.rows"], apart := false, laid := [("lyceum/syntax.rows", laid_lyceum_syntax_rows), ("lyceum/lex.signs", laid_lyceum_lex_signs), ("lyceum/parse.levels", laid_lyceum_parse_levels)], narrowed := true }
def ParseTellsUptoSaid : Prop := parseTellsUptoRow.holds Tryz.pinned (OpenSpec.upto parseTellsSpec)

/-- 'lyceumlaw05.ParseSmall', WHERE WHAT IT READS IS OF BULK AT MOST 1048576: true; the input reads as it did. -/
def parseSmallUptoRow : OpenClaim := { program := "ytdobflpbkfkmgaagreatdoor", sum := "a916eb3d11b7c6853ea66bd3bd56b6a3dc6443d0559709882c6cd5452af26d2f", func := "lyceum/lyceumlaw05.ParseSmall", spec := "parseSmall", unfollowed := true, recurses := true, named := ["lyceum/lex.signs", "lyceum/parse.levels", "lyceum/syntax.rows"], apart := false, laid := [("lyceum/syntax.rows", laid_lyceum_syntax_rows), ("lyceum/lex.signs", laid_lyceum_lex_signs), ("lyceum/parse.levels", laid_lyceum_parse_levels)], narrowed := true }
def ParseSmallUptoSaid : Prop := parseSmallUptoRow.holds Tryz.pinned (OpenSpec.upto parseSmallSpec)

end Rows
end Go.Proofs.YtdobflpbkfkmgaaGreatDoor
