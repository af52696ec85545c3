/-
  NARROWER THAN 'FOR EVERY INPUT', by the rows' own cells (each row's printed sentence says how): ParseWritten: loops, laid · ParseLevels: loops, laid · ParseFirst: laid · ParseLists: loops, laid · ParseOnly: laid · ParseBlanks: laid.
  DERIVED. THE GIVEN ROWS OF THIS SEAT. 6 by the template 'for every input the law returns true; each argument reads behind the call as it read before'; 0 by the template 'total and deterministic' (their statements: YtdobflpbkfkmgaaDoorTotals.lean).
  GIVEN WITH THE SEED: the statements are not yours to turn. If you find one false, say at which input.
  Laid BY PROGRAM, IN A SANDBOX (cutbox-rows.mjs): the forced cells as the released guide's own fill.sh prints them over the translation 313339f610b6b7a4… (all of the seat's roots in one cut). By AI agents, Wed Nov 11 2026. No macro, syntax, notation, axiom, sorry.
-/
import Derived.Test.YtdobflpbkfkmgaaDoorChecked
import GoSem.Claim
import GoSem.ClaimJoined
import GoSem.ClaimMapViews
import Derived.JoinedTies
import Derived.KernelRfl
namespace Go.Proofs.YtdobflpbkfkmgaaDoor
/- THE CELL 'sum', in the pinned program and in every row, IS THE sha256 OF THE DUMP (.gsa) THAT YtdobflpbkfkmgaaDoorProg.lean LOADS. Nothing in Lean hashes anything: it is a label: what it is worth is what the hold of that sum in a sandbox is worth. -/
noncomputable def Tryd.pinned : Pinned := { name := "ytdobflpbkfkmgaadoor", sum := "313339f610b6b7a45325689d172a343e747b893c2f8fa03604d00d944cb86547", checked := Tryd.checked }
namespace Rows
def none {H : Type} : Left H := { results := [], args := [] }

/- WHAT THE LISTED PACKAGE-LEVEL VARIABLES READ AS WHEN THE CALL BEGINS. Each datum BY PROGRAM (the guide's laid-datum.mjs) off the statement by which the dump's own 'gosem.cut.vars' lays the variable. In a bare row this is a premise. The card (YtdobflpbkfkmgaaDoorCards.lean) ties it to the program's text. -/
def laid_lyceum_syntax_rows {H : Type} : DataW H := .agg [.agg [.lit (.bool false), .lit (.bool false), .lit (.int .u8 0), .lit (.int .i64 0), .lit (.int .i64 0)], .agg [.lit (.bool true), .lit (.bool true), .lit (.int .u8 1), .lit (.int .i64 4), .lit (.int .i64 0)], .agg [.lit (.bool true), .lit (.bool true), .lit (.int .u8 0), .lit (.int .i64 0), .lit (.int .i64 0)], .agg [.lit (.bool true), .lit (.bool true), .lit (.int .u8 0), .lit (.int .i64 0), .lit (.int .i64 1)], .agg [.lit (.bool true), .lit (.bool true), .lit (.int .u8 0), .lit (.int .i64 0), .lit (.int .i64 2)], .agg [.lit (.bool true), .lit (.bool true), .lit (.int .u8 0), .lit (.int .i64 0), .lit (.int .i64 2)], .agg [.lit (.bool true), .lit (.bool true), .lit (.int .u8 0), .lit (.int .i64 0), .lit (.int .i64 2)], .agg [.lit (.bool true), .lit (.bool true), .lit (.int .u8 0), .lit (.int .i64 0), .lit (.int .i64 2)], .agg [.lit (.bool true), .lit (.bool true), .lit (.int .u8 2), .lit (.int .i64 0), .lit (.int .i64 1)], .agg [.lit (.bool true), .lit (.bool true), .lit (.int .u8 2), .lit (.int .i64 0), .lit (.int .i64 1)], .agg [.lit (.bool true), .lit (.bool true), .lit (.int .u8 0), .lit (.int .i64 0), .lit (.int .i64 1)], .agg [.lit (.bool true), .lit (.bool true), .lit (.int .u8 0), .lit (.int .i64 0), .lit (.int .i64 1)], .agg [.lit (.bool true), .lit (.bool true), .lit (.int .u8 0), .lit (.int .i64 0), .lit (.int .i64 1)], .agg [.lit (.bool true), .lit (.bool true), .lit (.int .u8 0), .lit (.int .i64 0), .lit (.int .i64 1)], .agg [.lit (.bool true), .lit (.bool true), .lit (.int .u8 0), .lit (.int .i64 0), .lit (.int .i64 2)], .agg [.lit (.bool false), .lit (.bool true), .lit (.int .u8 3), .lit (.int .i64 0), .lit (.int .i64 0)], .agg [.lit (.bool false), .lit (.bool true), .lit (.int .u8 3), .lit (.int .i64 2), .lit (.int .i64 0)]]
def laid_lyceum_lex_signs {H : Type} : DataW H := .agg [.lit (.string [60, 45, 62]), .lit (.string [45, 62]), .lit (.string [91, 93]), .lit (.string [60, 62]), .lit (.string [40]), .lit (.string [41]), .lit (.string [44]), .lit (.string [126]), .lit (.string [38]), .lit (.string [124]), .lit (.string [47]), .lit (.string [91]), .lit (.string [93])]
def laid_lyceum_parse_levels {H : Type} : DataW H := .agg [.agg [.lit (.string [60, 45, 62]), .lit (.int .u8 7), .lit (.bool false)], .agg [.lit (.string [45, 62]), .lit (.int .u8 6), .lit (.bool true)], .agg [.lit (.string [117, 110, 116, 105, 108]), .lit (.int .u8 14), .lit (.bool true)], .agg [.lit (.string [124]), .lit (.int .u8 5), .lit (.bool false)], .agg [.lit (.string [38]), .lit (.int .u8 4), .lit (.bool false)]]

/-- 'lyceumlaw05.ParseWritten': WHATEVER THE INPUT: true; the input reads as it did. -/
def parseWrittenSpec : ChangeSpec := { name := "parseWritten", fn := fun _ => fun
  | [d] => { results := [.lit (.bool true)], args := [d] }
  | _ => none }
def parseWrittenRow : OpenClaim := { program := "ytdobflpbkfkmgaadoor", sum := "313339f610b6b7a45325689d172a343e747b893c2f8fa03604d00d944cb86547", func := "lyceum/lyceumlaw05.ParseWritten", spec := "parseWritten", unfollowed := true, recurses := true, named := ["lyceum/lex.signs", "lyceum/parse.levels", "lyceum/syntax.rows"], loops := true, apart := false, laid := [("lyceum/syntax.rows", laid_lyceum_syntax_rows), ("lyceum/lex.signs", laid_lyceum_lex_signs), ("lyceum/parse.levels", laid_lyceum_parse_levels)] }
def ParseWrittenSaid : Prop := parseWrittenRow.holds Tryd.pinned (OpenSpec.ofChange parseWrittenSpec)

/-- ITS FALSE NEIGHBOUR: 'it returns false'. Refute it at one input. -/
def parseWrittenWrong : ChangeSpec := { name := "parseWritten", fn := fun _ => fun
  | [d] => { results := [.lit (.bool false)], args := [d] }
  | _ => none }
def ParseWrittenWrongFalsely : Prop := parseWrittenRow.holds Tryd.pinned (OpenSpec.ofChange parseWrittenWrong)

/-- 'lyceumlaw05.ParseLevels': WHATEVER THE INPUT: true; the input reads as it did. -/
def parseLevelsSpec : ChangeSpec := { name := "parseLevels", fn := fun _ => fun
  | [d1, d2, d3, d4, d5, d6] => { results := [.lit (.bool true)], args := [d1, d2, d3, d4, d5, d6] }
  | _ => none }
def parseLevelsRow : OpenClaim := { program := "ytdobflpbkfkmgaadoor", sum := "313339f610b6b7a45325689d172a343e747b893c2f8fa03604d00d944cb86547", func := "lyceum/lyceumlaw05.ParseLevels", spec := "parseLevels", unfollowed := true, recurses := true, named := ["lyceum/lex.signs", "lyceum/parse.levels", "lyceum/syntax.rows"], loops := true, apart := false, laid := [("lyceum/syntax.rows", laid_lyceum_syntax_rows), ("lyceum/lex.signs", laid_lyceum_lex_signs), ("lyceum/parse.levels", laid_lyceum_parse_levels)] }
def ParseLevelsSaid : Prop := parseLevelsRow.holds Tryd.pinned (OpenSpec.ofChange parseLevelsSpec)

/-- ITS FALSE NEIGHBOUR: 'it returns false'. Refute it at one input. -/
def parseLevelsWrong : ChangeSpec := { name := "parseLevels", fn := fun _ => fun
  | [d1, d2, d3, d4, d5, d6] => { results := [.lit (.bool false)], args := [d1, d2, d3, d4, d5, d6] }
  | _ => none }
def ParseLevelsWrongFalsely : Prop := parseLevelsRow.holds Tryd.pinned (OpenSpec.ofChange parseLevelsWrong)

/-- 'lyceumlaw05.ParseFirst': WHATEVER THE INPUT: true; the input reads as it did. -/
def parseFirstSpec : ChangeSpec := { name := "parseFirst", fn := fun _ => fun
  | [d1, d2] => { results := [.lit (.bool true)], args := [d1, d2] }
  | _ => none }
def parseFirstRow : OpenClaim := { program := "ytdobflpbkfkmgaadoor", sum := "313339f610b6b7a45325689d172a343e747b893c2f8fa03604d00d944cb86547", func := "lyceum/lyceumlaw05.ParseFirst", spec := "parseFirst", unfollowed := true, recurses := true, named := ["lyceum/lex.signs", "lyceum/parse.levels", "lyceum/syntax.rows"], apart := false, laid := [("lyceum/syntax.rows", laid_lyceum_syntax_rows), ("lyceum/lex.signs", laid_lyceum_lex_signs), ("lyceum/parse.levels", laid_lyceum_parse_levels)] }
def ParseFirstSaid : Prop := parseFirstRow.holds Tryd.pinned (OpenSpec.ofChange parseFirstSpec)

/-- ITS FALSE NEIGHBOUR: 'it returns false'. Refute it at one input. -/
def parseFirstWrong : ChangeSpec := { name := "parseFirst", fn := fun _ => fun
  | [d1, d2] => { results := [.lit (.bool false)], args := [d1, d2] }
  | _ => none }
def ParseFirstWrongFalsely : Prop := parseFirstRow.holds Tryd.pinned (OpenSpec.ofChange parseFirstWrong)

/-- 'lyceumlaw05.ParseLists': WHATEVER THE INPUT: true; the input reads as it did. -/
def parseListsSpec : ChangeSpec := { name := "parseLists", fn := fun _ => fun
  | [d1, d2] => { results := [.lit (.bool true)], args := [d1, d2] }
  | _ => none }
def parseListsRow : OpenClaim := { program := "ytdobflpbkfkmgaadoor", sum := "313339f610b6b7a45325689d172a343e747b893c2f8fa03604d00d944cb86547", func := "lyceum/lyceumlaw05.ParseLists", spec := "parseLists", unfollowed := true, recurses := true, named := ["lyceum/lex.signs", "lyceum/parse.levels", "lyceum/syntax.rows"], loops := true, apart := false, laid := [("lyceum/syntax.rows", laid_lyceum_syntax_rows), ("lyceum/lex.signs", laid_lyceum_lex_signs), ("lyceum/parse.levels", laid_lyceum_parse_levels)] }
def ParseListsSaid : Prop := parseListsRow.holds Tryd.pinned (OpenSpec.ofChange parseListsSpec)

/-- ITS FALSE NEIGHBOUR: 'it returns false'. Refute it at one input. -/
def parseListsWrong : ChangeSpec := { name := "parseLists", fn := fun _ => fun
  | [d1, d2] => { results := [.lit (.bool false)], args := [d1, d2] }
  | _ => none }
def ParseListsWrongFalsely : Prop := parseListsRow.holds Tryd.pinned (OpenSpec.ofChange parseListsWrong)

/-- 'lyceumlaw05.ParseOnly': WHATEVER THE INPUT: true; the input reads as it did. -/
def parseOnlySpec : ChangeSpec := { name := "parseOnly", fn := fun _ => fun
  | [d] => { results := [.lit (.bool true)], args := [d] }
  | _ => none }
def parseOnlyRow : OpenClaim := { program := "ytdobflpbkfkmgaadoor", sum := "313339f610b6b7a45325689d172a343e747b893c2f8fa03604d00d944cb86547", func := "lyceum/lyceumlaw05.ParseOnly", spec := "parseOnly", unfollowed := true, recurses := true, named := ["lyceum/lex.signs", "lyceum/parse.levels", "lyceum/syntax.rows"], apart := false, laid := [("lyceum/syntax.rows", laid_lyceum_syntax_rows), ("lyceum/lex.signs", laid_lyceum_lex_signs), ("lyceum/parse.levels", laid_lyceum_parse_levels)] }
def ParseOnlySaid : Prop := parseOnlyRow.holds Tryd.pinned (OpenSpec.ofChange parseOnlySpec)

/-- ITS FALSE NEIGHBOUR: 'it returns false'. Refute it at one input. -/
def parseOnlyWrong : ChangeSpec := { name := "parseOnly", fn := fun _ => fun
  | [d] => { results := [.lit (.bool false)], args := [d] }
  | _ => none }
def ParseOnlyWrongFalsely : Prop := parseOnlyRow.holds Tryd.pinned (OpenSpec.ofChange parseOnlyWrong)

/-- 'lyceumlaw05.ParseBlanks': WHATEVER THE INPUT: true; the input reads as it did. -/
def parseBlanksSpec : ChangeSpec := { name := "parseBlanks", fn := fun _ => fun
  | [d] => { results := [.lit (.bool true)], args := [d] }
  | _ => none }
def parseBlanksRow : OpenClaim := { program := "ytdobflpbkfkmgaadoor", sum := "313339f610b6b7a45325689d172a343e747b893c2f8fa03604d00d944cb86547", func := "lyceum/lyceumlaw05.ParseBlanks", spec := "parseBlanks", inPlace := ["internal/abi.NoEscape", "internal/bytealg.MakeNoZero"], unfollowed := true, recurses := true, named := ["lyceum/lex.signs", "lyceum/parse.levels", "lyceum/syntax.rows"], apart := false, laid := [("lyceum/syntax.rows", laid_lyceum_syntax_rows), ("lyceum/lex.signs", laid_lyceum_lex_signs), ("lyceum/parse.levels", laid_lyceum_parse_levels)] }
def ParseBlanksSaid : Prop := parseBlanksRow.holds Tryd.pinned (OpenSpec.ofChange parseBlanksSpec)

/-- ITS FALSE NEIGHBOUR: 'it returns false'. Refute it at one input. -/
def parseBlanksWrong : ChangeSpec := { name := "parseBlanks", fn := fun _ => fun
  | [d] => { results := [.lit (.bool false)], args := [d] }
  | _ => none }
def ParseBlanksWrongFalsely : Prop := parseBlanksRow.holds Tryd.pinned (OpenSpec.ofChange parseBlanksWrong)

/- THE SECOND FORM. 'bulk': how many values and letters a reading holds, each counted each time it is reached (what is shared counts as often as it is met; a slice's spare places count too). A statement '..UptoSaid' is the law's where the arguments, and the package variables that the reading takes, are together of bulk at most 1048576: NARROWER than '..Said'. Prove '..Said' where nothing that the law and all that it calls make is longer than what came in: it says more and counts as full. Else prove '..UptoSaid'. A law counts once. -/
mutual
def uptoBulk {H : Type} : DataW H → Nat
  | .lit (.string bytes) => bytes.length + 1
  | .lit _ => 1
  | .nil => 1
  | .ptr d => uptoBulk d + 1
  | .slice elems spare => uptoBulkAll elems + uptoBulkAll spare + 1
  | .agg parts => uptoBulkAll parts + 1
  | .iface _ d => uptoBulk d + 1
  | .map entries => uptoBulkEntries entries + 1
  | .held _ => 1
def uptoBulkAll {H : Type} : List (DataW H) → Nat
  | [] => 0
  | d :: r => uptoBulk d + uptoBulkAll r
def uptoBulkEntries {H : Type} : List (Lit × DataW H) → Nat
  | [] => 0
  | x :: r => uptoBulkEntry x + uptoBulkEntries r
def uptoBulkEntry {H : Type} : Lit × DataW H → Nat
  | (.string bytes, d) => bytes.length + uptoBulk d + 1
  | (_, d) => uptoBulk d + 1
 end
def uptoSmall : (H : Type) → List (DataW H) → Bool := fun _ ds => decide (uptoBulkAll ds ≤ 1048576)
def OpenSpec.upto (s : _root_.Go.ChangeSpec) : _root_.Go.OpenSpec := { _root_.Go.OpenSpec.ofChange s with cond := some uptoSmall }

/-- 'lyceumlaw05.ParseWritten', WHERE WHAT IT READS IS OF BULK AT MOST 1048576: true; the input reads as it did. -/
def parseWrittenUptoRow : OpenClaim := { program := "ytdobflpbkfkmgaadoor", sum := "313339f610b6b7a45325689d172a343e747b893c2f8fa03604d00d944cb86547", func := "lyceum/lyceumlaw05.ParseWritten", spec := "parseWritten", unfollowed := true, recurses := true, named := ["lyceum/lex.signs", "lyceum/parse.levels", "lyceum/syntax.rows"], loops := true, apart := false, laid := [("lyceum/syntax.rows", laid_lyceum_syntax_rows), ("lyceum/lex.signs", laid_lyceum_lex_signs), ("lyceum/parse.levels", laid_lyceum_parse_levels)], narrowed := true }
def ParseWrittenUptoSaid : Prop := parseWrittenUptoRow.holds Tryd.pinned (OpenSpec.upto parseWrittenSpec)

/-- 'lyceumlaw05.ParseLevels', WHERE WHAT IT READS IS OF BULK AT MOST 1048576: true; the input reads as it did. -/
def parseLevelsUptoRow : OpenClaim := { program := "ytdobflpbkfkmgaadoor", sum := "313339f610b6b7a45325689d172a343e747b893c2f8fa03604d00d944cb86547", func := "lyceum/lyceumlaw05.ParseLevels", spec := "parseLevels", unfollowed := true, recurses := true, named := ["lyceum/lex.signs", "lyceum/parse.levels", "lyceum/syntax.rows"], loops := true, apart := false, laid := [("lyceum/syntax.rows", laid_lyceum_syntax_rows), ("lyceum/lex.signs", laid_lyceum_lex_signs), ("lyceum/parse.levels", laid_lyceum_parse_levels)], narrowed := true }
def ParseLevelsUptoSaid : Prop := parseLevelsUptoRow.holds Tryd.pinned (OpenSpec.upto parseLevelsSpec)

/-- 'lyceumlaw05.ParseFirst', WHERE WHAT IT READS IS OF BULK AT MOST 1048576: true; the input reads as it did. -/
def parseFirstUptoRow : OpenClaim := { program := "ytdobflpbkfkmgaadoor", sum := "313339f610b6b7a45325689d172a343e747b893c2f8fa03604d00d944cb86547", func := "lyceum/lyceumlaw05.ParseFirst", spec := "parseFirst", unfollowed := true, recurses := true, named := ["lyceum/lex.signs", "lyceum/parse.levels", "lyceum/syntax.rows"], apart := false, laid := [("lyceum/syntax.rows", laid_lyceum_syntax_rows), ("lyceum/lex.signs", laid_lyceum_lex_signs), ("lyceum/parse.levels", laid_lyceum_parse_levels)], narrowed := true }
def ParseFirstUptoSaid : Prop := parseFirstUptoRow.holds Tryd.pinned (OpenSpec.upto parseFirstSpec)

/-- 'lyceumlaw05.ParseLists', WHERE WHAT IT READS IS OF BULK AT MOST 1048576: true; the input reads as it did. -/
def parseListsUptoRow : OpenClaim := { program := "ytdobflpbkfkmgaadoor", sum := "313339f610b6b7a45325689d172a343e747b893c2f8fa03604d00d944cb86547", func := "lyceum/lyceumlaw05.ParseLists", spec := "parseLists", unfollowed := true, recurses := true, named := ["lyceum/lex.signs", "lyceum/parse.levels", "lyceum/syntax.rows"], loops := true, apart := false, laid := [("lyceum/syntax.rows", laid_lyceum_syntax_rows), ("lyceum/lex.signs", laid_lyceum_lex_signs), ("lyceum/parse.levels", laid_lyceum_parse_levels)], narrowed := true }
def ParseListsUptoSaid : Prop := parseListsUptoRow.holds Tryd.pinned (OpenSpec.upto parseListsSpec)

/-- 'lyceumlaw05.ParseOnly', WHERE WHAT IT READS IS OF BULK AT MOST 1048576: true; the input reads as it did. -/
def parseOnlyUptoRow : OpenClaim := { program := "ytdobflpbkfkmgaadoor", sum := "313339f610b6b7a45325689d172a343e747b893c2f8fa03604d00d944cb86547", func := "lyceum/lyceumlaw05.ParseOnly", spec := "parseOnly", unfollowed := true, recurses := true, named := ["lyceum/lex.signs", "lyceum/parse.levels", "lyceum/syntax.rows"], apart := false, laid := [("lyceum/syntax.rows", laid_lyceum_syntax_rows), ("lyceum/lex.signs", laid_lyceum_lex_signs), ("lyceum/parse.levels", laid_lyceum_parse_levels)], narrowed := true }
def ParseOnlyUptoSaid : Prop := parseOnlyUptoRow.holds Tryd.pinned (OpenSpec.upto parseOnlySpec)

/-- 'lyceumlaw05.ParseBlanks', WHERE WHAT IT READS IS OF BULK AT MOST 1048576: true; the input reads as it did. -/
def parseBlanksUptoRow : OpenClaim := { program := "ytdobflpbkfkmgaadoor", sum := "313339f610b6b7a45325689d172a343e747b893c2f8fa03604d00d944cb86547", func := "lyceum/lyceumlaw05.ParseBlanks", spec := "parseBlanks", inPlace := ["internal/abi.NoEscape", "internal/bytealg.MakeNoZero"], unfollowed := true, recurses := true, named := ["lyceum/lex.signs", "lyceum/parse.levels", "lyceum/syntax.rows"], apart := false, laid := [("lyceum/syntax.rows", laid_lyceum_syntax_rows), ("lyceum/lex.signs", laid_lyceum_lex_signs), ("lyceum/parse.levels", laid_lyceum_parse_levels)], narrowed := true }
def ParseBlanksUptoSaid : Prop := parseBlanksUptoRow.holds Tryd.pinned (OpenSpec.upto parseBlanksSpec)

end Rows
end Go.Proofs.YtdobflpbkfkmgaaDoor
