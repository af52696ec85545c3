/-
  NARROWER THAN 'FOR EVERY INPUT', by the rows' own cells (each row's printed sentence says how): FramePersists: laid · FrameForces: laid · FrameModal: laid · FrameCloses: laid · FrameAxioms: laid · FrameCloser: laid · FramePart: laid · FrameOrder: laid · FrameWrong: laid.
  DERIVED. THE GIVEN ROWS OF THIS SEAT. 9 by the template 'for every input the law returns true; each argument reads behind the call as it read before'; 0 by the template 'total and deterministic' (their statements: YtflmllablfjfeaaDoorTotals.lean).
  GIVEN WITH THE SEED: the statements are not yours to turn. If you find one false, say at which input.
  Laid BY PROGRAM, IN A SANDBOX (cutbox-rows.mjs): the forced cells as the released guide's own fill.sh prints them over the translation 512edea36efe489d… (all of the seat's roots in one cut). By AI agents, Wed Nov 11 2026. No macro, syntax, notation, axiom, sorry.
-/
import Derived.Test.YtflmllablfjfeaaDoorChecked
import GoSem.Claim
import GoSem.ClaimJoined
import GoSem.ClaimMapViews
import Derived.JoinedTies
import Derived.KernelRfl
namespace Go.Proofs.YtflmllablfjfeaaDoor
/- THE CELL 'sum', in the pinned program and in every row, IS THE sha256 OF THE DUMP (.gsa) THAT YtflmllablfjfeaaDoorProg.lean LOADS. Nothing in Lean hashes anything: it is a label: what it is worth is what the hold of that sum in a sandbox is worth. -/
noncomputable def Tryd.pinned : Pinned := { name := "ytflmllablfjfeaadoor", sum := "512edea36efe489de191f4bad8eb49fb11685c4507075b6240293e69cbd13743", checked := Tryd.checked }
namespace Rows
def none {H : Type} : Left H := { results := [], args := [] }

/- WHAT THE LISTED PACKAGE-LEVEL VARIABLES READ AS WHEN THE CALL BEGINS. Each datum BY PROGRAM (the guide's laid-datum.mjs) off the statement by which the dump's own 'gosem.cut.vars' lays the variable. In a bare row this is a premise. The card (YtflmllablfjfeaaDoorCards.lean) ties it to the program's text. -/
def laid_lyceum_syntax_rows {H : Type} : DataW H := .agg [.agg [.lit (.bool false), .lit (.bool false), .lit (.int .u8 0), .lit (.int .i64 0), .lit (.int .i64 0)], .agg [.lit (.bool true), .lit (.bool true), .lit (.int .u8 1), .lit (.int .i64 4), .lit (.int .i64 0)], .agg [.lit (.bool true), .lit (.bool true), .lit (.int .u8 0), .lit (.int .i64 0), .lit (.int .i64 0)], .agg [.lit (.bool true), .lit (.bool true), .lit (.int .u8 0), .lit (.int .i64 0), .lit (.int .i64 1)], .agg [.lit (.bool true), .lit (.bool true), .lit (.int .u8 0), .lit (.int .i64 0), .lit (.int .i64 2)], .agg [.lit (.bool true), .lit (.bool true), .lit (.int .u8 0), .lit (.int .i64 0), .lit (.int .i64 2)], .agg [.lit (.bool true), .lit (.bool true), .lit (.int .u8 0), .lit (.int .i64 0), .lit (.int .i64 2)], .agg [.lit (.bool true), .lit (.bool true), .lit (.int .u8 0), .lit (.int .i64 0), .lit (.int .i64 2)], .agg [.lit (.bool true), .lit (.bool true), .lit (.int .u8 2), .lit (.int .i64 0), .lit (.int .i64 1)], .agg [.lit (.bool true), .lit (.bool true), .lit (.int .u8 2), .lit (.int .i64 0), .lit (.int .i64 1)], .agg [.lit (.bool true), .lit (.bool true), .lit (.int .u8 0), .lit (.int .i64 0), .lit (.int .i64 1)], .agg [.lit (.bool true), .lit (.bool true), .lit (.int .u8 0), .lit (.int .i64 0), .lit (.int .i64 1)], .agg [.lit (.bool true), .lit (.bool true), .lit (.int .u8 0), .lit (.int .i64 0), .lit (.int .i64 1)], .agg [.lit (.bool true), .lit (.bool true), .lit (.int .u8 0), .lit (.int .i64 0), .lit (.int .i64 1)], .agg [.lit (.bool true), .lit (.bool true), .lit (.int .u8 0), .lit (.int .i64 0), .lit (.int .i64 2)], .agg [.lit (.bool false), .lit (.bool true), .lit (.int .u8 3), .lit (.int .i64 0), .lit (.int .i64 0)], .agg [.lit (.bool false), .lit (.bool true), .lit (.int .u8 3), .lit (.int .i64 2), .lit (.int .i64 0)]]

/-- 'lyceumlaw12.FramePersists': WHATEVER THE INPUT: true; the input reads as it did. -/
def framePersistsSpec : ChangeSpec := { name := "framePersists", fn := fun _ => fun
  | [d1, d2, d3] => { results := [.lit (.bool true)], args := [d1, d2, d3] }
  | _ => none }
def framePersistsRow : OpenClaim := { program := "ytflmllablfjfeaadoor", sum := "512edea36efe489de191f4bad8eb49fb11685c4507075b6240293e69cbd13743", func := "lyceum/lyceumlaw12.FramePersists", spec := "framePersists", unfollowed := true, recurses := true, named := ["lyceum/syntax.rows"], apart := false, laid := [("lyceum/syntax.rows", laid_lyceum_syntax_rows)] }
def FramePersistsSaid : Prop := framePersistsRow.holds Tryd.pinned (OpenSpec.ofChange framePersistsSpec)

/-- ITS FALSE NEIGHBOUR: 'it returns false'. Refute it at one input. -/
def framePersistsWrong : ChangeSpec := { name := "framePersists", fn := fun _ => fun
  | [d1, d2, d3] => { results := [.lit (.bool false)], args := [d1, d2, d3] }
  | _ => none }
def FramePersistsWrongFalsely : Prop := framePersistsRow.holds Tryd.pinned (OpenSpec.ofChange framePersistsWrong)

/-- 'lyceumlaw12.FrameForces': WHATEVER THE INPUT: true; the input reads as it did. -/
def frameForcesSpec : ChangeSpec := { name := "frameForces", fn := fun _ => fun
  | [d1, d2, d3, d4] => { results := [.lit (.bool true)], args := [d1, d2, d3, d4] }
  | _ => none }
def frameForcesRow : OpenClaim := { program := "ytflmllablfjfeaadoor", sum := "512edea36efe489de191f4bad8eb49fb11685c4507075b6240293e69cbd13743", func := "lyceum/lyceumlaw12.FrameForces", spec := "frameForces", unfollowed := true, recurses := true, named := ["lyceum/syntax.rows"], apart := false, laid := [("lyceum/syntax.rows", laid_lyceum_syntax_rows)] }
def FrameForcesSaid : Prop := frameForcesRow.holds Tryd.pinned (OpenSpec.ofChange frameForcesSpec)

/-- ITS FALSE NEIGHBOUR: 'it returns false'. Refute it at one input. -/
def frameForcesWrong : ChangeSpec := { name := "frameForces", fn := fun _ => fun
  | [d1, d2, d3, d4] => { results := [.lit (.bool false)], args := [d1, d2, d3, d4] }
  | _ => none }
def FrameForcesWrongFalsely : Prop := frameForcesRow.holds Tryd.pinned (OpenSpec.ofChange frameForcesWrong)

/-- 'lyceumlaw12.FrameModal': WHATEVER THE INPUT: true; the input reads as it did. -/
def frameModalSpec : ChangeSpec := { name := "frameModal", fn := fun _ => fun
  | [d1, d2, d3, d4] => { results := [.lit (.bool true)], args := [d1, d2, d3, d4] }
  | _ => none }
def frameModalRow : OpenClaim := { program := "ytflmllablfjfeaadoor", sum := "512edea36efe489de191f4bad8eb49fb11685c4507075b6240293e69cbd13743", func := "lyceum/lyceumlaw12.FrameModal", spec := "frameModal", unfollowed := true, recurses := true, named := ["lyceum/syntax.rows"], apart := false, laid := [("lyceum/syntax.rows", laid_lyceum_syntax_rows)] }
def FrameModalSaid : Prop := frameModalRow.holds Tryd.pinned (OpenSpec.ofChange frameModalSpec)

/-- ITS FALSE NEIGHBOUR: 'it returns false'. Refute it at one input. -/
def frameModalWrong : ChangeSpec := { name := "frameModal", fn := fun _ => fun
  | [d1, d2, d3, d4] => { results := [.lit (.bool false)], args := [d1, d2, d3, d4] }
  | _ => none }
def FrameModalWrongFalsely : Prop := frameModalRow.holds Tryd.pinned (OpenSpec.ofChange frameModalWrong)

/-- 'lyceumlaw12.FrameCloses': WHATEVER THE INPUT: true; the input reads as it did. -/
def frameClosesSpec : ChangeSpec := { name := "frameCloses", fn := fun _ => fun
  | [d1, d2] => { results := [.lit (.bool true)], args := [d1, d2] }
  | _ => none }
def frameClosesRow : OpenClaim := { program := "ytflmllablfjfeaadoor", sum := "512edea36efe489de191f4bad8eb49fb11685c4507075b6240293e69cbd13743", func := "lyceum/lyceumlaw12.FrameCloses", spec := "frameCloses", unfollowed := true, recurses := true, named := ["lyceum/syntax.rows"], apart := false, laid := [("lyceum/syntax.rows", laid_lyceum_syntax_rows)] }
def FrameClosesSaid : Prop := frameClosesRow.holds Tryd.pinned (OpenSpec.ofChange frameClosesSpec)

/-- ITS FALSE NEIGHBOUR: 'it returns false'. Refute it at one input. -/
def frameClosesWrong : ChangeSpec := { name := "frameCloses", fn := fun _ => fun
  | [d1, d2] => { results := [.lit (.bool false)], args := [d1, d2] }
  | _ => none }
def FrameClosesWrongFalsely : Prop := frameClosesRow.holds Tryd.pinned (OpenSpec.ofChange frameClosesWrong)

/-- 'lyceumlaw12.FrameAxioms': WHATEVER THE INPUT: true; the input reads as it did. -/
def frameAxiomsSpec : ChangeSpec := { name := "frameAxioms", fn := fun _ => fun
  | [d1, d2, d3, d4] => { results := [.lit (.bool true)], args := [d1, d2, d3, d4] }
  | _ => none }
def frameAxiomsRow : OpenClaim := { program := "ytflmllablfjfeaadoor", sum := "512edea36efe489de191f4bad8eb49fb11685c4507075b6240293e69cbd13743", func := "lyceum/lyceumlaw12.FrameAxioms", spec := "frameAxioms", unfollowed := true, recurses := true, named := ["lyceum/syntax.rows"], apart := false, laid := [("lyceum/syntax.rows", laid_lyceum_syntax_rows)] }
def FrameAxiomsSaid : Prop := frameAxiomsRow.holds Tryd.pinned (OpenSpec.ofChange frameAxiomsSpec)

/-- ITS FALSE NEIGHBOUR: 'it returns false'. Refute it at one input. -/
def frameAxiomsWrong : ChangeSpec := { name := "frameAxioms", fn := fun _ => fun
  | [d1, d2, d3, d4] => { results := [.lit (.bool false)], args := [d1, d2, d3, d4] }
  | _ => none }
def FrameAxiomsWrongFalsely : Prop := frameAxiomsRow.holds Tryd.pinned (OpenSpec.ofChange frameAxiomsWrong)

/-- 'lyceumlaw12.FrameCloser': WHATEVER THE INPUT: true; the input reads as it did. -/
def frameCloserSpec : ChangeSpec := { name := "frameCloser", fn := fun _ => fun
  | [d1, d2, d3, d4] => { results := [.lit (.bool true)], args := [d1, d2, d3, d4] }
  | _ => none }
def frameCloserRow : OpenClaim := { program := "ytflmllablfjfeaadoor", sum := "512edea36efe489de191f4bad8eb49fb11685c4507075b6240293e69cbd13743", func := "lyceum/lyceumlaw12.FrameCloser", spec := "frameCloser", unfollowed := true, recurses := true, named := ["lyceum/syntax.rows"], apart := false, laid := [("lyceum/syntax.rows", laid_lyceum_syntax_rows)] }
def FrameCloserSaid : Prop := frameCloserRow.holds Tryd.pinned (OpenSpec.ofChange frameCloserSpec)

/-- ITS FALSE NEIGHBOUR: 'it returns false'. Refute it at one input. -/
def frameCloserWrong : ChangeSpec := { name := "frameCloser", fn := fun _ => fun
  | [d1, d2, d3, d4] => { results := [.lit (.bool false)], args := [d1, d2, d3, d4] }
  | _ => none }
def FrameCloserWrongFalsely : Prop := frameCloserRow.holds Tryd.pinned (OpenSpec.ofChange frameCloserWrong)

/-- 'lyceumlaw12.FramePart': WHATEVER THE INPUT: true; the input reads as it did. -/
def framePartSpec : ChangeSpec := { name := "framePart", fn := fun _ => fun
  | [d1, d2, d3, d4, d5] => { results := [.lit (.bool true)], args := [d1, d2, d3, d4, d5] }
  | _ => none }
def framePartRow : OpenClaim := { program := "ytflmllablfjfeaadoor", sum := "512edea36efe489de191f4bad8eb49fb11685c4507075b6240293e69cbd13743", func := "lyceum/lyceumlaw12.FramePart", spec := "framePart", unfollowed := true, recurses := true, named := ["lyceum/syntax.rows"], apart := false, laid := [("lyceum/syntax.rows", laid_lyceum_syntax_rows)] }
def FramePartSaid : Prop := framePartRow.holds Tryd.pinned (OpenSpec.ofChange framePartSpec)

/-- ITS FALSE NEIGHBOUR: 'it returns false'. Refute it at one input. -/
def framePartWrong : ChangeSpec := { name := "framePart", fn := fun _ => fun
  | [d1, d2, d3, d4, d5] => { results := [.lit (.bool false)], args := [d1, d2, d3, d4, d5] }
  | _ => none }
def FramePartWrongFalsely : Prop := framePartRow.holds Tryd.pinned (OpenSpec.ofChange framePartWrong)

/-- 'lyceumlaw12.FrameOrder': WHATEVER THE INPUT: true; the input reads as it did. -/
def frameOrderSpec : ChangeSpec := { name := "frameOrder", fn := fun _ => fun
  | [d1, d2, d3, d4, d5, d6] => { results := [.lit (.bool true)], args := [d1, d2, d3, d4, d5, d6] }
  | _ => none }
def frameOrderRow : OpenClaim := { program := "ytflmllablfjfeaadoor", sum := "512edea36efe489de191f4bad8eb49fb11685c4507075b6240293e69cbd13743", func := "lyceum/lyceumlaw12.FrameOrder", spec := "frameOrder", unfollowed := true, recurses := true, named := ["lyceum/syntax.rows"], apart := false, laid := [("lyceum/syntax.rows", laid_lyceum_syntax_rows)] }
def FrameOrderSaid : Prop := frameOrderRow.holds Tryd.pinned (OpenSpec.ofChange frameOrderSpec)

/-- ITS FALSE NEIGHBOUR: 'it returns false'. Refute it at one input. -/
def frameOrderWrong : ChangeSpec := { name := "frameOrder", fn := fun _ => fun
  | [d1, d2, d3, d4, d5, d6] => { results := [.lit (.bool false)], args := [d1, d2, d3, d4, d5, d6] }
  | _ => none }
def FrameOrderWrongFalsely : Prop := frameOrderRow.holds Tryd.pinned (OpenSpec.ofChange frameOrderWrong)

/-- 'lyceumlaw12.FrameWrong': WHATEVER THE INPUT: true; the input reads as it did. -/
def frameWrongSpec : ChangeSpec := { name := "frameWrong", fn := fun _ => fun
  | [d1, d2, d3, d4, d5] => { results := [.lit (.bool true)], args := [d1, d2, d3, d4, d5] }
  | _ => none }
def frameWrongRow : OpenClaim := { program := "ytflmllablfjfeaadoor", sum := "512edea36efe489de191f4bad8eb49fb11685c4507075b6240293e69cbd13743", func := "lyceum/lyceumlaw12.FrameWrong", spec := "frameWrong", unfollowed := true, recurses := true, named := ["lyceum/syntax.rows"], apart := false, laid := [("lyceum/syntax.rows", laid_lyceum_syntax_rows)] }
def FrameWrongSaid : Prop := frameWrongRow.holds Tryd.pinned (OpenSpec.ofChange frameWrongSpec)

/-- ITS FALSE NEIGHBOUR: 'it returns false'. Refute it at one input. -/
def frameWrongWrong : ChangeSpec := { name := "frameWrong", fn := fun _ => fun
  | [d1, d2, d3, d4, d5] => { results := [.lit (.bool false)], args := [d1, d2, d3, d4, d5] }
  | _ => none }
def FrameWrongWrongFalsely : Prop := frameWrongRow.holds Tryd.pinned (OpenSpec.ofChange frameWrongWrong)

/- THE SECOND FORM. 'bulk': how many values and letters a reading holds, each counted each time it is reached (what is shared counts as often as it is met; a slice's spare places count too). A statement '..UptoSaid' is the law's where the arguments, and the package variables that the reading takes, are together of bulk at most 1048576: NARROWER than '..Said'. Prove '..Said' where nothing that the law and all that it calls make is longer than what came in: it says more and counts as full. Else prove '..UptoSaid'. A law counts once. -/
mutual
def uptoBulk {H : Type} : DataW H → Nat
  | .lit (.string bytes) => bytes.length + 1
  | .lit _ => 1
  | .nil => 1
  | .ptr d => uptoBulk d + 1
  | .slice elems spare => uptoBulkAll elems + uptoBulkAll spare + 1
  | .agg parts => uptoBulkAll parts + 1
  | .iface _ d => uptoBulk d + 1
  | .map entries => uptoBulkEntries entries + 1
  | .held _ => 1
def uptoBulkAll {H : Type} : List (DataW H) → Nat
  | [] => 0
  | d :: r => uptoBulk d + uptoBulkAll r
def uptoBulkEntries {H : Type} : List (Lit × DataW H) → Nat
  | [] => 0
  | x :: r => uptoBulkEntry x + uptoBulkEntries r
def uptoBulkEntry {H : Type} : Lit × DataW H → Nat
  | (.string bytes, d) => bytes.length + uptoBulk d + 1
  | (_, d) => uptoBulk d + 1
 end
def uptoSmall : (H : Type) → List (DataW H) → Bool := fun _ ds => decide (uptoBulkAll ds ≤ 1048576)
def OpenSpec.upto (s : _root_.Go.ChangeSpec) : _root_.Go.OpenSpec := { _root_.Go.OpenSpec.ofChange s with cond := some uptoSmall }

/-- 'lyceumlaw12.FramePersists', WHERE WHAT IT READS IS OF BULK AT MOST 1048576: true; the input reads as it did. -/
def framePersistsUptoRow : OpenClaim := { program := "ytflmllablfjfeaadoor", sum := "512edea36efe489de191f4bad8eb49fb11685c4507075b6240293e69cbd13743", func := "lyceum/lyceumlaw12.FramePersists", spec := "framePersists", unfollowed := true, recurses := true, named := ["lyceum/syntax.rows"], apart := false, laid := [("lyceum/syntax.rows", laid_lyceum_syntax_rows)], narrowed := true }
def FramePersistsUptoSaid : Prop := framePersistsUptoRow.holds Tryd.pinned (OpenSpec.upto framePersistsSpec)

/-- 'lyceumlaw12.FrameForces', WHERE WHAT IT READS IS OF BULK AT MOST 1048576: true; the input reads as it did. -/
def frameForcesUptoRow : OpenClaim := { program := "ytflmllablfjfeaadoor", sum := "512edea36efe489de191f4bad8eb49fb11685c4507075b6240293e69cbd13743", func := "lyceum/lyceumlaw12.FrameForces", spec := "frameForces", unfollowed := true, recurses := true, named := ["lyceum/syntax.rows"], apart := false, laid := [("lyceum/syntax.rows", laid_lyceum_syntax_rows)], narrowed := true }
def FrameForcesUptoSaid : Prop := frameForcesUptoRow.holds Tryd.pinned (OpenSpec.upto frameForcesSpec)

/-- 'lyceumlaw12.FrameModal', WHERE WHAT IT READS IS OF BULK AT MOST 1048576: true; the input reads as it did. -/
def frameModalUptoRow : OpenClaim := { program := "ytflmllablfjfeaadoor", sum := "512edea36efe489de191f4bad8eb49fb11685c4507075b6240293e69cbd13743", func := "lyceum/lyceumlaw12.FrameModal", spec := "frameModal", unfollowed := true, recurses := true, named := ["lyceum/syntax.rows"], apart := false, laid := [("lyceum/syntax.rows", laid_lyceum_syntax_rows)], narrowed := true }
def FrameModalUptoSaid : Prop := frameModalUptoRow.holds Tryd.pinned (OpenSpec.upto frameModalSpec)

/-- 'lyceumlaw12.FrameCloses', WHERE WHAT IT READS IS OF BULK AT MOST 1048576: true; the input reads as it did. -/
def frameClosesUptoRow : OpenClaim := { program := "ytflmllablfjfeaadoor", sum := "512edea36efe489de191f4bad8eb49fb11685c4507075b6240293e69cbd13743", func := "lyceum/lyceumlaw12.FrameCloses", spec := "frameCloses", unfollowed := true, recurses := true, named := ["lyceum/syntax.rows"], apart := false, laid := [("lyceum/syntax.rows", laid_lyceum_syntax_rows)], narrowed := true }
def FrameClosesUptoSaid : Prop := frameClosesUptoRow.holds Tryd.pinned (OpenSpec.upto frameClosesSpec)

/-- 'lyceumlaw12.FrameAxioms', WHERE WHAT IT READS IS OF BULK AT MOST 1048576: true; the input reads as it did. -/
def frameAxiomsUptoRow : OpenClaim := { program := "ytflmllablfjfeaadoor", sum := "512edea36efe489de191f4bad8eb49fb11685c4507075b6240293e69cbd13743", func := "lyceum/lyceumlaw12.FrameAxioms", spec := "frameAxioms", unfollowed := true, recurses := true, named := ["lyceum/syntax.rows"], apart := false, laid := [("lyceum/syntax.rows", laid_lyceum_syntax_rows)], narrowed := true }
def FrameAxiomsUptoSaid : Prop := frameAxiomsUptoRow.holds Tryd.pinned (OpenSpec.upto frameAxiomsSpec)

/-- 'lyceumlaw12.FrameCloser', WHERE WHAT IT READS IS OF BULK AT MOST 1048576: true; the input reads as it did. -/
def frameCloserUptoRow : OpenClaim := { program := "ytflmllablfjfeaadoor", sum := "512edea36efe489de191f4bad8eb49fb11685c4507075b6240293e69cbd13743", func := "lyceum/lyceumlaw12.FrameCloser", spec := "frameCloser", unfollowed := true, recurses := true, named := ["lyceum/syntax.rows"], apart := false, laid := [("lyceum/syntax.rows", laid_lyceum_syntax_rows)], narrowed := true }
def FrameCloserUptoSaid : Prop := frameCloserUptoRow.holds Tryd.pinned (OpenSpec.upto frameCloserSpec)

/-- 'lyceumlaw12.FramePart', WHERE WHAT IT READS IS OF BULK AT MOST 1048576: true; the input reads as it did. -/
def framePartUptoRow : OpenClaim := { program := "ytflmllablfjfeaadoor", sum := "512edea36efe489de191f4bad8eb49fb11685c4507075b6240293e69cbd13743", func := "lyceum/lyceumlaw12.FramePart", spec := "framePart", unfollowed := true, recurses := true, named := ["lyceum/syntax.rows"], apart := false, laid := [("lyceum/syntax.rows", laid_lyceum_syntax_rows)], narrowed := true }
def FramePartUptoSaid : Prop := framePartUptoRow.holds Tryd.pinned (OpenSpec.upto framePartSpec)

/-- 'lyceumlaw12.FrameOrder', WHERE WHAT IT READS IS OF BULK AT MOST 1048576: true; the input reads as it did. -/
def frameOrderUptoRow : OpenClaim := { program := "ytflmllablfjfeaadoor", sum := "512edea36efe489de191f4bad8eb49fb11685c4507075b6240293e69cbd13743", func := "lyceum/lyceumlaw12.FrameOrder", spec := "frameOrder", unfollowed := true, recurses := true, named := ["lyceum/syntax.rows"], apart := false, laid := [("lyceum/syntax.rows", laid_lyceum_syntax_rows)], narrowed := true }
def FrameOrderUptoSaid : Prop := frameOrderUptoRow.holds Tryd.pinned (OpenSpec.upto frameOrderSpec)

/-- 'lyceumlaw12.FrameWrong', WHERE WHAT IT READS IS OF BULK AT MOST 1048576: true; the input reads as it did. -/
def frameWrongUptoRow : OpenClaim := { program := "ytflmllablfjfeaadoor", sum := "512edea36efe489de191f4bad8eb49fb11685c4507075b6240293e69cbd13743", func := "lyceum/lyceumlaw12.FrameWrong", spec := "frameWrong", unfollowed := true, recurses := true, named := ["lyceum/syntax.rows"], apart := false, laid := [("lyceum/syntax.rows", laid_lyceum_syntax_rows)], narrowed := true }
def FrameWrongUptoSaid : Prop := frameWrongUptoRow.holds Tryd.pinned (OpenSpec.upto frameWrongSpec)

end Rows
end Go.Proofs.YtflmllablfjfeaaDoor
