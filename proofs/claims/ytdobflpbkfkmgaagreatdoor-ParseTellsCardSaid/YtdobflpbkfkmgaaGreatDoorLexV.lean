import Derived.Test.YtdobflpbkfkmgaaGreatDoorLexU
namespace Go.Proofs.YtdobflpbkfkmgaaGreatDoor
open Go.RowKit
set_option linter.unusedVariables false
set_option linter.unusedSimpArgs false
set_option linter.unusedSectionVars false
theorem lex_any (w:World) (s:ByteArray) (hs:s.size <= 16384) (hG:Signs w) (ts:List Tok) (p:Nat) (e:Int) (hL:LexL 0 (bys s) ts p e) :
  Calls Tryz.prog 46 #[.string s] w (RetL w ts p e):=(callsIn_wide (n:=9)).1 (lex_in w s hs hG ts p e hL)
structure Tk where
 k:Int
 t:ByteArray
 p:Int
def Tok.tk (t:Tok):Tk:=⟨t.k,t.t,t.p⟩
structure RowT (w:World) (g o:Nat) (xs:List Tk):Prop where
 c0:∀ (i:Nat) x,xs[i]? = some x -> w.cell? ⟨g,o + i * 3,none⟩ = some (.int .u8 x.k)
 c1:∀ (i:Nat) x,xs[i]? = some x -> w.cell? ⟨g,o + i * 3 + 1,none⟩ = some (.string x.t)
 c2:∀ (i:Nat) x,xs[i]? = some x -> w.cell? ⟨g,o + i * 3 + 2,none⟩ = some (.int .i64 x.p)
 lt:g < w.heap.size
theorem RowT.below {w w':World} {g o:Nat} {xs:List Tk} (h:RowT w g o xs) {B:Nat} (hb:Below B w w') (hg:g < B):RowT w' g o xs where
 c0:=fun i x hx => (hb.cell (p:=⟨g,o + i * 3,none⟩) hg).trans (h.c0 i x hx)
 c1:=fun i x hx => (hb.cell (p:=⟨g,o + i * 3 + 1,none⟩) hg).trans (h.c1 i x hx)
 c2:=fun i x hx => (hb.cell (p:=⟨g,o + i * 3 + 2,none⟩) hg).trans (h.c2 i x hx)
 lt:=Nat.lt_of_lt_of_le h.lt hb.size
end Go.Proofs.YtdobflpbkfkmgaaGreatDoor
