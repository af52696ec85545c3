import Derived.Test.YtdobflpbkfkmgaaGreatDoorAwc
import Derived.Test.YtdobflpbkfkmgaaGreatDoorPca
import Derived.Test.YtdobflpbkfkmgaaGreatDoorMps
import Derived.Test.YtdobflpbkfkmgaaGreatDoorLaid
namespace Go.Proofs.YtdobflpbkfkmgaaGreatDoor
open Go.RowKit Go.HK Go.FR
set_option linter.unusedVariables false
set_option linter.unusedSimpArgs false
set_option linter.unusedSectionVars false
def anF:An Fm -> Fm
 | .ok f => f
 | .bad _ _ => .mk 0 ⟨#[]⟩ [] []
def anT:An Tm -> Tm
 | .ok f => f
 | .bad _ _ => .mk false ⟨#[]⟩ []
def anP {α:Type}:An α -> Nat
 | .ok _ => 0
 | .bad p _ => p
def anE {α:Type}:An α -> Int
 | .ok _ => 0
 | .bad _ e => e
theorem zero_fm (W:World) (lo:Nat):FmV W lo (.mk 0 ⟨#[]⟩ [] []) (.agg #[.int .u8 0,.string ⟨#[]⟩,.slice none 0 0,.slice none 0 0]):=⟨⟨none,0,0⟩,⟨none,0,0⟩,rfl,.nil _ _,.nil _ _,by show (0:Nat) < 256; decide,by show (0:Nat) <= _; decide⟩
theorem zero_tm (W:World) (lo:Nat):TmV W lo (.mk false ⟨#[]⟩ []) (.agg #[.bool false,.string ⟨#[]⟩,.slice none 0 0]):=⟨⟨none,0,0⟩,rfl,.nil _ _,by show (0:Nat) <= _; decide⟩
def OutF (w:World) (a:An Fm) (E:Ending) (W':World):Prop:=Below w.heap.size w W' /\ ∃ (o8:Int) (nm:ByteArray) (aa:Option Addr) (an ac:Nat) (sa:Option Addr) (sn sc:Nat),E = .returned (.tuple #[.agg #[.int .u8 o8,.string nm,.slice aa an ac,.slice sa sn sc],.int .i64 (anP a:Int),.int .i64 (anE a)]) /\ FmV W' w.heap.size (anF a) (.agg #[.int .u8 o8,.string nm,.slice aa an ac,.slice sa sn sc])
def OutT (w:World) (a:An Tm) (E:Ending) (W':World):Prop:=Below w.heap.size w W' /\ ∃ (o8:Bool) (nm:ByteArray) (aa:Option Addr) (an ac:Nat),E = .returned (.tuple #[.agg #[.bool o8,.string nm,.slice aa an ac],.int .i64 (anP a:Int),.int .i64 (anE a)]) /\ TmV W' w.heap.size (anT a) (.agg #[.bool o8,.string nm,.slice aa an ac])
theorem RetF.out {w:World} {a:An Fm} {E:Ending} {W':World} (h:RetF w a E W'):OutF w a E W':=by
 obtain ⟨hB,h⟩:=h
 cases a with
 | ok f =>
  obtain ⟨v,he,hv⟩:=h
  obtain ⟨o8,nm,aa,an,ac,sa,sn,sc,rfl,h9⟩:=hv.fx
  exact ⟨hB,_,_,_,_,_,_,_,_,he,h9⟩
 | bad p e => exact ⟨hB,_,_,_,_,_,_,_,_,h,zero_fm _ _⟩
theorem RetTm.out {w:World} {a:An Tm} {E:Ending} {W':World} (h:RetTm w a E W'):OutT w a E W':=by
 obtain ⟨hB,h⟩:=h
 cases a with
 | ok f =>
  obtain ⟨v,he,hv⟩:=h
  have hv0:=hv
  obtain ⟨⟨aa,an,ac⟩,rfl,_⟩:=hv
  exact ⟨hB,_,_,_,_,_,he,hv0⟩
 | bad p e => exact ⟨hB,_,_,_,_,_,h,zero_tm _ _⟩
theorem form_out (w:World) (hL:LaidAll w) (s:ByteArray) (hs:s.size <= 16384) {r:An Fm} (h:RdF false (bys s) r):Calls Tryz.prog 9 #[.string s] w (OutF w (formA r)):=(form_call w s hs hL.signs hL.levels hL.rows h).mono fun _ _ h => h.out
theorem sch_out (w:World) (hL:LaidAll w) (s:ByteArray) (hs:s.size <= 16384) {r:An Fm} (h:RdF true (bys s) r):Calls Tryz.prog 12 #[.string s] w (OutF w (schA r)):=(sch_call w s hs hL.signs hL.levels hL.rows h).mono fun _ _ h => h.out
theorem term_out (w:World) (hL:LaidAll w) (s:ByteArray) (hs:s.size <= 16384) {r:An Tm} (h:RdT false (bys s) r):Calls Tryz.prog 14 #[.string s] w (OutT w (termA r)):=(term_call w s hs hL.signs hL.levels h).mono fun _ _ h => h.out
def RetOk (w:World) (e:Ending) (W':World):Prop:=e = .returned (.bool true) /\ Below w.heap.size w W'
end Go.Proofs.YtdobflpbkfkmgaaGreatDoor
