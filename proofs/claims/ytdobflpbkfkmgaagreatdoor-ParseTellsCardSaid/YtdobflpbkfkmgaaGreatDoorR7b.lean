import Derived.Test.YtdobflpbkfkmgaaGreatDoorR7a
namespace Go.Proofs.YtdobflpbkfkmgaaGreatDoor
open Go.RowKit Go.HK Go.FR Lib
set_option linter.unusedVariables false
set_option linter.unusedSimpArgs false
set_option linter.unusedSectionVars false
set_option maxRecDepth 100000 in
set_option maxHeartbeats 4000000 in
theorem tells_any (w:World) (s:ByteArray) (hs:s.size <= maxLen) (hL:LaidAll w):Calls Tryz.prog 3 #[.string s] w (RetOk w):=by
 have HL:=hid hL
 have hsz:(s.size:Int) <= 9223372036854775807:=by have:maxLen = 9223372036854775807:=rfl; omega
 by_cases hb:(2500:Int) < (s.size:Int)
 ·have ha:=awake_any w hL.signs hL.levels hL.rows
  have HA:=hid ha
  clear ha hL hs
  go_enter Tryz.func3,Tryz.ntmps3
  go_wp2_with (go_at_call 6; ((with_reducible refine HA.out.mono ?_); rintro _ w3 ⟨rfl,hB3⟩; have HB3:=hid hB3; clear hB3))
  refine bodyPost_ret (v:=.bool true) (by simp [results,Tryz.results3,go_sem]) rfl ?_
  exact ⟨rfl,HB3.out⟩
 ·have hp:=parses_any w hL s (by omega)
  have HP:=hid hp
  clear hp hL hs
  go_enter Tryz.func3,Tryz.ntmps3
  go_wp2_with (first
   | (go_at_call 5; ((with_reducible refine HP.out.mono ?_); rintro _ w2 ⟨rfl,hB2⟩; have HB2:=hid hB2; have HA:=hid (awake_any w2 (HL.out.below hB2).signs (HL.out.below hB2).levels (HL.out.below hB2).rows); clear hB2))
   | (go_at_call 6; ((with_reducible refine HA.out.mono ?_); rintro _ w3 ⟨rfl,hB3⟩; have HB3:=hid hB3; clear hB3)))
  refine bodyPost_ret (v:=.bool true) (by simp [results,Tryz.results3,go_sem]) rfl ?_
  exact ⟨rfl,HB2.out.trans (HB3.out.mono HB2.out.size)⟩
end Go.Proofs.YtdobflpbkfkmgaaGreatDoor
