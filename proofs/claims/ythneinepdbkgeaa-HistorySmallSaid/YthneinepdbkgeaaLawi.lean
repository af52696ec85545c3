/- HistoryTells (8). -/
import Derived.Test.YthneinepdbkgeaaLawg
namespace Go.Proofs.Ythneinepdbkgeaa
open Go.RowKit Go.HK
set_option linter.unusedVariables false
set_option linter.unusedSimpArgs false
set_option linter.unusedSectionVars false
theorem tells_any (w : World) (begin : ByteArray) (hm : begin.size ≤ maxLen) (ad : Option Addr) (n c : Nat) (l : Nat → DoE) (hd : DosV w ad n l) (hn : n ≤ 40) : Calls Try.prog 28 #[.string begin, .slice ad n c] w (RetTr w) := by
  by_cases hb : begin.size ≤ 16384
  · exact tells_walk w begin hb ad n c l hd hn
  · exact tells_long w begin (by omega) hm ad n c
set_option maxRecDepth 100000 in
set_option maxHeartbeats 4000000 in
theorem historytells_walk (w : World) (begin : ByteArray) (hm : begin.size ≤ maxLen) (ad : Option Addr) (n c : Nat) (hn : n ≤ maxLen) (l : Nat → DoE) (hd : DosV w ad n l) : Calls Try.prog 8 #[.string begin, .slice ad n c] w (RetTr w) := by
  have haw := fun W => awake_any W
  have HA := Lib.hid haw
  unfold maxLen at hn
  clear haw
  by_cases h : (40 : Int) < (n : Int)
  · clear hd hm
    go_enter Try.func8, Try.ntmps8
    go_wp2_with (go_at_call 12; (with_reducible refine (HA.out _).mono ?_); rintro e w2 ⟨rfl, hB2⟩; have HB2 := Lib.hid hB2; clear hB2)
    go_ret
    exact ⟨rfl, HB2.out⟩
  · have ht := tells_any w begin hm ad n c l hd (by omega)
    unfold RetTr at ht
    have HT := Lib.hid ht
    clear hd hm ht
    go_enter Try.func8, Try.ntmps8
    go_wp2_with (first
      | (go_at_call 28; (with_reducible refine HT.out.mono ?_); rintro e w1 ⟨rfl, hB1⟩; have HB1 := Lib.hid hB1; clear hB1)
      | (go_at_call 12; (with_reducible refine (HA.out w1).mono ?_); rintro e w2 ⟨rfl, hB2⟩; have HB2 := Lib.hid hB2; clear hB2))
    go_ret
    exact ⟨rfl, HB1.out.trans (HB2.out.mono HB1.out.size)⟩
end Go.Proofs.Ythneinepdbkgeaa
