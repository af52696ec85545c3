/- ParseBlanks (8) at any string. -/
import Derived.Test.YtdobflpbkfkmgaaDoorBlb
namespace Go.Proofs.YtdobflpbkfkmgaaDoor
open Go.RowKit Go.HK Go.FR
set_option linter.unusedVariables false
set_option linter.unusedSimpArgs false
set_option linter.unusedSectionVars false
theorem zNb (p : Nat) (e : Int) : nodesF (anF (.bad p e)) ≤ 900000 := by show nodesF (.mk 0 ⟨#[]⟩ [] []) ≤ 900000; decide
theorem blanks_any (w : World) (s : ByteArray) (hz : s.size ≤ maxLen) (hL : LaidAll w) : Calls Tryd.prog 8 #[.string s] w (RetOk w) := by
  by_cases hl : 2500 < s.size
  · exact blanks_long w s hz hL hl
  have hl5 : s.size ≤ 2500 := by omega
  have hl6 : (bys s).length ≤ 16384 := by show s.size ≤ 16384; omega
  have hs6 : s.size ≤ 16384 := by omega
  obtain ⟨ts, q, e, hX⟩ := lex_total _ (bys s) (Nat.le_refl _) 0
  by_cases he : e = 0
  case neg => exact blanks_bad w s hL hl5 ts q e hX he fun W hW => sch_s W hW s hs6 rfl (.lexbad hX he) rfl rfl
  subst he
  have hT := tsok_of_lex hl6 hX
  obtain ⟨x, hx⟩ := run_total (metas := true) hT.en (10 * (ts.length - 1 - 0) + rank (.bin 0) + 1) (.bin 0) 0 0 (Nat.zero_le _) (by simp) (Nat.lt_succ_self _)
  have hr : RdF true (bys s) (resF ts x) := .read hX hx
  obtain ⟨us, hU, hul, hru, hcase⟩ := blank_read hX hx
  have hj := (join_len hX).1
  have hj6 : (mkS (joinL ts)).size ≤ 16384 := by rw [mk_size]; have : (bys s).length = s.size := rfl; omega
  have hru' : RdF true (bys (mkS (joinL ts))) (resF us x) := by rw [bys_mk]; exact hru
  rcases hcase with ⟨f, h1, h2⟩ | ⟨K, t, u, e, ht, hu, h1, h2, he⟩
  · rw [h1] at hr
    rw [h2] at hru'
    obtain ⟨_, _, _, _, _, _, _, hN⟩ := rdF_ok hl6 hr rfl
    have c1 := fun W hW => sch_out W hW s hs6 hr
    have c2 := fun W hW => sch_out W hW (mkS (joinL ts)) hj6 hru'
    by_cases hsf : schF f = true
    · have ha : schA (.ok f) = .ok f := by simp [schA, hsf]
      rw [ha] at c1 c2
      exact blanks_0 w s hL hl5 hX hU hul (show nodesF f ≤ 1000000 by omega) c1 c2
    · have ha : schA (.ok f) = .bad 0 3 := by simp [schA, hsf]
      rw [ha] at c1 c2
      exact blanks_3 w s hL hl5 hX hU hul (Nat.le_trans (zNb 0 3) (by omega)) c1 c2
  · rw [h1] at hr
    rw [h2] at hru'
    have c1 := fun W hW => sch_out W hW s hs6 hr
    have c2 := fun W hW => sch_out W hW (mkS (joinL ts)) hj6 hru'
    rcases he with rfl | rfl
    · exact blanks_50 w s hL hl5 hX hU hul ht hu (Nat.le_trans (zNb t.p 50) (by omega)) c1 c2
    · exact blanks_51 w s hL hl5 hX hU hul ht hu (Nat.le_trans (zNb t.p 51) (by omega)) c1 c2
end Go.Proofs.YtdobflpbkfkmgaaDoor
