/- ParseFirst (5) at any two strings. -/
import Derived.Test.YtdobflpbkfkmgaaDoorFid
namespace Go.Proofs.YtdobflpbkfkmgaaDoor
open Go.RowKit Go.HK Go.FR
set_option linter.unusedVariables false
set_option linter.unusedSimpArgs false
set_option linter.unusedSectionVars false
theorem bys_cat (s t : ByteArray) (b : UInt8) : bys (s ++ ⟨#[b]⟩ ++ t) = bys s ++ b :: bys t := by
  simp [bys, ByteArray.data_append]
theorem bys_cut (s : ByteArray) (n : Nat) : bys (s.extract 0 n) = (bys s).take n := by
  simp [bys, ByteArray.data_extract, Array.toList_extract, List.extract_eq_take_drop]
def OutS (p : Nat) (e : Int) (W : World) (E : Ending) (W' : World) : Prop := Below W.heap.size W W' ∧ ∃ (o8 : Int) (nm : ByteArray) (aa : Option Addr) (an ac : Nat) (sa : Option Addr) (sn sc : Nat), E = .returned (.tuple #[.agg #[.int .u8 o8, .string nm, .slice aa an ac, .slice sa sn sc], .int .i64 (p : Int), .int .i64 e])
theorem sch_s (W : World) (hL : LaidAll W) (s : ByteArray) (hs : s.size ≤ 16384) {l : List UInt8} (hl : bys s = l) {r : An Fm} (h : RdF true l r) {p : Nat} {e : Int} (hp : anP (schA r) = p) (he : anE (schA r) = e) : Calls Tryd.prog 21 #[.string s] W (OutS p e W) := by
  subst hl hp he
  refine (sch_out W hL s hs h).mono ?_
  rintro E W' ⟨hB, o8, nm, aa, an, ac, sa, sn, sc, hE, _⟩
  exact ⟨hB, o8, nm, aa, an, ac, sa, sn, sc, hE⟩
theorem first_any (w : World) (s b : ByteArray) (hz : s.size ≤ maxLen) (hz2 : b.size ≤ maxLen) (hL : LaidAll w) : Calls Tryd.prog 5 #[.string s, .string b] w (RetOk w) := by
  by_cases hl : 1500 < s.size ∨ 1000 < b.size
  · exact first_long w s b hz hz2 hL hl
  have hl1 : s.size ≤ 1500 := by omega
  have hl2 : b.size ≤ 1000 := by omega
  have hl6 : (bys s).length ≤ 16384 := by show s.size ≤ 16384; omega
  have hs6 : s.size ≤ 16384 := by omega
  obtain ⟨ts, q, e, hX⟩ := lex_total _ (bys s) (Nat.le_refl _) 0
  by_cases he : e = 0
  case neg =>
    have hr : RdF true (bys s) (.bad q e) := .lexbad hX he
    have h45 : e = 40 ∨ e = 41 := by
      rcases lex_err hX with h | h
      · exact absurd h.1 he
      · exact h.1
    exact first_other w s b hL hl1 hl2 (p := q) (e := e) (by omega) (by omega) fun W hW => sch_s W hW s hs6 rfl hr rfl rfl
  subst he
  have hT := tsok_of_lex hl6 hX
  obtain ⟨x, hx⟩ := run_total (metas := true) hT.en (10 * (ts.length - 1 - 0) + rank (.bin 0) + 1) (.bin 0) 0 0 (Nat.zero_le _) (by simp) (Nat.lt_succ_self _)
  have hr : RdF true (bys s) (resF ts x) := .read hX hx
  cases hres : resF ts x with
  | ok f =>
    rw [hres] at hr
    have h : anE (schA (.ok f)) = 0 ∨ anE (schA (.ok f)) = 3 := by
      by_cases hf : schF f = true
      · left; simp [schA, hf, anE]
      · right; simp [schA, hf, anE]
    exact first_other w s b hL hl1 hl2 (p := anP (schA (.ok f))) (e := anE (schA (.ok f))) (by omega) (by omega) fun W hW => sch_s W hW s hs6 rfl hr rfl rfl
  | bad p e =>
    rw [hres] at hr
    obtain ⟨K, t, ht, rfl, hK, he5, hKz⟩ := err_at hl6 hX hx hres
    obtain ⟨r', hr', hcase⟩ := first_a hl6 hX hx hK ht
    have h1 : ∀ W, LaidAll W → Calls Tryd.prog 21 #[.string s] W (OutS t.p e W) := fun W hW => sch_s W hW s hs6 rfl hr rfl rfl
    have h2 : ∀ W, LaidAll W → Calls Tryd.prog 21 #[.string (s.extract 0 t.p)] W (OutS (anP (schA r')) (anE (schA r')) W) := fun W hW => sch_s W hW _ (by simp; omega) (bys_cut s t.p) hr' rfl rfl
    have h3 : t.k ≠ 5 → ∀ us q2, LexL 0 (bys b) us q2 0 → ∀ W, LaidAll W → Calls Tryd.prog 21 #[.string (s.extract 0 (t.p + t.t.size) ++ ⟨#[32]⟩ ++ b)] W (OutS t.p e W) := fun hk us q2 hZ W hW => by
      have hb := first_b (by show s.size ≤ 8000; omega) (by show b.size ≤ 8000; omega) hX hx hres hK ht hk hZ
      refine sch_s W hW _ ?_ (l := (bys s).take (t.p + t.t.size) ++ 32 :: bys b) ?_ hb rfl rfl
      · have h1 : (ByteArray.mk #[32]).size = 1 := rfl
        simp only [ByteArray.size_append, ByteArray.size_extract, h1]; omega
      · rw [bys_cat, bys_cut]
    rcases hcase with ⟨f, rfl⟩ | ⟨f, rfl, hf⟩
    · by_cases hsf : schF f = true
      · have ha : anE (schA (.ok f)) = 0 := by simp [schA, hsf, anE]
        rw [ha] at h2
        rcases he5 with rfl | rfl
        · exact first_50_0 w s b hL hl1 hl2 hX ht h1 h2 h3
        · exact first_51_0 w s b hL hl1 hl2 hX ht h1 h2 h3
      · have ha : anE (schA (.ok f)) = 3 := by simp [schA, hsf, anE]
        rw [ha] at h2
        rcases he5 with rfl | rfl
        · exact first_50_3 w s b hL hl1 hl2 hX ht h1 h2 h3
        · exact first_51_3 w s b hL hl1 hl2 hX ht h1 h2 h3
    · rcases hf with rfl | rfl <;> rcases he5 with rfl | rfl
      · exact first_50_50 w s b hL hl1 hl2 hX ht h1 h2 h3
      · exact first_51_50 w s b hL hl1 hl2 hX ht h1 h2 h3
      · exact first_50_51 w s b hL hl1 hl2 hX ht h1 h2 h3
      · exact first_51_51 w s b hL hl1 hl2 hX ht h1 h2 h3
end Go.Proofs.YtdobflpbkfkmgaaDoor
