/- ParseFirst: what its texts are read as. No program in sight. -/
import Derived.Test.YtdobflpbkfkmgaaDoorFib
import Derived.Test.YtdobflpbkfkmgaaDoorPbz
namespace Go.Proofs.YtdobflpbkfkmgaaDoor
open Go Go.RowKit Go.FR
set_option linter.unusedVariables false
set_option linter.unusedSimpArgs false
set_option linter.unusedSectionVars false
theorem tkA_app {K j : Nat} (ts us : List Tok) (hK : K ≤ ts.length) (hj : j < K) : tkA (ts.take K ++ us) j = tkA ts j := by
  unfold tkA
  rw [List.getD_eq_getElem?_getD, List.getD_eq_getElem?_getD, List.getElem?_append_left (by simp; omega), List.getElem?_take, if_pos hj]
/-- Where an error is. -/
theorem err_at {l : List UInt8} {ts : List Tok} {q n p : Nat} {e : Int} {x : Ot} (hl : l.length ≤ 16384) (hX : LexL 0 l ts q 0) (hx : run true ts n (.bin 0) 0 0 = some x) (hr : resF ts x = .bad p e) : ∃ K t, ts[K]? = some t ∧ t.p = p ∧ plO x = K ∧ (e = 50 ∨ e = 51) ∧ K ≤ ts.length - 1 := by
  have hT := tsok_of_lex hl hX
  have h3 := run_iz hT.en n _ _ _ _ (Nat.zero_le _) hx
  cases x with
  | ok o k =>
    simp only [inO] at h3
    simp only [resF] at hr
    split at hr
    · cases hr
    · cases hr; exact ⟨k, _, hT.get h3.2.1, rfl, rfl, .inl rfl, h3.2.1⟩
  | bad k e' =>
    simp only [inO] at h3
    simp only [resF] at hr
    cases hr
    exact ⟨k, _, hT.get h3.2.1, rfl, rfl, by omega, h3.2.1⟩
theorem first_a {l : List UInt8} {ts : List Tok} {q n : Nat} {x : Ot} {K : Nat} {t : Tok} (hl : l.length ≤ 16384) (hX : LexL 0 l ts q 0) (hx : run true ts n (.bin 0) 0 0 = some x) (hK : plO x = K) (ht : ts[K]? = some t) :
    ∃ r', RdF true (l.take t.p) r' ∧ ((∃ f, r' = .ok f) ∨ ∃ f, r' = .bad t.p f ∧ (f = 50 ∨ f = 51)) := by
  have hX' := lex_cut hX rfl K t ht
  rw [Nat.sub_zero] at hX'
  have hlt := (List.getElem?_eq_some_iff.1 ht).1
  have hl' : (l.take t.p).length ≤ 16384 := by rw [List.length_take]; omega
  have hT := tsok_of_lex hl' hX'
  have hz : (ts.take K ++ [(⟨5, mkS [], t.p⟩ : Tok)]).length - 1 = K := by simp; omega
  rw [hz] at hT
  obtain ⟨y, hy⟩ := run_total (metas := true) hT.en (10 * (K - 0) + rank (.bin 0) + 1) (.bin 0) 0 0 (Nat.zero_le _) (by simp) (Nat.lt_succ_self _)
  have hS := run_same (K := K) (ts := ts) (us := ts.take K ++ [(⟨5, mkS [], t.p⟩ : Tok)]) (fun j hj => by rw [tkA_app ts _ (by omega) hj]; exact ⟨rfl, rfl⟩) true (max n (10 * (K - 0) + rank (.bin 0) + 1)) _ _ _ _ _ (run_le _ _ (Nat.le_max_left _ _) hx) (run_le _ _ (Nat.le_max_right _ _) hy)
  have h3 := run_iz hT.en _ _ _ _ _ (Nat.zero_le _) hy
  have hge : K ≤ plO y := by
    rcases hS with ⟨_, h⟩ | ⟨_, h⟩
    · omega
    · exact h
  refine ⟨_, .read hX' hy, ?_⟩
  have hend : tkA (ts.take K ++ [(⟨5, mkS [], t.p⟩ : Tok)]) K = ⟨5, mkS [], t.p⟩ := by
    unfold tkA
    rw [List.getD_eq_getElem?_getD, List.getElem?_append_right (by simp; omega)]
    simp [Nat.min_eq_left (Nat.le_of_lt hlt)]
  cases y with
  | ok o k =>
    simp only [inO, plO] at h3 hge
    obtain rfl : k = K := by omega
    left
    simp only [resF, hend, if_true]
    exact ⟨_, rfl⟩
  | bad k e =>
    simp only [inO, plO] at h3 hge
    obtain rfl : k = K := by omega
    right
    simp only [resF, hend]
    exact ⟨_, rfl, by omega⟩
theorem first_b {l z : List UInt8} {ts us : List Tok} {q q2 n p : Nat} {e : Int} {x : Ot} {K : Nat} {t : Tok} (hl : l.length ≤ 8000) (hz8 : z.length ≤ 8000) (hX : LexL 0 l ts q 0) (hx : run true ts n (.bin 0) 0 0 = some x) (hr : resF ts x = .bad p e) (hK : plO x = K) (ht : ts[K]? = some t) (h5 : t.k ≠ 5) (hZ : LexL 0 z us q2 0) :
    RdF true (l.take (t.p + t.t.size) ++ 32 :: z) (.bad p e) := by
  have hX' := lex_cut2 hX rfl K t ht h5
  rw [Nat.sub_zero] at hX'
  have hlt := (List.getElem?_eq_some_iff.1 ht).1
  have hZ2 := lex_shift hZ (0 + (l.take (t.p + t.t.size)).length + 1)
  rw [if_pos rfl] at hZ2
  rw [show 0 + (0 + (l.take (t.p + t.t.size)).length + 1) = 0 + (l.take (t.p + t.t.size)).length + 1 by omega] at hZ2
  have hB := lex_both hX' (b := 32) (by decide) z rfl hZ2
  obtain ⟨vs, hvs⟩ : ∃ vs, vs = us.map (Tok.move (0 + (l.take (t.p + t.t.size)).length + 1)) := ⟨_, rfl⟩
  rw [← hvs, List.dropLast_concat] at hB
  have hl' : (l.take (t.p + t.t.size) ++ 32 :: z).length ≤ 16384 := by simp; omega
  have hT := tsok_of_lex hl' hB
  obtain ⟨y, hy⟩ := run_total (metas := true) hT.en (10 * ((ts.take (K + 1) ++ vs).length - 1 - 0) + rank (.bin 0) + 1) (.bin 0) 0 0 (Nat.zero_le _) (by simp) (Nat.lt_succ_self _)
  have hag : ∀ j, j < K + 1 → tkA (ts.take (K + 1) ++ vs) j = tkA ts j := fun j hj => tkA_app ts vs (by omega) hj
  have hS := run_same (K := K + 1) (ts := ts) (us := ts.take (K + 1) ++ vs) (fun j hj => by rw [hag j hj]; exact ⟨rfl, rfl⟩) true (max n (10 * ((ts.take (K + 1) ++ vs).length - 1 - 0) + rank (.bin 0) + 1)) _ _ _ _ _ (run_le _ _ (Nat.le_max_left _ _) hx) (run_le _ _ (Nat.le_max_right _ _) hy)
  obtain rfl : x = y := by
    rcases hS with ⟨h, _⟩ | ⟨h, _⟩
    · exact h
    · omega
  have hres : resF (ts.take (K + 1) ++ vs) x = resF ts x := by
    cases x with
    | ok o k => simp only [plO] at hK; subst hK; simp only [resF, hag k (Nat.lt_succ_self _)]
    | bad k e => simp only [plO] at hK; subst hK; simp only [resF, hag k (Nat.lt_succ_self _)]
  rw [← hr, ← hres]
  exact .read hB hy
end Go.Proofs.YtdobflpbkfkmgaaDoor
