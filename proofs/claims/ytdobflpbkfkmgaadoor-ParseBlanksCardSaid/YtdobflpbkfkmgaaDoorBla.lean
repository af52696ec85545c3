/- ParseBlanks: the plain law: what is read depends on the kinds and texts of tokens alone. -/
import Derived.Test.YtdobflpbkfkmgaaDoorFie
import Derived.Test.YtdobflpbkfkmgaaDoorJoi
namespace Go.Proofs.YtdobflpbkfkmgaaDoor
open Go.RowKit Go.HK Go.FR
set_option linter.unusedVariables false
set_option linter.unusedSimpArgs false
set_option linter.unusedSectionVars false
def Eqv (ts us : List Tok) : Prop := ∀ j, (tkA us j).k = (tkA ts j).k ∧ (tkA us j).t = (tkA ts j).t
theorem eqv_of {ts us : List Tok} (h : alike ts us) : Eqv ts us := by
  intro j
  have h1 := congrArg (fun l => l[j]?) h
  simp only [List.getElem?_map] at h1
  unfold tkA
  rw [List.getD_eq_getElem?_getD, List.getD_eq_getElem?_getD]
  cases ha : ts[j]? with
  | none =>
    rw [ha] at h1
    cases hb : us[j]? with
    | none => exact ⟨rfl, rfl⟩
    | some u => rw [hb] at h1; cases h1
  | some t =>
    rw [ha] at h1
    cases hb : us[j]? with
    | none => rw [hb] at h1; cases h1
    | some u =>
      rw [hb] at h1
      simp only [Option.map_some, Option.some.injEq, Prod.mk.injEq] at h1
      exact ⟨h1.1.symm, h1.2.symm⟩
theorem run_eqv {ts us : List Tok} (h : Eqv ts us) (m : Bool) : ∀ n, run m us n = run m ts n
  | 0 => rfl
  | n + 1 => by
    have ih := run_eqv h m n
    have e1 : ∀ k, txt us k = txt ts k := fun k => by unfold txt; rw [(h k).2]
    have e2 : ∀ k, isVar us k = isVar ts k := fun k => by unfold isVar; rw [(h k).1, (h k).2]
    have e3 : ∀ k, isFun us k = isFun ts k := fun k => by unfold isFun; rw [(h k).1, (h k).2]
    have e4 : ∀ k, isPre us k = isPre ts k := fun k => by unfold isPre; rw [(h k).1, (h k).2]
    have e5 : ∀ k, isFM m us k = isFM m ts k := fun k => by unfold isFM; rw [(h k).1, (h k).2]
    have e6 : ∀ k, isTM m us k = isTM m ts k := fun k => by unfold isTM; rw [(h k).1, (h k).2]
    have e7 : ∀ k, metaP m us k = metaP m ts k := fun k => by simp only [metaP, e1, e2, e5, e6, (h _).2]
    funext g k s
    cases g <;> (unfold run; simp only [ih, e1, e2, e3, e4, e6, e7, (h _).1, (h _).2])
theorem joinT_tk (ts : List Tok) : joinT (ts.map Tok.tk) = joinL ts := by
  unfold joinT joinL
  congr 1
  unfold textsT textsL
  induction ts with
  | nil => rfl
  | cons t r ih =>
    simp only [List.map_cons, List.filter_cons]
    by_cases hk : t.k = 5
    · simp [Tok.tk, hk]; simpa using ih
    · simp [Tok.tk, hk, bys]; simpa [bys] using ih
theorem rowT_of {W : World} {g : Nat} {ts : List Tok} (h : TK W g ts) (hg : g < W.heap.size) : RowT W g 0 (ts.map Tok.tk) where
  c0 := fun i x hx => by
    rw [List.getElem?_map] at hx
    obtain ⟨t, ht, rfl⟩ := Option.map_eq_some_iff.1 hx
    rw [Nat.zero_add]; exact h.c0 i t ht
  c1 := fun i x hx => by
    rw [List.getElem?_map] at hx
    obtain ⟨t, ht, rfl⟩ := Option.map_eq_some_iff.1 hx
    rw [Nat.zero_add]; exact h.c1 i t ht
  c2 := fun i x hx => by
    rw [List.getElem?_map] at hx
    obtain ⟨t, ht, rfl⟩ := Option.map_eq_some_iff.1 hx
    rw [Nat.zero_add]; exact h.c2 i t ht
  lt := hg
theorem join_tk (W : World) (g c : Nat) (ts : List Tok) (h : TK W g ts) (hg : g < W.heap.size) (hn : ts.length ≤ 1000000) (hl : (joinL ts).length ≤ 100000000) : Calls Tryd.prog 27 #[.slice (some ⟨g, 0, none⟩) ts.length c] W fun e W' => e = .returned (.string (mkS (joinL ts))) ∧ Below W.heap.size W W' := by
  have := join_row W g 0 c (ts.map Tok.tk) (rowT_of h hg) (by rw [List.length_map]; exact hn) (by rw [joinT_tk]; exact hl)
  rw [joinT_tk, List.length_map] at this
  exact this
/-- What a text's tokens, joined, are read as. -/
theorem blank_read {l : List UInt8} {ts : List Tok} {p n : Nat} {x : Ot} (hX : LexL 0 l ts p 0) (hx : run true ts n (.bin 0) 0 0 = some x) : ∃ us, LexL 0 (joinL ts) us 0 0 ∧ us.length = ts.length ∧ RdF true (joinL ts) (resF us x) ∧
    ((∃ f, resF ts x = .ok f ∧ resF us x = .ok f) ∨ ∃ (K : Nat) (t u : Tok) (e : Int), ts[K]? = some t ∧ us[K]? = some u ∧ resF ts x = .bad t.p e ∧ resF us x = .bad u.p e ∧ (e = 50 ∨ e = 51)) := by
  obtain ⟨us, hU, ha⟩ := lex_join hX rfl 0
  have hlen : us.length = ts.length := by have := congrArg List.length ha; simpa using this.symm
  have he := eqv_of ha
  refine ⟨us, hU, hlen, .read hU (by rw [run_eqv he]; exact hx), ?_⟩
  obtain ⟨z, hE⟩ : ∃ z, Ends ts z := by
    obtain ⟨init, hi, hI⟩ := lex_end hX rfl
    refine ⟨init.length, by rw [hi]; simp, ?_, ?_⟩
    · have : ts[init.length]? = some ⟨5, mkS [], 0 + l.length⟩ := by rw [hi, List.getElem?_append_right (Nat.le_refl _)]; simp
      rw [tkA_at this]; exact ⟨rfl, bys_mk []⟩
    · intro k hk
      have : ts[k]? = some init[k] := by rw [hi, List.getElem?_append_left hk, List.getElem?_eq_getElem hk]
      obtain ⟨a, b, c⟩ := hI _ (List.getElem_mem hk)
      rw [tkA_at this]
      refine ⟨fun e => ?_, a, b⟩
      have h2 : (bys (init[k]).t).length = (init[k]).t.size := rfl
      rw [e] at h2; simp at h2; omega
  have h3 := run_iz hE n _ _ _ _ (Nat.zero_le _) hx
  have hget : ∀ (vs : List Tok) (k : Nat), vs.length = ts.length → k ≤ z → vs[k]? = some (tkA vs k) := fun vs k hv hk => by
    have : k < vs.length := by rw [hv, hE.len]; omega
    unfold tkA
    rw [List.getD_eq_getElem?_getD, List.getElem?_eq_getElem this]; rfl
  cases x with
  | ok o k =>
    simp only [inO] at h3
    by_cases h5 : (tkA ts k).k = 5
    · left
      exact ⟨fmO o, by simp only [resF, if_pos h5], by simp only [resF, (he k).1, if_pos h5]⟩
    · right
      exact ⟨k, _, _, 50, hget ts k rfl h3.2.1, hget us k hlen h3.2.1, by simp only [resF, if_neg h5], by simp only [resF, (he k).1, if_neg h5], .inl rfl⟩
  | bad k e =>
    simp only [inO] at h3
    right
    exact ⟨k, _, _, e, hget ts k rfl h3.2.1, hget us k hlen h3.2.1, rfl, rfl, by omega⟩
end Go.Proofs.YtdobflpbkfkmgaaDoor
