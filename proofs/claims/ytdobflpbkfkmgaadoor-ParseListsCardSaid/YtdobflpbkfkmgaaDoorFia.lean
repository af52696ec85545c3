/- ParseFirst: the plain law: what is read of two lists of tokens that agree up to a place; texts that are cut at a token. No program in sight. -/
import Derived.Test.YtdobflpbkfkmgaaDoorMps
namespace Go.Proofs.YtdobflpbkfkmgaaDoor
open Go Go.RowKit Go.FR
set_option linter.unusedVariables false
set_option linter.unusedSimpArgs false
set_option linter.unusedSectionVars false
/-- The place behind what was read, or of the error. -/
def plO : Ot → Nat
  | .ok _ k => k
  | .bad k _ => k
theorem metaP_ge (m : Bool) (ts : List Tok) (k : Nat) : k ≤ plO (metaP m ts k) := by
  unfold metaP
  split <;> (try split) <;> (try split) <;> (try split) <;> (try split) <;> (try split) <;> (simp only [plO]; omega)
theorem thenO_ge {k : Nat} {r : Option Ot} {f : Ob → Nat → Option Ot} {x : Ot} (h : thenO r f = some x) (hr : ∀ y, r = some y → k ≤ plO y) (hf : ∀ o k1, k ≤ k1 → f o k1 = some x → k ≤ plO x) : k ≤ plO x := by
  rcases thenO_some h with ⟨o, k1, h1, h2⟩ | ⟨k1, e, h1, rfl⟩
  · exact hf o k1 (hr _ h1) h2
  · exact hr _ h1
theorem run_ge (m : Bool) (ts : List Tok) : ∀ (n : Nat) (g : Gl) (k s : Nat) (x : Ot), run m ts n g k s = some x → k ≤ plO x
  | 0, g, k, s, x, h => by cases h
  | n + 1, g, k, s, x, h => by
    have ih := run_ge m ts n
    cases g with
    | bin i =>
      unfold run at h
      split at h
      · refine thenO_ge h (fun y hy => ih _ _ _ _ hy) fun o k1 hk h => ?_
        split at h
        · split at h
          · refine thenO_ge h (fun y hy => Nat.le_trans (by omega) (ih _ _ _ _ hy)) fun o k2 hk2 h => ?_
            cases h; exact hk2
          · cases h; exact hk
        · exact Nat.le_trans hk (ih _ _ _ _ h)
      · exact ih _ _ _ _ h
    | loop i f =>
      unfold run at h
      split at h
      · refine thenO_ge h (fun y hy => Nat.le_trans (by omega) (ih _ _ _ _ hy)) fun o k1 hk h => ?_
        exact Nat.le_trans hk (ih _ _ _ _ h)
      · cases h; exact Nat.le_refl _
    | un =>
      unfold run at h
      split at h
      · cases h; exact Nat.le_refl _
      · split at h
        · exact ih _ _ _ _ h
        · split at h
          · split at h
            · refine thenO_ge h (fun y hy => Nat.le_trans (by omega) (ih _ _ _ _ hy)) fun o k1 hk h => ?_
              cases h; exact hk
            · cases h; exact Nat.le_succ _
          · refine thenO_ge h (fun y hy => Nat.le_trans (by omega) (ih _ _ _ _ hy)) fun o k1 hk h => ?_
            cases h; exact hk
    | basic =>
      unfold run at h
      split at h
      · refine thenO_ge h (fun y hy => Nat.le_trans (by omega) (ih _ _ _ _ hy)) fun o k1 hk h => ?_
        split at h <;> cases h
        · exact Nat.le_succ_of_le hk
        · exact hk
      · split at h
        · cases h; exact Nat.le_succ _
        · split at h
          · cases h; exact metaP_ge m ts k
          · split at h
            · refine thenO_ge h (fun y hy => Nat.le_trans (by omega) (ih _ _ _ _ hy)) fun o k1 hk h => ?_
              cases h; exact hk
            · cases h; exact Nat.le_refl _
    | args =>
      unfold run at h
      split at h
      · refine thenO_ge h (fun y hy => Nat.le_trans (by omega) (ih _ _ _ _ hy)) fun o k1 hk h => ?_
        split at h <;> cases h
        · exact Nat.le_succ_of_le hk
        · exact hk
      · cases h; exact Nat.le_refl _
    | list acc =>
      unfold run at h
      refine thenO_ge h (fun y hy => ih _ _ _ _ hy) fun o k1 hk h => ?_
      split at h
      · exact Nat.le_trans (by omega) (ih _ _ _ _ h)
      · cases h; exact hk
    | term =>
      unfold run at h
      split at h
      · cases h; exact Nat.le_refl _
      · split at h
        · split at h <;> cases h
          · exact Nat.le_succ _
          · exact Nat.le_refl _
        · split at h
          · cases h; exact Nat.le_succ _
          · split at h
            · refine thenO_ge h (fun y hy => Nat.le_trans (by omega) (ih _ _ _ _ hy)) fun o k1 hk h => ?_
              cases h; exact hk
            · cases h; exact Nat.le_refl _
/-- Two lists of tokens agree below a place. -/
def Agr (K : Nat) (ts us : List Tok) : Prop := ∀ j, j < K → (tkA ts j).k = (tkA us j).k ∧ (tkA ts j).t = (tkA us j).t
theorem Agr.txt {K : Nat} {ts us : List Tok} (hA : Agr K ts us) {k : Nat} (h : k < K) : txt us k = txt ts k := by unfold _root_.Go.Proofs.YtdobflpbkfkmgaaDoor.txt; rw [(hA k h).2]
theorem Agr.kd {K : Nat} {ts us : List Tok} (hA : Agr K ts us) {k : Nat} (h : k < K) : (tkA us k).k = (tkA ts k).k := ((hA k h).1).symm
theorem Agr.tx {K : Nat} {ts us : List Tok} (hA : Agr K ts us) {k : Nat} (h : k < K) : (tkA us k).t = (tkA ts k).t := ((hA k h).2).symm
theorem Agr.var {K : Nat} {ts us : List Tok} (hA : Agr K ts us) {k : Nat} (h : k < K) : isVar us k = isVar ts k := by unfold isVar; rw [hA.kd h, hA.tx h]
theorem Agr.fn {K : Nat} {ts us : List Tok} (hA : Agr K ts us) {k : Nat} (h : k < K) : isFun us k = isFun ts k := by unfold isFun; rw [hA.kd h, hA.tx h]
theorem Agr.pre {K : Nat} {ts us : List Tok} (hA : Agr K ts us) {k : Nat} (h : k < K) : isPre us k = isPre ts k := by unfold isPre; rw [hA.kd h, hA.tx h]
theorem Agr.fm {K : Nat} {ts us : List Tok} (hA : Agr K ts us) {k : Nat} (h : k < K) (m : Bool) : isFM m us k = isFM m ts k := by unfold isFM; rw [hA.kd h, hA.tx h]
theorem Agr.tm {K : Nat} {ts us : List Tok} (hA : Agr K ts us) {k : Nat} (h : k < K) (m : Bool) : isTM m us k = isTM m ts k := by unfold isTM; rw [hA.kd h, hA.tx h]
/-- Both answers are the same, ahead of a place; or both lie behind it. -/
def Same2 (K : Nat) (x y : Ot) : Prop := (x = y ∧ plO x < K) ∨ (K ≤ plO x ∧ K ≤ plO y)
theorem thenO_same {K : Nat} {r r' : Option Ot} {f f' : Ob → Nat → Option Ot} {x x' : Ot} (h : thenO r f = some x) (h' : thenO r' f' = some x') (hr : ∀ y y', r = some y → r' = some y' → Same2 K y y')
    (hg : ∀ o k1, f o k1 = some x → k1 ≤ plO x) (hg' : ∀ o k1, f' o k1 = some x' → k1 ≤ plO x') (hf : ∀ o k1, k1 < K → f o k1 = some x → f' o k1 = some x' → Same2 K x x') : Same2 K x x' := by
  rcases thenO_some h with ⟨o, k1, h1, h2⟩ | ⟨k1, e, h1, rfl⟩
  · rcases thenO_some h' with ⟨o', k1', h1', h2'⟩ | ⟨k1', e', h1', rfl⟩
    · rcases hr _ _ h1 h1' with ⟨e, hk⟩ | ⟨a, b⟩
      · cases e; exact hf o k1 hk h2 h2'
      · exact .inr ⟨Nat.le_trans a (hg _ _ h2), Nat.le_trans b (hg' _ _ h2')⟩
    · rcases hr _ _ h1 h1' with ⟨e, hk⟩ | ⟨a, b⟩
      · cases e
      · exact .inr ⟨Nat.le_trans a (hg _ _ h2), b⟩
  · rcases thenO_some h' with ⟨o', k1', h1', h2'⟩ | ⟨k1', e', h1', rfl⟩
    · rcases hr _ _ h1 h1' with ⟨e, hk⟩ | ⟨a, b⟩
      · cases e
      · exact .inr ⟨a, Nat.le_trans b (hg' _ _ h2')⟩
    · exact hr _ _ h1 h1'
theorem metaP_same {K : Nat} {ts us : List Tok} (hA : Agr K ts us) (m : Bool) (k : Nat) : Same2 K (metaP m ts k) (metaP m us k) := by
  by_cases h0 : k < K
  case neg => exact .inr ⟨Nat.le_trans (by omega) (metaP_ge m ts k), Nat.le_trans (by omega) (metaP_ge m us k)⟩
  have e0 := hA.fm h0 m
  by_cases a0 : isFM m ts k = true
  case neg =>
    have b0 : ¬ isFM m us k = true := by rw [e0]; exact a0
    left
    simp only [metaP, if_neg a0, if_neg b0, plO]; exact ⟨trivial, h0⟩
  have b0 : isFM m us k = true := by rw [e0]; exact a0
  by_cases h1 : k + 1 < K
  case neg =>
    right
    simp only [metaP, if_pos a0, if_pos b0]
    constructor <;> (split <;> (try split) <;> (try split) <;> (try split) <;> (try split) <;> (simp only [plO]; omega))
  have e1 := hA.txt h1
  by_cases a1 : _root_.Go.Proofs.YtdobflpbkfkmgaaDoor.txt ts (k + 1) = [91]
  case neg =>
    have b1 : ¬ _root_.Go.Proofs.YtdobflpbkfkmgaaDoor.txt us (k + 1) = [91] := by rw [e1]; exact a1
    left
    simp only [metaP, if_pos a0, if_pos b0, if_neg a1, if_neg b1, plO, hA.tx h0]; exact ⟨trivial, h1⟩
  have b1 : _root_.Go.Proofs.YtdobflpbkfkmgaaDoor.txt us (k + 1) = [91] := by rw [e1]; exact a1
  by_cases h2 : k + 2 < K
  case neg =>
    right
    simp only [metaP, if_pos a0, if_pos b0, if_pos a1, if_pos b1]
    constructor <;> (split <;> (try split) <;> (try split) <;> (try split) <;> (simp only [plO]; omega))
  have e2 := hA.tm h2 m
  by_cases a2 : isTM m ts (k + 2) = true
  case neg =>
    have b2 : ¬ isTM m us (k + 2) = true := by rw [e2]; exact a2
    left
    simp only [metaP, if_pos a0, if_pos b0, if_pos a1, if_pos b1, if_neg a2, if_neg b2, plO]; exact ⟨trivial, h2⟩
  have b2 : isTM m us (k + 2) = true := by rw [e2]; exact a2
  by_cases h3 : k + 3 < K
  case neg =>
    right
    simp only [metaP, if_pos a0, if_pos b0, if_pos a1, if_pos b1, if_pos a2, if_pos b2]
    constructor <;> (split <;> (try split) <;> (try split) <;> (simp only [plO]; omega))
  have e3 := hA.txt h3
  by_cases a3 : _root_.Go.Proofs.YtdobflpbkfkmgaaDoor.txt ts (k + 3) = [47]
  case neg =>
    have b3 : ¬ _root_.Go.Proofs.YtdobflpbkfkmgaaDoor.txt us (k + 3) = [47] := by rw [e3]; exact a3
    left
    simp only [metaP, if_pos a0, if_pos b0, if_pos a1, if_pos b1, if_pos a2, if_pos b2, if_neg a3, if_neg b3, plO]; exact ⟨trivial, h3⟩
  have b3 : _root_.Go.Proofs.YtdobflpbkfkmgaaDoor.txt us (k + 3) = [47] := by rw [e3]; exact a3
  by_cases h4 : k + 4 < K
  case neg =>
    right
    simp only [metaP, if_pos a0, if_pos b0, if_pos a1, if_pos b1, if_pos a2, if_pos b2, if_pos a3, if_pos b3]
    constructor <;> (split <;> (try split) <;> (simp only [plO]; omega))
  have e4 := hA.var h4
  by_cases a4 : isVar ts (k + 4) = true
  case neg =>
    have b4 : ¬ isVar us (k + 4) = true := by rw [e4]; exact a4
    left
    simp only [metaP, if_pos a0, if_pos b0, if_pos a1, if_pos b1, if_pos a2, if_pos b2, if_pos a3, if_pos b3, if_neg a4, if_neg b4, plO]; exact ⟨trivial, h4⟩
  have b4 : isVar us (k + 4) = true := by rw [e4]; exact a4
  by_cases h5 : k + 5 < K
  case neg =>
    right
    simp only [metaP, if_pos a0, if_pos b0, if_pos a1, if_pos b1, if_pos a2, if_pos b2, if_pos a3, if_pos b3, if_pos a4, if_pos b4]
    constructor <;> (split <;> (simp only [plO]; omega))
  have e5 := hA.txt h5
  by_cases a5 : _root_.Go.Proofs.YtdobflpbkfkmgaaDoor.txt ts (k + 5) = [93]
  case neg =>
    have b5 : ¬ _root_.Go.Proofs.YtdobflpbkfkmgaaDoor.txt us (k + 5) = [93] := by rw [e5]; exact a5
    left
    simp only [metaP, if_pos a0, if_pos b0, if_pos a1, if_pos b1, if_pos a2, if_pos b2, if_pos a3, if_pos b3, if_pos a4, if_pos b4, if_neg a5, if_neg b5, plO]; exact ⟨trivial, h5⟩
  have b5 : _root_.Go.Proofs.YtdobflpbkfkmgaaDoor.txt us (k + 5) = [93] := by rw [e5]; exact a5
  simp only [metaP, if_pos a0, if_pos b0, if_pos a1, if_pos b1, if_pos a2, if_pos b2, if_pos a3, if_pos b3, if_pos a4, if_pos b4, if_pos a5, if_pos b5, hA.tx h0, hA.tx h2, hA.tx h4]
  by_cases h6 : k + 6 < K
  · exact .inl ⟨rfl, h6⟩
  · exact .inr ⟨by simp only [plO]; omega, by simp only [plO]; omega⟩
theorem same_ok {K : Nat} (o : Ob) (k : Nat) : Same2 K (.ok o k) (.ok o k) := by
  by_cases h : k < K
  · exact .inl ⟨rfl, h⟩
  · exact .inr ⟨by simp only [plO]; omega, by simp only [plO]; omega⟩
theorem same_bad {K : Nat} (k e : Nat) : Same2 K (.bad k e) (.bad k e) := by
  by_cases h : k < K
  · exact .inl ⟨rfl, h⟩
  · exact .inr ⟨by simp only [plO]; omega, by simp only [plO]; omega⟩
theorem run_same {K : Nat} {ts us : List Tok} (hA : Agr K ts us) (m : Bool) : ∀ (n : Nat) (g : Gl) (k s : Nat) (x y : Ot), run m ts n g k s = some x → run m us n g k s = some y → Same2 K x y
  | 0, g, k, s, x, y, h, h' => by cases h
  | n + 1, g, k, s, x, y, h, h' => by
    have ih := run_same hA m n
    have ge := run_ge m ts n
    have ge' := run_ge m us n
    by_cases hk0 : k < K
    case neg => exact .inr ⟨Nat.le_trans (by omega) (run_ge m ts _ _ _ _ _ h), Nat.le_trans (by omega) (run_ge m us _ _ _ _ _ h')⟩
    have et := hA.txt hk0
    cases g with
    | bin i =>
      unfold run at h h'
      by_cases hi : i < 5
      · rw [if_pos hi] at h h'
        have hgg : ∀ (vs : List Tok) (z : Ot) (ge : ∀ (g : Gl) (k s : Nat) (x : Ot), run m vs n g k s = some x → k ≤ plO x) (o : Ob) (k1 : Nat), (if lvR i = true then if _root_.Go.Proofs.YtdobflpbkfkmgaaDoor.txt vs k1 = lvS i then thenO (run m vs n (.bin i) (k1 + 1) (s + 1)) fun o2 k2 => some (.ok (.fm (Op2 (lvO i) (fmO o) (fmO o2))) k2) else some (.ok (.fm (fmO o)) k1) else run m vs n (.loop i (fmO o)) k1 s) = some z → k1 ≤ plO z := fun vs z ge o k1 e => by
          split at e
          · split at e
            · refine thenO_ge e (fun y hy => Nat.le_trans (by omega) (ge _ _ _ _ hy)) fun o k2 hk2 h => ?_
              cases h; exact hk2
            · cases e; exact Nat.le_refl _
          · exact ge _ _ _ _ e
        refine thenO_same h h' (fun a b ha hb => ih _ _ _ _ _ ha hb) (hgg ts x ge) (hgg us y ge') fun o k1 hk1 e e' => ?_
        rw [hA.txt hk1] at e'
        by_cases hr : lvR i = true
        · rw [if_pos hr] at e e'
          by_cases ht : _root_.Go.Proofs.YtdobflpbkfkmgaaDoor.txt ts k1 = lvS i
          · rw [if_pos ht] at e e'
            refine thenO_same e e' (fun a b ha hb => ih _ _ _ _ _ ha hb) (fun o k h => by cases h; exact Nat.le_refl _) (fun o k h => by cases h; exact Nat.le_refl _) fun o2 k2 hk2 e e' => ?_
            cases e; cases e'; exact same_ok _ _
          · rw [if_neg ht] at e e'; cases e; cases e'; exact same_ok _ _
        · rw [if_neg hr] at e e'; exact ih _ _ _ _ _ e e'
      · rw [if_neg hi] at h h'; exact ih _ _ _ _ _ h h'
    | loop i f =>
      unfold run at h h'
      rw [et] at h'
      by_cases ht : _root_.Go.Proofs.YtdobflpbkfkmgaaDoor.txt ts k = lvS i
      · rw [if_pos ht] at h h'
        refine thenO_same h h' (fun a b ha hb => ih _ _ _ _ _ ha hb) (fun o k1 e => ge _ _ _ _ e) (fun o k1 e => ge' _ _ _ _ e) fun o k1 hk1 e e' => ih _ _ _ _ _ e e'
      · rw [if_neg ht] at h h'; cases h; cases h'; exact same_ok _ _
    | un =>
      unfold run at h h'
      rw [et] at h'
      by_cases hs : 120 < s
      · rw [if_pos hs] at h h'; cases h; cases h'; exact same_bad _ _
      rw [if_neg hs] at h h'
      cases hu : unO (_root_.Go.Proofs.YtdobflpbkfkmgaaDoor.txt ts k) with
      | none => rw [hu] at h h'; exact ih _ _ _ _ _ h h'
      | some op =>
        rw [hu] at h h'
        simp only at h h'
        by_cases ho : op = 8 ∨ op = 9
        · rw [if_pos ho] at h h'
          by_cases h1 : k + 1 < K
          · rw [hA.var h1, hA.tx h1] at h'
            by_cases hv : isVar ts (k + 1) = true
            · rw [if_pos hv] at h h'
              refine thenO_same h h' (fun a b ha hb => ih _ _ _ _ _ ha hb) (fun o k h => by cases h; exact Nat.le_refl _) (fun o k h => by cases h; exact Nat.le_refl _) fun o2 k2 hk2 e e' => ?_
              cases e; cases e'; exact same_ok _ _
            · rw [if_neg hv] at h h'; cases h; cases h'; exact same_bad _ _
          · have hk1 : ∀ (vs : List Tok) (z : Ot) (ge : ∀ (g : Gl) (k s : Nat) (x : Ot), run m vs n g k s = some x → k ≤ plO x), (if isVar vs (k + 1) = true then thenO (run m vs n .un (k + 2) (s + 1)) fun o k2 => some (.ok (.fm (.mk op (tkA vs (k + 1)).t [] [fmO o])) k2) else some (.bad (k + 1) 50)) = some z → K ≤ plO z := fun vs z ge e => by
              split at e
              · refine Nat.le_trans (show K ≤ k + 2 by omega) (thenO_ge e (fun y hy => ge _ _ _ _ hy) fun o k1 hk h => ?_)
                cases h; exact hk
              · cases e; simp only [plO]; omega
            exact .inr ⟨hk1 ts x ge h, hk1 us y ge' h'⟩
        · rw [if_neg ho] at h h'
          refine thenO_same h h' (fun a b ha hb => ih _ _ _ _ _ ha hb) (fun o k h => by cases h; exact Nat.le_refl _) (fun o k h => by cases h; exact Nat.le_refl _) fun o2 k2 hk2 e e' => ?_
          cases e; cases e'; exact same_ok _ _
    | basic =>
      unfold run at h h'
      rw [et, hA.kd hk0, hA.pre hk0, hA.tx hk0] at h'
      by_cases h1 : _root_.Go.Proofs.YtdobflpbkfkmgaaDoor.txt ts k = [40]
      · rw [if_pos h1] at h h'
        have hgg : ∀ (vs : List Tok) (z : Ot) (o : Ob) (k2 : Nat), (if _root_.Go.Proofs.YtdobflpbkfkmgaaDoor.txt vs k2 = [41] then some (Ot.ok (.fm (fmO o)) (k2 + 1)) else some (.bad k2 50)) = some z → k2 ≤ plO z := fun vs z o k2 e => by
          split at e <;> cases e
          · exact Nat.le_succ _
          · exact Nat.le_refl _
        refine thenO_same h h' (fun a b ha hb => ih _ _ _ _ _ ha hb) (hgg ts x) (hgg us y) fun o2 k2 hk2 e e' => ?_
        rw [hA.txt hk2] at e'
        by_cases ht : _root_.Go.Proofs.YtdobflpbkfkmgaaDoor.txt ts k2 = [41]
        · rw [if_pos ht] at e e'; cases e; cases e'; exact same_ok _ _
        · rw [if_neg ht] at e e'; cases e; cases e'; exact same_bad _ _
      rw [if_neg h1] at h h'
      by_cases h2 : _root_.Go.Proofs.YtdobflpbkfkmgaaDoor.txt ts k = [102, 97, 108, 115, 101]
      · rw [if_pos h2] at h h'; cases h; cases h'; exact same_ok _ _
      rw [if_neg h2] at h h'
      by_cases h3 : (tkA ts k).k = 2
      · rw [if_pos h3] at h h'; cases h; cases h'; exact metaP_same hA m k
      rw [if_neg h3] at h h'
      by_cases h4 : isPre ts k = true
      · rw [if_pos h4] at h h'
        refine thenO_same h h' (fun a b ha hb => ih _ _ _ _ _ ha hb) (fun o k h => by cases h; exact Nat.le_refl _) (fun o k h => by cases h; exact Nat.le_refl _) fun o2 k2 hk2 e e' => ?_
        cases e; cases e'; exact same_ok _ _
      · rw [if_neg h4] at h h'; cases h; cases h'; exact same_bad _ _
    | args =>
      unfold run at h h'
      rw [et] at h'
      by_cases h1 : _root_.Go.Proofs.YtdobflpbkfkmgaaDoor.txt ts k = [40]
      · rw [if_pos h1] at h h'
        have hgg : ∀ (vs : List Tok) (z : Ot) (o : Ob) (k2 : Nat), (if _root_.Go.Proofs.YtdobflpbkfkmgaaDoor.txt vs k2 = [41] then some (Ot.ok (.ts (tsO o)) (k2 + 1)) else some (.bad k2 50)) = some z → k2 ≤ plO z := fun vs z o k2 e => by
          split at e <;> cases e
          · exact Nat.le_succ _
          · exact Nat.le_refl _
        refine thenO_same h h' (fun a b ha hb => ih _ _ _ _ _ ha hb) (hgg ts x) (hgg us y) fun o2 k2 hk2 e e' => ?_
        rw [hA.txt hk2] at e'
        by_cases ht : _root_.Go.Proofs.YtdobflpbkfkmgaaDoor.txt ts k2 = [41]
        · rw [if_pos ht] at e e'; cases e; cases e'; exact same_ok _ _
        · rw [if_neg ht] at e e'; cases e; cases e'; exact same_bad _ _
      · rw [if_neg h1] at h h'; cases h; cases h'; exact same_ok _ _
    | list acc =>
      unfold run at h h'
      have hgg : ∀ (vs : List Tok) (z : Ot) (ge : ∀ (g : Gl) (k s : Nat) (x : Ot), run m vs n g k s = some x → k ≤ plO x) (o : Ob) (k2 : Nat), (if _root_.Go.Proofs.YtdobflpbkfkmgaaDoor.txt vs k2 = [44] then run m vs n (.list (acc ++ [tO o])) (k2 + 1) s else some (.ok (.ts (acc ++ [tO o])) k2)) = some z → k2 ≤ plO z := fun vs z ge o k2 e => by
        split at e
        · exact Nat.le_trans (by omega) (ge _ _ _ _ e)
        · cases e; exact Nat.le_refl _
      refine thenO_same h h' (fun a b ha hb => ih _ _ _ _ _ ha hb) (hgg ts x ge) (hgg us y ge') fun o2 k2 hk2 e e' => ?_
      rw [hA.txt hk2] at e'
      by_cases ht : _root_.Go.Proofs.YtdobflpbkfkmgaaDoor.txt ts k2 = [44]
      · rw [if_pos ht] at e e'; exact ih _ _ _ _ _ e e'
      · rw [if_neg ht] at e e'; cases e; cases e'; exact same_ok _ _
    | term =>
      unfold run at h h'
      rw [hA.kd hk0, hA.tm hk0, hA.var hk0, hA.fn hk0, hA.tx hk0] at h'
      by_cases hs : 120 < s
      · rw [if_pos hs] at h h'; cases h; cases h'; exact same_bad _ _
      rw [if_neg hs] at h h'
      by_cases h1 : (tkA ts k).k = 2
      · rw [if_pos h1] at h h'
        by_cases h2 : isTM m ts k = true
        · rw [if_pos h2] at h h'; cases h; cases h'; exact same_ok _ _
        · rw [if_neg h2] at h h'; cases h; cases h'; exact same_bad _ _
      rw [if_neg h1] at h h'
      by_cases h2 : isVar ts k = true
      · rw [if_pos h2] at h h'; cases h; cases h'; exact same_ok _ _
      rw [if_neg h2] at h h'
      by_cases h3 : isFun ts k = true
      · rw [if_pos h3] at h h'
        refine thenO_same h h' (fun a b ha hb => ih _ _ _ _ _ ha hb) (fun o k h => by cases h; exact Nat.le_refl _) (fun o k h => by cases h; exact Nat.le_refl _) fun o2 k2 hk2 e e' => ?_
        cases e; cases e'; exact same_ok _ _
      · rw [if_neg h3] at h h'; cases h; cases h'; exact same_bad _ _
end Go.Proofs.YtdobflpbkfkmgaaDoor
