/- Frame: the plain law of FrameCloser. -/
import Derived.Test.YtflmllablfjfeaaDoorFri
namespace Go.Proofs.YtflmllablfjfeaaDoor
open Go.RowKit Go.HK Go.FR
set_option linter.unusedVariables false
set_option linter.unusedSimpArgs false
set_option linter.unusedSectionVars false
section
variable {c : Nat} {rl out ag gr : List Nat}
theorem closer_again (h : CloP c rl out) (k : CloP c out ag) : ag = out := k.unique (CloP.of_fits h.i.ok h.fits)
theorem closer_fits (h : CloP c rl out) (hc : c ≤ 7) : fitsB c out = true := by
  unfold fitsB
  rw [(lackAll_iff h.i.ok).2 h.fits, decide_eq_true hc]; rfl
theorem closer_stay (hr : FrOk rl) (h : CloP c rl out) (hc : c ≤ 7) : fitsB c rl = decide (rl = out) := by
  by_cases e : rl = out
  · subst e
    rw [closer_fits h hc, decide_eq_true rfl]
  · rw [decide_eq_false e]
    unfold fitsB
    rcases hl : lackAll c rl rl.length with _ | _
    · simp
    · exact absurd ((CloP.of_fits hr ((lackAll_iff hr).1 hl)).unique h) e
theorem closer_sub (hr : FrOk rl) (h : CloP c rl out) (w : Nat) : andn (rl.getD w 0) (out.getD w 0) = 0 :=
  (andn_zero (hr.lt32 w) (h.i.ok.lt32 w)).2 fun u hu => h.i.sub w u hu
/-- Two relations, one over the other. -/
def orR (a b : List Nat) : List Nat := List.zipWith (fun x y => x ||| y) a b
theorem orR_len {a b : List Nat} (h : a.length = b.length) : (orR a b).length = b.length := by unfold orR; rw [List.length_zipWith]; omega
theorem orR_get {a b : List Nat} {i x y : Nat} (hx : a[i]? = some x) (hy : b[i]? = some y) : (orR a b)[i]? = some (x ||| y) := by
  unfold orR
  rw [List.getElem?_zipWith, hx, hy]
theorem orR_ok {a b : List Nat} (ha : FrOk a) (hb : FrOk b) (h : a.length = b.length) : FrOk (orR a b) := ⟨by rw [orR_len h]; exact hb.len, fun w s hs => by
  have hw := (List.getElem?_eq_some_iff.1 hs).1
  rw [orR_len h] at hw
  have hx := List.getElem?_eq_getElem (l := a) (i := w) (by omega)
  have hy := List.getElem?_eq_getElem (l := b) (i := w) hw
  rw [orR_get hx hy] at hs
  cases hs
  rw [orR_len h]
  exact Nat.or_lt_two_pow (by rw [← h]; exact ha.lt w _ hx) (hb.lt w _ hy)⟩
theorem closer_great {ol : List Nat} (hr : FrOk rl) (ho : FrOk ol) (hl : ol.length = rl.length) (h : CloP c rl out) (k : CloP c (orR ol rl) gr) (w : Nat) : andn (out.getD w 0) (gr.getD w 0) = 0 := by
  have hlen : gr.length = rl.length := by rw [k.i.len, orR_len hl]
  refine (andn_zero (h.i.ok.lt32 w) (k.i.ok.lt32 w)).2 fun u hu => ?_
  refine h.i.least gr hlen k.i.ok k.fits (fun w u hu => ?_) w u hu
  refine k.i.sub w u ?_
  rcases e : rl[w]? with _ | y
  · rw [List.getD_eq_getElem?_getD, e] at hu; simp at hu
  · have hw := (List.getElem?_eq_some_iff.1 e).1
    have hx := List.getElem?_eq_getElem (l := ol) (i := w) (by omega)
    rw [List.getD_eq_getElem?_getD, orR_get hx e]
    rw [List.getD_eq_getElem?_getD, e] at hu
    simp only [Option.getD_some] at hu ⊢
    rw [Nat.testBit_or, hu, Bool.or_true]
end
end Go.Proofs.YtflmllablfjfeaaDoor
