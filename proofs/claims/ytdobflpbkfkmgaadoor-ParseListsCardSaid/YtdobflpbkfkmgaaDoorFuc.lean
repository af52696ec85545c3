/- The plain law of Full: its tokens are read back. No program in sight. -/
import Derived.Test.YtdobflpbkfkmgaaDoorFub
namespace Go.Proofs.YtdobflpbkfkmgaaDoor
open Go Go.RowKit Go.FR
set_option linter.unusedVariables false
set_option linter.unusedSimpArgs false
set_option linter.unusedSectionVars false
/-- These tokens stand from a place on. -/
def At (ts : List Tok) (k : Nat) (K : List (Int × ByteArray)) : Prop := ∀ (i : Nat) x, K[i]? = some x → (tkA ts (k + i)).k = x.1 ∧ (tkA ts (k + i)).t = x.2
theorem At.left {ts : List Tok} {k : Nat} {K M : List (Int × ByteArray)} (h : At ts k (K ++ M)) : At ts k K := fun i x hx => h i x (by rw [List.getElem?_append_left (List.getElem?_eq_some_iff.1 hx).1]; exact hx)
theorem At.right {ts : List Tok} {k : Nat} {K M : List (Int × ByteArray)} (h : At ts k (K ++ M)) : At ts (k + K.length) M := fun i x hx => by
  have := h (K.length + i) x (by rw [List.getElem?_append_right (by omega)]; simpa using hx)
  rwa [show k + (K.length + i) = k + K.length + i by omega] at this
theorem At.one {ts : List Tok} {k : Nat} {a : Int} {b : ByteArray} {M : List (Int × ByteArray)} (h : At ts k ([(a, b)] ++ M)) : (tkA ts k).k = a ∧ (tkA ts k).t = b ∧ At ts (k + 1) M :=
  ⟨(h 0 _ rfl).1, (h 0 _ rfl).2, h.right⟩
theorem At.sg {ts : List Tok} {k : Nat} {a : Int} {b : ByteArray} (h : At ts k [(a, b)]) : (tkA ts k).k = a ∧ (tkA ts k).t = b := ⟨(h 0 _ rfl).1, (h 0 _ rfl).2⟩
theorem txt_mk {ts : List Tok} {k : Nat} {g : List UInt8} (h : (tkA ts k).t = mkS g) : txt ts k = g := by unfold txt; rw [h, bys_mk]
theorem kind_name {s : ByteArray} (h : nameB s = true) : kindN s = 1 := by unfold kindN; rw [name_not_meta h]; rfl
theorem kind_meta {s : ByteArray} (h : metaB s = true) : kindN s = 2 := by unfold kindN; rw [if_pos h]
theorem var_not_fun {s : ByteArray} (h : checkB funB alnumB s = true) : checkB varB digitB s = false := by
  cases hv : checkB varB digitB s with
  | false => rfl
  | true =>
    simp only [checkB, funB, varB, Bool.and_eq_true, decide_eq_true_eq] at h hv
    omega
/-- A name's text is no sign, and no word. -/
theorem head_letter {s : ByteArray} (h : nameB s = true) : unO (bys s) = none ∧ bys s ≠ [40] ∧ bys s ≠ [102, 97, 108, 115, 101] := by
  obtain ⟨c, l, hb, hc, hl, hw⟩ := name_parts h
  have hws : bys s ∉ wordsD := by simpa [wordB] using hw
  simp only [wordsD, List.mem_cons, List.not_mem_nil, or_false, not_or] at hws
  refine ⟨?_, ?_, hws.2.2.1⟩
  · unfold unO
    rw [if_neg (by rw [hb]; rintro e; cases e; exact absurd hc (by decide)), if_neg (by rw [hb]; rintro e; cases e; exact absurd hc (by decide)), if_neg (by rw [hb]; rintro e; cases e; exact absurd hc (by decide)), if_neg hws.2.2.2.1, if_neg hws.2.2.2.2.1, if_neg hws.1, if_neg hws.2.1]
  · rw [hb]; rintro e; cases e; exact absurd hc (by decide)
theorem head_mark {s : ByteArray} (h : metaB s = true) : unO (bys s) = none ∧ bys s ≠ [40] ∧ bys s ≠ [102, 97, 108, 115, 101] := by
  obtain ⟨l, hb, _⟩ := meta_parts h
  rw [hb]
  refine ⟨?_, ?_, ?_⟩
  · unfold unO
    rw [if_neg, if_neg, if_neg, if_neg, if_neg, if_neg, if_neg] <;> (rintro e; cases e)
  · rintro e; cases e
  · rintro e; cases e
theorem lenR (t : Tm) (r : List Tm) : (toksT t ++ toksR r).length = (toksT t).length + (toksR r).length := List.length_append
def toksL : List Tm → List (Int × ByteArray)
  | [] => []
  | t :: r => toksT t ++ toksR r
section
variable {m : Bool} {ts : List Tok} {D : Dp}
mutual
theorem rd_T (hm : D.s = true → m = true) : ∀ (t : Tm) (d k s : Nat), goodT D d t = true → s + 2 * depthT t ≤ 122 → At ts k (toksT t) → txt ts (k + (toksT t).length) ≠ [40] → Rd m ts .term k s (.t t) (k + (toksT t).length)
  | .mk v nm args, d, k, s, h, hs, hA, hn => by
    simp only [goodT, Bool.and_eq_true, decide_eq_true_eq] at h
    simp only [depthT] at hs
    simp only [toksT] at hA hn ⊢
    obtain ⟨hk, ht, hA2⟩ := hA.one
    cases v with
    | true =>
      have h2 := h.2
      simp only [if_true, Bool.and_eq_true, Bool.or_eq_true, List.isEmpty_iff] at h2
      obtain ⟨rfl, h3⟩ := h2
      have e : (Ob.t (.mk true nm [])) = .t (Va (tkA ts k).t) := by rw [ht]; rfl
      rw [e]
      show Rd m ts .term k s (.t (Va (tkA ts k).t)) (k + 1)
      rcases h3 with h3 | h3
      · have hk1 : kindN nm = 1 := kind_name (by simp [nameB, h3])
        exact .tmV (by omega) (by rw [hk, hk1]; decide) (by simp [isVar, hk, hk1, ht, h3])
      · have hk2 : kindN nm = 2 := kind_meta (by simp [metaB, h3.2])
        have h4 := h3.2
        simp only [tmB, Bool.and_eq_true] at h4
        exact .tmM (by omega) (by rw [hk, hk2]) (by simp [isTM, hk, hk2, ht, hm h3.1, rest1, h4.2])
    | false =>
      have h2 := h.2
      simp only [Bool.false_eq_true, if_false, Bool.and_eq_true, decide_eq_true_eq] at h2
      have hk1 : kindN nm = 1 := kind_name (by simp [nameB, h2.1.2])
      have e : (Ob.t (.mk false nm args)) = .t (.mk false (tkA ts k).t (tsO (.ts args))) := by rw [ht]; rfl
      rw [e, List.length_append, ← Nat.add_assoc]
      rw [List.length_append, ← Nat.add_assoc] at hn
      refine .tmF (by omega) (by rw [hk, hk1]; decide) (by simp [isVar, ht, var_not_fun h2.1.2]) (by simp [isFun, hk, hk1, ht, h2.1.2]) (rd_A hm args (d + 1) (k + 1) s h2.2 (by omega) hA2 ?_)
      rintro rfl
      exact hn
theorem rd_A (hm : D.s = true → m = true) : ∀ (l : List Tm) (d k s : Nat), goodTs D d l = true → s + 1 + 2 * depthTs l ≤ 122 → At ts k (toksA l) → (l = [] → txt ts k ≠ [40]) → Rd m ts .args k s (.ts l) (k + (toksA l).length)
  | [], d, k, s, h, hs, hA, hn => .argN (hn rfl)
  | a :: r, d, k, s, h, hs, hA, hn => by
    simp only [toksA] at hA ⊢
    obtain ⟨hk, ht, hA2⟩ := hA.one
    obtain ⟨_, ht2⟩ := hA2.right.sg
    have hL := rd_L hm (a :: r) d (k + 1) (s + 1) [] h hs hA2.left (by simp) (txt_mk ht2)
    have := Rd.argY (s := s) (txt_mk ht) hL (txt_mk ht2)
    simp only [List.length_append, List.length_cons, List.length_nil, toksL] at this ⊢
    rw [show k + (0 + 1 + ((toksT a).length + (toksR r).length + (0 + 1))) = k + 1 + ((toksT a).length + (toksR r).length) + 1 by omega]
    exact this
theorem rd_L (hm : D.s = true → m = true) : ∀ (l : List Tm) (d k s : Nat) (acc : List Tm), goodTs D d l = true → s + 2 * depthTs l ≤ 122 → At ts k (toksL l) → l ≠ [] → txt ts (k + (toksL l).length) = [41] → Rd m ts (.list acc) k s (.ts (acc ++ l)) (k + (toksL l).length)
  | [], d, k, s, acc, h, hs, hA, hne, hn => absurd rfl hne
  | a :: r, d, k, s, acc, h, hs, hA, hne, hn => by
    simp only [goodTs, Bool.and_eq_true] at h
    simp only [depthTs] at hs
    simp only [toksL] at hA hn ⊢
    cases r with
    | nil =>
      simp only [toksR, List.append_nil] at hA hn ⊢
      exact .lisE (rd_T hm a d k s h.1 (by omega) hA (by rw [hn]; decide)) (by rw [hn]; decide)
    | cons b r' =>
      have hA2 := hA.right
      simp only [toksR] at hA2
      obtain ⟨_, ht, hA3⟩ := hA2.one
      have hc := txt_mk ht
      have hT := rd_T hm a d k s h.1 (by omega) hA.left (by rw [hc]; decide)
      have hlen : k + (toksT a ++ toksR (b :: r')).length = k + (toksT a).length + 1 + (toksL (b :: r')).length := by
        simp only [toksR, toksL, List.length_append, List.length_cons, List.length_nil]; omega
      rw [hlen] at hn ⊢
      have hL := rd_L hm (b :: r') d (k + (toksT a).length + 1) s (acc ++ [a]) h.2 (by omega) hA3 (by simp) hn
      rw [List.append_assoc] at hL
      exact .lisM hT hc hL
end
/-! ### levels -/
theorem climb_one {i k s k' : Nat} {f : Fm} (hi : i < 5) (h : Rd m ts (.bin (i + 1)) k s (.fm f) k') (hn : txt ts k' ≠ lvS i) : Rd m ts (.bin i) k s (.fm f) k' := by
  by_cases hr : lvR i = true
  · exact .binN hi hr h hn
  · exact .binL hi hr h (.loopN hn)
theorem climb {i0 k s k' : Nat} {f : Fm} : ∀ (n i1 : Nat), i1 + n = i0 → i0 ≤ 5 → Rd m ts (.bin i0) k s (.fm f) k' → (∀ i, i1 ≤ i → i < i0 → txt ts k' ≠ lvS i) → Rd m ts (.bin i1) k s (.fm f) k'
  | 0, i1, h1, h5, h, hn => by have : i1 = i0 := by omega
                               rw [this]; exact h
  | n + 1, i1, h1, h5, h, hn => climb_one (by omega) (climb n (i1 + 1) (by omega) h5 h fun i h2 h3 => hn i (by omega) h3) (hn i1 (Nat.le_refl _) (by omega))
theorem un_bin {i k s k' : Nat} {f : Fm} (hi : i ≤ 5) (h : Rd m ts .un k s (.fm f) k') (hn : ∀ j, i ≤ j → j < 5 → txt ts k' ≠ lvS j) : Rd m ts (.bin i) k s (.fm f) k' :=
  climb (5 - i) i (by omega) (Nat.le_refl _) (.binU (by omega) h) hn
theorem lvS_inj {i j : Nat} (hi : i < 5) (hj : j < 5) (h : i ≠ j) : lvS i ≠ lvS j := by
  rcases (by omega : i = 0 ∨ i = 1 ∨ i = 2 ∨ i = 3 ∨ i = 4) with rfl | rfl | rfl | rfl | rfl <;> rcases (by omega : j = 0 ∨ j = 1 ∨ j = 2 ∨ j = 3 ∨ j = 4) with rfl | rfl | rfl | rfl | rfl <;> first | exact absurd rfl h | decide
theorem lvS_shut (i : Nat) : ([41] : List UInt8) ≠ lvS i := by
  unfold lvS; split
  · decide
  split
  · decide
  split
  · decide
  split <;> decide
/-- Two formulas with a binary sign between them, from level 0, ahead of what is no binary sign. -/
theorem rd_two {j k s kb ke : Nat} {a b : Fm} (hj : j < 5) (ha : Rd m ts .un k s (.fm a) kb) (hs : txt ts kb = lvS j) (hb : Rd m ts .un (kb + 1) (s + if lvR j = true then 1 else 0) (.fm b) ke) (he : ∀ i, i < 5 → txt ts ke ≠ lvS i) : Rd m ts (.bin 0) k s (.fm (Op2 (lvO j) a b)) ke := by
  have h1 : Rd m ts (.bin (j + 1)) k s (.fm a) kb := un_bin (by omega) ha fun i h1 h2 => by rw [hs]; exact lvS_inj hj h2 (by omega)
  have h2 : Rd m ts (.bin j) k s (.fm (Op2 (lvO j) a b)) ke := by
    by_cases hr : lvR j = true
    · rw [if_pos hr] at hb
      exact .binR hj hr h1 hs (un_bin (by omega) hb fun i _ h2 => he i h2)
    · rw [if_neg hr, Nat.add_zero] at hb
      exact .binL hj hr h1 (.loopY hs (un_bin (by omega) hb fun i _ h2 => he i h2) (.loopN (he j hj)))
  exact climb j 0 (by omega) (by omega) h2 fun i _ hi => he i (by omega)
end
theorem lv_of {op : Nat} (h : op = 4 ∨ op = 5 ∨ op = 6 ∨ op = 7 ∨ op = 14) : ∃ j, j < 5 ∧ lvO j = op ∧ lvS j = opS op := by
  rcases h with rfl | rfl | rfl | rfl | rfl
  · exact ⟨4, by decide, by decide, by decide⟩
  · exact ⟨3, by decide, by decide, by decide⟩
  · exact ⟨1, by decide, by decide, by decide⟩
  · exact ⟨0, by decide, by decide, by decide⟩
  · exact ⟨2, by decide, by decide, by decide⟩
end Go.Proofs.YtdobflpbkfkmgaaDoor
