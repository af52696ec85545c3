/- The plain law of HistoryBetween. -/
import Derived.Test.YthneinepdbkgeaaBackp
namespace Go.Proofs.Ythneinepdbkgeaa
open Go.RowKit Go.HK
set_option linter.unusedVariables false
set_option linter.unusedSimpArgs false
set_option linter.unusedSectionVars false
theorem cpl_comm : ∀ xs ys : List Nat, cpl xs ys = cpl ys xs
  | [], [] => rfl
  | [], _ :: _ => rfl
  | _ :: _, [] => rfl
  | x :: xs, y :: ys => by
    simp only [cpl]
    by_cases h : x = y
    · rw [if_pos h, if_pos h.symm, cpl_comm xs ys]
    · rw [if_neg h, if_neg (fun e => h e.symm)]
theorem cpl_take : ∀ (xs ys : List Nat) (k : Nat), k ≤ cpl xs ys → xs.take k = ys.take k
  | _, _, 0, _ => by simp
  | [], [], k + 1, _ => rfl
  | [], _ :: _, k + 1, h => by simp [cpl] at h
  | _ :: _, [], k + 1, h => by simp [cpl] at h
  | x :: xs, y :: ys, k + 1, h => by
    simp only [cpl] at h
    split at h
    · rename_i e
      simp only [List.take_succ_cons]
      rw [e, cpl_take xs ys k (by omega)]
    · omega
theorem cpl_ge : ∀ (xs ys : List Nat) (k : Nat), k ≤ xs.length → k ≤ ys.length → xs.take k = ys.take k → k ≤ cpl xs ys
  | _, _, 0, _, _, _ => Nat.zero_le _
  | [], _, k + 1, h, _, _ => by simp at h
  | _ :: _, [], k + 1, _, h, _ => by simp at h
  | x :: xs, y :: ys, k + 1, h1, h2, h => by
    simp only [List.take_succ_cons, List.cons.injEq] at h
    simp only [cpl]
    rw [if_pos h.1]
    have := cpl_ge xs ys k (by simpa using h1) (by simpa using h2) h.2
    omega
section
variable {nodes : List Go.HK.HN} {now : Nat}
theorem wayL_zero1 (h : WF nodes now) : wayL nodes 0 = [0] := by simp [wayL, upL_zero h]
theorem wayL_step (h : WF nodes now) {x : Nat} (hx : x < nodes.length) (h0 : x ≠ 0) : wayL nodes x = wayL nodes (parF nodes x).toNat ++ [x] := by
  simp [wayL, upL_step h hx h0]
theorem wayL_asc (h : WF nodes now) {x : Nat} (hx : x < nodes.length) : (wayL nodes x).Pairwise (· < ·) := by
  have := upL_desc h x hx
  unfold wayL
  rw [List.pairwise_reverse]
  exact this
theorem wayL_in (h : WF nodes now) {x : Nat} (hx : x < nodes.length) : ∀ z ∈ wayL nodes x, z < nodes.length := fun z hz => upL_in h hx z (by simpa [wayL] using hz)
theorem wayL_last (h : WF nodes now) {x : Nat} (hx : x < nodes.length) : (wayL nodes x)[(wayL nodes x).length - 1]? = some x := by
  by_cases h0 : x = 0
  · subst h0; simp [wayL_zero1 h]
  · rw [wayL_step h hx h0]; simp
theorem wayL_pre (h : WF nodes now) : ∀ (a : Nat), a < nodes.length → ∀ (k x : Nat), (wayL nodes a)[k]? = some x → (wayL nodes a).take (k + 1) = wayL nodes x := by
  intro a
  induction a using Nat.strongRecOn with
  | _ a ih =>
    intro ha k x hk
    by_cases h0 : a = 0
    · subst h0
      rw [wayL_zero1 h] at hk ⊢
      match k, hk with
      | 0, hk =>
        simp at hk; subst hk
        simp [wayL_zero1 h]
      | k + 1, hk => simp at hk
    · have hp := h.par a (by omega) ha
      have e := wayL_step h ha h0
      rw [e] at hk
      by_cases hlt : k < (wayL nodes (parF nodes a).toNat).length
      · rw [List.getElem?_append_left hlt] at hk
        rw [e, List.take_append_of_le_length (by omega)]
        exact ih _ (by omega) (by omega) k x hk
      · have hk0 : k = (wayL nodes (parF nodes a).toNat).length := by
          have := (List.getElem?_eq_some_iff.1 hk).1
          simp at this; omega
        subst hk0
        simp at hk
        subst hk
        rw [List.take_of_length_le (by rw [e]; simp)]
theorem wayL_adj (h : WF nodes now) {a k x y : Nat} (ha : a < nodes.length) (hx : (wayL nodes a)[k]? = some x) (hy : (wayL nodes a)[k + 1]? = some y) : parF nodes y = x := by
  have hyl := wayL_in h ha y (List.mem_of_getElem? hy)
  have hp := wayL_pre h a ha (k + 1) y hy
  have hl := (List.getElem?_eq_some_iff.1 hy).1
  have hlen : (wayL nodes y).length = k + 2 := by rw [← hp]; simp; omega
  have h0 : y ≠ 0 := by
    intro e; subst e
    rw [wayL_zero1 h] at hlen
    simp at hlen
  have hpar := h.par y (by omega) hyl
  have e := wayL_step h hyl h0
  have hl2 : (wayL nodes (parF nodes y).toNat).length = k + 1 := by rw [e] at hlen; simpa using hlen
  have h1 : (wayL nodes y)[k]? = some x := by rw [← hp, List.getElem?_take, if_pos (by omega)]; exact hx
  have h2 := wayL_last h (x := (parF nodes y).toNat) (by omega)
  rw [hl2] at h2
  rw [e, List.getElem?_append_left (by omega)] at h1
  have h3 : (wayL nodes (parF nodes y).toNat)[k]? = some (parF nodes y).toNat := by simpa using h2
  rw [h1] at h3
  injection h3 with h3
  omega
theorem cpl_way_pos (h : WF nodes now) {a b : Nat} (ha : a < nodes.length) (hb : b < nodes.length) : 0 < cpl (wayL nodes a) (wayL nodes b) := cpl_pos h ha hb
/-- What the way between two entries is like. -/
structure BetwOk (nodes : List Go.HK.HN) (x y : Nat) (L : List Nat) : Prop where
  pos : 0 < L.length
  first : L[0]? = some x
  last : L[L.length - 1]? = some y
  nodup : L.Nodup
  lt : ∀ n ∈ L, n < nodes.length
  step : ∀ k a b : Nat, L[k]? = some a → L[k + 1]? = some b → parF nodes a = b ∨ parF nodes b = a
theorem betweenL_length (h : WF nodes now) {a b : Nat} (ha : a < nodes.length) (hb : b < nodes.length) :
    (betweenL nodes a b).length + 2 * cpl (wayL nodes a) (wayL nodes b) = (wayL nodes a).length + (wayL nodes b).length + 1 := by
  have h1 := cpl_pos h ha hb
  have h2 := cpl_le (wayL nodes a) (wayL nodes b)
  simp only [betweenL, List.length_append, List.length_reverse, List.length_drop]
  omega
theorem betweenL_lo {xs ys : List Nat} {c : Nat} (hc : c ≤ xs.length) (k : Nat) (hk : k + c ≤ xs.length) (h1 : 0 < c) : ((xs.drop (c - 1)).reverse ++ ys.drop c)[k]? = xs[xs.length - 1 - k]? := by
  rw [List.getElem?_append_left (by simp; omega), List.getElem?_reverse (by simp; omega), List.getElem?_drop]
  congr 1
  simp
  omega
theorem betweenL_hi {xs ys : List Nat} {c : Nat} (hc : c ≤ xs.length) (j : Nat) (h1 : 0 < c) : ((xs.drop (c - 1)).reverse ++ ys.drop c)[xs.length + 1 - c + j]? = ys[c + j]? := by
  rw [List.getElem?_append_right (by simp; omega), List.getElem?_drop]
  congr 1
  simp
  omega
theorem betweenL_ok (h : WF nodes now) {x y : Nat} (hx : x < nodes.length) (hy : y < nodes.length) : BetwOk nodes x y (betweenL nodes x y) := by
  have hl := betweenL_length h hx hy
  have hc1 := cpl_pos h hx hy
  have hc2 := cpl_le (wayL nodes x) (wayL nodes y)
  have hX := wayL_last h hx
  have hY := wayL_last h hy
  have hat : ∀ z : Nat, (wayL nodes x)[cpl (wayL nodes x) (wayL nodes y) - 1]? = some z → (wayL nodes y)[cpl (wayL nodes x) (wayL nodes y) - 1]? = some z := fun z hz => cpl_lt _ _ _ _ (by omega) hz
  have hdis : ∀ i j z : Nat, cpl (wayL nodes x) (wayL nodes y) ≤ j → (wayL nodes x)[i]? = some z → (wayL nodes y)[j]? = some z → False := by
    intro i j z hj h1 h2
    have e1 := wayL_pre h x hx i z h1
    have e2 := wayL_pre h y hy j z h2
    have l1 := (List.getElem?_eq_some_iff.1 h1).1
    have l2 := (List.getElem?_eq_some_iff.1 h2).1
    have e3 : i = j := by
      have := congrArg List.length (e1.trans e2.symm)
      simp at this; omega
    subst e3
    have := cpl_ge _ _ (i + 1) (by omega) (by omega) (e1.trans e2.symm)
    omega
  generalize hC : cpl (wayL nodes x) (wayL nodes y) = c at *
  have hlo : ∀ k : Nat, k + c ≤ (wayL nodes x).length → (betweenL nodes x y)[k]? = (wayL nodes x)[(wayL nodes x).length - 1 - k]? := fun k hk => by
    unfold betweenL; rw [hC]; exact betweenL_lo hc2.1 k hk hc1
  have hhi : ∀ j : Nat, (betweenL nodes x y)[(wayL nodes x).length + 1 - c + j]? = (wayL nodes y)[c + j]? := fun j => by
    unfold betweenL; rw [hC]; exact betweenL_hi hc2.1 j hc1
  refine ⟨by omega, ?_, ?_, ?_, ?_, ?_⟩
  · rw [hlo 0 (by omega)]; simpa using hX
  · by_cases he : c = (wayL nodes y).length
    · rw [hlo _ (by omega), show (wayL nodes x).length - 1 - ((betweenL nodes x y).length - 1) = c - 1 by omega]
      obtain ⟨z, hz⟩ : ∃ z, (wayL nodes x)[c - 1]? = some z := ⟨_, List.getElem?_eq_getElem (by omega)⟩
      rw [hz, ← hY, ← he]
      exact (hat z hz).symm
    · rw [show (betweenL nodes x y).length - 1 = (wayL nodes x).length + 1 - c + ((wayL nodes y).length - 1 - c) by omega, hhi, show c + ((wayL nodes y).length - 1 - c) = (wayL nodes y).length - 1 by omega]
      exact hY
  · unfold betweenL
    rw [hC]
    rw [List.nodup_append]
    refine ⟨?_, ?_, ?_⟩
    · unfold List.Nodup
      rw [List.pairwise_reverse]
      exact ((wayL_asc h hx).sublist (List.drop_sublist _ _)).imp (fun hab => by omega)
    · exact ((wayL_asc h hy).sublist (List.drop_sublist _ _)).imp (fun hab => by omega)
    · intro a ha b hb hab
      subst hab
      obtain ⟨i, hi⟩ := List.mem_iff_getElem?.1 (List.mem_reverse.1 ha)
      obtain ⟨j, hj⟩ := List.mem_iff_getElem?.1 hb
      rw [List.getElem?_drop] at hi hj
      exact hdis _ (c + j) a (by omega) hi hj
  · intro n hn
    unfold betweenL at hn
    rcases List.mem_append.1 hn with h1 | h1
    · exact wayL_in h hx n (List.mem_of_mem_drop (List.mem_reverse.1 h1))
    · exact wayL_in h hy n (List.mem_of_mem_drop h1)
  · intro k a b ha hb
    by_cases h1 : k + 1 + c ≤ (wayL nodes x).length
    · rw [hlo k (by omega)] at ha
      rw [hlo (k + 1) h1] at hb
      left
      exact wayL_adj h hx hb (by rw [show (wayL nodes x).length - 1 - (k + 1) + 1 = (wayL nodes x).length - 1 - k by omega]; exact ha)
    · right
      have hb' : (wayL nodes y)[c + (k + c - (wayL nodes x).length)]? = some b := by
        rw [← hhi, show (wayL nodes x).length + 1 - c + (k + c - (wayL nodes x).length) = k + 1 by omega]; exact hb
      by_cases h2 : k + c = (wayL nodes x).length
      · rw [hlo k (by omega), show (wayL nodes x).length - 1 - k = c - 1 by omega] at ha
        have := hat a ha
        exact wayL_adj h hy this (by rw [show c - 1 + 1 = c + (k + c - (wayL nodes x).length) by omega]; exact hb')
      · have ha' : (wayL nodes y)[c + (k + c - (wayL nodes x).length - 1)]? = some a := by
          rw [← hhi, show (wayL nodes x).length + 1 - c + (k + c - (wayL nodes x).length - 1) = k by omega]; exact ha
        exact wayL_adj h hy ha' (by rw [show c + (k + c - (wayL nodes x).length - 1) + 1 = c + (k + c - (wayL nodes x).length) by omega]; exact hb')
theorem betweenL_back (h : WF nodes now) {x y : Nat} (hx : x < nodes.length) (hy : y < nodes.length) : betweenL nodes y x = (betweenL nodes x y).reverse := by
  have hc1 := cpl_pos h hx hy
  have hc2 := cpl_le (wayL nodes x) (wayL nodes y)
  unfold betweenL
  rw [cpl_comm (wayL nodes y) (wayL nodes x)]
  generalize hC : cpl (wayL nodes x) (wayL nodes y) = c at *
  obtain ⟨z, hz⟩ : ∃ z, (wayL nodes x)[c - 1]? = some z := ⟨_, List.getElem?_eq_getElem (by omega)⟩
  have hz2 := cpl_lt (wayL nodes x) (wayL nodes y) (c - 1) z (by omega) hz
  obtain ⟨l1, e1⟩ := List.getElem?_eq_some_iff.1 hz
  obtain ⟨l2, e2⟩ := List.getElem?_eq_some_iff.1 hz2
  rw [List.drop_eq_getElem_cons l1, List.drop_eq_getElem_cons l2, e1, e2, show c - 1 + 1 = c by omega]
  simp
theorem betweenL_root (h : WF nodes now) {x : Nat} (hx : x < nodes.length) : betweenL nodes 0 x = wayL nodes x := by
  obtain ⟨xs, e⟩ := wayL_zero h hx
  unfold betweenL
  rw [wayL_zero1 h, e]
  simp [cpl]
theorem betweenL_tri (h : WF nodes now) {x y z : Nat} (hx : x < nodes.length) (hy : y < nodes.length) (hz : z < nodes.length) :
    (betweenL nodes x y).length + 1 ≤ (betweenL nodes x z).length + (betweenL nodes z y).length := by
  have h1 := betweenL_length h hx hy
  have h2 := betweenL_length h hx hz
  have h3 := betweenL_length h hz hy
  have c1 := cpl_le (wayL nodes x) (wayL nodes y)
  have c2 := cpl_le (wayL nodes x) (wayL nodes z)
  have c3 := cpl_le (wayL nodes z) (wayL nodes y)
  have key : min (cpl (wayL nodes x) (wayL nodes z)) (cpl (wayL nodes z) (wayL nodes y)) ≤ cpl (wayL nodes x) (wayL nodes y) := by
    refine cpl_ge _ _ _ (by omega) (by omega) ?_
    exact (cpl_take _ _ _ (Nat.min_le_left _ _)).trans (cpl_take _ _ _ (Nat.min_le_right _ _))
  omega
end
end Go.Proofs.Ythneinepdbkgeaa
