/- The plain law of Full: a right schema's tokens are read back to it. No program in sight. -/
import Derived.Test.YtdobflpbkfkmgaaDoorFuc
namespace Go.Proofs.YtdobflpbkfkmgaaDoor
open Go Go.RowKit Go.FR
set_option linter.unusedVariables false
set_option linter.unusedSimpArgs false
set_option linter.unusedSectionVars false
theorem named_emp {s : ByteArray} (h : s.toList.isEmpty = true) : s = emp := by
  have h1 : s.toList = [] := List.isEmpty_iff.1 h
  rw [ByteArray.toList_eq] at h1
  have h2 : bys s = [] := h1
  rw [← mk_bys s, h2]
  rfl
section
variable {m : Bool} {ts : List Tok} {D : Dp}
def FormRd (m : Bool) (ts : List Tok) (D : Dp) (f : Fm) : Prop := ∀ (d k s : Nat), goodF D d f = true → s + 2 * depthF f ≤ 122 → At ts k (toksF f) → txt ts (k + (toksF f).length) ≠ [40] → txt ts (k + (toksF f).length) ≠ [91] → Rd m ts .un k s (.fm f) (k + (toksF f).length)
theorem rd_body (hm : D.s = true → m = true) {op : Nat} {nm : ByteArray} {args : List Tm} {subs : List Fm} (IH : ∀ f ∈ subs, FormRd m ts D f) : FormRd m ts D (.mk op nm args subs) := by
  intro d k s hgood hs hA hn1 hn2
  have h := goodF_of hgood
  have h1 := h.op1
  have hnm := h.nm
  have hal := h.al
  have hsl := h.sl
  simp only [depthF] at hs
  have hs120 : s ≤ 120 := by omega
  simp only [toksF] at hA hn1 hn2 ⊢
  rcases (by omega : op = 1 ∨ op = 2 ∨ op = 15 ∨ op = 16 ∨ (op = 4 ∨ op = 5 ∨ op = 6 ∨ op = 7 ∨ op = 14) ∨ (op = 8 ∨ op = 9) ∨ (op = 3 ∨ op = 10 ∨ op = 11 ∨ op = 12 ∨ op = 13)) with rfl | rfl | rfl | rfl | ho | ho | ho
  · simp only [bodyK, if_true] at hA hn1 hn2 ⊢
    obtain ⟨hk, ht, hA2⟩ := hA.one
    have hc : checkB capB alnumB nm = true := by simpa [namedB, rN] using hnm
    have hnb : nameB nm = true := by simp [nameB, hc]
    obtain ⟨e1, e2, e3⟩ := head_letter hnb
    have htx : txt ts k = bys nm := by unfold txt; rw [ht]
    have hk1 : kindN nm = 1 := kind_name hnb
    obtain rfl : subs = [] := List.length_eq_zero_iff.1 hsl
    rw [List.length_append, ← Nat.add_assoc] at hn1 ⊢
    have ha := rd_A (ts := ts) hm args (d + 1) (k + 1) s h.ga (by omega) hA2 (fun e => by subst e; exact hn1)
    have e : (Ob.fm (.mk 1 nm args [])) = .fm (.mk 1 (tkA ts k).t (tsO (.ts args)) []) := by rw [ht]; rfl
    rw [e]
    exact .unB hs120 (by rw [htx]; exact e1) (.atom (by rw [htx]; exact e2) (by rw [htx]; exact e3) (by rw [hk, hk1]; decide) (by simp [isPre, hk, hk1, ht, hc]) ha)
  · simp only [bodyK, show ¬ (2 = 1) by decide, if_false, if_true] at hA hn1 hn2 ⊢
    obtain ⟨hk, ht⟩ := hA.sg
    have htx : txt ts k = [102, 97, 108, 115, 101] := txt_mk ht
    obtain rfl : subs = [] := List.length_eq_zero_iff.1 hsl
    obtain rfl : args = [] := List.length_eq_zero_iff.1 (Nat.le_zero.1 hal)
    obtain rfl : nm = emp := named_emp (by simpa [namedB, rN] using hnm)
    exact .unB hs120 (by rw [htx]; decide) (.fls htx)
  · simp only [bodyK, show ¬ (15 = 1) by decide, show ¬ (15 = 2) by decide, if_false, if_true] at hA hn1 hn2 ⊢
    obtain ⟨hk, ht⟩ := hA.sg
    have hfm : fmB nm = true := by simpa [namedB, rN] using hnm
    have hmb : metaB nm = true := by simp [metaB, hfm]
    obtain ⟨e1, e2, e3⟩ := head_mark hmb
    have htx : txt ts k = bys nm := by unfold txt; rw [ht]
    have hk2 : kindN nm = 2 := kind_meta hmb
    obtain rfl : subs = [] := List.length_eq_zero_iff.1 hsl
    obtain rfl : args = [] := List.length_eq_zero_iff.1 (Nat.le_zero.1 hal)
    have hm1 := hm (h.sch (by decide))
    have hf4 := hfm
    simp only [fmB, Bool.and_eq_true] at hf4
    refine .unB hs120 (by rw [htx]; exact e1) (.mt (by rw [htx]; exact e2) (by rw [htx]; exact e3) (by rw [hk, hk2]) ?_)
    unfold metaP
    rw [if_pos (by simp [isFM, hk, hk2, ht, hm1, rest1, hf4.2]), if_neg (show ¬ txt ts (k + 1) = [91] from hn2), ht]
    rfl
  · simp only [bodyK, show ¬ (16 = 1) by decide, show ¬ (16 = 2) by decide, show ¬ (16 = 15) by decide, if_false, if_true] at hA hn1 hn2 ⊢
    have hi := h.inst rfl
    have hga := h.ga
    obtain ⟨x, t, rfl⟩ : ∃ x t, args = [x, t] := by
      match args, hi with
      | [x, t], _ => exact ⟨x, t, rfl⟩
    simp only [instB, Bool.and_eq_true] at hi
    obtain ⟨⟨⟨hi1, hi2⟩, hi3⟩, hi4⟩ := hi
    have hx : argN [x, t] 0 = x.name := rfl
    have ht' : argN [x, t] 1 = t.name := rfl
    rw [hx, ht'] at hA hn1 hn2 ⊢
    obtain ⟨hk, ht, hA2⟩ := hA.one
    obtain ⟨_, q1, hA3⟩ := hA2.one
    obtain ⟨k2, q2, hA4⟩ := hA3.one
    obtain ⟨_, q3, hA5⟩ := hA4.one
    obtain ⟨k4, q4, hA6⟩ := hA5.one
    obtain ⟨_, q5⟩ := hA6.sg
    have hfm : fmB nm = true := by simpa [namedB, rN] using hnm
    have hmb : metaB nm = true := by simp [metaB, hfm]
    obtain ⟨e1, e2, e3⟩ := head_mark hmb
    have htx : txt ts k = bys nm := by unfold txt; rw [ht]
    have hk2 : kindN nm = 2 := kind_meta hmb
    have hkt : kindN t.name = 2 := kind_meta (by simp [metaB, hi4])
    have hkx : kindN x.name = 1 := kind_name (by simp [nameB, hi2])
    obtain rfl : subs = [] := List.length_eq_zero_iff.1 hsl
    have hm1 := hm (h.sch (by decide))
    have hf4 := hfm
    simp only [fmB, Bool.and_eq_true] at hf4
    have ht4 := hi4
    simp only [tmB, Bool.and_eq_true] at ht4
    have hxv : x = Va x.name ∧ t = Va t.name := by
      simp only [goodTs, Bool.and_eq_true] at hga
      constructor
      · obtain ⟨v, n, a⟩ := x
        simp only [FR.Tm.var] at hi1
        subst hi1
        have := hga.1
        simp only [goodT, if_true, Bool.and_eq_true, List.isEmpty_iff] at this
        rw [this.2.1]; rfl
      · obtain ⟨v, n, a⟩ := t
        simp only [FR.Tm.var] at hi3
        subst hi3
        have := hga.2.1
        simp only [goodT, if_true, Bool.and_eq_true, List.isEmpty_iff] at this
        rw [this.2.1]; rfl
    refine .unB hs120 (by rw [htx]; exact e1) (.mt (by rw [htx]; exact e2) (by rw [htx]; exact e3) (by rw [hk, hk2]) ?_)
    unfold metaP
    rw [if_pos (by simp [isFM, hk, hk2, ht, hm1, rest1, hf4.2]), if_pos (txt_mk q1), if_pos (by simp [isTM, show k + 2 = k + 1 + 1 from rfl, k2, hkt, q2, hm1, rest1, ht4.2]), if_pos (txt_mk q3), if_pos (by simp [isVar, show k + 4 = k + 1 + 1 + 1 + 1 from rfl, k4, hkx, q4, hi2]), if_pos (txt_mk q5)]
    rw [ht, show (tkA ts (k + 4)).t = x.name from q4, show (tkA ts (k + 2)).t = t.name from q2, ← hxv.1, ← hxv.2]
    rfl
  · have n1 : ¬ op = 1 := by omega
    have n2 : ¬ op = 2 := by omega
    have n15 : ¬ op = 15 := by omega
    have n16 : ¬ op = 16 := by omega
    have hb : binO op = true := by simp [binO, ho]
    obtain ⟨f, g, rfl⟩ := two_of (hsl.trans (show rB op = 2 by rcases ho with rfl | rfl | rfl | rfl | rfl <;> rfl))
    obtain rfl : args = [] := List.length_eq_zero_iff.1 (Nat.le_zero.1 (Nat.le_trans hal (by rcases ho with rfl | rfl | rfl | rfl | rfl <;> decide)))
    obtain rfl : nm = emp := named_emp (by rcases ho with rfl | rfl | rfl | rfl | rfl <;> simpa [namedB, rN] using hnm)
    simp only [depthL, depthTs] at hs
    simp only [bodyK, if_neg n1, if_neg n2, if_neg n15, if_neg n16, if_pos hb, toksFs, List.getD_cons_zero, List.getD_cons_succ, List.nil_append] at hA hn1 hn2 ⊢
    obtain ⟨j, hj, hjo, hjs⟩ := lv_of ho
    obtain ⟨_, ht, hA2⟩ := hA.one
    have hAf := hA2.left
    obtain ⟨_, q1, hA3⟩ := hA2.right.one
    have hAg := hA3.left
    obtain ⟨_, q2⟩ := hA3.right.sg
    have hsg : txt ts (k + 1 + (toksF f).length) = lvS j := by rw [txt_mk q1, hjs]
    have hsh : txt ts (k + 1 + (toksF f).length + 1 + (toksF g).length) = [41] := txt_mk q2
    have hne : lvS j ≠ [40] ∧ lvS j ≠ [91] := by
      rcases (by omega : j = 0 ∨ j = 1 ∨ j = 2 ∨ j = 3 ∨ j = 4) with rfl | rfl | rfl | rfl | rfl <;> decide
    have hF := IH f (by simp) (d + 1) (k + 1) (s + 1) (h.gs f (by simp)) (by omega) hAf (by rw [hsg]; exact hne.1) (by rw [hsg]; exact hne.2)
    have hG := IH g (by simp) (d + 1) (k + 1 + (toksF f).length + 1) (s + 1 + if lvR j = true then 1 else 0) (h.gs g (by simp)) (by split <;> omega) hAg (by rw [hsh]; decide) (by rw [hsh]; decide)
    have hT := rd_two hj hF hsg hG (fun i hi => by rw [hsh]; exact lvS_shut i)
    have hP := Rd.par (s := s) (txt_mk ht) hT hsh
    have hU := Rd.unB hs120 (by rw [txt_mk ht]; decide) hP
    rw [hjo] at hU
    simp only [List.length_append, List.length_cons, List.length_nil]
    rw [show k + (0 + 1 + ((toksF f).length + (0 + 1 + ((toksF g).length + (0 + 1))))) = k + 1 + (toksF f).length + 1 + (toksF g).length + 1 by omega]
    exact hU
  · have n1 : ¬ op = 1 := by omega
    have n2 : ¬ op = 2 := by omega
    have n15 : ¬ op = 15 := by omega
    have n16 : ¬ op = 16 := by omega
    have hb : ¬ binO op = true := by rcases ho with rfl | rfl <;> decide
    obtain ⟨f, rfl⟩ := one_of (hsl.trans (show rB op = 1 by rcases ho with rfl | rfl <;> rfl))
    obtain rfl : args = [] := List.length_eq_zero_iff.1 (Nat.le_zero.1 (Nat.le_trans hal (by rcases ho with rfl | rfl <;> decide)))
    have hv : checkB varB digitB nm = true := by rcases ho with rfl | rfl <;> simpa [namedB, rN] using hnm
    have hkv : kindN nm = 1 := kind_name (by simp [nameB, hv])
    simp only [depthL, depthTs] at hs
    simp only [bodyK, if_neg n1, if_neg n2, if_neg n15, if_neg n16, if_neg hb, if_pos ho, toksFs, List.getD_cons_zero, List.nil_append] at hA hn1 hn2 ⊢
    obtain ⟨_, ht, hA2⟩ := hA.one
    obtain ⟨k1, q1, hA3⟩ := hA2.one
    have hlen : k + ([(opK op, mkS (opS op))] ++ ([(kindN nm, nm)] ++ toksF f)).length = k + 2 + (toksF f).length := by simp only [List.length_append, List.length_cons, List.length_nil]; omega
    rw [hlen] at hn1 hn2 ⊢
    have hF := IH f (by simp) (d + 1) (k + 2) (s + 1) (h.gs f (by simp)) (by omega) hA3 hn1 hn2
    have e : (Ob.fm (.mk op nm [] [f])) = .fm (.mk op (tkA ts (k + 1)).t [] [fmO (.fm f)]) := by rw [q1]; rfl
    rw [e]
    exact .unQ hs120 (by rw [txt_mk ht]; rcases ho with rfl | rfl <;> decide) ho (by simp [isVar, k1, hkv, q1, hv]) hF
  · have n1 : ¬ op = 1 := by omega
    have n2 : ¬ op = 2 := by omega
    have n15 : ¬ op = 15 := by omega
    have n16 : ¬ op = 16 := by omega
    have n8 : ¬ (op = 8 ∨ op = 9) := by omega
    have hb : ¬ binO op = true := by rcases ho with rfl | rfl | rfl | rfl | rfl <;> decide
    obtain ⟨f, rfl⟩ := one_of (hsl.trans (show rB op = 1 by rcases ho with rfl | rfl | rfl | rfl | rfl <;> rfl))
    obtain rfl : args = [] := List.length_eq_zero_iff.1 (Nat.le_zero.1 (Nat.le_trans hal (by rcases ho with rfl | rfl | rfl | rfl | rfl <;> decide)))
    obtain rfl : nm = emp := named_emp (by rcases ho with rfl | rfl | rfl | rfl | rfl <;> simpa [namedB, rN] using hnm)
    simp only [depthL, depthTs] at hs
    simp only [bodyK, if_neg n1, if_neg n2, if_neg n15, if_neg n16, if_neg hb, if_neg n8, toksFs, List.getD_cons_zero, List.nil_append] at hA hn1 hn2 ⊢
    obtain ⟨_, ht, hA2⟩ := hA.one
    have hlen : k + ([(opK op, mkS (opS op))] ++ toksF f).length = k + 1 + (toksF f).length := by simp only [List.length_append, List.length_cons, List.length_nil]; omega
    rw [hlen] at hn1 hn2 ⊢
    have hF := IH f (by simp) (d + 1) (k + 1) (s + 1) (h.gs f (by simp)) (by omega) hA2 hn1 hn2
    exact .unS hs120 (by rw [txt_mk ht]; rcases ho with rfl | rfl | rfl | rfl | rfl <;> decide) n8 hF
mutual
theorem rd_F (hm : D.s = true → m = true) : ∀ f : Fm, FormRd m ts D f
  | .mk op nm args subs => rd_body hm (rd_Fs hm subs)
theorem rd_Fs (hm : D.s = true → m = true) : ∀ (l : List Fm), ∀ f ∈ l, FormRd m ts D f
  | [], f, hf => by cases hf
  | x :: r, f, hf => by
    rcases List.mem_cons.1 hf with he | hf
    · rw [he]; exact rd_F hm x
    · exact rd_Fs hm r f hf
end
end
/-! ### depth -/
mutual
theorem depth_goodT {D : Dp} : ∀ (t : Tm) (d : Nat), goodT D d t = true → d + depthT t ≤ D.n + 1
  | .mk v nm args, d, h => by
    simp only [goodT, Bool.and_eq_true, decide_eq_true_eq] at h
    simp only [depthT]
    have h2 := h.2
    cases v with
    | true =>
      simp only [if_true, Bool.and_eq_true, List.isEmpty_iff] at h2
      rw [h2.1]; simp only [depthTs]; omega
    | false =>
      simp only [Bool.false_eq_true, if_false, Bool.and_eq_true] at h2
      have := depth_goodTs args (d + 1) (by omega) h2.2
      omega
theorem depth_goodTs {D : Dp} : ∀ (l : List Tm) (d : Nat), d ≤ D.n + 1 → goodTs D d l = true → d + depthTs l ≤ D.n + 1
  | [], d, hd, h => by simp only [depthTs]; omega
  | t :: r, d, hd, h => by
    simp only [goodTs, Bool.and_eq_true] at h
    have h1 := depth_goodT t d h.1
    have h2 := depth_goodTs r d hd h.2
    simp only [depthTs]; omega
end
mutual
theorem depth_goodF {D : Dp} : ∀ (f : Fm) (d : Nat), goodF D d f = true → d + depthF f ≤ D.n + 1
  | .mk op nm args subs, d, h => by
    have hg := goodF_of h
    have h1 := depth_goodTs args (d + 1) (by have := hg.dp; omega) hg.ga
    have h2 := depth_goodFs subs (d + 1) (by have := hg.dp; omega) hg.gs
    simp only [depthF]; omega
theorem depth_goodFs {D : Dp} : ∀ (l : List Fm) (d : Nat), d ≤ D.n + 1 → (∀ f ∈ l, goodF D d f = true) → d + depthL l ≤ D.n + 1
  | [], d, hd, h => by simp only [depthL]; omega
  | f :: r, d, hd, h => by
    have h1 := depth_goodF f d (h f (by simp))
    have h2 := depth_goodFs r d hd (fun g hg => h g (by simp [hg]))
    simp only [depthL]; omega
end
end Go.Proofs.YtdobflpbkfkmgaaDoor
