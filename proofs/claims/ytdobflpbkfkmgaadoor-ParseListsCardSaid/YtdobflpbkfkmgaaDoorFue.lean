/- The plain law of ParseWritten. No program in sight. -/
import Derived.Test.YtdobflpbkfkmgaaDoorFud
import Derived.Test.YtdobflpbkfkmgaaDoorPbz
namespace Go.Proofs.YtdobflpbkfkmgaaDoor
open Go Go.RowKit Go.FR
set_option linter.unusedVariables false
set_option linter.unusedSimpArgs false
set_option linter.unusedSectionVars false
/-! ### how long -/
theorem nm_len {s : ByteArray} (h : nmB s = true) : (bys s).length ≤ 16 := by
  have hb : (bys s).length = s.size := rfl
  rw [hb]
  have hc : ∀ {p q : Nat → Bool}, checkB p q s = true → s.size ≤ 16 := fun h => by simp only [checkB, Bool.and_eq_true, decide_eq_true_eq] at h; omega
  simp only [nmB, nameB, metaB, Bool.or_eq_true] at h
  rcases h with ((h | h) | h) | h | h
  · exact hc h
  · exact hc h
  · exact hc h
  · simp only [fmB, Bool.and_eq_true, decide_eq_true_eq] at h; omega
  · simp only [tmB, Bool.and_eq_true, decide_eq_true_eq] at h; omega
theorem good_nm {D : Dp} {d : Nat} {v : Bool} {nm : ByteArray} {args : List Tm} (h : goodT D d (.mk v nm args) = true) : nmB nm = true ∧ goodTs D (d + 1) args = true := by
  simp only [goodT, Bool.and_eq_true, decide_eq_true_eq] at h
  have h2 := h.2
  cases v with
  | true =>
    simp only [if_true, Bool.and_eq_true, Bool.or_eq_true, List.isEmpty_iff] at h2
    refine ⟨?_, by rw [h2.1]; rfl⟩
    rcases h2.2 with h3 | h3
    · exact var_nm h3
    · exact tmB_nm h3.2
  | false =>
    simp only [Bool.false_eq_true, if_false, Bool.and_eq_true] at h2
    exact ⟨fun_nm h2.1.2, h2.2⟩
mutual
theorem len_T {D : Dp} : ∀ (t : Tm) (d : Nat), goodT D d t = true → (fullT t).length + 1 ≤ 20 * nodesT t
  | .mk v nm args, d, h => by
    obtain ⟨h1, h2⟩ := good_nm h
    have h3 := nm_len h1
    have h4 := len_A args (d + 1) h2
    simp only [fullT, nodesT, List.length_append]; omega
theorem len_A {D : Dp} : ∀ (l : List Tm) (d : Nat), goodTs D d l = true → (fullA l).length ≤ 2 + 20 * nodesTs l
  | [], d, h => by simp [fullA]
  | a :: r, d, h => by
    simp only [goodTs, Bool.and_eq_true] at h
    have h1 := len_T a d h.1
    have h2 := len_R r d h.2
    simp only [fullA, nodesTs, List.length_append, List.length_cons, List.length_nil]; omega
theorem len_R {D : Dp} : ∀ (l : List Tm) (d : Nat), goodTs D d l = true → (fullR l).length ≤ 20 * nodesTs l
  | [], d, h => by simp [fullR]
  | t :: r, d, h => by
    simp only [goodTs, Bool.and_eq_true] at h
    have h1 := len_T t d h.1
    have h2 := len_R r d h.2
    simp only [fullR, nodesTs, List.length_append, List.length_cons, List.length_nil]; omega
end
theorem opS_len (op : Nat) : (opS op).length ≤ 6 := by
  unfold opS
  split
  · decide
  split
  · decide
  split
  · decide
  split
  · decide
  split
  · decide
  split
  · decide
  split
  · decide
  split
  · decide
  split
  · decide
  split
  · decide
  split <;> decide
theorem len_body {D : Dp} {d op : Nat} {nm : ByteArray} {args : List Tm} {subs : List Fm} (h : GoodF D d op nm args subs) (IH : ∀ f ∈ subs, (fullF f).length ≤ 32 * nodesF f) : (bodyF op nm args (fullFs subs)).length ≤ 32 * (1 + nodesTs args + nodesL subs) := by
  have h1 := h.op1
  have hnm := h.nm
  have ho := opS_len op
  rcases (by omega : op = 1 ∨ op = 2 ∨ op = 15 ∨ op = 16 ∨ (op = 4 ∨ op = 5 ∨ op = 6 ∨ op = 7 ∨ op = 14) ∨ (op = 8 ∨ op = 9) ∨ (op = 3 ∨ op = 10 ∨ op = 11 ∨ op = 12 ∨ op = 13)) with rfl | rfl | rfl | rfl | ho | ho | ho
  · have h3 := nm_len (cap_nm (by simpa [namedB, rN] using hnm))
    have h4 := len_A args (d + 1) h.ga
    simp only [bodyF, if_true, List.length_append]; omega
  · simp only [bodyF, show ¬ (2 = 1) by decide, if_false, if_true, List.length_cons, List.length_nil]; omega
  · have h3 := nm_len (fmB_nm (by simpa [namedB, rN] using hnm))
    simp only [bodyF, show ¬ (15 = 1) by decide, show ¬ (15 = 2) by decide, if_false, if_true]; omega
  · have hi := h.inst rfl
    obtain ⟨x, t, rfl⟩ : ∃ x t, args = [x, t] := by
      match args, hi with
      | [x, t], _ => exact ⟨x, t, rfl⟩
    simp only [instB, Bool.and_eq_true] at hi
    have h3 := nm_len (fmB_nm (by simpa [namedB, rN] using hnm))
    have h4 : (bys (argN [x, t] 0)).length ≤ 16 := nm_len (s := x.name) (var_nm hi.1.1.2)
    have h5 : (bys (argN [x, t] 1)).length ≤ 16 := nm_len (s := t.name) (tmB_nm hi.2)
    have p1 := nodesT_pos x
    have p2 := nodesT_pos t
    simp only [bodyF, show ¬ (16 = 1) by decide, show ¬ (16 = 2) by decide, show ¬ (16 = 15) by decide, if_false, if_true, List.length_append, List.length_cons, List.length_nil, nodesTs]
    omega
  · have n1 : ¬ op = 1 := by omega
    have n2 : ¬ op = 2 := by omega
    have n15 : ¬ op = 15 := by omega
    have n16 : ¬ op = 16 := by omega
    have hb : binO op = true := by simp [binO, ho]
    obtain ⟨f, g, rfl⟩ := two_of (h.sl.trans (show rB op = 2 by rcases ho with rfl | rfl | rfl | rfl | rfl <;> rfl))
    have hf := IH f (by simp)
    have hg := IH g (by simp)
    simp only [bodyF, if_neg n1, if_neg n2, if_neg n15, if_neg n16, if_pos hb, fullFs, List.getD_cons_zero, List.getD_cons_succ, List.length_append, List.length_cons, List.length_nil, nodesL]
    omega
  · have n1 : ¬ op = 1 := by omega
    have n2 : ¬ op = 2 := by omega
    have n15 : ¬ op = 15 := by omega
    have n16 : ¬ op = 16 := by omega
    have hb : ¬ binO op = true := by rcases ho with rfl | rfl <;> decide
    obtain ⟨f, rfl⟩ := one_of (h.sl.trans (show rB op = 1 by rcases ho with rfl | rfl <;> rfl))
    have hf := IH f (by simp)
    have hv : checkB varB digitB nm = true := by rcases ho with rfl | rfl <;> simpa [namedB, rN] using hnm
    have h3 := nm_len (var_nm hv)
    simp only [bodyF, if_neg n1, if_neg n2, if_neg n15, if_neg n16, if_neg hb, if_pos ho, fullFs, List.getD_cons_zero, List.length_append, List.length_cons, List.length_nil, nodesL]
    omega
  · have n1 : ¬ op = 1 := by omega
    have n2 : ¬ op = 2 := by omega
    have n15 : ¬ op = 15 := by omega
    have n16 : ¬ op = 16 := by omega
    have n8 : ¬ (op = 8 ∨ op = 9) := by omega
    have hb : ¬ binO op = true := by rcases ho with rfl | rfl | rfl | rfl | rfl <;> decide
    obtain ⟨f, rfl⟩ := one_of (h.sl.trans (show rB op = 1 by rcases ho with rfl | rfl | rfl | rfl | rfl <;> rfl))
    have hf := IH f (by simp)
    simp only [bodyF, if_neg n1, if_neg n2, if_neg n15, if_neg n16, if_neg hb, if_neg n8, fullFs, List.getD_cons_zero, List.length_append, List.length_cons, List.length_nil, nodesL]
    omega
mutual
theorem len_F {D : Dp} : ∀ (f : Fm) (d : Nat), goodF D d f = true → (fullF f).length ≤ 32 * nodesF f
  | .mk op nm args subs, d, h => by
    have hg := goodF_of h
    simp only [fullF, nodesF]
    exact len_body hg (len_Fs subs (d + 1) hg.gs)
theorem len_Fs {D : Dp} : ∀ (l : List Fm) (d : Nat), (∀ f ∈ l, goodF D d f = true) → ∀ f ∈ l, (fullF f).length ≤ 32 * nodesF f
  | [], _, _, f, hf => by cases hf
  | x :: r, d, h, f, hf => by
    rcases List.mem_cons.1 hf with he | hf
    · rw [he]; exact len_F x d (h x (by simp))
    · exact len_Fs r d (fun g hg => h g (by simp [hg])) f hf
end
/-! ### what a text of tokens is -/
theorem lx_all {u : List UInt8} {K : List (Int × ByteArray)} {S : List UInt8 → Prop} (h : Lx u K S) (hS : S []) : ∃ ts, LexL 0 u ts 0 0 ∧ At ts 0 K ∧ (tkA ts K.length).k = 5 ∧ txt ts K.length = [] := by
  obtain ⟨us, hL, hm⟩ := h 0 [] [⟨5, mkS [], 0 + u.length⟩] 0 0 hS (.nil _)
  rw [List.append_nil] at hL
  have hlen : us.length = K.length := by have := congrArg List.length hm; simpa using this
  have hend : tkA (us ++ [(⟨5, mkS [], 0 + u.length⟩ : Tok)]) K.length = ⟨5, mkS [], 0 + u.length⟩ := by
    unfold tkA
    rw [List.getD_eq_getElem?_getD, List.getElem?_append_right (by omega)]
    simp [hlen]
  refine ⟨_, hL, fun i x hx => ?_, by rw [hend], by unfold txt; rw [hend]; exact bys_mk []⟩
  have hi : i < us.length := by rw [hlen]; exact (List.getElem?_eq_some_iff.1 hx).1
  have h1 := congrArg (fun l => l[i]?) hm
  simp only [List.getElem?_map, List.getElem?_eq_getElem hi, Option.map_some, hx, Option.some.injEq] at h1
  have h2 : tkA (us ++ [(⟨5, mkS [], 0 + u.length⟩ : Tok)]) (0 + i) = us[i] := by
    unfold tkA
    simp only [Nat.zero_add]
    rw [List.getD_eq_getElem?_getD, List.getElem?_append_left hi, List.getElem?_eq_getElem hi]; rfl
  rw [h2, ← h1]
  exact ⟨rfl, rfl⟩
theorem nil_lv (i : Nat) : ([] : List UInt8) ≠ lvS i := fun e => lvS_ne i e.symm
theorem good_of_sch {f : Fm} (h : schF f = true) : goodF ⟨40, true⟩ 1 f = true ∧ nodesF f ≤ 400 := by
  simp only [schF, Bool.and_eq_true, decide_eq_true_eq] at h; exact ⟨h.1, by omega⟩
theorem good_of_right {f : Fm} (h : rightF f = true) : goodF ⟨40, false⟩ 1 f = true ∧ nodesF f ≤ 400 := by
  simp only [rightF, Bool.and_eq_true, decide_eq_true_eq] at h; exact ⟨h.1, by omega⟩
/-- A text whose tokens are those of a right formula. -/
theorem rdF_full {m b : Bool} {f : Fm} (hb : b = true → m = true) (h : goodF ⟨40, b⟩ 1 f = true) : RdF m (fullF f) (.ok f) := by
  obtain ⟨ts, hL, hA, h5, hx⟩ := lx_all (lx_F f 1 h) (fun b l e => by cases e)
  have hd := depth_goodF f 1 h
  simp only at hd
  have hR := rd_F (m := m) (ts := ts) (D := ⟨40, b⟩) hb f 1 0 0 h (by omega) hA (by rw [Nat.zero_add, hx]; decide) (by rw [Nat.zero_add, hx]; decide)
  rw [Nat.zero_add] at hR
  obtain ⟨n, hn⟩ := rd_run (un_bin (i := 0) (by omega) hR fun j _ _ => by rw [hx]; exact nil_lv j)
  have := RdF.read (m := m) hL hn
  simp only [resF, h5, if_true, fmO] at this
  exact this
/-- The same in two pairs of brackets. -/
theorem rdF_brackets {f : Fm} (h : goodF ⟨40, true⟩ 1 f = true) : RdF true ([40, 40, 32] ++ fullF f ++ [41, 41]) (.ok f) := by
  have hlx : Lx ([40] ++ ([40] ++ ([32] ++ (fullF f ++ ([41] ++ [41]))))) ([(4, mkS [40])] ++ ([(4, mkS [40])] ++ ([] ++ (toksF f ++ ([(4, mkS [41])] ++ [(4, mkS [41])]))))) anyL :=
    Lx.open_.comp (Lx.open_.comp (Lx.blank.comp ((lx_F f 1 h).comp (Lx.shut.comp Lx.shut fun _ _ => trivial) fun q _ => sep_cons (by decide)) fun _ _ => trivial) fun _ _ => trivial) fun _ _ => trivial
  obtain ⟨ts, hL, hA, h5, hx⟩ := lx_all hlx trivial
  have hd := depth_goodF f 1 h
  simp only at hd
  obtain ⟨_, t0, hA1⟩ := hA.one
  obtain ⟨_, t1, hA2⟩ := hA1.one
  rw [List.nil_append] at hA2
  obtain ⟨_, t2, hA3⟩ := hA2.right.one
  obtain ⟨_, t3⟩ := hA3.sg
  have x2 := txt_mk t2
  have hR := rd_F (m := true) (ts := ts) (D := ⟨40, true⟩) (fun h => h) f 1 (0 + 1 + 1) 2 h (by omega) hA2.left (by rw [x2]; decide) (by rw [x2]; decide)
  have hR1 := Rd.unB (s := 1) (by omega) (by rw [txt_mk t1]; decide) (Rd.par (s := 1) (txt_mk t1) (un_bin (i := 0) (by omega) hR fun j _ _ => by rw [x2]; exact lvS_shut j) x2)
  have x3 := txt_mk t3
  have hR2 := Rd.unB (s := 0) (by omega) (by rw [txt_mk t0]; decide) (Rd.par (s := 0) (txt_mk t0) (un_bin (i := 0) (by omega) hR1 fun j _ _ => by rw [x3]; exact lvS_shut j) x3)
  have hlen : ([(4, mkS [40])] ++ ([(4, mkS [40])] ++ ([] ++ (toksF f ++ ([(4, mkS [41])] ++ [(4, mkS [41])])))) : List (Int × ByteArray)).length = 0 + 1 + 1 + (toksF f).length + 1 + 1 := by
    simp only [List.length_append, List.length_cons, List.length_nil]; omega
  rw [hlen] at h5 hx
  obtain ⟨n, hn⟩ := rd_run (un_bin (i := 0) (by omega) hR2 fun j _ _ => by rw [hx]; exact nil_lv j)
  have := RdF.read (m := true) hL hn
  simp only [resF, h5, if_true, fmO] at this
  have e : ([40, 40, 32] ++ fullF f ++ [41, 41] : List UInt8) = [40] ++ ([40] ++ ([32] ++ (fullF f ++ ([41] ++ [41])))) := by simp
  rw [e]
  exact this
/-! ### where a metavariable cannot stand -/
theorem thenO_bad {r : Option Ot} {f : Ob → Nat → Option Ot} {j e : Nat} (h : r = some (.bad j e)) : thenO r f = some (.bad j e) := by subst h; rfl
theorem err_meta {ts : List Tok} {g : Gl} {k s : Nat} {o : Ob} {k' : Nat} (h : Rd true ts g k s o k') : Rd false ts g k s o k' ∨ ∃ j n, run false ts n g k s = some (.bad j 50) ∧ (tkA ts j).k = 2 := by
  induction h with
  | binU hi _ ih =>
    rcases ih with h | ⟨j, n, h, hk⟩
    · exact .inl (.binU hi h)
    · exact .inr ⟨j, n + 1, by unfold run; rw [if_neg hi]; exact h, hk⟩
  | binR hi hr _ ht _ ih1 ih2 =>
    rcases ih1 with h1 | ⟨j, n, h, hk⟩
    · rcases ih2 with h2 | ⟨j, n, h, hk⟩
      · exact .inl (.binR hi hr h1 ht h2)
      · obtain ⟨n1, h1⟩ := rd_run h1
        refine .inr ⟨j, max n1 n + 1, ?_, hk⟩
        unfold run
        rw [if_pos hi, thenO_of (run_le _ _ (Nat.le_max_left _ _) h1), if_pos hr, if_pos ht, thenO_bad (run_le _ _ (Nat.le_max_right _ _) h)]
    · exact .inr ⟨j, n + 1, by unfold run; rw [if_pos hi, thenO_bad h], hk⟩
  | binN hi hr _ ht ih1 =>
    rcases ih1 with h1 | ⟨j, n, h, hk⟩
    · exact .inl (.binN hi hr h1 ht)
    · exact .inr ⟨j, n + 1, by unfold run; rw [if_pos hi, thenO_bad h], hk⟩
  | binL hi hr _ _ ih1 ih2 =>
    rcases ih1 with h1 | ⟨j, n, h, hk⟩
    · rcases ih2 with h2 | ⟨j, n, h, hk⟩
      · exact .inl (.binL hi hr h1 h2)
      · obtain ⟨n1, h1⟩ := rd_run h1
        refine .inr ⟨j, max n1 n + 1, ?_, hk⟩
        unfold run
        rw [if_pos hi, thenO_of (run_le _ _ (Nat.le_max_left _ _) h1), if_neg hr, run_le _ _ (Nat.le_max_right _ _) h]
    · exact .inr ⟨j, n + 1, by unfold run; rw [if_pos hi, thenO_bad h], hk⟩
  | loopY ht _ _ ih1 ih2 =>
    rcases ih1 with h1 | ⟨j, n, h, hk⟩
    · rcases ih2 with h2 | ⟨j, n, h, hk⟩
      · exact .inl (.loopY ht h1 h2)
      · obtain ⟨n1, h1⟩ := rd_run h1
        refine .inr ⟨j, max n1 n + 1, ?_, hk⟩
        unfold run
        rw [if_pos ht, thenO_of (run_le _ _ (Nat.le_max_left _ _) h1), run_le _ _ (Nat.le_max_right _ _) h]
    · exact .inr ⟨j, n + 1, by unfold run; rw [if_pos ht, thenO_bad h], hk⟩
  | loopN ht => exact .inl (.loopN ht)
  | unB hs hu _ ih =>
    rcases ih with h | ⟨j, n, h, hk⟩
    · exact .inl (.unB hs hu h)
    · exact .inr ⟨j, n + 1, by unfold run; rw [if_neg (by omega), hu]; exact h, hk⟩
  | unQ hs hu ho hv _ ih =>
    rcases ih with h | ⟨j, n, h, hk⟩
    · exact .inl (.unQ hs hu ho hv h)
    · exact .inr ⟨j, n + 1, by unfold run; rw [if_neg (by omega), hu]; simp only []; rw [if_pos ho, if_pos hv, thenO_bad h], hk⟩
  | unS hs hu ho _ ih =>
    rcases ih with h | ⟨j, n, h, hk⟩
    · exact .inl (.unS hs hu ho h)
    · exact .inr ⟨j, n + 1, by unfold run; rw [if_neg (by omega), hu]; simp only []; rw [if_neg ho, thenO_bad h], hk⟩
  | par ht _ h2 ih =>
    rcases ih with h | ⟨j, n, h, hk⟩
    · exact .inl (.par ht h h2)
    · exact .inr ⟨j, n + 1, by unfold run; rw [if_pos ht, thenO_bad h], hk⟩
  | fls ht => exact .inl (.fls ht)
  | @mt k s o k' h1 h2 h3 h4 => exact .inr ⟨k, 1, by unfold run; rw [if_neg h1, if_neg h2, if_pos h3]; simp [metaP, isFM_false], h3⟩
  | atom h1 h2 h3 h4 _ ih =>
    rcases ih with h | ⟨j, n, h, hk⟩
    · exact .inl (.atom h1 h2 h3 h4 h)
    · exact .inr ⟨j, n + 1, by unfold run; rw [if_neg h1, if_neg h2, if_neg h3, if_pos h4, thenO_bad h], hk⟩
  | argY ht _ h2 ih =>
    rcases ih with h | ⟨j, n, h, hk⟩
    · exact .inl (.argY ht h h2)
    · exact .inr ⟨j, n + 1, by unfold run; rw [if_pos ht, thenO_bad h], hk⟩
  | argN ht => exact .inl (.argN ht)
  | lisM _ ht _ ih1 ih2 =>
    rcases ih1 with h1 | ⟨j, n, h, hk⟩
    · rcases ih2 with h2 | ⟨j, n, h, hk⟩
      · exact .inl (.lisM h1 ht h2)
      · obtain ⟨n1, h1⟩ := rd_run h1
        refine .inr ⟨j, max n1 n + 1, ?_, hk⟩
        unfold run
        rw [thenO_of (run_le _ _ (Nat.le_max_left _ _) h1), if_pos ht, run_le _ _ (Nat.le_max_right _ _) h]
    · exact .inr ⟨j, n + 1, by unfold run; rw [thenO_bad h], hk⟩
  | lisE _ ht ih =>
    rcases ih with h | ⟨j, n, h, hk⟩
    · exact .inl (.lisE h ht)
    · exact .inr ⟨j, n + 1, by unfold run; rw [thenO_bad h], hk⟩
  | @tmM k s hs hk h1 => exact .inr ⟨k, 1, by unfold run; rw [if_neg (by omega), if_pos hk, if_neg (by rw [isTM_false]; decide)], hk⟩
  | tmV hs hk h1 => exact .inl (.tmV hs hk h1)
  | tmF hs hk h1 h2 _ ih =>
    rcases ih with h | ⟨j, n, h, hk⟩
    · exact .inl (.tmF hs hk h1 h2 h)
    · rename_i k s o k' _ _
      rename_i hk0
      exact .inr ⟨j, n + 1, by unfold run; rw [if_neg (by omega), if_neg ‹_›, if_neg h1, if_pos h2, thenO_bad h], hk⟩
/-- Tokens stand where their places say. -/
theorem lex_text {a : Nat} {l : List UInt8} {ts : List Tok} {p : Nat} {e : Int} (h : LexL a l ts p e) : ∀ t ∈ ts, (l.drop (t.p - a)).take t.t.size = bys t.t := by
  induction h with
  | nil a => intro t ht; rw [List.mem_singleton] at ht; subst ht; rfl
  | @blank a c l ts p e hb h ih =>
    intro t ht
    have hp := ((lex_places h).2 t ht).1
    have := ih t ht
    obtain ⟨d, hd⟩ : ∃ d, t.p = a + 1 + d := ⟨t.p - (a + 1), by omega⟩
    rw [hd] at this ⊢
    rw [show a + 1 + d - a = d + 1 by omega, List.drop_succ_cons]
    rw [show a + 1 + d - (a + 1) = d by omega] at this
    exact this
  | bad _ _ => intro t ht; cases ht
  | @tok a c l r ts p e hb he hs h ih =>
    intro t ht
    rcases List.mem_cons.1 ht with rfl | ht
    · simp only [Nat.sub_self, List.drop_zero]
      rw [hs]
      exact List.take_left' rfl
    · have hp := ((lex_places h).2 t ht).1
      have := ih t ht
      obtain ⟨d, hd⟩ : ∃ d, t.p = a + (readL c l).t.size + d := ⟨t.p - (a + (readL c l).t.size), by omega⟩
      rw [hd] at this ⊢
      rw [hs, show a + (readL c l).t.size + d - a = (bys (readL c l).t).length + d by show _ = (readL c l).t.size + d; omega, List.drop_append, List.drop_of_length_le (by omega), List.nil_append, Nat.add_sub_cancel_left]
      rw [show a + (readL c l).t.size + d - (a + (readL c l).t.size) = d by omega] at this
      exact this
/-- A right schema that is no right formula is no formula: the error is at a metavariable. -/
theorem rdF_not {f : Fm} (h : schF f = true) (hn : ¬ rightF f = true) : ∃ p, RdF false (fullF f) (.bad p 50) ∧ (fullF f)[p]? = some 63 := by
  obtain ⟨hg, _⟩ := good_of_sch h
  obtain ⟨ts, hL, hA, h5, hx⟩ := lx_all (lx_F f 1 hg) (fun b l e => by cases e)
  have hd := depth_goodF f 1 hg
  simp only at hd
  have hR := rd_F (m := true) (ts := ts) (D := ⟨40, true⟩) (fun h => h) f 1 0 0 hg (by omega) hA (by rw [Nat.zero_add, hx]; decide) (by rw [Nat.zero_add, hx]; decide)
  rw [Nat.zero_add] at hR
  have hB := un_bin (i := 0) (by omega) hR fun j _ _ => by rw [hx]; exact nil_lv j
  rcases err_meta hB with h1 | ⟨j, n, h1, hk⟩
  · exfalso
    have := right_sch h1
    simp only [fmO] at this
    rw [h] at this
    exact hn this.symm
  · have hj : j < ts.length := by
      rcases Nat.lt_or_ge j ts.length with h2 | h2
      · exact h2
      · unfold tkA at hk
        rw [List.getD_eq_getElem?_getD, List.getElem?_eq_none h2] at hk
        cases hk
    have hget : ts[j]? = some (tkA ts j) := by unfold tkA; rw [List.getD_eq_getElem?_getD, List.getElem?_eq_getElem hj]; rfl
    have hmem := List.mem_of_getElem? hget
    obtain ⟨r, hr⟩ := meta_text hL _ hmem hk
    have htx := lex_text hL _ hmem
    rw [Nat.sub_zero, hr] at htx
    refine ⟨(tkA ts j).p, .read hL h1, ?_⟩
    have hsz : (tkA ts j).t.size = r.length + 1 := by
      have : (bys (tkA ts j).t).length = (tkA ts j).t.size := rfl
      rw [hr] at this; simp at this; omega
    rw [hsz] at htx
    have h0 := congrArg (fun l => l[0]?) htx
    simp only [List.getElem?_cons_zero] at h0
    rw [List.getElem?_take, if_pos (by omega), List.getElem?_drop, Nat.add_zero] at h0
    exact h0
end Go.Proofs.YtdobflpbkfkmgaaDoor
