/- The plain law of Full: a right schema's text is lexed to its tokens. No program in sight. -/
import Derived.Test.YtdobflpbkfkmgaaDoorFua
import Derived.Test.YtdobflpbkfkmgaaDoorMju
namespace Go.Proofs.YtdobflpbkfkmgaaDoor
open Go Go.RowKit Go.FR
set_option linter.unusedVariables false
set_option linter.unusedSimpArgs false
set_option linter.unusedSectionVars false
def kindN (s : ByteArray) : Int := if metaB s = true then 2 else 1
mutual
def fullT : Tm → List UInt8
  | .mk _ nm args => bys nm ++ fullA args
def fullA : List Tm → List UInt8
  | [] => []
  | a :: r => [40] ++ ((fullT a ++ fullR r) ++ [41])
def fullR : List Tm → List UInt8
  | [] => []
  | t :: r => [44] ++ (fullT t ++ fullR r)
end
mutual
def toksT : Tm → List (Int × ByteArray)
  | .mk _ nm args => [(kindN nm, nm)] ++ toksA args
def toksA : List Tm → List (Int × ByteArray)
  | [] => []
  | a :: r => [(4, mkS [40])] ++ ((toksT a ++ toksR r) ++ [(4, mkS [41])])
def toksR : List Tm → List (Int × ByteArray)
  | [] => []
  | t :: r => [(4, mkS [44])] ++ (toksT t ++ toksR r)
end
def binO (op : Nat) : Bool := decide (op = 4 ∨ op = 5 ∨ op = 6 ∨ op = 7 ∨ op = 14)
def argN (args : List Tm) (i : Nat) : ByteArray := (args.getD i (.mk false emp [])).name
/-- A formula's text, its parts' texts given. -/
def bodyF (op : Nat) (nm : ByteArray) (args : List Tm) (L : List (List UInt8)) : List UInt8 :=
  if op = 1 then bys nm ++ fullA args
  else if op = 2 then [102, 97, 108, 115, 101]
  else if op = 15 then bys nm
  else if op = 16 then bys nm ++ ([91] ++ (bys (argN args 1) ++ ([47] ++ (bys (argN args 0) ++ [93]))))
  else if binO op = true then [40] ++ (L.getD 0 [] ++ ([32] ++ (opS op ++ ([32] ++ (L.getD 1 [] ++ [41])))))
  else if op = 8 ∨ op = 9 then opS op ++ ([32] ++ (bys nm ++ ([32] ++ L.getD 0 [])))
  else opS op ++ ([32] ++ L.getD 0 [])
def bodyK (op : Nat) (nm : ByteArray) (args : List Tm) (L : List (List (Int × ByteArray))) : List (Int × ByteArray) :=
  if op = 1 then [(kindN nm, nm)] ++ toksA args
  else if op = 2 then [(3, mkS [102, 97, 108, 115, 101])]
  else if op = 15 then [(kindN nm, nm)]
  else if op = 16 then [(kindN nm, nm)] ++ ([(4, mkS [91])] ++ ([(kindN (argN args 1), argN args 1)] ++ ([(4, mkS [47])] ++ ([(kindN (argN args 0), argN args 0)] ++ [(4, mkS [93])]))))
  else if binO op = true then [(4, mkS [40])] ++ (L.getD 0 [] ++ ([] ++ ([(opK op, mkS (opS op))] ++ ([] ++ (L.getD 1 [] ++ [(4, mkS [41])])))))
  else if op = 8 ∨ op = 9 then [(opK op, mkS (opS op))] ++ ([] ++ ([(kindN nm, nm)] ++ ([] ++ L.getD 0 [])))
  else [(opK op, mkS (opS op))] ++ ([] ++ L.getD 0 [])
mutual
def fullF : Fm → List UInt8
  | .mk op nm args subs => bodyF op nm args (fullFs subs)
def fullFs : List Fm → List (List UInt8)
  | [] => []
  | f :: r => fullF f :: fullFs r
end
mutual
def toksF : Fm → List (Int × ByteArray)
  | .mk op nm args subs => bodyK op nm args (toksFs subs)
def toksFs : List Fm → List (List (Int × ByteArray))
  | [] => []
  | f :: r => toksF f :: toksFs r
end
theorem sep_cons {c : UInt8} {x : List UInt8} (h : alL c = false) : sepL (c :: x) := fun b l e => by cases e; exact h
theorem Lx.weak {u : List UInt8} {K : List (Int × ByteArray)} (h : Lx u K anyL) (S : List UInt8 → Prop) : Lx u K S := fun a r ts p e _ hL => h a r ts p e trivial hL
/-- A name or a metavariable. -/
def nmB (s : ByteArray) : Bool := nameB s || metaB s
theorem name_not_meta {s : ByteArray} (h : nameB s = true) : metaB s = false := by
  cases hm : metaB s with
  | false => rfl
  | true =>
    obtain ⟨c, l, hb, hc, _⟩ := name_parts h
    obtain ⟨l', hb', _⟩ := meta_parts hm
    rw [hb] at hb'
    cases hb'
    exact absurd hc (by decide)
theorem Lx.nm {s : ByteArray} (h : nmB s = true) : Lx (bys s) [(kindN s, s)] sepL := by
  unfold kindN
  by_cases hm : metaB s = true
  · rw [if_pos hm]; exact .mark hm
  · rw [if_neg hm]
    simp only [nmB, Bool.or_eq_true] at h
    rcases h with h | h
    · exact .name h
    · exact absurd h hm
theorem var_nm {s : ByteArray} (h : checkB varB digitB s = true) : nmB s = true := by simp [nmB, nameB, h]
theorem fun_nm {s : ByteArray} (h : checkB funB alnumB s = true) : nmB s = true := by simp [nmB, nameB, h]
theorem cap_nm {s : ByteArray} (h : checkB capB alnumB s = true) : nmB s = true := by simp [nmB, nameB, h]
theorem tmB_nm {s : ByteArray} (h : tmB s = true) : nmB s = true := by simp [nmB, metaB, h]
theorem fmB_nm {s : ByteArray} (h : fmB s = true) : nmB s = true := by simp [nmB, metaB, h]
theorem sep_R (l : List Tm) {r : List UInt8} (h : sepL r) : sepL (fullR l ++ r) := by
  cases l with
  | nil => exact h
  | cons t l => exact sep_cons (by decide)
theorem sep_A (l : List Tm) {r : List UInt8} (h : sepL r) : sepL (fullA l ++ r) := by
  cases l with
  | nil => exact h
  | cons t l => exact sep_cons (by decide)
mutual
theorem lx_T {D : Dp} : ∀ (t : Tm) (d : Nat), goodT D d t = true → Lx (fullT t) (toksT t) sepL
  | .mk v nm args, d, h => by
    simp only [goodT, Bool.and_eq_true, decide_eq_true_eq] at h
    have hn : nmB nm = true ∧ goodTs D (d + 1) args = true := by
      cases v with
      | true =>
        have h2 := h.2
        simp only [if_true, Bool.and_eq_true, Bool.or_eq_true, List.isEmpty_iff] at h2
        refine ⟨?_, by rw [h2.1]; rfl⟩
        rcases h2.2 with h3 | h3
        · exact var_nm h3
        · exact tmB_nm h3.2
      | false =>
        have h2 := h.2
        simp only [Bool.false_eq_true, if_false, Bool.and_eq_true] at h2
        exact ⟨fun_nm h2.1.2, h2.2⟩
    simp only [fullT, toksT]
    exact (Lx.nm hn.1).comp (lx_A args (d + 1) hn.2) fun r hr => sep_A args hr
theorem lx_A {D : Dp} : ∀ (l : List Tm) (d : Nat), goodTs D d l = true → Lx (fullA l) (toksA l) sepL
  | [], d, _ => Lx.nil _
  | a :: r, d, h => by
    simp only [goodTs, Bool.and_eq_true] at h
    simp only [fullA, toksA]
    refine Lx.open_.comp (s2 := sepL) (((lx_T a d h.1).comp (lx_R r d h.2) fun q hq => sep_R r hq).comp (Lx.shut.weak sepL) fun q _ => sep_cons (by decide)) fun _ _ => trivial
theorem lx_R {D : Dp} : ∀ (l : List Tm) (d : Nat), goodTs D d l = true → Lx (fullR l) (toksR l) sepL
  | [], d, _ => Lx.nil _
  | t :: r, d, h => by
    simp only [goodTs, Bool.and_eq_true] at h
    simp only [fullR, toksR]
    exact Lx.comma.comp (s2 := sepL) ((lx_T t d h.1).comp (lx_R r d h.2) fun q hq => sep_R r hq) fun _ _ => trivial
end
/-- What a right formula's fields are. -/
structure GoodF (D : Dp) (d : Nat) (op : Nat) (nm : ByteArray) (args : List Tm) (subs : List Fm) : Prop where
  dp : d ≤ D.n
  op1 : 1 ≤ op ∧ op ≤ 16
  nm : namedB (rN op) nm = true
  inst : op = 16 → instB args = true
  al : args.length ≤ rA op
  sl : subs.length = rB op
  ga : goodTs D (d + 1) args = true
  gs : ∀ f ∈ subs, goodF D (d + 1) f = true
  sch : 15 ≤ op → D.s = true
theorem goodFs_mem {D : Dp} {d : Nat} {l : List Fm} (h : goodFs D d l = true) : ∀ f ∈ l, goodF D d f = true := by
  induction l with
  | nil => intro f hf; cases hf
  | cons x r ih =>
    simp only [goodFs, Bool.and_eq_true] at h
    intro f hf
    rcases List.mem_cons.1 hf with rfl | hf
    · exact h.1
    · exact ih h.2 f hf
theorem goodF_of {D : Dp} {d op : Nat} {nm : ByteArray} {args : List Tm} {subs : List Fm} (h : goodF D d (.mk op nm args subs) = true) : GoodF D d op nm args subs := by
  simp only [goodF, Bool.and_eq_true, Bool.or_eq_true, decide_eq_true_eq, Bool.not_eq_true', decide_eq_false_iff_not] at h
  obtain ⟨⟨⟨⟨⟨⟨⟨h1, h2⟩, h3⟩, h4⟩, h5⟩, h6⟩, h7⟩, h8⟩ := h
  refine ⟨h1, ?_, h3, fun e => h4.resolve_left (fun hh => hh e), h5, h6, h7, goodFs_mem h8, ?_⟩
  · simp only [rR, rS, Bool.and_eq_true, decide_eq_true_eq] at h2; omega
  · intro h15
    rcases h2 with h2 | h2
    · simp only [rR, Bool.and_eq_true, decide_eq_true_eq] at h2; omega
    · exact h2.1
theorem fullFs_get (l : List Fm) (i : Nat) : (fullFs l).getD i [] = ((l[i]?).map fullF).getD [] := by
  induction l generalizing i with
  | nil => simp [fullFs]
  | cons f r ih => cases i with
    | zero => simp [fullFs]
    | succ i => simpa [fullFs] using ih i
theorem toksFs_get (l : List Fm) (i : Nat) : (toksFs l).getD i [] = ((l[i]?).map toksF).getD [] := by
  induction l generalizing i with
  | nil => simp [toksFs]
  | cons f r ih => cases i with
    | zero => simp [toksFs]
    | succ i => simpa [toksFs] using ih i
theorem one_of {α : Type} {l : List α} (h : l.length = 1) : ∃ a, l = [a] := by
  match l, h with
  | [a], _ => exact ⟨a, rfl⟩
theorem two_of {α : Type} {l : List α} (h : l.length = 2) : ∃ a b, l = [a, b] := by
  match l, h with
  | [a, b], _ => exact ⟨a, b, rfl⟩
theorem sep_sh {x r : List UInt8} : sepL ([41] ++ x) := sep_cons (by decide)
theorem lx_body {D : Dp} {d op : Nat} {nm : ByteArray} {args : List Tm} {subs : List Fm} (h : GoodF D d op nm args subs) (IH : ∀ f ∈ subs, Lx (fullF f) (toksF f) sepL) : Lx (bodyF op nm args (fullFs subs)) (bodyK op nm args (toksFs subs)) sepL := by
  have h1 := h.op1
  have B : ∀ {u : List UInt8} {K : List (Int × ByteArray)}, Lx u K sepL → Lx ([32] ++ u) ([] ++ K) sepL := fun h => Lx.blank.comp h fun _ _ => trivial
  have S32 : ∀ x : List UInt8, sepL ([32] ++ x) := fun x => sep_cons (by decide)
  have hnm := h.nm
  rcases (by omega : op = 1 ∨ op = 2 ∨ op = 15 ∨ op = 16 ∨ (op = 4 ∨ op = 5 ∨ op = 6 ∨ op = 7 ∨ op = 14) ∨ (op = 8 ∨ op = 9) ∨ (op = 3 ∨ op = 10 ∨ op = 11 ∨ op = 12 ∨ op = 13)) with rfl | rfl | rfl | rfl | ho | ho | ho
  · simp only [bodyF, bodyK, if_true]
    exact (Lx.nm (cap_nm (by simpa [namedB, rN] using hnm))).comp (lx_A args (d + 1) h.ga) fun r hr => sep_A args hr
  · simp only [bodyF, bodyK, show ¬ (2 = 1) by decide, if_false, if_true]
    exact Lx.word (by decide)
  · simp only [bodyF, bodyK, show ¬ (15 = 1) by decide, show ¬ (15 = 2) by decide, if_false, if_true]
    exact Lx.nm (fmB_nm (by simpa [namedB, rN] using hnm))
  · simp only [bodyF, bodyK, show ¬ (16 = 1) by decide, show ¬ (16 = 2) by decide, show ¬ (16 = 15) by decide, if_false, if_true]
    have hi := h.inst rfl
    obtain ⟨x, t, rfl⟩ : ∃ x t, args = [x, t] := by
      match args, hi with
      | [x, t], _ => exact ⟨x, t, rfl⟩
    simp only [instB, Bool.and_eq_true] at hi
    have hx : argN [x, t] 0 = x.name := rfl
    have ht : argN [x, t] 1 = t.name := rfl
    rw [hx, ht]
    obtain ⟨l, hl, _⟩ := meta_parts (s := t.name) (by simp [metaB, hi.2])
    refine (Lx.nm (fmB_nm (by simpa [namedB, rN] using hnm))).comp (s2 := sepL) (Lx.brack.comp ((Lx.nm (tmB_nm hi.2)).comp (Lx.slash.comp ((Lx.nm (var_nm hi.1.1.2)).comp (Lx.close.weak sepL) fun q _ => sep_cons (by decide)) fun _ _ => trivial) fun q _ => sep_cons (by decide)) ?_) fun q _ => sep_cons (by decide)
    intro q _
    rw [hl]
    exact ⟨_, rfl⟩
  · have n1 : ¬ op = 1 := by omega
    have n2 : ¬ op = 2 := by omega
    have n15 : ¬ op = 15 := by omega
    have n16 : ¬ op = 16 := by omega
    have hb : binO op = true := by simp [binO, ho]
    obtain ⟨f, g, rfl⟩ := two_of (h.sl.trans (show rB op = 2 by rcases ho with rfl | rfl | rfl | rfl | rfl <;> rfl))
    simp only [bodyF, bodyK, if_neg n1, if_neg n2, if_neg n15, if_neg n16, if_pos hb, fullFs, toksFs, List.getD_cons_zero, List.getD_cons_succ]
    have hf := IH f (by simp)
    have hg := IH g (by simp)
    exact Lx.open_.comp (s2 := sepL) (hf.comp (B ((Lx.op (by omega) (by omega)).comp (B (hg.comp (Lx.shut.weak sepL) fun q _ => sep_cons (by decide))) fun q _ => S32 _)) fun q _ => S32 _) fun _ _ => trivial
  · have n1 : ¬ op = 1 := by omega
    have n2 : ¬ op = 2 := by omega
    have n15 : ¬ op = 15 := by omega
    have n16 : ¬ op = 16 := by omega
    have hb : ¬ binO op = true := by rcases ho with rfl | rfl <;> decide
    obtain ⟨f, rfl⟩ := one_of (h.sl.trans (show rB op = 1 by rcases ho with rfl | rfl <;> rfl))
    simp only [bodyF, bodyK, if_neg n1, if_neg n2, if_neg n15, if_neg n16, if_neg hb, if_pos ho, fullFs, toksFs, List.getD_cons_zero]
    have hf := IH f (by simp)
    have hv : checkB varB digitB nm = true := by rcases ho with rfl | rfl <;> simpa [namedB, rN] using hnm
    exact (Lx.op (by omega) (by omega)).comp (B ((Lx.nm (var_nm hv)).comp (B hf) fun q _ => S32 _)) fun q _ => S32 _
  · have n1 : ¬ op = 1 := by omega
    have n2 : ¬ op = 2 := by omega
    have n15 : ¬ op = 15 := by omega
    have n16 : ¬ op = 16 := by omega
    have n8 : ¬ (op = 8 ∨ op = 9) := by omega
    have hb : ¬ binO op = true := by rcases ho with rfl | rfl | rfl | rfl | rfl <;> decide
    obtain ⟨f, rfl⟩ := one_of (h.sl.trans (show rB op = 1 by rcases ho with rfl | rfl | rfl | rfl | rfl <;> rfl))
    simp only [bodyF, bodyK, if_neg n1, if_neg n2, if_neg n15, if_neg n16, if_neg hb, if_neg n8, fullFs, toksFs, List.getD_cons_zero]
    have hf := IH f (by simp)
    exact (Lx.op (by omega) (by omega)).comp (B hf) fun q _ => S32 _
mutual
theorem lx_F {D : Dp} : ∀ (f : Fm) (d : Nat), goodF D d f = true → Lx (fullF f) (toksF f) sepL
  | .mk op nm args subs, d, h => by
    have hg := goodF_of h
    simp only [fullF, toksF]
    exact lx_body hg (lx_Fs subs (d + 1) hg.gs)
theorem lx_Fs {D : Dp} : ∀ (l : List Fm) (d : Nat), (∀ f ∈ l, goodF D d f = true) → ∀ f ∈ l, Lx (fullF f) (toksF f) sepL
  | [], _, _, f, hf => by cases hf
  | x :: r, d, h, f, hf => by
    rcases List.mem_cons.1 hf with he | hf
    · rw [he]; exact lx_F x d (h x (by simp))
    · exact lx_Fs r d (fun g hg => h g (by simp [hg])) f hf
end
end Go.Proofs.YtdobflpbkfkmgaaDoor
