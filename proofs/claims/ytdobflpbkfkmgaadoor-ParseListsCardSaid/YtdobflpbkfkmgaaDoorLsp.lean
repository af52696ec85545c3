/- The plain law of ParseLists. No program in sight. -/
import Derived.Test.YtdobflpbkfkmgaaDoorFue
import Derived.Test.YtdobflpbkfkmgaaDoorFia
import Derived.Test.YtdobflpbkfkmgaaDoorPbz
namespace Go.Proofs.YtdobflpbkfkmgaaDoor
open Go Go.RowKit Go.FR
set_option linter.unusedVariables false
set_option linter.unusedSimpArgs false
set_option linter.unusedSectionVars false
theorem len24_body {D : Dp} {d op : Nat} {nm : ByteArray} {args : List Tm} {subs : List Fm} (h : GoodF D d op nm args subs) (IH : ∀ f ∈ subs, (fullF f).length ≤ 24 * nodesF f) : (bodyF op nm args (fullFs subs)).length ≤ 24 * (1 + nodesTs args + nodesL subs) := by
  have h1 := h.op1
  have hnm := h.nm
  have ho := opS_len op
  rcases (by omega : op = 1 ∨ op = 2 ∨ op = 15 ∨ op = 16 ∨ (op = 4 ∨ op = 5 ∨ op = 6 ∨ op = 7 ∨ op = 14) ∨ (op = 8 ∨ op = 9) ∨ (op = 3 ∨ op = 10 ∨ op = 11 ∨ op = 12 ∨ op = 13)) with rfl | rfl | rfl | rfl | ho | ho | ho
  · have h3 := nm_len (cap_nm (by simpa [namedB, rN] using hnm))
    have h4 := len_A args (d + 1) h.ga
    simp only [bodyF, if_true, List.length_append]; omega
  · simp only [bodyF, show ¬ (2 = 1) by decide, if_false, if_true, List.length_cons, List.length_nil]; omega
  · have h3 := nm_len (fmB_nm (by simpa [namedB, rN] using hnm))
    simp only [bodyF, show ¬ (15 = 1) by decide, show ¬ (15 = 2) by decide, if_false, if_true]; omega
  · have hi := h.inst rfl
    obtain ⟨x, t, rfl⟩ : ∃ x t, args = [x, t] := by
      match args, hi with
      | [x, t], _ => exact ⟨x, t, rfl⟩
    simp only [instB, Bool.and_eq_true] at hi
    have h3 := nm_len (fmB_nm (by simpa [namedB, rN] using hnm))
    have h4 : (bys (argN [x, t] 0)).length ≤ 16 := nm_len (s := x.name) (var_nm hi.1.1.2)
    have h5 : (bys (argN [x, t] 1)).length ≤ 16 := nm_len (s := t.name) (tmB_nm hi.2)
    have p1 := nodesT_pos x
    have p2 := nodesT_pos t
    simp only [bodyF, show ¬ (16 = 1) by decide, show ¬ (16 = 2) by decide, show ¬ (16 = 15) by decide, if_false, if_true, List.length_append, List.length_cons, List.length_nil, nodesTs]
    omega
  · have n1 : ¬ op = 1 := by omega
    have n2 : ¬ op = 2 := by omega
    have n15 : ¬ op = 15 := by omega
    have n16 : ¬ op = 16 := by omega
    have hb : binO op = true := by simp [binO, ho]
    obtain ⟨f, g, rfl⟩ := two_of (h.sl.trans (show rB op = 2 by rcases ho with rfl | rfl | rfl | rfl | rfl <;> rfl))
    have hf := IH f (by simp)
    have hg := IH g (by simp)
    simp only [bodyF, if_neg n1, if_neg n2, if_neg n15, if_neg n16, if_pos hb, fullFs, List.getD_cons_zero, List.getD_cons_succ, List.length_append, List.length_cons, List.length_nil, nodesL]
    omega
  · have n1 : ¬ op = 1 := by omega
    have n2 : ¬ op = 2 := by omega
    have n15 : ¬ op = 15 := by omega
    have n16 : ¬ op = 16 := by omega
    have hb : ¬ binO op = true := by rcases ho with rfl | rfl <;> decide
    obtain ⟨f, rfl⟩ := one_of (h.sl.trans (show rB op = 1 by rcases ho with rfl | rfl <;> rfl))
    have hf := IH f (by simp)
    have hv : checkB varB digitB nm = true := by rcases ho with rfl | rfl <;> simpa [namedB, rN] using hnm
    have h3 := nm_len (var_nm hv)
    simp only [bodyF, if_neg n1, if_neg n2, if_neg n15, if_neg n16, if_neg hb, if_pos ho, fullFs, List.getD_cons_zero, List.length_append, List.length_cons, List.length_nil, nodesL]
    omega
  · have n1 : ¬ op = 1 := by omega
    have n2 : ¬ op = 2 := by omega
    have n15 : ¬ op = 15 := by omega
    have n16 : ¬ op = 16 := by omega
    have n8 : ¬ (op = 8 ∨ op = 9) := by omega
    have hb : ¬ binO op = true := by rcases ho with rfl | rfl | rfl | rfl | rfl <;> decide
    obtain ⟨f, rfl⟩ := one_of (h.sl.trans (show rB op = 1 by rcases ho with rfl | rfl | rfl | rfl | rfl <;> rfl))
    have hf := IH f (by simp)
    simp only [bodyF, if_neg n1, if_neg n2, if_neg n15, if_neg n16, if_neg hb, if_neg n8, fullFs, List.getD_cons_zero, List.length_append, List.length_cons, List.length_nil, nodesL]
    omega
mutual
theorem len24_F {D : Dp} : ∀ (f : Fm) (d : Nat), goodF D d f = true → (fullF f).length ≤ 24 * nodesF f
  | .mk op nm args subs, d, h => by
    have hg := goodF_of h
    simp only [fullF, nodesF]
    exact len24_body hg (len24_Fs subs (d + 1) hg.gs)
theorem len24_Fs {D : Dp} : ∀ (l : List Fm) (d : Nat), (∀ f ∈ l, goodF D d f = true) → ∀ f ∈ l, (fullF f).length ≤ 24 * nodesF f
  | [], _, _, f, hf => by cases hf
  | x :: r, d, h, f, hf => by
    rcases List.mem_cons.1 hf with he | hf
    · rw [he]; exact len24_F x d (h x (by simp))
    · exact len24_Fs r d (fun g hg => h g (by simp [hg])) f hf
end
/-! ### tokens behind others -/
def Shf (K : Nat) (ts us : List Tok) : Prop := ∀ j, (tkA us (K + j)).k = (tkA ts j).k ∧ (tkA us (K + j)).t = (tkA ts j).t
def shO (K : Nat) : Ot → Ot
  | .ok o k => .ok o (K + k)
  | .bad k e => .bad (K + k) e
theorem thenO_sh {K : Nat} {r : Option Ot} {f f' : Ob → Nat → Option Ot} (h : ∀ o k1, f' o (K + k1) = (f o k1).map (shO K)) : thenO (r.map (shO K)) f' = (thenO r f).map (shO K) := by
  rcases r with _ | ⟨o, k⟩ | ⟨k, e⟩
  · rfl
  · exact h o k
  · rfl
theorem run_shift {K : Nat} {ts us : List Tok} (hA : Shf K ts us) (m : Bool) : ∀ (n : Nat) (g : Gl) (k s : Nat), run m us n g (K + k) s = (run m ts n g k s).map (shO K)
  | 0, g, k, s => rfl
  | n + 1, g, k, s => by
    have ih := run_shift hA m n
    have e1 : ∀ k, txt us (K + k) = txt ts k := fun k => by unfold txt; rw [(hA k).2]
    have e2 : ∀ k, isVar us (K + k) = isVar ts k := fun k => by unfold isVar; rw [(hA k).1, (hA k).2]
    have e3 : ∀ k, isFun us (K + k) = isFun ts k := fun k => by unfold isFun; rw [(hA k).1, (hA k).2]
    have e4 : ∀ k, isPre us (K + k) = isPre ts k := fun k => by unfold isPre; rw [(hA k).1, (hA k).2]
    have e5 : ∀ k, isFM m us (K + k) = isFM m ts k := fun k => by unfold isFM; rw [(hA k).1, (hA k).2]
    have e6 : ∀ k, isTM m us (K + k) = isTM m ts k := fun k => by unfold isTM; rw [(hA k).1, (hA k).2]
    have e7 : ∀ k, (tkA us (K + k)).k = (tkA ts k).k := fun k => (hA k).1
    have e8 : ∀ k, (tkA us (K + k)).t = (tkA ts k).t := fun k => (hA k).2
    have e9 : metaP m us (K + k) = shO K (metaP m ts k) := by
      simp only [metaP, Nat.add_assoc, e1, e2, e5, e6, e8]
      split <;> (try split) <;> (try split) <;> (try split) <;> (try split) <;> (try split) <;> rfl
    cases g with
    | bin i =>
      simp only [run]
      split
      · rw [ih]
        refine thenO_sh fun o k1 => ?_
        simp only [e1]
        split
        · split
          · rw [Nat.add_assoc, ih]
            exact thenO_sh fun o2 k2 => rfl
          · rfl
        · exact ih _ _ _
      · exact ih _ _ _
    | loop i f =>
      simp only [run, e1]
      split
      · rw [Nat.add_assoc, ih]
        exact thenO_sh fun o k1 => ih _ _ _
      · rfl
    | un =>
      simp only [run, e1]
      split
      · rfl
      · cases unO (txt ts k) with
        | none => exact ih _ _ _
        | some op =>
          simp only [Nat.add_assoc, e2, e8]
          split
          · split
            · rw [ih]
              exact thenO_sh fun o k1 => rfl
            · rfl
          · rw [ih]
            exact thenO_sh fun o k1 => rfl
    | basic =>
      simp only [run, e1, e7, e4, e8, e9]
      split
      · rw [Nat.add_assoc, ih]
        refine thenO_sh fun o k1 => ?_
        simp only [e1]
        split <;> rfl
      · split
        · rfl
        · split
          · rfl
          · split
            · rw [Nat.add_assoc, ih]
              exact thenO_sh fun o k1 => rfl
            · rfl
    | args =>
      simp only [run, e1]
      split
      · rw [Nat.add_assoc, ih]
        refine thenO_sh fun o k1 => ?_
        simp only [e1]
        split <;> rfl
      · rfl
    | list acc =>
      simp only [run]
      rw [ih]
      refine thenO_sh fun o k1 => ?_
      simp only [e1]
      split
      · rw [Nat.add_assoc, ih]
      · rfl
    | term =>
      simp only [run, e7, e6, e2, e3, e8]
      split
      · rfl
      · split
        · split <;> rfl
        · split
          · rfl
          · split
            · rw [Nat.add_assoc, ih]
              exact thenO_sh fun o k1 => rfl
            · rfl
/-! ### the text of a list -/
def lsR : List Fm → List UInt8
  | [] => []
  | f :: r => [44] ++ ([32] ++ (fullF f ++ lsR r))
def lsF : List Fm → List UInt8
  | [] => []
  | f :: r => fullF f ++ lsR r
theorem lsR_snoc (l : List Fm) (f : Fm) : lsR (l ++ [f]) = lsR l ++ ([44] ++ ([32] ++ fullF f)) := by
  induction l with
  | nil => simp [lsR]
  | cons x r ih => simp only [List.cons_append, lsR, ih, List.append_assoc]
theorem lsF_snoc {l : List Fm} (f : Fm) (h : l ≠ []) : lsF (l ++ [f]) = lsF l ++ ([44] ++ ([32] ++ fullF f)) := by
  cases l with
  | nil => exact absurd rfl h
  | cons x r => simp only [List.cons_append, lsF, lsR_snoc, List.append_assoc]
theorem lsR_len {D : Dp} : ∀ l : List Fm, (∀ f ∈ l, goodF D 1 f = true) → (lsR l).length ≤ 24 * nodesL l + 2 * l.length
  | [], _ => by simp [lsR]
  | f :: r, h => by
    have h1 := len24_F f 1 (h f (by simp))
    have h2 := lsR_len r fun g hg => h g (by simp [hg])
    simp only [lsR, List.length_append, List.length_cons, List.length_nil, nodesL]
    omega
theorem lsF_len {D : Dp} (l : List Fm) (h : ∀ f ∈ l, goodF D 1 f = true) : (lsF l).length ≤ 24 * nodesL l + 2 * l.length := by
  cases l with
  | nil => simp [lsF]
  | cons f r =>
    have h1 := len24_F f 1 (h f (by simp))
    have h2 := lsR_len r fun g hg => h g (by simp [hg])
    simp only [lsF, List.length_append, List.length_cons, nodesL]
    omega
def tlR : List Fm → List (Int × ByteArray)
  | [] => []
  | f :: r => [(4, mkS [44])] ++ (toksF f ++ tlR r)
def tlF : List Fm → List (Int × ByteArray)
  | [] => []
  | f :: r => toksF f ++ tlR r
theorem sep_lsR (l : List Fm) {r : List UInt8} (h : sepL r) : sepL (lsR l ++ r) := by
  cases l with
  | nil => exact h
  | cons f t => exact sep_cons (by decide)
theorem lx_lsR {D : Dp} : ∀ l : List Fm, (∀ f ∈ l, goodF D 1 f = true) → Lx (lsR l) (tlR l) sepL
  | [], _ => .nil _
  | f :: r, h => Lx.comma.comp (Lx.blank.comp ((lx_F f 1 (h f (by simp))).comp (lx_lsR r fun g hg => h g (by simp [hg])) fun q hq => sep_lsR r hq) fun _ _ => trivial) fun _ _ => trivial
theorem lx_lsF {D : Dp} (l : List Fm) (h : ∀ f ∈ l, goodF D 1 f = true) : Lx (lsF l) (tlF l) sepL := by
  cases l with
  | nil => exact .nil _
  | cons f r => exact (lx_F f 1 (h f (by simp))).comp (lx_lsR r fun g hg => h g (by simp [hg])) fun q hq => sep_lsR r hq
/-! ### reading it -/
def tailR (m : Bool) (ts : List Tok) (N n : Nat) (acc : List Fm) (k : Nat) : Option Ol := if txt ts k = [44] then runL m ts N n acc (k + 1) else some (.ok acc k)
theorem runL_all {D : Dp} {m : Bool} {ts : List Tok} (hm : D.s = true → m = true) (hD : D.n ≤ 40) : ∀ (l : List Fm) (acc : List Fm) (k : Nat), l ≠ [] → (∀ f ∈ l, goodF D 1 f = true) → At ts k (tlF l) → (txt ts (k + (tlF l).length) = [44] ∨ txt ts (k + (tlF l).length) = []) →
    ∃ N0, ∀ N, N0 ≤ N → ∀ n, runL m ts N (n + l.length) acc k = tailR m ts N n (acc ++ l) (k + (tlF l).length)
  | [], _, _, h0, _, _, _ => absurd rfl h0
  | f :: r, acc, k, _, hg, hA, hx => by
    have hgf := hg f (by simp)
    have hd := depth_goodF f 1 hgf
    simp only [tlF] at hA hx ⊢
    have hnx : txt ts (k + (toksF f).length) = [44] ∨ txt ts (k + (toksF f).length) = [] := by
      cases r with
      | nil => simpa [tlR] using hx
      | cons g r' =>
        have := hA.right
        simp only [tlR] at this
        exact .inl (txt_mk this.one.2.1)
    have hne : ∀ b : UInt8, b ≠ 44 → txt ts (k + (toksF f).length) ≠ [b] := fun b hb e => by
      rcases hnx with h | h
      · rw [h] at e; cases e; exact hb rfl
      · rw [h] at e; cases e
    have hlv : ∀ i, txt ts (k + (toksF f).length) ≠ lvS i := fun i => by
      rcases hnx with h | h
      · rw [h]; unfold lvS; split <;> (try split) <;> (try split) <;> (try split) <;> decide
      · rw [h]; exact nil_lv i
    have hR := un_bin (m := m) (i := 0) (by omega) (rd_F (m := m) hm f 1 k 0 hgf (by omega) hA.left (hne 40 (by decide)) (hne 91 (by decide))) fun j _ _ => hlv j
    obtain ⟨N1, hN1⟩ := rd_run hR
    cases r with
    | nil =>
      refine ⟨N1, fun N hN n => ?_⟩
      have h1 := run_le m ts hN hN1
      simp only [List.length_cons, List.length_nil, tlR, List.append_nil, Nat.zero_add]
      unfold runL
      rw [h1]
      rfl
    | cons g r' =>
      have hA2 := hA.right
      simp only [tlR] at hA2
      obtain ⟨_, hc, hA3⟩ := hA2.one
      have hx2 : txt ts (k + (toksF f).length + 1 + (tlF (g :: r')).length) = [44] ∨ txt ts (k + (toksF f).length + 1 + (tlF (g :: r')).length) = [] := by
        have e : k + (toksF f).length + 1 + (tlF (g :: r')).length = k + (toksF f ++ tlR (g :: r')).length := by simp only [tlF, tlR, List.length_append, List.length_cons, List.length_nil]; omega
        rw [e]; exact hx
      obtain ⟨N2, hN2⟩ := runL_all hm hD (g :: r') (acc ++ [f]) (k + (toksF f).length + 1) (by simp) (fun x hx => hg x (by simp [List.mem_cons.1 hx])) hA3 hx2
      refine ⟨max N1 N2, fun N hN n => ?_⟩
      have h1 := run_le m ts (Nat.le_trans (Nat.le_max_left _ _) hN) hN1
      have h2 := hN2 N (Nat.le_trans (Nat.le_max_right _ _) hN) n
      rw [show n + (f :: g :: r').length = (n + (g :: r').length) + 1 by simp only [List.length_cons]; omega]
      unfold runL
      rw [h1]
      simp only [fmO]
      rw [if_pos (txt_mk hc), h2]
      have e : k + (toksF f).length + 1 + (tlF (g :: r')).length = k + (toksF f ++ tlR (g :: r')).length := by simp only [tlF, tlR, List.length_append, List.length_cons, List.length_nil]; omega
      rw [e, List.append_assoc]
      rfl
theorem runL_total {m : Bool} {ts : List Tok} {z : Nat} (hE : Ends ts z) : ∀ (n k : Nat) (acc : List Fm), k ≤ z → z - k < n → ∃ x, runL m ts (10 * z + 100) n acc k = some x
  | 0, k, acc, hk, hn => by omega
  | n + 1, k, acc, hk, hn => by
    obtain ⟨x, hx⟩ := run_total (metas := m) hE (10 * z + 100) (.bin 0) k 0 hk (by simp) (by simp only [rank]; omega)
    have hi := run_iz hE _ _ _ _ _ hk hx
    unfold runL
    rw [hx]
    cases x with
    | bad k2 e => exact ⟨_, rfl⟩
    | ok o k2 =>
      simp only [inO, isBin] at hi
      simp only
      split
      · rename_i ht
        have hlt := hE.lt hi.2.1 (by rw [ht]; decide)
        exact runL_total hE n (k2 + 1) _ hlt (by have := hi.2.2 trivial; omega)
      · exact ⟨_, rfl⟩
theorem rdL_total (m : Bool) {l : List UInt8} (hl : l.length ≤ 16384) : ∃ r, RdL m l r := by
  obtain ⟨ts, p, e, hL⟩ := lex_total _ l (Nat.le_refl _) 0
  by_cases he : e = 0
  · subst he
    have hT := tsok_of_lex hl hL
    by_cases h5 : (tkA ts 0).k = 5
    · exact ⟨_, .read (N := 0) (n := 0) hL (by unfold runFs; rw [if_pos h5])⟩
    · obtain ⟨x, hx⟩ := runL_total (m := m) hT.en (ts.length - 1 + 1) 0 [] (Nat.zero_le _) (by omega)
      exact ⟨_, .read hL (by unfold runFs; rw [if_neg h5]; exact hx)⟩
  · exact ⟨_, .lexbad hL he⟩
/-- A text behind one that is lexed. -/
theorem lx_more {u r : List UInt8} {K : List (Int × ByteArray)} {S : List UInt8 → Prop} {ts : List Tok} {p : Nat} {e : Int} (h : Lx u K S) (hS : S r) (hL : LexL 0 r ts p e) :
    ∃ us, LexL 0 (u ++ r) us (if e = 0 then p else p + u.length) e ∧ At us 0 K ∧ Shf K.length ts us ∧ (∀ j, j < ts.length → (tkA us (K.length + j)).p = (tkA ts j).p + u.length) ∧ us.length = K.length + ts.length := by
  have h1 := lex_shift hL u.length
  obtain ⟨us, h2, hm⟩ := h 0 r _ _ _ hS h1
  have hlen : us.length = K.length := by have := congrArg List.length hm; simpa using this
  have hb : ∀ j, j < ts.length → tkA (us ++ ts.map (Tok.move u.length)) (K.length + j) = Tok.move u.length (tkA ts j) := fun j hj => by
    unfold tkA
    rw [List.getD_eq_getElem?_getD, List.getElem?_append_right (by omega), List.getElem?_map, show K.length + j - us.length = j by omega, List.getElem?_eq_getElem hj, List.getD_eq_getElem?_getD, List.getElem?_eq_getElem hj]
    rfl
  have hc : ∀ j, ts.length ≤ j → tkA (us ++ ts.map (Tok.move u.length)) (K.length + j) = ⟨5, ⟨#[]⟩, 0⟩ ∧ tkA ts j = ⟨5, ⟨#[]⟩, 0⟩ := fun j hj => by
    unfold tkA
    rw [List.getD_eq_getElem?_getD, List.getElem?_eq_none (by simp; omega), List.getD_eq_getElem?_getD, List.getElem?_eq_none hj]
    exact ⟨rfl, rfl⟩
  refine ⟨_, h2, fun i x hx => ?_, fun j => ?_, fun j hj => by rw [hb j hj]; rfl, by simp [hlen]⟩
  · have hi : i < us.length := by rw [hlen]; exact (List.getElem?_eq_some_iff.1 hx).1
    have h3 := congrArg (fun l => l[i]?) hm
    simp only [List.getElem?_map, List.getElem?_eq_getElem hi, Option.map_some, hx, Option.some.injEq] at h3
    have h4 : tkA (us ++ ts.map (Tok.move u.length)) (0 + i) = us[i] := by
      unfold tkA
      simp only [Nat.zero_add]
      rw [List.getD_eq_getElem?_getD, List.getElem?_append_left hi, List.getElem?_eq_getElem hi]; rfl
    rw [h4, ← h3]
    exact ⟨rfl, rfl⟩
  · by_cases hj : j < ts.length
    · rw [hb j hj]; exact ⟨rfl, rfl⟩
    · obtain ⟨h5, h6⟩ := hc j (by omega)
      rw [h5, h6]; exact ⟨rfl, rfl⟩
theorem sep_nil : sepL [] := fun b l e => by cases e
theorem toksF_pos {D : Dp} {f : Fm} (h : goodF D 1 f = true) : toksF f ≠ [] := by
  intro h0
  have hL := lx_F f 1 h 0 [] [⟨5, mkS [], 0 + (fullF f).length⟩] 0 0 sep_nil (.nil _)
  rw [h0] at hL
  obtain ⟨us, hL, hm⟩ := hL
  rw [List.append_nil, List.map_eq_nil_iff.1 hm, List.nil_append] at hL
  have hR := rd_F (m := true) (ts := [⟨5, mkS [], 0 + (fullF f).length⟩]) (D := D) (fun _ => rfl) f 1 0 0 h
  have e : nodesF f = 0 → False := by have := nodesF_pos f; omega
  obtain ⟨init, h1, _⟩ := lex_end hL rfl
  obtain ⟨op, nm, args, subs⟩ := f
  have hg := goodF_of h
  have h2 := hg.op1
  simp only [toksF, bodyK] at h0
  split at h0
  · simp at h0
  · split at h0
    · simp at h0
    · split at h0
      · simp at h0
      · split at h0
        · simp at h0
        · split at h0
          · simp at h0
          · split at h0 <;> simp at h0
theorem tlF_pos {D : Dp} {l : List Fm} (h0 : l ≠ []) (h : ∀ f ∈ l, goodF D 1 f = true) : 0 < (tlF l).length := by
  cases l with
  | nil => exact absurd rfl h0
  | cons f r =>
    have := List.length_pos_iff.2 (toksF_pos (h f (by simp)))
    simp only [tlF, List.length_append]
    omega
theorem runFs_all {m : Bool} {us : List Tok} {l : List Fm} (h0 : l ≠ []) (h : ∀ f ∈ l, goodF ⟨40, false⟩ 1 f = true) {z : Nat} (hE : Ends us z) (hA : At us 0 (tlF l)) (hx : txt us (tlF l).length = [44] ∨ txt us (tlF l).length = []) (hz : (tlF l).length ≤ z) :
    ∃ N0, ∀ N, N0 ≤ N → ∀ n, runFs m us N (n + l.length) 0 = tailR m us N n l (tlF l).length := by
  have hp := tlF_pos h0 h
  obtain ⟨N0, hN⟩ := runL_all (m := m) (D := ⟨40, false⟩) (fun h => by cases h) (by decide) l [] 0 h0 h hA (by rw [Nat.zero_add]; exact hx)
  refine ⟨N0, fun N hle n => ?_⟩
  have := hN N hle n
  rw [Nat.zero_add, List.nil_append] at this
  unfold runFs
  rw [if_neg (by have := (hE.mid 0 (by omega)).2.2; omega)]
  exact this
theorem lists_ok {l : List Fm} (h : ∀ f ∈ l, goodF ⟨40, false⟩ 1 f = true) (hl : (lsF l).length ≤ 16384) : RdL false (lsF l) (.ok l) := by
  by_cases h0 : l = []
  · subst h0
    have hL : LexL 0 (lsF []) [⟨5, mkS [], 0⟩] 0 0 := .nil 0
    exact RdL.read (m := false) (N := 0) (n := 0) (x := .ok [] 0) hL rfl
  · obtain ⟨us, hL, hA, h5, hx⟩ := lx_all (lx_lsF l h) sep_nil
    have hT := tsok_of_lex hl hL
    have hlen : (tlF l).length ≤ us.length - 1 := by
      have := hT.en.len
      rcases Nat.lt_or_ge (us.length - 1) (tlF l).length with h1 | h1
      · have h2 := (hA (us.length - 1) _ (List.getElem?_eq_getElem h1))
        rw [Nat.zero_add] at h2
        obtain ⟨us2, hL2, hm⟩ := (lx_lsF l h) 0 [] [⟨5, mkS [], 0 + (lsF l).length⟩] 0 0 sep_nil (.nil _)
        rw [List.append_nil] at hL2
        obtain ⟨rfl, _⟩ := lex_det hL hL2
        have h3 := congrArg List.length hm
        rw [List.length_map] at h3
        simp only [List.length_append, List.length_cons, List.length_nil] at h1
        omega
      · exact h1
    obtain ⟨N0, hN⟩ := runFs_all (m := false) h0 h hT.en hA (.inr hx) hlen
    have h1 := hN N0 (Nat.le_refl _) 0
    unfold tailR at h1
    rw [if_neg (by rw [hx]; decide)] at h1
    have := RdL.read (m := false) hL h1
    simp only [resL, h5, if_true] at this
    exact this
theorem lists_comma {l : List Fm} (h0 : l ≠ []) (h : ∀ f ∈ l, goodF ⟨40, false⟩ 1 f = true) (hl : (lsF l).length ≤ 16000) : RdL false (lsF l ++ [44]) (.bad ((lsF l).length + 1) 50) := by
  obtain ⟨us, hL, hA, hS, hp, hlen⟩ := lx_more ((lx_lsF l h).comp Lx.comma fun q _ => sep_cons (by decide)) trivial (LexL.nil 0)
  rw [List.append_nil] at hL
  simp only [if_true] at hL
  have hT := tsok_of_lex (by simp only [List.length_append, List.length_cons, List.length_nil]; omega) hL
  obtain ⟨_, hc⟩ := hA.right.sg
  rw [Nat.zero_add] at hc
  simp only [List.length_append, List.length_cons, List.length_nil, Nat.zero_add] at hlen hS hp
  obtain ⟨N0, hN⟩ := runFs_all (m := false) h0 h hT.en hA.left (.inl (txt_mk hc)) (by omega)
  have h1 := hN (max N0 20) (Nat.le_max_left _ _) 1
  have h2 : run false [(⟨5, mkS [], 0⟩ : Tok)] 20 (.bin 0) 0 0 = some (.bad 0 50) := by rfl
  have h3 := run_le false us (Nat.le_max_right N0 20) (by rw [run_shift hS false 20 (.bin 0) 0 0, h2]; rfl : run false us 20 (.bin 0) ((tlF l).length + 1 + 0) 0 = some (.bad ((tlF l).length + 1 + 0) 50))
  unfold tailR at h1
  rw [if_pos (txt_mk hc)] at h1
  unfold runL at h1
  rw [show (tlF l).length + 1 = (tlF l).length + 1 + 0 by omega, h3] at h1
  have := RdL.read (m := false) hL h1
  simp only [resL] at this
  rw [hp 0 (by decide)] at this
  have e : (tkA [(⟨5, mkS [], 0⟩ : Tok)] 0).p + ((lsF l).length + 1) = (lsF l).length + 1 := by show 0 + _ = _; omega
  rw [e] at this
  exact this
theorem lists_wrong {l : List Fm} (h0 : l ≠ []) (h : ∀ f ∈ l, goodF ⟨40, false⟩ 1 f = true) {wb : List UInt8} (hl : (lsF l).length + 3 + wb.length ≤ 16384) {r : An Fm} (hr : RdF false wb r) :
    ∃ R, RdL false (lsF l ++ ([32] ++ ([44] ++ [32])) ++ wb) R ∧ (∀ p e, r = .bad p e → e ≠ 50 → R = .bad (p + ((lsF l).length + 3)) e) ∧ (∀ f, r = .ok f → R = .ok (l ++ [f])) := by
  have hX := (lx_lsF l h).comp (Lx.blank.comp (Lx.comma.comp Lx.blank fun _ _ => trivial) fun _ _ => trivial) fun q _ => sep_cons (c := 32) (by decide)
  simp only [List.nil_append, List.append_nil] at hX
  have hul : (lsF l ++ ([32] ++ ([44] ++ [32]))).length = (lsF l).length + 3 := by simp
  have hwl : (lsF l ++ ([32] ++ ([44] ++ [32])) ++ wb).length ≤ 16384 := by rw [List.length_append, hul]; omega
  cases hr with
  | @lexbad ts p e hL he =>
    obtain ⟨us, hL2, _⟩ := lx_more hX trivial hL
    rw [if_neg he, hul] at hL2
    exact ⟨_, .lexbad hL2 he, fun p' e' e1 _ => by cases e1; rfl, fun f e1 => by cases e1⟩
  | @read ts p n x hL hx =>
    obtain ⟨us, hL2, hA, hS, hp, hlen⟩ := lx_more hX trivial hL
    simp only [if_true] at hL2
    rw [hul] at hp
    have hT := tsok_of_lex hwl hL2
    have hTs := tsok_of_lex (by omega) hL
    have hts := hTs.en.len
    obtain ⟨_, hc⟩ := hA.right.sg
    rw [Nat.zero_add] at hc
    simp only [List.length_append, List.length_cons, List.length_nil, Nat.zero_add] at hlen hS hp
    obtain ⟨N0, hN⟩ := runFs_all (m := false) h0 h hT.en hA.left (.inl (txt_mk hc)) (by omega)
    have h1 := hN (max N0 n) (Nat.le_max_left _ _) 1
    have h3 := run_le false us (Nat.le_max_right N0 n) (by rw [run_shift hS false n (.bin 0) 0 0, hx]; rfl : run false us n (.bin 0) ((tlF l).length + 1 + 0) 0 = some (shO ((tlF l).length + 1) x))
    have hin := run_iz hTs.en _ _ _ _ _ (Nat.zero_le _) hx
    unfold tailR at h1
    rw [if_pos (txt_mk hc)] at h1
    unfold runL at h1
    rw [show (tlF l).length + 1 = (tlF l).length + 1 + 0 by omega, h3] at h1
    cases x with
    | bad k e =>
      simp only [inO] at hin
      simp only [shO] at h1
      refine ⟨_, .read hL2 h1, fun p' e' e1 _ => ?_, fun f e1 => by cases e1⟩
      simp only [resF] at e1
      cases e1
      simp only [resL]
      rw [hp k (by omega)]
    | ok o k =>
      simp only [inO] at hin
      by_cases h5 : (tkA ts k).k = 5
      · have hkz : k = ts.length - 1 := by
          rcases Nat.lt_or_ge k (ts.length - 1) with h6 | h6
          · have := (hTs.en.mid k h6).2.2; omega
          · omega
        have htx : txt us ((tlF l).length + 1 + k) = [] := by
          unfold txt
          rw [(hS k).2, hkz]
          exact hTs.en.last.2
        simp only [shO] at h1
        rw [if_neg (by rw [htx]; decide)] at h1
        refine ⟨_, .read hL2 h1, fun p' e' e1 _ => ?_, fun f e1 => ?_⟩
        · simp only [resF, h5, if_true] at e1; cases e1
        · simp only [resF, h5, if_true] at e1
          cases e1
          simp only [resL]
          rw [if_pos (by rw [(hS k).1]; exact h5)]
      · obtain ⟨R, hR⟩ := rdL_total false hwl
        refine ⟨R, hR, fun p' e' e1 e2 => ?_, fun f e1 => ?_⟩
        · simp only [resF, if_neg h5] at e1; cases e1; exact absurd rfl e2
        · simp only [resF, if_neg h5] at e1; cases e1
end Go.Proofs.YtdobflpbkfkmgaaDoor
