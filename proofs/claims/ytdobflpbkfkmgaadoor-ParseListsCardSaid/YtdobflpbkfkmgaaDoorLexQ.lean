/- The laws of the relation between a text and its tokens. No program in sight. -/
import Derived.Test.YtdobflpbkfkmgaaDoorLexP
import Derived.Lib.Join
namespace Go.Proofs.YtdobflpbkfkmgaaDoor
open Go.RowKit
set_option linter.unusedVariables false
set_option linter.unusedSimpArgs false
set_option linter.unusedSectionVars false
theorem TokIs.len {c : UInt8} {l : List UInt8} {k : Int} {t r : List UInt8} (h : TokIs c l k t r) : r.length < (c :: l).length := by
  have h1 := congrArg List.length h.all
  have h2 : t.length ≠ 0 := by intro e; exact h.ne (List.length_eq_zero_iff.1 e)
  rw [List.length_append] at h1; omega
theorem TokIs.kind {c : UInt8} {l : List UInt8} {k : Int} {t r : List UInt8} (h : TokIs c l k t r) : 1 ≤ k ∧ k ≤ 4 := by
  rcases h.way with ⟨_, a, _⟩ | ⟨_, _, a, _⟩ | ⟨_, _, a, _⟩ <;> omega
theorem lex_total : ∀ (n : Nat) (l : List UInt8), l.length ≤ n → ∀ a, ∃ ts p e, LexL a l ts p e
  | _, [], _, a => ⟨_, _, _, .nil a⟩
  | 0, c :: l, h, a => by simp at h
  | n + 1, c :: l, h, a => by
    cases hb : blL c with
    | true =>
      obtain ⟨ts, p, e, hL⟩ := lex_total n l (by simp at h; omega) (a + 1)
      exact ⟨ts, p, e, .blank hb hL⟩
    | false =>
      by_cases he : (readL c l).e = 0
      · obtain ⟨r, hr⟩ := read_ok he
        obtain ⟨ts, p, e, hL⟩ := lex_total n r (by have := hr.len; simp only [List.length_cons] at this h; omega) (a + (readL c l).t.size)
        exact ⟨_, p, e, .tok hb he hr.all hL⟩
      · exact ⟨_, _, _, .bad hb he⟩
theorem lex_det {a : Nat} {l : List UInt8} {ts : List Tok} {p : Nat} {e : Int} (h : LexL a l ts p e) : ∀ {ts' p' e'}, LexL a l ts' p' e' → ts = ts' ∧ p = p' ∧ e = e' := by
  induction h with
  | nil a => intro ts' p' e' h'; cases h'; exact ⟨rfl, rfl, rfl⟩
  | blank hb _ ih =>
    intro ts' p' e' h'
    cases h' with
    | blank _ h2 => exact ih h2
    | bad hb' _ => rw [hb] at hb'; cases hb'
    | tok hb' _ _ _ => rw [hb] at hb'; cases hb'
  | bad hb he =>
    intro ts' p' e' h'
    cases h' with
    | blank hb' _ => rw [hb] at hb'; cases hb'
    | bad _ _ => exact ⟨rfl, rfl, rfl⟩
    | tok _ he' _ _ => exact absurd he' he
  | tok hb he hr _ ih =>
    intro ts' p' e' h'
    cases h' with
    | blank hb' _ => rw [hb] at hb'; cases hb'
    | bad _ he' => exact absurd he he'
    | tok _ _ hr' h2 =>
      have := List.append_cancel_left (hr.symm.trans hr')
      subst this
      obtain ⟨rfl, rfl, rfl⟩ := ih h2
      exact ⟨rfl, rfl, rfl⟩
def Tok.move (d : Nat) (t : Tok) : Tok := ⟨t.k, t.t, t.p + d⟩
theorem lex_shift {a : Nat} {l : List UInt8} {ts : List Tok} {p : Nat} {e : Int} (h : LexL a l ts p e) (d : Nat) : LexL (a + d) l (ts.map (Tok.move d)) (if e = 0 then p else p + d) e := by
  induction h with
  | nil a => exact .nil (a + d)
  | @blank a c l ts p e hb _ ih => exact .blank hb (by rw [show a + d + 1 = a + 1 + d by omega]; exact ih)
  | bad hb he => rw [if_neg he]; exact .bad hb he
  | @tok a c l r ts p e hb he hr _ ih => exact .tok hb he hr (by rw [show a + d + (readL c l).t.size = a + (readL c l).t.size + d by omega]; exact ih)
theorem readL_e (c : UInt8) (l : List UInt8) : (readL c l).e = 0 ∨ (readL c l).e = 40 ∨ (readL c l).e = 41 := by
  unfold readL
  split
  · rcases runR_e (mkS (c :: l.takeWhile alL)) with h | h
    · exact .inl h
    · rw [h]; exact .inr (.inr rfl)
  · split
    · rcases markR_e (mkS (c :: l.takeWhile alL)) with h | h
      · exact .inl h
      · rw [h]; exact .inr (.inr rfl)
    · rw [signR_L]
      split
      · exact .inl rfl
      · exact .inr (.inl rfl)
theorem lex_err {a : Nat} {l : List UInt8} {ts : List Tok} {p : Nat} {e : Int} (h : LexL a l ts p e) : (e = 0 ∧ p = 0) ∨ ((e = 40 ∨ e = 41) ∧ a ≤ p ∧ p < a + l.length) := by
  induction h with
  | nil a => exact .inl ⟨rfl, rfl⟩
  | blank hb _ ih => rcases ih with ih | ⟨h1, h2, h3⟩
                     · exact .inl ih
                     · exact .inr ⟨h1, by omega, by simp only [List.length_cons]; omega⟩
  | @bad a c l hb he => rcases readL_e c l with h | h
                        · exact absurd h he
                        · exact .inr ⟨h, Nat.le_refl _, by simp⟩
  | @tok a c l r ts p e hb he hr _ ih =>
    rcases ih with ih | ⟨h1, h2, h3⟩
    · exact .inl ih
    · have := congrArg List.length hr
      rw [List.length_append, show (bys (readL c l).t).length = (readL c l).t.size from rfl] at this
      exact .inr ⟨h1, by omega, by omega⟩
/-- The tokens of a text without an error: the end is the last one, and no other one is the end. -/
theorem lex_end {a : Nat} {l : List UInt8} {ts : List Tok} {p : Nat} {e : Int} (h : LexL a l ts p e) : e = 0 → ∃ init, ts = init ++ [⟨5, mkS [], a + l.length⟩] ∧ ∀ t ∈ init, 1 ≤ t.k ∧ t.k ≤ 4 ∧ 1 ≤ t.t.size := by
  induction h with
  | nil a => exact fun _ => ⟨[], by simp, fun t ht => by cases ht⟩
  | @blank a c l ts p e hb _ ih =>
    intro he
    obtain ⟨init, h1, h2⟩ := ih he
    exact ⟨init, by rw [h1, List.length_cons, show a + 1 + l.length = a + (l.length + 1) by omega], h2⟩
  | bad hb he => exact fun h => absurd h he
  | @tok a c l r ts p e hb he hr _ ih =>
    intro h0
    obtain ⟨init, h1, h2⟩ := ih h0
    have := congrArg List.length hr
    rw [List.length_append, show (bys (readL c l).t).length = (readL c l).t.size from rfl] at this
    obtain ⟨r', ht⟩ := read_ok he
    have hk := ht.kind
    have hn : 1 ≤ (readL c l).t.size := by
      have h3 := ht.ne
      rcases Nat.eq_zero_or_pos (readL c l).t.size with h4 | h4
      · exact absurd (List.length_eq_zero_iff.1 h4) h3
      · exact h4
    refine ⟨_ :: init, by rw [h1, this, Nat.add_assoc]; rfl, fun t hm => ?_⟩
    rcases List.mem_cons.1 hm with rfl | hm
    · exact ⟨hk.1, hk.2, hn⟩
    · exact h2 t hm
theorem lex_places {a : Nat} {l : List UInt8} {ts : List Tok} {p : Nat} {e : Int} (h : LexL a l ts p e) : ts.length ≤ l.length + 1 ∧ ∀ t ∈ ts, a ≤ t.p ∧ t.p + t.t.size ≤ a + l.length ∧ (t.k = 1 ∨ t.k = 2 ∨ t.k = 3 ∨ t.k = 4 ∨ t.k = 5) := by
  induction h with
  | nil a => exact ⟨by simp, fun t ht => by rcases List.mem_singleton.1 ht with rfl; simp [mk_size]⟩
  | @blank a c l ts p e hb _ ih =>
    refine ⟨by simp only [List.length_cons]; omega, fun t ht => ?_⟩
    have := ih.2 t ht
    simp only [List.length_cons]; exact ⟨by omega, by omega, this.2.2⟩
  | bad hb he => exact ⟨by simp, fun t ht => by cases ht⟩
  | @tok a c l r ts p e hb he hr _ ih =>
    have h3 := congrArg List.length hr
    rw [List.length_append, show (bys (readL c l).t).length = (readL c l).t.size from rfl] at h3
    obtain ⟨r', ht⟩ := read_ok he
    have hk := ht.kind
    have h4 := ht.len
    have h5 := congrArg List.length ht.all
    rw [List.length_append, show (bys (readL c l).t).length = (readL c l).t.size from rfl] at h5
    refine ⟨by have := ih.1; simp only [List.length_cons] at h3 h4 h5 ⊢; omega, fun t hm => ?_⟩
    rcases List.mem_cons.1 hm with rfl | hm
    · exact ⟨Nat.le_refl _, by show a + (readL c l).t.size ≤ _; omega, by show (readL c l).k = 1 ∨ (readL c l).k = 2 ∨ (readL c l).k = 3 ∨ (readL c l).k = 4 ∨ (readL c l).k = 5; omega⟩
    · have := ih.2 t hm
      exact ⟨by omega, by omega, this.2.2⟩

/-! ### two texts with a blank between them -/
theorem lex_both_err {a : Nat} {l : List UInt8} {ts : List Tok} {p : Nat} {e : Int} (h : LexL a l ts p e) {b : UInt8} (hb : blL b = true) (z : List UInt8) (he0 : e ≠ 0) : LexL a (l ++ b :: z) ts p e := by
  induction h with
  | nil a => exact absurd rfl he0
  | blank hbb _ ih => exact .blank hbb (ih he0)
  | @bad a c l hbb he =>
    have hr := readL_blank hb z c l
    have := LexL.bad (a := a) (c := c) (l := l ++ b :: z) hbb (by rw [hr]; exact he)
    rw [hr] at this
    exact this
  | @tok a c l r ts p e hbb he hr _ ih =>
    have hq := readL_blank hb z c l
    have := LexL.tok (a := a) (c := c) (l := l ++ b :: z) (r := r ++ b :: z) (ts := ts) (p := p) (e := e) hbb (by rw [hq]; exact he) (by rw [hq, ← List.append_assoc, ← hr]; rfl) (by rw [hq]; exact ih he0)
    rw [hq] at this
    exact this
theorem lex_both {a : Nat} {l : List UInt8} {ts : List Tok} {p : Nat} {e : Int} (h : LexL a l ts p e) {b : UInt8} (hb : blL b = true) (z : List UInt8) (he0 : e = 0) {us : List Tok} {q : Nat} {f : Int} (hz : LexL (a + l.length + 1) z us q f) : LexL a (l ++ b :: z) (ts.dropLast ++ us) q f := by
  induction h with
  | nil a => exact .blank hb hz
  | @blank a c l ts p e hbb _ ih => exact .blank hbb (ih he0 (by rw [show a + 1 + l.length + 1 = a + (c :: l).length + 1 by simp only [List.length_cons]; omega]; exact hz))
  | bad hbb he => exact absurd he0 he
  | @tok a c l r ts p e hbb he hr hL ih =>
    have hq := readL_blank hb z c l
    have h3 := congrArg List.length hr
    rw [List.length_append, show (bys (readL c l).t).length = (readL c l).t.size from rfl] at h3
    have h4 := ih he0 (by rw [show a + (readL c l).t.size + r.length + 1 = a + (c :: l).length + 1 by omega]; exact hz)
    have hts : ts ≠ [] := by
      obtain ⟨init, h5, _⟩ := lex_end hL he0
      rw [h5]; simp
    have := LexL.tok (a := a) (c := c) (l := l ++ b :: z) (r := r ++ b :: z) hbb (by rw [hq]; exact he) (by rw [hq, ← List.append_assoc, ← hr]; rfl) (by rw [hq]; exact h4)
    rw [hq] at this
    rw [List.dropLast_cons_of_ne_nil hts]
    exact this

/-! ### the text of the tokens -/
def textsL (ts : List Tok) : List (List UInt8) := (ts.filter (fun t => decide (t.k ≠ 5))).map (fun t => bys t.t)
def joinL (ts : List Tok) : List UInt8 := Lib.join (textsL ts) [32]
def alike (ts us : List Tok) : Prop := ts.map (fun t => (t.k, t.t)) = us.map (fun t => (t.k, t.t))
theorem texts_cons {t : Tok} (h : t.k ≠ 5) (ts : List Tok) : textsL (t :: ts) = bys t.t :: textsL ts := by
  simp [textsL, List.filter_cons, h]
theorem texts_end {t : Tok} (h : t.k = 5) (ts : List Tok) : textsL (t :: ts) = textsL ts := by
  simp [textsL, List.filter_cons, h]
theorem texts_alike {ts us : List Tok} (h : alike ts us) : textsL ts = textsL us := by
  induction ts generalizing us with
  | nil => cases us with
    | nil => rfl
    | cons u us => simp [alike] at h
  | cons t ts ih => cases us with
    | nil => simp [alike] at h
    | cons u us =>
      simp only [alike, List.map_cons, List.cons.injEq, Prod.mk.injEq] at h
      by_cases hk : t.k = 5
      · rw [texts_end hk, texts_end (h.1.1 ▸ hk), ih h.2]
      · rw [texts_cons hk, texts_cons (h.1.1 ▸ hk), ih h.2, h.1.2]
theorem lex_join {a : Nat} {l : List UInt8} {ts : List Tok} {p : Nat} {e : Int} (h : LexL a l ts p e) : e = 0 → ∀ a', ∃ us, LexL a' (joinL ts) us 0 0 ∧ alike ts us := by
  induction h with
  | nil a => exact fun _ a' => ⟨[⟨5, mkS [], a'⟩], by rw [joinL, texts_end rfl, show textsL [] = [] from rfl, Lib.join_nil]; exact .nil a', rfl⟩
  | blank hb _ ih => exact ih
  | bad hb he => exact fun h => absurd h he
  | @tok a c l r ts p e hb he hr hL ih =>
    intro h0 a'
    obtain ⟨r', ht⟩ := read_ok he
    have hk := ht.kind
    obtain ⟨l', h1, h2⟩ := ht.part 0
    rw [List.take_zero, List.append_nil] at h1
    rw [mk_bys] at h2
    have hx := KT.eta (readL c l)
    rw [he] at hx
    rw [joinL, texts_cons (by show (readL c l).k ≠ 5; omega)]
    have he' : (readL c l').e = 0 := by rw [h2]
    cases hq : textsL ts with
    | nil =>
      obtain ⟨us, hus, hal⟩ := ih h0 (a' + (readL c l').t.size)
      rw [joinL, hq] at hus
      rw [show Lib.join [bys (readL c l).t] [32] = c :: l' from by rw [Lib.join_one]; exact h1.symm]
      refine ⟨_, .tok hb he' (r := []) (by rw [List.append_nil, h2]; exact h1) hus, ?_⟩
      rw [h2]
      simp only [alike, List.map_cons]
      rw [show ts.map (fun t => (t.k, t.t)) = us.map (fun t => (t.k, t.t)) from hal]
    | cons x xs =>
      have hj : Lib.join (bys (readL c l).t :: x :: xs) [32] = c :: (l' ++ 32 :: joinL ts) := by
        rw [Lib.join_cons, joinL, hq, Lib.join_cons, ← List.cons_append, h1]
        simp [Lib.joinTail]
      rw [hj]
      have hb32 : blL 32 = true := by decide
      have hq2 := readL_blank hb32 (joinL ts) c l'
      obtain ⟨us, hus, hal⟩ := ih h0 (a' + (readL c l').t.size + 1)
      refine ⟨_, .tok hb (by rw [hq2]; exact he') (r := 32 :: joinL ts) (by rw [hq2, h2, ← List.cons_append, h1]) (by rw [hq2]; exact .blank hb32 hus), ?_⟩
      rw [hq2, h2]
      simp only [alike, List.map_cons]
      rw [show ts.map (fun t => (t.k, t.t)) = us.map (fun t => (t.k, t.t)) from hal]
theorem join_len {a : Nat} {l : List UInt8} {ts : List Tok} {p : Nat} {e : Int} (h : LexL a l ts p e) : (joinL ts).length ≤ 2 * l.length ∧ (Lib.joinTail [32] (textsL ts)).length ≤ 2 * l.length := by
  induction h with
  | nil a => rw [joinL, texts_end rfl]; simp [textsL, Lib.join_nil, Lib.joinTail]
  | blank hb _ ih => simp only [List.length_cons]; omega
  | bad hb he => simp [joinL, textsL, Lib.join_nil, Lib.joinTail]
  | @tok a c l r ts p e hb he hr hL ih =>
    obtain ⟨r', ht⟩ := read_ok he
    have hk := ht.kind
    have h3 := congrArg List.length hr
    rw [List.length_append] at h3
    have hn : (bys (readL c l).t).length ≠ 0 := fun e => ht.ne (List.length_eq_zero_iff.1 e)
    rw [joinL, texts_cons (by show (readL c l).k ≠ 5; omega)]
    dsimp only
    refine ⟨?_, ?_⟩
    · rw [Lib.join_cons, List.length_append]
      omega
    · have : Lib.joinTail [32] (bys (readL c l).t :: textsL ts) = 32 :: (bys (readL c l).t ++ Lib.joinTail [32] (textsL ts)) := by simp [Lib.joinTail]
      rw [this, List.length_cons, List.length_append]
      omega

/-! ### tokens that stand side by side -/
theorem lex_pair {a : Nat} {l : List UInt8} {ts : List Tok} {p : Nat} {e : Int} (h : LexL a l ts p e) : e = 0 → ∀ (i : Nat) (t u v : Tok), ts[i]? = some t → ts[i + 1]? = some u → ts[i + 2]? = some v → t.p + t.t.size = u.p →
    LexL 0 (bys t.t ++ bys u.t) [⟨t.k, t.t, 0⟩, ⟨u.k, u.t, t.t.size⟩, ⟨5, mkS [], t.t.size + u.t.size⟩] 0 0 ∧ (t.k = 4 ∨ u.k = 4 ∨ u.k = 2) := by
  induction h with
  | nil a => intro _ i t u v _ h1; simp at h1
  | blank hb _ ih => exact ih
  | bad hb he => exact fun h => absurd h he
  | @tok a c l r ts p e hb he hr hL ih =>
    intro h0 i t u v h1 h2 h3 h4
    cases i with
    | succ i => exact ih h0 i t u v h1 h2 h3 h4
    | zero =>
      obtain rfl : (⟨(readL c l).k, (readL c l).t, a⟩ : Tok) = t := Option.some.inj h1
      obtain ⟨r0, ht⟩ := read_ok he
      have hrr : r0 = r := List.append_cancel_left (ht.all.symm.trans hr)
      subst hrr
      cases hL with
      | nil a => simp at h3
      | @blank _ d r1 ts _ _ hbl hL2 =>
        have := (lex_places hL2).2 u (List.mem_of_getElem? (i := 0) h2)
        have h5 : a + (readL c l).t.size = u.p := h4
        omega
      | bad _ hbe => exact absurd h0 hbe
      | @tok _ d r1 r2 us _ _ hbd hed hrd hLd =>
        obtain rfl : (⟨(readL d r1).k, (readL d r1).t, a + (readL c l).t.size⟩ : Tok) = u := Option.some.inj h2
        obtain ⟨r3, hu⟩ := read_ok hed
        obtain ⟨c2, g1, g2⟩ := ht.part (bys (readL d r1).t).length
        obtain ⟨d2, g3, g4⟩ := hu.part 0
        rw [mk_bys] at g2 g4
        rw [List.take_zero, List.append_nil] at g3
        have g5 : (d :: r1).take (bys (readL d r1).t).length = bys (readL d r1).t := by rw [hu.all, List.take_left]
        rw [g5] at g1
        refine ⟨?_, ?_⟩
        · show LexL 0 (bys (readL c l).t ++ bys (readL d r1).t) _ 0 0
          rw [← g1]
          have k1 : LexL (0 + (readL c c2).t.size) (bys (readL d r1).t) [⟨(readL d r1).k, (readL d r1).t, (readL c l).t.size⟩, ⟨5, mkS [], (readL c l).t.size + (readL d r1).t.size⟩] 0 0 := by
            rw [g2, ← g3]
            have k2 := LexL.tok (a := 0 + (readL c l).t.size) (c := d) (l := d2) (r := []) hbd (by rw [g4]) (by rw [g4, List.append_nil]; exact g3) (.nil _)
            rw [g4] at k2
            simp only [Nat.zero_add] at k2 ⊢
            exact k2
          have k3 := LexL.tok (a := 0) (c := c) (l := c2) (r := bys (readL d r1).t) hb (by rw [g2]) (by rw [g2]; exact g1) k1
          rw [g2] at k3
          exact k3
        · show (readL c l).k = 4 ∨ (readL d r1).k = 4 ∨ (readL d r1).k = 2
          rcases hu.way with ⟨b1, b2, b3, b4⟩ | ⟨_, _, b3, _⟩ | ⟨_, _, b3, _⟩
          · left
            have hd : alL d = true := by show alnumB d.toNat = true; rw [alnumB, b1]; rfl
            have key : bys (readL c l).t = c :: l.takeWhile alL → False := fun e => by
              have h6 := ht.all
              rw [e, List.cons_append, List.cons.injEq] at h6
              have h7 : l.dropWhile alL = d :: r1 := by
                have h8 := (List.takeWhile_append_dropWhile (p := alL) (l := l)).trans h6.2
                exact List.append_cancel_left h8
              have h9 := List.head_dropWhile_not (p := alL) (l := l) (by rw [h7]; simp)
              simp only [h7, List.head_cons] at h9
              rw [hd] at h9; cases h9
            rcases ht.way with ⟨_, _, a3, _⟩ | ⟨_, _, _, a3, _⟩ | ⟨_, _, a3, _⟩
            · exact (key a3).elim
            · exact (key a3).elim
            · exact a3
          · exact .inr (.inr b3)
          · exact .inr (.inl b3)

/-! ### where the tokens stand -/
/-- From a place on the tokens stand in the whole text, with blanks between them. -/
def Stand (s : List UInt8) : Nat → List Tok → Prop
  | at_, [] => False
  | at_, [t] => t.k = 5 ∧ t.t = mkS [] ∧ at_ ≤ t.p ∧ t.p = s.length ∧ ∀ j, at_ ≤ j → j < t.p → ∃ b, s[j]? = some b ∧ blL b = true
  | at_, t :: u :: ts => t.k ≠ 5 ∧ 1 ≤ t.t.size ∧ at_ ≤ t.p ∧ t.p + t.t.size ≤ s.length ∧ (s.drop t.p).take t.t.size = bys t.t ∧ (∀ j, at_ ≤ j → j < t.p → ∃ b, s[j]? = some b ∧ blL b = true) ∧ Stand s (t.p + t.t.size) (u :: ts)
theorem stand_of {a : Nat} {l : List UInt8} {ts : List Tok} {p : Nat} {e : Int} (h : LexL a l ts p e) : e = 0 → ∀ (pre : List UInt8) (at_ : Nat), pre.length = a → at_ ≤ a → (∀ j, at_ ≤ j → j < a → ∃ b, pre[j]? = some b ∧ blL b = true) → Stand (pre ++ l) at_ ts := by
  induction h with
  | nil a =>
    intro _ pre at_ h1 h2 h3
    refine ⟨rfl, rfl, h2, by simp [h1], fun j hj hja => ?_⟩
    rw [List.append_nil]
    exact h3 j hj hja
  | @blank a c l ts p e hb _ ih =>
    intro h0 pre at_ h1 h2 h3
    have := ih h0 (pre ++ [c]) at_ (by simp [h1]) (by omega) (fun j hj hja => by
      by_cases hj2 : j < a
      · obtain ⟨b, hb1, hb2⟩ := h3 j hj hj2
        exact ⟨b, by rw [List.getElem?_append_left (by omega)]; exact hb1, hb2⟩
      · obtain rfl : j = a := by omega
        exact ⟨c, by rw [← h1]; simp, hb⟩)
    rw [List.append_assoc] at this
    exact this
  | bad hb he => exact fun h => absurd h he
  | @tok a c l r ts p e hb he hr hL ih =>
    intro h0 pre at_ h1 h2 h3
    obtain ⟨r0, ht⟩ := read_ok he
    have hk := ht.kind
    have hn : (bys (readL c l).t).length ≠ 0 := fun e => ht.ne (List.length_eq_zero_iff.1 e)
    have hsz : (bys (readL c l).t).length = (readL c l).t.size := rfl
    have h4 := ih h0 (pre ++ bys (readL c l).t) (a + (readL c l).t.size) (by rw [List.length_append, h1, hsz]) (Nat.le_refl _) (fun j hj hja => by omega)
    rw [List.append_assoc, ← hr] at h4
    have hlen := congrArg List.length hr
    rw [List.length_append] at hlen
    cases ts with
    | nil =>
      obtain ⟨init, h5, _⟩ := lex_end hL h0
      simp at h5
    | cons u us =>
      refine ⟨by show (readL c l).k ≠ 5; omega, by show 1 ≤ (readL c l).t.size; omega, h2, ?_, ?_, ?_, h4⟩
      · show a + (readL c l).t.size ≤ _
        rw [List.length_append]; omega
      · show ((pre ++ c :: l).drop a).take (readL c l).t.size = bys (readL c l).t
        rw [← h1, List.drop_left, hr, ← hsz, List.take_left]
      · intro j hj hja
        have hja' : j < a := hja
        obtain ⟨b, hb1, hb2⟩ := h3 j hj hja'
        exact ⟨b, by rw [List.getElem?_append_left (by omega)]; exact hb1, hb2⟩

/-! ### the tokens of a text that is given, by running -/
def lexF : Nat → Nat → List UInt8 → Option (List Tok × Nat × Int)
  | 0, _, _ => none
  | n + 1, a, [] => some ([⟨5, mkS [], a⟩], 0, 0)
  | n + 1, a, c :: l =>
    if blL c then lexF n (a + 1) l
    else if (readL c l).e = 0 then
      match lexF n (a + (readL c l).t.size) ((c :: l).drop (readL c l).t.size) with
      | some (ts, p, e) => some (⟨(readL c l).k, (readL c l).t, a⟩ :: ts, p, e)
      | none => none
    else some ([], a, (readL c l).e)
theorem lexF_sound : ∀ (n a : Nat) (l : List UInt8) (ts : List Tok) (p : Nat) (e : Int), lexF n a l = some (ts, p, e) → LexL a l ts p e
  | 0, _, _, _, _, _, h => by cases h
  | n + 1, a, [], ts, p, e, h => by
    simp only [lexF, Option.some.injEq, Prod.mk.injEq] at h
    obtain ⟨rfl, rfl, rfl⟩ := h
    exact .nil a
  | n + 1, a, c :: l, ts, p, e, h => by
    simp only [lexF] at h
    by_cases hb : blL c = true
    · rw [if_pos hb] at h
      exact .blank hb (lexF_sound n _ _ _ _ _ h)
    · rw [if_neg hb] at h
      have hb' : blL c = false := by simpa using hb
      by_cases he : (readL c l).e = 0
      · rw [if_pos he] at h
        obtain ⟨r, hr⟩ := read_ok he
        have hd : (c :: l).drop (readL c l).t.size = r := by
          rw [hr.all, show (readL c l).t.size = (bys (readL c l).t).length from rfl, List.drop_left]
        rw [hd] at h
        cases hq : lexF n (a + (readL c l).t.size) r with
        | none => rw [hq] at h; cases h
        | some x =>
          obtain ⟨ts', p', e'⟩ := x
          rw [hq] at h
          simp only [Option.some.injEq, Prod.mk.injEq] at h
          obtain ⟨rfl, rfl, rfl⟩ := h
          exact .tok hb' he hr.all (lexF_sound n _ _ _ _ _ hq)
      · rw [if_neg he] at h
        simp only [Option.some.injEq, Prod.mk.injEq] at h
        obtain ⟨rfl, rfl, rfl⟩ := h
        exact .bad hb' he
end Go.Proofs.YtdobflpbkfkmgaaDoor
