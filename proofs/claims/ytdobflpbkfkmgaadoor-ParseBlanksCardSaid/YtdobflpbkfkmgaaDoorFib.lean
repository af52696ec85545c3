/- ParseFirst: texts that are cut at a token. No program in sight. -/
import Derived.Test.YtdobflpbkfkmgaaDoorFia
namespace Go.Proofs.YtdobflpbkfkmgaaDoor
open Go Go.RowKit Go.FR
set_option linter.unusedVariables false
set_option linter.unusedSimpArgs false
set_option linter.unusedSectionVars false
/-- A token that was read is read of the text cut behind it, or later. -/
theorem tok_cut {a : Nat} {c : UInt8} {l r : List UInt8} (n : Nat) (hb : blL c = false) (he : (readL c l).e = 0) (hs : c :: l = bys (readL c l).t ++ r) {us : List Tok} {p : Nat} {e : Int} (h : LexL (a + (readL c l).t.size) (r.take n) us p e) :
    LexL a (bys (readL c l).t ++ r.take n) (⟨(readL c l).k, (readL c l).t, a⟩ :: us) p e := by
  obtain ⟨r', hT⟩ := read_ok he
  have hr : r' = r := by
    have := hT.all
    rw [hs] at this
    exact (List.append_cancel_left this).symm
  rw [hr] at hT
  obtain ⟨l', h1, h2⟩ := hT.part n
  have e1 : readL c l' = readL c l := by rw [h2, mk_bys]; conv => rhs; rw [KT.eta (readL c l), he]
  rw [← h1]
  have := LexL.tok (a := a) (c := c) (l := l') (r := r.take n) hb (by rw [e1]; exact he) (by rw [e1]; exact h1) (by rw [e1]; exact h)
  rw [e1] at this
  exact this
theorem lex_cut {a : Nat} {l : List UInt8} {ts : List Tok} {p : Nat} {e : Int} (h : LexL a l ts p e) : e = 0 → ∀ (K : Nat) (t : Tok), ts[K]? = some t → LexL a (l.take (t.p - a)) (ts.take K ++ [⟨5, mkS [], t.p⟩]) 0 0 := by
  induction h with
  | nil a =>
    intro _ K t ht
    cases K with
    | zero => cases ht; simp only [List.take_nil, List.take_zero, List.nil_append]; exact .nil a
    | succ K => cases ht
  | @blank a c l ts p e hb h ih =>
    intro he K t ht
    have hp := ((lex_places h).2 t (List.mem_of_getElem? ht)).1
    obtain ⟨d, hd⟩ : ∃ d, t.p = a + 1 + d := ⟨t.p - (a + 1), by omega⟩
    have := ih he K t ht
    rw [hd] at this ⊢
    rw [show a + 1 + d - a = d + 1 by omega, List.take_succ_cons]
    rw [show a + 1 + d - (a + 1) = d by omega] at this
    exact .blank hb this
  | bad hb hne => intro he; exact absurd he hne
  | @tok a c l r ts p e hb he hs h ih =>
    intro h0 K t ht
    cases K with
    | zero =>
      cases ht
      simp only [Nat.sub_self, List.take_zero, List.nil_append]
      exact .nil a
    | succ K =>
      have ht' : ts[K]? = some t := ht
      have hp := ((lex_places h).2 t (List.mem_of_getElem? ht')).1
      have := ih h0 K t ht'
      obtain ⟨d, hd⟩ : ∃ d, t.p = a + (readL c l).t.size + d := ⟨t.p - (a + (readL c l).t.size), by omega⟩
      rw [hd] at this ⊢
      rw [show a + (readL c l).t.size + d - (a + (readL c l).t.size) = d by omega] at this
      have h2 := tok_cut d hb he hs this
      rw [hs, show a + (readL c l).t.size + d - a = (bys (readL c l).t).length + d by show _ = (readL c l).t.size + d; omega, List.take_length_add_append]
      exact h2
theorem lex_cut2 {a : Nat} {l : List UInt8} {ts : List Tok} {p : Nat} {e : Int} (h : LexL a l ts p e) : e = 0 → ∀ (K : Nat) (t : Tok), ts[K]? = some t → t.k ≠ 5 → LexL a (l.take (t.p + t.t.size - a)) (ts.take (K + 1) ++ [⟨5, mkS [], t.p + t.t.size⟩]) 0 0 := by
  induction h with
  | nil a =>
    intro _ K t ht h5
    cases K with
    | zero => cases ht; exact absurd rfl h5
    | succ K => cases ht
  | @blank a c l ts p e hb h ih =>
    intro he K t ht h5
    have hp := ((lex_places h).2 t (List.mem_of_getElem? ht)).1
    obtain ⟨d, hd⟩ : ∃ d, t.p + t.t.size = a + 1 + d := ⟨t.p + t.t.size - (a + 1), by omega⟩
    have := ih he K t ht h5
    rw [hd] at this ⊢
    rw [show a + 1 + d - a = d + 1 by omega, List.take_succ_cons]
    rw [show a + 1 + d - (a + 1) = d by omega] at this
    exact .blank hb this
  | bad hb hne => intro he; exact absurd he hne
  | @tok a c l r ts p e hb he hs h ih =>
    intro h0 K t ht h5
    cases K with
    | zero =>
      cases ht
      simp only [List.take_succ_cons, List.take_zero, List.cons_append, List.nil_append]
      have h2 := tok_cut (us := [⟨5, mkS [], a + (readL c l).t.size⟩]) (p := 0) (e := 0) 0 hb he hs (by rw [List.take_zero]; exact .nil _)
      rw [hs, show a + (readL c l).t.size - a = (bys (readL c l).t).length + 0 by show _ = (readL c l).t.size + 0; omega, List.take_length_add_append]
      exact h2
    | succ K =>
      have ht' : ts[K]? = some t := ht
      have hp := ((lex_places h).2 t (List.mem_of_getElem? ht')).1
      have := ih h0 K t ht' h5
      obtain ⟨d, hd⟩ : ∃ d, t.p + t.t.size = a + (readL c l).t.size + d := ⟨t.p + t.t.size - (a + (readL c l).t.size), by omega⟩
      rw [hd] at this ⊢
      rw [show a + (readL c l).t.size + d - (a + (readL c l).t.size) = d by omega] at this
      have h2 := tok_cut d hb he hs this
      rw [hs, show a + (readL c l).t.size + d - a = (bys (readL c l).t).length + d by show _ = (readL c l).t.size + d; omega, List.take_length_add_append]
      exact h2
/-- Places of tokens grow. -/
theorem lex_grow {a : Nat} {l : List UInt8} {ts : List Tok} {p : Nat} {e : Int} (h : LexL a l ts p e) : ∀ (i j : Nat) (t u : Tok), i < j → ts[i]? = some t → ts[j]? = some u → t.p < u.p := by
  induction h with
  | nil a =>
    intro i j t u hij ht hu
    have := (List.getElem?_eq_some_iff.1 hu).1
    simp only [List.length_singleton] at this
    omega
  | blank _ _ ih => exact ih
  | bad _ _ => intro i j t u _ ht; cases ht
  | @tok a c l r ts p e hb he hs h ih =>
    intro i j t u hij ht hu
    cases j with
    | zero => omega
    | succ j =>
      have hu' : ts[j]? = some u := hu
      cases i with
      | zero =>
        cases ht
        have hp := ((lex_places h).2 u (List.mem_of_getElem? hu')).1
        obtain ⟨r', hT⟩ := read_ok he
        have hne := hT.ne
        have : 0 < (readL c l).t.size := by
          show 0 < (bys (readL c l).t).length
          exact List.length_pos_iff.2 hne
        simp only
        omega
      | succ i => exact ih i j t u (by omega) ht hu'
end Go.Proofs.YtdobflpbkfkmgaaDoor
