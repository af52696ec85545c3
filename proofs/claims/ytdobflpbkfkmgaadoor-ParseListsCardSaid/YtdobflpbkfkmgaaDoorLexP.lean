/- The plain law of Lex: the tokens of a text as a relation on lists of bytes. No program in sight. -/
import Derived.Test.YtdobflpbkfkmgaaDoorLexI
namespace Go.Proofs.YtdobflpbkfkmgaaDoor
open Go.RowKit
set_option linter.unusedVariables false
set_option linter.unusedSimpArgs false
set_option linter.unusedSectionVars false
/-- The string of these bytes. -/
def mkS (l : List UInt8) : ByteArray := ⟨l.toArray⟩
theorem bys_mk (l : List UInt8) : bys (mkS l) = l := by simp [bys, mkS]
theorem mk_bys (s : ByteArray) : mkS (bys s) = s := by cases s; simp [bys, mkS]
theorem mk_inj {a b : List UInt8} (h : mkS a = mkS b) : a = b := by rw [← bys_mk a, h, bys_mk]
theorem mk_size (l : List UInt8) : (mkS l).size = l.length := by simp [mkS, ByteArray.size]
def alL (b : UInt8) : Bool := alnumB b.toNat
/-- What stands at the beginning of a text. -/
def readL (c : UInt8) (l : List UInt8) : KT :=
  if letterB c.toNat then runR (mkS (c :: l.takeWhile alL))
  else if markB c.toNat then markR (mkS (c :: l.takeWhile alL))
  else signR (mkS (c :: l))
/-- A token: its kind, text and place. -/
structure Tok where
  k : Int
  t : ByteArray
  p : Nat
def blL (c : UInt8) : Bool := blankB c.toNat
/-- The tokens of a text that begins at a place, up to the end or to an error. -/
inductive LexL : Nat → List UInt8 → List Tok → Nat → Int → Prop
  | nil (a) : LexL a [] [⟨5, mkS [], a⟩] 0 0
  | blank {a c l ts p e} : blL c = true → LexL (a + 1) l ts p e → LexL a (c :: l) ts p e
  | bad {a c l} : blL c = false → (readL c l).e ≠ 0 → LexL a (c :: l) [] a (readL c l).e
  | tok {a c l r ts p e} : blL c = false → (readL c l).e = 0 → c :: l = bys (readL c l).t ++ r → LexL (a + (readL c l).t.size) r ts p e → LexL a (c :: l) (⟨(readL c l).k, (readL c l).t, a⟩ :: ts) p e

/-! ### signs -/
def prefL : List UInt8 → List UInt8 → Bool
  | [], _ => true
  | _ :: _, [] => false
  | a :: g, b :: l => a == b && prefL g l
theorem prefL_iff : ∀ (g l : List UInt8), prefL g l = true ↔ ∃ r, l = g ++ r
  | [], l => by simp [prefL]
  | a :: g, [] => by simp [prefL]
  | a :: g, b :: l => by
    simp only [prefL, Bool.and_eq_true, beq_iff_eq, prefL_iff g l, List.cons_append, List.cons.injEq]
    constructor
    · rintro ⟨rfl, r, rfl⟩; exact ⟨r, rfl, rfl⟩
    · rintro ⟨r, rfl, rfl⟩; exact ⟨rfl, r, rfl⟩
theorem prefL_blank {b : UInt8} (hb : blL b = true) (z : List UInt8) : ∀ (g u : List UInt8), (∀ x ∈ g, blL x = false) → prefL g (u ++ b :: z) = prefL g u
  | [], u, _ => rfl
  | a :: g, [], h => by
    have : blL a = false := h a (by simp)
    simp only [prefL, List.nil_append, Bool.and_eq_false_iff, beq_eq_false_iff_ne, ne_eq]
    left; rintro rfl; rw [hb] at this; cases this
  | a :: g, x :: u, h => by
    simp only [prefL, List.cons_append]
    rw [prefL_blank hb z g u (fun y hy => h y (by simp [hy]))]
theorem prefB_prefL (g s : ByteArray) : prefB g s = prefL (bys g) (bys s) := by
  rw [Bool.eq_iff_iff, prefL_iff]
  simp only [prefB, Bool.and_eq_true, decide_eq_true_eq]
  have he : bys (s.extract 0 g.size) = (bys s).take g.size := by
    simp [bys, ByteArray.data_extract, Array.toList_extract, List.extract_eq_take_drop]
  rw [he]
  have hl : (bys g).length = g.size := rfl
  have hl' : (bys s).length = s.size := rfl
  constructor
  · rintro ⟨h1, h2⟩
    refine ⟨(bys s).drop g.size, ?_⟩
    rw [← h2, List.take_append_drop]
  · rintro ⟨r, hr⟩
    refine ⟨by rw [← hl, ← hl', hr]; simp, by rw [hr, ← hl, List.take_left]⟩
/-- The signs' bytes. -/
def signsD : List (List UInt8) := [[60, 45, 62], [45, 62], [91, 93], [60, 62], [40], [41], [44], [126], [38], [124], [47], [91], [93]]
theorem signs_mk : signsB = signsD.map mkS := by rfl
def signL (l : List UInt8) : Option (List UInt8) := signsD.find? (fun g => prefL g l)
theorem signR_L (l : List UInt8) : signR (mkS l) = match signL l with | some g => ⟨4, mkS g, 0⟩ | none => ⟨0, ⟨#[]⟩, 40⟩ := by
  unfold signR signL
  rw [signs_mk, List.find?_map]
  have : ((fun g => prefB g (mkS l)) ∘ mkS) = fun g => prefL g l := by funext g; simp [prefB_prefL, bys_mk]
  rw [this]
  cases signsD.find? (fun g => prefL g l) <;> rfl
theorem signsD_plain : ∀ g ∈ signsD, (∀ x ∈ g, blL x = false ∧ alL x = false) ∧ g ≠ [] := by decide +kernel
theorem find_congr {α : Type} {p q : α → Bool} : ∀ {l : List α}, (∀ x ∈ l, p x = q x) → l.find? p = l.find? q
  | [], _ => rfl
  | x :: l, h => by
    rw [List.find?_cons, List.find?_cons, h x (by simp), find_congr (fun y hy => h y (by simp [hy]))]
theorem signL_blank {b : UInt8} (hb : blL b = true) (u z : List UInt8) : signL (u ++ b :: z) = signL u :=
  find_congr (fun g hg => prefL_blank hb z g u (fun x hx => ((signsD_plain g hg).1 x hx).1))
theorem prefL_append {g l : List UInt8} (h : prefL g l = true) (r : List UInt8) : prefL g (l ++ r) = true := by
  obtain ⟨x, rfl⟩ := (prefL_iff _ _).1 h
  exact (prefL_iff _ _).2 ⟨x ++ r, by simp⟩
/-- A sign that is found in a text is found in each part of it that holds the sign. -/
theorem signL_part {g u r : List UInt8} (h : signL (g ++ (u ++ r)) = some g) : signL (g ++ u) = some g := by
  unfold signL at h ⊢
  rw [List.find?_eq_some_iff_append] at h ⊢
  obtain ⟨h1, us, vs, h2, h3⟩ := h
  refine ⟨(prefL_iff _ _).2 ⟨u, rfl⟩, us, vs, h2, fun a ha => ?_⟩
  have h6 := h3 a ha
  cases hp : prefL a (g ++ u) with
  | false => rfl
  | true =>
    have h5 := prefL_append hp r
    rw [List.append_assoc] at h5
    rw [h5] at h6
    cases h6
theorem signL_mem {l g : List UInt8} (h : signL l = some g) : g ∈ signsD ∧ ∃ r, l = g ++ r := by
  unfold signL at h
  exact ⟨List.mem_of_find?_eq_some h, (prefL_iff _ _).1 (List.find?_some (p := fun g => prefL g l) h)⟩

/-! ### names -/
theorem blank_not_alnum {b : UInt8} (h : blL b = true) : alL b = false := by
  revert h
  simp only [blL, alL, blankB, alnumB, letterB, smallB, capB, digitB, Bool.or_eq_true, decide_eq_true_eq, Bool.or_eq_false_iff, Bool.and_eq_false_iff, decide_eq_false_iff_not]
  omega
theorem takeWhile_blank {b : UInt8} (h : blL b = true) (z : List UInt8) : ∀ l : List UInt8, (l ++ b :: z).takeWhile alL = l.takeWhile alL
  | [] => by simp [List.takeWhile, blank_not_alnum h]
  | c :: l => by
    simp only [List.cons_append, List.takeWhile_cons]
    rw [takeWhile_blank h z l]
theorem readL_blank {b : UInt8} (h : blL b = true) (z : List UInt8) (c : UInt8) (l : List UInt8) : readL c (l ++ b :: z) = readL c l := by
  unfold readL
  rw [takeWhile_blank h z l, signR_L, signR_L, ← List.cons_append, signL_blank h]
theorem runR_ok {t : ByteArray} (h : (runR t).e = 0) : (runR t).t = t ∧ ((runR t).k = 1 ∨ (runR t).k = 3) := by
  unfold runR at h ⊢
  split
  · exact ⟨rfl, .inr rfl⟩
  · split
    · exact ⟨rfl, .inl rfl⟩
    · rename_i h1 h2; simp [h1, h2] at h
theorem runR_e (t : ByteArray) : (runR t).e = 0 ∨ runR t = ⟨0, ⟨#[]⟩, 41⟩ := by
  unfold runR; split
  · exact .inl rfl
  · split
    · exact .inl rfl
    · exact .inr rfl
theorem markR_ok {t : ByteArray} (h : (markR t).e = 0) : (markR t).t = t ∧ (markR t).k = 2 := by
  unfold markR at h ⊢
  split
  · exact ⟨rfl, rfl⟩
  · rename_i h1; simp [h1] at h
theorem markR_e (t : ByteArray) : (markR t).e = 0 ∨ markR t = ⟨0, ⟨#[]⟩, 41⟩ := by
  unfold markR; split
  · exact .inl rfl
  · exact .inr rfl
/-- What a token that was read is. -/
structure TokIs (c : UInt8) (l : List UInt8) (k : Int) (t : List UInt8) (r : List UInt8) : Prop where
  all : c :: l = t ++ r
  ne : t ≠ []
  way : (letterB c.toNat = true ∧ (k = 1 ∨ k = 3) ∧ t = c :: l.takeWhile alL ∧ runR (mkS t) = ⟨k, mkS t, 0⟩) ∨
    (letterB c.toNat = false ∧ markB c.toNat = true ∧ k = 2 ∧ t = c :: l.takeWhile alL ∧ markR (mkS t) = ⟨k, mkS t, 0⟩) ∨
    (letterB c.toNat = false ∧ markB c.toNat = false ∧ k = 4 ∧ t ∈ signsD ∧ signL (c :: l) = some t)
theorem KT.eta (x : KT) : x = ⟨x.k, x.t, x.e⟩ := rfl
theorem read_ok {c : UInt8} {l : List UInt8} (h : (readL c l).e = 0) : ∃ r, TokIs c l (readL c l).k (bys (readL c l).t) r := by
  unfold readL at h ⊢
  by_cases h1 : letterB c.toNat = true
  · rw [if_pos h1] at h ⊢
    obtain ⟨h2, h3⟩ := runR_ok h
    refine ⟨l.dropWhile alL, ?_, ?_, .inl ⟨h1, h3, ?_, ?_⟩⟩
    · rw [h2, bys_mk, List.cons_append, List.takeWhile_append_dropWhile]
    · rw [h2, bys_mk]; simp
    · rw [h2, bys_mk]
    · rw [h2, mk_bys]; conv => lhs; rw [KT.eta (runR _), h2, h]
  · rw [if_neg h1] at h ⊢
    have h1' : letterB c.toNat = false := by simpa using h1
    by_cases h4 : markB c.toNat = true
    · rw [if_pos h4] at h ⊢
      obtain ⟨h2, h3⟩ := markR_ok h
      refine ⟨l.dropWhile alL, ?_, ?_, .inr (.inl ⟨h1', h4, h3, ?_, ?_⟩)⟩
      · rw [h2, bys_mk, List.cons_append, List.takeWhile_append_dropWhile]
      · rw [h2, bys_mk]; simp
      · rw [h2, bys_mk]
      · rw [h2, mk_bys]; conv => lhs; rw [KT.eta (markR _), h2, h]
    · rw [if_neg h4] at h ⊢
      rw [signR_L] at h ⊢
      have h4' : markB c.toNat = false := by simpa using h4
      cases hs : signL (c :: l) with
      | none => rw [hs] at h; cases h
      | some g =>
        obtain ⟨hm, r, hr⟩ := signL_mem hs
        refine ⟨r, ?_, ?_, .inr (.inr ⟨h1', h4', rfl, ?_, ?_⟩)⟩
        · rw [bys_mk]; exact hr
        · rw [bys_mk]; exact (signsD_plain g hm).2
        · rw [bys_mk]; exact hm
        · rw [bys_mk]; exact hs
theorem takeWhile_part {p : UInt8 → Bool} : ∀ (l : List UInt8) (n : Nat) (t r : List UInt8), l.takeWhile p = t → l = t ++ r → (t ++ r.take n).takeWhile p = t
  | l, n, [], r, h, h2 => by
    subst h2
    cases l with
    | nil => simp
    | cons a r =>
      cases n with
      | zero => simp
      | succ n =>
        simp only [List.nil_append, List.takeWhile_cons] at h ⊢
        cases hp : p a with
        | true => rw [hp] at h; simp at h
        | false => simp [hp]
  | l, n, a :: t, r, h, h2 => by
    subst h2
    simp only [List.cons_append, List.takeWhile_cons] at h ⊢
    cases hp : p a with
    | false => rw [hp] at h; simp at h
    | true =>
      rw [hp] at h
      simp only [if_true, List.cons.injEq, true_and] at h ⊢
      exact takeWhile_part (t ++ r) n t r h rfl
/-- What was read of a text is read of each part of it that holds the token. -/
theorem TokIs.part {c : UInt8} {l : List UInt8} {k : Int} {t r : List UInt8} (h : TokIs c l k t r) (n : Nat) : ∃ l', c :: l' = t ++ r.take n ∧ readL c l' = ⟨k, mkS t, 0⟩ := by
  obtain ⟨h1, h2, h3⟩ := h
  cases t with
  | nil => exact absurd rfl h2
  | cons d t =>
    simp only [List.cons_append, List.cons.injEq] at h1
    obtain ⟨rfl, h1⟩ := h1
    refine ⟨t ++ r.take n, by simp, ?_⟩
    rcases h3 with ⟨a1, a2, a3, a4⟩ | ⟨a1, a2, a3, a4, a5⟩ | ⟨a1, a2, a3, a4, a5⟩
    · simp only [List.cons.injEq, true_and] at a3
      unfold readL
      rw [if_pos a1, takeWhile_part l n t r a3.symm h1, a4]
    · simp only [List.cons.injEq, true_and] at a4
      unfold readL
      rw [if_neg (by rw [a1]; decide), if_pos a2, takeWhile_part l n t r a4.symm h1, a5]
    · unfold readL
      rw [if_neg (by rw [a1]; decide), if_neg (by rw [a2]; decide), signR_L]
      have : signL (c :: (t ++ r.take n)) = some (c :: t) := by
        rw [h1] at a5
        have := signL_part (g := c :: t) (u := r.take n) (r := r.drop n) (by rw [List.take_append_drop]; exact a5)
        exact this
      rw [this, a3]
theorem TokIs.of_read {c : UInt8} {l : List UInt8} {k : Int} {t r : List UInt8} (h : TokIs c l k t r) : readL c l = ⟨k, mkS t, 0⟩ := by
  obtain ⟨l', h1, h2⟩ := h.part r.length
  rw [List.take_length, ← h.all] at h1
  simp only [List.cons.injEq, true_and] at h1
  rw [← h1]; exact h2
end Go.Proofs.YtdobflpbkfkmgaaDoor
