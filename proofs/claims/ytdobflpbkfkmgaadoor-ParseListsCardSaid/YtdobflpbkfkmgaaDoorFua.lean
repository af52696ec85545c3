/- The plain law of Full: its texts, and their tokens. No program in sight. -/
import Derived.Test.YtdobflpbkfkmgaaDoorMps
namespace Go.Proofs.YtdobflpbkfkmgaaDoor
open Go Go.RowKit Go.FR
set_option linter.unusedVariables false
set_option linter.unusedSimpArgs false
set_option linter.unusedSectionVars false
/-- What ends a name. -/
def sepL (r : List UInt8) : Prop := ∀ b l, r = b :: l → alL b = false
def tv (t : Tok) : Int × ByteArray := (t.k, t.t)
theorem takeWhile_sep : ∀ (l r : List UInt8), (∀ b ∈ l, alL b = true) → sepL r → (l ++ r).takeWhile alL = l
  | [], r, _, hr => by
    cases r with
    | nil => rfl
    | cons b r => simp [List.takeWhile_cons, hr b r rfl]
  | c :: l, r, h, hr => by
    simp only [List.cons_append, List.takeWhile_cons, h c (by simp), if_true]
    rw [takeWhile_sep l r (fun b hb => h b (by simp [hb])) hr]
theorem bt_zero {s : ByteArray} {c : UInt8} {l : List UInt8} (h : bys s = c :: l) : bt s 0 = c.toNat := by simp [bt, h]
theorem letter_not_blank {c : UInt8} (h : letterB c.toNat = true) : blL c = false := by
  simp only [letterB, smallB, capB, Bool.or_eq_true, Bool.and_eq_true, decide_eq_true_eq] at h
  simp only [blL, blankB, Bool.or_eq_false_iff, decide_eq_false_iff_not]
  omega
theorem chk_parts {p q : Nat → Bool} {s : ByteArray} (h : checkB p q s = true) (hp : ∀ c, p c = true → letterB c = true) (hq : ∀ c, q c = true → alnumB c = true) : ∃ c l, bys s = c :: l ∧ letterB c.toNat = true ∧ (∀ b ∈ l, alL b = true) ∧ wordB s = false := by
  simp only [checkB, Bool.and_eq_true, decide_eq_true_eq, Bool.not_eq_true'] at h
  obtain ⟨⟨⟨⟨h1, h2⟩, h3⟩, h4⟩, h5⟩ := h
  cases hb : bys s with
  | nil => have : (bys s).length = s.size := rfl; rw [hb] at this; simp at this; omega
  | cons c l =>
    refine ⟨c, l, rfl, hp _ (by rw [← bt_zero hb]; exact h4), fun b hm => ?_, h3⟩
    simp only [allB, hb, List.drop_succ_cons, List.drop_zero, List.all_eq_true] at h5
    exact hq _ (h5 b hm)
theorem var_letter : ∀ c, varB c = true → letterB c = true := fun c h => by
  simp only [varB, Bool.and_eq_true, decide_eq_true_eq] at h
  simp only [letterB, smallB, Bool.or_eq_true, Bool.and_eq_true, decide_eq_true_eq]; omega
theorem fun_letter : ∀ c, funB c = true → letterB c = true := fun c h => by
  simp only [funB, Bool.and_eq_true, decide_eq_true_eq] at h
  simp only [letterB, smallB, Bool.or_eq_true, Bool.and_eq_true, decide_eq_true_eq]; omega
theorem cap_letter : ∀ c, capB c = true → letterB c = true := fun c h => by simp [letterB, h]
theorem digit_alnum : ∀ c, digitB c = true → alnumB c = true := fun c h => by simp [alnumB, h]
theorem name_parts {s : ByteArray} (h : nameB s = true) : ∃ c l, bys s = c :: l ∧ letterB c.toNat = true ∧ (∀ b ∈ l, alL b = true) ∧ wordB s = false := by
  simp only [nameB, Bool.or_eq_true] at h
  rcases h with (h | h) | h
  · exact chk_parts h var_letter digit_alnum
  · exact chk_parts h fun_letter (fun _ h => h)
  · exact chk_parts h cap_letter (fun _ h => h)
/-- A token at the head of a text. -/
theorem tok_head {a : Nat} {c : UInt8} {l r : List UInt8} {k : Int} {t : ByteArray} (hb : blL c = false) (h : readL c l = ⟨k, t, 0⟩) (hs : c :: l = bys t ++ r) {ts : List Tok} {p : Nat} {e : Int} (hL : LexL (a + t.size) r ts p e) : LexL a (c :: l) (⟨k, t, a⟩ :: ts) p e := by
  have := LexL.tok (a := a) (c := c) (l := l) (r := r) (ts := ts) (p := p) (e := e) hb (by rw [h]) (by rw [h]; exact hs) (by rw [h]; exact hL)
  rw [h] at this
  exact this
/-- A piece of text, its tokens, and what may stand behind it. -/
def Lx (u : List UInt8) (K : List (Int × ByteArray)) (sep : List UInt8 → Prop) : Prop := ∀ (a : Nat) (r : List UInt8) (ts : List Tok) (p : Nat) (e : Int), sep r → LexL (a + u.length) r ts p e → ∃ us, LexL a (u ++ r) (us ++ ts) p e ∧ us.map tv = K
def anyL (_ : List UInt8) : Prop := True
theorem Lx.comp {u v : List UInt8} {K M : List (Int × ByteArray)} {s1 s2 : List UInt8 → Prop} (h1 : Lx u K s1) (h2 : Lx v M s2) (hs : ∀ r, s2 r → s1 (v ++ r)) : Lx (u ++ v) (K ++ M) s2 := by
  intro a r ts p e hr hL
  rw [List.length_append, ← Nat.add_assoc] at hL
  obtain ⟨us2, hL2, hm2⟩ := h2 (a + u.length) r ts p e hr hL
  obtain ⟨us1, hL1, hm1⟩ := h1 a (v ++ r) (us2 ++ ts) p e (hs r hr) hL2
  exact ⟨us1 ++ us2, by rw [List.append_assoc, List.append_assoc]; exact hL1, by rw [List.map_append, hm1, hm2]⟩
theorem Lx.nil (s : List UInt8 → Prop) : Lx [] [] s := fun a r ts p e _ hL => ⟨[], hL, rfl⟩
theorem Lx.blank : Lx [32] [] anyL := fun a r ts p e _ hL => ⟨[], .blank (by decide) hL, rfl⟩
theorem Lx.name {s : ByteArray} (h : nameB s = true) : Lx (bys s) [(1, s)] sepL := by
  intro a r ts p e hr hL
  obtain ⟨c, l, hb, hc, hl, hw⟩ := name_parts h
  refine ⟨[⟨1, s, a⟩], ?_, rfl⟩
  rw [hb, List.cons_append]
  have hmk : mkS (c :: l) = s := by rw [← hb, mk_bys]
  refine tok_head (r := r) (letter_not_blank hc) ?_ (by rw [hb, List.cons_append]) hL
  unfold readL
  rw [if_pos hc, takeWhile_sep l r hl hr, hmk]
  unfold runR
  rw [if_neg (by rw [hw]; decide), if_pos h]
theorem word_parts {w : List UInt8} (h : w ∈ wordsD) : ∃ c l, w = c :: l ∧ letterB c.toNat = true ∧ (∀ b ∈ l, alL b = true) := by
  simp only [wordsD, List.mem_cons, List.not_mem_nil, or_false] at h
  rcases h with rfl | rfl | rfl | rfl | rfl | rfl <;> exact ⟨_, _, rfl, by decide, by decide⟩
theorem Lx.word {w : List UInt8} (h : w ∈ wordsD) : Lx w [(3, mkS w)] sepL := by
  intro a r ts p e hr hL
  obtain ⟨c, l, rfl, hc, hl⟩ := word_parts h
  refine ⟨[⟨3, mkS (c :: l), a⟩], ?_, rfl⟩
  rw [List.cons_append]
  refine tok_head (r := r) (letter_not_blank hc) ?_ (by rw [bys_mk, List.cons_append]) (by rw [mk_size]; exact hL)
  unfold readL
  rw [if_pos hc, takeWhile_sep l r hl hr]
  unfold runR
  rw [if_pos (by unfold wordB; rw [bys_mk]; exact decide_eq_true h)]
theorem meta_parts {s : ByteArray} (h : metaB s = true) : ∃ l, bys s = 63 :: l ∧ (∀ b ∈ l, alL b = true) := by
  have key : ∀ {p q : Nat → Bool}, (∀ c, p c = true → letterB c = true) → (∀ c, q c = true → alnumB c = true) → prefB ⟨#[63]⟩ s = true → checkB p q (s.extract 1 s.size) = true → ∃ l, bys s = 63 :: l ∧ (∀ b ∈ l, alL b = true) := fun hp hq h1 h2 => by
    rw [prefB_prefL] at h1
    obtain ⟨l, hl⟩ := (prefL_iff _ _).1 h1
    have hl' : bys s = 63 :: l := hl
    obtain ⟨c, m, hb, hc, hm, _⟩ := chk_parts h2 hp hq
    have hx : bys (s.extract 1 s.size) = l := by
      have e1 : bys (s.extract 1 s.size) = ((bys s).take s.size).drop 1 := by
        simp [bys, ByteArray.data_extract, Array.toList_extract, List.extract_eq_take_drop, List.drop_take]
      have e2 : (bys s).length = s.size := rfl
      rw [e1, ← e2, List.take_length, hl']; rfl
    rw [hx] at hb
    refine ⟨l, hl', fun b hbm => ?_⟩
    rw [hb] at hbm
    rcases List.mem_cons.1 hbm with rfl | hbm
    · show alnumB b.toNat = true
      simp [alnumB, hc]
    · exact hm b hbm
  simp only [metaB, fmB, tmB, Bool.or_eq_true, Bool.and_eq_true] at h
  rcases h with h | h
  · first | exact key cap_letter (fun _ h => h) h.1.2 h.2 | exact key fun_letter (fun _ h => h) h.1.2 h.2
  · first | exact key fun_letter (fun _ h => h) h.1.2 h.2 | exact key cap_letter (fun _ h => h) h.1.2 h.2
theorem Lx.mark {s : ByteArray} (h : metaB s = true) : Lx (bys s) [(2, s)] sepL := by
  intro a r ts p e hr hL
  obtain ⟨l, hb, hl⟩ := meta_parts h
  refine ⟨[⟨2, s, a⟩], ?_, rfl⟩
  rw [hb, List.cons_append]
  have hmk : mkS (63 :: l) = s := by rw [← hb, mk_bys]
  refine tok_head (r := r) (by decide) ?_ (by rw [hb, List.cons_append]) hL
  unfold readL
  rw [if_neg (by decide), if_pos (by decide), takeWhile_sep l r hl hr, hmk]
  unfold markR
  rw [if_pos h]
theorem Lx.sign {c : UInt8} {g : List UInt8} {S : List UInt8 → Prop} (h1 : letterB c.toNat = false) (h2 : markB c.toNat = false) (h3 : blL c = false) (h : ∀ r, S r → signL (c :: g ++ r) = some (c :: g)) : Lx (c :: g) [(4, mkS (c :: g))] S := by
  intro a r ts p e hr hL
  refine ⟨[⟨4, mkS (c :: g), a⟩], ?_, rfl⟩
  have hs := h r hr
  refine tok_head (c := c) (l := g ++ r) (r := r) h3 ?_ (by rw [bys_mk]; rfl) (by rw [mk_size]; exact hL)
  unfold readL
  rw [if_neg (by rw [h1]; decide), if_neg (by rw [h2]; decide), signR_L]
  rw [show c :: (g ++ r) = c :: g ++ r from rfl, hs]
theorem Lx.open_ : Lx [40] [(4, mkS [40])] anyL := .sign (by decide) (by decide) (by decide) fun r _ => rfl
theorem Lx.shut : Lx [41] [(4, mkS [41])] anyL := .sign (by decide) (by decide) (by decide) fun r _ => rfl
theorem Lx.comma : Lx [44] [(4, mkS [44])] anyL := .sign (by decide) (by decide) (by decide) fun r _ => rfl
theorem Lx.slash : Lx [47] [(4, mkS [47])] anyL := .sign (by decide) (by decide) (by decide) fun r _ => rfl
theorem Lx.close : Lx [93] [(4, mkS [93])] anyL := .sign (by decide) (by decide) (by decide) fun r _ => rfl
theorem Lx.brack : Lx [91] [(4, mkS [91])] (fun r => ∃ l, r = 63 :: l) := .sign (by decide) (by decide) (by decide) fun r hr => by obtain ⟨l, rfl⟩ := hr; rfl
/-- The signs and words of operators. -/
def opS (op : Nat) : List UInt8 := if op = 3 then [126] else if op = 4 then [38] else if op = 5 then [124] else if op = 6 then [45, 62] else if op = 7 then [60, 45, 62] else if op = 8 then [97, 108, 108] else if op = 9 then [115, 111, 109, 101] else if op = 10 then [91, 93] else if op = 11 then [60, 62] else if op = 12 then [110, 101, 120, 116] else if op = 13 then [97, 108, 119, 97, 121, 115] else [117, 110, 116, 105, 108]
def opK (op : Nat) : Int := if op = 8 ∨ op = 9 ∨ op = 12 ∨ op = 13 ∨ op = 14 then 3 else 4
theorem Lx.op {op : Nat} (h1 : 3 ≤ op) (h2 : op ≤ 14) : Lx (opS op) [(opK op, mkS (opS op))] sepL := by
  have ws : ∀ {u : List UInt8} {K : List (Int × ByteArray)}, Lx u K anyL → Lx u K sepL := fun h a r ts p e _ hL => h a r ts p e trivial hL
  rcases (by omega : op = 3 ∨ op = 4 ∨ op = 5 ∨ op = 6 ∨ op = 7 ∨ op = 8 ∨ op = 9 ∨ op = 10 ∨ op = 11 ∨ op = 12 ∨ op = 13 ∨ op = 14) with rfl | rfl | rfl | rfl | rfl | rfl | rfl | rfl | rfl | rfl | rfl | rfl
  · exact ws (.sign (by decide) (by decide) (by decide) fun r _ => rfl)
  · exact ws (.sign (by decide) (by decide) (by decide) fun r _ => rfl)
  · exact ws (.sign (by decide) (by decide) (by decide) fun r _ => rfl)
  · exact ws (.sign (by decide) (by decide) (by decide) fun r _ => rfl)
  · exact ws (.sign (by decide) (by decide) (by decide) fun r _ => rfl)
  · exact .word (by decide)
  · exact .word (by decide)
  · exact ws (.sign (by decide) (by decide) (by decide) fun r _ => rfl)
  · exact ws (.sign (by decide) (by decide) (by decide) fun r _ => rfl)
  · exact .word (by decide)
  · exact .word (by decide)
  · exact .word (by decide)
end Go.Proofs.YtdobflpbkfkmgaaDoor
