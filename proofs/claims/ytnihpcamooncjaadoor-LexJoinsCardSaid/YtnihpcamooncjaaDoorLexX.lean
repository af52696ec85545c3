/- The examples of the chapter: the walk of awake. -/
import Derived.Test.YtnihpcamooncjaaDoorLexW
namespace Go.Proofs.YtnihpcamooncjaaDoor
open Go.RowKit
set_option linter.unusedVariables false
set_option linter.unusedSimpArgs false
set_option linter.unusedSectionVars false
/-- Lex answers with tokens. -/
def RetG (w : World) (ts : List Tok) (n : Nat) (e : Ending) (w' : World) : Prop :=
  ∃ g c, e = .returned (.tuple #[.slice (some ⟨g, 0, none⟩) n c, .int .i64 0, .int .i64 0]) ∧ RowT w' g 0 (ts.map Tok.tk) ∧ n ≤ c ∧ w.heap.size ≤ g ∧ Below w.heap.size w w'
/-- Lex answers with an error. -/
def RetB (w : World) (p : Nat) (k : Int) (e : Ending) (w' : World) : Prop := e = .returned (.tuple #[.slice none 0 0, .int .i64 p, .int .i64 k]) ∧ Below w.heap.size w w'
theorem flatT_get (ts : List Tok) : ∀ (i : Nat) (t : Tok), ts[i]? = some t → (flatT ts)[i * 3]? = some (.int .u8 t.k) ∧ (flatT ts)[i * 3 + 1]? = some (.string t.t) ∧ (flatT ts)[i * 3 + 2]? = some (.int .i64 t.p) := by
  induction ts with
  | nil => intro i t h; simp at h
  | cons u ts ih =>
    intro i t h
    cases i with
    | zero =>
      simp only [List.getElem?_cons_zero, Option.some.injEq] at h
      subst h
      simp [flatT]
    | succ i =>
      have := ih i t h
      rw [show (i + 1) * 3 = i * 3 + 1 + 1 + 1 by omega]
      simp only [flatT, List.flatMap_cons, List.cons_append, List.nil_append] at this ⊢
      exact this
theorem rowT_of {W : World} {B : Nat} {v : Value} {ts : List Tok} (h : W.ownsRow B 26 3 v ts.length (flatT ts)) (hne : ts ≠ []) : ∃ g c, v = .slice (some ⟨g, 0, none⟩) ts.length c ∧ RowT W g 0 (ts.map Tok.tk) ∧ ts.length ≤ c ∧ B ≤ g := by
  have hs := h
  rcases h.2 with ⟨_, h0⟩ | ⟨g, cap, cur, rfl, hg, hh, hc, _⟩
  · exact absurd (List.length_eq_zero_iff.1 h0) hne
  · have key : ∀ j u, (flatT ts)[j]? = some u → W.cell? ⟨g, j, none⟩ = some u := fun j u hu => by
      have := hs.cells rfl j u hu
      rwa [show ((⟨g, 0, none⟩ : Addr).add j) = ⟨g, j, none⟩ by unfold Addr.add; split <;> simp_all] at this
    have get : ∀ (i : Nat) x, (ts.map Tok.tk)[i]? = some x → ∃ t, ts[i]? = some t ∧ x = t.tk := fun i x hx => by
      rw [List.getElem?_map, Option.map_eq_some_iff] at hx
      obtain ⟨t, h1, h2⟩ := hx
      exact ⟨t, h1, h2.symm⟩
    refine ⟨g, cap, rfl, ⟨fun i x hx => ?_, fun i x hx => ?_, fun i x hx => ?_, HK.blk_lt hh⟩, hc, hg⟩
    · obtain ⟨t, h1, rfl⟩ := get i x hx
      rw [Nat.zero_add]; exact key _ _ (flatT_get ts i t h1).1
    · obtain ⟨t, h1, rfl⟩ := get i x hx
      rw [Nat.zero_add]; exact key _ _ (flatT_get ts i t h1).2.1
    · obtain ⟨t, h1, rfl⟩ := get i x hx
      rw [Nat.zero_add]; exact key _ _ (flatT_get ts i t h1).2.2
theorem lex_good (w : World) (s : ByteArray) (hs : s.size ≤ 16384) (hG : Signs w) {ts : List Tok} {p : Nat} {e : Int} (hL : LexL 0 (bys s) ts p e) (he : e = 0) {n : Nat} (hn : ts.length = n) : Calls Tryd.prog 13 #[.string s] w (RetG w ts n) := by
  subst hn
  refine (lex_any w s hs hG ts p e hL).mono fun E W' ⟨hb, h⟩ => ?_
  rcases h with ⟨_, v, rfl, hrow⟩ | ⟨h, _⟩
  · obtain ⟨init, h1, _⟩ := lex_end hL he
    obtain ⟨g, c, rfl, h2, h3, h4⟩ := rowT_of hrow (by rw [h1]; simp)
    exact ⟨g, c, rfl, h2, h3, h4, hb⟩
  · exact absurd he h
theorem lex_bad (w : World) (s : ByteArray) (hs : s.size ≤ 16384) (hG : Signs w) {ts : List Tok} {p : Nat} {e : Int} (hL : LexL 0 (bys s) ts p e) (he : e ≠ 0) : Calls Tryd.prog 13 #[.string s] w (RetB w p e) := by
  refine (lex_any w s hs hG ts p e hL).mono fun E W' ⟨hb, h⟩ => ?_
  rcases h with ⟨h, _⟩ | ⟨_, h⟩
  · exact absurd h he
  · exact ⟨h, hb⟩
def aw1 : List Tok := [⟨3, ⟨#[97, 108, 108]⟩, 0⟩, ⟨1, ⟨#[120]⟩, 4⟩, ⟨4, ⟨#[40]⟩, 6⟩, ⟨1, ⟨#[80]⟩, 7⟩, ⟨4, ⟨#[40]⟩, 8⟩, ⟨1, ⟨#[120]⟩, 9⟩, ⟨4, ⟨#[41]⟩, 10⟩, ⟨4, ⟨#[45, 62]⟩, 11⟩, ⟨4, ⟨#[126]⟩, 13⟩, ⟨1, ⟨#[81]⟩, 14⟩, ⟨4, ⟨#[41]⟩, 15⟩, ⟨5, ⟨#[]⟩, 16⟩]
def aw4 : List Tok := [⟨2, ⟨#[63, 65]⟩, 0⟩, ⟨4, ⟨#[91]⟩, 2⟩, ⟨2, ⟨#[63, 116]⟩, 3⟩, ⟨4, ⟨#[47]⟩, 5⟩, ⟨1, ⟨#[120]⟩, 6⟩, ⟨4, ⟨#[93]⟩, 7⟩, ⟨5, ⟨#[]⟩, 8⟩]
theorem aw1_is : LexL 0 (bys ⟨#[97, 108, 108, 32, 120, 32, 40, 80, 40, 120, 41, 45, 62, 126, 81, 41]⟩) aw1 0 0 := lexF_sound 30 0 _ _ _ _ (by kernel_rfl)
theorem aw2_is : ∃ ts, LexL 0 (bys ⟨#[80, 32, 38, 32, 120, 121]⟩) ts 4 41 := ⟨[⟨1, ⟨#[80]⟩, 0⟩, ⟨4, ⟨#[38]⟩, 2⟩], lexF_sound 30 0 _ _ _ _ (by kernel_rfl)⟩
theorem aw3_is : ∃ ts, LexL 0 (bys ⟨#[80, 32, 45, 32, 81]⟩) ts 2 40 := ⟨[⟨1, ⟨#[80]⟩, 0⟩], lexF_sound 30 0 _ _ _ _ (by kernel_rfl)⟩
theorem aw4_is : LexL 0 (bys ⟨#[63, 65, 91, 63, 116, 47, 120, 93]⟩) aw4 0 0 := lexF_sound 30 0 _ _ _ _ (by kernel_rfl)
theorem aw4_join : joinT (aw4.map Tok.tk) = [63, 65, 32, 91, 32, 63, 116, 32, 47, 32, 120, 32, 93] := by kernel_rfl
theorem aw_want : ∀ (k : Nat) x, (aw1.map Tok.tk)[k]? = some x → (#[.string ⟨#[97, 108, 108]⟩, .string ⟨#[120]⟩, .string ⟨#[40]⟩, .string ⟨#[80]⟩, .string ⟨#[40]⟩, .string ⟨#[120]⟩, .string ⟨#[41]⟩, .string ⟨#[45, 62]⟩, .string ⟨#[126]⟩, .string ⟨#[81]⟩, .string ⟨#[41]⟩, .string ⟨#[]⟩] : Array Value)[k]? = some (.string x.t) ∧ (#[.int .i64 0, .int .i64 4, .int .i64 6, .int .i64 7, .int .i64 8, .int .i64 9, .int .i64 10, .int .i64 11, .int .i64 13, .int .i64 14, .int .i64 15, .int .i64 16] : Array Value)[k]? = some (.int .i64 x.p) := by
  intro k x h
  have hl : k < 12 := (List.getElem?_eq_some_iff.1 h).1
  have : k = 0 ∨ k = 1 ∨ k = 2 ∨ k = 3 ∨ k = 4 ∨ k = 5 ∨ k = 6 ∨ k = 7 ∨ k = 8 ∨ k = 9 ∨ k = 10 ∨ k = 11 := by omega
  rcases this with rfl | rfl | rfl | rfl | rfl | rfl | rfl | rfl | rfl | rfl | rfl | rfl <;> (simp only [aw1, List.map_cons, List.map_nil] at h; cases h; exact ⟨rfl, rfl⟩)
def RetW4 (w : World) (e : Ending) (w' : World) : Prop := e = .returned (.string ⟨#[63, 65, 32, 91, 32, 63, 116, 32, 47, 32, 120, 32, 93]⟩) ∧ Below w.heap.size w w'
/-- awake answers true; what was there stays. -/
def RetW1 (w : World) (e : Ending) (w' : World) : Prop := e = .returned (.bool true) ∧ Below w.heap.size w w'
set_option maxRecDepth 100000 in
set_option maxHeartbeats 4000000 in
theorem awake_any (w : World) (hG : Signs w) : Calls Tryd.prog 9 #[] w (RetW1 w) := by
  have L1 := Lib.hid (lex_good w _ (by decide) hG aw1_is rfl (n := 12) rfl)
  have HG := Lib.hid hG
  clear hG
  have L2 := Lib.hid (fun (w' : World) (h : Below w.heap.size w w') => by obtain ⟨ts, h2⟩ := aw2_is; exact lex_bad w' _ (by decide) (HG.out.below h) h2 (by decide))
  have L3 := Lib.hid (fun (w' : World) (h : Below w.heap.size w w') => by obtain ⟨ts, h2⟩ := aw3_is; exact lex_bad w' _ (by decide) (HG.out.below h) h2 (by decide))
  have L4 := Lib.hid (fun (w' : World) (h : Below w.heap.size w w') => lex_good w' _ (by decide) (HG.out.below h) aw4_is rfl (n := 7) rfl)
  go_enter Tryd.func9, Tryd.ntmps9
  go_wp2_with (go_at_call 13; (refine L1.out.mono ?_; rintro e w1 ⟨g, c, rfl, hR, hc, hg, hB⟩))
  obtain ⟨W, hW⟩ : ∃ W, W = ((w1.alloc (.cells #[.string ⟨#[97, 108, 108]⟩, .string ⟨#[120]⟩, .string ⟨#[40]⟩, .string ⟨#[80]⟩, .string ⟨#[40]⟩, .string ⟨#[120]⟩, .string ⟨#[41]⟩, .string ⟨#[45, 62]⟩, .string ⟨#[126]⟩, .string ⟨#[81]⟩, .string ⟨#[41]⟩, .string ⟨#[]⟩] 9)).alloc (.cells #[.int .i64 0, .int .i64 4, .int .i64 6, .int .i64 7, .int .i64 8, .int .i64 9, .int .i64 10, .int .i64 11, .int .i64 13, .int .i64 14, .int .i64 15, .int .i64 16] 3)) := ⟨_, rfl⟩
  have hBW : Below w.heap.size w W := by rw [hW]; exact (hB.alloc hB.size _).alloc (by have := hB.size; simp; omega) _
  have hRW : RowT W g 0 (aw1.map Tok.tk) := by
    rw [hW]; exact hR.below (((Below.refl w1.heap.size w1).alloc (Nat.le_refl _) _).alloc (by simp) _) hR.lt
  have hT1 : W.heap[w1.heap.size]? = some (.cells #[.string ⟨#[97, 108, 108]⟩, .string ⟨#[120]⟩, .string ⟨#[40]⟩, .string ⟨#[80]⟩, .string ⟨#[40]⟩, .string ⟨#[120]⟩, .string ⟨#[41]⟩, .string ⟨#[45, 62]⟩, .string ⟨#[126]⟩, .string ⟨#[81]⟩, .string ⟨#[41]⟩, .string ⟨#[]⟩] 9 (0, 0)) := by rw [hW]; exact HK.blk_alloc (HK.blk_new w1 _) _
  have hT2 : W.heap[w1.heap.size + 1]? = some (.cells #[.int .i64 0, .int .i64 4, .int .i64 6, .int .i64 7, .int .i64 8, .int .i64 9, .int .i64 10, .int .i64 11, .int .i64 13, .int .i64 14, .int .i64 15, .int .i64 16] 3 (0, 0)) := by
    rw [hW]; have := HK.blk_new (w1.alloc (.cells #[.string ⟨#[97, 108, 108]⟩, .string ⟨#[120]⟩, .string ⟨#[40]⟩, .string ⟨#[80]⟩, .string ⟨#[40]⟩, .string ⟨#[120]⟩, .string ⟨#[41]⟩, .string ⟨#[45, 62]⟩, .string ⟨#[126]⟩, .string ⟨#[81]⟩, .string ⟨#[41]⟩, .string ⟨#[]⟩] 9)) (.cells #[.int .i64 0, .int .i64 4, .int .i64 6, .int .i64 7, .int .i64 8, .int .i64 9, .int .i64 10, .int .i64 11, .int .i64 13, .int .i64 14, .int .i64 15, .int .i64 16] 3); simpa using this
  have HRW := Lib.hid hRW
  have HT1 := Lib.hid hT1
  have HT2 := Lib.hid hT2
  rw [← hW]
  obtain ⟨b1, hb1⟩ : ∃ b1, b1 = w1.heap.size := ⟨_, rfl⟩
  rw [← hb1]
  rw [← hb1] at HT1 HT2
  have HBW := Lib.hid hBW
  clear hW hBW hRW hT1 hT2 hR hB hb1 hg
  go_loopw [6] (fun i wr => ∃ k d : Nat, k ≤ 12 ∧ i = .int .i64 k ∧ wr = W.drewN d) (fun i _ => 12 - (intOf i).toNat)
  case atStart => exact ⟨0, 0, by omega, rfl, rfl⟩
  case round =>
    obtain ⟨k, d, hk, rfl, rfl⟩ := hrel
    by_cases hlt : k < 12
    · obtain ⟨x, hx⟩ : ∃ x, (aw1.map Tok.tk)[k]? = some x := ⟨_, List.getElem?_eq_getElem (show k < 12 from hlt)⟩
      obtain ⟨q1, q2⟩ := aw_want k x hx
      have c1 := HRW.out.c1 k x hx
      have c2 := HRW.out.c2 k x hx
      have d1 : W.cell? ⟨b1, k, none⟩ = some (.string x.t) := (HK.blk_cell HT1.out k).trans q1
      have d2 : W.cell? ⟨b1 + 1, k, none⟩ = some (.int .i64 x.p) := (HK.blk_cell HT2.out k).trans q2
      have a1 : (k : Int) < 12 := by omega
      have a0 : (0 : Int) ≤ (k : Int) := by omega
      simp only [Nat.zero_add] at c1 c2
      clear hx q1 q2
      go_wp2_with (fail)
      go_quiet (fail)
      go_wp2_with (fail)
      go_roundw
      case rel => exact ⟨k + 1, d + nq, by omega, by go_num, rfl⟩
      case measure => simp [intOf]; omega
    · obtain rfl : k = 12 := by omega
      have B0 := Lib.hid (below_drewN HBW.out d)
      have LW := fun w' => word_any w' ⟨#[117, 110, 116, 105, 108]⟩
      rw [show wordB ⟨#[117, 110, 116, 105, 108]⟩ = true by decide +kernel] at LW
      have LJ : ∀ (w' : World) (g n : Nat), RowT w' g 0 (aw4.map Tok.tk) → Calls Tryd.prog 10 #[.slice (some ⟨g, 0, none⟩) 7 n] w' (RetW4 w') := fun w' g n h => by
        have := join_sl w' (.slice (some ⟨g, 0, none⟩) 7 n) _ (.inl ⟨g, 0, n, rfl, h⟩) (by decide) (by rw [aw4_join]; decide)
        rw [aw4_join] at this; exact this.mono fun _ _ h => ⟨h.1, h.2⟩
      have HLW := Lib.hid LW
      have HLJ := Lib.hid LJ
      clear LW LJ
      go_wp2_with (first
        | (go_at_call 13; (with_reducible refine (L2.out _ B0.out).mono ?_); rintro e w3 ⟨rfl, hb3⟩; have B3 := Lib.hid (B0.out.trans (hb3.mono B0.out.size)); clear hb3)
        | (go_at_call 13; (with_reducible refine (L3.out _ B3.out).mono ?_); rintro e w4 ⟨rfl, hb4⟩; have B4 := Lib.hid (B3.out.trans (hb4.mono B3.out.size)); clear hb4)
        | (go_at_call 13; (with_reducible refine (L4.out _ B4.out).mono ?_); rintro e w5 ⟨g5, n5, rfl, hR5, hc5, hg5, hb5⟩; have B5 := Lib.hid (B4.out.trans (hb5.mono B4.out.size)); have r5 := hR5.c1 1 ⟨4, ⟨#[91]⟩, 2⟩ rfl; simp only [Nat.zero_add, Nat.reduceMul, Nat.reduceAdd] at r5; have HR5 := Lib.hid hR5; clear hb5 hR5 hg5)
        | (go_at_call 10; (with_reducible refine (HLJ.out _ _ _ HR5.out).mono ?_); rintro e w6 ⟨rfl, hb6⟩)
        | (go_at_call 15; (with_reducible refine (HLW.out _).mono ?_); rintro e w7 ⟨rfl, rfl⟩))
      go_ret
      exact ⟨rfl, B5.out.trans (hb6.mono B5.out.size)⟩
end Go.Proofs.YtnihpcamooncjaaDoor
