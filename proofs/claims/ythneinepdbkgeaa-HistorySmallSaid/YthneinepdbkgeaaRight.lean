/- The walk of right: whether entries are those of a tree. -/
import Derived.Test.YthneinepdbkgeaaOtw
import Derived.Test.YthneinepdbkgeaaBetx
namespace Go.Proofs.Ythneinepdbkgeaa
open Go.RowKit Go.HK
set_option linter.unusedVariables false
set_option linter.unusedSimpArgs false
set_option linter.unusedSectionVars false
/-- At block g lie the entries es. -/
structure EntsAt (w : World) (g : Nat) (es : List Ent) : Prop where
  c : ∀ (i : Nat) (x : Ent), es[i]? = some x → w.cell? ⟨g, i * 4, none⟩ = some (.int .i64 x.par) ∧ w.cell? ⟨g, i * 4 + 1, none⟩ = some (.int .i64 x.tick) ∧ w.cell? ⟨g, i * 4 + 2, none⟩ = some (.string x.note) ∧ w.cell? ⟨g, i * 4 + 3, none⟩ = some (.string x.state)
  lt : g < w.heap.size
theorem EntsAt.below {w w' : World} {g B : Nat} {es : List Ent} (h : EntsAt w g es) (hb : Below B w w') (hB : w.heap.size ≤ B) : EntsAt w' g es :=
  ⟨fun i x hx => by
    have hg := Nat.lt_of_lt_of_le h.lt hB
    obtain ⟨h0, h1, h2, h3⟩ := h.c i x hx
    exact ⟨(hb.cell (p := ⟨g, _, none⟩) hg).trans h0, (hb.cell (p := ⟨g, _, none⟩) hg).trans h1, (hb.cell (p := ⟨g, _, none⟩) hg).trans h2, (hb.cell (p := ⟨g, _, none⟩) hg).trans h3⟩, Nat.lt_of_lt_of_le h.lt hb.size⟩
theorem EntsAt.of {w : World} {base g n c : Nat} {es : List Ent} (h : w.ownsRow base 45 4 (.slice (some ⟨g, 0, none⟩) n c) n (entsFlat es)) (hn : n = es.length) : EntsAt w g es :=
  ⟨fun i x hx => by
    have hi := (List.getElem?_eq_some_iff.1 hx).1
    have hc : ∀ j, j < 4 → w.cell? ⟨g, i * 4 + j, none⟩ = (entCells x)[j]? := fun j hj => (h.cellAt _ (by omega)).trans (entsFlat_get _ _ _ _ hx hj)
    exact ⟨hc 0 (by omega), hc 1 (by omega), hc 2 (by omega), hc 3 (by omega)⟩, own_lt h g rfl⟩
theorem bytes_isEmpty {M : ByteArray} (h : M ≠ ⟨#[]⟩) : M.toList.isEmpty = false := by
  have h1 := bytes_ne h
  cases e : M.toList with
  | nil => rw [e] at h1; exact absurd h1 (by decide +kernel)
  | cons a l => rfl
/-- What right looks for at the entry j. -/
def okAt (es : List Ent) (j : Nat) (x : Ent) : Prop :=
  if j = 0 then x.par = -1 ∧ x.note = ⟨#[]⟩ ∧ x.tick = 0 else 0 ≤ x.par ∧ x.par < j ∧ ∃ p, es[x.par.toNat]? = some p ∧ ¬ x.tick < p.tick ∧ x.state ≠ p.state
def Right (es : List Ent) (now : Int) : Prop := 0 ≤ now ∧ now < es.length ∧ ∀ (j : Nat) (x : Ent), es[j]? = some x → okAt es j x
/-- A Boolean that tells whether R. -/
def RetB (w : World) (R : Prop) (e : Ending) (w' : World) : Prop := ∃ b, e = .returned (.bool b) ∧ (b = true ↔ R) ∧ Below w.heap.size w w'
theorem RetB.no {w w' : World} {R : Prop} (h : ¬ R) (hb : Below w.heap.size w w') : RetB w R (.returned (.bool false)) w' := ⟨false, rfl, by simp [h], hb⟩
theorem RetB.yes {w w' : World} {R : Prop} (h : R) (hb : Below w.heap.size w w') : RetB w R (.returned (.bool true)) w' := ⟨true, rfl, by simp [h], hb⟩
def OkTo (es : List Ent) (k : Nat) : Prop := ∀ (j : Nat) (x : Ent), j < k → es[j]? = some x → okAt es j x
theorem OkTo.more {es : List Ent} {k : Nat} {x : Ent} (h : OkTo es k) (hx : es[k]? = some x) (ho : okAt es k x) : OkTo es (k + 1) := fun j y hj hy => by
  by_cases e : j = k
  · subst e; rw [hx] at hy; cases hy; exact ho
  · exact h j y (by omega) hy
set_option maxRecDepth 100000 in
set_option maxHeartbeats 4000000 in
theorem right_far (w : World) (a : Option Addr) (n c : Nat) (now : Int) (hn : n ≤ 1000) (hno : ¬ (0 ≤ now ∧ now < n)) : Calls Try.prog 44 #[.slice a n c, .int .i64 now] w fun e w' => e = .returned (.bool false) ∧ w = w' := by
  by_cases h0 : 0 ≤ now
  · have h1 : (n : Int) ≤ now := by omega
    clear hno
    go_enter Try.func44, Try.ntmps44
    go_wp2_with (fail)
    go_ret
    exact ⟨rfl, rfl⟩
  · have h1 : now < 0 := by omega
    clear hno h0
    go_enter Try.func44, Try.ntmps44
    go_wp2_with (fail)
    go_ret
    exact ⟨rfl, rfl⟩
set_option maxRecDepth 100000 in
set_option maxHeartbeats 4000000 in
theorem right_any (w : World) (g n c : Nat) (es : List Ent) (now : Int) (hes : EntsAt w g es) (hlen : es.length = n) (hn : n ≤ 1000) (h0 : 0 ≤ now) (h1 : now < n) : Calls Try.prog 44 #[.slice (some ⟨g, 0, none⟩) n c, .int .i64 now] w (RetB w (Right es now)) := by
  have HES := Lib.hid hes
  have HLEN := Lib.hid hlen
  clear hes hlen
  go_enter Try.func44, Try.ntmps44
  go_wp2_with (fail)
  go_loopw [18] (fun i wr => ∃ k : Nat, k ≤ n ∧ i = .int .i64 k ∧ Below w.heap.size w wr ∧ OkTo es k) (fun i _ => n - (intOf i).toNat)
  case atStart => exact ⟨0, by omega, rfl, Below.refl _ _, fun j x hj => by omega⟩
  case round =>
    obtain ⟨k, hk, rfl, hB, hO⟩ := hrel
    have HO := Lib.hid hO
    have HB := Lib.hid hB
    clear hO
    by_cases hkn : k < n
    · have d1 : decide (k < n) = true := decide_eq_true hkn
      have a0 : (0 : Int) ≤ (k : Int) := by omega
      have a1 : (k : Int) < (n : Int) := by omega
      obtain ⟨x, hx⟩ : ∃ x, es[k]? = some x := ⟨_, List.getElem?_eq_getElem (by rw [HLEN.out]; exact hkn)⟩
      obtain ⟨c0, c1, c2, c3⟩ := (HES.out.below hB (Nat.le_refl _)).c k x hx
      have hB1 : ∀ o, Below w.heap.size w (wr.alloc o) := fun o => hB.alloc hB.size o
      obtain ⟨P, T, M, S⟩ := x
      have HX := Lib.hid hx
      simp only at c0 c1 c2 c3
      clear hx hB
      rcases Nat.eq_zero_or_pos k with hk0 | hk0
      · subst hk0
        by_cases q1 : P = -1
        · subst q1
          by_cases q2 : M = ⟨#[]⟩
          · subst q2
            by_cases q3 : T = 0
            · subst q3
              go_wp2_with (fail)
              go_roundw
              case rel => exact ⟨0 + 1, by omega, by go_num, hB1 _, HO.out.more HX.out (by simp [okAt])⟩
              case measure => simp [intOf]; omega
            · have p3 : (T == 0) = false := by simpa using q3
              have hno : ¬ Right es now := fun h => q3 (by have := h.2.2 0 _ HX.out; simp [okAt] at this; exact this)
              have HN := Lib.hid hno
              clear hno q3
              go_wp2_with (fail)
              go_ret
              exact RetB.no HN.out (hB1 _)
          · have p2 := bytes_isEmpty q2
            have hno : ¬ Right es now := fun h => q2 (by have := h.2.2 0 _ HX.out; simp [okAt] at this; exact this.1)
            have HN := Lib.hid hno
            clear hno q2
            go_wp2_with (fail)
            go_ret
            exact RetB.no HN.out (hB1 _)
        · have p1 : (P == -1) = false := by simpa using q1
          have p1' : (P != -1) = true := by simpa using q1
          have hno : ¬ Right es now := fun h => q1 (by have := h.2.2 0 _ HX.out; simp [okAt] at this; exact this.1)
          have HN := Lib.hid hno
          clear hno
          go_wp2_with (fail)
          go_ret
          exact RetB.no HN.out (hB1 _)
      · have k0 : ¬ ((k : Int) = 0) := by omega
        have k1 : ¬ (k = 0) := by omega
        by_cases q1 : 0 ≤ P
        · by_cases q2 : P < k
          · obtain ⟨p, rfl⟩ : ∃ p : Nat, P = p := ⟨P.toNat, by omega⟩
            have q2' : decide (k ≤ p) = false := decide_eq_false (by omega)
            obtain ⟨y, hy⟩ : ∃ y, es[p]? = some y := ⟨_, List.getElem?_eq_getElem (by rw [HLEN.out]; omega)⟩
            obtain ⟨P2, T2, M2, S2⟩ := y
            have hc := fun o => (HES.out.below (hB1 o) (Nat.le_refl _)).c p _ hy
            have e0 : ∀ o, (wr.alloc o).cell? ⟨g, p * 4, none⟩ = some (.int .i64 P2) := fun o => (hc o).1
            have e1 : ∀ o, (wr.alloc o).cell? ⟨g, p * 4 + 1, none⟩ = some (.int .i64 T2) := fun o => (hc o).2.1
            have e2 : ∀ o, (wr.alloc o).cell? ⟨g, p * 4 + 2, none⟩ = some (.string M2) := fun o => (hc o).2.2.1
            have e3 : ∀ o, (wr.alloc o).cell? ⟨g, p * 4 + 3, none⟩ = some (.string S2) := fun o => (hc o).2.2.2
            have hB2 : ∀ o o', Below w.heap.size w ((wr.alloc o).alloc o') := fun o o' => (hB1 o).alloc (hB1 o).size o'
            have a2 : (p : Int) < (n : Int) := by omega
            have HY := Lib.hid hy
            clear hc hy
            by_cases q3 : T < T2
            · have hno : ¬ Right es now := fun h => by
                have := h.2.2 k _ HX.out
                simp only [okAt, if_neg (show ¬ k = 0 by omega)] at this
                obtain ⟨_, _, y, hy, h3, _⟩ := this
                rw [Int.toNat_natCast, HY.out] at hy; cases hy
                exact h3 q3
              have HN := Lib.hid hno
              clear hno
              go_wp2_with (fail)
              go_ret
              exact RetB.no HN.out (hB2 _ _)
            · by_cases q4 : S = S2
              · subst q4
                have hno : ¬ Right es now := fun h => by
                  have := h.2.2 k _ HX.out
                  simp only [okAt, if_neg (show ¬ k = 0 by omega)] at this
                  obtain ⟨_, _, y, hy, _, h4⟩ := this
                  rw [Int.toNat_natCast, HY.out] at hy; cases hy
                  exact h4 rfl
                have HN := Lib.hid hno
                clear hno
                go_wp2_with (fail)
                go_ret
                exact RetB.no HN.out (hB2 _ _)
              · have p4 := bytes_ne q4
                have hok : okAt es k ⟨(p : Int), T, M, S⟩ := by
                  simp only [okAt, if_neg (show ¬ k = 0 by omega)]
                  exact ⟨by omega, q2, _, by rw [Int.toNat_natCast]; exact HY.out, q3, q4⟩
                have HOK := Lib.hid hok
                clear hok q4
                go_wp2_with (fail)
                go_roundw
                case rel => exact ⟨k + 1, by omega, by go_num, hB2 _ _, HO.out.more HX.out HOK.out⟩
                case measure => simp [intOf]; omega
          · have hno : ¬ Right es now := fun h => q2 (by have := h.2.2 k _ HX.out; simp only [okAt, if_neg (show ¬ k = 0 by omega)] at this; exact this.2.1)
            have HN := Lib.hid hno
            clear hno
            go_wp2_with (fail)
            go_ret
            exact RetB.no HN.out (hB1 _)
        · have hno : ¬ Right es now := fun h => q1 (by have := h.2.2 k _ HX.out; simp only [okAt, if_neg (show ¬ k = 0 by omega)] at this; exact this.1)
          have HN := Lib.hid hno
          have q1' : P < 0 := by omega
          clear hno q1
          go_wp2_with (fail)
          go_ret
          exact RetB.no HN.out (hB1 _)
    · have d1 : decide (k < n) = false := decide_eq_false hkn
      have hyes : Right es now := ⟨h0, by rw [HLEN.out]; exact h1, fun j x hx => HO.out j x (by have := (List.getElem?_eq_some_iff.1 hx).1; rw [HLEN.out] at this; omega) hx⟩
      have HY := Lib.hid hyes
      clear hyes
      go_wp2_with (fail)
      go_ret
      exact RetB.yes HY.out HB.out
end Go.Proofs.Ythneinepdbkgeaa
