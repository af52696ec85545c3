/- The walk of the search among the steps. -/
import Derived.Test.YtfebcpmbkljaoaaMeaH
namespace Go.Proofs.Ytfebcpmbkljaoaa
open Go.RowKit Go.HR
set_option linter.unusedVariables false
set_option linter.unusedSimpArgs false
set_option linter.unusedSectionVars false
def plI (x : StepV) : List Int := x.d.pl.map fun n : Nat => (n : Int)
def RetB (w : World) (v : Value) (e : Ending) (w' : World) : Prop := e = .returned v ∧ Below w.heap.size w w'
set_option maxRecDepth 100000 in
set_option maxHeartbeats 4000000 in
theorem look1_call (w : World) (x : StepV) (t : SL) (ys : List Int) (hx : PlaceB w x.pv x.d.pl) (ht : IsI w t ys) (hl : x.d.pl.length ≤ 20000) (hl2 : ys.length ≤ 20000) : Calls Try.prog 57 #[.agg x.cells, t.v] w (RetB w (.int .i64 (ordI (plI x) ys))) := by
  obtain ⟨⟨pl, wt, ⟨rule, ⟨op, name, ⟨aa, an, ac⟩, ⟨fa, fn, fc⟩, label, ⟨ma, mn, mc⟩⟩, subs⟩⟩, ⟨pa, pn, pc⟩, ⟨sa, sn, sc⟩⟩ := x
  have ho := order_call (w.alloc (.cells #[.slice pa pn pc, .int .i64 (wt : Nat), .string rule, .int .u8 op, .string name, .slice aa an ac, .slice fa fn fc, .int .i64 label, .slice sa sn sc, .slice ma mn mc] 92)) ⟨pa, pn, pc⟩ t _ _ (hx.isI.below ((Below.refl _ w).alloc (Nat.le_refl _) _)) (ht.below ((Below.refl _ w).alloc (Nat.le_refl _) _)) (by simpa using hl) hl2
  simp only [StepV.cells, PT.rule, PT.o, SL.v, plI]
  simp only [SL.v] at ho
  have HO := Lib.hid ho
  clear ho ht hx
  go_enter Try.func57, Try.ntmps57
  go_wp2_with (go_at_call 58; (refine HO.out.mono ?_; rintro e w' ⟨rfl, d, rfl⟩))
  go_ret
  exact ⟨rfl, below_drewN ((Below.refl _ w).alloc (Nat.le_refl _) _) d⟩
/-- The steps as a row, and their places. -/
structure AllR (W : World) (g : Nat) (xs : List StepV) : Prop where
  c : ∀ (i : Nat) x, xs[i]? = some x → ∀ (j : Nat) u, x.cells[j]? = some u → W.cell? ⟨g, i * 10 + j, none⟩ = some u
  p : ∀ x ∈ xs, PlaceB W x.pv x.d.pl
theorem AllR.below {W W' : World} {g : Nat} {xs : List StepV} (h : AllR W g xs) (hb : Below W.heap.size W W') : AllR W' g xs where
  c := fun i x hx j u hu => (hb.cell (p := ⟨g, i * 10 + j, none⟩) (World.block_lt_of_cell? W _ (h.c i x hx j u hu))).trans (h.c i x hx j u hu)
  p := fun x hx => (h.p x hx).same fun k hk => hb.block k ((h.p x hx).lt hk)
/-- Where a place comes among the steps. -/
structure Found (xs : List StepV) (ys : List Int) (i : Nat) (ok : Bool) : Prop where
  le : i ≤ xs.length
  lo : ∀ j x, j < i → xs[j]? = some x → ordI (plI x) ys < 0
  hi : ∀ j x, i ≤ j → xs[j]? = some x → 0 ≤ ordI (plI x) ys
  ok : ok = true ↔ ∃ x, xs[i]? = some x ∧ plI x = ys
def RetS (w : World) (xs : List StepV) (ys : List Int) (e : Ending) (w' : World) : Prop := ∃ (i : Nat) (ok : Bool), e = .returned (.tuple #[.int .i64 (i : Nat), .bool ok]) ∧ Found xs ys i ok ∧ Below w.heap.size w w'
theorem cells10 (x : StepV) : ∃ q0 q1 q2 q3 q4 q5 q6 q7 q8 q9, x.cells = #[q0, q1, q2, q3, q4, q5, q6, q7, q8, q9] := ⟨_, _, _, _, _, _, _, _, _, _, rfl⟩
set_option maxRecDepth 100000 in
set_option maxHeartbeats 4000000 in
theorem search_call (w : World) (g cap : Nat) (xs : List StepV) (t : SL) (ys : List Int) (hx : AllR w g xs) (ht : IsI w t ys) (hp : ∀ x ∈ xs, x.d.pl.length ≤ 20000) (hl2 : ys.length ≤ 20000) (hn : xs.length ≤ 20000)
    (hmono : ∀ (i j : Nat) x y, i ≤ j → xs[i]? = some x → xs[j]? = some y → ordI (plI y) ys < 0 → ordI (plI x) ys < 0) :
    Calls Try.prog 56 #[.slice (some ⟨g, 0, none⟩) xs.length cap, t.v, .func (.func 57) #[] #[]] w (RetS w xs ys) := by
  obtain ⟨n, hN⟩ : ∃ n, n = xs.length := ⟨_, rfl⟩
  rw [← hN]
  have HN := Lib.hid hN
  have HX := Lib.hid hx
  have HT := Lib.hid ht
  have HM := Lib.hid hmono
  have HP := Lib.hid hp
  have hn' : n ≤ 20000 := by omega
  clear hN hx ht hmono hp hn
  go_enter Try.func56, Try.ntmps56
  go_wp2_with (fail)
  go_loopw [9, 10] (fun i j wr => ∃ a b : Nat, a ≤ b ∧ b ≤ n ∧ i = .int .i64 a ∧ j = .int .i64 b ∧ (∀ k x, k < a → xs[k]? = some x → ordI (plI x) ys < 0) ∧ (∀ k x, b ≤ k → xs[k]? = some x → 0 ≤ ordI (plI x) ys) ∧ Below w.heap.size w wr) (fun i j _ => (intOf j - intOf i).toNat)
  case atStart => exact ⟨0, n, by omega, by omega, rfl, rfl, by intro k x h; omega, by intro k x h hx; have := (List.getElem?_eq_some_iff.1 hx).1; rw [← HN.out] at this; omega, Below.refl _ _⟩
  case round =>
    obtain ⟨a, b, hab, hbn, rfl, rfl, hlo, hhi, hB⟩ := hrel
    have HLO := Lib.hid hlo
    have HHI := Lib.hid hhi
    have HB := Lib.hid hB
    clear hlo hhi hB
    by_cases h1 : a < b
    · obtain ⟨m, hm⟩ : ∃ m, m = (a + b) / 2 := ⟨_, rfl⟩
      have hm1 : a ≤ m := by omega
      have hm2 : m < b := by omega
      have hmz : ((a : Int) + (b : Int)) / 2 = (m : Int) := by omega
      have hmy : (a + b) / 2 = m := hm.symm
      clear hm
      obtain ⟨x, hx⟩ : ∃ x, xs[m]? = some x := ⟨_, List.getElem?_eq_getElem (by rw [← HN.out]; omega)⟩
      obtain ⟨q0, q1, q2, q3, q4, q5, q6, q7, q8, q9, hq⟩ := cells10 x
      have c := fun j u => (HX.out.below HB.out).c m x hx j u
      rw [hq] at c
      have c0 : wr.cell? ⟨g, m * 10, none⟩ = some q0 := c 0 q0 rfl
      have c1 : wr.cell? ⟨g, m * 10 + 1, none⟩ = some q1 := c 1 q1 rfl
      have c2 : wr.cell? ⟨g, m * 10 + 2, none⟩ = some q2 := c 2 q2 rfl
      have c3 : wr.cell? ⟨g, m * 10 + 3, none⟩ = some q3 := c 3 q3 rfl
      have c4 : wr.cell? ⟨g, m * 10 + 4, none⟩ = some q4 := c 4 q4 rfl
      have c5 : wr.cell? ⟨g, m * 10 + 5, none⟩ = some q5 := c 5 q5 rfl
      have c6 : wr.cell? ⟨g, m * 10 + 6, none⟩ = some q6 := c 6 q6 rfl
      have c7 : wr.cell? ⟨g, m * 10 + 7, none⟩ = some q7 := c 7 q7 rfl
      have c8 : wr.cell? ⟨g, m * 10 + 8, none⟩ = some q8 := c 8 q8 rfl
      have c9 : wr.cell? ⟨g, m * 10 + 9, none⟩ = some q9 := c 9 q9 rfl
      have hl := look1_call wr x t ys ((HX.out.below HB.out).p x (List.mem_of_getElem? hx)) (HT.out.below HB.out) (HP.out x (List.mem_of_getElem? hx)) hl2
      rw [hq] at hl
      have HL := Lib.hid hl
      have HXM := Lib.hid hx
      have HQ := Lib.hid hq
      clear c hl hx hq
      have b1 : (a : Int) < (b : Int) := by omega
      have b2 : (0 : Int) ≤ (m : Int) := by omega
      have b3 : (m : Int) < (n : Int) := by omega
      by_cases hr : ordI (plI x) ys < 0
      · have HR := Lib.hid (HM.out)
        go_wp2_with (go_at_call 57; (refine HL.out.mono ?_; rintro e w' ⟨rfl, hB2⟩))
        go_roundw
        case rel => exact ⟨m + 1, b, by omega, by omega, by go_num, rfl, fun k y hk hy => HM.out k m y x (by omega) hy HXM.out hr, HHI.out, HB.out.trans (hB2.mono HB.out.size)⟩
        case measure => simp [intOf]; omega
      · go_wp2_with (go_at_call 57; (refine HL.out.mono ?_; rintro e w' ⟨rfl, hB2⟩))
        go_roundw
        case rel => exact ⟨a, m, by omega, by omega, rfl, rfl, HLO.out, fun k y hk hy => Int.not_lt.1 fun hlt => by have := HM.out m k x y (by omega) HXM.out hy hlt; omega, HB.out.trans (hB2.mono HB.out.size)⟩
        case measure => simp [intOf]; omega
    · have hab2 : a = b := by omega
      subst hab2
      have b1 : ¬ ((a : Int) < (a : Int)) := by omega
      by_cases h2 : a < n
      · have b2 : (a : Int) < (n : Int) := by omega
        have b3 : (0 : Int) ≤ (a : Int) := by omega
        obtain ⟨x, hx⟩ : ∃ x, xs[a]? = some x := ⟨_, List.getElem?_eq_getElem (by rw [← HN.out]; omega)⟩
        obtain ⟨q0, q1, q2, q3, q4, q5, q6, q7, q8, q9, hq⟩ := cells10 x
        have c := fun j u => (HX.out.below HB.out).c a x hx j u
        rw [hq] at c
        have c0 : wr.cell? ⟨g, a * 10, none⟩ = some q0 := c 0 q0 rfl
        have c1 : wr.cell? ⟨g, a * 10 + 1, none⟩ = some q1 := c 1 q1 rfl
        have c2 : wr.cell? ⟨g, a * 10 + 2, none⟩ = some q2 := c 2 q2 rfl
        have c3 : wr.cell? ⟨g, a * 10 + 3, none⟩ = some q3 := c 3 q3 rfl
        have c4 : wr.cell? ⟨g, a * 10 + 4, none⟩ = some q4 := c 4 q4 rfl
        have c5 : wr.cell? ⟨g, a * 10 + 5, none⟩ = some q5 := c 5 q5 rfl
        have c6 : wr.cell? ⟨g, a * 10 + 6, none⟩ = some q6 := c 6 q6 rfl
        have c7 : wr.cell? ⟨g, a * 10 + 7, none⟩ = some q7 := c 7 q7 rfl
        have c8 : wr.cell? ⟨g, a * 10 + 8, none⟩ = some q8 := c 8 q8 rfl
        have c9 : wr.cell? ⟨g, a * 10 + 9, none⟩ = some q9 := c 9 q9 rfl
        have hl := look1_call wr x t ys ((HX.out.below HB.out).p x (List.mem_of_getElem? hx)) (HT.out.below HB.out) (HP.out x (List.mem_of_getElem? hx)) hl2
        rw [hq] at hl
        have HL := Lib.hid hl
        have HXM := Lib.hid hx
        have HQ := Lib.hid hq
        clear c hl hx hq
        go_wp2_with (go_at_call 57; (refine HL.out.mono ?_; rintro e w' ⟨rfl, hB2⟩))
        go_ret2
        refine ⟨a, (ordI (plI x) ys == 0), rfl, ⟨by rw [← HN.out]; omega, HLO.out, HHI.out, ?_⟩, HB.out.trans (hB2.mono HB.out.size)⟩
        rw [beq_iff_eq, ordI_zero]
        constructor
        · intro h; exact ⟨x, HXM.out, h⟩
        · rintro ⟨y, hy, h⟩; rw [HXM.out] at hy; cases hy; exact h
      · have b2 : ¬ ((a : Int) < (n : Int)) := by omega
        go_wp2_with (fail)
        go_ret2
        refine ⟨a, false, rfl, ⟨by rw [← HN.out]; omega, HLO.out, HHI.out, ?_⟩, HB.out⟩
        constructor
        · intro h; cases h
        · rintro ⟨y, hy, h⟩; have := (List.getElem?_eq_some_iff.1 hy).1; rw [← HN.out] at this; omega
end Go.Proofs.Ytfebcpmbkljaoaa
