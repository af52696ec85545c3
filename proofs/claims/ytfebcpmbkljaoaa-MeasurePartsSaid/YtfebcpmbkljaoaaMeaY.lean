/- The walk of awake: the chapter's examples. -/
import Derived.Test.YtfebcpmbkljaoaaMeaX
import Derived.Deep.DeepCutAuto
namespace Go.Proofs.Ytfebcpmbkljaoaa
open Go.RowKit Go.HR
set_option linter.unusedVariables false
set_option linter.unusedSimpArgs false
set_option linter.unusedSectionVars false
def zeroT : PT := .node ⟨#[]⟩ PO.nil []
def twoT : PT := .node ruleR PO.nil [holeT, holeT]
def mixT : PT := .node ruleR PO.nil [zeroT, holeT]
def oneT : PT := .node ruleR PO.nil []
theorem ex_hole : codeL holeT [] = 0 ∧ progL holeT [] = 0 := by decide +kernel
theorem ex_two : codeL twoT [] = 0 ∧ (goalsL twoT []).map (·.wt) = [288230376151711744, 288230376151711744] := by decide +kernel
theorem ex_two2 : codeL twoT [[]] = 0 ∧ (goalsL twoT [[]]).map (·.wt) = [1152921504606846976] := by decide +kernel
theorem ex_half : codeL twoT [] = 0 ∧ permL twoT [] = 500 := by decide +kernel
theorem ex_mix : codeL mixT [] = 0 ∧ permL mixT [] = 750 := by decide +kernel
theorem ex_one : codeL oneT [] = 0 ∧ permL oneT [] = 1000 := by decide +kernel
theorem IsW.nil (W : World) : IsW W SL.nil [] := ⟨rfl, .inl rfl⟩
/-- Two proofs in a row. -/
theorem two_ps {W : World} {B c : Nat} {t u : PT} {s v : SL} (h : W.heap[B]? = some (.cells (t.arr s ++ u.arr v) 30 (0, 0))) {n0 : Nat} (hB : B < n0) (ht : IsPs n0 W s t.subs) (hu : IsPs n0 W v u.subs) : IsPs n0 W ⟨some ⟨B, 0, none⟩, 2, c⟩ [t, u] := by
  refine .row B 0 c [t, u] (fun i => if i = 0 then s else v) hB (fun i t' ht' j x hx => ?_) (fun i t' ht' => ?_)
  · have hj : j < 8 := by
      obtain ⟨hl, _⟩ := List.getElem?_eq_some_iff.1 hx
      exact hl
    rw [HK.blk_cell h]
    match i, ht' with
    | 0, ht' =>
      simp only [List.getElem?_cons_zero, Option.some.injEq] at ht'; subst ht'
      rw [show 0 + 0 * 8 + j = j by omega, Array.getElem?_append_left (by simp [PT.arr]; exact hj), ← Array.getElem?_toList]
      exact hx
    | 1, ht' =>
      simp only [List.getElem?_cons_succ, List.getElem?_cons_zero, Option.some.injEq] at ht'; subst ht'
      rw [show 0 + 1 * 8 + j = 8 + j by omega, Array.getElem?_append_right (by simp [PT.arr]), ← Array.getElem?_toList, ← Array.length_toList]
      rw [show 8 + j - (t.arr s).toList.length = j by simp [PT.arr]]
      exact hx
    | i + 2, ht' => simp at ht'
  · match i, ht' with
    | 0, ht' => simp only [List.getElem?_cons_zero, Option.some.injEq] at ht'; subst ht'; exact ht
    | 1, ht' => simp only [List.getElem?_cons_succ, List.getElem?_cons_zero, Option.some.injEq] at ht'; subst ht'; exact hu
    | i + 2, ht' => simp at ht'
def holeA : Array Value := #[.string ⟨#[63]⟩, .int .u8 0, .string ⟨#[]⟩, .slice none 0 0, .slice none 0 0, .int .i64 0, .slice none 0 0, .slice none 0 0]
theorem ex17 (W : World) : Calls Try.prog 17 #[.agg holeA, .slice none 0 0] W fun e w' => e = .returned (.tuple #[.int .i64 0, .int .i64 0]) ∧ Below W.heap.size W w' := by
  have h := progress_call W holeT SL.nil SL.nil [] (.nil _ _) (by decide +kernel) (IsW.nil W) (by simp) (by simp)
  refine Calls.mono h ?_
  rintro e w' ⟨rfl, hB⟩
  rw [ex_hole.1, ex_hole.2]
  exact ⟨rfl, hB⟩
/-- A step with two premises in a row. -/
theorem ex28 (W : World) (B : Nat) (t u : PT) (s v : SL) (h : W.heap[B]? = some (.cells (t.arr s ++ u.arr v) 30 (0, 0))) (ht : t.subs = []) (hs : s.n = 0) (hu : u.subs = []) (hv : v.n = 0) :
    Calls Try.prog 28 #[.slice (some ⟨B, 0, none⟩) 2 2] W fun e w' => e = .returned (.agg (boxR (.slice (some ⟨B, 0, none⟩) 2 2))) ∧ IsPs w'.heap.size w' ⟨some ⟨B, 0, none⟩, 2, 2⟩ [t, u] ∧ Below W.heap.size W w' := by
  refine (step_call W ⟨some ⟨B, 0, none⟩, 2, 2⟩ [t, u]).mono ?_
  rintro e w' ⟨rfl, hB⟩
  have h2 := (hB.block _ (HK.blk_lt h)).trans h
  refine ⟨rfl, two_ps h2 (HK.blk_lt h2) ?_ ?_, hB⟩
  · rw [ht]; obtain ⟨a, n, c⟩ := s; simp only at hs; subst hs; exact .nil _ _
  · rw [hu]; obtain ⟨a, n, c⟩ := v; simp only at hv; subst hv; exact .nil _ _
theorem ex28h (W : World) (B : Nat) (h : W.heap[B]? = some (.cells #[.string ⟨#[63]⟩, .int .u8 0, .string ⟨#[]⟩, .slice none 0 0, .slice none 0 0, .int .i64 0, .slice none 0 0, .slice none 0 0, .string ⟨#[63]⟩, .int .u8 0, .string ⟨#[]⟩, .slice none 0 0, .slice none 0 0, .int .i64 0, .slice none 0 0, .slice none 0 0] 30 (0, 0))) :
    Calls Try.prog 28 #[.slice (some ⟨B, 0, none⟩) 2 2] W fun e w' => e = .returned (.agg (boxR (.slice (some ⟨B, 0, none⟩) 2 2))) ∧ IsPs w'.heap.size w' ⟨some ⟨B, 0, none⟩, 2, 2⟩ [holeT, holeT] ∧ Below W.heap.size W w' :=
  ex28 W B holeT holeT SL.nil SL.nil h rfl rfl rfl rfl
theorem ex28z (W : World) (B : Nat) (h : W.heap[B]? = some (.cells #[.string ⟨#[]⟩, .int .u8 0, .string ⟨#[]⟩, .slice none 0 0, .slice none 0 0, .int .i64 0, .slice none 0 0, .slice none 0 0, .string ⟨#[63]⟩, .int .u8 0, .string ⟨#[]⟩, .slice none 0 0, .slice none 0 0, .int .i64 0, .slice none 0 0, .slice none 0 0] 30 (0, 0))) :
    Calls Try.prog 28 #[.slice (some ⟨B, 0, none⟩) 2 2] W fun e w' => e = .returned (.agg (boxR (.slice (some ⟨B, 0, none⟩) 2 2))) ∧ IsPs w'.heap.size w' ⟨some ⟨B, 0, none⟩, 2, 2⟩ [zeroT, holeT] ∧ Below W.heap.size W w' :=
  ex28 W B zeroT holeT SL.nil SL.nil h rfl rfl rfl rfl
theorem goals_len {w' : World} {b : Nat} {v : Value} {gs : List StepV} {ws : List (List Int)} {t : PT} {x : Nat} {r : List Nat} (hg : gs.map (·.d) = goalsL t ws) (hG : IsG w' b v gs) (hx : (goalsL t ws).map (·.wt) = x :: r) :
    ∃ g c, v = .slice (some ⟨g, 0, none⟩) (r.length + 1) c ∧ w'.cell? ⟨g, 1, none⟩ = some (.int .i64 x) := by
  rw [← hg] at hx
  have hl := congrArg List.length hx
  simp only [List.length_map, List.length_cons] at hl
  obtain ⟨y, hy⟩ : ∃ y, gs[0]? = some y := ⟨_, List.getElem?_eq_getElem (by omega)⟩
  obtain ⟨g, c, hv, _, h1⟩ := goal_at hG hy
  refine ⟨g, c, by rw [hv, hl], ?_⟩
  have := congrArg (·[0]?) hx
  simp only [List.getElem?_map, hy, Option.map_some, List.getElem?_cons_zero, Option.some.injEq] at this
  rw [this] at h1
  exact h1
theorem ex11 (W : World) (s : SL) (hs : IsPs W.heap.size W s twoT.subs) : Calls Try.prog 11 #[.agg (boxR s.v), .slice none 0 0] W fun e w' => ∃ g c, e = .returned (.tuple #[.slice (some ⟨g, 0, none⟩) 2 c, .int .i64 0]) ∧ w'.cell? ⟨g, 1, none⟩ = some (.int .i64 288230376151711744) ∧ Below W.heap.size W w' := by
  refine Calls.mono (goals_call W twoT s SL.nil [] hs (by decide +kernel) (IsW.nil W) (by simp) (by simp)) ?_
  rintro e w' ⟨v, gs, rfl, hg, hG, hB⟩
  obtain ⟨g, c, rfl, h1⟩ := goals_len hg hG ex_two.2
  rw [ex_two.1]
  exact ⟨g, c, rfl, h1, hB⟩
theorem ex11w (W : World) (s : SL) (hs : IsPs W.heap.size W s twoT.subs) (B B2 c2 : Nat) (h : W.heap[B]? = some (.cells #[.slice (some ⟨B2, 0, none⟩) 0 c2] 37 (0, 0))) : Calls Try.prog 11 #[.agg (boxR s.v), .slice (some ⟨B, 0, none⟩) 1 1] W fun e w' => ∃ g c, e = .returned (.tuple #[.slice (some ⟨g, 0, none⟩) 1 c, .int .i64 0]) ∧ w'.cell? ⟨g, 1, none⟩ = some (.int .i64 1152921504606846976) ∧ Below W.heap.size W w' := by
  have hw : IsW W ⟨some ⟨B, 0, none⟩, 1, 1⟩ [[]] := by
    refine ⟨rfl, .inr ⟨B, 0, rfl, fun _ => ⟨some ⟨B2, 0, none⟩, 0, c2⟩, fun i u hu => ?_⟩⟩
    match i, hu with
    | 0, hu =>
      simp only [List.getElem?_cons_zero, Option.some.injEq] at hu; subst hu
      exact ⟨HK.blk_cell h 0, rfl, Nat.zero_le _, .inl rfl⟩
    | i + 1, hu => simp at hu
  refine Calls.mono (goals_call W twoT s ⟨some ⟨B, 0, none⟩, 1, 1⟩ [[]] hs (by decide +kernel) hw (by simp) (by simp)) ?_
  rintro e w' ⟨v, gs, rfl, hg, hG, hB⟩
  obtain ⟨g, c, rfl, h1⟩ := goals_len hg hG ex_two2.2
  rw [ex_two2.1]
  exact ⟨g, c, rfl, h1, hB⟩
theorem ex18 (W : World) (s : SL) (t : PT) (p : Nat) (hc : codeL t [] = 0 ∧ permL t [] = p) (hz : sizeT t ≤ 10000) (hr : t.rule = ruleR) (ho : t.o = PO.nil) (hs : IsPs W.heap.size W s t.subs) : Calls Try.prog 18 #[.agg (boxR s.v), .slice none 0 0] W fun e w' => e = .returned (.tuple #[.int .i64 p, .int .i64 0]) ∧ Below W.heap.size W w' := by
  have h := permille_call W t s SL.nil [] hs hz (IsW.nil W) (by simp) (by simp)
  have he : t.arr s = boxR s.v := by unfold PT.arr; rw [hr, ho]; rfl
  rw [he] at h
  refine Calls.mono h ?_
  rintro e w' ⟨rfl, hB⟩
  rw [hc.1, hc.2]
  exact ⟨rfl, hB⟩
theorem ex28n (W : World) : Calls Try.prog 28 #[.slice none 0 0] W fun e w' => e = .returned (.agg (boxR (.slice none 0 0))) ∧ Below W.heap.size W w' := by
  refine (step_call W SL.nil []).mono ?_
  rintro e w' ⟨rfl, hB⟩
  exact ⟨rfl, hB⟩
theorem blk_new1 (w : World) (o1 o2 : Obj) : ((w.alloc o1).alloc o2).heap[w.heap.size + 1]? = some o2 := by
  have := HK.blk_new (w.alloc o1) o2
  rwa [World.size_alloc] at this
theorem blk_new2 (w : World) (o1 o2 o3 : Obj) : (((w.alloc o1).alloc o2).alloc o3).heap[w.heap.size + 2]? = some o3 := by
  have := HK.blk_new ((w.alloc o1).alloc o2) o3
  rwa [World.size_alloc, World.size_alloc] at this
theorem below_al2 {w w' : World} {o1 o2 : Obj} (h : Below ((w.alloc o1).alloc o2).heap.size ((w.alloc o1).alloc o2) w') : Below w.heap.size w w' :=
  (((Below.refl _ w).alloc (Nat.le_refl _) _).alloc (by simp) _).trans (h.mono (by simp; omega))
theorem below_al3 {w w' : World} {o1 o2 o3 : Obj} (h : Below (((w.alloc o1).alloc o2).alloc o3).heap.size (((w.alloc o1).alloc o2).alloc o3) w') : Below w.heap.size w w' :=
  ((((Below.refl _ w).alloc (Nat.le_refl _) _).alloc (by simp) _).alloc (by simp; omega) _).trans (h.mono (by simp; omega))
theorem below_then {a b c : World} (h : Below a.heap.size a b) (h2 : Below b.heap.size b c) : Below a.heap.size a c := h.trans (h2.mono h.size)
theorem cell_then {W W' : World} {p : Addr} {v : Value} (h : W.cell? p = some v) (hB : Below W.heap.size W W') : W'.cell? p = some v := (hB.cell (World.block_lt_of_cell? W _ h)).trans h
set_option maxRecDepth 100000 in
set_option maxHeartbeats 8000000 in
theorem awake_call (w : World) : Calls Try.prog 14 #[] w (RetB w (.bool true)) := by
  have hh := fun W => hole_exact W
  simp only [holeT, PT.arr, PT.rule, PT.o, PO.nil, SL.nil, SL.v] at hh
  have h17 := ex17
  have h28 := ex28h
  have h28m := ex28z
  have h11 := fun W B => ex11 W ⟨some ⟨B, 0, none⟩, 2, 2⟩
  have h11w := fun W B => ex11w W ⟨some ⟨B, 0, none⟩, 2, 2⟩
  have h18 := fun W B => ex18 W ⟨some ⟨B, 0, none⟩, 2, 2⟩ twoT 500 ex_half (by decide +kernel) rfl rfl
  have h18m := fun W B => ex18 W ⟨some ⟨B, 0, none⟩, 2, 2⟩ mixT 750 ex_mix (by decide +kernel) rfl rfl
  have h18n := fun W => ex18 W SL.nil oneT 1000 ex_one (by decide +kernel) rfl rfl (.nil _ _)
  have h28n := ex28n
  simp only [holeA, boxR, SL.nil, SL.v] at h17 h28 h28m h11 h11w h18 h18m h18n h28n
  have H28 := Lib.hid h28
  have H28M := Lib.hid h28m
  have H11 := Lib.hid h11
  have H11W := Lib.hid h11w
  have H18 := Lib.hid h18
  have H18M := Lib.hid h18m
  have H18N := Lib.hid h18n
  have H28N := Lib.hid h28n
  have HH := Lib.hid hh
  have H17 := Lib.hid h17
  clear hh h17 h28 h28m h11 h11w h18 h18m h18n h28n
  go_enter Try.func14, Try.ntmps14
  go_upto_region 2 with (first
    | (go_at_call 25; (refine (HH.out _).mono ?_; rintro e w' ⟨rfl, rfl⟩))
    | (go_at_call 17; (refine (H17.out _).mono ?_; rintro e w1 ⟨rfl, hB1⟩)))
  have HB1 := Lib.hid ((Below.refl _ w).alloc (Nat.le_refl _) _ |>.trans (hB1.mono (by simp)))
  clear hB1
  go_upto_region 3 with (first
    | (go_at_call 25; (refine (HH.out _).mono ?_; rintro e w' ⟨rfl, rfl⟩))
    | (go_at_call 28; (refine (H28.out _ _ (blk_new2 _ _ _ _)).mono ?_; rintro e w2 ⟨rfl, hs2, hB2⟩))
    | (go_at_call 11; (refine (H11.out _ _ hs2).mono ?_; rintro e w3 ⟨g3, c3, rfl, hg3, hB3⟩)))
  have HB3 := Lib.hid (below_then HB1.out (below_then (below_al3 hB2) hB3))
  have HG3 := Lib.hid hg3
  clear hB2 hs2 hB3 hg3
  go_upto_region 4 with (first
    | (go_at_call 25; (refine (HH.out _).mono ?_; rintro e w' ⟨rfl, rfl⟩))
    | (go_at_call 28; (refine (H28.out _ _ (blk_new2 _ _ _ _)).mono ?_; rintro e w4 ⟨rfl, hs4, hB4⟩))
    | (go_at_call 18; (refine (H18.out _ _ hs4).mono ?_; rintro e w5 ⟨rfl, hB5⟩)))
  have hx := below_then (below_al3 hB4) hB5
  have HB5 := Lib.hid (below_then HB3.out hx)
  have HG5 := Lib.hid (cell_then HG3.out hx)
  clear hB4 hs4 hB5 hx
  go_upto_region 5 with (first
    | (go_at_call 25; (refine (HH.out _).mono ?_; rintro e w' ⟨rfl, rfl⟩))
    | (go_at_call 28; (refine (H28M.out _ _ (blk_new1 _ _ _)).mono ?_; rintro e w6 ⟨rfl, hs6, hB6⟩))
    | (go_at_call 18; (refine (H18M.out _ _ hs6).mono ?_; rintro e w7 ⟨rfl, hB7⟩)))
  have hx := below_then (below_al2 hB6) hB7
  have HB7 := Lib.hid (below_then HB5.out hx)
  have HG7 := Lib.hid (cell_then HG5.out hx)
  clear hB6 hs6 hB7 hx
  go_upto_region 6 with (first
    | (go_at_call 25; (refine (HH.out _).mono ?_; rintro e w' ⟨rfl, rfl⟩))
    | (go_at_call 28; (refine (H28.out _ _ (blk_new2 _ _ _ _)).mono ?_; rintro e w8 ⟨rfl, hs8, hB8⟩))
    | (go_at_call 11; (refine (H11W.out _ _ (hs8.up (((Below.refl _ _).alloc (Nat.le_refl _) _).alloc (by simp) _)) _ _ _ (blk_new1 _ _ _)).mono ?_; rintro e w9 ⟨g9, c9, rfl, hg9, hB9⟩)))
  have hx := below_then (below_al3 hB8) (below_al2 hB9)
  have HB9 := Lib.hid (below_then HB7.out hx)
  have HG9 := Lib.hid (cell_then HG7.out hx)
  have HG := Lib.hid hg9
  clear hB8 hs8 hB9 hx hg9
  go_upto_region 7 with (first
    | (go_at_call 28; (refine (H28N.out _).mono ?_; rintro e w10 ⟨rfl, hB10⟩))
    | (go_at_call 18; (refine (H18N.out _).mono ?_; rintro e w11 ⟨rfl, hB11⟩)))
  have hx := below_then hB10 hB11
  have HB := Lib.hid (below_then HB9.out hx)
  have q3 := cell_then HG9.out hx
  have q9 := cell_then HG.out hx
  clear hB10 hB11 hx
  go_wp2_with (fail)
  go_ret
  exact ⟨rfl, HB.out⟩
end Go.Proofs.Ytfebcpmbkljaoaa
