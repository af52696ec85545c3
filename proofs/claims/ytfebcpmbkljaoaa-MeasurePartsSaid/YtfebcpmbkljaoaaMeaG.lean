/- The walks of cmp.Compare and of order, at integers. -/
import Derived.Test.YtfebcpmbkljaoaaMeaF
import Derived.BigQuiet
namespace Go.Proofs.Ytfebcpmbkljaoaa
open Go.RowKit Go.HR
set_option linter.unusedVariables false
set_option linter.unusedSimpArgs false
set_option linter.unusedSectionVars false
def cmpI (x y : Int) : Int := if x < y then -1 else if y < x then 1 else 0
/-- Two lists compared like words. -/
def ordI : List Int → List Int → Int
  | [], [] => 0
  | [], _ :: _ => -1
  | _ :: _, [] => 1
  | x :: xs, y :: ys => if x < y then -1 else if y < x then 1 else ordI xs ys
/-- Integers in memory. -/
def IsI (W : World) (s : SL) (xs : List Int) : Prop :=
  s.n = xs.length ∧ s.n ≤ s.c ∧ (xs = [] ∨ ∃ g o, s.a = some ⟨g, o, none⟩ ∧ ∀ (j : Nat) x, xs[j]? = some x → W.cell? ⟨g, o + j, none⟩ = some (.int .i64 x))
theorem IsI.below {W W' : World} {s : SL} {xs : List Int} (h : IsI W s xs) (hb : Below W.heap.size W W') : IsI W' s xs := by
  refine ⟨h.1, h.2.1, ?_⟩
  rcases h.2.2 with h0 | ⟨g, o, ha, hc⟩
  · exact .inl h0
  · exact .inr ⟨g, o, ha, fun j x hx => (hb.cell (p := ⟨g, o + j, none⟩) (World.block_lt_of_cell? W _ (hc j x hx))).trans (hc j x hx)⟩
theorem PlaceB.isI {W : World} {s : SL} {pl : List Nat} (h : PlaceB W s pl) : IsI W s (pl.map fun n : Nat => (n : Int)) := by
  refine ⟨by simp [h.sn], ?_, ?_⟩
  · rcases h.2 with ⟨h0, h1⟩ | ⟨g, cap, cur, hv, _, _, hle, _⟩
    · simp only [SL.v, Value.slice.injEq] at h0; omega
    · simp only [SL.v, Value.slice.injEq] at hv; have := h.sn; omega
  · rcases h.2 with ⟨h0, h1⟩ | ⟨g, cap, cur, hv, hg, hh, r⟩
    · left; simp; exact List.length_eq_zero_iff.1 h1
    · right
      have hv' := hv
      simp only [SL.v, Value.slice.injEq] at hv
      refine ⟨g, 0, hv.1, fun j x hx => ?_⟩
      have hc := h.cells (by rw [hv']; rfl)
      have := hc j (.int .i64 x) (by simp only [ints, List.getElem?_map] at hx ⊢; obtain ⟨y, hy, rfl⟩ := Option.map_eq_some_iff.1 hx; rw [hy]; rfl)
      by_cases hj : j = 0
      · subst hj; simpa [Addr.add] using this
      · simpa [Addr.add, hj] using this
theorem ordI_same : ∀ (k : Nat) (xs ys : List Int), k ≤ xs.length → k ≤ ys.length → (∀ j, j < k → xs[j]? = ys[j]?) → ordI xs ys = ordI (xs.drop k) (ys.drop k)
  | 0, xs, ys, _, _, _ => rfl
  | k + 1, [], ys, h, _, _ => by simp at h
  | k + 1, x :: xs, [], _, h, _ => by simp at h
  | k + 1, x :: xs, y :: ys, h1, h2, h => by
    have h0 := h 0 (by omega)
    simp at h0; subst h0
    simp only [ordI, List.drop_succ_cons, Int.lt_irrefl, if_false]
    exact ordI_same k xs ys (by simpa using h1) (by simpa using h2) fun j hj => by simpa using h (j + 1) (by omega)
theorem ordI_at {xs ys : List Int} {k : Nat} {x y : Int} (h : ordI xs ys = ordI (xs.drop k) (ys.drop k)) (hx : xs[k]? = some x) (hy : ys[k]? = some y) : ordI xs ys = if cmpI x y = 0 then ordI (xs.drop (k + 1)) (ys.drop (k + 1)) else cmpI x y := by
  obtain ⟨h1, rfl⟩ := List.getElem?_eq_some_iff.1 hx
  obtain ⟨h2, rfl⟩ := List.getElem?_eq_some_iff.1 hy
  rw [h, List.drop_eq_getElem_cons h1, List.drop_eq_getElem_cons h2]
  simp only [ordI, cmpI]
  split
  · simp
  · split <;> simp
theorem ordI_end {xs ys : List Int} {k : Nat} (h : ordI xs ys = ordI (xs.drop k) (ys.drop k)) (hk : k = xs.length ∨ k = ys.length) (h1 : k ≤ xs.length) (h2 : k ≤ ys.length) : ordI xs ys = cmpI (xs.length : Nat) (ys.length : Nat) := by
  rw [h]
  rcases hk with rfl | rfl
  · rw [List.drop_length]
    cases hd : ys.drop xs.length with
    | nil => have := List.drop_eq_nil_iff.1 hd; simp only [ordI, cmpI]; rw [if_neg (by omega), if_neg (by omega)]
    | cons y r => have := congrArg List.length hd; simp at this; simp only [ordI, cmpI]; rw [if_pos (by omega)]
  · rw [List.drop_length]
    cases hd : xs.drop ys.length with
    | nil => have := List.drop_eq_nil_iff.1 hd; simp only [ordI, cmpI]; rw [if_neg (by omega), if_neg (by omega)]
    | cons y r => have := congrArg List.length hd; simp at this; simp only [ordI, cmpI]; rw [if_neg (by omega), if_pos (by omega)]
def RetC0 (w : World) (x : Int) (e : Ending) (w' : World) : Prop := e = .returned (.int .i64 x) ∧ w' = w
theorem isnan_call (w : World) (x : Int) : Calls Try.prog 83 #[.int .i64 x] w fun e w' => e = .returned (.bool false) ∧ w' = w := by
  go_enter Try.func83, Try.ntmps83
  go_wp2
  go_ret
  exact ⟨rfl, rfl⟩
set_option maxRecDepth 100000 in
set_option maxHeartbeats 2000000 in
theorem compare_call (w : World) (x y : Int) : Calls Try.prog 75 #[.int .i64 x, .int .i64 y] w (RetC0 w (cmpI x y)) := by
  have hn := isnan_call w
  unfold cmpI
  go_enter Try.func75, Try.ntmps75
  by_cases h1 : x < y
  · rw [if_pos h1]
    go_wp2_with (go_at_call 83; (refine (hn _).mono ?_; rintro e w' ⟨rfl, rfl⟩))
    go_ret
    exact ⟨rfl, rfl⟩
  · rw [if_neg h1]
    by_cases h2 : y < x
    · rw [if_pos h2]
      go_wp2_with (go_at_call 83; (refine (hn _).mono ?_; rintro e w' ⟨rfl, rfl⟩))
      go_ret
      exact ⟨rfl, rfl⟩
    · rw [if_neg h2]
      go_wp2_with (go_at_call 83; (refine (hn _).mono ?_; rintro e w' ⟨rfl, rfl⟩))
      go_ret
      exact ⟨rfl, rfl⟩
/-- A number, and a world that only drew. -/
def RetN (w : World) (x : Int) (e : Ending) (w' : World) : Prop := e = .returned (.int .i64 x) ∧ ∃ d, w' = w.drewN d
set_option maxRecDepth 100000 in
set_option maxHeartbeats 4000000 in
theorem order_call (w : World) (s t : SL) (xs ys : List Int) (hs : IsI w s xs) (ht : IsI w t ys) (hl : xs.length ≤ 20000) (hl2 : ys.length ≤ 20000) : Calls Try.prog 58 #[s.v, t.v] w (RetN w (ordI xs ys)) := by
  obtain ⟨a, n, c⟩ := s
  obtain ⟨b, m, e⟩ := t
  obtain ⟨hn, hc, hs⟩ := hs
  obtain ⟨hm, he, ht⟩ := ht
  simp only at hn hm hs ht hc he
  subst hn hm
  simp only [SL.v]
  obtain ⟨n, hn⟩ : ∃ n, n = xs.length := ⟨_, rfl⟩
  obtain ⟨m, hm⟩ : ∃ m, m = ys.length := ⟨_, rfl⟩
  rw [← hn, ← hm]
  rw [← hn] at hl hc
  rw [← hm] at hl2 he
  have HN := Lib.hid hn
  have HM := Lib.hid hm
  have HS := Lib.hid hs
  have HT := Lib.hid ht
  clear hn hm hs ht
  have cc := fun (d : Nat) (x y : Int) => compare_call (w.drewN d) x y
  go_enter Try.func58, Try.ntmps58
  go_wp2_with (fail)
  go_loopw [5] (fun i wr => ∃ k d : Nat, k ≤ n ∧ k ≤ m ∧ i = .int .i64 k ∧ wr = w.drewN d ∧ ordI xs ys = ordI (xs.drop k) (ys.drop k)) (fun i _ => n - (intOf i).toNat)
  case atStart => exact ⟨0, 0, by omega, by omega, rfl, rfl, rfl⟩
  case round =>
    obtain ⟨k, d, hk1, hk2, rfl, rfl, heq⟩ := hrel
    have HQ := Lib.hid heq
    clear heq
    by_cases h1 : k < n
    · by_cases h2 : k < m
      · obtain ⟨x, hx⟩ : ∃ x, xs[k]? = some x := ⟨_, List.getElem?_eq_getElem (by rw [← HN.out]; exact h1)⟩
        obtain ⟨y, hy⟩ : ∃ y, ys[k]? = some y := ⟨_, List.getElem?_eq_getElem (by rw [← HM.out]; exact h2)⟩
        obtain ⟨g, o, rfl, hc1⟩ := HS.out.resolve_left (fun e => by rw [e] at hx; simp at hx)
        obtain ⟨g2, o2, rfl, hc2⟩ := HT.out.resolve_left (fun e => by rw [e] at hy; simp at hy)
        obtain ⟨w2, hw2⟩ : ∃ w2, w2 = w.drewN d := ⟨_, rfl⟩
        have c1 : w2.cell? ⟨g, o + k, none⟩ = some (.int .i64 x) := by rw [hw2]; exact hc1 k x hx
        have c2 : w2.cell? ⟨g2, o2 + k, none⟩ = some (.int .i64 y) := by rw [hw2]; exact hc2 k y hy
        rw [← hw2]
        have HW2 := Lib.hid hw2
        clear hw2
        have h3 := ordI_at HQ.out hx hy
        have HX := Lib.hid h3
        clear hc1 hc2 hx hy h3
        have b1 : (0 : Int) ≤ (k : Int) := by omega
        have b2 : (k : Int) < (n : Int) := by omega
        have b3 : (k : Int) < (m : Int) := by omega
        by_cases hz : cmpI x y = 0
        · go_wp2_with (fail)
          go_quiet ((go_at_call 75; exact Calls.quiet_of_same ((compare_call _ x y).mono fun _ _ h => ⟨h.1, h.2⟩)))
          go_wp2_with (fail)
          go_roundw
          case rel => exact ⟨k + 1, d + nq, by omega, by omega, by go_num, by rw [HW2.out]; simp, by rw [HX.out, if_pos hz]⟩
          case measure => simp [intOf]; omega
        · go_wp2_with (fail)
          go_quiet ((go_at_call 75; exact Calls.quiet_of_same ((compare_call _ x y).mono fun _ _ h => ⟨h.1, h.2⟩)))
          go_wp2_with (fail)
          go_ret
          exact ⟨by rw [HX.out, if_neg hz]; rfl, d + nq, by rw [HW2.out]; simp⟩
      · have b2 : (k : Int) < (n : Int) := by omega
        have b3 : ¬ ((k : Int) < (m : Int)) := by omega
        have hE := ordI_end HQ.out (.inr (by rw [← HM.out]; omega)) (by rw [← HN.out]; omega) (by rw [← HM.out]; omega)
        have HE := Lib.hid hE
        clear hE
        go_wp2_with (go_at_call 75; (refine (cc _ _ _).mono ?_; rintro e w' ⟨rfl, rfl⟩))
        go_ret
        exact ⟨by rw [HE.out, ← HN.out, ← HM.out]; rfl, d, rfl⟩
    · have b2 : ¬ ((k : Int) < (n : Int)) := by omega
      have hE := ordI_end HQ.out (.inl (by rw [← HN.out]; omega)) (by rw [← HN.out]; omega) (by rw [← HM.out]; omega)
      have HE := Lib.hid hE
      clear hE
      go_wp2_with (go_at_call 75; (refine (cc _ _ _).mono ?_; rintro e w' ⟨rfl, rfl⟩))
      go_ret
      exact ⟨by rw [HE.out, ← HN.out, ← HM.out]; rfl, d, rfl⟩
end Go.Proofs.Ytfebcpmbkljaoaa
