/- The walks of start and New. -/
import Derived.Test.YthneinepdbkgeaaMethC
namespace Go.Proofs.Ythneinepdbkgeaa
open Go.RowKit Go.HK
set_option linter.unusedVariables false
set_option linter.unusedSimpArgs false
set_option linter.unusedSectionVars false

/-- A tree without entries. -/
def StartI (w : World) (p : Value) (w' : World) : Prop := ∃ t F, p = .pointer (some ⟨t, 0, none⟩) ∧ TreeG w' t F [] (fun _ => []) (fun _ => []) 0 ∧ Below w.heap.size w w' ∧ (∀ b ∈ F, w.heap.size ≤ b) ∧ t ∈ F
set_option maxRecDepth 100000 in
set_option maxHeartbeats 1000000 in
theorem start_any (w : World) : Calls Try.prog 45 #[] w fun e w' => ∃ p, e = .returned p ∧ StartI w p w' := by
  have hmm := @run_makeMap Try.prog
  go_enter Try.func45, Try.ntmps45
  go_wp2
  go_ret
  have hT : ((w.alloc (.map #[] 0)).alloc (.cells #[.slice none 0 0, .map (some w.heap.size), .int .i64 0, .pointer (some ⟨w.heap.size + 1, 0, none⟩)] 81)).heap[w.heap.size + 1]? = some (.cells #[.slice none 0 0, .map (some w.heap.size), .int .i64 0, .pointer (some ⟨w.heap.size + 1, 0, none⟩)] 81 (0, 0)) := by
    have := blk_new (w.alloc (.map #[] 0)) (.cells #[.slice none 0 0, .map (some w.heap.size), .int .i64 0, .pointer (some ⟨w.heap.size + 1, 0, none⟩)] 81)
    rw [World.size_alloc] at this
    exact this
  refine ⟨_, rfl, w.heap.size + 1, foot (w.heap.size + 1) w.heap.size (.slice none 0 0) [] [], rfl, ⟨.slice none 0 0, w.heap.size, [], #[], 0, [], ⟨hT, World.ownsRow_nil _ _ _ _, rfl, fun i k hk => by simp at hk, blk_alloc (blk_new w _) _, rfl, by simp, fun i s v hs => by simp at hs, fun _ _ => rfl, ?_⟩, rfl⟩, ((Below.refl _ w).alloc (Nat.le_refl _) _).alloc (by simp) _, ?_, foot_t⟩
  · have : foot (w.heap.size + 1) w.heap.size (.slice none 0 0) [] [] = [w.heap.size + 1, w.heap.size] := rfl
    rw [this]; simp
  · intro b hb
    have e : foot (w.heap.size + 1) w.heap.size (.slice none 0 0) [] [] = [w.heap.size + 1, w.heap.size] := rfl
    rw [e] at hb
    simp at hb
    omega

def rootN (state : ByteArray) : List HN := [⟨-1, 0, ByteArray.empty, state, -1⟩]
theorem WF.root (state : ByteArray) : WF (rootN state) 0 where
  pos := by simp [rootN]
  le := by simp [rootN]
  now := by simp [rootN]
  root := rfl
  par := fun x h0 hx => by simp [rootN] at hx; omega
  fav := fun x hx => by
    simp [rootN] at hx
    subst hx
    exact .inl rfl
theorem kidsOf_root (state : ByteArray) : kidsOf (rootN state) = fun _ => [] := by
  funext i
  simp only [kidsOf, rootN, List.length_cons, List.length_nil, Nat.zero_add, List.range_succ, List.range_zero, List.nil_append]
  rw [List.filter_eq_nil_iff]
  intro x hx
  simp at hx
  subst hx
  simp [parF]
theorem idxOf_root (state : ByteArray) : idxOf (rootN state) = fun q => if q = state then [] ++ [0] else [] := by
  funext q
  simp only [idxOf, rootN, List.length_cons, List.length_nil, Nat.zero_add, List.range_succ, List.range_zero, List.nil_append]
  by_cases h : q = state
  · rw [if_pos h]; simp [stateF, h]
  · rw [if_neg h]; simp [stateF]; exact fun e => h e.symm

/-- What New makes. -/
def NewI (w : World) (state : ByteArray) (p : Value) (w' : World) : Prop := ∃ t F, p = .pointer (some ⟨t, 0, none⟩) ∧ Hist w' t F (rootN state) 0 ∧ Below w.heap.size w w' ∧ (∀ b ∈ F, w.heap.size ≤ b) ∧ t ∈ F
set_option maxRecDepth 100000 in
set_option maxHeartbeats 2000000 in
theorem new_yes (w : World) (state : ByteArray) (hs : state.size ≤ 16384) : Calls Try.prog 35 #[.string state] w fun e w' => ∃ p, e = .returned (.tuple #[p, .int .i64 0]) ∧ NewI w state p w' := by
  go_enter Try.func35, Try.ntmps35
  go_wp2_with (first
    | (go_at_call 45; refine (start_any _).mono ?_; rintro e w1 ⟨p, rfl, t, F, rfl, hG, hB, hF, htF⟩)
    | (go_at_call 38; refine (add_any w1 t F [] _ _ 0 ⟨-1, 0, ByteArray.empty, state⟩ hG (by simp) (.inl rfl) rfl (by simp) (by simp)).mono ?_; rintro e w2 ⟨rfl, F2, hG2, hF2, hb2⟩))
  go_ret2
  have hz := hB.size
  refine ⟨_, rfl, t, F2, rfl, ⟨WF.root state, ?_⟩, ?_, fun b hb => (hb2 b hb).elim (hF b) (fun h => by omega), ?_⟩
  · rw [kidsOf_root, idxOf_root]
    exact hG2
  · exact hB.trans (hF2.below hz (fun k hk => hF k hk))
  · obtain ⟨nv, m, kv, es, clock, gs, _, rfl⟩ := hG2
    exact foot_t
set_option maxRecDepth 100000 in
set_option maxHeartbeats 1000000 in
theorem new_no (w : World) (state : ByteArray) (hs : state.size ≤ maxLen) (hl : 16384 < state.size) : Calls Try.prog 35 #[.string state] w fun e w' => e = .returned (.tuple #[.pointer none, .int .i64 3]) ∧ w = w' := by
  unfold maxLen at hs
  go_enter Try.func35, Try.ntmps35
  go_wp2_with (fail)
  go_ret2
  exact ⟨rfl, rfl⟩
end Go.Proofs.Ythneinepdbkgeaa
