/- The walk of Between. -/
import Derived.Test.YthneinepdbkgeaaNew
import Derived.Deep.RegionWith
import Derived.Deep.AppendLies
namespace Go.Proofs.Ythneinepdbkgeaa
open Go.RowKit Go.HK
set_option linter.unusedVariables false
set_option linter.unusedSimpArgs false
set_option linter.unusedSectionVars false

/-- How long the common beginning of two lists is. -/
def cpl : List Nat → List Nat → Nat
  | x :: xs, y :: ys => if x = y then cpl xs ys + 1 else 0
  | _, _ => 0
theorem cpl_le : ∀ (xs ys : List Nat), cpl xs ys ≤ xs.length ∧ cpl xs ys ≤ ys.length
  | [], _ => by simp [cpl]
  | _ :: _, [] => by simp [cpl]
  | x :: xs, y :: ys => by
    simp only [cpl]
    split
    · have := cpl_le xs ys; simp; omega
    · simp
theorem cpl_lt : ∀ (xs ys : List Nat) (k x : Nat), k < cpl xs ys → xs[k]? = some x → ys[k]? = some x
  | [], _, _, _, h, _ => by simp [cpl] at h
  | _ :: _, [], _, _, h, _ => by simp [cpl] at h
  | x :: xs, y :: ys, 0, z, h, hx => by
    simp only [cpl] at h
    split at h
    · rename_i e; simp at hx ⊢; omega
    · omega
  | x :: xs, y :: ys, k + 1, z, h, hx => by
    simp only [cpl] at h
    split at h
    · simp at hx ⊢; exact cpl_lt xs ys k z (by omega) hx
    · omega
theorem cpl_at : ∀ (xs ys : List Nat) (x y : Nat), xs[cpl xs ys]? = some x → ys[cpl xs ys]? = some y → x ≠ y
  | [], _, _, _, h, _ => by simp at h
  | _ :: _, [], _, _, _, h => by simp at h
  | x :: xs, y :: ys, a, b, hx, hy => by
    simp only [cpl] at hx hy
    split at hx
    · rename_i e
      rw [if_pos e] at hy
      simp at hx hy
      exact cpl_at xs ys a b hx hy
    · rename_i e
      rw [if_neg e] at hy
      simp at hx hy
      omega
/-- The way between two entries. -/
def betweenL (nodes : List HN) (a b : Nat) : List Nat :=
  ((wayL nodes a).drop (cpl (wayL nodes a) (wayL nodes b) - 1)).reverse ++ (wayL nodes b).drop (cpl (wayL nodes a) (wayL nodes b))

section
variable {w : World} {t : Nat} {F : List Nat} {nodes : List HN} {now : Nat}
theorem find_two (h : Hist w t F nodes now) (a b : Int) : Calls Try.prog 40 #[.pointer (some ⟨t, 0, none⟩), .slice (some ⟨w.heap.size, 0, none⟩) 2 2] (w.alloc (.cells #[.int .i64 a, .int .i64 b] 3)) fun e w' =>
    e = .returned (.int .i64 (if (0 ≤ a ∧ a < nodes.length) ∧ 0 ≤ b ∧ b < nodes.length then 0 else 6)) ∧ (w.alloc (.cells #[.int .i64 a, .int .i64 b] 3)) = w' := by
  have h' : Hist (w.alloc (.cells #[.int .i64 a, .int .i64 b] 3)) t F nodes now := h.stay (G := fun _ => False) ((Frm.refl _ w).alloc _) (fun _ _ => id)
  obtain ⟨g, cp, m, kv, es, clock, gs, hA, hC, rfl⟩ := h'.at_
  rw [← findE_two]
  exact find_any hA h.1.le w.heap.size [a, b] (by simp) (fun j k hj => by
    match j, hj with
    | 0, hj => simp at hj; subst hj; simp
    | 1, hj => simp at hj; subst hj; simp
    | j + 2, hj => simp at hj) 2
set_option maxRecDepth 100000 in
set_option maxHeartbeats 2000000 in
theorem between_no (h : Hist w t F nodes now) (a b : Int) (hn : ¬ ((0 ≤ a ∧ a < nodes.length) ∧ 0 ≤ b ∧ b < nodes.length)) : Calls Try.prog 21 #[.pointer (some ⟨t, 0, none⟩), .int .i64 a, .int .i64 b] w (RetI w [] 6) := by
  have hf := find_two h a b
  rw [if_neg hn] at hf
  have hB : Below w.heap.size w (w.alloc (.cells #[.int .i64 a, .int .i64 b] 3)) := (Below.refl _ w).alloc (Nat.le_refl _) _
  have HB := Lib.hid hB
  clear hB hn
  have HF := Lib.hid hf
  clear hf
  go_enter Try.func21, Try.ntmps21
  go_wp2_with (go_at_call 40; refine HF.out.mono ?_; rintro e w' ⟨rfl, rfl⟩)
  go_ret2
  exact ⟨_, rfl, World.ownsRow_nil _ _ _ _, HB.out⟩

/-- Both ways, in new memory. -/
def TwoWays (w : World) (xs ys : List Nat) (p q : Value) (wx : World) : Prop := ∃ g1 c1 g2 c2, p = .slice (some ⟨g1, 0, none⟩) xs.length c1 ∧ q = .slice (some ⟨g2, 0, none⟩) ys.length c2 ∧
  wx.ownsRow w.heap.size 3 1 p xs.length (ints xs) ∧ wx.ownsRow w.heap.size 3 1 q ys.length (ints ys) ∧ Below w.heap.size w wx ∧ ys.length ≤ c2 ∧ xs.length ≤ c1

theorem wayL_pos {nodes : List HN} {now : Nat} (h : WF nodes now) {a : Nat} (ha : a < nodes.length) : 0 < (wayL nodes a).length := by
  rw [wayL_eq h ha]; simp
theorem owns_cap {w : World} {base g n cap : Nat} {xs : List Value} (h : w.ownsRow base 3 1 (.slice (some ⟨g, 0, none⟩) n cap) n xs) : n ≤ cap := by
  rcases h.2 with ⟨h, _⟩ | ⟨g, c, cur, h, _, _, hc, _⟩
  · cases h
  · cases h; exact hc
theorem owns_capMax {w : World} {base g n cap : Nat} {xs : List Value} (h : w.ownsRow base 3 1 (.slice (some ⟨g, 0, none⟩) n cap) n xs) : cap ≤ maxLen := by
  rcases h.2 with ⟨h, _⟩ | ⟨g, c, cur, h, _, _, _, hc, _⟩
  · cases h
  · cases h; exact hc
/-- A way begins at the root. -/
theorem wayL_zero {nodes : List HN} {now : Nat} (h : WF nodes now) : ∀ {a : Nat}, a < nodes.length → ∃ xs, wayL nodes a = 0 :: xs := by
  intro a
  induction a using Nat.strongRecOn with
  | _ a ih =>
    intro ha
    rw [wayL_eq h ha]
    by_cases h0 : parF nodes a < 0
    · rw [if_pos h0]
      have : a = 0 := by
        rcases Nat.eq_zero_or_pos a with h1 | h1
        · exact h1
        · have := (h.par a h1 ha).1
          omega
      subst this
      exact ⟨[], rfl⟩
    · rw [if_neg h0]
      have hp := h.par' a ha
      obtain ⟨xs, hx⟩ := ih (parF nodes a).toNat (by have := hp; omega) (by have := hp; omega)
      rw [hx]
      exact ⟨_, rfl⟩
theorem ints_one (xs : List Nat) : ∀ u ∈ ints xs, u.oneCell' = true := by
  intro u hu
  obtain ⟨q, _, rfl⟩ := List.mem_map.1 hu
  simp [Value.oneCell']
theorem cpl_pos {nodes : List HN} {now : Nat} (h : WF nodes now) {a b : Nat} (ha : a < nodes.length) (hb : b < nodes.length) : 0 < cpl (wayL nodes a) (wayL nodes b) := by
  obtain ⟨xs, hx⟩ := wayL_zero h ha
  obtain ⟨ys, hy⟩ := wayL_zero h hb
  rw [hx, hy]
  simp [cpl]
theorem clone_len (w : World) (g k cap base n : Nat) (xs : List Nat) (hn : n = xs.length) (hn2 : n ≤ 1000) (h : w.ownsRow base 3 1 (.slice (some ⟨g, 0, none⟩) n cap) n (ints xs)) :
    Calls Try.prog 42 #[.slice (some ⟨g, k, none⟩) (n - k) (cap - k)] w fun e w' => ∃ v, e = .returned v ∧ w'.ownsRow w.heap.size 3 1 v (n - k) (ints (xs.drop k)) ∧ Below w.heap.size w w' := by
  have e : n - k = (xs.drop k).length := by simp; omega
  rw [e]
  refine (clone_any w ⟨g, k, none⟩ (cap - k) (xs.drop k) (by simp; omega) ?_).mono fun e w' ⟨v, h1, h2, _, h3⟩ => ⟨v, h1, h2, h3⟩
  intro j u hj
  have hj' : (ints xs)[k + j]? = some u := by rw [← hj]; simp [ints]
  have hlt : k + j < n := by
    have := (List.getElem?_eq_some_iff.1 hj').1
    simp [ints] at this; omega
  have := h.cellAt (k + j) (by omega)
  rw [hj'] at this
  have e2 : (⟨g, k, none⟩ : Addr).add j = ⟨g, k + j, none⟩ := by
    simp only [Addr.add]; split
    · rename_i h; subst h; rfl
    · rfl
  rw [e2]; exact this
theorem reverse_len (w : World) (base n : Nat) (v : Value) (xs : List Nat) (hn : n = xs.length) (hn2 : n ≤ 2000) (hown : w.ownsRow base 3 1 v n (ints xs)) :
    Calls Try.prog 43 #[v] w fun e w' => e = .returned (.tuple #[]) ∧ w'.ownsRow base 3 1 v n (ints xs.reverse) ∧ Frm (fun i => v.ownBlock = some i) w w' := by
  subst hn
  exact reverse_sl w base v xs hn2 hown
theorem betw_rows {w wr w1 w2 : World} {g2 n2 c2 m : Nat} {v1 : Value} {X : List Value} {ys : List Nat} (hBr : Below w.heap.size w wr) (hr2 : wr.ownsRow w.heap.size 3 1 (.slice (some ⟨g2, 0, none⟩) n2 c2) n2 (ints ys))
    (hv1 : w1.ownsRow wr.heap.size 3 1 v1 m X) (hw1 : Below wr.heap.size wr w1) (hw2 : Frm (fun i => v1.ownBlock = some i) w1 w2) :
    w2.ownsRow w.heap.size 3 1 (.slice (some ⟨g2, 0, none⟩) n2 c2) n2 (ints ys) ∧ Below w.heap.size w w2 := by
  have hge : ∀ i, v1.ownBlock = some i → wr.heap.size ≤ i := by
    intro i hi
    rcases hv1.2 with ⟨rfl, _⟩ | ⟨g, c, cur, rfl, hb, _⟩
    · cases hi
    · cases hi; exact hb
  constructor
  · refine hw2.owns ((Frm.of_below hw1 (fun _ => False)).owns hr2 (fun _ _ => id)) ?_
    intro g hg hv
    have h1 := hge g hv
    cases hg
    rcases hr2.2 with ⟨h, _⟩ | ⟨g, c, cur, h, _, hh, _⟩
    · cases h
    · cases h
      exact absurd (show g2 < _ from (Array.getElem?_eq_some_iff.1 hh).1) (by have : wr.heap.size ≤ g2 := h1; omega)
  · exact (hBr.trans (hw1.mono hBr.size)).trans (hw2.below (Nat.le_trans hBr.size hw1.size) (fun k hk => Nat.le_trans hBr.size (hge k hk)))
theorem drop_cells {w : World} {base g n cap k : Nat} {xs : List Nat} (hn : n = xs.length) (h : w.ownsRow base 3 1 (.slice (some ⟨g, 0, none⟩) n cap) n (ints xs)) (b : Nat) (hb : b = k ∨ n ≤ k) :
    ∀ j u, (ints (xs.drop k))[j]? = some u → w.cell? ((⟨g, b, none⟩ : Addr).add j) = some u := by
  intro j u hj
  have hj' : (ints xs)[k + j]? = some u := by rw [← hj]; simp [ints]
  have hlt : k + j < n := by
    have := (List.getElem?_eq_some_iff.1 hj').1
    simp [ints] at this; omega
  rcases hb with rfl | hb
  · have := h.cellAt (b + j) (by omega)
    rw [hj'] at this
    have e2 : (⟨g, b, none⟩ : Addr).add j = ⟨g, b + j, none⟩ := by
      simp only [Addr.add]; split
      · rename_i h; subst h; rfl
      · rfl
    rw [e2]; exact this
  · omega
theorem betw_end {w wr w2 w3 : World} {v1 v3 : Value} {m n1 n2 k : Nat} {xs ys L : List Nat} {nq : Nat} (hBr : Below w.heap.size w wr) (hv2 : w2.ownsRow (wr.drewN nq).heap.size 3 1 v1 (n1 - (k - 1)) (ints (List.drop (k - 1) xs).reverse))
    (hown3 : w3.ownsRow (wr.drewN nq).heap.size 3 1 v3 m (ints (List.drop (k - 1) xs).reverse ++ ints (ys.drop k))) (hgrow : w2.grownBy w3 v1.ownBlock) (hB2 : Below w.heap.size w w2)
    (hL : L = (xs.drop (k - 1)).reverse ++ ys.drop k) (h1 : n1 = xs.length) (h2 : n2 = ys.length) : RetI w L 0 (.returned (.tuple #[v3, .int .i64 0])) w3 := by
  have e : ints (List.drop (k - 1) xs).reverse ++ ints (ys.drop k) = ints L := by rw [hL]; simp [ints]
  rw [e] at hown3
  have hm : m = L.length := by have := hown3.1; simp [ints] at this; omega
  subst hm
  refine ⟨v3, rfl, owns_mono hown3 hBr.size, hB2.grown hgrow hB2.size ?_⟩
  intro i hi
  rcases hv2.2 with ⟨rfl, _⟩ | ⟨g, c, cur, rfl, hb, _⟩
  · cases hi
  · cases hi; exact Nat.le_trans hBr.size hb
theorem twoWays_of {w w0 w1 w2 : World} {v1 v2 : Value} {xs ys : List Nat} (hB : Below w.heap.size w w0)
    (hown1 : w1.ownsRow w0.drew.heap.size 3 1 v1 xs.length (ints xs)) (hB1 : Below w0.drew.heap.size w0.drew w1)
    (hown2 : w2.ownsRow w1.heap.size 3 1 v2 ys.length (ints ys)) (hB2 : Below w1.heap.size w1 w2) (hx : 0 < xs.length) (hy : 0 < ys.length) : TwoWays w xs ys v1 v2 w2 := by
  have e1 : w.heap.size ≤ w0.drew.heap.size := hB.size
  have e2 : w.heap.size ≤ w1.heap.size := Nat.le_trans e1 hB1.size
  obtain ⟨g1, c1, r1, _⟩ := hown1.form hx
  obtain ⟨g2, c2, r2, _⟩ := hown2.form hy
  have hF2 : Frm (fun _ => False) w1 w2 := Frm.of_below hB2 _
  refine ⟨g1, c1, g2, c2, r1, r2, owns_mono (hF2.owns hown1 (fun _ _ => id)) e1, owns_mono hown2 e2, ?_, ?_, ?_⟩
  · exact (hB.drew.trans (hB1.mono e1)).trans (hB2.mono e2)
  · subst r2; exact owns_cap hown2
  · subst r1; exact owns_cap hown1

set_option maxRecDepth 100000 in
set_option maxHeartbeats 4000000 in
theorem between_walk (h : Hist w t F nodes now) (a b : Nat) (ha : a < nodes.length) (hb : b < nodes.length) (xs ys L : List Nat) (hxs : xs = wayL nodes a) (hys : ys = wayL nodes b) (C n1 n2 : Nat) (HC : Hid (C = cpl xs ys))
    (HN1 : Hid (n1 = xs.length)) (HN2 : Hid (n2 = ys.length)) (HL : Hid (L = (xs.drop (C - 1)).reverse ++ ys.drop C)) (hx1 : n1 ≤ 1000) (hy1 : n2 ≤ 1000) (hxp : 0 < n1) (hyp : 0 < n2) (hc0 : 0 < C) (hcl : C ≤ n1 ∧ C ≤ n2) : Calls Try.prog 21 #[.pointer (some ⟨t, 0, none⟩), .int .i64 a, .int .i64 b] w (RetI w L 0) := by
  have hf := find_two h a b
  rw [if_pos ⟨⟨by omega, by omega⟩, by omega, by omega⟩] at hf
  have hB : Below w.heap.size w (w.alloc (.cells #[.int .i64 a, .int .i64 b] 3)) := (Below.refl _ w).alloc (Nat.le_refl _) _
  have h' : Hist (w.alloc (.cells #[.int .i64 a, .int .i64 b] 3)).drew t F nodes now := (h.stay (G := fun _ => False) ((Frm.refl _ w).alloc _) (fun _ _ => id)).drew
  have w1 := way_in h' a ha
  have w2 := fun w1 (hB1 : Below (w.alloc (.cells #[.int .i64 a, .int .i64 b] 3)).drew.heap.size (w.alloc (.cells #[.int .i64 a, .int .i64 b] 3)).drew w1) => way_in (h'.stay (Frm.of_below hB1 (fun _ => False)) (fun _ _ => id)) b hb
  rw [← hxs] at w1
  rw [← hys] at w2
  obtain ⟨i0, hi, hz0, hz1, hz2⟩ := info_parts infoI'
  have W1 := Lib.hid w1
  have W2 := Lib.hid w2
  have HB := Lib.hid hB
  have HF := Lib.hid hf
  clear w1 w2 hB hf h' h hxs hys ha hb
  go_enter Try.func21, Try.ntmps21
  go_upto_region 4 with (go_at_call 40; refine HF.out.mono ?_; rintro e w' ⟨rfl, rfl⟩)
  go_cut [9, 10] (fun p q wx => TwoWays w xs ys p q wx)
  case first =>
    go_region_with (first
      | (go_at_call_of 41 (Value.int IntKind.i64 (a : Int)); refine W1.out.mono ?_; rintro e w1 ⟨v1, rfl, hown1, hB1⟩)
      | (go_at_call_of 41 (Value.int IntKind.i64 (b : Int)); refine (W2.out _ hB1).mono ?_; rintro e w2 ⟨v2, rfl, hown2, hB2⟩))
    all_goals (change Met _ (Act.put (Act.put _ (some 9) v1) (some 10) v2) _; go_simp; refine Met.intro ?_; go_step; go_meet; case rel => exact twoWays_of HB.out hown1 hB1 hown2 hB2 (by have := HN1.out; omega) (by have := HN2.out; omega))
  case rest =>
    obtain ⟨g1, c1, g2, c2, rfl, rfl, hown1, hown2, hB, hc2, hc1⟩ := hcut
    rw [← HN1.out] at hown1 hc1
    rw [← HN2.out] at hown2 hc2
    have hc1' : c1 ≤ maxLen := owns_capMax hown1
    rw [← HN1.out, ← HN2.out]
    go_step
    go_wp2_with (fail)
    go_loopw [11] (fun i wr => ∃ k : Nat, k ≤ C ∧ i = .int .i64 k ∧ wr.ownsRow w.heap.size 3 1 (.slice (some ⟨g1, 0, none⟩) n1 c1) n1 (ints xs) ∧ wr.ownsRow w.heap.size 3 1 (.slice (some ⟨g2, 0, none⟩) n2 c2) n2 (ints ys) ∧ Below w.heap.size w wr) (fun i _ => n1 - (intOf i).toNat)
    case atStart => exact ⟨0, Nat.zero_le _, rfl, hown1, hown2, hB⟩
    case round =>
      obtain ⟨k, hkC, rfl, hr1, hr2, hBr⟩ := hrel
      have b0 : (0 : Int) ≤ (k : Int) := by omega
      by_cases h1 : (k : Int) < (n1 : Int)
      · by_cases h2 : (k : Int) < (n2 : Int)
        · obtain ⟨x, hx⟩ : ∃ x, xs[k]? = some x := ⟨_, List.getElem?_eq_getElem (by have := HN1.out; omega)⟩
          obtain ⟨y, hy⟩ : ∃ y, ys[k]? = some y := ⟨_, List.getElem?_eq_getElem (by have := HN2.out; omega)⟩
          have cx : wr.cell? ⟨g1, k, none⟩ = some (.int .i64 x) := by rw [hr1.cellAt k (by omega)]; simp [ints, hx]
          have cy : wr.cell? ⟨g2, k, none⟩ = some (.int .i64 y) := by rw [hr2.cellAt k (by omega)]; simp [ints, hy]
          by_cases hxy : (x : Int) = (y : Int)
          · have hkC' : k < C := by
              rcases Nat.lt_or_ge k C with h | h
              · exact h
              · have e : k = C := by omega
                rw [e, HC.out] at hx hy
                exact absurd (by omega) (cpl_at xs ys x y hx hy)
            go_wp2_with (fail)
            go_quiet (fail)
            go_wp2_with (fail)
            go_roundw
            case rel => exact ⟨k + 1, by omega, by go_num, hr1, hr2, below_drewN hBr _⟩
            case measure => simp [intOf]; omega
          · have HK : Hid (k = C) := by
              refine Lib.hid ?_
              rcases Nat.lt_or_ge k C with h | h
              · have := cpl_lt xs ys k x (by rw [← HC.out]; exact h) hx
                rw [hy] at this; simp at this; omega
              · omega
            go_wp2_with (fail)
            go_quiet (fail)
            obtain hk := HK.out
            subst hk
            have k1 : (0 : Int) ≤ (k : Int) - 1 := by omega
            have k2 : (k : Int) - 1 ≤ (n1 : Int) := by omega
            have k3 : c1 ≠ k - 1 := by have := hcl.1; omega
            have k4 : c2 ≠ k := by omega
            go_wp2_with (first
              | (go_at_call 42; refine (clone_len (wr.drewN nq) g1 (k - 1) c1 w.heap.size n1 xs HN1.out hx1 hr1).mono ?_; rintro e w1 ⟨v1, rfl, hv1, hw1⟩)
              | (go_at_call 43; refine (reverse_len w1 _ _ v1 _ (by have := HN1.out; simp; omega) (by omega) hv1).mono ?_; rintro e w2 ⟨rfl, hv2, hw2⟩; obtain ⟨hy2, hB2⟩ := betw_rows (below_drewN hBr nq) hr2 hv1 hw1 hw2)
              | (at_builtin
                 go_loud (refine wpList_append_own _ rfl _ _ 25 rfl (wr.drewN nq).heap.size 3 i0 (.int .i64 0) 1 8 Try.underlying25 hi hz0 hz1 hz2 rfl (by decide) v1 (n1 - (k - 1)) (ints (List.drop (k - 1) xs).reverse) rfl hv2 ⟨g2, k, none⟩ (n2 - k) (c2 - k) (ints (ys.drop k)) rfl (by have := HN2.out; simp [ints]; omega) (drop_cells HN2.out hy2 _ (by omega)) (ints_one _) (by simp only [maxLen]; omega) (by omega) (Nat.le_trans hw1.size hw2.size) ?_)
                 intro v3 w3 hown3 hgrow hnil))
            go_ret2
            exact betw_end hBr hv2 hown3 hgrow hB2 HL.out HN1.out HN2.out
        · have hd : decide (k < n2) = false := decide_eq_false (by omega)
          have HK := Lib.hid (show k = C by omega)
          go_wp2_with (fail)
          go_quiet (fail)
          obtain hk := HK.out
          subst hk
          have k1 : (0 : Int) ≤ (k : Int) - 1 := by omega
          have k2 : (k : Int) - 1 ≤ (n1 : Int) := by omega
          have k3 : c1 ≠ k - 1 := by have := hcl.1; omega
          by_cases k4 : c2 = k
          · go_wp2_with (first
              | (go_at_call 42; refine (clone_len (wr.drewN nq) g1 (k - 1) c1 w.heap.size n1 xs HN1.out hx1 hr1).mono ?_; rintro e w1 ⟨v1, rfl, hv1, hw1⟩)
              | (go_at_call 43; refine (reverse_len w1 _ _ v1 _ (by have := HN1.out; simp; omega) (by omega) hv1).mono ?_; rintro e w2 ⟨rfl, hv2, hw2⟩; obtain ⟨hy2, hB2⟩ := betw_rows (below_drewN hBr nq) hr2 hv1 hw1 hw2)
              | (at_builtin
                 go_loud (refine wpList_append_own _ rfl _ _ 25 rfl (wr.drewN nq).heap.size 3 i0 (.int .i64 0) 1 8 Try.underlying25 hi hz0 hz1 hz2 rfl (by decide) v1 (n1 - (k - 1)) (ints (List.drop (k - 1) xs).reverse) rfl hv2 ⟨g2, 0, none⟩ (n2 - k) _ (ints (ys.drop k)) rfl (by have := HN2.out; simp [ints]; omega) (drop_cells HN2.out hy2 _ (by omega)) (ints_one _) (by simp only [maxLen]; omega) (by omega) (Nat.le_trans hw1.size hw2.size) ?_)
                 intro v3 w3 hown3 hgrow hnil))
            go_ret2
            exact betw_end hBr hv2 hown3 hgrow hB2 HL.out HN1.out HN2.out
          · go_wp2_with (first
              | (go_at_call 42; refine (clone_len (wr.drewN nq) g1 (k - 1) c1 w.heap.size n1 xs HN1.out hx1 hr1).mono ?_; rintro e w1 ⟨v1, rfl, hv1, hw1⟩)
              | (go_at_call 43; refine (reverse_len w1 _ _ v1 _ (by have := HN1.out; simp; omega) (by omega) hv1).mono ?_; rintro e w2 ⟨rfl, hv2, hw2⟩; obtain ⟨hy2, hB2⟩ := betw_rows (below_drewN hBr nq) hr2 hv1 hw1 hw2)
              | (at_builtin
                 go_loud (refine wpList_append_own _ rfl _ _ 25 rfl (wr.drewN nq).heap.size 3 i0 (.int .i64 0) 1 8 Try.underlying25 hi hz0 hz1 hz2 rfl (by decide) v1 (n1 - (k - 1)) (ints (List.drop (k - 1) xs).reverse) rfl hv2 ⟨g2, k, none⟩ (n2 - k) (c2 - k) (ints (ys.drop k)) rfl (by have := HN2.out; simp [ints]; omega) (drop_cells HN2.out hy2 _ (by omega)) (ints_one _) (by simp only [maxLen]; omega) (by omega) (Nat.le_trans hw1.size hw2.size) ?_)
                 intro v3 w3 hown3 hgrow hnil))
            go_ret2
            exact betw_end hBr hv2 hown3 hgrow hB2 HL.out HN1.out HN2.out
      · have hd : decide (k < n1) = false := decide_eq_false (by omega)
        have HK := Lib.hid (show k = C by omega)
        go_wp2_with (fail)
        go_quiet (fail)
        obtain hk := HK.out
        subst hk
        have k1 : (0 : Int) ≤ (k : Int) - 1 := by omega
        have k2 : (k : Int) - 1 ≤ (n1 : Int) := by omega
        have k3 : c1 ≠ k - 1 := by have := hcl.1; omega
        by_cases k4 : c2 = k
        · go_wp2_with (first
            | (go_at_call 42; refine (clone_len (wr.drewN nq) g1 (k - 1) c1 w.heap.size n1 xs HN1.out hx1 hr1).mono ?_; rintro e w1 ⟨v1, rfl, hv1, hw1⟩)
            | (go_at_call 43; refine (reverse_len w1 _ _ v1 _ (by have := HN1.out; simp; omega) (by omega) hv1).mono ?_; rintro e w2 ⟨rfl, hv2, hw2⟩; obtain ⟨hy2, hB2⟩ := betw_rows (below_drewN hBr nq) hr2 hv1 hw1 hw2)
            | (at_builtin
               go_loud (refine wpList_append_own _ rfl _ _ 25 rfl (wr.drewN nq).heap.size 3 i0 (.int .i64 0) 1 8 Try.underlying25 hi hz0 hz1 hz2 rfl (by decide) v1 (n1 - (k - 1)) (ints (List.drop (k - 1) xs).reverse) rfl hv2 ⟨g2, 0, none⟩ (n2 - k) _ (ints (ys.drop k)) rfl (by have := HN2.out; simp [ints]; omega) (drop_cells HN2.out hy2 _ (by omega)) (ints_one _) (by simp only [maxLen]; omega) (by omega) (Nat.le_trans hw1.size hw2.size) ?_)
               intro v3 w3 hown3 hgrow hnil))
          go_ret2
          exact betw_end hBr hv2 hown3 hgrow hB2 HL.out HN1.out HN2.out
        · go_wp2_with (first
            | (go_at_call 42; refine (clone_len (wr.drewN nq) g1 (k - 1) c1 w.heap.size n1 xs HN1.out hx1 hr1).mono ?_; rintro e w1 ⟨v1, rfl, hv1, hw1⟩)
            | (go_at_call 43; refine (reverse_len w1 _ _ v1 _ (by have := HN1.out; simp; omega) (by omega) hv1).mono ?_; rintro e w2 ⟨rfl, hv2, hw2⟩; obtain ⟨hy2, hB2⟩ := betw_rows (below_drewN hBr nq) hr2 hv1 hw1 hw2)
            | (at_builtin
               go_loud (refine wpList_append_own _ rfl _ _ 25 rfl (wr.drewN nq).heap.size 3 i0 (.int .i64 0) 1 8 Try.underlying25 hi hz0 hz1 hz2 rfl (by decide) v1 (n1 - (k - 1)) (ints (List.drop (k - 1) xs).reverse) rfl hv2 ⟨g2, k, none⟩ (n2 - k) (c2 - k) (ints (ys.drop k)) rfl (by have := HN2.out; simp [ints]; omega) (drop_cells HN2.out hy2 _ (by omega)) (ints_one _) (by simp only [maxLen]; omega) (by omega) (Nat.le_trans hw1.size hw2.size) ?_)
               intro v3 w3 hown3 hgrow hnil))
          go_ret2
          exact betw_end hBr hv2 hown3 hgrow hB2 HL.out HN1.out HN2.out
theorem between_yes (h : Hist w t F nodes now) (a b : Nat) (ha : a < nodes.length) (hb : b < nodes.length) : Calls Try.prog 21 #[.pointer (some ⟨t, 0, none⟩), .int .i64 a, .int .i64 b] w (RetI w (betweenL nodes a b) 0) := by
  have hx1 : (wayL nodes a).length ≤ 1000 := by have := upL_len h.1 ha; simpa [wayL] using this
  have hy1 : (wayL nodes b).length ≤ 1000 := by have := upL_len h.1 hb; simpa [wayL] using this
  exact between_walk h a b ha hb _ _ _ rfl rfl (cpl (wayL nodes a) (wayL nodes b)) _ _ (Lib.hid rfl) (Lib.hid rfl) (Lib.hid rfl) (Lib.hid rfl) hx1 hy1 (wayL_pos h.1 ha) (wayL_pos h.1 hb) (cpl_pos h.1 ha hb) (cpl_le _ _)
end
end Go.Proofs.Ythneinepdbkgeaa
