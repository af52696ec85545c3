/- The walk of the law LexJoins. -/
import Derived.Test.YtnihpcamooncjaaDoorLexRef
import Derived.StillTailTactics
namespace Go.Proofs.YtnihpcamooncjaaDoor
open Go.RowKit
set_option linter.unusedVariables false
set_option linter.unusedSimpArgs false
set_option linter.unusedSectionVars false
def flatK (xs : List Tk) : List Value := xs.flatMap (fun x => [.int .u8 x.k, .string x.t, .int .i64 x.p])
theorem info27 : (Tryd.prog.info? 27).map (fun i => (i.zero, i.size, i.bytes)) = some (some (.agg #[.int .u8 0, .string ⟨#[]⟩, .int .i64 0]), 3, 32) := by kernel_rfl
theorem flatK_get (xs : List Tk) : ∀ (i : Nat) (t : Tk), xs[i]? = some t → (flatK xs)[i * 3]? = some (.int .u8 t.k) ∧ (flatK xs)[i * 3 + 1]? = some (.string t.t) ∧ (flatK xs)[i * 3 + 2]? = some (.int .i64 t.p) := by
  induction xs with
  | nil => intro i t h; simp at h
  | cons u xs ih =>
    intro i t h
    cases i with
    | zero =>
      simp only [List.getElem?_cons_zero, Option.some.injEq] at h
      subst h
      simp [flatK]
    | succ i =>
      have := ih i t h
      rw [show (i + 1) * 3 = i * 3 + 1 + 1 + 1 by omega]
      simp only [flatK, List.flatMap_cons, List.cons_append, List.nil_append] at this ⊢
      exact this
theorem slT_of {W : World} {B : Nat} {v : Value} {xs : List Tk} (h : W.ownsRow B 27 3 v xs.length (flatK xs)) : SlT W v xs := by
  have hs := h
  rcases h.2 with ⟨rfl, h0⟩ | ⟨g, cap, cur, rfl, hg, hh, hc, _⟩
  · exact .inr ⟨List.length_eq_zero_iff.1 h0, none, 0, rfl⟩
  · have key : ∀ j u, (flatK xs)[j]? = some u → W.cell? ⟨g, j, none⟩ = some u := fun j u hu => by
      have := hs.cells rfl j u hu
      rwa [show ((⟨g, 0, none⟩ : Addr).add j) = ⟨g, j, none⟩ by unfold Addr.add; split <;> simp_all] at this
    refine .inl ⟨g, 0, cap, rfl, ⟨fun i x hx => ?_, fun i x hx => ?_, fun i x hx => ?_, HK.blk_lt hh⟩⟩
    · rw [Nat.zero_add]; exact key _ _ (flatK_get xs i x hx).1
    · rw [Nat.zero_add]; exact key _ _ (flatK_get xs i x hx).2.1
    · rw [Nat.zero_add]; exact key _ _ (flatK_get xs i x hx).2.2
theorem owns_drew {w : World} {base : Nat} {e : TypeId} {size : Nat} {v : Value} {n : Nat} {xs : List Value} (h : w.ownsRow base e size v n xs) : w.drew.ownsRow base e size v n xs := h
theorem elem24 : HK.ElemOk Tryd.prog 24 27 3 32 := .mk' Tryd.underlying24 info27 rfl (by omega)
/-- Between two tokens. -/
def JnsI (w : World) (xs : List Tk) (k : Nat) (v : Value) (wr : World) : Prop :=
  wr.ownsRow 0 27 3 v (xs.take k).length (flatK (xs.take k)) ∧ (∀ b, v.ownBlock = some b → w.heap.size ≤ b) ∧ Below w.heap.size w wr ∧ ∀ x ∈ xs.take k, x.t.size ≤ 100
theorem jns_step {w wr w1 : World} {xs : List Tk} {k gg cap : Nat} {v : Value} {x : Tk} {o : Obj} (hge : ∀ b, v.ownBlock = some b → w.heap.size ≤ b) (hB : Below w.heap.size w wr) (hall : ∀ x ∈ xs.take k, x.t.size ≤ 100)
    (hx : xs.take (k + 1) = xs.take k ++ [x]) (h5 : x.t.size ≤ 100) (hlk : (xs.take k).length = k)
    (hown : w1.ownsRow 0 27 3 (.slice (some ⟨gg, 0, none⟩) (k + 1) cap) (k + 1) (flatK (xs.take k) ++ (#[.int .u8 x.k, .string x.t, .int .i64 x.p] : Array Value).toList)) (hgrow : (wr.alloc o).drew.grownBy w1 v.ownBlock)
    (hat : v.ownBlock = some gg ∨ gg = (wr.alloc o).drew.heap.size) : JnsI w xs (k + 1) (.slice (some ⟨gg, 0, none⟩) (k + 1) cap) w1 := by
  have hz := hB.size
  refine ⟨?_, ?_, ?_, ?_⟩
  · rw [hx, List.length_append, hlk]
    simp only [flatK, List.flatMap_append, List.flatMap_cons, List.flatMap_nil, List.append_nil] at hown ⊢
    exact hown
  · intro b hb
    simp only [Value.ownBlock, Option.some.injEq] at hb
    subst hb
    rcases hat with h | h
    · exact hge _ h
    · rw [h]; show w.heap.size ≤ (wr.alloc o).heap.size; simp; omega
  · exact ((hB.alloc hz o).drew).grown hgrow (by show w.heap.size ≤ (wr.alloc o).heap.size; simp; omega) (fun j e => hge j e)
  · intro y hy
    rw [hx] at hy
    rcases List.mem_append.1 hy with hy | hy
    · exact hall y hy
    · rw [List.mem_singleton.1 hy]; exact h5
set_option maxRecDepth 100000 in
set_option maxHeartbeats 8000000 in
theorem joins_row (w : World) (g o c : Nat) (xs : List Tk) (h : RowT w g o xs) (hm : xs.length ≤ maxLen) (hG : Signs w) : Calls Tryd.prog 3 #[.slice (some ⟨g, o, none⟩) xs.length c] w (RetW1 w) := by
  have HA := Lib.hid (fun (w' : World) (h : Below w.heap.size w w') => awake_any w' (hG.below h))
  have H := Lib.hid h
  have hg := h.lt
  obtain ⟨n, hnn⟩ : ∃ n, xs.length = n := ⟨_, rfl⟩
  rw [hnn] at hm ⊢
  have HN := Lib.hid hnn
  unfold maxLen at hm
  clear h hnn hG
  by_cases h100 : n ≤ 100
  · have d1 : decide ((100 : Int) < (n : Int)) = false := decide_eq_false (by omega)
    go_enter Tryd.func3, Tryd.ntmps3
    go_wp2_with (fail)
    go_loopw [3, 4] (fun v i wr => ∃ k : Nat, k ≤ n ∧ i = .int .i64 k ∧ JnsI w xs k v wr) (fun _ i _ => n - (intOf i).toNat)
    case atStart => exact ⟨0, by omega, rfl, World.ownsRow_nil _ _ _ _, (by intro b hb; cases hb), Below.refl _ _, by intro x hx; cases hx⟩
    case round =>
      obtain ⟨k, hk, rfl, hrow, hge, hB, hall⟩ := hrel
      have hsz := hB.size
      have HB := Lib.hid hB
      have HALL := Lib.hid hall
      clear hB hall
      by_cases hlt : k < n
      · obtain ⟨x, hx⟩ : ∃ x, xs[k]? = some x := ⟨_, List.getElem?_eq_getElem (by rw [HN.out]; exact hlt)⟩
        have hR := H.out.below HB.out hg
        have c0 := hR.c0 k x hx
        have c1 := hR.c1 k x hx
        have c2 := hR.c2 k x hx
        have b1 : (k : Int) < (n : Int) := by omega
        have b0 : (0 : Int) ≤ (k : Int) := by omega
        have HTK := Lib.hid (take_snocT hx)
        have hlk : (xs.take k).length = k := by rw [List.length_take, HN.out]; omega
        rw [hlk] at hrow
        by_cases h5 : x.t.size ≤ 100
        · have e1 : decide ((100 : Int) < (x.t.size : Int)) = false := decide_eq_false (by omega)
          have H5 := Lib.hid h5
          have HLK := Lib.hid hlk
          clear hx hR h5 hlk
          obtain ⟨i0', hi, hz0, hz1, hz2⟩ := info_parts info27
          go_wp2_with (fail)
          go_region_law
            ((refine HK.step_app1 (by rfl) elem24 _ _ (by rfl) _ k (flatK (xs.take k)) (by rfl) (owns_drew (hrow.alloc _)) wr.heap.size 1 #[.int .u8 x.k, .string x.t, .int .i64 x.p] (by rfl) (HK.blk_drew (HK.blk_new _ _)) (by rfl) (by simp [Value.oneCell']) (by simp only [maxLen]; omega) (by omega) ?_
              intro gg cap w1 hown1 hgrow hat hlt))
          all_goals (
            go_wp2_with (fail)
            go_roundw
            case rel => exact ⟨k + 1, by omega, by go_num, jns_step hge HB.out HALL.out HTK.out H5.out HLK.out hown1 hgrow hat⟩
            case measure => simp [intOf]; omega)
        · have e1 : decide ((100 : Int) < (x.t.size : Int)) = true := decide_eq_true (by omega)
          clear hx hR h5 hlk
          go_wp2_with (go_at_call 9; (with_reducible refine (HA.out _ HB.out).mono ?_); rintro e w2 ⟨rfl, hb2⟩)
          go_ret
          exact ⟨rfl, below_of HB.out hb2⟩
      · obtain rfl : k = n := by omega
        have hkx : xs.take k = xs := List.take_of_length_le (by rw [HN.out]; omega)
        rw [hkx] at hrow
        have hallx : ∀ x ∈ xs, x.t.size ≤ 100 := by have := HALL.out; rw [hkx] at this; exact this
        have hj := joinT_bound hallx
        obtain ⟨X, hX⟩ : ∃ X, mkS (joinT xs) = X := ⟨_, rfl⟩
        have S1 := Lib.hid (show SlT wr (.slice (some ⟨g, o, none⟩) k c) xs from .inl ⟨g, o, c, by rw [HN.out], H.out.below HB.out hg⟩)
        have S2 := Lib.hid (slT_of hrow)
        have LJ : ∀ (w' : World) (v' : Value), SlT w' v' xs → Calls Tryd.prog 10 #[v'] w' (fun e w2 => e = .returned (.string X) ∧ Below w'.heap.size w' w2) := fun w' v' h =>
          (join_sl w' v' xs h (by rw [HN.out]; omega) (by rw [HN.out] at hj; omega)).mono fun e w2 h => ⟨by rw [h.1, hX], h.2⟩
        have LR : ∀ (w' : World) (v' : Value), SlT w' v' xs → Calls Tryd.prog 11 #[v'] w' (fun e w2 => e = .returned (.string X) ∧ w' = w2) := fun w' v' h =>
          (ref_sl w' v' xs h (by rw [HN.out]; omega) hallx).mono fun e w2 h => ⟨by rw [h.1, hX], h.2⟩
        have LS : ∀ (w' : World) (v1 v2 : Value), SlT w' v1 xs → SlT w' v2 xs → Calls Tryd.prog 12 #[v1, v2] w' (RetD w' true) := fun w' v1 v2 h h2 =>
          same_yes w' v1 v2 xs xs h h2 rfl (by rw [HN.out]; omega) (fun i x y hx hy => by rw [hx] at hy; cases hy; exact ⟨rfl, rfl, rfl⟩)
        have HLJ := Lib.hid LJ
        have HLR := Lib.hid LR
        have HLS := Lib.hid LS
        clear LJ LR LS hX hj hallx hkx hrow hge
        go_wp2_with (first
          | (go_at_call 10; (with_reducible refine (HLJ.out _ _ S1.out).mono ?_); rintro e w3 ⟨rfl, hb3⟩; have B3 := Lib.hid (below_of HB.out hb3); have T1 := Lib.hid (S1.out.below hb3); have T2 := Lib.hid (S2.out.below hb3); clear hb3)
          | (go_at_call 11; (with_reducible refine (HLR.out _ _ T2.out).mono ?_); rintro e w4 ⟨rfl, rfl⟩)
          | (go_at_call 12; (with_reducible refine (HLS.out _ _ _ T1.out T2.out).mono ?_); rintro e w5 ⟨rfl, d, rfl⟩)
          | (go_at_call 9; (with_reducible refine (HA.out _ (below_drewN B3.out d)).mono ?_); rintro e w6 ⟨rfl, hb6⟩))
        go_ret
        exact ⟨rfl, below_of (below_drewN B3.out d) hb6⟩
  · have d1 : decide ((100 : Int) < (n : Int)) = true := decide_eq_true (by omega)
    go_enter Tryd.func3, Tryd.ntmps3
    go_wp2_with (go_at_call 9; (with_reducible refine (HA.out _ (Below.refl _ _)).mono ?_); rintro e w2 ⟨rfl, hb2⟩)
    go_ret
    exact ⟨rfl, hb2⟩
set_option maxRecDepth 100000 in
set_option maxHeartbeats 4000000 in
theorem joins_nil (w : World) (a : Option Addr) (c : Nat) (hG : Signs w) : Calls Tryd.prog 3 #[.slice a 0 c] w (RetW1 w) := by
  have HA := Lib.hid (fun (w' : World) (h : Below w.heap.size w w') => awake_any w' (hG.below h))
  have S1 := Lib.hid (show SlT w (.slice a 0 c) [] from .inr ⟨rfl, a, c, rfl⟩)
  have S2 := Lib.hid (show SlT w (.slice none 0 0) [] from .inr ⟨rfl, none, 0, rfl⟩)
  have LJ : ∀ (w' : World) (v' : Value), SlT w' v' [] → Calls Tryd.prog 10 #[v'] w' (fun e w2 => e = .returned (.string ⟨#[]⟩) ∧ Below w'.heap.size w' w2) := fun w' v' h =>
    (join_sl w' v' [] h (by decide) (by decide)).mono fun e w2 h => ⟨h.1, h.2⟩
  have LR : ∀ (w' : World) (v' : Value), SlT w' v' [] → Calls Tryd.prog 11 #[v'] w' (fun e w2 => e = .returned (.string ⟨#[]⟩) ∧ w' = w2) := fun w' v' h =>
    (ref_sl w' v' [] h (by decide) (by intro x hx; cases hx)).mono fun e w2 h => ⟨h.1, h.2⟩
  have LS : ∀ (w' : World) (v1 v2 : Value), SlT w' v1 [] → SlT w' v2 [] → Calls Tryd.prog 12 #[v1, v2] w' (RetD w' true) := fun w' v1 v2 h h2 =>
    same_yes w' v1 v2 [] [] h h2 rfl (by decide) (fun i x y hx hy => by cases hx)
  have HLJ := Lib.hid LJ
  have HLR := Lib.hid LR
  have HLS := Lib.hid LS
  clear LJ LR LS hG
  go_enter Tryd.func3, Tryd.ntmps3
  go_wp2_with (fail)
  go_loopw [3, 4] (fun v i wr => v = .slice none 0 0 ∧ i = .int .i64 0 ∧ wr = w) (fun _ _ _ => 0)
  case atStart => exact ⟨rfl, rfl, rfl⟩
  case round =>
    obtain ⟨rfl, rfl, rfl⟩ := hrel
    go_wp2_with (first
      | (go_at_call 10; (with_reducible refine (HLJ.out _ _ S1.out).mono ?_); rintro e w3 ⟨rfl, hb3⟩; have B3 := Lib.hid hb3; have T1 := Lib.hid (S1.out.below hb3); have T2 := Lib.hid (S2.out.below hb3); clear hb3)
      | (go_at_call 11; (with_reducible refine (HLR.out _ _ T2.out).mono ?_); rintro e w4 ⟨rfl, rfl⟩)
      | (go_at_call 12; (with_reducible refine (HLS.out _ _ _ T1.out T2.out).mono ?_); rintro e w5 ⟨rfl, d, rfl⟩)
      | (go_at_call 9; (with_reducible refine (HA.out _ (below_drewN B3.out d)).mono ?_); rintro e w6 ⟨rfl, hb6⟩))
    go_ret
    exact ⟨rfl, below_of (below_drewN B3.out d) hb6⟩
theorem joins_any (w : World) {v : Value} (h : TokensIn w v) (hG : Signs w) : Calls Tryd.prog 3 #[v] w (RetW1 w) := by
  obtain ⟨xs, hx, hl⟩ := h
  rcases hx with ⟨g, o, c, rfl, h⟩ | ⟨rfl, a, c, rfl⟩
  · exact joins_row w g o c xs h hl hG
  · exact joins_nil w a c hG
end Go.Proofs.YtnihpcamooncjaaDoor
