/- The reference's Way (55). refa.py prints this text. -/
import Derived.Test.YthneinepdbkgeaaRefp
import Derived.Test.YthneinepdbkgeaaEach
import Derived.Test.YthneinepdbkgeaaMethC
import Derived.Test.YthneinepdbkgeaaSamo
import Derived.Deep.CutBlock
namespace Go.Proofs.Ythneinepdbkgeaa
open Go.RowKit Go.HK
set_option linter.unusedVariables false
set_option linter.unusedSimpArgs false
set_option linter.unusedSectionVars false
theorem blk_up9 {W W' : World} {n g : Nat} {o : Obj} (hS : Below n W W') (h : W.heap[g]? = some o) (hn : W.heap.size ≤ n := by first | exact Nat.le_refl _ | omega) : W'.heap[g]? = some o := (hS.block _ (Nat.lt_of_lt_of_le (HK.blk_lt h) hn)).trans h
theorem own_below9 {W W' : World} {b e size n : Nat} {v : Value} {xs : List Value} (h : W.ownsRow b e size v n xs) (hB : Below W.heap.size W W') : W'.ownsRow b e size v n xs :=
  (Frm.of_below hB (fun _ => False)).owns h fun g _ hg => hg
theorem own_mono9 {W : World} {b b' e size n : Nat} {v : Value} {xs : List Value} (h : W.ownsRow b e size v n xs) (hb : b' ≤ b) : W.ownsRow b' e size v n xs := owns_mono h hb
theorem own_mono0 {W : World} {b e size n : Nat} {v : Value} {xs : List Value} (h : W.ownsRow b e size v n xs) : W.ownsRow 0 e size v n xs := owns_mono h (Nat.zero_le _)
theorem own_base9 {W : World} {b e size n g c : Nat} {xs : List Value} (h : W.ownsRow 0 e size (.slice (some ⟨g, 0, none⟩) n c) n xs) (hb : b ≤ g) : W.ownsRow b e size (.slice (some ⟨g, 0, none⟩) n c) n xs := by
  refine ⟨h.1, h.2.imp id ?_⟩
  rintro ⟨g', cap, cur, hv, h0, r⟩
  refine ⟨g', cap, cur, hv, ?_, r⟩
  simp only [Value.slice.injEq, Option.some.injEq, Addr.mk.injEq] at hv
  omega
theorem of_wanted9 {P : Program} {o : Oper} {a : Act} {w : World} {K : Act → World → Prop} {Q : Exit → Act → World → Prop} (hg : o.guard = none) (h : if Region.wanted o (yielded #[] a.tmps) = true then Oper.wp P o a w K Q else True) : Oper.wp P o a w K Q := by
  rw [if_pos (by simp [Region.wanted, hg])] at h
  exact h
theorem ev9 {a : Act} {t : Nat} {v : Value} (h : a.tmps[t]? = some v) : a.eval (.tmp t) = v := by
  simp [Act.eval, h]
theorem own7_up {W W' : World} {p q : Prop} {u u16 : Value} {b m : Nat} {xs : List Value} (hS : Below W.heap.size W W') (h : ∃ v, u = v ∧ (p ∨ (W.ownsRow b 3 1 v m xs ∧ (q → ∀ B, u16 = .slice (some ⟨B, 0, none⟩) 1 1 → v.ownBlock ≠ some B)))) :
    ∃ v, u = v ∧ (p ∨ (W'.ownsRow b 3 1 v m xs ∧ (q → ∀ B, u16 = .slice (some ⟨B, 0, none⟩) 1 1 → v.ownBlock ≠ some B))) :=
  h.imp fun v h => ⟨h.1, h.2.imp id fun h2 => ⟨own_below9 h2.1 hS, h2.2⟩⟩
theorem ownsRow_nil9 (W : World) (b : Nat) : W.ownsRow b 3 1 (.slice none 0 0) 0 (ints []) := ⟨rfl, .inl ⟨rfl, rfl⟩⟩
/-- The way to an entry, or none. -/
def wayI (nodes : List Go.HK.HN) (i : Int) : List Nat := if i < 0 then [] else wayL nodes i.toNat
theorem wayI_neg {nodes : List Go.HK.HN} {i : Int} (h : i < 0) : wayI nodes i = [] := if_pos h
theorem wayI_nat (nodes : List Go.HK.HN) (k : Nat) : wayI nodes (k : Int) = wayL nodes k := by unfold wayI; rw [if_neg (by omega), Int.toNat_natCast]
theorem wayI_step {nodes : List Go.HK.HN} {z : Nat} (h : WF nodes z) {k : Nat} (hk : k < nodes.length) : wayI nodes k = wayI nodes (parF nodes k) ++ [k] := by
  rw [wayI_nat, wayL_eq h hk]
  unfold wayI
  rfl
theorem wayL_len9 {nodes : List Go.HK.HN} {z : Nat} (h : WF nodes z) {k : Nat} (hk : k < nodes.length) : (wayL nodes k).length ≤ 1000 := by unfold wayL; rw [List.length_reverse]; exact upL_len h hk
theorem wayI_len9 {nodes : List Go.HK.HN} {z : Nat} (h : WF nodes z) {i : Int} (hk : i < nodes.length) : (wayI nodes i).length ≤ 1000 := by
  unfold wayI
  split
  · exact Nat.zero_le _
  · exact wayL_len9 h (by omega)
def WayOk (nodes : List Go.HK.HN) (ge ce gn gc : Nat) (ga : Option Addr) (nw i : Int) : Prop := ∀ w, EntsAt w ge (ents nodes) → Calls Try.prog 55 #[.agg #[.slice (some ⟨ge, 0, none⟩) nodes.length ce, .int .i64 nw, .slice ga gn gc], .int .i64 i] w (RetS w (wayI nodes i))
set_option maxRecDepth 100000 in
set_option maxHeartbeats 8000000 in
theorem rway_of {nodes : List Go.HK.HN} {z : Nat} (h : WF nodes z) (ge ce gn gc : Nat) (ga : Option Addr) (nw i : Int) (hi : i < nodes.length) (ih : ∀ j : Int, j < i → -1 ≤ j → WayOk nodes ge ce gn gc ga nw j) : WayOk nodes ge ce gn gc ga nw i := by
  intro w he
  by_cases h0 : i < 0
  · rw [wayI_neg h0]
    clear ih
    go_enter Try.func55, Try.ntmps55
    go_wp2_with (fail)
    go_ret
    exact ⟨_, rfl, ownsRow_nil9 _ _, (Below.refl _ w).alloc (Nat.le_refl _) _⟩
  · obtain ⟨k, rfl⟩ : ∃ k : Nat, i = (k : Int) := ⟨i.toNat, by omega⟩
    have hk : k < nodes.length := by omega
    rw [wayI_step h hk]
    obtain ⟨G, hG⟩ : ∃ G, G = w.heap.size := ⟨_, rfl⟩
    obtain ⟨par, hpar⟩ : ∃ par, par = parF nodes k := ⟨_, rfl⟩
    have hp := h.par' k hk
    rw [← hpar] at hp ⊢
    obtain ⟨ys, hys⟩ : ∃ ys, ys = wayI nodes par := ⟨_, rfl⟩
    rw [← hys]
    obtain ⟨m, hm⟩ : ∃ m, m = ys.length := ⟨_, rfl⟩
    have hml : m ≤ 1000 := by rw [hm, hys]; exact wayI_len9 h (by omega)
    obtain ⟨nl, hnl⟩ : ∃ nl, nl = nodes.length := ⟨_, rfl⟩
    obtain ⟨w1, hw1⟩ : ∃ w1, w1 = w.alloc (.cells #[.slice (some ⟨ge, 0, none⟩) nl ce, .int .i64 nw, .slice ga gn gc] 63) := ⟨_, rfl⟩
    have hB1 : Below w.heap.size w w1 := by rw [hw1]; exact (Below.refl _ w).alloc (Nat.le_refl _) _
    have hX1 : w1.heap[G]? = some (.cells #[.slice (some ⟨ge, 0, none⟩) nl ce, .int .i64 nw, .slice ga gn gc] 63 (0, 0)) := by rw [hw1, hG]; exact HK.blk_new _ _
    have he1 : EntsAt w1 ge (ents nodes) := he.below hB1 (Nat.le_refl _)
    obtain ⟨x0, hx0⟩ : ∃ x, nodes[k]? = some x := get_of_lt hk
    obtain ⟨xk, hxk⟩ : ∃ xk, (ents nodes)[k]? = some xk := ⟨_, List.getElem?_eq_getElem (by rw [ents_len]; exact hk)⟩
    have hxp : xk.par = par := by rw [hpar, parF_ents, hxk]; rfl
    have hih := fun (W : World) (hB : Below w1.heap.size w1 W) => ih par (by omega) (by omega) W (he1.below hB (Nat.le_refl _))
    unfold RetS at hih
    rw [← hys, ← hm, ← hnl] at hih
    rw [← hnl] at hk ⊢
    have hnl2 : nl ≤ 1000 := by rw [hnl]; exact h.le
    have HX1 := Lib.hid hX1
    have HE1 := Lib.hid he1
    have HB1 := Lib.hid hB1
    have HXK := Lib.hid hxk
    have HPAR := Lib.hid hxp
    have HIH := Lib.hid hih
    have HW1 := Lib.hid hw1
    have HG := Lib.hid hG
    have HM := Lib.hid hm
    have z0 : (0 : Int) ≤ (k : Int) := by omega
    have z1 : (k : Int) < (nl : Int) := by omega
    have z2 : ¬ (k : Int) < 0 := by omega
    clear hX1 he1 hB1 hxk hxp hih hw1 hG hm hx0 hys hpar hi h0 he ih h hnl hp
    go_enter Try.func55, Try.ntmps55
    go_upto_region 3 with (fail)
    rw [← HW1.out, ← HG.out]
    go_cut [4] from 7 to 17 (fun v wx => wx.ownsRow w1.heap.size 3 1 v (m + 1) (ints (ys ++ [k])) ∧ Below w1.heap.size w1 wx)
    case first =>
      refine Go.RE.wp_region_each [7, 8, 9, 10, 11, 12, 13, 14, 15, 16, 17, 4] (fun L x W => (Below w1.heap.size w1 W) ∧ (L 0 = true → x 7 = .agg #[.slice (some ⟨ge, 0, none⟩) nl ce, .int .i64 nw, .slice ga gn gc]) ∧ (L 1 = true → x 8 = .pointer (some ⟨G, 0, none⟩)) ∧ (L 2 = true → x 9 = .slice (some ⟨ge, 0, none⟩) nl ce) ∧ (L 3 = true → x 10 = .int .i64 (k : Int)) ∧ (L 4 = true → x 11 = .pointer (some ⟨ge, k * 4, none⟩)) ∧ (L 5 = true → x 12 = .pointer (some ⟨ge, k * 4, none⟩)) ∧ (L 6 = true → x 13 = .int .i64 par) ∧ (L 7 = true → ∃ v, x 14 = v ∧ (L 10 = true ∨ (W.ownsRow w1.heap.size 3 1 v m (ints ys) ∧ (L 9 = true → ∀ B, x 16 = .slice (some ⟨B, 0, none⟩) 1 1 → v.ownBlock ≠ some B)))) ∧ (L 8 = true → x 15 = .int .i64 (k : Int)) ∧ (L 9 = true → ∃ B, x 16 = .slice (some ⟨B, 0, none⟩) 1 1 ∧ (L 10 = true ∨ W.heap[B]? = some (.cells #[.int .i64 (k : Int)] 3 (0, 0)))) ∧ (L 10 = true → L 7 = true ∧ L 9 = true ∧ W.ownsRow w1.heap.size 3 1 (x 17) (m + 1) (ints (ys ++ [k]))) ∧ (L 11 = true → L 10 = true ∧ x 4 = x 17)) (by kernel_rfl) (by kernel_rfl) (by kernel_rfl) ?_ ((Go.RE.Each.cons ?_ (Go.RE.Each.cons ?_ (Go.RE.Each.cons ?_ (Go.RE.Each.cons ?_ (Go.RE.Each.cons ?_ (Go.RE.Each.cons ?_ (Go.RE.Each.cons ?_ (Go.RE.Each.cons ?_ (Go.RE.Each.cons ?_ (Go.RE.Each.cons ?_ (Go.RE.Each.cons ?_ (Go.RE.Each.cons ?_ Go.RE.Each.nil))))))))))))) ?_
      · exact fun x => ⟨(Below.refl _ w1).trans ⟨rfl, rfl, rfl, Nat.le_refl _, fun _ _ => rfl⟩, fun h => (by cases h), fun h => (by cases h), fun h => (by cases h), fun h => (by cases h), fun h => (by cases h), fun h => (by cases h), fun h => (by cases h), fun h => (by cases h), fun h => (by cases h), fun h => (by cases h), fun h => (by cases h), fun h => (by cases h)⟩
      · intro L x a w K hL hd hf hx hΦ hK
        obtain ⟨hI, f0, f1, f2, f3, f4, f5, f6, f7, f8, f9, f10, f11⟩ := hΦ
        have e2 : a.tmps[2]? = some (.pointer (some ⟨G, 0, none⟩)) := hf 2 (of_decide_eq_true (by kernel_rfl))
        clear hf hx hd
        have hbx := blk_up9 hI HX1.out
        have c0 := HK.blk_cell hbx 0
        have c1 := HK.blk_cell hbx 1
        have c2 := HK.blk_cell hbx 2
        simp only [List.getElem?_toArray, List.getElem?_cons_succ, List.getElem?_cons_zero] at c0 c1 c2
        go_simp
        refine hK _ _ ?_
        exact ⟨hI, fun _ => rfl, fun h => f1 h, fun h => f2 h, fun h => f3 h, fun h => f4 h, fun h => f5 h, fun h => f6 h, fun h => f7 h, fun h => f8 h, fun h => f9 h, fun h => f10 h, fun h => f11 h⟩
      · intro L x a w K hL hd hf hx hΦ hK
        obtain ⟨hI, f0, f1, f2, f3, f4, f5, f6, f7, f8, f9, f10, f11⟩ := hΦ
        have e2 : a.tmps[2]? = some (.pointer (some ⟨G, 0, none⟩)) := hf 2 (of_decide_eq_true (by kernel_rfl))
        clear hf hx hd
        go_simp
        refine hK _ _ ?_
        exact ⟨hI, fun h => f0 h, fun _ => rfl, fun h => f2 h, fun h => f3 h, fun h => f4 h, fun h => f5 h, fun h => f6 h, fun h => f7 h, fun h => f8 h, fun h => f9 h, fun h => f10 h, fun h => f11 h⟩
      · intro L x a w K hL hd hf hx hΦ hK
        obtain ⟨hI, f0, f1, f2, f3, f4, f5, f6, f7, f8, f9, f10, f11⟩ := hΦ
        have d1 := f1 (hd 1 (by kernel_rfl))
        have e8 : a.tmps[8]? = some (x 8) := hx 1 _ 8 rfl rfl (hd 1 (by kernel_rfl))
        clear hf hx hd
        rw [d1] at e8
        have hbx := blk_up9 hI HX1.out
        have c0 := HK.blk_cell hbx 0
        simp only [List.getElem?_toArray, List.getElem?_cons_succ, List.getElem?_cons_zero] at c0
        go_simp
        refine hK _ _ ?_
        exact ⟨hI, fun h => f0 h, fun h => f1 h, fun _ => rfl, fun h => f3 h, fun h => f4 h, fun h => f5 h, fun h => f6 h, fun h => f7 h, fun h => f8 h, fun h => f9 h, fun h => f10 h, fun h => f11 h⟩
      · intro L x a w K hL hd hf hx hΦ hK
        obtain ⟨hI, f0, f1, f2, f3, f4, f5, f6, f7, f8, f9, f10, f11⟩ := hΦ
        have e1 : a.tmps[1]? = some (.int .i64 (k : Int)) := hf 1 (of_decide_eq_true (by kernel_rfl))
        clear hf hx hd
        go_simp
        refine hK _ _ ?_
        exact ⟨hI, fun h => f0 h, fun h => f1 h, fun h => f2 h, fun _ => rfl, fun h => f4 h, fun h => f5 h, fun h => f6 h, fun h => f7 h, fun h => f8 h, fun h => f9 h, fun h => f10 h, fun h => f11 h⟩
      · intro L x a w K hL hd hf hx hΦ hK
        obtain ⟨hI, f0, f1, f2, f3, f4, f5, f6, f7, f8, f9, f10, f11⟩ := hΦ
        have d2 := f2 (hd 2 (by kernel_rfl))
        have e9 : a.tmps[9]? = some (x 9) := hx 2 _ 9 rfl rfl (hd 2 (by kernel_rfl))
        have d3 := f3 (hd 3 (by kernel_rfl))
        have e10 : a.tmps[10]? = some (x 10) := hx 3 _ 10 rfl rfl (hd 3 (by kernel_rfl))
        clear hf hx hd
        rw [d2] at e9
        rw [d3] at e10
        go_simp
        refine hK _ _ ?_
        exact ⟨hI, fun h => f0 h, fun h => f1 h, fun h => f2 h, fun h => f3 h, fun _ => rfl, fun h => f5 h, fun h => f6 h, fun h => f7 h, fun h => f8 h, fun h => f9 h, fun h => f10 h, fun h => f11 h⟩
      · intro L x a w K hL hd hf hx hΦ hK
        obtain ⟨hI, f0, f1, f2, f3, f4, f5, f6, f7, f8, f9, f10, f11⟩ := hΦ
        have d4 := f4 (hd 4 (by kernel_rfl))
        have e11 : a.tmps[11]? = some (x 11) := hx 4 _ 11 rfl rfl (hd 4 (by kernel_rfl))
        clear hf hx hd
        rw [d4] at e11
        go_simp
        refine hK _ _ ?_
        exact ⟨hI, fun h => f0 h, fun h => f1 h, fun h => f2 h, fun h => f3 h, fun h => f4 h, fun _ => rfl, fun h => f6 h, fun h => f7 h, fun h => f8 h, fun h => f9 h, fun h => f10 h, fun h => f11 h⟩
      · intro L x a w K hL hd hf hx hΦ hK
        obtain ⟨hI, f0, f1, f2, f3, f4, f5, f6, f7, f8, f9, f10, f11⟩ := hΦ
        have d5 := f5 (hd 5 (by kernel_rfl))
        have e12 : a.tmps[12]? = some (x 12) := hx 5 _ 12 rfl rfl (hd 5 (by kernel_rfl))
        clear hf hx hd
        rw [d5] at e12
        have c0 := ((HE1.out.below hI (Nat.le_refl _)).c k xk HXK.out).1
        rw [HPAR.out] at c0
        go_simp
        refine hK _ _ ?_
        exact ⟨hI, fun h => f0 h, fun h => f1 h, fun h => f2 h, fun h => f3 h, fun h => f4 h, fun h => f5 h, fun _ => rfl, fun h => f7 h, fun h => f8 h, fun h => f9 h, fun h => f10 h, fun h => f11 h⟩
      · intro L x a w K hL hd hf hx hΦ hK
        obtain ⟨hI, f0, f1, f2, f3, f4, f5, f6, f7, f8, f9, f10, f11⟩ := hΦ
        have d0 := f0 (hd 0 (by kernel_rfl))
        have e7 : a.tmps[7]? = some (x 7) := hx 0 _ 7 rfl rfl (hd 0 (by kernel_rfl))
        have d6 := f6 (hd 6 (by kernel_rfl))
        have e13 : a.tmps[13]? = some (x 13) := hx 6 _ 13 rfl rfl (hd 6 (by kernel_rfl))
        clear hf hx hd
        rw [d0] at e7
        rw [d6] at e13
        go_simp
        go_at_call 55
        refine (HIH.out w hI).mono ?_
        rintro e w' ⟨v, rfl, hv, hB8⟩
        simp only
        refine hK _ _ ?_
        exact ⟨hI.trans (hB8.mono hI.size), fun h => f0 h, fun h => f1 h, fun h => f2 h, fun h => f3 h, fun h => f4 h, fun h => f5 h, fun h => f6 h, fun _ => ⟨v, rfl, .inr ⟨own_mono9 hv hI.size, fun h9 B hb e => by obtain ⟨B', hb', hc⟩ := f9 h9; cases hb'.symm.trans hb; rcases hc with hc | hc; exact absurd (f10 hc).1 (by rw [hL]; decide); exact absurd (own_ge hv _ e) (by have := HK.blk_lt hc; omega)⟩⟩, fun h => f8 h, fun h => (f9 h).imp fun B h => ⟨h.1, h.2.imp id fun h2 => blk_up9 hB8 h2⟩, fun h => absurd (f10 h).1 (by rw [hL]; decide), fun h => f11 h⟩
      · intro L x a w K hL hd hf hx hΦ hK
        obtain ⟨hI, f0, f1, f2, f3, f4, f5, f6, f7, f8, f9, f10, f11⟩ := hΦ
        have e1 : a.tmps[1]? = some (.int .i64 (k : Int)) := hf 1 (of_decide_eq_true (by kernel_rfl))
        clear hf hx hd
        go_simp
        refine hK _ _ ?_
        exact ⟨hI, fun h => f0 h, fun h => f1 h, fun h => f2 h, fun h => f3 h, fun h => f4 h, fun h => f5 h, fun h => f6 h, fun h => f7 h, fun _ => rfl, fun h => f9 h, fun h => f10 h, fun h => f11 h⟩
      · intro L x a w K hL hd hf hx hΦ hK
        obtain ⟨hI, f0, f1, f2, f3, f4, f5, f6, f7, f8, f9, f10, f11⟩ := hΦ
        have d8 := f8 (hd 8 (by kernel_rfl))
        have e15 : a.tmps[15]? = some (x 15) := hx 8 _ 15 rfl rfl (hd 8 (by kernel_rfl))
        clear hf hx hd
        rw [d8] at e15
        go_simp
        refine hK _ _ ?_
        exact ⟨hI.alloc hI.size _, fun h => f0 h, fun h => f1 h, fun h => f2 h, fun h => f3 h, fun h => f4 h, fun h => f5 h, fun h => f6 h, fun h => (f7 h).imp fun v h => ⟨h.1, h.2.imp id fun h2 => ⟨own_below9 h2.1 ((Below.refl _ w).alloc (Nat.le_refl _) _), fun _ B hb e => by cases hb; exact absurd (own_lt h2.1 _ e) (by omega)⟩⟩, fun h => f8 h, fun _ => ⟨_, rfl, .inr (HK.blk_new _ _)⟩, fun h => absurd (f10 h).2.1 (by rw [hL]; decide), fun h => f11 h⟩
      · intro L x a w K hL hd hf hx hΦ hK
        obtain ⟨hI, f0, f1, f2, f3, f4, f5, f6, f7, f8, f9, f10, f11⟩ := hΦ
        have d7 := f7 (hd 7 (by kernel_rfl))
        have e14 : a.tmps[14]? = some (x 14) := hx 7 _ 14 rfl rfl (hd 7 (by kernel_rfl))
        have d9 := f9 (hd 9 (by kernel_rfl))
        have e16 : a.tmps[16]? = some (x 16) := hx 9 _ 16 rfl rfl (hd 9 (by kernel_rfl))
        have l7 := hd 7 (by kernel_rfl)
        have l9 := hd 9 (by kernel_rfl)
        clear hf hx hd
        obtain ⟨v, hv, hvo⟩ := d7
        obtain ⟨B, hb, hbc⟩ := d9
        rw [hv] at e14
        rw [hb] at e16
        obtain ⟨hown, hne⟩ := hvo.resolve_left (by rw [hL]; decide)
        have hbc := hbc.resolve_left (by rw [hL]; decide)
        have hne := hne l9 B hb
        refine of_wanted9 rfl (HK.step_app1 rfl elem25 _ _ rfl v m (ints ys) (ev9 e14) (own_mono0 hown) B 1 #[.int .i64 (k : Int)] (ev9 e16) hbc rfl (by simp [Value.oneCell']) (by simp only [maxLen]; omega) (by omega) ?_)
        intro g c w' hown2 hgrow hat hlt
        have hb2 : Below w1.heap.size w1 w' := hI.grown hgrow hI.size (fun k hk => own_ge hown k hk)
        have hg1 : w1.heap.size ≤ g := by rcases hat with h | h; exact own_ge hown _ h; have := hI.size; omega
        have hown3 : w'.ownsRow w1.heap.size 3 1 (.slice (some ⟨g, 0, none⟩) (m + 1) c) (m + 1) (ints (ys ++ [k])) := by rw [ints_append]; exact own_base9 hown2 hg1
        refine hK _ _ ?_
        exact ⟨hb2, fun h => f0 h, fun h => f1 h, fun h => f2 h, fun h => f3 h, fun h => f4 h, fun h => f5 h, fun h => f6 h, fun h => ⟨v, hv, .inl rfl⟩, fun h => f8 h, fun h => ⟨B, hb, .inl rfl⟩, fun _ => ⟨l7, l9, hown3⟩, fun h => absurd (f11 h).1 (by rw [hL]; decide)⟩
      · intro L x a w K hL hd hf hx hΦ hK
        obtain ⟨hI, f0, f1, f2, f3, f4, f5, f6, f7, f8, f9, f10, f11⟩ := hΦ
        have d10 := f10 (hd 10 (by kernel_rfl))
        have e17 : a.tmps[17]? = some (x 17) := hx 10 _ 17 rfl rfl (hd 10 (by kernel_rfl))
        have l10 := hd 10 (by kernel_rfl)
        clear hf hx hd
        go_simp
        refine hK _ _ ?_
        exact ⟨hI, fun h => f0 h, fun h => f1 h, fun h => f2 h, fun h => f3 h, fun h => f4 h, fun h => f5 h, fun h => f6 h, fun h => f7 h, fun h => f8 h, fun h => f9 h, fun h => f10 h, fun _ => ⟨l10, rfl⟩⟩
      · rintro x W ⟨hI, f0, f1, f2, f3, f4, f5, f6, f7, f8, f9, f10, f11⟩
        obtain ⟨_, _, h10⟩ := f10 (by kernel_rfl)
        have h11 := (f11 (by kernel_rfl)).2
        simp only [Exit.then]
        go_step
        go_meet
        case rel => exact ⟨by rw [h11]; exact h10, hI⟩
    case rest =>
      obtain ⟨ho, hB⟩ := hcut
      have HO := Lib.hid ho
      have HB := Lib.hid hB
      clear ho hB
      go_wp2_with (fail)
      go_ret
      have hz := HB1.out.size
      refine ⟨_, rfl, ?_, HB1.out.trans (HB.out.mono hz)⟩
      have h9 := own_mono9 HO.out hz
      rw [List.length_append, List.length_singleton, ← HM.out]
      exact h9
/-- Way. -/
theorem rway_any {nodes : List Go.HK.HN} {z : Nat} (h : WF nodes z) (ge ce gn gc : Nat) (ga : Option Addr) (nw : Int) : ∀ (f : Nat) (i : Int), i < f → i < nodes.length → -1 ≤ i → WayOk nodes ge ce gn gc ga nw i
  | 0, i, hf, hi, _ => rway_of h ge ce gn gc ga nw i hi fun j hj hj1 => by omega
  | f + 1, i, hf, hi, _ => rway_of h ge ce gn gc ga nw i hi fun j hj hj1 => rway_any h ge ce gn gc ga nw f j (by omega) (by omega) hj1
end Go.Proofs.Ythneinepdbkgeaa
