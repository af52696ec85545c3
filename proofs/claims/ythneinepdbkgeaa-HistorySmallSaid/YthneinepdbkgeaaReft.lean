/- Tools: appending any slice to an own row; cells behind blocks that are laid. -/
import Derived.Test.YthneinepdbkgeaaRefc
namespace Go.Proofs.Ythneinepdbkgeaa
open Go.RowKit Go.HK
set_option linter.unusedVariables false
set_option linter.unusedSimpArgs false
set_option linter.unusedSectionVars false
theorem addr_add0 (g j : Nat) : (⟨g, 0, none⟩ : Addr).add j = ⟨g, j, none⟩ := by
  simp [Addr.add]
  exact fun h => h.symm
theorem row_addr {w : World} {g n : Nat} {xs : List Nat} (h : RowAt w g n xs) : ∀ j u, (ints xs)[j]? = some u → w.cell? ((⟨g, 0, none⟩ : Addr).add j) = some u := by
  intro j u hj
  rw [addr_add0]
  rw [HK.ints, List.getElem?_map] at hj
  obtain ⟨x, hx, rfl⟩ := Option.map_eq_some_iff.1 hj
  exact h.cell j x hx
theorem ents_addr {w : World} {g : Nat} {es : List Ent} (h : EntsAt w g es) : ∀ j u, (entsFlat es)[j]? = some u → w.cell? ((⟨g, 0, none⟩ : Addr).add j) = some u := by
  intro j u hj
  rw [addr_add0]
  have hlt := (List.getElem?_eq_some_iff.1 hj).1
  rw [entsFlat_length] at hlt
  obtain ⟨x, hx⟩ : ∃ x, es[j / 4]? = some x := ⟨_, List.getElem?_eq_getElem (by omega)⟩
  have hc := h.c _ x hx
  have he := entsFlat_get es (j / 4) (j % 4) x hx (Nat.mod_lt _ (by omega))
  have hj4 : j / 4 * 4 + j % 4 = j := by omega
  rw [hj4, hj] at he
  have h4 : j % 4 < 4 := Nat.mod_lt _ (by omega)
  obtain ⟨r, hr⟩ : ∃ r, r = j % 4 := ⟨_, rfl⟩
  rw [← hr] at he h4 hj4
  rw [← hj4, he]
  match r, h4 with
  | 0, _ => exact hc.1
  | 1, _ => exact hc.2.1
  | 2, _ => exact hc.2.2.1
  | 3, _ => exact hc.2.2.2
theorem ents_one (es : List Ent) : ∀ u ∈ entsFlat es, u.oneCell' = true := by
  intro u hu
  unfold entsFlat at hu
  obtain ⟨x, _, hx⟩ := List.mem_flatMap.1 hu
  simp only [entCells, List.mem_cons, List.not_mem_nil, or_false] at hx
  rcases hx with rfl | rfl | rfl | rfl <;> simp [Value.oneCell']
theorem empty_row (w : World) (e size : Nat) : (w.alloc (.cells #[] e)).ownsRow w.heap.size e size (.slice (some ⟨w.heap.size, 0, none⟩) 0 0) 0 [] :=
  ⟨by simp, .inr ⟨w.heap.size, 0, #[], rfl, Nat.le_refl _, HK.blk_new _ _, Nat.le_refl _, by simp [maxLen], by simp, by simp⟩⟩
section
variable {P : Program} {w : World} {ops : Array Oper} {o : Oper} {a : Act} {Q : Exit → Act → World → Prop}
theorem wp_app_any {K : Act → World → Prop} {t e size bytes : Nat} (E : ElemOk P t e size bytes) (s x : Operand)
    (ho : o.op = .call { callee := .builtin .append, args := #[s, x], argTypes := #[t, t] }) (v : Value) (base n : Nat) (xs : List Value) (hs : a.eval s = v) (hown : w.ownsRow base e size v n xs)
    (ad : Addr) (m c : Nat) (news : List Value) (hx : a.eval x = .slice (some ad) m c) (hl : news.length = m * size) (hnews : ∀ j u, news[j]? = some u → w.cell? (ad.add j) = some u) (h1 : ∀ u ∈ news, u.oneCell' = true)
    (h63 : n + m ≤ maxLen) (hbytes : (n + m) * bytes ≤ 140737488355328) (hbase : base ≤ w.heap.size)
    (h : ∀ v' w', w'.ownsRow base e size v' (n + m) (xs ++ news) → w.grownBy w' v.ownBlock → (v' = .slice none 0 0 ↔ v = .slice none 0 0 ∧ m = 0) → (v'.ownBlock = v.ownBlock ∨ v'.ownBlock = some w.heap.size) → K (a.put o.dst v') w') : o.wp P a w K Q := by
  obtain ⟨ht, i, z, hi, h0, h2, h3, h4, h5⟩ := E
  obtain ⟨v', w', hr, q2, q3, q4, q5⟩ := run_append_own_at (P := P) w base t o.type e i z size bytes ht hi h0 h2 h3 h4 h5 v n xs hown ad m c news hl hnews h1 h63 hbytes hbase
  unfold Oper.wp execOp
  simp only [ho, resolve, invoke, builtin, Sem.run_bind, Sem.run_pure, Result.andThen_ok, List.map_toArray, List.map_cons, List.map_nil, hs, hx, hr]
  exact h v' w' q2 q3 q4 q5
theorem wpList_app_any {rest : List Oper} (hgd : o.guard = none) {t e size bytes : Nat} (E : ElemOk P t e size bytes) (s x : Operand)
    (ho : o.op = .call { callee := .builtin .append, args := #[s, x], argTypes := #[t, t] }) (v : Value) (base n : Nat) (xs : List Value) (hs : a.eval s = v) (hown : w.ownsRow base e size v n xs)
    (ad : Addr) (m c : Nat) (news : List Value) (hx : a.eval x = .slice (some ad) m c) (hl : news.length = m * size) (hnews : ∀ j u, news[j]? = some u → w.cell? (ad.add j) = some u) (h1 : ∀ u ∈ news, u.oneCell' = true)
    (h63 : n + m ≤ maxLen) (hbytes : (n + m) * bytes ≤ 140737488355328) (hbase : base ≤ w.heap.size)
    (h : ∀ v' w', w'.ownsRow base e size v' (n + m) (xs ++ news) → w.grownBy w' v.ownBlock → (v' = .slice none 0 0 ↔ v = .slice none 0 0 ∧ m = 0) → (v'.ownBlock = v.ownBlock ∨ v'.ownBlock = some w.heap.size) → wpList P ops Q rest (a.put o.dst v') w') : wpList P ops Q (o :: rest) a w :=
  wpList_plain hgd fun _ hK => wp_app_any E s x ho v base n xs hs hown ad m c news hx hl hnews h1 h63 hbytes hbase fun v' w' h2 h3 h4 h5 => hK _ _ (h v' w' h2 h3 h4 h5)
theorem step_app_any {K : Act → World → Prop} {R : Prop} (hgd : o.guard = none) {t e size bytes : Nat} (E : ElemOk P t e size bytes) (s x : Operand)
    (ho : o.op = .call { callee := .builtin .append, args := #[s, x], argTypes := #[t, t] }) (v : Value) (base n : Nat) (xs : List Value) (hs : a.eval s = v) (hown : w.ownsRow base e size v n xs)
    (ad : Addr) (m c : Nat) (news : List Value) (hx : a.eval x = .slice (some ad) m c) (hl : news.length = m * size) (hnews : ∀ j u, news[j]? = some u → w.cell? (ad.add j) = some u) (h1 : ∀ u ∈ news, u.oneCell' = true)
    (h63 : n + m ≤ maxLen) (hbytes : (n + m) * bytes ≤ 140737488355328) (hbase : base ≤ w.heap.size)
    (h : ∀ v' w', w'.ownsRow base e size v' (n + m) (xs ++ news) → w.grownBy w' v.ownBlock → (v' = .slice none 0 0 ↔ v = .slice none 0 0 ∧ m = 0) → (v'.ownBlock = v.ownBlock ∨ v'.ownBlock = some w.heap.size) → K (a.put o.dst v') w') :
    if Region.wanted o (yielded ops a.tmps) = true then Oper.wp P o a w K Q else R := by
  rw [if_pos (by simp [Region.wanted, hgd])]
  exact wp_app_any E s x ho v base n xs hs hown ad m c news hx hl hnews h1 h63 hbytes hbase h
end
theorem bl_al9 {B : Nat} {w W : World} (h : Below B w W) (hB : B ≤ W.heap.size) (o : Obj) : Below B w (W.alloc o) := h.alloc hB o
theorem bl_dr9 {B : Nat} {w W : World} (h : Below B w W) (n : Nat) : Below B w (W.drewN n) := ⟨h.os, h.tape, h.output, h.size, h.block⟩
/-- An own row that holds something, as a form and a place. -/
theorem own_form9 {w : World} {b e size n : Nat} {v : Value} {xs : List Value} (h : w.ownsRow b e size v n xs) (hn : 0 < n) : ∃ g c, v = .slice (some ⟨g, 0, none⟩) n c ∧ b ≤ g ∧ g < w.heap.size := by
  obtain ⟨g, c, rfl, h1, h2⟩ := h.form hn
  exact ⟨g, c, rfl, h1, h2⟩
end Go.Proofs.Ythneinepdbkgeaa
