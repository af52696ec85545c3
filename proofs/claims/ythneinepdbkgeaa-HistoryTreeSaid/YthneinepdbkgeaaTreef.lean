/- The worlds of HistoryTree's loops. -/
import Derived.Test.YthneinepdbkgeaaSamo
import Derived.Test.YthneinepdbkgeaaBety
namespace Go.Proofs.Ythneinepdbkgeaa
open Go.RowKit Go.HK
set_option linter.unusedVariables false
set_option linter.unusedSimpArgs false
set_option linter.unusedSectionVars false
/-- The tree, and a map of rows that was made behind w2. -/
structure TrI (w2 : World) (t : Nat) (F : List Nat) (s : HS) (xf : ByteArray → List Nat) (wr : World) : Prop where
  h : Hist wr t F s.1 s.2
  f : ∀ b ∈ F, b < w2.heap.size
  b : Below w2.heap.size w2 wr
  g : ∃ es clock gs, GrpC wr w2.heap.size w2.heap.size es clock gs xf
/-- .. and an entry, a row of children, a way. -/
structure TrJ (w2 : World) (t : Nat) (F : List Nat) (s : HS) (xf : ByteArray → List Nat) (bx : Nat) (x : Array Value) (vc : Value) (cs : List Nat) (gw nw : Nat) (ws : List Nat) (wr : World) : Prop where
  i : TrI w2 t F s xf wr
  x : wr.heap[bx]? = some (.cells x 45 (0, 0))
  c : wr.ownsRow w2.heap.size 3 1 vc cs.length (ints cs)
  y : RowAt wr gw nw ws
section
variable {w2 wr w' : World} {t : Nat} {F : List Nat} {s : HS} {xf : ByteArray → List Nat} {bx : Nat} {x : Array Value} {vc : Value} {cs : List Nat} {gw nw : Nat} {ws : List Nat}
theorem TrI.stay (h : TrI w2 t F s xf wr) (hB : Below wr.heap.size wr w') : TrI w2 t F s xf w' := by
  obtain ⟨es, clock, gs, hG⟩ := h.g
  exact ⟨h.h.stay (Frm.of_below hB (fun _ => False)) (fun _ _ => id), h.f, h.b.trans (hB.mono h.b.size), es, clock, gs, hG.stay hB⟩
theorem TrJ.stay (h : TrJ w2 t F s xf bx x vc cs gw nw ws wr) (hB : Below wr.heap.size wr w') : TrJ w2 t F s xf bx x vc cs gw nw ws w' :=
  ⟨h.i.stay hB, (hB.block _ (blk_lt h.x)).trans h.x, (Frm.of_below hB (fun _ => False)).owns h.c (fun _ _ => id), h.y.below' hB⟩
theorem TrI.start {w2 : World} {t : Nat} {F : List Nat} {s : HS} (h : Hist w2 t F s.1 s.2) : TrI w2 t F s (idxP s.1 0) (w2.alloc (.map #[] 0)) :=
  ⟨h.stay ((Frm.refl (fun _ => False) w2).alloc _) (fun _ _ => id), h.lt, (Below.refl _ w2).alloc (Nat.le_refl _) _, #[], 0, [], by rw [idxP_zero]; exact GrpC.start w2 _⟩
theorem tr_file {w0 wc w1 : World} {es es' : Array MapEntry} {clock clock' : Nat} {gs : List (ByteArray × Value)} {st : ByteArray} {n cap gg : Nat} {newc : Array Value}
    (hG : GrpC w0 w2.heap.size w2.heap.size es clock gs xf) (hB0 : Below w0.heap.size w0 wc) (hJ : TrJ w2 t F s xf bx x vc cs gw nw ws wc) (hbx : w0.heap.size ≤ bx) (hvc : ∀ g, vc.ownBlock = some g → w0.heap.size ≤ g) (hgw : w0.heap.size ≤ gw)
    (hgrow : (wc.alloc (.cells newc 3)).drew.grownBy w1 ((gget gs st).getD (.slice none 0 0)).ownBlock)
    (hown1 : w1.ownsRow 0 3 1 (.slice (some ⟨gg, 0, none⟩) ((xf st).length + 1) cap) ((xf st).length + 1) (ints (xf st) ++ [.int .i64 n]))
    (hat : ((gget gs st).getD (.slice none 0 0)).ownBlock = some gg ∨ gg = (wc.alloc (.cells newc 3)).drew.heap.size)
    (hMI' : MapIs es'.toList (gput gs st (.slice (some ⟨gg, 0, none⟩) ((xf st).length + 1) cap))) :
    TrJ w2 t F s (fun q => if q = st then xf st ++ [n] else xf q) bx x vc cs gw nw ws (w1.putObj w2.heap.size (.map es' clock')) := by
  have hGc := hG.stay hB0
  have hm0 := blk_lt hG.hM
  have hold0 : ∀ g, ((gget gs st).getD (.slice none 0 0)).ownBlock = some g → g < w0.heap.size := own_lt (hG.grp st)
  have holdB : ∀ g, ((gget gs st).getD (.slice none 0 0)).ownBlock = some g → w2.heap.size ≤ g := own_ge (hG.grp st)
  have hnm := hG.nm st
  obtain ⟨u, hu⟩ : ∃ u, (gget gs st).getD (.slice none 0 0) = u := ⟨_, rfl⟩
  have hF1 : Frm (fun b => b = w2.heap.size ∨ ((gget gs st).getD (.slice none 0 0)).ownBlock = some b) wc (w1.putObj w2.heap.size (.map es' clock')) :=
    (((Frm.refl _ wc).alloc _).drew.grown hgrow (fun k e => .inl (.inr e))).putObj (.inl (.inl rfl)) _
  have hM1 : w1.heap[w2.heap.size]? = some (.map es clock) := blk_grown (blk_drew (blk_alloc hGc.hM _)) hgrow (Ne.symm hnm)
  have hggm : gg ≠ w2.heap.size := fun e => owns_ne_type hown1 hM1 (fun c e => by cases e) (by rw [← e]; rfl)
  have hggB : w2.heap.size ≤ gg := by
    rcases hat with h | h
    · exact holdB gg h
    · have := hJ.i.b.size; rw [h]; simp; omega
  have hGn : GrpC (w1.putObj w2.heap.size (.map es' clock')) w2.heap.size w2.heap.size es' clock' (gput gs st (.slice (some ⟨gg, 0, none⟩) ((xf st).length + 1) cap)) (fun q => if q = st then xf st ++ [n] else xf q) := by
    refine hGc.file hF1 ?_ hMI' ?_ ?_
    · have := blk_lt hM1
      simp [World.putObj, this]
    · refine (Frm.putObj (F := fun b => b = w2.heap.size) (Frm.refl _ w1) (.inl rfl) _).owns (owns_base hown1 hggB) (fun g hg e => ?_)
      simp [Value.ownBlock] at hg
      omega
    · rcases hat with h | h
      · exact .inl h.symm
      · exact .inr ⟨gg, rfl, by rw [h]; simp⟩
  have hsz := hB0.size
  refine ⟨⟨hJ.i.h.stay hF1 (fun b hb h => ?_), hJ.i.f, hJ.i.b.trans (hF1.below hJ.i.b.size (fun k hk => ?_)), _, _, _, hGn⟩, hF1.heap hJ.x (fun h => ?_), hF1.owns hJ.c (fun g hg h => ?_), hJ.y.len, fun j y hy => ?_, Nat.lt_of_lt_of_le hJ.y.lt hF1.size⟩
  · have := hJ.i.f b hb
    rcases h with h | h
    · omega
    · have := holdB b h; omega
  · rcases hk with h | h
    · omega
    · exact holdB k h
  · rcases h with h | h
    · omega
    · have := hold0 bx h; omega
  · have := hvc g hg
    rcases h with h | h
    · omega
    · have := hold0 g h; omega
  · have hb : (w1.putObj w2.heap.size (.map es' clock')).heap[gw]? = wc.heap[gw]? := hF1.block gw hJ.y.lt (fun h => by
      rcases h with h | h
      · omega
      · have := hold0 gw h; omega)
    rw [← hJ.y.cell j y hy]
    simp only [World.cell?, hb]
end
section
variable {P : Program} {w : World} {ops : Array Oper} {o : Oper} {a : Act} {Q : Exit → Act → World → Prop}
/-- wpList_app1 at an operation whose guard lets it through. -/
theorem wpList_app1g {rest : List Oper} (hw : Region.wanted o (yielded ops a.tmps) = true) {t e size bytes : Nat} (E : ElemOk P t e size bytes) (s x : Operand)
    (ho : o.op = .call { callee := .builtin .append, args := #[s, x], argTypes := #[t, t] }) (v : Value) (n : Nat) (xs : List Value) (hs : a.eval s = v) (hown : w.ownsRow 0 e size v n xs)
    (B c : Nat) (news : Array Value) (hx : a.eval x = .slice (some ⟨B, 0, none⟩) 1 c) (hB : w.heap[B]? = some (.cells news e (0, 0))) (hl : news.size = size) (h1 : ∀ u ∈ news.toList, u.oneCell' = true)
    (h63 : n + 1 ≤ maxLen) (hbytes : (n + 1) * bytes ≤ 140737488355328)
    (h : ∀ g cap w', w'.ownsRow 0 e size (.slice (some ⟨g, 0, none⟩) (n + 1) cap) (n + 1) (xs ++ news.toList) → w.grownBy w' v.ownBlock → (v.ownBlock = some g ∨ g = w.heap.size) → g < w'.heap.size → wpList P ops Q rest (a.put o.dst (.slice (some ⟨g, 0, none⟩) (n + 1) cap)) w') : wpList P ops Q (o :: rest) a w :=
  wpList_step fun K hK => by
    rw [if_pos hw]
    exact wp_app1 E s x ho v n xs hs hown B c news hx hB hl h1 h63 hbytes fun g cap w' h2 h3 h4 h5 => hK _ _ (h g cap w' h2 h3 h4 h5)
end
end Go.Proofs.Ythneinepdbkgeaa
