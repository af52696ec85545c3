/- Facts that a drawn region's operations keep. -/
import Derived.Test.YtfebcpmbkljaoaaLimB
import Derived.Test.YtfebcpmbkljaoaaEach
namespace Go.Proofs.Ytfebcpmbkljaoaa
open Go.RowKit Go.HR
set_option linter.unusedVariables false
set_option linter.unusedSimpArgs false
set_option linter.unusedSectionVars false
theorem blk_up {W W' : World} {g : Nat} {o : Obj} (hS : Below W.heap.size W W') (h : W.heap[g]? = some o) : W'.heap[g]? = some o := (hS.block _ (HK.blk_lt h)).trans h
theorem box_up {W W' : World} {v : Value} {n : Nat} (hS : Below W.heap.size W W')
    (h : ∃ B z0 z1 z2 z3 z4 z5 z6 z7, v = .pointer (some ⟨B, 0, none⟩) ∧ n ≤ B ∧ W.heap[B]? = some (.cells #[z0, z1, z2, z3, z4, z5, z6, z7] 30 (0, 0))) :
    ∃ B z0 z1 z2 z3 z4 z5 z6 z7, v = .pointer (some ⟨B, 0, none⟩) ∧ n ≤ B ∧ W'.heap[B]? = some (.cells #[z0, z1, z2, z3, z4, z5, z6, z7] 30 (0, 0)) := by
  obtain ⟨B, z0, z1, z2, z3, z4, z5, z6, z7, h1, h2, h3⟩ := h
  exact ⟨B, z0, z1, z2, z3, z4, z5, z6, z7, h1, h2, blk_up hS h3⟩
/-- A row of numbers is no box. -/
theorem keep_set8 {W : World} {B g : Nat} {o : Obj} {cs : Array Value} (hb : W.heap[B]? = some (.cells cs 30 (0, 0))) (hg : W.heap[g]? = some o) (hne : o ≠ .cells cs 30 (0, 0)) (v0 v1 v2 v3 v4 v5 v6 v7 : Value) {W' : World}
    (hW : W' = (((((((W.setCell ⟨B, 0, none⟩ v0).setCell ⟨B, 1, none⟩ v1).setCell ⟨B, 2, none⟩ v2).setCell ⟨B, 3, none⟩ v3).setCell ⟨B, 4, none⟩ v4).setCell ⟨B, 5, none⟩ v5).setCell ⟨B, 6, none⟩ v6).setCell ⟨B, 7, none⟩ v7) : W'.heap[g]? = some o := by
  subst hW
  have h : g ≠ B := fun e => by subst e; rw [hb] at hg; exact hne (Option.some.inj hg).symm
  exact ((set8_frm W B v0 v1 v2 v3 v4 v5 v6 v7).block g (HK.blk_lt hg) h).trans hg
theorem of_wanted {P : Program} {o : Oper} {a : Act} {w : World} {K : Act → World → Prop} {Q : Exit → Act → World → Prop} (hg : o.guard = none) (h : if Region.wanted o (yielded #[] a.tmps) = true then Oper.wp P o a w K Q else True) : Oper.wp P o a w K Q := by
  rw [if_pos (by simp [Region.wanted, hg])] at h
  exact h
theorem ev {a : Act} {t : Nat} {v : Value} (h : a.tmps[t]? = some v) : a.eval (.tmp t) = v := by
  simp [Act.eval, h]
theorem grown_blk {W W' : World} {e g : Nat} {o oe : Obj} (he : W.heap[e]? = some oe) (hg : W.grownBy W' (some e)) (h : W.heap[g]? = some o) (hne : o ≠ oe) : W'.heap[g]? = some o :=
  (hg.block g (HK.blk_lt h) fun q => hne (by cases q; rw [he] at h; exact (Option.some.inj h).symm)).trans h
theorem box_grown {W W' : World} {e : Nat} {cs : Array Value} {v : Value} {n : Nat} (he : W.heap[e]? = some (.cells cs 3 (0, 0))) (hg : W.grownBy W' (some e))
    (h : ∃ B z0 z1 z2 z3 z4 z5 z6 z7, v = .pointer (some ⟨B, 0, none⟩) ∧ n ≤ B ∧ W.heap[B]? = some (.cells #[z0, z1, z2, z3, z4, z5, z6, z7] 30 (0, 0))) :
    ∃ B z0 z1 z2 z3 z4 z5 z6 z7, v = .pointer (some ⟨B, 0, none⟩) ∧ n ≤ B ∧ W'.heap[B]? = some (.cells #[z0, z1, z2, z3, z4, z5, z6, z7] 30 (0, 0)) := by
  obtain ⟨B, z0, z1, z2, z3, z4, z5, z6, z7, h1, h2, h3⟩ := h
  exact ⟨B, z0, z1, z2, z3, z4, z5, z6, z7, h1, h2, grown_blk he hg h3 (by simp)⟩
theorem own_cells {W : World} {b sz n g c k : Nat} {xs : List Value} (h : W.ownsRow b k sz (.slice (some ⟨g, 0, none⟩) n c) n xs) : ∃ cur, W.heap[g]? = some (.cells cur k (0, 0)) := by
  rcases h.2 with ⟨h0, _⟩ | ⟨g', cap, cur, hv, _, hh, _⟩
  · cases h0
  · simp only [Value.slice.injEq, Option.some.injEq, Addr.mk.injEq] at hv
    rw [hv.1.1]
    exact ⟨cur, hh⟩
theorem isI_grown {W W' : World} {e : Nat} {s : SL} {xs : List Int} (he : W.heap[e]? = some (.cells #[] 3 (0, 0))) (hg : W.grownBy W' (some e)) (h : IsI W s xs) : IsI W' s xs := by
  obtain ⟨h1, h2, h3⟩ := h
  refine ⟨h1, h2, h3.imp id ?_⟩
  rintro ⟨g, o, ha, hc⟩
  refine ⟨g, o, ha, fun j x hx => ?_⟩
  have := hc j x hx
  have hne : g ≠ e := by
    rintro rfl
    simp [World.cell?, he] at this
  have hlt := World.block_lt_of_cell? W _ this
  exact (World.cell?_of_block (hg.block g hlt (fun q => hne (Option.some.inj q)))).trans this
end Go.Proofs.Ytfebcpmbkljaoaa
