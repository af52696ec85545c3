/- acted at the nil slice; the tree with a way. -/
import Derived.Test.YthneinepdbkgeaaActed
namespace Go.Proofs.Ythneinepdbkgeaa
open Go.RowKit Go.HK
set_option linter.unusedVariables false
set_option linter.unusedSimpArgs false
set_option linter.unusedSectionVars false
set_option maxRecDepth 100000 in
set_option maxHeartbeats 4000000 in
theorem acted_nil (w : World) : Calls Try.prog 13 #[.slice none 0 0] w (ActedR w) := by
  go_enter Try.func13, Try.ntmps13
  go_wp2_with (go_at_call 35; refine (new_yes _ _ (by decide)).mono ?_; rintro e w1 ⟨p, rfl, t, F, rfl, hH, hB, hF, htF⟩)
  go_loopw [8, 9, 10] (fun p q i wr => p = .slice (some ⟨w1.heap.size, 0, none⟩) 1 1 ∧ q = .slice (some ⟨w1.heap.size + 1, 0, none⟩) 1 1 ∧ i = .int .i64 0 ∧ wr = (w1.alloc (.cells #[.int .i64 0] 3)).alloc (.cells #[.string ⟨#[97]⟩] 9)) (fun _ _ _ _ => 0)
  case atStart => exact ⟨rfl, rfl, rfl, rfl⟩
  case round =>
    obtain ⟨rfl, rfl, rfl, rfl⟩ := hrel
    go_wp2_with (fail)
    refine bodyPost_ret (v := .tuple #[.pointer (some ⟨t, 0, none⟩), .slice (some ⟨w1.heap.size, 0, none⟩) 1 1, .slice (some ⟨w1.heap.size + 1, 0, none⟩) 1 1, .bool true]) (by simp [results, Try.results13, go_sem]) rfl ?_
    exact ⟨t, F, (rootN ⟨#[97]⟩, 0), 1, [0], [⟨#[97]⟩], _, _, rfl, acW_start hH hB hF, Ac.root.le (by omega), Led.root _, by omega, by omega⟩

/-- .. and a way that was written down. -/
structure AcV (w : World) (t : Nat) (F : List Nat) (s : HS) (m : Nat) (NS : List Nat) (SS : List ByteArray) (p q v : Value) (xs : List Nat) (wr : World) : Prop where
  a : AcW w t F s m NS SS p q wr
  vn : wr.ownsRow w.heap.size 3 1 v xs.length (ints xs)
  vf : ∀ g, v.ownBlock = some g → g ∉ F ∧ p.ownBlock ≠ some g ∧ q.ownBlock ≠ some g
section
variable {w wr w' : World} {t m : Nat} {F : List Nat} {s s' : HS} {NS : List Nat} {SS : List ByteArray} {p q v : Value} {xs : List Nat}
theorem AcV.of (h : AcW w t F s m NS SS p q wr) : AcV w t F s m NS SS p q (.slice none 0 0) [] wr := ⟨h, World.ownsRow_nil _ _ _ _, fun g hg => by cases hg⟩
theorem AcV.step (h : AcV w t F s m NS SS p q v xs wr) (hp : HPost wr t F s'.1 s'.2 w') : ∃ F', AcV w t F' s' m NS SS p q v xs w' := by
  have hp0 := hp
  obtain ⟨F1, hH, hF, hsub⟩ := hp
  have hw : ∃ F', AcW w t F' s' m NS SS p q w' ∧ ∀ b ∈ F', b ∈ F ∨ wr.heap.size ≤ b := by
    refine ⟨F1, ⟨hH, h.a.b.trans (hF.below h.a.b.size (fun k hk => h.a.f k hk)), ?_, h.a.nl, h.a.sl, hF.owns h.a.pn (fun g hg hf => h.a.pf g hg hf), hF.owns h.a.qn (fun g hg hf => h.a.qf g hg hf), ?_, ?_, h.a.pq⟩, hsub⟩
    · intro b hb
      rcases hsub b hb with h1 | h1
      · exact h.a.f b h1
      · exact Nat.le_trans h.a.b.size h1
    · intro g hg hf
      rcases hsub g hf with h1 | h1
      · exact h.a.pf g hg h1
      · have := own_lt h.a.pn g hg; omega
    · intro g hg hf
      rcases hsub g hf with h1 | h1
      · exact h.a.qf g hg h1
      · have := own_lt h.a.qn g hg; omega
  obtain ⟨F', ha, hs⟩ := hw
  refine ⟨F', ha, hF.owns h.vn (fun g hg hf => (h.vf g hg).1 hf), fun g hg => ⟨fun hf => ?_, (h.vf g hg).2⟩⟩
  rcases hs g hf with h1 | h1
  · exact (h.vf g hg).1 h1
  · have := own_lt h.vn g hg; omega
theorem AcV.stay (h : AcV w t F s m NS SS p q v xs wr) (hB : Below wr.heap.size wr w') : AcV w t F s m NS SS p q v xs w' :=
  ⟨h.a.stay hB, (Frm.of_below hB (fun _ => False)).owns h.vn (fun _ _ => id), h.vf⟩
/-- An entry more on the way. -/
theorem AcV.app (h : AcV w t F s m NS SS p q v xs wr) {o1 : Obj} {x g1 c1 : Nat}
    (hown : w'.ownsRow 0 3 1 (.slice (some ⟨g1, 0, none⟩) (xs.length + 1) c1) (xs.length + 1) (ints xs ++ [.int .i64 x])) (hgrow : (wr.alloc o1).grownBy w' v.ownBlock) (hat : v.ownBlock = some g1 ∨ g1 = (wr.alloc o1).heap.size) :
    AcV w t F s m NS SS p q (.slice (some ⟨g1, 0, none⟩) (xs.length + 1) c1) (xs ++ [x]) w' := by
  have ha := h.stay ((Below.refl _ wr).alloc (Nat.le_refl _) o1)
  have hF : Frm (fun i => v.ownBlock = some i) (wr.alloc o1) w' := (Frm.refl _ _).grown hgrow (fun k hk => .inl hk)
  have hg1 : w.heap.size ≤ g1 := by
    rcases hat with e | e
    · exact own_ge ha.vn _ e
    · have := ha.a.b.size; omega
  refine ⟨⟨ha.a.h.stay hF (fun b hb e => (ha.vf b e).1 hb), ha.a.b.trans (hF.below ha.a.b.size (fun k hk => own_ge ha.vn k hk)), ha.a.f, ha.a.nl, ha.a.sl, hF.owns ha.a.pn (fun g hg e => (ha.vf g e).2.1 hg), hF.owns ha.a.qn (fun g hg e => (ha.vf g e).2.2 hg), ha.a.pf, ha.a.qf, ha.a.pq⟩, ?_, ?_⟩
  · have e1 := owns_base hown hg1
    simpa [ints] using e1
  · intro g hg
    cases hg
    rcases hat with e | e
    · exact ha.vf _ e
    · refine ⟨fun hf => ?_, fun e2 => ?_, fun e2 => ?_⟩
      · have := ha.a.h.lt _ hf; simp only at this; omega
      · have := own_lt ha.a.pn _ e2; simp only at this; omega
      · have := own_lt ha.a.qn _ e2; simp only at this; omega
end
end Go.Proofs.Ythneinepdbkgeaa
