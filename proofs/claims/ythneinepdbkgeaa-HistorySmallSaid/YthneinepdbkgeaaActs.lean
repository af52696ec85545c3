/- What acts make of a tree: the world of acted's loop, and the plain facts. -/
import Derived.Test.YthneinepdbkgeaaAwake
namespace Go.Proofs.Ythneinepdbkgeaa
open Go.RowKit Go.HK
set_option linter.unusedVariables false
set_option linter.unusedSimpArgs false
set_option linter.unusedSectionVars false
def strs (xs : List ByteArray) : List Value := xs.map .string

/-- The plain facts of a tree behind k acts. -/
structure Ac (k : Nat) (nodes : List Go.HK.HN) (NS : List Nat) (SS : List ByteArray) : Prop where
  len : nodes.length ≤ k + 1
  tick : ∀ x, x < nodes.length → tickF nodes x ≤ k
  sz : ∀ x, x < nodes.length → (stateF nodes x).size = 1
  rs : stateF nodes 0 = ⟨#[97]⟩
  rt : tickF nodes 0 = 0
  rn : noteF nodes 0 = ⟨#[]⟩
  sn : ∀ x, x < nodes.length → (noteF nodes x).size ≤ 100
  up : ∀ x, 0 < x → x < nodes.length → stateF nodes (parF nodes x).toNat ≠ stateF nodes x ∧ tickF nodes (parF nodes x).toNat ≤ tickF nodes x
  his : ∀ (j x : Nat), NS[j]? = some x → x < nodes.length ∧ SS[j]? = some (stateF nodes x)
theorem Ac.root : Ac 0 (rootN ⟨#[97]⟩) [0] [⟨#[97]⟩] where
  len := by simp [rootN]
  tick := fun x hx => by
    have : x = 0 := by simp [rootN] at hx; omega
    subst this; decide
  sz := fun x hx => by
    have : x = 0 := by simp [rootN] at hx; omega
    subst this; rfl
  rs := rfl
  rt := rfl
  rn := rfl
  sn := fun x hx => by
    have : x = 0 := by simp [rootN] at hx; omega
    subst this; decide
  up := fun x h0 hx => by simp [rootN] at hx; omega
  his := fun j x hj => by
    match j, hj with
    | 0, hj => simp at hj; subst hj; exact ⟨by simp [rootN], rfl⟩
    | j + 1, hj => simp at hj
theorem Ac.more {k : Nat} {nodes : List Go.HK.HN} {NS : List Nat} {SS : List ByteArray} (h : Ac k nodes NS SS) : Ac (k + 1) nodes NS SS :=
  ⟨by have := h.len; omega, fun x hx => by have := h.tick x hx; omega, h.sz, h.rs, h.rt, h.rn, h.sn, h.up, h.his⟩
theorem Ac.keep {k : Nat} {nodes nodes' : List Go.HK.HN} {NS : List Nat} {SS : List ByteArray} (h : Ac k nodes NS SS) (hl : nodes'.length = nodes.length) (hp : parF nodes' = parF nodes) (hs : stateF nodes' = stateF nodes) (ht : tickF nodes' = tickF nodes) (hn : noteF nodes' = noteF nodes) : Ac k nodes' NS SS := by
  constructor
  · rw [hl]; exact h.len
  · rw [hl, ht]; exact h.tick
  · rw [hl, hs]; exact h.sz
  · rw [hs]; exact h.rs
  · rw [ht]; exact h.rt
  · rw [hn]; exact h.rn
  · rw [hl, hn]; exact h.sn
  · rw [hl, hs, ht, hp]; exact h.up
  · rw [hl, hs]; exact h.his
theorem Ac.seen {k : Nat} {nodes : List Go.HK.HN} {NS : List Nat} {SS : List ByteArray} (h : Ac k nodes NS SS) (hl : NS.length = SS.length) (m : Nat) (hm : m < nodes.length) : Ac k nodes (NS ++ [m]) (SS ++ [stateF nodes m]) :=
  ⟨h.len, h.tick, h.sz, h.rs, h.rt, h.rn, h.sn, h.up, fun j x hj => by
    by_cases h1 : j < NS.length
    · rw [List.getElem?_append_left h1] at hj
      have := h.his j x hj
      rw [List.getElem?_append_left (by omega)]
      exact this
    · rw [List.getElem?_append_right (by omega)] at hj
      have e : j - NS.length = 0 := by
        rcases Nat.eq_zero_or_pos (j - NS.length) with e | e
        · exact e
        · rw [List.getElem?_eq_none (by simp; omega)] at hj; cases hj
      rw [e] at hj
      simp at hj
      subst hj
      rw [List.getElem?_append_right (by omega), show j - SS.length = 0 by omega]
      exact ⟨hm, rfl⟩⟩
theorem Ac.lead {k : Nat} {nodes : List Go.HK.HN} {NS : List Nat} {SS : List ByteArray} (h : Ac k nodes NS SS) (i : Nat) : Ac k (lead nodes i) NS SS :=
  h.keep (lead_length _ _) (parF_leadL _ _ _) (stateF_leadL _ _ _) (tickF_leadL _ _ _) (noteF_leadL _ _ _)
theorem Ac.addN {k now : Nat} {nodes : List Go.HK.HN} {NS : List Nat} {SS : List ByteArray} (h : Ac k nodes NS SS) (hw : WF nodes now) (par : Nat) (hp : par < nodes.length) (note state : ByteArray) (hz : state.size = 1) (hno : note.size ≤ 100) (hs : state ≠ stateF nodes par) :
    Ac (k + 1) (addN nodes par k note state) NS SS := by
  have hpos := hw.pos
  have hl : (HK.addN nodes par k note state).length = nodes.length + 1 := by simp
  constructor
  · have := h.len; omega
  · intro x hx
    rw [hl] at hx
    rw [tickF_addN]
    split
    · omega
    · have := h.tick x (by omega); omega
  · intro x hx
    rw [hl] at hx
    rw [stateF_addN]
    split
    · exact hz
    · exact h.sz x (by omega)
  · rw [stateF_addN, if_neg (by omega)]; exact h.rs
  · rw [tickF_addN, if_neg (by omega)]; exact h.rt
  · rw [noteF_addN, if_neg (by omega)]; exact h.rn
  · intro x hx
    rw [hl] at hx
    rw [noteF_addN]
    split
    · exact hno
    · exact h.sn x (by omega)
  · intro x h0 hx
    rw [hl] at hx
    by_cases e : x = nodes.length
    · subst e
      rw [parF_addN, if_pos rfl]
      simp only [stateF_addN, tickF_addN, Int.toNat_natCast, if_neg (show par ≠ nodes.length by omega), if_true]
      exact ⟨fun e => hs e.symm, h.tick par hp⟩
    · have hpx := hw.par x h0 (by omega)
      have e2 : (parF nodes x).toNat ≠ nodes.length := by omega
      rw [parF_addN, if_neg e]
      simp only [stateF_addN, tickF_addN, if_neg e, if_neg e2]
      exact h.up x h0 (by omega)
  · intro j x hj
    have := h.his j x hj
    rw [hl, stateF_addN, if_neg (by omega)]
    exact ⟨by omega, this.2⟩
/-- A Do of acted. -/
theorem Ac.do_ {k : Nat} {s : HS} {NS : List Nat} {SS : List ByteArray} (h : Ac k s.1 NS SS) (hw : WF s.1 s.2) (state : ByteArray) (hz : state.size = 1) (hs : state ≠ stateF s.1 s.2) : Ac (k + 1) (doS s k state).1 NS SS :=
  (h.addN hw s.2 hw.now ⟨#[]⟩ state hz (by decide) hs).lead _
theorem Ac.doR {k : Nat} {s : HS} {NS : List Nat} {SS : List ByteArray} (h : Ac k s.1 NS SS) (hw : WF s.1 s.2) (hk : k < 60) (state : ByteArray) : doR s.1 s.2 state ⟨#[]⟩ k = if state = stateF s.1 s.2 then some 240 else none := by
  unfold Go.Proofs.Ythneinepdbkgeaa.doR
  have h1 := h.tick s.2 hw.now
  have h2 := h.len
  rw [if_neg (by omega)]
  split
  · rfl
  · rw [if_neg (by omega)]
/-- The world of acted's loop: the tree, and the numbers and states that were present. -/
structure AcW (w : World) (t : Nat) (F : List Nat) (s : HS) (m : Nat) (NS : List Nat) (SS : List ByteArray) (p q : Value) (wr : World) : Prop where
  h : Hist wr t F s.1 s.2
  b : Below w.heap.size w wr
  f : ∀ b ∈ F, w.heap.size ≤ b
  nl : NS.length = m
  sl : SS.length = m
  pn : wr.ownsRow w.heap.size 3 1 p m (ints NS)
  qn : wr.ownsRow w.heap.size 9 1 q m (strs SS)
  pf : ∀ g, p.ownBlock = some g → g ∉ F
  qf : ∀ g, q.ownBlock = some g → g ∉ F
  pq : ∀ g, p.ownBlock = some g → q.ownBlock ≠ some g
theorem own_lt {w : World} {base : Nat} {e : TypeId} {size : Nat} {v : Value} {n : Nat} {xs : List Value} (h : w.ownsRow base e size v n xs) : ∀ g, v.ownBlock = some g → g < w.heap.size := by
  intro g hg
  rcases h.2 with ⟨rfl, _⟩ | ⟨g', c, cur, rfl, _, hh, _⟩
  · cases hg
  · cases hg; exact (Array.getElem?_eq_some_iff.1 hh).1
theorem own_ge {w : World} {base : Nat} {e : TypeId} {size : Nat} {v : Value} {n : Nat} {xs : List Value} (h : w.ownsRow base e size v n xs) : ∀ g, v.ownBlock = some g → base ≤ g := by
  intro g hg
  rcases h.2 with ⟨rfl, _⟩ | ⟨g', c, cur, rfl, hb, hh, _⟩
  · cases hg
  · cases hg; exact hb
section
variable {w wr w' : World} {t m : Nat} {F : List Nat} {s s' : HS} {NS : List Nat} {SS : List ByteArray} {p q : Value}
theorem AcW.step (h : AcW w t F s m NS SS p q wr) (hp : HPost wr t F s'.1 s'.2 w') : ∃ F', AcW w t F' s' m NS SS p q w' := by
  obtain ⟨F', hH, hF, hsub⟩ := hp
  refine ⟨F', hH, h.b.trans (hF.below h.b.size (fun k hk => h.f k hk)), ?_, h.nl, h.sl, hF.owns h.pn (fun g hg hf => h.pf g hg hf), hF.owns h.qn (fun g hg hf => h.qf g hg hf), ?_, ?_, h.pq⟩
  · intro b hb
    rcases hsub b hb with h1 | h1
    · exact h.f b h1
    · exact Nat.le_trans h.b.size h1
  · intro g hg hf
    rcases hsub g hf with h1 | h1
    · exact h.pf g hg h1
    · have := own_lt h.pn g hg; omega
  · intro g hg hf
    rcases hsub g hf with h1 | h1
    · exact h.qf g hg h1
    · have := own_lt h.qn g hg; omega
theorem AcW.stay (h : AcW w t F s m NS SS p q wr) (hB : Below wr.heap.size wr w') : AcW w t F s m NS SS p q w' := by
  have hF : Frm (fun _ => False) wr w' := Frm.of_below hB _
  exact ⟨h.h.stay hF (fun _ _ => id), h.b.trans (hB.mono h.b.size), h.f, h.nl, h.sl, hF.owns h.pn (fun _ _ => id), hF.owns h.qn (fun _ _ => id), h.pf, h.qf, h.pq⟩
/-- A number more. -/
theorem AcW.addP (h : AcW w t F s m NS SS p q wr) {p' : Value} {g : Nat} {x : Nat} (hown : w'.ownsRow w.heap.size 3 1 p' (m + 1) (ints (NS ++ [x]))) (hg : wr.grownBy w' p.ownBlock) (hp : p'.ownBlock = some g) (hgg : p.ownBlock = some g ∨ g = wr.heap.size) :
    Hist w' t F s.1 s.2 ∧ Below w.heap.size w w' ∧ w'.ownsRow w.heap.size 9 1 q m (strs SS) ∧ (∀ g, p'.ownBlock = some g → g ∉ F) ∧ (∀ g, p'.ownBlock = some g → q.ownBlock ≠ some g) := by
  have hF : Frm (fun i => p.ownBlock = some i) wr w' := (Frm.refl _ wr).grown hg (fun k hk => .inl hk)
  refine ⟨h.h.stay hF (fun b hb e => h.pf b e hb), h.b.trans (hF.below h.b.size (fun k hk => own_ge h.pn k hk)), hF.owns h.qn (fun g hg e => h.pq g e hg), ?_, ?_⟩
  · intro g' hg' hf
    rw [hp] at hg'; cases hg'
    rcases hgg with e | e
    · exact h.pf g e hf
    · have := h.h.lt g hf; omega
  · intro g' hg' hf
    rw [hp] at hg'; cases hg'
    rcases hgg with e | e
    · exact h.pq g e hf
    · have := own_lt h.qn g hf; omega
theorem owns_base {w : World} {base g : Nat} {e : TypeId} {size n c : Nat} {xs : List Value} (h : w.ownsRow 0 e size (.slice (some ⟨g, 0, none⟩) n c) n xs) (hb : base ≤ g) : w.ownsRow base e size (.slice (some ⟨g, 0, none⟩) n c) n xs := by
  refine ⟨h.1, ?_⟩
  rcases h.2 with ⟨h, _⟩ | ⟨g', c', cur, h, _, r⟩
  · cases h
  · cases h; exact .inr ⟨g, c, cur, rfl, hb, r⟩
/-- A number and a state more. -/
theorem AcW.app2 {w w4 w5 w6 : World} (h : AcW w t F s m NS SS p q w4) {o1 o2 : Obj} {x : Nat} {y : ByteArray} {g1 c1 g2 c2 : Nat}
    (hown5 : w5.ownsRow 0 3 1 (.slice (some ⟨g1, 0, none⟩) (m + 1) c1) (m + 1) (ints NS ++ [.int .i64 x])) (hgrow5 : (w4.alloc o1).grownBy w5 p.ownBlock) (hat5 : p.ownBlock = some g1 ∨ g1 = (w4.alloc o1).heap.size) (hlt5 : g1 < w5.heap.size)
    (hown6 : w6.ownsRow 0 9 1 (.slice (some ⟨g2, 0, none⟩) (m + 1) c2) (m + 1) (strs SS ++ [.string y])) (hgrow6 : (w5.alloc o2).grownBy w6 q.ownBlock) (hat6 : q.ownBlock = some g2 ∨ g2 = (w5.alloc o2).heap.size) :
    AcW w t F s (m + 1) (NS ++ [x]) (SS ++ [y]) (.slice (some ⟨g1, 0, none⟩) (m + 1) c1) (.slice (some ⟨g2, 0, none⟩) (m + 1) c2) w6 := by
  have ha : AcW w t F s m NS SS p q (w4.alloc o1) := h.stay ((Below.refl _ w4).alloc (Nat.le_refl _) _)
  have hF5 : Frm (fun i => p.ownBlock = some i) (w4.alloc o1) w5 := (Frm.refl _ _).grown hgrow5 (fun k hk => .inl hk)
  have hF5' : Frm (fun i => p.ownBlock = some i) (w4.alloc o1) (w5.alloc o2) := hF5.alloc _
  have hF6 : Frm (fun i => q.ownBlock = some i) (w5.alloc o2) w6 := (Frm.refl _ _).grown hgrow6 (fun k hk => .inl hk)
  have hs5 : (w4.alloc o1).heap.size ≤ w5.heap.size := hF5.size
  have hs5' : (w4.alloc o1).heap.size ≤ (w5.alloc o2).heap.size := hF5'.size
  have hs55 : w5.heap.size ≤ (w5.alloc o2).heap.size := by simp
  have hg1 : w.heap.size ≤ g1 := by
    rcases hat5 with e | e
    · exact own_ge ha.pn _ e
    · have := ha.b.size; omega
  have hg2 : w.heap.size ≤ g2 := by
    rcases hat6 with e | e
    · exact own_ge ha.qn _ e
    · have := ha.b.size; omega
  have hq1 : q.ownBlock ≠ some g1 := by
    rcases hat5 with e | e
    · exact ha.pq _ e
    · intro e2; have := own_lt ha.qn _ e2; omega
  have hH5 : Hist (w5.alloc o2) t F s.1 s.2 := ha.h.stay hF5' (fun b hb e => ha.pf b e hb)
  refine ⟨hH5.stay hF6 (fun b hb e => ha.qf b e hb), ?_, ha.f, by simp [ha.nl], by simp [ha.sl], ?_, ?_, ?_, ?_, ?_⟩
  · have e1 := hF5'.below ha.b.size (fun k hk => own_ge ha.pn k hk)
    exact (ha.b.trans e1).trans (hF6.below (Nat.le_trans ha.b.size hs5') (fun k hk => own_ge ha.qn k hk))
  · have e1 := ((Frm.refl (fun _ => False) w5).alloc o2).owns (owns_base hown5 hg1) (fun _ _ => id)
    have e2 := hF6.owns e1 (fun g hg e => by cases hg; exact hq1 e)
    simpa [ints] using e2
  · simpa [strs] using owns_base hown6 hg2
  · intro g hg hf
    cases hg
    rcases hat5 with e | e
    · exact ha.pf _ e hf
    · have := ha.h.lt _ hf; simp only at this; omega
  · intro g hg hf
    cases hg
    rcases hat6 with e | e
    · exact ha.qf _ e hf
    · have := ha.h.lt _ hf; simp only at this; omega
  · intro g hg e
    cases hg
    have e3 : g2 = g1 := by
      simp only [Value.ownBlock, Option.some.injEq] at e
      exact e
    subst e3
    rcases hat6 with e | e
    · exact hq1 e
    · omega
end
end Go.Proofs.Ythneinepdbkgeaa
