/- Steps of a script: what the program's method and the reference's function answer, side by side. -/
import Derived.Test.YthneinepdbkgeaaLawd
import Derived.Test.YthneinepdbkgeaaReff
import Derived.Test.YthneinepdbkgeaaRefe
import Derived.Test.YthneinepdbkgeaaOpenn
import Derived.Test.YthneinepdbkgeaaAwake
namespace Go.Proofs.Ythneinepdbkgeaa
open Go.RowKit Go.HK
set_option linter.unusedVariables false
set_option linter.unusedSimpArgs false
set_option linter.unusedSectionVars false
section
variable {w : World} {t now : Nat} {F : List Nat} {nodes : List Go.HK.HN}
theorem betw_len (h : WF nodes now) {a b : Nat} (ha : a < nodes.length) (hb : b < nodes.length) : (betweenL nodes a b).length ≤ 2000 := by
  have h1 := wayL_len9 h ha
  have h2 := wayL_len9 h hb
  unfold betweenL
  rw [List.length_append, List.length_reverse, List.length_drop, List.length_drop]
  omega
theorem looks_any (h : Hist w t F nodes now) (ge ce gn gc : Nat) (ga : Option Addr) (he : EntsAt w ge (ents nodes)) (n m : Int) (s : ByteArray) :
    Calls Try.prog 33 #[.pointer (some ⟨t, 0, none⟩), .agg #[.slice (some ⟨ge, 0, none⟩) nodes.length ce, .int .i64 (now : Int), .slice ga gn gc], .int .i64 n, .int .i64 m, .string s] w (RetTr w) := by
  have hst : ∀ W, Below w.heap.size w W → Hist W t F nodes now := fun W hB => h.stay (Frm.of_below hB (fun _ => False)) (fun _ _ => id)
  by_cases hn : 0 ≤ n ∧ n < nodes.length
  · obtain ⟨a, rfl⟩ : ∃ a : Nat, n = (a : Int) := ⟨n.toNat, by omega⟩
    have ha : a < nodes.length := by omega
    by_cases hm : 0 ≤ m ∧ m < nodes.length
    · obtain ⟨b, rfl⟩ : ∃ b : Nat, m = (b : Int) := ⟨m.toNat, by omega⟩
      have hb : b < nodes.length := by omega
      exact looks_yes h ge ce gn gc ga he a ha b s _ 0 (betw_len h.1 ha hb) (fun W hB => between_yes (hst W hB) a b ha hb) (fun W hB => rbetw_yes h.1 W ge ce now ga gn gc a b ha hb (he.below hB (Nat.le_refl _)))
    · exact looks_yes h ge ce gn gc ga he a ha m s [] 6 (by simp) (fun W hB => between_no (hst W hB) a m (by omega)) (fun W hB => rbetw_no W ge nodes.length ce now ga gn gc a m (by omega))
  · exact looks_no h ge ce gn gc ga he n hn m s [] 6 (by simp) (fun W hB => between_no (hst W hB) n m (by omega)) (fun W hB => rbetw_no W ge nodes.length ce now ga gn gc n m (by omega))
/-- What the reference's function leaves behind a step. -/
def RetT3 (W : World) (ge gw : Nat) (es : List Ent) (nl now : Nat) (went : List Nat) (x y : Value) (e : Ending) (w' : World) : Prop :=
  ∃ ge' ce' gw' gc', e = .returned (.tuple #[.agg #[.slice (some ⟨ge', 0, none⟩) nl ce', .int .i64 (now : Int), .slice (some ⟨gw', 0, none⟩) went.length gc'], x, y]) ∧ EntsAt w' ge' es ∧ RowAt w' gw' went.length went ∧ (ge' = ge ∨ W.heap.size ≤ ge') ∧ (gw' = gw ∨ W.heap.size ≤ gw') ∧ Below W.heap.size W w'
/-- A step: program and reference answer x, y, and leave nodes', now', went'. -/
structure StepC (w : World) (t : Nat) (F : List Nat) (nodes : List Go.HK.HN) (went : List Nat) (nodes' : List Go.HK.HN) (now' : Nat) (went' : List Nat) (fp : FuncId) (ap : Array Value) (fr : FuncId) (ar : Nat → Nat → Nat → Nat → Array Value) (x y : Value) : Prop where
  fav : FavOk nodes' went'
  short : Short (ents nodes')
  len : nodes'.length ≤ nodes.length + 1
  wpos : 0 < went'.length
  wlen : went'.length ≤ went.length + 1
  prog : Calls Try.prog fp ap w fun e w' => e = .returned (.tuple #[x, y]) ∧ HPost w t F nodes' now' w'
  ref : ∀ W ge ce gw gc, EntsAt W ge (ents nodes) → RowAt W gw went.length went → Calls Try.prog fr (ar ge ce gw gc) W (RetT3 W ge gw (ents nodes') nodes'.length now' went' x y)
theorem HPost.same (h : Hist w t F nodes now) {w' : World} (hB : Below w.heap.size w w') : HPost w t F nodes now w' :=
  .of_hist (h.stay (Frm.of_below hB (fun _ => False)) (fun _ _ => id)) (Frm.of_below hB _)
theorem RetT3.same {W w' : World} {ge gw ce gc nl now : Nat} {es : List Ent} {went : List Nat} {x y : Value} (he : EntsAt W ge es) (hw : RowAt W gw went.length went) (hB : Below W.heap.size W w') :
    RetT3 W ge gw es nl now went x y (.returned (.tuple #[.agg #[.slice (some ⟨ge, 0, none⟩) nl ce, .int .i64 (now : Int), .slice (some ⟨gw, 0, none⟩) went.length gc], x, y])) w' :=
  ⟨ge, ce, gw, gc, rfl, he.below hB (Nat.le_refl _), hw.below hB (Nat.le_refl _), .inl rfl, .inl rfl, hB⟩
theorem short_add {par : Nat} {tick : Int} {note state : ByteArray} (hs : Short (ents nodes)) (h1 : state.size ≤ 16384) (h2 : note.size ≤ 100) (i : Nat) : Short (ents (lead (addN nodes par tick note state) i)) := by
  rw [ents_lead, ents_addN]
  intro j x hx
  rcases Nat.lt_or_ge j (ents nodes).length with h | h
  · rw [List.getElem?_append_left h] at hx; exact hs j x hx
  · rw [List.getElem?_append_right h] at hx
    have : x = ⟨par, tick, note, state⟩ := by
      cases hj : j - (ents nodes).length with
      | zero => rw [hj] at hx; simpa using hx.symm
      | succ k => rw [hj] at hx; simp at hx
    subst this
    exact ⟨h1, h2⟩
/-- Do. -/
theorem step_do9 (h : Hist w t F nodes now) {went : List Nat} (hf : FavOk nodes went) (hs : Short (ents nodes)) (hw0 : 0 < went.length) (hwl : went.length ≤ 2000) (hnl : nodes.length ≤ 900) (state note : ByteArray) (tick : Int) (hsz : state.size ≤ maxLen) (hnz : note.size ≤ maxLen) :
    ∃ (a b : Int) (nodes' : List Go.HK.HN) (now' : Nat) (went' : List Nat), StepC w t F nodes went nodes' now' went' 17 #[.pointer (some ⟨t, 0, none⟩), .string state, .string note, .int .i64 tick] 47 (fun ge ce gw gc => #[.agg #[.slice (some ⟨ge, 0, none⟩) nodes.length ce, .int .i64 (now : Int), .slice (some ⟨gw, 0, none⟩) went.length gc], .string state, .string note, .int .i64 tick]) (.int .i64 a) (.int .i64 b) := by
  have hnow := h.1.now
  by_cases hl : 16384 < state.size ∨ 100 < note.size
  · refine ⟨0, 3, nodes, now, went, hf, hs, by omega, hw0, by omega, (do_long h state note tick hsz hnz hl).mono ?_, fun W ge ce gw gc he hw => (rdo_no W ge nodes.length ce now went.length gc _ state note tick 3 rfl (by omega) hsz hnz hnow he (.inl ⟨hl, rfl⟩)).mono ?_⟩
    · rintro e w' ⟨rfl, hB⟩
      first
        | exact ⟨rfl, HPost.same h hB⟩
        | exact ⟨rfl, HPost.same h (by rw [← hB]; exact Below.refl _ _)⟩
    · rintro e w' ⟨rfl, hB⟩
      exact RetT3.same he hw hB
  · have h1 : state.size ≤ 16384 := by omega
    have h2 : note.size ≤ 100 := by omega
    have hp := do_any h state note tick h1 h2
    cases hd : doR nodes now state note tick with
    | some k =>
      refine ⟨0, k, nodes, now, went, hf, hs, by omega, hw0, by omega, hp.mono ?_, fun W ge ce gw gc he hw => (rdo_no W ge nodes.length ce now went.length gc _ state note tick k rfl (by omega) hsz hnz hnow he (.inr ⟨⟨h1, h2⟩, hd⟩)).mono ?_⟩
      · rintro e w' ⟨h3, _⟩
        obtain ⟨rfl, hB⟩ := h3 k hd
        exact ⟨rfl, HPost.same h hB⟩
      · rintro e w' ⟨rfl, hB⟩
        exact RetT3.same he hw hB
    | none =>
      refine ⟨nodes.length, 0, lead (addN nodes now tick note state) nodes.length, nodes.length, went ++ [nodes.length], hf.add h.1 (by omega) hnow tick note state, short_add hs h1 h2 _, by rw [lead_length, addN_length]; omega, by simp, by simp, hp.mono ?_, fun W ge ce gw gc he hw => (rdo_yes W ge nodes.length ce now gw went.length gc state note tick went rfl (by omega) h1 h2 hnow he hw hwl hw0 hd).mono ?_⟩
      · rintro e w' ⟨_, h3⟩
        exact h3 hd
      · rintro e w' ⟨g, c, g2, c2, rfl, hE, hR, q1, q2, hB⟩
        have e1 : (went ++ [nodes.length]).length = went.length + 1 := by simp
        have e2 : (lead (addN nodes now tick note state) nodes.length).length = nodes.length + 1 := by rw [lead_length, addN_length]
        refine ⟨g, c, g2, c2, by rw [e1, e2], ?_, by rw [e1]; exact hR, .inr q1, .inr q2, hB⟩
        rw [ents_lead, ents_addN]
        exact hE
theorem stF_nodes (nodes : List Go.HK.HN) (i : Nat) : stF (ents nodes) i = stateF nodes i := by
  unfold stF
  rw [stateF_ents]
  first
    | rfl
    | (cases (ents nodes)[i]? <;> rfl)
theorem toR_no {es : List Ent} {nw n : Int} (h : ¬ (0 ≤ n ∧ n < es.length)) : toR es nw n = (nw, ⟨#[]⟩, 6) := by unfold toR; rw [if_neg h]
theorem toR_yes {nodes : List Go.HK.HN} {nw : Int} {n : Nat} (h : n < nodes.length) : toR (ents nodes) nw n = ((n : Int), stateF nodes n, 0) := by
  unfold toR
  rw [if_pos (by rw [ents_len]; omega), Int.toNat_natCast, stF_nodes]
/-- Undo. -/
theorem step_undo9 (h : Hist w t F nodes now) {went : List Nat} (hf : FavOk nodes went) (hs : Short (ents nodes)) (hw0 : 0 < went.length) :
    ∃ (s : ByteArray) (b : Int) (nodes' : List Go.HK.HN) (now' : Nat) (went' : List Nat), StepC w t F nodes went nodes' now' went' 15 #[.pointer (some ⟨t, 0, none⟩)] 48 (fun ge ce gw gc => #[.agg #[.slice (some ⟨ge, 0, none⟩) nodes.length ce, .int .i64 (now : Int), .slice (some ⟨gw, 0, none⟩) went.length gc]]) (.string s) (.int .i64 b) := by
  have hnow := h.1.now
  obtain ⟨x, hx⟩ := get_of_lt hnow
  have hxe : (ents nodes)[now]? = some x.ent := by simp [ents, hx]
  have hpx : x.par = parF nodes now := (parF_get hx).symm
  have href := fun W ge ce gw gc (he : EntsAt W ge (ents nodes)) => rundo_any W ge nodes.length ce now (some ⟨gw, 0, none⟩) went.length gc (ents nodes) x.ent (by rw [ents_len]) hxe he
  have hpe : x.ent.par = parF nodes now := hpx
  rw [hpe] at href
  unfold RetTo at href
  by_cases h0 : now = 0
  · subst h0
    rw [h.1.root, toR_no (by omega)] at href
    refine ⟨⟨#[]⟩, 6, nodes, 0, went, hf, hs, by omega, hw0, by omega, (undo_root h).mono ?_, fun W ge ce gw gc he hw => (href W ge ce gw gc he).mono ?_⟩
    · rintro e w' ⟨rfl, rfl⟩
      exact ⟨rfl, HPost.same h (Below.refl _ _)⟩
    · rintro e w' ⟨rfl, hB⟩
      exact RetT3.same he hw hB
  · have hp := h.1.par now (by omega) hnow
    obtain ⟨p, hpp⟩ : ∃ p : Nat, parF nodes now = (p : Int) := ⟨(parF nodes now).toNat, by omega⟩
    have hu := undo_up h h0
    rw [hpp, Int.toNat_natCast] at hu
    rw [hpp] at hp
    rw [hpp, toR_yes (by omega)] at href
    refine ⟨stateF nodes p, 0, nodes, p, went, hf, hs, by omega, hw0, by omega, hu, fun W ge ce gw gc he hw => (href W ge ce gw gc he).mono ?_⟩
    rintro e w' ⟨rfl, hB⟩
    exact RetT3.same he hw hB
/-- Redo. -/
theorem step_redo9 (h : Hist w t F nodes now) {went : List Nat} (hf : FavOk nodes went) (hs : Short (ents nodes)) (hw0 : 0 < went.length) (hwl : went.length ≤ 2000) :
    ∃ (s : ByteArray) (b : Int) (nodes' : List Go.HK.HN) (now' : Nat) (went' : List Nat), StepC w t F nodes went nodes' now' went' 16 #[.pointer (some ⟨t, 0, none⟩)] 34 (fun ge ce gw gc => #[.agg #[.slice (some ⟨ge, 0, none⟩) nodes.length ce, .int .i64 (now : Int), .slice (some ⟨gw, 0, none⟩) went.length gc]]) (.string s) (.int .i64 b) := by
  have hnow := h.1.now
  have href := fun W ge ce gw gc (he : EntsAt W ge (ents nodes)) (hw : RowAt W gw went.length went) => rredo_any h.1 W ge ce gw gc now went hw hf.mem (by omega) he
  rw [hf.fav now hnow] at href
  unfold RetTo at href
  rcases h.1.fav now hnow with h1 | ⟨q, h1, h2, _⟩
  · rw [h1, toR_no (by omega)] at href
    refine ⟨⟨#[]⟩, 6, nodes, now, went, hf, hs, by omega, hw0, by omega, (redo_none h h1).mono ?_, fun W ge ce gw gc he hw => (href W ge ce gw gc he hw).mono ?_⟩
    · rintro e w' ⟨rfl, hB⟩
      exact ⟨rfl, HPost.same h hB⟩
    · rintro e w' ⟨rfl, hB⟩
      exact RetT3.same he hw hB
  · rw [h1, toR_yes h2] at href
    refine ⟨stateF nodes q, 0, nodes, q, went, hf, hs, by omega, hw0, by omega, redo_down h q h1 h2, fun W ge ce gw gc he hw => (href W ge ce gw gc he hw).mono ?_⟩
    rintro e w' ⟨rfl, hB⟩
    exact RetT3.same he hw hB
/-- Go. -/
theorem step_go9 (h : Hist w t F nodes now) {went : List Nat} (hf : FavOk nodes went) (hs : Short (ents nodes)) (hw0 : 0 < went.length) (hwl : went.length ≤ 2000) (n : Int) :
    ∃ (s : ByteArray) (b : Int) (nodes' : List Go.HK.HN) (now' : Nat) (went' : List Nat), StepC w t F nodes went nodes' now' went' 18 #[.pointer (some ⟨t, 0, none⟩), .int .i64 n] 49 (fun ge ce gw gc => #[.agg #[.slice (some ⟨ge, 0, none⟩) nodes.length ce, .int .i64 (now : Int), .slice (some ⟨gw, 0, none⟩) went.length gc], .int .i64 n]) (.string s) (.int .i64 b) := by
  by_cases hn : 0 ≤ n ∧ n < nodes.length
  · obtain ⟨a, rfl⟩ : ∃ a : Nat, n = (a : Int) := ⟨n.toNat, by omega⟩
    have ha : a < nodes.length := by omega
    refine ⟨stateF nodes a, 0, lead nodes a, a, went ++ [a], hf.go h.1 ha, by rw [ents_lead]; exact hs, by rw [lead_length]; omega, by simp, by simp, go_yes h a ha, fun W ge ce gw gc he hw => (rgo_yes W ge nodes.length ce now gw gc (ents nodes) went a (by rw [ents_len]) ha he hw hwl hw0).mono ?_⟩
    rintro e w' ⟨g, c, rfl, hR, q, hB⟩
    rw [stF_nodes]
    refine ⟨ge, ce, g, c, by rw [lead_length], ?_, hR, .inl rfl, .inr q, hB⟩
    rw [ents_lead]
    exact he.below hB (Nat.le_refl _)
  · refine ⟨⟨#[]⟩, 6, nodes, now, went, hf, hs, by omega, hw0, by omega, (go_no h n hn).mono ?_, fun W ge ce gw gc he hw => (rgo_no W ge nodes.length ce now (some ⟨gw, 0, none⟩) went.length gc (ents nodes) n (by rw [ents_len]) hn he).mono ?_⟩
    · rintro e w' ⟨rfl, hB⟩
      exact ⟨rfl, HPost.same h hB⟩
    · rintro e w' ⟨rfl, hB⟩
      exact RetT3.same he hw hB
end
end Go.Proofs.Ythneinepdbkgeaa
namespace Go.Proofs.Ythneinepdbkgeaa
open Go.RowKit Go.HK
set_option linter.unusedVariables false
set_option linter.unusedSimpArgs false
set_option linter.unusedSectionVars false
/-- The tree and the reference's tree, side by side: the reference's lies in the box R. -/
structure TlW (w : World) (R t : Nat) (F : List Nat) (nodes : List Go.HK.HN) (now ge ce gw gc : Nat) (went : List Nat) (wr : World) : Prop where
  below : Below w.heap.size w wr
  hist : Hist wr t F nodes now
  ents : EntsAt wr ge (ents nodes)
  row : RowAt wr gw went.length went
  box : wr.heap[R]? = some (.cells #[.slice (some ⟨ge, 0, none⟩) nodes.length ce, .int .i64 (now : Int), .slice (some ⟨gw, 0, none⟩) went.length gc] 63 (0, 0))
  fav : FavOk nodes went
  short : Short (Go.Proofs.Ythneinepdbkgeaa.ents nodes)
  own : ∀ b ∈ F, w.heap.size ≤ b
  geF : ge ∉ F
  gwF : gw ∉ F
  rF : R ∉ F
  rw : w.heap.size ≤ R
  geR : ge ≠ R
  gwR : gw ≠ R
  wpos : 0 < went.length
def TlX (w : World) (R k : Nat) (p : Value) (wr : World) : Prop :=
  ∃ t F nodes now ge ce gw gc went, p = .pointer (some ⟨t, 0, none⟩) ∧ TlW w R t F nodes now ge ce gw gc went wr ∧ nodes.length ≤ k + 1 ∧ went.length ≤ k + 2
theorem ents_frm {F : Nat → Prop} {w w' : World} {g : Nat} {es : List Ent} (h : EntsAt w g es) (hf : Frm F w w') (hg : ¬ F g) : EntsAt w' g es := by
  have hb := hf.block g h.lt hg
  refine ⟨fun i x hx => ?_, Nat.lt_of_lt_of_le h.lt hf.size⟩
  obtain ⟨i0, i1, i2, i3⟩ := h.c i x hx
  exact ⟨(World.cell?_of_block (a := ⟨g, i * 4, none⟩) hb).trans i0, (World.cell?_of_block (a := ⟨g, i * 4 + 1, none⟩) hb).trans i1, (World.cell?_of_block (a := ⟨g, i * 4 + 2, none⟩) hb).trans i2, (World.cell?_of_block (a := ⟨g, i * 4 + 3, none⟩) hb).trans i3⟩
theorem row_frm {F : Nat → Prop} {w w' : World} {g n : Nat} {xs : List Nat} (h : RowAt w g n xs) (hf : Frm F w w') (hg : ¬ F g) : RowAt w' g n xs := by
  have hb := hf.block g h.lt hg
  exact ⟨h.len, fun j x hx => (World.cell?_of_block (a := ⟨g, j, none⟩) hb).trans (h.cell j x hx), Nat.lt_of_lt_of_le h.lt hf.size⟩
section
variable {w wr : World} {R t now ge ce gw gc : Nat} {F : List Nat} {nodes : List Go.HK.HN} {went : List Nat}
theorem TlW.up (h : TlW w R t F nodes now ge ce gw gc went wr) {w' : World} (hB : Below wr.heap.size wr w') : TlW w R t F nodes now ge ce gw gc went w' :=
  ⟨h.below.trans (hB.mono h.below.size), h.hist.stay (Frm.of_below hB (fun _ => False)) (fun _ _ => id), h.ents.below hB (Nat.le_refl _), h.row.below hB (Nat.le_refl _), blk_up9 hB h.box, h.fav, h.short, h.own, h.geF, h.gwF, h.rF, h.rw, h.geR, h.gwR, h.wpos⟩
/-- Behind a step. -/
theorem TlW.next (h : TlW w R t F nodes now ge ce gw gc went wr) {w2 w3 : World} {nodes' : List Go.HK.HN} {now' ge' ce' gw' gc' : Nat} {went' : List Nat} (hp : HPost wr t F nodes' now' w2) (hB : Below w2.heap.size w2 w3)
    (hE : EntsAt w3 ge' (Go.Proofs.Ythneinepdbkgeaa.ents nodes')) (hR : RowAt w3 gw' went'.length went') (q1 : ge' = ge ∨ w2.heap.size ≤ ge') (q2 : gw' = gw ∨ w2.heap.size ≤ gw') (hf : FavOk nodes' went') (hs : Short (Go.Proofs.Ythneinepdbkgeaa.ents nodes')) (hw : 0 < went'.length) :
    ∃ F', TlW w R t F' nodes' now' ge' ce' gw' gc' went' (((w3.setCell ⟨R, 0, none⟩ (.slice (some ⟨ge', 0, none⟩) nodes'.length ce')).setCell ⟨R, 1, none⟩ (.int .i64 (now' : Int))).setCell ⟨R, 2, none⟩ (.slice (some ⟨gw', 0, none⟩) went'.length gc')) := by
  obtain ⟨F', hH, hfr, hF'⟩ := hp
  have hs2 := hfr.size
  have hlt := hH.lt
  have hRl := HK.blk_lt h.box
  have hb0 := h.below.size
  have hbox3 : w3.heap[R]? = some (.cells #[.slice (some ⟨ge, 0, none⟩) nodes.length ce, .int .i64 (now : Int), .slice (some ⟨gw, 0, none⟩) went.length gc] 63 (0, 0)) := blk_up9 hB (hfr.heap h.box h.rF)
  have hge : ge' ∉ F' ∧ ge' ≠ R := by
    rcases q1 with rfl | q
    · refine ⟨fun hm => ?_, h.geR⟩
      rcases hF' _ hm with h1 | h1
      · exact h.geF h1
      · have := h.ents.lt; omega
    · exact ⟨fun hm => by have := hlt _ hm; omega, by omega⟩
  have hgw : gw' ∉ F' ∧ gw' ≠ R := by
    rcases q2 with rfl | q
    · refine ⟨fun hm => ?_, h.gwR⟩
      rcases hF' _ hm with h1 | h1
      · exact h.gwF h1
      · have := h.row.lt; omega
    · exact ⟨fun hm => by have := hlt _ hm; omega, by omega⟩
  have hrF : R ∉ F' := fun hm => by
    rcases hF' _ hm with h1 | h1
    · exact h.rF h1
    · omega
  have hset := set3_frm w3 R (.slice (some ⟨ge', 0, none⟩) nodes'.length ce') (.int .i64 (now' : Int)) (.slice (some ⟨gw', 0, none⟩) went'.length gc')
  have hB02 : Below w.heap.size w w2 := h.below.trans (hfr.below hb0 h.own)
  have hB03 : Below w.heap.size w w3 := hB02.trans (hB.mono hB02.size)
  have hH3 : Hist w3 t F' nodes' now' := hH.stay (Frm.of_below hB (fun _ => False)) (fun _ _ => id)
  refine ⟨F', hB03.trans (hset.below hB03.size (fun b e => by have e2 : b = R := e; have := h.rw; omega)), hH3.stay hset (fun b hb e => hrF ((show b = R from e) ▸ hb)), ents_frm hE hset hge.2, row_frm hR hset hgw.2, set3 hbox3 _ _ _, hf, hs, fun b hb => ?_, hge.1, hgw.1, hrF, h.rw, hge.2, hgw.2, hw⟩
  rcases hF' b hb with h1 | h1
  · exact h.own b h1
  · omega
end
theorem FavOk.root (s : ByteArray) : FavOk (rootN s) [0] := by
  have hl : (rootN s).length = 1 := rfl
  have hm : ∀ x ∈ ([0] : List Nat), x < (rootN s).length := fun x hx => by rw [List.mem_singleton.1 hx]; exact Nat.one_pos
  refine ⟨hm, fun n hn => ?_⟩
  obtain rfl : n = 0 := by rw [hl] at hn; omega
  have h1 : favW (rootN s) [0] 0 = -1 := favR_leaf (WF.root s) _ 0 (fun x hx => hm x (by simpa using hx)) (fun d hd hp => by
    obtain rfl : d = 0 := by rw [hl] at hd; omega
    rw [(WF.root s).root] at hp
    omega)
  rw [h1]
  rfl
/-- A step of a script. -/
structure DoE where
  kind : Nat
  n : Int
  m : Int
  state : ByteArray
  note : ByteArray
/-- A script that came in. -/
def DosV (w : World) (ad : Option Addr) (n : Nat) (l : Nat → DoE) : Prop := ∀ i, i < n → ∃ a, ad = some a ∧ w.cell? (a.add (i * 5)) = some (.int .u8 ((l i).kind : Int)) ∧ w.cell? ⟨(a.add (i * 5)).block, (a.add (i * 5)).off + 1, none⟩ = some (.int .i64 (l i).n) ∧ w.cell? ⟨(a.add (i * 5)).block, (a.add (i * 5)).off + 2, none⟩ = some (.int .i64 (l i).m) ∧ w.cell? ⟨(a.add (i * 5)).block, (a.add (i * 5)).off + 3, none⟩ = some (.string (l i).state) ∧ w.cell? ⟨(a.add (i * 5)).block, (a.add (i * 5)).off + 4, none⟩ = some (.string (l i).note) ∧ (l i).kind ≤ 255 ∧ (l i).state.size ≤ maxLen ∧ (l i).note.size ≤ maxLen
theorem DosV.below {w w' : World} {ad : Option Addr} {n : Nat} {l : Nat → DoE} (h : DosV w ad n l) (hB : Below w.heap.size w w') : DosV w' ad n l := fun i hi => by
  obtain ⟨a, e, h0, h1, h2, h3, h4, h5⟩ := h i hi
  exact ⟨a, e, (hB.cell (World.block_lt_of_cell? w _ h0)).trans h0, (hB.cell (World.block_lt_of_cell? w _ h1)).trans h1, (hB.cell (World.block_lt_of_cell? w _ h2)).trans h2, (hB.cell (World.block_lt_of_cell? w _ h3)).trans h3, (hB.cell (World.block_lt_of_cell? w _ h4)).trans h4, h5⟩
end Go.Proofs.Ythneinepdbkgeaa
namespace Go.Proofs.Ythneinepdbkgeaa
open Go.RowKit Go.HK
set_option linter.unusedVariables false
set_option linter.unusedSimpArgs false
set_option linter.unusedSectionVars false
theorem TlW.reopen {w wr w6 w7 w8 w9 : World} {R t now ge ce gw gc : Nat} {F : List Nat} {nodes : List Go.HK.HN} {went : List Nat} (h : TlW w R t F nodes now ge ce gw gc went wr) (hB6 : Below wr.heap.size wr w6) (hB7 : Below w6.heap.size w6 w7) (hB8 : Below w7.heap.size w7 w8) {g6 : Nat} (hg1 : wr.heap.size ≤ g6) (hg2 : g6 < w6.heap.size)
    (hf : Frm (fun b => b = g6) w8 w9) {t' : Nat} {F' : List Nat} {nodes' : List Go.HK.HN} {m ge' ce' gw' gc' : Nat} {went' : List Nat} (hH : Hist w7 t' F' nodes' m) (hF' : ∀ b ∈ F', w6.heap.size ≤ b)
    (hE : EntsAt w8 ge' (Go.Proofs.Ythneinepdbkgeaa.ents nodes')) (hR : RowAt w8 gw' went'.length went') (q1 : w7.heap.size ≤ ge') (q2 : w7.heap.size ≤ gw') (fav : FavOk nodes' went') (hs : Short (Go.Proofs.Ythneinepdbkgeaa.ents nodes')) (hw : 0 < went'.length) :
    TlW w R t' F' nodes' m ge' ce' gw' gc' went' (((w9.setCell ⟨R, 0, none⟩ (.slice (some ⟨ge', 0, none⟩) nodes'.length ce')).setCell ⟨R, 1, none⟩ (.int .i64 (m : Int))).setCell ⟨R, 2, none⟩ (.slice (some ⟨gw', 0, none⟩) went'.length gc')) := by
  have hRl := HK.blk_lt h.box
  have s6 := hB6.size
  have s7 := hB7.size
  have s8 := hB8.size
  have s0 := h.below.size
  have hlt := hH.lt
  have hb6 := blk_up9 hB6 h.box
  have hb8 := blk_up9 hB8 (blk_up9 hB7 hb6)
  have hb9 := hf.heap hb8 (fun e => by have e2 : R = g6 := e; omega)
  have hset := set3_frm w9 R (.slice (some ⟨ge', 0, none⟩) nodes'.length ce') (.int .i64 (m : Int)) (.slice (some ⟨gw', 0, none⟩) went'.length gc')
  have hB08 : Below w.heap.size w w8 := (h.below.trans (hB6.mono s0)).trans ((hB7.trans (hB8.mono s7)).mono (by omega))
  have hB09 : Below w.heap.size w w9 := hB08.trans (hf.below hB08.size (fun b e => by have e2 : b = g6 := e; omega))
  have hH8 : Hist w8 t' F' nodes' m := hH.stay (Frm.of_below hB8 (fun _ => False)) (fun _ _ => id)
  have hH9 : Hist w9 t' F' nodes' m := hH8.stay hf (fun b hb e => by have e2 : b = g6 := e; have := hF' b hb; omega)
  have hE9 := ents_frm hE hf (fun e => by have e2 : ge' = g6 := e; omega)
  have hR9 := row_frm hR hf (fun e => by have e2 : gw' = g6 := e; omega)
  refine ⟨hB09.trans (hset.below hB09.size (fun b e => by have e2 : b = R := e; have := h.rw; omega)), hH9.stay hset (fun b hb e => by have e2 : b = R := e; have := hF' b hb; omega), ents_frm hE9 hset (fun e => by have e2 : ge' = R := e; omega), row_frm hR9 hset (fun e => by have e2 : gw' = R := e; omega), set3 hb9 _ _ _, fav, hs, fun b hb => by have := hF' b hb; omega, fun hm => by have := hlt _ hm; omega, fun hm => by have := hlt _ hm; omega, fun hm => by have := hF' _ hm; omega, h.rw, by omega, by omega, hw⟩
end Go.Proofs.Ythneinepdbkgeaa
