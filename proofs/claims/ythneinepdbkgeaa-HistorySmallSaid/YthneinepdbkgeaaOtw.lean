/- The world of HistoryOther's loop of acts. -/
import Derived.Test.YthneinepdbkgeaaExt
namespace Go.Proofs.Ythneinepdbkgeaa
open Go.RowKit Go.HK
set_option linter.unusedVariables false
set_option linter.unusedSimpArgs false
set_option linter.unusedSectionVars false
/-- A tree, and the entries that were saved. -/
structure OtW (w : World) (t : Nat) (F : List Nat) (s : HS) (v : Value) (vs : List Ent) (wr : World) : Prop where
  h : Hist wr t F s.1 s.2
  b : Below w.heap.size w wr
  f : ∀ b ∈ F, w.heap.size ≤ b
  vn : wr.ownsRow w.heap.size 45 4 v vs.length (entsFlat vs)
  vf : ∀ g, v.ownBlock = some g → g ∉ F
section
variable {w w2 w' : World} {t : Nat} {F : List Nat} {s s' : HS} {v : Value} {vs : List Ent}
theorem OtW.step (h : OtW w t F s v vs w2) (hp : HPost w2 t F s'.1 s'.2 w') : ∃ F', OtW w t F' s' v vs w' := by
  obtain ⟨F', hH, hF, hsub⟩ := hp
  refine ⟨F', hH, h.b.trans (hF.below h.b.size (fun k hk => h.f k hk)), ?_, hF.owns h.vn (fun g hg hf => h.vf g hg hf), ?_⟩
  · intro b hb
    rcases hsub b hb with h1 | h1
    · exact h.f b h1
    · exact Nat.le_trans h.b.size h1
  · intro g hg hf
    rcases hsub g hf with h1 | h1
    · exact h.vf g hg h1
    · have := own_lt h.vn g hg; omega
theorem OtW.stay (h : OtW w t F s v vs w2) (hB : Below w2.heap.size w2 w') : OtW w t F s v vs w' := by
  have hF : Frm (fun _ => False) w2 w' := Frm.of_below hB _
  exact ⟨h.h.stay hF (fun _ _ => id), h.b.trans (hB.mono h.b.size), h.f, hF.owns h.vn (fun _ _ => id), h.vf⟩
/-- What an act leaves. -/
def OtR (w : World) (t : Nat) (n0 : List Go.HK.HN) (v : Value) (vs : List Ent) (e : Ending) (w' : World) : Prop :=
  ∃ a b, e = .returned (.tuple #[a, b]) ∧ ∃ F s, OtW w t F s v vs w' ∧ Ext n0 s.1
variable {n0 : List Go.HK.HN}
theorem other_do (hW : OtW w t F s v vs w2) (hE : Ext n0 s.1) (st note : ByteArray) (tick : Int) (hs : st.size ≤ 16384) (hn : note.size ≤ 100) :
    Calls Try.prog 17 #[.pointer (some ⟨t, 0, none⟩), .string st, .string note, .int .i64 tick] w2 (OtR w t n0 v vs) := by
  refine (do_any hW.h st note tick hs hn).mono fun e w' ⟨h1, h2⟩ => ?_
  cases hd : doR s.1 s.2 st note tick with
  | some k =>
    obtain ⟨h3, h4⟩ := h1 k hd
    exact ⟨_, _, h3, F, s, hW.stay h4, hE⟩
  | none =>
    obtain ⟨h3, h4⟩ := h2 hd
    obtain ⟨F', h5⟩ := hW.step (s' := (lead (addN s.1 s.2 tick note st) s.1.length, s.1.length)) h4
    exact ⟨_, _, h3, F', _, h5, hE.trans ((Ext.addN _ _ _ _ _).trans (Ext.lead _ _))⟩
theorem other_undo (hW : OtW w t F s v vs w2) (hE : Ext n0 s.1) : Calls Try.prog 15 #[.pointer (some ⟨t, 0, none⟩)] w2 (OtR w t n0 v vs) := by
  by_cases h0 : s.2 = 0
  · have hh := hW.h
    rw [h0] at hh
    exact (undo_root hh).mono fun e w' ⟨h1, h2⟩ => ⟨_, _, h1, F, s, h2 ▸ hW, hE⟩
  · refine (undo_up hW.h h0).mono fun e w' ⟨h1, h2⟩ => ?_
    obtain ⟨F', h'⟩ := hW.step (s' := undoS s) h2
    exact ⟨_, _, h1, F', _, h', hE⟩
theorem other_redo (hW : OtW w t F s v vs w2) (hE : Ext n0 s.1) : Calls Try.prog 16 #[.pointer (some ⟨t, 0, none⟩)] w2 (OtR w t n0 v vs) := by
  rcases hW.h.1.fav s.2 hW.h.1.now with h0 | ⟨y, hy, hyl, _⟩
  · exact (redo_none hW.h h0).mono fun e w' ⟨h1, h2⟩ => ⟨_, _, h1, F, s, hW.stay h2, hE⟩
  · refine (redo_down hW.h y hy hyl).mono fun e w' ⟨h1, h2⟩ => ?_
    obtain ⟨F', h'⟩ := hW.step (s' := (s.1, y)) h2
    exact ⟨_, _, h1, F', _, h', hE⟩
theorem other_go (hW : OtW w t F s v vs w2) (hE : Ext n0 s.1) (z : Int) (x : Nat) (hz : z = x) (hx : x < s.1.length) : Calls Try.prog 18 #[.pointer (some ⟨t, 0, none⟩), .int .i64 z] w2 (OtR w t n0 v vs) := by
  subst hz
  refine (go_yes hW.h x hx).mono fun e w' ⟨h1, h2⟩ => ?_
  obtain ⟨F', h'⟩ := hW.step (s' := goS s x) h2
  exact ⟨_, _, h1, F', _, h', hE.trans (Ext.lead _ _)⟩
end
end Go.Proofs.Ythneinepdbkgeaa
