/- Two trees side by side: what HistorySaves does with both. -/
import Derived.Test.YthneinepdbkgeaaOpen
namespace Go.Proofs.Ythneinepdbkgeaa
open Go.RowKit Go.HK
set_option linter.unusedVariables false
set_option linter.unusedSimpArgs false
set_option linter.unusedSectionVars false
theorem below_on {B : Nat} {a b c : World} (h : Below B a b) (k : Below b.heap.size b c) (hB : B ≤ b.heap.size) : Below B a c := h.trans (k.mono hB)
/-- Two trees in memory, apart from each other. -/
structure TwW (w : World) (t u : Nat) (F G : List Nat) (s r : HS) (wr : World) : Prop where
  h1 : Hist wr t F s.1 s.2
  h2 : Hist wr u G r.1 r.2
  b : Below w.heap.size w wr
  f : ∀ k ∈ F, w.heap.size ≤ k
  g : ∀ k ∈ G, w.heap.size ≤ k
  d : ∀ k ∈ F, k ∉ G
/-- They have the same entries, and the same present one; in the second one Redo goes the way back. -/
structure Sim (s r : HS) : Prop where
  e : ents s.1 = ents r.1
  n : s.2 = r.2
  l : Led r.1 r.2
theorem Sim.par {s r : HS} (h : Sim s r) : parF s.1 = parF r.1 := funext fun x => by rw [parF_ents, parF_ents, h.e]
theorem Sim.tick {s r : HS} (h : Sim s r) : tickF s.1 = tickF r.1 := funext fun x => by rw [tickF_ents, tickF_ents, h.e]
theorem Sim.state {s r : HS} (h : Sim s r) : stateF s.1 = stateF r.1 := funext fun x => by rw [stateF_ents, stateF_ents, h.e]
theorem Sim.len {s r : HS} (h : Sim s r) : s.1.length = r.1.length := by rw [← ents_len, h.e, ents_len]
section
variable {w wr w' : World} {t u : Nat} {F G : List Nat} {s r s' : HS}
theorem TwW.stay (h : TwW w t u F G s r wr) (hB : Below wr.heap.size wr w') : TwW w t u F G s r w' :=
  ⟨h.h1.stay (Frm.of_below hB (fun _ => False)) (fun _ _ => id), h.h2.stay (Frm.of_below hB (fun _ => False)) (fun _ _ => id), h.b.trans (hB.mono h.b.size), h.f, h.g, h.d⟩
theorem TwW.step1 (h : TwW w t u F G s r wr) (hp : HPost wr t F s'.1 s'.2 w') : ∃ F', TwW w t u F' G s' r w' := by
  obtain ⟨F', hH, hF, hsub⟩ := hp
  refine ⟨F', hH, h.h2.stay hF (fun b hb hf => h.d b hf hb), h.b.trans (hF.below h.b.size (fun k hk => h.f k hk)), fun k hk => ?_, h.g, fun k hk hg => ?_⟩
  · rcases hsub k hk with h1 | h1
    · exact h.f k h1
    · exact Nat.le_trans h.b.size h1
  · rcases hsub k hk with h1 | h1
    · exact h.d k h1 hg
    · have := h.h2.lt k hg; omega
theorem TwW.step2 (h : TwW w t u F G s r wr) (hp : HPost wr u G s'.1 s'.2 w') : ∃ G', TwW w t u F G' s s' w' := by
  obtain ⟨G', hH, hF, hsub⟩ := hp
  refine ⟨G', h.h1.stay hF (fun b hb hf => h.d b hb hf), hH, h.b.trans (hF.below h.b.size (fun k hk => h.g k hk)), h.f, fun k hk => ?_, fun k hk hg => ?_⟩
  · rcases hsub k hk with h1 | h1
    · exact h.g k h1
    · exact Nat.le_trans h.b.size h1
  · rcases hsub k hg with h1 | h1
    · exact h.d k hk h1
    · have := h.h1.lt k hk; omega
end
/-- What Do leaves: the error's number, and the tree. -/
def doOut (s : HS) (st : ByteArray) (tick : Int) : Int × HS :=
  match doR s.1 s.2 st ⟨#[]⟩ tick with
  | some k => (k, s)
  | none => (0, (lead (addN s.1 s.2 tick ⟨#[]⟩ st) s.1.length, s.1.length))
def undoOut (s : HS) : (ByteArray × Int) × HS := if s.2 = 0 then ((⟨#[]⟩, 6), s) else ((stateF s.1 (parF s.1 s.2).toNat, 0), (s.1, (parF s.1 s.2).toNat))
theorem Sim.doR {s r : HS} (h : Sim s r) (st : ByteArray) (tick : Int) : doR s.1 s.2 st ⟨#[]⟩ tick = doR r.1 r.2 st ⟨#[]⟩ tick := by
  unfold Ythneinepdbkgeaa.doR
  rw [h.tick, h.state, h.len, h.n]
theorem Sim.do1 {s r : HS} (h : Sim s r) (st : ByteArray) (tick : Int) : (doOut s st tick).1 = (doOut r st tick).1 := by
  unfold doOut
  rw [h.doR]
  split <;> rfl
theorem Sim.do2 {s r : HS} (h : Sim s r) (hw : WF r.1 r.2) (st : ByteArray) (tick : Int) : Sim (doOut s st tick).2 (doOut r st tick).2 := by
  unfold doOut
  rw [h.doR]
  split
  · exact h
  · rename_i hd
    have hlt : r.1.length < 1000 := by
      have := hw.le
      unfold Ythneinepdbkgeaa.doR at hd
      split at hd
      · cases hd
      · split at hd
        · cases hd
        · split at hd
          · cases hd
          · omega
    refine ⟨?_, h.len, Led.lead (hw.addN hw.now hlt _ _ _) (by simp)⟩
    rw [ents_lead, ents_lead, ents_addN, ents_addN, h.e, h.n]
theorem Sim.undo1 {s r : HS} (h : Sim s r) : (undoOut s).1 = (undoOut r).1 := by
  unfold undoOut
  rw [h.n, h.par, h.state]
  split <;> rfl
theorem Sim.undo2 {s r : HS} (h : Sim s r) (hw : WF r.1 r.2) : Sim (undoOut s).2 (undoOut r).2 := by
  unfold undoOut
  rw [h.n]
  split
  · exact h
  · rename_i h0
    exact ⟨h.e, by simp [h.par], h.l.undo hw h0⟩
theorem Sim.go {s r : HS} (h : Sim s r) (hw : WF r.1 r.2) {x : Nat} (hx : x < r.1.length) : Sim (goS s x) (goS r x) :=
  ⟨by show ents (lead _ _) = ents (lead _ _); rw [ents_lead, ents_lead, h.e], rfl, Led.lead hw hx⟩
section
variable {w wr w' : World} {t u : Nat} {F G : List Nat} {s r : HS}
/-- What an operation on the first tree leaves. -/
def One (w : World) (t u : Nat) (G : List Nat) (a : Value) (E : Int) (s' r : HS) (e : Ending) (w' : World) : Prop := e = .returned (.tuple #[a, .int .i64 E]) ∧ ∃ F', TwW w t u F' G s' r w'
/-- .. on the second one. -/
def Two (w : World) (t u : Nat) (F : List Nat) (a : Value) (E : Int) (s r' : HS) (e : Ending) (w' : World) : Prop := e = .returned (.tuple #[a, .int .i64 E]) ∧ ∃ G', TwW w t u F G' s r' w'
theorem one_do (h : TwW w t u F G s r wr) (st : ByteArray) (tick : Int) (hs : st.size ≤ 16384) :
    Calls Try.prog 17 #[.pointer (some ⟨t, 0, none⟩), .string st, .string ⟨#[]⟩, .int .i64 tick] wr (fun e w' => ∃ a, One w t u G a (doOut s st tick).1 (doOut s st tick).2 r e w') := by
  refine (do_any h.h1 st ⟨#[]⟩ tick hs (by decide)).mono fun e w' ⟨h1, h2⟩ => ?_
  unfold doOut
  cases hd : doR s.1 s.2 st ⟨#[]⟩ tick with
  | some k =>
    obtain ⟨h3, h4⟩ := h1 k hd
    exact ⟨_, h3, F, h.stay h4⟩
  | none =>
    obtain ⟨h3, h4⟩ := h2 hd
    exact ⟨_, h3, h.step1 (s' := (lead (addN s.1 s.2 tick ⟨#[]⟩ st) s.1.length, s.1.length)) h4⟩
theorem two_do (h : TwW w t u F G s r wr) (st : ByteArray) (tick : Int) (hs : st.size ≤ 16384) :
    Calls Try.prog 17 #[.pointer (some ⟨u, 0, none⟩), .string st, .string ⟨#[]⟩, .int .i64 tick] wr (fun e w' => ∃ a, Two w t u F a (doOut r st tick).1 s (doOut r st tick).2 e w') := by
  refine (do_any h.h2 st ⟨#[]⟩ tick hs (by decide)).mono fun e w' ⟨h1, h2⟩ => ?_
  unfold doOut
  cases hd : doR r.1 r.2 st ⟨#[]⟩ tick with
  | some k =>
    obtain ⟨h3, h4⟩ := h1 k hd
    exact ⟨_, h3, G, h.stay h4⟩
  | none =>
    obtain ⟨h3, h4⟩ := h2 hd
    exact ⟨_, h3, h.step2 (s' := (lead (addN r.1 r.2 tick ⟨#[]⟩ st) r.1.length, r.1.length)) h4⟩
theorem one_undo (h : TwW w t u F G s r wr) : Calls Try.prog 15 #[.pointer (some ⟨t, 0, none⟩)] wr (One w t u G (.string (undoOut s).1.1) (undoOut s).1.2 (undoOut s).2 r) := by
  unfold undoOut
  by_cases h0 : s.2 = 0
  · rw [if_pos h0]
    have hh := h.h1
    rw [h0] at hh
    exact (undo_root hh).mono fun e w' ⟨h1, h2⟩ => ⟨h1, F, h2 ▸ h⟩
  · rw [if_neg h0]
    exact (undo_up h.h1 h0).mono fun e w' ⟨h1, h2⟩ => ⟨h1, h.step1 (s' := (s.1, (parF s.1 s.2).toNat)) h2⟩
theorem two_undo (h : TwW w t u F G s r wr) : Calls Try.prog 15 #[.pointer (some ⟨u, 0, none⟩)] wr (Two w t u F (.string (undoOut r).1.1) (undoOut r).1.2 s (undoOut r).2) := by
  unfold undoOut
  by_cases h0 : r.2 = 0
  · rw [if_pos h0]
    have hh := h.h2
    rw [h0] at hh
    exact (undo_root hh).mono fun e w' ⟨h1, h2⟩ => ⟨h1, G, h2 ▸ h⟩
  · rw [if_neg h0]
    exact (undo_up h.h2 h0).mono fun e w' ⟨h1, h2⟩ => ⟨h1, h.step2 (s' := (r.1, (parF r.1 r.2).toNat)) h2⟩
theorem one_go (h : TwW w t u F G s r wr) (z : Int) (x : Nat) (hz : z = x) (hx : x < s.1.length) : Calls Try.prog 18 #[.pointer (some ⟨t, 0, none⟩), .int .i64 z] wr (One w t u G (.string (stateF s.1 x)) 0 (goS s x) r) := by
  subst hz
  exact (go_yes h.h1 x hx).mono fun e w' ⟨h1, h2⟩ => ⟨h1, h.step1 (s' := goS s x) h2⟩
theorem two_go (h : TwW w t u F G s r wr) (z : Int) (x : Nat) (hz : z = x) (hx : x < r.1.length) : Calls Try.prog 18 #[.pointer (some ⟨u, 0, none⟩), .int .i64 z] wr (Two w t u F (.string (stateF r.1 x)) 0 s (goS r x)) := by
  subst hz
  exact (go_yes h.h2 x hx).mono fun e w' ⟨h1, h2⟩ => ⟨h1, h.step2 (s' := goS r x) h2⟩
/-- Undo of the second tree, and Redo behind it. -/
theorem two_up (h : TwW w t u F G s r wr) (h0 : r.2 ≠ 0) : Calls Try.prog 15 #[.pointer (some ⟨u, 0, none⟩)] wr (fun e w' => ∃ A, Two w t u F (.string A) 0 s (r.1, (parF r.1 r.2).toNat) e w') :=
  (undo_up h.h2 h0).mono fun e w' ⟨h1, h2⟩ => ⟨_, h1, h.step2 (s' := (r.1, (parF r.1 r.2).toNat)) h2⟩
theorem two_down (hw : WF r.1 r.2) (hl : Led r.1 r.2) (h : TwW w t u F G s (r.1, (parF r.1 r.2).toNat) wr) (h0 : r.2 ≠ 0) : Calls Try.prog 16 #[.pointer (some ⟨u, 0, none⟩)] wr (Two w t u F (.string (stateF r.1 r.2)) 0 s r) := by
  have hf := hl r.2 (upL_self hw hw.now) h0
  exact (redo_down h.h2 r.2 hf hw.now).mono fun e w' ⟨h1, h2⟩ => ⟨h1, h.step2 (s' := r) h2⟩
theorem two_now (h : TwW w t u F G s r wr) (hn : s.2 = r.2) : Calls Try.prog 14 #[.pointer (some ⟨u, 0, none⟩)] wr fun e w' => e = .returned (.tuple #[.int .i64 s.2, .string (stateF r.1 r.2)]) ∧ Below wr.heap.size wr w' := by
  rw [hn]; exact now_any h.h2
theorem two_root (h : TwW w t u F G s r wr) (h0 : r.2 = 0) : Calls Try.prog 15 #[.pointer (some ⟨u, 0, none⟩)] wr fun e w' => e = .returned (.tuple #[.string ⟨#[]⟩, .int .i64 6]) ∧ wr = w' := by
  have hh := h.h2
  rw [h0] at hh
  exact undo_root hh
theorem two_save (h : TwW w t u F G s r wr) (hs : Sim s r) : Calls Try.prog 19 #[.pointer (some ⟨u, 0, none⟩)] wr (RetV wr (ents s.1) s.2) := by
  rw [hs.e, hs.n]; exact save_any h.h2
/-- What lies in the slots behind the switch. -/
def SvR (w : World) (t u : Nat) (a b x y : Value) (wx : World) : Prop := ∃ (A : ByteArray) (E : Int) (F G : List Nat) (s r : HS), a = .string A ∧ b = .string A ∧ x = .int .i64 E ∧ y = .int .i64 E ∧ TwW w t u F G s r wx ∧ Sim s r
end
end Go.Proofs.Ythneinepdbkgeaa
