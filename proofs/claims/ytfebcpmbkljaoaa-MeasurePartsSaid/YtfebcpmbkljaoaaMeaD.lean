/- The walk of measurable. -/
import Derived.Test.YtfebcpmbkljaoaaMeaC
namespace Go.Proofs.Ytfebcpmbkljaoaa
open Go.RowKit Go.HR
set_option linter.unusedVariables false
set_option linter.unusedSimpArgs false
set_option linter.unusedSectionVars false
attribute [local go_sem] Oper.semAt_some wide_fn asked_wide wide_depth
def okD (d : StepD) : Bool := decide (d.pl.length ≤ 40) && decide (d.t.subs.length ≤ 8) && !(decide (d.t.rule = ⟨#[63]⟩) && decide (0 < d.t.subs.length))
/-- Is a proof measurable? -/
def measT (t : PT) : Bool := decide (sizeT t ≤ 300) && (stepsT [] whole t).all okD
theorem okD_on {d : StepD} (h1 : d.pl.length ≤ 40) (h2 : d.t.subs.length ≤ 8) (h3 : d.t.rule ≠ ⟨#[63]⟩ ∨ d.t.subs.length = 0) : okD d = true := by
  unfold okD
  rcases h3 with h | h
  · simp [h1, h2, h]
  · simp [h1, h]
theorem okD_off {d : StepD} (h : 40 < d.pl.length ∨ 8 < d.t.subs.length ∨ (d.t.rule = ⟨#[63]⟩ ∧ 0 < d.t.subs.length)) : okD d = false := by
  unfold okD
  rcases h with h | h | ⟨h, h'⟩
  · simp [show ¬ d.pl.length ≤ 40 by omega]
  · simp [show ¬ d.t.subs.length ≤ 8 by omega]
  · rw [h]; simp [h']
theorem not_hole {r : ByteArray} (h : ¬ r = ⟨#[63]⟩) : ¬ r.toList = [63] := fun e => h (by
  rw [ByteArray.toList_eq] at e
  obtain ⟨d⟩ := r
  have : d = #[63] := Array.ext' (by simpa using e)
  rw [this])
theorem turn_heap {B : Nat} {A C : World} (h : Turn B A C) {k : Nat} {o : Obj} (hk : A.heap[k]? = some o) (hB : k < B ∨ o.isCells = true) : C.heap[k]? = some o := h.same k o hk hB
theorem IsPs.turn {n0 : Nat} {W W' : World} {s : SL} {ts : List PT} (h : IsPs n0 W s ts) (hb : ∀ k o, k < n0 → W.heap[k]? = some o → W'.heap[k]? = some o) : IsPs n0 W' s ts := by
  induction h with
  | nil a c => exact .nil a c
  | row g o c ts sv hg hc hs ih =>
    refine .row g o c ts sv hg (fun i t ht j v hv => ?_) ih
    have h1 := hc i t ht j v hv
    have hlt := World.block_lt_of_cell? W _ h1
    exact (World.cell?_of_block ((hb g _ hg (Array.getElem?_eq_getElem hlt)).trans (Array.getElem?_eq_getElem hlt).symm)).trans h1
theorem PlaceB.turn {B : Nat} {W W' : World} {s : SL} {pl : List Nat} (h : PlaceB W s pl) (ht : Turn B W W') : PlaceB W' s pl := by
  refine ⟨h.1, ?_⟩
  rcases h.2 with h0 | ⟨g, cap, cur, hv, hg, hh, r⟩
  · exact .inl h0
  · exact .inr ⟨g, cap, cur, hv, hg, ht.same _ _ hh (.inr rfl), r⟩
theorem ToldS.turn {n0 B : Nat} {x : StepV} {A C : World} (h : ToldS n0 x A) (ht : Turn B A C) (hB : n0 ≤ B) : ToldS n0 x C := ⟨h.1.turn ht, h.2.turn fun k o hk ho => ht.same k o ho (.inl (by omega))⟩
theorem below_turn {B b : Nat} {w A C : World} (h : Below b w A) (ht : Turn B A C) (hb : b ≤ B) (hw : b ≤ w.heap.size) : Below b w C :=
  ⟨ht.os.trans h.os, ht.tape.trans h.tape, ht.output.trans h.output, Nat.le_trans h.size ht.size, fun k hk => by
    have h1 := h.block k hk
    have h2 := h.size
    have hlt : k < w.heap.size := by omega
    rw [Array.getElem?_eq_getElem hlt] at h1
    exact (ht.same k _ h1 (.inl (by omega))).trans (Array.getElem?_eq_getElem hlt).symm⟩
end Go.Proofs.Ytfebcpmbkljaoaa
