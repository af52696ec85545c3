/- Proofs as data; the steps of a proof; proofs and places in memory; slices.Clone at []int. -/
import Derived.Test.YtfebcpmbkljaoaaRows
import Derived.Test.YtfebcpmbkljaoaaRng
import Derived.BigRegion
import Derived.Lib.BufferMore
import Derived.Lib.Hide
import Derived.IntWalk
namespace Go.Proofs.Ytfebcpmbkljaoaa
open Go.RowKit
set_option linter.unusedVariables false
set_option linter.unusedSimpArgs false
set_option linter.unusedSectionVars false
/-- A slice's header. -/
structure SL where
  a : Option Addr
  n : Nat
  c : Nat
def SL.v (s : SL) : Value := .slice s.a s.n s.c
/-- The other fields of a proof. -/
structure PO where
  op : Int
  name : ByteArray
  args : SL
  fsub : SL
  label : Int
  marks : SL
/-- A proof. -/
inductive PT where
  | node (r : ByteArray) (o : PO) (s : List PT)
def PT.rule : PT → ByteArray
  | .node r _ _ => r
def PT.o : PT → PO
  | .node _ o _ => o
def PT.subs : PT → List PT
  | .node _ _ s => s
mutual
def sizeT : PT → Nat
  | .node _ _ s => 1 + sizeF s
def sizeF : List PT → Nat
  | [] => 0
  | t :: ts => sizeT t + sizeF ts
end
/-- A step: its place, its weight, its part. -/
structure StepD where
  pl : List Nat
  wt : Nat
  t : PT
mutual
/-- The steps of the part at a place, with a weight. -/
def stepsT (pl : List Nat) (w : Nat) : PT → List StepD
  | .node r o s => ⟨pl, w, .node r o s⟩ :: stepsF pl (w / (2 * s.length)) 0 s
def stepsF (pl : List Nat) (w : Nat) (i : Nat) : List PT → List StepD
  | [] => []
  | t :: ts => stepsT (pl ++ [i]) w t ++ stepsF pl w (i + 1) ts
end
theorem stepsT_eq (pl : List Nat) (w : Nat) (t : PT) : stepsT pl w t = ⟨pl, w, t⟩ :: stepsF pl (w / (2 * t.subs.length)) 0 t.subs := by
  cases t; simp [stepsT, PT.subs]
mutual
theorem steps_size (pl : List Nat) (w : Nat) : ∀ t : PT, (stepsT pl w t).length = sizeT t
  | .node r o s => by simp [stepsT, sizeT, stepsF_size pl (w / (2 * s.length)) 0 s, Nat.add_comm]
theorem stepsF_size (pl : List Nat) (w : Nat) (i : Nat) : ∀ ts : List PT, (stepsF pl w i ts).length = sizeF ts
  | [] => by simp [stepsF, sizeF]
  | t :: ts => by simp [stepsF, sizeF, steps_size (pl ++ [i]) w t, stepsF_size pl w (i + 1) ts]
end
theorem sizeT_eq (t : PT) : sizeT t = 1 + sizeF t.subs := by cases t; simp [sizeT, PT.subs]
theorem sizeT_pos (t : PT) : 1 ≤ sizeT t := by rw [sizeT_eq]; omega
theorem sizeF_mem {ts : List PT} {i : Nat} {t : PT} (h : ts[i]? = some t) : sizeT t ≤ sizeF ts := by
  induction ts generalizing i with
  | nil => simp at h
  | cons u ts ih =>
    cases i with
    | zero => simp only [List.getElem?_cons_zero, Option.some.injEq] at h; subst h; simp [sizeF]
    | succ i => have := ih (i := i) (by simpa using h); simp only [sizeF]; omega
theorem sizeF_len (ts : List PT) : ts.length ≤ sizeF ts := by
  induction ts with
  | nil => simp
  | cons t ts ih => have := sizeT_pos t; simp only [List.length_cons, sizeF]; omega
theorem stepsF_append (pl : List Nat) (w : Nat) : ∀ (i : Nat) (ts us : List PT), stepsF pl w i (ts ++ us) = stepsF pl w i ts ++ stepsF pl w (i + ts.length) us
  | i, [], us => by simp [stepsF]
  | i, t :: ts, us => by
    simp only [List.cons_append, stepsF, stepsF_append pl w (i + 1) ts us, List.length_cons, List.append_assoc]
    rw [show i + 1 + ts.length = i + (ts.length + 1) by omega]
theorem stepsF_take {pl : List Nat} {w k : Nat} {ts : List PT} {t : PT} (h : ts[k]? = some t) : stepsF pl w 0 (ts.take (k + 1)) = stepsF pl w 0 (ts.take k) ++ stepsT (pl ++ [k]) w t := by
  obtain ⟨hl, he⟩ := List.getElem?_eq_some_iff.1 h
  rw [List.take_succ_eq_append_getElem hl, he, stepsF_append]
  simp only [stepsF, List.append_nil, List.length_take, Nat.zero_add]
  rw [show min k ts.length = k by omega]
theorem stepsF_prefix (pl : List Nat) (w k : Nat) (ts : List PT) : stepsF pl w 0 (ts.take k) <+: stepsF pl w 0 ts := by
  conv => rhs; rw [← List.take_append_drop k ts, stepsF_append]
  exact List.prefix_append _ _

/-! ### in memory -/
/-- The cells of a proof. -/
def PT.vals (t : PT) (sv : SL) : List Value := [.string t.rule, .int .u8 t.o.op, .string t.o.name, t.o.args.v, t.o.fsub.v, .int .i64 t.o.label, sv.v, t.o.marks.v]
/-- Premises in memory, in blocks below n0. -/
inductive IsPs (n0 : Nat) (W : World) : SL → List PT → Prop
  | nil (a : Option Addr) (c : Nat) : IsPs n0 W ⟨a, 0, c⟩ []
  | row (g o c : Nat) (ts : List PT) (sv : Nat → SL) (hg : g < n0) (hc : ∀ (i : Nat) t, ts[i]? = some t → ∀ (j : Nat) v, (t.vals (sv i))[j]? = some v → W.cell? ⟨g, o + i * 8 + j, none⟩ = some v)
      (hs : ∀ (i : Nat) t, ts[i]? = some t → IsPs n0 W (sv i) t.subs) : IsPs n0 W ⟨some ⟨g, o, none⟩, ts.length, c⟩ ts
theorem IsPs.same {n0 : Nat} {W W' : World} {s : SL} {ts : List PT} (h : IsPs n0 W s ts) (hb : ∀ k, k < n0 → W'.heap[k]? = W.heap[k]?) : IsPs n0 W' s ts := by
  induction h with
  | nil a c => exact .nil a c
  | row g o c ts sv hg hc hs ih => exact .row g o c ts sv hg (fun i t ht j v hv => (World.cell?_of_block (hb g hg)).trans (hc i t ht j v hv)) ih
theorem IsPs.len {n0 : Nat} {W : World} {s : SL} {ts : List PT} (h : IsPs n0 W s ts) : s.n = ts.length := by cases h <;> rfl
def ints (xs : List Nat) : List Value := xs.map (fun n : Nat => Value.int .i64 n)
theorem ints_length (xs : List Nat) : (ints xs).length = xs.length := by simp [ints]
/-- A place in memory. -/
def PlaceB (W : World) (s : SL) (pl : List Nat) : Prop := W.ownsRow 0 3 1 s.v pl.length (ints pl)
theorem PlaceB.nil (W : World) : PlaceB W ⟨none, 0, 0⟩ [] := World.ownsRow_nil _ _ _ _
theorem PlaceB.sn {W : World} {s : SL} {pl : List Nat} (h : PlaceB W s pl) : s.n = pl.length := by
  rcases h.2 with ⟨h0, h1⟩ | ⟨g, cap, cur, hv, _⟩
  · simp only [SL.v, Value.slice.injEq] at h0; omega
  · simp only [SL.v, Value.slice.injEq] at hv; omega
/-- Another world in which the place's block lies as it lay. -/
theorem PlaceB.same {W W' : World} {s : SL} {pl : List Nat} (h : PlaceB W s pl) (hb : ∀ k, s.v.ownBlock = some k → W'.heap[k]? = W.heap[k]?) : PlaceB W' s pl := by
  refine ⟨h.1, ?_⟩
  rcases h.2 with h0 | ⟨g, cap, cur, hv, hg, hh, r⟩
  · exact .inl h0
  · exact .inr ⟨g, cap, cur, hv, hg, (hb g (by rw [hv]; rfl)).trans hh, r⟩
theorem PlaceB.lt {W : World} {s : SL} {pl : List Nat} (h : PlaceB W s pl) {k : Nat} (hk : s.v.ownBlock = some k) : k < W.heap.size := (World.ownsRow.lt h k hk).2
theorem infoI : (Try.prog.info? 3).map (fun i => (i.zero, i.size, i.bytes)) = some (some (.int .i64 0), 1, 8) := by kernel_rfl
/-- A copy of a place: a row of the call's own. -/
def RetCl (w : World) (pl : List Nat) (e : Ending) (w' : World) : Prop := ∃ v, e = .returned v ∧ w'.ownsRow w.heap.size 3 1 v pl.length (ints pl) ∧ Below w.heap.size w w'
set_option maxRecDepth 100000 in
set_option maxHeartbeats 2000000 in
theorem clone_any (w : World) (s : SL) (pl : List Nat) (hn : pl.length ≤ 20000) (h : PlaceB w s pl) : Calls Try.prog 65 #[s.v] w (RetCl w pl) := by
  rcases h.2 with ⟨h0, h1⟩ | ⟨g, cap, cur, hv, hg, hh, hle, hcm, _⟩
  · rw [h0]
    have hp : pl = [] := List.length_eq_zero_iff.1 h1
    subst hp
    have he : (binOp .eql 37 (.slice none 0 0) (.slice none 0 0)).run Try.prog w = .ok (.bool true) w := Lib.run_eql_slice_nil w 37 3 none 0 0 0 0 Try.underlying37
    clear h h0 h1
    go_enter Try.func65, Try.ntmps65
    go_wp2
    go_ret
    exact ⟨_, rfl, World.ownsRow_nil _ _ _ _, Below.refl _ _⟩
  · have hc := h.cells (by rw [hv]; rfl)
    rw [hv]
    obtain ⟨i0, hi, hz0, hz1, hz2⟩ := info_parts infoI
    have he : (binOp .eql 37 (.slice (some ⟨g, 0, none⟩) pl.length cap) (.slice none 0 0)).run Try.prog w = .ok (.bool false) w := Lib.run_eql_slice_nil w 37 3 (some ⟨g, 0, none⟩) pl.length cap 0 0 Try.underlying37
    have h0 : (w.alloc (.cells #[] 3)).ownsRow w.heap.size 3 1 (.slice (some ⟨w.heap.size, 0, none⟩) 0 0) 0 [] := World.ownsRow_lit w #[] 0 (Nat.le_refl _) (by simp [maxLen]) rfl
    have hc' : ∀ j u, (ints pl)[j]? = some u → (w.alloc (.cells #[] 3)).cell? ((⟨g, 0, none⟩ : Addr).add j) = some u := fun j u hj =>
      (World.cell?_of_block (Below.heap_alloc w _ _ (World.block_lt_of_cell? w _ (hc j u hj)))).trans (hc j u hj)
    clear h hv hh hc
    go_enter Try.func65, Try.ntmps65
    go_wp2_with (
      at_builtin
      refine wpList_append_own _ rfl _ _ 37 rfl w.heap.size 3 i0 (.int .i64 0) 1 8 Try.underlying37 hi hz0 hz1 hz2 rfl (by decide) (.slice (some ⟨w.heap.size, 0, none⟩) 0 0) 0 [] rfl h0 ⟨g, 0, none⟩ pl.length cap (ints pl) rfl (by simp [ints_length]) hc' (by intro u hu; simp [ints] at hu; obtain ⟨q, _, rfl⟩ := hu; simp [Value.oneCell']) (by simp only [maxLen]; omega) (by omega) (by simp) ?_
      intro v' w1 hown1 hgrow hnil)
    go_ret
    exact ⟨v', rfl, by simpa using hown1, ((Below.refl _ w).alloc (Nat.le_refl _) _).grown hgrow (by simp) (fun k e => by cases e; exact Nat.le_refl _)⟩
end Go.Proofs.Ytfebcpmbkljaoaa
