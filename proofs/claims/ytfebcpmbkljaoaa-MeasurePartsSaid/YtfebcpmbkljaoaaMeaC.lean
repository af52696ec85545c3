/- The iterator over the steps of a proof, as a contract for whoever ranges over it. -/
import Derived.Test.YtfebcpmbkljaoaaMeaB
import Derived.Laws.EntriesVeiled
namespace Go.Proofs.Ytfebcpmbkljaoaa
open Go.RowKit Go.HR
set_option linter.unusedVariables false
set_option linter.unusedSimpArgs false
set_option linter.unusedSectionVars false
attribute [local go_sem] Oper.semAt_some wide_fn asked_wide wide_depth
/-- The cells of a proof that lies in a box of its own. -/
def PT.arr (t : PT) (sv : SL) : Array Value := #[.string t.rule, .int .u8 t.o.op, .string t.o.name, t.o.args.v, t.o.fsub.v, .int .i64 t.o.label, sv.v, t.o.marks.v]
set_option maxRecDepth 100000 in
set_option maxHeartbeats 1000000 in
theorem steps_in (w : World) (t : PT) (sv : SL) (k : Nat) : CallsIn Fence.wide k Try.prog 55 #[.agg (t.arr sv)] w fun e w' => e = .returned (.func (.func 73) #[] #[.pointer (some ⟨w.heap.size, 0, none⟩)]) ∧ w' = w.alloc (.cells (t.arr sv) 30) := by
  obtain ⟨rule, ⟨op, name, ⟨aa, an, ac⟩, ⟨fa, fn, fc⟩, label, ⟨ma, mn, mc⟩⟩, subs⟩ := t
  obtain ⟨sa, sn, sc⟩ := sv
  simp only [PT.arr, PT.rule, PT.o, SL.v]
  refine callsIn_of_wp Try.func55 rfl trivial ?_ rfl
  simp only [Try.ntmps55, List.size_toArray, List.length_cons, List.length_nil, Nat.reduceAdd, Nat.reduceSub, Array.replicate_succ, Array.replicate_zero, List.push_toArray, List.append_toArray, List.nil_append, List.cons_append]
  gi_wp2
  go_ret
  exact ⟨rfl, rfl⟩
def whole : Nat := 2 ^ 60
set_option maxRecDepth 100000 in
set_option maxHeartbeats 4000000 in
theorem steps_seq (k : Nat) (w : World) (t : PT) (sv : SL) (Bp n0 : Nat) (hB : w.heap[Bp]? = some (.cells (t.arr sv) 30 (0, 0))) (hs : IsPs n0 w sv t.subs) (hn : n0 ≤ w.heap.size) (hsz : sizeT t ≤ 10000) :
    SeqT Fence.wide k Try.prog 73 #[.pointer (some ⟨Bp, 0, none⟩)] encS (ToldS n0) (fun j => j < n0 ∨ j = Bp) (fun xs _ => xs.map (·.d) = stepsT [] whole t) (fun pre _ => pre.map (·.d) <+: stepsT [] whole t) (sizeT t) w := by
  intro Safe l J Jx W hW hwl hlW hSafe hK hJ hJx hY h0
  have hBW : W.heap[Bp]? = some (.cells (t.arr sv) 30 (0, 0)) := (hW.block _ (HK.blk_lt hB)).trans hB
  have hsW : IsPs n0 W sv t.subs := hs.same fun j hj => hW.block j (by omega)
  obtain ⟨Wv, hWv⟩ : ∃ Wv, Wv = (W.alloc (.cells #[.func (.yield l) #[] #[]] 111)).alloc (.cells #[.func (.func 74) #[] #[.pointer (some ⟨W.heap.size, 0, none⟩), .pointer (some ⟨W.heap.size + 1, 0, none⟩)]] 111) := ⟨_, rfl⟩
  have hl : Later W Wv := by rw [hWv]; exact ((Below.refl _ W).alloc (Nat.le_refl _) _).alloc (by simp) _
  have hv1 : Wv.heap[W.heap.size]? = some (.cells #[.func (.yield l) #[] #[]] 111 (0, 0)) := by rw [hWv]; exact HK.blk_alloc (HK.blk_new _ _) _
  have hv2 : Wv.heap[W.heap.size + 1]? = some (.cells #[.func (.func 74) #[] #[.pointer (some ⟨W.heap.size, 0, none⟩), .pointer (some ⟨W.heap.size + 1, 0, none⟩)]] 111 (0, 0)) := by
    rw [hWv]; have := HK.blk_new (W.alloc (.cells #[.func (.yield l) #[] #[]] 111)) (.cells #[.func (.func 74) #[] #[.pointer (some ⟨W.heap.size, 0, none⟩), .pointer (some ⟨W.heap.size + 1, 0, none⟩)]] 111)
    rwa [World.size_alloc] at this
  have hz : Wv.heap.size = W.heap.size + 2 := by rw [hWv]; simp
  have hE : VisE Safe l n0 W.heap.size (W.heap.size + 1) Wv := {
    hy := hv1
    hv := hv2
    sy := hSafe.new _ _ _ _ h0 hl (Nat.le_refl _) (by omega)
    sv := hSafe.new _ _ _ _ h0 hl (by omega) (by omega)
    ly := by omega
    lv := by omega
    old := fun j hj => hSafe.on _ _ _ _ h0 hl (hK j (.inl hj))
    ln := by omega
    ll := by omega }
  have hP : PlaceS Safe l Wv ⟨none, 0, 0⟩ [] := ⟨PlaceB.nil Wv, fun j hj => by cases hj⟩
  have hvis := visit_in Safe l n0 W.heap.size (W.heap.size + 1) (sizeT t) J Jx hSafe hJ (fun m pre x W1 h1 h2 h3 => yield_depth (hY pre x W1 h1 h2 h3)) (sizeT t) t (k - 1) [] [] ⟨none, 0, 0⟩ sv whole Wv (Nat.le_refl _) hsz (by simp; omega) (by decide) (hJ _ _ _ h0 hl) hE hP (hsW.same fun j hj => hl.block j (by have := hW.size; omega)) (by simp)
  obtain ⟨rule, ⟨op, name, ⟨aa, an, ac⟩, ⟨fa, fn, fc⟩, label, ⟨ma, mn, mc⟩⟩, subs⟩ := t
  obtain ⟨sa, sn, sc⟩ := sv
  simp only [StepV.cells, PT.rule, PT.o, SL.v] at hvis
  simp only [PT.arr, PT.rule, PT.o, SL.v] at hBW
  have c0 := HK.blk_cell hBW 0
  have c1 := HK.blk_cell hBW 1
  have c2 := HK.blk_cell hBW 2
  have c3 := HK.blk_cell hBW 3
  have c4 := HK.blk_cell hBW 4
  have c5 := HK.blk_cell hBW 5
  have c6 := HK.blk_cell hBW 6
  have c7 := HK.blk_cell hBW 7
  have hbl := HK.blk_lt hBW
  rw [show (whole : Int) = 1152921504606846976 from rfl, hWv] at hvis
  have HV := Lib.hid hvis
  clear hvis hE hP hv1 hv2 hl hz hBW hsW hY hWv h0 hK
  refine callsIn_of_wp Try.func73 rfl trivial ?_ rfl
  simp only [Try.ntmps73, List.size_toArray, List.length_cons, List.length_nil, Nat.reduceAdd, Nat.reduceSub, Array.replicate_succ, Array.replicate_zero, List.push_toArray, List.append_toArray, List.nil_append, List.cons_append]
  gi_wp2_with (gi_at_call 74; (refine HV.out.mono ?_; rintro e W8 ⟨b, rfl, hb⟩))
  go_end0
  rcases hb with ⟨_, xs, h1, h2, _⟩ | ⟨_, xs, h1, h2⟩
  · exact ⟨⟨_, rfl⟩, .inl ⟨xs, h1, h2⟩⟩
  · exact ⟨⟨_, rfl⟩, .inr ⟨xs, h1, h2⟩⟩
end Go.Proofs.Ytfebcpmbkljaoaa
