/- The law MeasureParts of the given program returns true for every two proofs and every place, and what came in reads as it did. No conditions. -/
import Derived.Test.YtfebcpmbkljaoaaRows
import Derived.Test.YtfebcpmbkljaoaaParW
import Derived.Test.YtfebcpmbkljaoaaArgP
namespace Go.Proofs.Ytfebcpmbkljaoaa.measureParts
open Go.RowKit Go.HK Go.ChangeShapes Go.WideShapes Go.ChangeAt
set_option linter.unusedVariables false
set_option linter.unusedSimpArgs false
set_option linter.unusedSectionVars false
set_option maxRecDepth 100000 in
set_option maxHeartbeats 2000000 in
theorem lifted (os : Os) (started : os.Started) (H : Type) (enc : TypeId × Value → H) :
    ReturnsInHanded {} Try.checked os 7 .any (Rows.measurePartsSpec.pre6 enc Try.prog Try.f7 Rows.measurePartsRow.domain false) (Rows.measurePartsSpec.post enc Try.prog Try.f7 false true false false) := by
  refine returnsInHanded_of_change (C := Try.checked) own started (by kernel_rfl) Try.func7
    (ChangeSpec.witness6 (enc := enc) (C := Try.checked) false ⟨#[], #[.agg #[.string ⟨#[]⟩, .int .u8 0, .string ⟨#[]⟩, .slice none 0 0, .slice none 0 0, .int .i64 0, .slice none 0 0, .slice none 0 0], .agg #[.string ⟨#[]⟩, .int .u8 0, .string ⟨#[]⟩, .slice none 0 0, .slice none 0 0, .int .i64 0, .slice none 0 0, .slice none 0 0], .slice none 0 0], []⟩ 8 (by kernel_rfl) (by kernel_rfl) (by kernel_rfl) (by kernel_rfl)) ?_
  intro W base args ds gs before hval0 hW hcnd _
  have hval : ∀ (j : Nat) t v, Try.f7.params[j]? = some t → args[j]? = some v → Value.okWide Try.prog W .any base t v := hval0
  have hW' := hW
  obtain ⟨p, q, hA0, hV, rfl, hfz, hnd⟩ := hW
  have hA : DataW.TrodAll enc Try.prog W 0 (fun _ => true) true Try.f7.params.toList args.toList ds p := hA0
  rw [Try.params7] at hA hval
  obtain ⟨v0, vs0, d0, ds0, p0, q0, hargs, rfl, rfl, h0, r0⟩ := trodAll_cons hA
  obtain ⟨v1, vs1, d1, ds1, p1, q1, rfl, rfl, rfl, h1, r1⟩ := trodAll_cons r0
  obtain ⟨v2, vs2, d2, ds2, p2, q2, rfl, rfl, rfl, h2, r2⟩ := trodAll_cons r1
  obtain ⟨rfl, rfl, rfl⟩ := trodAll_nil r2
  obtain rfl : args = #[v0, v1, v2] := by cases args; simp_all
  obtain ⟨rfl, rfl⟩ := trodVars_none hV
  obtain ⟨a2, len2, cap2, rfl⟩ := okWide_slice Try.underlying37 (hval 2 37 v2 rfl rfl)
  have k0 := h0
  have lt0 : ∀ x ∈ p0, x.block < W.heap.size := by obtain ⟨m, hm⟩ := k0; exact DataW.trod_lt m _ _ _ hm
  have k1 := h1
  have lt1 : ∀ x ∈ p1, x.block < W.heap.size := by obtain ⟨m, hm⟩ := k1; exact DataW.trod_lt m _ _ _ hm
  have k2 := h2
  have lt2 : ∀ x ∈ p2, x.block < W.heap.size := by obtain ⟨m, hm⟩ := k2; exact DataW.trod_lt m _ _ _ hm
  obtain ⟨t0, sv0, r0', e0, w0, k0', j0'⟩ : ∃ (t : PT) (sv : SL) (r : RT), v0 = .agg (PT.arr t sv) ∧ IsPs W.heap.size W sv t.subs ∧ okT W t ∧ RichT (fun k => k < W.heap.size) W t r := by
    obtain ⟨fuel, hf⟩ := h0
    exact rich_of hf (hval 0 30 v0 rfl rfl)
  subst e0
  obtain ⟨t1, sv1, r1', e1, w1, k1', j1'⟩ : ∃ (t : PT) (sv : SL) (r : RT), v1 = .agg (PT.arr t sv) ∧ IsPs W.heap.size W sv t.subs ∧ okT W t ∧ RichT (fun k => k < W.heap.size) W t r := by
    obtain ⟨fuel, hf⟩ := h1
    exact rich_of hf (hval 1 30 v1 rfl rfl)
  subst e1
  obtain ⟨xs2, w2, m2⟩ : ∃ xs : List Int, IsI W ⟨a2, len2, cap2⟩ xs ∧ len2 ≤ maxLen := by
    obtain ⟨fuel, hf⟩ := h2
    exact ints_of hf
  clear hA0 hval0
  refine (parts_walk W t0 t1 sv0 sv1 ⟨a2, len2, cap2⟩ r0' r1' xs2 w0 k0' j0' w1 k1' j1' w2).mono fun e W' ⟨he, bel⟩ => ?_
  subst he
  exact ⟨_, rfl, _, _, _, [], _, [], hW', trodAll_mk1 (shut_bool Try.underlying4 _), (trodAll_cons_mk (Below.trod laidOut (by kernel_rfl) (of_decide_eq_true (by kernel_rfl)) k0 bel lt0) (trodAll_cons_mk (Below.trod laidOut (by kernel_rfl) (of_decide_eq_true (by kernel_rfl)) k1 bel lt1) (trodAll_cons_mk (Below.trod laidOut (by kernel_rfl) (of_decide_eq_true (by kernel_rfl)) k2 bel lt2) trodAll_mk0))), rfl, bel.frame _, fun h => by cases h⟩
theorem over : Rows.measurePartsRow.holds Try.pinned (OpenSpec.ofChange Rows.measurePartsSpec) :=
  OpenClaim.holds_of_wide 7 Try.f7 rfl rfl rfl rfl rfl rfl rfl ⟨rfl, rfl, rfl, rfl, rfl⟩ rfl rfl rfl rfl rfl (by kernel_rfl) Try.func7 (by kernel_rfl)
    (of_decide_eq_true (by kernel_rfl)) (by unfold Func.isWrapper; first | (rw [if_pos (by decide +kernel)]; kernel_rfl) | (rw [if_neg (by decide +kernel)]; exact ⟨rfl, rfl⟩))
    (fun os started H enc _ => lifted os started H enc)
/-- The statement. -/
theorem proved : Rows.MeasurePartsSaid := over
#print axioms proved
end Go.Proofs.Ytfebcpmbkljaoaa.measureParts
