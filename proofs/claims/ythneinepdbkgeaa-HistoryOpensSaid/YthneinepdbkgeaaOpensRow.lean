/- The law HistoryOpens of the given program returns true for every list of entries and every number, and what came in reads as it did. No conditions. -/
import Derived.Test.YthneinepdbkgeaaRows
import Derived.SizedLaws
import Derived.Test.YthneinepdbkgeaaLawm
import Derived.Test.YthneinepdbkgeaaOpRow
namespace Go.Proofs.Ythneinepdbkgeaa.historyOpens
open Go.RowKit Go.HK Go.ChangeShapes Go.WideShapes Go.ChangeAt
set_option linter.unusedVariables false
set_option linter.unusedSimpArgs false
set_option linter.unusedSectionVars false
set_option maxRecDepth 100000 in
set_option maxHeartbeats 2000000 in
theorem lifted (os : Os) (started : os.Started) (H : Type) (enc : TypeId × Value → H) :
    ReturnsInHanded {} Try.checked os 9 .any (Rows.historyOpensSpec.pre6 enc Try.prog Try.f9 Rows.historyOpensRow.domain false) (Rows.historyOpensSpec.post enc Try.prog Try.f9 false true false false) := by
  refine returnsInHanded_of_change_sized (C := Try.checked) own started (by kernel_rfl) Try.func9
    (ChangeSpec.witness6 (enc := enc) (C := Try.checked) false ⟨#[], #[.slice none 0 0, .int .i64 0], []⟩ 8 (by kernel_rfl) (by kernel_rfl) (by kernel_rfl) (by kernel_rfl)) ?_
  intro W base args ds gs before hval0 hW hcnd hsz _
  have hval : ∀ (j : Nat) t v, Try.f9.params[j]? = some t → args[j]? = some v → Value.okWide Try.prog W .any base t v := hval0
  have hW' := hW
  obtain ⟨p, q, hA0, hV, rfl, hfz, hnd⟩ := hW
  have hA : DataW.TrodAll enc Try.prog W 0 (fun _ => true) true Try.f9.params.toList args.toList ds p := hA0
  rw [Try.params9] at hA hval
  obtain ⟨v0, vs0, d0, ds0, p0, q0, hargs, rfl, rfl, h0, r0⟩ := trodAll_cons hA
  obtain ⟨v1, vs1, d1, ds1, p1, q1, rfl, rfl, rfl, h1, r1⟩ := trodAll_cons r0
  obtain ⟨rfl, rfl, rfl⟩ := trodAll_nil r1
  obtain rfl : args = #[v0, v1] := by cases args; simp_all
  obtain ⟨rfl, rfl⟩ := trodVars_none hV
  obtain ⟨a0, len0, cap0, rfl⟩ := okWide_slice Try.underlying38 (hval 0 38 v0 rfl rfl)
  obtain ⟨y1, rfl⟩ := okWide_int Try.underlying3 (hval 1 3 v1 rfl rfl)
  have k0 := h0
  have lt0 : ∀ x ∈ p0, x.block < W.heap.size := by obtain ⟨m, hm⟩ := k0; exact DataW.trod_lt m _ _ _ hm
  have k1 := h1
  have lt1 : ∀ x ∈ p1, x.block < W.heap.size := by obtain ⟨m, hm⟩ := k1; exact DataW.trod_lt m _ _ _ hm
  obtain ⟨m0, w0⟩ : len0 ≤ maxLen ∧ ((a0 = none ∧ len0 = 0 ∧ cap0 = 0) ∨ ∃ a es, a0 = some a ∧ es.length = len0 ∧ EntsA W a es ∧ ∀ (j : Nat) (y : Ent), es[j]? = some y → y.state.size ≤ maxLen ∧ y.note.size ≤ maxLen) := by
    obtain ⟨fuel, hf⟩ := h0
    exact ents_of hf
  obtain ⟨n1, b1, e1⟩ : ∃ n : Int, (-9223372036854775808 ≤ n ∧ n ≤ 9223372036854775807) ∧ Value.int .i64 y1 = .int .i64 n := by
    obtain ⟨fuel, hf⟩ := h1
    obtain ⟨z, hz, _, hw⟩ := DataW.trod_int Try.underlying3 hf
    simp only [Value.cells, List.cons.injEq, and_true] at hz
    exact ⟨z, bounds_i64 hw, by simpa using hz⟩
  simp only [Value.int.injEq, true_and] at e1
  subst e1
  have hz0 : len0 * 48 ≤ 140737488355328 := by
    obtain ⟨fuel, hf⟩ := h0
    rcases ents_len_of hf with h | ⟨el, sp, hd, hl⟩
    · omega
    · have h1 : (el.length + sp.length) * Try.prog.bytesOf 45 ≤ reachBytes := sized_slice (P := Try.prog) hsz (j := 0) (t := 38) (e := 45) (elems := el) (spare := sp) (by rw [Try.params9]; exact List.getElem?_cons_zero) (by rw [hd]; exact List.getElem?_cons_zero) Try.underlying38
      have h2 := reachBytes_lt
      rw [bytes45, hl] at h1
      have h3 : len0 * 48 ≤ (len0 + sp.length) * 48 := Nat.mul_le_mul_right _ (by omega)
      omega
  clear hA0 hval0
  refine (historyopens_walk W _ len0 cap0 hz0 w0 y1).mono fun e W' ⟨he, bel⟩ => ?_
  subst he
  exact ⟨_, rfl, _, _, _, [], _, [], hW', trodAll_mk1 (shut_bool Try.underlying4 _), (trodAll_cons_mk (Below.trod laidOut (by kernel_rfl) (of_decide_eq_true (by kernel_rfl)) k0 bel lt0) (trodAll_cons_mk (Below.trod laidOut (by kernel_rfl) (of_decide_eq_true (by kernel_rfl)) k1 bel lt1) trodAll_mk0)), rfl, bel.frame _, fun h => by cases h⟩
theorem over : Rows.historyOpensRow.holds Try.pinned (OpenSpec.ofChange Rows.historyOpensSpec) :=
  OpenClaim.holds_of_wide 9 Try.f9 rfl rfl rfl rfl rfl rfl rfl ⟨rfl, rfl, rfl, rfl, rfl⟩ rfl rfl rfl rfl rfl (by kernel_rfl) Try.func9 (by kernel_rfl)
    (of_decide_eq_true (by kernel_rfl)) (by unfold Func.isWrapper; first | (rw [if_pos (by decide +kernel)]; kernel_rfl) | (rw [if_neg (by decide +kernel)]; exact ⟨rfl, rfl⟩))
    (fun os started H enc _ => lifted os started H enc)
/-- The statement. -/
theorem proved : Rows.HistoryOpensSaid := over
#print axioms proved
end Go.Proofs.Ythneinepdbkgeaa.historyOpens
