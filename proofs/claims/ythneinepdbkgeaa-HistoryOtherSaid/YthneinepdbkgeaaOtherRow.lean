/- The law HistoryOther of the given program returns true for every two slices of acts, and what came in reads as it did. No conditions. -/
import Derived.Test.YthneinepdbkgeaaRows
import Derived.Test.YthneinepdbkgeaaOther
import Derived.Test.YthneinepdbkgeaaActRow
namespace Go.Proofs.Ythneinepdbkgeaa
open Go.RowKit Go.HK
set_option linter.unusedVariables false
set_option linter.unusedSimpArgs false
set_option linter.unusedSectionVars false
set_option maxRecDepth 100000 in
set_option maxHeartbeats 8000000 in
theorem other_nil (w : World) (v0 : Value) (hacted : ∀ w', Below w.heap.size w w' → Calls Try.prog 13 #[v0] w' (ActedR w')) : Calls Try.prog 4 #[v0, .slice none 0 0] w (TrueR2 w) := by
  have HA := Lib.hid hacted
  clear hacted
  go_enter Try.func4, Try.ntmps4
  go_wp2_with (first
    | (go_at_call 12; refine (awake_any _).mono ?_; rintro e w1 ⟨rfl, hB1⟩)
    | (go_at_call 13; refine (HA.out _ hB1).mono ?_; rintro e w2 ⟨t, F, s, m, NS, SS, p, q, rfl, hW, hAc, hL, hm0, hm1⟩)
    | (go_at_call 19; refine (save_any hW.h).mono ?_; rintro e w3 ⟨v, rfl, hv, hB3⟩; obtain ⟨gv, cv, rfl, _⟩ := hv.form (ents_pos hW.h.1)))
  obtain ⟨n1, hn1⟩ : ∃ n1, n1 = (ents s.1).length := ⟨_, rfl⟩
  rw [← hn1] at hv ⊢
  have hn1b : n1 ≤ 1000 := by rw [hn1, ents_length]; exact hW.h.1.le
  have HN1 := Lib.hid hn1
  have hO : OtW w1 t F s (.slice (some ⟨gv, 0, none⟩) n1 cv) (ents s.1) w3 := ⟨(hW.stay hB3).h, (hW.stay hB3).b, hW.f, by rw [← HN1.out]; exact owns_mono hv hW.b.size, fun g hg hf => by have h1 := own_ge hv g hg; have h2 := hW.h.lt g hf; omega⟩
  have HAc := Lib.hid hAc
  have HB1 := Lib.hid hB1
  clear hW hAc hL hB1 hB3 hv hm0 hm1 hn1
  go_loopw [11] (fun i wr => ∃ (F : List Nat) (s' : HS), i = .int .i64 0 ∧ OtW w1 t F s' (.slice (some ⟨gv, 0, none⟩) n1 cv) (ents s.1) wr ∧ Ext s.1 s'.1) (fun i _ => 60 - (intOf i).toNat)
  case atStart => exact ⟨F, s, rfl, hO, Ext.refl _⟩
  case round =>
    clear hO
    obtain ⟨F, s', rfl, hW, hE⟩ := hrel
    have HW := Lib.hid hW
    have HE := Lib.hid hE
    clear hW hE
    obtain ⟨n2, hn2⟩ : ∃ n2, n2 = (ents s'.1).length := ⟨_, rfl⟩
    have hs := save_any HW.out.h
    have hp2 := ents_pos HW.out.h.1
    have h12 : n1 ≤ n2 := by have := HE.out.len; rw [HN1.out, hn2, ents_length, ents_length]; exact this
    have hl2 : s'.1.length = n2 := by rw [hn2, ents_length]
    unfold RetV at hs
    rw [← hn2] at hs hp2
    have HS := Lib.hid hs
    have HN2 := Lib.hid hn2
    have HL2 := Lib.hid hl2
    have b3 : decide (n2 < n1) = false := decide_eq_false (by omega)
    clear hs hn2 hl2
    go_wp2_with (first
      | (go_at_call 19; refine HS.out.mono ?_; rintro e w6 ⟨v6, rfl, hv6, hB6⟩; obtain ⟨gi, ci, rfl, _⟩ := hv6.form hp2)
      | (go_at_call 20; refine (len_lit n2 HL2.out (HW.out.stay hB6).h).mono ?_; rintro e w7 ⟨rfl, rfl⟩))
    have hOw := HW.out.stay hB6
    have hv7 := owns_mono hv6 (Nat.zero_le _)
    have HO := Lib.hid hOw
    have HV7 := Lib.hid hv7
    clear hOw hv7 hv6 hB6
    go_loopw [101] (fun i wx => ∃ j d : Nat, j ≤ n1 ∧ i = .int .i64 j ∧ wx = w6.drewN d) (fun i _ => n1 - (intOf i).toNat)
    case atStart => exact ⟨0, 0, by omega, rfl, rfl⟩
    case round =>
      obtain ⟨j, d, hj, rfl, rfl⟩ := hrel
      by_cases hjn : j < n1
      · have hjs : j < s.1.length := by rw [HN1.out, ents_length] at hjn; exact hjn
        obtain ⟨x, hx⟩ : ∃ x, x = entF s.1 j := ⟨_, rfl⟩
        have g1 := ents_get hjs
        have g2 := ents_get (nodes := s'.1) (x := j) (Nat.lt_of_lt_of_le hjs HE.out.len)
        rw [HE.out.ent hjs] at g2
        rw [← hx] at g1 g2
        have c1 : ∀ i, i < 4 → w6.cell? ⟨gv, j * 4 + i, none⟩ = (entCells x)[i]? := fun i hi => by
          have := HO.out.vn
          rw [← HN1.out] at this
          rw [this.cellAt (j * 4 + i) (by omega)]
          exact entsFlat_get _ _ _ _ g1 hi
        have c2 : ∀ i, i < 4 → w6.cell? ⟨gi, j * 4 + i, none⟩ = (entCells x)[i]? := fun i hi => by
          rw [HV7.out.cellAt (j * 4 + i) (by omega)]
          exact entsFlat_get _ _ _ _ g2 hi
        have c10 : w6.cell? ⟨gv, j * 4, none⟩ = some (.int .i64 x.par) := c1 0 (by omega)
        have c11 : w6.cell? ⟨gv, j * 4 + 1, none⟩ = some (.int .i64 x.tick) := c1 1 (by omega)
        have c12 : w6.cell? ⟨gv, j * 4 + 2, none⟩ = some (.string x.note) := c1 2 (by omega)
        have c13 : w6.cell? ⟨gv, j * 4 + 3, none⟩ = some (.string x.state) := c1 3 (by omega)
        have c20 : w6.cell? ⟨gi, j * 4, none⟩ = some (.int .i64 x.par) := c2 0 (by omega)
        have c21 : w6.cell? ⟨gi, j * 4 + 1, none⟩ = some (.int .i64 x.tick) := c2 1 (by omega)
        have c22 : w6.cell? ⟨gi, j * 4 + 2, none⟩ = some (.string x.note) := c2 2 (by omega)
        have c23 : w6.cell? ⟨gi, j * 4 + 3, none⟩ = some (.string x.state) := c2 3 (by omega)
        have b4 : (0 : Int) ≤ (j : Int) := by omega
        have b5 : (j : Int) < (n1 : Int) := by omega
        have b6 : (j : Int) < (n2 : Int) := by omega
        clear c1 c2 g1 g2 hx
        go_wp2_with (fail)
        go_quiet (fail)
        go_wp2_with (fail)
        go_roundw
        case rel => exact ⟨j + 1, d + nq, by omega, by go_num, rfl⟩
        case measure => simp [intOf]; omega
      · have b5 : ¬ ((j : Int) < (n1 : Int)) := by omega
        go_wp2_with (fail)
        go_ret
        exact ⟨rfl, below_drewN (HB1.out.trans (HO.out.b.mono HB1.out.size)) _⟩
end Go.Proofs.Ythneinepdbkgeaa
namespace Go.Proofs.Ythneinepdbkgeaa.historyOther
open Go.RowKit Go.HK Go.ChangeShapes Go.WideShapes Go.ChangeAt
theorem other_any {w : World} {v0 v1 : Value} (h0 : ActsIn w v0) (h1 : ActsIn w v1) : Calls Try.prog 4 #[v0, v1] w (TrueR2 w) := by
  rcases h1 with rfl | ⟨a, n, c, K, A, rfl, hA, hn⟩
  · exact other_nil w v0 (acted_in h0)
  · exact other_some w v0 (acted_in h0) a n c K A hA hn
set_option maxRecDepth 100000 in
theorem lifted (os : Os) (started : os.Started) (H : Type) (enc : TypeId × Value → H) :
    ReturnsInHanded {} Try.checked os 4 .any (Rows.historyOtherSpec.pre6 enc Try.prog Try.f4 Rows.historyOtherRow.domain false) (Rows.historyOtherSpec.post enc Try.prog Try.f4 false true false false) := by
  refine returnsInHanded_of_change (C := Try.checked) own started (by kernel_rfl) Try.func4
    (ChangeSpec.witness6 (enc := enc) (C := Try.checked) false ⟨#[], #[.slice none 0 0, .slice none 0 0], []⟩ 8 (by kernel_rfl) (by kernel_rfl) (by kernel_rfl) (by kernel_rfl)) ?_
  intro W base args ds gs before hval0 hW hcnd _
  have hval : ∀ (j : Nat) t v, Try.f4.params[j]? = some t → args[j]? = some v → Value.okWide Try.prog W .any base t v := hval0
  have hW' := hW
  obtain ⟨p, q, hA0, hV, rfl, hfz, hnd⟩ := hW
  have hA : DataW.TrodAll enc Try.prog W 0 (fun _ => true) true Try.f4.params.toList args.toList ds p := hA0
  rw [Try.params4] at hA hval
  obtain ⟨v0, vs0, d0, ds0, p0, q0, hargs, rfl, rfl, h0, r0⟩ := trodAll_cons hA
  obtain ⟨v1, vs1, d1, ds1, p1, q1, rfl, rfl, rfl, h1, r1⟩ := trodAll_cons r0
  obtain ⟨rfl, rfl, rfl⟩ := trodAll_nil r1
  obtain rfl : args = #[v0, v1] := by cases args; simp_all
  obtain ⟨rfl, rfl⟩ := trodVars_none hV
  obtain ⟨a0, len0, cap0, rfl⟩ := okWide_slice Try.underlying22 (hval 0 22 v0 rfl rfl)
  obtain ⟨a1, len1, cap1, rfl⟩ := okWide_slice Try.underlying22 (hval 1 22 v1 rfl rfl)
  have k0 := h0
  have k1 := h1
  have lt0 : ∀ x ∈ p0, x.block < W.heap.size := by obtain ⟨m, hm⟩ := k0; exact DataW.trod_lt m _ _ _ hm
  have lt1 : ∀ x ∈ p1, x.block < W.heap.size := by obtain ⟨m, hm⟩ := k1; exact DataW.trod_lt m _ _ _ hm
  have w0 : ActsIn W (.slice a0 len0 cap0) := by
    obtain ⟨fuel, hf⟩ := h0
    exact acts_of hf
  have w1 : ActsIn W (.slice a1 len1 cap1) := by
    obtain ⟨fuel, hf⟩ := h1
    exact acts_of hf
  clear hA0 hval0
  refine (other_any w0 w1).mono fun e W' ⟨he, bel⟩ => ?_
  subst he
  exact ⟨_, rfl, _, _, _, [], _, [], hW', trodAll_mk1 (shut_bool Try.underlying4 _), (trodAll_cons_mk (Below.trod laidOut (by kernel_rfl) (of_decide_eq_true (by kernel_rfl)) k0 bel lt0) (trodAll_cons_mk (Below.trod laidOut (by kernel_rfl) (of_decide_eq_true (by kernel_rfl)) k1 bel lt1) trodAll_mk0)), rfl, bel.frame _, fun h => by cases h⟩
theorem over : Rows.historyOtherRow.holds Try.pinned (OpenSpec.ofChange Rows.historyOtherSpec) :=
  OpenClaim.holds_of_wide 4 Try.f4 rfl rfl rfl rfl rfl rfl rfl ⟨rfl, rfl, rfl, rfl, rfl⟩ rfl rfl rfl rfl rfl (by kernel_rfl) Try.func4 (by kernel_rfl)
    (of_decide_eq_true (by kernel_rfl)) (by unfold Func.isWrapper; first | (rw [if_pos (by decide +kernel)]; kernel_rfl) | (rw [if_neg (by decide +kernel)]; exact ⟨rfl, rfl⟩))
    (fun os started H enc _ => lifted os started H enc)
/-- The statement. -/
theorem proved : Rows.HistoryOtherSaid := over
#print axioms proved
end Go.Proofs.Ythneinepdbkgeaa.historyOther
