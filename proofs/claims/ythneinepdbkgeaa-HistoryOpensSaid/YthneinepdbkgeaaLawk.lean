/- HistoryOpens (9): helpers; entries that Open turns down. lawk.py prints this text (template lawk.tpl). -/
import Derived.Test.YthneinepdbkgeaaLawe
namespace Go.Proofs.Ythneinepdbkgeaa
open Go.RowKit Go.HK
set_option linter.unusedVariables false
set_option linter.unusedSimpArgs false
set_option linter.unusedSectionVars false
set_option maxRecDepth 100000 in
set_option maxHeartbeats 4000000 in
theorem given_big (w : World) (a : Addr) (n c : Nat) (es : List Ent) (hn : es.length = n) (hle : n * 48 ≤ 140737488355328) (he : EntsA w a es) : Calls Try.prog 30 #[.slice (some a) n c] w (RetG w es) := by
  have HN := Lib.hid hn
  have HE := Lib.hid he
  clear hn he
  go_enter Try.func30, Try.ntmps30
  go_wp2_with (fail)
  go_loopw [3, 4] (fun v i wr => ∃ (vo : Value) (k : Nat), vo = v ∧ k ≤ n ∧ i = .int .i64 k ∧ wr.ownsRow w.heap.size 98 4 vo k (entsFlat (es.take k)) ∧ Below w.heap.size w wr) (fun _ i _ => n - (intOf i).toNat)
  case atStart => exact ⟨_, 0, rfl, Nat.zero_le _, rfl, World.ownsRow_nil _ _ _ _, Below.refl _ _⟩
  case round =>
    obtain ⟨vo, k, rfl, hk, rfl, ho, hB⟩ := hrel
    have HO := Lib.hid ho
    have HB := Lib.hid hB
    clear ho hB
    by_cases hkn : (k : Int) < (n : Int)
    · have b0 : (0 : Int) ≤ (k : Int) := by omega
      obtain ⟨x, hx⟩ : ∃ x, es[k]? = some x := ⟨_, List.getElem?_eq_getElem (by rw [HN.out]; omega)⟩
      obtain ⟨c0, c1, c2, c3⟩ := (HE.out.below HB.out).get hx
      have HX := Lib.hid hx
      clear hx
      go_wp2_with (
        at_builtin
        refine wpList_app1 rfl elem61 _ _ rfl vo k (entsFlat (es.take k)) rfl (own_mono0 (HO.out.alloc _)) wr.heap.size 1 #[.int .i64 x.par, .int .i64 x.tick, .string x.note, .string x.state] rfl (HK.blk_new wr _) rfl (by simp [Value.oneCell']) (by simp only [maxLen]; omega) (by omega) ?_
        intro g c w' hown2 hgrow hat hlt2)
      go_roundw
      case rel =>
        have hz := HB.out.size
        have hb2 : Below w.heap.size w w' := (HB.out.alloc hz _).grown hgrow (by simp; omega) (fun k hk => own_ge HO.out k hk)
        have hg1 : w.heap.size ≤ g := by
          rcases hat with h | h
          · exact own_ge HO.out _ h
          · simp at h; omega
        refine ⟨_, k + 1, rfl, by omega, by go_num, ?_, hb2⟩
        rw [take_ents HX.out]
        exact own_base9 hown2 hg1
      case measure => simp [intOf]; omega
    · obtain rfl : n = k := by omega
      go_wp2_with (fail)
      go_ret
      refine ⟨_, rfl, ?_, HB.out⟩
      have h := HO.out
      rw [List.take_of_length_le (by rw [HN.out]; exact Nat.le_refl _)] at h
      rw [HN.out]
      exact h
theorem given_none (w : World) (a : Option Addr) (c : Nat) : Calls Try.prog 30 #[.slice a 0 c] w fun e w' => e = .returned (.slice none 0 0) ∧ w = w' := by
  go_enter Try.func30, Try.ntmps30
  go_wp2_with (fail)
  go_loopw [3, 4] (fun v i wr => v = .slice none 0 0 ∧ i = .int .i64 0 ∧ w = wr) (fun _ i _ => 0)
  case atStart => exact ⟨rfl, rfl, rfl⟩
  case round =>
    obtain ⟨rfl, rfl, rfl⟩ := hrel
    go_wp2_with (fail)
    go_ret
    exact ⟨rfl, rfl⟩
set_option maxRecDepth 100000 in
set_option maxHeartbeats 4000000 in
theorem same_big (w : World) (g1 c1 g2 c2 n : Nat) (es : List Ent) (hn : es.length = n) (h1 : EntsAt w g1 es) (h2 : EntsAt w g2 es) (hle : n * 48 ≤ 140737488355328) : Calls Try.prog 31 #[.slice (some ⟨g1, 0, none⟩) n c1, .slice (some ⟨g2, 0, none⟩) n c2] w (RetSame w) := by
  have HN := Lib.hid hn
  have H1 := Lib.hid h1
  have H2 := Lib.hid h2
  clear hn h1 h2
  go_enter Try.func31, Try.ntmps31
  go_wp2_with (fail)
  go_loopw [13] (fun i wx => ∃ j d : Nat, j ≤ n ∧ i = .int .i64 j ∧ wx = w.drewN d) (fun i _ => n - (intOf i).toNat)
  case atStart => exact ⟨0, 0, by omega, rfl, rfl⟩
  case round =>
    obtain ⟨j, d, hj, rfl, rfl⟩ := hrel
    by_cases hjn : (j : Int) < (n : Int)
    · obtain ⟨y, hy⟩ : ∃ y, es[j]? = some y := ⟨_, List.getElem?_eq_getElem (by rw [HN.out]; omega)⟩
      obtain ⟨c10, c11, c12, c13⟩ := H1.out.c j y hy
      obtain ⟨c20, c21, c22, c23⟩ := H2.out.c j y hy
      have b4 : (0 : Int) ≤ (j : Int) := by omega
      clear hy
      go_wp2_with (fail)
      go_quiet (fail)
      go_wp2_with (fail)
      go_roundw
      case rel => exact ⟨j + 1, d + nq, by omega, by go_num, rfl⟩
      case measure => simp [intOf]; omega
    · go_wp2_with (fail)
      go_ret
      exact ⟨rfl, d, rfl⟩
def OkE (y : Ent) : Prop := y.state.size ≤ 16384 ∧ y.note.size ≤ 100
/-- The first entry that is too long. -/
theorem short_first (es : List Ent) : ¬ Short es → ∃ (i : Nat) (yi : Ent), (∀ (j : Nat) (y : Ent), j < i → es[j]? = some y → OkE y) ∧ es[i]? = some yi ∧ ¬ OkE yi := by
  intro h
  have key : ∀ k, (∀ (j : Nat) (y : Ent), j < k → es[j]? = some y → OkE y) ∨ ∃ (i : Nat) (yi : Ent), (∀ (j : Nat) (y : Ent), j < i → es[j]? = some y → OkE y) ∧ es[i]? = some yi ∧ ¬ OkE yi := by
    intro k
    induction k with
    | zero => exact .inl fun j y hj => absurd hj (Nat.not_lt_zero j)
    | succ k ih =>
      rcases ih with ih | ih
      · rcases hk : es[k]? with _ | y
        · exact .inl fun j y' hj hy => by
            by_cases e : j = k
            · subst e; rw [hk] at hy; cases hy
            · exact ih j y' (by omega) hy
        · by_cases hy : OkE y
          · exact .inl fun j y' hj hy' => by
              by_cases e : j = k
              · subst e; rw [hk] at hy'; cases hy'; exact hy
              · exact ih j y' (by omega) hy'
          · exact .inr ⟨k, y, ih, hk, hy⟩
      · exact .inr ih
  rcases key es.length with h1 | h1
  · exact absurd (fun j x hx => h1 j x (List.getElem?_eq_some_iff.1 hx).1 hx) h
  · exact h1
theorem entsA_addr {w : World} {a : Addr} {es : List Ent} (h : EntsA w a es) : ∀ j u, (entsFlat es)[j]? = some u → w.cell? (a.add j) = some u := by
  intro j u hj
  have hlt := (List.getElem?_eq_some_iff.1 hj).1
  rw [entsFlat_length] at hlt
  obtain ⟨x, hx⟩ : ∃ x, es[j / 4]? = some x := ⟨_, List.getElem?_eq_getElem (by omega)⟩
  have hc := h _ x hx
  have he := entsFlat_get es (j / 4) (j % 4) x hx (Nat.mod_lt _ (by omega))
  have hj4 : j / 4 * 4 + j % 4 = j := by omega
  rw [hj4, hj] at he
  have h4 : j % 4 < 4 := Nat.mod_lt _ (by omega)
  obtain ⟨r, hr⟩ : ∃ r, r = j % 4 := ⟨_, rfl⟩
  rw [← hr] at he h4 hj4
  rw [← hj4, he]
  match r, h4 with
  | 0, _ => exact hc.1
  | 1, _ => exact hc.2.1
  | 2, _ => exact hc.2.2.1
  | 3, _ => exact hc.2.2.2
set_option maxRecDepth 100000 in
set_option maxHeartbeats 8000000 in
/-- No entries. -/
theorem opens_nil (w : World) (a : Option Addr) (c : Nat) (now : Int) : Calls Try.prog 9 #[.slice a 0 c, .int .i64 now] w (RetTr w) := by
  have haw := fun W => awake_any W
  have hgv := fun W => given_none W a c
  have hro := fun W => ropen_nil W now
  have hsm := fun W a1 c1 => same_none W a1 none c1 0
  have hop := fun W g c1 hg => open_no W g 0 c1 [] now ⟨fun i x hx => by simp at hx, hg⟩ rfl (by omega) (fun j x hx => by simp at hx) (fun h => by have h1 := h.1; have h2 := h.2.1; simp at h2; omega)
  unfold RetOpN9 at hro
  unfold RetSame at hsm
  have HA := Lib.hid haw
  have HGV := Lib.hid hgv
  have HRO := Lib.hid hro
  have HSM := Lib.hid hsm
  have HOP := Lib.hid hop
  clear haw hgv hro hsm hop
  cases a
  · go_enter Try.func9, Try.ntmps9
    go_upto_region 4 with (fail)
    obtain ⟨w5, hw5⟩ : ∃ w5, w5 = w.alloc (.cells #[] 45) := ⟨_, rfl⟩
    have hB5 : Below w.heap.size w w5 := by rw [hw5]; exact (Below.refl _ w).alloc (Nat.le_refl _) _
    have hl5 : w.heap.size < w5.heap.size := by rw [hw5]; simp
    rw [← hw5]
    have HB5 := Lib.hid hB5
    have HL5 := Lib.hid hl5
    clear hB5 hl5 hw5
    go_wp2_with (fail)
    (with_reducible refine (HOP.out w5 w.heap.size 0 HL5.out).mono ?_)
    rintro e w6 ⟨rfl, hB6⟩
    have HB6 := Lib.hid (HB5.out.trans (hB6.mono HB5.out.size))
    clear hB6
    go_wp2_with (fail)
    (with_reducible refine (HGV.out _).mono ?_)
    rintro e w7 ⟨rfl, rfl⟩
    go_wp2_with (fail)
    (with_reducible refine (HRO.out _).mono ?_)
    rintro e w8 ⟨rfl, hB8⟩
    have HB8 := Lib.hid (HB6.out.trans (hB8.mono HB6.out.size))
    clear hB8
    go_wp2_with (fail)
    (with_reducible refine (HGV.out _).mono ?_)
    rintro e w9 ⟨rfl, rfl⟩
    go_wp2_with (fail)
    (with_reducible refine (HSM.out _ _ _).mono ?_)
    rintro e w10 ⟨rfl, d10, hw10⟩
    have hB10 : Below w.heap.size w w10 := by rw [hw10]; exact bl_dr9 (HB8.out.alloc HB8.out.size _) _
    have HB10 := Lib.hid hB10
    clear hw10 hB10
    go_wp2_with (fail)
    (with_reducible refine (HA.out _).mono ?_)
    rintro e w11 ⟨rfl, hB11⟩
    have HB11 := Lib.hid hB11
    clear hB11
    go_wp2_with (fail)
    go_ret
    exact ⟨rfl, HB10.out.trans (HB11.out.mono HB10.out.size)⟩
  · go_enter Try.func9, Try.ntmps9
    go_upto_region 4 with (fail)
    obtain ⟨w5, hw5⟩ : ∃ w5, w5 = w.alloc (.cells #[] 45) := ⟨_, rfl⟩
    have hB5 : Below w.heap.size w w5 := by rw [hw5]; exact (Below.refl _ w).alloc (Nat.le_refl _) _
    have hl5 : w.heap.size < w5.heap.size := by rw [hw5]; simp
    rw [← hw5]
    have HB5 := Lib.hid hB5
    have HL5 := Lib.hid hl5
    clear hB5 hl5 hw5
    go_wp2_with (fail)
    (with_reducible refine (HOP.out w5 w.heap.size 0 HL5.out).mono ?_)
    rintro e w6 ⟨rfl, hB6⟩
    have HB6 := Lib.hid (HB5.out.trans (hB6.mono HB5.out.size))
    clear hB6
    go_wp2_with (fail)
    (with_reducible refine (HGV.out _).mono ?_)
    rintro e w7 ⟨rfl, rfl⟩
    go_wp2_with (fail)
    (with_reducible refine (HRO.out _).mono ?_)
    rintro e w8 ⟨rfl, hB8⟩
    have HB8 := Lib.hid (HB6.out.trans (hB8.mono HB6.out.size))
    clear hB8
    go_wp2_with (fail)
    (with_reducible refine (HGV.out _).mono ?_)
    rintro e w9 ⟨rfl, rfl⟩
    go_wp2_with (fail)
    (with_reducible refine (HSM.out _ _ _).mono ?_)
    rintro e w10 ⟨rfl, d10, hw10⟩
    have hB10 : Below w.heap.size w w10 := by rw [hw10]; exact bl_dr9 (HB8.out.alloc HB8.out.size _) _
    have HB10 := Lib.hid hB10
    clear hw10 hB10
    go_wp2_with (fail)
    (with_reducible refine (HA.out _).mono ?_)
    rintro e w11 ⟨rfl, hB11⟩
    have HB11 := Lib.hid hB11
    clear hB11
    go_wp2_with (fail)
    go_ret
    exact ⟨rfl, HB10.out.trans (HB11.out.mono HB10.out.size)⟩
set_option maxRecDepth 100000 in
set_option maxHeartbeats 8000000 in
theorem opens_err2 (w : World) (a : Addr) (n c : Nat) (es : List Ent) (now : Int) (hn : es.length = n) (hn0 : 0 < n) (hz : n * 48 ≤ 140737488355328) (he : EntsA w a es) (hb : n ≤ 30)
    (hop : ∀ W g c, EntsAt W g es → Calls Try.prog 27 #[.slice (some ⟨g, 0, none⟩) n c, .int .i64 now] W fun e w' => e = .returned (.tuple #[.pointer none, .int .i64 2]) ∧ Below W.heap.size W w')
    (hro : ∀ W g c, EntsAt W g es → Calls Try.prog 29 #[.slice (some ⟨g, 0, none⟩) n c, .int .i64 now] W fun e w' => e = .returned (.tuple #[.agg #[.slice none 0 0, .int .i64 0, .slice none 0 0], .int .i64 2]) ∧ Below W.heap.size W w') :
    Calls Try.prog 9 #[.slice (some a) n c, .int .i64 now] w (RetTr w) := by
  have b0 : ¬ (30 : Int) < (n : Int) := by omega
  have HOP := Lib.hid hop
  have HRO := Lib.hid hro
  clear hop hro
  have HE := Lib.hid he
  have HN := Lib.hid hn
  have HAW := Lib.hid (fun W => awake_any W)
  have HGV := Lib.hid (fun W (h : EntsA W a es) => given_big W a n c es hn hz h)
  clear he hn
  go_enter Try.func9, Try.ntmps9
  go_upto_region 4 with (
    at_builtin
    refine wpList_app_any rfl elem38 _ _ rfl (.slice (some ⟨w.heap.size, 0, none⟩) 0 0) w.heap.size 0 [] rfl (empty_row w 45 4) a n c (entsFlat es) rfl (by rw [entsFlat_length, HN.out]) (entsA_addr (HE.out.below ((Below.refl w.heap.size w).alloc (Nat.le_refl _) _))) (ents_one _) (by simp only [maxLen]; omega) (by omega) (by simp) ?_
    intro v5 w5 hown5 hgrow5 hnil5 hat5
    rw [Nat.zero_add] at hown5
    obtain ⟨g5, c5, rfl, hg5, hl5⟩ := own_form9 hown5 hn0
    have hB5 : Below w.heap.size w w5 := ((Below.refl w.heap.size w).alloc (Nat.le_refl _) (.cells #[] 45)).grown hgrow5 (by simp) (fun k hk => by have h2 : w.heap.size = k := Option.some.inj hk; omega)
    have HO5 := Lib.hid hown5
    have HB5 := Lib.hid hB5
    have HG5 := Lib.hid hg5
    have HL5 := Lib.hid hl5
    clear hown5 hgrow5 hnil5 hat5 hB5 hg5 hl5)
  have HE5 := Lib.hid (EntsAt.of HO5.out HN.out.symm)
  go_wp2_with (fail)
  (with_reducible refine (HOP.out w5 g5 c5 HE5.out).mono ?_)
  rintro e w6 ⟨rfl, hB6⟩
  have HB6 := Lib.hid hB6
  clear hB6
  have HB06 := Lib.hid (HB5.out.trans (HB6.out.mono HB5.out.size))
  go_wp2_with (fail)
  (with_reducible refine (HGV.out w6 (HE.out.below HB06.out)).mono ?_)
  rintro e w7 ⟨v7, rfl, hv7, hB7⟩
  rw [HN.out] at hv7
  obtain ⟨g7, c7, rfl, hg7, hl7⟩ := own_form9 hv7 hn0
  have HB7 := Lib.hid hB7
  have HE7 := Lib.hid (ents_row hv7 HN.out hl7)
  have HB07 := Lib.hid (HB06.out.trans (hB7.mono HB06.out.size))
  clear hv7 hB7 hg7 hl7
  go_wp2_with (fail)
  (with_reducible refine (HRO.out w7 g7 c7 HE7.out).mono ?_)
  rintro e w8 ⟨rfl, hB8⟩
  have HB8 := Lib.hid hB8
  clear hB8
  have HB08 := Lib.hid (HB07.out.trans (HB8.out.mono HB07.out.size))
  go_wp2_with (fail)
  obtain ⟨R, hR⟩ : ∃ R, R = w8.heap.size := ⟨_, rfl⟩
  obtain ⟨w9, hw9⟩ : ∃ w9, w9 = w8.alloc (.cells #[.slice none 0 0, .int .i64 0, .slice none 0 0] 63) := ⟨_, rfl⟩
  rw [← hw9, ← hR]
  have hB9 : Below w8.heap.size w8 w9 := by rw [hw9]; exact (Below.refl _ w8).alloc (Nat.le_refl _) _
  have hX9 : w9.heap[R]? = some (.cells #[.slice none 0 0, .int .i64 0, .slice none 0 0] 63 (0, 0)) := by rw [hw9, hR]; exact HK.blk_new _ _
  have HB9 := Lib.hid hB9
  have HX9 := Lib.hid hX9
  have HB09 := Lib.hid (HB08.out.trans (hB9.mono HB08.out.size))
  have HRl := Lib.hid (show w8.heap.size ≤ R by omega)
  clear hw9 hR hB9 hX9
  (with_reducible refine (HGV.out w9 (HE.out.below HB09.out)).mono ?_)
  rintro e w10 ⟨v10, rfl, hv10, hB10⟩
  rw [HN.out] at hv10
  obtain ⟨g10, c10, rfl, hg10, hl10⟩ := own_form9 hv10 hn0
  have HB10 := Lib.hid hB10
  have HB010 := Lib.hid (HB09.out.trans (hB10.mono HB09.out.size))
  have hE10 := ents_row hv10 HN.out hl10
  have hI10 : EntsAt w10 g5 es := (((((HE5.out.below HB6.out (Nat.le_refl _)).below HB7.out (Nat.le_refl _)).below HB8.out (Nat.le_refl _)).below HB9.out (Nat.le_refl _)).below hB10 (Nat.le_refl _))
  have hsm := same_big w10 g5 c5 g10 c10 n es HN.out hI10 hE10 hz
  unfold RetSame at hsm
  have HSM := Lib.hid hsm
  clear hv10 hB10 hg10 hl10 hE10 hI10 hsm
  go_wp2_with (fail)
  (with_reducible refine HSM.out.mono ?_)
  rintro e w11 ⟨rfl, d11, hw11⟩
  have hB11 : Below w10.heap.size w10 w11 := by rw [hw11]; exact bl_dr9 (Below.refl _ _) _
  have HB11 := Lib.hid hB11
  have HB011 := Lib.hid (HB010.out.trans (hB11.mono HB010.out.size))
  clear hw11 hB11
  go_wp2_with (fail)
  (with_reducible refine (HAW.out w11).mono ?_)
  rintro e w12 ⟨rfl, hB12⟩
  have HB12 := Lib.hid hB12
  clear hB12
  go_wp2_with (fail)
  go_ret
  exact ⟨rfl, HB011.out.trans (HB12.out.mono HB011.out.size)⟩
set_option maxRecDepth 100000 in
set_option maxHeartbeats 8000000 in
theorem opens_err3 (w : World) (a : Addr) (n c : Nat) (es : List Ent) (now : Int) (hn : es.length = n) (hn0 : 0 < n) (hz : n * 48 ≤ 140737488355328) (he : EntsA w a es) (hb : n ≤ 30)
    (hop : ∀ W g c, EntsAt W g es → Calls Try.prog 27 #[.slice (some ⟨g, 0, none⟩) n c, .int .i64 now] W fun e w' => e = .returned (.tuple #[.pointer none, .int .i64 3]) ∧ Below W.heap.size W w')
    (hro : ∀ W g c, EntsAt W g es → Calls Try.prog 29 #[.slice (some ⟨g, 0, none⟩) n c, .int .i64 now] W fun e w' => e = .returned (.tuple #[.agg #[.slice none 0 0, .int .i64 0, .slice none 0 0], .int .i64 3]) ∧ Below W.heap.size W w') :
    Calls Try.prog 9 #[.slice (some a) n c, .int .i64 now] w (RetTr w) := by
  have b0 : ¬ (30 : Int) < (n : Int) := by omega
  have HOP := Lib.hid hop
  have HRO := Lib.hid hro
  clear hop hro
  have HE := Lib.hid he
  have HN := Lib.hid hn
  have HAW := Lib.hid (fun W => awake_any W)
  have HGV := Lib.hid (fun W (h : EntsA W a es) => given_big W a n c es hn hz h)
  clear he hn
  go_enter Try.func9, Try.ntmps9
  go_upto_region 4 with (
    at_builtin
    refine wpList_app_any rfl elem38 _ _ rfl (.slice (some ⟨w.heap.size, 0, none⟩) 0 0) w.heap.size 0 [] rfl (empty_row w 45 4) a n c (entsFlat es) rfl (by rw [entsFlat_length, HN.out]) (entsA_addr (HE.out.below ((Below.refl w.heap.size w).alloc (Nat.le_refl _) _))) (ents_one _) (by simp only [maxLen]; omega) (by omega) (by simp) ?_
    intro v5 w5 hown5 hgrow5 hnil5 hat5
    rw [Nat.zero_add] at hown5
    obtain ⟨g5, c5, rfl, hg5, hl5⟩ := own_form9 hown5 hn0
    have hB5 : Below w.heap.size w w5 := ((Below.refl w.heap.size w).alloc (Nat.le_refl _) (.cells #[] 45)).grown hgrow5 (by simp) (fun k hk => by have h2 : w.heap.size = k := Option.some.inj hk; omega)
    have HO5 := Lib.hid hown5
    have HB5 := Lib.hid hB5
    have HG5 := Lib.hid hg5
    have HL5 := Lib.hid hl5
    clear hown5 hgrow5 hnil5 hat5 hB5 hg5 hl5)
  have HE5 := Lib.hid (EntsAt.of HO5.out HN.out.symm)
  go_wp2_with (fail)
  (with_reducible refine (HOP.out w5 g5 c5 HE5.out).mono ?_)
  rintro e w6 ⟨rfl, hB6⟩
  have HB6 := Lib.hid hB6
  clear hB6
  have HB06 := Lib.hid (HB5.out.trans (HB6.out.mono HB5.out.size))
  go_wp2_with (fail)
  (with_reducible refine (HGV.out w6 (HE.out.below HB06.out)).mono ?_)
  rintro e w7 ⟨v7, rfl, hv7, hB7⟩
  rw [HN.out] at hv7
  obtain ⟨g7, c7, rfl, hg7, hl7⟩ := own_form9 hv7 hn0
  have HB7 := Lib.hid hB7
  have HE7 := Lib.hid (ents_row hv7 HN.out hl7)
  have HB07 := Lib.hid (HB06.out.trans (hB7.mono HB06.out.size))
  clear hv7 hB7 hg7 hl7
  go_wp2_with (fail)
  (with_reducible refine (HRO.out w7 g7 c7 HE7.out).mono ?_)
  rintro e w8 ⟨rfl, hB8⟩
  have HB8 := Lib.hid hB8
  clear hB8
  have HB08 := Lib.hid (HB07.out.trans (HB8.out.mono HB07.out.size))
  go_wp2_with (fail)
  obtain ⟨R, hR⟩ : ∃ R, R = w8.heap.size := ⟨_, rfl⟩
  obtain ⟨w9, hw9⟩ : ∃ w9, w9 = w8.alloc (.cells #[.slice none 0 0, .int .i64 0, .slice none 0 0] 63) := ⟨_, rfl⟩
  rw [← hw9, ← hR]
  have hB9 : Below w8.heap.size w8 w9 := by rw [hw9]; exact (Below.refl _ w8).alloc (Nat.le_refl _) _
  have hX9 : w9.heap[R]? = some (.cells #[.slice none 0 0, .int .i64 0, .slice none 0 0] 63 (0, 0)) := by rw [hw9, hR]; exact HK.blk_new _ _
  have HB9 := Lib.hid hB9
  have HX9 := Lib.hid hX9
  have HB09 := Lib.hid (HB08.out.trans (hB9.mono HB08.out.size))
  have HRl := Lib.hid (show w8.heap.size ≤ R by omega)
  clear hw9 hR hB9 hX9
  (with_reducible refine (HGV.out w9 (HE.out.below HB09.out)).mono ?_)
  rintro e w10 ⟨v10, rfl, hv10, hB10⟩
  rw [HN.out] at hv10
  obtain ⟨g10, c10, rfl, hg10, hl10⟩ := own_form9 hv10 hn0
  have HB10 := Lib.hid hB10
  have HB010 := Lib.hid (HB09.out.trans (hB10.mono HB09.out.size))
  have hE10 := ents_row hv10 HN.out hl10
  have hI10 : EntsAt w10 g5 es := (((((HE5.out.below HB6.out (Nat.le_refl _)).below HB7.out (Nat.le_refl _)).below HB8.out (Nat.le_refl _)).below HB9.out (Nat.le_refl _)).below hB10 (Nat.le_refl _))
  have hsm := same_big w10 g5 c5 g10 c10 n es HN.out hI10 hE10 hz
  unfold RetSame at hsm
  have HSM := Lib.hid hsm
  clear hv10 hB10 hg10 hl10 hE10 hI10 hsm
  go_wp2_with (fail)
  (with_reducible refine HSM.out.mono ?_)
  rintro e w11 ⟨rfl, d11, hw11⟩
  have hB11 : Below w10.heap.size w10 w11 := by rw [hw11]; exact bl_dr9 (Below.refl _ _) _
  have HB11 := Lib.hid hB11
  have HB011 := Lib.hid (HB010.out.trans (hB11.mono HB010.out.size))
  clear hw11 hB11
  go_wp2_with (fail)
  (with_reducible refine (HAW.out w11).mono ?_)
  rintro e w12 ⟨rfl, hB12⟩
  have HB12 := Lib.hid hB12
  clear hB12
  go_wp2_with (fail)
  go_ret
  exact ⟨rfl, HB011.out.trans (HB12.out.mono HB011.out.size)⟩
set_option maxRecDepth 100000 in
set_option maxHeartbeats 8000000 in
theorem opens_err4 (w : World) (a : Addr) (n c : Nat) (es : List Ent) (now : Int) (hn : es.length = n) (hn0 : 0 < n) (hz : n * 48 ≤ 140737488355328) (he : EntsA w a es) (hb : 1000 < n)
    (hop : ∀ W g c, EntsAt W g es → Calls Try.prog 27 #[.slice (some ⟨g, 0, none⟩) n c, .int .i64 now] W fun e w' => e = .returned (.tuple #[.pointer none, .int .i64 4]) ∧ Below W.heap.size W w')
    (hro : ∀ W g c, EntsAt W g es → Calls Try.prog 29 #[.slice (some ⟨g, 0, none⟩) n c, .int .i64 now] W fun e w' => e = .returned (.tuple #[.agg #[.slice none 0 0, .int .i64 0, .slice none 0 0], .int .i64 4]) ∧ Below W.heap.size W w') :
    Calls Try.prog 9 #[.slice (some a) n c, .int .i64 now] w (RetTr w) := by
  have b0 : (30 : Int) < (n : Int) := by omega
  have b1 : ¬ (n : Int) ≤ 1000 := by omega
  have HOP := Lib.hid hop
  have HRO := Lib.hid hro
  clear hop hro
  have HE := Lib.hid he
  have HN := Lib.hid hn
  have HAW := Lib.hid (fun W => awake_any W)
  have HGV := Lib.hid (fun W (h : EntsA W a es) => given_big W a n c es hn hz h)
  clear he hn
  go_enter Try.func9, Try.ntmps9
  go_upto_region 4 with (
    at_builtin
    refine wpList_app_any rfl elem38 _ _ rfl (.slice (some ⟨w.heap.size, 0, none⟩) 0 0) w.heap.size 0 [] rfl (empty_row w 45 4) a n c (entsFlat es) rfl (by rw [entsFlat_length, HN.out]) (entsA_addr (HE.out.below ((Below.refl w.heap.size w).alloc (Nat.le_refl _) _))) (ents_one _) (by simp only [maxLen]; omega) (by omega) (by simp) ?_
    intro v5 w5 hown5 hgrow5 hnil5 hat5
    rw [Nat.zero_add] at hown5
    obtain ⟨g5, c5, rfl, hg5, hl5⟩ := own_form9 hown5 hn0
    have hB5 : Below w.heap.size w w5 := ((Below.refl w.heap.size w).alloc (Nat.le_refl _) (.cells #[] 45)).grown hgrow5 (by simp) (fun k hk => by have h2 : w.heap.size = k := Option.some.inj hk; omega)
    have HO5 := Lib.hid hown5
    have HB5 := Lib.hid hB5
    have HG5 := Lib.hid hg5
    have HL5 := Lib.hid hl5
    clear hown5 hgrow5 hnil5 hat5 hB5 hg5 hl5)
  have HE5 := Lib.hid (EntsAt.of HO5.out HN.out.symm)
  go_wp2_with (fail)
  (with_reducible refine (HOP.out w5 g5 c5 HE5.out).mono ?_)
  rintro e w6 ⟨rfl, hB6⟩
  have HB6 := Lib.hid hB6
  clear hB6
  have HB06 := Lib.hid (HB5.out.trans (HB6.out.mono HB5.out.size))
  go_wp2_with (fail)
  (with_reducible refine (HGV.out w6 (HE.out.below HB06.out)).mono ?_)
  rintro e w7 ⟨v7, rfl, hv7, hB7⟩
  rw [HN.out] at hv7
  obtain ⟨g7, c7, rfl, hg7, hl7⟩ := own_form9 hv7 hn0
  have HB7 := Lib.hid hB7
  have HE7 := Lib.hid (ents_row hv7 HN.out hl7)
  have HB07 := Lib.hid (HB06.out.trans (hB7.mono HB06.out.size))
  clear hv7 hB7 hg7 hl7
  go_wp2_with (fail)
  (with_reducible refine (HRO.out w7 g7 c7 HE7.out).mono ?_)
  rintro e w8 ⟨rfl, hB8⟩
  have HB8 := Lib.hid hB8
  clear hB8
  have HB08 := Lib.hid (HB07.out.trans (HB8.out.mono HB07.out.size))
  go_wp2_with (fail)
  obtain ⟨R, hR⟩ : ∃ R, R = w8.heap.size := ⟨_, rfl⟩
  obtain ⟨w9, hw9⟩ : ∃ w9, w9 = w8.alloc (.cells #[.slice none 0 0, .int .i64 0, .slice none 0 0] 63) := ⟨_, rfl⟩
  rw [← hw9, ← hR]
  have hB9 : Below w8.heap.size w8 w9 := by rw [hw9]; exact (Below.refl _ w8).alloc (Nat.le_refl _) _
  have hX9 : w9.heap[R]? = some (.cells #[.slice none 0 0, .int .i64 0, .slice none 0 0] 63 (0, 0)) := by rw [hw9, hR]; exact HK.blk_new _ _
  have HB9 := Lib.hid hB9
  have HX9 := Lib.hid hX9
  have HB09 := Lib.hid (HB08.out.trans (hB9.mono HB08.out.size))
  have HRl := Lib.hid (show w8.heap.size ≤ R by omega)
  clear hw9 hR hB9 hX9
  (with_reducible refine (HGV.out w9 (HE.out.below HB09.out)).mono ?_)
  rintro e w10 ⟨v10, rfl, hv10, hB10⟩
  rw [HN.out] at hv10
  obtain ⟨g10, c10, rfl, hg10, hl10⟩ := own_form9 hv10 hn0
  have HB10 := Lib.hid hB10
  have HB010 := Lib.hid (HB09.out.trans (hB10.mono HB09.out.size))
  have hE10 := ents_row hv10 HN.out hl10
  have hI10 : EntsAt w10 g5 es := (((((HE5.out.below HB6.out (Nat.le_refl _)).below HB7.out (Nat.le_refl _)).below HB8.out (Nat.le_refl _)).below HB9.out (Nat.le_refl _)).below hB10 (Nat.le_refl _))
  have hsm := same_big w10 g5 c5 g10 c10 n es HN.out hI10 hE10 hz
  unfold RetSame at hsm
  have HSM := Lib.hid hsm
  clear hv10 hB10 hg10 hl10 hE10 hI10 hsm
  go_wp2_with (fail)
  (with_reducible refine HSM.out.mono ?_)
  rintro e w11 ⟨rfl, d11, hw11⟩
  have hB11 : Below w10.heap.size w10 w11 := by rw [hw11]; exact bl_dr9 (Below.refl _ _) _
  have HB11 := Lib.hid hB11
  have HB011 := Lib.hid (HB010.out.trans (hB11.mono HB010.out.size))
  clear hw11 hB11
  go_wp2_with (fail)
  (with_reducible refine (HAW.out w11).mono ?_)
  rintro e w12 ⟨rfl, hB12⟩
  have HB12 := Lib.hid hB12
  clear hB12
  go_wp2_with (fail)
  go_ret
  exact ⟨rfl, HB011.out.trans (HB12.out.mono HB011.out.size)⟩
end Go.Proofs.Ythneinepdbkgeaa
