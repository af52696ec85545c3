/- HistoryOpens (9): helpers; entries that Open turns down. lawk.py prints this text (template lawk.tpl). -/
import Derived.Test.YthneinepdbkgeaaLawe
namespace Go.Proofs.Ythneinepdbkgeaa
open Go.RowKit Go.HK
set_option linter.unusedVariables false
set_option linter.unusedSimpArgs false
set_option linter.unusedSectionVars false
set_option maxRecDepth 100000 in
set_option maxHeartbeats 4000000 in
theorem given_big (w : World) (a : Addr) (n c : Nat) (es : List Ent) (hn : es.length = n) (hle : n * 48 ≤ 140737488355328) (he : EntsA w a es) : Calls Try.prog 30 #[.slice (some a) n c] w (RetG w es) := by
  have HN := Lib.hid hn
  have HE := Lib.hid he
  clear hn he
  go_enter Try.func30, Try.ntmps30
  go_wp2_with (fail)
  go_loopw [3, 4] (fun v i wr => ∃ (vo : Value) (k : Nat), vo = v ∧ k ≤ n ∧ i = .int .i64 k ∧ wr.ownsRow w.heap.size 98 4 vo k (entsFlat (es.take k)) ∧ Below w.heap.size w wr) (fun _ i _ => n - (intOf i).toNat)
  case atStart => exact ⟨_, 0, rfl, Nat.zero_le _, rfl, World.ownsRow_nil _ _ _ _, Below.refl _ _⟩
  case round =>
    obtain ⟨vo, k, rfl, hk, rfl, ho, hB⟩ := hrel
    have HO := Lib.hid ho
    have HB := Lib.hid hB
    clear ho hB
    by_cases hkn : (k : Int) < (n : Int)
    · have b0 : (0 : Int) ≤ (k : Int) := by omega
      obtain ⟨x, hx⟩ : ∃ x, es[k]? = some x := ⟨_, List.getElem?_eq_getElem (by rw [HN.out]; omega)⟩
      obtain ⟨c0, c1, c2, c3⟩ := (HE.out.below HB.out).get hx
      have HX := Lib.hid hx
      clear hx
      go_wp2_with (
        at_builtin
        refine wpList_app1 rfl elem61 _ _ rfl vo k (entsFlat (es.take k)) rfl (own_mono0 (HO.out.alloc _)) wr.heap.size 1 #[.int .i64 x.par, .int .i64 x.tick, .string x.note, .string x.state] rfl (HK.blk_new wr _) rfl (by simp [Value.oneCell']) (by simp only [maxLen]; omega) (by omega) ?_
        intro g c w' hown2 hgrow hat hlt2)
      go_roundw
      case rel =>
        have hz := HB.out.size
        have hb2 : Below w.heap.size w w' := (HB.out.alloc hz _).grown hgrow (by simp; omega) (fun k hk => own_ge HO.out k hk)
        have hg1 : w.heap.size ≤ g := by
          rcases hat with h | h
          · exact own_ge HO.out _ h
          · simp at h; omega
        refine ⟨_, k + 1, rfl, by omega, by go_num, ?_, hb2⟩
        rw [take_ents HX.out]
        exact own_base9 hown2 hg1
      case measure => simp [intOf]; omega
    · obtain rfl : n = k := by omega
      go_wp2_with (fail)
      go_ret
      refine ⟨_, rfl, ?_, HB.out⟩
      have h := HO.out
      rw [List.take_of_length_le (by rw [HN.out]; exact Nat.le_refl _)] at h
      rw [HN.out]
      exact h
theorem given_none (w : World) (a : Option Addr) (c : Nat) : Calls Try.prog 30 #[.slice a 0 c] w fun e w' => e = .returned (.slice none 0 0) ∧ w = w' := by
  go_enter Try.func30, Try.ntmps30
  go_wp2_with (fail)
  go_loopw [3, 4] (fun v i wr => v = .slice none 0 0 ∧ i = .int .i64 0 ∧ w = wr) (fun _ i _ => 0)
  case atStart => exact ⟨rfl, rfl, rfl⟩
  case round =>
    obtain ⟨rfl, rfl, rfl⟩ := hrel
    go_wp2_with (fail)
    go_ret
    exact ⟨rfl, rfl⟩
set_option maxRecDepth 100000 in
set_option maxHeartbeats 4000000 in
theorem same_big (w : World) (g1 c1 g2 c2 n : Nat) (es : List Ent) (hn : es.length = n) (h1 : EntsAt w g1 es) (h2 : EntsAt w g2 es) (hle : n * 48 ≤ 140737488355328) : Calls Try.prog 31 #[.slice (some ⟨g1, 0, none⟩) n c1, .slice (some ⟨g2, 0, none⟩) n c2] w (RetSame w) := by
  have HN := Lib.hid hn
  have H1 := Lib.hid h1
  have H2 := Lib.hid h2
  clear hn h1 h2
  go_enter Try.func31, Try.ntmps31
  go_wp2_with (fail)
  go_loopw [13] (fun i wx => ∃ j d : Nat, j ≤ n ∧ i = .int .i64 j ∧ wx = w.drewN d) (fun i _ => n - (intOf i).toNat)
  case atStart => exact ⟨0, 0, by omega, rfl, rfl⟩
  case round =>
    obtain ⟨j, d, hj, rfl, rfl⟩ := hrel
    by_cases hjn : (j : Int) < (n : Int)
    · obtain ⟨y, hy⟩ : ∃ y, es[j]? = some y := ⟨_, List.getElem?_eq_getElem (by rw [HN.out]; omega)⟩
      obtain ⟨c10, c11, c12, c13⟩ := H1.out.c j y hy
      obtain ⟨c20, c21, c22, c23⟩ := H2.out.c j y hy
      have b4 : (0 : Int) ≤ (j : Int) := by omega
      clear hy
      go_wp2_with (fail)
      go_quiet (fail)
      go_wp2_with (fail)
      go_roundw
      case rel => exact ⟨j + 1, d + nq, by omega, by go_num, rfl⟩
      case measure => simp [intOf]; omega
    · go_wp2_with (fail)
      go_ret
      exact ⟨rfl, d, rfl⟩
def OkE (y : Ent) : Prop := y.state.size ≤ 16384 ∧ y.note.size ≤ 100
/-- The first entry that is too long. -/
theorem short_first (es : List Ent) : ¬ Short es → ∃ (i : Nat) (yi : Ent), (∀ (j : Nat) (y : Ent), j < i → es[j]? = some y → OkE y) ∧ es[i]? = some yi ∧ ¬ OkE yi := by
  intro h
  have key : ∀ k, (∀ (j : Nat) (y : Ent), j < k → es[j]? = some y → OkE y) ∨ ∃ (i : Nat) (yi : Ent), (∀ (j : Nat) (y : Ent), j < i → es[j]? = some y → OkE y) ∧ es[i]? = some yi ∧ ¬ OkE yi := by
    intro k
    induction k with
    | zero => exact .inl fun j y hj => absurd hj (Nat.not_lt_zero j)
    | succ k ih =>
      rcases ih with ih | ih
      · rcases hk : es[k]? with _ | y
        · exact .inl fun j y' hj hy => by
            by_cases e : j = k
            · subst e; rw [hk] at hy; cases hy
            · exact ih j y' (by omega) hy
        · by_cases hy : OkE y
          · exact .inl fun j y' hj hy' => by
              by_cases e : j = k
              · subst e; rw [hk] at hy'; cases hy'; exact hy
              · exact ih j y' (by omega) hy'
          · exact .inr ⟨k, y, ih, hk, hy⟩
      · exact .inr ih
  rcases key es.length with h1 | h1
  · exact absurd (fun j x hx => h1 j x (List.getElem?_eq_some_iff.1 hx).1 hx) h
  · exact h1
theorem entsA_addr {w : World} {a : Addr} {es : List Ent} (h : EntsA w a es) : ∀ j u, (entsFlat es)[j]? = some u → w.cell? (a.add j) = some u := by
  intro j u hj
  have hlt := (List.getElem?_eq_some_iff.1 hj).1
  rw [entsFlat_length] at hlt
  obtain ⟨x, hx⟩ : ∃ x, es[j / 4]? = some x := ⟨_, List.getElem?_eq_getElem (by omega)⟩
  have hc := h _ x hx
  have he := entsFlat_get es (j / 4) (j % 4) x hx (Nat.mod_lt _ (by omega))
  have hj4 : j / 4 * 4 + j % 4 = j := by omega
  rw [hj4, hj] at he
  have h4 : j % 4 < 4 := Nat.mod_lt _ (by omega)
  obtain ⟨r, hr⟩ : ∃ r, r = j % 4 := ⟨_, rfl⟩
  rw [← hr] at he h4 hj4
  rw [← hj4, he]
  match r, h4 with
  | 0, _ => exact hc.1
  | 1, _ => exact hc.2.1
  | 2, _ => exact hc.2.2.1
  | 3, _ => exact hc.2.2.2
set_option maxRecDepth 100000 in
set_option maxHeartbeats 8000000 in
/-- No entries. -/
theorem opens_nil (w : World) (a : Option Addr) (c : Nat) (now : Int) : Calls Try.prog 9 #[.slice a 0 c, .int .i64 now] w (RetTr w) := by
  have haw := fun W => awake_any W
  have hgv := fun W => given_none W a c
  have hro := fun W => ropen_nil W now
  have hsm := fun W a1 c1 => same_none W a1 none c1 0
  have hop := fun W g c1 hg => open_no W g 0 c1 [] now ⟨fun i x hx => by simp at hx, hg⟩ rfl (by omega) (fun j x hx => by simp at hx) (fun h => by have h1 := h.1; have h2 := h.2.1; simp at h2; omega)
  unfold RetOpN9 at hro
  unfold RetSame at hsm
  have HA := Lib.hid haw
  have HGV := Lib.hid hgv
  have HRO := Lib.hid hro
  have HSM := Lib.hid hsm
  have HOP := Lib.hid hop
  clear haw hgv hro hsm hop
  cases a
  · go_enter Try.func9, Try.ntmps9
    go_upto_region 4 with (fail)
    obtain ⟨w5, hw5⟩ : ∃ w5, w5 = w.alloc (.cells #[] 45) := ⟨_, rfl⟩
    have hB5 : Below w.heap.size w w5 := by rw [hw5]; exact (Below.refl _ w).alloc (Nat.le_refl _) _
    have hl5 : w.heap.size < w5.heap.size := by rw [hw5]; simp
    rw [← hw5]
    have HB5 := Lib.hid hB5
    have HL5 := Lib.hid hl5
    clear hB5 hl5 hw5
    go_wp2_with (fail)
    (with_reducible refine (HOP.out w5 w.heap.size 0 HL5.out).mono ?_)
    rintro e w6 ⟨rfl, hB6⟩
    have HB6 := Lib.hid (HB5.out.trans (hB6.mono HB5.out.size))
    clear hB6
    go_wp2_with (fail)
    (with_reducible refine (HGV.out _).mono ?_)
    rintro e w7 ⟨rfl, rfl⟩
    go_wp2_with (fail)
    (with_reducible refine (HRO.out _).mono ?_)
    rintro e w8 ⟨rfl, hB8⟩
    have HB8 := Lib.hid (HB6.out.trans (hB8.mono HB6.out.size))
    clear hB8
    go_wp2_with (fail)
    (with_reducible refine (HGV.out _).mono ?_)
    rintro e w9 ⟨rfl, rfl⟩
    go_wp2_with (fail)
    (with_reducible refine (HSM.out _ _ _).mono ?_)
    rintro e w10 ⟨rfl, d10, hw10⟩
    have hB10 : Below w.heap.size w w10 := by rw [hw10]; exact bl_dr9 (HB8.out.alloc HB8.out.size _) _
    have HB10 := Lib.hid hB10
    clear hw10 hB10
    go_wp2_with (fail)
    (with_reducible refine (HA.out _).mono ?_)
    rintro e w11 ⟨rfl, hB11⟩
    have HB11 := Lib.hid hB11
    clear hB11
    go_wp2_with (fail)
    go_ret
    exact ⟨rfl, HB10.out.trans (HB11.out.mono HB10.out.size)⟩
  · go_enter Try.func9, Try.ntmps9
    go_upto_region 4 with (fail)
    obtain ⟨w5, hw5⟩ : ∃ w5, w5 = w.alloc (.cells #[] 45) := ⟨_, rfl⟩
    have hB5 : Below w.heap.size w w5 := by rw [hw5]; exact (Below.refl _ w).alloc (Nat.le_refl _) _
    have hl5 : w.heap.size < w5.heap.size := by rw [hw5]; simp
    rw [← hw5]
    have HB5 := Lib.hid hB5
    have HL5 := Lib.hid hl5
    clear hB5 hl5 hw5
    go_wp2_with (fail)
    (with_reducible refine (HOP.out w5 w.heap.size 0 HL5.out).mono ?_)
    rintro e w6 ⟨rfl, hB6⟩
    have HB6 := Lib.hid (HB5.out.trans (hB6.mono HB5.out.size))
    clear hB6
    go_wp2_with (fail)
    (with_reducible refine (HGV.out _).mono ?_)
    rintro e w7 ⟨rfl, rfl⟩
    go_wp2_with (fail)
    (with_reducible refine (HRO.out _).mono ?_)
    rintro e w8 ⟨rfl, hB8⟩
    have HB8 := Lib.hid (HB6.out.trans (hB8.mono HB6.out.size))
    clear hB8
    go_wp2_with (fail)
    (with_reducible refine (HGV.out _).mono ?_)
    rintro e w9 ⟨rfl, rfl⟩
    go_wp2_with (fail)
    (with_reducible refine (HSM.out _ _ _).mono ?_)
    rintro e w10 ⟨rfl, d10, hw10⟩
    have hB10 : Below w.heap.size w w10 := by rw [hw10]; exact bl_dr9 (HB8.out.alloc HB8.out.size _) _
    have HB10 := Lib.hid hB10
    clear hw10 hB10
    go_wp2_with (fail)
    (with_reducible refine (HA.out _).mono ?_)
    rintro e w11 ⟨rfl, hB11⟩
    have HB11 := Lib.hid hB11
    clear hB11
    go_wp2_with (fail)
    go_ret
    exact ⟨rfl, HB10.out.trans (HB11.out.mono HB10.out.size)⟩
set_option maxRecDepth 100000 in
set_option maxHeartbeats 8000000 in
theorem opens_err2 (w : World) (a : Addr) (n c : Nat) (es : List Ent) (now : Int) (hn : es.length = n) (hn0 : 0 < n) (hz : n * 48 ≤ 140737488355328) (he : EntsA w a es) (hb : n ≤ 30)
    (hop : ∀ W g c, EntsAt W g es → Calls Try.prog 27 #[.slice (some ⟨g, 0, none⟩) n c, .int .i64 now] W fun e w' => e = .returned (.tuple #[.pointer none, .int .i64 2]) ∧ Below W.heap.size W w')
    (hro : ∀ W g c, EntsAt W g es → Calls Try.prog 29 #[.slice (some ⟨g, 0, none⟩) n c, .int .i64 now] W fun e w' => e = .returned (.tuple #[.agg #[.slice none 0 0, .int .i64 0, .slice none 0 0], .int .i64 2]) ∧ Below W.heap.size W w') :
    Calls Try.prog 9 #[.slice (some a) n c, .int .i64 now] w (RetTr w) := by
  have b0 : ¬ (30 : Int) < (n : Int) := by omega
  have HOP := Lib.hid hop
  have HRO := Lib.hid hro
  clear hop hro
  have HE := Lib.hid he
  have HN := Lib.hid hn
  have HAW := Lib.hid (fun W => awake_any W)
  have HGV := Lib.hid (fun W (h : EntsA W a es) => given_big W a n c es hn hz h)
  clear he hn
  go_enter Try.func9, Try.ntmps9
  go_upto_region 4 with (
    at_builtin
    refine wpList_app_any rfl elem38 _ _ rfl (.slice (some ⟨w.heap.size, 0, none⟩) 0 0) w.heap.size 0 [] rfl (empty_row w 45 4) a n c (entsFlat es) rfl (by rw [entsFlat_length, HN.out]) (entsA_addr (HE.out.below ((Below.refl w.heap.size w).alloc (Nat.le_refl _) _))) (ents_one _) (by simp only [maxLen]; omega) (by omega) (by simp) ?_
    intro v5 w5 hown5 hgrow5 hnil5 hat5
    rw [Nat.zero_add] at hown5
    obtain ⟨g5, c5, rfl, hg5, hl5⟩ := own_form9 hown5 hn0
    have hB5 : Below w.heap.size w w5 := ((Below.refl w.heap.size w).alloc (Nat.le_refl _) (.cells #[] 45)).grown hgrow5 (by simp) (fun k hk => by have h2 : w.heap.size = k := Option.some.inj hk; omega)
    have HO5 := Lib.hid hown5
    have HB5 := Lib.hid hB5
    have HG5 := Lib.hid hg5
    have HL5 := Lib.hid hl5
    clear hown5 hgrow5 hnil5 hat5 hB5 hg5 hl5)
  have HE5 := Lib.hid (EntsAt.of HO5.out HN.out.symm)
  go_wp2_with (fail)
  (with_reducible refine (HOP.out w5 g5 c5 HE5.out).mono ?_)
  rintro e w6 ⟨rfl, hB6⟩
  have HB6 := Lib.hid hB6
  clear hB6
  have HB06 := Lib.hid (HB5.out.trans (HB6.out.mono HB5.out.size))
  go_wp2_with (fail)
  (with_reducible refine (HGV.out w6 (HE.out.below HB06.out)).mono ?_)
  rintro e w7 ⟨v7, rfl, hv7, hB7⟩
  rw [HN.out] at hv7
  obtain ⟨g7, c7, rfl, hg7, hl7⟩ := own_form9 hv7 hn0
  have HB7 := Lib.hid hB7
  have HE7 := Lib.hid (ents_row hv7 HN.out hl7)
  have HB07 := Lib.hid (HB06.out.trans (hB7.mono HB06.out.size))
  clear hv7 hB7 hg7 hl7
  go_wp2_with (fail)
  (with_reducible refine (HRO.out w7 g7 c7 HE7.out).mono ?_)
  rintro e w8 ⟨rfl, hB8⟩
  have HB8 := Lib.hid hB8
  clear hB8
  have HB08 := Lib.hid (HB07.out.trans (HB8.out.mono HB07.out.size))
  go_wp2_with (fail)
  obtain ⟨R, hR⟩ : ∃ R, R = w8.heap.size := ⟨_, rfl⟩
  obtain ⟨w9, hw9⟩ : ∃ w9, w9 = w8.alloc (.cells #[.slice none 0 0, .int .i64 0, .slice none 0 0] 63) := ⟨_, rfl⟩
  rw [← hw9, ← hR]
  have hB9 : Below w8.heap.size w8 w9 := by rw [hw9]; exact (Below.refl _ w8).alloc (Nat.le_refl _) _
  have hX9 : w9.heap[R]? = some (.cells #[.slice none 0 0, .int .i64 0, .slice none 0 0] 63 (0, 0)) := by rw [hw9, hR]; exact HK.blk_new _ _
  have HB9 := Lib.hid hB9
  have HX9 := Lib.hid hX9
  have HB09 := Lib.hid (HB08.out.trans (hB9.mono HB08.out.size))
  have HRl := Lib.hid (show w8.heap.size ≤ R by omega)
  clear hw9 hR hB9 hX9
  (with_reducible refine (HGV.out w9 (HE.out.below HB09.out)).mono ?_)
  rintro e w10 ⟨v10, rfl, hv10, hB10⟩
  rw [HN.out] at hv10
  obtain ⟨g10, c10, rfl, hg10, hl10⟩ := own_form9 hv10 hn0
  have HB10 := Lib.hid hB10
  have HB010 := Lib.hid (HB09.out.trans (hB10.mono HB09.out.size))
  have hE10 := ents_row hv10 HN.out hl10
  have hI10 : EntsAt w10 g5 es := (((((HE5.out.below HB6.out (Nat.le_refl _)).below HB7.out (Nat.le_refl _)).below HB8.out (Nat.le_refl _)).below HB9.out (Nat.le_refl _)).below hB10 (Nat.le_refl _))
  have hsm := same_big w10 g5 c5 g10 c10 n es HN.out hI10 hE10 hz
  unfold RetSame at hsm
  have HSM := Lib.hid hsm
  clear hv10 hB10 hg10 hl10 hE10 hI10 hsm
  go_wp2_with (fail)
  (with_reducible refine HSM.out.mono ?_)
  rintro e w11 ⟨rfl, d11, hw11⟩
  have hB11 : Below w10.heap.size w10 w11 := by rw [hw11]; exact bl_dr9 (Below.refl _ _) _
  have HB11 := Lib.hid hB11
  have HB011 := Lib.hid (HB010.out.trans (hB11.mono HB010.out.size))
  clear hw11 hB11
  go_wp2_with (fail)
  (with_reducible refine (HAW.out w11).mono ?_)
  rintro e w12 ⟨rfl, hB12⟩
  have HB12 := Lib.hid hB12
  clear hB12
  go_wp2_with (fail)
  go_ret
  exact ⟨rfl, HB011.out.trans (HB12.out.mono HB011.out.size)⟩
set_option maxRecDepth 100000 in
set_option maxHeartbeats 8000000 in
theorem opens_err3 (w : World) (a : Addr) (n c : Nat) (es : List Ent) (now : Int) (hn : es.length = n) (hn0 : 0 < n) (hz : n * 48 ≤ 140737488355328) (he : EntsA w a es) (hb : n ≤ 30)
    (hop : ∀ W g c, EntsAt W g es → Calls Try.prog 27 #[.slice (some ⟨g, 0, none⟩) n c, .int .i64 now] W fun e w' => e = .returned (.tuple #[.pointer none, .int .i64 3]) ∧ Below W.heap.size W w')
    (hro : ∀ W g c, EntsAt W g es → Calls Try.prog 29 #[.slice (some ⟨g, 0, none⟩) n c, .int .i64 now] W fun e w' => e = .returned (.tuple #[.agg #[.slice none 0 0, .int .i64 0, .slice none 0 0], .int .i64 3]) ∧ Below W.heap.size W w') :
    Calls Try.prog 9 #[.slice (some a) n c, .int .i64 now] w (RetTr w) := by
  have b0 : ¬ (30 : Int) < (n : Int) := by omega
  have HOP := Lib.hid hop
  have HRO := Lib.hid hro
  clear hop hro
  have HE := Lib.hid he
  have HN := Lib.hid hn
  have HAW := Lib.hid (fun W => awake_any W)
  have HGV := Lib.hid (fun W (h : EntsA W a es) => given_big W a n c es hn hz h)
  clear he hn
  go_enter Try.func9, Try.ntmps9
  go_upto_region 4 with (
    at_builtin
    refine wpList_app_any rfl elem38 _ _ rfl (.slice (some ⟨w.heap.size, 0, none⟩) 0 0) w.heap.size 0 [] rfl (empty_row w 45 4) a n c (entsFlat es) rfl (by rw [entsFlat_length, HN.out]) (entsA_addr (HE.out.below ((Below.refl w.heap.size w).alloc (Nat.le_refl _) _))) (ents_one _) (by simp only [maxLen]; omega) (by omega) (by simp) ?_
    intro v5 w5 hown5 hgrow5 hnil5 hat5
    rw [Nat.zero_add] at hown5
    obtain ⟨g5, c5, rfl, hg5, hl5⟩ := own_form9 hown5 hn0
    have hB5 : Below w.heap.size w w5 := ((Below.refl w.heap.size w).alloc (Nat.le_refl _) (.cells #[] 45)).grown hgrow5 (by simp) (fun k hk => by have h2 : w.heap.size = k := Option.some.inj hk; omega)
    have HO5 := Lib.hid hown5
    have HB5 := Lib.hid hB5
    have HG5 := Lib.hid hg5
    have HL5 := Lib.hid hl5
    clear hown5 hgrow5 hnil5 hat5 hB5 hg5 hl5)
  have HE5 := Lib.hid (EntsAt.of HO5.out HN.out.symm)
  go_wp2_with (fail)
  (with_reducible refine (HOP.out w5 g5 c5 HE5.out).mono ?_)
  rintro e w6 ⟨rfl, hB6⟩
  have HB6 := Lib.hid hB6
  clear hB6
  have HB06 := Lib.hid (HB5.out.trans (HB6.out.mono HB5.out.size))
  go_wp2_with (fail)
  (with_reducible refine (HGV.out w6 (HE.out.below HB06.out)).mono ?_)
  rintro e w7 ⟨v7, rfl, hv7, hB7⟩
  rw [HN.out] at hv7
  obtain ⟨g7, c7, rfl, hg7, hl7⟩ := own_form9 hv7 hn0
  have HB7 := Lib.hid hB7
  have HE7 := Lib.hid (ents_row hv7 HN.out hl7)
  have HB07 := Lib.hid (HB06.out.trans (hB7.mono HB06.out.size))
  clear hv7 hB7 hg7 hl7
  go_wp2_with (fail)
  (with_reducible refine (HRO.out w7 g7 c7 HE7.out).mono ?_)
  rintro e w8 ⟨rfl, hB8⟩
  have HB8 := Lib.hid hB8
  clear hB8
  have HB08 := Lib.hid (HB07.out.trans (HB8.out.mono HB07.out.size))
  go_wp2_with (fail)
  obtain ⟨R, hR⟩ : ∃ R, R = w8.heap.size := ⟨_, rfl⟩
  obtain ⟨w9, hw9⟩ : ∃ w9, w9 = w8.alloc (.cells #[.slice none 0 0, .int .i64 0, .slice none 0 0] 63) := ⟨_, rfl⟩
  rw [← hw9, ← hR]
  have hB9 : Below w8.heap.size w8 w9 := by rw [hw9]; exact (Below.refl _ w8).alloc (Nat.le_refl _) _
  have hX9 : w9.heap[R]? = some (.cells #[.slice none 0 0, .int .i64 0, .slice none 0 0] 63 (0, 0)) := by rw [hw9, hR]; exact HK.blk_new _ _
  have HB9 := Lib.hid hB9
  have HX9 := Lib.hid hX9
  have HB09 := Lib.hid (HB08.out.trans (hB9.mono HB08.out.size))
  have HRl := Lib.hid (show w8.heap.size ≤ R by omega)
  clear hw9 hR hB9 hX9
  (with_reducible refine (HGV.out w9 (HE.out.below HB09.out)).mono ?_)
  rintro e w10 ⟨v10, rfl, hv10, hB10⟩
  rw [HN.out] at hv10
  obtain ⟨g10, c10, rfl, hg10, hl10⟩ := own_form9 hv10 hn0
  have HB10 := Lib.hid hB10
  have HB010 := Lib.hid (HB09.out.trans (hB10.mono HB09.out.size))
  have hE10 := ents_row hv10 HN.out hl10
  have hI10 : EntsAt w10 g5 es := (((((HE5.out.below HB6.out (Nat.le_refl _)).below HB7.out (Nat.le_refl _)).below HB8.out (Nat.le_refl _)).below HB9.out (Nat.le_refl _)).below hB10 (Nat.le_refl _))
  have hsm := same_big w10 g5 c5 g10 c10 n es HN.out hI10 hE10 hz
  unfold RetSame at hsm
  have HSM := Lib.hid hsm
  clear hv10 hB10 hg10 hl10 hE10 hI10 hsm
  go_wp2_with (fail)
  (with_reducible refine HSM.out.mono ?_)
  rintro e w11 ⟨rfl, d11, hw11⟩
  have hB11 : Below w10.heap.size w10 w11 := by rw [hw11]; exact bl_dr9 (Below.refl _ _) _
  have HB11 := Lib.hid hB11
  have HB011 := Lib.hid (HB010.out.trans (hB11.mono HB010.out.size))
  clear hw11 hB11
  go_wp2_with (fail)
  (with_reducible refine (HAW.out w11).mono ?_)
  rintro e w12 ⟨rfl, hB12⟩
  have HB12 := Lib.hid hB12
  clear hB12
  go_wp2_with (fail)
  go_ret
  exact ⟨rfl, HB011.out.trans (HB12.out.mono HB011.out.size)⟩
set_option maxRecDepth 100000 in
set_option maxHeartbeats 8000000 in
theorem opens_err4 (w : World) (a : Addr) (n c : Nat) (es : List Ent) (now : Int) (hn : es.length = n) (hn0 : 0 < n) (hz : n * 48 ≤ 140737488355328) (he : EntsA w a es) (hb : 1000 < n)
    (hop : ∀ W g c, EntsAt W g es → Calls Try.prog 27 #[.slice (some ⟨g, 0, none⟩) n c, .int .i64 now] W fun e w' => e = .returned (.tuple #[.pointer none, .int .i64 4]) ∧ Below W.heap.size W w')
    (hro : ∀ W g c, EntsAt W g es → Calls Try.prog 29 #[.slice (some ⟨g, 0, none⟩) n c, .int .i64 now] W fun e w' => e = .returned (.tuple #[.agg #[.slice none 0 0, .int .i64 0, .slice none 0 0], .int .i64 4]) ∧ Below W.heap.size W w') :
    Calls Try.prog 9 #[.slice (some a) n c, .int .i64 now] w (RetTr w) := by
  have b0 : (30 : Int) < (n : Int) := by omega
  have b1 : ¬ (n : Int) ≤ 1000 := by omega
  have HOP := Lib.hid hop
  have HRO := Lib.hid hro
  clear hop hro
  have HE := Lib.hid he
  have HN := Lib.hid hn
  have HAW := Lib.hid (fun W => awake_any W)
  have HGV := Lib.hid (fun W (h : EntsA W a es) => given_big W a n c es hn hz h)
  clear he hn
  go_enter Try.func9, Try.ntmps9
  go_upto_region 4 with (
    at_builtin
    refine wpList_app_any rfl elem38 _ _ rfl (.slice (some ⟨w.heap.size, 0, none⟩) 0 0) w.heap.size 0 [] rfl (empty_row w 45 4) a n c (entsFlat es) rfl (by rw [entsFlat_length, HN.out]) (entsA_addr (HE.out.below ((Below.refl w.heap.size w).alloc (Nat.le_refl _) _))) (ents_one _) (by simp only [maxLen]; omega) (by omega) (by simp) ?_
    intro v5 w5 hown5 hgrow5 hnil5 hat5
    rw [Nat.zero_add] at hown5
    obtain ⟨g5, c5, rfl, hg5, hl5⟩ := own_form9 hown5 hn0
    have hB5 : Below w.heap.size w w5 := ((Below.refl w.heap.size w).alloc (Nat.le_refl _) (.cells #[] 45)).grown hgrow5 (by simp) (fun k hk => by have h2 : w.heap.size = k := Option.some.inj hk; omega)
    have HO5 := Lib.hid hown5
    have HB5 := Lib.hid hB5
    have HG5 := Lib.hid hg5
    have HL5 := Lib.hid hl5
    clear hown5 hgrow5 hnil5 hat5 hB5 hg5 hl5)
  have HE5 := Lib.hid (EntsAt.of HO5.out HN.out.symm)
  go_wp2_with (fail)
  (with_reducible refine (HOP.out w5 g5 c5 HE5.out).mono ?_)
  rintro e w6 ⟨rfl, hB6⟩
  have HB6 := Lib.hid hB6
  clear hB6
  have HB06 := Lib.hid (HB5.out.trans (HB6.out.mono HB5.out.size))
  go_wp2_with (fail)
  (with_reducible refine (HGV.out w6 (HE.out.below HB06.out)).mono ?_)
  rintro e w7 ⟨v7, rfl, hv7, hB7⟩
  rw [HN.out] at hv7
  obtain ⟨g7, c7, rfl, hg7, hl7⟩ := own_form9 hv7 hn0
  have HB7 := Lib.hid hB7
  have HE7 := Lib.hid (ents_row hv7 HN.out hl7)
  have HB07 := Lib.hid (HB06.out.trans (hB7.mono HB06.out.size))
  clear hv7 hB7 hg7 hl7
  go_wp2_with (fail)
  (with_reducible refine (HRO.out w7 g7 c7 HE7.out).mono ?_)
  rintro e w8 ⟨rfl, hB8⟩
  have HB8 := Lib.hid hB8
  clear hB8
  have HB08 := Lib.hid (HB07.out.trans (HB8.out.mono HB07.out.size))
  go_wp2_with (fail)
  obtain ⟨R, hR⟩ : ∃ R, R = w8.heap.size := ⟨_, rfl⟩
  obtain ⟨w9, hw9⟩ : ∃ w9, w9 = w8.alloc (.cells #[.slice none 0 0, .int .i64 0, .slice none 0 0] 63) := ⟨_, rfl⟩
  rw [← hw9, ← hR]
  have hB9 : Below w8.heap.size w8 w9 := by rw [hw9]; exact (Below.refl _ w8).alloc (Nat.le_refl _) _
  have hX9 : w9.heap[R]? = some (.cells #[.slice none 0 0, .int .i64 0, .slice none 0 0] 63 (0, 0)) := by rw [hw9, hR]; exact HK.blk_new _ _
  have HB9 := Lib.hid hB9
  have HX9 := Lib.hid hX9
  have HB09 := Lib.hid (HB08.out.trans (hB9.mono HB08.out.size))
  have HRl := Lib.hid (show w8.heap.size ≤ R by omega)
  clear hw9 hR hB9 hX9
  (with_reducible refine (HGV.out w9 (HE.out.below HB09.out)).mono ?_)
  rintro e w10 ⟨v10, rfl, hv10, hB10⟩
  rw [HN.out] at hv10
  obtain ⟨g10, c10, rfl, hg10, hl10⟩ := own_form9 hv10 hn0
  have HB10 := Lib.hid hB10
  have HB010 := Lib.hid (HB09.out.trans (hB10.mono HB09.out.size))
  have hE10 := ents_row hv10 HN.out hl10
  have hI10 : EntsAt w10 g5 es := (((((HE5.out.below HB6.out (Nat.le_refl _)).below HB7.out (Nat.le_refl _)).below HB8.out (Nat.le_refl _)).below HB9.out (Nat.le_refl _)).below hB10 (Nat.le_refl _))
  have hsm := same_big w10 g5 c5 g10 c10 n es HN.out hI10 hE10 hz
  unfold RetSame at hsm
  have HSM := Lib.hid hsm
  clear hv10 hB10 hg10 hl10 hE10 hI10 hsm
  go_wp2_with (fail)
  (with_reducible refine HSM.out.mono ?_)
  rintro e w11 ⟨rfl, d11, hw11⟩
  have hB11 : Below w10.heap.size w10 w11 := by rw [hw11]; exact bl_dr9 (Below.refl _ _) _
  have HB11 := Lib.hid hB11
  have HB011 := Lib.hid (HB010.out.trans (hB11.mono HB010.out.size))
  clear hw11 hB11
  go_wp2_with (fail)
  (with_reducible refine (HAW.out w11).mono ?_)
  rintro e w12 ⟨rfl, hB12⟩
  have HB12 := Lib.hid hB12
  clear hB12
  go_wp2_with (fail)
  go_ret
  exact ⟨rfl, HB011.out.trans (HB12.out.mono HB011.out.size)⟩
end Go.Proofs.Ythneinepdbkgeaa
namespace Go.Proofs.Ythneinepdbkgeaa
open Go.RowKit Go.HK
set_option linter.unusedVariables false
set_option linter.unusedSimpArgs false
set_option linter.unusedSectionVars false
theorem set_other9 {W : World} {g i j : Nat} {v u : Value} (h : W.cell? ⟨g, j, none⟩ = some u) (hij : i ≠ j) : (W.setCell ⟨g, i, none⟩ v).cell? ⟨g, j, none⟩ = some u := by
  rw [World.cell?_setCell_other]
  · exact h
  · intro h; simp only [Addr.mk.injEq] at h; omega
def TlY (w : World) (R t q : Nat) (wr : World) : Prop :=
  ∃ F nodes now ge ce gw gc went, TlW w R t F nodes now ge ce gw gc went wr ∧ nodes.length ≤ q ∧ went.length ≤ q + 1
set_option maxRecDepth 100000 in
set_option maxHeartbeats 16000000 in
theorem opens_ok (w : World) (a : Addr) (n c : Nat) (es : List Ent) (m : Nat) (hn : es.length = n) (hn0 : 0 < n) (hb : n ≤ 30) (he : EntsA w a es) (hS : Short es) (hR : Right es m) :
    Calls Try.prog 9 #[.slice (some a) n c, .int .i64 (m : Int)] w (RetTr w) := by
  have hz : n * 48 ≤ 140737488355328 := by omega
  have b0 : ¬ (30 : Int) < (n : Int) := by omega
  have hzs : ∀ (j : Nat) (y : Ent), es[j]? = some y → y.state.size ≤ maxLen ∧ y.note.size ≤ maxLen := fun j y hy => by have := hS j y hy; simp only [maxLen]; omega
  have hop := fun W g c h => open_yes W g n c es m h hn (by omega) hS hR
  have hro := fun W g c h => (ropen_any W g n c es m hn hn0 (by omega) h hzs).mono (R' := RetOpY W es n m) (fun e w' h => by
      rcases h with ⟨h1, _⟩ | ⟨_, h1, _⟩ | ⟨_, m2, h1, _, h2⟩
      · exact absurd hS h1
      · exact absurd hR h1
      · obtain rfl : m = m2 := by omega
        exact h2)
  unfold OpenI at hop
  have HOP := Lib.hid hop
  have HRO := Lib.hid hro
  have HSH := Lib.hid hS
  have HRT := Lib.hid hR
  have hat := addAll_take hR (by rw [hn]; omega) es.length (Nat.le_refl _)
  rw [List.take_length] at hat
  have HEN : Hid (ents (openN es m) = es) := Lib.hid (by unfold openN; rw [ents_lead]; exact hat.1)
  have HNN : Hid ((openN es m).length = n) := Lib.hid (by unfold openN; rw [lead_length, hat.2.1, hn])
  clear hop hro hS hR hat hzs
  have HE := Lib.hid he
  have HN := Lib.hid hn
  have HAW := Lib.hid (fun W => awake_any W)
  have HGV := Lib.hid (fun W (h : EntsA W a es) => given_big W a n c es hn hz h)
  clear he hn
  go_enter Try.func9, Try.ntmps9
  go_upto_region 4 with (
    at_builtin
    refine wpList_app_any rfl elem38 _ _ rfl (.slice (some ⟨w.heap.size, 0, none⟩) 0 0) w.heap.size 0 [] rfl (empty_row w 45 4) a n c (entsFlat es) rfl (by rw [entsFlat_length, HN.out]) (entsA_addr (HE.out.below ((Below.refl w.heap.size w).alloc (Nat.le_refl _) _))) (ents_one _) (by simp only [maxLen]; omega) (by omega) (by simp) ?_
    intro v5 w5 hown5 hgrow5 hnil5 hat5
    rw [Nat.zero_add] at hown5
    obtain ⟨g5, c5, rfl, hg5, hl5⟩ := own_form9 hown5 hn0
    have hB5 : Below w.heap.size w w5 := ((Below.refl w.heap.size w).alloc (Nat.le_refl _) (.cells #[] 45)).grown hgrow5 (by simp) (fun k hk => by have h2 : w.heap.size = k := Option.some.inj hk; omega)
    have HO5 := Lib.hid hown5
    have HB5 := Lib.hid hB5
    have HG5 := Lib.hid hg5
    have HL5 := Lib.hid hl5
    clear hown5 hgrow5 hnil5 hat5 hB5 hg5 hl5)
  have HE5 := Lib.hid (EntsAt.of HO5.out HN.out.symm)
  go_wp2_with (fail)
  (with_reducible refine (HOP.out w5 g5 c5 HE5.out).mono ?_)
  rintro e w6 ⟨t, F, rfl, hH6, hB6, hF6⟩
  have HH6 := Lib.hid hH6
  have HB6 := Lib.hid hB6
  have HF6 := Lib.hid hF6
  clear hH6 hB6 hF6
  have HB06 := Lib.hid (HB5.out.trans (HB6.out.mono HB5.out.size))
  go_wp2_with (fail)
  (with_reducible refine (HGV.out w6 (HE.out.below HB06.out)).mono ?_)
  rintro e w7 ⟨v7, rfl, hv7, hB7⟩
  rw [HN.out] at hv7
  obtain ⟨g7, c7, rfl, hg7, hl7⟩ := own_form9 hv7 hn0
  have HB7 := Lib.hid hB7
  have HE7 := Lib.hid (ents_row hv7 HN.out hl7)
  have HB07 := Lib.hid (HB06.out.trans (hB7.mono HB06.out.size))
  clear hv7 hB7 hg7 hl7
  go_wp2_with (fail)
  (with_reducible refine (HRO.out w7 g7 c7 HE7.out).mono ?_)
  rintro e w8 ⟨ge', ce', gw', gc', lw, rfl, hE8, hW8, hfv, q1, q2, hB8⟩
  have HE8 := Lib.hid hE8
  have HW8 := Lib.hid hW8
  have HFV := Lib.hid hfv
  have HQ1 := Lib.hid q1
  have HQ2 := Lib.hid q2
  have HWN : Hid ((lw ++ [m]).length = n + 1) := Lib.hid hW8.len
  have HB8 := Lib.hid hB8
  clear hE8 hW8 hfv q1 q2 hB8
  have HB08 := Lib.hid (HB07.out.trans (HB8.out.mono HB07.out.size))
  go_wp2_with (fail)
  obtain ⟨R, hR⟩ : ∃ R, R = w8.heap.size := ⟨_, rfl⟩
  obtain ⟨w9, hw9⟩ : ∃ w9, w9 = w8.alloc (.cells #[.slice (some ⟨ge', 0, none⟩) n ce', .int .i64 (m : Int), .slice (some ⟨gw', 0, none⟩) (n + 1) gc'] 63) := ⟨_, rfl⟩
  rw [← hw9, ← hR]
  have hB9 : Below w8.heap.size w8 w9 := by rw [hw9]; exact (Below.refl _ w8).alloc (Nat.le_refl _) _
  have hX9 : w9.heap[R]? = some (.cells #[.slice (some ⟨ge', 0, none⟩) n ce', .int .i64 (m : Int), .slice (some ⟨gw', 0, none⟩) (n + 1) gc'] 63 (0, 0)) := by rw [hw9, hR]; exact HK.blk_new _ _
  have HB9 := Lib.hid hB9
  have HX9 := Lib.hid hX9
  have HB09 := Lib.hid (HB08.out.trans (hB9.mono HB08.out.size))
  have HRl := Lib.hid (show w8.heap.size ≤ R by omega)
  clear hw9 hR hB9 hX9
  (with_reducible refine (HGV.out w9 (HE.out.below HB09.out)).mono ?_)
  rintro e w10 ⟨v10, rfl, hv10, hB10⟩
  rw [HN.out] at hv10
  obtain ⟨g10, c10, rfl, hg10, hl10⟩ := own_form9 hv10 hn0
  have HB10 := Lib.hid hB10
  have HB010 := Lib.hid (HB09.out.trans (hB10.mono HB09.out.size))
  have hE10 := ents_row hv10 HN.out hl10
  have hI10 : EntsAt w10 g5 es := (((((HE5.out.below HB6.out (Nat.le_refl _)).below HB7.out (Nat.le_refl _)).below HB8.out (Nat.le_refl _)).below HB9.out (Nat.le_refl _)).below hB10 (Nat.le_refl _))
  have hsm := same_big w10 g5 c5 g10 c10 n es HN.out hI10 hE10 hz
  unfold RetSame at hsm
  have HSM := Lib.hid hsm
  clear hv10 hB10 hg10 hl10 hE10 hI10 hsm
  go_wp2_with (fail)
  (with_reducible refine HSM.out.mono ?_)
  rintro e w11 ⟨rfl, d11, hw11⟩
  have hB11 : Below w10.heap.size w10 w11 := by rw [hw11]; exact bl_dr9 (Below.refl _ _) _
  have HB11 := Lib.hid hB11
  have HB011 := Lib.hid (HB010.out.trans (hB11.mono HB010.out.size))
  clear hw11 hB11
  go_wp2_with (fail)
  have h911 : Below w9.heap.size w9 w11 := HB10.out.trans (HB11.out.mono HB10.out.size)
  have h811 : Below w8.heap.size w8 w11 := HB9.out.trans (h911.mono HB9.out.size)
  have h711 : Below w7.heap.size w7 w11 := HB8.out.trans (h811.mono HB8.out.size)
  have h611 : Below w6.heap.size w6 w11 := HB7.out.trans (h711.mono HB7.out.size)
  have h511 : Below w5.heap.size w5 w11 := HB6.out.trans (h611.mono HB6.out.size)
  obtain ⟨cu0, hcu0, hsz0⟩ : ∃ cu : Array Value, w5.heap[g5]? = some (.cells cu 45 (0, 0)) ∧ n * 4 ≤ cu.size := by
    rcases HO5.out.2 with ⟨h, _⟩ | ⟨g, cap, cur, h, _, hh, h1, _, h3, _⟩
    · cases h
    · cases h
      exact ⟨cur, hh, by omega⟩
  have HC0 := Lib.hid (blk_up9 h511 hcu0)
  have HZ0 := Lib.hid hsz0
  have H9 := Lib.hid h911
  have H8 := Lib.hid h811
  have H6 := Lib.hid h611
  clear hcu0 hsz0 h911 h811 h711 h611 h511
  go_loopw [61] (fun i wx => ∃ (j : Nat) (cu : Array Value), j ≤ n ∧ i = .int .i64 j ∧ n * 4 ≤ cu.size ∧ wx.heap[g5]? = some (.cells cu 45 (0, 0)) ∧ Frm (fun b => b = g5) w11 wx) (fun i _ => n - (intOf i).toNat)
  case atStart => exact ⟨0, cu0, Nat.zero_le _, rfl, HZ0.out, HC0.out, Frm.refl _ w11⟩
  case round =>
    obtain ⟨j, cu, hj, rfl, hcu, hcg, hF⟩ := hrel
    have HCU := Lib.hid hcu
    have HCG := Lib.hid hcg
    have HF := Lib.hid hF
    clear hcu hcg hF
    by_cases hjn : (j : Int) < (n : Int)
    · have b9 : (0 : Int) ≤ (j : Int) := by omega
      have hz9 := HCU.out
      obtain ⟨u0, hu0⟩ : ∃ u, cu[j * 4]? = some u := ⟨_, Array.getElem?_eq_getElem (by omega)⟩
      obtain ⟨u1, hu1⟩ : ∃ u, cu[j * 4 + 1]? = some u := ⟨_, Array.getElem?_eq_getElem (by omega)⟩
      obtain ⟨u2, hu2⟩ : ∃ u, cu[j * 4 + 2]? = some u := ⟨_, Array.getElem?_eq_getElem (by omega)⟩
      obtain ⟨u3, hu3⟩ : ∃ u, cu[j * 4 + 3]? = some u := ⟨_, Array.getElem?_eq_getElem (by omega)⟩
      have c0 : wr.cell? ⟨g5, j * 4, none⟩ = some u0 := (HK.blk_cell HCG.out _).trans hu0
      have c1 : ∀ v0, (wr.setCell ⟨g5, j * 4, none⟩ v0).cell? ⟨g5, j * 4 + 1, none⟩ = some u1 := fun v0 => set_other9 ((HK.blk_cell HCG.out _).trans hu1) (by omega)
      have c2 : ∀ v0 v1, ((wr.setCell ⟨g5, j * 4, none⟩ v0).setCell ⟨g5, j * 4 + 1, none⟩ v1).cell? ⟨g5, j * 4 + 2, none⟩ = some u2 := fun v0 v1 => set_other9 (set_other9 ((HK.blk_cell HCG.out _).trans hu2) (by omega)) (by omega)
      have c3 : ∀ v0 v1 v2, (((wr.setCell ⟨g5, j * 4, none⟩ v0).setCell ⟨g5, j * 4 + 1, none⟩ v1).setCell ⟨g5, j * 4 + 2, none⟩ v2).cell? ⟨g5, j * 4 + 3, none⟩ = some u3 := fun v0 v1 v2 => set_other9 (set_other9 (set_other9 ((HK.blk_cell HCG.out _).trans hu3) (by omega)) (by omega)) (by omega)
      have cf := fun i => HK.blk_frozen HCG.out i
      clear hz9 hu0 hu1 hu2 hu3
      go_wp2_with (fail)
      go_roundw
      case rel => exact ⟨j + 1, _, by omega, by go_num, by simpa using HCU.out, HK.blk_set (HK.blk_set (HK.blk_set (HK.blk_set HCG.out _ _) _ _) _ _) _ _, (((HF.out.setCell (p := ⟨g5, j * 4, none⟩) (.inl rfl) _).setCell (p := ⟨g5, j * 4 + 1, none⟩) (.inl rfl) _).setCell (p := ⟨g5, j * 4 + 2, none⟩) (.inl rfl) _).setCell (p := ⟨g5, j * 4 + 3, none⟩) (.inl rfl) _⟩
      case measure => simp [intOf]; omega
    · obtain ⟨wz, hwz⟩ : ∃ wz, wz = wr := ⟨_, rfl⟩
      rw [← hwz] at HF ⊢
      have hT : TlW w R t F (openN es m) m ge' ce' gw' gc' (lw ++ [m]) wz := by
        have s5 := HB5.out.size
        have s6 := HB6.out.size
        have s7 := HB7.out.size
        have s8 := HB8.out.size
        have s9 := HB9.out.size
        have sg := HL5.out
        have sG := HG5.out
        have sr := HRl.out
        have hlt := HH6.out.lt
        have hf6 := HF6.out
        have q1 := HQ1.out
        have q2 := HQ2.out
        have hgR : R ≠ g5 := by omega
        have hbox := HF.out.heap (blk_up9 H9.out HX9.out) (fun e => hgR e)
        have hh : Hist wz t F (openN es m) m := (HH6.out.stay (Frm.of_below H6.out (fun _ => False)) (fun _ _ => id)).stay HF.out (fun b hb e => by have e2 : b = g5 := e; have := hf6 b hb; omega)
        have hE : EntsAt wz ge' es := ents_frm (HE8.out.below H8.out (Nat.le_refl _)) HF.out (fun e => by have e2 : ge' = g5 := e; omega)
        have hW : RowAt wz gw' (n + 1) (lw ++ [m]) := row_frm (HW8.out.below H8.out (Nat.le_refl _)) HF.out (fun e => by have e2 : gw' = g5 := e; omega)
        have hRl2 : ge' < R := by have := HE8.out.lt; omega
        have hRl3 : gw' < R := by have := HW8.out.lt; omega
        have hB0z : Below w.heap.size w wz := HB011.out.trans (HF.out.below HB011.out.size (fun b e => by have e2 : b = g5 := e; omega))
        refine ⟨hB0z, hh, by rw [HEN.out]; exact hE, by rw [HWN.out]; exact hW, by rw [HNN.out, HWN.out]; exact hbox, HFV.out, by rw [HEN.out]; exact HSH.out, fun b hb => by have := hf6 b hb; omega, fun h => by have := hlt _ h; omega, fun h => by have := hlt _ h; omega, fun h => by have := hlt _ h; omega, by omega, by omega, by omega, by rw [HWN.out]; omega⟩
      have hbox := hT.box
      have x0 := HK.blk_cell hbox 0
      have x1 := HK.blk_cell hbox 1
      have x2 := HK.blk_cell hbox 2
      have hs := shows_any hT.hist ge' ce' (lw ++ [m]).length gc' (some ⟨gw', 0, none⟩) hT.ents
      unfold RetTr at hs
      have HT := Lib.hid hT
      have HS := Lib.hid hs
      rw [HNN.out] at x0 HS
      rw [HWN.out] at x2 HS
      have HRe : Hid (R = R) := Lib.hid rfl
      clear hT hbox hs hwz HCU HCG hj
      go_wp2_with (fail)
      (with_reducible refine HS.out.mono ?_)
      rintro e wa ⟨rfl, hBa⟩
      have HTa := Lib.hid (HT.out.up hBa)
      clear hBa x0 x1 x2
      go_wp2_with (fail)
      go_loopw [11] (fun i wx => ∃ j : Nat, j ≤ n + 2 ∧ i = .int .i64 ((j : Int) - 1) ∧ TlW w R t F (openN es m) m ge' ce' gw' gc' (lw ++ [m]) wx) (fun i _ => n + 2 - (intOf i + 1).toNat)
      case atStart => exact ⟨0, Nat.zero_le _, rfl, HTa.out⟩
      case round =>
        obtain ⟨j, hj, rfl, hT⟩ := hrel
        have hbox := hT.box
        have x0 := HK.blk_cell hbox 0
        have x1 := HK.blk_cell hbox 1
        have x2 := HK.blk_cell hbox 2
        rw [HNN.out] at x0
        rw [HWN.out] at x2
        have HT2 := Lib.hid hT
        clear hT hbox
        by_cases hjn : (j : Int) - 1 ≤ (n : Int)
        · have hl := looks_any HT2.out.hist ge' ce' (lw ++ [m]).length gc' (some ⟨gw', 0, none⟩) HT2.out.ents ((j : Int) - 1) (m : Int) ⟨#[]⟩
          unfold RetTr at hl
          rw [HNN.out, HWN.out] at hl
          have HL := Lib.hid hl
          clear hl
          go_wp2_with (fail)
          (with_reducible refine HL.out.mono ?_)
          rintro e wb ⟨rfl, hBb⟩
          have HTb := Lib.hid (HT2.out.up hBb)
          clear hBb x0 x1 x2
          go_wp2_with (fail)
          go_roundw
          case rel => exact ⟨j + 1, by omega, by go_num, HTb.out⟩
          case measure => simp [intOf]; omega
        · have HTY : Hid (TlY w R t n wr) := Lib.hid ⟨F, openN es m, m, ge', ce', gw', gc', lw ++ [m], HT2.out, by rw [HNN.out]; exact Nat.le_refl _, by rw [HWN.out]; exact Nat.le_refl _⟩
          obtain ⟨wy, hwy⟩ : ∃ wy, wy = wr := ⟨_, rfl⟩
          rw [← hwy] at HTY ⊢
          clear x0 x1 x2 HT2 hwy hj
          go_wp2_with (fail)
          go_loopw [88] (fun i wx => ∃ j : Nat, j ≤ 2 * n ∧ i = .int .i64 j ∧ TlY w R t (n + j) wx) (fun i _ => 2 * n - (intOf i).toNat)
          case atStart => exact ⟨0, Nat.zero_le _, rfl, HTY.out⟩
          case round =>
            obtain ⟨j, hj, rfl, hY⟩ := hrel
            obtain ⟨FF, nodes, now, ge, ce, gw, gc, went, hT, hl1, hl2⟩ := hY
            have HT5 := Lib.hid hT
            have HL1 := Lib.hid hl1
            have HL2 := Lib.hid hl2
            clear hT hl1 hl2
            by_cases hjn : (j : Int) < 2 * (n : Int)
            · have b9 : (0 : Int) ≤ (j : Int) := by omega
              obtain ⟨s9, b9', nodes', now', went', C⟩ := step_redo9 HT5.out.hist HT5.out.fav HT5.out.short HT5.out.wpos (by have := HL2.out; omega)
              have hcr := fun W (he : EntsAt W ge (ents nodes)) (hr : RowAt W gw went.length went) => C.ref W ge ce gw gc he hr
              have HC := Lib.hid C
              have HCP := Lib.hid C.prog
              have HCR := Lib.hid hcr
              clear hcr C
              go_wp2_with (fail)
              (with_reducible refine HCP.out.mono ?_)
              rintro e w6 ⟨rfl, hP⟩
              have HP := Lib.hid hP
              obtain ⟨_, _, hfr, _⟩ := hP
              have hr6 := hfr.heap HT5.out.box HT5.out.rF
              have r0 := HK.blk_cell hr6 0
              have r1 := HK.blk_cell hr6 1
              have r2 := HK.blk_cell hr6 2
              have HR6 := Lib.hid hr6
              have HE6 := Lib.hid (ents_frm HT5.out.ents hfr HT5.out.geF)
              have HW6 := Lib.hid (row_frm HT5.out.row hfr HT5.out.gwF)
              clear hfr hr6
              go_wp2_with (fail)
              (with_reducible refine (HCR.out w6 HE6.out HW6.out).mono ?_)
              rintro e w7 ⟨ge2, ce2, gw2, gc2, rfl, hE7, hW7, q1, q2, hB7⟩
              have hr7 := blk_up9 hB7 HR6.out
              have hrl := HK.blk_lt hr7
              have r0 := HK.blk_cell hr7 0
              have r1 := HK.blk_cell hr7 1
              have r2 := HK.blk_cell hr7 2
              have rf := fun i => HK.blk_frozen hr7 i
              have f0 : R ≠ w7.heap.size := by omega
              have f1 : w7.heap.size ≠ R := by omega
              have HE7 := Lib.hid hE7
              have HW7 := Lib.hid hW7
              have HQ1 := Lib.hid q1
              have HQ2 := Lib.hid q2
              have HB7 := Lib.hid hB7
              clear hE7 hW7 q1 q2 hB7 hr7
              go_wp2_with (fail)
              go_roundw
              case rel =>
                obtain ⟨F', hT'⟩ := HT5.out.next HP.out HB7.out HE7.out HW7.out HQ1.out HQ2.out HC.out.fav HC.out.short HC.out.wpos (ce' := ce2) (gc' := gc2)
                refine ⟨j + 1, by omega, by go_num, F', nodes', now', ge2, ce2, gw2, gc2, went', hT'.up ?_, by have := HC.out.len; have := HL1.out; omega, by have := HC.out.wlen; have := HL2.out; omega⟩
                exact (Below.refl _ _).alloc (Nat.le_refl _) _
              case measure => simp [intOf]; omega
            · go_wp2_with (fail)
              (with_reducible refine (HAW.out _).mono ?_)
              rintro e w12 ⟨rfl, hB12⟩
              have HB12 := Lib.hid hB12
              clear hB12
              go_wp2_with (fail)
              go_ret
              exact ⟨rfl, HT5.out.below.trans (HB12.out.mono HT5.out.below.size)⟩
end Go.Proofs.Ythneinepdbkgeaa
namespace Go.Proofs.Ythneinepdbkgeaa
open Go.RowKit Go.HK
set_option linter.unusedVariables false
set_option linter.unusedSimpArgs false
set_option linter.unusedSectionVars false
theorem opens_mid (w : World) (ad : Option Addr) (n c : Nat) (now : Int) (h1 : 30 < n) (h2 : n ≤ 1000) : Calls Try.prog 9 #[.slice ad n c, .int .i64 now] w (RetTr w) := by
  have HA := Lib.hid (fun W => awake_any W)
  have b0 : (30 : Int) < (n : Int) := by omega
  have b1 : (n : Int) ≤ 1000 := by omega
  go_enter Try.func9, Try.ntmps9
  go_wp2_with (go_at_call 12; (with_reducible refine (HA.out _).mono ?_); rintro e w2 ⟨rfl, hB2⟩; have HB2 := Lib.hid hB2; clear hB2)
  go_ret
  exact ⟨rfl, HB2.out⟩
theorem historyopens_walk (w : World) (ad : Option Addr) (n c : Nat) (hz : n * 48 ≤ 140737488355328) (h : (ad = none ∧ n = 0 ∧ c = 0) ∨ ∃ a es, ad = some a ∧ es.length = n ∧ EntsA w a es ∧ ∀ (j : Nat) (y : Ent), es[j]? = some y → y.state.size ≤ maxLen ∧ y.note.size ≤ maxLen) (now : Int) : Calls Try.prog 9 #[.slice ad n c, .int .i64 now] w (RetTr w) := by
  rcases Nat.eq_zero_or_pos n with h0 | h0
  · subst h0
    exact opens_nil w ad c now
  · rcases h with ⟨_, h1, _⟩ | ⟨a, es, rfl, hn, he, hsz⟩
    · omega
    · by_cases hm : 30 < n ∧ n ≤ 1000
      · exact opens_mid w _ n c now hm.1 hm.2
      · by_cases hb : n ≤ 30
        · have hro := fun W g c (h : EntsAt W g es) => ropen_any W g n c es now hn h0 (by omega) h hsz
          by_cases hS : Short es
          · by_cases hR : Right es now
            · obtain ⟨m, rfl⟩ : ∃ m : Nat, now = (m : Int) := ⟨now.toNat, by have := hR.1; omega⟩
              exact opens_ok w a n c es m hn h0 hb he hS hR
            · refine opens_err2 w a n c es now hn h0 hz he hb (fun W g c h => open_no W g n c es now h hn (by omega) hS hR) (fun W g c h => (hro W g c h).mono ?_)
              rintro e w' (⟨h1, _⟩ | ⟨_, _, h2⟩ | ⟨_, m2, _, h2, _⟩)
              · exact absurd hS h1
              · exact h2
              · exact absurd h2 hR
          · obtain ⟨i, yi, h1, h2, h3⟩ := short_first es hS
            refine opens_err3 w a n c es now hn h0 hz he hb (fun W g c h => open_long W g n c es now h hn (by omega) hsz i (fun j y hj hy => h1 j y hj hy) yi h2 h3) (fun W g c h => (hro W g c h).mono ?_)
            rintro e w' (⟨_, h2⟩ | ⟨h1, _⟩ | ⟨h1, _⟩)
            · exact h2
            · exact absurd h1 hS
            · exact absurd h1 hS
        · have hmx : n ≤ maxLen := by simp only [maxLen]; omega
          refine opens_err4 w a n c es now hn h0 hz he (by omega) (fun W g c h => (open_full W _ n c now (by omega) hmx).mono ?_) (fun W g c h => ropen_full W _ n c now (by omega) hmx)
          rintro e w' ⟨rfl, rfl⟩
          exact ⟨rfl, Below.refl _ _⟩
end Go.Proofs.Ythneinepdbkgeaa
