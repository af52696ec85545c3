/- refj.py prints this text (template refj.tpl). The reference's Do (47), where it is done. -/
import Derived.Test.YthneinepdbkgeaaRefg
import Derived.Test.YthneinepdbkgeaaEach
import Derived.Deep.CutBlock
import Derived.Deep.CutRange
namespace Go.Proofs.Ythneinepdbkgeaa
open Go.RowKit Go.HK
set_option linter.unusedVariables false
set_option linter.unusedSimpArgs false
set_option linter.unusedSectionVars false
theorem info98 : (Try.prog.info? 98).map (fun i => (i.zero, i.size, i.bytes)) = some (some (.agg #[.int .i64 0, .int .i64 0, .string ⟨#[]⟩, .string ⟨#[]⟩]), 4, 48) := by kernel_rfl
theorem elem61 : ElemOk Try.prog 61 98 4 48 := .mk' Try.underlying61 info98 rfl (by omega)
def RetDo (w : World) (es : List Ent) (nl : Nat) (went : List Nat) (x : Ent) (e : Ending) (w' : World) : Prop :=
  ∃ g c g2 c2, e = .returned (.tuple #[.agg #[.slice (some ⟨g, 0, none⟩) (nl + 1) c, .int .i64 (nl : Int), .slice (some ⟨g2, 0, none⟩) (went.length + 1) c2], .int .i64 (nl : Int), .int .i64 0]) ∧ EntsAt w' g (es ++ [x]) ∧ RowAt w' g2 (went.length + 1) (went ++ [nl]) ∧ w.heap.size ≤ g ∧ w.heap.size ≤ g2 ∧ Below w.heap.size w w'
theorem ents_row {w : World} {b g n c : Nat} {es : List Ent} (h : w.ownsRow b 98 4 (.slice (some ⟨g, 0, none⟩) n c) n (entsFlat es)) (hn : es.length = n) (hl : g < w.heap.size) : EntsAt w g es := by
  refine ⟨fun i x hx => ?_, hl⟩
  have hi := (List.getElem?_eq_some_iff.1 hx).1
  have hc : ∀ j, j < 4 → w.cell? ⟨g, i * 4 + j, none⟩ = (entCells x)[j]? := fun j hj => by
    rw [h.cellAt (i * 4 + j) (by omega)]
    exact entsFlat_get es i j x hx hj
  exact ⟨hc 0 (by omega), hc 1 (by omega), hc 2 (by omega), hc 3 (by omega)⟩
set_option maxRecDepth 100000 in
set_option maxHeartbeats 8000000 in
theorem rdo_yes {nodes : List Go.HK.HN} (w0 : World) (ge nl ce now gw wl gc : Nat) (state note : ByteArray) (tick : Int) (went : List Nat) (hnl : nl = nodes.length) (hle : nl ≤ 1000) (hs : state.size ≤ 16384) (hn : note.size ≤ 100) (hnow : now < nl) (he : EntsAt w0 ge (ents nodes)) (hw : RowAt w0 gw wl went) (hwl : wl ≤ 2000) (hwl0 : 0 < wl)
    (hk : doR nodes now state note tick = none) : Calls Try.prog 47 #[.agg #[.slice (some ⟨ge, 0, none⟩) nl ce, .int .i64 (now : Int), .slice (some ⟨gw, 0, none⟩) wl gc], .string state, .string note, .int .i64 tick] w0 (RetDo w0 (ents nodes) nl went ⟨now, tick, note, state⟩) := by
  obtain ⟨w2, G, R, D⟩ := DoW.of w0 ge nl ce now wl gc (some ⟨gw, 0, none⟩) he
  obtain ⟨xn, hx⟩ := get_of_lt (show now < nodes.length by omega)
  have hx2 : (ents nodes)[now]? = some xn.ent := by simp [ents, hx]
  have hc := D.ents.c now xn.ent hx2
  have c1 : w2.cell? ⟨ge, now * 4 + 1, none⟩ = some (.int .i64 xn.tick) := hc.2.1
  have c3 : w2.cell? ⟨ge, now * 4 + 3, none⟩ = some (.string xn.state) := hc.2.2.2
  have hR : doR nodes now state note tick = if tick < xn.tick then some 2 else if state = xn.state then some 240 else if 1000 ≤ nl then some 4 else none := by rw [doR, tickF_get hx, stateF_get hx, hnl]
  rw [hR] at hk
  have x0 : w2.cell? ⟨G, 0, none⟩ = some (.slice (some ⟨ge, 0, none⟩) nl ce) := HK.blk_cell D.box 0
  have x1 : w2.cell? ⟨G, 1, none⟩ = some (.int .i64 (now : Int)) := HK.blk_cell D.box 1
  have x2 : w2.cell? ⟨G, 2, none⟩ = some (.slice (some ⟨gw, 0, none⟩) wl gc) := HK.blk_cell D.box 2
  have b0 : (0 : Int) ≤ (now : Int) := by omega
  have b1 : (now : Int) < (nl : Int) := by omega
  obtain ⟨tk, htk⟩ : ∃ tk, tk = xn.tick := ⟨_, rfl⟩
  obtain ⟨st, hst⟩ : ∃ st, st = xn.state := ⟨_, rfl⟩
  rw [← htk, ← hst] at hk
  rw [← htk] at c1
  rw [← hst] at c3
  have h1 : ¬ tick < tk := fun h => by rw [if_pos h] at hk; cases hk
  rw [if_neg h1] at hk
  have h2 : ¬ state = st := fun h => by rw [if_pos h] at hk; cases hk
  rw [if_neg h2] at hk
  have h3 : nl < 1000 := by
    rcases Nat.lt_or_ge nl 1000 with h | h
    · exact h
    · rw [if_pos h] at hk; cases hk
  have h4 : ¬ (nl : Int) = 1000 := by omega
  have h5 : ¬ (16384 : Int) < (state.size : Int) := by omega
  have h6 : ¬ (100 : Int) < (note.size : Int) := by omega
  have hsb := bytes_ne h2
  obtain ⟨es, hes⟩ : ∃ es, es = ents nodes := ⟨_, rfl⟩
  have hln : es.length = nl := by rw [hes, ents_len, hnl]
  rw [← hes] at he ⊢
  have hsz : w2.heap.size = w0.heap.size + 2 := by rw [D.eq]; simp
  have HE := Lib.hid he
  have HLN := Lib.hid hln
  have HSZ := Lib.hid hsz
  have HGL : Hid (G < w2.heap.size) := Lib.hid (HK.blk_lt D.box)
  have HRL : Hid (R < w2.heap.size) := Lib.hid (HK.blk_lt D.res)
  have HG0 : Hid (w0.heap.size ≤ G) := Lib.hid (by have := D.gq; omega)
  have HR0 : Hid (w0.heap.size ≤ R) := Lib.hid (by have := D.rq; omega)
  have HRG : Hid (R ≠ G) := Lib.hid (by have := D.rq; have := D.gq; omega)
  have HD := Lib.hid D
  have HW := Lib.hid hw
  clear hR D he hx hx2 hc hnl htk hst hes hln hsz h2 hk hw
  go_enter Try.func47, Try.ntmps47
  go_upto_region 1 with (fail)
  rw [← HD.out.eq, ← HD.out.rq, ← HD.out.gq]
  go_upto_region 10 with (fail)
  go_cut [60] from 49 to 61 (fun v wx => ∃ g c, v = .slice (some ⟨g, 0, none⟩) (nl + 1) c ∧ w2.heap.size ≤ g ∧ g < wx.heap.size ∧ Below w0.heap.size w0 wx ∧ w2.heap.size ≤ wx.heap.size ∧ wx.heap[R]? = some (.cells #[.slice none 0 0, .int .i64 0, .slice none 0 0] 63 (0, 0)) ∧ wx.heap[G]? = some (.cells #[.slice (some ⟨g, 0, none⟩) (nl + 1) c, .int .i64 (now : Int), .slice (some ⟨gw, 0, none⟩) wl gc] 63 (0, 0)) ∧ wx.ownsRow w2.heap.size 98 4 (.slice (some ⟨g, 0, none⟩) (nl + 1) c) (nl + 1) (entsFlat (es ++ [⟨now, tick, note, state⟩])))
  case first =>
      refine Go.RE.wp_region_each [49, 50, 51, 52, 53, 54, 55, 56, 57, 58, 59, 60, 61] (fun L x W => (Below w0.heap.size w0 W ∧ w2.heap.size ≤ W.heap.size ∧ W.heap[R]? = some (.cells #[.slice none 0 0, .int .i64 0, .slice none 0 0] 63 (0, 0)) ∧ (L 13 = true ∨ W.heap[G]? = some (.cells #[.slice (some ⟨ge, 0, none⟩) nl ce, .int .i64 (now : Int), .slice (some ⟨gw, 0, none⟩) wl gc] 63 (0, 0))) ∧ (L 13 = true → ∃ g c, x 60 = .slice (some ⟨g, 0, none⟩) (nl + 1) c ∧ W.heap[G]? = some (.cells #[.slice (some ⟨g, 0, none⟩) (nl + 1) c, .int .i64 (now : Int), .slice (some ⟨gw, 0, none⟩) wl gc] 63 (0, 0)))) ∧ (L 0 = true → ∃ B, x 49 = .slice (some ⟨B, 0, none⟩) 0 0 ∧ B < W.heap.size ∧ (L 3 = true ∨ W.ownsRow w2.heap.size 98 4 (.slice (some ⟨B, 0, none⟩) 0 0) 0 [])) ∧ (L 1 = true → x 50 = .pointer (some ⟨G, 0, none⟩)) ∧ (L 2 = true → x 51 = .slice (some ⟨ge, 0, none⟩) nl ce) ∧ (L 3 = true → L 0 = true ∧ L 2 = true ∧ ∃ v, x 52 = v ∧ (L 11 = true ∨ W.ownsRow w2.heap.size 98 4 v nl (entsFlat es))) ∧ (L 4 = true → x 53 = .pointer (some ⟨G, 1, none⟩)) ∧ (L 5 = true → x 54 = .int .i64 (now : Int)) ∧ (L 6 = true → x 55 = .int .i64 tick) ∧ (L 7 = true → x 56 = .string note) ∧ (L 8 = true → x 57 = .string state) ∧ (L 9 = true → L 5 = true ∧ x 58 = .agg #[.int .i64 (now : Int), .int .i64 tick, .string note, .string state]) ∧ (L 10 = true → L 5 = true ∧ ∃ B, x 59 = .slice (some ⟨B, 0, none⟩) 1 1 ∧ (L 0 = true → ∀ B', x 49 = .slice (some ⟨B', 0, none⟩) 0 0 → B' ≠ B) ∧ (L 11 = true ∨ W.heap[B]? = some (.cells #[.int .i64 (now : Int), .int .i64 tick, .string note, .string state] 98 (0, 0)))) ∧ (L 11 = true → L 3 = true ∧ L 10 = true ∧ L 2 = true ∧ L 5 = true ∧ W.ownsRow w2.heap.size 98 4 (x 60) (nl + 1) (entsFlat (es ++ [⟨now, tick, note, state⟩]))) ∧ (L 12 = true → x 61 = .pointer (some ⟨G, 0, none⟩)) ∧ (L 13 = true → L 11 = true)) (by kernel_rfl) (by kernel_rfl) (by kernel_rfl) ?_ ((Go.RE.Each.cons ?_ (Go.RE.Each.cons ?_ (Go.RE.Each.cons ?_ (Go.RE.Each.cons ?_ (Go.RE.Each.cons ?_ (Go.RE.Each.cons ?_ (Go.RE.Each.cons ?_ (Go.RE.Each.cons ?_ (Go.RE.Each.cons ?_ (Go.RE.Each.cons ?_ (Go.RE.Each.cons ?_ (Go.RE.Each.cons ?_ (Go.RE.Each.cons ?_ (Go.RE.Each.cons ?_ Go.RE.Each.nil))))))))))))))) ?_
      · exact fun x => ⟨⟨HD.out.below.trans ⟨rfl, rfl, rfl, Nat.le_refl _, fun _ _ => rfl⟩, Nat.le_refl _, HD.out.res, .inr HD.out.box, fun h => by cases h⟩, fun h => (by cases h), fun h => (by cases h), fun h => (by cases h), fun h => (by cases h), fun h => (by cases h), fun h => (by cases h), fun h => (by cases h), fun h => (by cases h), fun h => (by cases h), fun h => (by cases h), fun h => (by cases h), fun h => (by cases h), fun h => (by cases h), fun h => (by cases h)⟩
      · intro L x a w K hL hd hf hx hΦ hK
        obtain ⟨hI, f0, f1, f2, f3, f4, f5, f6, f7, f8, f9, f10, f11, f12, f13⟩ := hΦ
        clear hf hx hd
        go_simp
        refine hK _ _ ?_
        exact ⟨⟨hI.1.alloc hI.1.size _, Nat.le_trans hI.2.1 (by simp), HK.blk_alloc hI.2.2.1 _, hI.2.2.2.1.imp id fun h => HK.blk_alloc h _, fun h => (hI.2.2.2.2 h).imp fun _ h => h.imp fun _ h => ⟨h.1, HK.blk_alloc h.2 _⟩⟩, fun _ => ⟨_, rfl, by simp, .inr (own_mono9 (empty_row w 98 4) hI.2.1)⟩, fun h => f1 h, fun h => f2 h, fun h => absurd (f3 h).1 (by rw [hL]; decide), fun h => f4 h, fun h => f5 h, fun h => f6 h, fun h => f7 h, fun h => f8 h, fun h => f9 h, fun h => ⟨(f10 h).1, (f10 h).2.imp fun B h => ⟨h.1, fun _ B' e => by cases e; rcases h.2.2 with h9 | h9; exact absurd (f3 (f11 h9).1).1 (by rw [hL]; decide); have := HK.blk_lt h9; omega, h.2.2.imp id fun h2 => HK.blk_alloc h2 _⟩⟩, fun h => absurd (f3 (f11 h).1).1 (by rw [hL]; decide), fun h => f12 h, fun h => f13 h⟩
      · intro L x a w K hL hd hf hx hΦ hK
        obtain ⟨hI, f0, f1, f2, f3, f4, f5, f6, f7, f8, f9, f10, f11, f12, f13⟩ := hΦ
        have e4 : a.tmps[4]? = some (.pointer (some ⟨G, 0, none⟩)) := hf 4 (of_decide_eq_true (by kernel_rfl))
        clear hf hx hd
        go_simp
        refine hK _ _ ?_
        exact ⟨hI, fun h => f0 h, fun _ => rfl, fun h => f2 h, fun h => f3 h, fun h => f4 h, fun h => f5 h, fun h => f6 h, fun h => f7 h, fun h => f8 h, fun h => f9 h, fun h => f10 h, fun h => f11 h, fun h => f12 h, fun h => f13 h⟩
      · intro L x a w K hL hd hf hx hΦ hK
        obtain ⟨hI, f0, f1, f2, f3, f4, f5, f6, f7, f8, f9, f10, f11, f12, f13⟩ := hΦ
        have d1 := f1 (hd 1 (by kernel_rfl))
        have e50 : a.tmps[50]? = some (x 50) := hx 1 _ 50 rfl rfl (hd 1 (by kernel_rfl))
        clear hf hx hd
        rw [d1] at e50
        have n13 : L 13 = true → False := fun h => by have := (f11 (f13 h)).2.2.1; rw [hL] at this; exact absurd this (by decide)
        have hbx := hI.2.2.2.1.resolve_left n13
        have c0 := HK.blk_cell hbx 0
        simp only [List.getElem?_toArray, List.getElem?_cons_succ, List.getElem?_cons_zero] at c0
        go_simp
        refine hK _ _ ?_
        exact ⟨hI, fun h => f0 h, fun h => f1 h, fun _ => rfl, fun h => absurd (f3 h).2.1 (by rw [hL]; decide), fun h => f4 h, fun h => f5 h, fun h => f6 h, fun h => f7 h, fun h => f8 h, fun h => f9 h, fun h => f10 h, fun h => absurd (f11 h).2.2.1 (by rw [hL]; decide), fun h => f12 h, fun h => f13 h⟩
      · intro L x a w K hL hd hf hx hΦ hK
        obtain ⟨hI, f0, f1, f2, f3, f4, f5, f6, f7, f8, f9, f10, f11, f12, f13⟩ := hΦ
        have d0 := f0 (hd 0 (by kernel_rfl))
        have e49 : a.tmps[49]? = some (x 49) := hx 0 _ 49 rfl rfl (hd 0 (by kernel_rfl))
        have d2 := f2 (hd 2 (by kernel_rfl))
        have e51 : a.tmps[51]? = some (x 51) := hx 2 _ 51 rfl rfl (hd 2 (by kernel_rfl))
        have l0 := hd 0 (by kernel_rfl)
        have l2 := hd 2 (by kernel_rfl)
        clear hf hx hd
        obtain ⟨B, hb, hBl, hbo⟩ := d0
        rw [hb] at e49
        rw [d2] at e51
        have hown := hbo.resolve_left (by rw [hL]; decide)
        refine of_wanted9 rfl (step_app_any rfl elem61 _ _ rfl (.slice (some ⟨B, 0, none⟩) 0 0) w2.heap.size 0 [] (ev9 e49) hown ⟨ge, 0, none⟩ nl ce (entsFlat es) (ev9 e51) (by rw [entsFlat_length, HLN.out]) (ents_addr (HE.out.below hI.1 (Nat.le_refl _))) (ents_one _) (by simp only [maxLen]; omega) (by omega) hI.2.1 ?_)
        intro v' w' hown2 hgrow hnil hat
        rw [Nat.zero_add] at hown2
        have hgb := own_ge hown B rfl
        have n11 : L 11 = true → False := fun h => by have := (f11 h).1; rw [hL] at this; exact absurd this (by decide)
        have n13 : L 13 = true → False := fun h => n11 (f13 h)
        have hkR : w'.heap[R]? = some (.cells #[.slice none 0 0, .int .i64 0, .slice none 0 0] 63 (0, 0)) := HK.blk_grown hI.2.2.1 hgrow (fun h => by have h2 : R = B := Option.some.inj h; have := HRL.out; omega)
        have hkG := HK.blk_grown (hI.2.2.2.1.resolve_left n13) hgrow (fun h => by have h2 : G = B := Option.some.inj h; have := HGL.out; omega)
        have hb2 : Below w0.heap.size w0 w' := hI.1.grown hgrow hI.1.size (fun k hk => by have h2 : B = k := Option.some.inj hk; have := HSZ.out; omega)
        refine hK _ _ ?_
        exact ⟨⟨hb2, Nat.le_trans hI.2.1 hgrow.size, hkR, .inr hkG, fun h => (n13 h).elim⟩, fun h => ⟨B, hb, Nat.lt_of_lt_of_le hBl hgrow.size, .inl rfl⟩, fun h => f1 h, fun h => f2 h, fun _ => ⟨l0, l2, _, rfl, .inr hown2⟩, fun h => f4 h, fun h => f5 h, fun h => f6 h, fun h => f7 h, fun h => f8 h, fun h => f9 h, fun h => ⟨(f10 h).1, (f10 h).2.imp fun B9 h => ⟨h.1, h.2.1, h.2.2.imp id fun h2 => HK.blk_grown h2 hgrow (fun e => h.2.1 l0 B hb (Option.some.inj e).symm)⟩⟩, fun h => (n11 h).elim, fun h => f12 h, fun h => f13 h⟩
      · intro L x a w K hL hd hf hx hΦ hK
        obtain ⟨hI, f0, f1, f2, f3, f4, f5, f6, f7, f8, f9, f10, f11, f12, f13⟩ := hΦ
        have e4 : a.tmps[4]? = some (.pointer (some ⟨G, 0, none⟩)) := hf 4 (of_decide_eq_true (by kernel_rfl))
        clear hf hx hd
        go_simp
        refine hK _ _ ?_
        exact ⟨hI, fun h => f0 h, fun h => f1 h, fun h => f2 h, fun h => f3 h, fun _ => rfl, fun h => f5 h, fun h => f6 h, fun h => f7 h, fun h => f8 h, fun h => f9 h, fun h => f10 h, fun h => f11 h, fun h => f12 h, fun h => f13 h⟩
      · intro L x a w K hL hd hf hx hΦ hK
        obtain ⟨hI, f0, f1, f2, f3, f4, f5, f6, f7, f8, f9, f10, f11, f12, f13⟩ := hΦ
        have d4 := f4 (hd 4 (by kernel_rfl))
        have e53 : a.tmps[53]? = some (x 53) := hx 4 _ 53 rfl rfl (hd 4 (by kernel_rfl))
        clear hf hx hd
        rw [d4] at e53
        have n13 : L 13 = true → False := fun h => by have := (f11 (f13 h)).2.2.2.1; rw [hL] at this; exact absurd this (by decide)
        have hbx := hI.2.2.2.1.resolve_left n13
        have c1 := HK.blk_cell hbx 1
        simp only [List.getElem?_toArray, List.getElem?_cons_succ, List.getElem?_cons_zero] at c1
        go_simp
        refine hK _ _ ?_
        exact ⟨hI, fun h => f0 h, fun h => f1 h, fun h => f2 h, fun h => f3 h, fun h => f4 h, fun _ => rfl, fun h => f6 h, fun h => f7 h, fun h => f8 h, fun h => absurd (f9 h).1 (by rw [hL]; decide), fun h => absurd (f10 h).1 (by rw [hL]; decide), fun h => absurd (f11 h).2.2.2.1 (by rw [hL]; decide), fun h => f12 h, fun h => f13 h⟩
      · intro L x a w K hL hd hf hx hΦ hK
        obtain ⟨hI, f0, f1, f2, f3, f4, f5, f6, f7, f8, f9, f10, f11, f12, f13⟩ := hΦ
        have e3 : a.tmps[3]? = some (.int .i64 tick) := hf 3 (of_decide_eq_true (by kernel_rfl))
        clear hf hx hd
        go_simp
        refine hK _ _ ?_
        exact ⟨hI, fun h => f0 h, fun h => f1 h, fun h => f2 h, fun h => f3 h, fun h => f4 h, fun h => f5 h, fun _ => rfl, fun h => f7 h, fun h => f8 h, fun h => f9 h, fun h => f10 h, fun h => f11 h, fun h => f12 h, fun h => f13 h⟩
      · intro L x a w K hL hd hf hx hΦ hK
        obtain ⟨hI, f0, f1, f2, f3, f4, f5, f6, f7, f8, f9, f10, f11, f12, f13⟩ := hΦ
        have e2 : a.tmps[2]? = some (.string note) := hf 2 (of_decide_eq_true (by kernel_rfl))
        clear hf hx hd
        go_simp
        refine hK _ _ ?_
        exact ⟨hI, fun h => f0 h, fun h => f1 h, fun h => f2 h, fun h => f3 h, fun h => f4 h, fun h => f5 h, fun h => f6 h, fun _ => rfl, fun h => f8 h, fun h => f9 h, fun h => f10 h, fun h => f11 h, fun h => f12 h, fun h => f13 h⟩
      · intro L x a w K hL hd hf hx hΦ hK
        obtain ⟨hI, f0, f1, f2, f3, f4, f5, f6, f7, f8, f9, f10, f11, f12, f13⟩ := hΦ
        have e1 : a.tmps[1]? = some (.string state) := hf 1 (of_decide_eq_true (by kernel_rfl))
        clear hf hx hd
        go_simp
        refine hK _ _ ?_
        exact ⟨hI, fun h => f0 h, fun h => f1 h, fun h => f2 h, fun h => f3 h, fun h => f4 h, fun h => f5 h, fun h => f6 h, fun h => f7 h, fun _ => rfl, fun h => f9 h, fun h => f10 h, fun h => f11 h, fun h => f12 h, fun h => f13 h⟩
      · intro L x a w K hL hd hf hx hΦ hK
        obtain ⟨hI, f0, f1, f2, f3, f4, f5, f6, f7, f8, f9, f10, f11, f12, f13⟩ := hΦ
        have d5 := f5 (hd 5 (by kernel_rfl))
        have e54 : a.tmps[54]? = some (x 54) := hx 5 _ 54 rfl rfl (hd 5 (by kernel_rfl))
        have d6 := f6 (hd 6 (by kernel_rfl))
        have e55 : a.tmps[55]? = some (x 55) := hx 6 _ 55 rfl rfl (hd 6 (by kernel_rfl))
        have d7 := f7 (hd 7 (by kernel_rfl))
        have e56 : a.tmps[56]? = some (x 56) := hx 7 _ 56 rfl rfl (hd 7 (by kernel_rfl))
        have d8 := f8 (hd 8 (by kernel_rfl))
        have e57 : a.tmps[57]? = some (x 57) := hx 8 _ 57 rfl rfl (hd 8 (by kernel_rfl))
        have l5 := hd 5 (by kernel_rfl)
        clear hf hx hd
        rw [d5] at e54
        rw [d6] at e55
        rw [d7] at e56
        rw [d8] at e57
        go_simp
        refine hK _ _ ?_
        exact ⟨hI, fun h => f0 h, fun h => f1 h, fun h => f2 h, fun h => f3 h, fun h => f4 h, fun h => f5 h, fun h => f6 h, fun h => f7 h, fun h => f8 h, fun _ => ⟨l5, rfl⟩, fun h => f10 h, fun h => f11 h, fun h => f12 h, fun h => f13 h⟩
      · intro L x a w K hL hd hf hx hΦ hK
        obtain ⟨hI, f0, f1, f2, f3, f4, f5, f6, f7, f8, f9, f10, f11, f12, f13⟩ := hΦ
        have d9 := f9 (hd 9 (by kernel_rfl))
        have e58 : a.tmps[58]? = some (x 58) := hx 9 _ 58 rfl rfl (hd 9 (by kernel_rfl))
        clear hf hx hd
        rw [d9.2] at e58
        go_simp
        refine hK _ _ ?_
        exact ⟨⟨hI.1.alloc hI.1.size _, Nat.le_trans hI.2.1 (by simp), HK.blk_alloc hI.2.2.1 _, hI.2.2.2.1.imp id fun h => HK.blk_alloc h _, fun h => (hI.2.2.2.2 h).imp fun _ h => h.imp fun _ h => ⟨h.1, HK.blk_alloc h.2 _⟩⟩, fun h => (f0 h).imp fun B h => ⟨h.1, Nat.lt_of_lt_of_le h.2.1 ((Below.refl _ w).alloc (Nat.le_refl _) _).size, h.2.2.imp id fun h2 => own_below9 h2 ((Below.refl _ w).alloc (Nat.le_refl _) _)⟩, fun h => f1 h, fun h => f2 h, fun h => ⟨(f3 h).1, (f3 h).2.1, (f3 h).2.2.imp fun v h => ⟨h.1, h.2.imp id fun h2 => own_below9 h2 ((Below.refl _ w).alloc (Nat.le_refl _) _)⟩⟩, fun h => f4 h, fun h => f5 h, fun h => f6 h, fun h => f7 h, fun h => f8 h, fun h => f9 h, fun _ => ⟨d9.1, _, rfl, fun h B' e => by obtain ⟨B9, h1, h2, _⟩ := f0 h; cases h1.symm.trans e; omega, .inr (HK.blk_new _ _)⟩, fun h => absurd (f11 h).2.1 (by rw [hL]; decide), fun h => f12 h, fun h => f13 h⟩
      · intro L x a w K hL hd hf hx hΦ hK
        obtain ⟨hI, f0, f1, f2, f3, f4, f5, f6, f7, f8, f9, f10, f11, f12, f13⟩ := hΦ
        have d3 := f3 (hd 3 (by kernel_rfl))
        have e52 : a.tmps[52]? = some (x 52) := hx 3 _ 52 rfl rfl (hd 3 (by kernel_rfl))
        have d10 := f10 (hd 10 (by kernel_rfl))
        have e59 : a.tmps[59]? = some (x 59) := hx 10 _ 59 rfl rfl (hd 10 (by kernel_rfl))
        have l3 := hd 3 (by kernel_rfl)
        have l10 := hd 10 (by kernel_rfl)
        clear hf hx hd
        obtain ⟨l0, l2, v, hv, hvo⟩ := d3
        obtain ⟨l5, B, hb, _, hbc⟩ := d10
        rw [hv] at e52
        rw [hb] at e59
        have hown := hvo.resolve_left (by rw [hL]; decide)
        have hbc := hbc.resolve_left (by rw [hL]; decide)
        refine of_wanted9 rfl (HK.step_app1 rfl elem61 _ _ rfl v nl (entsFlat es) (ev9 e52) (own_mono0 hown) B 1 #[.int .i64 (now : Int), .int .i64 tick, .string note, .string state] (ev9 e59) hbc rfl (by simp [Value.oneCell']) (by simp only [maxLen]; omega) (by omega) ?_)
        intro g c w' hown2 hgrow hat hlt
        have n13 : L 13 = true → False := fun h => by have := f13 h; rw [hL] at this; exact absurd this (by decide)
        have hg1 : w2.heap.size ≤ g := by rcases hat with h | h; exact own_ge hown _ h; have := hI.2.1; omega
        have hkR : w'.heap[R]? = some (.cells #[.slice none 0 0, .int .i64 0, .slice none 0 0] 63 (0, 0)) := HK.blk_grown hI.2.2.1 hgrow (fun h => by have h2 := own_ge hown R h.symm; have := HRL.out; omega)
        have hkG := HK.blk_grown (hI.2.2.2.1.resolve_left n13) hgrow (fun h => by have h2 := own_ge hown G h.symm; have := HGL.out; omega)
        have hb2 : Below w0.heap.size w0 w' := hI.1.grown hgrow hI.1.size (fun k hk => by have h2 := own_ge hown k hk; have := HSZ.out; omega)
        have hown3 : w'.ownsRow w2.heap.size 98 4 (.slice (some ⟨g, 0, none⟩) (nl + 1) c) (nl + 1) (entsFlat (es ++ [⟨now, tick, note, state⟩])) := by rw [entsFlat_append]; exact own_base9 hown2 hg1
        refine hK _ _ ?_
        exact ⟨⟨hb2, Nat.le_trans hI.2.1 hgrow.size, hkR, .inr hkG, fun h => (n13 h).elim⟩, fun h => (f0 h).imp fun B h => ⟨h.1, Nat.lt_of_lt_of_le h.2.1 hgrow.size, .inl l3⟩, fun h => f1 h, fun h => f2 h, fun h => ⟨l0, l2, v, hv, .inl rfl⟩, fun h => f4 h, fun h => f5 h, fun h => f6 h, fun h => f7 h, fun h => f8 h, fun h => f9 h, fun h => ⟨l5, (f10 h).2.imp fun B h => ⟨h.1, h.2.1, .inl rfl⟩⟩, fun _ => ⟨l3, l10, l2, l5, hown3⟩, fun h => f12 h, fun h => (n13 h).elim⟩
      · intro L x a w K hL hd hf hx hΦ hK
        obtain ⟨hI, f0, f1, f2, f3, f4, f5, f6, f7, f8, f9, f10, f11, f12, f13⟩ := hΦ
        have e4 : a.tmps[4]? = some (.pointer (some ⟨G, 0, none⟩)) := hf 4 (of_decide_eq_true (by kernel_rfl))
        clear hf hx hd
        go_simp
        refine hK _ _ ?_
        exact ⟨hI, fun h => f0 h, fun h => f1 h, fun h => f2 h, fun h => f3 h, fun h => f4 h, fun h => f5 h, fun h => f6 h, fun h => f7 h, fun h => f8 h, fun h => f9 h, fun h => f10 h, fun h => f11 h, fun _ => rfl, fun h => f13 h⟩
      · intro L x a w K hL hd hf hx hΦ hK
        obtain ⟨hI, f0, f1, f2, f3, f4, f5, f6, f7, f8, f9, f10, f11, f12, f13⟩ := hΦ
        have d11 := f11 (hd 11 (by kernel_rfl))
        have e60 : a.tmps[60]? = some (x 60) := hx 11 _ 60 rfl rfl (hd 11 (by kernel_rfl))
        have d12 := f12 (hd 12 (by kernel_rfl))
        have e61 : a.tmps[61]? = some (x 61) := hx 12 _ 61 rfl rfl (hd 12 (by kernel_rfl))
        have l11 := hd 11 (by kernel_rfl)
        clear hf hx hd
        obtain ⟨l3, l10, l2, l5, hown⟩ := d11
        obtain ⟨g, c, hf, hg1, hg2⟩ := own_form9 hown (Nat.succ_pos _)
        rw [hf] at e60 hown
        rw [d12] at e61
        have hbx := hI.2.2.2.1.resolve_left (by rw [hL]; decide)
        have c0 := HK.blk_cell hbx 0
        have cf := fun i => HK.blk_frozen hbx i
        go_simp
        refine hK undef _ ?_
        exact ⟨⟨hI.1.setCell (by have := HSZ.out; exact HG0.out) _, by simpa using hI.2.1, HK.blk_set_other hI.2.2.1 (by have := HRG.out; exact this) _, .inl rfl, fun _ => ⟨g, c, hf, HK.blk_set hbx 0 _⟩⟩, fun h => (f0 h).imp fun B h => ⟨h.1, by simpa using h.2.1, .inl l3⟩, fun h => f1 h, fun h => f2 h, fun h => ⟨(f3 h).1, l2, (f3 h).2.2.imp fun v h => ⟨h.1, .inl l11⟩⟩, fun h => f4 h, fun h => f5 h, fun h => f6 h, fun h => f7 h, fun h => f8 h, fun h => f9 h, fun h => ⟨l5, (f10 h).2.imp fun B h => ⟨h.1, h.2.1, .inl l11⟩⟩, fun h => ⟨l3, l10, l2, l5, by rw [show RE.updv x _ _ 60 = x 60 from rfl, hf]; exact HK.owns_setCell hown (fun e => by have e2 : g = G := Option.some.inj e; have := HGL.out; omega) _⟩, fun h => f12 h, fun _ => l11⟩
      · rintro x W ⟨hI, f0, f1, f2, f3, f4, f5, f6, f7, f8, f9, f10, f11, f12, f13⟩
        obtain ⟨g, c, hf, hbx⟩ := hI.2.2.2.2 (by kernel_rfl)
        obtain ⟨_, _, _, _, ho⟩ := f11 (by kernel_rfl)
        simp only [Exit.then]
        go_step
        go_meet
        case rel => exact ⟨g, c, hf, own_ge ho g (by rw [hf]; rfl), own_lt ho g (by rw [hf]; rfl), hI.1, hI.2.1, hI.2.2.1, hbx, by rw [← hf]; exact ho⟩
  case rest =>
    obtain ⟨g, c, rfl, hg1, hg2, hB3, hs3, hR3, hG3, ho3⟩ := hcut
    obtain ⟨w4, hw4⟩ : ∃ w4, w4 = wc := ⟨_, rfl⟩
    rw [← hw4] at hg2 hB3 hs3 hR3 hG3 ho3 ⊢
    have x0 := HK.blk_cell hG3 0
    have x1 := HK.blk_cell hG3 1
    have x2 := HK.blk_cell hG3 2
    have xf := fun i => HK.blk_frozen hG3 i
    have hGl4 := HK.blk_lt hG3
    have e0 : G ≠ w4.heap.size := by omega
    have e2 : w4.heap.size ≠ G := by omega
    have hGg : G < w2.heap.size := HGL.out
    have hRg : R < w2.heap.size := HRL.out
    have HG1 := Lib.hid hg1
    have HG2 := Lib.hid hg2
    have HB3 := Lib.hid hB3
    have HS3 := Lib.hid hs3
    have HR3 := Lib.hid hR3
    have HG3 := Lib.hid hG3
    have HO3 := Lib.hid ho3
    clear hg1 hg2 hB3 hR3 hG3 ho3 hw4
    go_step
    go_upto_region 12 with (first
    | (at_builtin
       refine wpList_app_any rfl elem25 _ _ rfl (.slice (some ⟨w4.heap.size, 0, none⟩) 0 0) w4.heap.size 0 [] rfl (empty_row w4 3 1) ⟨gw, 0, none⟩ wl gc (ints went) rfl (by have := HW.out.len; simp [ints]; omega) (row_addr ((HW.out.below HB3.out (Nat.le_refl _)).below ((Below.refl w4.heap.size w4).alloc (Nat.le_refl _) _) (Nat.le_refl _))) (ints_one _) (by simp only [maxLen]; omega) (by omega) (by simp) ?_
       intro v5 w5 hown5 hgrow5 hnil5 hat5
       rw [Nat.zero_add] at hown5
       obtain ⟨g5, c5, rfl, hg5, hl5⟩ := own_form9 hown5 hwl0
       have hX5 := HK.blk_grown (HK.blk_alloc HG3.out (.cells #[] 3)) hgrow5 (fun h => by have h2 : G = w4.heap.size := Option.some.inj h; omega)
       have HOWN5 := Lib.hid hown5
       have HX5 := Lib.hid hX5
       have HGR5 := Lib.hid hgrow5
       have x0 := HK.blk_cell hX5 0
       have x1 := HK.blk_cell hX5 1
       have x2 := HK.blk_cell hX5 2
       clear hown5 hX5 hgrow5 hnil5 hat5)
    | (at_builtin
       refine wpList_app1 rfl elem25 _ _ rfl (.slice (some ⟨g5, 0, none⟩) wl c5) wl ([] ++ ints went) rfl (own_mono0 (HOWN5.out.alloc _)) w5.heap.size 1 #[.int .i64 (nl : Int)] rfl (HK.blk_new w5 _) rfl (by simp [Value.oneCell']) (by simp only [maxLen]; omega) (by omega) ?_
       intro g6 c6 w6 hown6 hgrow6 hat6 hlt6
       have hX6 := HK.blk_grown (HK.blk_alloc HX5.out (.cells #[.int .i64 (nl : Int)] 3)) hgrow6 (fun h => by have h2 : G = g5 := Option.some.inj h; omega)
       have HOWN6 := Lib.hid hown6
       have HX6 := Lib.hid hX6
       have HGR6 := Lib.hid hgrow6
       have HAT6 := Lib.hid hat6
       have x0 := HK.blk_cell hX6 0
       have x1 := HK.blk_cell hX6 1
       have x2 := HK.blk_cell hX6 2
       have xf := fun i => HK.blk_frozen hX6 i
       clear hown6 hX6 hgrow6 hat6))
    have k6 : w4.heap.size ≤ g6 := by
      rcases HAT6.out with h | h
      · have h2 : g5 = g6 := Option.some.inj h
        omega
      · have := HGR5.out.size
        simp at h this
        omega
    obtain ⟨w7, hw7⟩ : ∃ w7, w7 = w6.setCell ⟨G, 2, none⟩ (.slice (some ⟨g6, 0, none⟩) (wl + 1) c6) := ⟨_, rfl⟩
    rw [← hw7]
    have hF7 : Frm (fun k => k = G ∨ w4.heap.size ≤ k) w4 w7 := by
      rw [hw7]
      refine ((((Frm.refl (fun k => k = G ∨ w4.heap.size ≤ k) w4).alloc (.cells #[] 3)).grown HGR5.out (fun k e => ?_)).alloc (.cells #[.int .i64 (nl : Int)] 3)).grown HGR6.out (fun k e => ?_) |>.setCell (.inl (.inl rfl)) _
      · have h2 : w4.heap.size = k := Option.some.inj e
        exact .inl (.inr (by omega))
      · have h2 : g5 = k := Option.some.inj e
        exact .inl (.inr (by omega))
    have hX7 : w7.heap[G]? = some (.cells #[.slice (some ⟨g, 0, none⟩) (nl + 1) c, .int .i64 (now : Int), .slice (some ⟨g6, 0, none⟩) (wl + 1) c6] 63 (0, 0)) := by rw [hw7]; exact HK.blk_set HX6.out 2 _
    have hR7 : w7.heap[R]? = some (.cells #[.slice none 0 0, .int .i64 0, .slice none 0 0] 63 (0, 0)) := hF7.heap HR3.out (fun h => h.elim HRG.out (fun h => by omega))
    have hO7 : w7.ownsRow 0 3 1 (.slice (some ⟨g6, 0, none⟩) (wl + 1) c6) (wl + 1) ([] ++ ints went ++ [.int .i64 (nl : Int)]) := by rw [hw7]; exact HK.owns_setCell HOWN6.out (fun h => by have h2 : g6 = G := Option.some.inj h; omega) _
    have HF7 := Lib.hid hF7
    have HX7 := Lib.hid hX7
    have HR7 := Lib.hid hR7
    have HO7 := Lib.hid hO7
    have K6 := Lib.hid k6
    have q0 := HK.blk_cell hX7 0
    have q1 := HK.blk_cell hX7 1
    have q2 := HK.blk_cell hX7 2
    have qf := fun i => HK.blk_frozen hX7 i
    have r0 := HK.blk_cell hR7 0
    have r1 := HK.blk_cell hR7 1
    have r2 := HK.blk_cell hR7 2
    have rf := fun i => HK.blk_frozen hR7 i
    have eRG : R ≠ G := HRG.out
    have eGR : G ≠ R := fun h => eRG h.symm
    clear hX7 hR7 hO7 hF7 hw7 k6 x0 x1 x2 xf
    go_wp2_with (fail)
    have hR8 : (w7.setCell ⟨G, 1, none⟩ (.int .i64 (nl : Int))).heap[R]? = some (.cells #[.slice none 0 0, .int .i64 0, .slice none 0 0] 63 (0, 0)) := HK.blk_set_other HR7.out (by show R ≠ G; exact eRG) _
    refine bodyPost_ret (results_cell3 (p := 8) (u := 9) (v := 10) (by kernel_rfl) _ _ R 63 _ (0, 0) _ (.int .i64 (nl : Int)) (.int .i64 0) rfl rfl rfl (set3 hR8 _ _ _) Try.underlying63 rfl (by kernel_rfl)) rfl ?_
    have hf8 := (set3_frm (w7.setCell ⟨G, 1, none⟩ (.int .i64 (nl : Int))) R (.slice (some ⟨g, 0, none⟩) (nl + 1) c) (.int .i64 (nl : Int)) (.slice (some ⟨g6, 0, none⟩) (wl + 1) c6))
    have hf7 : Frm (fun k => k = G ∨ k = R) w7 _ := ((Frm.refl (fun k => k = G ∨ k = R) w7).setCell (p := ⟨G, 1, none⟩) (.inl (.inl rfl)) (.int .i64 (nl : Int))).trans (hf8.mono (fun b e => .inr e))
    have hg9 := HG1.out
    have hg8 := HG2.out
    have hk6 := K6.out
    have hwlen := HW.out.len
    unfold RetDo
    rw [hwlen]
    refine ⟨g, c, g6, c6, rfl, ?_, RowAt.of (base := 0) (c := c6) ?_ (by rw [List.length_append, List.length_singleton, hwlen]), by have := HSZ.out; omega, by have := HSZ.out; omega, ?_⟩
    · have h4 := HF7.out.owns HO3.out (fun k e e2 => by have e3 : g = k := Option.some.inj e; have e4 : k = G ∨ w4.heap.size ≤ k := e2; omega)
      have h5 := hf7.owns h4 (fun k e e2 => by have e3 : g = k := Option.some.inj e; have e4 : k = G ∨ k = R := e2; omega)
      exact ents_row h5 (by rw [List.length_append, List.length_singleton, HLN.out]) (own_lt h5 g rfl)
    · have h5 := hf7.owns HO7.out (fun k e e2 => by have e3 : g6 = k := Option.some.inj e; have e4 : k = G ∨ k = R := e2; omega)
      have e1 : ints (went ++ [nl]) = [] ++ ints went ++ [.int .i64 (nl : Int)] := by simp [ints]
      rw [e1]
      exact h5
    · have h0 := HG0.out
      have h1 := HR0.out
      have hF : Frm (fun k => w0.heap.size ≤ k) w0 _ := (Frm.of_below HB3.out _).trans ((HF7.out.mono (fun k e => by have e4 : k = G ∨ w4.heap.size ≤ k := e; show w0.heap.size ≤ k; have := HB3.out.size; omega)).trans (hf7.mono (fun k e => by have e4 : k = G ∨ k = R := e; show w0.heap.size ≤ k; omega)))
      exact hF.below (Nat.le_refl _) (fun _ hk => hk)
end Go.Proofs.Ythneinepdbkgeaa
