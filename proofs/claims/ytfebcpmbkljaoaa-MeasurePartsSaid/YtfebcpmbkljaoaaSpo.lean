/- spoil (37): writes only into the blocks of a proof that can be written. -/
import Derived.Test.YtfebcpmbkljaoaaSmaR
import Derived.Test.YtfebcpmbkljaoaaRichE
import Derived.Test.YtfebcpmbkljaoaaSmal
import Derived.Test.YtfebcpmbkljaoaaMeaY
namespace Go.Proofs.Ytfebcpmbkljaoaa
open Go.RowKit Go.HR
set_option linter.unusedVariables false
set_option linter.unusedSimpArgs false
set_option linter.unusedSectionVars false
/-- Values of one kind: numbers, strings, or the same. -/
def Alike (v v' : Value) : Prop := v' = v ∨ (∃ x y, v = .int .i64 x ∧ v' = .int .i64 y) ∨ (∃ x y, v = .string x ∧ v' = .string y)
theorem Alike.trans {a b c : Value} (h : Alike a b) (k : Alike b c) : Alike a c := by
  rcases h with rfl | ⟨x, y, rfl, rfl⟩ | ⟨x, y, rfl, rfl⟩
  · exact k
  · rcases k with rfl | ⟨x', y', h1, rfl⟩ | ⟨x', y', h1, rfl⟩
    · exact .inr (.inl ⟨_, _, rfl, rfl⟩)
    · exact .inr (.inl ⟨_, _, rfl, rfl⟩)
    · cases h1
  · rcases k with rfl | ⟨x', y', h1, rfl⟩ | ⟨x', y', h1, rfl⟩
    · exact .inr (.inr ⟨_, _, rfl, rfl⟩)
    · cases h1
    · exact .inr (.inr ⟨_, _, rfl, rfl⟩)
/-- What a spoiling leaves: blocks out of A; the cells' kinds. -/
structure Kept (A : Nat → Prop) (w w' : World) : Prop where
  frm : HK.Frm A w w'
  thaw : ∀ b, b < w.heap.size → ThawAt w b → ThawAt w' b
  cell : ∀ b j v, b < w.heap.size → w.cell? ⟨b, j, none⟩ = some v → ∃ v', w'.cell? ⟨b, j, none⟩ = some v' ∧ Alike v v'
theorem Kept.refl (A : Nat → Prop) (w : World) : Kept A w w := ⟨HK.Frm.refl _ _, fun _ _ h => h, fun b j v _ h => ⟨v, h, .inl rfl⟩⟩
theorem Kept.trans {A : Nat → Prop} {a b c : World} (h : Kept A a b) (k : Kept A b c) : Kept A a c :=
  ⟨h.frm.trans k.frm, fun i hi ht => k.thaw i (Nat.lt_of_lt_of_le hi h.frm.size) (h.thaw i hi ht), fun i j v hi hv => by
    obtain ⟨v1, h1, h2⟩ := h.cell i j v hi hv
    obtain ⟨v2, h3, h4⟩ := k.cell i j v1 (Nat.lt_of_lt_of_le hi h.frm.size) h1
    exact ⟨v2, h3, h2.trans h4⟩⟩
theorem Kept.alloc {A : Nat → Prop} {a b : World} (h : Kept A a b) (o : Obj) : Kept A a (b.alloc o) :=
  ⟨h.frm.alloc o, fun i hi ht => by
    obtain ⟨cs, t, h1⟩ := h.thaw i hi ht
    exact ⟨cs, t, HK.blk_alloc h1 o⟩, fun i j v hi hv => by
    obtain ⟨v1, h1, h2⟩ := h.cell i j v hi hv
    exact ⟨v1, cell_then h1 (bl_al (Below.refl _ _)), h2⟩⟩
theorem Kept.set {A : Nat → Prop} {w : World} {g i : Nat} {u v : Value} (hg : Th A w g) (hc : w.cell? ⟨g, i, none⟩ = some u) (ha : Alike u v) : Kept A w (w.setCell ⟨g, i, none⟩ v) := by
  obtain ⟨hA, cs, t, hb⟩ := hg
  have hs := HK.blk_set hb i v
  refine ⟨HK.Frm.setCell (HK.Frm.refl _ _) (.inl hA) v, fun b hb' ht => ?_, fun b j x hb' hx => ?_⟩
  · by_cases e : b = g
    · subst e; exact ⟨_, _, hs⟩
    · obtain ⟨cs', t', h⟩ := ht
      exact ⟨cs', t', HK.blk_set_other h (p := ⟨g, i, none⟩) e v⟩
  · by_cases e : b = g
    · subst e
      rw [HK.blk_cell hb] at hx hc
      rw [HK.blk_cell hs, Array.getElem?_setIfInBounds]
      by_cases e2 : i = j
      · subst e2
        rw [hx] at hc
        cases hc
        have := (Array.getElem?_eq_some_iff.1 hx).1
        rw [if_pos rfl, if_pos this]
        exact ⟨v, rfl, ha⟩
      · rw [if_neg e2]
        exact ⟨x, hx, .inl rfl⟩
    · obtain ⟨o, ho⟩ : ∃ o, w.heap[b]? = some o := ⟨_, Array.getElem?_eq_getElem hb'⟩
      have h2 := HK.blk_set_other ho (p := ⟨g, i, none⟩) e v
      exact ⟨x, (World.cell?_of_block (a := ⟨b, j, none⟩) (h2.trans ho.symm)).trans hx, .inl rfl⟩
theorem Kept.same {A : Nat → Prop} {w w' : World} (h : Kept A w w') {b j : Nat} {v : Value} (hv : w.cell? ⟨b, j, none⟩ = some v) (hi : ∀ x, v ≠ .int .i64 x) (hs : ∀ x, v ≠ .string x) : w'.cell? ⟨b, j, none⟩ = some v := by
  obtain ⟨v', h1, h2⟩ := h.cell b j v (World.block_lt_of_cell? w _ hv) hv
  rcases h2 with rfl | ⟨x, y, rfl, _⟩ | ⟨x, y, rfl, _⟩
  · exact h1
  · exact absurd rfl (hi x)
  · exact absurd rfl (hs x)
theorem Kept.int {A : Nat → Prop} {w w' : World} (h : Kept A w w') {b j : Nat} {x : Int} (hv : w.cell? ⟨b, j, none⟩ = some (.int .i64 x)) : ∃ y, w'.cell? ⟨b, j, none⟩ = some (.int .i64 y) := by
  obtain ⟨v', h1, h2⟩ := h.cell b j _ (World.block_lt_of_cell? w _ hv) hv
  rcases h2 with rfl | ⟨x', y, _, rfl⟩ | ⟨x', y, h3, _⟩
  · exact ⟨x, h1⟩
  · exact ⟨y, h1⟩
  · cases h3
theorem Kept.str {A : Nat → Prop} {w w' : World} (h : Kept A w w') {b j : Nat} {x : ByteArray} (hv : w.cell? ⟨b, j, none⟩ = some (.string x)) : ∃ y, w'.cell? ⟨b, j, none⟩ = some (.string y) := by
  obtain ⟨v', h1, h2⟩ := h.cell b j _ (World.block_lt_of_cell? w _ hv) hv
  rcases h2 with rfl | ⟨x', y, h3, _⟩ | ⟨x', y, _, rfl⟩
  · exact ⟨x, h1⟩
  · cases h3
  · exact ⟨y, h1⟩
/-- Marks, formulas, proofs: what can be spoilt. -/
def SkM (A : Nat → Prop) (W : World) (m : SL) : Prop := m.n ≤ 20000 ∧ (m.n = 0 ∨ ∃ g o, m.a = some ⟨g, o, none⟩ ∧ ∀ i, i < m.n → ∃ u : SL, W.cell? ⟨g, o + i, none⟩ = some u.v ∧ u.n ≤ 20000 ∧
  (u.n = 0 ∨ ∃ g' o', u.a = some ⟨g', o', none⟩ ∧ g' < W.heap.size ∧ Th A W g' ∧ ∀ j, j < u.n → ∃ x, W.cell? ⟨g', o' + j, none⟩ = some (.int .i64 x)))
def SkF (A : Nat → Prop) (W : World) (f : SL) : Prop := f.n ≤ 20000 ∧ (f.n = 0 ∨ ∃ g o, f.a = some ⟨g, o, none⟩ ∧ g < W.heap.size ∧ Th A W g ∧ ∀ i, i < f.n → ∃ nm, W.cell? ⟨g, o + i * 4 + 1, none⟩ = some (.string nm))
def SkN (A : Nat → Prop) : Nat → World → SL → Prop
  | 0, _, s => s.n = 0
  | k + 1, W, s => s.n ≤ 10000 ∧ (s.n = 0 ∨ ∃ g o, s.a = some ⟨g, o, none⟩ ∧ g < W.heap.size ∧ Th A W g ∧ ∀ i, i < s.n → ∃ (r : ByteArray) (op : Int) (nm : ByteArray) (a f : SL) (lab : Int) (s' m : SL),
      W.cell? ⟨g, o + i * 8, none⟩ = some (.string r) ∧ W.cell? ⟨g, o + i * 8 + 1, none⟩ = some (.int .u8 op) ∧ W.cell? ⟨g, o + i * 8 + 2, none⟩ = some (.string nm) ∧ W.cell? ⟨g, o + i * 8 + 3, none⟩ = some a.v ∧ W.cell? ⟨g, o + i * 8 + 4, none⟩ = some f.v ∧ W.cell? ⟨g, o + i * 8 + 5, none⟩ = some (.int .i64 lab) ∧ W.cell? ⟨g, o + i * 8 + 6, none⟩ = some s'.v ∧ W.cell? ⟨g, o + i * 8 + 7, none⟩ = some m.v ∧
      SkM A W m ∧ SkF A W f ∧ SkN A k W s')
theorem th_kept {A : Nat → Prop} {w w' : World} {g : Nat} (h : Th A w g) (hl : g < w.heap.size) (k : Kept A w w') : Th A w' g := ⟨h.1, k.thaw g hl h.2⟩
theorem SL.same {A : Nat → Prop} {w w' : World} (h : Kept A w w') {b j : Nat} {s : SL} (hv : w.cell? ⟨b, j, none⟩ = some s.v) : w'.cell? ⟨b, j, none⟩ = some s.v := h.same hv (fun x e => nomatch e) (fun x e => nomatch e)
theorem SkM.kept {A : Nat → Prop} {w w' : World} {m : SL} (h : SkM A w m) (k : Kept A w w') : SkM A w' m := by
  refine ⟨h.1, h.2.imp id ?_⟩
  rintro ⟨g, o, ha, hc⟩
  refine ⟨g, o, ha, fun i hi => ?_⟩
  obtain ⟨u, h1, h2, h3⟩ := hc i hi
  refine ⟨u, SL.same k h1, h2, h3.imp id ?_⟩
  rintro ⟨g', o', ha', hl, ht, hc'⟩
  refine ⟨g', o', ha', Nat.lt_of_lt_of_le hl k.frm.size, th_kept ht hl k, fun j hj => ?_⟩
  obtain ⟨x, hx⟩ := hc' j hj
  exact k.int hx
theorem SkF.kept {A : Nat → Prop} {w w' : World} {m : SL} (h : SkF A w m) (k : Kept A w w') : SkF A w' m := by
  refine ⟨h.1, h.2.imp id ?_⟩
  rintro ⟨g, o, ha, hl, ht, hc⟩
  refine ⟨g, o, ha, Nat.lt_of_lt_of_le hl k.frm.size, th_kept ht hl k, fun i hi => ?_⟩
  obtain ⟨x, hx⟩ := hc i hi
  exact k.str hx
theorem SkN.kept {A : Nat → Prop} {w w' : World} (k : Kept A w w') : ∀ {n : Nat} {m : SL}, SkN A n w m → SkN A n w' m
  | 0, _, h => h
  | n + 1, m, h => by
    refine ⟨h.1, h.2.imp id ?_⟩
    rintro ⟨g, o, ha, hl, ht, hc⟩
    refine ⟨g, o, ha, Nat.lt_of_lt_of_le hl k.frm.size, th_kept ht hl k, fun i hi => ?_⟩
    obtain ⟨r, op, nm, a, f, lab, s', m', h0, h1, h2, h3, h4, h5, h6, h7, h8, h9, h10⟩ := hc i hi
    obtain ⟨r2, h0'⟩ := k.str h0
    obtain ⟨nm2, h2'⟩ := k.str h2
    obtain ⟨lab2, h5'⟩ := k.int h5
    exact ⟨r2, op, nm2, a, f, lab2, s', m', h0', k.same h1 (fun x e => by cases e) (fun x e => by cases e), h2', SL.same k h3, SL.same k h4, h5', SL.same k h6, SL.same k h7, h8.kept k, h9.kept k, h10.kept k⟩
def RetSp (A : Nat → Prop) (w : World) (e : Ending) (w' : World) : Prop := e = .returned (.tuple #[]) ∧ Kept A w w'
def SpoOk (A : Nat → Prop) (k : Nat) : Prop := ∀ (w : World) (r : ByteArray) (op : Int) (nm : ByteArray) (a f : SL) (lab : Int) (s m : SL), (∀ b, A b → b < w.heap.size) → SkM A w m → SkF A w f → SkN A k w s →
  Calls Try.prog 37 #[.agg #[.string r, .int .u8 op, .string nm, a.v, f.v, .int .i64 lab, s.v, m.v]] w (RetSp A w)
end Go.Proofs.Ytfebcpmbkljaoaa
namespace Go.Proofs.Ytfebcpmbkljaoaa
open Go.RowKit Go.HR
set_option linter.unusedVariables false
set_option linter.unusedSimpArgs false
set_option linter.unusedSectionVars false
theorem th_free {A : Nat → Prop} {W : World} {g : Nat} (h : Th A W g) (i : Nat) : W.frozen? ⟨g, i, none⟩ = false := by
  obtain ⟨_, cs, t, hb⟩ := h
  exact HK.blk_frozen hb i
set_option maxRecDepth 100000 in
set_option maxHeartbeats 8000000 in
theorem spoil_of (A : Nat → Prop) (k : Nat) (ih : ∀ k', k = k' + 1 → SpoOk A k') : SpoOk A k := by
  intro w r op nm a f lab s m hA hm hf hs
  have hsub : ∀ W, Kept A w W → ∀ i, i < s.n → ∃ (g o : Nat) (r : ByteArray) (op : Int) (nm : ByteArray) (a f : SL) (lab : Int) (s' m : SL), s.a = some ⟨g, o, none⟩ ∧ g < W.heap.size ∧ Th A W g ∧
      W.cell? ⟨g, o + i * 8, none⟩ = some (.string r) ∧ W.cell? ⟨g, o + i * 8 + 1, none⟩ = some (.int .u8 op) ∧ W.cell? ⟨g, o + i * 8 + 2, none⟩ = some (.string nm) ∧ W.cell? ⟨g, o + i * 8 + 3, none⟩ = some a.v ∧ W.cell? ⟨g, o + i * 8 + 4, none⟩ = some f.v ∧ W.cell? ⟨g, o + i * 8 + 5, none⟩ = some (.int .i64 lab) ∧ W.cell? ⟨g, o + i * 8 + 6, none⟩ = some s'.v ∧ W.cell? ⟨g, o + i * 8 + 7, none⟩ = some m.v ∧
      Calls Try.prog 37 #[.agg #[.string r, .int .u8 op, .string nm, a.v, f.v, .int .i64 lab, s'.v, m.v]] W (RetSp A W) := fun W hK i hi => by
    cases k with
    | zero => exact absurd hi (by have : s.n = 0 := hs; omega)
    | succ k' =>
      obtain ⟨_, h⟩ := SkN.kept hK hs
      obtain ⟨g, o, ha, hl, ht, hc⟩ := h.resolve_left (by omega)
      obtain ⟨r, op, nm, a, f, lab, s', m', h0, h1, h2, h3, h4, h5, h6, h7, h8, h9, h10⟩ := hc i hi
      exact ⟨g, o, r, op, nm, a, f, lab, s', m', ha, hl, ht, h0, h1, h2, h3, h4, h5, h6, h7, ih k' rfl W r op nm a f lab s' m' (fun b hb => Nat.lt_of_lt_of_le (hA b hb) hK.frm.size) h8 h9 h10⟩
  have hsn : s.n ≤ 10000 := by
    cases k with
    | zero => have : s.n = 0 := hs; omega
    | succ k' => exact hs.1
  obtain ⟨aa, an, ac⟩ := a
  obtain ⟨fa, fn, fc⟩ := f
  obtain ⟨sa, sn, sc⟩ := s
  obtain ⟨ma, mn, mc⟩ := m
  have hmn := hm.1
  have hfn := hf.1
  simp only at hsn hmn hfn hsub
  simp only [SL.v]
  obtain ⟨G, hG⟩ : ∃ G, G = w.heap.size := ⟨_, rfl⟩
  obtain ⟨w1, hw1⟩ : ∃ w1, w1 = w.alloc (.cells #[.string r, .int .u8 op, .string nm, .slice aa an ac, .slice fa fn fc, .int .i64 lab, .slice sa sn sc, .slice ma mn mc] 30) := ⟨_, rfl⟩
  have hX1 : w1.heap[G]? = some (.cells #[.string r, .int .u8 op, .string nm, .slice aa an ac, .slice fa fn fc, .int .i64 lab, .slice sa sn sc, .slice ma mn mc] 30 (0, 0)) := by rw [hw1, hG]; exact HK.blk_new _ _
  have hK1 : Kept A w w1 := by rw [hw1]; exact (Kept.refl _ _).alloc _
  have hnA : ¬ A G := fun h => by have := hA G h; omega
  have hm1 := hm.kept hK1
  have hf1 := hf.kept hK1
  have hbox : ∀ W, Kept A w1 W → W.heap[G]? = some (.cells #[.string r, .int .u8 op, .string nm, .slice aa an ac, .slice fa fn fc, .int .i64 lab, .slice sa sn sc, .slice ma mn mc] 30 (0, 0)) := fun W hK => hK.frm.heap hX1 hnA
  have x6 : w1.cell? ⟨G, 6, none⟩ = some (.slice sa sn sc) := HK.blk_cell hX1 6
  have HSUB := Lib.hid hsub
  have HM1 := Lib.hid hm1
  have HF1 := Lib.hid hf1
  have HK1 := Lib.hid hK1
  have HBOX := Lib.hid hbox
  have HG := Lib.hid hG
  have HW1 := Lib.hid hw1
  clear hsub hm1 hf1 hK1 hbox hnA hm hf hs hX1 hG hw1 ih hA
  go_enter Try.func37, Try.ntmps37
  go_upto_block 0 with (fail)
  rw [← HW1.out, ← HG.out]
  go_cut [2] from 10 to 23 (fun _ wx => Kept A w1 wx)
  case first =>
    go_wp2_with (fail)
    go_loopw [9] (fun j wr => ∃ i : Nat, i ≤ sn ∧ j = .int .i64 i ∧ Kept A w1 wr) (fun j _ => sn - (intOf j).toNat)
    case atStart => exact ⟨0, by omega, rfl, Kept.refl _ _⟩
    case round =>
      obtain ⟨i, hi, rfl, hKr⟩ := hrel
      by_cases h1 : i < sn
      · obtain ⟨g, o, r', op', nm', ⟨ba, bn, bc⟩, ⟨da, dn, dc⟩, lab', ⟨ea, en, ec⟩, ⟨ka, kn, kc⟩, hsa, hgl, hgt, c0, c1, c2, c3, c4, c5, c6, c7, hcall⟩ := HSUB.out wr (HK1.out.trans hKr) i h1
        subst hsa
        have hXr := HBOX.out wr hKr
        have x6 : wr.cell? ⟨G, 6, none⟩ = some (.slice (some ⟨g, o, none⟩) sn sc) := HK.blk_cell hXr 6
        simp only [SL.v] at c0 c1 c2 c3 c4 c5 c6 c7 hcall
        have z0 : (0 : Int) ≤ (i : Int) := by omega
        have z1 : (i : Int) < (sn : Int) := by omega
        have HC := Lib.hid hcall
        have HKR := Lib.hid hKr
        have HGT := Lib.hid hgt
        have HGL := Lib.hid hgl
        clear hcall hKr hgt hgl hXr
        go_wp2_with (
          go_at_call 37
          refine HC.out.mono ?_
          rintro e w3 ⟨rfl, hK3⟩
          have x6' : w3.cell? ⟨G, 6, none⟩ = some (.slice (some ⟨g, o, none⟩) sn sc) := HK.blk_cell (HBOX.out w3 (HKR.out.trans hK3)) 6
          obtain ⟨y5, c5'⟩ := hK3.int c5
          have ht3 := th_kept HGT.out HGL.out hK3
          have cf := th_free ht3
          have HT3 := Lib.hid ht3
          have HK3 := Lib.hid hK3
          have HC5 := Lib.hid c5'
          clear hK3 ht3)
        go_roundw
        case rel => exact ⟨i + 1, by omega, by go_num, (HKR.out.trans HK3.out).trans (Kept.set HT3.out HC5.out (.inr (.inl ⟨_, _, rfl, rfl⟩)))⟩
        case measure => simp [intOf]; omega
      · obtain rfl : i = sn := by omega
        have y3 : ¬ ((i : Int) < (i : Int)) := by omega
        have HKR := Lib.hid hKr
        clear hKr
        go_wp2_with (fail)
        go_meet
        case rel => exact HKR.out
  case rest =>
    obtain ⟨w2, rfl⟩ : ∃ w2 : World, w2 = wc := ⟨_, rfl⟩
    have x7 : w2.cell? ⟨G, 7, none⟩ = some (.slice ma mn mc) := HK.blk_cell (HBOX.out w2 hcut) 7
    have HK2 := Lib.hid hcut
    clear hcut x6
    go_upto_block 2 with (fail)
    go_cut [3, 4] from 28 to 47 (fun _ _ wx => Kept A w1 wx)
    case first =>
      go_wp2_with (fail)
      go_loopw [27] (fun j wr => ∃ i : Nat, i ≤ mn ∧ j = .int .i64 i ∧ Kept A w1 wr) (fun j _ => mn - (intOf j).toNat)
      case atStart => exact ⟨0, by omega, rfl, HK2.out⟩
      case round =>
        obtain ⟨i, hi, rfl, hKr⟩ := hrel
        by_cases h1 : i < mn
        · obtain ⟨g, o, hma, hmc⟩ := HM1.out.2.resolve_left (by simp only; omega)
          obtain ⟨⟨ua, un, uc⟩, hc0, hul, hur⟩ := hmc i h1
          simp only at hma hul hur
          simp only [SL.v] at hc0
          subst hma
          obtain ⟨w3, hw3⟩ : ∃ w3, w3 = wr := ⟨_, rfl⟩
          subst hw3
          have x7 : w3.cell? ⟨G, 7, none⟩ = some (.slice (some ⟨g, o, none⟩) mn mc) := HK.blk_cell (HBOX.out w3 hKr) 7
          have c0 : w3.cell? ⟨g, o + i, none⟩ = some (.slice ua un uc) := hKr.same hc0 (fun x e => nomatch e) (fun x e => nomatch e)
          have z0 : (0 : Int) ≤ (i : Int) := by omega
          have z1 : (i : Int) < (mn : Int) := by omega
          have HC0 := Lib.hid hc0
          have HUR := Lib.hid hur
          have HKR := Lib.hid hKr
          clear hc0 hur hKr hmc
          go_wp2_with (fail)
          go_loopw [36] (fun j wr => ∃ k : Nat, k ≤ un ∧ j = .int .i64 k ∧ Kept A w1 wr) (fun j _ => un - (intOf j).toNat)
          case atStart => exact ⟨0, by omega, rfl, HKR.out⟩
          case round =>
            obtain ⟨k, hk, rfl, hKk⟩ := hrel
            by_cases h2 : k < un
            · obtain ⟨g', o', hua, hgl, hgt, huc⟩ := HUR.out.resolve_left (by omega)
              subst hua
              obtain ⟨x0, hx0⟩ := huc k h2
              obtain ⟨x1, c1⟩ := hKk.int hx0
              have ht3 := th_kept hgt hgl hKk
              have cf := th_free ht3
              have x7 : wr.cell? ⟨G, 7, none⟩ = some (.slice (some ⟨g, o, none⟩) mn mc) := HK.blk_cell (HBOX.out wr hKk) 7
              have c0 : wr.cell? ⟨g, o + i, none⟩ = some (.slice (some ⟨g', o', none⟩) un uc) := hKk.same HC0.out (fun x e => nomatch e) (fun x e => nomatch e)
              have y0 : (0 : Int) ≤ (k : Int) := by omega
              have y1 : (k : Int) < (un : Int) := by omega
              have HT3 := Lib.hid ht3
              have HC1 := Lib.hid c1
              have HKK := Lib.hid hKk
              clear hx0 huc ht3 hKk hgl hgt
              go_wp2_with (fail)
              go_roundw
              case rel => exact ⟨k + 1, by omega, by go_num, HKK.out.trans (Kept.set HT3.out HC1.out (.inr (.inl ⟨_, _, rfl, rfl⟩)))⟩
              case measure => simp [intOf]; omega
            · obtain rfl : k = un := by omega
              have y3 : ¬ ((k : Int) < (k : Int)) := by omega
              have HKK := Lib.hid hKk
              clear hKk
              go_wp2_with (fail)
              go_roundw
              case rel => exact ⟨i + 1, by omega, by go_num, HKK.out⟩
              case measure => simp [intOf]; omega
        · obtain rfl : i = mn := by omega
          have y3 : ¬ ((i : Int) < (i : Int)) := by omega
          have HKR := Lib.hid hKr
          clear hKr
          go_wp2_with (fail)
          go_meet
          case rel => exact HKR.out
    case rest =>
      obtain ⟨w4, rfl⟩ : ∃ w4 : World, w4 = wc := ⟨_, rfl⟩
      have x4 : w4.cell? ⟨G, 4, none⟩ = some (.slice fa fn fc) := HK.blk_cell (HBOX.out w4 hcut) 4
      have HK4 := Lib.hid hcut
      clear hcut x7
      go_wp2_with (fail)
      go_loopw [52] (fun j wr => ∃ i : Nat, i ≤ fn ∧ j = .int .i64 i ∧ Kept A w1 wr) (fun j _ => fn - (intOf j).toNat)
      case atStart => exact ⟨0, by omega, rfl, HK4.out⟩
      case round =>
        obtain ⟨i, hi, rfl, hKr⟩ := hrel
        by_cases h1 : i < fn
        · obtain ⟨g, o, hfa, hgl, hgt, hfc⟩ := HF1.out.2.resolve_left (by simp only; omega)
          simp only at hfa
          subst hfa
          obtain ⟨x0, hx0⟩ := hfc i h1
          obtain ⟨x1, c1⟩ := hKr.str hx0
          have ht3 := th_kept hgt hgl hKr
          have cf := th_free ht3
          have x4 : wr.cell? ⟨G, 4, none⟩ = some (.slice (some ⟨g, o, none⟩) fn fc) := HK.blk_cell (HBOX.out wr hKr) 4
          have z0 : (0 : Int) ≤ (i : Int) := by omega
          have z1 : (i : Int) < (fn : Int) := by omega
          have HT3 := Lib.hid ht3
          have HC1 := Lib.hid c1
          have HKR := Lib.hid hKr
          clear hx0 hfc ht3 hKr hgl hgt
          go_wp2_with (fail)
          go_roundw
          case rel => exact ⟨i + 1, by omega, by go_num, HKR.out.trans (Kept.set HT3.out HC1.out (.inr (.inr ⟨_, _, rfl, rfl⟩)))⟩
          case measure => simp [intOf]; omega
        · obtain rfl : i = fn := by omega
          have y3 : ¬ ((i : Int) < (i : Int)) := by omega
          have HKR := Lib.hid hKr
          clear hKr
          go_wp2_with (fail)
          go_end0
          exact ⟨rfl, HK1.out.trans HKR.out⟩
theorem spoil_all (A : Nat → Prop) : ∀ k, SpoOk A k
  | 0 => spoil_of A 0 (fun k' h => by omega)
  | k + 1 => spoil_of A (k + 1) (fun k' h => by cases h; exact spoil_all A k)
end Go.Proofs.Ytfebcpmbkljaoaa
namespace Go.Proofs.Ytfebcpmbkljaoaa
open Go.RowKit Go.HR
set_option linter.unusedVariables false
set_option linter.unusedSimpArgs false
set_option linter.unusedSectionVars false
theorem th_lt {A : Nat → Prop} {W : World} {g : Nat} (h : Th A W g) : g < W.heap.size := by
  obtain ⟨_, cs, t, hb⟩ := h
  exact HK.blk_lt hb
theorem skM_of {A : Nat → Prop} {W : World} {m : SL} {ms : List (List Int)} (h : IsMq (Th A W) W m ms) (hl : ms.length ≤ 20000) (hu : ∀ u ∈ ms, u.length ≤ 20000) : SkM A W m := by
  obtain ⟨h1, _, h3⟩ := h
  refine ⟨by omega, ?_⟩
  rcases h3 with rfl | ⟨g, o, ha, hg, sl, hc⟩
  · exact .inl h1
  · refine .inr ⟨g, o, ha, fun i hi => ?_⟩
    obtain ⟨u, hiu⟩ : ∃ u, ms[i]? = some u := ⟨_, List.getElem?_eq_getElem (by omega)⟩
    obtain ⟨c0, q1, _, q3⟩ := hc i u hiu
    have := hu u (List.mem_of_getElem? hiu)
    refine ⟨sl i, c0, by omega, ?_⟩
    rcases q3 with rfl | ⟨g', o', ha', hg', hc'⟩
    · exact .inl q1
    · refine .inr ⟨g', o', ha', th_lt hg', hg', fun j hj => ?_⟩
      obtain ⟨x, hx⟩ : ∃ x, u[j]? = some x := ⟨_, List.getElem?_eq_getElem (by omega)⟩
      exact ⟨x, hc' j x hx⟩
theorem skF_of {A : Nat → Prop} {W : World} {f : SL} {fs : List FT} (h : IsFs (Th A W) W f fs) (hl : fs.length ≤ 20000) : SkF A W f := by
  have hn := h.len
  refine ⟨by omega, ?_⟩
  cases h with
  | nil a c => exact .inl rfl
  | row g o c fs av sv hg hl' hc ha hs =>
    refine .inr ⟨g, o, rfl, th_lt hg, hg, fun i hi => ?_⟩
    simp only at hi
    obtain ⟨f, hf⟩ : ∃ f, fs[i]? = some f := ⟨_, List.getElem?_eq_getElem hi⟩
    exact ⟨f.nm, hc i f hf 1 _ rfl⟩
theorem skN_of {A : Nat → Prop} {W : World} : ∀ (k : Nat) {s : SL} {ts : List PT} {rs : List RT}, sizeF ts ≤ k → IsPq (Th A W) W s ts → RichF (Th A W) W ts rs → shortF rs → rs.length ≤ 10000 → SkN A k W s
  | 0, s, ts, rs, hk, hp, hr, hs, hl => by
    have := sizeF_len ts
    have h2 := hp.len
    have h3 : ts.length = 0 := by omega
    show s.n = 0
    omega
  | k + 1, s, ts, rs, hk, hp, hr, hs, hl => by
    have hn := hp.len
    have hlr := RichF.length hr
    refine ⟨by omega, ?_⟩
    cases hp with
    | nil a c => exact .inl rfl
    | row g o c ts sv hg hc hsub =>
      refine .inr ⟨g, o, rfl, th_lt hg, hg, fun i hi => ?_⟩
      simp only at hi
      obtain ⟨t, ht⟩ : ∃ t, ts[i]? = some t := ⟨_, List.getElem?_eq_getElem hi⟩
      obtain ⟨r, hrr⟩ : ∃ r, rs[i]? = some r := ⟨_, List.getElem?_eq_getElem (by omega)⟩
      have hrt := RichF.get hr ht hrr
      have hsr := shortF_get hs hrr
      have hci := fun j v hv => hc i t ht j v hv
      have hps := hsub i t ht
      have hm := sizeF_mem ht
      have he := sizeT_eq t
      obtain ⟨rule, ⟨op, name, a, f, label, m⟩, subs⟩ := t
      obtain ⟨r', rop, rnm, rargs, rfs, rlab, rmarks, rsubs⟩ := r
      obtain ⟨hr1, hr2, hr3, hr4, hr5, hr6, hr7, hr8⟩ := hrt
      obtain ⟨⟨k1, k2⟩, ⟨k3, k4⟩, ⟨k5, k6⟩, k7, k8⟩ := hsr
      simp only [PT.subs] at he hps
      exact ⟨rule, op, name, a, f, label, sv i, m, hci 0 _ rfl, hci 1 _ rfl, hci 2 _ rfl, hci 3 _ rfl, hci 4 _ rfl, hci 5 _ rfl, hci 6 _ rfl, hci 7 _ rfl, skM_of hr7 k5 k6, skF_of hr6 k4, skN_of k (by omega) hps hr8 k8 k7⟩
/-- spoil. -/
theorem spoil_call (A : Nat → Prop) (w : World) (t : PT) (r : RT) (sv : SL) (hA : ∀ b, A b → b < w.heap.size) (hp : IsPq (Th A w) w sv t.subs) (hr : RichT (Th A w) w t r) (hs : shortR r) : Calls Try.prog 37 #[.agg (t.arr sv)] w (RetSp A w) := by
  obtain ⟨rule, ⟨op, name, a, f, label, m⟩, subs⟩ := t
  obtain ⟨r', rop, rnm, rargs, rfs, rlab, rmarks, rsubs⟩ := r
  obtain ⟨hr1, hr2, hr3, hr4, hr5, hr6, hr7, hr8⟩ := hr
  obtain ⟨⟨k1, k2⟩, ⟨k3, k4⟩, ⟨k5, k6⟩, k7, k8⟩ := hs
  exact spoil_all A (sizeF subs) w rule op name a f label sv m hA (skM_of hr7 k5 k6) (skF_of hr6 k4) (skN_of _ (Nat.le_refl _) hp hr8 k8 k7)
end Go.Proofs.Ytfebcpmbkljaoaa
namespace Go.Proofs.Ytfebcpmbkljaoaa
open Go.RowKit Go.HR
set_option linter.unusedVariables false
set_option linter.unusedSimpArgs false
set_option linter.unusedSectionVars false
theorem subT_rich {S : Nat → Prop} {W : World} : ∀ {is : List Int} {t q : PT} {r : RT}, RichT S W t r → subT t is = some q → ∃ rq, subR r is = some rq ∧ RichT S W q rq
  | [], t, q, r, hr, h => by
    have : subT t [] = some t := by cases t; rfl
    rw [this] at h
    cases h
    exact ⟨r, subR_nil r, hr⟩
  | i :: is, .node a o s, q, .node r op nm args fs lab marks rs, hr, h => by
    have h8 := hr.2.2.2.2.2.2.2
    have hl := RichF.length h8
    rw [subT] at h
    split at h
    · rename_i hi
      split at h
      · rename_i p hp
        obtain ⟨rp, hrp⟩ : ∃ rp, rs[i.toNat]? = some rp := ⟨_, List.getElem?_eq_getElem (by omega)⟩
        obtain ⟨rq, e1, e2⟩ := subT_rich (RichF.get h8 hp hrp) h
        exact ⟨rq, by rw [subR, if_pos ⟨hi.1, by omega⟩, hrp]; exact e1, e2⟩
      · cases h
    · cases h
theorem subR_none {S : Nat → Prop} {W : World} : ∀ {is : List Int} {t : PT} {r : RT}, RichT S W t r → subT t is = none → subR r is = none
  | [], t, r, hr, h => by
    have : subT t [] = some t := by cases t; rfl
    rw [this] at h
    cases h
  | i :: is, .node a o s, .node r op nm args fs lab marks rs, hr, h => by
    have h8 := hr.2.2.2.2.2.2.2
    have hl := RichF.length h8
    rw [subR]
    split
    · rename_i hi
      obtain ⟨p, hp⟩ : ∃ p, s[i.toNat]? = some p := ⟨_, List.getElem?_eq_getElem (by omega)⟩
      obtain ⟨rp, hrp⟩ : ∃ rp, rs[i.toNat]? = some rp := ⟨_, List.getElem?_eq_getElem (by omega)⟩
      rw [subT, if_pos ⟨hi.1, by omega⟩, hp] at h
      rw [hrp]
      exact subR_none (RichF.get h8 hp hrp) h
    · rfl
theorem subR_short : ∀ {is : List Int} {r q : RT}, shortR r → subR r is = some q → shortR q
  | [], r, q, hs, h => by rw [subR_nil] at h; cases h; exact hs
  | i :: is, .node r op nm args fs lab marks rs, q, hs, h => by
    rw [subR] at h
    split at h
    · split at h
      · rename_i p hp
        exact subR_short (shortF_get hs.2.2.2.2 hp) h
      · cases h
    · cases h
/-- A part can be replaced just where there is one. -/
theorem repl_has {u : PT} : ∀ {is : List Int} {t : PT}, (replT t is u).isSome = (subT t is).isSome
  | [], t => by
    have : subT t [] = some t := by cases t; rfl
    rw [this, replT]; rfl
  | i :: is, .node a o s => by
    rw [replT, subT]
    by_cases hi : 0 ≤ i ∧ i < s.length
    · rw [if_pos hi, if_pos hi]
      cases hp : s[i.toNat]? with
      | none => rfl
      | some q =>
        simp only [Option.isSome_map]
        exact repl_has
    · rw [if_neg hi, if_neg hi]
end Go.Proofs.Ytfebcpmbkljaoaa
namespace Go.Proofs.Ytfebcpmbkljaoaa
open Go.RowKit Go.HR
set_option linter.unusedVariables false
set_option linter.unusedSimpArgs false
set_option linter.unusedSectionVars false
mutual
theorem okT_below {W W' : World} (hB : Below W.heap.size W W') : ∀ {t : PT}, okT W t → okT W' t
  | .node r o s, h => ⟨⟨h.1.1.up hB, h.1.2.1, h.1.2.2.1, h.1.2.2.2.1, fun i hi => by
      obtain ⟨q, hq, hr⟩ := h.1.2.2.2.2 i hi
      exact ⟨q, hq, hr.up hB⟩⟩, h.2.1, okF_below hB h.2.2⟩
theorem okF_below {W W' : World} (hB : Below W.heap.size W W') : ∀ {ts : List PT}, okF W ts → okF W' ts
  | [], _ => trivial
  | t :: ts, h => ⟨okT_below hB h.1, okF_below hB h.2⟩
end
structure Ent where
  B : Nat
  t : PT
  s : SL
  r : RT
/-- A box that holds a proof. -/
def Live (W : World) (x : Ent) : Prop := W.heap[x.B]? = some (.cells (x.t.arr x.s) 30 (0, 0)) ∧ IsPs W.heap.size W x.s x.t.subs ∧ RichT (fun k => k < W.heap.size) W x.t x.r
def Lv (W : World) (L : List Ent) : Prop := ∀ x ∈ L, Live W x
theorem Live.keep {W W' : World} {x : Ent} (h : Live W x) (hz : W.heap.size ≤ W'.heap.size) (hb : ∀ k, k < W.heap.size → W'.heap[k]? = W.heap[k]?) : Live W' x :=
  ⟨(hb _ (HK.blk_lt h.1)).trans h.1, (h.2.1.same hb).mono hz, RichT.turn (fun k hk => ⟨Nat.lt_of_lt_of_le hk hz, hb k hk⟩) h.2.2⟩
theorem Lv.keep {W W' : World} {L : List Ent} (h : Lv W L) (hz : W.heap.size ≤ W'.heap.size) (hb : ∀ k, k < W.heap.size → W'.heap[k]? = W.heap[k]?) : Lv W' L := fun x hx => (h x hx).keep hz hb
theorem Lv.up {W W' : World} {L : List Ent} (h : Lv W L) (hB : Below W.heap.size W W') : Lv W' L := h.keep hB.size hB.block
theorem Lv.nil (W : World) : Lv W [] := fun x hx => by cases hx
theorem Lv.cons {W : World} {x : Ent} {L : List Ent} (h : Live W x) (hl : Lv W L) : Lv W (x :: L) := fun y hy => by
  rcases List.mem_cons.1 hy with rfl | hy
  · exact h
  · exact hl y hy
theorem Lv.append {W : World} {L M : List Ent} (h : Lv W L) (hl : Lv W M) : Lv W (L ++ M) := fun y hy => by
  rcases List.mem_append.1 hy with hy | hy
  · exact h y hy
  · exact hl y hy
theorem Lv.get {W : World} {L : List Ent} (h : Lv W L) (i : Nat) {x : Ent} (hi : L[i]? = some x) : Live W x := h x (List.mem_of_getElem? hi)
theorem box_cells {W : World} {B : Nat} {t : PT} {s : SL} (h : W.heap[B]? = some (.cells (t.arr s) 30 (0, 0))) :
    W.cell? ⟨B, 0, none⟩ = some (.string t.rule) ∧ W.cell? ⟨B, 1, none⟩ = some (.int .u8 t.o.op) ∧ W.cell? ⟨B, 2, none⟩ = some (.string t.o.name) ∧ W.cell? ⟨B, 3, none⟩ = some (.slice t.o.args.a t.o.args.n t.o.args.c) ∧ W.cell? ⟨B, 4, none⟩ = some (.slice t.o.fsub.a t.o.fsub.n t.o.fsub.c) ∧ W.cell? ⟨B, 5, none⟩ = some (.int .i64 t.o.label) ∧ W.cell? ⟨B, 6, none⟩ = some (.slice s.a s.n s.c) ∧ W.cell? ⟨B, 7, none⟩ = some (.slice t.o.marks.a t.o.marks.n t.o.marks.c) :=
  ⟨HK.blk_cell h 0, HK.blk_cell h 1, HK.blk_cell h 2, HK.blk_cell h 3, HK.blk_cell h 4, HK.blk_cell h 5, HK.blk_cell h 6, HK.blk_cell h 7⟩
theorem arr_eq (t : PT) (s : SL) : t.arr s = #[.string t.rule, .int .u8 t.o.op, .string t.o.name, .slice t.o.args.a t.o.args.n t.o.args.c, .slice t.o.fsub.a t.o.fsub.n t.o.fsub.c, .int .i64 t.o.label, .slice s.a s.n s.c, .slice t.o.marks.a t.o.marks.n t.o.marks.c] := rfl
set_option maxRecDepth 100000 in
set_option maxHeartbeats 4000000 in
/-- Same at equal data. -/
theorem same_rich (w : World) (t1 t2 : PT) (r : RT) (s1 s2 : SL) (hr : shortR r) (h1 : IsPs w.heap.size w s1 t1.subs) (h2 : IsPs w.heap.size w s2 t2.subs) (k1 : RichT (fun k => k < w.heap.size) w t1 r) (k2 : RichT (fun k => k < w.heap.size) w t2 r) : Calls Try.prog 35 #[.agg (t1.arr s1), .agg (t2.arr s2)] w (RetB w (.bool true)) := by
  have hsa := fun W (hB : Below w.heap.size w W) => proof_same r hr t1 t2 W s1 s2 (h1.up hB) (h2.up hB) (k1.up hB) (k2.up hB)
  simp only [arr_eq] at hsa ⊢
  have HSA := Lib.hid hsa
  clear hsa h1 h2 k1 k2 hr
  go_enter Try.func35, Try.ntmps35
  go_wp2_with (go_at_call 53; (refine (HSA.out _ (by repeat (first | (with_reducible exact Below.refl _ _) | (with_reducible exact HBc.out) | (with_reducible exact HBb.out) | (with_reducible exact HBa.out) | (with_reducible apply bl_al) | (with_reducible apply bl_dr)))).mono ?_; rintro e w' ⟨rfl, hB'⟩; have hb := below_then (a := w) (c := w') (by repeat (first | (with_reducible exact Below.refl _ _) | (with_reducible exact HBc.out) | (with_reducible exact HBb.out) | (with_reducible exact HBa.out) | (with_reducible apply bl_al) | (with_reducible apply bl_dr))) hB'; have HBa := Lib.hid hb; clear hb hB'))
  go_ret
  exact ⟨rfl, HBa.out⟩
theorem same_live {W : World} {x y : Ent} (hx : Live W x) (hy : Live W y) (he : x.r = y.r) (hr : shortR x.r) : Calls Try.prog 35 #[.agg (x.t.arr x.s), .agg (y.t.arr y.s)] W (RetB W (.bool true)) :=
  same_rich W x.t y.t x.r x.s y.s hr hx.2.1 hy.2.1 hx.2.2 (by rw [he]; exact hy.2.2)
end Go.Proofs.Ytfebcpmbkljaoaa
