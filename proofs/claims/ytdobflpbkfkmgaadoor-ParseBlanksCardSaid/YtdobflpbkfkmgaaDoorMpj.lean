/- Parse: Pbj Pbk Pbl Pbm Pbn in one text (pmerge.py). Parse: binary (52) by what is read with less fuel. | Parse: binary (52) by what is read with less fuel. | Parse: what the parser reads is what its methods answer, by induction on the fuel. | Parse: the list of formulas (57), forms (38). | Parse: forms (38). -/
import Derived.Test.YtdobflpbkfkmgaaDoorMpg
namespace Go.Proofs.YtdobflpbkfkmgaaDoor
open Go.RowKit Go.HK Go.FR
set_option linter.unusedVariables false
set_option linter.unusedSimpArgs false
set_option linter.unusedSectionVars false
/-- Blocks from lo on, but for one. -/
def S6 (lo b6 n : Nat) (k : Nat) : Prop := SL' lo n k ∧ k ≠ b6
/-- A formula in a box. -/
structure BxF (lo b6 : Nat) (W : World) (F : Fm) (a s : SL) : Prop where
  box : W.heap[b6]? = some (.cells #[.int .u8 (F.op : Int), .string F.name, a.v, s.v] 25 (0, 0))
  ht : IsTs (S6 lo b6 W.heap.size) W a F.args
  hs : IsFs (S6 lo b6 W.heap.size) W s F.subs
  ho : F.op < 256 ∧ F.name.size ≤ maxLen
theorem BxF.turn {lo b6 B : Nat} {W W' : World} {F : Fm} {a s : SL} (h : BxF lo b6 W F a s) (hF : FJ B W W') (hB : B < lo) (h6 : b6 ≠ B) : BxF lo b6 W' F a s := by
  have hT : ∀ k, S6 lo b6 W.heap.size k → S6 lo b6 W'.heap.size k ∧ W'.heap[k]? = W.heap[k]? := fun k hk => ⟨⟨⟨hk.1.1, Nat.lt_of_lt_of_le hk.1.2 hF.size⟩, hk.2⟩, hF.block k hk.1.2 (fun e => by have := hk.1.1; omega)⟩
  exact ⟨hF.heap h.box h6, h.ht.turn hT, h.hs.turn hT, h.ho⟩
/-- Two formulas become one. -/
theorem bin_fin {lo b6 b9 lo2 : Nat} {W4 : World} {F f : Fm} {a s a2 s2 : SL} {op : Nat} (h : BxF lo b6 W4 F a s) (ht : IsTs (SL' lo2 W4.heap.size) W4 a2 f.args) (hs : IsFs (SL' lo2 W4.heap.size) W4 s2 f.subs) (ho : f.op < 256 ∧ f.name.size ≤ maxLen) (h2 : b6 < lo2 ∧ lo ≤ lo2) (h9 : b9 = W4.heap.size) (h6 : lo ≤ b6) (hop : op < 256) :
    BxF lo b6 (((((W4.alloc (Obj.cells #[.int .u8 (F.op : Int), .string F.name, a.v, s.v, .int .u8 (f.op : Int), .string f.name, a2.v, s2.v] 25)).setCell ⟨b6, 0, none⟩ (.int .u8 (op : Int))).setCell ⟨b6, 1, none⟩ (.string ⟨#[]⟩)).setCell ⟨b6, 2, none⟩ (.slice none 0 0)).setCell ⟨b6, 3, none⟩ (.slice (some ⟨b9, 0, none⟩) 2 2)) (Op2 op F f) ⟨none, 0, 0⟩ ⟨some ⟨b9, 0, none⟩, 2, 2⟩ := by
  subst h9
  have hl := HK.blk_lt h.box
  obtain ⟨W5, hW5⟩ : ∃ W5, W5 = (((((W4.alloc (Obj.cells #[.int .u8 (F.op : Int), .string F.name, a.v, s.v, .int .u8 (f.op : Int), .string f.name, a2.v, s2.v] 25)).setCell ⟨b6, 0, none⟩ (.int .u8 (op : Int))).setCell ⟨b6, 1, none⟩ (.string ⟨#[]⟩)).setCell ⟨b6, 2, none⟩ (.slice none 0 0)).setCell ⟨b6, 3, none⟩ (.slice (some ⟨W4.heap.size, 0, none⟩) 2 2)) := ⟨_, rfl⟩
  have hbl : ∀ k, k < W4.heap.size → k ≠ b6 → W5.heap[k]? = W4.heap[k]? := fun k h1 h3 => by
    rw [hW5]
    exact (Below.heap_setCell _ _ _ _ h3).trans ((Below.heap_setCell _ _ _ _ h3).trans ((Below.heap_setCell _ _ _ _ h3).trans ((Below.heap_setCell _ _ _ _ h3).trans (Below.heap_alloc _ _ _ h1))))
  have hsz : W5.heap.size = W4.heap.size + 1 := by rw [hW5]; simp
  have hn9 : W4.heap.size ≠ b6 := by omega
  have h9 : W5.heap[W4.heap.size]? = some (Obj.cells #[.int .u8 (F.op : Int), .string F.name, a.v, s.v, .int .u8 (f.op : Int), .string f.name, a2.v, s2.v] 25) := by
    rw [hW5]
    exact (Below.heap_setCell _ _ _ _ hn9).trans ((Below.heap_setCell _ _ _ _ hn9).trans ((Below.heap_setCell _ _ _ _ hn9).trans ((Below.heap_setCell _ _ _ _ hn9).trans (HK.blk_new W4 _))))
  have hbx : W5.heap[b6]? = some (.cells #[.int .u8 (op : Int), .string ⟨#[]⟩, .slice none 0 0, .slice (some ⟨W4.heap.size, 0, none⟩) 2 2] 25 (0, 0)) := by
    rw [hW5]
    exact pset4 (HK.blk_alloc h.box _) _ _ _ _
  rw [← hW5]
  have hT : ∀ k, S6 lo b6 W4.heap.size k → S6 lo b6 W5.heap.size k ∧ W5.heap[k]? = W4.heap[k]? := fun k hk => ⟨⟨⟨hk.1.1, by have := hk.1.2; omega⟩, hk.2⟩, hbl k hk.1.2 hk.2⟩
  have hT2 : ∀ k, SL' lo2 W4.heap.size k → S6 lo b6 W5.heap.size k ∧ W5.heap[k]? = W4.heap[k]? := fun k hk => by
    have h1 : k ≠ b6 := by have := hk.1; omega
    exact ⟨⟨⟨Nat.le_trans h2.2 hk.1, by have := hk.2; omega⟩, h1⟩, hbl k hk.2 h1⟩
  refine ⟨hbx, .nil _ _, ?_, hop, by show (0 : Nat) ≤ maxLen; decide⟩
  refine fs_row [(F, a, s), (f, a2, s2)] (fun i v hv => ?_) ⟨⟨by omega, by omega⟩, hn9⟩ ?_ rfl
  · rw [HK.blk_cell h9]
    rcases (by omega : i = 0 ∨ i = 1 ∨ i = 2 ∨ i = 3 ∨ i = 4 ∨ i = 5 ∨ i = 6 ∨ i = 7 ∨ 8 ≤ i) with rfl | rfl | rfl | rfl | rfl | rfl | rfl | rfl | h6
    iterate 8 exact hv
    rw [List.getElem?_eq_none (by simpa [celF, fmV] using h6)] at hv; cases hv
  · intro p hp
    simp only [List.mem_cons, List.mem_nil_iff, or_false] at hp
    rcases hp with rfl | rfl
    · exact ⟨h.ht.turn hT, h.hs.turn hT, h.ho⟩
    · exact ⟨ht.turn hT2, hs.turn hT2, ho⟩
section
variable {B g c : Nat} {ts : List Tok} {z : Nat} {m : Bool}
/-- What holds around a binary's loop. -/
structure BiI (w : World) (B g c : Nat) (ts : List Tok) (z : Nat) (m : Bool) (s i b6 : Nat) (F : Fm) (a sl : SL) (k1 : Nat) (wr : World) : Prop where
  hF : FJ B (w.alloc (Obj.cells #[.int .u8 0, .string ⟨#[]⟩, .slice none 0 0, .slice none 0 0] 25)) wr
  hP : PSt wr B g c ts z m k1 s
  b5 : wr.heap[w.heap.size + 1]? = some (.cells #[.string (lvT i), .int .u8 (lvO i : Int), .bool (lvR i)] 124 (0, 0))
  bx : BxF (w.heap.size + 2) b6 wr F a sl
theorem lvT_bys (i : Nat) : bys (lvT i) = lvS i := by unfold lvT bys; simp
theorem lvO_lt (i : Nat) : lvO i < 256 := by unfold lvO; split <;> (try split) <;> (try split) <;> (try split) <;> omega
theorem BiI.next {w : World} {s i b6 : Nat} {F : Fm} {a sl : SL} {k1 : Nat} {wr : World} (h : BiI w B g c ts z m s i b6 F a sl k1 wr) (hL : B < w.heap.size ∧ g < w.heap.size ∧ 1 < w.heap.size) (h6 : w.heap.size + 2 ≤ b6) {W4 : World} (h4 : FJ B wr W4) {k3 : Nat} (hP4 : PSt W4 B g c ts z m k3 s) {f : Fm} {a2 s2 : SL} {lo2 b9 : Nat}
    (ht : IsTs (SL' lo2 W4.heap.size) W4 a2 f.args) (hs : IsFs (SL' lo2 W4.heap.size) W4 s2 f.subs) (ho : f.op < 256 ∧ f.name.size ≤ maxLen) (hlo : b6 < lo2) (h9 : b9 = W4.heap.size) :
    BiI w B g c ts z m s i b6 (Op2 (lvO i) F f) ⟨none, 0, 0⟩ ⟨some ⟨b9, 0, none⟩, 2, 2⟩ k3 (((((W4.alloc (Obj.cells #[.int .u8 (F.op : Int), .string F.name, a.v, sl.v, .int .u8 (f.op : Int), .string f.name, a2.v, s2.v] 25)).setCell ⟨b6, 0, none⟩ (.int .u8 (lvO i : Int))).setCell ⟨b6, 1, none⟩ (.string ⟨#[]⟩)).setCell ⟨b6, 2, none⟩ (.slice none 0 0)).setCell ⟨b6, 3, none⟩ (.slice (some ⟨b9, 0, none⟩) 2 2)) := by
  have h7 : (w.alloc (Obj.cells #[.int .u8 0, .string ⟨#[]⟩, .slice none 0 0, .slice none 0 0] 25)).heap.size ≤ b6 := by simp; omega
  have n5 : w.heap.size + 1 ≠ b6 := by omega
  have n5B : w.heap.size + 1 ≠ B := by omega
  have hb := HK.blk_alloc (HK.Frm.heap h4 h.b5 n5B) (Obj.cells #[.int .u8 (F.op : Int), .string F.name, a.v, sl.v, .int .u8 (f.op : Int), .string f.name, a2.v, s2.v] 25)
  exact ⟨(((((h.hF.trans h4).alloc (Obj.cells #[.int .u8 (F.op : Int), .string F.name, a.v, sl.v, .int .u8 (f.op : Int), .string f.name, a2.v, s2.v] 25)).setCell (p := ⟨b6, 0, none⟩) (.inr h7) _).setCell (p := ⟨b6, 1, none⟩) (.inr h7) _).setCell (p := ⟨b6, 2, none⟩) (.inr h7) _).setCell (p := ⟨b6, 3, none⟩) (.inr h7) _,
    ((((hP4.alloc (Obj.cells #[.int .u8 (F.op : Int), .string F.name, a.v, sl.v, .int .u8 (f.op : Int), .string f.name, a2.v, s2.v] 25)).set hL (a := ⟨b6, 0, none⟩) (by show w.heap.size ≤ b6; omega) _).set hL (a := ⟨b6, 1, none⟩) (by show w.heap.size ≤ b6; omega) _).set hL (a := ⟨b6, 2, none⟩) (by show w.heap.size ≤ b6; omega) _).set hL (a := ⟨b6, 3, none⟩) (by show w.heap.size ≤ b6; omega) _,
    HK.blk_set_other (HK.blk_set_other (HK.blk_set_other (HK.blk_set_other hb (p := ⟨b6, 0, none⟩) n5 _) (p := ⟨b6, 1, none⟩) n5 _) (p := ⟨b6, 2, none⟩) n5 _) (p := ⟨b6, 3, none⟩) n5 _,
    bin_fin (h.bx.turn h4 (by omega) (by omega)) ht hs ho ⟨hlo, by omega⟩ h9 h6 (lvO_lt i)⟩
theorem BiI.first {w : World} {s i : Nat} {f : Fm} {a sl : SL} {k1 : Nat} {w1 : World} (hL : B < w.heap.size ∧ g < w.heap.size ∧ 1 < w.heap.size) (h1 : FJ B ((w.alloc (Obj.cells #[.int .u8 0, .string ⟨#[]⟩, .slice none 0 0, .slice none 0 0] 25)).alloc (Obj.cells #[.string (lvT i), .int .u8 (lvO i : Int), .bool (lvR i)] 124)) w1) (hP : PSt w1 B g c ts z m k1 s)
    (ht : IsTs (SL' ((w.alloc (Obj.cells #[.int .u8 0, .string ⟨#[]⟩, .slice none 0 0, .slice none 0 0] 25)).alloc (Obj.cells #[.string (lvT i), .int .u8 (lvO i : Int), .bool (lvR i)] 124)).heap.size w1.heap.size) w1 a f.args) (hs : IsFs (SL' ((w.alloc (Obj.cells #[.int .u8 0, .string ⟨#[]⟩, .slice none 0 0, .slice none 0 0] 25)).alloc (Obj.cells #[.string (lvT i), .int .u8 (lvO i : Int), .bool (lvR i)] 124)).heap.size w1.heap.size) w1 sl f.subs) (ho : f.op < 256 ∧ f.name.size ≤ maxLen) :
    BiI w B g c ts z m s i w1.heap.size f a sl k1 (w1.alloc (Obj.cells #[.int .u8 (f.op : Int), .string f.name, a.v, sl.v] 25)) := by
  have hT : ∀ k, SL' ((w.alloc (Obj.cells #[.int .u8 0, .string ⟨#[]⟩, .slice none 0 0, .slice none 0 0] 25)).alloc (Obj.cells #[.string (lvT i), .int .u8 (lvO i : Int), .bool (lvR i)] 124)).heap.size w1.heap.size k → S6 (w.heap.size + 2) w1.heap.size (w1.alloc (Obj.cells #[.int .u8 (f.op : Int), .string f.name, a.v, sl.v] 25)).heap.size k ∧ (w1.alloc (Obj.cells #[.int .u8 (f.op : Int), .string f.name, a.v, sl.v] 25)).heap[k]? = w1.heap[k]? := fun k hk => ⟨⟨⟨by have := hk.1; simp at this; omega, by have := hk.2; simp; omega⟩, by have := hk.2; omega⟩, Below.heap_alloc _ _ _ hk.2⟩
  have hb := HK.blk_new (w.alloc (Obj.cells #[.int .u8 0, .string ⟨#[]⟩, .slice none 0 0, .slice none 0 0] 25)) (Obj.cells #[.string (lvT i), .int .u8 (lvO i : Int), .bool (lvR i)] 124)
  simp only [World.size_alloc] at hb
  exact ⟨(((HK.Frm.refl _ _).alloc _).trans h1).alloc _, hP.alloc _, HK.blk_alloc (HK.Frm.heap h1 hb (by omega)) _, HK.blk_new w1 _, ht.turn hT, hs.turn hT, ho⟩
theorem BxF.fmV {lo b6 : Nat} {W : World} {F : Fm} {a s : SL} (h : BxF lo b6 W F a s) : FmV W lo F (.agg #[.int .u8 (F.op : Int), .string F.name, a.v, s.v]) :=
  ⟨a, s, rfl, h.ht.turn fun k hk => ⟨hk.1, rfl⟩, h.hs.turn fun k hk => ⟨hk.1, rfl⟩, h.ho⟩
end
end Go.Proofs.YtdobflpbkfkmgaaDoor
namespace Go.Proofs.YtdobflpbkfkmgaaDoor
open Go.RowKit Go.HK Go.FR
set_option linter.unusedVariables false
set_option linter.unusedSimpArgs false
set_option linter.unusedSectionVars false
section
variable {B g c : Nat} {ts : List Tok} {z : Nat} {m : Bool}
set_option maxRecDepth 100000 in
set_option maxHeartbeats 8000000 in
theorem binary_of {n i : Nat} (hT : TsOk ts z) (IH : Done B g c ts z m n) (hi : i ≤ 5) {k s : Nat} {x : Ot} (hr : run m ts (n + 1) (.bin i) k s = some x) (w : World) (h : PSt w B g c ts z m k s) : Calls Tryd.prog 52 #[.pointer (some ⟨B, 0, none⟩), .int .i64 (i : Int)] w (RetP w B g c ts z m s x) := by
  have HT := Lib.hid hT
  have HP0 := Lib.hid h
  have HBL : Hid (B < w.heap.size) := Lib.hid (HK.blk_lt h.pb)
  have HLT := Lib.hid h.lt
  have HHS := Lib.hid h.hs
  have hs6 : s ≤ 20000 := by have := hT.le; have := h.hk; have := h.hs; omega
  have HIN : Hid (∀ n' y q k s, k ≤ z → run m ts n' q k s = some y → inO z k (isBin q) y) := Lib.hid fun n' y q k s hk hy => run_iz hT.en n' q k s y hk hy
  unfold run at hr
  by_cases h5 : i < 5
  · rw [if_pos h5] at hr
    have e5 : ((i : Int) == 5) = false := by simp; omega
    have hi0 : (0 : Int) ≤ (i : Int) ∧ (i : Int) < 5 := by omega
    have hi1 : (i : Int) < 5 := hi0.2
    have hi2 : (0 : Int) ≤ (i : Int) := hi0.1
    obtain ⟨q0, q1, q2⟩ := (h.alloc (Obj.cells #[.int .u8 0, .string ⟨#[]⟩, .slice none 0 0, .slice none 0 0] 25)).lv i h5
    have HB1 : ∀ n' y j, n' ≤ n → run m ts n' (.bin (i + 1)) j s = some y → ∀ W, PSt W B g c ts z m j s → Calls Tryd.prog 52 #[.pointer (some ⟨B, 0, none⟩), .int .i64 ((i : Int) + 1)] W (RetP W B g c ts z m s y) := fun n' y j hn hy W hW => IH (.bin (i + 1)) _ _ _ (run_le m ts hn hy) (by omega) W hW
    have HS1 : Hid (bys (lvT i) ≠ [] ∧ ∀ j, txt ts j = lvS i → txt ts j = bys (lvT i)) := Lib.hid ⟨by rw [lvT_bys]; exact lvS_ne i, fun j hj => by rw [lvT_bys]; exact hj⟩
    have HS2 : Hid (∀ j, txt ts j ≠ lvS i → txt ts j ≠ bys (lvT i)) := Lib.hid fun j hj => by rw [lvT_bys]; exact hj
    have HOL : Hid (lvO i < 256) := Lib.hid (lvO_lt i)
    unfold RetP
    rcases thenO_some hr with ⟨o, k1, h1, h2⟩ | ⟨k1, er, h1, rfl⟩
    · have hty := run_ty _ _ _ _ _ _ _ h1
      have e := ty_fm hty
      obtain ⟨f, hf⟩ : ∃ f, f = fmO o := ⟨_, rfl⟩
      rw [← hf] at e h2
      subst e
      have HL1 := Lib.hid (HB1 n _ k (Nat.le_refl _) h1)
      unfold RetP at HL1
      have HKI := Lib.hid ((HIN.out n _ _ k s h.hk h1).2.2 rfl)
      clear h1 hty hr hf hT h
      by_cases hrt : lvR i = true
      · rw [if_pos hrt] at h2
        rw [hrt] at q2
        have HRT := Lib.hid hrt
        clear hrt HB1
        by_cases c1 : txt ts k1 = lvS i
        · rw [if_pos c1] at h2
          have C1 := Lib.hid (HS1.out.2 _ c1)
          clear c1
          obtain ⟨t, ht⟩ : ∃ t, t = s + 1 := ⟨_, rfl⟩
          have HTT := Lib.hid ht
          have hti : (t : Int) = (s : Int) + 1 := by omega
          have htn : t ≤ 20001 := by omega
          rw [← ht] at h2
          clear ht
          have HB2 : ∀ y j, run m ts n (.bin i) j t = some y → ∀ W, PSt W B g c ts z m j t → Calls Tryd.prog 52 #[.pointer (some ⟨B, 0, none⟩), .int .i64 (i : Int)] W (RetP W B g c ts z m t y) := fun y j hy W hW => IH (.bin i) _ _ _ hy (by omega) W hW
          clear IH
          rcases thenO_some h2 with ⟨o, k2, h1, h3⟩ | ⟨k2, er, h1, rfl⟩
          · have hty := run_ty _ _ _ _ _ _ _ h1
            have e := ty_fm hty
            obtain ⟨q, hq⟩ : ∃ f, f = fmO o := ⟨_, rfl⟩
            rw [← hq] at e h3
            subst e
            have HL2 := Lib.hid (HB2 _ _ h1)
            unfold RetP at HL2
            cases h3
            clear h1 hty h2 hq HB2
            go_enter Tryd.func52, Tryd.ntmps52
            go_upto_region 11 with (first
              | (go_at_call 52; ((with_reducible refine (HL1.out _ ((HP0.out.alloc _).alloc _)).mono ?_); rintro e w1 ⟨hF1, ⟨v1, rfl, hv1⟩, hP1⟩; obtain ⟨⟨ga1, gn1, gc1⟩, ⟨gs1, gm1, gd1⟩, hve, hvt, hvs, hvo⟩ := hv1; simp only [SL.v] at hve; subst hve; have HVT1 := Lib.hid (And.intro hvt (And.intro hvs hvo)); clear hvt hvs hvo; have HI : Hid (BiI w B g c ts z m s i w1.heap.size f ⟨ga1, gn1, gc1⟩ ⟨gs1, gm1, gd1⟩ k1 (w1.alloc (Obj.cells #[.int .u8 (f.op : Int), .string f.name, .slice ga1 gn1 gc1, .slice gs1 gm1 gd1] 25))) := Lib.hid (BiI.first HLT.out (by rw [HRT.out]; exact hF1) hP1 (by rw [HRT.out]; exact HVT1.out.1) (by rw [HRT.out]; exact HVT1.out.2.1) HVT1.out.2.2); have hb5 := HI.out.b5; rw [HRT.out] at hb5; have x0 := HK.blk_cell hb5 0; have x1 := HK.blk_cell hb5 1; have x2 := HK.blk_cell hb5 2; have HLO1 : Hid (w.heap.size + 2 ≤ w1.heap.size) := Lib.hid (by have h1 := hF1.size; simp at h1; omega); clear hF1 hP1 hb5))
              | (go_at_call 75; ((with_reducible refine (take_yes HT.out HI.out.hP (lvT i) C1.out HS1.out.1).mono ?_); rintro e w2 ⟨rfl, hF2, hP2⟩; have p2 := HK.blk_cell hP2.pb 2; have f2 := HK.blk_frozen hP2.pb 2; have HF2 := Lib.hid hF2; have HP2 := Lib.hid hP2; clear hF2 hP2))
              | (go_at_call 52; ((with_reducible refine (HL2.out _ (HP2.out.up HTT.out (by have := HHS.out; have := HKI.out; have := HTT.out; omega))).mono ?_); rintro e w3 ⟨hF3, ⟨v3, rfl, hv3⟩, hP3⟩; obtain ⟨⟨ga3, gn3, gc3⟩, ⟨gs3, gm3, gd3⟩, hve, hvt, hvs, hvo⟩ := hv3; simp only [SL.v] at hve; subst hve; have HVT3 := Lib.hid (And.intro hvt (And.intro hvs hvo)); clear hvt hvs hvo; have hF4 := FJ.nest (((FJ.nest HF2.out (.int .i64 ((s : Int) + 1))).trans hF3).alloc (Obj.cells #[.int .u8 (q.op : Int), .string q.name, .slice ga3 gn3 gc3, .slice gs3 gm3 gd3] 25)) (.int .i64 (s : Int)); have hq := hP3.alloc (Obj.cells #[.int .u8 (q.op : Int), .string q.name, .slice ga3 gn3 gc3, .slice gs3 gm3 gd3] 25); have p2 := HK.blk_cell hq.pb 2; have f2 := HK.blk_frozen hq.pb 2; have hP4 := hq.dn HTT.out; have h5 := HK.Frm.heap hF4 HI.out.b5 (by have h1 := HBL.out; omega); rw [HRT.out] at h5; have x1 := HK.blk_cell h5 1; have hbx := HI.out.bx.turn hF4 (by have h1 := HBL.out; omega) (by have h1 := HBL.out; have h2 := HLO1.out; omega); have y0 := HK.blk_cell hbx.box 0; have y1 := HK.blk_cell hbx.box 1; have y2 := HK.blk_cell hbx.box 2; have y3 := HK.blk_cell hbx.box 3; simp only [SL.v] at y2 y3; have hb8 := HK.blk_alloc hbx.box (Obj.cells #[.int .u8 (f.op : Int), .string f.name, .slice ga1 gn1 gc1, .slice gs1 gm1 gd1, .int .u8 (q.op : Int), .string q.name, .slice ga3 gn3 gc3, .slice gs3 gm3 gd3] 25); have u0 := HK.blk_cell hb8 0; have u1 := HK.blk_cell hb8 1; have u2 := HK.blk_cell hb8 2; have u3 := HK.blk_cell hb8 3; have uz0 := HK.blk_frozen hb8 0; have uz1 := HK.blk_frozen hb8 1; have uz2 := HK.blk_frozen hb8 2; have uz3 := HK.blk_frozen hb8 3; simp only [SL.v] at u2 u3; have h7 := HK.blk_set_other (HK.blk_new w3 (Obj.cells #[.int .u8 (q.op : Int), .string q.name, .slice ga3 gn3 gc3, .slice gs3 gm3 gd3] 25)) (p := ⟨B, 2, none⟩) (by have h1 := HBL.out; have h2 := hF3.size; have h3 := HF2.out.size; have h4 := HLO1.out; simp at h2 h3; show w3.heap.size ≠ B; omega) (.int .i64 (s : Int)); have v0 := HK.blk_cell h7 0; have v1 := HK.blk_cell h7 1; have v2 := HK.blk_cell h7 2; have v3 := HK.blk_cell h7 3; have HNX := Lib.hid (HI.out.next HLT.out HLO1.out hF4 hP4 (f := q) (a2 := ⟨ga3, gn3, gc3⟩) (s2 := ⟨gs3, gm3, gd3⟩) (lo2 := w2.heap.size) (b9 := w3.heap.size + 1) ((show IsTs (SL' w2.heap.size w3.heap.size) _ _ _ by simpa using HVT3.out.1).turn (Up.turn (lo' := w2.heap.size) (((⟨Nat.le_refl _, Nat.le_refl _, fun _ _ _ => rfl⟩ : Up w2.heap.size w2.heap.size w3 w3).alloc _).set (a := ⟨B, 2, none⟩) (by have h1 := HBL.out; have h2 := HI.out.hF.size; have h3 := HF2.out.size; simp at h2 h3; show B < w2.heap.size; omega) _))) ((show IsFs (SL' w2.heap.size w3.heap.size) _ _ _ by simpa using HVT3.out.2.1).turn (Up.turn (lo' := w2.heap.size) (((⟨Nat.le_refl _, Nat.le_refl _, fun _ _ _ => rfl⟩ : Up w2.heap.size w2.heap.size w3 w3).alloc _).set (a := ⟨B, 2, none⟩) (by have h1 := HBL.out; have h2 := HI.out.hF.size; have h3 := HF2.out.size; simp at h2 h3; show B < w2.heap.size; omega) _))) HVT3.out.2.2 (Nat.lt_of_lt_of_le (by simp) HF2.out.size) (by simp)); clear hF4 hq hP4 h5 hbx hb8 h7 hF3 hP3)))
            obtain ⟨W5, hW5⟩ : ∃ W5, W5 = (((((((w3.alloc (Obj.cells #[.int .u8 (q.op : Int), .string q.name, .slice ga3 gn3 gc3, .slice gs3 gm3 gd3] 25)).setCell ⟨B, 2, none⟩ (.int .i64 (s : Int))).alloc (Obj.cells #[.int .u8 (f.op : Int), .string f.name, .slice ga1 gn1 gc1, .slice gs1 gm1 gd1, .int .u8 (q.op : Int), .string q.name, .slice ga3 gn3 gc3, .slice gs3 gm3 gd3] 25)).setCell ⟨w1.heap.size, 0, none⟩ (.int .u8 (lvO i : Int))).setCell ⟨w1.heap.size, 1, none⟩ (.string ⟨#[]⟩)).setCell ⟨w1.heap.size, 2, none⟩ (.slice none 0 0)).setCell ⟨w1.heap.size, 3, none⟩ (.slice (some ⟨w3.heap.size + 1, 0, none⟩) 2 2)) := ⟨_, rfl⟩
            rw [← hW5]
            have hnx : BiI w B g c ts z m s i w1.heap.size (Op2 (lvO i) f q) ⟨none, 0, 0⟩ ⟨some ⟨w3.heap.size + 1, 0, none⟩, 2, 2⟩ k2 W5 := by rw [hW5]; exact HNX.out
            clear hW5 HNX
            have hbox : W5.heap[w1.heap.size]? = some (.cells #[.int .u8 (lvO i : Int), .string ⟨#[]⟩, .slice none 0 0, .slice (some ⟨w3.heap.size + 1, 0, none⟩) 2 2] 25 (0, 0)) := hnx.bx.box
            have n0 := HK.blk_cell hbox 0
            have n1 := HK.blk_cell hbox 1
            have n2 := HK.blk_cell hbox 2
            have n3 := HK.blk_cell hbox 3
            have HF3 := Lib.hid hnx.hF
            have HNX := Lib.hid hnx
            clear hnx hbox
            have hb0 := HK.Frm.heap HF3.out (HK.blk_new w _) (by have h1 := HBL.out; omega); have r0 := HK.blk_cell hb0 0; have r1 := HK.blk_cell hb0 1; have r2 := HK.blk_cell hb0 2; have r3 := HK.blk_cell hb0 3; have z0 := HK.blk_frozen hb0 0; have z1 := HK.blk_frozen hb0 1; have z2 := HK.blk_frozen hb0 2; have z3 := HK.blk_frozen hb0 3; have HB0 := Lib.hid hb0; clear hb0
            clear x0 x1 x2 y0 y1 y2 y3 u0 u1 u2 u3 uz0 uz1 uz2 uz3 v0 v1 v2 v3 p2 f2 q0 q1 q2
            go_wp2_with (fail)
            refine bodyPost_ret (results_cell_row (p := 4) (ty := 25) (by kernel_rfl) _ _ w.heap.size 25 _ (0, 0) _ rfl (pset4 HB0.out _ _ _ _) Tryd.underlying25 rfl (by kernel_rfl)) rfl ?_
            obtain ⟨q1, q2, q3⟩ := fm_end (t := Op2 (lvO i) f q) (lo := w.heap.size + 2) (((HK.Frm.refl _ w).alloc _).trans HF3.out) HNX.out.hP HLT.out ⟨⟨none, 0, 0⟩, ⟨some ⟨w3.heap.size + 1, 0, none⟩, 2, 2⟩, rfl, HNX.out.bx.ht.turn (fun k hk => ⟨hk.1, rfl⟩), HNX.out.bx.hs.turn (fun k hk => ⟨hk.1, rfl⟩), HNX.out.bx.ho⟩ (by omega) (Value.int .u8 (lvO i : Int)) (Value.string ⟨#[]⟩) (Value.slice none 0 0) (Value.slice (some ⟨w3.heap.size + 1, 0, none⟩) 2 2)
            exact ⟨q1, ⟨_, rfl, q2⟩, q3⟩
          · have HL2 := Lib.hid (HB2 _ _ h1)
            unfold RetP at HL2
            clear h1 h2 HB2
            go_enter Tryd.func52, Tryd.ntmps52
            go_wp2_with (first
              | (go_at_call 52; ((with_reducible refine (HL1.out _ ((HP0.out.alloc _).alloc _)).mono ?_); rintro e w1 ⟨hF1, ⟨v1, rfl, hv1⟩, hP1⟩; obtain ⟨⟨ga1, gn1, gc1⟩, ⟨gs1, gm1, gd1⟩, hve, hvt, hvs, hvo⟩ := hv1; simp only [SL.v] at hve; subst hve; have HVT1 := Lib.hid (And.intro hvt (And.intro hvs hvo)); clear hvt hvs hvo; have HI : Hid (BiI w B g c ts z m s i w1.heap.size f ⟨ga1, gn1, gc1⟩ ⟨gs1, gm1, gd1⟩ k1 (w1.alloc (Obj.cells #[.int .u8 (f.op : Int), .string f.name, .slice ga1 gn1 gc1, .slice gs1 gm1 gd1] 25))) := Lib.hid (BiI.first HLT.out (by rw [HRT.out]; exact hF1) hP1 (by rw [HRT.out]; exact HVT1.out.1) (by rw [HRT.out]; exact HVT1.out.2.1) HVT1.out.2.2); have hb5 := HI.out.b5; rw [HRT.out] at hb5; have x0 := HK.blk_cell hb5 0; have x1 := HK.blk_cell hb5 1; have x2 := HK.blk_cell hb5 2; have HLO1 : Hid (w.heap.size + 2 ≤ w1.heap.size) := Lib.hid (by have h1 := hF1.size; simp at h1; omega); clear hF1 hP1 hb5))
              | (go_at_call 75; ((with_reducible refine (take_yes HT.out HI.out.hP (lvT i) C1.out HS1.out.1).mono ?_); rintro e w2 ⟨rfl, hF2, hP2⟩; have p2 := HK.blk_cell hP2.pb 2; have f2 := HK.blk_frozen hP2.pb 2; have HF2 := Lib.hid hF2; have HP2 := Lib.hid hP2; clear hF2 hP2))
              | (go_at_call 52; ((with_reducible refine (HL2.out _ (HP2.out.up HTT.out (by have := HHS.out; have := HKI.out; have := HTT.out; omega))).mono ?_); rintro e w3 ⟨hF3, he⟩; unfold failE at he; subst he)))
            exact ⟨rfl, ((HK.Frm.refl _ w).alloc _).trans (HI.out.hF.trans ((FJ.nest HF2.out _).trans hF3)), by unfold failE; rfl⟩
        · rw [if_neg c1] at h2
          cases h2
          have C1 := Lib.hid (HS2.out _ c1)
          clear c1 IH
          go_enter Tryd.func52, Tryd.ntmps52
          go_wp2_with (first
            | (go_at_call 52; ((with_reducible refine (HL1.out _ ((HP0.out.alloc _).alloc _)).mono ?_); rintro e w1 ⟨hF1, ⟨v1, rfl, hv1⟩, hP1⟩; obtain ⟨⟨ga1, gn1, gc1⟩, ⟨gs1, gm1, gd1⟩, hve, hvt, hvs, hvo⟩ := hv1; simp only [SL.v] at hve; subst hve; have HVT1 := Lib.hid (And.intro hvt (And.intro hvs hvo)); clear hvt hvs hvo; have HI : Hid (BiI w B g c ts z m s i w1.heap.size f ⟨ga1, gn1, gc1⟩ ⟨gs1, gm1, gd1⟩ k1 (w1.alloc (Obj.cells #[.int .u8 (f.op : Int), .string f.name, .slice ga1 gn1 gc1, .slice gs1 gm1 gd1] 25))) := Lib.hid (BiI.first HLT.out (by rw [HRT.out]; exact hF1) hP1 (by rw [HRT.out]; exact HVT1.out.1) (by rw [HRT.out]; exact HVT1.out.2.1) HVT1.out.2.2); have hb5 := HI.out.b5; rw [HRT.out] at hb5; have x0 := HK.blk_cell hb5 0; have x1 := HK.blk_cell hb5 1; have x2 := HK.blk_cell hb5 2; have HLO1 : Hid (w.heap.size + 2 ≤ w1.heap.size) := Lib.hid (by have h1 := hF1.size; simp at h1; omega); clear hF1 hP1 hb5))
            | (go_at_call 75; ((with_reducible refine (take_no HT.out HI.out.hP (lvT i) C1.out).mono ?_); rintro e w2 ⟨rfl, hB2⟩; have hF2 := frm_below (B := B) hB2; have hbx := HI.out.bx.turn hF2 (by have h1 := HBL.out; omega) (by have h1 := HBL.out; have h2 := HLO1.out; omega); have y0 := HK.blk_cell hbx.box 0; have y1 := HK.blk_cell hbx.box 1; have y2 := HK.blk_cell hbx.box 2; have y3 := HK.blk_cell hbx.box 3; simp only [SL.v] at y2 y3; have HBX := Lib.hid hbx; have HF3 := Lib.hid (HI.out.hF.trans hF2); have HP2 := Lib.hid (HI.out.hP.below hB2); clear hB2 hF2 hbx; have hb0 := HK.Frm.heap HF3.out (HK.blk_new w _) (by have h1 := HBL.out; omega); have r0 := HK.blk_cell hb0 0; have r1 := HK.blk_cell hb0 1; have r2 := HK.blk_cell hb0 2; have r3 := HK.blk_cell hb0 3; have z0 := HK.blk_frozen hb0 0; have z1 := HK.blk_frozen hb0 1; have z2 := HK.blk_frozen hb0 2; have z3 := HK.blk_frozen hb0 3; have HB0 := Lib.hid hb0; clear hb0)))
          refine bodyPost_ret (results_cell_row (p := 4) (ty := 25) (by kernel_rfl) _ _ w.heap.size 25 _ (0, 0) _ rfl (pset4 HB0.out _ _ _ _) Tryd.underlying25 rfl (by kernel_rfl)) rfl ?_
          obtain ⟨q1, q2, q3⟩ := fm_end (t := f) (lo := w.heap.size + 2) (((HK.Frm.refl _ w).alloc _).trans HF3.out) HP2.out HLT.out HBX.out.fmV (by omega) (Value.int .u8 (f.op : Int)) (Value.string f.name) (Value.slice ga1 gn1 gc1) (Value.slice gs1 gm1 gd1)
          exact ⟨q1, ⟨_, rfl, q2⟩, q3⟩
      · rw [if_neg hrt] at h2
        have hrf : lvR i = false := by simpa using hrt
        rw [hrf] at q2
        have HRT := Lib.hid hrf
        have HB3 := Lib.hid HB1
        clear hrt hrf IH HB1
        go_enter Tryd.func52, Tryd.ntmps52
        go_upto_region 12 with (first
          | (go_at_call 52; ((with_reducible refine (HL1.out _ ((HP0.out.alloc _).alloc _)).mono ?_); rintro e w1 ⟨hF1, ⟨v1, rfl, hv1⟩, hP1⟩; obtain ⟨⟨ga1, gn1, gc1⟩, ⟨gs1, gm1, gd1⟩, hve, hvt, hvs, hvo⟩ := hv1; simp only [SL.v] at hve; subst hve; have HVT1 := Lib.hid (And.intro hvt (And.intro hvs hvo)); clear hvt hvs hvo; have HI : Hid (BiI w B g c ts z m s i w1.heap.size f ⟨ga1, gn1, gc1⟩ ⟨gs1, gm1, gd1⟩ k1 (w1.alloc (Obj.cells #[.int .u8 (f.op : Int), .string f.name, .slice ga1 gn1 gc1, .slice gs1 gm1 gd1] 25))) := Lib.hid (BiI.first HLT.out (by rw [HRT.out]; exact hF1) hP1 (by rw [HRT.out]; exact HVT1.out.1) (by rw [HRT.out]; exact HVT1.out.2.1) HVT1.out.2.2); have hb5 := HI.out.b5; rw [HRT.out] at hb5; have x0 := HK.blk_cell hb5 0; have x1 := HK.blk_cell hb5 1; have x2 := HK.blk_cell hb5 2; have HLO1 : Hid (w.heap.size + 2 ≤ w1.heap.size) := Lib.hid (by have h1 := hF1.size; simp at h1; omega); clear hF1 hP1 hb5)))
        have HLO : Hid (w.heap.size + 2 ≤ w1.heap.size) := Lib.hid HLO1.out
        have HRQ := Lib.hid h2
        clear h2 q0 q1 q2 x0 x1 x2
        go_wp2_with (fail)
        go_loopw [] (fun wr => ∃ n' F a sl k1, n' ≤ n ∧ run m ts n' (.loop i F) k1 s = some x ∧ BiI w B g c ts z m s i w1.heap.size F a sl k1 wr) (fun wr => z - atOf wr B)
        case atStart => exact ⟨n, _, _, _, k1, Nat.le_refl _, HRQ.out, HI.out⟩
        case round =>
          obtain ⟨n', F, ⟨fa, fn, fc⟩, ⟨ea, en, ec⟩, k1, hn, htl, hI⟩ := hrel
          have HJ := Lib.hid hI
          have HN := Lib.hid hn
          have x0 := HK.blk_cell hI.b5 0
          clear hI hn
          rcases n' with _ | n'
          · cases htl
          unfold run at htl
          by_cases c1 : txt ts k1 = lvS i
          · rw [if_pos c1] at htl
            have C1 := Lib.hid (HS1.out.2 _ c1)
            clear c1
            rcases thenO_some htl with ⟨o, k3, h1, h2⟩ | ⟨k3, er, h1, rfl⟩
            · have hty := run_ty _ _ _ _ _ _ _ h1
              have e := ty_fm hty
              obtain ⟨q, hq⟩ : ∃ f, f = fmO o := ⟨_, rfl⟩
              rw [← hq] at e h2
              subst e
              have HL2 := Lib.hid (HB3.out n' _ _ (by have := HN.out; omega) h1)
              unfold RetP at HL2
              have HK3 : Hid (k1 + 1 ≤ z → k1 + 1 < k3 ∧ k3 ≤ z) := Lib.hid fun hh => by have := HIN.out n' _ _ _ _ hh h1; exact ⟨this.2.2 rfl, this.2.1⟩
              have HR := Lib.hid h2
              clear h1 h2 hty htl hq
              go_wp2_with (first
                | (go_at_call 75; ((with_reducible refine (take_yes HT.out HJ.out.hP (lvT i) C1.out HS1.out.1).mono ?_); rintro e w2 ⟨rfl, hF2, hP2⟩; have HF2 := Lib.hid hF2; have HP2 := Lib.hid hP2; clear hF2 hP2))
                | (go_at_call 52; ((with_reducible refine (HL2.out _ HP2.out).mono ?_); rintro e w3 ⟨hF3, ⟨v3, rfl, hv3⟩, hP3⟩; obtain ⟨⟨ga3, gn3, gc3⟩, ⟨gs3, gm3, gd3⟩, hve, hvt, hvs, hvo⟩ := hv3; simp only [SL.v] at hve; subst hve; have HVT3 := Lib.hid (And.intro hvt (And.intro hvs hvo)); clear hvt hvs hvo; have hF4 := (HF2.out.trans hF3).alloc (Obj.cells #[.int .u8 (q.op : Int), .string q.name, .slice ga3 gn3 gc3, .slice gs3 gm3 gd3] 25); have h5 := HK.Frm.heap hF4 HJ.out.b5 (by have h1 := HBL.out; omega); have x1 := HK.blk_cell h5 1; have hbx := HJ.out.bx.turn hF4 (by have h1 := HBL.out; omega) (by have h1 := HBL.out; have h2 := HLO.out; omega); have y0 := HK.blk_cell hbx.box 0; have y1 := HK.blk_cell hbx.box 1; have y2 := HK.blk_cell hbx.box 2; have y3 := HK.blk_cell hbx.box 3; simp only [SL.v] at y2 y3; have hb8 := HK.blk_alloc hbx.box (Obj.cells #[.int .u8 (F.op : Int), .string F.name, .slice fa fn fc, .slice ea en ec, .int .u8 (q.op : Int), .string q.name, .slice ga3 gn3 gc3, .slice gs3 gm3 gd3] 25); have u0 := HK.blk_cell hb8 0; have u1 := HK.blk_cell hb8 1; have u2 := HK.blk_cell hb8 2; have u3 := HK.blk_cell hb8 3; have uz0 := HK.blk_frozen hb8 0; have uz1 := HK.blk_frozen hb8 1; have uz2 := HK.blk_frozen hb8 2; have uz3 := HK.blk_frozen hb8 3; simp only [SL.v] at u2 u3; have HNX := Lib.hid (HJ.out.next HLT.out HLO.out hF4 (hP3.alloc (Obj.cells #[.int .u8 (q.op : Int), .string q.name, .slice ga3 gn3 gc3, .slice gs3 gm3 gd3] 25)) (f := q) (a2 := ⟨ga3, gn3, gc3⟩) (s2 := ⟨gs3, gm3, gd3⟩) (lo2 := w2.heap.size) (b9 := w3.heap.size + 1) (HVT3.out.1.turn (Up.turn (lo' := w2.heap.size) ((⟨Nat.le_refl _, Nat.le_refl _, fun _ _ _ => rfl⟩ : Up w2.heap.size w2.heap.size w3 w3).alloc _))) (HVT3.out.2.1.turn (Up.turn (lo' := w2.heap.size) ((⟨Nat.le_refl _, Nat.le_refl _, fun _ _ _ => rfl⟩ : Up w2.heap.size w2.heap.size w3 w3).alloc _))) HVT3.out.2.2 (Nat.lt_of_lt_of_le (HK.blk_lt HJ.out.bx.box) HF2.out.size) (by simp)); clear hF4 h5 hbx hb8 hF3 hP3)))
              go_roundw
              case rel => exact ⟨n', Op2 (lvO i) F q, ⟨none, 0, 0⟩, ⟨some ⟨w3.heap.size + 1, 0, none⟩, 2, 2⟩, k3, by have := HN.out; omega, HR.out, HNX.out⟩
              case measure =>
                have hm := HNX.out.hP.at_
                simp only [SL.v] at hm
                rw [hm, HJ.out.hP.at_]
                have := HK3.out HP2.out.hk
                omega
            · have HL2 := Lib.hid (HB3.out n' _ _ (by have := HN.out; omega) h1)
              unfold RetP at HL2
              clear h1 htl
              go_wp2_with (first
                | (go_at_call 75; ((with_reducible refine (take_yes HT.out HJ.out.hP (lvT i) C1.out HS1.out.1).mono ?_); rintro e w2 ⟨rfl, hF2, hP2⟩; have HF2 := Lib.hid hF2; have HP2 := Lib.hid hP2; clear hF2 hP2))
                | (go_at_call 52; ((with_reducible refine (HL2.out _ HP2.out).mono ?_); rintro e w3 ⟨hF3, he⟩; unfold failE at he; subst he)))
              exact ⟨rfl, ((HK.Frm.refl _ w).alloc _).trans (HJ.out.hF.trans (HF2.out.trans hF3)), by unfold failE; rfl⟩
          · rw [if_neg c1] at htl
            cases htl
            have C1 := Lib.hid (HS2.out _ c1)
            clear c1
            go_wp2_with (first
              | (go_at_call 75; ((with_reducible refine (take_no HT.out HJ.out.hP (lvT i) C1.out).mono ?_); rintro e w2 ⟨rfl, hB2⟩; have hF2 := frm_below (B := B) hB2; have hbx := HJ.out.bx.turn hF2 (by have h1 := HBL.out; omega) (by have h1 := HBL.out; have h2 := HLO.out; omega); have y0 := HK.blk_cell hbx.box 0; have y1 := HK.blk_cell hbx.box 1; have y2 := HK.blk_cell hbx.box 2; have y3 := HK.blk_cell hbx.box 3; simp only [SL.v] at y2 y3; have HBX := Lib.hid hbx; have HF3 := Lib.hid (HJ.out.hF.trans hF2); have HP2 := Lib.hid (HJ.out.hP.below hB2); clear hB2 hF2 hbx; have hb0 := HK.Frm.heap HF3.out (HK.blk_new w _) (by have h1 := HBL.out; omega); have r0 := HK.blk_cell hb0 0; have r1 := HK.blk_cell hb0 1; have r2 := HK.blk_cell hb0 2; have r3 := HK.blk_cell hb0 3; have z0 := HK.blk_frozen hb0 0; have z1 := HK.blk_frozen hb0 1; have z2 := HK.blk_frozen hb0 2; have z3 := HK.blk_frozen hb0 3; have HB0 := Lib.hid hb0; clear hb0)))
            refine bodyPost_ret (results_cell_row (p := 4) (ty := 25) (by kernel_rfl) _ _ w.heap.size 25 _ (0, 0) _ rfl (pset4 HB0.out _ _ _ _) Tryd.underlying25 rfl (by kernel_rfl)) rfl ?_
            obtain ⟨q1, q2, q3⟩ := fm_end (t := F) (lo := w.heap.size + 2) (((HK.Frm.refl _ w).alloc _).trans HF3.out) HP2.out HLT.out HBX.out.fmV (by omega) (Value.int .u8 (F.op : Int)) (Value.string F.name) (Value.slice fa fn fc) (Value.slice ea en ec)
            exact ⟨q1, ⟨_, rfl, q2⟩, q3⟩
    · have HL1 := Lib.hid (HB1 n _ k (Nat.le_refl _) h1)
      unfold RetP at HL1
      clear h1 hr hT h IH HB1
      go_enter Tryd.func52, Tryd.ntmps52
      go_wp2_with (go_at_call 52; ((with_reducible refine (HL1.out _ ((HP0.out.alloc _).alloc _)).mono ?_); rintro e w1 ⟨hF1, he⟩; unfold failE at he; subst he))
      exact ⟨rfl, (((HK.Frm.refl _ w).alloc _).alloc _).trans hF1, by unfold failE; rfl⟩
  · obtain rfl : i = 5 := by omega
    rw [if_neg h5] at hr
    have HL : Hid (∀ W, PSt W B g c ts z m k s → Calls Tryd.prog 74 #[.pointer (some ⟨B, 0, none⟩)] W (RetP W B g c ts z m s x)) := Lib.hid fun W hW => IH _ _ _ _ hr W hW
    have hty := run_ty _ _ _ _ _ _ _ hr
    unfold RetP at HL ⊢
    clear hr IH hT h h5 hi
    simp only [show ((5 : Nat) : Int) = 5 from rfl]
    cases x with
    | ok o k2 =>
      have e := ty_fm hty
      obtain ⟨f, hf⟩ : ∃ f, f = fmO o := ⟨_, rfl⟩
      rw [← hf] at e
      subst e
      clear hf hty
      go_enter Tryd.func52, Tryd.ntmps52
      go_wp2_with (go_at_call 74; ((with_reducible refine (HL.out _ (HP0.out.alloc _)).mono ?_); rintro e w1 ⟨hF1, ⟨v1, rfl, hv1⟩, hP1⟩; obtain ⟨⟨ga1, gn1, gc1⟩, ⟨gs1, gm1, gd1⟩, hve, hvt, hvs, hvo⟩ := hv1; simp only [SL.v] at hve; subst hve; have HVT1 := Lib.hid (And.intro hvt (And.intro hvs hvo)); clear hvt hvs hvo; have HF3 := Lib.hid hF1; have HP1 := Lib.hid hP1; clear hF1 hP1; have hb0 := HK.Frm.heap HF3.out (HK.blk_new w _) (by have h1 := HBL.out; omega); have r0 := HK.blk_cell hb0 0; have r1 := HK.blk_cell hb0 1; have r2 := HK.blk_cell hb0 2; have r3 := HK.blk_cell hb0 3; have z0 := HK.blk_frozen hb0 0; have z1 := HK.blk_frozen hb0 1; have z2 := HK.blk_frozen hb0 2; have z3 := HK.blk_frozen hb0 3; have HB0 := Lib.hid hb0; clear hb0))
      refine bodyPost_ret (results_cell_row (p := 4) (ty := 25) (by kernel_rfl) _ _ w.heap.size 25 _ (0, 0) _ rfl (pset4 HB0.out _ _ _ _) Tryd.underlying25 rfl (by kernel_rfl)) rfl ?_
      obtain ⟨q1, q2, q3⟩ := fm_end (t := f) (lo := w.heap.size + 1) (((HK.Frm.refl _ w).alloc _).trans HF3.out) HP1.out HLT.out ⟨⟨ga1, gn1, gc1⟩, ⟨gs1, gm1, gd1⟩, rfl, by simpa using HVT1.out.1, by simpa using HVT1.out.2.1, HVT1.out.2.2⟩ (by omega) (Value.int .u8 (f.op : Int)) (Value.string f.name) (Value.slice ga1 gn1 gc1) (Value.slice gs1 gm1 gd1)
      exact ⟨q1, ⟨_, rfl, q2⟩, q3⟩
    | bad k2 er =>
      go_enter Tryd.func52, Tryd.ntmps52
      go_wp2_with (go_at_call 74; ((with_reducible refine (HL.out _ (HP0.out.alloc _)).mono ?_); rintro e w1 ⟨hF1, he⟩; unfold failE at he; subst he))
      exact ⟨rfl, ((HK.Frm.refl _ w).alloc _).trans hF1, by unfold failE; rfl⟩
end
end Go.Proofs.YtdobflpbkfkmgaaDoor
namespace Go.Proofs.YtdobflpbkfkmgaaDoor
open Go.RowKit Go.HK Go.FR
set_option linter.unusedVariables false
set_option linter.unusedSimpArgs false
set_option linter.unusedSectionVars false
section
variable {B g c : Nat} {ts : List Tok} {z : Nat} {m : Bool}
theorem done_all (hT : TsOk ts z) : ∀ n, Done B g c ts z m n
  | 0 => fun q k s x h => by cases h
  | n + 1 => fun q k s x h => by
    have IH : Done B g c ts z m n := done_all hT n
    cases q with
    | bin i => exact fun hi w hw => binary_of hT IH hi h w hw
    | loop i f => trivial
    | un => exact fun w hw => unary_of hT IH h w hw
    | basic => exact fun w hw => basic_of hT IH h w hw
    | args => exact fun w hw => args_of hT IH h w hw
    | list acc =>
      intro ha w hw
      subst ha
      exact list_of hT IH h w hw
    | term => exact fun w hw => term_of hT IH h w hw
/-- formula: 33. -/
theorem formula_any (hT : TsOk ts z) {n k s : Nat} {x : Ot} (hr : run m ts n (.bin 0) k s = some x) (w : World) (h : PSt w B g c ts z m k s) : Calls Tryd.prog 33 #[.pointer (some ⟨B, 0, none⟩)] w (RetP w B g c ts z m s x) := formula_of (done_all hT n) hr w h
theorem term_any (hT : TsOk ts z) {n k s : Nat} {x : Ot} (hr : run m ts n .term k s = some x) (w : World) (h : PSt w B g c ts z m k s) : Calls Tryd.prog 40 #[.pointer (some ⟨B, 0, none⟩)] w (RetP w B g c ts z m s x) := done_all hT n .term k s x hr w h
end
end Go.Proofs.YtdobflpbkfkmgaaDoor
namespace Go.Proofs.YtdobflpbkfkmgaaDoor
open Go.RowKit Go.HK Go.FR
set_option linter.unusedVariables false
set_option linter.unusedSimpArgs false
set_option linter.unusedSectionVars false
/-- What a list of formulas is read as. -/
inductive Ol where
  | ok (l : List Fm) (k : Nat)
  | bad (k : Nat) (e : Nat)
def runL (m : Bool) (ts : List Tok) (N : Nat) : Nat → List Fm → Nat → Option Ol
  | 0, _, _ => none
  | n + 1, acc, k => match run m ts N (.bin 0) k 0 with
    | none => none
    | some (.bad k2 e) => some (.bad k2 e)
    | some (.ok o k2) => if txt ts k2 = [44] then runL m ts N n (acc ++ [fmO o]) (k2 + 1) else some (.ok (acc ++ [fmO o]) k2)
def RetFs (w : World) (B g c : Nat) (ts : List Tok) (z : Nat) (m : Bool) (x : Ol) (e : Ending) (w' : World) : Prop :=
  FJ B w w' ∧ match x with
    | .ok l k' => (∃ s : SL, e = .returned s.v ∧ IsFs (SL' w.heap.size w'.heap.size) w' s l) ∧ PSt w' B g c ts z m k' 0
    | .bad k' er => e = failE ts k' er
section
variable {B g c : Nat} {ts : List Tok} {z : Nat} {m : Bool}
def tailF (m : Bool) (ts : List Tok) (N n : Nat) (acc : List Fm) (k : Nat) : Option Ol := if txt ts k = [44] then runL m ts N n acc (k + 1) else some (.ok acc k)
set_option maxRecDepth 100000 in
set_option maxHeartbeats 4000000 in
theorem flist_any (hT : TsOk ts z) {N n k : Nat} {x : Ol} (hr : runL m ts N n [] k = some x) (w : World) (h : PSt w B g c ts z m k 0) : Calls Tryd.prog 57 #[.pointer (some ⟨B, 0, none⟩), .func (.func 33) #[.pointer (some ⟨B, 0, none⟩)] #[]] w (RetFs w B g c ts z m x) := by
  have HT := Lib.hid hT
  have HP0 := Lib.hid h
  have HLT := Lib.hid h.lt
  have hIT : ∀ y k, run m ts N (.bin 0) k 0 = some y → ∀ W, PSt W B g c ts z m k 0 → Calls Tryd.prog 33 #[.pointer (some ⟨B, 0, none⟩)] W (RetP W B g c ts z m 0 y) := fun y k hy W hW => formula_any hT hy W hW
  have HIT := Lib.hid hIT
  have HIN : Hid (∀ y k, k ≤ z → run m ts N (.bin 0) k 0 = some y → inO z k true y) := Lib.hid fun y k hk hy => run_iz hT.en N (.bin 0) k 0 y hk hy
  clear hT h hIT
  rcases n with _ | n
  · cases hr
  unfold runL at hr
  unfold RetFs
  cases hy : run m ts N (.bin 0) k 0 with
  | none => rw [hy] at hr; cases hr
  | some y =>
  rw [hy] at hr
  have hty := run_ty _ _ _ _ _ _ _ hy
  have HL := Lib.hid (HIT.out _ k hy)
  have HKI := Lib.hid (HIN.out _ k HP0.out.hk hy)
  unfold RetP at HL
  cases y with
  | bad k2 er =>
    cases hr
    clear hy hty
    go_enter Tryd.func57, Tryd.ntmps57
    go_wp2_with (go_at_call 33; ((with_reducible refine (HL.out _ HP0.out).mono ?_); rintro e w2 ⟨hF2, he⟩; unfold failE at he; subst he))
    exact ⟨rfl, hF2, by unfold failE; rfl⟩
  | ok o k2 =>
    have e := ty_fm hty
    obtain ⟨l, hl⟩ : ∃ l, l = fmO o := ⟨_, rfl⟩
    simp only [] at hr
    rw [← hl] at e hr
    subst e
    have HR : Hid (tailF m ts N n [l] k2 = some x) := Lib.hid hr
    have HK2 := HKI
    clear hy hty hr hl
    go_enter Tryd.func57, Tryd.ntmps57
    go_upto_region 2 with (first
      | (go_at_call 33; ((with_reducible refine (HL.out _ HP0.out).mono ?_); rintro e w2 ⟨hF2, ⟨v2, rfl, hv2⟩, hP2⟩; obtain ⟨⟨ga, gn, gc⟩, ⟨gs, gm, gd⟩, hve, hvt, hvs, hvo⟩ := hv2; simp only [SL.v] at hve; subst hve; have HI : Hid (LsF w B g c ts z m 0 [(l, ⟨ga, gn, gc⟩, ⟨gs, gm, gd⟩)] k2 (.slice (some ⟨w2.heap.size, 0, none⟩) 1 1) (w2.alloc (.cells #[.int .u8 (l.op : Int), .string l.name, .slice ga gn gc, .slice gs gm gd] 25))) := Lib.hid (LsF.first (p := (l, ⟨ga, gn, gc⟩, ⟨gs, gm, gd⟩)) hF2 hP2 (by have := HK2.out.2.2 rfl; omega) ⟨hvt, hvs, hvo⟩); clear hF2 hP2 hvt hvs hvo)))
    go_wp2_with (fail)
    go_loopw [5] (fun v0 wr => ∃ v n' L k1, v = v0 ∧ n' ≤ n ∧ tailF m ts N n' (L.map (·.1)) k1 = some x ∧ LsF w B g c ts z m 0 L k1 v wr) (fun _ wr => z - atOf wr B)
    case atStart => exact ⟨_, n, [(l, ⟨ga, gn, gc⟩, ⟨gs, gm, gd⟩)], k2, rfl, Nat.le_refl _, HR.out, HI.out⟩
    case round =>
      obtain ⟨v, n', L, k1, rfl, hn, htl, hI⟩ := hrel
      have HI := Lib.hid hI
      have HN := Lib.hid hn
      clear hI hn
      unfold tailF at htl
      by_cases c1 : txt ts k1 = [44]
      · rw [if_pos c1] at htl
        have C1 := Lib.hid (show txt ts k1 = bys ⟨#[44]⟩ from c1)
        clear c1
        rcases n' with _ | n'
        · cases htl
        unfold runL at htl
        cases hy : run m ts N (.bin 0) (k1 + 1) 0 with
        | none => rw [hy] at htl; cases htl
        | some y =>
        rw [hy] at htl
        have hty := run_ty _ _ _ _ _ _ _ hy
        have HL := Lib.hid (HIT.out _ _ hy)
        unfold RetP at HL
        cases y with
        | bad k3 er =>
          cases htl
          clear hy hty
          go_wp2_with (first
            | (go_at_call 75; ((with_reducible refine (take_yes HT.out HI.out.hP ⟨#[44]⟩ C1.out (by decide)).mono ?_); rintro e w2 ⟨rfl, hF2, hP2⟩; have HF2 := Lib.hid hF2; have HP2 := Lib.hid hP2; clear hF2 hP2))
            | (go_at_call 33; ((with_reducible refine (HL.out _ HP2.out).mono ?_); rintro e w3 ⟨hF3, he⟩; unfold failE at he; subst he)))
          exact ⟨rfl, HI.out.hF.trans (HF2.out.trans hF3), by unfold failE; rfl⟩
        | ok o k3 =>
          have HK3 : Hid (k1 + 1 ≤ z → k1 + 1 < k3 ∧ k3 ≤ z) := Lib.hid fun hh => by have := HIN.out _ _ hh hy; exact ⟨this.2.2 rfl, this.2.1⟩
          have e := ty_fm hty
          obtain ⟨l2, hl⟩ : ∃ l, l = fmO o := ⟨_, rfl⟩
          simp only [] at htl
          rw [← hl] at e htl
          subst e
          have HR : Hid (tailF m ts N n' (L.map (·.1) ++ [l2]) k3 = some x) := Lib.hid htl
          have hL6 : L.length ≤ 20000 := by have := HI.out.le; have := HI.out.hP.hk; have := HT.out.le; omega
          obtain ⟨M, hM⟩ : ∃ M, M = L.length := ⟨_, rfl⟩
          have HNL := Lib.hid hM
          rw [← hM] at hL6
          clear hy hty htl hl hM
          go_wp2_with (first
            | (go_at_call 75; ((with_reducible refine (take_yes HT.out HI.out.hP ⟨#[44]⟩ C1.out (by decide)).mono ?_); rintro e w2 ⟨rfl, hF2, hP2⟩; have HF2 := Lib.hid hF2; have HP2 := Lib.hid hP2; clear hF2 hP2))
            | (go_at_call 33; ((with_reducible refine (HL.out _ HP2.out).mono ?_); rintro e w3 ⟨hF3, ⟨v3, rfl, hv3⟩, hP3⟩; obtain ⟨⟨ga, gn, gc⟩, ⟨gs, gm, gd⟩, hve, hvt, hvs, hvo⟩ := hv3; simp only [SL.v] at hve; subst hve; have HF3 := Lib.hid (HF2.out.trans hF3); have HP3 := Lib.hid hP3; have HVT : Hid (IsTs (SL' wr.heap.size w3.heap.size) w3 ⟨ga, gn, gc⟩ l2.args ∧ IsFs (SL' wr.heap.size w3.heap.size) w3 ⟨gs, gm, gd⟩ l2.subs ∧ l2.op < 256 ∧ l2.name.size ≤ maxLen) := Lib.hid ⟨hvt.turn fun j hj => ⟨⟨Nat.le_trans HF2.out.size hj.1, hj.2⟩, rfl⟩, hvs.turn fun j hj => ⟨⟨Nat.le_trans HF2.out.size hj.1, hj.2⟩, rfl⟩, hvo⟩; have HOW : Hid (w3.ownsRow w.heap.size 25 4 v M (celF L)) := Lib.hid (by rw [HNL.out]; exact HF3.out.owns HI.out.own fun gg hgg e => by have := (HI.out.own.lt gg hgg).1; have := HLT.out.1; omega); clear hF3 hP3 hvt hvs hvo))
            | (at_builtin
               refine wpList_app_any rfl elem23 _ _ rfl v w.heap.size M (celF L) rfl (HOW.out.alloc _) ⟨w3.heap.size, 0, none⟩ 1 1 (fmV l2 ⟨ga, gn, gc⟩ ⟨gs, gm, gd⟩) rfl rfl (fun j u hj => by rw [addr_add0, HK.blk_cell (HK.blk_new _ _), List.getElem?_toArray]; exact hj) (by intro u hu; simp [fmV, SL.v] at hu; rcases hu with rfl | rfl | rfl | rfl <;> rfl) (by simp only [maxLen]; omega) (by omega) (Nat.le_trans (Nat.le_trans HI.out.hF.size HF3.out.size) (by simp)) ?_
               intro v4 w4 hown hgrow hnil hat))
          have HNX : Hid (LsF w B g c ts z m 0 (L ++ [(l2, ⟨ga, gn, gc⟩, ⟨gs, gm, gd⟩)]) k3 v4 w4) := Lib.hid (HI.out.next HLT.out (p := (l2, ⟨ga, gn, gc⟩, ⟨gs, gm, gd⟩)) HF3.out HP3.out (by have := (HK3.out HP2.out.hk).1; omega) HVT.out (by rw [← HNL.out]; exact hown) hgrow hat)
          go_roundw
          case rel => exact ⟨_, n', _, k3, rfl, by have := HN.out; omega, by rw [List.map_append]; exact HR.out, HNX.out⟩
          case measure =>
            rw [HNX.out.hP.at_, HI.out.hP.at_]
            have := HK3.out HP2.out.hk
            omega
      · rw [if_neg c1] at htl
        cases htl
        have C1 := Lib.hid (show txt ts k1 ≠ bys ⟨#[44]⟩ from c1)
        clear c1
        go_wp2_with (go_at_call 75; ((with_reducible refine (take_no HT.out HI.out.hP ⟨#[44]⟩ C1.out).mono ?_); rintro e w2 ⟨rfl, hB2⟩))
        go_ret
        obtain ⟨sl, he, hs⟩ := HI.out.value hB2
        exact ⟨HI.out.hF.trans (frm_below hB2), ⟨sl, congrArg Ending.returned he, hs⟩, HI.out.hP.below hB2⟩
end
end Go.Proofs.YtdobflpbkfkmgaaDoor
namespace Go.Proofs.YtdobflpbkfkmgaaDoor
open Go.RowKit Go.HK Go.FR
set_option linter.unusedVariables false
set_option linter.unusedSimpArgs false
set_option linter.unusedSectionVars false
def runFs (m : Bool) (ts : List Tok) (N n k : Nat) : Option Ol := if (tkA ts k).k = 5 then some (.ok [] k) else runL m ts N n [] k
section
variable {B g c : Nat} {ts : List Tok} {z : Nat} {m : Bool}
set_option maxRecDepth 100000 in
set_option maxHeartbeats 1000000 in
theorem forms_any (hT : TsOk ts z) {N n k : Nat} {x : Ol} (hr : runFs m ts N n k = some x) (w : World) (h : PSt w B g c ts z m k 0) : Calls Tryd.prog 38 #[.pointer (some ⟨B, 0, none⟩)] w (RetFs w B g c ts z m x) := by
  have hmf : ∀ (fn : Fn) (first cap : Array Value) (w : World), (Instr.makeFunc fn first cap).run Tryd.prog w = .ok (.func fn first cap) w := fun _ _ _ _ => rfl
  have fl := fld0
  obtain ⟨kk, hkk⟩ : ∃ kk, kk = (tkA ts k).k := ⟨_, rfl⟩
  have HTOK : Hid (Calls Tryd.prog 50 #[.pointer (some ⟨B, 0, none⟩)] w fun e w' => e = .returned (.agg #[.int .u8 kk, .string (tkA ts k).t, .int .i64 ((tkA ts k).p : Int)]) ∧ Below w.heap.size w w') := Lib.hid (by rw [hkk]; exact token_any hT h)
  unfold runFs at hr
  rw [← hkk] at hr
  have HP0 := Lib.hid h
  unfold RetFs
  by_cases c5 : kk = 5
  · rw [if_pos c5] at hr
    cases hr
    subst c5
    clear hT h hkk
    go_enter Tryd.func38, Tryd.ntmps38
    go_wp2_with (go_at_call 50; ((with_reducible refine HTOK.out.mono ?_); rintro e w1 ⟨rfl, hB1⟩))
    go_ret
    exact ⟨frm_below hB1, ⟨⟨none, 0, 0⟩, rfl, .nil _ _⟩, HP0.out.below hB1⟩
  · rw [if_neg c5] at hr
    have e5 : (kk == 5) = false := by simp [c5]
    have HL : Hid (∀ W, PSt W B g c ts z m k 0 → Calls Tryd.prog 57 #[.pointer (some ⟨B, 0, none⟩), .func (.func 33) #[.pointer (some ⟨B, 0, none⟩)] #[]] W (RetFs W B g c ts z m x)) := Lib.hid fun W hW => flist_any hT hr W hW
    unfold RetFs at HL
    clear hT h hkk hr
    cases x with
    | ok l k2 =>
      go_enter Tryd.func38, Tryd.ntmps38
      go_wp2_with (first
        | (go_at_call 50; ((with_reducible refine HTOK.out.mono ?_); rintro e w1 ⟨rfl, hB1⟩; have HP1 := Lib.hid (HP0.out.below hB1); have HF1 := Lib.hid (frm_below (B := B) hB1); have HLE : Hid (w.heap.size ≤ w1.heap.size) := Lib.hid hB1.size; clear hB1))
        | (go_at_call 57; ((with_reducible refine (HL.out _ HP1.out).mono ?_); rintro e w2 ⟨hF2, ⟨⟨ga, gn, gc⟩, rfl, hs⟩, hP2⟩)))
      go_ret
      exact ⟨HF1.out.trans hF2, ⟨⟨ga, gn, gc⟩, rfl, hs.turn fun j hj => ⟨⟨Nat.le_trans HLE.out hj.1, hj.2⟩, rfl⟩⟩, hP2⟩
    | bad k2 er =>
      go_enter Tryd.func38, Tryd.ntmps38
      go_wp2_with (first
        | (go_at_call 50; ((with_reducible refine HTOK.out.mono ?_); rintro e w1 ⟨rfl, hB1⟩; have HP1 := Lib.hid (HP0.out.below hB1); have HF1 := Lib.hid (frm_below (B := B) hB1); clear hB1))
        | (go_at_call 57; ((with_reducible refine (HL.out _ HP1.out).mono ?_); rintro e w2 ⟨hF2, he⟩; unfold failE at he; subst he)))
      exact ⟨rfl, HF1.out.trans hF2, by unfold failE; rfl⟩
end
end Go.Proofs.YtdobflpbkfkmgaaDoor
