/- The walk of lead. -/
import Derived.Test.YthneinepdbkgeaaWay
import Derived.Test.YthneinepdbkgeaaPure
import Derived.Lib.Hide
namespace Go.Proofs.Ythneinepdbkgeaa
open Go.RowKit Go.HK Go.Shelf
set_option linter.unusedVariables false
set_option linter.unusedSimpArgs false
set_option linter.unusedSectionVars false
attribute [local go_sem] Oper.semAt_some

theorem Frm.below' {F : Nat → Prop} {w W W' : World} {B : Nat} (h : Frm F w W) (hb : Below B W W') (hB : w.heap.size ≤ B) : Frm F w W' :=
  ⟨hb.os.trans h.os, hb.tape.trans h.tape, hb.output.trans h.output, Nat.le_trans h.size hb.size, fun k hk hn => (hb.block k (by omega)).trans (h.block k hk hn)⟩
theorem boxed_below {W W' : World} {B b t : Nat} {v : Value} (h : Boxed W b t v) (hb : Below B W W') (hB : b < B) : Boxed W' b t v := (hb.block b hB).trans h

/-- The parents, in memory. -/
theorem upGood_of {W : World} {t g n cp m : Nat} {kv : List Value} {es : Array MapEntry} {clock : Nat} {gs : List (ByteArray × Value)} {nodes : List HN} {kf : Nat → List Nat} {xf : ByteArray → List Nat} {now : Nat} {Bn Bl : Nat} {i0 : Int}
    (hn : nodes.length = n) (hC : TreeC W t (.slice (some ⟨g, 0, none⟩) n cp) m kv es clock gs nodes kf xf now) (h1 : W.cell? ⟨Bn, 0, none⟩ = some (.int .i64 i0)) (h2 : W.cell? ⟨Bl, 0, none⟩ = some (.pointer (some ⟨t, 0, none⟩))) :
    UpGood t g n cp Bn Bl i0 (parF nodes) W := by
  subst hn
  refine ⟨h1, h2, blk_cell hC.hT 0, fun x hx => ?_⟩
  have hkl := hC.hkl
  obtain ⟨k, hk⟩ : ∃ k, kv[x]? = some k := ⟨_, List.getElem?_eq_getElem (by omega)⟩
  have hxx : nodes[x]? = some nodes[x] := List.getElem?_eq_getElem hx
  have := (hC.hN.cellAt (x * 6) (by omega)).trans (flat_get _ _ x 0 _ _ hxx hk (by omega))
  rw [this]
  simp [nodeCells, parF, hxx]

theorem isUp_upF {par : Nat → Int} {n : Nat} (hpar : ∀ x, x < n → par x < x ∧ -1 ≤ par x) : ∀ (f : Nat) (i : Int), -1 ≤ i → i < f → i < n → IsUp par i (upF par f i)
  | 0, i, h, h', _ => by simp only [upF]; exact (show i = -1 by omega)
  | f + 1, i, h, h', hn => by
    simp only [upF]
    by_cases h0 : i < 0
    · rw [if_pos h0]; exact (show i = -1 by omega)
    · rw [if_neg h0]
      have hp := hpar i.toNat (by omega)
      exact ⟨by omega, isUp_upF hpar f (par i.toNat) hp.2 (by omega) (by omega)⟩

/-- Between two rounds of lead: pre have come. -/
structure LeadI (w : World) (t g n cp m : Nat) (kv : List Value) (es : Array MapEntry) (clock : Nat) (gs : List (ByteArray × Value)) (nodes : List HN) (kf : Nat → List Nat) (xf : ByteArray → List Nat) (now i B : Nat) (pre : List Nat) (W : World) : Prop where
  hC : TreeC W t (.slice (some ⟨g, 0, none⟩) n cp) m kv es clock gs (leadL nodes (-1) pre) kf xf now
  hn : Boxed W (w.heap.size + 3) 3 (.int .i64 i)
  hl : Boxed W (w.heap.size + 2) 105 (.pointer (some ⟨t, 0, none⟩))
  hc : Boxed W (w.heap.size + 1) 3 (.int .i64 ((pre.getLast?.map (fun y : Nat => (y : Int))).getD (-1)))
  ht : Boxed W w.heap.size 105 (.pointer (some ⟨t, 0, none⟩))
  hf : Frm (· ∈ foot t m (.slice (some ⟨g, 0, none⟩) n cp) kv gs) w W
  hB : w.heap.size + 4 ≤ B
  hsz : B ≤ W.heap.size
  hlt : ∀ b ∈ foot t m (.slice (some ⟨g, 0, none⟩) n cp) kv gs, b < w.heap.size

section
variable {w : World} {t g n cp m : Nat} {kv : List Value} {es : Array MapEntry} {clock : Nat} {gs : List (ByteArray × Value)} {nodes : List HN} {kf : Nat → List Nat} {xf : ByteArray → List Nat} {now i B : Nat} {pre : List Nat} {W W' : World}
theorem LeadI.below (h : LeadI w t g n cp m kv es clock gs nodes kf xf now i B pre W) (hb : Below B W W') : LeadI w t g n cp m kv es clock gs nodes kf xf now i B pre W' where
  hC := by
    have hfW : Frm (fun b => B ≤ b) W W' := ⟨hb.os, hb.tape, hb.output, hb.size, fun k _ hk => hb.block k (by omega)⟩
    exact h.hC.stay hfW (fun b hbm hBb => by have := h.hlt b hbm; have := h.hB; omega)
  hn := boxed_below h.hn hb (by have := h.hB; omega)
  hl := boxed_below h.hl hb (by have := h.hB; omega)
  hc := boxed_below h.hc hb (by have := h.hB; omega)
  ht := boxed_below h.ht hb (by have := h.hB; omega)
  hf := Frm.below' h.hf hb (by have := h.hB; omega)
  hB := h.hB
  hsz := Nat.le_trans h.hsz hb.size
  hlt := h.hlt
theorem LeadI.ownFrom : OwnFrom B (fun (pre : List (Fin n)) W => LeadI w t g n cp m kv es clock gs nodes kf xf now i B (pre.map (·.1)) W) := by
  intro s A C row hs hg hr
  refine hs.below ((Below.refl B A).grown hg hs.hsz (fun k e => (hr k e).1))
theorem LeadI.drew (h : LeadI w t g n cp m kv es clock gs nodes kf xf now i B pre W) : LeadI w t g n cp m kv es clock gs nodes kf xf now i B pre W.drew :=
  h.below (Below.refl B W).drew
theorem Boxed.other' {b t : Nat} {v : Value} (h : Boxed W b t v) {p : Addr} (hp : b ≠ p.block) (u : Value) : Boxed (W.setCell p u) b t v := blk_set_other h hp u
theorem LeadI.glt (h : LeadI w t g n cp m kv es clock gs nodes kf xf now i B pre W) : g < w.heap.size := h.hlt g (foot_v tv_nv rfl)
theorem LeadI.next (h : LeadI w t g n cp m kv es clock gs nodes kf xf now i B pre W) {c : Int} (hc : c = (pre.getLast?.map (fun y : Nat => (y : Int))).getD (-1)) (x : Nat) (h0 : ¬ 0 ≤ c) :
    LeadI w t g n cp m kv es clock gs nodes kf xf now i B (pre ++ [x]) (W.setCell ⟨w.heap.size + 1, 0, none⟩ (.int .i64 x)) where
  hC := by
    rw [leadL_snoc, ← hc, if_neg h0]
    exact h.hC.stay (F := fun b => b = w.heap.size + 1) (Frm.setCell (F := fun b => b = w.heap.size + 1) (Frm.refl _ _) (p := ⟨w.heap.size + 1, 0, none⟩) (.inl rfl) _) (fun b hb e => by have := h.hlt b hb; omega)
  hn := Boxed.other' h.hn (by simp) _
  hl := Boxed.other' h.hl (by simp) _
  hc := by
    have := h.hc.set (.int .i64 x)
    simpa using this
  ht := Boxed.other' h.ht (by simp) _
  hf := h.hf.setCell (.inr (by simp)) _
  hB := h.hB
  hsz := by simpa using h.hsz
  hlt := h.hlt
theorem LeadI.fav (h : LeadI w t g n cp m kv es clock gs nodes kf xf now i B pre W) (hnl : nodes.length = n) {c : Int} (hc : c = (pre.getLast?.map (fun y : Nat => (y : Int))).getD (-1)) (x : Nat) (h0 : 0 ≤ c) :
    LeadI w t g n cp m kv es clock gs nodes kf xf now i B (pre ++ [x]) ((W.setCell ⟨g, x * 6 + 5, none⟩ (.int .i64 c)).setCell ⟨w.heap.size + 1, 0, none⟩ (.int .i64 x)) where
  hC := by
    have hglt := h.glt
    rw [leadL_snoc, ← hc, if_pos h0]
    have hl : (leadL nodes (-1) pre).length = n := by rw [leadL_length]; exact hnl
    have hF1 : Frm (fun b => (Value.slice (some ⟨g, 0, none⟩) n cp).ownBlock = some b) W (W.setCell ⟨g, x * 6 + 5, none⟩ (.int .i64 c)) := by
      refine Frm.setCell (Frm.refl _ W) (p := ⟨g, x * 6 + 5, none⟩) ?_ _
      exact .inl rfl
    have hN := h.hC.hN
    rw [hl] at hN
    have := h.hC.fav (i := x) (f := c) hF1 (by rw [hl]; exact (hN.stored (x * 6 + 5) _).1)
    exact this.stay (F := fun b => b = w.heap.size + 1) (Frm.setCell (F := fun b => b = w.heap.size + 1) (Frm.refl _ _) (p := ⟨w.heap.size + 1, 0, none⟩) (.inl rfl) _) (fun b hb e => by have := h.hlt b hb; omega)
  hn := Boxed.other' (Boxed.other' h.hn (by have := h.glt; simp; omega) _) (by simp) _
  hl := Boxed.other' (Boxed.other' h.hl (by have := h.glt; simp; omega) _) (by simp) _
  hc := by
    have := (Boxed.other' h.hc (p := ⟨g, x * 6 + 5, none⟩) (by have := h.glt; simp; omega) (.int .i64 c)).set (.int .i64 x)
    simpa using this
  ht := Boxed.other' (Boxed.other' h.ht (by have := h.glt; simp; omega) _) (by simp) _
  hf := (h.hf.setCell (p := ⟨g, x * 6 + 5, none⟩) (.inl (foot_v tv_nv rfl)) _).setCell (.inr (by simp)) _
  hB := h.hB
  hsz := by simpa using h.hsz
  hlt := h.hlt
theorem LeadI.good (hnl : nodes.length = n) (h : LeadI w t g n cp m kv es clock gs nodes kf xf now i B pre W) : UpGood t g n cp (w.heap.size + 3) (w.heap.size + 2) i (parF nodes) W := by
  have := upGood_of (by rw [leadL_length]; exact hnl) h.hC h.hn.cell h.hl.cell
  rw [parF_leadL] at this
  exact this
end

set_option maxRecDepth 100000 in
set_option maxHeartbeats 4000000 in
theorem lead_in (w : World) (t g n cp m : Nat) (kv : List Value) (es : Array MapEntry) (clock : Nat) (gs : List (ByteArray × Value)) (nodes : List HN) (kf : Nat → List Nat) (xf : ByteArray → List Nat) (now i : Nat)
    (hC : TreeC w t (.slice (some ⟨g, 0, none⟩) n cp) m kv es clock gs nodes kf xf now) (hnl : nodes.length = n) (hwf : WF nodes now) (hi : i < n) :
    CallsIn Fence.wide 9 Try.prog 39 #[.pointer (some ⟨t, 0, none⟩), .int .i64 i] w fun e W' => e = .returned (.tuple #[]) ∧ TreeC W' t (.slice (some ⟨g, 0, none⟩) n cp) m kv es clock gs (lead nodes i) kf xf now ∧ Frm (· ∈ foot t m (.slice (some ⟨g, 0, none⟩) n cp) kv gs) w W' := by
  have hlt := hC.lt
  have hpar : ∀ x, x < n → parF nodes x < x ∧ -1 ≤ parF nodes x := by rw [← hnl]; exact hwf.par'
  have hn : n ≤ 1000 := by rw [← hnl]; exact hwf.le
  have hxs : IsUp (parF nodes) i (upL nodes i) := isUp_upF hpar _ _ (by omega) (by omega) (by omega)
  have hmem : ∀ x ∈ upL nodes i, x < n := fun x hx => by have := upL_mem hwf (by omega) x hx; omega
  refine callsIn_of_wp_marks Try.func39 rfl trivial ?_ rfl
  simp only [Try.ntmps39, List.size_toArray, List.length_cons, List.length_nil, Nat.reduceAdd, Nat.reduceSub, Array.replicate_succ, Array.replicate_zero, List.push_toArray, List.append_toArray, List.nil_append, List.cons_append]
  gi_wp2_with (refine ⟨trivial, ?_⟩; gi_at_call 59; refine (up_in _ _ _ _).mono ?_; rintro e w' ⟨rfl, rfl⟩)
  obtain ⟨w0, hw0⟩ : ∃ w0, w0 = (((w.alloc (.cells #[.pointer (some ⟨t, 0, none⟩)] 105)).alloc (.cells #[.int .i64 (-1)] 3)).alloc (.cells #[.pointer (some ⟨t, 0, none⟩)] 105)).alloc (.cells #[.int .i64 i] 3) := ⟨_, rfl⟩
  have hsz0 : w0.heap.size = w.heap.size + 4 := by rw [hw0]; simp
  have hb0 : Below w.heap.size w w0 := by
    rw [hw0]; exact ((((Below.refl _ w).alloc (Nat.le_refl _) _).alloc (by simp) _).alloc (by simp; omega) _).alloc (by simp; omega) _
  have hI0 : LeadI w t g n cp m kv es clock gs nodes kf xf now i (w.heap.size + 4) [] w0 := {
    hC := hC.stay (F := fun b => w.heap.size ≤ b) ⟨hb0.os, hb0.tape, hb0.output, hb0.size, fun k hk _ => hb0.block k hk⟩ (fun b hb h => by have := hlt b hb; omega)
    hn := by rw [hw0]; have := Boxed.new (((w.alloc (.cells #[.pointer (some ⟨t, 0, none⟩)] 105)).alloc (.cells #[.int .i64 (-1)] 3)).alloc (.cells #[.pointer (some ⟨t, 0, none⟩)] 105)) 3 (.int .i64 i); simpa using this
    hl := by rw [hw0]; have := (Boxed.new ((w.alloc (.cells #[.pointer (some ⟨t, 0, none⟩)] 105)).alloc (.cells #[.int .i64 (-1)] 3)) 105 (.pointer (some ⟨t, 0, none⟩))).alloc (.cells #[.int .i64 i] 3); simpa using this
    hc := by rw [hw0]; have := ((Boxed.new (w.alloc (.cells #[.pointer (some ⟨t, 0, none⟩)] 105)) 3 (.int .i64 (-1))).alloc (.cells #[.pointer (some ⟨t, 0, none⟩)] 105)).alloc (.cells #[.int .i64 i] 3); simpa using this
    ht := by rw [hw0]; exact ((Boxed.new w 105 (.pointer (some ⟨t, 0, none⟩))).alloc _ |>.alloc _).alloc _
    hf := Frm.of_below hb0 _
    hB := Nat.le_refl _
    hsz := by omega
    hlt := hlt }
  have hG0 := hI0.good hnl
  rw [← hw0]
  refine wpIn_rangeFunc_ownG rfl (by omega) (gf := 64) (lb := #[.pointer (some ⟨w.heap.size + 3, 0, none⟩), .pointer (some ⟨w.heap.size + 2, 0, none⟩)]) rfl trivial (enters_of Try.func64 (by kernel_rfl) rfl)
    (up_stopsF 8 (by omega) t g n cp (w.heap.size + 3) (w.heap.size + 2) i (parF nodes) hn hpar (upL nodes i) hxs hmem _ hG0) (fun h h' hg => h' (h hg)) upKp_b (Below.refl _ _) (fun _ => rfl)
    (fun pre W => LeadI w t g n cp m kv es clock gs nodes kf xf now i (w.heap.size + 4) (pre.map (·.1)) W)
    (fun _ _ _ => False)
    (by rw [hsz0]; exact LeadI.ownFrom)
    (fun _ _ _ _ _ hs _ _ => hs)
    hI0
    (fun x => { tmps := #[.pointer (some ⟨t, 0, none⟩), .int .i64 i, .pointer (some ⟨w.heap.size, 0, none⟩), undef, .pointer (some ⟨w.heap.size + 1, 0, none⟩), .int .i64 ((x.1 : Nat) : Int), .pointer (some ⟨t, 0, none⟩), .int .i64 i, .func (.func 64) #[] #[.pointer (some ⟨w.heap.size + 3, 0, none⟩), .pointer (some ⟨w.heap.size + 2, 0, none⟩)], .int .i64 ((x.1 : Nat) : Int), undef, undef, undef, undef, undef, undef, undef, undef, undef, undef, undef], defers := [] }) ?assign ?body ?done ?stop
  case assign =>
    intro l x W K hK
    gi_wp2
    exact hK
  case body =>
    rintro l pre x W hI hpl
    have hxn := x.2
    obtain ⟨xv, hxv⟩ : ∃ xv : Nat, xv = x.1 := ⟨_, rfl⟩
    rw [← hxv] at hxn ⊢
    have hIn := hI
    obtain ⟨hC1, hn1, hl1, hc1, ht1, hf1, _, hsz1, _⟩ := hI
    obtain ⟨c, hcv⟩ : ∃ c, c = ((pre.map (·.1)).getLast?.map (fun y : Nat => (y : Int))).getD (-1) := ⟨_, rfl⟩
    rw [← hcv] at hc1
    have hcc := hc1.cell
    have hcf := hc1.frozen
    have htc := ht1.cell
    have hT0 : W.cell? ⟨t, 0, none⟩ = some (.slice (some ⟨g, 0, none⟩) n cp) := blk_cell hC1.hT 0
    have b0 : (0 : Int) ≤ (xv : Int) := by omega
    have b1 : (xv : Int) < (n : Int) := by omega
    have HC := Lib.hid hcv
    clear hcv
    have HX := Lib.hid hxv
    clear hxv
    have HW := Lib.hid hw0
    clear hw0
    have HS := Lib.hid hsz0
    clear hsz0
    have HN := Lib.hid hnl
    clear hnl
    have hmix : Try.prog.follows .mixedOrders = true := by kernel_rfl
    by_cases h0 : 0 ≤ c
    · have hlN : (leadL nodes (-1) (pre.map (·.1))).length = n := by rw [leadL_length]; exact HN.out
      have hNr := hC1.hN
      have hkl1 := hC1.hkl
      obtain ⟨kq, hkq⟩ : ∃ kq, kv[xv]? = some kq := ⟨_, List.getElem?_eq_getElem (by omega)⟩
      obtain ⟨yq, hyq⟩ : ∃ yq, (leadL nodes (-1) (pre.map (·.1)))[xv]? = some yq := ⟨_, List.getElem?_eq_getElem (by omega)⟩
      rw [hlN] at hNr
      have hfg : W.cell? ⟨g, xv * 6 + 5, none⟩ = some (.int .i64 yq.fav) := (hNr.cellAt _ (by omega)).trans (flat_get _ _ _ _ _ _ hyq hkq (by omega))
      have hff : W.frozen? ⟨g, xv * 6 + 5, none⟩ = false := hNr.frozenAt _
      have hglt := hIn.glt
      have hc2 : ∀ v, (W.setCell ⟨g, xv * 6 + 5, none⟩ v).cell? ⟨w.heap.size + 1, 0, none⟩ = some (.int .i64 c) := fun v => (Boxed.other' hc1 (by simp; omega) v).cell
      have hf2 : ∀ v, (W.setCell ⟨g, xv * 6 + 5, none⟩ v).frozen? ⟨w.heap.size + 1, 0, none⟩ = false := fun v => (Boxed.other' hc1 (by simp; omega) v).frozen
      have hI2 := (hIn.fav HN.out HC.out xv h0).drew
      clear hkq hyq hlN hkl1 hNr
      have HI2 := Lib.hid hI2
      clear hI2
      gi_wp2
      gi_region_with_o (fail)
      all_goals (
        gi_wp2
        refine ⟨?_, fun _ => HI2.out.good HN.out, ?_⟩
        · refine KeepsOthers.from (KeepsOthers.trans (KeepsOthers.trans (KeepsOthers.setCell W _ _) (KeepsOthers.setCell _ _ _)) (KeepsOthers.drew _)) _
        · show LeadI _ _ _ _ _ _ _ _ _ _ _ _ _ _ _ _ _ _
          rw [List.map_append, List.map_cons, List.map_nil, ← HX.out]
          exact HI2.out)
    · have hI2 := hIn.next HC.out xv h0
      have HI2 := Lib.hid hI2
      clear hI2
      gi_wp2
      refine ⟨(KeepsOthers.setCell W _ _).from _, fun _ => HI2.out.good HN.out, ?_⟩
      show LeadI _ _ _ _ _ _ _ _ _ _ _ _ _ _ _ _ _ _
      rw [List.map_append, List.map_cons, List.map_nil, ← HX.out]
      exact HI2.out
  case done =>
    rintro D ys W hD hys hI hK
    have hys' : ys.map (·.1) = upL nodes i := hys
    rw [hys'] at hI
    gi_wp2
    refine ⟨by simp, .inl ⟨_, _, rfl, run_takeDeferred hK, ?_⟩⟩
    have hI' := hI.below (W' := W.putObj D (.deferred none)) ((Below.refl _ W).grown (grownBy_putObj' _ D _) hI.hsz (fun k e => by cases e; omega))
    exact ⟨_, results_none rfl _ _ _, rfl, hI'.hC, hI'.hf⟩
  case stop =>
    rintro D c pre W _ _ h _
    exact h.elim
end Go.Proofs.Ythneinepdbkgeaa
