/- The walks of slices.AppendSeq, Collect, Reverse, Clone, and way. -/
import Derived.Test.YthneinepdbkgeaaUp
import Derived.Maps.AppendAt
namespace Go.Proofs.Ythneinepdbkgeaa
open Go.RowKit Go.HK Go.Shelf
set_option linter.unusedVariables false
set_option linter.unusedSimpArgs false
set_option linter.unusedSectionVars false
attribute [local go_sem] Oper.semAt_some

theorem infoI : (Try.prog.info? 3).map (fun i => (i.zero, i.size, i.bytes)) = some (some (.int .i64 0), 1, 8) := by kernel_rfl

theorem upGood_below {t g n cp Bn Bl : Nat} {i0 : Int} {par : Nat → Int} {W W' : World} {B : Nat} (hG : UpGood t g n cp Bn Bl i0 par W) (hb : Below B W W') (h1 : Bn < B) (h2 : Bl < B) (h3 : t < B) (h4 : g < B) : UpGood t g n cp Bn Bl i0 par W' :=
  ⟨(hb.cell (p := ⟨Bn, 0, none⟩) h1).trans hG.1, (hb.cell (p := ⟨Bl, 0, none⟩) h2).trans hG.2.1, (hb.cell (p := ⟨t, 0, none⟩) h3).trans hG.2.2.1, fun x hx => (hb.cell (p := ⟨g, x * 6, none⟩) h4).trans (hG.2.2.2 x hx)⟩
theorem cell_putObj' {W : World} {l : Nat} {o o' : Obj} {a : Addr} {v : Value} (h : W.heap[l]? = some o) (ho : o.isCells = false) (hc : W.cell? a = some v) : (W.putObj l o').cell? a = some v := by
  rw [cell_putObj]
  · exact hc
  · rintro e
    unfold World.cell? at hc
    rw [e, h] at hc
    cases o <;> simp [Obj.isCells] at ho hc
theorem upKp_b {t g n cp Bn Bl : Nat} {i0 : Int} {par : Nat → Int} {w : World} (W : World) (l : Nat) (o o' : Obj) (_ : w.heap.size ≤ l) (h : W.heap[l]? = some o) (ho : o.isCells = false) (_ : o.isWalk = false) : upKp t g n cp Bn Bl i0 par W (W.putObj l o') :=
  fun hG => ⟨cell_putObj' h ho hG.1, cell_putObj' h ho hG.2.1, cell_putObj' h ho hG.2.2.1, fun x hx => cell_putObj' h ho (hG.2.2.2 x hx)⟩

set_option maxRecDepth 100000 in
set_option maxHeartbeats 2000000 in
theorem appendSeq_in (k : Nat) (hk : 3 ≤ k) (t g n cp Bn Bl : Nat) (i0 : Int) (par : Nat → Int) (hn : n ≤ 1000) (hpar : ∀ x, x < n → par x < x ∧ -1 ≤ par x) (xs : List Nat) (hxs : IsUp par i0 xs) (hlt : ∀ x ∈ xs, x < n) (hlen : xs.length ≤ 1000) (w : World) (hG : UpGood t g n cp Bn Bl i0 par w) (hn0 : 0 < n) :
    CallsIn Fence.wide k Try.prog 65 #[.slice none 0 0, .func (.func 64) #[] #[.pointer (some ⟨Bn, 0, none⟩), .pointer (some ⟨Bl, 0, none⟩)]] w fun e W' =>
      ∃ v, e = .returned v ∧ W'.ownsRow w.heap.size 3 1 v xs.length (ints xs) ∧ Below w.heap.size w W' := by
  have h1 : 1 ≤ k := by omega
  have l1 := World.block_lt_of_cell? w _ hG.1
  have l2 := World.block_lt_of_cell? w _ hG.2.1
  have l3 := World.block_lt_of_cell? w _ hG.2.2.1
  have l4 := World.block_lt_of_cell? w _ (hG.2.2.2 0 hn0)
  simp only at l1 l2 l3 l4
  obtain ⟨i0', hi, hz0, hz1, hz2⟩ := info_parts infoI
  refine callsIn_of_wp_marks Try.func65 rfl trivial ?_ rfl
  simp only [Try.ntmps65, List.size_toArray, List.length_cons, List.length_nil, Nat.reduceAdd, Nat.reduceSub, Array.replicate_succ, Array.replicate_zero, List.push_toArray, List.append_toArray, List.nil_append, List.cons_append]
  gi_wp2
  have bO := Boxed.new w 25 (.slice none 0 0)
  have hB0 : Below w.heap.size w (w.alloc (.cells #[.slice none 0 0] 25)) := (Below.refl _ w).alloc (Nat.le_refl _) _
  refine wpIn_rangeFunc_ownG rfl h1 (gf := 64) (lb := #[.pointer (some ⟨Bn, 0, none⟩), .pointer (some ⟨Bl, 0, none⟩)]) rfl trivial (enters_of Try.func64 (by kernel_rfl) rfl)
    (up_stops (k - 1) (by omega) t g n cp Bn Bl i0 par hn hpar xs hxs hlt _ (upGood_below hG hB0 l1 l2 l3 l4)) (fun h h' hg => h' (h hg)) upKp_b (Below.refl _ _) (fun _ => rfl)
    (fun pre W => (∃ v, Boxed W w.heap.size 25 v ∧ W.ownsRow w.heap.size 3 1 v pre.length (ints pre) ∧ True) ∧ Below w.heap.size w W)
    (fun _ _ _ => False)
    (OwnFrom.and (Own.from (holdsRow_own w.heap.size w.heap.size 25 3 1 (fun pre => pre.length) (fun pre => ints pre) (fun _ _ => True)) _) (ownFrom_below (Nat.le_refl _) (by simp)))
    (fun _ _ _ _ _ hs _ _ => hs)
    ⟨⟨_, bO, World.ownsRow_nil _ _ _ _, trivial⟩, hB0⟩
    (fun x => { tmps := #[.slice none 0 0, .func (.func 64) #[] #[.pointer (some ⟨Bn, 0, none⟩), .pointer (some ⟨Bl, 0, none⟩)], .pointer (some ⟨w.heap.size, 0, none⟩), undef, .slice none 0 0, .int .i64 ((x : Nat) : Int), .func (.func 64) #[] #[.pointer (some ⟨Bn, 0, none⟩), .pointer (some ⟨Bl, 0, none⟩)], .int .i64 ((x : Nat) : Int), undef, undef, undef, undef, undef], defers := [] }) ?assign ?body ?done ?stop
  case assign =>
    intro l x W K hK
    gi_wp2
    exact hK
  case body =>
    rintro l pre x W ⟨⟨v, hv, hrow, _⟩, hB⟩ hlt
    have hc := hv.cell
    gi_wp2_with (gi_at_builtin; refine wpListIn_append_own _ rfl _ _ 25 rfl w.heap.size 3 i0' (.int .i64 0) 1 8 Try.underlying25 hi hz0 hz1 hz2 rfl (by decide) _ _ _ rfl (hrow.alloc _) ⟨W.heap.size, 0, none⟩ 1 1 [.int .i64 ((x : Nat) : Int)] rfl rfl (cell_one_new _ _ _) (by simp [Value.oneCell']) (by simp only [maxLen]; omega) (by omega) (by have := hB.size; simp; omega) ?_; intro v' w1 hown' hgrow _; obtain ⟨g', cap', rfl⟩ := ownsRow_succ hown'; obtain ⟨hv1, hv2, hr2, hk2, hb2⟩ := hv.appended (by decide) hrow hB.size (Nat.le_refl _) hown' hgrow; have hc1 := hv1.cell; have hf1 := hv1.frozen)
    exact ⟨hk2.from _, fun hg => upGood_below hg hb2 l1 l2 l3 l4, ⟨_, hv2, by rw [ints_append, List.length_append]; exact hr2, trivial⟩, hB.trans hb2⟩
  case done =>
    rintro D ys W hD rfl ⟨⟨v, hv, hrow, _⟩, hB⟩ hK
    have hc := hv.cell
    gi_wp2
    refine ⟨by simp, .inl ⟨_, _, rfl, run_takeDeferred hK, ?_⟩⟩
    exact ⟨_, results_tmp rfl _ _ _, v, rfl, ownsRow_putObj hrow _ hK rfl, hB.trans (belowK_b (w := w) (Nat.le_refl _) W D _ _ (by simp at hD; omega) hK rfl rfl)⟩
  case stop =>
    rintro D c pre W _ _ h _
    exact h.elim
end Go.Proofs.Ythneinepdbkgeaa
