/- The reference's has (50), Children (54), Find (53), Favourite (58). -/
import Derived.Test.YthneinepdbkgeaaRefa
import Derived.StillTailTactics
namespace Go.Proofs.Ythneinepdbkgeaa
open Go.RowKit Go.HK
set_option linter.unusedVariables false
set_option linter.unusedSimpArgs false
set_option linter.unusedSectionVars false
/-- A tree of the reference, as a value. -/
abbrev rv (ge nl ce : Nat) (nw : Int) (ga : Option Addr) (gn gc : Nat) : Value := .agg #[.slice (some ⟨ge, 0, none⟩) nl ce, .int .i64 nw, .slice ga gn gc]
def RetBo9 (w : World) (b : Bool) (e : Ending) (w' : World) : Prop := e = .returned (.bool b) ∧ Below w.heap.size w w'
set_option maxRecDepth 100000 in
set_option maxHeartbeats 2000000 in
theorem rhas_any (w : World) (ea : Option Addr) (nl ce : Nat) (nw : Int) (ga : Option Addr) (gn gc : Nat) (n : Int) : Calls Try.prog 50 #[.agg #[.slice ea nl ce, .int .i64 nw, .slice ga gn gc], .int .i64 n] w (RetBo9 w (decide (0 ≤ n ∧ n < nl))) := by
  by_cases h0 : 0 ≤ n
  · by_cases h1 : n < nl
    · rw [decide_eq_true (by exact ⟨h0, h1⟩)]
      go_enter Try.func50, Try.ntmps50
      go_wp2_with (fail)
      go_ret
      exact ⟨by simp [h1], (Below.refl _ w).alloc (Nat.le_refl _) _⟩
    · rw [decide_eq_false (by omega)]
      go_enter Try.func50, Try.ntmps50
      go_wp2_with (fail)
      go_ret
      exact ⟨by simp [h1], (Below.refl _ w).alloc (Nat.le_refl _) _⟩
  · rw [decide_eq_false (by omega)]
    go_enter Try.func50, Try.ntmps50
    go_wp2_with (fail)
    go_ret
    exact ⟨rfl, (Below.refl _ w).alloc (Nat.le_refl _) _⟩
theorem info3' : (Try.prog.info? 3).map (fun i => (i.zero, i.size, i.bytes)) = some (some (.int .i64 0), 1, 8) := by kernel_rfl
theorem filt_more {p : Nat → Bool} {k : Nat} : (List.range (k + 1)).filter p = (List.range k).filter p ++ (if p k then [k] else []) := by
  rw [List.range_succ, List.filter_append]
  congr 1
  simp [List.filter]
  cases p k <;> rfl
theorem filt_len (p : Nat → Bool) (k : Nat) : ((List.range k).filter p).length ≤ k := by
  have := List.length_filter_le p (List.range k)
  simpa using this
set_option maxRecDepth 100000 in
set_option maxHeartbeats 4000000 in
theorem rkids_any {nodes : List Go.HK.HN} (hle : nodes.length ≤ 1000) (w : World) (ge ce gn gc : Nat) (ga : Option Addr) (nw : Int) (n : Nat) (he : EntsAt w ge (ents nodes)) : Calls Try.prog 54 #[rv ge nodes.length ce nw ga gn gc, .int .i64 n] w (RetS w (kidsOf nodes n)) := by
  obtain ⟨p, hp⟩ : ∃ p : Nat → Bool, p = fun j => decide (parF nodes j = (n : Int)) := ⟨_, rfl⟩
  have hk : kidsOf nodes n = (List.range nodes.length).filter p := by rw [hp]; rfl
  rw [hk]
  obtain ⟨nl, hnl⟩ : ∃ nl, nl = nodes.length := ⟨_, rfl⟩
  obtain ⟨G, hG⟩ : ∃ G, G = w.heap.size := ⟨_, rfl⟩
  obtain ⟨w1, hw1⟩ : ∃ w1, w1 = w.alloc (.cells #[.slice (some ⟨ge, 0, none⟩) nl ce, .int .i64 nw, .slice ga gn gc] 63) := ⟨_, rfl⟩
  have hB1 : Below w.heap.size w w1 := by rw [hw1]; exact (Below.refl _ w).alloc (Nat.le_refl _) _
  have hX1 : w1.heap[G]? = some (.cells #[.slice (some ⟨ge, 0, none⟩) nl ce, .int .i64 nw, .slice ga gn gc] 63 (0, 0)) := by rw [hw1, hG]; exact HK.blk_new _ _
  have he1 : EntsAt w1 ge (ents nodes) := he.below hB1 (Nat.le_refl _)
  rw [← hnl] at hle ⊢
  have HX1 := Lib.hid hX1
  have HE1 := Lib.hid he1
  have HB1 := Lib.hid hB1
  have HW1 := Lib.hid hw1
  have HG := Lib.hid hG
  have HNL := Lib.hid hnl
  have HP := Lib.hid hp
  have x0 : w1.cell? ⟨G, 0, none⟩ = some (.slice (some ⟨ge, 0, none⟩) nl ce) := HK.blk_cell hX1 0
  clear hX1 he1 hB1 hw1 hG hnl hp he hk
  go_enter Try.func54, Try.ntmps54
  go_upto_block 0 with (fail)
  rw [← HW1.out, ← HG.out]
  go_wp2_with (fail)
  go_loopw [5, 6] (fun v i wr => ∃ k : Nat, k ≤ nl ∧ i = .int .i64 k ∧ wr.ownsRow w1.heap.size 3 1 v ((List.range k).filter p).length (ints ((List.range k).filter p)) ∧ Below w1.heap.size w1 wr) (fun _ i _ => nl - (intOf i).toNat)
  case atStart => exact ⟨0, Nat.zero_le _, rfl, World.ownsRow_nil _ _ _ _, Below.refl _ _⟩
  case round =>
    obtain ⟨k, hkn, rfl, hrow, hB⟩ := hrel
    have x0 : wr.cell? ⟨G, 0, none⟩ = some (.slice (some ⟨ge, 0, none⟩) nl ce) := HK.blk_cell (blk_up9 hB HX1.out) 0
    have hml := filt_len p k
    obtain ⟨m, hm⟩ : ∃ m, m = ((List.range k).filter p).length := ⟨_, rfl⟩
    rw [← hm] at hrow hml
    have HM := Lib.hid hm
    have HROW := Lib.hid hrow
    have HB := Lib.hid hB
    clear hm hrow hB
    by_cases hlt : k < nl
    · obtain ⟨xk, hxk⟩ : ∃ xk, (ents nodes)[k]? = some xk := ⟨_, List.getElem?_eq_getElem (by rw [ents_len, ← HNL.out]; exact hlt)⟩
      have c0 := ((HE1.out.below HB.out (Nat.le_refl _)).c k xk hxk).1
      have hpk : p k = decide (xk.par = (n : Int)) := by rw [HP.out]; simp only; rw [parF_ents, hxk]; rfl
      obtain ⟨par, hpar⟩ : ∃ par, par = xk.par := ⟨_, rfl⟩
      rw [← hpar] at c0 hpk
      have HPK := Lib.hid hpk
      have b0 : (0 : Int) ≤ (k : Int) := by omega
      have b1 : (k : Int) < (nl : Int) := by omega
      have hmo := @filt_more p k
      have HMO := Lib.hid hmo
      clear hpk hxk hpar hmo
      by_cases hq : par = (n : Int)
      · have hq2 : (par == (n : Int)) = true := by simp [hq]
        have HQ := Lib.hid hq
        clear hq
        go_wp2_with (
          at_builtin
          refine wpList_app1 rfl elem25 _ _ rfl _ m (ints ((List.range k).filter p)) rfl (own_mono0 (HROW.out.alloc _)) wr.heap.size 1 #[.int .i64 (k : Int)] rfl (HK.blk_new wr _) rfl (by simp [Value.oneCell']) (by simp only [maxLen]; omega) (by omega) ?_
          intro g c w' hown2 hgrow hat hlt2)
        go_roundw
        case rel =>
          have hz := HB.out.size
          have hb2 : Below w1.heap.size w1 w' := (HB.out.alloc hz _).grown hgrow (by simp; omega) (fun k hk => own_ge HROW.out k hk)
          have hg1 : w1.heap.size ≤ g := by
            rcases hat with h | h
            · exact own_ge HROW.out _ h
            · simp at h; omega
          refine ⟨k + 1, by omega, by go_num, ?_, hb2⟩
          rw [HMO.out, HPK.out, HQ.out, decide_eq_true rfl, if_pos rfl, List.length_append, List.length_singleton, ← HM.out, ints_append]
          exact own_base9 hown2 hg1
        case measure => simp [intOf]; omega
      · have hq2 : (par == (n : Int)) = false := by simp [hq]
        have HQ := Lib.hid hq
        clear hq
        go_wp2_with (fail)
        go_roundw
        case rel =>
          refine ⟨k + 1, by omega, by go_num, ?_, HB.out⟩
          rw [HMO.out, HPK.out, decide_eq_false HQ.out]
          simp only [Bool.false_eq_true, if_false, List.append_nil]
          rw [← HM.out]
          exact HROW.out
        case measure => simp [intOf]; omega
    · obtain rfl : k = nl := by omega
      have b1 : ¬ ((k : Int) < (k : Int)) := by omega
      go_wp2_with (fail)
      go_ret
      have hz := HB1.out.size
      refine ⟨_, rfl, ?_, HB1.out.trans (HB.out.mono hz)⟩
      rw [← HM.out]
      exact own_mono9 HROW.out hz
set_option maxRecDepth 100000 in
set_option maxHeartbeats 4000000 in
theorem rfind_any {nodes : List Go.HK.HN} (hle : nodes.length ≤ 1000) (w : World) (ge ce gn gc : Nat) (ga : Option Addr) (nw : Int) (s : ByteArray) (he : EntsAt w ge (ents nodes)) : Calls Try.prog 53 #[rv ge nodes.length ce nw ga gn gc, .string s] w (RetS w (idxOf nodes s)) := by
  obtain ⟨p, hp⟩ : ∃ p : Nat → Bool, p = fun j => decide (stateF nodes j = s) := ⟨_, rfl⟩
  have hk : idxOf nodes s = (List.range nodes.length).filter p := by rw [hp]; rfl
  rw [hk]
  obtain ⟨nl, hnl⟩ : ∃ nl, nl = nodes.length := ⟨_, rfl⟩
  obtain ⟨G, hG⟩ : ∃ G, G = w.heap.size := ⟨_, rfl⟩
  obtain ⟨w1, hw1⟩ : ∃ w1, w1 = w.alloc (.cells #[.slice (some ⟨ge, 0, none⟩) nl ce, .int .i64 nw, .slice ga gn gc] 63) := ⟨_, rfl⟩
  have hB1 : Below w.heap.size w w1 := by rw [hw1]; exact (Below.refl _ w).alloc (Nat.le_refl _) _
  have hX1 : w1.heap[G]? = some (.cells #[.slice (some ⟨ge, 0, none⟩) nl ce, .int .i64 nw, .slice ga gn gc] 63 (0, 0)) := by rw [hw1, hG]; exact HK.blk_new _ _
  have he1 : EntsAt w1 ge (ents nodes) := he.below hB1 (Nat.le_refl _)
  rw [← hnl] at hle ⊢
  have HX1 := Lib.hid hX1
  have HE1 := Lib.hid he1
  have HB1 := Lib.hid hB1
  have HW1 := Lib.hid hw1
  have HG := Lib.hid hG
  have HNL := Lib.hid hnl
  have HP := Lib.hid hp
  have x0 : w1.cell? ⟨G, 0, none⟩ = some (.slice (some ⟨ge, 0, none⟩) nl ce) := HK.blk_cell hX1 0
  clear hX1 he1 hB1 hw1 hG hnl hp he hk
  go_enter Try.func53, Try.ntmps53
  go_upto_block 0 with (fail)
  rw [← HW1.out, ← HG.out]
  go_wp2_with (fail)
  go_loopw [5, 6] (fun v i wr => ∃ k : Nat, k ≤ nl ∧ i = .int .i64 k ∧ wr.ownsRow w1.heap.size 3 1 v ((List.range k).filter p).length (ints ((List.range k).filter p)) ∧ Below w1.heap.size w1 wr) (fun _ i _ => nl - (intOf i).toNat)
  case atStart => exact ⟨0, Nat.zero_le _, rfl, World.ownsRow_nil _ _ _ _, Below.refl _ _⟩
  case round =>
    obtain ⟨k, hkn, rfl, hrow, hB⟩ := hrel
    have x0 : wr.cell? ⟨G, 0, none⟩ = some (.slice (some ⟨ge, 0, none⟩) nl ce) := HK.blk_cell (blk_up9 hB HX1.out) 0
    have hml := filt_len p k
    obtain ⟨m, hm⟩ : ∃ m, m = ((List.range k).filter p).length := ⟨_, rfl⟩
    rw [← hm] at hrow hml
    have HM := Lib.hid hm
    have HROW := Lib.hid hrow
    have HB := Lib.hid hB
    clear hm hrow hB
    by_cases hlt : k < nl
    · obtain ⟨xk, hxk⟩ : ∃ xk, (ents nodes)[k]? = some xk := ⟨_, List.getElem?_eq_getElem (by rw [ents_len, ← HNL.out]; exact hlt)⟩
      have c0 := ((HE1.out.below HB.out (Nat.le_refl _)).c k xk hxk).2.2.2
      have hpk : p k = decide (xk.state = s) := by rw [HP.out]; simp only; rw [stateF_ents, hxk]; rfl
      obtain ⟨par, hpar⟩ : ∃ par, par = xk.state := ⟨_, rfl⟩
      rw [← hpar] at c0 hpk
      have HPK := Lib.hid hpk
      have b0 : (0 : Int) ≤ (k : Int) := by omega
      have b1 : (k : Int) < (nl : Int) := by omega
      have hmo := @filt_more p k
      have HMO := Lib.hid hmo
      clear hpk hxk hpar hmo
      by_cases hq : par = s
      · have hq2 : (par.toList == s.toList) = true := by rw [hq]; exact bytes_eq s
        have HQ := Lib.hid hq
        clear hq
        go_wp2_with (
          at_builtin
          refine wpList_app1 rfl elem25 _ _ rfl _ m (ints ((List.range k).filter p)) rfl (own_mono0 (HROW.out.alloc _)) wr.heap.size 1 #[.int .i64 (k : Int)] rfl (HK.blk_new wr _) rfl (by simp [Value.oneCell']) (by simp only [maxLen]; omega) (by omega) ?_
          intro g c w' hown2 hgrow hat hlt2)
        go_roundw
        case rel =>
          have hz := HB.out.size
          have hb2 : Below w1.heap.size w1 w' := (HB.out.alloc hz _).grown hgrow (by simp; omega) (fun k hk => own_ge HROW.out k hk)
          have hg1 : w1.heap.size ≤ g := by
            rcases hat with h | h
            · exact own_ge HROW.out _ h
            · simp at h; omega
          refine ⟨k + 1, by omega, by go_num, ?_, hb2⟩
          rw [HMO.out, HPK.out, HQ.out, decide_eq_true rfl, if_pos rfl, List.length_append, List.length_singleton, ← HM.out, ints_append]
          exact own_base9 hown2 hg1
        case measure => simp [intOf]; omega
      · have hq2 : (par.toList == s.toList) = false := bytes_ne hq
        have HQ := Lib.hid hq
        clear hq
        go_wp2_with (fail)
        go_roundw
        case rel =>
          refine ⟨k + 1, by omega, by go_num, ?_, HB.out⟩
          rw [HMO.out, HPK.out, decide_eq_false HQ.out]
          simp only [Bool.false_eq_true, if_false, List.append_nil]
          rw [← HM.out]
          exact HROW.out
        case measure => simp [intOf]; omega
    · obtain rfl : k = nl := by omega
      have b1 : ¬ ((k : Int) < (k : Int)) := by omega
      go_wp2_with (fail)
      go_ret
      have hz := HB1.out.size
      refine ⟨_, rfl, ?_, HB1.out.trans (HB.out.mono hz)⟩
      rw [← HM.out]
      exact own_mono9 HROW.out hz
theorem wstep {k : Nat} : ((k + 1 : Nat) : Int) - 1 = (k : Int) := by omega
set_option maxRecDepth 100000 in
set_option maxHeartbeats 8000000 in
/-- Favourite. -/
theorem rfav_any {nodes : List Go.HK.HN} {z : Nat} (h : WF nodes z) (w : World) (ge ce gw gc : Nat) (nw : Int) (went : List Nat) (n : Nat) (he : EntsAt w ge (ents nodes)) (hg : RowAt w gw went.length went) (hw : ∀ x ∈ went, x < nodes.length) (hwl : went.length ≤ 100000) :
    Calls Try.prog 58 #[rv ge nodes.length ce nw (some ⟨gw, 0, none⟩) went.length gc, .int .i64 n] w fun e w' => e = .returned (.int .i64 (favW nodes went n)) ∧ Below w.heap.size w w' := by
  obtain ⟨R, hR⟩ : ∃ R, R = favW nodes went n := ⟨_, rfl⟩
  have hR0 : favR nodes (went.take went.length).reverse n = R := by rw [hR, List.take_length]; rfl
  rw [← hR]
  have hway := fun (x : Nat) (hx : x < nodes.length) => rway_any h ge ce went.length gc (some ⟨gw, 0, none⟩) nw (x + 1) (x : Int) (by omega) (by omega) (by omega)
  have hwn := fun (x : Nat) (hx : x < nodes.length) => wayL_nodup h hx
  have hwl2 := fun (x : Nat) (hx : x < nodes.length) => wayL_len9 h hx
  have hwp := fun (x : Nat) (hx : x < nodes.length) => wayL_pos h hx
  unfold WayOk RetS at hway
  simp only [wayI_nat] at hway
  obtain ⟨nl, hnl⟩ : ∃ nl, nl = nodes.length := ⟨_, rfl⟩
  obtain ⟨gn, hgn⟩ : ∃ gn, gn = went.length := ⟨_, rfl⟩
  obtain ⟨G, hG⟩ : ∃ G, G = w.heap.size := ⟨_, rfl⟩
  rw [← hnl] at hway hwn hwl2 hwp
  rw [← hgn] at hway hg hwl hR0
  obtain ⟨w1, hw1⟩ : ∃ w1, w1 = w.alloc (.cells #[.slice (some ⟨ge, 0, none⟩) nl ce, .int .i64 nw, .slice (some ⟨gw, 0, none⟩) gn gc] 63) := ⟨_, rfl⟩
  have hB1 : Below w.heap.size w w1 := by rw [hw1]; exact (Below.refl _ w).alloc (Nat.le_refl _) _
  have hX1 : w1.heap[G]? = some (.cells #[.slice (some ⟨ge, 0, none⟩) nl ce, .int .i64 nw, .slice (some ⟨gw, 0, none⟩) gn gc] 63 (0, 0)) := by rw [hw1, hG]; exact HK.blk_new _ _
  have he1 : EntsAt w1 ge (ents nodes) := he.below hB1 (Nat.le_refl _)
  have hg1 : RowAt w1 gw gn went := hg.below hB1 (Nat.le_refl _)
  have x0 : w1.cell? ⟨G, 0, none⟩ = some (.slice (some ⟨ge, 0, none⟩) nl ce) := HK.blk_cell hX1 0
  have x1 : w1.cell? ⟨G, 1, none⟩ = some (.int .i64 nw) := HK.blk_cell hX1 1
  have x2 : w1.cell? ⟨G, 2, none⟩ = some (.slice (some ⟨gw, 0, none⟩) gn gc) := HK.blk_cell hX1 2
  rw [← hnl, ← hgn]
  have HX1 := Lib.hid hX1
  have HE1 := Lib.hid he1
  have HG1 := Lib.hid hg1
  have HB1 := Lib.hid hB1
  have HW1 := Lib.hid hw1
  have HG := Lib.hid hG
  have HNL := Lib.hid hnl
  have HGN := Lib.hid hgn
  have HWAY := Lib.hid hway
  have HWN := Lib.hid hwn
  have HWL := Lib.hid hwl2
  have HWP := Lib.hid hwp
  have HWM := Lib.hid hw
  have HR0 := Lib.hid hR0
  clear hX1 he1 hg1 hB1 hw1 hG hnl hgn hway hwn hwl2 hwp hw hR0 hR he hg
  go_enter Try.func58, Try.ntmps58
  go_upto_block 0 with (fail)
  rw [← HW1.out, ← HG.out]
  go_wp2_with (fail)
  go_loopw [5] (fun i wr => ∃ j : Nat, j ≤ gn ∧ i = .int .i64 ((j : Int) - 1) ∧ favR nodes (went.take j).reverse n = R ∧ Below w1.heap.size w1 wr) (fun i _ => (intOf i + 1).toNat)
  case atStart => exact ⟨gn, Nat.le_refl _, rfl, HR0.out, Below.refl _ _⟩
  case round =>
    obtain ⟨j, hj, rfl, hfr, hB⟩ := hrel
    obtain ⟨wa, hwa⟩ : ∃ wa, wa = wr := ⟨_, rfl⟩
    subst hwa
    have hX := blk_up9 hB HX1.out
    have x0 : wa.cell? ⟨G, 0, none⟩ = some (.slice (some ⟨ge, 0, none⟩) nl ce) := HK.blk_cell hX 0
    have x1 : wa.cell? ⟨G, 1, none⟩ = some (.int .i64 nw) := HK.blk_cell hX 1
    have x2 : wa.cell? ⟨G, 2, none⟩ = some (.slice (some ⟨gw, 0, none⟩) gn gc) := HK.blk_cell hX 2
    have HB := Lib.hid hB
    have HFR := Lib.hid hfr
    clear hX hB hfr
    cases j with
    | zero =>
      have hz : R = -1 := by have := HFR.out; simp [favR] at this; omega
      have b1 : ¬ (0 : Int) ≤ ((0 : Nat) : Int) - 1 := by omega
      go_wp2_with (fail)
      go_ret
      exact ⟨rfl, HB1.out.trans (HB.out.mono HB1.out.size)⟩
    | succ j =>
      obtain ⟨x, hx⟩ : ∃ x, went[j]? = some x := ⟨_, List.getElem?_eq_getElem (by rw [← HGN.out]; omega)⟩
      have hxl : x < nl := by rw [HNL.out]; exact HWM.out x (List.mem_of_getElem? hx)
      have htk : (went.take (j + 1)).reverse = x :: (went.take j).reverse := by rw [List.take_add_one, hx]; simp
      have hfr := HFR.out
      rw [htk] at hfr
      simp only [favR] at hfr
      have c0 : wa.cell? ⟨gw, j, none⟩ = some (.int .i64 (x : Int)) := (HG1.out.below HB.out (Nat.le_refl _)).cell j x hx
      have hcall := HWAY.out x hxl wa.drew ((HE1.out.below HB.out (Nat.le_refl _)).below (B := wa.heap.size) ⟨rfl, rfl, rfl, Nat.le_refl _, fun _ _ => rfl⟩ (Nat.le_refl _))
      obtain ⟨ys, hys⟩ : ∃ ys, ys = wayL nodes x := ⟨_, rfl⟩
      have hnd := HWN.out x hxl
      have hyl := HWL.out x hxl
      have hyp := HWP.out x hxl
      rw [← hys] at hcall hfr hnd hyl hyp
      obtain ⟨m, hm⟩ : ∃ m, m = ys.length := ⟨_, rfl⟩
      rw [← hm] at hcall hyl hyp
      have e1 : ((j + 1 : Nat) : Int) - 1 = (j : Int) := by omega
      rw [e1]
      have b1 : (0 : Int) ≤ (j : Int) := by omega
      have b2 : (j : Int) < (gn : Int) := by omega
      have HC := Lib.hid hcall
      have HF2 := Lib.hid hfr
      have HND := Lib.hid hnd
      have HM := Lib.hid hm
      clear hx hcall hfr hnd hm hys htk HFR e1
      go_wp2_with (fail)
      go_still_tail 6, (by kernel_rfl)
      change wpList _ _ _ _ _ wa.drew
      go_wp2_with (go_at_call 55; refine HC.out.mono ?_; rintro e w2 ⟨v, rfl, hv, hB2⟩; obtain ⟨gv, cv, rfl, _, _⟩ := hv.form hyp; have HV := Lib.hid (RowAt.of hv HM.out.symm); have HB2 := Lib.hid hB2; clear hv hB2)
      have HBW := Lib.hid (HB.out.trans ((show Below wa.heap.size wa w2 from ⟨HB2.out.os, HB2.out.tape, HB2.out.output, HB2.out.size, HB2.out.block⟩).mono HB.out.size))
      clear x0 x1 x2 c0
      go_loopw [7] (fun i wr => ∃ k : Nat, k < m ∧ i = .int .i64 (k : Int) ∧ wr = w2 ∧ ∀ a, a < k → ys[a]? = some n → a + 1 < m → False) (fun i _ => m - (intOf i).toNat)
      case atStart => exact ⟨0, hyp, rfl, rfl, fun a ha => absurd ha (Nat.not_lt_zero a)⟩
      case round =>
        obtain ⟨k, hk, rfl, rfl, hno⟩ := hrel
        have HNO := Lib.hid hno
        clear hno
        by_cases hk1 : k + 1 < m
        · obtain ⟨y, hy⟩ : ∃ y, ys[k]? = some y := ⟨_, List.getElem?_eq_getElem (by rw [← HM.out]; exact hk)⟩
          obtain ⟨c, hc⟩ : ∃ c, ys[k + 1]? = some c := ⟨_, List.getElem?_eq_getElem (by rw [← HM.out]; exact hk1)⟩
          have k0 := HV.out.cell k y hy
          have k1 := HV.out.cell (k + 1) c hc
          have d1 : (k : Int) + 1 < (m : Int) := by omega
          have d2 : (0 : Int) ≤ (k : Int) := by omega
          have d3 : (k : Int) < (m : Int) := by omega
          have d4 : (0 : Int) ≤ (k : Int) + 1 := by omega
          have HY := Lib.hid hy
          have HCC := Lib.hid hc
          clear hy hc
          by_cases hyn : y = n
          · have q2 : ((y : Int) == (n : Int)) = true := by simp [hyn]
            have HYN := Lib.hid hyn
            clear hyn
            go_wp2_with (fail)
            go_ret
            have hf := HF2.out
            rw [nxtOf_some HND.out (by rw [HY.out, HYN.out]) HCC.out] at hf
            simp only at hf
            exact ⟨by rw [← hf]; rfl, HB1.out.trans (HBW.out.mono HB1.out.size)⟩
          · have q2 : ((y : Int) == (n : Int)) = false := by simp; omega
            have HYN := Lib.hid hyn
            clear hyn
            go_wp2_with (fail)
            go_roundw
            case rel =>
              refine ⟨k + 1, hk1, by go_num, by first | rfl | trivial, fun a ha h1 h2 => ?_⟩
              by_cases e : a < k
              · exact HNO.out a e h1 h2
              · have e : a = k := by omega
                rw [e, HY.out] at h1
                exact HYN.out (Option.some.inj h1)
            case measure => simp [intOf]; omega
        · have d1 : ¬ (k : Int) + 1 < (m : Int) := by omega
          go_wp2_with (fail)
          go_roundw
          case rel =>
            have hf := HF2.out
            rw [nxtOf_none fun a c h1 h2 => ?_] at hf
            · exact ⟨j, by omega, by go_num, hf, HBW.out⟩
            · have hl := (List.getElem?_eq_some_iff.1 h2).1
              rw [← HM.out] at hl
              exact HNO.out a (by omega) h1 hl
          case measure => simp [intOf]
end Go.Proofs.Ythneinepdbkgeaa
