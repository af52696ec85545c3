/- The walk of MeasureGrows. -/
import Derived.Test.YtfebcpmbkljaoaaGrowp
import Derived.Deep.RegionHeld3
import Derived.Deep.RegionLaw
import Derived.Test.YtfebcpmbkljaoaaGoal
namespace Go.Proofs.Ytfebcpmbkljaoaa
open Go.RowKit Go.HR
set_option linter.unusedVariables false
set_option linter.unusedSimpArgs false
set_option linter.unusedSectionVars false
mutual
theorem cnt_le (bad : StepD → Bool) (pl : List Nat) (w : Nat) : ∀ t : PT, (goalsT bad pl w t).2 ≤ sizeT t
  | .node r o s => by
    simp only [goalsT, sizeT]
    split
    · simp
    · have := cntF_le bad pl (w / (2 * s.length)) 0 s; simp only; omega
theorem cntF_le (bad : StepD → Bool) (pl : List Nat) (w : Nat) (i : Nat) : ∀ ts : List PT, (goalsF bad pl w i ts).2 ≤ sizeF ts
  | [] => by simp [goalsF]
  | t :: ts => by
    have h1 := cnt_le bad (pl ++ [i]) w t
    have h2 := cntF_le bad pl w (i + 1) ts
    simp only [goalsF, sizeF]; omega
end
theorem len_count (t : PT) : countL t [] ≤ sizeT t := by
  unfold countL
  split
  · exact cnt_le _ _ _ t
  · omega
theorem holes_ps {W : World} {base n0 : Nat} {v : SL} {k : Nat} (h : W.ownsRow base 30 8 v.v k (flatP (List.replicate k (holeT, SL.nil)))) (hn : W.heap.size ≤ n0) : IsPs n0 W v (List.replicate k holeT) := by
  obtain ⟨va, vn, vc⟩ := v
  rcases h.2 with ⟨h0, h1⟩ | ⟨g, cap, cur, hv, hg, hh, r⟩
  · simp only [SL.v, Value.slice.injEq] at h0
    obtain ⟨rfl, rfl, rfl⟩ := h0
    subst h1
    exact .nil _ _
  · simp only [SL.v, Value.slice.injEq] at hv
    obtain ⟨rfl, rfl, rfl⟩ := hv
    have hlt := HK.blk_lt hh
    have hl : (List.replicate vn (holeT, SL.nil)).length = vn := by simp
    have h2 : W.ownsRow base 30 8 (.slice (some ⟨g, 0, none⟩) vn vc) (List.replicate vn (holeT, SL.nil)).length (flatP (List.replicate vn (holeT, SL.nil))) := by rw [hl]; exact h
    have h3 := pq_row (S := fun b => b < W.heap.size) h2 hlt (fun x hx => by rw [(List.mem_replicate.1 hx).2]; exact .nil _ _)
    rw [List.map_replicate] at h3
    exact h3.ps fun b hb => by omega
theorem bl2 (w : World) (o1 o2 : Obj) : Below w.heap.size w ((w.alloc o1).alloc o2) := ((Below.refl _ w).alloc (Nat.le_refl _) _).alloc (by simp) _
theorem bl2d (w : World) (o1 o2 : Obj) : Below w.heap.size w ((w.alloc o1).alloc o2).drew := below_drewN (bl2 w o1 o2) 1
theorem hole_next {w6 wr W8 W7 : World} {v : Value} {m gg cap : Nat} (hB : Below w6.heap.size w6 wr) (hx : wr.heap[w6.heap.size]? = some (.cells (boxR v) 30 (0, 0))) (hrow : wr.ownsRow (w6.heap.size + 1) 30 8 v m (flatP (List.replicate m (holeT, SL.nil))))
    (h8 : Below wr.heap.size wr W8) (hz : W8.heap.size = wr.heap.size + 2) (hown : W7.ownsRow 0 30 8 (.slice (some ⟨gg, 0, none⟩) (m + 1) cap) (m + 1) (flatP (List.replicate m (holeT, SL.nil)) ++ (holeT.arr SL.nil).toList))
    (hgrow : W8.grownBy W7 v.ownBlock) (hat : v.ownBlock = some gg ∨ gg = W8.heap.size) :
    Below w6.heap.size w6 (W7.setCell ⟨w6.heap.size, 6, none⟩ (.slice (some ⟨gg, 0, none⟩) (m + 1) cap)) ∧
      (W7.setCell ⟨w6.heap.size, 6, none⟩ (.slice (some ⟨gg, 0, none⟩) (m + 1) cap)).heap[w6.heap.size]? = some (.cells (boxR (.slice (some ⟨gg, 0, none⟩) (m + 1) cap)) 30 (0, 0)) ∧
      (W7.setCell ⟨w6.heap.size, 6, none⟩ (.slice (some ⟨gg, 0, none⟩) (m + 1) cap)).ownsRow (w6.heap.size + 1) 30 8 (.slice (some ⟨gg, 0, none⟩) (m + 1) cap) (m + 1) (flatP (List.replicate (m + 1) (holeT, SL.nil))) := by
  have hv : ∀ b, v.ownBlock = some b → w6.heap.size + 1 ≤ b ∧ b < wr.heap.size := fun b hb => hrow.lt b hb
  have hlb := HK.blk_lt hx
  have hgg : w6.heap.size + 1 ≤ gg := by
    rcases hat with e | e
    · exact (hv gg e).1
    · omega
  have hx7 := HK.blk_grown2 hgrow ((h8.block _ hlb).trans hx) (fun e => by have := (hv _ e.symm).1; omega)
  have hb7 : Below w6.heap.size w6 W7 := (hB.trans (h8.mono hB.size)).grown hgrow (by have := hB.size; omega) (fun b e => by have := (hv b e).1; omega)
  refine ⟨hb7.setCell (p := ⟨w6.heap.size, 6, none⟩) (Nat.le_refl _) _, HK.blk_set hx7 6 _, ?_⟩
  refine HK.owns_setCell ?_ (p := ⟨w6.heap.size, 6, none⟩) (by simp [Value.ownBlock]; omega) _
  rw [List.replicate_succ', flatP_on]
  refine ⟨hown.1, ?_⟩
  rcases hown.2 with h0 | ⟨g, c, cur, e, hg, r⟩
  · exact .inl h0
  · refine .inr ⟨g, c, cur, e, ?_, r⟩
    simp only [Value.slice.injEq, Option.some.injEq, Addr.mk.injEq] at e
    omega
set_option maxRecDepth 100000 in
set_option maxHeartbeats 16000000 in
theorem grows_walk (w : World) (a : Option Addr) (n c : Nat) (L : List Nat) (h : BytesAt w a n L) (n1 n2 : Nat) (hn1 : n1 ≤ 255) (hn2 : n2 ≤ 255) : Calls Try.prog 6 #[.slice a n c, .int .u8 n1, .int .u8 n2] w (RetB w (.bool true)) := by
  have hb := built_call w a n c L h
  unfold RetP at hb
  have hcode := built_code L
  have hsz := built_size L
  have hpl := built_plain L
  obtain ⟨t, ht⟩ : ∃ t, t = builtT L := ⟨_, rfl⟩
  rw [← ht] at hb hcode hsz hpl
  obtain ⟨na, hna⟩ : ∃ na, na = (goalsB L).length := ⟨_, rfl⟩
  obtain ⟨Sa, hSa⟩ : ∃ Sa, Sa = sumW (goalsB L) := ⟨_, rfl⟩
  have hSle : Sa ≤ 1152921504606846976 := by rw [hSa]; exact sum_goalsL (builtT L) []
  have hna3 : na ≤ 300 := by rw [hna]; exact goalsB_len L
  have hgl0 : goalsL t [] = goalsB L := by rw [ht]; rfl
  obtain ⟨was, hwas⟩ : ∃ was, was = restV na Sa := ⟨_, rfl⟩
  obtain ⟨pm, hpm⟩ : ∃ pm, pm = permV na Sa := ⟨_, rfl⟩
  obtain ⟨st, hst⟩ : ∃ st, st = countL t [] := ⟨_, rfl⟩
  have hpw : progL t [] = was := by rw [progL_eq hcode, hgl0, ← hna, ← hSa, hwas]
  have hpp : permL t [] = pm := by rw [permL_eq hcode, hgl0, ← hna, ← hSa, hpm]
  have hgo := fun (W : World) (sv : SL) (hs : IsPs W.heap.size W sv t.subs) => goals_call W t sv SL.nil [] hs (by omega) (IsW.nil W) (by simp) (by simp)
  have hpr := fun (W : World) (sv : SL) (hs : IsPs W.heap.size W sv t.subs) => progress_call W t sv SL.nil [] hs (by omega) (IsW.nil W) (by simp) (by simp)
  have hsp := fun (W : World) (sv : SL) (hs : IsPs W.heap.size W sv t.subs) => stepsn_call W t sv SL.nil [] hs (by omega) (IsW.nil W) (by simp) (by simp)
  have hpe := fun (W : World) (sv : SL) (hs : IsPs W.heap.size W sv t.subs) => permille_call W t sv SL.nil [] hs (by omega) (IsW.nil W) (by simp) (by simp)
  unfold RetG at hgo
  unfold RetS2 at hpr hsp hpe
  simp only [hcode, hgl0, hpw, hpp, ← hst] at hgo hpr hsp hpe
  have hst3 : st ≤ 300 := by
    have := len_count t
    omega
  have hwith := fun (W : World) (sv su s : SL) (u : PT) (is : List Int) (h1 : IsPs W.heap.size W sv t.subs) (h2 : IsPs W.heap.size W su u.subs) (h3 : IsI W s is) (h4 : is.length ≤ 20000) (h5 : sizeT u ≤ 9000) (h6 : plainT u) => with_call W t u sv su s is h1 h2 h3 h4 (by omega) h5 hpl h6
  obtain ⟨rule, ⟨op, name, ⟨aa, an, ac⟩, ⟨fa, fn, fc⟩, label, ⟨ma, mn, mc⟩⟩, subs⟩ := t
  simp only [PT.arr, PT.rule, PT.o, PT.subs, SL.v, SL.nil] at hb hgo hpr hsp hpe hwith
  have haw := awake_call
  have HT := Lib.hid ht
  have HB := Lib.hid hb
  have HG := Lib.hid hgo
  have HP := Lib.hid hpr
  have HST := Lib.hid hsp
  have HPE := Lib.hid hpe
  have HWI := Lib.hid hwith
  have HNA := Lib.hid hna
  have HSA := Lib.hid hSa
  have HWAS := Lib.hid hwas
  have HPM := Lib.hid hpm
  have HSTE := Lib.hid hst
  have wz : was ≤ 1152921504606846976 := by rw [hwas]; unfold restV; split <;> omega
  have wz2 : ((na : Int) == 0) = ((was : Int) == 1152921504606846976) := by
    rw [hwas]; unfold restV
    by_cases h0 : na = 0
    · rw [if_pos h0]; simp [h0]
    · rw [if_neg h0]
      have e1 : ((na : Int) == 0) = false := by simp; omega
      have e2 : (((min (1152921504606846976 - Sa) 1152921504606846975 : Nat) : Int) == 1152921504606846976) = false := by simp; omega
      rw [e1, e2]
  clear hb hcode hsz ht hgo hpr hsp hpe hwith hna hSa hwas hpm hst hpw hpp hgl0 h hpl
  go_enter Try.func6, Try.ntmps6
  go_upto_region 2 with (go_at_call 10; (refine HB.out.mono ?_; rintro e w1 ⟨⟨sa, sn, sc⟩, rfl, hq1, hB1⟩))
  have hs1 := (hq1.ps (n0 := w1.heap.size) fun k hk => hk.2).up ((Below.refl _ w1).alloc (Nat.le_refl _) (.cells #[.string rule, .int .u8 op, .string name, .slice aa an ac, .slice fa fn fc, .int .i64 label, .slice sa sn sc, .slice ma mn mc] 30))
  have hg2 := HG.out _ ⟨sa, sn, sc⟩ hs1
  have HG2 := Lib.hid hg2
  have HS1 := Lib.hid hs1
  have HB1 := Lib.hid hB1
  clear hs1 hg2 hB1 hq1
  go_upto_region 3 with (go_at_call 11; (refine HG2.out.mono ?_; rintro e w2 ⟨v, gs, rfl, hgd, hGs, hB2⟩))
  obtain ⟨ga, gc, rfl⟩ := goal_form hGs
  have hgl : gs.length = na := by rw [HNA.out, ← hgd, List.length_map]
  rw [hgl]
  have hpb2 := (hB2.block w1.heap.size (by simp)).trans (HK.blk_new w1 (.cells #[.string rule, .int .u8 op, .string name, .slice aa an ac, .slice fa fn fc, .int .i64 label, .slice sa sn sc, .slice ma mn mc] 30))
  have hs2 := HS1.out.up hB2
  have HW2 := Lib.hid (below_then HB1.out (((Below.refl _ w1).alloc (Nat.le_refl _) _).trans (hB2.mono (by simp))))
  have HGD := Lib.hid hgd
  have HGS := Lib.hid hGs
  have HGL := Lib.hid hgl
  have p0 : w2.cell? ⟨w1.heap.size, 0, none⟩ = some (.string rule) := HK.blk_cell hpb2 0
  have p1 : w2.cell? ⟨w1.heap.size, 1, none⟩ = some (.int .u8 op) := HK.blk_cell hpb2 1
  have p2 : w2.cell? ⟨w1.heap.size, 2, none⟩ = some (.string name) := HK.blk_cell hpb2 2
  have p3 : w2.cell? ⟨w1.heap.size, 3, none⟩ = some (.slice aa an ac) := HK.blk_cell hpb2 3
  have p4 : w2.cell? ⟨w1.heap.size, 4, none⟩ = some (.slice fa fn fc) := HK.blk_cell hpb2 4
  have p5 : w2.cell? ⟨w1.heap.size, 5, none⟩ = some (.int .i64 label) := HK.blk_cell hpb2 5
  have p6 : w2.cell? ⟨w1.heap.size, 6, none⟩ = some (.slice sa sn sc) := HK.blk_cell hpb2 6
  have p7 : w2.cell? ⟨w1.heap.size, 7, none⟩ = some (.slice ma mn mc) := HK.blk_cell hpb2 7
  have hp2 := HP.out w2 ⟨sa, sn, sc⟩ hs2
  have HP2 := Lib.hid hp2
  have HS2 := Lib.hid hs2
  have HPB2 := Lib.hid hpb2
  clear hgd hGs hgl hB2 hpb2 hp2 hs2 HG2 HS1
  go_upto_region 4 with (go_at_call 17; (refine HP2.out.mono ?_; rintro e w3 ⟨rfl, hB3⟩))
  clear p0 p1 p2 p3 p4 p5 p6 p7
  have hpb3 := (hB3.block _ (HK.blk_lt HPB2.out)).trans HPB2.out
  have hs3 := HS2.out.up hB3
  have HW3 := Lib.hid (below_then HW2.out hB3)
  have HGS3 := Lib.hid (HGS.out.below hB3)
  have p0 : w3.cell? ⟨w1.heap.size, 0, none⟩ = some (.string rule) := HK.blk_cell hpb3 0
  have p1 : w3.cell? ⟨w1.heap.size, 1, none⟩ = some (.int .u8 op) := HK.blk_cell hpb3 1
  have p2 : w3.cell? ⟨w1.heap.size, 2, none⟩ = some (.string name) := HK.blk_cell hpb3 2
  have p3 : w3.cell? ⟨w1.heap.size, 3, none⟩ = some (.slice aa an ac) := HK.blk_cell hpb3 3
  have p4 : w3.cell? ⟨w1.heap.size, 4, none⟩ = some (.slice fa fn fc) := HK.blk_cell hpb3 4
  have p5 : w3.cell? ⟨w1.heap.size, 5, none⟩ = some (.int .i64 label) := HK.blk_cell hpb3 5
  have p6 : w3.cell? ⟨w1.heap.size, 6, none⟩ = some (.slice sa sn sc) := HK.blk_cell hpb3 6
  have p7 : w3.cell? ⟨w1.heap.size, 7, none⟩ = some (.slice ma mn mc) := HK.blk_cell hpb3 7
  have hp3 := HST.out w3 ⟨sa, sn, sc⟩ hs3
  have HP3 := Lib.hid hp3
  have HS3 := Lib.hid hs3
  have HPB3 := Lib.hid hpb3
  clear hpb3 hp3 hs3 hB3 HP2 HS2 HPB2 HGS HW2
  go_upto_region 5 with (go_at_call 16; (refine HP3.out.mono ?_; rintro e w4 ⟨rfl, hB4⟩))
  clear p0 p1 p2 p3 p4 p5 p6 p7
  have hpb4 := (hB4.block _ (HK.blk_lt HPB3.out)).trans HPB3.out
  have HS4 := Lib.hid (HS3.out.up hB4)
  have HW4 := Lib.hid (below_then HW3.out hB4)
  have HGS4 := Lib.hid (HGS3.out.below hB4)
  have HPB4 := Lib.hid hpb4
  clear hpb4 hB4 HP3 HS3 HPB3 HGS3 HW3
  have v0 : (0 : Int) ≤ (was : Int) := by omega
  have v1 : (was : Int) ≤ 1152921504606846976 := by omega
  by_cases h0 : na = 0
  · subst h0
    have hw0 : (was : Int) = 1152921504606846976 := by rw [HWAS.out]; rfl
    have hpm0 : (pm : Int) = 1000 := by rw [HPM.out]; rfl
    have hpk := fun W => pick_nil W ga gc (.int .u8 n1)
    clear wz2
    go_upto_region 9 with (go_at_call 27; (refine (hpk _).mono ?_; rintro e w5 ⟨rfl, hB5⟩))
    obtain ⟨w6, hw6⟩ : ∃ w6, w6 = w5.alloc (.cells #[.slice none 0 0, .int .i64 0] 39) := ⟨_, rfl⟩
    rw [← hw6]
    have hB6 : Below w4.heap.size w4 w6 := by rw [hw6]; exact hB5.alloc hB5.size _
    have hpb6 := (hB6.block _ (HK.blk_lt HPB4.out)).trans HPB4.out
    have hp6 := HPE.out w6 ⟨sa, sn, sc⟩ (HS4.out.up hB6)
    have HP6 := Lib.hid hp6
    have HW6 := Lib.hid (below_then HW4.out hB6)
    have p0 : w6.cell? ⟨w1.heap.size, 0, none⟩ = some (.string rule) := HK.blk_cell hpb6 0
    have p1 : w6.cell? ⟨w1.heap.size, 1, none⟩ = some (.int .u8 op) := HK.blk_cell hpb6 1
    have p2 : w6.cell? ⟨w1.heap.size, 2, none⟩ = some (.string name) := HK.blk_cell hpb6 2
    have p3 : w6.cell? ⟨w1.heap.size, 3, none⟩ = some (.slice aa an ac) := HK.blk_cell hpb6 3
    have p4 : w6.cell? ⟨w1.heap.size, 4, none⟩ = some (.slice fa fn fc) := HK.blk_cell hpb6 4
    have p5 : w6.cell? ⟨w1.heap.size, 5, none⟩ = some (.int .i64 label) := HK.blk_cell hpb6 5
    have p6 : w6.cell? ⟨w1.heap.size, 6, none⟩ = some (.slice sa sn sc) := HK.blk_cell hpb6 6
    have p7 : w6.cell? ⟨w1.heap.size, 7, none⟩ = some (.slice ma mn mc) := HK.blk_cell hpb6 7
    clear hw6 hB6 hB5 hp6 hpb6
    go_wp2_with (first
      | (go_at_call 18; (refine HP6.out.mono ?_; rintro e w7 ⟨rfl, hB7⟩))
      | (go_at_call 14; (refine (haw _).mono ?_; rintro e w8 ⟨rfl, hB8⟩)))
    go_ret
    exact ⟨rfl, below_then HW6.out (below_then hB7 hB8)⟩
  · obtain ⟨i, hi⟩ : ∃ i, i = n1 % na := ⟨_, rfl⟩
    have hin : i < na := by rw [hi]; exact Nat.mod_lt _ (by omega)
    obtain ⟨x, hx⟩ : ∃ x, gs[i]? = some x := ⟨_, List.getElem?_eq_getElem (by rw [HGL.out]; exact hin)⟩
    obtain ⟨g, hga⟩ : ∃ g, ga = some ⟨g, 0, none⟩ := by
      obtain ⟨g, cap, hv, _⟩ := goal_at HGS4.out hx
      simp only [Value.slice.injEq] at hv
      exact ⟨g, hv.1⟩
    subst hga
    have hR := IsG.goalR HGS4.out HGD.out
    obtain ⟨c0, c1, cp⟩ := hR.c i x hx
    have hxm : x.d ∈ goalsB L := by rw [← hR.d]; exact List.mem_map.2 ⟨x, List.mem_of_getElem? hx, rfl⟩
    obtain ⟨k, hk⟩ : ∃ k, k = n2 % 9 := ⟨_, rfl⟩
    have hk8 : k ≤ 8 := by omega
    obtain ⟨q, hq1, hq2, hq3, hq4, hq5, hq6, hq7⟩ := grow_law hxm hk8
    have hpl12 := (goalsB_mem hxm).2.2
    obtain ⟨⟨pl, wt, TT⟩, ⟨pa, pn, pc⟩, xsv⟩ := x
    simp only [SL.v] at c0 c1 cp hq1 hq5 hq7 hpl12
    have hgsn := HGS4.out
    rw [HGL.out] at hgsn
    have hpk := pick_some w4 _ g na gc n1 i wt gs pa pn pc hn1 HGL.out.symm hna3 hgsn hi hin c0 c1
    clear hgsn
    have HPK := Lib.hid hpk
    have HCP := Lib.hid cp
    have hw1 : ((na : Int) == 0) = false := by simp; omega
    have hw2 : ((was : Int) == 1152921504606846976) = false := by rw [← wz2]; exact hw1
    have hw3 : ¬ (na : Int) = 0 := by omega
    have hw4 : ¬ (was : Int) = 1152921504606846976 := by simpa using hw2
    clear wz2 hpk cp c0 c1 hx hR hxm hi
    go_upto_region 9 with (go_at_call 27; (refine HPK.out.mono ?_; rintro e w5 ⟨rfl, hB5⟩))
    have HW5 := Lib.hid (below_then HW4.out hB5)
    have HGB5 := Lib.hid hB5
    have he28 := ex28n
    simp only [boxR] at he28
    have HE28 := Lib.hid he28
    clear he28
    clear hB5
    go_upto_region 12 with (go_at_call 28; (refine (HE28.out _).mono ?_; rintro e w6 ⟨rfl, hB6⟩))
    have hgb6 := (hB6.block w5.heap.size (by simp)).trans (HK.blk_new w5 (.cells #[.slice pa pn pc, .int .i64 (wt : Nat)] 39))
    have hB56 : Below w5.heap.size w5 w6 := ((Below.refl _ w5).alloc (Nat.le_refl _) _).trans (hB6.mono (by simp))
    have HGB6 := Lib.hid hgb6
    have HW6 := Lib.hid (below_then HW5.out hB56)
    have HB46 := Lib.hid (below_then HGB5.out hB56)
    have hkI : (n2 : Int) % 9 = (k : Int) := by omega
    have hk2 : n2 % 9 = k := hk.symm
    clear hB6 hgb6 hB56 hk
    have hh := fun W => hole_exact W
    simp only [holeT, PT.arr, PT.rule, PT.o, PO.nil, SL.nil, SL.v] at hh
    have HH := Lib.hid hh
    clear hh
    go_wp2_with (fail)
    go_loopw [103] (fun j wr => ∃ (m : Nat) (v : SL), m ≤ k ∧ j = .int .i64 m ∧ Below w6.heap.size w6 wr ∧ wr.heap[w6.heap.size]? = some (.cells (boxR v.v) 30 (0, 0)) ∧ wr.ownsRow (w6.heap.size + 1) 30 8 v.v m (flatP (List.replicate m (holeT, SL.nil)))) (fun j _ => k - (intOf j).toNat)
    case atStart => exact ⟨0, SL.nil, by omega, rfl, (Below.refl _ w6).alloc (Nat.le_refl _) _, HK.blk_new _ _, World.ownsRow_nil _ _ _ _⟩
    case round =>
      obtain ⟨m, ⟨va, vn, vc⟩, hm, rfl, hBr, hbx, hrow⟩ := hrel
      simp only [SL.v] at hbx hrow
      have HBR := Lib.hid hBr
      have HBX := Lib.hid hbx
      have HROW := Lib.hid hrow
      have hlb := HK.blk_lt hbx
      by_cases h1 : m < k
      · have b8 : (m : Int) < (k : Int) := by omega
        have hvn : ∀ b, (Value.slice va vn vc).ownBlock = some b → w6.heap.size + 1 ≤ b ∧ b < wr.heap.size := fun b hb => hrow.lt b hb
        have HV := Lib.hid hvn
        have a6 : wr.cell? ⟨w6.heap.size, 6, none⟩ = some (.slice va vn vc) := HK.blk_cell hbx 6
        have a6' : ∀ o, (wr.alloc o).cell? ⟨w6.heap.size, 6, none⟩ = some (.slice va vn vc) := fun o => HK.blk_cell (HK.blk_alloc hbx o) 6
        have a6'' : ∀ o o2, ((wr.alloc o).alloc o2).cell? ⟨w6.heap.size, 6, none⟩ = some (.slice va vn vc) := fun o o2 => HK.blk_cell (HK.blk_alloc (HK.blk_alloc hbx o) o2) 6
        clear hBr hbx hrow hvn
        go_wp2_with (fail)
        go_region_law
          ((first
            | (refine HK.step_app1 (by rfl) elem30 _ _ (by rfl) (.slice va vn vc) m (flatP (List.replicate m (holeT, SL.nil))) (by rfl) (row_mono ((HROW.out.alloc _).alloc _) (Nat.zero_le _)) (wr.heap.size + 1) 1 #[.string ⟨#[63]⟩, .int .u8 0, .string ⟨#[]⟩, .slice none 0 0, .slice none 0 0, .int .i64 0, .slice none 0 0, .slice none 0 0] (by rfl) (blk_new1 _ _ _) (by rfl) (by simp [Value.oneCell']) (by simp only [maxLen]; omega) (by omega) ?_
               intro gg cap w7 hown7 hgrow hat hlt
               have hT7 := HK.blk_grown2 hgrow (HK.blk_alloc (HK.blk_alloc HBX.out _) _) (fun e => by have := (HV.out _ e.symm).1; omega)
               have hc7 : w7.cell? ⟨w6.heap.size, 6, none⟩ = some (.slice va vn vc) := HK.blk_cell hT7 6
               have hf7 := HK.blk_frozen hT7 6
               have HT7 := Lib.hid hT7
               have HOW := Lib.hid hown7
               have HGR := Lib.hid hgrow
               have HAT := Lib.hid hat
               clear hT7 hown7 hgrow hat)
            | (go_simp
               go_at_call 25
               refine (HH.out _).mono ?_
               rintro e w' ⟨rfl, rfl⟩)))
        all_goals (
          go_wp2_with (fail)
          go_roundw
          case rel =>
            obtain ⟨r1, r2, r3⟩ := hole_next HBR.out HBX.out HROW.out (by first | exact bl2d _ _ _ | exact bl2 _ _ _) (by first | (show ((wr.alloc _).alloc _).heap.size = _; simp) | simp) HOW.out HGR.out HAT.out
            exact ⟨m + 1, by omega, by omega, r1, ⟨some ⟨gg, 0, none⟩, m + 1, cap⟩, r2, r3⟩
          case measure => simp [intOf]; omega)
      · have hmk : m = k := by omega
        subst hmk
        have b8 : ¬ ((m : Int) < (m : Int)) := by omega
        have hB4r : Below w4.heap.size w4 wr := below_then HB46.out HBR.out
        have hpb := (hB4r.block _ (HK.blk_lt HPB4.out)).trans HPB4.out
        have hgb := (hBr.block _ (HK.blk_lt HGB6.out)).trans HGB6.out
        have hps := HS4.out.up hB4r
        have hpi := HCP.out.isI.below hB4r
        have hus := holes_ps (v := ⟨va, vn, vc⟩) HROW.out (Nat.le_refl _)
        have hw := HWI.out wr ⟨sa, sn, sc⟩ ⟨va, vn, vc⟩ ⟨pa, pn, pc⟩ (stepK m) _ hps hus hpi (by simp; omega) (by rw [stepK_size]; omega) (stepK_plain m)
        rw [HT.out] at hw
        have hq1' : withR (builtT L) (stepK m) (pl.map fun n : Nat => (n : Int)) = (0, q) := hq1
        rw [hq1'] at hw
        unfold RetW at hw
        obtain ⟨nm, hnm⟩ : ∃ nm, nm = (goalsL q []).length := ⟨_, rfl⟩
        obtain ⟨Sm, hSm⟩ : ∃ Sm, Sm = sumW (goalsL q []) := ⟨_, rfl⟩
        obtain ⟨now, hnow⟩ : ∃ now, now = restV nm Sm := ⟨_, rfl⟩
        obtain ⟨po, hpo⟩ : ∃ po, po = permV nm Sm := ⟨_, rfl⟩
        obtain ⟨r, hr⟩ : ∃ r, r = m * (wt / (2 * m)) := ⟨_, rfl⟩
        rw [← hnm, ← HNA.out] at hq4
        rw [← hSm, ← HSA.out] at hq5
        rw [← HSA.out] at hq7
        rw [← HT.out, ← HSTE.out] at hq6
        obtain ⟨x1, x2, x3, x4, x5, x6, x7⟩ := grow_num hSle hq4 hq5 hq7 hr h0
        rw [← HWAS.out, ← hnow] at x1 x2
        rw [← HPM.out, ← hpo] at x3
        rw [← HPM.out] at x4
        rw [← hpo] at x5
        have hpwq : progL q [] = now := by rw [progL_eq hq2, ← hnm, ← hSm, hnow]
        have hppq : permL q [] = po := by rw [permL_eq hq2, ← hnm, ← hSm, hpo]
        have qgo := fun (W : World) (sv : SL) (hs : IsPs W.heap.size W sv q.subs) => goals_call W q sv SL.nil [] hs (by omega) (IsW.nil W) (by simp) (by simp)
        have qpr := fun (W : World) (sv : SL) (hs : IsPs W.heap.size W sv q.subs) => progress_call W q sv SL.nil [] hs (by omega) (IsW.nil W) (by simp) (by simp)
        have qsp := fun (W : World) (sv : SL) (hs : IsPs W.heap.size W sv q.subs) => stepsn_call W q sv SL.nil [] hs (by omega) (IsW.nil W) (by simp) (by simp)
        have qpe := fun (W : World) (sv : SL) (hs : IsPs W.heap.size W sv q.subs) => permille_call W q sv SL.nil [] hs (by omega) (IsW.nil W) (by simp) (by simp)
        unfold RetG at qgo
        unfold RetS2 at qpr qsp qpe
        simp only [hq2, hpwq, hppq, hq6] at qgo qpr qsp qpe
        have nm3 : nm ≤ 309 := by omega
        clear hq1 hq1' hpwq hppq hq2 hq3
        obtain ⟨qr, ⟨qo, qn, ⟨ea, en, ec⟩, ⟨ia, i2, ic⟩, ql, ⟨ka, kn, kc⟩⟩, qs⟩ := q
        simp only [stepK, ruleR, PO.nil, SL.nil, PT.arr, PT.rule, PT.o, PT.subs, SL.v] at hw qgo qpr qsp qpe hnm hSm
        have p0 : wr.cell? ⟨w1.heap.size, 0, none⟩ = some (.string rule) := HK.blk_cell hpb 0
        have p1 : wr.cell? ⟨w1.heap.size, 1, none⟩ = some (.int .u8 op) := HK.blk_cell hpb 1
        have p2 : wr.cell? ⟨w1.heap.size, 2, none⟩ = some (.string name) := HK.blk_cell hpb 2
        have p3 : wr.cell? ⟨w1.heap.size, 3, none⟩ = some (.slice aa an ac) := HK.blk_cell hpb 3
        have p4 : wr.cell? ⟨w1.heap.size, 4, none⟩ = some (.slice fa fn fc) := HK.blk_cell hpb 4
        have p5 : wr.cell? ⟨w1.heap.size, 5, none⟩ = some (.int .i64 label) := HK.blk_cell hpb 5
        have p6 : wr.cell? ⟨w1.heap.size, 6, none⟩ = some (.slice sa sn sc) := HK.blk_cell hpb 6
        have p7 : wr.cell? ⟨w1.heap.size, 7, none⟩ = some (.slice ma mn mc) := HK.blk_cell hpb 7
        have y0 : wr.cell? ⟨w6.heap.size, 0, none⟩ = some (.string ⟨#[114]⟩) := HK.blk_cell hbx 0
        have y1 : wr.cell? ⟨w6.heap.size, 1, none⟩ = some (.int .u8 0) := HK.blk_cell hbx 1
        have y2 : wr.cell? ⟨w6.heap.size, 2, none⟩ = some (.string ⟨#[]⟩) := HK.blk_cell hbx 2
        have y3 : wr.cell? ⟨w6.heap.size, 3, none⟩ = some (.slice none 0 0) := HK.blk_cell hbx 3
        have y4 : wr.cell? ⟨w6.heap.size, 4, none⟩ = some (.slice none 0 0) := HK.blk_cell hbx 4
        have y5 : wr.cell? ⟨w6.heap.size, 5, none⟩ = some (.int .i64 0) := HK.blk_cell hbx 5
        have y6 : wr.cell? ⟨w6.heap.size, 6, none⟩ = some (.slice va vn vc) := HK.blk_cell hbx 6
        have y7 : wr.cell? ⟨w6.heap.size, 7, none⟩ = some (.slice none 0 0) := HK.blk_cell hbx 7
        have g0 : wr.cell? ⟨w5.heap.size, 0, none⟩ = some (.slice pa pn pc) := HK.blk_cell hgb 0
        have g1 : wr.cell? ⟨w5.heap.size, 1, none⟩ = some (.int .i64 (wt : Nat)) := HK.blk_cell hgb 1
        have HWC := Lib.hid hw
        have QG := Lib.hid qgo
        have QP := Lib.hid qpr
        have QS := Lib.hid qsp
        have QE := Lib.hid qpe
        have HPBR := Lib.hid hpb
        have HGBR := Lib.hid hgb
        have HPSR := Lib.hid hps
        have HNM := Lib.hid hnm
        have HSM := Lib.hid hSm
        have HB4R := Lib.hid hB4r
        have HRR := Lib.hid hr
        have HQ5 := Lib.hid hq5
        have HX5 := Lib.hid x5
        have HNOW := Lib.hid hnow
        clear hw qgo qpr qsp qpe hpb hgb hps hus hpi hnm hSm hB4r hBr hbx hrow hr hq5 x5 hnow hpo
        go_upto_region 20 with (go_at_call 24; (refine HWC.out.mono ?_; rintro e w8 ⟨⟨xa, xn, xc⟩, rfl, hq8, hB8⟩))
        obtain ⟨w9, hw9⟩ : ∃ w9, w9 = w8.alloc (.cells #[.string qr, .int .u8 qo, .string qn, .slice ea en ec, .slice ia i2 ic, .int .i64 ql, .slice xa xn xc, .slice ka kn kc] 30) := ⟨_, rfl⟩
        rw [← hw9]
        have hBr9 : Below wr.heap.size wr w9 := by rw [hw9]; exact hB8.alloc hB8.size _
        have hnb9 : w9.heap[w8.heap.size]? = some (.cells #[.string qr, .int .u8 qo, .string qn, .slice ea en ec, .slice ia i2 ic, .int .i64 ql, .slice xa xn xc, .slice ka kn kc] 30 (0, 0)) := by rw [hw9]; exact HK.blk_new _ _
        have hqs9 : IsPs w9.heap.size w9 ⟨xa, xn, xc⟩ qs := by rw [hw9]; exact hq8.up ((Below.refl _ w8).alloc (Nat.le_refl _) _)
        have HPB9 := Lib.hid ((hBr9.block _ (HK.blk_lt HPBR.out)).trans HPBR.out)
        have HGB9 := Lib.hid ((hBr9.block _ (HK.blk_lt HGBR.out)).trans HGBR.out)
        have HPS9 := Lib.hid (HPSR.out.up hBr9)
        have HB49 := Lib.hid (below_then HB4R.out hBr9)
        have HNB9 := Lib.hid hnb9
        have HQS9 := Lib.hid hqs9
        have hc9 := QP.out w9 ⟨xa, xn, xc⟩ hqs9
        have HC9 := Lib.hid hc9
        have q0 : w9.cell? ⟨w8.heap.size, 0, none⟩ = some (.string qr) := HK.blk_cell hnb9 0
        have q1 : w9.cell? ⟨w8.heap.size, 1, none⟩ = some (.int .u8 qo) := HK.blk_cell hnb9 1
        have q2 : w9.cell? ⟨w8.heap.size, 2, none⟩ = some (.string qn) := HK.blk_cell hnb9 2
        have q3 : w9.cell? ⟨w8.heap.size, 3, none⟩ = some (.slice ea en ec) := HK.blk_cell hnb9 3
        have q4 : w9.cell? ⟨w8.heap.size, 4, none⟩ = some (.slice ia i2 ic) := HK.blk_cell hnb9 4
        have q5 : w9.cell? ⟨w8.heap.size, 5, none⟩ = some (.int .i64 ql) := HK.blk_cell hnb9 5
        have q6 : w9.cell? ⟨w8.heap.size, 6, none⟩ = some (.slice xa xn xc) := HK.blk_cell hnb9 6
        have q7 : w9.cell? ⟨w8.heap.size, 7, none⟩ = some (.slice ka kn kc) := HK.blk_cell hnb9 7
        clear hw9 hBr9 hnb9 hqs9 hq8 hB8 hc9
        clear p0 p1 p2 p3 p4 p5 p6 p7 y0 y1 y2 y3 y4 y5 y6 y7 g0 g1
        go_upto_region 21 with (go_at_call 17; (refine HC9.out.mono ?_; rintro e w10 ⟨rfl, hB10⟩))
        clear q0 q1 q2 q3 q4 q5 q6 q7
        have hnb10 := (hB10.block _ (HK.blk_lt HNB9.out)).trans HNB9.out
        have hqs10 := HQS9.out.up hB10
        have hc10 := QG.out w10 ⟨xa, xn, xc⟩ hqs10
        have HC10 := Lib.hid hc10
        have HB10 := Lib.hid hB10
        have q0 : w10.cell? ⟨w8.heap.size, 0, none⟩ = some (.string qr) := HK.blk_cell hnb10 0
        have q1 : w10.cell? ⟨w8.heap.size, 1, none⟩ = some (.int .u8 qo) := HK.blk_cell hnb10 1
        have q2 : w10.cell? ⟨w8.heap.size, 2, none⟩ = some (.string qn) := HK.blk_cell hnb10 2
        have q3 : w10.cell? ⟨w8.heap.size, 3, none⟩ = some (.slice ea en ec) := HK.blk_cell hnb10 3
        have q4 : w10.cell? ⟨w8.heap.size, 4, none⟩ = some (.slice ia i2 ic) := HK.blk_cell hnb10 4
        have q5 : w10.cell? ⟨w8.heap.size, 5, none⟩ = some (.int .i64 ql) := HK.blk_cell hnb10 5
        have q6 : w10.cell? ⟨w8.heap.size, 6, none⟩ = some (.slice xa xn xc) := HK.blk_cell hnb10 6
        have q7 : w10.cell? ⟨w8.heap.size, 7, none⟩ = some (.slice ka kn kc) := HK.blk_cell hnb10 7
        clear hnb10 hqs10 hc10 hB10
        go_upto_region 22 with (go_at_call 11; (refine HC10.out.mono ?_; rintro e w11 ⟨v2, gs2, rfl, hgd2, hGs2, hB11⟩))
        clear q0 q1 q2 q3 q4 q5 q6 q7
        obtain ⟨ga2, gc2, rfl⟩ := goal_form hGs2
        have hgl2 : gs2.length = nm := by rw [HNM.out, ← hgd2, List.length_map]
        rw [hgl2]
        have hB911 := below_then HB10.out hB11
        have hpb11 := (hB911.block _ (HK.blk_lt HPB9.out)).trans HPB9.out
        have hc11 := HPE.out w11 ⟨sa, sn, sc⟩ (HPS9.out.up hB911)
        have HC11 := Lib.hid hc11
        have HB911 := Lib.hid hB911
        have HGS2 := Lib.hid hGs2
        have HGD2 := Lib.hid hgd2
        have HGL2 := Lib.hid hgl2
        have q0 : w11.cell? ⟨w1.heap.size, 0, none⟩ = some (.string rule) := HK.blk_cell hpb11 0
        have q1 : w11.cell? ⟨w1.heap.size, 1, none⟩ = some (.int .u8 op) := HK.blk_cell hpb11 1
        have q2 : w11.cell? ⟨w1.heap.size, 2, none⟩ = some (.string name) := HK.blk_cell hpb11 2
        have q3 : w11.cell? ⟨w1.heap.size, 3, none⟩ = some (.slice aa an ac) := HK.blk_cell hpb11 3
        have q4 : w11.cell? ⟨w1.heap.size, 4, none⟩ = some (.slice fa fn fc) := HK.blk_cell hpb11 4
        have q5 : w11.cell? ⟨w1.heap.size, 5, none⟩ = some (.int .i64 label) := HK.blk_cell hpb11 5
        have q6 : w11.cell? ⟨w1.heap.size, 6, none⟩ = some (.slice sa sn sc) := HK.blk_cell hpb11 6
        have q7 : w11.cell? ⟨w1.heap.size, 7, none⟩ = some (.slice ma mn mc) := HK.blk_cell hpb11 7
        clear hpb11 hc11 hB911 hB11 hgd2 hGs2 hgl2
        go_upto_region 23 with (go_at_call 18; (refine HC11.out.mono ?_; rintro e w12 ⟨rfl, hB12⟩))
        clear q0 q1 q2 q3 q4 q5 q6 q7
        have hB912 := below_then HB911.out hB12
        have hnb12 := (hB912.block _ (HK.blk_lt HNB9.out)).trans HNB9.out
        have hc12 := QE.out w12 ⟨xa, xn, xc⟩ (HQS9.out.up hB912)
        have HC12 := Lib.hid hc12
        have HB912 := Lib.hid hB912
        have HB12 := Lib.hid hB12
        have q0 : w12.cell? ⟨w8.heap.size, 0, none⟩ = some (.string qr) := HK.blk_cell hnb12 0
        have q1 : w12.cell? ⟨w8.heap.size, 1, none⟩ = some (.int .u8 qo) := HK.blk_cell hnb12 1
        have q2 : w12.cell? ⟨w8.heap.size, 2, none⟩ = some (.string qn) := HK.blk_cell hnb12 2
        have q3 : w12.cell? ⟨w8.heap.size, 3, none⟩ = some (.slice ea en ec) := HK.blk_cell hnb12 3
        have q4 : w12.cell? ⟨w8.heap.size, 4, none⟩ = some (.slice ia i2 ic) := HK.blk_cell hnb12 4
        have q5 : w12.cell? ⟨w8.heap.size, 5, none⟩ = some (.int .i64 ql) := HK.blk_cell hnb12 5
        have q6 : w12.cell? ⟨w8.heap.size, 6, none⟩ = some (.slice xa xn xc) := HK.blk_cell hnb12 6
        have q7 : w12.cell? ⟨w8.heap.size, 7, none⟩ = some (.slice ka kn kc) := HK.blk_cell hnb12 7
        clear hnb12 hc12 hB912 hB12
        go_upto_region 24 with (go_at_call 18; (refine HC12.out.mono ?_; rintro e w13 ⟨rfl, hB13⟩))
        clear q0 q1 q2 q3 q4 q5 q6 q7
        have hB913 := below_then HB912.out hB13
        have hnb13 := (hB913.block _ (HK.blk_lt HNB9.out)).trans HNB9.out
        have hgb13 := (hB913.block _ (HK.blk_lt HGB9.out)).trans HGB9.out
        have g1 : w13.cell? ⟨w5.heap.size, 1, none⟩ = some (.int .i64 (wt : Nat)) := HK.blk_cell hgb13 1
        have hc13 := QS.out w13 ⟨xa, xn, xc⟩ (HQS9.out.up hB913)
        have HC13 := Lib.hid hc13
        have HB913 := Lib.hid hB913
        have HB1113 := Lib.hid (below_then HB12.out hB13)
        have HNB13 := Lib.hid hnb13
        have HGB13 := Lib.hid hgb13
        clear hnb13 hgb13 hc13 hB913 hB13
        have hwt3 : wt ≤ 1152921504606846976 := by omega
        go_upto_if 143 with (fail)
        go_cut [30] from 33 to 150 (fun cr wx => cr = .int .i64 r ∧ wx = w13)
        case first =>
          by_cases hm0 : m = 0
          · have hr0 : r = 0 := by rw [HRR.out, hm0]; simp
            have hmI : ¬ ((0 : Int) < (m : Int)) := by omega
            subst hr0
            clear hm0
            go_wp2_with (fail)
            go_meet
            case rel => exact ⟨rfl, rfl⟩
          · obtain ⟨d2, hd2⟩ : ∃ d2, d2 = wt / (2 * m) := ⟨_, rfl⟩
            have hrd : r = m * d2 := by rw [HRR.out, hd2]
            have hd2l : d2 ≤ wt := by rw [hd2]; exact Nat.div_le_self _ _
            have hmI : (0 : Int) < (m : Int) := by omega
            have hmN : 0 < m := by omega
            have hmd : decide (0 < m) = true := decide_eq_true (by omega)
            have m1 : IntKind.i64.wrap (2 * (m : Int)) = 2 * (m : Int) := IntWalk.i64_in _ (by omega)
            have m2 : (wt : Int) / (2 * (m : Int)) = (d2 : Int) := by rw [hd2, Int.natCast_ediv]; rfl
            have m4 : IntKind.i64.wrap (d2 : Int) = (d2 : Int) := IntWalk.i64_in _ (by omega)
            have m3 : (wt : Int).tdiv (2 * (m : Int)) = (d2 : Int) := by rw [Int.tdiv_eq_ediv_of_nonneg (by omega)]; exact m2
            have m5 : (2 * (m : Int) == 0) = false := by simp; omega
            have m6 : ¬ m = 0 := hm0
            have m7 : ¬ (m : Int) = 0 := by omega
            have m8 : ¬ 2 * (m : Int) = 0 := by omega
            have m9 : (0 : Int) < 2 * (m : Int) := by omega
            have m10 : (0 : Int) ≤ (wt : Int) := by omega
            have m11 : (m : Int) * (d2 : Int) = (r : Int) := by rw [hrd, Int.natCast_mul]
            have m12 : IntKind.i64.wrap (r : Int) = (r : Int) := IntWalk.i64_in _ (by omega)

            clear hd2 hrd
            go_wp2_with (fail)
            go_meet
            case rel => exact ⟨rfl, rfl⟩
        case rest =>
          obtain ⟨rfl, rfl⟩ := hcut
          clear g1
          have q0 : wc.cell? ⟨w8.heap.size, 0, none⟩ = some (.string qr) := HK.blk_cell HNB13.out 0
          have q1 : wc.cell? ⟨w8.heap.size, 1, none⟩ = some (.int .u8 qo) := HK.blk_cell HNB13.out 1
          have q2 : wc.cell? ⟨w8.heap.size, 2, none⟩ = some (.string qn) := HK.blk_cell HNB13.out 2
          have q3 : wc.cell? ⟨w8.heap.size, 3, none⟩ = some (.slice ea en ec) := HK.blk_cell HNB13.out 3
          have q4 : wc.cell? ⟨w8.heap.size, 4, none⟩ = some (.slice ia i2 ic) := HK.blk_cell HNB13.out 4
          have q5 : wc.cell? ⟨w8.heap.size, 5, none⟩ = some (.int .i64 ql) := HK.blk_cell HNB13.out 5
          have q6 : wc.cell? ⟨w8.heap.size, 6, none⟩ = some (.slice xa xn xc) := HK.blk_cell HNB13.out 6
          have q7 : wc.cell? ⟨w8.heap.size, 7, none⟩ = some (.slice ka kn kc) := HK.blk_cell HNB13.out 7
          go_upto_region 28 with (go_at_call 16; (refine HC13.out.mono ?_; rintro e w14 ⟨rfl, hB14⟩))
          clear q0 q1 q2 q3 q4 q5 q6 q7
          have hB914 := below_then HB913.out hB14
          have hB1114 := below_then HB1113.out hB14
          have hgb14 := (hB914.block _ (HK.blk_lt HGB9.out)).trans HGB9.out
          have g1 : w14.cell? ⟨w5.heap.size, 1, none⟩ = some (.int .i64 (wt : Nat)) := HK.blk_cell hgb14 1
          have hGa := (HGS4.out.below HB49.out).below hB914
          rw [HGL.out] at hGa
          have hGb := HGS2.out.below hB1114
          rw [HGL2.out] at hGb
          have hgda := HGD.out
          have hgdb := HGD2.out
          have ea : restN (goalsB L) = was := by rw [restN_eq, ← HNA.out, ← HSA.out, HWAS.out]
          have keep : ∀ W w', Below w14.heap.size w14 W → Below W.heap.size W w' → Below w14.heap.size w14 w' ∧ w'.cell? ⟨w5.heap.size, 1, none⟩ = some (.int .i64 (wt : Nat)) := fun W w' h1 h2 => ⟨below_then h1 h2, cell_then g1 (below_then h1 h2)⟩
          have l1 : ∀ W, Below w14.heap.size w14 W → Calls Try.prog 29 #[.slice (some ⟨g, 0, none⟩) na gc] W fun e w' => e = .returned (.int .i64 (was : Nat)) ∧ Below w14.heap.size w14 w' ∧ w'.cell? ⟨w5.heap.size, 1, none⟩ = some (.int .i64 (wt : Nat)) := fun W hW => by
            have h9 := left_call W _ _ gs (hGa.below hW) (by rw [hgda, ← HSA.out]; exact hSle) (by rw [HGL.out]; omega)
            rw [hgda, ea] at h9
            exact h9.mono fun e w' h => ⟨h.1, keep W w' hW h.2⟩
          have s1 : ∀ W, Below w14.heap.size w14 W → Calls Try.prog 30 #[.slice (some ⟨g, 0, none⟩) na gc] W fun e w' => e = .returned (.int .i64 (Sa : Nat)) ∧ Below w14.heap.size w14 w' ∧ w'.cell? ⟨w5.heap.size, 1, none⟩ = some (.int .i64 (wt : Nat)) := fun W hW => by
            have h9 := sum_call W _ _ gs (hGa.below hW) (by rw [hgda, ← HSA.out]; exact hSle) (by rw [HGL.out]; omega)
            rw [hgda, ← HSA.out] at h9
            exact h9.mono fun e w' h => ⟨h.1, keep W w' hW h.2⟩
          have l2 : ∀ W, Below w14.heap.size w14 W → Calls Try.prog 29 #[.slice ga2 nm gc2] W fun e w' => e = .returned (.int .i64 (now : Nat)) ∧ Below w14.heap.size w14 w' ∧ w'.cell? ⟨w5.heap.size, 1, none⟩ = some (.int .i64 (wt : Nat)) := fun W hW => by
            have h9 := left_call W _ _ gs2 (hGb.below hW) (by rw [hgdb, ← HSM.out]; exact x6) (by rw [HGL2.out]; omega)
            rw [hgdb, restN_eq, ← HNM.out, ← HSM.out, ← HNOW.out] at h9
            exact h9.mono fun e w' h => ⟨h.1, keep W w' hW h.2⟩
          have s2 : ∀ W, Below w14.heap.size w14 W → Calls Try.prog 30 #[.slice ga2 nm gc2] W fun e w' => e = .returned (.int .i64 (Sm : Nat)) ∧ Below w14.heap.size w14 w' ∧ w'.cell? ⟨w5.heap.size, 1, none⟩ = some (.int .i64 (wt : Nat)) := fun W hW => by
            have h9 := sum_call W _ _ gs2 (hGb.below hW) (by rw [hgdb, ← HSM.out]; exact x6) (by rw [HGL2.out]; omega)
            rw [hgdb, ← HSM.out] at h9
            exact h9.mono fun e w' h => ⟨h.1, keep W w' hW h.2⟩
          have L1 := Lib.hid l1
          have L2 := Lib.hid l2
          have S1 := Lib.hid s1
          have S2 := Lib.hid s2
          obtain ⟨Sw, hSw⟩ : ∃ Sw, Sw = Sa - wt := ⟨_, rfl⟩
          have hqq5 := HQ5.out
          rw [← HRR.out] at hqq5
          have t1 : (Sa : Int) - (wt : Int) = (Sw : Int) := by omega
          have t2 : (Sw : Int) + (r : Int) = (Sm : Int) := by omega
          have t3 : IntKind.i64.wrap ((Sa : Int) - (wt : Int)) = (Sw : Int) := by rw [IntWalk.i64_in _ (by omega)]; exact t1
          have t4 : IntKind.i64.wrap ((Sw : Int) + (r : Int)) = (Sm : Int) := by rw [IntWalk.i64_in _ (by omega)]; exact t2
          have t5 : IntKind.i64.wrap (Sw : Int) = (Sw : Int) := IntWalk.i64_in _ (by omega)
          have t6 : IntKind.i64.wrap (Sm : Int) = (Sm : Int) := IntWalk.i64_in _ (by omega)
          have HB914 := Lib.hid hB914
          clear l1 l2 s1 s2 keep hGa hGb hgda hgdb ea hgb14 hB1114 hB914 hB14 hqq5 hSw
          go_cut [177] from 33 to 176 (fun cr wx => cr = .bool false ∧ Below w14.heap.size w14 wx)
          case first =>
            go_region_law
              ((go_simp
                first
                  | (go_at_call 29
                     first
                      | (with_reducible refine (L1.out _ ?_).mono ?_; (first | exact bl_d _ | assumption); rintro e w' ⟨rfl, hcur, hcell⟩)
                      | (with_reducible refine (L2.out _ ?_).mono ?_; (first | exact bl_d _ | assumption); rintro e w' ⟨rfl, hcur, hcell⟩))
                  | (go_at_call 30
                     first
                      | (with_reducible refine (S1.out _ ?_).mono ?_; (first | exact bl_d _ | assumption); rintro e w' ⟨rfl, hcur, hcell⟩)
                      | (with_reducible refine (S2.out _ ?_).mono ?_; (first | exact bl_d _ | assumption); rintro e w' ⟨rfl, hcur, hcell⟩))))
            all_goals (
              simp only [Exit.inBlock, Exit.then]
              go_simp
              go_step
              go_meet)
            all_goals exact ⟨by first | rfl | (rw [t6]; simp), by first | assumption | exact bl_d _⟩
          case rest =>
            obtain ⟨rfl, hBc⟩ := hcut
            have g2 := cell_then g1 hBc
            have HBC := Lib.hid (below_then HW4.out (below_then HB49.out (below_then HB914.out hBc)))
            obtain ⟨na1, hna1⟩ : ∃ na1, na1 = na - 1 := ⟨_, rfl⟩
            have f1 : (na : Int) - 1 = (na1 : Int) := by omega
            have f2 : (na1 : Int) + (m : Int) = (nm : Int) := by omega
            have f3 : (was : Int) ≤ (now : Int) := by omega
            have f4 : (pm : Int) ≤ (po : Int) := by omega
            have f5 : (pm : Int) < 1000 := by omega
            have hx5 := HX5.out
            have HX2 := Lib.hid x2
            clear g1 hBc hna1 x2
            obtain ⟨bz, f6, f7⟩ : ∃ bz : Bool, ((po : Int) == 1000) = bz ∧ ((nm : Int) == 0) = bz := by
              by_cases hz : nm = 0
              · refine ⟨true, ?_, ?_⟩
                · have := hx5.2 hz; simp; omega
                · simp; omega
              · refine ⟨false, ?_, ?_⟩
                · have h9 : po ≠ 1000 := fun e => hz (hx5.1 e)
                  simp; omega
                · simp; omega
            clear hx5
            by_cases hlt : was < now
            · have f8 : (was : Int) < (now : Int) := by omega
              go_wp2_with (go_at_call 14; (refine (haw _).mono ?_; rintro e w15 ⟨rfl, hB15⟩))
              go_ret
              exact ⟨rfl, below_then HBC.out hB15⟩
            · have f8 : ¬ (was : Int) < (now : Int) := by omega
              have f9 : (wt : Int) ≤ 1 := by have := HX2.out.resolve_left hlt; omega
              go_wp2_with (go_at_call 14; (refine (haw _).mono ?_; rintro e w15 ⟨rfl, hB15⟩))
              go_ret
              exact ⟨rfl, below_then HBC.out hB15⟩
end Go.Proofs.Ytfebcpmbkljaoaa
