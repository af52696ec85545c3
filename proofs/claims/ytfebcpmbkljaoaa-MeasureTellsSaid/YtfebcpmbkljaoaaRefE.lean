/- The reference: Goals. -/
import Derived.Test.YtfebcpmbkljaoaaRefC
namespace Go.Proofs.Ytfebcpmbkljaoaa
open Go.RowKit Go.HR
set_option linter.unusedVariables false
set_option linter.unusedSimpArgs false
set_option linter.unusedSectionVars false
theorem elem83 : HK.ElemOk Try.prog 47 83 2 32 := HK.ElemOk.mk' (z := .agg #[.slice none 0 0, .int .i64 0]) Try.underlying47 (by kernel_rfl) rfl (by decide)
/-- Goals of the reference in memory. -/
def IsG8 (W : World) (base : Nat) (v : Value) (gs : List StepV) : Prop := W.ownsRow base 83 2 v gs.length (flatG gs) ∧ (gs = [] → v = .slice none 0 0) ∧ ∀ x ∈ gs, PlaceB W x.pv x.d.pl
theorem IsG8.below {W W' : World} {base : Nat} {v : Value} {gs : List StepV} (h : IsG8 W base v gs) (hb : Below W.heap.size W W') : IsG8 W' base v gs :=
  ⟨own_below h.1 hb, h.2.1, fun x hx => place_up (h.2.2 x hx) hb⟩
theorem IsG8.mono {W : World} {b b' : Nat} {v : Value} {gs : List StepV} (h : IsG8 W b v gs) (hb : b' ≤ b) : IsG8 W b' v gs := by
  refine ⟨⟨h.1.1, ?_⟩, h.2⟩
  rcases h.1.2 with h0 | ⟨g, cap, cur, hv, hg, r⟩
  · exact .inl h0
  · exact .inr ⟨g, cap, cur, hv, Nat.le_trans hb hg, r⟩
def RetGs (w : World) (r : List StepD × Nat) (e : Ending) (w' : World) : Prop :=
  ∃ v gs, e = .returned (.tuple #[v, .int .i64 (r.2 : Nat)]) ∧ gs.map (·.d) = r.1 ∧ IsG8 w' w.heap.size v gs ∧ Below w.heap.size w w'
theorem goalsF_more {bad : StepD → Bool} {pl : List Nat} {w k : Nat} {ts : List PT} {q : PT} (h : ts[k]? = some q) :
    (goalsF bad pl w 0 (ts.take (k + 1))).1 = (goalsF bad pl w 0 (ts.take k)).1 ++ (goalsT bad (pl ++ [k]) w q).1 ∧ (goalsF bad pl w 0 (ts.take (k + 1))).2 = (goalsF bad pl w 0 (ts.take k)).2 + (goalsT bad (pl ++ [k]) w q).2 := by
  have hk : (ts.take k).length = k := by
    have := (List.getElem?_eq_some_iff.1 h).1
    simp; omega
  rw [List.take_add_one, h]
  show (goalsF bad pl w 0 (ts.take k ++ [q])).1 = _ ∧ (goalsF bad pl w 0 (ts.take k ++ [q])).2 = _
  rw [goalsF_append, hk]
  simp [goalsF]
mutual
theorem goalsT_cnt (bad : StepD → Bool) (pl : List Nat) (w : Nat) : ∀ t : PT, (goalsT bad pl w t).2 ≤ sizeT t ∧ (goalsT bad pl w t).1.length ≤ sizeT t
  | .node r o s => by
    have := goalsF_cnt bad pl (w / (2 * s.length)) 0 s
    simp only [goalsT, sizeT]
    split
    · simp
    · simp; omega
theorem goalsF_cnt (bad : StepD → Bool) (pl : List Nat) (w i : Nat) : ∀ ts : List PT, (goalsF bad pl w i ts).2 ≤ sizeF ts ∧ (goalsF bad pl w i ts).1.length ≤ sizeF ts
  | [] => by simp [goalsF, sizeF]
  | t :: ts => by
    have h1 := goalsT_cnt bad (pl ++ [i]) w t
    have h2 := goalsF_cnt bad pl w (i + 1) ts
    simp only [goalsF, sizeF, List.length_append]
    omega
end
theorem run_appnn {P : Program} {w : World} {t ty e size bytes : Nat} (E : HK.ElemOk P t e size bytes) : (Builtin.append_ #[t, t] ty #[.slice none 0 0, .slice none 0 0]).run P w = .ok (.slice none 0 0) w := by
  obtain ⟨ht, i, z, hi, h0, h2, h3, h4, h5⟩ := E
  simp [Builtin.append_, run_underlying ht, sizeOf, typeInfo, hi, Builtin.lenOf, Builtin.firstCells, storeCells]
theorem step_appnn {P : Program} {w : World} {ops : Array Oper} {o : Oper} {a : Act} {Q : Exit → Act → World → Prop} {K : Act → World → Prop} {R : Prop} (d : Nat) (hd : o.dst = some d) (hgd : o.guard = none) {t e size bytes : Nat} (E : HK.ElemOk P t e size bytes) (s x : Operand)
    (ho : o.op = .call { callee := .builtin .append, args := #[s, x], argTypes := #[t, t] }) (hs : a.eval s = .slice none 0 0) (hx : a.eval x = .slice none 0 0)
    (h : K (a.put o.dst (.slice none 0 0)) w) : if Region.wanted o (yielded ops a.tmps) = true then Oper.wp P o a w K Q else R := by
  rw [if_pos (by simp [Region.wanted, hgd])]
  have hr := run_appnn (w := w) (ty := o.type) E
  unfold Oper.wp execOp
  simp only [ho, resolve, invoke, builtin, Sem.run_bind, Sem.run_pure, Result.andThen_ok, List.map_toArray, List.map_cons, List.map_nil, hs, hx, hr]
  exact h
theorem flatG_app (gs hs : List StepV) : flatG (gs ++ hs) = flatG gs ++ flatG hs := by simp [flatG]
theorem flatG_length (gs : List StepV) : (flatG gs).length = gs.length * 2 := by
  induction gs with
  | nil => rfl
  | cons g gs ih => show (_ ++ flatG gs).length = _; rw [List.length_append, ih]; simp; omega
theorem flatG_one {hs : List StepV} (u : Value) (hu : u ∈ flatG hs) : u.oneCell' = true := by
  simp only [flatG, List.mem_flatMap] at hu
  obtain ⟨x, _, hx⟩ := hu
  simp only [List.mem_cons, List.not_mem_nil, or_false] at hx
  rcases hx with rfl | rfl <;> rfl
theorem place_grownE {W W' : World} {b n e sz : Nat} {v : Value} {xs : List Value} {s : SL} {pl : List Nat} (hne : e ≠ 3) (hv : W.ownsRow b e sz v n xs) (hg : W.grownBy W' v.ownBlock) (hp : PlaceB W s pl) : PlaceB W' s pl := by
  refine hp.same fun k hk => hg.block k (hp.lt hk) fun h => ?_
  rcases hv.2 with ⟨h0, _⟩ | ⟨g, cap, cur, hv', _, hh, _⟩
  · rw [h0] at h; simp [Value.ownBlock] at h
  · rw [hv'] at h
    simp only [Value.ownBlock, Option.some.injEq] at h
    subst h
    rcases hp.2 with ⟨h0, _⟩ | ⟨g', cap', cur', hv2, _, hh', _⟩
    · rw [h0] at hk; simp [Value.ownBlock] at hk
    · rw [hv2] at hk
      simp only [Value.ownBlock, Option.some.injEq] at hk
      subst hk
      rw [hh] at hh'
      simp only [Option.some.injEq, Obj.cells.injEq] at hh'
      exact hne hh'.2.1
theorem IsG8.app {W W' W0 : World} {b g cap : Nat} {v : Value} {gs hs : List StepV} (h : IsG8 W b v gs) (h2 : ∀ x ∈ hs, PlaceB W x.pv x.d.pl) (hne : hs ≠ []) (hb : b ≤ W.heap.size)
    (hown : W'.ownsRow 0 83 2 (.slice (some ⟨g, 0, none⟩) (gs.length + hs.length) cap) (gs.length + hs.length) (flatG gs ++ flatG hs)) (hg : W.grownBy W' v.ownBlock) (hat : v.ownBlock = some g ∨ g = W.heap.size) :
    IsG8 W' b (.slice (some ⟨g, 0, none⟩) (gs.length + hs.length) cap) (gs ++ hs) := by
  have hbg : b ≤ g := by
    rcases hat with h1 | h1
    · rcases h.1.2 with ⟨h0, _⟩ | ⟨g', cap', cur, hv, hg', _⟩
      · rw [h0] at h1; simp [Value.ownBlock] at h1
      · rw [hv] at h1; simp only [Value.ownBlock, Option.some.injEq] at h1; omega
    · omega
  refine ⟨?_, fun e => ?_, fun x hx => ?_⟩
  · rw [List.length_append, flatG_app]
    refine ⟨hown.1, ?_⟩
    rcases hown.2 with ⟨h0, _⟩ | ⟨g', cap', cur, hv, _, r⟩
    · cases h0
    · have hgg := hv
      simp only [Value.slice.injEq, Option.some.injEq, Addr.mk.injEq] at hgg
      exact .inr ⟨g', cap', cur, hv, by rw [← hgg.1.1]; exact hbg, r⟩
  · exact absurd (List.append_eq_nil_iff.1 e).2 hne
  · rcases List.mem_append.1 hx with h3 | h3
    · exact place_grownE (by decide) h.1 hg (h.2.2 x h3)
    · exact place_grownE (by decide) h.1 hg (h2 x h3)
def GoalsOk (t : PT) : Prop := ∀ (w : World) (sv s sw : SL) (pl : List Nat) (wt : Nat) (ws : List (List Int)), IsPs w.heap.size w sv t.subs → PlaceB w s pl → pl.length + sizeT t ≤ 10000 → wt ≤ 1152921504606846976 → IsW w sw ws → ws.length ≤ 20000 → (∀ u ∈ ws, u.length ≤ 20000) →
  Calls Try.prog 20 #[.agg (t.arr sv), s.v, .int .i64 (wt : Nat), sw.v] w (RetGs w (goalsT (badD ws) pl wt t))
set_option maxRecDepth 100000 in
set_option maxHeartbeats 16000000 in
theorem goals_of (t : PT) (he : ∀ (i : Nat) q, t.subs[i]? = some q → GoalsOk q) : GoalsOk t := by
  intro w sv s sw pl wt ws hs hp hz hwt hw hwl hwu
  have hln := hs.len
  have hsz := sizeT_eq t
  have hbd : badD ws ⟨pl, wt, t⟩ = decide (natI pl ∈ ws) := rfl
  have hpn := hp.sn
  have hhas := fun (W : World) (hB : Below w.heap.size w W) => has_call W sw s ws (natI pl) (hw.below hB) (place_up hp hB).isI hwl hwu (by simp [natI]; omega)
  obtain ⟨tt, htt⟩ : ∃ tt, tt = t := ⟨_, rfl⟩
  have hgt : goalsT (badD ws) pl wt tt = if badD ws ⟨pl, wt, tt⟩ || decide (tt.rule = ⟨#[63]⟩) then ([⟨pl, wt, tt⟩], 0) else ((goalsF (badD ws) pl (wt / (2 * tt.subs.length)) 0 tt.subs).1, 1 + (goalsF (badD ws) pl (wt / (2 * tt.subs.length)) 0 tt.subs).2) := by
    cases tt; rfl
  rw [← htt] at hbd hsz hz ⊢
  obtain ⟨rule, ⟨op, name, ⟨aa, an, ac⟩, ⟨fa, fn, fc⟩, label, ⟨ma, mn, mc⟩⟩, subs⟩ := t
  obtain ⟨sa, sn, sc⟩ := sv
  obtain ⟨pa, pn, pc⟩ := s
  obtain ⟨wa, wn, we⟩ := sw
  have hta : PT.arr tt ⟨sa, sn, sc⟩ = #[.string rule, .int .u8 op, .string name, .slice aa an ac, .slice fa fn fc, .int .i64 label, .slice sa sn sc, .slice ma mn mc] := by rw [htt]; rfl
  have htr : tt.rule = rule := by rw [htt]; rfl
  have hts : tt.subs = subs := by rw [htt]; rfl
  simp only [PT.subs] at hs he hln
  rw [hts] at hgt hsz
  rw [htr, hbd] at hgt
  simp only [hta, SL.v] at hhas hpn ⊢
  unfold RetD at hhas
  have hsn : sn ≤ 10000 := by have := sizeF_len subs; omega
  obtain ⟨bb, hbb⟩ : ∃ bb, bb = decide (natI pl ∈ ws) := ⟨_, rfl⟩
  rw [← hbb] at hgt hhas
  obtain ⟨bh, hbh⟩ : ∃ bh : Bool, bh = (rule.toList == [63]) := ⟨_, rfl⟩
  have e1 : (rule.toList == [63]) = bh := hbh.symm
  rw [← rule_hole rule, ← hbh] at hgt
  obtain ⟨R, hR⟩ : ∃ R, R = goalsT (badD ws) pl wt tt := ⟨_, rfl⟩
  rw [← hR] at hgt ⊢
  obtain ⟨G, hG⟩ : ∃ G, G = w.heap.size := ⟨_, rfl⟩
  obtain ⟨w1, hw1⟩ : ∃ w1, w1 = w.alloc (.cells #[.string rule, .int .u8 op, .string name, .slice aa an ac, .slice fa fn fc, .int .i64 label, .slice sa sn sc, .slice ma mn mc] 30) := ⟨_, rfl⟩
  have hB1 : Below w.heap.size w w1 := by rw [hw1]; exact bl_al (Below.refl _ _)
  have hx1 : w1.heap[G]? = some (.cells #[.string rule, .int .u8 op, .string name, .slice aa an ac, .slice fa fn fc, .int .i64 label, .slice sa sn sc, .slice ma mn mc] 30 (0, 0)) := by rw [hw1, hG]; exact HK.blk_new _ _
  have HH := Lib.hid (hhas w1 hB1)
  have HGT := Lib.hid hgt
  have HS := Lib.hid hs
  have HE := Lib.hid he
  have HLN := Lib.hid hln
  have HSZ := Lib.hid hsz
  have HPN := Lib.hid hpn
  have HP := Lib.hid hp
  have HWI := Lib.hid hw
  have HWU := Lib.hid hwu
  have HB1 := Lib.hid hB1
  have HX1 := Lib.hid hx1
  have HW1 := Lib.hid hw1
  have HG := Lib.hid hG
  have hpl : pn ≤ 10000 := by omega
  have hplz : pl.length + sizeF subs ≤ 9999 := by omega
  clear hhas hgt hs he hln hsz hpn hp hw hwu hB1 hw1 hG hbd htt hta htr hts hbb hbh hR hz
  go_enter Try.func20, Try.ntmps20
  go_upto_region 1 with (fail)
  rw [← HW1.out, ← HG.out]
  go_cut [22] from 15 to 22 (fun v wx => v = .bool (bh || bb) ∧ ∃ d, wx = w1.drewN d)
  case first =>
    have x0 := HK.blk_cell hx1 0
    clear hx1
    cases bh with
    | true =>
      go_wp2_with (fail)
      go_meet
      case rel => exact ⟨rfl, 0, rfl⟩
    | false =>
      go_wp2_with (go_at_call 44; (refine HH.out.mono ?_; rintro e w2 ⟨rfl, d, rfl⟩))
      go_meet
      case rel => exact ⟨by simp, d, rfl⟩
  case rest =>
    obtain ⟨rfl, d, hwc⟩ := hcut
    obtain ⟨w2, hw2⟩ : ∃ w2 : World, w2 = wc := ⟨_, rfl⟩
    rw [← hw2]
    have hwd : w2 = w1.drewN d := hw2.trans hwc
    have hB2 : Below w.heap.size w w2 := by rw [hwd]; exact HB1.out.trans ⟨rfl, rfl, rfl, Nat.le_refl _, fun _ _ => rfl⟩
    have hx2 : w2.heap[G]? = some (.cells #[.string rule, .int .u8 op, .string name, .slice aa an ac, .slice fa fn fc, .int .i64 label, .slice sa sn sc, .slice ma mn mc] 30 (0, 0)) := by rw [hwd]; exact HX1.out
    have HB2 := Lib.hid hB2
    have HX2 := Lib.hid hx2
    clear hwc hw2 hwd hB2 hx2 hx1 e1
    obtain ⟨bo, hbo⟩ : ∃ bo, bo = (bh || bb) := ⟨_, rfl⟩
    rw [← hbo]
    have HBO := Lib.hid hbo
    clear hbo
    cases bo with
    | true =>
      have hRe : R = ([⟨pl, wt, tt⟩], 0) := by rw [HGT.out, Bool.or_comm, ← HBO.out]; rfl
      have HRE := Lib.hid hRe
      clear hRe
      have hpl2 := fun (W : World) (hB : Below w2.heap.size w2 W) => place_up HP.out (below_then HB2.out hB)
      have HPL := Lib.hid hpl2
      clear hpl2
      go_wp2_with (first
        | (refine wpList_step fun K hK => ?_
           refine step_place 25 (by rfl) (by rfl) _ _ (by rfl) w2.heap.size (by rfl) (HK.blk_new _ _) pa pn pc pl (by rfl) (HPL.out _ (bl_al (Below.refl _ _))) (by omega) ?_
           intro g3 c3 w3 hown hgrow hat
           refine hK _ _ ?_
           have HO := Lib.hid hown
           have HGR := Lib.hid hgrow
           clear hown hgrow hat hK K))
      go_ret2
      have hb3 : Below w.heap.size w w3 := grown_below (below_then HB2.out (bl_al (Below.refl _ _))) HGR.out HB2.out.size
      refine ⟨_, [⟨⟨pl, wt, tt⟩, ⟨some ⟨g3, 0, none⟩, pn, c3⟩, SL.nil⟩], by rw [HRE.out]; rfl, by rw [HRE.out]; rfl, ⟨⟨rfl, .inr ⟨w3.heap.size, 1, #[.slice (some ⟨g3, 0, none⟩) pn c3, .int .i64 wt], rfl, hb3.size, HK.blk_new _ _, Nat.le_refl _, by simp [maxLen], rfl, rfl⟩⟩, (fun h => nomatch h), fun x hx => ?_⟩, bl_al hb3⟩
      rw [List.mem_singleton.1 hx]
      unfold PlaceB
      show (w3.alloc _).ownsRow 0 3 1 (.slice (some ⟨g3, 0, none⟩) pn c3) pl.length (ints pl)
      rw [← HPN.out]
      exact own_below HO.out (bl_al (Below.refl _ _))
    | false =>
      obtain ⟨wq, hwq⟩ : ∃ wq, wq = wt / (2 * subs.length) := ⟨_, rfl⟩
      have hRe : R = ((goalsF (badD ws) pl wq 0 subs).1, 1 + (goalsF (badD ws) pl wq 0 subs).2) := by rw [HGT.out, Bool.or_comm, ← HBO.out, hwq]; rfl
      have HRE := Lib.hid hRe
      have hwq2 : wq = wt / (2 * sn) := by rw [hwq, HLN.out]
      have hwqt : wq ≤ wt := by rw [hwq]; exact Nat.div_le_self _ _
      have HWQ := Lib.hid hwq2
      have HWQT := Lib.hid hwqt
      clear hRe hwq hwq2 hwqt
      go_upto_block 0 with (fail)
      go_wp2_with (fail)
      go_loopw [10, 11, 12] (fun ov nv jv wr => ∃ (k m : Nat) (gs : List StepV), k ≤ sn ∧ jv = .int .i64 k ∧ nv = .int .i64 m ∧ gs.map (·.d) = (goalsF (badD ws) pl wq 0 (subs.take k)).1 ∧ m = 1 + (goalsF (badD ws) pl wq 0 (subs.take k)).2 ∧ IsG8 wr w2.heap.size ov gs ∧ Below w2.heap.size w2 wr) (fun _ _ j _ => sn - (intOf j).toNat)
      case atStart => exact ⟨0, 1, [], by omega, rfl, rfl, rfl, rfl, ⟨World.ownsRow_nil _ _ _ _, fun _ => rfl, fun x hx => by cases hx⟩, Below.refl _ _⟩
      case round =>
        obtain ⟨wo, hwo⟩ : ∃ wo : World, wo = wr := ⟨_, rfl⟩
        rw [← hwo] at hrel ⊢
        clear hwo
        obtain ⟨k, m, gs, hk, rfl, rfl, hgs, hme, hig, hBr⟩ := hrel
        have hxo := (hBr.block _ (HK.blk_lt HX2.out)).trans HX2.out
        have x6 := HK.blk_cell hxo 6
        simp only [List.getElem?_toArray, List.getElem?_cons_succ, List.getElem?_cons_zero] at x6
        have hBw := below_then HB2.out hBr
        clear hxo
        by_cases h1 : k < sn
        · obtain ⟨q, hq⟩ : ∃ q, subs[k]? = some q := ⟨_, List.getElem?_eq_getElem (by rw [← HLN.out]; exact h1)⟩
          obtain ⟨g, o, s', ha, hg, hpc, hps⟩ := psAt HS.out hq
          subst ha
          obtain ⟨ta, tn, tc⟩ := s'
          have hsq := sizeF_mem hq
          have hmore := goalsF_more (bad := badD ws) (pl := pl) (w := wq) hq
          obtain ⟨RG, hRG⟩ : ∃ RG, RG = goalsT (badD ws) (pl ++ [k]) wq q := ⟨_, rfl⟩
          have hRGc := goalsT_cnt (badD ws) (pl ++ [k]) wq q
          rw [← hRG] at hRGc hmore
          have hc := fun (W : World) (s' : SL) (hB : Below wo.heap.size wo W) (hp' : PlaceB W s' (pl ++ [k])) => HE.out k q hq W ⟨ta, tn, tc⟩ s' ⟨wa, wn, we⟩ (pl ++ [k]) wq ws (hps.up (below_then hBw hB)) hp' (by simp only [List.length_append, List.length_singleton]; omega) (by have := HWQT.out; omega) (HWI.out.below (below_then hBw hB)) hwl HWU.out
          unfold RetGs at hc
          rw [← hRG] at hc
          simp only [PT.arr, SL.v] at hc
          have hpc2 := fun (j : Nat) (v : Value) (h : (q.vals ⟨ta, tn, tc⟩)[j]? = some v) => cell_then (hpc j v h) hBw
          have hpl3 := place_up HP.out hBw
          obtain ⟨rg2, hrg2⟩ : ∃ rg2, rg2 = RG.2 := ⟨_, rfl⟩
          have HC := Lib.hid hc
          have HPC := Lib.hid hpc2
          have HPL := Lib.hid hpl3
          have HMORE := Lib.hid hmore
          have HGS := Lib.hid hgs
          have HME := Lib.hid hme
          have HIG := Lib.hid hig
          have HBR := Lib.hid hBr
          have hq1 : (wt : Int) / (2 * (sn : Int)) = (wq : Int) := by rw [HWQ.out, Int.natCast_ediv]; rfl
          have hq2 : (wt : Int).tdiv (2 * (sn : Int)) = (wq : Int) := by rw [Int.tdiv_eq_ediv_of_nonneg (by omega)]; exact hq1
          have HQ1 := Lib.hid hq1
          have HQ2 := Lib.hid hq2
          have HRGC := Lib.hid hRGc
          have HSQ := Lib.hid hsq
          have z0 : (0 : Int) ≤ (k : Int) := by omega
          have z1 : (k : Int) < (sn : Int) := by omega
          have hwqb : wq ≤ 1152921504606846976 := by have := HWQT.out; omega
          have HQ := Lib.hid hq
          clear hq1 hq2 hc hpc hpc2 hps hg hsq hmore hRGc hpl3 hgs hme hig hBr hBw hq hRG hrg2
          go_upto_region 8 with (fail)
          go_cut [13, 14] from 36 to 57 (fun v c wx => ∃ hs : List StepV, c = .int .i64 ((RG.2 : Nat) : Int) ∧ hs.map (·.d) = RG.1 ∧ IsG8 wx wo.heap.size v hs ∧ Below wo.heap.size wo wx)
          case first =>
            refine Go.RE.wp_region_each [37, 38, 39, 40, 41, 42, 43, 44, 45, 46, 47, 48, 49, 50, 51, 52, 53, 54, 55, 36, 56, 57, 13, 14] (fun L x W => (Below wo.heap.size wo W) ∧ (L 0 = true → x 37 = .pointer (some ⟨G, 6, none⟩)) ∧ (L 1 = true → x 38 = .slice (some ⟨g, o, none⟩) sn sc) ∧ (L 2 = true → x 39 = .int .i64 (k : Int)) ∧ (L 3 = true → x 40 = .pointer (some ⟨g, o + k * 8, none⟩)) ∧ (L 4 = true → x 41 = .agg #[.string q.rule, .int .u8 q.o.op, .string q.o.name, .slice q.o.args.a q.o.args.n q.o.args.c, .slice q.o.fsub.a q.o.fsub.n q.o.fsub.c, .int .i64 q.o.label, .slice ta tn tc, .slice q.o.marks.a q.o.marks.n q.o.marks.c]) ∧ (L 5 = true → ∃ e, x 42 = .slice (some ⟨e, 0, none⟩) 0 0 ∧ wo.heap.size ≤ e ∧ (L 7 = true ∨ W.heap[e]? = some (.cells #[] 3 (0, 0)))) ∧ (L 6 = true → x 43 = .slice pa pn pc) ∧ (L 7 = true → ∃ e c, x 44 = .slice (some ⟨e, 0, none⟩) pn c ∧ wo.heap.size ≤ e ∧ (L 10 = true ∨ W.ownsRow 0 3 1 (.slice (some ⟨e, 0, none⟩) pn c) pn (ints pl))) ∧ (L 8 = true → x 45 = .int .i64 (k : Int)) ∧ (L 9 = true → ∃ e, x 46 = .slice (some ⟨e, 0, none⟩) 1 1 ∧ (L 10 = true ∨ W.heap[e]? = some (.cells #[.int .i64 (k : Int)] 3 (0, 0)))) ∧ (L 10 = true → L 7 = true ∧ (∃ e c, x 47 = .slice (some ⟨e, 0, none⟩) (pn + 1) c ∧ (L 18 = true ∨ W.ownsRow 0 3 1 (.slice (some ⟨e, 0, none⟩) (pn + 1) c) (pn + 1) (ints (pl ++ [k]))))) ∧ (L 11 = true → x 48 = .int .i64 (wt : Int)) ∧ (L 12 = true → x 49 = .pointer (some ⟨G, 6, none⟩)) ∧ (L 13 = true → x 50 = .slice (some ⟨g, o, none⟩) sn sc) ∧ (L 14 = true → x 51 = .int .i64 (sn : Int)) ∧ (L 15 = true → x 52 = .int .i64 (2 * (sn : Int))) ∧ (L 16 = true → x 53 = .int .i64 (wq : Int)) ∧ (L 17 = true → x 54 = .slice wa wn we) ∧ (L 18 = true → L 7 = true ∧ L 10 = true ∧ (∃ (v : Value) (hs : List StepV), x 55 = .tuple #[v, .int .i64 ((RG.2 : Nat) : Int)] ∧ hs.map (·.d) = RG.1 ∧ IsG8 W wo.heap.size v hs)) ∧ (L 19 = true → L 18 = true ∧ x 36 = x 55) ∧ (L 20 = true → L 18 = true ∧ ∃ u, x 55 = .tuple #[x 56, u]) ∧ (L 21 = true → x 57 = .int .i64 ((RG.2 : Nat) : Int)) ∧ (L 22 = true → L 20 = true ∧ x 13 = x 56) ∧ (L 23 = true → x 14 = .int .i64 ((RG.2 : Nat) : Int))) (by kernel_rfl) (by kernel_rfl) (by kernel_rfl) ?_ ((Go.RE.Each.cons ?_ (Go.RE.Each.cons ?_ (Go.RE.Each.cons ?_ (Go.RE.Each.cons ?_ (Go.RE.Each.cons ?_ (Go.RE.Each.cons ?_ (Go.RE.Each.cons ?_ (Go.RE.Each.cons ?_ (Go.RE.Each.cons ?_ (Go.RE.Each.cons ?_ (Go.RE.Each.cons ?_ (Go.RE.Each.cons ?_ (Go.RE.Each.cons ?_ (Go.RE.Each.cons ?_ (Go.RE.Each.cons ?_ (Go.RE.Each.cons ?_ (Go.RE.Each.cons ?_ (Go.RE.Each.cons ?_ (Go.RE.Each.cons ?_ (Go.RE.Each.cons ?_ (Go.RE.Each.cons ?_ (Go.RE.Each.cons ?_ (Go.RE.Each.cons ?_ (Go.RE.Each.cons ?_ Go.RE.Each.nil))))))))))))))))))))))))) ?_
            · exact fun x => ⟨bl_dr (Below.refl _ wo), fun h => (by cases h), fun h => (by cases h), fun h => (by cases h), fun h => (by cases h), fun h => (by cases h), fun h => (by cases h), fun h => (by cases h), fun h => (by cases h), fun h => (by cases h), fun h => (by cases h), fun h => (by cases h), fun h => (by cases h), fun h => (by cases h), fun h => (by cases h), fun h => (by cases h), fun h => (by cases h), fun h => (by cases h), fun h => (by cases h), fun h => (by cases h), fun h => (by cases h), fun h => (by cases h), fun h => (by cases h), fun h => (by cases h), fun h => (by cases h)⟩
            · intro L x a w K hL hd hf hx hΦ hK
              obtain ⟨hI, f0, f1, f2, f3, f4, f5, f6, f7, f8, f9, f10, f11, f12, f13, f14, f15, f16, f17, f18, f19, f20, f21, f22, f23⟩ := hΦ
              have e4 : a.tmps[4]? = some (.pointer (some ⟨G, 0, none⟩)) := hf 4 (of_decide_eq_true (by kernel_rfl))
              clear hf hx hd
              go_simp
              refine hK _ _ ?_
              exact ⟨hI, fun _ => rfl, fun h => f1 h, fun h => f2 h, fun h => f3 h, fun h => f4 h, fun h => f5 h, fun h => f6 h, fun h => f7 h, fun h => f8 h, fun h => f9 h, fun h => f10 h, fun h => f11 h, fun h => f12 h, fun h => f13 h, fun h => f14 h, fun h => f15 h, fun h => f16 h, fun h => f17 h, fun h => f18 h, fun h => f19 h, fun h => f20 h, fun h => f21 h, fun h => f22 h, fun h => f23 h⟩
            · intro L x a w K hL hd hf hx hΦ hK
              obtain ⟨hI, f0, f1, f2, f3, f4, f5, f6, f7, f8, f9, f10, f11, f12, f13, f14, f15, f16, f17, f18, f19, f20, f21, f22, f23⟩ := hΦ
              have d0 := f0 (hd 0 (by kernel_rfl))
              have e37 : a.tmps[37]? = some (x 37) := hx 0 _ 37 rfl rfl (hd 0 (by kernel_rfl))
              clear hf hx hd
              rw [d0] at e37
              have c6 := cell_then x6 hI
              go_simp
              refine hK _ _ ?_
              exact ⟨hI, fun h => f0 h, fun _ => rfl, fun h => f2 h, fun h => f3 h, fun h => f4 h, fun h => f5 h, fun h => f6 h, fun h => f7 h, fun h => f8 h, fun h => f9 h, fun h => f10 h, fun h => f11 h, fun h => f12 h, fun h => f13 h, fun h => f14 h, fun h => f15 h, fun h => f16 h, fun h => f17 h, fun h => f18 h, fun h => f19 h, fun h => f20 h, fun h => f21 h, fun h => f22 h, fun h => f23 h⟩
            · intro L x a w K hL hd hf hx hΦ hK
              obtain ⟨hI, f0, f1, f2, f3, f4, f5, f6, f7, f8, f9, f10, f11, f12, f13, f14, f15, f16, f17, f18, f19, f20, f21, f22, f23⟩ := hΦ
              have e12 : a.tmps[12]? = some (.int .i64 (k : Int)) := hf 12 (of_decide_eq_true (by kernel_rfl))
              clear hf hx hd
              go_simp
              refine hK _ _ ?_
              exact ⟨hI, fun h => f0 h, fun h => f1 h, fun _ => rfl, fun h => f3 h, fun h => f4 h, fun h => f5 h, fun h => f6 h, fun h => f7 h, fun h => f8 h, fun h => f9 h, fun h => f10 h, fun h => f11 h, fun h => f12 h, fun h => f13 h, fun h => f14 h, fun h => f15 h, fun h => f16 h, fun h => f17 h, fun h => f18 h, fun h => f19 h, fun h => f20 h, fun h => f21 h, fun h => f22 h, fun h => f23 h⟩
            · intro L x a w K hL hd hf hx hΦ hK
              obtain ⟨hI, f0, f1, f2, f3, f4, f5, f6, f7, f8, f9, f10, f11, f12, f13, f14, f15, f16, f17, f18, f19, f20, f21, f22, f23⟩ := hΦ
              have d1 := f1 (hd 1 (by kernel_rfl))
              have e38 : a.tmps[38]? = some (x 38) := hx 1 _ 38 rfl rfl (hd 1 (by kernel_rfl))
              have d2 := f2 (hd 2 (by kernel_rfl))
              have e39 : a.tmps[39]? = some (x 39) := hx 2 _ 39 rfl rfl (hd 2 (by kernel_rfl))
              clear hf hx hd
              rw [d1] at e38
              rw [d2] at e39
              go_simp
              refine hK _ _ ?_
              exact ⟨hI, fun h => f0 h, fun h => f1 h, fun h => f2 h, fun _ => rfl, fun h => f4 h, fun h => f5 h, fun h => f6 h, fun h => f7 h, fun h => f8 h, fun h => f9 h, fun h => f10 h, fun h => f11 h, fun h => f12 h, fun h => f13 h, fun h => f14 h, fun h => f15 h, fun h => f16 h, fun h => f17 h, fun h => f18 h, fun h => f19 h, fun h => f20 h, fun h => f21 h, fun h => f22 h, fun h => f23 h⟩
            · intro L x a w K hL hd hf hx hΦ hK
              obtain ⟨hI, f0, f1, f2, f3, f4, f5, f6, f7, f8, f9, f10, f11, f12, f13, f14, f15, f16, f17, f18, f19, f20, f21, f22, f23⟩ := hΦ
              have d3 := f3 (hd 3 (by kernel_rfl))
              have e40 : a.tmps[40]? = some (x 40) := hx 3 _ 40 rfl rfl (hd 3 (by kernel_rfl))
              clear hf hx hd
              rw [d3] at e40
              have c0 := cell_then (HPC.out 0 _ rfl) hI
              have c1 := cell_then (HPC.out 1 _ rfl) hI
              have c2 := cell_then (HPC.out 2 _ rfl) hI
              have c3 := cell_then (HPC.out 3 _ rfl) hI
              have c4 := cell_then (HPC.out 4 _ rfl) hI
              have c5 := cell_then (HPC.out 5 _ rfl) hI
              have c6 := cell_then (HPC.out 6 _ rfl) hI
              have c7 := cell_then (HPC.out 7 _ rfl) hI
              simp only [PT.vals, SL.v, Nat.add_zero] at c0 c1 c2 c3 c4 c5 c6 c7
              go_simp
              refine hK _ _ ?_
              exact ⟨hI, fun h => f0 h, fun h => f1 h, fun h => f2 h, fun h => f3 h, fun _ => rfl, fun h => f5 h, fun h => f6 h, fun h => f7 h, fun h => f8 h, fun h => f9 h, fun h => f10 h, fun h => f11 h, fun h => f12 h, fun h => f13 h, fun h => f14 h, fun h => f15 h, fun h => f16 h, fun h => f17 h, fun h => f18 h, fun h => f19 h, fun h => f20 h, fun h => f21 h, fun h => f22 h, fun h => f23 h⟩
            · intro L x a w K hL hd hf hx hΦ hK
              obtain ⟨hI, f0, f1, f2, f3, f4, f5, f6, f7, f8, f9, f10, f11, f12, f13, f14, f15, f16, f17, f18, f19, f20, f21, f22, f23⟩ := hΦ
              clear hf hx hd
              go_simp
              refine hK _ _ ?_
              exact ⟨bl_al hI, fun h => f0 h, fun h => f1 h, fun h => f2 h, fun h => f3 h, fun h => f4 h, fun _ => ⟨_, rfl, hI.size, .inr (HK.blk_new _ _)⟩, fun h => f6 h, fun h => (f7 h).imp fun e h => h.imp fun c h => ⟨h.1, h.2.1, h.2.2.imp id fun ho => own_below ho ((Below.refl _ w).alloc (Nat.le_refl _) _)⟩, fun h => f8 h, fun h => (f9 h).imp fun e h => ⟨h.1, h.2.imp id fun h2 => blk_up ((Below.refl _ w).alloc (Nat.le_refl _) _) h2⟩, fun h => ⟨(f10 h).1, (f10 h).2.imp fun e h => h.imp fun c h => ⟨h.1, h.2.imp id fun ho => own_below ho ((Below.refl _ w).alloc (Nat.le_refl _) _)⟩⟩, fun h => f11 h, fun h => f12 h, fun h => f13 h, fun h => f14 h, fun h => f15 h, fun h => f16 h, fun h => f17 h, fun h => ⟨(f18 h).1, (f18 h).2.1, (f18 h).2.2.imp fun v h => h.imp fun hs h => ⟨h.1, h.2.1, h.2.2.below ((Below.refl _ w).alloc (Nat.le_refl _) _)⟩⟩, fun h => f19 h, fun h => f20 h, fun h => f21 h, fun h => f22 h, fun h => f23 h⟩
            · intro L x a w K hL hd hf hx hΦ hK
              obtain ⟨hI, f0, f1, f2, f3, f4, f5, f6, f7, f8, f9, f10, f11, f12, f13, f14, f15, f16, f17, f18, f19, f20, f21, f22, f23⟩ := hΦ
              have e1 : a.tmps[1]? = some (.slice pa pn pc) := hf 1 (of_decide_eq_true (by kernel_rfl))
              clear hf hx hd
              go_simp
              refine hK _ _ ?_
              exact ⟨hI, fun h => f0 h, fun h => f1 h, fun h => f2 h, fun h => f3 h, fun h => f4 h, fun h => f5 h, fun _ => rfl, fun h => f7 h, fun h => f8 h, fun h => f9 h, fun h => f10 h, fun h => f11 h, fun h => f12 h, fun h => f13 h, fun h => f14 h, fun h => f15 h, fun h => f16 h, fun h => f17 h, fun h => f18 h, fun h => f19 h, fun h => f20 h, fun h => f21 h, fun h => f22 h, fun h => f23 h⟩
            · intro L x a w K hL hd hf hx hΦ hK
              obtain ⟨hI, f0, f1, f2, f3, f4, f5, f6, f7, f8, f9, f10, f11, f12, f13, f14, f15, f16, f17, f18, f19, f20, f21, f22, f23⟩ := hΦ
              have d5 := f5 (hd 5 (by kernel_rfl))
              have e42 : a.tmps[42]? = some (x 42) := hx 5 _ 42 rfl rfl (hd 5 (by kernel_rfl))
              have d6 := f6 (hd 6 (by kernel_rfl))
              have e43 : a.tmps[43]? = some (x 43) := hx 6 _ 43 rfl rfl (hd 6 (by kernel_rfl))
              clear hf hx hd
              obtain ⟨e, he, hen, heb⟩ := d5
              rw [he] at e42
              rw [d6] at e43
              have heb : w.heap[e]? = some (.cells #[] 3 (0, 0)) := heb.resolve_left (by rw [hL]; decide)
              refine of_wanted rfl (step_place 44 rfl rfl _ _ rfl e (ev e42) heb pa pn pc pl (ev e43) (place_up HPL.out hI) (by omega) ?_)
              intro g2 c w' hown hgrow hat
              have hgn : wo.heap.size ≤ g2 := by have := hI.size; rcases hat with h | h <;> omega
              refine hK _ _ ?_
              exact ⟨grown_below hI hgrow hen, fun h => f0 h, fun h => f1 h, fun h => f2 h, fun h => f3 h, fun h => f4 h, fun h => ⟨e, he, hen, .inl rfl⟩, fun h => f6 h, fun _ => ⟨g2, c, rfl, hgn, .inr hown⟩, fun h => f8 h, fun h => (f9 h).imp fun g h => ⟨h.1, h.2.imp id fun h2 => grown_blk heb hgrow h2 (by simp)⟩, fun h => absurd (f10 h).1 (by rw [hL]; decide), fun h => f11 h, fun h => f12 h, fun h => f13 h, fun h => f14 h, fun h => f15 h, fun h => f16 h, fun h => f17 h, fun h => absurd (f18 h).1 (by rw [hL]; decide), fun h => f19 h, fun h => f20 h, fun h => f21 h, fun h => f22 h, fun h => f23 h⟩
            · intro L x a w K hL hd hf hx hΦ hK
              obtain ⟨hI, f0, f1, f2, f3, f4, f5, f6, f7, f8, f9, f10, f11, f12, f13, f14, f15, f16, f17, f18, f19, f20, f21, f22, f23⟩ := hΦ
              have e12 : a.tmps[12]? = some (.int .i64 (k : Int)) := hf 12 (of_decide_eq_true (by kernel_rfl))
              clear hf hx hd
              go_simp
              refine hK _ _ ?_
              exact ⟨hI, fun h => f0 h, fun h => f1 h, fun h => f2 h, fun h => f3 h, fun h => f4 h, fun h => f5 h, fun h => f6 h, fun h => f7 h, fun _ => rfl, fun h => f9 h, fun h => f10 h, fun h => f11 h, fun h => f12 h, fun h => f13 h, fun h => f14 h, fun h => f15 h, fun h => f16 h, fun h => f17 h, fun h => f18 h, fun h => f19 h, fun h => f20 h, fun h => f21 h, fun h => f22 h, fun h => f23 h⟩
            · intro L x a w K hL hd hf hx hΦ hK
              obtain ⟨hI, f0, f1, f2, f3, f4, f5, f6, f7, f8, f9, f10, f11, f12, f13, f14, f15, f16, f17, f18, f19, f20, f21, f22, f23⟩ := hΦ
              have d8 := f8 (hd 8 (by kernel_rfl))
              have e45 : a.tmps[45]? = some (x 45) := hx 8 _ 45 rfl rfl (hd 8 (by kernel_rfl))
              clear hf hx hd
              rw [d8] at e45
              go_simp
              refine hK _ _ ?_
              exact ⟨bl_al hI, fun h => f0 h, fun h => f1 h, fun h => f2 h, fun h => f3 h, fun h => f4 h, fun h => (f5 h).imp fun e h => ⟨h.1, h.2.1, h.2.2.imp id fun h2 => blk_up ((Below.refl _ w).alloc (Nat.le_refl _) _) h2⟩, fun h => f6 h, fun h => (f7 h).imp fun e h => h.imp fun c h => ⟨h.1, h.2.1, h.2.2.imp id fun ho => own_below ho ((Below.refl _ w).alloc (Nat.le_refl _) _)⟩, fun h => f8 h, fun _ => ⟨_, rfl, .inr (HK.blk_new _ _)⟩, fun h => ⟨(f10 h).1, (f10 h).2.imp fun e h => h.imp fun c h => ⟨h.1, h.2.imp id fun ho => own_below ho ((Below.refl _ w).alloc (Nat.le_refl _) _)⟩⟩, fun h => f11 h, fun h => f12 h, fun h => f13 h, fun h => f14 h, fun h => f15 h, fun h => f16 h, fun h => f17 h, fun h => ⟨(f18 h).1, (f18 h).2.1, (f18 h).2.2.imp fun v h => h.imp fun hs h => ⟨h.1, h.2.1, h.2.2.below ((Below.refl _ w).alloc (Nat.le_refl _) _)⟩⟩, fun h => f19 h, fun h => f20 h, fun h => f21 h, fun h => f22 h, fun h => f23 h⟩
            · intro L x a w K hL hd hf hx hΦ hK
              obtain ⟨hI, f0, f1, f2, f3, f4, f5, f6, f7, f8, f9, f10, f11, f12, f13, f14, f15, f16, f17, f18, f19, f20, f21, f22, f23⟩ := hΦ
              have d7 := f7 (hd 7 (by kernel_rfl))
              have e44 : a.tmps[44]? = some (x 44) := hx 7 _ 44 rfl rfl (hd 7 (by kernel_rfl))
              have d9 := f9 (hd 9 (by kernel_rfl))
              have e46 : a.tmps[46]? = some (x 46) := hx 9 _ 46 rfl rfl (hd 9 (by kernel_rfl))
              have l7 := hd 7 (by kernel_rfl)
              clear hf hx hd
              obtain ⟨g1, c1, hg1, hgn, hown⟩ := d7
              obtain ⟨g2, hg2, hgb⟩ := d9
              rw [hg1] at e44
              rw [hg2] at e46
              have hown := hown.resolve_left (by rw [hL]; decide)
              have hgb := hgb.resolve_left (by rw [hL]; decide)
              refine of_wanted rfl (HK.step_app1 rfl elem3 _ _ rfl (.slice (some ⟨g1, 0, none⟩) pn c1) pn (ints pl) (ev e44) hown g2 1 #[.int .i64 (k : Int)] (ev e46) hgb rfl (by simp [Value.oneCell']) (by simp only [maxLen]; omega) (by omega) ?_)
              intro g3 c w' hown2 hgrow hat hlt
              have hi8 : w'.ownsRow 0 3 1 (.slice (some ⟨g3, 0, none⟩) (pn + 1) c) (pn + 1) (ints (pl ++ [k])) := by
                have : ints (pl ++ [k]) = ints pl ++ [.int .i64 (k : Int)] := by simp [ints]
                rw [this]; exact hown2
              refine hK _ _ ?_
              exact ⟨grown_below hI hgrow hgn, fun h => f0 h, fun h => f1 h, fun h => f2 h, fun h => f3 h, fun h => f4 h, fun h => (f5 h).imp fun e h => ⟨h.1, h.2.1, .inl l7⟩, fun h => f6 h, fun h => ⟨g1, c1, hg1, hgn, .inl rfl⟩, fun h => f8 h, fun h => ⟨g2, hg2, .inl rfl⟩, fun _ => ⟨l7, g3, c, rfl, .inr hi8⟩, fun h => f11 h, fun h => f12 h, fun h => f13 h, fun h => f14 h, fun h => f15 h, fun h => f16 h, fun h => f17 h, fun h => absurd (f18 h).2.1 (by rw [hL]; decide), fun h => f19 h, fun h => f20 h, fun h => f21 h, fun h => f22 h, fun h => f23 h⟩
            · intro L x a w K hL hd hf hx hΦ hK
              obtain ⟨hI, f0, f1, f2, f3, f4, f5, f6, f7, f8, f9, f10, f11, f12, f13, f14, f15, f16, f17, f18, f19, f20, f21, f22, f23⟩ := hΦ
              have e2 : a.tmps[2]? = some (.int .i64 (wt : Int)) := hf 2 (of_decide_eq_true (by kernel_rfl))
              clear hf hx hd
              go_simp
              refine hK _ _ ?_
              exact ⟨hI, fun h => f0 h, fun h => f1 h, fun h => f2 h, fun h => f3 h, fun h => f4 h, fun h => f5 h, fun h => f6 h, fun h => f7 h, fun h => f8 h, fun h => f9 h, fun h => f10 h, fun _ => rfl, fun h => f12 h, fun h => f13 h, fun h => f14 h, fun h => f15 h, fun h => f16 h, fun h => f17 h, fun h => f18 h, fun h => f19 h, fun h => f20 h, fun h => f21 h, fun h => f22 h, fun h => f23 h⟩
            · intro L x a w K hL hd hf hx hΦ hK
              obtain ⟨hI, f0, f1, f2, f3, f4, f5, f6, f7, f8, f9, f10, f11, f12, f13, f14, f15, f16, f17, f18, f19, f20, f21, f22, f23⟩ := hΦ
              have e4 : a.tmps[4]? = some (.pointer (some ⟨G, 0, none⟩)) := hf 4 (of_decide_eq_true (by kernel_rfl))
              clear hf hx hd
              go_simp
              refine hK _ _ ?_
              exact ⟨hI, fun h => f0 h, fun h => f1 h, fun h => f2 h, fun h => f3 h, fun h => f4 h, fun h => f5 h, fun h => f6 h, fun h => f7 h, fun h => f8 h, fun h => f9 h, fun h => f10 h, fun h => f11 h, fun _ => rfl, fun h => f13 h, fun h => f14 h, fun h => f15 h, fun h => f16 h, fun h => f17 h, fun h => f18 h, fun h => f19 h, fun h => f20 h, fun h => f21 h, fun h => f22 h, fun h => f23 h⟩
            · intro L x a w K hL hd hf hx hΦ hK
              obtain ⟨hI, f0, f1, f2, f3, f4, f5, f6, f7, f8, f9, f10, f11, f12, f13, f14, f15, f16, f17, f18, f19, f20, f21, f22, f23⟩ := hΦ
              have d12 := f12 (hd 12 (by kernel_rfl))
              have e49 : a.tmps[49]? = some (x 49) := hx 12 _ 49 rfl rfl (hd 12 (by kernel_rfl))
              clear hf hx hd
              rw [d12] at e49
              have c6 := cell_then x6 hI
              go_simp
              refine hK _ _ ?_
              exact ⟨hI, fun h => f0 h, fun h => f1 h, fun h => f2 h, fun h => f3 h, fun h => f4 h, fun h => f5 h, fun h => f6 h, fun h => f7 h, fun h => f8 h, fun h => f9 h, fun h => f10 h, fun h => f11 h, fun h => f12 h, fun _ => rfl, fun h => f14 h, fun h => f15 h, fun h => f16 h, fun h => f17 h, fun h => f18 h, fun h => f19 h, fun h => f20 h, fun h => f21 h, fun h => f22 h, fun h => f23 h⟩
            · intro L x a w K hL hd hf hx hΦ hK
              obtain ⟨hI, f0, f1, f2, f3, f4, f5, f6, f7, f8, f9, f10, f11, f12, f13, f14, f15, f16, f17, f18, f19, f20, f21, f22, f23⟩ := hΦ
              have d13 := f13 (hd 13 (by kernel_rfl))
              have e50 : a.tmps[50]? = some (x 50) := hx 13 _ 50 rfl rfl (hd 13 (by kernel_rfl))
              clear hf hx hd
              rw [d13] at e50
              go_simp
              refine hK _ _ ?_
              exact ⟨hI, fun h => f0 h, fun h => f1 h, fun h => f2 h, fun h => f3 h, fun h => f4 h, fun h => f5 h, fun h => f6 h, fun h => f7 h, fun h => f8 h, fun h => f9 h, fun h => f10 h, fun h => f11 h, fun h => f12 h, fun h => f13 h, fun _ => rfl, fun h => f15 h, fun h => f16 h, fun h => f17 h, fun h => f18 h, fun h => f19 h, fun h => f20 h, fun h => f21 h, fun h => f22 h, fun h => f23 h⟩
            · intro L x a w K hL hd hf hx hΦ hK
              obtain ⟨hI, f0, f1, f2, f3, f4, f5, f6, f7, f8, f9, f10, f11, f12, f13, f14, f15, f16, f17, f18, f19, f20, f21, f22, f23⟩ := hΦ
              have d14 := f14 (hd 14 (by kernel_rfl))
              have e51 : a.tmps[51]? = some (x 51) := hx 14 _ 51 rfl rfl (hd 14 (by kernel_rfl))
              clear hf hx hd
              rw [d14] at e51
              have hm1 : IntKind.i64.wrap (2 * (sn : Int)) = 2 * (sn : Int) := IntWalk.i64_in _ (by omega)
              go_simp
              refine hK _ _ ?_
              exact ⟨hI, fun h => f0 h, fun h => f1 h, fun h => f2 h, fun h => f3 h, fun h => f4 h, fun h => f5 h, fun h => f6 h, fun h => f7 h, fun h => f8 h, fun h => f9 h, fun h => f10 h, fun h => f11 h, fun h => f12 h, fun h => f13 h, fun h => f14 h, fun _ => rfl, fun h => f16 h, fun h => f17 h, fun h => f18 h, fun h => f19 h, fun h => f20 h, fun h => f21 h, fun h => f22 h, fun h => f23 h⟩
            · intro L x a w K hL hd hf hx hΦ hK
              obtain ⟨hI, f0, f1, f2, f3, f4, f5, f6, f7, f8, f9, f10, f11, f12, f13, f14, f15, f16, f17, f18, f19, f20, f21, f22, f23⟩ := hΦ
              have d11 := f11 (hd 11 (by kernel_rfl))
              have e48 : a.tmps[48]? = some (x 48) := hx 11 _ 48 rfl rfl (hd 11 (by kernel_rfl))
              have d15 := f15 (hd 15 (by kernel_rfl))
              have e52 : a.tmps[52]? = some (x 52) := hx 15 _ 52 rfl rfl (hd 15 (by kernel_rfl))
              clear hf hx hd
              rw [d11] at e48
              rw [d15] at e52
              have hq1 := HQ1.out
              have hq2 := HQ2.out
              have hq3 : (2 * (sn : Int) == 0) = false := by simp; omega
              have hq4 : ¬ 2 * (sn : Int) = 0 := by omega
              have hq5 : (0 : Int) < 2 * (sn : Int) := by omega
              have hq6 : IntKind.i64.wrap (wq : Int) = (wq : Int) := IntWalk.i64_in _ (by omega)
              go_simp
              refine hK _ _ ?_
              exact ⟨hI, fun h => f0 h, fun h => f1 h, fun h => f2 h, fun h => f3 h, fun h => f4 h, fun h => f5 h, fun h => f6 h, fun h => f7 h, fun h => f8 h, fun h => f9 h, fun h => f10 h, fun h => f11 h, fun h => f12 h, fun h => f13 h, fun h => f14 h, fun h => f15 h, fun _ => rfl, fun h => f17 h, fun h => f18 h, fun h => f19 h, fun h => f20 h, fun h => f21 h, fun h => f22 h, fun h => f23 h⟩
            · intro L x a w K hL hd hf hx hΦ hK
              obtain ⟨hI, f0, f1, f2, f3, f4, f5, f6, f7, f8, f9, f10, f11, f12, f13, f14, f15, f16, f17, f18, f19, f20, f21, f22, f23⟩ := hΦ
              have e3 : a.tmps[3]? = some (.slice wa wn we) := hf 3 (of_decide_eq_true (by kernel_rfl))
              clear hf hx hd
              go_simp
              refine hK _ _ ?_
              exact ⟨hI, fun h => f0 h, fun h => f1 h, fun h => f2 h, fun h => f3 h, fun h => f4 h, fun h => f5 h, fun h => f6 h, fun h => f7 h, fun h => f8 h, fun h => f9 h, fun h => f10 h, fun h => f11 h, fun h => f12 h, fun h => f13 h, fun h => f14 h, fun h => f15 h, fun h => f16 h, fun _ => rfl, fun h => f18 h, fun h => f19 h, fun h => f20 h, fun h => f21 h, fun h => f22 h, fun h => f23 h⟩
            · intro L x a w K hL hd hf hx hΦ hK
              obtain ⟨hI, f0, f1, f2, f3, f4, f5, f6, f7, f8, f9, f10, f11, f12, f13, f14, f15, f16, f17, f18, f19, f20, f21, f22, f23⟩ := hΦ
              have d4 := f4 (hd 4 (by kernel_rfl))
              have e41 : a.tmps[41]? = some (x 41) := hx 4 _ 41 rfl rfl (hd 4 (by kernel_rfl))
              have d10 := f10 (hd 10 (by kernel_rfl))
              have e47 : a.tmps[47]? = some (x 47) := hx 10 _ 47 rfl rfl (hd 10 (by kernel_rfl))
              have d16 := f16 (hd 16 (by kernel_rfl))
              have e53 : a.tmps[53]? = some (x 53) := hx 16 _ 53 rfl rfl (hd 16 (by kernel_rfl))
              have d17 := f17 (hd 17 (by kernel_rfl))
              have e54 : a.tmps[54]? = some (x 54) := hx 17 _ 54 rfl rfl (hd 17 (by kernel_rfl))
              have l10 := hd 10 (by kernel_rfl)
              clear hf hx hd
              obtain ⟨l7, e2, c, he, ho⟩ := d10
              rw [d4] at e41
              rw [he] at e47
              rw [d16] at e53
              rw [d17] at e54
              have ho := ho.resolve_left (by rw [hL]; decide)
              go_simp
              go_at_call 20
              refine (HC.out w ⟨some ⟨e2, 0, none⟩, pn + 1, c⟩ hI (by unfold PlaceB; rw [List.length_append, List.length_singleton, ← HPN.out]; exact ho)).mono ?_
              rintro e w' ⟨v, hs, rfl, h1, h2, h3⟩
              simp only
              refine hK _ _ ?_
              exact ⟨below_then hI h3, fun h => f0 h, fun h => f1 h, fun h => f2 h, fun h => f3 h, fun h => f4 h, fun h => (f5 h).imp fun e h => ⟨h.1, h.2.1, h.2.2.imp id fun h2 => blk_up h3 h2⟩, fun h => f6 h, fun h => (f7 h).imp fun e h => h.imp fun c h => ⟨h.1, h.2.1, h.2.2.imp id fun ho => own_below ho h3⟩, fun h => f8 h, fun h => (f9 h).imp fun e h => ⟨h.1, h.2.imp id fun h2 => blk_up h3 h2⟩, fun h => ⟨l7, e2, c, he, .inl rfl⟩, fun h => f11 h, fun h => f12 h, fun h => f13 h, fun h => f14 h, fun h => f15 h, fun h => f16 h, fun h => f17 h, fun _ => ⟨l7, l10, v, hs, rfl, h1, h2.mono hI.size⟩, fun h => absurd (f19 h).1 (by rw [hL]; decide), fun h => absurd (f20 h).1 (by rw [hL]; decide), fun h => f21 h, fun h => f22 h, fun h => f23 h⟩
            · intro L x a w K hL hd hf hx hΦ hK
              obtain ⟨hI, f0, f1, f2, f3, f4, f5, f6, f7, f8, f9, f10, f11, f12, f13, f14, f15, f16, f17, f18, f19, f20, f21, f22, f23⟩ := hΦ
              have d18 := f18 (hd 18 (by kernel_rfl))
              have e55 : a.tmps[55]? = some (x 55) := hx 18 _ 55 rfl rfl (hd 18 (by kernel_rfl))
              have l18 := hd 18 (by kernel_rfl)
              clear hf hx hd
              go_simp
              refine hK _ _ ?_
              exact ⟨hI, fun h => f0 h, fun h => f1 h, fun h => f2 h, fun h => f3 h, fun h => f4 h, fun h => f5 h, fun h => f6 h, fun h => f7 h, fun h => f8 h, fun h => f9 h, fun h => f10 h, fun h => f11 h, fun h => f12 h, fun h => f13 h, fun h => f14 h, fun h => f15 h, fun h => f16 h, fun h => f17 h, fun h => f18 h, fun _ => ⟨l18, rfl⟩, fun h => f20 h, fun h => f21 h, fun h => f22 h, fun h => f23 h⟩
            · intro L x a w K hL hd hf hx hΦ hK
              obtain ⟨hI, f0, f1, f2, f3, f4, f5, f6, f7, f8, f9, f10, f11, f12, f13, f14, f15, f16, f17, f18, f19, f20, f21, f22, f23⟩ := hΦ
              have d19 := f19 (hd 19 (by kernel_rfl))
              have e36 : a.tmps[36]? = some (x 36) := hx 19 _ 36 rfl rfl (hd 19 (by kernel_rfl))
              have l19 := hd 19 (by kernel_rfl)
              clear hf hx hd
              obtain ⟨l18, h36⟩ := d19
              obtain ⟨_, _, v, hs, hv, _⟩ := f18 l18
              have h36' := h36.trans hv
              rw [h36'] at e36
              go_simp
              refine hK _ _ ?_
              exact ⟨hI, fun h => f0 h, fun h => f1 h, fun h => f2 h, fun h => f3 h, fun h => f4 h, fun h => f5 h, fun h => f6 h, fun h => f7 h, fun h => f8 h, fun h => f9 h, fun h => f10 h, fun h => f11 h, fun h => f12 h, fun h => f13 h, fun h => f14 h, fun h => f15 h, fun h => f16 h, fun h => f17 h, fun h => f18 h, fun h => f19 h, fun _ => ⟨l18, _, hv⟩, fun h => f21 h, fun h => absurd (f22 h).1 (by rw [hL]; decide), fun h => f23 h⟩
            · intro L x a w K hL hd hf hx hΦ hK
              obtain ⟨hI, f0, f1, f2, f3, f4, f5, f6, f7, f8, f9, f10, f11, f12, f13, f14, f15, f16, f17, f18, f19, f20, f21, f22, f23⟩ := hΦ
              have d19 := f19 (hd 19 (by kernel_rfl))
              have e36 : a.tmps[36]? = some (x 36) := hx 19 _ 36 rfl rfl (hd 19 (by kernel_rfl))
              clear hf hx hd
              obtain ⟨l18, h36⟩ := d19
              obtain ⟨_, _, v, hs, hv, _⟩ := f18 l18
              have h36' := h36.trans hv
              rw [h36'] at e36
              go_simp
              refine hK _ _ ?_
              exact ⟨hI, fun h => f0 h, fun h => f1 h, fun h => f2 h, fun h => f3 h, fun h => f4 h, fun h => f5 h, fun h => f6 h, fun h => f7 h, fun h => f8 h, fun h => f9 h, fun h => f10 h, fun h => f11 h, fun h => f12 h, fun h => f13 h, fun h => f14 h, fun h => f15 h, fun h => f16 h, fun h => f17 h, fun h => f18 h, fun h => f19 h, fun h => f20 h, fun _ => rfl, fun h => f22 h, fun h => f23 h⟩
            · intro L x a w K hL hd hf hx hΦ hK
              obtain ⟨hI, f0, f1, f2, f3, f4, f5, f6, f7, f8, f9, f10, f11, f12, f13, f14, f15, f16, f17, f18, f19, f20, f21, f22, f23⟩ := hΦ
              have d20 := f20 (hd 20 (by kernel_rfl))
              have e56 : a.tmps[56]? = some (x 56) := hx 20 _ 56 rfl rfl (hd 20 (by kernel_rfl))
              have l20 := hd 20 (by kernel_rfl)
              clear hf hx hd
              go_simp
              refine hK _ _ ?_
              exact ⟨hI, fun h => f0 h, fun h => f1 h, fun h => f2 h, fun h => f3 h, fun h => f4 h, fun h => f5 h, fun h => f6 h, fun h => f7 h, fun h => f8 h, fun h => f9 h, fun h => f10 h, fun h => f11 h, fun h => f12 h, fun h => f13 h, fun h => f14 h, fun h => f15 h, fun h => f16 h, fun h => f17 h, fun h => f18 h, fun h => f19 h, fun h => f20 h, fun h => f21 h, fun _ => ⟨l20, rfl⟩, fun h => f23 h⟩
            · intro L x a w K hL hd hf hx hΦ hK
              obtain ⟨hI, f0, f1, f2, f3, f4, f5, f6, f7, f8, f9, f10, f11, f12, f13, f14, f15, f16, f17, f18, f19, f20, f21, f22, f23⟩ := hΦ
              have d21 := f21 (hd 21 (by kernel_rfl))
              have e57 : a.tmps[57]? = some (x 57) := hx 21 _ 57 rfl rfl (hd 21 (by kernel_rfl))
              clear hf hx hd
              rw [d21] at e57
              go_simp
              refine hK _ _ ?_
              exact ⟨hI, fun h => f0 h, fun h => f1 h, fun h => f2 h, fun h => f3 h, fun h => f4 h, fun h => f5 h, fun h => f6 h, fun h => f7 h, fun h => f8 h, fun h => f9 h, fun h => f10 h, fun h => f11 h, fun h => f12 h, fun h => f13 h, fun h => f14 h, fun h => f15 h, fun h => f16 h, fun h => f17 h, fun h => f18 h, fun h => f19 h, fun h => f20 h, fun h => f21 h, fun h => f22 h, fun _ => rfl⟩
            · rintro x W ⟨hI, f0, f1, f2, f3, f4, f5, f6, f7, f8, f9, f10, f11, f12, f13, f14, f15, f16, f17, f18, f19, f20, f21, f22, f23⟩
              obtain ⟨_, _, v, hs, h1, h2, h3⟩ := f18 (by kernel_rfl)
              obtain ⟨_, u, h4⟩ := f20 (by kernel_rfl)
              have h5 := (f22 (by kernel_rfl)).2
              have h6 := f23 (by kernel_rfl)
              have h7 : x 56 = v := by have h9 := h4.symm.trans h1; simp only [Value.tuple.injEq, Array.mk.injEq, List.cons.injEq] at h9; exact h9.1
              simp only [Exit.then]
              go_step
              go_meet
              case rel => exact ⟨hs, h6, h2, by rw [h5, h7]; exact h3, hI⟩
          case rest =>
            obtain ⟨hs2, rfl, hc1, hc2, hc3⟩ := hcut
            obtain ⟨w5, hw5⟩ : ∃ w5 : World, w5 = wc := ⟨_, rfl⟩
            rw [← hw5] at hc2 hc3 ⊢
            clear hw5
            have hig5 := HIG.out.below hc3
            have HIG5 := Lib.hid hig5
            have HC1 := Lib.hid hc1
            have HC2 := Lib.hid hc2
            have HC3 := Lib.hid (below_then HBR.out hc3)
            have hgl : gs.length ≤ 10000 := by
              have h1 := congrArg List.length HGS.out
              rw [List.length_map] at h1
              have h2 := (goalsF_cnt (badD ws) pl wq 0 (subs.take k)).2
              have h3 := sizeF_take (ts := subs) (k := k) (t := q) HQ.out
              omega
            have hhl : hs2.length ≤ 10000 := by
              have h1 := congrArg List.length HC1.out
              rw [List.length_map] at h1
              have h2 := HRGC.out.2
              have h3 := HSQ.out
              omega
            clear hig5 hc1 hc2 hc3
            have hb5 : w2.heap.size ≤ w5.heap.size := HC3.out.size
            obtain ⟨mm, hmm⟩ : ∃ mm, mm = m + RG.2 := ⟨_, rfl⟩
            have hmm2 : mm ≤ 20001 := by
              have h1 := (goalsF_cnt (badD ws) pl wq 0 (subs.take k)).1
              have h2 := HRGC.out.1
              have h3 := HSQ.out
              have h4 := HME.out
              have h5 := sizeF_take (ts := subs) (k := k) (t := q) HQ.out
              omega
            have hz3 : (m : Int) + ((RG.2 : Nat) : Int) = (mm : Int) := by omega
            have hend : (gs ++ hs2).map (·.d) = (goalsF (badD ws) pl wq 0 (subs.take (k + 1))).1 ∧ mm = 1 + (goalsF (badD ws) pl wq 0 (subs.take (k + 1))).2 := by
              obtain ⟨h1, h2⟩ := HMORE.out
              rw [List.map_append, h1, h2, HGS.out, HC1.out]
              refine ⟨rfl, ?_⟩
              have h4 := HME.out
              omega
            have HEND := Lib.hid hend
            clear hend hmm
            by_cases hh0 : hs2 = []
            · have hv13 := HC2.out.2.1 hh0
              subst hh0
              subst hv13
              rw [List.append_nil] at HEND
              by_cases hg0 : gs = []
              · have hv10 := HIG5.out.2.1 hg0
                subst hv10
                go_wp2_with (
                  refine wpList_step fun K hK => ?_
                  refine step_appnn 60 (by rfl) (by rfl) elem83 _ _ (by rfl) (by rfl) (by rfl) ?_
                  refine hK _ _ ?_
                  clear hK K)
                go_roundw
                case rel => exact ⟨k + 1, mm, gs, by omega, by go_num, rfl, HEND.out.1, HEND.out.2, HIG5.out, HC3.out⟩
                case measure => simp [intOf]; omega
              · obtain ⟨ag, ac2, hv10⟩ : ∃ ag ac2, u10 = .slice (some ⟨ag, 0, none⟩) gs.length ac2 ∧ gs.length ≤ ac2 := by
                  rcases HIG5.out.1.2 with ⟨_, h0⟩ | ⟨g', cap', cur, hv, _, _, hcap, _⟩
                  · exact absurd (List.length_eq_zero_iff.1 h0) hg0
                  · exact ⟨g', cap', hv, hcap⟩
                obtain ⟨hv10, hcap⟩ := hv10
                subst hv10
                go_wp2_with (
                  refine wpList_step fun K hK => ?_
                  refine step_app0 60 (by rfl) (by rfl) elem83 _ _ (by rfl) ⟨ag, 0, none⟩ gs.length ac2 hcap (by rfl) (by rfl) ?_
                  refine hK _ _ ?_
                  clear hK K)
                go_roundw
                case rel => exact ⟨k + 1, mm, gs, by omega, by go_num, rfl, HEND.out.1, HEND.out.2, HIG5.out, HC3.out⟩
                case measure => simp [intOf]; omega
            · obtain ⟨bg, bc, hv13⟩ : ∃ bg bc, u13 = .slice (some ⟨bg, 0, none⟩) hs2.length bc := by
                rcases HC2.out.1.2 with ⟨_, h0⟩ | ⟨g', cap', cur, hv, _⟩
                · exact absurd (List.length_eq_zero_iff.1 h0) hh0
                · exact ⟨g', cap', hv⟩
              subst hv13
              have hcells := World.ownsRow.cells (g := bg) HC2.out.1 rfl
              have hpos : 0 < hs2.length := List.length_pos_iff.2 hh0
              have hig0 := HIG5.out.mono (Nat.zero_le _)
              have HCE := Lib.hid hcells
              have HG0 := Lib.hid hig0
              have HH0 := Lib.hid hh0
              clear hcells hig0 hh0
              go_wp2_with (
                refine wpList_step fun K hK => ?_
                refine step_appm 60 (by rfl) (by rfl) elem83 _ _ (by rfl) u10 gs.length (flatG gs) (by rfl) HG0.out.1 ⟨bg, 0, none⟩ hs2.length bc (flatG hs2) (by rfl) (flatG_length _) HCE.out (fun u hu => flatG_one u hu) (gs.length + hs2.length) rfl hpos (by simp only [maxLen]; omega) (by omega) ?_
                intro g9 cap9 w9 hown hgrow hat hlt
                refine hK _ _ ?_
                have hig9 := IsG8.app (W0 := w) HIG5.out HC2.out.2.2 HH0.out hb5 hown hgrow hat
                have hb9 : Below w2.heap.size w2 w9 := HC3.out.grown hgrow HC3.out.size (fun k hk => by
                  rcases HIG5.out.1.2 with ⟨h0, _⟩ | ⟨g', cap', cur, hv, hg', _⟩
                  · rw [h0] at hk; simp [Value.ownBlock] at hk
                  · rw [hv] at hk; simp only [Value.ownBlock, Option.some.injEq] at hk; omega)
                have HI9 := Lib.hid hig9
                have HB9 := Lib.hid hb9
                clear hown hgrow hat hlt hig9 hb9 hK K)
              go_roundw
              case rel => exact ⟨k + 1, mm, gs ++ hs2, by omega, by go_num, rfl, HEND.out.1, HEND.out.2, HI9.out, HB9.out⟩
              case measure => simp [intOf]; omega
        · have hkn : k = sn := by omega
          have y1 : ¬ ((k : Int) < (sn : Int)) := by omega
          have hfin : R = (gs.map (·.d), m) := by
            rw [HRE.out, hgs, hme, List.take_of_length_le (by rw [← HLN.out]; omega)]
          have HFIN := Lib.hid hfin
          have HIG := Lib.hid (hig.mono HB2.out.size)
          have HBW := Lib.hid hBw
          clear hkn hgs hme hig hBr hBw hfin
          go_wp2_with (fail)
          go_ret2
          exact ⟨_, gs, by rw [HFIN.out]; rfl, by rw [HFIN.out], HIG.out, HBW.out⟩
mutual
theorem goals_all : ∀ t : PT, GoalsOk t
  | .node r o s => goals_of _ (goals_allF s)
theorem goals_allF : ∀ (ts : List PT) (i : Nat) q, ts[i]? = some q → GoalsOk q
  | [], i, q, h => by simp at h
  | t :: ts, 0, q, h => by simp at h; subst h; exact goals_all t
  | t :: ts, i + 1, q, h => goals_allF ts i q (by simpa using h)
end
end Go.Proofs.Ytfebcpmbkljaoaa
