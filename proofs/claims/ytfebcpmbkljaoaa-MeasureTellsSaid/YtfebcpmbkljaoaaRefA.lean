/- The reference: right, Count, Valid. -/
import Derived.Test.YtfebcpmbkljaoaaSmal
namespace Go.Proofs.Ytfebcpmbkljaoaa
open Go.RowKit Go.HR
set_option linter.unusedVariables false
set_option linter.unusedSimpArgs false
set_option linter.unusedSectionVars false
mutual
def rightT : Nat → PT → Bool
  | d, .node r _ s => decide (d ≤ 40) && decide (s.length ≤ 8) && !(decide (r = ⟨#[63]⟩) && decide (0 < s.length)) && rightF (d + 1) s
def rightF : Nat → List PT → Bool
  | _, [] => true
  | d, t :: ts => rightT d t && rightF d ts
end
theorem rule_hole (r : ByteArray) : (r.toList == [63]) = decide (r = ⟨#[63]⟩) := by
  by_cases h : r = ⟨#[63]⟩
  · subst h
    rw [ByteArray.toList_eq]
    simp
  · simp only [h, decide_false]
    exact beq_eq_false_iff_ne.2 (not_hole h)
mutual
theorem right_steps (pl : List Nat) (w : Nat) : ∀ t : PT, (stepsT pl w t).all okD = rightT pl.length t
  | .node r o s => by
    simp only [stepsT, rightT, List.all_cons, right_stepsF pl _ 0 s]
    simp only [okD, PT.subs, PT.rule, Bool.and_assoc]
    rfl
theorem right_stepsF (pl : List Nat) (w : Nat) (i : Nat) : ∀ ts : List PT, (stepsF pl w i ts).all okD = rightF (pl.length + 1) ts
  | [] => rfl
  | t :: ts => by
    simp only [stepsF, rightF, List.all_append, right_steps (pl ++ [i]) w t, right_stepsF pl w (i + 1) ts, List.length_append, List.length_cons, List.length_nil, Nat.zero_add]
end
def RetBo (w : World) (b : Bool) (e : Ending) (w' : World) : Prop := e = .returned (.bool b) ∧ Below w.heap.size w w'
def RightOk (t : PT) : Prop := ∀ (w : World) (sv : SL) (d : Nat), IsPs w.heap.size w sv t.subs → sizeT t ≤ 10000 → d ≤ 41 → Calls Try.prog 51 #[.agg (t.arr sv), .int .i64 d] w (RetBo w (rightT d t))
theorem rightF_take {ts : List PT} {i : Nat} {d : Nat} {q : PT} (h : ts[i]? = some q) : rightF d (ts.take (i + 1)) = (rightF d (ts.take i) && rightT d q) := by
  induction ts generalizing i with
  | nil => simp at h
  | cons t ts ih =>
    cases i with
    | zero => simp at h; subst h; simp [rightF]
    | succ i => simp at h; simp only [List.take_succ_cons, rightF, ih h, Bool.and_assoc]
theorem rightF_stop {ts : List PT} {i : Nat} {d : Nat} {q : PT} (h : ts[i]? = some q) (hq : rightT d q = false) : rightF d ts = false := by
  induction ts generalizing i with
  | nil => simp at h
  | cons t ts ih =>
    cases i with
    | zero => simp at h; subst h; simp [rightF, hq]
    | succ i => simp at h; simp [rightF, ih h]
set_option maxRecDepth 100000 in
set_option maxHeartbeats 8000000 in
theorem right_of (t : PT) (he : ∀ (i : Nat) q, t.subs[i]? = some q → RightOk q) : RightOk t := by
  intro w sv d hs hz hd
  have hln := hs.len
  have hlz : t.subs.length ≤ 10000 := subs_le t hz
  obtain ⟨rule, ⟨op, name, ⟨aa, an, ac⟩, ⟨fa, fn, fc⟩, label, ⟨ma, mn, mc⟩⟩, subs⟩ := t
  obtain ⟨sa, sn, sc⟩ := sv
  simp only [PT.subs] at hs he hln hlz
  obtain ⟨R, hR⟩ : ∃ R, R = rightT d (.node rule ⟨op, name, ⟨aa, an, ac⟩, ⟨fa, fn, fc⟩, label, ⟨ma, mn, mc⟩⟩ subs) := ⟨_, rfl⟩
  rw [← hR]
  simp only [rightT] at hR
  simp only [sizeT] at hz
  have hze : ∀ (i : Nat) q, subs[i]? = some q → sizeT q ≤ 10000 := fun i q hq => by have := sizeF_mem hq; omega
  rw [← hln] at hlz
  simp only [PT.arr, PT.rule, PT.o, PT.subs, SL.v]
  have HR := Lib.hid hR
  have HS := Lib.hid hs
  have HE := Lib.hid he
  have HLN := Lib.hid hln
  have HZE := Lib.hid hze
  clear hR hs he hln hze hz
  by_cases q1 : d ≤ 40
  · have y1 : ¬ (40 : Int) < (d : Int) := by omega
    by_cases q2 : sn ≤ 8
    · have y2 : ¬ (8 : Int) < (sn : Int) := by omega
      obtain ⟨bh, hbh⟩ : ∃ bh : Bool, bh = (rule.toList == [63]) := ⟨_, rfl⟩
      have e1 : (rule.toList == [63]) = bh := hbh.symm
      have hbr : bh = decide (rule = ⟨#[63]⟩) := by rw [hbh]; exact rule_hole rule
      have HBR := Lib.hid hbr
      clear hbh hbr
      by_cases q3 : bh = true ∧ 0 < sn
      · obtain ⟨rfl, q3⟩ := q3
        have y3 : (0 : Int) < (sn : Int) := by omega
        go_enter Try.func51, Try.ntmps51
        go_wp2_with (fail)
        go_ret
        refine ⟨?_, bl_al (Below.refl _ _)⟩
        rw [HR.out, ← HBR.out, ← HLN.out]
        simp [q3]
      · have hq3 : (bh && decide (0 < sn)) = false := by
          cases bh with
          | false => rfl
          | true => simp at q3; simp [q3]
        have HQ3 := Lib.hid hq3
        have hq3' : bh = true → sn = 0 := fun h => by subst h; simpa using hq3
        go_enter Try.func51, Try.ntmps51
        go_upto_region 1 with (fail)
        obtain ⟨w1, hw1⟩ : ∃ w1, w1 = w.alloc (.cells #[.string rule, .int .u8 op, .string name, .slice aa an ac, .slice fa fn fc, .int .i64 label, .slice sa sn sc, .slice ma mn mc] 30) := ⟨_, rfl⟩
        rw [← hw1]
        obtain ⟨G, hG⟩ : ∃ G, G = w.heap.size := ⟨_, rfl⟩
        rw [← hG]
        have hB1 : Below w.heap.size w w1 := by rw [hw1]; exact bl_al (Below.refl _ _)
        have hX1 : w1.heap[G]? = some (.cells #[.string rule, .int .u8 op, .string name, .slice aa an ac, .slice fa fn fc, .int .i64 label, .slice sa sn sc, .slice ma mn mc] 30 (0, 0)) := by rw [hw1, hG]; exact HK.blk_new _ _
        have HB1 := Lib.hid hB1
        have HX1 := Lib.hid hX1
        have HS1 := Lib.hid (HS.out.up hB1)
        clear hB1 hw1 hG hq3
        go_cut [24] from 6 to 24 (fun v wx => v = .bool false ∧ wx = w1)
        case first =>
          have x0 : w1.cell? ⟨G, 0, none⟩ = some (.string rule) := HK.blk_cell hX1 0
          have x6 : w1.cell? ⟨G, 6, none⟩ = some (.slice sa sn sc) := HK.blk_cell hX1 6
          clear hX1
          cases bh with
          | false =>
            go_wp2_with (fail)
            go_meet
            case rel => exact ⟨rfl, rfl⟩
          | true =>
            obtain rfl := hq3' rfl
            clear hq3'
            go_wp2_with (fail)
            go_meet
            case rel => exact ⟨rfl, rfl⟩
        case rest =>
          obtain ⟨rfl, hwc⟩ := hcut
          obtain ⟨w2, hw2⟩ : ∃ w2 : World, w2 = wc := ⟨_, rfl⟩
          rw [← hw2]
          have h12 : w2 = w1 := hw2.trans hwc
          subst h12
          clear hw2 hwc hX1 hq3' q3 e1
          have HY2 := Lib.hid y2
          go_wp2_with (fail)
          go_loopw [5] (fun j wr => ∃ i : Nat, i ≤ sn ∧ j = .int .i64 i ∧ rightF (d + 1) (subs.take i) = true ∧ Below w2.heap.size w2 wr) (fun j _ => sn - (intOf j).toNat)
          case atStart => exact ⟨0, by omega, rfl, rfl, Below.refl _ _⟩
          case round =>
            obtain ⟨i, hi, rfl, hrt, hBr⟩ := hrel
            have hXr := (hBr.block _ (HK.blk_lt HX1.out)).trans HX1.out
            have x6 : wr.cell? ⟨G, 6, none⟩ = some (.slice sa sn sc) := HK.blk_cell hXr 6
            clear hXr
            by_cases h1 : i < sn
            · obtain ⟨q, hq⟩ : ∃ q, subs[i]? = some q := ⟨_, List.getElem?_eq_getElem (by rw [← HLN.out]; exact h1)⟩
              obtain ⟨g, o, s', ha, hg, hc, hps⟩ := psAt HS1.out hq
              subst ha
              have hcell := fun (k : Nat) (v : Value) (h : (q.vals s')[k]? = some v) => cell_then (hc k v h) hBr
              have hcall := HE.out i q hq wr s' (d + 1) (hps.up hBr) (HZE.out i q hq) (by omega)
              have htk := rightF_take (d := d + 1) hq
              have hst := rightF_stop (d := d + 1) hq
              obtain ⟨rq, hrq⟩ : ∃ rq, rq = rightT (d + 1) q := ⟨_, rfl⟩
              rw [← hrq] at hcall htk hst
              obtain ⟨qr, ⟨qo, qm, ⟨ea, en, ec⟩, ⟨ia, i2, ic⟩, ql, ⟨ka, kn, kc⟩⟩, qs⟩ := q
              obtain ⟨ta, tn, tc⟩ := s'
              have c0 := hcell 0 _ rfl
              have c1 := hcell 1 _ rfl
              have c2 := hcell 2 _ rfl
              have c3 := hcell 3 _ rfl
              have c4 := hcell 4 _ rfl
              have c5 := hcell 5 _ rfl
              have c6 := hcell 6 _ rfl
              have c7 := hcell 7 _ rfl
              simp only [PT.rule, PT.o, PT.subs, PT.arr, SL.v, Nat.add_zero, Int.natCast_add, Int.cast_ofNat_Int] at c0 c1 c2 c3 c4 c5 c6 c7 hcall
              have z1 : (0 : Int) ≤ (i : Int) := by omega
              have z2 : (i : Int) < (sn : Int) := by omega
              have HC := Lib.hid hcall
              have HTK := Lib.hid htk
              have HST := Lib.hid hst
              have HRT := Lib.hid hrt
              have HBR2 := Lib.hid hBr
              clear hcell hc hg hps hcall hBr hq hrt htk hst hrq
              go_upto_if 40 with (go_at_call 51; (refine HC.out.mono ?_; rintro e w5 ⟨rfl, h5⟩; have H5 := Lib.hid h5; clear h5))
              cases rq with
              | true =>
                go_wp2_with (fail)
                go_roundw
                case rel => exact ⟨i + 1, by omega, by go_num, by rw [HTK.out, HRT.out]; rfl, below_then HBR2.out H5.out⟩
                case measure => simp [intOf]; omega
              | false =>
                go_wp2_with (fail)
                go_ret
                refine ⟨?_, below_then HB1.out (below_then HBR2.out H5.out)⟩
                rw [HR.out, (by first | exact HST.out rfl | exact HST.out trivial : rightF (d + 1) subs = false)]
                simp
            · obtain rfl : i = sn := by omega
              have y3 : ¬ ((i : Int) < (i : Int)) := by omega
              have HRT := Lib.hid hrt
              have HBR2 := Lib.hid hBr
              clear hrt hBr
              go_wp2_with (fail)
              go_ret
              refine ⟨?_, below_then HB1.out HBR2.out⟩
              have h2 := HRT.out
              rw [List.take_of_length_le (by rw [HLN.out]; exact Nat.le_refl _)] at h2
              have h3 := HQ3.out
              rw [HBR.out, HLN.out] at h3
              rw [HR.out, h2, h3, ← HLN.out]
              simp [q1, q2]
    · have y2 : (8 : Int) < (sn : Int) := by omega
      go_enter Try.func51, Try.ntmps51
      go_wp2_with (fail)
      go_ret
      refine ⟨?_, bl_al (Below.refl _ _)⟩
      rw [HR.out, ← HLN.out]
      simp [q2]
  · have y1 : (40 : Int) < (d : Int) := by omega
    go_enter Try.func51, Try.ntmps51
    go_wp2_with (fail)
    go_ret
    refine ⟨?_, bl_al (Below.refl _ _)⟩
    rw [HR.out]
    simp [q1]
mutual
theorem right_all : ∀ t : PT, RightOk t
  | .node r o s => right_of _ (right_allF s)
theorem right_allF : ∀ (ts : List PT) (i : Nat) q, ts[i]? = some q → RightOk q
  | [], i, q, h => by simp at h
  | t :: ts, 0, q, h => by simp at h; subst h; exact right_all t
  | t :: ts, i + 1, q, h => right_allF ts i q (by simpa using h)
end
/-! Count. -/
def cnt (t : PT) : Nat := if sizeT t ≤ 300 then sizeT t else 301
def CountOk (t : PT) : Prop := ∀ (w : World) (sv : SL), IsPs w.heap.size w sv t.subs → sizeT t ≤ 10000 → Calls Try.prog 52 #[.agg (t.arr sv)] w fun e w' => e = .returned (.int .i64 (cnt t : Nat)) ∧ Below w.heap.size w w'
set_option maxRecDepth 100000 in
set_option maxHeartbeats 8000000 in
theorem count_of (t : PT) (he : ∀ (i : Nat) q, t.subs[i]? = some q → CountOk q) : CountOk t := by
  intro w sv hs hz
  have hln := hs.len
  have hlz : t.subs.length ≤ 10000 := subs_le t hz
  have hze : ∀ (i : Nat) q, t.subs[i]? = some q → sizeT q ≤ 10000 := fun i q hq => by have := sizeF_mem hq; have := sizeT_eq t; omega
  have hsz := sizeT_eq t
  obtain ⟨C, hC⟩ : ∃ C, C = cnt t := ⟨_, rfl⟩
  rw [← hC]
  unfold cnt at hC
  have hC1 : 1 + sizeF t.subs ≤ 300 → C = 1 + sizeF t.subs := fun h => by rw [hC, if_pos (by omega)]; exact hsz
  have hC2 : ¬ 1 + sizeF t.subs ≤ 300 → C = 301 := fun h => by rw [hC, if_neg (by omega)]
  clear hC
  obtain ⟨rule, ⟨op, name, ⟨aa, an, ac⟩, ⟨fa, fn, fc⟩, label, ⟨ma, mn, mc⟩⟩, subs⟩ := t
  obtain ⟨sa, sn, sc⟩ := sv
  simp only [PT.subs] at hs he hln hlz hC1 hC2 hze
  rw [← hln] at hlz
  simp only [PT.arr, PT.rule, PT.o, PT.subs, SL.v]
  have HCC := Lib.hid (And.intro hC1 hC2)
  have HE := Lib.hid he
  have HLN := Lib.hid hln
  have HZE := Lib.hid hze
  obtain ⟨w1, hw1⟩ : ∃ w1, w1 = w.alloc (.cells #[.string rule, .int .u8 op, .string name, .slice aa an ac, .slice fa fn fc, .int .i64 label, .slice sa sn sc, .slice ma mn mc] 30) := ⟨_, rfl⟩
  obtain ⟨G, hG⟩ : ∃ G, G = w.heap.size := ⟨_, rfl⟩
  have hB1 : Below w.heap.size w w1 := by rw [hw1]; exact bl_al (Below.refl _ _)
  have hX1 : w1.heap[G]? = some (.cells #[.string rule, .int .u8 op, .string name, .slice aa an ac, .slice fa fn fc, .int .i64 label, .slice sa sn sc, .slice ma mn mc] 30 (0, 0)) := by rw [hw1, hG]; exact HK.blk_new _ _
  have HB1 := Lib.hid hB1
  have HX1 := Lib.hid hX1
  have HS1 := Lib.hid (hs.up hB1)
  have HW1 := Lib.hid hw1
  have HG := Lib.hid hG
  clear hC1 hC2 hs he hln hze hz hsz hB1 hX1 hw1 hG
  go_enter Try.func52, Try.ntmps52
  go_upto_block 0 with (fail)
  rw [← HW1.out, ← HG.out]
  go_wp2_with (fail)
  go_loopw [3, 4] (fun n j wr => ∃ (i m : Nat), i ≤ sn ∧ j = .int .i64 i ∧ n = .int .i64 m ∧ m ≤ 300 ∧ m = 1 + sizeF (subs.take i) ∧ Below w1.heap.size w1 wr) (fun _ j _ => sn - (intOf j).toNat)
  case atStart => exact ⟨0, 1, by omega, rfl, rfl, by omega, by simp [sizeF], Below.refl _ _⟩
  case round =>
    obtain ⟨i, m, hi, rfl, rfl, hm, hme, hBr⟩ := hrel
    have hXr := (hBr.block _ (HK.blk_lt HX1.out)).trans HX1.out
    have x6 : wr.cell? ⟨G, 6, none⟩ = some (.slice sa sn sc) := HK.blk_cell hXr 6
    clear hXr
    by_cases h1 : i < sn
    · obtain ⟨q, hq⟩ : ∃ q, subs[i]? = some q := ⟨_, List.getElem?_eq_getElem (by rw [← HLN.out]; exact h1)⟩
      obtain ⟨g, o, s', ha, hg, hc, hps⟩ := psAt HS1.out hq
      subst ha
      have hcell := fun (k : Nat) (v : Value) (h : (q.vals s')[k]? = some v) => cell_then (hc k v h) hBr
      have hcall := HE.out i q hq wr s' (hps.up hBr) (HZE.out i q hq)
      have htk := sizeF_more hq
      have hle := sizeF_take hq
      obtain ⟨c, hcn⟩ : ∃ c, c = cnt q := ⟨_, rfl⟩
      have hc301 : c ≤ 301 := by rw [hcn]; unfold cnt; split <;> omega
      rw [← hcn] at hcall
      unfold cnt at hcn
      obtain ⟨sq, hsq⟩ : ∃ sq, sq = sizeT q := ⟨_, rfl⟩
      rw [← hsq] at hcn htk hle
      obtain ⟨qr, ⟨qo, qm, ⟨ea, en, ec⟩, ⟨ia, i2, ic⟩, ql, ⟨ka, kn, kc⟩⟩, qs⟩ := q
      obtain ⟨ta, tn, tc⟩ := s'
      have c0 := hcell 0 _ rfl
      have c1 := hcell 1 _ rfl
      have c2 := hcell 2 _ rfl
      have c3 := hcell 3 _ rfl
      have c4 := hcell 4 _ rfl
      have c5 := hcell 5 _ rfl
      have c6 := hcell 6 _ rfl
      have c7 := hcell 7 _ rfl
      simp only [PT.rule, PT.o, PT.subs, PT.arr, SL.v, Nat.add_zero] at c0 c1 c2 c3 c4 c5 c6 c7 hcall
      have z1 : (0 : Int) ≤ (i : Int) := by omega
      have z2 : (i : Int) < (sn : Int) := by omega
      have HC := Lib.hid hcall
      have HTK := Lib.hid htk
      have HLE := Lib.hid hle
      have HCN := Lib.hid hcn
      have HME := Lib.hid hme
      have HBR2 := Lib.hid hBr
      obtain ⟨mc2, hmc⟩ : ∃ mc2, mc2 = m + c := ⟨_, rfl⟩
      have z3 : (m : Int) + (c : Int) = (mc2 : Int) := by omega
      have z4 : mc2 ≤ 601 := by omega
      have HMC := Lib.hid hmc
      clear hcell hc hg hps hcall hBr hq htk hle hcn hme hsq hmc
      by_cases h300 : mc2 ≤ 300
      · have z5 : ¬ (300 : Int) < (mc2 : Int) := by omega
        go_wp2_with (go_at_call 52; (refine HC.out.mono ?_; rintro e w5 ⟨rfl, h5⟩; have H5 := Lib.hid h5; clear h5))
        go_roundw
        case rel =>
          refine ⟨i + 1, mc2, by omega, by go_num, rfl, h300, ?_, below_then HBR2.out H5.out⟩
          have e1 := HMC.out
          have e2 := HTK.out
          have e3 := HCN.out
          have e4 := HME.out
          split at e3 <;> omega
        case measure => simp [intOf]; omega
      · have z5 : (300 : Int) < (mc2 : Int) := by omega
        go_wp2_with (go_at_call 52; (refine HC.out.mono ?_; rintro e w5 ⟨rfl, h5⟩; have H5 := Lib.hid h5; clear h5))
        go_ret
        refine ⟨?_, below_then HB1.out (below_then HBR2.out H5.out)⟩
        have e1 := HMC.out
        have e2 := HTK.out
        have e3 := HCN.out
        have e4 := HME.out
        have e5 := HLE.out
        have e6 := HCC.out.2 (by split at e3 <;> omega)
        rw [e6]
        rfl
    · obtain rfl : i = sn := by omega
      have y3 : ¬ ((i : Int) < (i : Int)) := by omega
      have HME := Lib.hid hme
      have HBR2 := Lib.hid hBr
      clear hme hBr
      go_wp2_with (fail)
      go_ret
      refine ⟨?_, below_then HB1.out HBR2.out⟩
      have h2 := HME.out
      rw [List.take_of_length_le (by rw [HLN.out]; exact Nat.le_refl _)] at h2
      have h3 := HCC.out.1 (by omega)
      have h4 : m = C := by omega
      rw [h4]
      rfl
mutual
theorem count_all : ∀ t : PT, CountOk t
  | .node r o s => count_of _ (count_allF s)
theorem count_allF : ∀ (ts : List PT) (i : Nat) q, ts[i]? = some q → CountOk q
  | [], i, q, h => by simp at h
  | t :: ts, 0, q, h => by simp at h; subst h; exact count_all t
  | t :: ts, i + 1, q, h => count_allF ts i q (by simpa using h)
end
set_option maxRecDepth 100000 in
set_option maxHeartbeats 4000000 in
theorem valid_call (w : World) (t : PT) (sv : SL) (hs : IsPs w.heap.size w sv t.subs) (hz : sizeT t ≤ 10000) : Calls Try.prog 34 #[.agg (t.arr sv)] w (RetBo w (measT t)) := by
  have hr := fun (W : World) (hB : Below w.heap.size w W) => right_all t W sv 0 (hs.up hB) hz (by omega)
  have hc := fun (W : World) (hB : Below w.heap.size w W) => count_all t W sv (hs.up hB) hz
  obtain ⟨b, hb⟩ : ∃ b, b = rightT 0 t := ⟨_, rfl⟩
  obtain ⟨c, hcn⟩ : ∃ c, c = cnt t := ⟨_, rfl⟩
  have hm : measT t = (b && decide (c ≤ 300)) := by
    unfold measT
    rw [right_steps [] whole t, hb, hcn, Bool.and_comm]
    congr 1
    unfold cnt
    by_cases h : sizeT t ≤ 300
    · simp [h]
    · simp [h]
  have hc3 : c ≤ 301 := by rw [hcn]; unfold cnt; split <;> omega
  rw [hm]
  rw [← hb] at hr
  rw [← hcn] at hc
  clear hm hb hcn
  obtain ⟨rule, ⟨op, name, ⟨aa, an, ac⟩, ⟨fa, fn, fc⟩, label, ⟨ma, mn, mc⟩⟩, subs⟩ := t
  obtain ⟨sa, sn, sc⟩ := sv
  simp only [PT.arr, PT.rule, PT.o, PT.subs, SL.v] at hr hc ⊢
  have HRR := Lib.hid hr
  have HC := Lib.hid hc
  clear hr hc hs hz
  cases b with
  | false =>
    go_enter Try.func34, Try.ntmps34
    go_wp2_with (go_at_call 51; (refine (HRR.out _ (bl_al (Below.refl _ _))).mono ?_; rintro e w5 ⟨rfl, h5⟩; have H5 := Lib.hid (below_then (bl_al (Below.refl _ _)) h5); clear h5))
    go_ret
    exact ⟨rfl, H5.out⟩
  | true =>
    go_enter Try.func34, Try.ntmps34
    have hx : (w.alloc (.cells #[.string rule, .int .u8 op, .string name, .slice aa an ac, .slice fa fn fc, .int .i64 label, .slice sa sn sc, .slice ma mn mc] 30)).heap[w.heap.size]? = some (.cells #[.string rule, .int .u8 op, .string name, .slice aa an ac, .slice fa fn fc, .int .i64 label, .slice sa sn sc, .slice ma mn mc] 30 (0, 0)) := HK.blk_new _ _
    have HX := Lib.hid hx
    clear hx
    go_wp2_with (first
      | (go_at_call 51; (refine (HRR.out _ (bl_al (Below.refl _ _))).mono ?_; rintro e w5 ⟨rfl, h5⟩
                         have hx5 := (h5.block _ (HK.blk_lt HX.out)).trans HX.out
                         have x0 := HK.blk_cell hx5 0
                         have x1 := HK.blk_cell hx5 1
                         have x2 := HK.blk_cell hx5 2
                         have x3 := HK.blk_cell hx5 3
                         have x4 := HK.blk_cell hx5 4
                         have x5 := HK.blk_cell hx5 5
                         have x6 := HK.blk_cell hx5 6
                         have x7 := HK.blk_cell hx5 7
                         have H5 := Lib.hid (below_then (bl_al (Below.refl w.heap.size w)) h5)
                         clear h5 hx5))
      | (go_at_call 52; (refine (HC.out _ H5.out).mono ?_; rintro e w6 ⟨rfl, h6⟩; have H6 := Lib.hid (below_then H5.out h6); clear h6)))
    go_ret
    exact ⟨by simp; omega, H6.out⟩
end Go.Proofs.Ytfebcpmbkljaoaa
namespace Go.Proofs.Ytfebcpmbkljaoaa
open Go.RowKit Go.HR
set_option linter.unusedVariables false
set_option linter.unusedSimpArgs false
set_option linter.unusedSectionVars false
set_option maxRecDepth 100000 in
set_option maxHeartbeats 8000000 in
/-- Is a place among places? -/
theorem has_call (w : World) (s t : SL) (ws : List (List Int)) (is : List Int) (hs : IsW w s ws) (ht : IsI w t is) (hl : ws.length ≤ 20000) (hu : ∀ u ∈ ws, u.length ≤ 20000) (hl2 : is.length ≤ 20000) : Calls Try.prog 44 #[s.v, t.v] w (RetD w (.bool (decide (is ∈ ws)))) := by
  obtain ⟨R, hR⟩ : ∃ R, R = decide (is ∈ ws) := ⟨_, rfl⟩
  rw [← hR]
  have HR := Lib.hid hR
  clear hR
  obtain ⟨a, n, c⟩ := s
  obtain ⟨b, m, e⟩ := t
  obtain ⟨hn, hs⟩ := hs
  obtain ⟨hm, he, ht⟩ := ht
  simp only at hn hm hs ht he
  simp only [SL.v]
  rw [← hn] at hl
  rw [← hm] at hl2
  have HN := Lib.hid hn
  have HM := Lib.hid hm
  have HS := Lib.hid hs
  have HT := Lib.hid ht
  have HU := Lib.hid hu
  clear hn hm hs ht hu
  go_enter Try.func44, Try.ntmps44
  go_wp2_with (fail)
  go_loopw [5] (fun i wr => ∃ k d : Nat, k ≤ n ∧ i = .int .i64 k ∧ wr = w.drewN d ∧ is ∉ ws.take k) (fun i _ => n - (intOf i).toNat)
  case atStart => exact ⟨0, 0, by omega, rfl, rfl, by simp⟩
  case round =>
    obtain ⟨k, d, hk, rfl, rfl, hno⟩ := hrel
    have HNO := Lib.hid hno
    clear hno
    obtain ⟨w2, hw2⟩ : ∃ w2, w2 = w.drewN d := ⟨_, rfl⟩
    rw [← hw2]
    have HW2 := Lib.hid hw2
    by_cases h1 : k < n
    · obtain ⟨u, hu⟩ : ∃ u, ws[k]? = some u := ⟨_, List.getElem?_eq_getElem (by rw [← HN.out]; omega)⟩
      obtain ⟨g, o, rfl, sl, hc1⟩ := HS.out.resolve_left (fun e => by rw [e] at hu; simp at hu)
      obtain ⟨hcu, hui⟩ := hc1 k u hu
      have hul := HU.out u (List.mem_of_getElem? hu)
      obtain ⟨⟨ua, un, uc⟩, hsl⟩ : ∃ q : SL, q = sl k := ⟨_, rfl⟩
      rw [← hsl] at hcu hui
      obtain ⟨hun, huc, huu⟩ := hui
      simp only [SL.v] at hcu hun huu huc
      rw [← hun] at hul
      have cu : ∀ q, (w2.drewN q).cell? ⟨g, o + k, none⟩ = some (.slice ua un uc) := fun q => by rw [hw2]; exact hcu
      have cu0 : w2.cell? ⟨g, o + k, none⟩ = some (.slice ua un uc) := by rw [hw2]; exact hcu
      have b1 : (0 : Int) ≤ (k : Int) := by omega
      have b2 : (k : Int) < (n : Int) := by omega
      obtain ⟨bl, hbl⟩ : ∃ bl : Bool, bl = decide (un = m) := ⟨_, rfl⟩
      have e1 : decide ((un : Int) = (m : Int)) = bl := by rw [hbl]; exact decide_eq_decide.2 Int.ofNat_inj
      have e2 : ((un : Int) == (m : Int)) = bl := by rw [← e1]; rfl
      have HBL := Lib.hid hbl
      have HUN := Lib.hid hun
      have HUU := Lib.hid huu
      have htk : ws.take (k + 1) = ws.take k ++ [u] := by rw [List.take_add_one, hu]; rfl
      have HTK := Lib.hid htk
      have hmem : u ∈ ws := List.mem_of_getElem? hu
      clear hc1 hu hcu hsl hun huu hw2 hbl htk
      go_upto_block 2 with (fail)
      go_cut [6] from 22 to 42 (fun v wx => ∃ dd, wx = w2.drewN dd ∧ v = .bool (decide (u = is)))
      case first =>
        clear cu0
        go_wp2_with (fail)
        go_loopw [6, 7] (fun sm j wr => ∃ (q d2 : Nat) (b : Bool), q ≤ m ∧ j = .int .i64 q ∧ sm = .bool b ∧ wr = w2.drewN d2 ∧ (b = true → un = m ∧ u.take q = is.take q) ∧ (b = false → u ≠ is)) (fun _ j _ => m - (intOf j).toNat)
        case atStart =>
          refine ⟨0, 0, bl, by omega, rfl, rfl, rfl, fun h => ⟨by rw [h] at HBL; simpa using HBL.out.symm, rfl⟩, fun h hui => ?_⟩
          have h3 := HBL.out
          rw [h] at h3
          have h4 : un ≠ m := by simpa using h3.symm
          exact h4 (by rw [HUN.out, HM.out, hui])
        case round =>
          obtain ⟨q, d2, b, hq, rfl, rfl, rfl, hbt, hbf⟩ := hrel
          obtain ⟨w3, hw3⟩ : ∃ w3, w3 = w2.drewN d2 := ⟨_, rfl⟩
          rw [← hw3]
          have HW3 := Lib.hid hw3
          have HBT := Lib.hid hbt
          have HBF := Lib.hid hbf
          clear hbt hbf
          by_cases h2 : q < m
          · have y1 : (q : Int) < (m : Int) := by omega
            cases b with
            | false =>
              have hd : decide (u = is) = false := decide_eq_false (HBF.out rfl)
              have HD := Lib.hid hd
              clear hw3 hd
              go_wp2_with (fail)
              go_meet
              case rel => exact ⟨d2, HW3.out, by rw [HD.out]⟩
            | true =>
              obtain ⟨hum, htq⟩ := HBT.out rfl
              subst hum
              obtain ⟨x, hx⟩ : ∃ x, u[q]? = some x := ⟨_, List.getElem?_eq_getElem (by rw [← HUN.out]; omega)⟩
              obtain ⟨y, hy⟩ : ∃ y, is[q]? = some y := ⟨_, List.getElem?_eq_getElem (by rw [← HM.out]; omega)⟩
              obtain ⟨g3, o3, rfl, hc3⟩ := HUU.out.resolve_left (fun e => by rw [e] at hx; simp at hx)
              obtain ⟨g4, o4, rfl, hc4⟩ := HT.out.resolve_left (fun e => by rw [e] at hy; simp at hy)
              have c1 : ∀ q2, (w3.drewN q2).cell? ⟨g3, o3 + q, none⟩ = some (.int .i64 x) := fun q2 => by rw [hw3, HW2.out]; exact hc3 q x hx
              have c2 : ∀ q2, (w3.drewN q2).cell? ⟨g4, o4 + q, none⟩ = some (.int .i64 y) := fun q2 => by rw [hw3, HW2.out]; exact hc4 q y hy
              have c5 : ∀ q2, (w3.drewN q2).cell? ⟨g, o + k, none⟩ = some (.slice (some ⟨g3, o3, none⟩) un uc) := fun q2 => by rw [hw3]; exact cu (d2 + q2) |>.trans rfl
              have c6 := c5 0
              have c7 := c1 0
              have c8 := c2 0
              have h3 := take_more htq hx hy
              have hne : x ≠ y → u ≠ is := fun e e2 => by subst e2; rw [hx] at hy; exact e (Option.some.inj hy)
              obtain ⟨bx, hbx⟩ : ∃ bx : Bool, bx = decide (x = y) := ⟨_, rfl⟩
              have ex1 : decide (x = y) = bx := hbx.symm
              have ex2 : (x == y) = bx := by rw [hbx]; rfl
              have HBX := Lib.hid hbx
              have H3 := Lib.hid h3
              have HNE := Lib.hid hne
              have y2 : (0 : Int) ≤ (q : Int) := by omega
              clear htq hx hy hc3 hc4 h3 hne hbx hw3
              go_wp2_with (fail)
              go_quiet (fail)
              go_wp2_with (fail)
              go_roundw
              case rel =>
                refine ⟨q + 1, d2 + nq, bx, by omega, by go_num, rfl, by rw [HW3.out]; simp, fun h => ⟨by trivial, H3.out.2 ?_⟩, fun h => HNE.out ?_⟩
                · have h5 := HBX.out
                  rw [h] at h5
                  simpa using h5.symm
                · have h5 := HBX.out
                  rw [h] at h5
                  simpa using h5.symm
              case measure => simp [intOf]; omega
          · have hqm : q = m := by omega
            have hdd : decide (u = is) = b := by
              cases b with
              | true =>
                obtain ⟨h4, h5⟩ := HBT.out rfl
                refine decide_eq_true ?_
                rw [List.take_of_length_le (by rw [← HUN.out]; omega), List.take_of_length_le (by rw [← HM.out]; omega)] at h5
                exact h5
              | false => exact decide_eq_false (HBF.out rfl)
            have HDD := Lib.hid hdd
            have y1 : ¬ ((q : Int) < (m : Int)) := by omega
            clear hqm hdd hw3
            go_wp2_with (fail)
            go_meet
            case rel => exact ⟨d2, HW3.out, by rw [HDD.out]⟩
      case rest =>
        obtain ⟨dd, hwd, rfl⟩ := hcut
        obtain ⟨w4, hw4⟩ : ∃ w4 : World, w4 = wc := ⟨_, rfl⟩
        rw [← hw4]
        have HW4 := Lib.hid (hw4.trans hwd)
        clear hw4 hwd e1 e2 cu cu0
        obtain ⟨bu, hbu⟩ : ∃ bu, bu = decide (u = is) := ⟨_, rfl⟩
        rw [← hbu]
        have HBU := Lib.hid hbu
        clear hbu
        cases bu with
        | true =>
          have hui : u = is := by simpa using HBU.out.symm
          have hr : decide (is ∈ ws) = true := decide_eq_true (by rw [← hui]; exact hmem)
          rw [← HR.out] at hr
          subst hr
          clear hui
          go_wp2_with (fail)
          go_ret
          exact ⟨rfl, d + dd, by rw [HW4.out, HW2.out]; simp⟩
        | false =>
          have hui : u ≠ is := by simpa using HBU.out.symm
          have HUI := Lib.hid hui
          clear hui
          go_wp2_with (fail)
          go_roundw
          case rel =>
            refine ⟨k + 1, d + dd, by omega, by go_num, by rw [HW4.out, HW2.out]; simp, ?_⟩
            rw [HTK.out, List.mem_append]
            rintro (h | h)
            · exact HNO.out h
            · exact HUI.out (List.mem_singleton.1 h).symm
          case measure => simp [intOf]; omega
    · have hkn : k = n := by omega
      have hr : decide (is ∈ ws) = false := decide_eq_false (by
        have := HNO.out
        rwa [List.take_of_length_le (by rw [← HN.out]; omega)] at this)
      rw [← HR.out] at hr
      subst hr
      have y1 : ¬ ((k : Int) < (n : Int)) := by omega
      clear hkn hw2
      go_wp2_with (fail)
      go_ret
      exact ⟨rfl, d, HW2.out⟩
end Go.Proofs.Ytfebcpmbkljaoaa
