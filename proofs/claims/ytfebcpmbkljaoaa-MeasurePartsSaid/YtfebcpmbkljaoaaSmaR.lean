/- flat (60): true says flatF. smar.py prints this text. -/
import Derived.Test.YtfebcpmbkljaoaaCopR
namespace Go.Proofs.Ytfebcpmbkljaoaa
open Go.RowKit Go.HR
set_option linter.unusedVariables false
set_option linter.unusedSimpArgs false
set_option linter.unusedSectionVars false
theorem IsTs.le {S : Nat → Prop} {W : World} {s : SL} {ts : List TT} (h : IsTs S W s ts) : s.n ≤ maxLen := by
  cases h with
  | nil a c => exact Nat.zero_le _
  | row g o c ts sv hg hl hc hs => exact hl
theorem IsFs.le {S : Nat → Prop} {W : World} {s : SL} {ts : List FT} (h : IsFs S W s ts) : s.n ≤ maxLen := by
  cases h with
  | nil a c => exact Nat.zero_le _
  | row g o c fs av sv hg hl hc ha hs => exact hl
theorem flatFs_of : ∀ {fs : List FT}, (∀ (i : Nat) f, fs[i]? = some f → flatF f) → flatFs fs
  | [], _ => trivial
  | f :: fs, h => ⟨h 0 f rfl, flatFs_of fun i g hg => h (i + 1) g (by simpa using hg)⟩
def RetFl (w : World) (f : FT) (e : Ending) (w' : World) : Prop := ∃ b, e = .returned (.bool b) ∧ Below w.heap.size w w' ∧ (b = true → flatF f)
def FlatR (f : FT) : Prop := ∀ (w : World) (a s : SL) (d : Int), IsTs (fun k => k < w.heap.size) w a f.args → IsFs (fun k => k < w.heap.size) w s f.subs → -1 ≤ d → d ≤ 100 →
  Calls Try.prog 60 #[.agg #[.int .u8 f.op, .string f.nm, a.v, s.v], .int .i64 d] w (RetFl w f)
set_option maxRecDepth 100000 in
set_option maxHeartbeats 4000000 in
theorem flat_of (f : FT) (he : ∀ (i : Nat) g, f.subs[i]? = some g → FlatR g) : FlatR f := by
  intro w a s d hta hfs h1 h3
  have ha := hta.le
  have hs := hfs.le
  have hla := hta.len
  have hls := hfs.len
  obtain ⟨op, nm, args, subs⟩ := f
  simp only [FT.op, FT.nm, FT.args, FT.subs] at hta hfs hla hls he ⊢
  obtain ⟨aa, an, ac⟩ := a
  obtain ⟨sa, sn, sc⟩ := s
  simp only [SL.v, maxLen] at ha hs hla hls ⊢
  have HTA := Lib.hid hta
  have HFS := Lib.hid hfs
  have IH := Lib.hid he
  have HLA := Lib.hid hla
  have HLS := Lib.hid hls
  clear hta hfs he hla hls
  by_cases hd : d < 0
  · go_enter Try.func60, Try.ntmps60
    go_wp2_with (fail)
    go_ret
    exact ⟨_, rfl, bl_al (Below.refl _ _), fun h => nomatch h⟩
  · by_cases hs2 : sn > 2
    · have y1 : (2 : Int) < (sn : Int) := by omega
      go_enter Try.func60, Try.ntmps60
      go_wp2_with (fail)
      go_ret
      exact ⟨_, rfl, bl_al (Below.refl _ _), fun h => nomatch h⟩
    · by_cases ha2 : an > 2
      · have y1 : ¬ (2 : Int) < (sn : Int) := by omega
        have y2 : (2 : Int) < (an : Int) := by omega
        go_enter Try.func60, Try.ntmps60
        go_wp2_with (fail)
        go_ret
        exact ⟨_, rfl, bl_al (Below.refl _ _), fun h => nomatch h⟩
      · have y1 : ¬ (2 : Int) < (sn : Int) := by omega
        have y2 : ¬ (2 : Int) < (an : Int) := by omega
        go_enter Try.func60, Try.ntmps60
        go_upto_block 0 with (fail)
        obtain ⟨w1, hw1⟩ : ∃ w1, w1 = w.alloc (.cells #[.int .u8 op, .string nm, .slice aa an ac, .slice sa sn sc] 26) := ⟨_, rfl⟩
        rw [← hw1]
        have hB1 : Below w.heap.size w w1 := by rw [hw1]; exact bl_al (Below.refl _ _)
        have hb1 : w1.heap[w.heap.size]? = some (.cells #[.int .u8 op, .string nm, .slice aa an ac, .slice sa sn sc] 26 (0, 0)) := by rw [hw1]; exact HK.blk_new _ _
        have HTA1 := Lib.hid (HTA.out.up hB1)
        have HFS1 := Lib.hid (HFS.out.up hB1)
        have HB1 := Lib.hid hB1
        have HX1 := Lib.hid hb1
        obtain ⟨G, hG⟩ : ∃ G, G = w.heap.size := ⟨_, rfl⟩
        rw [← hG]
        have hX1 := hb1
        rw [← hG] at hX1
        have HX1 := Lib.hid hX1
        clear hB1 hb1 hw1 hG hX1
        go_cut [4] from 27 to 34 (fun v wx => Below w1.heap.size w1 wx ∧ ∀ t ∈ args, t.args = [])
        case first =>
          go_wp2_with (fail)
          go_loopw [26] (fun j wr => ∃ i : Nat, i ≤ an ∧ j = .int .i64 i ∧ Below w1.heap.size w1 wr ∧ ∀ (k : Nat) t, k < i → args[k]? = some t → t.args = []) (fun j _ => an - (intOf j).toNat)
          case atStart => exact ⟨0, by omega, rfl, Below.refl _ _, fun k t hk => absurd hk (Nat.not_lt_zero k)⟩
          case round =>
            obtain ⟨i, hi, rfl, hBr, hall⟩ := hrel
            have HALL := Lib.hid hall
            clear hall
            by_cases h1 : i < an
            · obtain ⟨t, ht⟩ : ∃ t, args[i]? = some t := ⟨_, List.getElem?_eq_getElem (by rw [← HLA.out]; exact h1)⟩
              obtain ⟨g, o, q, rfl, hg, hc, hts⟩ := tsAt HTA1.out ht
              have hql := hts.len
              obtain ⟨b, tn, tas⟩ := t
              simp only [TT.vals, TT.b, TT.nm, TT.args] at hc hql
              have HTT := Lib.hid ht
              have HQL := Lib.hid hql
              have c0 := cell_then (hc 0 _ rfl) hBr
              have c1 := cell_then (hc 1 _ rfl) hBr
              have c2 := cell_then (hc 2 _ rfl) hBr
              obtain ⟨qa, qn, qc⟩ := q
              simp only [SL.v, Nat.add_zero] at c0 c1 c2
              simp only at hql
              have z0 : (0 : Int) ≤ (i : Int) := by omega
              have z1 : (i : Int) < (an : Int) := by omega
              have HBR := Lib.hid hBr
              clear hBr hc hg hts ht hql
              by_cases hq : qn = 0
              · subst hq
                have hnil : tas = [] := List.length_eq_zero_iff.1 HQL.out.symm
                go_wp2_with (fail)
                go_roundw
                case rel =>
                  refine ⟨i + 1, by omega, by go_num, bl_al HBR.out, fun k t hk hkt => ?_⟩
                  by_cases hki : k < i
                  · exact HALL.out k t hki hkt
                  · have hke : k = i := by omega
                    rw [hke, HTT.out] at hkt
                    cases hkt
                    exact hnil
                case measure => simp [intOf]; omega
              · have y3 : (0 : Int) < (qn : Int) := by omega
                go_wp2_with (fail)
                go_ret
                exact ⟨_, rfl, below_then HB1.out (bl_al HBR.out), fun h => nomatch h⟩
            · obtain rfl : i = an := by omega
              have y3 : ¬ ((i : Int) < (i : Int)) := by omega
              have HBR := Lib.hid hBr
              clear hBr
              go_wp2_with (fail)
              go_meet
              case rel => exact ⟨HBR.out, fun t ht => by
                obtain ⟨k, hk, he⟩ := List.getElem_of_mem ht
                exact HALL.out k t (by rw [HLA.out]; exact hk) (by rw [List.getElem?_eq_getElem hk, he])⟩
        case rest =>
          obtain ⟨w2, rfl⟩ : ∃ w2 : World, w2 = wc := ⟨_, rfl⟩
          obtain ⟨hcut, hflat⟩ := hcut
          have HFL := Lib.hid hflat
          clear hflat
          have hX2 := (hcut.block _ (HK.blk_lt HX1.out)).trans HX1.out
          have x3 : w2.cell? ⟨G, 3, none⟩ = some (.slice sa sn sc) := HK.blk_cell hX2 3
          have HF2 := Lib.hid (HFS1.out.up hcut)
          have HB2 := Lib.hid (below_then HB1.out hcut)
          clear hcut hX2
          go_wp2_with (fail)
          go_loopw [38] (fun j wr => ∃ i : Nat, i ≤ sn ∧ j = .int .i64 i ∧ Below w2.heap.size w2 wr ∧ ∀ (k : Nat) g, k < i → subs[k]? = some g → flatF g) (fun j _ => sn - (intOf j).toNat)
          case atStart => exact ⟨0, by omega, rfl, Below.refl _ _, fun k t hk => absurd hk (Nat.not_lt_zero k)⟩
          case round =>
            obtain ⟨i, hi, rfl, hBr, hall⟩ := hrel
            have HALL := Lib.hid hall
            clear hall
            by_cases h1 : i < sn
            · obtain ⟨f2, hf2⟩ : ∃ f2, subs[i]? = some f2 := ⟨_, List.getElem?_eq_getElem (by rw [← HLS.out]; exact h1)⟩
              obtain ⟨g, o, qa', qs', rfl, hg, hc, ht2, hs2⟩ := fsAt HF2.out hf2
              have hcall := fun (o : Obj) => IH.out i f2 hf2 (wr.alloc o) qa' qs' (d - 1) (ht2.up (bl_al hBr)) (hs2.up (bl_al hBr)) (by omega) (by omega)
              obtain ⟨f3, hf3⟩ : ∃ f3, f3 = f2 := ⟨_, rfl⟩
              rw [← hf3] at hcall
              have hop : f3.op = f2.op := by rw [hf3]
              have hnm : f3.nm = f2.nm := by rw [hf3]
              rw [hop, hnm] at hcall
              rw [← hf3] at hf2
              obtain ⟨op', nm', xa, xs⟩ := f2
              simp only [FT.vals, FT.op, FT.nm] at hc hcall
              have HF3 := Lib.hid hf2
              clear hf3 hop hnm hf2
              have c0 := cell_then (hc 0 _ rfl) hBr
              have c1 := cell_then (hc 1 _ rfl) hBr
              have c2 := cell_then (hc 2 _ rfl) hBr
              have c3 := cell_then (hc 3 _ rfl) hBr
              obtain ⟨qa, qn, qc⟩ := qa'
              obtain ⟨qb, qm, qd⟩ := qs'
              simp only [SL.v, Nat.add_zero] at c0 c1 c2 c3 hcall
              have z0 : (0 : Int) ≤ (i : Int) := by omega
              have z1 : (i : Int) < (sn : Int) := by omega
              have HBR := Lib.hid hBr
              have HC := Lib.hid hcall
              clear hBr hc hg hcall ht2 hs2
              go_upto_if 46 with (go_at_call 60; go_loud (refine (HC.out _).mono ?_; rintro e w3 ⟨b, rfl, hB3, hbf⟩; have HBF := Lib.hid hbf; clear hbf; have HB3 := Lib.hid (below_then (bl_al HBR.out) hB3); clear hB3))
              cases b with
              | true =>
                go_wp2_with (fail)
                go_roundw
                case rel =>
                  refine ⟨i + 1, by omega, by go_num, HB3.out, fun k t hk hkt => ?_⟩
                  by_cases hki : k < i
                  · exact HALL.out k t hki hkt
                  · have hke : k = i := by omega
                    rw [hke, HF3.out] at hkt
                    cases hkt
                    exact HBF.out rfl
                case measure => simp [intOf]; omega
              | false =>
                go_wp2_with (fail)
                go_ret
                exact ⟨_, rfl, below_then HB2.out HB3.out, fun h => nomatch h⟩
            · obtain rfl : i = sn := by omega
              have y3 : ¬ ((i : Int) < (i : Int)) := by omega
              have HBR := Lib.hid hBr
              clear hBr
              go_wp2_with (fail)
              go_ret
              exact ⟨_, rfl, below_then HB2.out HBR.out, fun _ => ⟨HFL.out, by rw [← HLA.out]; omega, by rw [← HLS.out]; omega, flatFs_of fun k g hg => HALL.out k g (by rw [HLS.out]; exact (List.getElem?_eq_some_iff.1 hg).1) hg⟩⟩
mutual
theorem flat_all : ∀ f : FT, FlatR f
  | .node op nm a s => flat_of _ (flat_allF s)
theorem flat_allF : ∀ (fs : List FT) (i : Nat) f, fs[i]? = some f → FlatR f
  | [], i, f, h => by simp at h
  | g :: fs, 0, f, h => by simp at h; rw [← h]; exact flat_all g
  | g :: fs, i + 1, f, h => flat_allF fs i f (by simpa using h)
end
end Go.Proofs.Ytfebcpmbkljaoaa
namespace Go.Proofs.Ytfebcpmbkljaoaa
open Go.RowKit Go.HR
set_option linter.unusedVariables false
set_option linter.unusedSimpArgs false
set_option linter.unusedSectionVars false
theorem shortF_of : ∀ {rs : List RT}, (∀ (i : Nat) r, rs[i]? = some r → shortR r) → shortF rs
  | [], _ => trivial
  | r :: rs, h => ⟨h 0 r rfl, shortF_of fun i g hg => h (i + 1) g (by simpa using hg)⟩
def SmallRX (W0 w : World) (LB : Nat) (L : Int) (t : PT) (r : RT) (e : Ending) (w' : World) : Prop :=
  ∃ (b : Bool) (L' : Int), e = .returned (.bool b) ∧ w'.heap[LB]? = some (.cells #[.int .i64 L'] 3 (0, 0)) ∧ Below W0.heap.size W0 w' ∧ HK.Frm (· = LB) w w' ∧ (b = true → L' = L - sizeT t ∧ 0 ≤ L' ∧ shortR r)
def SmallOkX (W0 : World) (t : PT) (r : RT) : Prop := ∀ (w : World) (sv : SL) (d : Int) (LB : Nat) (L : Int), IsPs W0.heap.size W0 sv t.subs → okT W0 t → RichT (fun k => k < W0.heap.size) W0 t r → Below W0.heap.size W0 w → W0.heap.size ≤ LB → w.heap[LB]? = some (.cells #[.int .i64 L] 3 (0, 0)) → 0 ≤ L → L ≤ 320 → -1 ≤ d → d ≤ 42 →
  Calls Try.prog 41 #[.agg (t.arr sv), .int .i64 d, .pointer (some ⟨LB, 0, none⟩)] w (SmallRX W0 w LB L t r)
set_option maxRecDepth 100000 in
set_option maxHeartbeats 8000000 in
theorem smallx_of (W0 : World) (t : PT) (r : RT) (he : ∀ (i : Nat) q rq, t.subs[i]? = some q → r.subs[i]? = some rq → SmallOkX W0 q rq) : SmallOkX W0 t r := by
  intro w sv d LB L hs hok hri hB0 hLB hL hL0 hL1 hd0 hd1
  have hln := hs.len
  obtain ⟨rule, ⟨op, name, ⟨aa, an, ac⟩, ⟨fa, fn, fc⟩, label, ⟨ma, mn, mc⟩⟩, subs⟩ := t
  obtain ⟨rr, rop, rnm, rargs, rfs, rlab, rmarks, rsubs⟩ := r
  obtain ⟨hr1, hr2, hr3, hr4, hr5, hr6, hr7, hr8⟩ := hri
  have hrl := RichF.length hr8
  simp only at hr1 hr2 hr3 hr4 hr5 hr6 hr7
  subst hr1 hr2 hr3 hr4
  obtain ⟨sa, sn, sc⟩ := sv
  simp only [PT.subs, RT.subs] at hs he hln
  simp only [okT, NodeOk] at hok
  obtain ⟨⟨hfo, ha1, hf1, hm1, hmk⟩, hsl, hsub⟩ := hok
  simp only [PT.arr, PT.rule, PT.o, PT.subs, SL.v, maxLen] at ha1 hf1 hm1 hmk hfo hsl ⊢
  have hsz : sizeT (.node rule ⟨op, name, ⟨aa, an, ac⟩, ⟨fa, fn, fc⟩, label, ⟨ma, mn, mc⟩⟩ subs) = 1 + sizeF subs := by simp [sizeT]
  obtain ⟨t0, ht0⟩ : ∃ t0, t0 = PT.node rule ⟨op, name, ⟨aa, an, ac⟩, ⟨fa, fn, fc⟩, label, ⟨ma, mn, mc⟩⟩ subs := ⟨_, rfl⟩
  rw [← ht0] at hsz ⊢
  have HT0 := Lib.hid ht0
  have HSZ := Lib.hid hsz
  have HS := Lib.hid hs
  have HE := Lib.hid he
  have HR5 := Lib.hid hr5
  have HR6 := Lib.hid hr6
  have HR7 := Lib.hid hr7
  have HR8 := Lib.hid hr8
  have HRL := Lib.hid hrl
  obtain ⟨FLD, hfld⟩ : ∃ FLD : Prop, FLD = flatF (.node op name rargs rfs) := ⟨_, rfl⟩
  have HFLD := Lib.hid hfld
  obtain ⟨MKD, hmkd⟩ : ∃ MKD : Nat → Prop, MKD = fun i => ∀ (k : Nat) u, k < i → rmarks[k]? = some u → u.length ≤ 10 := ⟨_, rfl⟩
  have HMKD := Lib.hid hmkd
  obtain ⟨SBD, hsbd⟩ : ∃ SBD : Nat → Prop, SBD = fun i => ∀ (k : Nat) u, k < i → rsubs[k]? = some u → shortR u := ⟨_, rfl⟩
  have HSBD := Lib.hid hsbd
  clear hr5 hr6 hr7 hr8 hrl hfld hmkd hsbd
  have HSUB := Lib.hid hsub
  have HLN := Lib.hid hln
  have HB0 := Lib.hid hB0
  have HL := Lib.hid hL
  obtain ⟨G, hG⟩ : ∃ G, G = w.heap.size := ⟨_, rfl⟩
  have hlt := HK.blk_lt hL
  have hGL : LB ≠ G := by omega
  obtain ⟨M, hM⟩ : ∃ M, M = L - 1 := ⟨_, rfl⟩
  have hlx : ((w.alloc (.cells #[.string rule, .int .u8 op, .string name, .slice aa an ac, .slice fa fn fc, .int .i64 label, .slice sa sn sc, .slice ma mn mc] 30)).heap[LB]? = some (.cells #[.int .i64 L] 3 (0, 0))) := HK.blk_alloc hL _
  have l0 : (w.alloc (.cells #[.string rule, .int .u8 op, .string name, .slice aa an ac, .slice fa fn fc, .int .i64 label, .slice sa sn sc, .slice ma mn mc] 30)).cell? ⟨LB, 0, none⟩ = some (.int .i64 L) := HK.blk_cell hlx 0
  have lf := fun i => HK.blk_frozen hlx i
  have z0 : L - 1 = M := hM.symm
  have m0 : -1 ≤ M := by omega
  have m1 : M ≤ 319 := by omega
  have HM := Lib.hid hM
  have HG := Lib.hid hG
  have HGL := Lib.hid hGL
  have HLT := Lib.hid hlt
  clear hs he hfo hmk hsub hln hB0 hL ht0 hsz hlx hM hG hGL hlt
  go_enter Try.func41, Try.ntmps41
  go_upto_region 2 with (fail)
  obtain ⟨w2, hw2⟩ : ∃ w2, w2 = (w.alloc (.cells #[.string rule, .int .u8 op, .string name, .slice aa an ac, .slice fa fn fc, .int .i64 label, .slice sa sn sc, .slice ma mn mc] 30)).setCell ⟨LB, 0, none⟩ (.int .i64 M) := ⟨_, rfl⟩
  rw [← hw2, ← HG.out]
  have hF2 : HK.Frm (· = LB) w w2 := by rw [hw2]; exact HK.Frm.setCell (F := (· = LB)) ((HK.Frm.refl _ w).alloc _) (.inl rfl) _
  have hB2 : Below W0.heap.size W0 w2 := HB0.out.trans (hF2.below HB0.out.size (fun k hk => by omega))
  have hX2 : w2.heap[G]? = some (.cells #[.string rule, .int .u8 op, .string name, .slice aa an ac, .slice fa fn fc, .int .i64 label, .slice sa sn sc, .slice ma mn mc] 30 (0, 0)) := by
    rw [hw2]
    exact ((HK.Frm.refl (· = LB) (w.alloc _)).setCell (.inl rfl) _).heap (by rw [HG.out]; exact HK.blk_new _ _) (fun e => HGL.out e.symm)
  have hM2 : w2.heap[LB]? = some (.cells #[.int .i64 M] 3 (0, 0)) := by
    rw [hw2]
    exact set_one (HK.blk_alloc HL.out _) _
  have x0 : w2.cell? ⟨G, 0, none⟩ = some (.string rule) := HK.blk_cell hX2 0
  have x1 : w2.cell? ⟨G, 1, none⟩ = some (.int .u8 op) := HK.blk_cell hX2 1
  have x2 : w2.cell? ⟨G, 2, none⟩ = some (.string name) := HK.blk_cell hX2 2
  have x3 : w2.cell? ⟨G, 3, none⟩ = some (.slice aa an ac) := HK.blk_cell hX2 3
  have x4 : w2.cell? ⟨G, 4, none⟩ = some (.slice fa fn fc) := HK.blk_cell hX2 4
  have x5 : w2.cell? ⟨G, 5, none⟩ = some (.int .i64 label) := HK.blk_cell hX2 5
  have x6 : w2.cell? ⟨G, 6, none⟩ = some (.slice sa sn sc) := HK.blk_cell hX2 6
  have x7 : w2.cell? ⟨G, 7, none⟩ = some (.slice ma mn mc) := HK.blk_cell hX2 7
  have HF2 := Lib.hid hF2
  have HB2 := Lib.hid hB2
  have HX2 := Lib.hid hX2
  have HM2 := Lib.hid hM2
  have HLB := Lib.hid hLB
  have hflat := flat_all (.node op name rargs rfs) w2 ⟨aa, an, ac⟩ ⟨fa, fn, fc⟩ 6 (HR5.out.up hB2) (HR6.out.up hB2) (by omega) (by omega)
  unfold RetFl at hflat
  rw [← HFLD.out] at hflat
  simp only [FT.op, FT.nm, SL.v] at hflat
  have HFL := Lib.hid hflat
  clear hF2 hB2 hX2 hM2 hw2 hflat l0 lf
  go_cut [41] from 11 to 41 (fun v wx => ∃ b, v = .bool b ∧ (b = false → 0 ≤ M ∧ sn ≤ 10 ∧ mn ≤ 10 ∧ 0 ≤ d ∧ FLD) ∧ Below w2.heap.size w2 wx)
  case first =>
    have hM2 := HM2.out
    have l0 : w2.cell? ⟨LB, 0, none⟩ = some (.int .i64 M) := HK.blk_cell hM2 0
    clear hM2
    by_cases q1 : M < 0
    · go_wp2_with (fail)
      go_meet
      case rel => exact ⟨true, rfl, fun h => (by cases h), Below.refl _ _⟩
    · by_cases q2 : d < 0
      · go_wp2_with (fail)
        go_meet
        case rel => exact ⟨true, rfl, fun h => (by cases h), Below.refl _ _⟩
      · by_cases q3 : sn ≤ 10
        · have q3' : ¬ (10 : Int) < (sn : Int) := by omega
          by_cases q4 : mn ≤ 10
          · have q4' : ¬ (10 : Int) < (mn : Int) := by omega
            go_wp2_with (go_at_call 60; (refine HFL.out.mono ?_; rintro e w3 ⟨b, rfl, hB3, hbf⟩; have HBF := Lib.hid hbf; clear hbf; have HB3 := Lib.hid hB3; clear hB3))
            go_meet
            case rel => exact ⟨_, rfl, fun h => ⟨by omega, q3, q4, by omega, HBF.out (by simpa using h)⟩, HB3.out⟩
          · have q4' : (10 : Int) < (mn : Int) := by omega
            go_wp2_with (fail)
            go_meet
            case rel => exact ⟨true, rfl, fun h => (by cases h), Below.refl _ _⟩
        · have q3' : (10 : Int) < (sn : Int) := by omega
          go_wp2_with (fail)
          go_meet
          case rel => exact ⟨true, rfl, fun h => (by cases h), Below.refl _ _⟩
  case rest =>
    obtain ⟨b, rfl, hb, hB3⟩ := hcut
    obtain ⟨w3, rfl⟩ : ∃ w3 : World, w3 = wc := ⟨_, rfl⟩
    have hX3 := (hB3.block _ (HK.blk_lt HX2.out)).trans HX2.out
    have hM3 := (hB3.block _ (HK.blk_lt HM2.out)).trans HM2.out
    have hF3 := HF2.out.trans (HK.Frm.of_below hB3 _)
    have hB03 := HB2.out.trans (hB3.mono HB2.out.size)
    replace x0 : w3.cell? ⟨G, 0, none⟩ = some (.string rule) := HK.blk_cell hX3 0
    replace x1 : w3.cell? ⟨G, 1, none⟩ = some (.int .u8 op) := HK.blk_cell hX3 1
    replace x2 : w3.cell? ⟨G, 2, none⟩ = some (.string name) := HK.blk_cell hX3 2
    replace x3 : w3.cell? ⟨G, 3, none⟩ = some (.slice aa an ac) := HK.blk_cell hX3 3
    replace x4 : w3.cell? ⟨G, 4, none⟩ = some (.slice fa fn fc) := HK.blk_cell hX3 4
    replace x5 : w3.cell? ⟨G, 5, none⟩ = some (.int .i64 label) := HK.blk_cell hX3 5
    replace x6 : w3.cell? ⟨G, 6, none⟩ = some (.slice sa sn sc) := HK.blk_cell hX3 6
    replace x7 : w3.cell? ⟨G, 7, none⟩ = some (.slice ma mn mc) := HK.blk_cell hX3 7
    have HM3 := Lib.hid hM3
    have HF3 := Lib.hid hF3
    have HB03 := Lib.hid hB03
    clear hX3 hM3 hF3 hB03 hB3
    cases b with
    | true =>
      go_wp2_with (fail)
      go_ret
      exact ⟨false, M, rfl, HM3.out, HB03.out, HF3.out, fun h => by cases h⟩
    | false =>
      obtain ⟨p1, p2, p3, p4, p5⟩ := hb rfl
      clear hb
      have HP5 := Lib.hid p5
      clear p5
      go_upto_block 0 with (fail)
      go_cut [6] from 46 to 52 (fun v wx => wx = w3 ∧ MKD mn)
      case first =>
        go_wp2_with (fail)
        go_loopw [45] (fun j wr => ∃ i : Nat, i ≤ mn ∧ j = .int .i64 i ∧ wr = w3 ∧ MKD i) (fun j _ => mn - (intOf j).toNat)
        case atStart => exact ⟨0, by omega, rfl, rfl, by rw [HMKD.out]; intro k u hk; exact absurd hk (Nat.not_lt_zero k)⟩
        case round =>
          obtain ⟨i, hi, rfl, rfl, hmi⟩ := hrel
          have HMI := Lib.hid hmi
          clear hmi
          by_cases h1 : i < mn
          · obtain ⟨hml, _, hmr⟩ := HR7.out
            simp only at hml
            obtain ⟨u, hu⟩ : ∃ u, rmarks[i]? = some u := ⟨_, List.getElem?_eq_getElem (by rw [← hml]; exact h1)⟩
            obtain ⟨g, o, ha, hg, sl, hc⟩ := hmr.resolve_left (fun h => by rw [h] at hu; simp at hu)
            simp only at ha
            subst ha
            obtain ⟨hc1, hc2⟩ := hc i u hu
            have c0 := (HB03.out.cell (p := ⟨g, o + i, none⟩) hg).trans hc1
            have hql := hc2.1
            generalize sl i = q at c0 hql
            obtain ⟨qa, qn, qc⟩ := q
            simp only [SL.v] at c0 hql
            have HUL := Lib.hid hql
            have HU := Lib.hid hu
            clear hql hu hc1 hc2 hmr hml
            have z1 : (0 : Int) ≤ (i : Int) := by omega
            have z2 : (i : Int) < (mn : Int) := by omega
            clear hc hg
            by_cases hq10 : qn ≤ 10
            · have y3 : ¬ (10 : Int) < (qn : Int) := by omega
              go_wp2_with (fail)
              go_roundw
              case rel =>
                refine ⟨i + 1, by omega, by go_num, by first | rfl | trivial, ?_⟩
                rw [HMKD.out]
                intro k u' hk hku
                by_cases hki : k < i
                · have h9 := HMI.out
                  rw [HMKD.out] at h9
                  exact h9 k u' hki hku
                · have hke : k = i := by omega
                  rw [hke, HU.out] at hku
                  cases hku
                  rw [← HUL.out]
                  exact hq10
              case measure => simp [intOf]; omega
            · have y3 : (10 : Int) < (qn : Int) := by omega
              go_wp2_with (fail)
              go_ret
              exact ⟨false, M, rfl, HM3.out, HB03.out, HF3.out, fun h => by cases h⟩
          · obtain rfl : i = mn := by omega
            have y3 : ¬ ((i : Int) < (i : Int)) := by omega
            go_wp2_with (fail)
            go_meet
            case rel => exact ⟨rfl, HMI.out⟩
      case rest =>
        obtain ⟨w4, hw4⟩ : ∃ w4 : World, w4 = wc := ⟨_, rfl⟩
        rw [← hw4]
        have HMN := Lib.hid hcut.2
        have hcut : w4 = w3 := hw4.trans hcut.1
        subst hcut
        clear hw4
        go_wp2_with (fail)
        go_loopw [56] (fun j wr => ∃ (i : Nat) (Lr : Int), i ≤ sn ∧ j = .int .i64 i ∧ wr.heap[LB]? = some (.cells #[.int .i64 Lr] 3 (0, 0)) ∧ Lr = M - sizeF (subs.take i) ∧ 0 ≤ Lr ∧ Below W0.heap.size W0 wr ∧ HK.Frm (· = LB) w wr ∧ SBD i) (fun j _ => sn - (intOf j).toNat)
        case atStart => exact ⟨0, M, by omega, rfl, HM3.out, by simp [sizeF], p1, HB03.out, HF3.out, by rw [HSBD.out]; intro k u hk; exact absurd hk (Nat.not_lt_zero k)⟩
        case round =>
          obtain ⟨i, Lr, hi, rfl, hLr, hLe, hLp, hBr, hFr, hsb⟩ := hrel
          have HSB := Lib.hid hsb
          clear hsb
          by_cases h1 : i < sn
          · obtain ⟨q, hq⟩ : ∃ q, subs[i]? = some q := ⟨_, List.getElem?_eq_getElem (by rw [← HLN.out]; exact h1)⟩
            obtain ⟨g, o, s', ha, hg, hc, hps⟩ := psAt HS.out hq
            subst ha
            have hqe : q = .node q.rule q.o q.subs := by cases q; rfl
            have hokq := okF_get HSUB.out hq
            obtain ⟨rq, hrq⟩ : ∃ rq, rsubs[i]? = some rq := ⟨_, List.getElem?_eq_getElem (by rw [← HRL.out, ← HLN.out]; exact h1)⟩
            have hrich := RichF.get HR8.out hq hrq
            obtain ⟨SRQ, hsrq⟩ : ∃ SRQ : Prop, SRQ = shortR rq := ⟨_, rfl⟩
            have hsq := sizeF_more hq
            have hle := sizeF_take hq
            have hcell := fun (k : Nat) (v : Value) (h : (q.vals s')[k]? = some v) => (hBr.cell (p := ⟨g, o + i * 8 + k, none⟩) hg).trans (hc k v h)
            have hcall := fun (ob : Obj) => HE.out i q rq hq hrq (wr.alloc ob) s' (d - 1) LB Lr hps hokq hrich (hBr.trans (bl_alz hBr)) HLB.out (HK.blk_alloc hLr ob) hLp (by omega) (by omega) (by omega)
            unfold SmallRX at hcall
            rw [← hsrq] at hcall
            have HRQ := Lib.hid hrq
            have HSRQ := Lib.hid hsrq
            clear hrq hsrq hrich
            obtain ⟨qr, ⟨qo, qm, ⟨ea, en, ec⟩, ⟨ia, i2, ic⟩, ql, ⟨ka, kn, kc⟩⟩, qs⟩ := q
            obtain ⟨ta, tn, tc⟩ := s'
            have c0 := hcell 0 _ rfl
            have c1 := hcell 1 _ rfl
            have c2 := hcell 2 _ rfl
            have c3 := hcell 3 _ rfl
            have c4 := hcell 4 _ rfl
            have c5 := hcell 5 _ rfl
            have c6 := hcell 6 _ rfl
            have c7 := hcell 7 _ rfl
            simp only [PT.rule, PT.o, PT.subs, PT.arr, SL.v, Nat.add_zero] at c0 c1 c2 c3 c4 c5 c6 c7 hcall
            have y1 : (0 : Int) ≤ (i : Int) := by omega
            have y2 : (i : Int) < (sn : Int) := by omega
            have HC := Lib.hid hcall
            have HSQ := Lib.hid hsq
            have HLR := Lib.hid hLr
            have HLE := Lib.hid hLe
            have HBR := Lib.hid hBr
            have HFR := Lib.hid hFr
            clear hcell hc hg hps hqe hokq hsq hle hcall hLr hLe hBr hFr hq
            go_upto_if 65 with (go_at_call 41; (refine (HC.out _).mono ?_; rintro e w5 ⟨b, L5, rfl, h5a, h5b, h5c, h5d⟩; have H5A := Lib.hid h5a; have H5B := Lib.hid h5b; have H5C := Lib.hid h5c; have H5D := Lib.hid h5d; clear h5a h5b h5c h5d))
            cases b with
            | true =>
              go_wp2_with (fail)
              go_roundw
              case rel =>
                refine ⟨i + 1, L5, by omega, by go_num, H5A.out, ?_, (H5D.out rfl).2.1, H5B.out, (HFR.out.alloc _).trans H5C.out, ?_⟩
                rotate_left
                · rw [HSBD.out]
                  intro k u hk hku
                  by_cases hki : k < i
                  · have h9 := HSB.out
                    rw [HSBD.out] at h9
                    exact h9 k u hki hku
                  · have hke : k = i := by omega
                    rw [hke, HRQ.out] at hku
                    cases hku
                    rw [← HSRQ.out]
                    exact (H5D.out rfl).2.2
                have e1 := (H5D.out rfl).1
                have e2 := HLE.out
                have e3 := HSQ.out
                omega
              case measure => simp [intOf]; omega
            | false =>
              go_wp2_with (fail)
              go_ret
              exact ⟨false, L5, rfl, H5A.out, H5B.out, (HFR.out.alloc _).trans H5C.out, fun h => by cases h⟩
          · obtain rfl : i = sn := by omega
            have y3 : ¬ ((i : Int) < (i : Int)) := by omega
            have HLR := Lib.hid hLr
            have HLE := Lib.hid hLe
            have HBR := Lib.hid hBr
            have HFR := Lib.hid hFr
            clear hLr hLe hBr hFr
            go_wp2_with (fail)
            go_ret
            refine ⟨true, Lr, rfl, HLR.out, HBR.out, HFR.out, fun _ => ⟨?_, hLp, ?_⟩⟩
            rotate_left
            · have h5 := HP5.out
              rw [HFLD.out] at h5
              obtain ⟨f1, f2, f3, f4⟩ := h5
              have h6 := HMN.out
              rw [HMKD.out] at h6
              have h7 := HSB.out
              rw [HSBD.out] at h7
              have h8 := HR7.out.1
              simp only at h8
              have h9 := HRL.out
              have h10 := HLN.out
              refine ⟨⟨f1, f2⟩, ⟨f4, f3⟩, ⟨by omega, fun u hu => ?_⟩, by omega, shortF_of fun k u hu => h7 k u ?_ hu⟩
              · obtain ⟨k, hk, he⟩ := List.getElem_of_mem hu
                have := h6 k u (by omega) (by rw [List.getElem?_eq_getElem hk, he])
                omega
              · have := (List.getElem?_eq_some_iff.1 hu).1
                omega
            have h1 := HLE.out
            have h2 := HLN.out
            rw [List.take_of_length_le (by omega)] at h1
            have h3 := HSZ.out
            have h4 := HM.out
            omega
mutual
theorem smallx_all (W0 : World) : ∀ (t : PT) (r : RT), SmallOkX W0 t r
  | .node r o s, .node _ _ _ _ _ _ _ rs => smallx_of W0 _ _ (smallx_allF W0 s rs)
theorem smallx_allF (W0 : World) : ∀ (ts : List PT) (rs : List RT) (i : Nat) q rq, ts[i]? = some q → rs[i]? = some rq → SmallOkX W0 q rq
  | [], _, i, q, rq, h, _ => by simp at h
  | t :: ts, [], i, q, rq, _, h => by simp at h
  | t :: ts, r :: rs, 0, q, rq, h, h2 => by simp at h h2; rw [← h, ← h2]; exact smallx_all W0 t r
  | t :: ts, r :: rs, i + 1, q, rq, h, h2 => smallx_allF W0 ts rs i q rq (by simpa using h) (by simpa using h2)
end
set_option maxRecDepth 100000 in
set_option maxHeartbeats 2000000 in
/-- Small. -/
theorem smallx_call (w : World) (t : PT) (r : RT) (sv : SL) (hs : IsPs w.heap.size w sv t.subs) (hok : okT w t) (hri : RichT (fun k => k < w.heap.size) w t r) :
    Calls Try.prog 15 #[.agg (t.arr sv)] w fun e w' => ∃ b, e = .returned (.bool b) ∧ Below w.heap.size w w' ∧ (b = true → sizeT t ≤ 320 ∧ shortR r) := by
  have hall := fun (W : World) (LB : Nat) (hB : Below w.heap.size w W) (hLB : w.heap.size ≤ LB) (hc : W.heap[LB]? = some (.cells #[.int .i64 320] 3 (0, 0))) => smallx_all w t r W sv 42 LB 320 hs hok hri hB hLB hc (by omega) (by omega) (by omega) (by omega)
  obtain ⟨t0, ht0⟩ : ∃ t0, t0 = t := ⟨_, rfl⟩
  have hsz : sizeT t = sizeT t0 := by rw [ht0]
  rw [hsz]
  have hall2 := hall
  unfold SmallRX at hall2
  simp only [hsz] at hall2
  obtain ⟨SR, hsr⟩ : ∃ SR : Prop, SR = shortR r := ⟨_, rfl⟩
  rw [← hsr] at hall2 ⊢
  obtain ⟨rule, ⟨op, name, ⟨aa, an, ac⟩, ⟨fa, fn, fc⟩, label, ⟨ma, mn, mc⟩⟩, subs⟩ := t
  obtain ⟨sa, sn, sc⟩ := sv
  simp only [PT.arr, PT.rule, PT.o, PT.subs, SL.v] at hall2 ⊢
  have HA := Lib.hid hall2
  clear hall hall2 hs hok ht0 hsz hri hsr
  go_enter Try.func15, Try.ntmps15
  go_wp2_with (go_at_call 41; (refine (HA.out _ _ (bl_al (bl_al (Below.refl _ _))) (by simp) (blk_new1 _ _ _)).mono ?_; rintro e w5 ⟨b, L5, rfl, h5a, h5b, h5c, h5d⟩))
  go_ret
  exact ⟨b, rfl, h5b, fun h => by have := h5d h; exact ⟨by omega, this.2.2⟩⟩
end Go.Proofs.Ytfebcpmbkljaoaa
