/- Small: what it answers of any proof that came in. -/
import Derived.Test.YtfebcpmbkljaoaaArgP
import Derived.Test.YtfebcpmbkljaoaaLimB
import Derived.Deep.CutBlock
namespace Go.Proofs.Ytfebcpmbkljaoaa
open Go.RowKit Go.HR
set_option linter.unusedVariables false
set_option linter.unusedSimpArgs false
set_option linter.unusedSectionVars false
theorem RowAt.up {W W' : World} {s : SL} {m i : Nat} {vs : List Value} (h : RowAt W s m i vs) (hB : Below W.heap.size W W') : RowAt W' s m i vs := by
  obtain ⟨g, o, ha, hg, hc⟩ := h
  exact ⟨g, o, ha, Nat.lt_of_lt_of_le hg hB.size, fun j v hv => cell_then (hc j v hv) hB⟩
theorem FormOk.up : ∀ {k : Nat} {W W' : World} {a s : SL}, FormOk k W a s → Below W.heap.size W W' → FormOk k W' a s
  | 0, _, _, _, _, _, _ => trivial
  | k + 1, W, W', a, s, h, hB => ⟨fun i hi => by
      obtain ⟨b, nm, q, hr⟩ := h.1 i hi
      exact ⟨b, nm, q, hr.up hB⟩, fun i hi => by
      obtain ⟨op, nm, a, s, hr, h1, h2, h3⟩ := h.2 i hi
      exact ⟨op, nm, a, s, hr.up hB, h1, h2, FormOk.up h3 hB⟩⟩
def RetAny (w : World) (e : Ending) (w' : World) : Prop := ∃ b, e = .returned (.bool b) ∧ Below w.heap.size w w'
def FlatOk (k : Nat) : Prop := ∀ (w : World) (op : Int) (nm : ByteArray) (a s : SL) (d : Int), FormOk k w a s → a.n ≤ maxLen → s.n ≤ maxLen → -1 ≤ d → d < k → d ≤ 100 →
  Calls Try.prog 60 #[.agg #[.int .u8 op, .string nm, a.v, s.v], .int .i64 d] w (RetAny w)
set_option maxRecDepth 100000 in
set_option maxHeartbeats 4000000 in
theorem flat_call : ∀ k : Nat, FlatOk k := by
  intro k
  induction k with
  | zero =>
    intro w op nm a s d _ _ _ h1 h2 h3
    obtain ⟨aa, an, ac⟩ := a
    obtain ⟨sa, sn, sc⟩ := s
    obtain rfl : d = -1 := by omega
    simp only [SL.v]
    go_enter Try.func60, Try.ntmps60
    go_wp2_with (fail)
    go_ret
    exact ⟨_, rfl, bl_al (Below.refl _ _)⟩
  | succ k ih =>
    intro w op nm a s d hf ha hs h1 h2 h3
    obtain ⟨aa, an, ac⟩ := a
    obtain ⟨sa, sn, sc⟩ := s
    simp only [SL.v, maxLen] at ha hs ⊢
    have HF := Lib.hid hf
    have IH := Lib.hid ih
    clear hf ih
    by_cases hd : d < 0
    · go_enter Try.func60, Try.ntmps60
      go_wp2_with (fail)
      go_ret
      exact ⟨_, rfl, bl_al (Below.refl _ _)⟩
    · by_cases hs2 : sn > 2
      · have y1 : (2 : Int) < (sn : Int) := by omega
        go_enter Try.func60, Try.ntmps60
        go_wp2_with (fail)
        go_ret
        exact ⟨_, rfl, bl_al (Below.refl _ _)⟩
      · by_cases ha2 : an > 2
        · have y1 : ¬ (2 : Int) < (sn : Int) := by omega
          have y2 : (2 : Int) < (an : Int) := by omega
          go_enter Try.func60, Try.ntmps60
          go_wp2_with (fail)
          go_ret
          exact ⟨_, rfl, bl_al (Below.refl _ _)⟩
        · have y1 : ¬ (2 : Int) < (sn : Int) := by omega
          have y2 : ¬ (2 : Int) < (an : Int) := by omega
          go_enter Try.func60, Try.ntmps60
          go_upto_block 0 with (fail)
          obtain ⟨w1, hw1⟩ : ∃ w1, w1 = w.alloc (.cells #[.int .u8 op, .string nm, .slice aa an ac, .slice sa sn sc] 26) := ⟨_, rfl⟩
          rw [← hw1]
          have hB1 : Below w.heap.size w w1 := by rw [hw1]; exact bl_al (Below.refl _ _)
          have hb1 : w1.heap[w.heap.size]? = some (.cells #[.int .u8 op, .string nm, .slice aa an ac, .slice sa sn sc] 26 (0, 0)) := by rw [hw1]; exact HK.blk_new _ _
          have HF1 := Lib.hid (HF.out.up hB1)
          have HB1 := Lib.hid hB1
          have HX1 := Lib.hid hb1
          obtain ⟨G, hG⟩ : ∃ G, G = w.heap.size := ⟨_, rfl⟩
          rw [← hG]
          have hX1 := hb1
          rw [← hG] at hX1
          have HX1 := Lib.hid hX1
          clear hB1 hb1 hw1 hG hX1
          go_cut [4] from 27 to 34 (fun v wx => Below w1.heap.size w1 wx)
          case first =>
            go_wp2_with (fail)
            go_loopw [26] (fun j wr => ∃ i : Nat, i ≤ an ∧ j = .int .i64 i ∧ Below w1.heap.size w1 wr) (fun j _ => an - (intOf j).toNat)
            case atStart => exact ⟨0, by omega, rfl, Below.refl _ _⟩
            case round =>
              obtain ⟨i, hi, rfl, hBr⟩ := hrel
              by_cases h1 : i < an
              · obtain ⟨b, tn, q, g, o, ha, hg, hc⟩ := (HF1.out.1 i h1)
                simp only at ha
                subst ha
                have c0 := cell_then (hc 0 _ rfl) hBr
                have c1 := cell_then (hc 1 _ rfl) hBr
                have c2 := cell_then (hc 2 _ rfl) hBr
                obtain ⟨qa, qn, qc⟩ := q
                simp only [SL.v, Nat.add_zero] at c0 c1 c2
                have z0 : (0 : Int) ≤ (i : Int) := by omega
                have z1 : (i : Int) < (an : Int) := by omega
                have HBR := Lib.hid hBr
                clear hBr hc hg
                by_cases hq : qn = 0
                · subst hq
                  go_wp2_with (fail)
                  go_roundw
                  case rel => exact ⟨i + 1, by omega, by go_num, bl_al HBR.out⟩
                  case measure => simp [intOf]; omega
                · have y3 : (0 : Int) < (qn : Int) := by omega
                  go_wp2_with (fail)
                  go_ret
                  exact ⟨_, rfl, below_then HB1.out (bl_al HBR.out)⟩
              · obtain rfl : i = an := by omega
                have y3 : ¬ ((i : Int) < (i : Int)) := by omega
                have HBR := Lib.hid hBr
                clear hBr
                go_wp2_with (fail)
                go_meet
                case rel => exact HBR.out
          case rest =>
            obtain ⟨w2, rfl⟩ : ∃ w2 : World, w2 = wc := ⟨_, rfl⟩
            have hX2 := (hcut.block _ (HK.blk_lt HX1.out)).trans HX1.out
            have x3 : w2.cell? ⟨G, 3, none⟩ = some (.slice sa sn sc) := HK.blk_cell hX2 3
            have HF2 := Lib.hid (HF1.out.up hcut)
            have HB2 := Lib.hid (below_then HB1.out hcut)
            clear hcut hX2
            go_wp2_with (fail)
            go_loopw [38] (fun j wr => ∃ i : Nat, i ≤ sn ∧ j = .int .i64 i ∧ Below w2.heap.size w2 wr) (fun j _ => sn - (intOf j).toNat)
            case atStart => exact ⟨0, by omega, rfl, Below.refl _ _⟩
            case round =>
              obtain ⟨i, hi, rfl, hBr⟩ := hrel
              by_cases h1 : i < sn
              · obtain ⟨op', nm', qa', qs', ⟨g, o, ha, hg, hc⟩, hl1, hl2, hfo⟩ := (HF2.out.2 i h1)
                simp only at ha
                subst ha
                have c0 := cell_then (hc 0 _ rfl) hBr
                have c1 := cell_then (hc 1 _ rfl) hBr
                have c2 := cell_then (hc 2 _ rfl) hBr
                have c3 := cell_then (hc 3 _ rfl) hBr
                have hcall := fun (o : Obj) => IH.out (wr.alloc o) op' nm' qa' qs' (d - 1) (hfo.up (bl_al hBr)) hl1 hl2 (by omega) (by omega) (by omega)
                obtain ⟨qa, qn, qc⟩ := qa'
                obtain ⟨qb, qm, qd⟩ := qs'
                simp only [SL.v, Nat.add_zero] at c0 c1 c2 c3 hcall
                have z0 : (0 : Int) ≤ (i : Int) := by omega
                have z1 : (i : Int) < (sn : Int) := by omega
                have HBR := Lib.hid hBr
                have HC := Lib.hid hcall
                clear hBr hc hg hcall hfo
                go_upto_if 46 with (go_at_call 60; go_loud (refine (HC.out _).mono ?_; rintro e w3 ⟨b, rfl, hB3⟩; have HB3 := Lib.hid (below_then (bl_al HBR.out) hB3); clear hB3))
                cases b with
                | true =>
                  go_wp2_with (fail)
                  go_roundw
                  case rel => exact ⟨i + 1, by omega, by go_num, HB3.out⟩
                  case measure => simp [intOf]; omega
                | false =>
                  go_wp2_with (fail)
                  go_ret
                  exact ⟨_, rfl, below_then HB2.out HB3.out⟩
              · obtain rfl : i = sn := by omega
                have y3 : ¬ ((i : Int) < (i : Int)) := by omega
                have HBR := Lib.hid hBr
                clear hBr
                go_wp2_with (fail)
                go_ret
                exact ⟨_, rfl, below_then HB2.out HBR.out⟩
end Go.Proofs.Ytfebcpmbkljaoaa
namespace Go.Proofs.Ytfebcpmbkljaoaa
open Go.RowKit Go.HR
set_option linter.unusedVariables false
set_option linter.unusedSimpArgs false
set_option linter.unusedSectionVars false
theorem psAt {n0 n c i : Nat} {W : World} {a : Option Addr} {ts : List PT} {q : PT} (h : IsPs n0 W ⟨a, n, c⟩ ts) (hi : ts[i]? = some q) :
    ∃ g o s', a = some ⟨g, o, none⟩ ∧ g < n0 ∧ (∀ (j : Nat) v, (q.vals s')[j]? = some v → W.cell? ⟨g, o + i * 8 + j, none⟩ = some v) ∧ IsPs n0 W s' q.subs := by
  cases h with
  | nil a c => simp at hi
  | row g o c ts sv hg hc hs => exact ⟨g, o, sv i, rfl, hg, fun j v hv => hc i q hi j v hv, hs i q hi⟩
def SmallR (W0 w : World) (LB : Nat) (L : Int) (t : PT) (e : Ending) (w' : World) : Prop :=
  ∃ (b : Bool) (L' : Int), e = .returned (.bool b) ∧ w'.heap[LB]? = some (.cells #[.int .i64 L'] 3 (0, 0)) ∧ Below W0.heap.size W0 w' ∧ HK.Frm (· = LB) w w' ∧ (b = true → L' = L - sizeT t ∧ 0 ≤ L')
def SmallOk (W0 : World) (t : PT) : Prop := ∀ (w : World) (sv : SL) (d : Int) (LB : Nat) (L : Int), IsPs W0.heap.size W0 sv t.subs → okT W0 t → Below W0.heap.size W0 w → W0.heap.size ≤ LB → w.heap[LB]? = some (.cells #[.int .i64 L] 3 (0, 0)) → 0 ≤ L → L ≤ 320 → -1 ≤ d → d ≤ 42 →
  Calls Try.prog 41 #[.agg (t.arr sv), .int .i64 d, .pointer (some ⟨LB, 0, none⟩)] w (SmallR W0 w LB L t)
theorem sizeF_more {ts : List PT} {i : Nat} {q : PT} (h : ts[i]? = some q) : sizeF (ts.take (i + 1)) = sizeF (ts.take i) + sizeT q := by
  rw [List.take_add_one, h, sizeF_append]
  simp [sizeF]
theorem bl_alz {W0 W : World} {o : Obj} (h : Below W0.heap.size W0 W) : Below W0.heap.size W (W.alloc o) := (Below.refl _ _).alloc h.size o
theorem set_one {W : World} {b t : Nat} {z : Value} (h : W.heap[b]? = some (.cells #[z] t (0, 0))) (v : Value) : (W.setCell ⟨b, 0, none⟩ v).heap[b]? = some (.cells #[v] t (0, 0)) := by
  have := HK.blk_set h 0 v
  simpa using this
set_option maxRecDepth 100000 in
set_option maxHeartbeats 8000000 in
theorem small_of (W0 : World) (t : PT) (he : ∀ (i : Nat) q, t.subs[i]? = some q → SmallOk W0 q) : SmallOk W0 t := by
  intro w sv d LB L hs hok hB0 hLB hL hL0 hL1 hd0 hd1
  have hln := hs.len
  obtain ⟨rule, ⟨op, name, ⟨aa, an, ac⟩, ⟨fa, fn, fc⟩, label, ⟨ma, mn, mc⟩⟩, subs⟩ := t
  obtain ⟨sa, sn, sc⟩ := sv
  simp only [PT.subs] at hs he hln
  simp only [okT, NodeOk] at hok
  obtain ⟨⟨hfo, ha1, hf1, hm1, hmk⟩, hsl, hsub⟩ := hok
  simp only [PT.arr, PT.rule, PT.o, PT.subs, SL.v, maxLen] at ha1 hf1 hm1 hmk hfo hsl ⊢
  have hsz : sizeT (.node rule ⟨op, name, ⟨aa, an, ac⟩, ⟨fa, fn, fc⟩, label, ⟨ma, mn, mc⟩⟩ subs) = 1 + sizeF subs := by simp [sizeT]
  obtain ⟨t0, ht0⟩ : ∃ t0, t0 = PT.node rule ⟨op, name, ⟨aa, an, ac⟩, ⟨fa, fn, fc⟩, label, ⟨ma, mn, mc⟩⟩ subs := ⟨_, rfl⟩
  rw [← ht0] at hsz ⊢
  have HT0 := Lib.hid ht0
  have HSZ := Lib.hid hsz
  have HS := Lib.hid hs
  have HE := Lib.hid he
  have HFO := Lib.hid hfo
  have HMK := Lib.hid hmk
  have HSUB := Lib.hid hsub
  have HLN := Lib.hid hln
  have HB0 := Lib.hid hB0
  have HL := Lib.hid hL
  obtain ⟨G, hG⟩ : ∃ G, G = w.heap.size := ⟨_, rfl⟩
  have hlt := HK.blk_lt hL
  have hGL : LB ≠ G := by omega
  obtain ⟨M, hM⟩ : ∃ M, M = L - 1 := ⟨_, rfl⟩
  have hlx : ((w.alloc (.cells #[.string rule, .int .u8 op, .string name, .slice aa an ac, .slice fa fn fc, .int .i64 label, .slice sa sn sc, .slice ma mn mc] 30)).heap[LB]? = some (.cells #[.int .i64 L] 3 (0, 0))) := HK.blk_alloc hL _
  have l0 : (w.alloc (.cells #[.string rule, .int .u8 op, .string name, .slice aa an ac, .slice fa fn fc, .int .i64 label, .slice sa sn sc, .slice ma mn mc] 30)).cell? ⟨LB, 0, none⟩ = some (.int .i64 L) := HK.blk_cell hlx 0
  have lf := fun i => HK.blk_frozen hlx i
  have z0 : L - 1 = M := hM.symm
  have m0 : -1 ≤ M := by omega
  have m1 : M ≤ 319 := by omega
  have HM := Lib.hid hM
  have HG := Lib.hid hG
  have HGL := Lib.hid hGL
  have HLT := Lib.hid hlt
  clear hs he hfo hmk hsub hln hB0 hL ht0 hsz hlx hM hG hGL hlt
  go_enter Try.func41, Try.ntmps41
  go_upto_region 2 with (fail)
  obtain ⟨w2, hw2⟩ : ∃ w2, w2 = (w.alloc (.cells #[.string rule, .int .u8 op, .string name, .slice aa an ac, .slice fa fn fc, .int .i64 label, .slice sa sn sc, .slice ma mn mc] 30)).setCell ⟨LB, 0, none⟩ (.int .i64 M) := ⟨_, rfl⟩
  rw [← hw2, ← HG.out]
  have hF2 : HK.Frm (· = LB) w w2 := by rw [hw2]; exact HK.Frm.setCell (F := (· = LB)) ((HK.Frm.refl _ w).alloc _) (.inl rfl) _
  have hB2 : Below W0.heap.size W0 w2 := HB0.out.trans (hF2.below HB0.out.size (fun k hk => by omega))
  have hX2 : w2.heap[G]? = some (.cells #[.string rule, .int .u8 op, .string name, .slice aa an ac, .slice fa fn fc, .int .i64 label, .slice sa sn sc, .slice ma mn mc] 30 (0, 0)) := by
    rw [hw2]
    exact ((HK.Frm.refl (· = LB) (w.alloc _)).setCell (.inl rfl) _).heap (by rw [HG.out]; exact HK.blk_new _ _) (fun e => HGL.out e.symm)
  have hM2 : w2.heap[LB]? = some (.cells #[.int .i64 M] 3 (0, 0)) := by
    rw [hw2]
    exact set_one (HK.blk_alloc HL.out _) _
  have x0 : w2.cell? ⟨G, 0, none⟩ = some (.string rule) := HK.blk_cell hX2 0
  have x1 : w2.cell? ⟨G, 1, none⟩ = some (.int .u8 op) := HK.blk_cell hX2 1
  have x2 : w2.cell? ⟨G, 2, none⟩ = some (.string name) := HK.blk_cell hX2 2
  have x3 : w2.cell? ⟨G, 3, none⟩ = some (.slice aa an ac) := HK.blk_cell hX2 3
  have x4 : w2.cell? ⟨G, 4, none⟩ = some (.slice fa fn fc) := HK.blk_cell hX2 4
  have x5 : w2.cell? ⟨G, 5, none⟩ = some (.int .i64 label) := HK.blk_cell hX2 5
  have x6 : w2.cell? ⟨G, 6, none⟩ = some (.slice sa sn sc) := HK.blk_cell hX2 6
  have x7 : w2.cell? ⟨G, 7, none⟩ = some (.slice ma mn mc) := HK.blk_cell hX2 7
  have HF2 := Lib.hid hF2
  have HB2 := Lib.hid hB2
  have HX2 := Lib.hid hX2
  have HM2 := Lib.hid hM2
  have HLB := Lib.hid hLB
  have hflat := flat_call 8 w2 op name ⟨aa, an, ac⟩ ⟨fa, fn, fc⟩ 6 (HFO.out.up hB2) (by simpa [maxLen] using ha1) (by simpa [maxLen] using hf1) (by omega) (by omega) (by omega)
  simp only [SL.v] at hflat
  have HFL := Lib.hid hflat
  clear hF2 hB2 hX2 hM2 hw2 hflat l0 lf
  go_cut [41] from 11 to 41 (fun v wx => ∃ b, v = .bool b ∧ (b = false → 0 ≤ M ∧ sn ≤ 10 ∧ mn ≤ 10 ∧ 0 ≤ d) ∧ Below w2.heap.size w2 wx)
  case first =>
    have hM2 := HM2.out
    have l0 : w2.cell? ⟨LB, 0, none⟩ = some (.int .i64 M) := HK.blk_cell hM2 0
    clear hM2
    by_cases q1 : M < 0
    · go_wp2_with (fail)
      go_meet
      case rel => exact ⟨true, rfl, fun h => (by cases h), Below.refl _ _⟩
    · by_cases q2 : d < 0
      · go_wp2_with (fail)
        go_meet
        case rel => exact ⟨true, rfl, fun h => (by cases h), Below.refl _ _⟩
      · by_cases q3 : sn ≤ 10
        · have q3' : ¬ (10 : Int) < (sn : Int) := by omega
          by_cases q4 : mn ≤ 10
          · have q4' : ¬ (10 : Int) < (mn : Int) := by omega
            go_wp2_with (go_at_call 60; (refine HFL.out.mono ?_; rintro e w3 ⟨b, rfl, hB3⟩; have HB3 := Lib.hid hB3; clear hB3))
            go_meet
            case rel => exact ⟨_, rfl, fun _ => ⟨by omega, q3, q4, by omega⟩, HB3.out⟩
          · have q4' : (10 : Int) < (mn : Int) := by omega
            go_wp2_with (fail)
            go_meet
            case rel => exact ⟨true, rfl, fun h => (by cases h), Below.refl _ _⟩
        · have q3' : (10 : Int) < (sn : Int) := by omega
          go_wp2_with (fail)
          go_meet
          case rel => exact ⟨true, rfl, fun h => (by cases h), Below.refl _ _⟩
  case rest =>
    obtain ⟨b, rfl, hb, hB3⟩ := hcut
    obtain ⟨w3, rfl⟩ : ∃ w3 : World, w3 = wc := ⟨_, rfl⟩
    have hX3 := (hB3.block _ (HK.blk_lt HX2.out)).trans HX2.out
    have hM3 := (hB3.block _ (HK.blk_lt HM2.out)).trans HM2.out
    have hF3 := HF2.out.trans (HK.Frm.of_below hB3 _)
    have hB03 := HB2.out.trans (hB3.mono HB2.out.size)
    replace x0 : w3.cell? ⟨G, 0, none⟩ = some (.string rule) := HK.blk_cell hX3 0
    replace x1 : w3.cell? ⟨G, 1, none⟩ = some (.int .u8 op) := HK.blk_cell hX3 1
    replace x2 : w3.cell? ⟨G, 2, none⟩ = some (.string name) := HK.blk_cell hX3 2
    replace x3 : w3.cell? ⟨G, 3, none⟩ = some (.slice aa an ac) := HK.blk_cell hX3 3
    replace x4 : w3.cell? ⟨G, 4, none⟩ = some (.slice fa fn fc) := HK.blk_cell hX3 4
    replace x5 : w3.cell? ⟨G, 5, none⟩ = some (.int .i64 label) := HK.blk_cell hX3 5
    replace x6 : w3.cell? ⟨G, 6, none⟩ = some (.slice sa sn sc) := HK.blk_cell hX3 6
    replace x7 : w3.cell? ⟨G, 7, none⟩ = some (.slice ma mn mc) := HK.blk_cell hX3 7
    have HM3 := Lib.hid hM3
    have HF3 := Lib.hid hF3
    have HB03 := Lib.hid hB03
    clear hX3 hM3 hF3 hB03 hB3
    cases b with
    | true =>
      go_wp2_with (fail)
      go_ret
      exact ⟨false, M, rfl, HM3.out, HB03.out, HF3.out, fun h => by cases h⟩
    | false =>
      obtain ⟨p1, p2, p3, p4⟩ := hb rfl
      clear hb
      go_upto_block 0 with (fail)
      go_cut [6] from 46 to 52 (fun v wx => wx = w3)
      case first =>
        go_wp2_with (fail)
        go_loopw [45] (fun j wr => ∃ i : Nat, i ≤ mn ∧ j = .int .i64 i ∧ wr = w3) (fun j _ => mn - (intOf j).toNat)
        case atStart => exact ⟨0, by omega, rfl, rfl⟩
        case round =>
          obtain ⟨i, hi, rfl, rfl⟩ := hrel
          by_cases h1 : i < mn
          · obtain ⟨q, hq, g, o, ha, hg, hc⟩ := HMK.out i h1
            simp only at ha
            subst ha
            have c0 := (HB03.out.cell hg).trans (hc 0 _ rfl)
            obtain ⟨qa, qn, qc⟩ := q
            simp only [SL.v, Nat.add_zero, Nat.mul_one] at c0 hq
            have z1 : (0 : Int) ≤ (i : Int) := by omega
            have z2 : (i : Int) < (mn : Int) := by omega
            clear hc hg
            by_cases hq10 : qn ≤ 10
            · have y3 : ¬ (10 : Int) < (qn : Int) := by omega
              go_wp2_with (fail)
              go_roundw
              case rel => exact ⟨i + 1, by omega, by go_num, by first | rfl | trivial⟩
              case measure => simp [intOf]; omega
            · have y3 : (10 : Int) < (qn : Int) := by omega
              go_wp2_with (fail)
              go_ret
              exact ⟨false, M, rfl, HM3.out, HB03.out, HF3.out, fun h => by cases h⟩
          · obtain rfl : i = mn := by omega
            have y3 : ¬ ((i : Int) < (i : Int)) := by omega
            go_wp2_with (fail)
            go_meet
            case rel => rfl
      case rest =>
        obtain ⟨w4, hw4⟩ : ∃ w4 : World, w4 = wc := ⟨_, rfl⟩
        rw [← hw4]
        have hcut : w4 = w3 := hw4.trans hcut
        subst hcut
        clear hw4
        go_wp2_with (fail)
        go_loopw [56] (fun j wr => ∃ (i : Nat) (Lr : Int), i ≤ sn ∧ j = .int .i64 i ∧ wr.heap[LB]? = some (.cells #[.int .i64 Lr] 3 (0, 0)) ∧ Lr = M - sizeF (subs.take i) ∧ 0 ≤ Lr ∧ Below W0.heap.size W0 wr ∧ HK.Frm (· = LB) w wr) (fun j _ => sn - (intOf j).toNat)
        case atStart => exact ⟨0, M, by omega, rfl, HM3.out, by simp [sizeF], p1, HB03.out, HF3.out⟩
        case round =>
          obtain ⟨i, Lr, hi, rfl, hLr, hLe, hLp, hBr, hFr⟩ := hrel
          by_cases h1 : i < sn
          · obtain ⟨q, hq⟩ : ∃ q, subs[i]? = some q := ⟨_, List.getElem?_eq_getElem (by rw [← HLN.out]; exact h1)⟩
            obtain ⟨g, o, s', ha, hg, hc, hps⟩ := psAt HS.out hq
            subst ha
            have hqe : q = .node q.rule q.o q.subs := by cases q; rfl
            have hokq := okF_get HSUB.out hq
            have hsq := sizeF_more hq
            have hle := sizeF_take hq
            have hcell := fun (k : Nat) (v : Value) (h : (q.vals s')[k]? = some v) => (hBr.cell (p := ⟨g, o + i * 8 + k, none⟩) hg).trans (hc k v h)
            have hcall := fun (ob : Obj) => HE.out i q hq (wr.alloc ob) s' (d - 1) LB Lr hps hokq (hBr.trans (bl_alz hBr)) HLB.out (HK.blk_alloc hLr ob) hLp (by omega) (by omega) (by omega)
            obtain ⟨qr, ⟨qo, qm, ⟨ea, en, ec⟩, ⟨ia, i2, ic⟩, ql, ⟨ka, kn, kc⟩⟩, qs⟩ := q
            obtain ⟨ta, tn, tc⟩ := s'
            have c0 := hcell 0 _ rfl
            have c1 := hcell 1 _ rfl
            have c2 := hcell 2 _ rfl
            have c3 := hcell 3 _ rfl
            have c4 := hcell 4 _ rfl
            have c5 := hcell 5 _ rfl
            have c6 := hcell 6 _ rfl
            have c7 := hcell 7 _ rfl
            simp only [PT.rule, PT.o, PT.subs, PT.arr, SL.v, Nat.add_zero] at c0 c1 c2 c3 c4 c5 c6 c7 hcall
            have y1 : (0 : Int) ≤ (i : Int) := by omega
            have y2 : (i : Int) < (sn : Int) := by omega
            have HC := Lib.hid hcall
            have HSQ := Lib.hid hsq
            have HLR := Lib.hid hLr
            have HLE := Lib.hid hLe
            have HBR := Lib.hid hBr
            have HFR := Lib.hid hFr
            clear hcell hc hg hps hqe hokq hsq hle hcall hLr hLe hBr hFr hq
            go_upto_if 65 with (go_at_call 41; (refine (HC.out _).mono ?_; rintro e w5 ⟨b, L5, rfl, h5a, h5b, h5c, h5d⟩; have H5A := Lib.hid h5a; have H5B := Lib.hid h5b; have H5C := Lib.hid h5c; have H5D := Lib.hid h5d; clear h5a h5b h5c h5d))
            cases b with
            | true =>
              go_wp2_with (fail)
              go_roundw
              case rel =>
                refine ⟨i + 1, L5, by omega, by go_num, H5A.out, ?_, (H5D.out rfl).2, H5B.out, (HFR.out.alloc _).trans H5C.out⟩
                have e1 := (H5D.out rfl).1
                have e2 := HLE.out
                have e3 := HSQ.out
                omega
              case measure => simp [intOf]; omega
            | false =>
              go_wp2_with (fail)
              go_ret
              exact ⟨false, L5, rfl, H5A.out, H5B.out, (HFR.out.alloc _).trans H5C.out, fun h => by cases h⟩
          · obtain rfl : i = sn := by omega
            have y3 : ¬ ((i : Int) < (i : Int)) := by omega
            have HLR := Lib.hid hLr
            have HLE := Lib.hid hLe
            have HBR := Lib.hid hBr
            have HFR := Lib.hid hFr
            clear hLr hLe hBr hFr
            go_wp2_with (fail)
            go_ret
            refine ⟨true, Lr, rfl, HLR.out, HBR.out, HFR.out, fun _ => ⟨?_, hLp⟩⟩
            have h1 := HLE.out
            have h2 := HLN.out
            rw [List.take_of_length_le (by omega)] at h1
            have h3 := HSZ.out
            have h4 := HM.out
            omega
mutual
theorem small_all (W0 : World) : ∀ t : PT, SmallOk W0 t
  | .node r o s => small_of W0 _ (small_allF W0 s)
theorem small_allF (W0 : World) : ∀ (ts : List PT) (i : Nat) q, ts[i]? = some q → SmallOk W0 q
  | [], i, q, h => by simp at h
  | t :: ts, 0, q, h => by simp at h; subst h; exact small_all W0 t
  | t :: ts, i + 1, q, h => small_allF W0 ts i q (by simpa using h)
end
set_option maxRecDepth 100000 in
set_option maxHeartbeats 2000000 in
/-- Small. -/
theorem small_call (w : World) (t : PT) (sv : SL) (hs : IsPs w.heap.size w sv t.subs) (hok : okT w t) :
    Calls Try.prog 15 #[.agg (t.arr sv)] w fun e w' => ∃ b, e = .returned (.bool b) ∧ Below w.heap.size w w' ∧ (b = true → sizeT t ≤ 320) := by
  have hall := fun (W : World) (LB : Nat) (hB : Below w.heap.size w W) (hLB : w.heap.size ≤ LB) (hc : W.heap[LB]? = some (.cells #[.int .i64 320] 3 (0, 0))) => small_all w t W sv 42 LB 320 hs hok hB hLB hc (by omega) (by omega) (by omega) (by omega)
  obtain ⟨t0, ht0⟩ : ∃ t0, t0 = t := ⟨_, rfl⟩
  have hsz : sizeT t = sizeT t0 := by rw [ht0]
  rw [hsz]
  have hall2 := hall
  unfold SmallR at hall2
  simp only [hsz] at hall2
  obtain ⟨rule, ⟨op, name, ⟨aa, an, ac⟩, ⟨fa, fn, fc⟩, label, ⟨ma, mn, mc⟩⟩, subs⟩ := t
  obtain ⟨sa, sn, sc⟩ := sv
  simp only [PT.arr, PT.rule, PT.o, PT.subs, SL.v] at hall2 ⊢
  have HA := Lib.hid hall2
  clear hall hall2 hs hok ht0 hsz
  go_enter Try.func15, Try.ntmps15
  go_wp2_with (go_at_call 41; (refine (HA.out _ _ (bl_al (bl_al (Below.refl _ _))) (by simp) (blk_new1 _ _ _)).mono ?_; rintro e w5 ⟨b, L5, rfl, h5a, h5b, h5c, h5d⟩))
  go_ret
  exact ⟨b, rfl, h5b, fun h => by have := h5d h; omega⟩
end Go.Proofs.Ytfebcpmbkljaoaa
