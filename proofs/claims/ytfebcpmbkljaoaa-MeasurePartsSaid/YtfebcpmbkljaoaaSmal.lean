/- Small: what it answers of any proof that came in. -/
import Derived.Test.YtfebcpmbkljaoaaArgP
import Derived.Test.YtfebcpmbkljaoaaWrB
import Derived.Deep.CutBlock
import Derived.Test.YtfebcpmbkljaoaaAt
import Derived.Test.YtfebcpmbkljaoaaEach
import Derived.Test.YtfebcpmbkljaoaaWrP
import Derived.Test.YtfebcpmbkljaoaaRichE
namespace Go.Proofs.Ytfebcpmbkljaoaa
open Go.RowKit Go.HR
set_option linter.unusedVariables false
set_option linter.unusedSimpArgs false
set_option linter.unusedSectionVars false
theorem RowAt.up {W W' : World} {s : SL} {m i : Nat} {vs : List Value} (h : RowAt W s m i vs) (hB : Below W.heap.size W W') : RowAt W' s m i vs := by
  obtain ⟨g, o, ha, hg, hc⟩ := h
  exact ⟨g, o, ha, Nat.lt_of_lt_of_le hg hB.size, fun j v hv => cell_then (hc j v hv) hB⟩
theorem FormOk.up : ∀ {k : Nat} {W W' : World} {a s : SL}, FormOk k W a s → Below W.heap.size W W' → FormOk k W' a s
  | 0, _, _, _, _, _, _ => trivial
  | k + 1, W, W', a, s, h, hB => ⟨fun i hi => by
      obtain ⟨b, nm, q, hr⟩ := h.1 i hi
      exact ⟨b, nm, q, hr.up hB⟩, fun i hi => by
      obtain ⟨op, nm, a, s, hr, h1, h2, h3⟩ := h.2 i hi
      exact ⟨op, nm, a, s, hr.up hB, h1, h2, FormOk.up h3 hB⟩⟩
def RetAny (w : World) (e : Ending) (w' : World) : Prop := ∃ b, e = .returned (.bool b) ∧ Below w.heap.size w w'
def FlatOk (k : Nat) : Prop := ∀ (w : World) (op : Int) (nm : ByteArray) (a s : SL) (d : Int), FormOk k w a s → a.n ≤ maxLen → s.n ≤ maxLen → -1 ≤ d → d < k → d ≤ 100 →
  Calls Try.prog 60 #[.agg #[.int .u8 op, .string nm, a.v, s.v], .int .i64 d] w (RetAny w)
set_option maxRecDepth 100000 in
set_option maxHeartbeats 4000000 in
theorem flat_call : ∀ k : Nat, FlatOk k := by
  intro k
  induction k with
  | zero =>
    intro w op nm a s d _ _ _ h1 h2 h3
    obtain ⟨aa, an, ac⟩ := a
    obtain ⟨sa, sn, sc⟩ := s
    obtain rfl : d = -1 := by omega
    simp only [SL.v]
    go_enter Try.func60, Try.ntmps60
    go_wp2_with (fail)
    go_ret
    exact ⟨_, rfl, bl_al (Below.refl _ _)⟩
  | succ k ih =>
    intro w op nm a s d hf ha hs h1 h2 h3
    obtain ⟨aa, an, ac⟩ := a
    obtain ⟨sa, sn, sc⟩ := s
    simp only [SL.v, maxLen] at ha hs ⊢
    have HF := Lib.hid hf
    have IH := Lib.hid ih
    clear hf ih
    by_cases hd : d < 0
    · go_enter Try.func60, Try.ntmps60
      go_wp2_with (fail)
      go_ret
      exact ⟨_, rfl, bl_al (Below.refl _ _)⟩
    · by_cases hs2 : sn > 2
      · have y1 : (2 : Int) < (sn : Int) := by omega
        go_enter Try.func60, Try.ntmps60
        go_wp2_with (fail)
        go_ret
        exact ⟨_, rfl, bl_al (Below.refl _ _)⟩
      · by_cases ha2 : an > 2
        · have y1 : ¬ (2 : Int) < (sn : Int) := by omega
          have y2 : (2 : Int) < (an : Int) := by omega
          go_enter Try.func60, Try.ntmps60
          go_wp2_with (fail)
          go_ret
          exact ⟨_, rfl, bl_al (Below.refl _ _)⟩
        · have y1 : ¬ (2 : Int) < (sn : Int) := by omega
          have y2 : ¬ (2 : Int) < (an : Int) := by omega
          go_enter Try.func60, Try.ntmps60
          go_upto_block 0 with (fail)
          obtain ⟨w1, hw1⟩ : ∃ w1, w1 = w.alloc (.cells #[.int .u8 op, .string nm, .slice aa an ac, .slice sa sn sc] 26) := ⟨_, rfl⟩
          rw [← hw1]
          have hB1 : Below w.heap.size w w1 := by rw [hw1]; exact bl_al (Below.refl _ _)
          have hb1 : w1.heap[w.heap.size]? = some (.cells #[.int .u8 op, .string nm, .slice aa an ac, .slice sa sn sc] 26 (0, 0)) := by rw [hw1]; exact HK.blk_new _ _
          have HF1 := Lib.hid (HF.out.up hB1)
          have HB1 := Lib.hid hB1
          have HX1 := Lib.hid hb1
          obtain ⟨G, hG⟩ : ∃ G, G = w.heap.size := ⟨_, rfl⟩
          rw [← hG]
          have hX1 := hb1
          rw [← hG] at hX1
          have HX1 := Lib.hid hX1
          clear hB1 hb1 hw1 hG hX1
          go_cut [4] from 27 to 34 (fun v wx => Below w1.heap.size w1 wx)
          case first =>
            go_wp2_with (fail)
            go_loopw [26] (fun j wr => ∃ i : Nat, i ≤ an ∧ j = .int .i64 i ∧ Below w1.heap.size w1 wr) (fun j _ => an - (intOf j).toNat)
            case atStart => exact ⟨0, by omega, rfl, Below.refl _ _⟩
            case round =>
              obtain ⟨i, hi, rfl, hBr⟩ := hrel
              by_cases h1 : i < an
              · obtain ⟨b, tn, q, g, o, ha, hg, hc⟩ := (HF1.out.1 i h1)
                simp only at ha
                subst ha
                have c0 := cell_then (hc 0 _ rfl) hBr
                have c1 := cell_then (hc 1 _ rfl) hBr
                have c2 := cell_then (hc 2 _ rfl) hBr
                obtain ⟨qa, qn, qc⟩ := q
                simp only [SL.v, Nat.add_zero] at c0 c1 c2
                have z0 : (0 : Int) ≤ (i : Int) := by omega
                have z1 : (i : Int) < (an : Int) := by omega
                have HBR := Lib.hid hBr
                clear hBr hc hg
                by_cases hq : qn = 0
                · subst hq
                  go_wp2_with (fail)
                  go_roundw
                  case rel => exact ⟨i + 1, by omega, by go_num, bl_al HBR.out⟩
                  case measure => simp [intOf]; omega
                · have y3 : (0 : Int) < (qn : Int) := by omega
                  go_wp2_with (fail)
                  go_ret
                  exact ⟨_, rfl, below_then HB1.out (bl_al HBR.out)⟩
              · obtain rfl : i = an := by omega
                have y3 : ¬ ((i : Int) < (i : Int)) := by omega
                have HBR := Lib.hid hBr
                clear hBr
                go_wp2_with (fail)
                go_meet
                case rel => exact HBR.out
          case rest =>
            obtain ⟨w2, rfl⟩ : ∃ w2 : World, w2 = wc := ⟨_, rfl⟩
            have hX2 := (hcut.block _ (HK.blk_lt HX1.out)).trans HX1.out
            have x3 : w2.cell? ⟨G, 3, none⟩ = some (.slice sa sn sc) := HK.blk_cell hX2 3
            have HF2 := Lib.hid (HF1.out.up hcut)
            have HB2 := Lib.hid (below_then HB1.out hcut)
            clear hcut hX2
            go_wp2_with (fail)
            go_loopw [38] (fun j wr => ∃ i : Nat, i ≤ sn ∧ j = .int .i64 i ∧ Below w2.heap.size w2 wr) (fun j _ => sn - (intOf j).toNat)
            case atStart => exact ⟨0, by omega, rfl, Below.refl _ _⟩
            case round =>
              obtain ⟨i, hi, rfl, hBr⟩ := hrel
              by_cases h1 : i < sn
              · obtain ⟨op', nm', qa', qs', ⟨g, o, ha, hg, hc⟩, hl1, hl2, hfo⟩ := (HF2.out.2 i h1)
                simp only at ha
                subst ha
                have c0 := cell_then (hc 0 _ rfl) hBr
                have c1 := cell_then (hc 1 _ rfl) hBr
                have c2 := cell_then (hc 2 _ rfl) hBr
                have c3 := cell_then (hc 3 _ rfl) hBr
                have hcall := fun (o : Obj) => IH.out (wr.alloc o) op' nm' qa' qs' (d - 1) (hfo.up (bl_al hBr)) hl1 hl2 (by omega) (by omega) (by omega)
                obtain ⟨qa, qn, qc⟩ := qa'
                obtain ⟨qb, qm, qd⟩ := qs'
                simp only [SL.v, Nat.add_zero] at c0 c1 c2 c3 hcall
                have z0 : (0 : Int) ≤ (i : Int) := by omega
                have z1 : (i : Int) < (sn : Int) := by omega
                have HBR := Lib.hid hBr
                have HC := Lib.hid hcall
                clear hBr hc hg hcall hfo
                go_upto_if 46 with (go_at_call 60; go_loud (refine (HC.out _).mono ?_; rintro e w3 ⟨b, rfl, hB3⟩; have HB3 := Lib.hid (below_then (bl_al HBR.out) hB3); clear hB3))
                cases b with
                | true =>
                  go_wp2_with (fail)
                  go_roundw
                  case rel => exact ⟨i + 1, by omega, by go_num, HB3.out⟩
                  case measure => simp [intOf]; omega
                | false =>
                  go_wp2_with (fail)
                  go_ret
                  exact ⟨_, rfl, below_then HB2.out HB3.out⟩
              · obtain rfl : i = sn := by omega
                have y3 : ¬ ((i : Int) < (i : Int)) := by omega
                have HBR := Lib.hid hBr
                clear hBr
                go_wp2_with (fail)
                go_ret
                exact ⟨_, rfl, below_then HB2.out HBR.out⟩
end Go.Proofs.Ytfebcpmbkljaoaa
namespace Go.Proofs.Ytfebcpmbkljaoaa
open Go.RowKit Go.HR
set_option linter.unusedVariables false
set_option linter.unusedSimpArgs false
set_option linter.unusedSectionVars false
theorem psAt {n0 n c i : Nat} {W : World} {a : Option Addr} {ts : List PT} {q : PT} (h : IsPs n0 W ⟨a, n, c⟩ ts) (hi : ts[i]? = some q) :
    ∃ g o s', a = some ⟨g, o, none⟩ ∧ g < n0 ∧ (∀ (j : Nat) v, (q.vals s')[j]? = some v → W.cell? ⟨g, o + i * 8 + j, none⟩ = some v) ∧ IsPs n0 W s' q.subs := by
  cases h with
  | nil a c => simp at hi
  | row g o c ts sv hg hc hs => exact ⟨g, o, sv i, rfl, hg, fun j v hv => hc i q hi j v hv, hs i q hi⟩
def SmallR (W0 w : World) (LB : Nat) (L : Int) (t : PT) (e : Ending) (w' : World) : Prop :=
  ∃ (b : Bool) (L' : Int), e = .returned (.bool b) ∧ w'.heap[LB]? = some (.cells #[.int .i64 L'] 3 (0, 0)) ∧ Below W0.heap.size W0 w' ∧ HK.Frm (· = LB) w w' ∧ (b = true → L' = L - sizeT t ∧ 0 ≤ L')
def SmallOk (W0 : World) (t : PT) : Prop := ∀ (w : World) (sv : SL) (d : Int) (LB : Nat) (L : Int), IsPs W0.heap.size W0 sv t.subs → okT W0 t → Below W0.heap.size W0 w → W0.heap.size ≤ LB → w.heap[LB]? = some (.cells #[.int .i64 L] 3 (0, 0)) → 0 ≤ L → L ≤ 320 → -1 ≤ d → d ≤ 42 →
  Calls Try.prog 41 #[.agg (t.arr sv), .int .i64 d, .pointer (some ⟨LB, 0, none⟩)] w (SmallR W0 w LB L t)
theorem sizeF_more {ts : List PT} {i : Nat} {q : PT} (h : ts[i]? = some q) : sizeF (ts.take (i + 1)) = sizeF (ts.take i) + sizeT q := by
  rw [List.take_add_one, h, sizeF_append]
  simp [sizeF]
theorem bl_alz {W0 W : World} {o : Obj} (h : Below W0.heap.size W0 W) : Below W0.heap.size W (W.alloc o) := (Below.refl _ _).alloc h.size o
theorem set_one {W : World} {b t : Nat} {z : Value} (h : W.heap[b]? = some (.cells #[z] t (0, 0))) (v : Value) : (W.setCell ⟨b, 0, none⟩ v).heap[b]? = some (.cells #[v] t (0, 0)) := by
  have := HK.blk_set h 0 v
  simpa using this
set_option maxRecDepth 100000 in
set_option maxHeartbeats 8000000 in
theorem small_of (W0 : World) (t : PT) (he : ∀ (i : Nat) q, t.subs[i]? = some q → SmallOk W0 q) : SmallOk W0 t := by
  intro w sv d LB L hs hok hB0 hLB hL hL0 hL1 hd0 hd1
  have hln := hs.len
  obtain ⟨rule, ⟨op, name, ⟨aa, an, ac⟩, ⟨fa, fn, fc⟩, label, ⟨ma, mn, mc⟩⟩, subs⟩ := t
  obtain ⟨sa, sn, sc⟩ := sv
  simp only [PT.subs] at hs he hln
  simp only [okT, NodeOk] at hok
  obtain ⟨⟨hfo, ha1, hf1, hm1, hmk⟩, hsl, hsub⟩ := hok
  simp only [PT.arr, PT.rule, PT.o, PT.subs, SL.v, maxLen] at ha1 hf1 hm1 hmk hfo hsl ⊢
  have hsz : sizeT (.node rule ⟨op, name, ⟨aa, an, ac⟩, ⟨fa, fn, fc⟩, label, ⟨ma, mn, mc⟩⟩ subs) = 1 + sizeF subs := by simp [sizeT]
  obtain ⟨t0, ht0⟩ : ∃ t0, t0 = PT.node rule ⟨op, name, ⟨aa, an, ac⟩, ⟨fa, fn, fc⟩, label, ⟨ma, mn, mc⟩⟩ subs := ⟨_, rfl⟩
  rw [← ht0] at hsz ⊢
  have HT0 := Lib.hid ht0
  have HSZ := Lib.hid hsz
  have HS := Lib.hid hs
  have HE := Lib.hid he
  have HFO := Lib.hid hfo
  have HMK := Lib.hid hmk
  have HSUB := Lib.hid hsub
  have HLN := Lib.hid hln
  have HB0 := Lib.hid hB0
  have HL := Lib.hid hL
  obtain ⟨G, hG⟩ : ∃ G, G = w.heap.size := ⟨_, rfl⟩
  have hlt := HK.blk_lt hL
  have hGL : LB ≠ G := by omega
  obtain ⟨M, hM⟩ : ∃ M, M = L - 1 := ⟨_, rfl⟩
  have hlx : ((w.alloc (.cells #[.string rule, .int .u8 op, .string name, .slice aa an ac, .slice fa fn fc, .int .i64 label, .slice sa sn sc, .slice ma mn mc] 30)).heap[LB]? = some (.cells #[.int .i64 L] 3 (0, 0))) := HK.blk_alloc hL _
  have l0 : (w.alloc (.cells #[.string rule, .int .u8 op, .string name, .slice aa an ac, .slice fa fn fc, .int .i64 label, .slice sa sn sc, .slice ma mn mc] 30)).cell? ⟨LB, 0, none⟩ = some (.int .i64 L) := HK.blk_cell hlx 0
  have lf := fun i => HK.blk_frozen hlx i
  have z0 : L - 1 = M := hM.symm
  have m0 : -1 ≤ M := by omega
  have m1 : M ≤ 319 := by omega
  have HM := Lib.hid hM
  have HG := Lib.hid hG
  have HGL := Lib.hid hGL
  have HLT := Lib.hid hlt
  clear hs he hfo hmk hsub hln hB0 hL ht0 hsz hlx hM hG hGL hlt
  go_enter Try.func41, Try.ntmps41
  go_upto_region 2 with (fail)
  obtain ⟨w2, hw2⟩ : ∃ w2, w2 = (w.alloc (.cells #[.string rule, .int .u8 op, .string name, .slice aa an ac, .slice fa fn fc, .int .i64 label, .slice sa sn sc, .slice ma mn mc] 30)).setCell ⟨LB, 0, none⟩ (.int .i64 M) := ⟨_, rfl⟩
  rw [← hw2, ← HG.out]
  have hF2 : HK.Frm (· = LB) w w2 := by rw [hw2]; exact HK.Frm.setCell (F := (· = LB)) ((HK.Frm.refl _ w).alloc _) (.inl rfl) _
  have hB2 : Below W0.heap.size W0 w2 := HB0.out.trans (hF2.below HB0.out.size (fun k hk => by omega))
  have hX2 : w2.heap[G]? = some (.cells #[.string rule, .int .u8 op, .string name, .slice aa an ac, .slice fa fn fc, .int .i64 label, .slice sa sn sc, .slice ma mn mc] 30 (0, 0)) := by
    rw [hw2]
    exact ((HK.Frm.refl (· = LB) (w.alloc _)).setCell (.inl rfl) _).heap (by rw [HG.out]; exact HK.blk_new _ _) (fun e => HGL.out e.symm)
  have hM2 : w2.heap[LB]? = some (.cells #[.int .i64 M] 3 (0, 0)) := by
    rw [hw2]
    exact set_one (HK.blk_alloc HL.out _) _
  have x0 : w2.cell? ⟨G, 0, none⟩ = some (.string rule) := HK.blk_cell hX2 0
  have x1 : w2.cell? ⟨G, 1, none⟩ = some (.int .u8 op) := HK.blk_cell hX2 1
  have x2 : w2.cell? ⟨G, 2, none⟩ = some (.string name) := HK.blk_cell hX2 2
  have x3 : w2.cell? ⟨G, 3, none⟩ = some (.slice aa an ac) := HK.blk_cell hX2 3
  have x4 : w2.cell? ⟨G, 4, none⟩ = some (.slice fa fn fc) := HK.blk_cell hX2 4
  have x5 : w2.cell? ⟨G, 5, none⟩ = some (.int .i64 label) := HK.blk_cell hX2 5
  have x6 : w2.cell? ⟨G, 6, none⟩ = some (.slice sa sn sc) := HK.blk_cell hX2 6
  have x7 : w2.cell? ⟨G, 7, none⟩ = some (.slice ma mn mc) := HK.blk_cell hX2 7
  have HF2 := Lib.hid hF2
  have HB2 := Lib.hid hB2
  have HX2 := Lib.hid hX2
  have HM2 := Lib.hid hM2
  have HLB := Lib.hid hLB
  have hflat := flat_call 8 w2 op name ⟨aa, an, ac⟩ ⟨fa, fn, fc⟩ 6 (HFO.out.up hB2) (by simpa [maxLen] using ha1) (by simpa [maxLen] using hf1) (by omega) (by omega) (by omega)
  simp only [SL.v] at hflat
  have HFL := Lib.hid hflat
  clear hF2 hB2 hX2 hM2 hw2 hflat l0 lf
  go_cut [41] from 11 to 41 (fun v wx => ∃ b, v = .bool b ∧ (b = false → 0 ≤ M ∧ sn ≤ 10 ∧ mn ≤ 10 ∧ 0 ≤ d) ∧ Below w2.heap.size w2 wx)
  case first =>
    have hM2 := HM2.out
    have l0 : w2.cell? ⟨LB, 0, none⟩ = some (.int .i64 M) := HK.blk_cell hM2 0
    clear hM2
    by_cases q1 : M < 0
    · go_wp2_with (fail)
      go_meet
      case rel => exact ⟨true, rfl, fun h => (by cases h), Below.refl _ _⟩
    · by_cases q2 : d < 0
      · go_wp2_with (fail)
        go_meet
        case rel => exact ⟨true, rfl, fun h => (by cases h), Below.refl _ _⟩
      · by_cases q3 : sn ≤ 10
        · have q3' : ¬ (10 : Int) < (sn : Int) := by omega
          by_cases q4 : mn ≤ 10
          · have q4' : ¬ (10 : Int) < (mn : Int) := by omega
            go_wp2_with (go_at_call 60; (refine HFL.out.mono ?_; rintro e w3 ⟨b, rfl, hB3⟩; have HB3 := Lib.hid hB3; clear hB3))
            go_meet
            case rel => exact ⟨_, rfl, fun _ => ⟨by omega, q3, q4, by omega⟩, HB3.out⟩
          · have q4' : (10 : Int) < (mn : Int) := by omega
            go_wp2_with (fail)
            go_meet
            case rel => exact ⟨true, rfl, fun h => (by cases h), Below.refl _ _⟩
        · have q3' : (10 : Int) < (sn : Int) := by omega
          go_wp2_with (fail)
          go_meet
          case rel => exact ⟨true, rfl, fun h => (by cases h), Below.refl _ _⟩
  case rest =>
    obtain ⟨b, rfl, hb, hB3⟩ := hcut
    obtain ⟨w3, rfl⟩ : ∃ w3 : World, w3 = wc := ⟨_, rfl⟩
    have hX3 := (hB3.block _ (HK.blk_lt HX2.out)).trans HX2.out
    have hM3 := (hB3.block _ (HK.blk_lt HM2.out)).trans HM2.out
    have hF3 := HF2.out.trans (HK.Frm.of_below hB3 _)
    have hB03 := HB2.out.trans (hB3.mono HB2.out.size)
    replace x0 : w3.cell? ⟨G, 0, none⟩ = some (.string rule) := HK.blk_cell hX3 0
    replace x1 : w3.cell? ⟨G, 1, none⟩ = some (.int .u8 op) := HK.blk_cell hX3 1
    replace x2 : w3.cell? ⟨G, 2, none⟩ = some (.string name) := HK.blk_cell hX3 2
    replace x3 : w3.cell? ⟨G, 3, none⟩ = some (.slice aa an ac) := HK.blk_cell hX3 3
    replace x4 : w3.cell? ⟨G, 4, none⟩ = some (.slice fa fn fc) := HK.blk_cell hX3 4
    replace x5 : w3.cell? ⟨G, 5, none⟩ = some (.int .i64 label) := HK.blk_cell hX3 5
    replace x6 : w3.cell? ⟨G, 6, none⟩ = some (.slice sa sn sc) := HK.blk_cell hX3 6
    replace x7 : w3.cell? ⟨G, 7, none⟩ = some (.slice ma mn mc) := HK.blk_cell hX3 7
    have HM3 := Lib.hid hM3
    have HF3 := Lib.hid hF3
    have HB03 := Lib.hid hB03
    clear hX3 hM3 hF3 hB03 hB3
    cases b with
    | true =>
      go_wp2_with (fail)
      go_ret
      exact ⟨false, M, rfl, HM3.out, HB03.out, HF3.out, fun h => by cases h⟩
    | false =>
      obtain ⟨p1, p2, p3, p4⟩ := hb rfl
      clear hb
      go_upto_block 0 with (fail)
      go_cut [6] from 46 to 52 (fun v wx => wx = w3)
      case first =>
        go_wp2_with (fail)
        go_loopw [45] (fun j wr => ∃ i : Nat, i ≤ mn ∧ j = .int .i64 i ∧ wr = w3) (fun j _ => mn - (intOf j).toNat)
        case atStart => exact ⟨0, by omega, rfl, rfl⟩
        case round =>
          obtain ⟨i, hi, rfl, rfl⟩ := hrel
          by_cases h1 : i < mn
          · obtain ⟨q, hq, g, o, ha, hg, hc⟩ := HMK.out i h1
            simp only at ha
            subst ha
            have c0 := (HB03.out.cell hg).trans (hc 0 _ rfl)
            obtain ⟨qa, qn, qc⟩ := q
            simp only [SL.v, Nat.add_zero, Nat.mul_one] at c0 hq
            have z1 : (0 : Int) ≤ (i : Int) := by omega
            have z2 : (i : Int) < (mn : Int) := by omega
            clear hc hg
            by_cases hq10 : qn ≤ 10
            · have y3 : ¬ (10 : Int) < (qn : Int) := by omega
              go_wp2_with (fail)
              go_roundw
              case rel => exact ⟨i + 1, by omega, by go_num, by first | rfl | trivial⟩
              case measure => simp [intOf]; omega
            · have y3 : (10 : Int) < (qn : Int) := by omega
              go_wp2_with (fail)
              go_ret
              exact ⟨false, M, rfl, HM3.out, HB03.out, HF3.out, fun h => by cases h⟩
          · obtain rfl : i = mn := by omega
            have y3 : ¬ ((i : Int) < (i : Int)) := by omega
            go_wp2_with (fail)
            go_meet
            case rel => rfl
      case rest =>
        obtain ⟨w4, hw4⟩ : ∃ w4 : World, w4 = wc := ⟨_, rfl⟩
        rw [← hw4]
        have hcut : w4 = w3 := hw4.trans hcut
        subst hcut
        clear hw4
        go_wp2_with (fail)
        go_loopw [56] (fun j wr => ∃ (i : Nat) (Lr : Int), i ≤ sn ∧ j = .int .i64 i ∧ wr.heap[LB]? = some (.cells #[.int .i64 Lr] 3 (0, 0)) ∧ Lr = M - sizeF (subs.take i) ∧ 0 ≤ Lr ∧ Below W0.heap.size W0 wr ∧ HK.Frm (· = LB) w wr) (fun j _ => sn - (intOf j).toNat)
        case atStart => exact ⟨0, M, by omega, rfl, HM3.out, by simp [sizeF], p1, HB03.out, HF3.out⟩
        case round =>
          obtain ⟨i, Lr, hi, rfl, hLr, hLe, hLp, hBr, hFr⟩ := hrel
          by_cases h1 : i < sn
          · obtain ⟨q, hq⟩ : ∃ q, subs[i]? = some q := ⟨_, List.getElem?_eq_getElem (by rw [← HLN.out]; exact h1)⟩
            obtain ⟨g, o, s', ha, hg, hc, hps⟩ := psAt HS.out hq
            subst ha
            have hqe : q = .node q.rule q.o q.subs := by cases q; rfl
            have hokq := okF_get HSUB.out hq
            have hsq := sizeF_more hq
            have hle := sizeF_take hq
            have hcell := fun (k : Nat) (v : Value) (h : (q.vals s')[k]? = some v) => (hBr.cell (p := ⟨g, o + i * 8 + k, none⟩) hg).trans (hc k v h)
            have hcall := fun (ob : Obj) => HE.out i q hq (wr.alloc ob) s' (d - 1) LB Lr hps hokq (hBr.trans (bl_alz hBr)) HLB.out (HK.blk_alloc hLr ob) hLp (by omega) (by omega) (by omega)
            obtain ⟨qr, ⟨qo, qm, ⟨ea, en, ec⟩, ⟨ia, i2, ic⟩, ql, ⟨ka, kn, kc⟩⟩, qs⟩ := q
            obtain ⟨ta, tn, tc⟩ := s'
            have c0 := hcell 0 _ rfl
            have c1 := hcell 1 _ rfl
            have c2 := hcell 2 _ rfl
            have c3 := hcell 3 _ rfl
            have c4 := hcell 4 _ rfl
            have c5 := hcell 5 _ rfl
            have c6 := hcell 6 _ rfl
            have c7 := hcell 7 _ rfl
            simp only [PT.rule, PT.o, PT.subs, PT.arr, SL.v, Nat.add_zero] at c0 c1 c2 c3 c4 c5 c6 c7 hcall
            have y1 : (0 : Int) ≤ (i : Int) := by omega
            have y2 : (i : Int) < (sn : Int) := by omega
            have HC := Lib.hid hcall
            have HSQ := Lib.hid hsq
            have HLR := Lib.hid hLr
            have HLE := Lib.hid hLe
            have HBR := Lib.hid hBr
            have HFR := Lib.hid hFr
            clear hcell hc hg hps hqe hokq hsq hle hcall hLr hLe hBr hFr hq
            go_upto_if 65 with (go_at_call 41; (refine (HC.out _).mono ?_; rintro e w5 ⟨b, L5, rfl, h5a, h5b, h5c, h5d⟩; have H5A := Lib.hid h5a; have H5B := Lib.hid h5b; have H5C := Lib.hid h5c; have H5D := Lib.hid h5d; clear h5a h5b h5c h5d))
            cases b with
            | true =>
              go_wp2_with (fail)
              go_roundw
              case rel =>
                refine ⟨i + 1, L5, by omega, by go_num, H5A.out, ?_, (H5D.out rfl).2, H5B.out, (HFR.out.alloc _).trans H5C.out⟩
                have e1 := (H5D.out rfl).1
                have e2 := HLE.out
                have e3 := HSQ.out
                omega
              case measure => simp [intOf]; omega
            | false =>
              go_wp2_with (fail)
              go_ret
              exact ⟨false, L5, rfl, H5A.out, H5B.out, (HFR.out.alloc _).trans H5C.out, fun h => by cases h⟩
          · obtain rfl : i = sn := by omega
            have y3 : ¬ ((i : Int) < (i : Int)) := by omega
            have HLR := Lib.hid hLr
            have HLE := Lib.hid hLe
            have HBR := Lib.hid hBr
            have HFR := Lib.hid hFr
            clear hLr hLe hBr hFr
            go_wp2_with (fail)
            go_ret
            refine ⟨true, Lr, rfl, HLR.out, HBR.out, HFR.out, fun _ => ⟨?_, hLp⟩⟩
            have h1 := HLE.out
            have h2 := HLN.out
            rw [List.take_of_length_le (by omega)] at h1
            have h3 := HSZ.out
            have h4 := HM.out
            omega
mutual
theorem small_all (W0 : World) : ∀ t : PT, SmallOk W0 t
  | .node r o s => small_of W0 _ (small_allF W0 s)
theorem small_allF (W0 : World) : ∀ (ts : List PT) (i : Nat) q, ts[i]? = some q → SmallOk W0 q
  | [], i, q, h => by simp at h
  | t :: ts, 0, q, h => by simp at h; subst h; exact small_all W0 t
  | t :: ts, i + 1, q, h => small_allF W0 ts i q (by simpa using h)
end
set_option maxRecDepth 100000 in
set_option maxHeartbeats 2000000 in
/-- Small. -/
theorem small_call (w : World) (t : PT) (sv : SL) (hs : IsPs w.heap.size w sv t.subs) (hok : okT w t) :
    Calls Try.prog 15 #[.agg (t.arr sv)] w fun e w' => ∃ b, e = .returned (.bool b) ∧ Below w.heap.size w w' ∧ (b = true → sizeT t ≤ 320) := by
  have hall := fun (W : World) (LB : Nat) (hB : Below w.heap.size w W) (hLB : w.heap.size ≤ LB) (hc : W.heap[LB]? = some (.cells #[.int .i64 320] 3 (0, 0))) => small_all w t W sv 42 LB 320 hs hok hB hLB hc (by omega) (by omega) (by omega) (by omega)
  obtain ⟨t0, ht0⟩ : ∃ t0, t0 = t := ⟨_, rfl⟩
  have hsz : sizeT t = sizeT t0 := by rw [ht0]
  rw [hsz]
  have hall2 := hall
  unfold SmallR at hall2
  simp only [hsz] at hall2
  obtain ⟨rule, ⟨op, name, ⟨aa, an, ac⟩, ⟨fa, fn, fc⟩, label, ⟨ma, mn, mc⟩⟩, subs⟩ := t
  obtain ⟨sa, sn, sc⟩ := sv
  simp only [PT.arr, PT.rule, PT.o, PT.subs, SL.v] at hall2 ⊢
  have HA := Lib.hid hall2
  clear hall hall2 hs hok ht0 hsz
  go_enter Try.func15, Try.ntmps15
  go_wp2_with (go_at_call 41; (refine (HA.out _ _ (bl_al (bl_al (Below.refl _ _))) (by simp) (blk_new1 _ _ _)).mono ?_; rintro e w5 ⟨b, L5, rfl, h5a, h5b, h5c, h5d⟩))
  go_ret
  exact ⟨b, rfl, h5b, fun h => by have := h5d h; omega⟩
end Go.Proofs.Ytfebcpmbkljaoaa
namespace Go.Proofs.Ytfebcpmbkljaoaa
open Go.RowKit Go.HR
set_option linter.unusedVariables false
set_option linter.unusedSimpArgs false
set_option linter.unusedSectionVars false
mutual
def rightT : Nat → PT → Bool
  | d, .node r _ s => decide (d ≤ 40) && decide (s.length ≤ 8) && !(decide (r = ⟨#[63]⟩) && decide (0 < s.length)) && rightF (d + 1) s
def rightF : Nat → List PT → Bool
  | _, [] => true
  | d, t :: ts => rightT d t && rightF d ts
end
theorem rule_hole (r : ByteArray) : (r.toList == [63]) = decide (r = ⟨#[63]⟩) := by
  by_cases h : r = ⟨#[63]⟩
  · subst h
    rw [ByteArray.toList_eq]
    simp
  · simp only [h, decide_false]
    exact beq_eq_false_iff_ne.2 (not_hole h)
mutual
theorem right_steps (pl : List Nat) (w : Nat) : ∀ t : PT, (stepsT pl w t).all okD = rightT pl.length t
  | .node r o s => by
    simp only [stepsT, rightT, List.all_cons, right_stepsF pl _ 0 s]
    simp only [okD, PT.subs, PT.rule, Bool.and_assoc]
    rfl
theorem right_stepsF (pl : List Nat) (w : Nat) (i : Nat) : ∀ ts : List PT, (stepsF pl w i ts).all okD = rightF (pl.length + 1) ts
  | [] => rfl
  | t :: ts => by
    simp only [stepsF, rightF, List.all_append, right_steps (pl ++ [i]) w t, right_stepsF pl w (i + 1) ts, List.length_append, List.length_cons, List.length_nil, Nat.zero_add]
end
def RetBo (w : World) (b : Bool) (e : Ending) (w' : World) : Prop := e = .returned (.bool b) ∧ Below w.heap.size w w'
def RightOk (t : PT) : Prop := ∀ (w : World) (sv : SL) (d : Nat), IsPs w.heap.size w sv t.subs → sizeT t ≤ 10000 → d ≤ 41 → Calls Try.prog 51 #[.agg (t.arr sv), .int .i64 d] w (RetBo w (rightT d t))
theorem rightF_take {ts : List PT} {i : Nat} {d : Nat} {q : PT} (h : ts[i]? = some q) : rightF d (ts.take (i + 1)) = (rightF d (ts.take i) && rightT d q) := by
  induction ts generalizing i with
  | nil => simp at h
  | cons t ts ih =>
    cases i with
    | zero => simp at h; subst h; simp [rightF]
    | succ i => simp at h; simp only [List.take_succ_cons, rightF, ih h, Bool.and_assoc]
theorem rightF_stop {ts : List PT} {i : Nat} {d : Nat} {q : PT} (h : ts[i]? = some q) (hq : rightT d q = false) : rightF d ts = false := by
  induction ts generalizing i with
  | nil => simp at h
  | cons t ts ih =>
    cases i with
    | zero => simp at h; subst h; simp [rightF, hq]
    | succ i => simp at h; simp [rightF, ih h]
set_option maxRecDepth 100000 in
set_option maxHeartbeats 8000000 in
theorem right_of (t : PT) (he : ∀ (i : Nat) q, t.subs[i]? = some q → RightOk q) : RightOk t := by
  intro w sv d hs hz hd
  have hln := hs.len
  have hlz : t.subs.length ≤ 10000 := subs_le t hz
  obtain ⟨rule, ⟨op, name, ⟨aa, an, ac⟩, ⟨fa, fn, fc⟩, label, ⟨ma, mn, mc⟩⟩, subs⟩ := t
  obtain ⟨sa, sn, sc⟩ := sv
  simp only [PT.subs] at hs he hln hlz
  obtain ⟨R, hR⟩ : ∃ R, R = rightT d (.node rule ⟨op, name, ⟨aa, an, ac⟩, ⟨fa, fn, fc⟩, label, ⟨ma, mn, mc⟩⟩ subs) := ⟨_, rfl⟩
  rw [← hR]
  simp only [rightT] at hR
  simp only [sizeT] at hz
  have hze : ∀ (i : Nat) q, subs[i]? = some q → sizeT q ≤ 10000 := fun i q hq => by have := sizeF_mem hq; omega
  rw [← hln] at hlz
  simp only [PT.arr, PT.rule, PT.o, PT.subs, SL.v]
  have HR := Lib.hid hR
  have HS := Lib.hid hs
  have HE := Lib.hid he
  have HLN := Lib.hid hln
  have HZE := Lib.hid hze
  clear hR hs he hln hze hz
  by_cases q1 : d ≤ 40
  · have y1 : ¬ (40 : Int) < (d : Int) := by omega
    by_cases q2 : sn ≤ 8
    · have y2 : ¬ (8 : Int) < (sn : Int) := by omega
      obtain ⟨bh, hbh⟩ : ∃ bh : Bool, bh = (rule.toList == [63]) := ⟨_, rfl⟩
      have e1 : (rule.toList == [63]) = bh := hbh.symm
      have hbr : bh = decide (rule = ⟨#[63]⟩) := by rw [hbh]; exact rule_hole rule
      have HBR := Lib.hid hbr
      clear hbh hbr
      by_cases q3 : bh = true ∧ 0 < sn
      · obtain ⟨rfl, q3⟩ := q3
        have y3 : (0 : Int) < (sn : Int) := by omega
        go_enter Try.func51, Try.ntmps51
        go_wp2_with (fail)
        go_ret
        refine ⟨?_, bl_al (Below.refl _ _)⟩
        rw [HR.out, ← HBR.out, ← HLN.out]
        simp [q3]
      · have hq3 : (bh && decide (0 < sn)) = false := by
          cases bh with
          | false => rfl
          | true => simp at q3; simp [q3]
        have HQ3 := Lib.hid hq3
        have hq3' : bh = true → sn = 0 := fun h => by subst h; simpa using hq3
        go_enter Try.func51, Try.ntmps51
        go_upto_region 1 with (fail)
        obtain ⟨w1, hw1⟩ : ∃ w1, w1 = w.alloc (.cells #[.string rule, .int .u8 op, .string name, .slice aa an ac, .slice fa fn fc, .int .i64 label, .slice sa sn sc, .slice ma mn mc] 30) := ⟨_, rfl⟩
        rw [← hw1]
        obtain ⟨G, hG⟩ : ∃ G, G = w.heap.size := ⟨_, rfl⟩
        rw [← hG]
        have hB1 : Below w.heap.size w w1 := by rw [hw1]; exact bl_al (Below.refl _ _)
        have hX1 : w1.heap[G]? = some (.cells #[.string rule, .int .u8 op, .string name, .slice aa an ac, .slice fa fn fc, .int .i64 label, .slice sa sn sc, .slice ma mn mc] 30 (0, 0)) := by rw [hw1, hG]; exact HK.blk_new _ _
        have HB1 := Lib.hid hB1
        have HX1 := Lib.hid hX1
        have HS1 := Lib.hid (HS.out.up hB1)
        clear hB1 hw1 hG hq3
        go_cut [24] from 6 to 24 (fun v wx => v = .bool false ∧ wx = w1)
        case first =>
          have x0 : w1.cell? ⟨G, 0, none⟩ = some (.string rule) := HK.blk_cell hX1 0
          have x6 : w1.cell? ⟨G, 6, none⟩ = some (.slice sa sn sc) := HK.blk_cell hX1 6
          clear hX1
          cases bh with
          | false =>
            go_wp2_with (fail)
            go_meet
            case rel => exact ⟨rfl, rfl⟩
          | true =>
            obtain rfl := hq3' rfl
            clear hq3'
            go_wp2_with (fail)
            go_meet
            case rel => exact ⟨rfl, rfl⟩
        case rest =>
          obtain ⟨rfl, hwc⟩ := hcut
          obtain ⟨w2, hw2⟩ : ∃ w2 : World, w2 = wc := ⟨_, rfl⟩
          rw [← hw2]
          have h12 : w2 = w1 := hw2.trans hwc
          subst h12
          clear hw2 hwc hX1 hq3' q3 e1
          have HY2 := Lib.hid y2
          go_wp2_with (fail)
          go_loopw [5] (fun j wr => ∃ i : Nat, i ≤ sn ∧ j = .int .i64 i ∧ rightF (d + 1) (subs.take i) = true ∧ Below w2.heap.size w2 wr) (fun j _ => sn - (intOf j).toNat)
          case atStart => exact ⟨0, by omega, rfl, rfl, Below.refl _ _⟩
          case round =>
            obtain ⟨i, hi, rfl, hrt, hBr⟩ := hrel
            have hXr := (hBr.block _ (HK.blk_lt HX1.out)).trans HX1.out
            have x6 : wr.cell? ⟨G, 6, none⟩ = some (.slice sa sn sc) := HK.blk_cell hXr 6
            clear hXr
            by_cases h1 : i < sn
            · obtain ⟨q, hq⟩ : ∃ q, subs[i]? = some q := ⟨_, List.getElem?_eq_getElem (by rw [← HLN.out]; exact h1)⟩
              obtain ⟨g, o, s', ha, hg, hc, hps⟩ := psAt HS1.out hq
              subst ha
              have hcell := fun (k : Nat) (v : Value) (h : (q.vals s')[k]? = some v) => cell_then (hc k v h) hBr
              have hcall := HE.out i q hq wr s' (d + 1) (hps.up hBr) (HZE.out i q hq) (by omega)
              have htk := rightF_take (d := d + 1) hq
              have hst := rightF_stop (d := d + 1) hq
              obtain ⟨rq, hrq⟩ : ∃ rq, rq = rightT (d + 1) q := ⟨_, rfl⟩
              rw [← hrq] at hcall htk hst
              obtain ⟨qr, ⟨qo, qm, ⟨ea, en, ec⟩, ⟨ia, i2, ic⟩, ql, ⟨ka, kn, kc⟩⟩, qs⟩ := q
              obtain ⟨ta, tn, tc⟩ := s'
              have c0 := hcell 0 _ rfl
              have c1 := hcell 1 _ rfl
              have c2 := hcell 2 _ rfl
              have c3 := hcell 3 _ rfl
              have c4 := hcell 4 _ rfl
              have c5 := hcell 5 _ rfl
              have c6 := hcell 6 _ rfl
              have c7 := hcell 7 _ rfl
              simp only [PT.rule, PT.o, PT.subs, PT.arr, SL.v, Nat.add_zero, Int.natCast_add, Int.cast_ofNat_Int] at c0 c1 c2 c3 c4 c5 c6 c7 hcall
              have z1 : (0 : Int) ≤ (i : Int) := by omega
              have z2 : (i : Int) < (sn : Int) := by omega
              have HC := Lib.hid hcall
              have HTK := Lib.hid htk
              have HST := Lib.hid hst
              have HRT := Lib.hid hrt
              have HBR2 := Lib.hid hBr
              clear hcell hc hg hps hcall hBr hq hrt htk hst hrq
              go_upto_if 40 with (go_at_call 51; (refine HC.out.mono ?_; rintro e w5 ⟨rfl, h5⟩; have H5 := Lib.hid h5; clear h5))
              cases rq with
              | true =>
                go_wp2_with (fail)
                go_roundw
                case rel => exact ⟨i + 1, by omega, by go_num, by rw [HTK.out, HRT.out]; rfl, below_then HBR2.out H5.out⟩
                case measure => simp [intOf]; omega
              | false =>
                go_wp2_with (fail)
                go_ret
                refine ⟨?_, below_then HB1.out (below_then HBR2.out H5.out)⟩
                rw [HR.out, (by first | exact HST.out rfl | exact HST.out trivial : rightF (d + 1) subs = false)]
                simp
            · obtain rfl : i = sn := by omega
              have y3 : ¬ ((i : Int) < (i : Int)) := by omega
              have HRT := Lib.hid hrt
              have HBR2 := Lib.hid hBr
              clear hrt hBr
              go_wp2_with (fail)
              go_ret
              refine ⟨?_, below_then HB1.out HBR2.out⟩
              have h2 := HRT.out
              rw [List.take_of_length_le (by rw [HLN.out]; exact Nat.le_refl _)] at h2
              have h3 := HQ3.out
              rw [HBR.out, HLN.out] at h3
              rw [HR.out, h2, h3, ← HLN.out]
              simp [q1, q2]
    · have y2 : (8 : Int) < (sn : Int) := by omega
      go_enter Try.func51, Try.ntmps51
      go_wp2_with (fail)
      go_ret
      refine ⟨?_, bl_al (Below.refl _ _)⟩
      rw [HR.out, ← HLN.out]
      simp [q2]
  · have y1 : (40 : Int) < (d : Int) := by omega
    go_enter Try.func51, Try.ntmps51
    go_wp2_with (fail)
    go_ret
    refine ⟨?_, bl_al (Below.refl _ _)⟩
    rw [HR.out]
    simp [q1]
mutual
theorem right_all : ∀ t : PT, RightOk t
  | .node r o s => right_of _ (right_allF s)
theorem right_allF : ∀ (ts : List PT) (i : Nat) q, ts[i]? = some q → RightOk q
  | [], i, q, h => by simp at h
  | t :: ts, 0, q, h => by simp at h; subst h; exact right_all t
  | t :: ts, i + 1, q, h => right_allF ts i q (by simpa using h)
end
/-! Count. -/
def cnt (t : PT) : Nat := if sizeT t ≤ 300 then sizeT t else 301
def CountOk (t : PT) : Prop := ∀ (w : World) (sv : SL), IsPs w.heap.size w sv t.subs → sizeT t ≤ 10000 → Calls Try.prog 52 #[.agg (t.arr sv)] w fun e w' => e = .returned (.int .i64 (cnt t : Nat)) ∧ Below w.heap.size w w'
set_option maxRecDepth 100000 in
set_option maxHeartbeats 8000000 in
theorem count_of (t : PT) (he : ∀ (i : Nat) q, t.subs[i]? = some q → CountOk q) : CountOk t := by
  intro w sv hs hz
  have hln := hs.len
  have hlz : t.subs.length ≤ 10000 := subs_le t hz
  have hze : ∀ (i : Nat) q, t.subs[i]? = some q → sizeT q ≤ 10000 := fun i q hq => by have := sizeF_mem hq; have := sizeT_eq t; omega
  have hsz := sizeT_eq t
  obtain ⟨C, hC⟩ : ∃ C, C = cnt t := ⟨_, rfl⟩
  rw [← hC]
  unfold cnt at hC
  have hC1 : 1 + sizeF t.subs ≤ 300 → C = 1 + sizeF t.subs := fun h => by rw [hC, if_pos (by omega)]; exact hsz
  have hC2 : ¬ 1 + sizeF t.subs ≤ 300 → C = 301 := fun h => by rw [hC, if_neg (by omega)]
  clear hC
  obtain ⟨rule, ⟨op, name, ⟨aa, an, ac⟩, ⟨fa, fn, fc⟩, label, ⟨ma, mn, mc⟩⟩, subs⟩ := t
  obtain ⟨sa, sn, sc⟩ := sv
  simp only [PT.subs] at hs he hln hlz hC1 hC2 hze
  rw [← hln] at hlz
  simp only [PT.arr, PT.rule, PT.o, PT.subs, SL.v]
  have HCC := Lib.hid (And.intro hC1 hC2)
  have HE := Lib.hid he
  have HLN := Lib.hid hln
  have HZE := Lib.hid hze
  obtain ⟨w1, hw1⟩ : ∃ w1, w1 = w.alloc (.cells #[.string rule, .int .u8 op, .string name, .slice aa an ac, .slice fa fn fc, .int .i64 label, .slice sa sn sc, .slice ma mn mc] 30) := ⟨_, rfl⟩
  obtain ⟨G, hG⟩ : ∃ G, G = w.heap.size := ⟨_, rfl⟩
  have hB1 : Below w.heap.size w w1 := by rw [hw1]; exact bl_al (Below.refl _ _)
  have hX1 : w1.heap[G]? = some (.cells #[.string rule, .int .u8 op, .string name, .slice aa an ac, .slice fa fn fc, .int .i64 label, .slice sa sn sc, .slice ma mn mc] 30 (0, 0)) := by rw [hw1, hG]; exact HK.blk_new _ _
  have HB1 := Lib.hid hB1
  have HX1 := Lib.hid hX1
  have HS1 := Lib.hid (hs.up hB1)
  have HW1 := Lib.hid hw1
  have HG := Lib.hid hG
  clear hC1 hC2 hs he hln hze hz hsz hB1 hX1 hw1 hG
  go_enter Try.func52, Try.ntmps52
  go_upto_block 0 with (fail)
  rw [← HW1.out, ← HG.out]
  go_wp2_with (fail)
  go_loopw [3, 4] (fun n j wr => ∃ (i m : Nat), i ≤ sn ∧ j = .int .i64 i ∧ n = .int .i64 m ∧ m ≤ 300 ∧ m = 1 + sizeF (subs.take i) ∧ Below w1.heap.size w1 wr) (fun _ j _ => sn - (intOf j).toNat)
  case atStart => exact ⟨0, 1, by omega, rfl, rfl, by omega, by simp [sizeF], Below.refl _ _⟩
  case round =>
    obtain ⟨i, m, hi, rfl, rfl, hm, hme, hBr⟩ := hrel
    have hXr := (hBr.block _ (HK.blk_lt HX1.out)).trans HX1.out
    have x6 : wr.cell? ⟨G, 6, none⟩ = some (.slice sa sn sc) := HK.blk_cell hXr 6
    clear hXr
    by_cases h1 : i < sn
    · obtain ⟨q, hq⟩ : ∃ q, subs[i]? = some q := ⟨_, List.getElem?_eq_getElem (by rw [← HLN.out]; exact h1)⟩
      obtain ⟨g, o, s', ha, hg, hc, hps⟩ := psAt HS1.out hq
      subst ha
      have hcell := fun (k : Nat) (v : Value) (h : (q.vals s')[k]? = some v) => cell_then (hc k v h) hBr
      have hcall := HE.out i q hq wr s' (hps.up hBr) (HZE.out i q hq)
      have htk := sizeF_more hq
      have hle := sizeF_take hq
      obtain ⟨c, hcn⟩ : ∃ c, c = cnt q := ⟨_, rfl⟩
      have hc301 : c ≤ 301 := by rw [hcn]; unfold cnt; split <;> omega
      rw [← hcn] at hcall
      unfold cnt at hcn
      obtain ⟨sq, hsq⟩ : ∃ sq, sq = sizeT q := ⟨_, rfl⟩
      rw [← hsq] at hcn htk hle
      obtain ⟨qr, ⟨qo, qm, ⟨ea, en, ec⟩, ⟨ia, i2, ic⟩, ql, ⟨ka, kn, kc⟩⟩, qs⟩ := q
      obtain ⟨ta, tn, tc⟩ := s'
      have c0 := hcell 0 _ rfl
      have c1 := hcell 1 _ rfl
      have c2 := hcell 2 _ rfl
      have c3 := hcell 3 _ rfl
      have c4 := hcell 4 _ rfl
      have c5 := hcell 5 _ rfl
      have c6 := hcell 6 _ rfl
      have c7 := hcell 7 _ rfl
      simp only [PT.rule, PT.o, PT.subs, PT.arr, SL.v, Nat.add_zero] at c0 c1 c2 c3 c4 c5 c6 c7 hcall
      have z1 : (0 : Int) ≤ (i : Int) := by omega
      have z2 : (i : Int) < (sn : Int) := by omega
      have HC := Lib.hid hcall
      have HTK := Lib.hid htk
      have HLE := Lib.hid hle
      have HCN := Lib.hid hcn
      have HME := Lib.hid hme
      have HBR2 := Lib.hid hBr
      obtain ⟨mc2, hmc⟩ : ∃ mc2, mc2 = m + c := ⟨_, rfl⟩
      have z3 : (m : Int) + (c : Int) = (mc2 : Int) := by omega
      have z4 : mc2 ≤ 601 := by omega
      have HMC := Lib.hid hmc
      clear hcell hc hg hps hcall hBr hq htk hle hcn hme hsq hmc
      by_cases h300 : mc2 ≤ 300
      · have z5 : ¬ (300 : Int) < (mc2 : Int) := by omega
        go_wp2_with (go_at_call 52; (refine HC.out.mono ?_; rintro e w5 ⟨rfl, h5⟩; have H5 := Lib.hid h5; clear h5))
        go_roundw
        case rel =>
          refine ⟨i + 1, mc2, by omega, by go_num, rfl, h300, ?_, below_then HBR2.out H5.out⟩
          have e1 := HMC.out
          have e2 := HTK.out
          have e3 := HCN.out
          have e4 := HME.out
          split at e3 <;> omega
        case measure => simp [intOf]; omega
      · have z5 : (300 : Int) < (mc2 : Int) := by omega
        go_wp2_with (go_at_call 52; (refine HC.out.mono ?_; rintro e w5 ⟨rfl, h5⟩; have H5 := Lib.hid h5; clear h5))
        go_ret
        refine ⟨?_, below_then HB1.out (below_then HBR2.out H5.out)⟩
        have e1 := HMC.out
        have e2 := HTK.out
        have e3 := HCN.out
        have e4 := HME.out
        have e5 := HLE.out
        have e6 := HCC.out.2 (by split at e3 <;> omega)
        rw [e6]
        rfl
    · obtain rfl : i = sn := by omega
      have y3 : ¬ ((i : Int) < (i : Int)) := by omega
      have HME := Lib.hid hme
      have HBR2 := Lib.hid hBr
      clear hme hBr
      go_wp2_with (fail)
      go_ret
      refine ⟨?_, below_then HB1.out HBR2.out⟩
      have h2 := HME.out
      rw [List.take_of_length_le (by rw [HLN.out]; exact Nat.le_refl _)] at h2
      have h3 := HCC.out.1 (by omega)
      have h4 : m = C := by omega
      rw [h4]
      rfl
mutual
theorem count_all : ∀ t : PT, CountOk t
  | .node r o s => count_of _ (count_allF s)
theorem count_allF : ∀ (ts : List PT) (i : Nat) q, ts[i]? = some q → CountOk q
  | [], i, q, h => by simp at h
  | t :: ts, 0, q, h => by simp at h; subst h; exact count_all t
  | t :: ts, i + 1, q, h => count_allF ts i q (by simpa using h)
end
set_option maxRecDepth 100000 in
set_option maxHeartbeats 4000000 in
theorem valid_call (w : World) (t : PT) (sv : SL) (hs : IsPs w.heap.size w sv t.subs) (hz : sizeT t ≤ 10000) : Calls Try.prog 34 #[.agg (t.arr sv)] w (RetBo w (measT t)) := by
  have hr := fun (W : World) (hB : Below w.heap.size w W) => right_all t W sv 0 (hs.up hB) hz (by omega)
  have hc := fun (W : World) (hB : Below w.heap.size w W) => count_all t W sv (hs.up hB) hz
  obtain ⟨b, hb⟩ : ∃ b, b = rightT 0 t := ⟨_, rfl⟩
  obtain ⟨c, hcn⟩ : ∃ c, c = cnt t := ⟨_, rfl⟩
  have hm : measT t = (b && decide (c ≤ 300)) := by
    unfold measT
    rw [right_steps [] whole t, hb, hcn, Bool.and_comm]
    congr 1
    unfold cnt
    by_cases h : sizeT t ≤ 300
    · simp [h]
    · simp [h]
  have hc3 : c ≤ 301 := by rw [hcn]; unfold cnt; split <;> omega
  rw [hm]
  rw [← hb] at hr
  rw [← hcn] at hc
  clear hm hb hcn
  obtain ⟨rule, ⟨op, name, ⟨aa, an, ac⟩, ⟨fa, fn, fc⟩, label, ⟨ma, mn, mc⟩⟩, subs⟩ := t
  obtain ⟨sa, sn, sc⟩ := sv
  simp only [PT.arr, PT.rule, PT.o, PT.subs, SL.v] at hr hc ⊢
  have HRR := Lib.hid hr
  have HC := Lib.hid hc
  clear hr hc hs hz
  cases b with
  | false =>
    go_enter Try.func34, Try.ntmps34
    go_wp2_with (go_at_call 51; (refine (HRR.out _ (bl_al (Below.refl _ _))).mono ?_; rintro e w5 ⟨rfl, h5⟩; have H5 := Lib.hid (below_then (bl_al (Below.refl _ _)) h5); clear h5))
    go_ret
    exact ⟨rfl, H5.out⟩
  | true =>
    go_enter Try.func34, Try.ntmps34
    have hx : (w.alloc (.cells #[.string rule, .int .u8 op, .string name, .slice aa an ac, .slice fa fn fc, .int .i64 label, .slice sa sn sc, .slice ma mn mc] 30)).heap[w.heap.size]? = some (.cells #[.string rule, .int .u8 op, .string name, .slice aa an ac, .slice fa fn fc, .int .i64 label, .slice sa sn sc, .slice ma mn mc] 30 (0, 0)) := HK.blk_new _ _
    have HX := Lib.hid hx
    clear hx
    go_wp2_with (first
      | (go_at_call 51; (refine (HRR.out _ (bl_al (Below.refl _ _))).mono ?_; rintro e w5 ⟨rfl, h5⟩
                         have hx5 := (h5.block _ (HK.blk_lt HX.out)).trans HX.out
                         have x0 := HK.blk_cell hx5 0
                         have x1 := HK.blk_cell hx5 1
                         have x2 := HK.blk_cell hx5 2
                         have x3 := HK.blk_cell hx5 3
                         have x4 := HK.blk_cell hx5 4
                         have x5 := HK.blk_cell hx5 5
                         have x6 := HK.blk_cell hx5 6
                         have x7 := HK.blk_cell hx5 7
                         have H5 := Lib.hid (below_then (bl_al (Below.refl w.heap.size w)) h5)
                         clear h5 hx5))
      | (go_at_call 52; (refine (HC.out _ H5.out).mono ?_; rintro e w6 ⟨rfl, h6⟩; have H6 := Lib.hid (below_then H5.out h6); clear h6)))
    go_ret
    exact ⟨by simp; omega, H6.out⟩
end Go.Proofs.Ytfebcpmbkljaoaa
namespace Go.Proofs.Ytfebcpmbkljaoaa
open Go.RowKit Go.HR
set_option linter.unusedVariables false
set_option linter.unusedSimpArgs false
set_option linter.unusedSectionVars false
set_option maxRecDepth 100000 in
set_option maxHeartbeats 8000000 in
/-- Is a place among places? -/
theorem has_call (w : World) (s t : SL) (ws : List (List Int)) (is : List Int) (hs : IsW w s ws) (ht : IsI w t is) (hl : ws.length ≤ 20000) (hu : ∀ u ∈ ws, u.length ≤ 20000) (hl2 : is.length ≤ 20000) : Calls Try.prog 44 #[s.v, t.v] w (RetD w (.bool (decide (is ∈ ws)))) := by
  obtain ⟨R, hR⟩ : ∃ R, R = decide (is ∈ ws) := ⟨_, rfl⟩
  rw [← hR]
  have HR := Lib.hid hR
  clear hR
  obtain ⟨a, n, c⟩ := s
  obtain ⟨b, m, e⟩ := t
  obtain ⟨hn, hs⟩ := hs
  obtain ⟨hm, he, ht⟩ := ht
  simp only at hn hm hs ht he
  simp only [SL.v]
  rw [← hn] at hl
  rw [← hm] at hl2
  have HN := Lib.hid hn
  have HM := Lib.hid hm
  have HS := Lib.hid hs
  have HT := Lib.hid ht
  have HU := Lib.hid hu
  clear hn hm hs ht hu
  go_enter Try.func44, Try.ntmps44
  go_wp2_with (fail)
  go_loopw [5] (fun i wr => ∃ k d : Nat, k ≤ n ∧ i = .int .i64 k ∧ wr = w.drewN d ∧ is ∉ ws.take k) (fun i _ => n - (intOf i).toNat)
  case atStart => exact ⟨0, 0, by omega, rfl, rfl, by simp⟩
  case round =>
    obtain ⟨k, d, hk, rfl, rfl, hno⟩ := hrel
    have HNO := Lib.hid hno
    clear hno
    obtain ⟨w2, hw2⟩ : ∃ w2, w2 = w.drewN d := ⟨_, rfl⟩
    rw [← hw2]
    have HW2 := Lib.hid hw2
    by_cases h1 : k < n
    · obtain ⟨u, hu⟩ : ∃ u, ws[k]? = some u := ⟨_, List.getElem?_eq_getElem (by rw [← HN.out]; omega)⟩
      obtain ⟨g, o, rfl, sl, hc1⟩ := HS.out.resolve_left (fun e => by rw [e] at hu; simp at hu)
      obtain ⟨hcu, hui⟩ := hc1 k u hu
      have hul := HU.out u (List.mem_of_getElem? hu)
      obtain ⟨⟨ua, un, uc⟩, hsl⟩ : ∃ q : SL, q = sl k := ⟨_, rfl⟩
      rw [← hsl] at hcu hui
      obtain ⟨hun, huc, huu⟩ := hui
      simp only [SL.v] at hcu hun huu huc
      rw [← hun] at hul
      have cu : ∀ q, (w2.drewN q).cell? ⟨g, o + k, none⟩ = some (.slice ua un uc) := fun q => by rw [hw2]; exact hcu
      have cu0 : w2.cell? ⟨g, o + k, none⟩ = some (.slice ua un uc) := by rw [hw2]; exact hcu
      have b1 : (0 : Int) ≤ (k : Int) := by omega
      have b2 : (k : Int) < (n : Int) := by omega
      obtain ⟨bl, hbl⟩ : ∃ bl : Bool, bl = decide (un = m) := ⟨_, rfl⟩
      have e1 : decide ((un : Int) = (m : Int)) = bl := by rw [hbl]; exact decide_eq_decide.2 Int.ofNat_inj
      have e2 : ((un : Int) == (m : Int)) = bl := by rw [← e1]; rfl
      have HBL := Lib.hid hbl
      have HUN := Lib.hid hun
      have HUU := Lib.hid huu
      have htk : ws.take (k + 1) = ws.take k ++ [u] := by rw [List.take_add_one, hu]; rfl
      have HTK := Lib.hid htk
      have hmem : u ∈ ws := List.mem_of_getElem? hu
      clear hc1 hu hcu hsl hun huu hw2 hbl htk
      go_upto_block 2 with (fail)
      go_cut [6] from 22 to 42 (fun v wx => ∃ dd, wx = w2.drewN dd ∧ v = .bool (decide (u = is)))
      case first =>
        clear cu0
        go_wp2_with (fail)
        go_loopw [6, 7] (fun sm j wr => ∃ (q d2 : Nat) (b : Bool), q ≤ m ∧ j = .int .i64 q ∧ sm = .bool b ∧ wr = w2.drewN d2 ∧ (b = true → un = m ∧ u.take q = is.take q) ∧ (b = false → u ≠ is)) (fun _ j _ => m - (intOf j).toNat)
        case atStart =>
          refine ⟨0, 0, bl, by omega, rfl, rfl, rfl, fun h => ⟨by rw [h] at HBL; simpa using HBL.out.symm, rfl⟩, fun h hui => ?_⟩
          have h3 := HBL.out
          rw [h] at h3
          have h4 : un ≠ m := by simpa using h3.symm
          exact h4 (by rw [HUN.out, HM.out, hui])
        case round =>
          obtain ⟨q, d2, b, hq, rfl, rfl, rfl, hbt, hbf⟩ := hrel
          obtain ⟨w3, hw3⟩ : ∃ w3, w3 = w2.drewN d2 := ⟨_, rfl⟩
          rw [← hw3]
          have HW3 := Lib.hid hw3
          have HBT := Lib.hid hbt
          have HBF := Lib.hid hbf
          clear hbt hbf
          by_cases h2 : q < m
          · have y1 : (q : Int) < (m : Int) := by omega
            cases b with
            | false =>
              have hd : decide (u = is) = false := decide_eq_false (HBF.out rfl)
              have HD := Lib.hid hd
              clear hw3 hd
              go_wp2_with (fail)
              go_meet
              case rel => exact ⟨d2, HW3.out, by rw [HD.out]⟩
            | true =>
              obtain ⟨hum, htq⟩ := HBT.out rfl
              subst hum
              obtain ⟨x, hx⟩ : ∃ x, u[q]? = some x := ⟨_, List.getElem?_eq_getElem (by rw [← HUN.out]; omega)⟩
              obtain ⟨y, hy⟩ : ∃ y, is[q]? = some y := ⟨_, List.getElem?_eq_getElem (by rw [← HM.out]; omega)⟩
              obtain ⟨g3, o3, rfl, hc3⟩ := HUU.out.resolve_left (fun e => by rw [e] at hx; simp at hx)
              obtain ⟨g4, o4, rfl, hc4⟩ := HT.out.resolve_left (fun e => by rw [e] at hy; simp at hy)
              have c1 : ∀ q2, (w3.drewN q2).cell? ⟨g3, o3 + q, none⟩ = some (.int .i64 x) := fun q2 => by rw [hw3, HW2.out]; exact hc3 q x hx
              have c2 : ∀ q2, (w3.drewN q2).cell? ⟨g4, o4 + q, none⟩ = some (.int .i64 y) := fun q2 => by rw [hw3, HW2.out]; exact hc4 q y hy
              have c5 : ∀ q2, (w3.drewN q2).cell? ⟨g, o + k, none⟩ = some (.slice (some ⟨g3, o3, none⟩) un uc) := fun q2 => by rw [hw3]; exact cu (d2 + q2) |>.trans rfl
              have c6 := c5 0
              have c7 := c1 0
              have c8 := c2 0
              have h3 := take_more htq hx hy
              have hne : x ≠ y → u ≠ is := fun e e2 => by subst e2; rw [hx] at hy; exact e (Option.some.inj hy)
              obtain ⟨bx, hbx⟩ : ∃ bx : Bool, bx = decide (x = y) := ⟨_, rfl⟩
              have ex1 : decide (x = y) = bx := hbx.symm
              have ex2 : (x == y) = bx := by rw [hbx]; rfl
              have HBX := Lib.hid hbx
              have H3 := Lib.hid h3
              have HNE := Lib.hid hne
              have y2 : (0 : Int) ≤ (q : Int) := by omega
              clear htq hx hy hc3 hc4 h3 hne hbx hw3
              go_wp2_with (fail)
              go_quiet (fail)
              go_wp2_with (fail)
              go_roundw
              case rel =>
                refine ⟨q + 1, d2 + nq, bx, by omega, by go_num, rfl, by rw [HW3.out]; simp, fun h => ⟨by trivial, H3.out.2 ?_⟩, fun h => HNE.out ?_⟩
                · have h5 := HBX.out
                  rw [h] at h5
                  simpa using h5.symm
                · have h5 := HBX.out
                  rw [h] at h5
                  simpa using h5.symm
              case measure => simp [intOf]; omega
          · have hqm : q = m := by omega
            have hdd : decide (u = is) = b := by
              cases b with
              | true =>
                obtain ⟨h4, h5⟩ := HBT.out rfl
                refine decide_eq_true ?_
                rw [List.take_of_length_le (by rw [← HUN.out]; omega), List.take_of_length_le (by rw [← HM.out]; omega)] at h5
                exact h5
              | false => exact decide_eq_false (HBF.out rfl)
            have HDD := Lib.hid hdd
            have y1 : ¬ ((q : Int) < (m : Int)) := by omega
            clear hqm hdd hw3
            go_wp2_with (fail)
            go_meet
            case rel => exact ⟨d2, HW3.out, by rw [HDD.out]⟩
      case rest =>
        obtain ⟨dd, hwd, rfl⟩ := hcut
        obtain ⟨w4, hw4⟩ : ∃ w4 : World, w4 = wc := ⟨_, rfl⟩
        rw [← hw4]
        have HW4 := Lib.hid (hw4.trans hwd)
        clear hw4 hwd e1 e2 cu cu0
        obtain ⟨bu, hbu⟩ : ∃ bu, bu = decide (u = is) := ⟨_, rfl⟩
        rw [← hbu]
        have HBU := Lib.hid hbu
        clear hbu
        cases bu with
        | true =>
          have hui : u = is := by simpa using HBU.out.symm
          have hr : decide (is ∈ ws) = true := decide_eq_true (by rw [← hui]; exact hmem)
          rw [← HR.out] at hr
          subst hr
          clear hui
          go_wp2_with (fail)
          go_ret
          exact ⟨rfl, d + dd, by rw [HW4.out, HW2.out]; simp⟩
        | false =>
          have hui : u ≠ is := by simpa using HBU.out.symm
          have HUI := Lib.hid hui
          clear hui
          go_wp2_with (fail)
          go_roundw
          case rel =>
            refine ⟨k + 1, d + dd, by omega, by go_num, by rw [HW4.out, HW2.out]; simp, ?_⟩
            rw [HTK.out, List.mem_append]
            rintro (h | h)
            · exact HNO.out h
            · exact HUI.out (List.mem_singleton.1 h).symm
          case measure => simp [intOf]; omega
    · have hkn : k = n := by omega
      have hr : decide (is ∈ ws) = false := decide_eq_false (by
        have := HNO.out
        rwa [List.take_of_length_le (by rw [← HN.out]; omega)] at this)
      rw [← HR.out] at hr
      subst hr
      have y1 : ¬ ((k : Int) < (n : Int)) := by omega
      clear hkn hw2
      go_wp2_with (fail)
      go_ret
      exact ⟨rfl, d, HW2.out⟩
end Go.Proofs.Ytfebcpmbkljaoaa
namespace Go.Proofs.Ytfebcpmbkljaoaa
open Go.RowKit Go.HR
set_option linter.unusedVariables false
set_option linter.unusedSimpArgs false
set_option linter.unusedSectionVars false
def AtIs (r : Option PT) (q : PT) (b : Bool) : Prop :=
  match r with
  | some q' => b = true ∧ q = q'
  | none => b = false ∧ q = zeroT
def RetA3 (n0 : Nat) (w : World) (r : Option PT) (e : Ending) (w' : World) : Prop :=
  ∃ (q : PT) (b : Bool) (sq : SL), e = .returned (.tuple #[.agg (q.arr sq), .bool b]) ∧ AtIs r q b ∧ IsPs n0 w' sq q.subs ∧ Below w.heap.size w w'
theorem belowR {w w2 W : World} {R : Nat} (h2 : Below w.heap.size w w2) (h : HK.Frm (· = R) w2 W) (hR : w.heap.size ≤ R) : Below w.heap.size w W := h2.trans (h.below h2.size fun k hk => by omega)
theorem box8_up {W W' : World} {R : Nat} (h : ∃ z0 z1 z2 z3 z4 z5 z6 z7, W.heap[R]? = some (.cells #[z0, z1, z2, z3, z4, z5, z6, z7] 30 (0, 0))) (hB : Below W.heap.size W W') :
    ∃ z0 z1 z2 z3 z4 z5 z6 z7, W'.heap[R]? = some (.cells #[z0, z1, z2, z3, z4, z5, z6, z7] 30 (0, 0)) := by
  obtain ⟨z0, z1, z2, z3, z4, z5, z6, z7, h⟩ := h
  exact ⟨z0, z1, z2, z3, z4, z5, z6, z7, blk_up hB h⟩
theorem isI_tail {W : World} {g o m c : Nat} {i : Int} {is : List Int} (h : IsI W ⟨some ⟨g, o, none⟩, m + 1, c + 1⟩ (i :: is)) : IsI W ⟨some ⟨g, o + 1, none⟩, m, c⟩ is := by
  obtain ⟨h1, h2, h3⟩ := h
  simp only [List.length_cons] at h1 h2
  refine ⟨by simpa using h1, by simp only; omega, .inr ⟨g, o + 1, rfl, fun j x hx => ?_⟩⟩
  obtain ⟨g', o', he, hc⟩ := h3.resolve_left (by simp)
  simp only [Option.some.injEq, Addr.mk.injEq, and_true] at he
  obtain ⟨rfl, rfl⟩ := he
  have := hc (j + 1) x (by simpa using hx)
  rw [show o + (j + 1) = o + 1 + j by omega] at this
  exact this
set_option maxRecDepth 100000 in
set_option maxHeartbeats 16000000 in
theorem at33 (n0 : Nat) : ∀ (is : List Int) (t : PT) (w : World) (sv s : SL), n0 ≤ w.heap.size → IsPs n0 w sv t.subs → IsI w s is → is.length ≤ 20000 → sizeT t ≤ 10000 →
    Calls Try.prog 33 #[.agg (t.arr sv), s.v] w (RetA3 n0 w (subT t is)) := by
  intro is
  induction is with
  | nil =>
    intro t w sv s hn0 hs hi _ hz
    have hsub : subT t [] = some t := by cases t; rfl
    rw [hsub]
    obtain ⟨sn', sc', _⟩ := hi
    obtain ⟨ia, i2, ic⟩ := s
    simp only [List.length_nil] at sn' sc'
    subst sn'
    obtain ⟨t0, ht0⟩ : ∃ t0, t0 = t := ⟨_, rfl⟩
    have hs0 : IsPs n0 w sv t0.subs := by rw [ht0]; exact hs
    rw [← ht0, show t0.arr sv = t.arr sv by rw [ht0]]
    obtain ⟨rule, ⟨op, name, ⟨aa, an, ac⟩, ⟨fa, fn, fc⟩, label, ⟨ma, mn, mc⟩⟩, subs⟩ := t
    obtain ⟨sa, sn, sc⟩ := sv
    simp only [PT.arr, PT.rule, PT.o, PT.subs, SL.v]
    have HTA := Lib.hid ht0
    have HS0 := Lib.hid hs0
    clear hs hs0 ht0 hsub
    have hx : ((w.alloc (.cells #[.string rule, .int .u8 op, .string name, .slice aa an ac, .slice fa fn fc, .int .i64 label, .slice sa sn sc, .slice ma mn mc] 30)).alloc (.cells #[.string rule, .int .u8 op, .string name, .slice aa an ac, .slice fa fn fc, .int .i64 label, .slice sa sn sc, .slice ma mn mc] 30)).heap[w.heap.size + 1]? = some (.cells #[.string rule, .int .u8 op, .string name, .slice aa an ac, .slice fa fn fc, .int .i64 label, .slice sa sn sc, .slice ma mn mc] 30 (0, 0)) := blk_new1 _ _ _
    have HX := Lib.hid hx
    clear hx
    go_enter Try.func33, Try.ntmps33
    go_wp2_with (fail)
    refine bodyPost_ret (results_row_tmp (p := 4) (u := 5) (by kernel_rfl) _ _ (w.heap.size + 1) 30 _ (0, 0) _ (.bool true) rfl rfl HX.out Try.underlying30 rfl (by kernel_rfl)) rfl ?_
    have hB2 : Below w.heap.size w ((w.alloc (.cells #[.string rule, .int .u8 op, .string name, .slice aa an ac, .slice fa fn fc, .int .i64 label, .slice sa sn sc, .slice ma mn mc] 30)).alloc (.cells #[.string rule, .int .u8 op, .string name, .slice aa an ac, .slice fa fn fc, .int .i64 label, .slice sa sn sc, .slice ma mn mc] 30)) := bl_al (bl_al (Below.refl _ _))
    exact ⟨t0, true, ⟨sa, sn, sc⟩, by rw [HTA.out]; rfl, ⟨rfl, rfl⟩, HS0.out.same fun k hk => hB2.block k (by omega), hB2⟩
  | cons i is ih =>
    intro t w sv s hn0 hs hi hl hz
    obtain ⟨ia, i2, ic⟩ := s
    obtain ⟨c0', c1', c2'⟩ := id hi
    obtain ⟨g, o, rfl, hci⟩ := c2'.resolve_left (by simp)
    simp only at hi c0' c1'
    obtain ⟨m, rfl⟩ : ∃ m, i2 = m + 1 := ⟨is.length, by simpa using c0'⟩
    obtain ⟨c, rfl⟩ : ∃ c, ic = c + 1 := ⟨ic - 1, by omega⟩
    have hp0 := hci 0 i rfl
    simp only [Nat.add_zero] at hp0
    obtain ⟨nx, hnx⟩ : ∃ nx : Option Addr, nx = if c = 0 then some ⟨g, o, none⟩ else some ⟨g, o + 1, none⟩ := ⟨_, rfl⟩
    have hit : IsI w ⟨nx, m, c⟩ is := by
      by_cases h0 : c = 0
      · have hm0 : is = [] := by
          have h5 : m + 1 = (i :: is).length := c0'
          simp only [List.length_cons] at h5
          exact List.length_eq_zero_iff.1 (by omega)
        subst hm0
        exact ⟨by simpa using c0', by simp only; omega, .inl rfl⟩
      · rw [hnx, if_neg h0]
        exact isI_tail hi
    have HNX := Lib.hid hnx.symm
    clear hnx
    simp only [List.length_cons] at c0' hl
    have hm : m ≤ 20000 := by omega
    have hln := hs.len
    have hlz : t.subs.length ≤ 10000 := subs_le t hz
    have hze : ∀ (i : Nat) q, t.subs[i]? = some q → sizeT q ≤ 10000 := fun i q hq => by have := sizeF_mem hq; have := sizeT_eq t; omega
    have hout := fun (h : ¬ (0 ≤ i ∧ i < t.subs.length)) => subT_out (is := is) h
    have hin := fun (k : Nat) (q : PT) (h : t.subs[k]? = some q) => subT_in (is := is) h
    obtain ⟨r, hr⟩ : ∃ r, r = subT t (i :: is) := ⟨_, rfl⟩
    rw [← hr] at hout ⊢
    have HRR := Lib.hid hr
    obtain ⟨t0, ht0⟩ : ∃ t0, t0 = t := ⟨_, rfl⟩
    obtain ⟨rule, ⟨op, name, ⟨aa, an, ac⟩, ⟨fa, fn, fc⟩, label, ⟨ma, mn, mc⟩⟩, subs⟩ := t
    obtain ⟨sa, sn, sc⟩ := sv
    simp only [PT.subs] at hs hln hlz hze hout hin
    rw [← hln] at hlz
    simp only [PT.arr, PT.rule, PT.o, PT.subs, SL.v]
    obtain ⟨G, hG⟩ : ∃ G, G = w.heap.size := ⟨_, rfl⟩
    obtain ⟨R, hR⟩ : ∃ R, R = w.heap.size + 1 := ⟨_, rfl⟩
    obtain ⟨w2, hw2⟩ : ∃ w2, w2 = (w.alloc (.cells #[.string rule, .int .u8 op, .string name, .slice aa an ac, .slice fa fn fc, .int .i64 label, .slice sa sn sc, .slice ma mn mc] 30)).alloc (.cells #[.string ⟨#[]⟩, .int .u8 0, .string ⟨#[]⟩, .slice none 0 0, .slice none 0 0, .int .i64 0, .slice none 0 0, .slice none 0 0] 30) := ⟨_, rfl⟩
    have hB2 : Below w.heap.size w w2 := by rw [hw2]; exact bl_al (bl_al (Below.refl _ _))
    have hg2 : w2.heap[G]? = some (.cells #[.string rule, .int .u8 op, .string name, .slice aa an ac, .slice fa fn fc, .int .i64 label, .slice sa sn sc, .slice ma mn mc] 30 (0, 0)) := by rw [hw2, hG]; exact HK.blk_alloc (HK.blk_new _ _) _
    have hr2 : w2.heap[R]? = some (.cells #[.string ⟨#[]⟩, .int .u8 0, .string ⟨#[]⟩, .slice none 0 0, .slice none 0 0, .int .i64 0, .slice none 0 0, .slice none 0 0] 30 (0, 0)) := by rw [hw2, hR]; exact blk_new1 _ _ _
    have hRw : w.heap.size ≤ R := by omega
    have hGR : G ≠ R := by omega
    have hnw2 : n0 ≤ w2.heap.size := Nat.le_trans hn0 hB2.size
    have HB2 := Lib.hid hB2
    have HG2 := Lib.hid hg2
    have HR2 := Lib.hid hr2
    have HW2 := Lib.hid hw2
    have HG := Lib.hid hG
    have HR := Lib.hid hR
    have HP0 := Lib.hid hp0
    have HIT := Lib.hid hit
    have HS := Lib.hid hs
    have HLN := Lib.hid hln
    have HOUT := Lib.hid hout
    have HIN := Lib.hid hin
    have HZE := Lib.hid hze
    have p0 : w2.cell? ⟨g, o, none⟩ = some (.int .i64 i) := cell_then hp0 hB2
    have x6 : w2.cell? ⟨G, 6, none⟩ = some (.slice sa sn sc) := HK.blk_cell hg2 6
    clear hi c2' hci hp0 hit hln hze hout hin hr hs hz ht0 hB2 hg2 hr2 hw2 hG hR c0'
    by_cases hio : 0 ≤ i ∧ i < sn
    · obtain ⟨k, rfl⟩ : ∃ k : Nat, i = (k : Int) := ⟨i.toNat, by omega⟩
      have hk : k < sn := by omega
      obtain ⟨p, hp⟩ : ∃ p, subs[k]? = some p := ⟨_, List.getElem?_eq_getElem (by rw [← HLN.out]; exact hk)⟩
      obtain ⟨pg, po, s', ha, hpg, hpc, hps⟩ := psAt HS.out hp
      subst ha
      obtain ⟨ta, tn, tc⟩ := s'
      have hrp : r = subT p is := HRR.out.trans (HIN.out k p hp)
      have hzp := HZE.out k p hp
      have hih := fun (W : World) (h1 : n0 ≤ W.heap.size) (h2 : IsPs n0 W ⟨ta, tn, tc⟩ p.subs) (h3 : IsI W ⟨nx, m, c⟩ is) => ih p W ⟨ta, tn, tc⟩ ⟨nx, m, c⟩ h1 h2 h3 (by omega) hzp
      unfold RetA3 at hih
      simp only [PT.arr, SL.v] at hih
      have HPC := Lib.hid hpc
      have HPS := Lib.hid hps
      have HIH := Lib.hid hih
      have HRP := Lib.hid hrp
      clear hpc hps hih hp ih hrp
      have z0 : (0 : Int) ≤ (k : Int) := by omega
      have z1 : (k : Int) < (sn : Int) := by omega
      have z2 : ¬ (k : Int) < 0 := by omega
      have z3 : ¬ (sn : Int) ≤ (k : Int) := by omega
      go_enter Try.func33, Try.ntmps33
      go_upto_region 3 with (fail)
      rw [← HW2.out, ← HR.out, ← HG.out]
      go_cut [22] from 10 to 22 (fun v wx => v = .bool false ∧ ∃ dd, wx = w2.drewN dd)
      case first =>
        have p0' : ∀ q, (w2.drewN q).cell? ⟨g, o, none⟩ = some (.int .i64 (k : Int)) := fun q => p0
        have x6' : ∀ q, (w2.drewN q).cell? ⟨G, 6, none⟩ = some (.slice (some ⟨pg, po, none⟩) sn sc) := fun q => x6
        go_quiet (fail)
        go_wp2_with (fail)
        go_meet
        case rel => exact ⟨rfl, _, rfl⟩
      case rest =>
        obtain ⟨rfl, dd, hwc⟩ := hcut
        obtain ⟨w2', hw2'⟩ : ∃ w2' : World, w2' = wc := ⟨_, rfl⟩
        rw [← hw2']
        have hwd : w2' = w2.drewN dd := hw2'.trans hwc
        have hB2' : Below w.heap.size w w2' := by rw [hwd]; exact HB2.out.trans ⟨rfl, rfl, rfl, Nat.le_refl _, fun _ _ => rfl⟩
        have hg2' : w2'.heap[G]? = some (.cells #[.string rule, .int .u8 op, .string name, .slice aa an ac, .slice fa fn fc, .int .i64 label, .slice (some ⟨pg, po, none⟩) sn sc, .slice ma mn mc] 30 (0, 0)) := by rw [hwd]; exact HG2.out
        have hr2' : w2'.heap[R]? = some (.cells #[.string ⟨#[]⟩, .int .u8 0, .string ⟨#[]⟩, .slice none 0 0, .slice none 0 0, .int .i64 0, .slice none 0 0, .slice none 0 0] 30 (0, 0)) := by rw [hwd]; exact HR2.out
        have hnw2' : n0 ≤ w2'.heap.size := Nat.le_trans hn0 hB2'.size
        clear hwc hw2' hwd p0 x6 HB2 HG2 HR2 hnw2
        obtain ⟨w2, hw2⟩ : ∃ w2, w2 = w2' := ⟨_, rfl⟩
        rw [← hw2] at hB2' hg2' hr2' hnw2' ⊢
        have hnw2 := hnw2'
        have HB2 := Lib.hid hB2'
        have HG2 := Lib.hid hg2'
        have HR2 := Lib.hid hr2'
        clear hw2 hB2' hg2' hr2' hnw2'
        go_upto_region 5 with (fail)
        go_cut [5] from 24 to 35 (fun v wx => ∃ (q : PT) (b : Bool) (sq : SL), v = .bool b ∧ wx.heap[R]? = some (.cells (q.arr sq) 30 (0, 0)) ∧ AtIs (subT p is) q b ∧ IsPs n0 wx sq q.subs ∧ Below w.heap.size w wx)
        case first =>
          refine Go.RE.wp_region_each [24, 25, 26, 27, 28, 29, 30, 31, 32, 33, 34, 35, 5] (fun L x W => (HK.Frm (· = R) w2 W ∧ ∃ z0 z1 z2 z3 z4 z5 z6 z7, W.heap[R]? = some (.cells #[z0, z1, z2, z3, z4, z5, z6, z7] 30 (0, 0))) ∧ (L 0 = true → x 24 = .pointer (some ⟨G, 6, none⟩)) ∧ (L 1 = true → x 25 = .slice (some ⟨pg, po, none⟩) sn sc) ∧ (L 2 = true → x 26 = .slice (some ⟨g, o, none⟩) (m + 1) (c + 1)) ∧ (L 3 = true → x 27 = .pointer (some ⟨g, o, none⟩)) ∧ (L 4 = true → x 28 = .int .i64 (k : Int)) ∧ (L 5 = true → x 29 = .pointer (some ⟨pg, po + k * 8, none⟩)) ∧ (L 6 = true → x 30 = .agg #[.string p.rule, .int .u8 p.o.op, .string p.o.name, .slice p.o.args.a p.o.args.n p.o.args.c, .slice p.o.fsub.a p.o.fsub.n p.o.fsub.c, .int .i64 p.o.label, .slice ta tn tc, .slice p.o.marks.a p.o.marks.n p.o.marks.c]) ∧ (L 7 = true → x 31 = .slice (some ⟨g, o, none⟩) (m + 1) (c + 1)) ∧ (L 8 = true → x 32 = .slice nx m c) ∧ (L 9 = true → ∃ (q : PT) (b : Bool) (sq : SL), x 33 = .tuple #[.agg #[.string q.rule, .int .u8 q.o.op, .string q.o.name, .slice q.o.args.a q.o.args.n q.o.args.c, .slice q.o.fsub.a q.o.fsub.n q.o.fsub.c, .int .i64 q.o.label, .slice sq.a sq.n sq.c, .slice q.o.marks.a q.o.marks.n q.o.marks.c], .bool b] ∧ AtIs (subT p is) q b ∧ IsPs n0 W sq q.subs) ∧ (L 10 = true → L 9 = true ∧ ∃ v, x 33 = .tuple #[x 34, v]) ∧ (L 11 = true → L 9 = true ∧ ∃ v, x 33 = .tuple #[v, x 35]) ∧ (L 12 = true → L 9 = true ∧ L 10 = true ∧ ∃ cs : Array Value, x 34 = .agg cs ∧ W.heap[R]? = some (.cells cs 30 (0, 0))) ∧ (L 13 = true → L 11 = true ∧ x 5 = x 35)) (by kernel_rfl) (by kernel_rfl) (by kernel_rfl) ?_ ((Go.RE.Each.cons ?_ (Go.RE.Each.cons ?_ (Go.RE.Each.cons ?_ (Go.RE.Each.cons ?_ (Go.RE.Each.cons ?_ (Go.RE.Each.cons ?_ (Go.RE.Each.cons ?_ (Go.RE.Each.cons ?_ (Go.RE.Each.cons ?_ (Go.RE.Each.cons ?_ (Go.RE.Each.cons ?_ (Go.RE.Each.cons ?_ (Go.RE.Each.cons ?_ (Go.RE.Each.cons ?_ Go.RE.Each.nil))))))))))))))) ?_
          · exact fun x => ⟨⟨(HK.Frm.refl _ w2).drew, ⟨_, _, _, _, _, _, _, _, HK.blk_drew HR2.out⟩⟩, fun h => (by cases h), fun h => (by cases h), fun h => (by cases h), fun h => (by cases h), fun h => (by cases h), fun h => (by cases h), fun h => (by cases h), fun h => (by cases h), fun h => (by cases h), fun h => (by cases h), fun h => (by cases h), fun h => (by cases h), fun h => (by cases h), fun h => (by cases h)⟩
          · intro L x a w K hL hd hf hx hΦ hK
            obtain ⟨hI, f0, f1, f2, f3, f4, f5, f6, f7, f8, f9, f10, f11, f12, f13⟩ := hΦ
            have e2 : a.tmps[2]? = some (.pointer (some ⟨G, 0, none⟩)) := hf 2 (of_decide_eq_true (by kernel_rfl))
            clear hf hx hd
            go_simp
            refine hK _ _ ?_
            exact ⟨hI, fun _ => rfl, fun h => f1 h, fun h => f2 h, fun h => f3 h, fun h => f4 h, fun h => f5 h, fun h => f6 h, fun h => f7 h, fun h => f8 h, fun h => f9 h, fun h => f10 h, fun h => f11 h, fun h => f12 h, fun h => f13 h⟩
          · intro L x a w K hL hd hf hx hΦ hK
            obtain ⟨hI, f0, f1, f2, f3, f4, f5, f6, f7, f8, f9, f10, f11, f12, f13⟩ := hΦ
            have d0 := f0 (hd 0 (by kernel_rfl))
            have e24 : a.tmps[24]? = some (x 24) := hx 0 _ 24 rfl rfl (hd 0 (by kernel_rfl))
            clear hf hx hd
            rw [d0] at e24
            have c6 := HK.blk_cell (hI.1.heap HG2.out hGR) 6
            simp only [List.getElem?_toArray, List.getElem?_cons_succ, List.getElem?_cons_zero] at c6
            go_simp
            refine hK _ _ ?_
            exact ⟨hI, fun h => f0 h, fun _ => rfl, fun h => f2 h, fun h => f3 h, fun h => f4 h, fun h => f5 h, fun h => f6 h, fun h => f7 h, fun h => f8 h, fun h => f9 h, fun h => f10 h, fun h => f11 h, fun h => f12 h, fun h => f13 h⟩
          · intro L x a w K hL hd hf hx hΦ hK
            obtain ⟨hI, f0, f1, f2, f3, f4, f5, f6, f7, f8, f9, f10, f11, f12, f13⟩ := hΦ
            have e1 : a.tmps[1]? = some (.slice (some ⟨g, o, none⟩) (m + 1) (c + 1)) := hf 1 (of_decide_eq_true (by kernel_rfl))
            clear hf hx hd
            go_simp
            refine hK _ _ ?_
            exact ⟨hI, fun h => f0 h, fun h => f1 h, fun _ => rfl, fun h => f3 h, fun h => f4 h, fun h => f5 h, fun h => f6 h, fun h => f7 h, fun h => f8 h, fun h => f9 h, fun h => f10 h, fun h => f11 h, fun h => f12 h, fun h => f13 h⟩
          · intro L x a w K hL hd hf hx hΦ hK
            obtain ⟨hI, f0, f1, f2, f3, f4, f5, f6, f7, f8, f9, f10, f11, f12, f13⟩ := hΦ
            have d2 := f2 (hd 2 (by kernel_rfl))
            have e26 : a.tmps[26]? = some (x 26) := hx 2 _ 26 rfl rfl (hd 2 (by kernel_rfl))
            clear hf hx hd
            rw [d2] at e26
            go_simp
            refine hK _ _ ?_
            exact ⟨hI, fun h => f0 h, fun h => f1 h, fun h => f2 h, fun _ => rfl, fun h => f4 h, fun h => f5 h, fun h => f6 h, fun h => f7 h, fun h => f8 h, fun h => f9 h, fun h => f10 h, fun h => f11 h, fun h => f12 h, fun h => f13 h⟩
          · intro L x a w K hL hd hf hx hΦ hK
            obtain ⟨hI, f0, f1, f2, f3, f4, f5, f6, f7, f8, f9, f10, f11, f12, f13⟩ := hΦ
            have d3 := f3 (hd 3 (by kernel_rfl))
            have e27 : a.tmps[27]? = some (x 27) := hx 3 _ 27 rfl rfl (hd 3 (by kernel_rfl))
            clear hf hx hd
            rw [d3] at e27
            have hbel := belowR HB2.out hI.1 hRw
            have c0 := cell_then HP0.out hbel
            go_simp
            refine hK _ _ ?_
            exact ⟨hI, fun h => f0 h, fun h => f1 h, fun h => f2 h, fun h => f3 h, fun _ => rfl, fun h => f5 h, fun h => f6 h, fun h => f7 h, fun h => f8 h, fun h => f9 h, fun h => f10 h, fun h => f11 h, fun h => f12 h, fun h => f13 h⟩
          · intro L x a w K hL hd hf hx hΦ hK
            obtain ⟨hI, f0, f1, f2, f3, f4, f5, f6, f7, f8, f9, f10, f11, f12, f13⟩ := hΦ
            have d1 := f1 (hd 1 (by kernel_rfl))
            have e25 : a.tmps[25]? = some (x 25) := hx 1 _ 25 rfl rfl (hd 1 (by kernel_rfl))
            have d4 := f4 (hd 4 (by kernel_rfl))
            have e28 : a.tmps[28]? = some (x 28) := hx 4 _ 28 rfl rfl (hd 4 (by kernel_rfl))
            clear hf hx hd
            rw [d1] at e25
            rw [d4] at e28
            go_simp
            refine hK _ _ ?_
            exact ⟨hI, fun h => f0 h, fun h => f1 h, fun h => f2 h, fun h => f3 h, fun h => f4 h, fun _ => rfl, fun h => f6 h, fun h => f7 h, fun h => f8 h, fun h => f9 h, fun h => f10 h, fun h => f11 h, fun h => f12 h, fun h => f13 h⟩
          · intro L x a w K hL hd hf hx hΦ hK
            obtain ⟨hI, f0, f1, f2, f3, f4, f5, f6, f7, f8, f9, f10, f11, f12, f13⟩ := hΦ
            have d5 := f5 (hd 5 (by kernel_rfl))
            have e29 : a.tmps[29]? = some (x 29) := hx 5 _ 29 rfl rfl (hd 5 (by kernel_rfl))
            clear hf hx hd
            rw [d5] at e29
            have hbel := belowR HB2.out hI.1 hRw
            have c0 := cell_then (HPC.out 0 _ rfl) hbel
            have c1 := cell_then (HPC.out 1 _ rfl) hbel
            have c2 := cell_then (HPC.out 2 _ rfl) hbel
            have c3 := cell_then (HPC.out 3 _ rfl) hbel
            have c4 := cell_then (HPC.out 4 _ rfl) hbel
            have c5 := cell_then (HPC.out 5 _ rfl) hbel
            have c6 := cell_then (HPC.out 6 _ rfl) hbel
            have c7 := cell_then (HPC.out 7 _ rfl) hbel
            simp only [PT.vals, SL.v, Nat.add_zero] at c0 c1 c2 c3 c4 c5 c6 c7
            go_simp
            refine hK _ _ ?_
            exact ⟨hI, fun h => f0 h, fun h => f1 h, fun h => f2 h, fun h => f3 h, fun h => f4 h, fun h => f5 h, fun _ => rfl, fun h => f7 h, fun h => f8 h, fun h => f9 h, fun h => f10 h, fun h => f11 h, fun h => f12 h, fun h => f13 h⟩
          · intro L x a w K hL hd hf hx hΦ hK
            obtain ⟨hI, f0, f1, f2, f3, f4, f5, f6, f7, f8, f9, f10, f11, f12, f13⟩ := hΦ
            have e1 : a.tmps[1]? = some (.slice (some ⟨g, o, none⟩) (m + 1) (c + 1)) := hf 1 (of_decide_eq_true (by kernel_rfl))
            clear hf hx hd
            go_simp
            refine hK _ _ ?_
            exact ⟨hI, fun h => f0 h, fun h => f1 h, fun h => f2 h, fun h => f3 h, fun h => f4 h, fun h => f5 h, fun h => f6 h, fun _ => rfl, fun h => f8 h, fun h => f9 h, fun h => f10 h, fun h => f11 h, fun h => f12 h, fun h => f13 h⟩
          · intro L x a w K hL hd hf hx hΦ hK
            obtain ⟨hI, f0, f1, f2, f3, f4, f5, f6, f7, f8, f9, f10, f11, f12, f13⟩ := hΦ
            have d7 := f7 (hd 7 (by kernel_rfl))
            have e31 : a.tmps[31]? = some (x 31) := hx 7 _ 31 rfl rfl (hd 7 (by kernel_rfl))
            clear hf hx hd
            rw [d7] at e31
            have hm1 : (1 : Int) ≤ (m : Int) + 1 := by omega
            have hnx := HNX.out
            go_simp
            refine hK _ _ ?_
            exact ⟨hI, fun h => f0 h, fun h => f1 h, fun h => f2 h, fun h => f3 h, fun h => f4 h, fun h => f5 h, fun h => f6 h, fun h => f7 h, fun _ => rfl, fun h => f9 h, fun h => f10 h, fun h => f11 h, fun h => f12 h, fun h => f13 h⟩
          · intro L x a w K hL hd hf hx hΦ hK
            obtain ⟨hI, f0, f1, f2, f3, f4, f5, f6, f7, f8, f9, f10, f11, f12, f13⟩ := hΦ
            have d6 := f6 (hd 6 (by kernel_rfl))
            have e30 : a.tmps[30]? = some (x 30) := hx 6 _ 30 rfl rfl (hd 6 (by kernel_rfl))
            have d8 := f8 (hd 8 (by kernel_rfl))
            have e32 : a.tmps[32]? = some (x 32) := hx 8 _ 32 rfl rfl (hd 8 (by kernel_rfl))
            clear hf hx hd
            rw [d6] at e30
            rw [d8] at e32
            have hbel := belowR HB2.out hI.1 hRw
            go_simp
            go_at_call 33
            refine (HIH.out w (Nat.le_trans hn0 hbel.size) (HPS.out.same fun k hk => hbel.block k (by omega)) (HIT.out.below hbel)).mono ?_
            rintro e w' ⟨q, b, sq, rfl, hq1, hq2, hq3⟩
            simp only
            refine hK _ _ ?_
            exact ⟨⟨hI.1.trans (HK.Frm.of_below hq3 _), box8_up hI.2 hq3⟩, fun h => f0 h, fun h => f1 h, fun h => f2 h, fun h => f3 h, fun h => f4 h, fun h => f5 h, fun h => f6 h, fun h => f7 h, fun h => f8 h, fun _ => ⟨q, b, sq, rfl, hq1, hq2⟩, fun h => absurd (f10 h).1 (by rw [hL]; decide), fun h => absurd (f11 h).1 (by rw [hL]; decide), fun h => absurd (f12 h).1 (by rw [hL]; decide), fun h => f13 h⟩
          · intro L x a w K hL hd hf hx hΦ hK
            obtain ⟨hI, f0, f1, f2, f3, f4, f5, f6, f7, f8, f9, f10, f11, f12, f13⟩ := hΦ
            have d9 := f9 (hd 9 (by kernel_rfl))
            have e33 : a.tmps[33]? = some (x 33) := hx 9 _ 33 rfl rfl (hd 9 (by kernel_rfl))
            have l9 := hd 9 (by kernel_rfl)
            clear hf hx hd
            obtain ⟨q, b, sq, hq, _⟩ := d9
            have hq' := hq
            rw [hq] at e33
            go_simp
            refine hK _ _ ?_
            exact ⟨hI, fun h => f0 h, fun h => f1 h, fun h => f2 h, fun h => f3 h, fun h => f4 h, fun h => f5 h, fun h => f6 h, fun h => f7 h, fun h => f8 h, fun h => f9 h, fun _ => ⟨l9, _, hq'⟩, fun h => f11 h, fun h => absurd (f12 h).2.1 (by rw [hL]; decide), fun h => f13 h⟩
          · intro L x a w K hL hd hf hx hΦ hK
            obtain ⟨hI, f0, f1, f2, f3, f4, f5, f6, f7, f8, f9, f10, f11, f12, f13⟩ := hΦ
            have d9 := f9 (hd 9 (by kernel_rfl))
            have e33 : a.tmps[33]? = some (x 33) := hx 9 _ 33 rfl rfl (hd 9 (by kernel_rfl))
            have l9 := hd 9 (by kernel_rfl)
            clear hf hx hd
            obtain ⟨q, b, sq, hq, _⟩ := d9
            have hq' := hq
            rw [hq] at e33
            go_simp
            refine hK _ _ ?_
            exact ⟨hI, fun h => f0 h, fun h => f1 h, fun h => f2 h, fun h => f3 h, fun h => f4 h, fun h => f5 h, fun h => f6 h, fun h => f7 h, fun h => f8 h, fun h => f9 h, fun h => f10 h, fun _ => ⟨l9, _, hq'⟩, fun h => f12 h, fun h => absurd (f13 h).1 (by rw [hL]; decide)⟩
          · intro L x a w K hL hd hf hx hΦ hK
            obtain ⟨hI, f0, f1, f2, f3, f4, f5, f6, f7, f8, f9, f10, f11, f12, f13⟩ := hΦ
            have d10 := f10 (hd 10 (by kernel_rfl))
            have e34 : a.tmps[34]? = some (x 34) := hx 10 _ 34 rfl rfl (hd 10 (by kernel_rfl))
            have d9 := f9 (hd 9 (by kernel_rfl))
            have e4 : a.tmps[4]? = some (.pointer (some ⟨R, 0, none⟩)) := hf 4 (of_decide_eq_true (by kernel_rfl))
            have l9 := hd 9 (by kernel_rfl)
            have l10 := hd 10 (by kernel_rfl)
            clear hf hx hd
            obtain ⟨q, b, sq, hq, hq1, hq2⟩ := d9
            obtain ⟨_, v, hv⟩ := d10
            obtain ⟨z0, z1, z2, z3, z4, z5, z6, z7, hz⟩ := hI.2
            have h34 : x 34 = .agg #[.string q.rule, .int .u8 q.o.op, .string q.o.name, .slice q.o.args.a q.o.args.n q.o.args.c, .slice q.o.fsub.a q.o.fsub.n q.o.fsub.c, .int .i64 q.o.label, .slice sq.a sq.n sq.c, .slice q.o.marks.a q.o.marks.n q.o.marks.c] := by have h9 := hv.symm.trans hq; simp only [Value.tuple.injEq, Array.mk.injEq, List.cons.injEq] at h9; exact h9.1
            rw [h34] at e34
            have c0 := HK.blk_cell hz 0
            have c1 := HK.blk_cell hz 1
            have c2 := HK.blk_cell hz 2
            have c3 := HK.blk_cell hz 3
            have c4 := HK.blk_cell hz 4
            have c5 := HK.blk_cell hz 5
            have c6 := HK.blk_cell hz 6
            have c7 := HK.blk_cell hz 7
            have cf := fun i => HK.blk_frozen hz i
            go_simp
            refine hK undef _ ?_
            exact ⟨⟨hI.1.trans (set8_frm w R _ _ _ _ _ _ _ _), ⟨_, _, _, _, _, _, _, _, set8 hz _ _ _ _ _ _ _ _⟩⟩, fun h => f0 h, fun h => f1 h, fun h => f2 h, fun h => f3 h, fun h => f4 h, fun h => f5 h, fun h => f6 h, fun h => f7 h, fun h => f8 h, fun h => (f9 h).imp fun q h => h.imp fun b h => h.imp fun sq h => ⟨h.1, h.2.1, h.2.2.same fun kk hk => (set8_frm w R _ _ _ _ _ _ _ _).block kk (Nat.lt_of_lt_of_le (Nat.lt_of_lt_of_le hk hnw2) hI.1.size) (by omega)⟩, fun h => f10 h, fun h => f11 h, fun _ => ⟨l9, l10, _, h34, set8 hz _ _ _ _ _ _ _ _⟩, fun h => f13 h⟩
          · intro L x a w K hL hd hf hx hΦ hK
            obtain ⟨hI, f0, f1, f2, f3, f4, f5, f6, f7, f8, f9, f10, f11, f12, f13⟩ := hΦ
            have d11 := f11 (hd 11 (by kernel_rfl))
            have e35 : a.tmps[35]? = some (x 35) := hx 11 _ 35 rfl rfl (hd 11 (by kernel_rfl))
            have l11 := hd 11 (by kernel_rfl)
            clear hf hx hd
            obtain ⟨_, v, hv⟩ := d11
            go_simp
            refine hK _ _ ?_
            exact ⟨hI, fun h => f0 h, fun h => f1 h, fun h => f2 h, fun h => f3 h, fun h => f4 h, fun h => f5 h, fun h => f6 h, fun h => f7 h, fun h => f8 h, fun h => f9 h, fun h => f10 h, fun h => f11 h, fun h => f12 h, fun _ => ⟨l11, rfl⟩⟩
          · rintro x W ⟨hI, f0, f1, f2, f3, f4, f5, f6, f7, f8, f9, f10, f11, f12, f13⟩
            obtain ⟨q, b, sq, hq, hq1, hq2⟩ := f9 (by kernel_rfl)
            obtain ⟨_, v1, hv1⟩ := f10 (by kernel_rfl)
            obtain ⟨_, v2, hv2⟩ := f11 (by kernel_rfl)
            obtain ⟨_, _, cs, hcs1, hcs2⟩ := f12 (by kernel_rfl)
            have h13 := (f13 (by kernel_rfl)).2
            have h34 : x 34 = .agg (q.arr sq) := by have h9 := hv1.symm.trans hq; simp only [Value.tuple.injEq, Array.mk.injEq, List.cons.injEq] at h9; exact h9.1
            have h35 : x 35 = .bool b := by have h9 := hv2.symm.trans hq; simp only [Value.tuple.injEq, Array.mk.injEq, List.cons.injEq] at h9; exact h9.2.1
            have hcq : cs = q.arr sq := by have h9 := hcs1.symm.trans h34; exact Value.agg.inj h9
            subst hcq
            simp only [Exit.then]
            go_step
            go_meet
            case rel => exact ⟨q, b, sq, h13.trans h35, hcs2, hq1, hq2, belowR HB2.out hI.1 hRw⟩
        case rest =>
          obtain ⟨q, b, sq, rfl, hc1, hc2, hc3, hc4⟩ := hcut
          have HC1 := Lib.hid hc1
          have HC2 := Lib.hid hc2
          have HC3 := Lib.hid hc3
          have HC4 := Lib.hid hc4
          clear hc1 hc2 hc3 hc4
          go_wp2_with (fail)
          refine bodyPost_ret (results_row_tmp (p := 4) (u := 5) (by kernel_rfl) _ _ R 30 _ (0, 0) _ (.bool b) rfl rfl HC1.out Try.underlying30 rfl (by rw [show (PT.arr q sq).size = 8 from rfl]; kernel_rfl)) rfl ?_
          exact ⟨q, b, sq, rfl, by rw [HRP.out]; exact HC2.out, HC3.out, HC4.out⟩
    · have hrn := HOUT.out (by rw [← HLN.out]; exact hio)
      subst hrn
      have p0' : ∀ q, (w2.drewN q).cell? ⟨g, o, none⟩ = some (.int .i64 i) := fun q => p0
      have x6' : ∀ q, (w2.drewN q).cell? ⟨G, 6, none⟩ = some (.slice sa sn sc) := fun q => x6
      go_enter Try.func33, Try.ntmps33
      go_upto_region 3 with (fail)
      rw [← HW2.out, ← HR.out, ← HG.out]
      go_cut [22] from 10 to 22 (fun v wx => v = .bool true ∧ ∃ dd, wx = w2.drewN dd)
      case first =>
        by_cases h0 : i < 0
        · go_quiet (fail)
          go_wp2_with (fail)
          go_meet
          case rel => exact ⟨rfl, _, rfl⟩
        · have z3 : (sn : Int) ≤ i := by omega
          go_quiet (fail)
          go_wp2_with (fail)
          go_meet
          case rel => exact ⟨rfl, _, rfl⟩
      case rest =>
        obtain ⟨rfl, dd, hwc⟩ := hcut
        obtain ⟨w3, hw3⟩ : ∃ w3 : World, w3 = wc := ⟨_, rfl⟩
        rw [← hw3]
        have hwd : w3 = w2.drewN dd := hw3.trans hwc
        have hr3 : w3.heap[R]? = some (.cells #[.string ⟨#[]⟩, .int .u8 0, .string ⟨#[]⟩, .slice none 0 0, .slice none 0 0, .int .i64 0, .slice none 0 0, .slice none 0 0] 30 (0, 0)) := by rw [hwd]; exact HR2.out
        have hB3 : Below w.heap.size w w3 := by rw [hwd]; exact HB2.out.trans ⟨rfl, rfl, rfl, Nat.le_refl _, fun _ _ => rfl⟩
        have cR := fun (i : Nat) => HK.blk_frozen hr3 i
        have r0 := HK.blk_cell hr3 0
        have r1 := HK.blk_cell hr3 1
        have r2 := HK.blk_cell hr3 2
        have r3 := HK.blk_cell hr3 3
        have r4 := HK.blk_cell hr3 4
        have r5 := HK.blk_cell hr3 5
        have r6 := HK.blk_cell hr3 6
        have r7 := HK.blk_cell hr3 7
        have HR3 := Lib.hid hr3
        have HB3 := Lib.hid hB3
        clear hwc hw3 hwd p0 x6 p0' x6' hr3 hB3
        go_wp2_with (fail)
        refine bodyPost_ret (results_row_tmp (p := 4) (u := 5) (by kernel_rfl) _ _ R 30 _ (0, 0) _ (.bool false) rfl rfl (set8 (b := R) HR3.out _ _ _ _ _ _ _ _) Try.underlying30 rfl (by kernel_rfl)) rfl ?_
        have hF := set8_frm w3 R (.string ⟨#[]⟩) (.int .u8 0) (.string ⟨#[]⟩) (.slice none 0 0) (.slice none 0 0) (.int .i64 0) (.slice none 0 0) (.slice none 0 0)
        exact ⟨zeroT, false, SL.nil, rfl, ⟨rfl, rfl⟩, .nil _ _, HB3.out.trans (hF.below HB3.out.size fun k hk => by omega)⟩
end Go.Proofs.Ytfebcpmbkljaoaa
namespace Go.Proofs.Ytfebcpmbkljaoaa
open Go.RowKit Go.HR
set_option linter.unusedVariables false
set_option linter.unusedSimpArgs false
set_option linter.unusedSectionVars false
theorem sub_some {w : Nat} : ∀ {u : List Int} {t : PT}, (subT t u).isSome = true → ∃ p h w', walkT t w p = some (h, w') ∧ natI p = u
  | [], t, _ => ⟨[], t, w, rfl, rfl⟩
  | i :: is, t, hs => by
    by_cases hr : 0 ≤ i ∧ i < t.subs.length
    · obtain ⟨k, rfl⟩ : ∃ k : Nat, i = (k : Int) := ⟨i.toNat, by omega⟩
      have hk : k < t.subs.length := by omega
      have hq : t.subs[k]? = some t.subs[k] := List.getElem?_eq_getElem hk
      rw [subT_in hq] at hs
      obtain ⟨p, h, w', h1, h2⟩ := sub_some (w := w / (2 * t.subs.length)) hs
      refine ⟨k :: p, h, w', ?_, by simp [natI] at h2 ⊢; exact h2⟩
      rw [walkT, hq]
      exact h1
    · rw [subT_out hr] at hs
      cases hs
theorem sub_step (t : PT) (u : List Int) : (∃ d ∈ stepsT [] whole t, plD d = u) ↔ (subT t u).isSome = true := by
  constructor
  · rintro ⟨d, hd, rfl⟩
    obtain ⟨q, h1, h2⟩ := steps_walk [] whole t d hd
    rw [List.nil_append] at h1
    have := sub_walk (is := []) h2
    rw [List.append_nil] at this
    unfold plD
    rw [h1]
    show (subT t (natI q)).isSome = true
    rw [this]
    cases d.t <;> rfl
  · intro h
    obtain ⟨p, h', w', h1, h2⟩ := sub_some (w := whole) h
    exact ⟨_, walk_step p t whole [] h' w' h1, by rw [← h2]; rfl⟩
def errT (t : PT) (ws : List (List Int)) : Nat := if measT t then (if ∀ u ∈ ws, (subT t u).isSome = true then 0 else 6) else 2
theorem err_code (t : PT) (ws : List (List Int)) : errT t ws = codeL t ws := by
  unfold errT codeL
  have : (∀ u ∈ ws, (subT t u).isSome = true) ↔ ∀ u ∈ ws, ∃ d ∈ stepsT [] whole t, plD d = u := ⟨fun h u hu => (sub_step t u).2 (h u hu), fun h u hu => (sub_step t u).1 (h u hu)⟩
  by_cases hm : measT t = true
  · rw [if_pos hm, if_pos hm]
    by_cases h : ∀ u ∈ ws, (subT t u).isSome = true
    · rw [if_pos h, if_pos (this.1 h)]
    · rw [if_neg h, if_neg fun h2 => h (this.2 h2)]
  · rw [if_neg hm, if_neg hm]
set_option maxRecDepth 100000 in
set_option maxHeartbeats 16000000 in
theorem error_call (w : World) (t : PT) (sv s : SL) (ws : List (List Int)) (hs : IsPs w.heap.size w sv t.subs) (hz : sizeT t ≤ 10000) (hw : IsW w s ws) (hl : ws.length ≤ 20000) (hu : ∀ u ∈ ws, u.length ≤ 20000) :
    Calls Try.prog 19 #[.agg (t.arr sv), s.v] w fun e w' => e = .returned (.int .i64 (codeL t ws : Nat)) ∧ Below w.heap.size w w' := by
  rw [← err_code]
  obtain ⟨E, hE⟩ : ∃ E, E = errT t ws := ⟨_, rfl⟩
  rw [← hE]
  unfold errT at hE
  have hv := fun (W : World) (hB : Below w.heap.size w W) => valid_call W t sv (hs.up hB) hz
  obtain ⟨b, hb⟩ : ∃ b, b = measT t := ⟨_, rfl⟩
  rw [← hb] at hv hE
  have ha := fun (W : World) (q : SL) (is : List Int) (bs : Bool) (hbs : bs = (subT t is).isSome) (hB : Below w.heap.size w W) (hi : IsI W q is) (hl : is.length ≤ 20000) =>
    (at33 W.heap.size is t W sv q (Nat.le_refl _) (hs.up hB) hi hl hz).mono (R' := fun e w' => ∃ (q : PT) (sq : SL), e = .returned (.tuple #[.agg #[.string q.rule, .int .u8 q.o.op, .string q.o.name, .slice q.o.args.a q.o.args.n q.o.args.c, .slice q.o.fsub.a q.o.fsub.n q.o.fsub.c, .int .i64 q.o.label, .slice sq.a sq.n sq.c, .slice q.o.marks.a q.o.marks.n q.o.marks.c], .bool bs]) ∧ Below W.heap.size W w') (fun e w' ⟨q, b, sq, h1, h2, h3, h4⟩ => ⟨q, sq, by
      have : b = bs := by
        rw [hbs]
        unfold AtIs at h2
        cases hr : subT t is with
        | none => rw [hr] at h2; exact h2.1
        | some q' => rw [hr] at h2; exact h2.1
      rw [h1, this]; rfl, h4⟩)
  have hE0 : b = true → (∀ u ∈ ws, (subT t u).isSome = true) → E = 0 := fun h1 h2 => by rw [hE, if_pos h1, if_pos h2]
  have hE6 : b = true → (¬ ∀ u ∈ ws, (subT t u).isSome = true) → E = 6 := fun h1 h2 => by rw [hE, if_pos h1, if_neg h2]
  have hE2 : b = false → E = 2 := fun h1 => by rw [hE, h1]; rfl
  obtain ⟨tt, htt⟩ : ∃ tt, tt = t := ⟨_, rfl⟩
  rw [← htt] at ha hE0 hE6
  obtain ⟨rule, ⟨op, name, ⟨aa, an, ac⟩, ⟨fa, fn, fc⟩, label, ⟨ma, mn, mc⟩⟩, subs⟩ := t
  obtain ⟨sa, sn, sc⟩ := sv
  obtain ⟨pa, n, c⟩ := s
  have hta : PT.arr tt ⟨sa, sn, sc⟩ = #[.string rule, .int .u8 op, .string name, .slice aa an ac, .slice fa fn fc, .int .i64 label, .slice sa sn sc, .slice ma mn mc] := by rw [htt]; rfl
  simp only [hta, SL.v] at ha
  simp only [PT.arr, PT.rule, PT.o, PT.subs, SL.v] at hv ⊢
  obtain ⟨hn, hws⟩ := hw
  simp only at hn hws
  rw [← hn] at hl
  obtain ⟨G, hG⟩ : ∃ G, G = w.heap.size := ⟨_, rfl⟩
  obtain ⟨w1, hw1⟩ : ∃ w1, w1 = w.alloc (.cells #[.string rule, .int .u8 op, .string name, .slice aa an ac, .slice fa fn fc, .int .i64 label, .slice sa sn sc, .slice ma mn mc] 30) := ⟨_, rfl⟩
  have hB1 : Below w.heap.size w w1 := by rw [hw1]; exact bl_al (Below.refl _ _)
  have hx1 : w1.heap[G]? = some (.cells #[.string rule, .int .u8 op, .string name, .slice aa an ac, .slice fa fn fc, .int .i64 label, .slice sa sn sc, .slice ma mn mc] 30 (0, 0)) := by rw [hw1, hG]; exact HK.blk_new _ _
  have HV := Lib.hid (hv w1 hB1)
  have HA := Lib.hid ha
  have HN := Lib.hid hn
  have HWS := Lib.hid hws
  have HU := Lib.hid hu
  have HE0 := Lib.hid hE0
  have HE6 := Lib.hid hE6
  have HE2 := Lib.hid hE2
  have HB1 := Lib.hid hB1
  have HX1 := Lib.hid hx1
  have HW1 := Lib.hid hw1
  have HG := Lib.hid hG
  clear hs hz hu hE hv hb ha hE0 hE6 hE2 htt hta hn hws hG hw1 hB1
  go_enter Try.func19, Try.ntmps19
  go_upto_region 1 with (fail)
  rw [← HW1.out, ← HG.out]
  have x0 := HK.blk_cell hx1 0
  have x1 := HK.blk_cell hx1 1
  have x2 := HK.blk_cell hx1 2
  have x3 := HK.blk_cell hx1 3
  have x4 := HK.blk_cell hx1 4
  have x5 := HK.blk_cell hx1 5
  have x6 := HK.blk_cell hx1 6
  have x7 := HK.blk_cell hx1 7
  clear hx1
  go_upto_if 10 with (go_at_call 34; (refine HV.out.mono ?_; rintro e w2 ⟨rfl, h2⟩; have H2 := Lib.hid h2; clear h2))
  cases b with
  | false =>
    obtain rfl := HE2.out rfl
    go_wp2_with (fail)
    go_ret
    exact ⟨rfl, below_then HB1.out H2.out⟩
  | true =>
    have hx2 := (H2.out.block _ (HK.blk_lt HX1.out)).trans HX1.out
    have HX2 := Lib.hid hx2
    have HB2 := Lib.hid (below_then HB1.out H2.out)
    clear hx2 x0 x1 x2 x3 x4 x5 x6 x7
    go_upto_block 0 with (fail)
    go_wp2_with (fail)
    go_loopw [5] (fun j wr => ∃ k : Nat, k ≤ n ∧ j = .int .i64 k ∧ (∀ u ∈ ws.take k, (subT tt u).isSome = true) ∧ Below w2.heap.size w2 wr) (fun j _ => n - (intOf j).toNat)
    case atStart => exact ⟨0, by omega, rfl, by simp, Below.refl _ _⟩
    case round =>
      obtain ⟨wo, hwo⟩ : ∃ wo : World, wo = wr := ⟨_, rfl⟩
      rw [← hwo] at hrel ⊢
      clear hwo
      obtain ⟨k, hk, rfl, hall, hBr⟩ := hrel
      by_cases h1 : k < n
      · obtain ⟨u, hu⟩ : ∃ u, ws[k]? = some u := ⟨_, List.getElem?_eq_getElem (by rw [← HN.out]; omega)⟩
        obtain ⟨g, o, rfl, sl, hc1⟩ := HWS.out.resolve_left (fun e => by rw [e] at hu; simp at hu)
        obtain ⟨hcu, hui⟩ := hc1 k u hu
        have hul := HU.out u (List.mem_of_getElem? hu)
        obtain ⟨⟨ua, un, uc⟩, hsl⟩ : ∃ q : SL, q = sl k := ⟨_, rfl⟩
        rw [← hsl] at hcu hui
        simp only [SL.v] at hcu
        have hBw := below_then HB2.out hBr
        have k0 : wo.cell? ⟨g, o + k, none⟩ = some (.slice ua un uc) := cell_then hcu hBw
        have hxo := (hBr.block _ (HK.blk_lt HX2.out)).trans HX2.out
        have x0 := HK.blk_cell hxo 0
        have x1 := HK.blk_cell hxo 1
        have x2 := HK.blk_cell hxo 2
        have x3 := HK.blk_cell hxo 3
        have x4 := HK.blk_cell hxo 4
        have x5 := HK.blk_cell hxo 5
        have x6 := HK.blk_cell hxo 6
        have x7 := HK.blk_cell hxo 7
        obtain ⟨bs, hbs⟩ : ∃ bs, bs = (subT tt u).isSome := ⟨_, rfl⟩
        have hcall := fun (W : World) (hB : Below wo.heap.size wo W) => HA.out W ⟨ua, un, uc⟩ u bs hbs (below_then hBw hB) (hui.below (below_then hBw hB)) hul
        simp only at hcall
        have htk : ws.take (k + 1) = ws.take k ++ [u] := by rw [List.take_add_one, hu]; rfl
        have hmem : u ∈ ws := List.mem_of_getElem? hu
        have y1 : (0 : Int) ≤ (k : Int) := by omega
        have y2 : (k : Int) < (n : Int) := by omega
        have HBS := Lib.hid hbs
        have HTK := Lib.hid htk
        have HALL := Lib.hid hall
        have HBR := Lib.hid hBr
        have HA := Lib.hid hcall
        clear hc1 hcu hui hul hsl hBw hxo hbs hcall htk hall hBr hu
        go_upto_region 6 with (fail)
        go_cut [7] from 17 to 25 (fun v wx => v = .bool bs ∧ Below wo.heap.size wo wx)
        case first =>
          refine Go.RE.wp_region_each [18, 19, 20, 21, 22, 23, 17, 24, 25, 6, 7] (fun L x W => (Below wo.heap.size wo W) ∧ (L 0 = true → x 18 = .agg #[.string rule, .int .u8 op, .string name, .slice aa an ac, .slice fa fn fc, .int .i64 label, .slice sa sn sc, .slice ma mn mc]) ∧ (L 1 = true → x 19 = .slice (some ⟨g, o, none⟩) n c) ∧ (L 2 = true → x 20 = .int .i64 (k : Int)) ∧ (L 3 = true → x 21 = .pointer (some ⟨g, o + k, none⟩)) ∧ (L 4 = true → x 22 = .slice ua un uc) ∧ (L 5 = true → ∃ (q : PT) (sq : SL), x 23 = .tuple #[.agg #[.string q.rule, .int .u8 q.o.op, .string q.o.name, .slice q.o.args.a q.o.args.n q.o.args.c, .slice q.o.fsub.a q.o.fsub.n q.o.fsub.c, .int .i64 q.o.label, .slice sq.a sq.n sq.c, .slice q.o.marks.a q.o.marks.n q.o.marks.c], .bool bs]) ∧ (L 6 = true → ∃ (q : PT) (sq : SL), x 17 = .tuple #[.agg #[.string q.rule, .int .u8 q.o.op, .string q.o.name, .slice q.o.args.a q.o.args.n q.o.args.c, .slice q.o.fsub.a q.o.fsub.n q.o.fsub.c, .int .i64 q.o.label, .slice sq.a sq.n sq.c, .slice q.o.marks.a q.o.marks.n q.o.marks.c], .bool bs]) ∧ (L 7 = true → ∃ (q : PT) (sq : SL), x 24 = .agg #[.string q.rule, .int .u8 q.o.op, .string q.o.name, .slice q.o.args.a q.o.args.n q.o.args.c, .slice q.o.fsub.a q.o.fsub.n q.o.fsub.c, .int .i64 q.o.label, .slice sq.a sq.n sq.c, .slice q.o.marks.a q.o.marks.n q.o.marks.c]) ∧ (L 8 = true → x 25 = .bool bs) ∧ (L 9 = true → ∃ B z0 z1 z2 z3 z4 z5 z6 z7, x 6 = .pointer (some ⟨B, 0, none⟩) ∧ wo.heap.size ≤ B ∧ W.heap[B]? = some (.cells #[z0, z1, z2, z3, z4, z5, z6, z7] 30 (0, 0))) ∧ (L 10 = true → True) ∧ (L 11 = true → x 7 = .bool bs)) (by kernel_rfl) (by kernel_rfl) (by kernel_rfl) ?_ ((Go.RE.Each.cons ?_ (Go.RE.Each.cons ?_ (Go.RE.Each.cons ?_ (Go.RE.Each.cons ?_ (Go.RE.Each.cons ?_ (Go.RE.Each.cons ?_ (Go.RE.Each.cons ?_ (Go.RE.Each.cons ?_ (Go.RE.Each.cons ?_ (Go.RE.Each.cons ?_ (Go.RE.Each.cons ?_ (Go.RE.Each.cons ?_ Go.RE.Each.nil))))))))))))) ?_
          · exact fun x => ⟨bl_dr (Below.refl _ wo), fun h => (by cases h), fun h => (by cases h), fun h => (by cases h), fun h => (by cases h), fun h => (by cases h), fun h => (by cases h), fun h => (by cases h), fun h => (by cases h), fun h => (by cases h), fun h => (by cases h), fun h => (by cases h), fun h => (by cases h)⟩
          · intro L x a w K hL hd hf hx hΦ hK
            obtain ⟨hI, f0, f1, f2, f3, f4, f5, f6, f7, f8, f9, f10, f11⟩ := hΦ
            have e2 : a.tmps[2]? = some (.pointer (some ⟨G, 0, none⟩)) := hf 2 (of_decide_eq_true (by kernel_rfl))
            clear hf hx hd
            have r0 := cell_then x0 hI
            have r1 := cell_then x1 hI
            have r2 := cell_then x2 hI
            have r3 := cell_then x3 hI
            have r4 := cell_then x4 hI
            have r5 := cell_then x5 hI
            have r6 := cell_then x6 hI
            have r7 := cell_then x7 hI
            go_simp
            refine hK _ _ ?_
            exact ⟨hI, fun _ => rfl, fun h => f1 h, fun h => f2 h, fun h => f3 h, fun h => f4 h, fun h => f5 h, fun h => f6 h, fun h => f7 h, fun h => f8 h, fun h => f9 h, fun _ => trivial, fun h => f11 h⟩
          · intro L x a w K hL hd hf hx hΦ hK
            obtain ⟨hI, f0, f1, f2, f3, f4, f5, f6, f7, f8, f9, f10, f11⟩ := hΦ
            have e1 : a.tmps[1]? = some (.slice (some ⟨g, o, none⟩) n c) := hf 1 (of_decide_eq_true (by kernel_rfl))
            clear hf hx hd
            go_simp
            refine hK _ _ ?_
            exact ⟨hI, fun h => f0 h, fun _ => rfl, fun h => f2 h, fun h => f3 h, fun h => f4 h, fun h => f5 h, fun h => f6 h, fun h => f7 h, fun h => f8 h, fun h => f9 h, fun _ => trivial, fun h => f11 h⟩
          · intro L x a w K hL hd hf hx hΦ hK
            obtain ⟨hI, f0, f1, f2, f3, f4, f5, f6, f7, f8, f9, f10, f11⟩ := hΦ
            have e5 : a.tmps[5]? = some (.int .i64 (k : Int)) := hf 5 (of_decide_eq_true (by kernel_rfl))
            clear hf hx hd
            go_simp
            refine hK _ _ ?_
            exact ⟨hI, fun h => f0 h, fun h => f1 h, fun _ => rfl, fun h => f3 h, fun h => f4 h, fun h => f5 h, fun h => f6 h, fun h => f7 h, fun h => f8 h, fun h => f9 h, fun _ => trivial, fun h => f11 h⟩
          · intro L x a w K hL hd hf hx hΦ hK
            obtain ⟨hI, f0, f1, f2, f3, f4, f5, f6, f7, f8, f9, f10, f11⟩ := hΦ
            have d1 := f1 (hd 1 (by kernel_rfl))
            have e19 : a.tmps[19]? = some (x 19) := hx 1 _ 19 rfl rfl (hd 1 (by kernel_rfl))
            have d2 := f2 (hd 2 (by kernel_rfl))
            have e20 : a.tmps[20]? = some (x 20) := hx 2 _ 20 rfl rfl (hd 2 (by kernel_rfl))
            clear hf hx hd
            rw [d1] at e19
            rw [d2] at e20
            go_simp
            refine hK _ _ ?_
            exact ⟨hI, fun h => f0 h, fun h => f1 h, fun h => f2 h, fun _ => rfl, fun h => f4 h, fun h => f5 h, fun h => f6 h, fun h => f7 h, fun h => f8 h, fun h => f9 h, fun _ => trivial, fun h => f11 h⟩
          · intro L x a w K hL hd hf hx hΦ hK
            obtain ⟨hI, f0, f1, f2, f3, f4, f5, f6, f7, f8, f9, f10, f11⟩ := hΦ
            have d3 := f3 (hd 3 (by kernel_rfl))
            have e21 : a.tmps[21]? = some (x 21) := hx 3 _ 21 rfl rfl (hd 3 (by kernel_rfl))
            clear hf hx hd
            rw [d3] at e21
            have rk := cell_then k0 hI
            go_simp
            refine hK _ _ ?_
            exact ⟨hI, fun h => f0 h, fun h => f1 h, fun h => f2 h, fun h => f3 h, fun _ => rfl, fun h => f5 h, fun h => f6 h, fun h => f7 h, fun h => f8 h, fun h => f9 h, fun _ => trivial, fun h => f11 h⟩
          · intro L x a w K hL hd hf hx hΦ hK
            obtain ⟨hI, f0, f1, f2, f3, f4, f5, f6, f7, f8, f9, f10, f11⟩ := hΦ
            have d0 := f0 (hd 0 (by kernel_rfl))
            have e18 : a.tmps[18]? = some (x 18) := hx 0 _ 18 rfl rfl (hd 0 (by kernel_rfl))
            have d4 := f4 (hd 4 (by kernel_rfl))
            have e22 : a.tmps[22]? = some (x 22) := hx 4 _ 22 rfl rfl (hd 4 (by kernel_rfl))
            clear hf hx hd
            rw [d0] at e18
            rw [d4] at e22
            go_simp
            go_at_call 33
            refine (HA.out w hI).mono ?_
            rintro e w' ⟨q, sq, rfl, hB8⟩
            simp only
            refine hK _ _ ?_
            exact ⟨below_then hI hB8, fun h => f0 h, fun h => f1 h, fun h => f2 h, fun h => f3 h, fun h => f4 h, fun _ => ⟨q, sq, rfl⟩, fun h => f6 h, fun h => f7 h, fun h => f8 h, fun h => box_up hB8 (f9 h), fun _ => trivial, fun h => f11 h⟩
          · intro L x a w K hL hd hf hx hΦ hK
            obtain ⟨hI, f0, f1, f2, f3, f4, f5, f6, f7, f8, f9, f10, f11⟩ := hΦ
            have d5 := f5 (hd 5 (by kernel_rfl))
            have e23 : a.tmps[23]? = some (x 23) := hx 5 _ 23 rfl rfl (hd 5 (by kernel_rfl))
            clear hf hx hd
            obtain ⟨q, sq, hq⟩ := d5
            rw [hq] at e23
            go_simp
            refine hK _ _ ?_
            exact ⟨hI, fun h => f0 h, fun h => f1 h, fun h => f2 h, fun h => f3 h, fun h => f4 h, fun h => f5 h, fun _ => ⟨q, sq, rfl⟩, fun h => f7 h, fun h => f8 h, fun h => f9 h, fun _ => trivial, fun h => f11 h⟩
          · intro L x a w K hL hd hf hx hΦ hK
            obtain ⟨hI, f0, f1, f2, f3, f4, f5, f6, f7, f8, f9, f10, f11⟩ := hΦ
            have d6 := f6 (hd 6 (by kernel_rfl))
            have e17 : a.tmps[17]? = some (x 17) := hx 6 _ 17 rfl rfl (hd 6 (by kernel_rfl))
            clear hf hx hd
            obtain ⟨q, sq, hq⟩ := d6
            rw [hq] at e17
            go_simp
            refine hK _ _ ?_
            exact ⟨hI, fun h => f0 h, fun h => f1 h, fun h => f2 h, fun h => f3 h, fun h => f4 h, fun h => f5 h, fun h => f6 h, fun _ => ⟨q, sq, rfl⟩, fun h => f8 h, fun h => f9 h, fun _ => trivial, fun h => f11 h⟩
          · intro L x a w K hL hd hf hx hΦ hK
            obtain ⟨hI, f0, f1, f2, f3, f4, f5, f6, f7, f8, f9, f10, f11⟩ := hΦ
            have d6 := f6 (hd 6 (by kernel_rfl))
            have e17 : a.tmps[17]? = some (x 17) := hx 6 _ 17 rfl rfl (hd 6 (by kernel_rfl))
            clear hf hx hd
            obtain ⟨q, sq, hq⟩ := d6
            rw [hq] at e17
            go_simp
            refine hK _ _ ?_
            exact ⟨hI, fun h => f0 h, fun h => f1 h, fun h => f2 h, fun h => f3 h, fun h => f4 h, fun h => f5 h, fun h => f6 h, fun h => f7 h, fun _ => rfl, fun h => f9 h, fun _ => trivial, fun h => f11 h⟩
          · intro L x a w K hL hd hf hx hΦ hK
            obtain ⟨hI, f0, f1, f2, f3, f4, f5, f6, f7, f8, f9, f10, f11⟩ := hΦ
            clear hf hx hd
            go_simp
            refine hK _ _ ?_
            exact ⟨bl_al hI, fun h => f0 h, fun h => f1 h, fun h => f2 h, fun h => f3 h, fun h => f4 h, fun h => f5 h, fun h => f6 h, fun h => f7 h, fun h => f8 h, fun _ => ⟨_, _, _, _, _, _, _, _, _, rfl, hI.size, HK.blk_new _ _⟩, fun _ => trivial, fun h => f11 h⟩
          · intro L x a w K hL hd hf hx hΦ hK
            obtain ⟨hI, f0, f1, f2, f3, f4, f5, f6, f7, f8, f9, f10, f11⟩ := hΦ
            have d7 := f7 (hd 7 (by kernel_rfl))
            have e24 : a.tmps[24]? = some (x 24) := hx 7 _ 24 rfl rfl (hd 7 (by kernel_rfl))
            have d9 := f9 (hd 9 (by kernel_rfl))
            have e6 : a.tmps[6]? = some (x 6) := hx 9 _ 6 rfl rfl (hd 9 (by kernel_rfl))
            clear hf hx hd
            obtain ⟨q, sq, hq⟩ := d7
            obtain ⟨B, z0, z1, z2, z3, z4, z5, z6, z7, hb, hBl, hbx⟩ := d9
            rw [hq] at e24
            rw [hb] at e6
            have c0 := HK.blk_cell hbx 0
            have c1 := HK.blk_cell hbx 1
            have c2 := HK.blk_cell hbx 2
            have c3 := HK.blk_cell hbx 3
            have c4 := HK.blk_cell hbx 4
            have c5 := HK.blk_cell hbx 5
            have c6 := HK.blk_cell hbx 6
            have c7 := HK.blk_cell hbx 7
            have cf := fun i => HK.blk_frozen hbx i
            go_simp
            refine hK undef _ ?_
            exact ⟨below_set8 hI hBl rfl, fun h => f0 h, fun h => f1 h, fun h => f2 h, fun h => f3 h, fun h => f4 h, fun h => f5 h, fun h => f6 h, fun h => f7 h, fun h => f8 h, fun h => ⟨B, _, _, _, _, _, _, _, _, hb, hBl, set8 hbx _ _ _ _ _ _ _ _⟩, fun _ => trivial, fun h => f11 h⟩
          · intro L x a w K hL hd hf hx hΦ hK
            obtain ⟨hI, f0, f1, f2, f3, f4, f5, f6, f7, f8, f9, f10, f11⟩ := hΦ
            have d8 := f8 (hd 8 (by kernel_rfl))
            have e25 : a.tmps[25]? = some (x 25) := hx 8 _ 25 rfl rfl (hd 8 (by kernel_rfl))
            clear hf hx hd
            rw [d8] at e25
            go_simp
            refine hK _ _ ?_
            exact ⟨hI, fun h => f0 h, fun h => f1 h, fun h => f2 h, fun h => f3 h, fun h => f4 h, fun h => f5 h, fun h => f6 h, fun h => f7 h, fun h => f8 h, fun h => f9 h, fun _ => trivial, fun _ => rfl⟩
          · rintro x W ⟨hI, f0, f1, f2, f3, f4, f5, f6, f7, f8, f9, f10, f11⟩
            have h11 := f11 (by kernel_rfl)
            simp only [Exit.then]
            go_step
            go_meet
            case rel => exact ⟨h11, hI⟩
        case rest =>
          obtain ⟨rfl, hB5⟩ := hcut
          have H5 := Lib.hid hB5
          clear hB5
          cases bs with
          | true =>
            go_wp2_with (fail)
            go_roundw
            case rel =>
              refine ⟨k + 1, by omega, by go_num, ?_, below_then HBR.out H5.out⟩
              intro u' hu'
              rw [HTK.out, List.mem_append] at hu'
              rcases hu' with h | h
              · exact HALL.out u' h
              · rw [List.mem_singleton.1 h]; exact HBS.out.symm
            case measure => simp [intOf]; omega
          | false =>
            obtain rfl := HE6.out (by trivial) (fun h => by have h3 := h u hmem; rw [← HBS.out] at h3; cases h3)
            go_wp2_with (fail)
            go_ret
            exact ⟨rfl, below_then HB2.out (below_then HBR.out H5.out)⟩
      · have hkn : k = n := by omega
        obtain rfl := HE0.out (by trivial) (fun u hu => by
          have h3 := hall u
          rw [List.take_of_length_le (by rw [← HN.out]; omega)] at h3
          exact h3 hu)
        have y1 : ¬ ((k : Int) < (n : Int)) := by omega
        have HBR := Lib.hid hBr
        clear hkn hall hBr
        go_wp2_with (fail)
        go_ret
        exact ⟨rfl, below_then HB2.out HBR.out⟩
end Go.Proofs.Ytfebcpmbkljaoaa
namespace Go.Proofs.Ytfebcpmbkljaoaa
open Go.RowKit Go.HR
set_option linter.unusedVariables false
set_option linter.unusedSimpArgs false
set_option linter.unusedSectionVars false
theorem elem83 : HK.ElemOk Try.prog 47 83 2 32 := HK.ElemOk.mk' (z := .agg #[.slice none 0 0, .int .i64 0]) Try.underlying47 (by kernel_rfl) rfl (by decide)
/-- Goals of the reference in memory. -/
def IsG8 (W : World) (base : Nat) (v : Value) (gs : List StepV) : Prop := W.ownsRow base 83 2 v gs.length (flatG gs) ∧ (gs = [] → v = .slice none 0 0) ∧ ∀ x ∈ gs, PlaceB W x.pv x.d.pl
theorem IsG8.below {W W' : World} {base : Nat} {v : Value} {gs : List StepV} (h : IsG8 W base v gs) (hb : Below W.heap.size W W') : IsG8 W' base v gs :=
  ⟨own_below h.1 hb, h.2.1, fun x hx => place_up (h.2.2 x hx) hb⟩
theorem IsG8.mono {W : World} {b b' : Nat} {v : Value} {gs : List StepV} (h : IsG8 W b v gs) (hb : b' ≤ b) : IsG8 W b' v gs := by
  refine ⟨⟨h.1.1, ?_⟩, h.2⟩
  rcases h.1.2 with h0 | ⟨g, cap, cur, hv, hg, r⟩
  · exact .inl h0
  · exact .inr ⟨g, cap, cur, hv, Nat.le_trans hb hg, r⟩
def RetGs (w : World) (r : List StepD × Nat) (e : Ending) (w' : World) : Prop :=
  ∃ v gs, e = .returned (.tuple #[v, .int .i64 (r.2 : Nat)]) ∧ gs.map (·.d) = r.1 ∧ IsG8 w' w.heap.size v gs ∧ Below w.heap.size w w'
theorem goalsF_more {bad : StepD → Bool} {pl : List Nat} {w k : Nat} {ts : List PT} {q : PT} (h : ts[k]? = some q) :
    (goalsF bad pl w 0 (ts.take (k + 1))).1 = (goalsF bad pl w 0 (ts.take k)).1 ++ (goalsT bad (pl ++ [k]) w q).1 ∧ (goalsF bad pl w 0 (ts.take (k + 1))).2 = (goalsF bad pl w 0 (ts.take k)).2 + (goalsT bad (pl ++ [k]) w q).2 := by
  have hk : (ts.take k).length = k := by
    have := (List.getElem?_eq_some_iff.1 h).1
    simp; omega
  rw [List.take_add_one, h]
  show (goalsF bad pl w 0 (ts.take k ++ [q])).1 = _ ∧ (goalsF bad pl w 0 (ts.take k ++ [q])).2 = _
  rw [goalsF_append, hk]
  simp [goalsF]
mutual
theorem goalsT_cnt (bad : StepD → Bool) (pl : List Nat) (w : Nat) : ∀ t : PT, (goalsT bad pl w t).2 ≤ sizeT t ∧ (goalsT bad pl w t).1.length ≤ sizeT t
  | .node r o s => by
    have := goalsF_cnt bad pl (w / (2 * s.length)) 0 s
    simp only [goalsT, sizeT]
    split
    · simp
    · simp; omega
theorem goalsF_cnt (bad : StepD → Bool) (pl : List Nat) (w i : Nat) : ∀ ts : List PT, (goalsF bad pl w i ts).2 ≤ sizeF ts ∧ (goalsF bad pl w i ts).1.length ≤ sizeF ts
  | [] => by simp [goalsF, sizeF]
  | t :: ts => by
    have h1 := goalsT_cnt bad (pl ++ [i]) w t
    have h2 := goalsF_cnt bad pl w (i + 1) ts
    simp only [goalsF, sizeF, List.length_append]
    omega
end
theorem run_appnn {P : Program} {w : World} {t ty e size bytes : Nat} (E : HK.ElemOk P t e size bytes) : (Builtin.append_ #[t, t] ty #[.slice none 0 0, .slice none 0 0]).run P w = .ok (.slice none 0 0) w := by
  obtain ⟨ht, i, z, hi, h0, h2, h3, h4, h5⟩ := E
  simp [Builtin.append_, run_underlying ht, sizeOf, typeInfo, hi, Builtin.lenOf, Builtin.firstCells, storeCells]
theorem step_appnn {P : Program} {w : World} {ops : Array Oper} {o : Oper} {a : Act} {Q : Exit → Act → World → Prop} {K : Act → World → Prop} {R : Prop} (d : Nat) (hd : o.dst = some d) (hgd : o.guard = none) {t e size bytes : Nat} (E : HK.ElemOk P t e size bytes) (s x : Operand)
    (ho : o.op = .call { callee := .builtin .append, args := #[s, x], argTypes := #[t, t] }) (hs : a.eval s = .slice none 0 0) (hx : a.eval x = .slice none 0 0)
    (h : K (a.put o.dst (.slice none 0 0)) w) : if Region.wanted o (yielded ops a.tmps) = true then Oper.wp P o a w K Q else R := by
  rw [if_pos (by simp [Region.wanted, hgd])]
  have hr := run_appnn (w := w) (ty := o.type) E
  unfold Oper.wp execOp
  simp only [ho, resolve, invoke, builtin, Sem.run_bind, Sem.run_pure, Result.andThen_ok, List.map_toArray, List.map_cons, List.map_nil, hs, hx, hr]
  exact h
theorem flatG_app (gs hs : List StepV) : flatG (gs ++ hs) = flatG gs ++ flatG hs := by simp [flatG]
theorem flatG_length (gs : List StepV) : (flatG gs).length = gs.length * 2 := by
  induction gs with
  | nil => rfl
  | cons g gs ih => show (_ ++ flatG gs).length = _; rw [List.length_append, ih]; simp; omega
theorem flatG_one {hs : List StepV} (u : Value) (hu : u ∈ flatG hs) : u.oneCell' = true := by
  simp only [flatG, List.mem_flatMap] at hu
  obtain ⟨x, _, hx⟩ := hu
  simp only [List.mem_cons, List.not_mem_nil, or_false] at hx
  rcases hx with rfl | rfl <;> rfl
theorem place_grownE {W W' : World} {b n e sz : Nat} {v : Value} {xs : List Value} {s : SL} {pl : List Nat} (hne : e ≠ 3) (hv : W.ownsRow b e sz v n xs) (hg : W.grownBy W' v.ownBlock) (hp : PlaceB W s pl) : PlaceB W' s pl := by
  refine hp.same fun k hk => hg.block k (hp.lt hk) fun h => ?_
  rcases hv.2 with ⟨h0, _⟩ | ⟨g, cap, cur, hv', _, hh, _⟩
  · rw [h0] at h; simp [Value.ownBlock] at h
  · rw [hv'] at h
    simp only [Value.ownBlock, Option.some.injEq] at h
    subst h
    rcases hp.2 with ⟨h0, _⟩ | ⟨g', cap', cur', hv2, _, hh', _⟩
    · rw [h0] at hk; simp [Value.ownBlock] at hk
    · rw [hv2] at hk
      simp only [Value.ownBlock, Option.some.injEq] at hk
      subst hk
      rw [hh] at hh'
      simp only [Option.some.injEq, Obj.cells.injEq] at hh'
      exact hne hh'.2.1
theorem IsG8.app {W W' W0 : World} {b g cap : Nat} {v : Value} {gs hs : List StepV} (h : IsG8 W b v gs) (h2 : ∀ x ∈ hs, PlaceB W x.pv x.d.pl) (hne : hs ≠ []) (hb : b ≤ W.heap.size)
    (hown : W'.ownsRow 0 83 2 (.slice (some ⟨g, 0, none⟩) (gs.length + hs.length) cap) (gs.length + hs.length) (flatG gs ++ flatG hs)) (hg : W.grownBy W' v.ownBlock) (hat : v.ownBlock = some g ∨ g = W.heap.size) :
    IsG8 W' b (.slice (some ⟨g, 0, none⟩) (gs.length + hs.length) cap) (gs ++ hs) := by
  have hbg : b ≤ g := by
    rcases hat with h1 | h1
    · rcases h.1.2 with ⟨h0, _⟩ | ⟨g', cap', cur, hv, hg', _⟩
      · rw [h0] at h1; simp [Value.ownBlock] at h1
      · rw [hv] at h1; simp only [Value.ownBlock, Option.some.injEq] at h1; omega
    · omega
  refine ⟨?_, fun e => ?_, fun x hx => ?_⟩
  · rw [List.length_append, flatG_app]
    refine ⟨hown.1, ?_⟩
    rcases hown.2 with ⟨h0, _⟩ | ⟨g', cap', cur, hv, _, r⟩
    · cases h0
    · have hgg := hv
      simp only [Value.slice.injEq, Option.some.injEq, Addr.mk.injEq] at hgg
      exact .inr ⟨g', cap', cur, hv, by rw [← hgg.1.1]; exact hbg, r⟩
  · exact absurd (List.append_eq_nil_iff.1 e).2 hne
  · rcases List.mem_append.1 hx with h3 | h3
    · exact place_grownE (by decide) h.1 hg (h.2.2 x h3)
    · exact place_grownE (by decide) h.1 hg (h2 x h3)
def GoalsOk (t : PT) : Prop := ∀ (w : World) (sv s sw : SL) (pl : List Nat) (wt : Nat) (ws : List (List Int)), IsPs w.heap.size w sv t.subs → PlaceB w s pl → pl.length + sizeT t ≤ 10000 → wt ≤ 1152921504606846976 → IsW w sw ws → ws.length ≤ 20000 → (∀ u ∈ ws, u.length ≤ 20000) →
  Calls Try.prog 20 #[.agg (t.arr sv), s.v, .int .i64 (wt : Nat), sw.v] w (RetGs w (goalsT (badD ws) pl wt t))
set_option maxRecDepth 100000 in
set_option maxHeartbeats 16000000 in
theorem goals_of (t : PT) (he : ∀ (i : Nat) q, t.subs[i]? = some q → GoalsOk q) : GoalsOk t := by
  intro w sv s sw pl wt ws hs hp hz hwt hw hwl hwu
  have hln := hs.len
  have hsz := sizeT_eq t
  have hbd : badD ws ⟨pl, wt, t⟩ = decide (natI pl ∈ ws) := rfl
  have hpn := hp.sn
  have hhas := fun (W : World) (hB : Below w.heap.size w W) => has_call W sw s ws (natI pl) (hw.below hB) (place_up hp hB).isI hwl hwu (by simp [natI]; omega)
  obtain ⟨tt, htt⟩ : ∃ tt, tt = t := ⟨_, rfl⟩
  have hgt : goalsT (badD ws) pl wt tt = if badD ws ⟨pl, wt, tt⟩ || decide (tt.rule = ⟨#[63]⟩) then ([⟨pl, wt, tt⟩], 0) else ((goalsF (badD ws) pl (wt / (2 * tt.subs.length)) 0 tt.subs).1, 1 + (goalsF (badD ws) pl (wt / (2 * tt.subs.length)) 0 tt.subs).2) := by
    cases tt; rfl
  rw [← htt] at hbd hsz hz ⊢
  obtain ⟨rule, ⟨op, name, ⟨aa, an, ac⟩, ⟨fa, fn, fc⟩, label, ⟨ma, mn, mc⟩⟩, subs⟩ := t
  obtain ⟨sa, sn, sc⟩ := sv
  obtain ⟨pa, pn, pc⟩ := s
  obtain ⟨wa, wn, we⟩ := sw
  have hta : PT.arr tt ⟨sa, sn, sc⟩ = #[.string rule, .int .u8 op, .string name, .slice aa an ac, .slice fa fn fc, .int .i64 label, .slice sa sn sc, .slice ma mn mc] := by rw [htt]; rfl
  have htr : tt.rule = rule := by rw [htt]; rfl
  have hts : tt.subs = subs := by rw [htt]; rfl
  simp only [PT.subs] at hs he hln
  rw [hts] at hgt hsz
  rw [htr, hbd] at hgt
  simp only [hta, SL.v] at hhas hpn ⊢
  unfold RetD at hhas
  have hsn : sn ≤ 10000 := by have := sizeF_len subs; omega
  obtain ⟨bb, hbb⟩ : ∃ bb, bb = decide (natI pl ∈ ws) := ⟨_, rfl⟩
  rw [← hbb] at hgt hhas
  obtain ⟨bh, hbh⟩ : ∃ bh : Bool, bh = (rule.toList == [63]) := ⟨_, rfl⟩
  have e1 : (rule.toList == [63]) = bh := hbh.symm
  rw [← rule_hole rule, ← hbh] at hgt
  obtain ⟨R, hR⟩ : ∃ R, R = goalsT (badD ws) pl wt tt := ⟨_, rfl⟩
  rw [← hR] at hgt ⊢
  obtain ⟨G, hG⟩ : ∃ G, G = w.heap.size := ⟨_, rfl⟩
  obtain ⟨w1, hw1⟩ : ∃ w1, w1 = w.alloc (.cells #[.string rule, .int .u8 op, .string name, .slice aa an ac, .slice fa fn fc, .int .i64 label, .slice sa sn sc, .slice ma mn mc] 30) := ⟨_, rfl⟩
  have hB1 : Below w.heap.size w w1 := by rw [hw1]; exact bl_al (Below.refl _ _)
  have hx1 : w1.heap[G]? = some (.cells #[.string rule, .int .u8 op, .string name, .slice aa an ac, .slice fa fn fc, .int .i64 label, .slice sa sn sc, .slice ma mn mc] 30 (0, 0)) := by rw [hw1, hG]; exact HK.blk_new _ _
  have HH := Lib.hid (hhas w1 hB1)
  have HGT := Lib.hid hgt
  have HS := Lib.hid hs
  have HE := Lib.hid he
  have HLN := Lib.hid hln
  have HSZ := Lib.hid hsz
  have HPN := Lib.hid hpn
  have HP := Lib.hid hp
  have HWI := Lib.hid hw
  have HWU := Lib.hid hwu
  have HB1 := Lib.hid hB1
  have HX1 := Lib.hid hx1
  have HW1 := Lib.hid hw1
  have HG := Lib.hid hG
  have hpl : pn ≤ 10000 := by omega
  have hplz : pl.length + sizeF subs ≤ 9999 := by omega
  clear hhas hgt hs he hln hsz hpn hp hw hwu hB1 hw1 hG hbd htt hta htr hts hbb hbh hR hz
  go_enter Try.func20, Try.ntmps20
  go_upto_region 1 with (fail)
  rw [← HW1.out, ← HG.out]
  go_cut [22] from 15 to 22 (fun v wx => v = .bool (bh || bb) ∧ ∃ d, wx = w1.drewN d)
  case first =>
    have x0 := HK.blk_cell hx1 0
    clear hx1
    cases bh with
    | true =>
      go_wp2_with (fail)
      go_meet
      case rel => exact ⟨rfl, 0, rfl⟩
    | false =>
      go_wp2_with (go_at_call 44; (refine HH.out.mono ?_; rintro e w2 ⟨rfl, d, rfl⟩))
      go_meet
      case rel => exact ⟨by simp, d, rfl⟩
  case rest =>
    obtain ⟨rfl, d, hwc⟩ := hcut
    obtain ⟨w2, hw2⟩ : ∃ w2 : World, w2 = wc := ⟨_, rfl⟩
    rw [← hw2]
    have hwd : w2 = w1.drewN d := hw2.trans hwc
    have hB2 : Below w.heap.size w w2 := by rw [hwd]; exact HB1.out.trans ⟨rfl, rfl, rfl, Nat.le_refl _, fun _ _ => rfl⟩
    have hx2 : w2.heap[G]? = some (.cells #[.string rule, .int .u8 op, .string name, .slice aa an ac, .slice fa fn fc, .int .i64 label, .slice sa sn sc, .slice ma mn mc] 30 (0, 0)) := by rw [hwd]; exact HX1.out
    have HB2 := Lib.hid hB2
    have HX2 := Lib.hid hx2
    clear hwc hw2 hwd hB2 hx2 hx1 e1
    obtain ⟨bo, hbo⟩ : ∃ bo, bo = (bh || bb) := ⟨_, rfl⟩
    rw [← hbo]
    have HBO := Lib.hid hbo
    clear hbo
    cases bo with
    | true =>
      have hRe : R = ([⟨pl, wt, tt⟩], 0) := by rw [HGT.out, Bool.or_comm, ← HBO.out]; rfl
      have HRE := Lib.hid hRe
      clear hRe
      have hpl2 := fun (W : World) (hB : Below w2.heap.size w2 W) => place_up HP.out (below_then HB2.out hB)
      have HPL := Lib.hid hpl2
      clear hpl2
      go_wp2_with (first
        | (refine wpList_step fun K hK => ?_
           refine step_place 25 (by rfl) (by rfl) _ _ (by rfl) w2.heap.size (by rfl) (HK.blk_new _ _) pa pn pc pl (by rfl) (HPL.out _ (bl_al (Below.refl _ _))) (by omega) ?_
           intro g3 c3 w3 hown hgrow hat
           refine hK _ _ ?_
           have HO := Lib.hid hown
           have HGR := Lib.hid hgrow
           clear hown hgrow hat hK K))
      go_ret2
      have hb3 : Below w.heap.size w w3 := grown_below (below_then HB2.out (bl_al (Below.refl _ _))) HGR.out HB2.out.size
      refine ⟨_, [⟨⟨pl, wt, tt⟩, ⟨some ⟨g3, 0, none⟩, pn, c3⟩, SL.nil⟩], by rw [HRE.out]; rfl, by rw [HRE.out]; rfl, ⟨⟨rfl, .inr ⟨w3.heap.size, 1, #[.slice (some ⟨g3, 0, none⟩) pn c3, .int .i64 wt], rfl, hb3.size, HK.blk_new _ _, Nat.le_refl _, by simp [maxLen], rfl, rfl⟩⟩, (fun h => nomatch h), fun x hx => ?_⟩, bl_al hb3⟩
      rw [List.mem_singleton.1 hx]
      unfold PlaceB
      show (w3.alloc _).ownsRow 0 3 1 (.slice (some ⟨g3, 0, none⟩) pn c3) pl.length (ints pl)
      rw [← HPN.out]
      exact own_below HO.out (bl_al (Below.refl _ _))
    | false =>
      obtain ⟨wq, hwq⟩ : ∃ wq, wq = wt / (2 * subs.length) := ⟨_, rfl⟩
      have hRe : R = ((goalsF (badD ws) pl wq 0 subs).1, 1 + (goalsF (badD ws) pl wq 0 subs).2) := by rw [HGT.out, Bool.or_comm, ← HBO.out, hwq]; rfl
      have HRE := Lib.hid hRe
      have hwq2 : wq = wt / (2 * sn) := by rw [hwq, HLN.out]
      have hwqt : wq ≤ wt := by rw [hwq]; exact Nat.div_le_self _ _
      have HWQ := Lib.hid hwq2
      have HWQT := Lib.hid hwqt
      clear hRe hwq hwq2 hwqt
      go_upto_block 0 with (fail)
      go_wp2_with (fail)
      go_loopw [10, 11, 12] (fun ov nv jv wr => ∃ (k m : Nat) (gs : List StepV), k ≤ sn ∧ jv = .int .i64 k ∧ nv = .int .i64 m ∧ gs.map (·.d) = (goalsF (badD ws) pl wq 0 (subs.take k)).1 ∧ m = 1 + (goalsF (badD ws) pl wq 0 (subs.take k)).2 ∧ IsG8 wr w2.heap.size ov gs ∧ Below w2.heap.size w2 wr) (fun _ _ j _ => sn - (intOf j).toNat)
      case atStart => exact ⟨0, 1, [], by omega, rfl, rfl, rfl, rfl, ⟨World.ownsRow_nil _ _ _ _, fun _ => rfl, fun x hx => by cases hx⟩, Below.refl _ _⟩
      case round =>
        obtain ⟨wo, hwo⟩ : ∃ wo : World, wo = wr := ⟨_, rfl⟩
        rw [← hwo] at hrel ⊢
        clear hwo
        obtain ⟨k, m, gs, hk, rfl, rfl, hgs, hme, hig, hBr⟩ := hrel
        have hxo := (hBr.block _ (HK.blk_lt HX2.out)).trans HX2.out
        have x6 := HK.blk_cell hxo 6
        simp only [List.getElem?_toArray, List.getElem?_cons_succ, List.getElem?_cons_zero] at x6
        have hBw := below_then HB2.out hBr
        clear hxo
        by_cases h1 : k < sn
        · obtain ⟨q, hq⟩ : ∃ q, subs[k]? = some q := ⟨_, List.getElem?_eq_getElem (by rw [← HLN.out]; exact h1)⟩
          obtain ⟨g, o, s', ha, hg, hpc, hps⟩ := psAt HS.out hq
          subst ha
          obtain ⟨ta, tn, tc⟩ := s'
          have hsq := sizeF_mem hq
          have hmore := goalsF_more (bad := badD ws) (pl := pl) (w := wq) hq
          obtain ⟨RG, hRG⟩ : ∃ RG, RG = goalsT (badD ws) (pl ++ [k]) wq q := ⟨_, rfl⟩
          have hRGc := goalsT_cnt (badD ws) (pl ++ [k]) wq q
          rw [← hRG] at hRGc hmore
          have hc := fun (W : World) (s' : SL) (hB : Below wo.heap.size wo W) (hp' : PlaceB W s' (pl ++ [k])) => HE.out k q hq W ⟨ta, tn, tc⟩ s' ⟨wa, wn, we⟩ (pl ++ [k]) wq ws (hps.up (below_then hBw hB)) hp' (by simp only [List.length_append, List.length_singleton]; omega) (by have := HWQT.out; omega) (HWI.out.below (below_then hBw hB)) hwl HWU.out
          unfold RetGs at hc
          rw [← hRG] at hc
          simp only [PT.arr, SL.v] at hc
          have hpc2 := fun (j : Nat) (v : Value) (h : (q.vals ⟨ta, tn, tc⟩)[j]? = some v) => cell_then (hpc j v h) hBw
          have hpl3 := place_up HP.out hBw
          obtain ⟨rg2, hrg2⟩ : ∃ rg2, rg2 = RG.2 := ⟨_, rfl⟩
          have HC := Lib.hid hc
          have HPC := Lib.hid hpc2
          have HPL := Lib.hid hpl3
          have HMORE := Lib.hid hmore
          have HGS := Lib.hid hgs
          have HME := Lib.hid hme
          have HIG := Lib.hid hig
          have HBR := Lib.hid hBr
          have hq1 : (wt : Int) / (2 * (sn : Int)) = (wq : Int) := by rw [HWQ.out, Int.natCast_ediv]; rfl
          have hq2 : (wt : Int).tdiv (2 * (sn : Int)) = (wq : Int) := by rw [Int.tdiv_eq_ediv_of_nonneg (by omega)]; exact hq1
          have HQ1 := Lib.hid hq1
          have HQ2 := Lib.hid hq2
          have HRGC := Lib.hid hRGc
          have HSQ := Lib.hid hsq
          have z0 : (0 : Int) ≤ (k : Int) := by omega
          have z1 : (k : Int) < (sn : Int) := by omega
          have hwqb : wq ≤ 1152921504606846976 := by have := HWQT.out; omega
          have HQ := Lib.hid hq
          clear hq1 hq2 hc hpc hpc2 hps hg hsq hmore hRGc hpl3 hgs hme hig hBr hBw hq hRG hrg2
          go_upto_region 8 with (fail)
          go_cut [13, 14] from 36 to 57 (fun v c wx => ∃ hs : List StepV, c = .int .i64 ((RG.2 : Nat) : Int) ∧ hs.map (·.d) = RG.1 ∧ IsG8 wx wo.heap.size v hs ∧ Below wo.heap.size wo wx)
          case first =>
            refine Go.RE.wp_region_each [37, 38, 39, 40, 41, 42, 43, 44, 45, 46, 47, 48, 49, 50, 51, 52, 53, 54, 55, 36, 56, 57, 13, 14] (fun L x W => (Below wo.heap.size wo W) ∧ (L 0 = true → x 37 = .pointer (some ⟨G, 6, none⟩)) ∧ (L 1 = true → x 38 = .slice (some ⟨g, o, none⟩) sn sc) ∧ (L 2 = true → x 39 = .int .i64 (k : Int)) ∧ (L 3 = true → x 40 = .pointer (some ⟨g, o + k * 8, none⟩)) ∧ (L 4 = true → x 41 = .agg #[.string q.rule, .int .u8 q.o.op, .string q.o.name, .slice q.o.args.a q.o.args.n q.o.args.c, .slice q.o.fsub.a q.o.fsub.n q.o.fsub.c, .int .i64 q.o.label, .slice ta tn tc, .slice q.o.marks.a q.o.marks.n q.o.marks.c]) ∧ (L 5 = true → ∃ e, x 42 = .slice (some ⟨e, 0, none⟩) 0 0 ∧ wo.heap.size ≤ e ∧ (L 7 = true ∨ W.heap[e]? = some (.cells #[] 3 (0, 0)))) ∧ (L 6 = true → x 43 = .slice pa pn pc) ∧ (L 7 = true → ∃ e c, x 44 = .slice (some ⟨e, 0, none⟩) pn c ∧ wo.heap.size ≤ e ∧ (L 10 = true ∨ W.ownsRow 0 3 1 (.slice (some ⟨e, 0, none⟩) pn c) pn (ints pl))) ∧ (L 8 = true → x 45 = .int .i64 (k : Int)) ∧ (L 9 = true → ∃ e, x 46 = .slice (some ⟨e, 0, none⟩) 1 1 ∧ (L 10 = true ∨ W.heap[e]? = some (.cells #[.int .i64 (k : Int)] 3 (0, 0)))) ∧ (L 10 = true → L 7 = true ∧ (∃ e c, x 47 = .slice (some ⟨e, 0, none⟩) (pn + 1) c ∧ (L 18 = true ∨ W.ownsRow 0 3 1 (.slice (some ⟨e, 0, none⟩) (pn + 1) c) (pn + 1) (ints (pl ++ [k]))))) ∧ (L 11 = true → x 48 = .int .i64 (wt : Int)) ∧ (L 12 = true → x 49 = .pointer (some ⟨G, 6, none⟩)) ∧ (L 13 = true → x 50 = .slice (some ⟨g, o, none⟩) sn sc) ∧ (L 14 = true → x 51 = .int .i64 (sn : Int)) ∧ (L 15 = true → x 52 = .int .i64 (2 * (sn : Int))) ∧ (L 16 = true → x 53 = .int .i64 (wq : Int)) ∧ (L 17 = true → x 54 = .slice wa wn we) ∧ (L 18 = true → L 7 = true ∧ L 10 = true ∧ (∃ (v : Value) (hs : List StepV), x 55 = .tuple #[v, .int .i64 ((RG.2 : Nat) : Int)] ∧ hs.map (·.d) = RG.1 ∧ IsG8 W wo.heap.size v hs)) ∧ (L 19 = true → L 18 = true ∧ x 36 = x 55) ∧ (L 20 = true → L 18 = true ∧ ∃ u, x 55 = .tuple #[x 56, u]) ∧ (L 21 = true → x 57 = .int .i64 ((RG.2 : Nat) : Int)) ∧ (L 22 = true → L 20 = true ∧ x 13 = x 56) ∧ (L 23 = true → x 14 = .int .i64 ((RG.2 : Nat) : Int))) (by kernel_rfl) (by kernel_rfl) (by kernel_rfl) ?_ ((Go.RE.Each.cons ?_ (Go.RE.Each.cons ?_ (Go.RE.Each.cons ?_ (Go.RE.Each.cons ?_ (Go.RE.Each.cons ?_ (Go.RE.Each.cons ?_ (Go.RE.Each.cons ?_ (Go.RE.Each.cons ?_ (Go.RE.Each.cons ?_ (Go.RE.Each.cons ?_ (Go.RE.Each.cons ?_ (Go.RE.Each.cons ?_ (Go.RE.Each.cons ?_ (Go.RE.Each.cons ?_ (Go.RE.Each.cons ?_ (Go.RE.Each.cons ?_ (Go.RE.Each.cons ?_ (Go.RE.Each.cons ?_ (Go.RE.Each.cons ?_ (Go.RE.Each.cons ?_ (Go.RE.Each.cons ?_ (Go.RE.Each.cons ?_ (Go.RE.Each.cons ?_ (Go.RE.Each.cons ?_ Go.RE.Each.nil))))))))))))))))))))))))) ?_
            · exact fun x => ⟨bl_dr (Below.refl _ wo), fun h => (by cases h), fun h => (by cases h), fun h => (by cases h), fun h => (by cases h), fun h => (by cases h), fun h => (by cases h), fun h => (by cases h), fun h => (by cases h), fun h => (by cases h), fun h => (by cases h), fun h => (by cases h), fun h => (by cases h), fun h => (by cases h), fun h => (by cases h), fun h => (by cases h), fun h => (by cases h), fun h => (by cases h), fun h => (by cases h), fun h => (by cases h), fun h => (by cases h), fun h => (by cases h), fun h => (by cases h), fun h => (by cases h), fun h => (by cases h)⟩
            · intro L x a w K hL hd hf hx hΦ hK
              obtain ⟨hI, f0, f1, f2, f3, f4, f5, f6, f7, f8, f9, f10, f11, f12, f13, f14, f15, f16, f17, f18, f19, f20, f21, f22, f23⟩ := hΦ
              have e4 : a.tmps[4]? = some (.pointer (some ⟨G, 0, none⟩)) := hf 4 (of_decide_eq_true (by kernel_rfl))
              clear hf hx hd
              go_simp
              refine hK _ _ ?_
              exact ⟨hI, fun _ => rfl, fun h => f1 h, fun h => f2 h, fun h => f3 h, fun h => f4 h, fun h => f5 h, fun h => f6 h, fun h => f7 h, fun h => f8 h, fun h => f9 h, fun h => f10 h, fun h => f11 h, fun h => f12 h, fun h => f13 h, fun h => f14 h, fun h => f15 h, fun h => f16 h, fun h => f17 h, fun h => f18 h, fun h => f19 h, fun h => f20 h, fun h => f21 h, fun h => f22 h, fun h => f23 h⟩
            · intro L x a w K hL hd hf hx hΦ hK
              obtain ⟨hI, f0, f1, f2, f3, f4, f5, f6, f7, f8, f9, f10, f11, f12, f13, f14, f15, f16, f17, f18, f19, f20, f21, f22, f23⟩ := hΦ
              have d0 := f0 (hd 0 (by kernel_rfl))
              have e37 : a.tmps[37]? = some (x 37) := hx 0 _ 37 rfl rfl (hd 0 (by kernel_rfl))
              clear hf hx hd
              rw [d0] at e37
              have c6 := cell_then x6 hI
              go_simp
              refine hK _ _ ?_
              exact ⟨hI, fun h => f0 h, fun _ => rfl, fun h => f2 h, fun h => f3 h, fun h => f4 h, fun h => f5 h, fun h => f6 h, fun h => f7 h, fun h => f8 h, fun h => f9 h, fun h => f10 h, fun h => f11 h, fun h => f12 h, fun h => f13 h, fun h => f14 h, fun h => f15 h, fun h => f16 h, fun h => f17 h, fun h => f18 h, fun h => f19 h, fun h => f20 h, fun h => f21 h, fun h => f22 h, fun h => f23 h⟩
            · intro L x a w K hL hd hf hx hΦ hK
              obtain ⟨hI, f0, f1, f2, f3, f4, f5, f6, f7, f8, f9, f10, f11, f12, f13, f14, f15, f16, f17, f18, f19, f20, f21, f22, f23⟩ := hΦ
              have e12 : a.tmps[12]? = some (.int .i64 (k : Int)) := hf 12 (of_decide_eq_true (by kernel_rfl))
              clear hf hx hd
              go_simp
              refine hK _ _ ?_
              exact ⟨hI, fun h => f0 h, fun h => f1 h, fun _ => rfl, fun h => f3 h, fun h => f4 h, fun h => f5 h, fun h => f6 h, fun h => f7 h, fun h => f8 h, fun h => f9 h, fun h => f10 h, fun h => f11 h, fun h => f12 h, fun h => f13 h, fun h => f14 h, fun h => f15 h, fun h => f16 h, fun h => f17 h, fun h => f18 h, fun h => f19 h, fun h => f20 h, fun h => f21 h, fun h => f22 h, fun h => f23 h⟩
            · intro L x a w K hL hd hf hx hΦ hK
              obtain ⟨hI, f0, f1, f2, f3, f4, f5, f6, f7, f8, f9, f10, f11, f12, f13, f14, f15, f16, f17, f18, f19, f20, f21, f22, f23⟩ := hΦ
              have d1 := f1 (hd 1 (by kernel_rfl))
              have e38 : a.tmps[38]? = some (x 38) := hx 1 _ 38 rfl rfl (hd 1 (by kernel_rfl))
              have d2 := f2 (hd 2 (by kernel_rfl))
              have e39 : a.tmps[39]? = some (x 39) := hx 2 _ 39 rfl rfl (hd 2 (by kernel_rfl))
              clear hf hx hd
              rw [d1] at e38
              rw [d2] at e39
              go_simp
              refine hK _ _ ?_
              exact ⟨hI, fun h => f0 h, fun h => f1 h, fun h => f2 h, fun _ => rfl, fun h => f4 h, fun h => f5 h, fun h => f6 h, fun h => f7 h, fun h => f8 h, fun h => f9 h, fun h => f10 h, fun h => f11 h, fun h => f12 h, fun h => f13 h, fun h => f14 h, fun h => f15 h, fun h => f16 h, fun h => f17 h, fun h => f18 h, fun h => f19 h, fun h => f20 h, fun h => f21 h, fun h => f22 h, fun h => f23 h⟩
            · intro L x a w K hL hd hf hx hΦ hK
              obtain ⟨hI, f0, f1, f2, f3, f4, f5, f6, f7, f8, f9, f10, f11, f12, f13, f14, f15, f16, f17, f18, f19, f20, f21, f22, f23⟩ := hΦ
              have d3 := f3 (hd 3 (by kernel_rfl))
              have e40 : a.tmps[40]? = some (x 40) := hx 3 _ 40 rfl rfl (hd 3 (by kernel_rfl))
              clear hf hx hd
              rw [d3] at e40
              have c0 := cell_then (HPC.out 0 _ rfl) hI
              have c1 := cell_then (HPC.out 1 _ rfl) hI
              have c2 := cell_then (HPC.out 2 _ rfl) hI
              have c3 := cell_then (HPC.out 3 _ rfl) hI
              have c4 := cell_then (HPC.out 4 _ rfl) hI
              have c5 := cell_then (HPC.out 5 _ rfl) hI
              have c6 := cell_then (HPC.out 6 _ rfl) hI
              have c7 := cell_then (HPC.out 7 _ rfl) hI
              simp only [PT.vals, SL.v, Nat.add_zero] at c0 c1 c2 c3 c4 c5 c6 c7
              go_simp
              refine hK _ _ ?_
              exact ⟨hI, fun h => f0 h, fun h => f1 h, fun h => f2 h, fun h => f3 h, fun _ => rfl, fun h => f5 h, fun h => f6 h, fun h => f7 h, fun h => f8 h, fun h => f9 h, fun h => f10 h, fun h => f11 h, fun h => f12 h, fun h => f13 h, fun h => f14 h, fun h => f15 h, fun h => f16 h, fun h => f17 h, fun h => f18 h, fun h => f19 h, fun h => f20 h, fun h => f21 h, fun h => f22 h, fun h => f23 h⟩
            · intro L x a w K hL hd hf hx hΦ hK
              obtain ⟨hI, f0, f1, f2, f3, f4, f5, f6, f7, f8, f9, f10, f11, f12, f13, f14, f15, f16, f17, f18, f19, f20, f21, f22, f23⟩ := hΦ
              clear hf hx hd
              go_simp
              refine hK _ _ ?_
              exact ⟨bl_al hI, fun h => f0 h, fun h => f1 h, fun h => f2 h, fun h => f3 h, fun h => f4 h, fun _ => ⟨_, rfl, hI.size, .inr (HK.blk_new _ _)⟩, fun h => f6 h, fun h => (f7 h).imp fun e h => h.imp fun c h => ⟨h.1, h.2.1, h.2.2.imp id fun ho => own_below ho ((Below.refl _ w).alloc (Nat.le_refl _) _)⟩, fun h => f8 h, fun h => (f9 h).imp fun e h => ⟨h.1, h.2.imp id fun h2 => blk_up ((Below.refl _ w).alloc (Nat.le_refl _) _) h2⟩, fun h => ⟨(f10 h).1, (f10 h).2.imp fun e h => h.imp fun c h => ⟨h.1, h.2.imp id fun ho => own_below ho ((Below.refl _ w).alloc (Nat.le_refl _) _)⟩⟩, fun h => f11 h, fun h => f12 h, fun h => f13 h, fun h => f14 h, fun h => f15 h, fun h => f16 h, fun h => f17 h, fun h => ⟨(f18 h).1, (f18 h).2.1, (f18 h).2.2.imp fun v h => h.imp fun hs h => ⟨h.1, h.2.1, h.2.2.below ((Below.refl _ w).alloc (Nat.le_refl _) _)⟩⟩, fun h => f19 h, fun h => f20 h, fun h => f21 h, fun h => f22 h, fun h => f23 h⟩
            · intro L x a w K hL hd hf hx hΦ hK
              obtain ⟨hI, f0, f1, f2, f3, f4, f5, f6, f7, f8, f9, f10, f11, f12, f13, f14, f15, f16, f17, f18, f19, f20, f21, f22, f23⟩ := hΦ
              have e1 : a.tmps[1]? = some (.slice pa pn pc) := hf 1 (of_decide_eq_true (by kernel_rfl))
              clear hf hx hd
              go_simp
              refine hK _ _ ?_
              exact ⟨hI, fun h => f0 h, fun h => f1 h, fun h => f2 h, fun h => f3 h, fun h => f4 h, fun h => f5 h, fun _ => rfl, fun h => f7 h, fun h => f8 h, fun h => f9 h, fun h => f10 h, fun h => f11 h, fun h => f12 h, fun h => f13 h, fun h => f14 h, fun h => f15 h, fun h => f16 h, fun h => f17 h, fun h => f18 h, fun h => f19 h, fun h => f20 h, fun h => f21 h, fun h => f22 h, fun h => f23 h⟩
            · intro L x a w K hL hd hf hx hΦ hK
              obtain ⟨hI, f0, f1, f2, f3, f4, f5, f6, f7, f8, f9, f10, f11, f12, f13, f14, f15, f16, f17, f18, f19, f20, f21, f22, f23⟩ := hΦ
              have d5 := f5 (hd 5 (by kernel_rfl))
              have e42 : a.tmps[42]? = some (x 42) := hx 5 _ 42 rfl rfl (hd 5 (by kernel_rfl))
              have d6 := f6 (hd 6 (by kernel_rfl))
              have e43 : a.tmps[43]? = some (x 43) := hx 6 _ 43 rfl rfl (hd 6 (by kernel_rfl))
              clear hf hx hd
              obtain ⟨e, he, hen, heb⟩ := d5
              rw [he] at e42
              rw [d6] at e43
              have heb : w.heap[e]? = some (.cells #[] 3 (0, 0)) := heb.resolve_left (by rw [hL]; decide)
              refine of_wanted rfl (step_place 44 rfl rfl _ _ rfl e (ev e42) heb pa pn pc pl (ev e43) (place_up HPL.out hI) (by omega) ?_)
              intro g2 c w' hown hgrow hat
              have hgn : wo.heap.size ≤ g2 := by have := hI.size; rcases hat with h | h <;> omega
              refine hK _ _ ?_
              exact ⟨grown_below hI hgrow hen, fun h => f0 h, fun h => f1 h, fun h => f2 h, fun h => f3 h, fun h => f4 h, fun h => ⟨e, he, hen, .inl rfl⟩, fun h => f6 h, fun _ => ⟨g2, c, rfl, hgn, .inr hown⟩, fun h => f8 h, fun h => (f9 h).imp fun g h => ⟨h.1, h.2.imp id fun h2 => grown_blk heb hgrow h2 (by simp)⟩, fun h => absurd (f10 h).1 (by rw [hL]; decide), fun h => f11 h, fun h => f12 h, fun h => f13 h, fun h => f14 h, fun h => f15 h, fun h => f16 h, fun h => f17 h, fun h => absurd (f18 h).1 (by rw [hL]; decide), fun h => f19 h, fun h => f20 h, fun h => f21 h, fun h => f22 h, fun h => f23 h⟩
            · intro L x a w K hL hd hf hx hΦ hK
              obtain ⟨hI, f0, f1, f2, f3, f4, f5, f6, f7, f8, f9, f10, f11, f12, f13, f14, f15, f16, f17, f18, f19, f20, f21, f22, f23⟩ := hΦ
              have e12 : a.tmps[12]? = some (.int .i64 (k : Int)) := hf 12 (of_decide_eq_true (by kernel_rfl))
              clear hf hx hd
              go_simp
              refine hK _ _ ?_
              exact ⟨hI, fun h => f0 h, fun h => f1 h, fun h => f2 h, fun h => f3 h, fun h => f4 h, fun h => f5 h, fun h => f6 h, fun h => f7 h, fun _ => rfl, fun h => f9 h, fun h => f10 h, fun h => f11 h, fun h => f12 h, fun h => f13 h, fun h => f14 h, fun h => f15 h, fun h => f16 h, fun h => f17 h, fun h => f18 h, fun h => f19 h, fun h => f20 h, fun h => f21 h, fun h => f22 h, fun h => f23 h⟩
            · intro L x a w K hL hd hf hx hΦ hK
              obtain ⟨hI, f0, f1, f2, f3, f4, f5, f6, f7, f8, f9, f10, f11, f12, f13, f14, f15, f16, f17, f18, f19, f20, f21, f22, f23⟩ := hΦ
              have d8 := f8 (hd 8 (by kernel_rfl))
              have e45 : a.tmps[45]? = some (x 45) := hx 8 _ 45 rfl rfl (hd 8 (by kernel_rfl))
              clear hf hx hd
              rw [d8] at e45
              go_simp
              refine hK _ _ ?_
              exact ⟨bl_al hI, fun h => f0 h, fun h => f1 h, fun h => f2 h, fun h => f3 h, fun h => f4 h, fun h => (f5 h).imp fun e h => ⟨h.1, h.2.1, h.2.2.imp id fun h2 => blk_up ((Below.refl _ w).alloc (Nat.le_refl _) _) h2⟩, fun h => f6 h, fun h => (f7 h).imp fun e h => h.imp fun c h => ⟨h.1, h.2.1, h.2.2.imp id fun ho => own_below ho ((Below.refl _ w).alloc (Nat.le_refl _) _)⟩, fun h => f8 h, fun _ => ⟨_, rfl, .inr (HK.blk_new _ _)⟩, fun h => ⟨(f10 h).1, (f10 h).2.imp fun e h => h.imp fun c h => ⟨h.1, h.2.imp id fun ho => own_below ho ((Below.refl _ w).alloc (Nat.le_refl _) _)⟩⟩, fun h => f11 h, fun h => f12 h, fun h => f13 h, fun h => f14 h, fun h => f15 h, fun h => f16 h, fun h => f17 h, fun h => ⟨(f18 h).1, (f18 h).2.1, (f18 h).2.2.imp fun v h => h.imp fun hs h => ⟨h.1, h.2.1, h.2.2.below ((Below.refl _ w).alloc (Nat.le_refl _) _)⟩⟩, fun h => f19 h, fun h => f20 h, fun h => f21 h, fun h => f22 h, fun h => f23 h⟩
            · intro L x a w K hL hd hf hx hΦ hK
              obtain ⟨hI, f0, f1, f2, f3, f4, f5, f6, f7, f8, f9, f10, f11, f12, f13, f14, f15, f16, f17, f18, f19, f20, f21, f22, f23⟩ := hΦ
              have d7 := f7 (hd 7 (by kernel_rfl))
              have e44 : a.tmps[44]? = some (x 44) := hx 7 _ 44 rfl rfl (hd 7 (by kernel_rfl))
              have d9 := f9 (hd 9 (by kernel_rfl))
              have e46 : a.tmps[46]? = some (x 46) := hx 9 _ 46 rfl rfl (hd 9 (by kernel_rfl))
              have l7 := hd 7 (by kernel_rfl)
              clear hf hx hd
              obtain ⟨g1, c1, hg1, hgn, hown⟩ := d7
              obtain ⟨g2, hg2, hgb⟩ := d9
              rw [hg1] at e44
              rw [hg2] at e46
              have hown := hown.resolve_left (by rw [hL]; decide)
              have hgb := hgb.resolve_left (by rw [hL]; decide)
              refine of_wanted rfl (HK.step_app1 rfl elem3 _ _ rfl (.slice (some ⟨g1, 0, none⟩) pn c1) pn (ints pl) (ev e44) hown g2 1 #[.int .i64 (k : Int)] (ev e46) hgb rfl (by simp [Value.oneCell']) (by simp only [maxLen]; omega) (by omega) ?_)
              intro g3 c w' hown2 hgrow hat hlt
              have hi8 : w'.ownsRow 0 3 1 (.slice (some ⟨g3, 0, none⟩) (pn + 1) c) (pn + 1) (ints (pl ++ [k])) := by
                have : ints (pl ++ [k]) = ints pl ++ [.int .i64 (k : Int)] := by simp [ints]
                rw [this]; exact hown2
              refine hK _ _ ?_
              exact ⟨grown_below hI hgrow hgn, fun h => f0 h, fun h => f1 h, fun h => f2 h, fun h => f3 h, fun h => f4 h, fun h => (f5 h).imp fun e h => ⟨h.1, h.2.1, .inl l7⟩, fun h => f6 h, fun h => ⟨g1, c1, hg1, hgn, .inl rfl⟩, fun h => f8 h, fun h => ⟨g2, hg2, .inl rfl⟩, fun _ => ⟨l7, g3, c, rfl, .inr hi8⟩, fun h => f11 h, fun h => f12 h, fun h => f13 h, fun h => f14 h, fun h => f15 h, fun h => f16 h, fun h => f17 h, fun h => absurd (f18 h).2.1 (by rw [hL]; decide), fun h => f19 h, fun h => f20 h, fun h => f21 h, fun h => f22 h, fun h => f23 h⟩
            · intro L x a w K hL hd hf hx hΦ hK
              obtain ⟨hI, f0, f1, f2, f3, f4, f5, f6, f7, f8, f9, f10, f11, f12, f13, f14, f15, f16, f17, f18, f19, f20, f21, f22, f23⟩ := hΦ
              have e2 : a.tmps[2]? = some (.int .i64 (wt : Int)) := hf 2 (of_decide_eq_true (by kernel_rfl))
              clear hf hx hd
              go_simp
              refine hK _ _ ?_
              exact ⟨hI, fun h => f0 h, fun h => f1 h, fun h => f2 h, fun h => f3 h, fun h => f4 h, fun h => f5 h, fun h => f6 h, fun h => f7 h, fun h => f8 h, fun h => f9 h, fun h => f10 h, fun _ => rfl, fun h => f12 h, fun h => f13 h, fun h => f14 h, fun h => f15 h, fun h => f16 h, fun h => f17 h, fun h => f18 h, fun h => f19 h, fun h => f20 h, fun h => f21 h, fun h => f22 h, fun h => f23 h⟩
            · intro L x a w K hL hd hf hx hΦ hK
              obtain ⟨hI, f0, f1, f2, f3, f4, f5, f6, f7, f8, f9, f10, f11, f12, f13, f14, f15, f16, f17, f18, f19, f20, f21, f22, f23⟩ := hΦ
              have e4 : a.tmps[4]? = some (.pointer (some ⟨G, 0, none⟩)) := hf 4 (of_decide_eq_true (by kernel_rfl))
              clear hf hx hd
              go_simp
              refine hK _ _ ?_
              exact ⟨hI, fun h => f0 h, fun h => f1 h, fun h => f2 h, fun h => f3 h, fun h => f4 h, fun h => f5 h, fun h => f6 h, fun h => f7 h, fun h => f8 h, fun h => f9 h, fun h => f10 h, fun h => f11 h, fun _ => rfl, fun h => f13 h, fun h => f14 h, fun h => f15 h, fun h => f16 h, fun h => f17 h, fun h => f18 h, fun h => f19 h, fun h => f20 h, fun h => f21 h, fun h => f22 h, fun h => f23 h⟩
            · intro L x a w K hL hd hf hx hΦ hK
              obtain ⟨hI, f0, f1, f2, f3, f4, f5, f6, f7, f8, f9, f10, f11, f12, f13, f14, f15, f16, f17, f18, f19, f20, f21, f22, f23⟩ := hΦ
              have d12 := f12 (hd 12 (by kernel_rfl))
              have e49 : a.tmps[49]? = some (x 49) := hx 12 _ 49 rfl rfl (hd 12 (by kernel_rfl))
              clear hf hx hd
              rw [d12] at e49
              have c6 := cell_then x6 hI
              go_simp
              refine hK _ _ ?_
              exact ⟨hI, fun h => f0 h, fun h => f1 h, fun h => f2 h, fun h => f3 h, fun h => f4 h, fun h => f5 h, fun h => f6 h, fun h => f7 h, fun h => f8 h, fun h => f9 h, fun h => f10 h, fun h => f11 h, fun h => f12 h, fun _ => rfl, fun h => f14 h, fun h => f15 h, fun h => f16 h, fun h => f17 h, fun h => f18 h, fun h => f19 h, fun h => f20 h, fun h => f21 h, fun h => f22 h, fun h => f23 h⟩
            · intro L x a w K hL hd hf hx hΦ hK
              obtain ⟨hI, f0, f1, f2, f3, f4, f5, f6, f7, f8, f9, f10, f11, f12, f13, f14, f15, f16, f17, f18, f19, f20, f21, f22, f23⟩ := hΦ
              have d13 := f13 (hd 13 (by kernel_rfl))
              have e50 : a.tmps[50]? = some (x 50) := hx 13 _ 50 rfl rfl (hd 13 (by kernel_rfl))
              clear hf hx hd
              rw [d13] at e50
              go_simp
              refine hK _ _ ?_
              exact ⟨hI, fun h => f0 h, fun h => f1 h, fun h => f2 h, fun h => f3 h, fun h => f4 h, fun h => f5 h, fun h => f6 h, fun h => f7 h, fun h => f8 h, fun h => f9 h, fun h => f10 h, fun h => f11 h, fun h => f12 h, fun h => f13 h, fun _ => rfl, fun h => f15 h, fun h => f16 h, fun h => f17 h, fun h => f18 h, fun h => f19 h, fun h => f20 h, fun h => f21 h, fun h => f22 h, fun h => f23 h⟩
            · intro L x a w K hL hd hf hx hΦ hK
              obtain ⟨hI, f0, f1, f2, f3, f4, f5, f6, f7, f8, f9, f10, f11, f12, f13, f14, f15, f16, f17, f18, f19, f20, f21, f22, f23⟩ := hΦ
              have d14 := f14 (hd 14 (by kernel_rfl))
              have e51 : a.tmps[51]? = some (x 51) := hx 14 _ 51 rfl rfl (hd 14 (by kernel_rfl))
              clear hf hx hd
              rw [d14] at e51
              have hm1 : IntKind.i64.wrap (2 * (sn : Int)) = 2 * (sn : Int) := IntWalk.i64_in _ (by omega)
              go_simp
              refine hK _ _ ?_
              exact ⟨hI, fun h => f0 h, fun h => f1 h, fun h => f2 h, fun h => f3 h, fun h => f4 h, fun h => f5 h, fun h => f6 h, fun h => f7 h, fun h => f8 h, fun h => f9 h, fun h => f10 h, fun h => f11 h, fun h => f12 h, fun h => f13 h, fun h => f14 h, fun _ => rfl, fun h => f16 h, fun h => f17 h, fun h => f18 h, fun h => f19 h, fun h => f20 h, fun h => f21 h, fun h => f22 h, fun h => f23 h⟩
            · intro L x a w K hL hd hf hx hΦ hK
              obtain ⟨hI, f0, f1, f2, f3, f4, f5, f6, f7, f8, f9, f10, f11, f12, f13, f14, f15, f16, f17, f18, f19, f20, f21, f22, f23⟩ := hΦ
              have d11 := f11 (hd 11 (by kernel_rfl))
              have e48 : a.tmps[48]? = some (x 48) := hx 11 _ 48 rfl rfl (hd 11 (by kernel_rfl))
              have d15 := f15 (hd 15 (by kernel_rfl))
              have e52 : a.tmps[52]? = some (x 52) := hx 15 _ 52 rfl rfl (hd 15 (by kernel_rfl))
              clear hf hx hd
              rw [d11] at e48
              rw [d15] at e52
              have hq1 := HQ1.out
              have hq2 := HQ2.out
              have hq3 : (2 * (sn : Int) == 0) = false := by simp; omega
              have hq4 : ¬ 2 * (sn : Int) = 0 := by omega
              have hq5 : (0 : Int) < 2 * (sn : Int) := by omega
              have hq6 : IntKind.i64.wrap (wq : Int) = (wq : Int) := IntWalk.i64_in _ (by omega)
              go_simp
              refine hK _ _ ?_
              exact ⟨hI, fun h => f0 h, fun h => f1 h, fun h => f2 h, fun h => f3 h, fun h => f4 h, fun h => f5 h, fun h => f6 h, fun h => f7 h, fun h => f8 h, fun h => f9 h, fun h => f10 h, fun h => f11 h, fun h => f12 h, fun h => f13 h, fun h => f14 h, fun h => f15 h, fun _ => rfl, fun h => f17 h, fun h => f18 h, fun h => f19 h, fun h => f20 h, fun h => f21 h, fun h => f22 h, fun h => f23 h⟩
            · intro L x a w K hL hd hf hx hΦ hK
              obtain ⟨hI, f0, f1, f2, f3, f4, f5, f6, f7, f8, f9, f10, f11, f12, f13, f14, f15, f16, f17, f18, f19, f20, f21, f22, f23⟩ := hΦ
              have e3 : a.tmps[3]? = some (.slice wa wn we) := hf 3 (of_decide_eq_true (by kernel_rfl))
              clear hf hx hd
              go_simp
              refine hK _ _ ?_
              exact ⟨hI, fun h => f0 h, fun h => f1 h, fun h => f2 h, fun h => f3 h, fun h => f4 h, fun h => f5 h, fun h => f6 h, fun h => f7 h, fun h => f8 h, fun h => f9 h, fun h => f10 h, fun h => f11 h, fun h => f12 h, fun h => f13 h, fun h => f14 h, fun h => f15 h, fun h => f16 h, fun _ => rfl, fun h => f18 h, fun h => f19 h, fun h => f20 h, fun h => f21 h, fun h => f22 h, fun h => f23 h⟩
            · intro L x a w K hL hd hf hx hΦ hK
              obtain ⟨hI, f0, f1, f2, f3, f4, f5, f6, f7, f8, f9, f10, f11, f12, f13, f14, f15, f16, f17, f18, f19, f20, f21, f22, f23⟩ := hΦ
              have d4 := f4 (hd 4 (by kernel_rfl))
              have e41 : a.tmps[41]? = some (x 41) := hx 4 _ 41 rfl rfl (hd 4 (by kernel_rfl))
              have d10 := f10 (hd 10 (by kernel_rfl))
              have e47 : a.tmps[47]? = some (x 47) := hx 10 _ 47 rfl rfl (hd 10 (by kernel_rfl))
              have d16 := f16 (hd 16 (by kernel_rfl))
              have e53 : a.tmps[53]? = some (x 53) := hx 16 _ 53 rfl rfl (hd 16 (by kernel_rfl))
              have d17 := f17 (hd 17 (by kernel_rfl))
              have e54 : a.tmps[54]? = some (x 54) := hx 17 _ 54 rfl rfl (hd 17 (by kernel_rfl))
              have l10 := hd 10 (by kernel_rfl)
              clear hf hx hd
              obtain ⟨l7, e2, c, he, ho⟩ := d10
              rw [d4] at e41
              rw [he] at e47
              rw [d16] at e53
              rw [d17] at e54
              have ho := ho.resolve_left (by rw [hL]; decide)
              go_simp
              go_at_call 20
              refine (HC.out w ⟨some ⟨e2, 0, none⟩, pn + 1, c⟩ hI (by unfold PlaceB; rw [List.length_append, List.length_singleton, ← HPN.out]; exact ho)).mono ?_
              rintro e w' ⟨v, hs, rfl, h1, h2, h3⟩
              simp only
              refine hK _ _ ?_
              exact ⟨below_then hI h3, fun h => f0 h, fun h => f1 h, fun h => f2 h, fun h => f3 h, fun h => f4 h, fun h => (f5 h).imp fun e h => ⟨h.1, h.2.1, h.2.2.imp id fun h2 => blk_up h3 h2⟩, fun h => f6 h, fun h => (f7 h).imp fun e h => h.imp fun c h => ⟨h.1, h.2.1, h.2.2.imp id fun ho => own_below ho h3⟩, fun h => f8 h, fun h => (f9 h).imp fun e h => ⟨h.1, h.2.imp id fun h2 => blk_up h3 h2⟩, fun h => ⟨l7, e2, c, he, .inl rfl⟩, fun h => f11 h, fun h => f12 h, fun h => f13 h, fun h => f14 h, fun h => f15 h, fun h => f16 h, fun h => f17 h, fun _ => ⟨l7, l10, v, hs, rfl, h1, h2.mono hI.size⟩, fun h => absurd (f19 h).1 (by rw [hL]; decide), fun h => absurd (f20 h).1 (by rw [hL]; decide), fun h => f21 h, fun h => f22 h, fun h => f23 h⟩
            · intro L x a w K hL hd hf hx hΦ hK
              obtain ⟨hI, f0, f1, f2, f3, f4, f5, f6, f7, f8, f9, f10, f11, f12, f13, f14, f15, f16, f17, f18, f19, f20, f21, f22, f23⟩ := hΦ
              have d18 := f18 (hd 18 (by kernel_rfl))
              have e55 : a.tmps[55]? = some (x 55) := hx 18 _ 55 rfl rfl (hd 18 (by kernel_rfl))
              have l18 := hd 18 (by kernel_rfl)
              clear hf hx hd
              go_simp
              refine hK _ _ ?_
              exact ⟨hI, fun h => f0 h, fun h => f1 h, fun h => f2 h, fun h => f3 h, fun h => f4 h, fun h => f5 h, fun h => f6 h, fun h => f7 h, fun h => f8 h, fun h => f9 h, fun h => f10 h, fun h => f11 h, fun h => f12 h, fun h => f13 h, fun h => f14 h, fun h => f15 h, fun h => f16 h, fun h => f17 h, fun h => f18 h, fun _ => ⟨l18, rfl⟩, fun h => f20 h, fun h => f21 h, fun h => f22 h, fun h => f23 h⟩
            · intro L x a w K hL hd hf hx hΦ hK
              obtain ⟨hI, f0, f1, f2, f3, f4, f5, f6, f7, f8, f9, f10, f11, f12, f13, f14, f15, f16, f17, f18, f19, f20, f21, f22, f23⟩ := hΦ
              have d19 := f19 (hd 19 (by kernel_rfl))
              have e36 : a.tmps[36]? = some (x 36) := hx 19 _ 36 rfl rfl (hd 19 (by kernel_rfl))
              have l19 := hd 19 (by kernel_rfl)
              clear hf hx hd
              obtain ⟨l18, h36⟩ := d19
              obtain ⟨_, _, v, hs, hv, _⟩ := f18 l18
              have h36' := h36.trans hv
              rw [h36'] at e36
              go_simp
              refine hK _ _ ?_
              exact ⟨hI, fun h => f0 h, fun h => f1 h, fun h => f2 h, fun h => f3 h, fun h => f4 h, fun h => f5 h, fun h => f6 h, fun h => f7 h, fun h => f8 h, fun h => f9 h, fun h => f10 h, fun h => f11 h, fun h => f12 h, fun h => f13 h, fun h => f14 h, fun h => f15 h, fun h => f16 h, fun h => f17 h, fun h => f18 h, fun h => f19 h, fun _ => ⟨l18, _, hv⟩, fun h => f21 h, fun h => absurd (f22 h).1 (by rw [hL]; decide), fun h => f23 h⟩
            · intro L x a w K hL hd hf hx hΦ hK
              obtain ⟨hI, f0, f1, f2, f3, f4, f5, f6, f7, f8, f9, f10, f11, f12, f13, f14, f15, f16, f17, f18, f19, f20, f21, f22, f23⟩ := hΦ
              have d19 := f19 (hd 19 (by kernel_rfl))
              have e36 : a.tmps[36]? = some (x 36) := hx 19 _ 36 rfl rfl (hd 19 (by kernel_rfl))
              clear hf hx hd
              obtain ⟨l18, h36⟩ := d19
              obtain ⟨_, _, v, hs, hv, _⟩ := f18 l18
              have h36' := h36.trans hv
              rw [h36'] at e36
              go_simp
              refine hK _ _ ?_
              exact ⟨hI, fun h => f0 h, fun h => f1 h, fun h => f2 h, fun h => f3 h, fun h => f4 h, fun h => f5 h, fun h => f6 h, fun h => f7 h, fun h => f8 h, fun h => f9 h, fun h => f10 h, fun h => f11 h, fun h => f12 h, fun h => f13 h, fun h => f14 h, fun h => f15 h, fun h => f16 h, fun h => f17 h, fun h => f18 h, fun h => f19 h, fun h => f20 h, fun _ => rfl, fun h => f22 h, fun h => f23 h⟩
            · intro L x a w K hL hd hf hx hΦ hK
              obtain ⟨hI, f0, f1, f2, f3, f4, f5, f6, f7, f8, f9, f10, f11, f12, f13, f14, f15, f16, f17, f18, f19, f20, f21, f22, f23⟩ := hΦ
              have d20 := f20 (hd 20 (by kernel_rfl))
              have e56 : a.tmps[56]? = some (x 56) := hx 20 _ 56 rfl rfl (hd 20 (by kernel_rfl))
              have l20 := hd 20 (by kernel_rfl)
              clear hf hx hd
              go_simp
              refine hK _ _ ?_
              exact ⟨hI, fun h => f0 h, fun h => f1 h, fun h => f2 h, fun h => f3 h, fun h => f4 h, fun h => f5 h, fun h => f6 h, fun h => f7 h, fun h => f8 h, fun h => f9 h, fun h => f10 h, fun h => f11 h, fun h => f12 h, fun h => f13 h, fun h => f14 h, fun h => f15 h, fun h => f16 h, fun h => f17 h, fun h => f18 h, fun h => f19 h, fun h => f20 h, fun h => f21 h, fun _ => ⟨l20, rfl⟩, fun h => f23 h⟩
            · intro L x a w K hL hd hf hx hΦ hK
              obtain ⟨hI, f0, f1, f2, f3, f4, f5, f6, f7, f8, f9, f10, f11, f12, f13, f14, f15, f16, f17, f18, f19, f20, f21, f22, f23⟩ := hΦ
              have d21 := f21 (hd 21 (by kernel_rfl))
              have e57 : a.tmps[57]? = some (x 57) := hx 21 _ 57 rfl rfl (hd 21 (by kernel_rfl))
              clear hf hx hd
              rw [d21] at e57
              go_simp
              refine hK _ _ ?_
              exact ⟨hI, fun h => f0 h, fun h => f1 h, fun h => f2 h, fun h => f3 h, fun h => f4 h, fun h => f5 h, fun h => f6 h, fun h => f7 h, fun h => f8 h, fun h => f9 h, fun h => f10 h, fun h => f11 h, fun h => f12 h, fun h => f13 h, fun h => f14 h, fun h => f15 h, fun h => f16 h, fun h => f17 h, fun h => f18 h, fun h => f19 h, fun h => f20 h, fun h => f21 h, fun h => f22 h, fun _ => rfl⟩
            · rintro x W ⟨hI, f0, f1, f2, f3, f4, f5, f6, f7, f8, f9, f10, f11, f12, f13, f14, f15, f16, f17, f18, f19, f20, f21, f22, f23⟩
              obtain ⟨_, _, v, hs, h1, h2, h3⟩ := f18 (by kernel_rfl)
              obtain ⟨_, u, h4⟩ := f20 (by kernel_rfl)
              have h5 := (f22 (by kernel_rfl)).2
              have h6 := f23 (by kernel_rfl)
              have h7 : x 56 = v := by have h9 := h4.symm.trans h1; simp only [Value.tuple.injEq, Array.mk.injEq, List.cons.injEq] at h9; exact h9.1
              simp only [Exit.then]
              go_step
              go_meet
              case rel => exact ⟨hs, h6, h2, by rw [h5, h7]; exact h3, hI⟩
          case rest =>
            obtain ⟨hs2, rfl, hc1, hc2, hc3⟩ := hcut
            obtain ⟨w5, hw5⟩ : ∃ w5 : World, w5 = wc := ⟨_, rfl⟩
            rw [← hw5] at hc2 hc3 ⊢
            clear hw5
            have hig5 := HIG.out.below hc3
            have HIG5 := Lib.hid hig5
            have HC1 := Lib.hid hc1
            have HC2 := Lib.hid hc2
            have HC3 := Lib.hid (below_then HBR.out hc3)
            have hgl : gs.length ≤ 10000 := by
              have h1 := congrArg List.length HGS.out
              rw [List.length_map] at h1
              have h2 := (goalsF_cnt (badD ws) pl wq 0 (subs.take k)).2
              have h3 := sizeF_take (ts := subs) (k := k) (t := q) HQ.out
              omega
            have hhl : hs2.length ≤ 10000 := by
              have h1 := congrArg List.length HC1.out
              rw [List.length_map] at h1
              have h2 := HRGC.out.2
              have h3 := HSQ.out
              omega
            clear hig5 hc1 hc2 hc3
            have hb5 : w2.heap.size ≤ w5.heap.size := HC3.out.size
            obtain ⟨mm, hmm⟩ : ∃ mm, mm = m + RG.2 := ⟨_, rfl⟩
            have hmm2 : mm ≤ 20001 := by
              have h1 := (goalsF_cnt (badD ws) pl wq 0 (subs.take k)).1
              have h2 := HRGC.out.1
              have h3 := HSQ.out
              have h4 := HME.out
              have h5 := sizeF_take (ts := subs) (k := k) (t := q) HQ.out
              omega
            have hz3 : (m : Int) + ((RG.2 : Nat) : Int) = (mm : Int) := by omega
            have hend : (gs ++ hs2).map (·.d) = (goalsF (badD ws) pl wq 0 (subs.take (k + 1))).1 ∧ mm = 1 + (goalsF (badD ws) pl wq 0 (subs.take (k + 1))).2 := by
              obtain ⟨h1, h2⟩ := HMORE.out
              rw [List.map_append, h1, h2, HGS.out, HC1.out]
              refine ⟨rfl, ?_⟩
              have h4 := HME.out
              omega
            have HEND := Lib.hid hend
            clear hend hmm
            by_cases hh0 : hs2 = []
            · have hv13 := HC2.out.2.1 hh0
              subst hh0
              subst hv13
              rw [List.append_nil] at HEND
              by_cases hg0 : gs = []
              · have hv10 := HIG5.out.2.1 hg0
                subst hv10
                go_wp2_with (
                  refine wpList_step fun K hK => ?_
                  refine step_appnn 60 (by rfl) (by rfl) elem83 _ _ (by rfl) (by rfl) (by rfl) ?_
                  refine hK _ _ ?_
                  clear hK K)
                go_roundw
                case rel => exact ⟨k + 1, mm, gs, by omega, by go_num, rfl, HEND.out.1, HEND.out.2, HIG5.out, HC3.out⟩
                case measure => simp [intOf]; omega
              · obtain ⟨ag, ac2, hv10⟩ : ∃ ag ac2, u10 = .slice (some ⟨ag, 0, none⟩) gs.length ac2 ∧ gs.length ≤ ac2 := by
                  rcases HIG5.out.1.2 with ⟨_, h0⟩ | ⟨g', cap', cur, hv, _, _, hcap, _⟩
                  · exact absurd (List.length_eq_zero_iff.1 h0) hg0
                  · exact ⟨g', cap', hv, hcap⟩
                obtain ⟨hv10, hcap⟩ := hv10
                subst hv10
                go_wp2_with (
                  refine wpList_step fun K hK => ?_
                  refine step_app0 60 (by rfl) (by rfl) elem83 _ _ (by rfl) ⟨ag, 0, none⟩ gs.length ac2 hcap (by rfl) (by rfl) ?_
                  refine hK _ _ ?_
                  clear hK K)
                go_roundw
                case rel => exact ⟨k + 1, mm, gs, by omega, by go_num, rfl, HEND.out.1, HEND.out.2, HIG5.out, HC3.out⟩
                case measure => simp [intOf]; omega
            · obtain ⟨bg, bc, hv13⟩ : ∃ bg bc, u13 = .slice (some ⟨bg, 0, none⟩) hs2.length bc := by
                rcases HC2.out.1.2 with ⟨_, h0⟩ | ⟨g', cap', cur, hv, _⟩
                · exact absurd (List.length_eq_zero_iff.1 h0) hh0
                · exact ⟨g', cap', hv⟩
              subst hv13
              have hcells := World.ownsRow.cells (g := bg) HC2.out.1 rfl
              have hpos : 0 < hs2.length := List.length_pos_iff.2 hh0
              have hig0 := HIG5.out.mono (Nat.zero_le _)
              have HCE := Lib.hid hcells
              have HG0 := Lib.hid hig0
              have HH0 := Lib.hid hh0
              clear hcells hig0 hh0
              go_wp2_with (
                refine wpList_step fun K hK => ?_
                refine step_appm 60 (by rfl) (by rfl) elem83 _ _ (by rfl) u10 gs.length (flatG gs) (by rfl) HG0.out.1 ⟨bg, 0, none⟩ hs2.length bc (flatG hs2) (by rfl) (flatG_length _) HCE.out (fun u hu => flatG_one u hu) (gs.length + hs2.length) rfl hpos (by simp only [maxLen]; omega) (by omega) ?_
                intro g9 cap9 w9 hown hgrow hat hlt
                refine hK _ _ ?_
                have hig9 := IsG8.app (W0 := w) HIG5.out HC2.out.2.2 HH0.out hb5 hown hgrow hat
                have hb9 : Below w2.heap.size w2 w9 := HC3.out.grown hgrow HC3.out.size (fun k hk => by
                  rcases HIG5.out.1.2 with ⟨h0, _⟩ | ⟨g', cap', cur, hv, hg', _⟩
                  · rw [h0] at hk; simp [Value.ownBlock] at hk
                  · rw [hv] at hk; simp only [Value.ownBlock, Option.some.injEq] at hk; omega)
                have HI9 := Lib.hid hig9
                have HB9 := Lib.hid hb9
                clear hown hgrow hat hlt hig9 hb9 hK K)
              go_roundw
              case rel => exact ⟨k + 1, mm, gs ++ hs2, by omega, by go_num, rfl, HEND.out.1, HEND.out.2, HI9.out, HB9.out⟩
              case measure => simp [intOf]; omega
        · have hkn : k = sn := by omega
          have y1 : ¬ ((k : Int) < (sn : Int)) := by omega
          have hfin : R = (gs.map (·.d), m) := by
            rw [HRE.out, hgs, hme, List.take_of_length_le (by rw [← HLN.out]; omega)]
          have HFIN := Lib.hid hfin
          have HIG := Lib.hid (hig.mono HB2.out.size)
          have HBW := Lib.hid hBw
          clear hkn hgs hme hig hBr hBw hfin
          go_wp2_with (fail)
          go_ret2
          exact ⟨_, gs, by rw [HFIN.out]; rfl, by rw [HFIN.out], HIG.out, HBW.out⟩
mutual
theorem goals_all : ∀ t : PT, GoalsOk t
  | .node r o s => goals_of _ (goals_allF s)
theorem goals_allF : ∀ (ts : List PT) (i : Nat) q, ts[i]? = some q → GoalsOk q
  | [], i, q, h => by simp at h
  | t :: ts, 0, q, h => by simp at h; subst h; exact goals_all t
  | t :: ts, i + 1, q, h => goals_allF ts i q (by simpa using h)
end
end Go.Proofs.Ytfebcpmbkljaoaa
namespace Go.Proofs.Ytfebcpmbkljaoaa
open Go.RowKit Go.HR
set_option linter.unusedVariables false
set_option linter.unusedSimpArgs false
set_option linter.unusedSectionVars false
theorem goal8_at {W : World} {base : Nat} {v : Value} {gs : List StepV} (h : IsG8 W base v gs) {i : Nat} {x : StepV} (hx : gs[i]? = some x) : ∃ g cap, v = .slice (some ⟨g, 0, none⟩) gs.length cap ∧ W.cell? ⟨g, i * 2, none⟩ = some x.pv.v ∧ W.cell? ⟨g, i * 2 + 1, none⟩ = some (.int .i64 (x.d.wt : Nat)) := by
  rcases h.1.2 with ⟨h0, h1⟩ | ⟨g, cap, cur, hv, hg, hh, r⟩
  · have := (List.getElem?_eq_some_iff.1 hx).1; omega
  · refine ⟨g, cap, hv, ?_, ?_⟩
    · have := h.1.cells (g := g) (by rw [hv]; rfl) (i * 2 + 0) x.pv.v (by rw [flatG, flat_get (fun x : StepV => [x.pv.v, .int .i64 (x.d.wt : Nat)]) 2 (fun x => rfl) gs i 0 x hx (by omega)]; rfl)
      rwa [add_zero_at] at this
    · have := h.1.cells (g := g) (by rw [hv]; rfl) (i * 2 + 1) (.int .i64 (x.d.wt : Nat)) (by rw [flatG, flat_get (fun x : StepV => [x.pv.v, .int .i64 (x.d.wt : Nat)]) 2 (fun x => rfl) gs i 1 x hx (by omega)]; rfl)
      rwa [add_zero_at] at this
theorem goal8_form {W : World} {base : Nat} {v : Value} {gs : List StepV} (h : IsG8 W base v gs) : ∃ a c, v = .slice a gs.length c := by
  rcases h.1.2 with ⟨h0, h1⟩ | ⟨g, cap, cur, hv, _⟩
  · exact ⟨none, 0, by rw [h0, h1]⟩
  · exact ⟨_, _, hv⟩
def refG (t : PT) (ws : List (List Int)) : List StepD × Nat := goalsT (badD ws) [] whole t
theorem ref_goals (w : World) (t : PT) (sv sw : SL) (ws : List (List Int)) (hs : IsPs w.heap.size w sv t.subs) (hz : sizeT t ≤ 320) (hw : IsW w sw ws) (hl : ws.length ≤ 20000) (hu : ∀ u ∈ ws, u.length ≤ 20000) :
    Calls Try.prog 20 #[.agg (t.arr sv), .slice none 0 0, .int .i64 1152921504606846976, sw.v] w (RetGs w (refG t ws)) :=
  goals_all t w sv SL.nil sw [] whole ws hs (PlaceB.nil w) (by simp only [List.length_nil]; omega) (Nat.le_refl _) hw hl hu
theorem refG_len (t : PT) (ws : List (List Int)) : (refG t ws).1.length ≤ sizeT t ∧ (refG t ws).2 ≤ sizeT t := ⟨(goalsT_cnt _ _ _ t).2, (goalsT_cnt _ _ _ t).1⟩
theorem refG_sum (t : PT) (ws : List (List Int)) : sumW (refG t ws).1 ≤ whole := sum_goalsT _ _ _ t
section
variable (w : World) (t : PT) (sv sw : SL) (ws : List (List Int)) (hs : IsPs w.heap.size w sv t.subs) (hz : sizeT t ≤ 320) (hw : IsW w sw ws) (hl : ws.length ≤ 20000) (hu : ∀ u ∈ ws, u.length ≤ 20000)
include hs hz hw hl hu
set_option maxRecDepth 100000 in
set_option maxHeartbeats 8000000 in
theorem progressR_call : Calls Try.prog 22 #[.agg (t.arr sv), sw.v] w (RetB w (.int .i64 (restN (refG t ws).1 : Nat))) := by
  have hg := fun (W : World) (hB : Below w.heap.size w W) => ref_goals W t sv sw ws (hs.up hB) hz (hw.below hB) hl hu
  have hlen : (refG t ws).1.length ≤ 320 ∧ (refG t ws).2 ≤ 320 := by have := refG_len t ws; omega
  have hsum := refG_sum t ws
  obtain ⟨RG, hRG⟩ : ∃ RG, RG = refG t ws := ⟨_, rfl⟩
  rw [← hRG] at hlen hsum ⊢
  unfold RetGs at hg
  rw [← hRG] at hg
  obtain ⟨rule, ⟨op, name, ⟨aa, an, ac⟩, ⟨fa, fn, fc⟩, label, ⟨ma, mn, mc⟩⟩, subs⟩ := t
  obtain ⟨sa, sn, sc⟩ := sv
  obtain ⟨wa, wn, we⟩ := sw
  simp only [PT.arr, PT.rule, PT.o, PT.subs, SL.v] at hg ⊢
  obtain ⟨G, hG⟩ : ∃ G, G = w.heap.size := ⟨_, rfl⟩
  obtain ⟨w1, hw1⟩ : ∃ w1, w1 = w.alloc (.cells #[.string rule, .int .u8 op, .string name, .slice aa an ac, .slice fa fn fc, .int .i64 label, .slice sa sn sc, .slice ma mn mc] 30) := ⟨_, rfl⟩
  have hB1 : Below w.heap.size w w1 := by rw [hw1]; exact bl_al (Below.refl _ _)
  have hx1 : w1.heap[G]? = some (.cells #[.string rule, .int .u8 op, .string name, .slice aa an ac, .slice fa fn fc, .int .i64 label, .slice sa sn sc, .slice ma mn mc] 30 (0, 0)) := by rw [hw1, hG]; exact HK.blk_new _ _
  have HGO := Lib.hid hg
  have HLEN := Lib.hid hlen
  have HSUM := Lib.hid hsum
  have HB1 := Lib.hid hB1
  have HX1 := Lib.hid hx1
  have HW1 := Lib.hid hw1
  have HG := Lib.hid hG
  obtain ⟨r, hr⟩ : ∃ r, r = restN RG.1 := ⟨_, rfl⟩
  rw [← hr]
  have HRR := Lib.hid hr
  clear hg hlen hsum hB1 hw1 hG hs hz hw hl hu hRG hr
  go_enter Try.func22, Try.ntmps22
  go_upto_region 1 with (fail)
  rw [← HW1.out, ← HG.out]
  have x0 := HK.blk_cell hx1 0
  have x1 := HK.blk_cell hx1 1
  have x2 := HK.blk_cell hx1 2
  have x3 := HK.blk_cell hx1 3
  have x4 := HK.blk_cell hx1 4
  have x5 := HK.blk_cell hx1 5
  have x6 := HK.blk_cell hx1 6
  have x7 := HK.blk_cell hx1 7
  clear hx1
  go_upto_region 2 with (go_at_call 20; (refine (HGO.out w1 HB1.out).mono ?_; rintro e w2 ⟨v, gs, rfl, h1, h2, h3⟩; obtain ⟨va, vc, rfl⟩ := goal8_form h2; have HGS := Lib.hid h1; have HIG := Lib.hid h2; have HB2 := Lib.hid (below_then HB1.out h3); clear h1 h2 h3))
  clear x0 x1 x2 x3 x4 x5 x6 x7
  obtain ⟨n, hn⟩ : ∃ n, n = gs.length := ⟨_, rfl⟩
  rw [← hn]
  have hlg : RG.1.length = n := by rw [← HGS.out, List.length_map, hn]
  have hn320 : n ≤ 320 := by have := HLEN.out.1; omega
  have HN := Lib.hid hn
  have HLG := Lib.hid hlg
  clear hn hlg
  go_wp2_with (fail)
  go_loopw [7, 8] (fun nv jv wr => ∃ k m : Nat, k ≤ n ∧ jv = .int .i64 k ∧ nv = .int .i64 m ∧ m + sumW (RG.1.take k) = whole ∧ m ≤ 1152921504606846976 ∧ wr = w2) (fun _ j _ => n - (intOf j).toNat)
  case atStart => exact ⟨0, 1152921504606846976, by omega, rfl, rfl, by simp [sumW, whole], by omega, rfl⟩
  case round =>
    obtain ⟨k, m, hk, rfl, rfl, hsm, hm, rfl⟩ := hrel
    by_cases h1 : k < n
    · obtain ⟨x, hx⟩ : ∃ x, gs[k]? = some x := ⟨_, List.getElem?_eq_getElem (by rw [← HN.out]; exact h1)⟩
      obtain ⟨g, cap, hv, _, c1⟩ := goal8_at HIG.out hx
      simp only [Value.slice.injEq] at hv
      obtain ⟨rfl, hv1, hv2⟩ := hv
      clear hv1 hv2
      have hd : RG.1[k]? = some x.d := by rw [← HGS.out, List.getElem?_map, hx]; rfl
      have htk := sumW_take hd
      have hle := sumW_le RG.1 (k + 1)
      obtain ⟨m2, hm2⟩ : ∃ m2, m2 = m - x.d.wt := ⟨_, rfl⟩
      have h4 := HSUM.out
      have hwm : x.d.wt ≤ m := by omega
      have z3 : (m : Int) - (x.d.wt : Int) = (m2 : Int) := by omega
      have z4 : m2 ≤ 1152921504606846976 := by omega
      have hs2 : m2 + sumW (RG.1.take (k + 1)) = whole := by omega
      have HS2 := Lib.hid hs2
      have y1 : (0 : Int) ≤ (k : Int) := by omega
      have y2 : (k : Int) < (n : Int) := by omega
      clear hx hd htk hle h4 hsm hm2 hs2
      go_wp2_with (fail)
      go_roundw
      case rel => exact ⟨k + 1, m2, by omega, by go_num, rfl, HS2.out, z4, by trivial⟩
      case measure => simp [intOf]; omega
    · have hkn : k = n := by omega
      have hms : m + sumW RG.1 = whole := by rw [List.take_of_length_le (by rw [HLG.out]; omega)] at hsm; exact hsm
      have hr := HRR.out
      have hr1 : RG.1 = [] → r = m := fun h => by rw [hr]; unfold restN; rw [if_pos h]; rw [h] at hms; simpa [sumW] using hms.symm
      have hr2 : RG.1 ≠ [] → r = min m (whole - 1) := fun h => by rw [hr]; unfold restN; rw [if_neg h]; congr 1; omega
      have hnil : RG.1 = [] ↔ n = 0 := by rw [← List.length_eq_zero_iff, HLG.out]
      have hwh : whole = 1152921504606846976 := rfl
      have y3 : ¬ ((k : Int) < (n : Int)) := by omega
      by_cases hn0 : n = 0
      · have hrm := hr1 (hnil.2 hn0)
        subst hrm
        subst hn0
        clear hr hr1 hr2 hnil hms hsm hkn
        go_wp2_with (fail)
        go_ret
        exact ⟨rfl, HB2.out⟩
      · have hrm := hr2 (fun h => hn0 (hnil.1 h))
        have y4 : (0 : Int) < (n : Int) := by omega
        by_cases hmw : m = 1152921504606846976
        · subst hmw
          have hrr : r = 1152921504606846975 := by rw [hrm]; rfl
          subst hrr
          clear hr hr1 hr2 hnil hms hsm hkn hrm
          go_wp2_with (fail)
          go_ret
          exact ⟨rfl, HB2.out⟩
        · have hrr : r = m := by rw [hrm]; omega
          subst hrr
          have y5 : ((r : Int) == 1152921504606846976) = false := by simp; omega
          have y6 : ¬ (r : Int) = 1152921504606846976 := by omega
          clear hr hr1 hr2 hnil hms hsm hkn hrm
          go_wp2_with (fail)
          go_ret
          exact ⟨rfl, HB2.out⟩
end
theorem perm_step (n k : Nat) : (k + 1) * 1152921504606846 + ((k + 1) * 976 + 999) / 1000 ≤ n ↔ (k + 1) * 1152921504606846976 ≤ 1000 * n := by omega
section
variable (w : World) (t : PT) (sv sw : SL) (ws : List (List Int)) (hs : IsPs w.heap.size w sv t.subs) (hz : sizeT t ≤ 320) (hw : IsW w sw ws) (hl : ws.length ≤ 20000) (hu : ∀ u ∈ ws, u.length ≤ 20000)
include hs hz hw hl hu
set_option maxRecDepth 100000 in
set_option maxHeartbeats 8000000 in
theorem permilleR_call : Calls Try.prog 23 #[.agg (t.arr sv), sw.v] w (RetB w (.int .i64 ((if (refG t ws).1 = [] then 1000 else min (1000 * restN (refG t ws).1 / 1152921504606846976) 999 : Nat) : Nat))) := by
  have hp := fun (W : World) (hB : Below w.heap.size w W) => progressR_call W t sv sw ws (hs.up hB) hz (hw.below hB) hl hu
  have hg := fun (W : World) (hB : Below w.heap.size w W) => ref_goals W t sv sw ws (hs.up hB) hz (hw.below hB) hl hu
  have hlen : (refG t ws).1.length ≤ 320 ∧ (refG t ws).2 ≤ 320 := by have := refG_len t ws; omega
  have hsum := refG_sum t ws
  obtain ⟨RG, hRG⟩ : ∃ RG, RG = refG t ws := ⟨_, rfl⟩
  rw [← hRG] at hlen hsum ⊢
  unfold RetGs at hg
  rw [← hRG] at hg
  rw [← hRG] at hp
  obtain ⟨rule, ⟨op, name, ⟨aa, an, ac⟩, ⟨fa, fn, fc⟩, label, ⟨ma, mn, mc⟩⟩, subs⟩ := t
  obtain ⟨sa, sn, sc⟩ := sv
  obtain ⟨wa, wn, we⟩ := sw
  simp only [PT.arr, PT.rule, PT.o, PT.subs, SL.v] at hg hp ⊢
  obtain ⟨G, hG⟩ : ∃ G, G = w.heap.size := ⟨_, rfl⟩
  obtain ⟨w1, hw1⟩ : ∃ w1, w1 = w.alloc (.cells #[.string rule, .int .u8 op, .string name, .slice aa an ac, .slice fa fn fc, .int .i64 label, .slice sa sn sc, .slice ma mn mc] 30) := ⟨_, rfl⟩
  have hB1 : Below w.heap.size w w1 := by rw [hw1]; exact bl_al (Below.refl _ _)
  have hx1 : w1.heap[G]? = some (.cells #[.string rule, .int .u8 op, .string name, .slice aa an ac, .slice fa fn fc, .int .i64 label, .slice sa sn sc, .slice ma mn mc] 30 (0, 0)) := by rw [hw1, hG]; exact HK.blk_new _ _
  have HGO := Lib.hid hg
  have HLEN := Lib.hid hlen
  have HSUM := Lib.hid hsum
  have HB1 := Lib.hid hB1
  have HX1 := Lib.hid hx1
  have HW1 := Lib.hid hw1
  have HG := Lib.hid hG
  have HPR := Lib.hid hp
  clear hg hp hlen hsum hB1 hw1 hG hs hz hw hl hu hRG
  obtain ⟨N, hN⟩ : ∃ N, N = restN RG.1 := ⟨_, rfl⟩
  have hNw : N ≤ 1152921504606846976 := by rw [hN]; exact restN_le _
  have hpr := HPR.out
  rw [← hN] at hpr ⊢
  obtain ⟨r, hr⟩ : ∃ r, r = if RG.1 = [] then 1000 else min (1000 * N / 1152921504606846976) 999 := ⟨_, rfl⟩
  rw [← hr]
  have hr1 : RG.1 = [] → r = 1000 := fun h => by rw [hr, if_pos h]
  have hr2 : RG.1 ≠ [] → r = min (1000 * N / 1152921504606846976) 999 := fun h => by rw [hr, if_neg h]
  have HR1 := Lib.hid hr1
  have HR2 := Lib.hid hr2
  clear hr hr1 hr2
  have HPR2 := Lib.hid hpr
  clear hN hpr HPR
  go_enter Try.func23, Try.ntmps23
  go_upto_region 1 with (fail)
  rw [← HW1.out, ← HG.out]
  have x0 := HK.blk_cell hx1 0
  have x1 := HK.blk_cell hx1 1
  have x2 := HK.blk_cell hx1 2
  have x3 := HK.blk_cell hx1 3
  have x4 := HK.blk_cell hx1 4
  have x5 := HK.blk_cell hx1 5
  have x6 := HK.blk_cell hx1 6
  have x7 := HK.blk_cell hx1 7
  clear hx1
  go_upto_region 2 with (go_at_call 20; (refine (HGO.out w1 HB1.out).mono ?_; rintro e w2 ⟨v, gs, rfl, h1, h2, h3⟩; obtain ⟨va, vc, rfl⟩ := goal8_form h2; have HGS := Lib.hid h1; have hx2 := (h3.block _ (HK.blk_lt HX1.out)).trans HX1.out; have HX2 := Lib.hid hx2; have HB2 := Lib.hid (below_then HB1.out h3); clear h1 h2 h3 hx2))
  clear x0 x1 x2 x3 x4 x5 x6 x7
  have hx2 := HX2.out
  obtain ⟨n, hn⟩ : ∃ n, n = gs.length := ⟨_, rfl⟩
  rw [← hn]
  have hnil : RG.1 = [] ↔ n = 0 := by rw [← List.length_eq_zero_iff, ← HGS.out, List.length_map, hn]
  by_cases hn0 : n = 0
  · have hrr := HR1.out (hnil.2 hn0)
    subst hrr
    subst hn0
    clear hn hnil hx2
    go_wp2_with (fail)
    go_ret
    exact ⟨rfl, HB2.out⟩
  · have hr := HR2.out (fun h => hn0 (hnil.1 h))
    have HR := Lib.hid hr
    clear hr
    have y1 : ((n : Int) == 0) = false := by simp; omega
    have y2 : ¬ (n : Int) = 0 := by omega
    have x0 := HK.blk_cell hx2 0
    have x1 := HK.blk_cell hx2 1
    have x2 := HK.blk_cell hx2 2
    have x3 := HK.blk_cell hx2 3
    have x4 := HK.blk_cell hx2 4
    have x5 := HK.blk_cell hx2 5
    have x6 := HK.blk_cell hx2 6
    have x7 := HK.blk_cell hx2 7
    clear hn hnil hx2
    go_upto_region 5 with (go_at_call 22; (refine (HPR2.out w2 HB2.out).mono ?_; rintro e w3 ⟨rfl, h3⟩; have HB3 := Lib.hid (below_then HB2.out h3); clear h3))
    clear x0 x1 x2 x3 x4 x5 x6 x7
    go_wp2_with (fail)
    go_loopw [8] (fun jv wr => ∃ k : Nat, k ≤ 999 ∧ jv = .int .i64 k ∧ k * 1152921504606846976 ≤ 1000 * N ∧ wr = w3) (fun j _ => 999 - (intOf j).toNat)
    case atStart => exact ⟨0, Nat.zero_le _, rfl, by rw [Nat.zero_mul]; exact Nat.zero_le _, rfl⟩
    case round =>
      obtain ⟨k, hk, rfl, hkN, rfl⟩ := hrel
      by_cases h1 : k < 999
      · have hst := perm_step N k
        obtain ⟨k1, hk1⟩ : ∃ k1, k1 = k + 1 := ⟨_, rfl⟩
        obtain ⟨A, hA⟩ : ∃ A, A = k1 * 1152921504606846 := ⟨_, rfl⟩
        obtain ⟨B, hB⟩ : ∃ B, B = k1 * 976 := ⟨_, rfl⟩
        obtain ⟨C, hC⟩ : ∃ C, C = B + 999 := ⟨_, rfl⟩
        obtain ⟨D, hD⟩ : ∃ D, D = C / 1000 := ⟨_, rfl⟩
        obtain ⟨S, hS⟩ : ∃ S, S = A + D := ⟨_, rfl⟩
        rw [← hk1, ← hA, ← hB, ← hC, ← hD, ← hS] at hst
        have z1 : (k : Int) + 1 = (k1 : Int) := by omega
        have z2 : (k1 : Int) * 1152921504606846 = (A : Int) := by omega
        have z3 : (k1 : Int) * 976 = (B : Int) := by omega
        have z4 : (B : Int) + 999 = (C : Int) := by omega
        have z5 : (C : Int) / 1000 = (D : Int) := by omega
        have z6 : (C : Int).tdiv 1000 = (D : Int) := by rw [Int.tdiv_eq_ediv_of_nonneg (by omega)]; exact z5
        have z7 : (A : Int) + (D : Int) = (S : Int) := by omega
        have b1 : k1 ≤ 1000 := by omega
        have b2 : A ≤ 1152921504606846000 := by omega
        have b3 : B ≤ 976000 := by omega
        have b4 : C ≤ 976999 := by omega
        have b5 : D ≤ 977 := by omega
        have b6 : S ≤ 1152921504606846977 := by omega
        have y0 : (k : Int) < 999 := by omega
        have HK1 := Lib.hid hk1
        have HST := Lib.hid hst
        have HKN := Lib.hid hkN
        clear hst hk1 hA hB hC hD hS hkN
        by_cases hNS : N < S
        · have y3 : (N : Int) < (S : Int) := by omega
          have hrk : r = k := by
            have h1 := HST.out
            have h2 := HR.out
            have h3 := HK1.out
            have h4 := HKN.out
            omega
          subst hrk
          go_wp2_with (fail)
          go_ret
          exact ⟨rfl, HB3.out⟩
        · have y3 : ¬ (N : Int) < (S : Int) := by omega
          go_wp2_with (fail)
          go_roundw
          case rel => exact ⟨k1, by omega, rfl, HST.out.1 (by omega), by trivial⟩
          case measure => have := HK1.out; simp [intOf]; omega
      · have hk9 : k = 999 := by omega
        have hrk : r = 999 := by
          have h2 := HR.out
          omega
        subst hk9
        subst hrk
        clear hkN
        go_wp2_with (fail)
        go_ret
        exact ⟨rfl, HB3.out⟩
end
end Go.Proofs.Ytfebcpmbkljaoaa
namespace Go.Proofs.Ytfebcpmbkljaoaa
open Go.RowKit Go.HR
set_option linter.unusedVariables false
set_option linter.unusedSimpArgs false
set_option linter.unusedSectionVars false
set_option maxRecDepth 100000 in
set_option maxHeartbeats 8000000 in
theorem goals_same (w : World) (b1 b2 : Nat) (v1 v2 : Value) (gs1 gs2 : List StepV) (h1 : IsG w b1 v1 gs1) (h2 : IsG8 w b2 v2 gs2) (he : gs1.map (·.d) = gs2.map (·.d)) (hl : gs1.length ≤ 20000) (hp : ∀ x ∈ gs1, x.d.pl.length ≤ 20000) : Calls Try.prog 21 #[v1, v2] w (RetD w (.bool true)) := by
  have hlen : gs2.length = gs1.length := by have := congrArg List.length he; simpa using this.symm
  obtain ⟨a1, c1, rfl⟩ := goal_form h1
  obtain ⟨a2, c2, rfl⟩ := goal8_form h2
  obtain ⟨n, hn⟩ : ∃ n, n = gs1.length := ⟨_, rfl⟩
  rw [hlen]
  rw [hlen] at h2
  rw [← hn] at hl h1 h2 ⊢
  have H1 := Lib.hid h1
  have H2 := Lib.hid h2
  have HE := Lib.hid he
  have HP := Lib.hid hp
  have HN := Lib.hid hn
  have HLEN := Lib.hid hlen
  clear h1 h2 he hp hn hlen
  go_enter Try.func21, Try.ntmps21
  go_wp2_with (fail)
  go_loopw [13] (fun i wr => ∃ k d : Nat, k ≤ n ∧ i = .int .i64 k ∧ wr = w.drewN d) (fun i _ => n - (intOf i).toNat)
  case atStart => exact ⟨0, 0, by omega, rfl, rfl⟩
  case round =>
    obtain ⟨k, d, hk, rfl, rfl⟩ := hrel
    obtain ⟨w2, hw2⟩ : ∃ w2, w2 = w.drewN d := ⟨_, rfl⟩
    rw [← hw2]
    have HW2 := Lib.hid hw2
    by_cases h1 : k < n
    · obtain ⟨x, hx⟩ : ∃ x, gs1[k]? = some x := ⟨_, List.getElem?_eq_getElem (by rw [← HN.out]; omega)⟩
      obtain ⟨y, hy⟩ : ∃ y, gs2[k]? = some y := ⟨_, List.getElem?_eq_getElem (by rw [HLEN.out, ← HN.out]; omega)⟩
      have hxy : y.d = x.d := by
        have h3 := congrArg (fun l : List StepD => l[k]?) HE.out
        simp only [List.getElem?_map, hx, hy, Option.map_some, Option.some.injEq] at h3
        exact h3.symm
      obtain ⟨g, _, hv1, a0, a1'⟩ := goal_at H1.out hx
      obtain ⟨g2, _, hv2, b0, b1'⟩ := goal8_at H2.out hy
      simp only [Value.slice.injEq] at hv1 hv2
      obtain ⟨rfl, hz1, hz2⟩ := hv1
      obtain ⟨rfl, hz3, hz4⟩ := hv2
      clear hz1 hz2 hz3 hz4
      have pa := (H1.out.2 x (List.mem_of_getElem? hx)).isI
      have pb := (H2.out.2.2 y (List.mem_of_getElem? hy)).isI
      have hpl := HP.out x (List.mem_of_getElem? hx)
      rw [hxy] at b1' pb
      obtain ⟨⟨plx, wtx, TX⟩, ⟨pax, pnx, pcx⟩, xsv⟩ := x
      obtain ⟨yd, ⟨pay, pny, pcy⟩, ysv⟩ := y
      simp only [SL.v] at a0 a1' b0 b1' pa pb hpl
      have hq1 := fun q => ints_quiet (W := w2) (q := q) (by rw [hw2]; exact pa.below ⟨rfl, rfl, rfl, Nat.le_refl _, fun _ _ => rfl⟩) (by rw [hw2]; exact pb.below ⟨rfl, rfl, rfl, Nat.le_refl _, fun _ _ => rfl⟩) (by simp; omega)
      simp only [SL.v] at hq1
      have HQ1 := Lib.hid hq1
      have k0 : ∀ q, (w2.drewN q).cell? ⟨g, k * 2, none⟩ = some (.slice pax pnx pcx) := fun q => by rw [hw2]; exact a0
      have k1 : ∀ q, (w2.drewN q).cell? ⟨g, k * 2 + 1, none⟩ = some (.int .i64 wtx) := fun q => by rw [hw2]; exact a1'
      have k2 : ∀ q, (w2.drewN q).cell? ⟨g2, k * 2, none⟩ = some (.slice pay pny pcy) := fun q => by rw [hw2]; exact b0
      have k3 : ∀ q, (w2.drewN q).cell? ⟨g2, k * 2 + 1, none⟩ = some (.int .i64 wtx) := fun q => by rw [hw2]; exact b1'
      have z0 : (0 : Int) ≤ (k : Int) := by omega
      have z1 : (k : Int) < (n : Int) := by omega
      clear hx hy hxy a0 a1' b0 b1' pa pb hpl hq1 hw2
      go_upto_region 6 with (fail)
      go_quiet ((go_at_call 26; first | (with_reducible exact HQ1.out _)))
      go_wp2_with (fail)
      go_roundw
      case rel => exact ⟨k + 1, _, by omega, by go_num, by rw [HW2.out]; simp; rfl⟩
      case measure => simp [intOf]; omega
    · have hkn : k = n := by omega
      have b4 : ¬ ((k : Int) < (n : Int)) := by omega
      clear hw2 hkn
      go_wp2_with (fail)
      go_ret
      exact ⟨rfl, d, HW2.out⟩
end Go.Proofs.Ytfebcpmbkljaoaa
namespace Go.Proofs.Ytfebcpmbkljaoaa
open Go.RowKit Go.HR
set_option linter.unusedVariables false
set_option linter.unusedSimpArgs false
set_option linter.unusedSectionVars false
theorem replT_some {u q : PT} {r : ByteArray} {o : PO} {s : List PT} {i : Int} {is : List Int} (h : replT (.node r o s) (i :: is) u = some q) : ∃ (k : Nat) (p q' : PT), i = (k : Int) ∧ s[k]? = some p ∧ replT p is u = some q' ∧ q = .node r o (s.set k q') := by
  rw [replT] at h
  split at h
  · rename_i hi
    split at h
    · rename_i p hp
      obtain ⟨q', hq', rfl⟩ := Option.map_eq_some_iff.1 h
      exact ⟨i.toNat, p, q', by omega, hp, hq', rfl⟩
    · cases h
  · cases h
def RetWw (n0 : Nat) (w : World) (q : PT) (e : Ending) (w' : World) : Prop :=
  ∃ sq : SL, e = .returned (.agg (q.arr sq)) ∧ IsPq (fun b => b < n0 ∨ (w.heap.size ≤ b ∧ b < w'.heap.size)) w' sq q.subs ∧ Below w.heap.size w w'
theorem blk_new3 (w : World) (a b c d : Obj) : ((((w.alloc a).alloc b).alloc c).alloc d).heap[w.heap.size + 3]? = some d := by
  have := HK.blk_new (((w.alloc a).alloc b).alloc c) d
  rwa [World.size_alloc, World.size_alloc, World.size_alloc] at this
section
variable (u : PT) (su : SL)
set_option maxRecDepth 100000 in
set_option maxHeartbeats 16000000 in
theorem with36 (n0 : Nat) : ∀ (is : List Int) (t q : PT) (w : World) (sv s : SL), n0 ≤ w.heap.size → IsPs n0 w sv t.subs → IsPs n0 w su u.subs → IsI w s is → is.length ≤ 20000 → sizeT t ≤ 10000 → replT t is u = some q →
    Calls Try.prog 36 #[.agg (t.arr sv), s.v, .agg (u.arr su)] w (RetWw n0 w q) := by
  intro is
  induction is with
  | nil =>
    intro t q w sv s hn0 hs hu hi _ hz hq
    rw [replT] at hq
    cases hq
    obtain ⟨sn', sc', _⟩ := hi
    obtain ⟨ia, i2, ic⟩ := s
    simp only [List.length_nil] at sn' sc'
    subst sn'
    obtain ⟨u0, hu0⟩ : ∃ u0, u0 = u := ⟨_, rfl⟩
    have hs0 : IsPs n0 w su u0.subs := by rw [hu0]; exact hu
    rw [← hu0, show u0.arr su = u.arr su by rw [hu0]]
    obtain ⟨rule, ⟨op, name, ⟨aa, an, ac⟩, ⟨fa, fn, fc⟩, label, ⟨ma, mn, mc⟩⟩, subs⟩ := t
    obtain ⟨urule, ⟨uop, uname, ⟨ba, bn, bc⟩, ⟨da, dn, dc⟩, ulabel, ⟨na, nn, nc⟩⟩, usubs⟩ := u
    obtain ⟨sa, sn, sc⟩ := sv
    obtain ⟨va, vn, vc⟩ := su
    simp only [PT.arr, PT.rule, PT.o, PT.subs, SL.v]
    have HTA := Lib.hid hu0
    have HS0 := Lib.hid hs0
    clear hs hs0 hu hu0
    have hx : (((w.alloc (.cells #[.string rule, .int .u8 op, .string name, .slice aa an ac, .slice fa fn fc, .int .i64 label, .slice sa sn sc, .slice ma mn mc] 30)).alloc (.cells #[.string urule, .int .u8 uop, .string uname, .slice ba bn bc, .slice da dn dc, .int .i64 ulabel, .slice va vn vc, .slice na nn nc] 30)).alloc (.cells #[.string urule, .int .u8 uop, .string uname, .slice ba bn bc, .slice da dn dc, .int .i64 ulabel, .slice va vn vc, .slice na nn nc] 30)).heap[w.heap.size + 2]? = some (.cells #[.string urule, .int .u8 uop, .string uname, .slice ba bn bc, .slice da dn dc, .int .i64 ulabel, .slice va vn vc, .slice na nn nc] 30 (0, 0)) := blk_new2 _ _ _ _
    have HX := Lib.hid hx
    clear hx
    go_enter Try.func36, Try.ntmps36
    go_wp2_with (fail)
    refine bodyPost_ret (results_cell_row (p := 6) (ty := 30) (by kernel_rfl) _ _ (w.heap.size + 2) 30 _ (0, 0) _ rfl HX.out Try.underlying30 rfl (by kernel_rfl)) rfl ?_
    have hB2 : Below w.heap.size w (((w.alloc (.cells #[.string rule, .int .u8 op, .string name, .slice aa an ac, .slice fa fn fc, .int .i64 label, .slice sa sn sc, .slice ma mn mc] 30)).alloc (.cells #[.string urule, .int .u8 uop, .string uname, .slice ba bn bc, .slice da dn dc, .int .i64 ulabel, .slice va vn vc, .slice na nn nc] 30)).alloc (.cells #[.string urule, .int .u8 uop, .string uname, .slice ba bn bc, .slice da dn dc, .int .i64 ulabel, .slice va vn vc, .slice na nn nc] 30)) := bl_al (bl_al (bl_al (Below.refl _ _)))
    exact ⟨⟨va, vn, vc⟩, by rw [HTA.out]; rfl, (HS0.out.same fun k hk => hB2.block k (by omega)).pq.turn fun b hb => ⟨.inl hb, rfl⟩, hB2⟩
  | cons i is ih =>
    intro t q w sv s hn0 hs hu hi hl hz hq
    obtain ⟨ia, i2, ic⟩ := s
    obtain ⟨c0', c1', c2'⟩ := id hi
    obtain ⟨g, o, rfl, hci⟩ := c2'.resolve_left (by simp)
    simp only at hi c0' c1'
    obtain ⟨m, rfl⟩ : ∃ m, i2 = m + 1 := ⟨is.length, by simpa using c0'⟩
    obtain ⟨c, rfl⟩ : ∃ c, ic = c + 1 := ⟨ic - 1, by omega⟩
    have hp0 := hci 0 i rfl
    simp only [Nat.add_zero] at hp0
    obtain ⟨nx, hnx⟩ : ∃ nx : Option Addr, nx = if c = 0 then some ⟨g, o, none⟩ else some ⟨g, o + 1, none⟩ := ⟨_, rfl⟩
    have hit : IsI w ⟨nx, m, c⟩ is := by
      by_cases h0 : c = 0
      · have hm0 : is = [] := by
          have h5 : m + 1 = (i :: is).length := c0'
          simp only [List.length_cons] at h5
          exact List.length_eq_zero_iff.1 (by omega)
        subst hm0
        exact ⟨by simpa using c0', by simp only; omega, .inl rfl⟩
      · rw [hnx, if_neg h0]
        exact isI_tail hi
    have HNX := Lib.hid hnx.symm
    clear hnx
    simp only [List.length_cons] at c0' hl
    have hm : m ≤ 20000 := by omega
    have hln := hs.len
    have hlz : t.subs.length ≤ 10000 := subs_le t hz
    have hze : ∀ (i : Nat) q, t.subs[i]? = some q → sizeT q ≤ 10000 := fun i q hq => by have := sizeF_mem hq; have := sizeT_eq t; omega
    obtain ⟨rule, ⟨op, name, ⟨aa, an, ac⟩, ⟨fa, fn, fc⟩, label, ⟨ma, mn, mc⟩⟩, subs⟩ := t
    obtain ⟨sa, sn, sc⟩ := sv
    simp only [PT.subs] at hs hln hlz hze
    rw [← hln] at hlz
    obtain ⟨k, p, q', rfl, hp, hrq, hqe⟩ := replT_some hq
    have hk : k < sn := by rw [hln]; exact (List.getElem?_eq_some_iff.1 hp).1
    obtain ⟨pg, po, s', ha, hpg, hpc, hps⟩ := psAt hs hp
    subst ha
    obtain ⟨xs, hxs, hxq, hxc⟩ := ps_flat hs
    have hxl : xs.length = sn := by rw [hln, ← hxs, List.length_map]
    have hzp := hze k p hp
    obtain ⟨ta, tn, tc⟩ := s'
    have hih := fun (W : World) (h1 : n0 ≤ W.heap.size) (h2 : IsPs n0 W ⟨ta, tn, tc⟩ p.subs) (h3 : IsPs n0 W su u.subs) (h4 : IsI W ⟨nx, m, c⟩ is) => ih p q' W ⟨ta, tn, tc⟩ ⟨nx, m, c⟩ h1 h2 h3 h4 (by omega) hzp hrq
    obtain ⟨u0, hu0⟩ : ∃ u0, u0 = u := ⟨_, rfl⟩
    obtain ⟨su0, hsu0⟩ : ∃ su0, su0 = su := ⟨_, rfl⟩
    have HUP : ∀ W, Below w.heap.size w W → IsPs n0 W su u.subs := fun W hB => hu.same fun b hb => hB.block b (by omega)
    have hih2 := fun (W : World) (hB : Below w.heap.size w W) => hih W (Nat.le_trans hn0 hB.size) (hps.same fun b hb => hB.block b (by omega)) (HUP W hB) (hit.below hB)
    clear hih HUP
    obtain ⟨urule, ⟨uop, uname, ⟨ba, bn, bc⟩, ⟨da, dn, dc⟩, ulabel, ⟨na, nn, nc⟩⟩, usubs⟩ := u
    obtain ⟨va, vn, vc⟩ := su
    unfold RetWw at hih2
    simp only [PT.arr, PT.rule, PT.o, PT.subs, SL.v] at hih2 ⊢
    obtain ⟨G, hG⟩ : ∃ G, G = w.heap.size := ⟨_, rfl⟩
    obtain ⟨Q, hQ⟩ : ∃ Q, Q = w.heap.size + 1 := ⟨_, rfl⟩
    obtain ⟨R, hR⟩ : ∃ R, R = w.heap.size + 1 + 1 := ⟨_, rfl⟩
    obtain ⟨O, hO⟩ : ∃ O, O = w.heap.size + 1 + 1 + 1 := ⟨_, rfl⟩
    obtain ⟨w4, hw4⟩ : ∃ w4, w4 = (((w.alloc (.cells #[.string rule, .int .u8 op, .string name, .slice aa an ac, .slice fa fn fc, .int .i64 label, .slice (some ⟨pg, po, none⟩) sn sc, .slice ma mn mc] 30)).alloc (.cells #[.string urule, .int .u8 uop, .string uname, .slice ba bn bc, .slice da dn dc, .int .i64 ulabel, .slice va vn vc, .slice na nn nc] 30)).alloc (.cells #[.string ⟨#[]⟩, .int .u8 0, .string ⟨#[]⟩, .slice none 0 0, .slice none 0 0, .int .i64 0, .slice none 0 0, .slice none 0 0] 30)).alloc (.cells #[.string rule, .int .u8 op, .string name, .slice aa an ac, .slice fa fn fc, .int .i64 label, .slice (some ⟨pg, po, none⟩) sn sc, .slice ma mn mc] 30) := ⟨_, rfl⟩
    have hB4 : Below w.heap.size w w4 := by rw [hw4]; exact bl_al (bl_al (bl_al (bl_al (Below.refl _ _))))
    have hz4 : w4.heap.size = w.heap.size + 4 := by rw [hw4]; simp
    have hg4 : w4.heap[G]? = some (.cells #[.string rule, .int .u8 op, .string name, .slice aa an ac, .slice fa fn fc, .int .i64 label, .slice (some ⟨pg, po, none⟩) sn sc, .slice ma mn mc] 30 (0, 0)) := by rw [hw4, hG]; exact HK.blk_alloc (HK.blk_alloc (HK.blk_alloc (HK.blk_new _ _) _) _) _
    have hu4 : w4.heap[Q]? = some (.cells #[.string urule, .int .u8 uop, .string uname, .slice ba bn bc, .slice da dn dc, .int .i64 ulabel, .slice va vn vc, .slice na nn nc] 30 (0, 0)) := by rw [hw4, hQ]; exact HK.blk_alloc (HK.blk_alloc (blk_new1 _ _ _) _) _
    have hr4 : w4.heap[R]? = some (.cells #[.string ⟨#[]⟩, .int .u8 0, .string ⟨#[]⟩, .slice none 0 0, .slice none 0 0, .int .i64 0, .slice none 0 0, .slice none 0 0] 30 (0, 0)) := by rw [hw4, hR]; exact HK.blk_alloc (blk_new2 _ _ _ _) _
    have ho4 : w4.heap[O]? = some (.cells #[.string rule, .int .u8 op, .string name, .slice aa an ac, .slice fa fn fc, .int .i64 label, .slice (some ⟨pg, po, none⟩) sn sc, .slice ma mn mc] 30 (0, 0)) := by rw [hw4, hO]; exact blk_new3 _ _ _ _ _
    have x6 : w4.cell? ⟨G, 6, none⟩ = some (.slice (some ⟨pg, po, none⟩) sn sc) := HK.blk_cell hg4 6
    have x6' : ∀ ob, (w4.alloc ob).cell? ⟨G, 6, none⟩ = some (.slice (some ⟨pg, po, none⟩) sn sc) := fun ob => HK.blk_cell (HK.blk_alloc hg4 ob) 6
    obtain ⟨i0, hi0, hz0, hz1, hz2⟩ := info_parts info30
    have h0 : (w4.alloc (.cells #[] 30)).ownsRow w4.heap.size 30 8 (.slice (some ⟨w4.heap.size, 0, none⟩) 0 0) 0 [] := World.ownsRow_lit w4 #[] 0 (Nat.le_refl _) (by simp [maxLen]) rfl
    have hc' : ∀ j u, (flatP xs)[j]? = some u → (w4.alloc (.cells #[] 30)).cell? ((⟨pg, po, none⟩ : Addr).add j) = some u := fun j u hj => by
      have hjl := (List.getElem?_eq_some_iff.1 hj).1
      rw [flatP_len] at hjl
      obtain ⟨x, hx⟩ : ∃ x, xs[j / 8]? = some x := ⟨_, List.getElem?_eq_getElem (by omega)⟩
      have hval : (x.1.vals x.2)[j % 8]? = some u := by
        have h9 := hj
        rw [flatP, show j = j / 8 * 8 + j % 8 by omega, flat_get (fun x : PT × SL => (x.1.arr x.2).toList) 8 (fun x => rfl) xs (j / 8) (j % 8) x hx (by omega)] at h9
        exact h9
      have h1 := hxc _ x hx _ u hval
      rw [show j / 8 * 8 + j % 8 = j by omega] at h1
      have h2 := cell_then h1 (bl_al (o := .cells #[] 30) hB4)
      by_cases hj0 : j = 0
      · subst hj0; simpa [Addr.add] using h2
      · simpa [Addr.add, hj0] using h2
    have hfl := flatP_len xs
    have hone : ∀ u ∈ flatP xs, u.oneCell' = true := by
      intro u hu
      simp only [flatP, List.mem_flatMap] at hu
      obtain ⟨x, _, hx⟩ := hu
      exact one_cells _ _ u hx
    rw [hxl] at hfl
    have hqs : q.arr = fun sq => #[.string rule, .int .u8 op, .string name, .slice aa an ac, .slice fa fn fc, .int .i64 label, sq.v, .slice ma mn mc] := by rw [hqe]; rfl
    have hqsub : q.subs = subs.set k q' := by rw [hqe]; rfl
    have HQS := Lib.hid hqs
    have HQSUB := Lib.hid hqsub
    have HP0 := Lib.hid hp0
    have HPC := Lib.hid hpc
    have HXS := Lib.hid hxs
    have HXQ := Lib.hid hxq
    have HXL := Lib.hid hxl
    have HIH := Lib.hid hih2
    have HB4 := Lib.hid hB4
    have HZ4 := Lib.hid hz4
    have HG4 := Lib.hid hg4
    have HU4 := Lib.hid hu4
    have HR4 := Lib.hid hr4
    have HO4 := Lib.hid ho4
    have HW4 := Lib.hid hw4
    have HG := Lib.hid hG
    have HQ := Lib.hid hQ
    have HR := Lib.hid hR
    have HO := Lib.hid hO
    have HLN := Lib.hid hln
    have z0 : (0 : Int) ≤ (k : Int) := by omega
    have z1 : (k : Int) < (sn : Int) := by omega
    have hsn0 : sn ≠ 0 := by omega
    clear hi c2' hci hp0 hit hln hze hs hz hu hq hqe hqs hqsub hpc hps hp hxs hxq hxc hxl hih2 hB4 hz4 hg4 hu4 hr4 ho4 hw4 hG hQ hR hO hu0 hsu0 ih c0' hrq hzp
    go_enter Try.func36, Try.ntmps36
    go_upto_region 4 with (fail)
    rw [← HW4.out, ← HO.out, ← HR.out, ← HQ.out, ← HG.out]
    go_upto_region 5 with (
      at_builtin
      refine wpList_append_own _ rfl _ _ 27 rfl w4.heap.size 30 i0 (.agg #[.string ⟨#[]⟩, .int .u8 0, .string ⟨#[]⟩, .slice none 0 0, .slice none 0 0, .int .i64 0, .slice none 0 0, .slice none 0 0]) 8 144 Try.underlying27 hi0 hz0 hz1 hz2 rfl (by decide) (.slice (some ⟨w4.heap.size, 0, none⟩) 0 0) 0 [] rfl h0 ⟨pg, po, none⟩ sn sc (flatP xs) rfl hfl hc' hone (by simp only [maxLen]; omega) (by omega) (by simp) ?_
      intro v' w1 hown1 hgrow hnil
      simp only [Nat.zero_add, List.nil_append] at hown1
      obtain ⟨g8, c8, hv8, hg8⟩ : ∃ g8 c8, v' = .slice (some ⟨g8, 0, none⟩) sn c8 ∧ w4.heap.size ≤ g8 := by
        rcases hown1.2 with ⟨h1, h2⟩ | ⟨g', cap, cur, h1, hg, hh, r⟩
        · omega
        · exact ⟨g', cap, h1, hg⟩
      subst hv8
      have hb1 : Below w4.heap.size w4 w1 := ((Below.refl _ w4).alloc (Nat.le_refl _) _).grown hgrow (by simp) (fun k e => by cases e; exact Nat.le_refl _)
      have hown8 : w1.ownsRow w4.heap.size 30 8 (.slice (some ⟨g8, 0, none⟩) xs.length c8) xs.length (flatP xs) := by rw [HXL.out]; exact hown1
      obtain ⟨cur, hcur, hfill, hcsz⟩ := own_fill hown8
      have ho1 := blk_up hb1 HO4.out
      have o6 : w1.cell? ⟨O, 6, none⟩ = some (.slice (some ⟨pg, po, none⟩) sn sc) := HK.blk_cell ho1 6
      have of := fun i => HK.blk_frozen ho1 i
      have HO1 := Lib.hid ho1
      have HB1 := Lib.hid hb1
      have HG8 := Lib.hid hg8
      have HCUR := Lib.hid hcur
      have HFILL := Lib.hid hfill
      have HCSZ := Lib.hid hcsz
      clear hown1 hown8 hgrow hnil hb1 hcur hfill hcsz ho1 h0 hc' hone)
    obtain ⟨w5, hw5⟩ : ∃ w5, w5 = w1.setCell ⟨O, 6, none⟩ (.slice (some ⟨g8, 0, none⟩) sn c8) := ⟨_, rfl⟩
    rw [← hw5]
    have hF5 : HK.Frm (· = O) w1 w5 := by rw [hw5]; exact HK.Frm.setCell (F := (· = O)) (HK.Frm.refl _ w1) (.inl rfl) _
    have hz4 := HZ4.out
    have hg8 := HG8.out
    have hGO := HG.out
    have hQO := HQ.out
    have hRO := HR.out
    have hOO := HO.out
    have ho5 : w5.heap[O]? = some (.cells #[.string rule, .int .u8 op, .string name, .slice aa an ac, .slice fa fn fc, .int .i64 label, .slice (some ⟨g8, 0, none⟩) sn c8, .slice ma mn mc] 30 (0, 0)) := by rw [hw5]; exact HK.blk_set HO1.out 6 _
    have hg5 := hF5.heap (blk_up HB1.out HG4.out) (by omega)
    have hu5 := hF5.heap (blk_up HB1.out HU4.out) (by omega)
    have hr5 := hF5.heap (blk_up HB1.out HR4.out) (by omega)
    have hc5 := hF5.heap HCUR.out (by omega)
    have hz1' := HB1.out.size
    have hz5 := hF5.size
    have hB5 : Below w.heap.size w w5 := HB4.out.trans ((HB1.out.mono (by omega)).trans (hF5.below (B := w.heap.size) (by omega) (fun b e => by omega)))
    have hOg : ¬ O = g8 := by omega
    have hGg : ¬ G = g8 := by omega
    have hQg : ¬ Q = g8 := by omega
    have hRg : ¬ R = g8 := by omega
    have hwg : w.heap.size ≤ g8 := by omega
    have hcz : k * 8 + 8 ≤ cur.size := by have := HCSZ.out; rw [HXL.out] at this; omega
    have hg85 := HK.blk_lt hc5
    have hn05 : n0 ≤ w5.heap.size := by omega
    have hbelw : ∀ W, HK.Frm (· = g8) w5 W → Below w.heap.size w W := fun W hF => hB5.trans (hF.below (B := w.heap.size) (by omega) (fun b e => by omega))
    have hcell : ∀ W, HK.Frm (· = g8) w5 W → ∀ (b j : Nat) v, w.cell? ⟨b, j, none⟩ = some v → W.cell? ⟨b, j, none⟩ = some v := fun W hF b j v h => cell_then h (hbelw W hF)
    have HO5 := Lib.hid ho5
    have HG5 := Lib.hid hg5
    have HU5 := Lib.hid hu5
    have HR5 := Lib.hid hr5
    have HC5 := Lib.hid hc5
    have HB5 := Lib.hid hB5
    have HZ8 := Lib.hid hcz
    have BELW := Lib.hid hbelw
    have CELL := Lib.hid hcell
    clear x6 x6' o6 of hw5 hF5 ho5 hg5 hu5 hr5 hc5 hz1' hz5 hB5 hcz hbelw hcell hz4 hfl hGO hQO hRO hOO hg8
    go_cut [18] from 19 to 34 (fun _ wx => ∃ sq : SL, wx.heap[g8]? = some (.cells (put8 cur (k * 8) (.string q'.rule) (.int .u8 q'.o.op) (.string q'.o.name) (.slice q'.o.args.a q'.o.args.n q'.o.args.c) (.slice q'.o.fsub.a q'.o.fsub.n q'.o.fsub.c) (.int .i64 q'.o.label) (.slice sq.a sq.n sq.c) (.slice q'.o.marks.a q'.o.marks.n q'.o.marks.c)) 30 (0, 0)) ∧ IsPq (fun b => b < n0 ∨ (w5.heap.size ≤ b ∧ b < wx.heap.size)) wx sq q'.subs ∧ HK.Frm (· = g8) w5 wx)
    case first =>
      refine Go.RE.wp_region_each [18, 19, 20, 21, 22, 23, 24, 25, 26, 27, 28, 29, 30, 31, 32, 33, 34] (fun L x W => (HK.Frm (· = g8) w5 W ∧ (L 17 = false → W.heap[g8]? = some (.cells cur 30 (0, 0)))) ∧ (L 0 = true → x 18 = .pointer (some ⟨O, 6, none⟩)) ∧ (L 1 = true → x 19 = .slice (some ⟨g8, 0, none⟩) sn c8) ∧ (L 2 = true → x 20 = .slice (some ⟨g, o, none⟩) (m + 1) (c + 1)) ∧ (L 3 = true → x 21 = .pointer (some ⟨g, o, none⟩)) ∧ (L 4 = true → x 22 = .int .i64 (k : Int)) ∧ (L 5 = true → x 23 = .pointer (some ⟨G, 6, none⟩)) ∧ (L 6 = true → x 24 = .slice (some ⟨pg, po, none⟩) sn sc) ∧ (L 7 = true → x 25 = .slice (some ⟨g, o, none⟩) (m + 1) (c + 1)) ∧ (L 8 = true → x 26 = .pointer (some ⟨g, o, none⟩)) ∧ (L 9 = true → x 27 = .int .i64 (k : Int)) ∧ (L 10 = true → x 28 = .pointer (some ⟨pg, po + k * 8, none⟩)) ∧ (L 11 = true → x 29 = .agg #[.string p.rule, .int .u8 p.o.op, .string p.o.name, .slice p.o.args.a p.o.args.n p.o.args.c, .slice p.o.fsub.a p.o.fsub.n p.o.fsub.c, .int .i64 p.o.label, .slice ta tn tc, .slice p.o.marks.a p.o.marks.n p.o.marks.c]) ∧ (L 12 = true → x 30 = .slice (some ⟨g, o, none⟩) (m + 1) (c + 1)) ∧ (L 13 = true → x 31 = .slice nx m c) ∧ (L 14 = true → x 32 = .agg #[.string urule, .int .u8 uop, .string uname, .slice ba bn bc, .slice da dn dc, .int .i64 ulabel, .slice va vn vc, .slice na nn nc]) ∧ (L 15 = true → ∃ sq : SL, x 33 = .agg #[.string q'.rule, .int .u8 q'.o.op, .string q'.o.name, .slice q'.o.args.a q'.o.args.n q'.o.args.c, .slice q'.o.fsub.a q'.o.fsub.n q'.o.fsub.c, .int .i64 q'.o.label, .slice sq.a sq.n sq.c, .slice q'.o.marks.a q'.o.marks.n q'.o.marks.c] ∧ IsPq (fun b => b < n0 ∨ (w5.heap.size ≤ b ∧ b < W.heap.size)) W sq q'.subs) ∧ (L 16 = true → x 34 = .pointer (some ⟨g8, k * 8, none⟩)) ∧ (L 17 = true → L 15 = true ∧ ∃ sq : SL, W.heap[g8]? = some (.cells (put8 cur (k * 8) (.string q'.rule) (.int .u8 q'.o.op) (.string q'.o.name) (.slice q'.o.args.a q'.o.args.n q'.o.args.c) (.slice q'.o.fsub.a q'.o.fsub.n q'.o.fsub.c) (.int .i64 q'.o.label) (.slice sq.a sq.n sq.c) (.slice q'.o.marks.a q'.o.marks.n q'.o.marks.c)) 30 (0, 0)) ∧ IsPq (fun b => b < n0 ∨ (w5.heap.size ≤ b ∧ b < W.heap.size)) W sq q'.subs)) (by kernel_rfl) (by kernel_rfl) (by kernel_rfl) ?_ ((Go.RE.Each.cons ?_ (Go.RE.Each.cons ?_ (Go.RE.Each.cons ?_ (Go.RE.Each.cons ?_ (Go.RE.Each.cons ?_ (Go.RE.Each.cons ?_ (Go.RE.Each.cons ?_ (Go.RE.Each.cons ?_ (Go.RE.Each.cons ?_ (Go.RE.Each.cons ?_ (Go.RE.Each.cons ?_ (Go.RE.Each.cons ?_ (Go.RE.Each.cons ?_ (Go.RE.Each.cons ?_ (Go.RE.Each.cons ?_ (Go.RE.Each.cons ?_ (Go.RE.Each.cons ?_ (Go.RE.Each.cons ?_ Go.RE.Each.nil))))))))))))))))))) ?_
      · exact fun x => ⟨⟨(HK.Frm.refl _ w5).drew, fun _ => HK.blk_drew HC5.out⟩, fun h => (by cases h), fun h => (by cases h), fun h => (by cases h), fun h => (by cases h), fun h => (by cases h), fun h => (by cases h), fun h => (by cases h), fun h => (by cases h), fun h => (by cases h), fun h => (by cases h), fun h => (by cases h), fun h => (by cases h), fun h => (by cases h), fun h => (by cases h), fun h => (by cases h), fun h => (by cases h), fun h => (by cases h), fun h => (by cases h)⟩
      · intro L x a w K hL hd hf hx hΦ hK
        obtain ⟨hI, f0, f1, f2, f3, f4, f5, f6, f7, f8, f9, f10, f11, f12, f13, f14, f15, f16, f17⟩ := hΦ
        have e7 : a.tmps[7]? = some (.pointer (some ⟨O, 0, none⟩)) := hf 7 (of_decide_eq_true (by kernel_rfl))
        clear hf hx hd
        go_simp
        refine hK _ _ ?_
        exact ⟨⟨hI.1, fun h => hI.2 h⟩, fun _ => rfl, fun h => f1 h, fun h => f2 h, fun h => f3 h, fun h => f4 h, fun h => f5 h, fun h => f6 h, fun h => f7 h, fun h => f8 h, fun h => f9 h, fun h => f10 h, fun h => f11 h, fun h => f12 h, fun h => f13 h, fun h => f14 h, fun h => f15 h, fun h => f16 h, fun h => f17 h⟩
      · intro L x a w K hL hd hf hx hΦ hK
        obtain ⟨hI, f0, f1, f2, f3, f4, f5, f6, f7, f8, f9, f10, f11, f12, f13, f14, f15, f16, f17⟩ := hΦ
        have d0 := f0 (hd 0 (by kernel_rfl))
        have e18 : a.tmps[18]? = some (x 18) := hx 0 _ 18 rfl rfl (hd 0 (by kernel_rfl))
        clear hf hx hd
        rw [d0] at e18
        have c6 := HK.blk_cell (hI.1.heap HO5.out hOg) 6
        simp only [List.getElem?_toArray, List.getElem?_cons_succ, List.getElem?_cons_zero] at c6
        go_simp
        refine hK _ _ ?_
        exact ⟨⟨hI.1, fun h => hI.2 h⟩, fun h => f0 h, fun _ => rfl, fun h => f2 h, fun h => f3 h, fun h => f4 h, fun h => f5 h, fun h => f6 h, fun h => f7 h, fun h => f8 h, fun h => f9 h, fun h => f10 h, fun h => f11 h, fun h => f12 h, fun h => f13 h, fun h => f14 h, fun h => f15 h, fun h => f16 h, fun h => f17 h⟩
      · intro L x a w K hL hd hf hx hΦ hK
        obtain ⟨hI, f0, f1, f2, f3, f4, f5, f6, f7, f8, f9, f10, f11, f12, f13, f14, f15, f16, f17⟩ := hΦ
        have e1 : a.tmps[1]? = some (.slice (some ⟨g, o, none⟩) (m + 1) (c + 1)) := hf 1 (of_decide_eq_true (by kernel_rfl))
        clear hf hx hd
        go_simp
        refine hK _ _ ?_
        exact ⟨⟨hI.1, fun h => hI.2 h⟩, fun h => f0 h, fun h => f1 h, fun _ => rfl, fun h => f3 h, fun h => f4 h, fun h => f5 h, fun h => f6 h, fun h => f7 h, fun h => f8 h, fun h => f9 h, fun h => f10 h, fun h => f11 h, fun h => f12 h, fun h => f13 h, fun h => f14 h, fun h => f15 h, fun h => f16 h, fun h => f17 h⟩
      · intro L x a w K hL hd hf hx hΦ hK
        obtain ⟨hI, f0, f1, f2, f3, f4, f5, f6, f7, f8, f9, f10, f11, f12, f13, f14, f15, f16, f17⟩ := hΦ
        have d2 := f2 (hd 2 (by kernel_rfl))
        have e20 : a.tmps[20]? = some (x 20) := hx 2 _ 20 rfl rfl (hd 2 (by kernel_rfl))
        clear hf hx hd
        rw [d2] at e20
        go_simp
        refine hK _ _ ?_
        exact ⟨⟨hI.1, fun h => hI.2 h⟩, fun h => f0 h, fun h => f1 h, fun h => f2 h, fun _ => rfl, fun h => f4 h, fun h => f5 h, fun h => f6 h, fun h => f7 h, fun h => f8 h, fun h => f9 h, fun h => f10 h, fun h => f11 h, fun h => f12 h, fun h => f13 h, fun h => f14 h, fun h => f15 h, fun h => f16 h, fun h => f17 h⟩
      · intro L x a w K hL hd hf hx hΦ hK
        obtain ⟨hI, f0, f1, f2, f3, f4, f5, f6, f7, f8, f9, f10, f11, f12, f13, f14, f15, f16, f17⟩ := hΦ
        have d3 := f3 (hd 3 (by kernel_rfl))
        have e21 : a.tmps[21]? = some (x 21) := hx 3 _ 21 rfl rfl (hd 3 (by kernel_rfl))
        clear hf hx hd
        rw [d3] at e21
        have c0 := CELL.out w hI.1 _ _ _ HP0.out
        go_simp
        refine hK _ _ ?_
        exact ⟨⟨hI.1, fun h => hI.2 h⟩, fun h => f0 h, fun h => f1 h, fun h => f2 h, fun h => f3 h, fun _ => rfl, fun h => f5 h, fun h => f6 h, fun h => f7 h, fun h => f8 h, fun h => f9 h, fun h => f10 h, fun h => f11 h, fun h => f12 h, fun h => f13 h, fun h => f14 h, fun h => f15 h, fun h => f16 h, fun h => f17 h⟩
      · intro L x a w K hL hd hf hx hΦ hK
        obtain ⟨hI, f0, f1, f2, f3, f4, f5, f6, f7, f8, f9, f10, f11, f12, f13, f14, f15, f16, f17⟩ := hΦ
        have e3 : a.tmps[3]? = some (.pointer (some ⟨G, 0, none⟩)) := hf 3 (of_decide_eq_true (by kernel_rfl))
        clear hf hx hd
        go_simp
        refine hK _ _ ?_
        exact ⟨⟨hI.1, fun h => hI.2 h⟩, fun h => f0 h, fun h => f1 h, fun h => f2 h, fun h => f3 h, fun h => f4 h, fun _ => rfl, fun h => f6 h, fun h => f7 h, fun h => f8 h, fun h => f9 h, fun h => f10 h, fun h => f11 h, fun h => f12 h, fun h => f13 h, fun h => f14 h, fun h => f15 h, fun h => f16 h, fun h => f17 h⟩
      · intro L x a w K hL hd hf hx hΦ hK
        obtain ⟨hI, f0, f1, f2, f3, f4, f5, f6, f7, f8, f9, f10, f11, f12, f13, f14, f15, f16, f17⟩ := hΦ
        have d5 := f5 (hd 5 (by kernel_rfl))
        have e23 : a.tmps[23]? = some (x 23) := hx 5 _ 23 rfl rfl (hd 5 (by kernel_rfl))
        clear hf hx hd
        rw [d5] at e23
        have c6 := HK.blk_cell (hI.1.heap HG5.out hGg) 6
        simp only [List.getElem?_toArray, List.getElem?_cons_succ, List.getElem?_cons_zero] at c6
        go_simp
        refine hK _ _ ?_
        exact ⟨⟨hI.1, fun h => hI.2 h⟩, fun h => f0 h, fun h => f1 h, fun h => f2 h, fun h => f3 h, fun h => f4 h, fun h => f5 h, fun _ => rfl, fun h => f7 h, fun h => f8 h, fun h => f9 h, fun h => f10 h, fun h => f11 h, fun h => f12 h, fun h => f13 h, fun h => f14 h, fun h => f15 h, fun h => f16 h, fun h => f17 h⟩
      · intro L x a w K hL hd hf hx hΦ hK
        obtain ⟨hI, f0, f1, f2, f3, f4, f5, f6, f7, f8, f9, f10, f11, f12, f13, f14, f15, f16, f17⟩ := hΦ
        have e1 : a.tmps[1]? = some (.slice (some ⟨g, o, none⟩) (m + 1) (c + 1)) := hf 1 (of_decide_eq_true (by kernel_rfl))
        clear hf hx hd
        go_simp
        refine hK _ _ ?_
        exact ⟨⟨hI.1, fun h => hI.2 h⟩, fun h => f0 h, fun h => f1 h, fun h => f2 h, fun h => f3 h, fun h => f4 h, fun h => f5 h, fun h => f6 h, fun _ => rfl, fun h => f8 h, fun h => f9 h, fun h => f10 h, fun h => f11 h, fun h => f12 h, fun h => f13 h, fun h => f14 h, fun h => f15 h, fun h => f16 h, fun h => f17 h⟩
      · intro L x a w K hL hd hf hx hΦ hK
        obtain ⟨hI, f0, f1, f2, f3, f4, f5, f6, f7, f8, f9, f10, f11, f12, f13, f14, f15, f16, f17⟩ := hΦ
        have d7 := f7 (hd 7 (by kernel_rfl))
        have e25 : a.tmps[25]? = some (x 25) := hx 7 _ 25 rfl rfl (hd 7 (by kernel_rfl))
        clear hf hx hd
        rw [d7] at e25
        go_simp
        refine hK _ _ ?_
        exact ⟨⟨hI.1, fun h => hI.2 h⟩, fun h => f0 h, fun h => f1 h, fun h => f2 h, fun h => f3 h, fun h => f4 h, fun h => f5 h, fun h => f6 h, fun h => f7 h, fun _ => rfl, fun h => f9 h, fun h => f10 h, fun h => f11 h, fun h => f12 h, fun h => f13 h, fun h => f14 h, fun h => f15 h, fun h => f16 h, fun h => f17 h⟩
      · intro L x a w K hL hd hf hx hΦ hK
        obtain ⟨hI, f0, f1, f2, f3, f4, f5, f6, f7, f8, f9, f10, f11, f12, f13, f14, f15, f16, f17⟩ := hΦ
        have d8 := f8 (hd 8 (by kernel_rfl))
        have e26 : a.tmps[26]? = some (x 26) := hx 8 _ 26 rfl rfl (hd 8 (by kernel_rfl))
        clear hf hx hd
        rw [d8] at e26
        have c0 := CELL.out w hI.1 _ _ _ HP0.out
        go_simp
        refine hK _ _ ?_
        exact ⟨⟨hI.1, fun h => hI.2 h⟩, fun h => f0 h, fun h => f1 h, fun h => f2 h, fun h => f3 h, fun h => f4 h, fun h => f5 h, fun h => f6 h, fun h => f7 h, fun h => f8 h, fun _ => rfl, fun h => f10 h, fun h => f11 h, fun h => f12 h, fun h => f13 h, fun h => f14 h, fun h => f15 h, fun h => f16 h, fun h => f17 h⟩
      · intro L x a w K hL hd hf hx hΦ hK
        obtain ⟨hI, f0, f1, f2, f3, f4, f5, f6, f7, f8, f9, f10, f11, f12, f13, f14, f15, f16, f17⟩ := hΦ
        have d6 := f6 (hd 6 (by kernel_rfl))
        have e24 : a.tmps[24]? = some (x 24) := hx 6 _ 24 rfl rfl (hd 6 (by kernel_rfl))
        have d9 := f9 (hd 9 (by kernel_rfl))
        have e27 : a.tmps[27]? = some (x 27) := hx 9 _ 27 rfl rfl (hd 9 (by kernel_rfl))
        clear hf hx hd
        rw [d6] at e24
        rw [d9] at e27
        go_simp
        refine hK _ _ ?_
        exact ⟨⟨hI.1, fun h => hI.2 h⟩, fun h => f0 h, fun h => f1 h, fun h => f2 h, fun h => f3 h, fun h => f4 h, fun h => f5 h, fun h => f6 h, fun h => f7 h, fun h => f8 h, fun h => f9 h, fun _ => rfl, fun h => f11 h, fun h => f12 h, fun h => f13 h, fun h => f14 h, fun h => f15 h, fun h => f16 h, fun h => f17 h⟩
      · intro L x a w K hL hd hf hx hΦ hK
        obtain ⟨hI, f0, f1, f2, f3, f4, f5, f6, f7, f8, f9, f10, f11, f12, f13, f14, f15, f16, f17⟩ := hΦ
        have d10 := f10 (hd 10 (by kernel_rfl))
        have e28 : a.tmps[28]? = some (x 28) := hx 10 _ 28 rfl rfl (hd 10 (by kernel_rfl))
        clear hf hx hd
        rw [d10] at e28
        have c0 := CELL.out w hI.1 _ _ _ (HPC.out 0 _ rfl)
        have c1 := CELL.out w hI.1 _ _ _ (HPC.out 1 _ rfl)
        have c2 := CELL.out w hI.1 _ _ _ (HPC.out 2 _ rfl)
        have c3 := CELL.out w hI.1 _ _ _ (HPC.out 3 _ rfl)
        have c4 := CELL.out w hI.1 _ _ _ (HPC.out 4 _ rfl)
        have c5 := CELL.out w hI.1 _ _ _ (HPC.out 5 _ rfl)
        have c6 := CELL.out w hI.1 _ _ _ (HPC.out 6 _ rfl)
        have c7 := CELL.out w hI.1 _ _ _ (HPC.out 7 _ rfl)
        simp only [PT.vals, SL.v, Nat.add_zero] at c0 c1 c2 c3 c4 c5 c6 c7
        go_simp
        refine hK _ _ ?_
        exact ⟨⟨hI.1, fun h => hI.2 h⟩, fun h => f0 h, fun h => f1 h, fun h => f2 h, fun h => f3 h, fun h => f4 h, fun h => f5 h, fun h => f6 h, fun h => f7 h, fun h => f8 h, fun h => f9 h, fun h => f10 h, fun _ => rfl, fun h => f12 h, fun h => f13 h, fun h => f14 h, fun h => f15 h, fun h => f16 h, fun h => f17 h⟩
      · intro L x a w K hL hd hf hx hΦ hK
        obtain ⟨hI, f0, f1, f2, f3, f4, f5, f6, f7, f8, f9, f10, f11, f12, f13, f14, f15, f16, f17⟩ := hΦ
        have e1 : a.tmps[1]? = some (.slice (some ⟨g, o, none⟩) (m + 1) (c + 1)) := hf 1 (of_decide_eq_true (by kernel_rfl))
        clear hf hx hd
        go_simp
        refine hK _ _ ?_
        exact ⟨⟨hI.1, fun h => hI.2 h⟩, fun h => f0 h, fun h => f1 h, fun h => f2 h, fun h => f3 h, fun h => f4 h, fun h => f5 h, fun h => f6 h, fun h => f7 h, fun h => f8 h, fun h => f9 h, fun h => f10 h, fun h => f11 h, fun _ => rfl, fun h => f13 h, fun h => f14 h, fun h => f15 h, fun h => f16 h, fun h => f17 h⟩
      · intro L x a w K hL hd hf hx hΦ hK
        obtain ⟨hI, f0, f1, f2, f3, f4, f5, f6, f7, f8, f9, f10, f11, f12, f13, f14, f15, f16, f17⟩ := hΦ
        have d12 := f12 (hd 12 (by kernel_rfl))
        have e30 : a.tmps[30]? = some (x 30) := hx 12 _ 30 rfl rfl (hd 12 (by kernel_rfl))
        clear hf hx hd
        rw [d12] at e30
        have hm1 : (1 : Int) ≤ (m : Int) + 1 := by omega
        have hnx := HNX.out
        go_simp
        refine hK _ _ ?_
        exact ⟨⟨hI.1, fun h => hI.2 h⟩, fun h => f0 h, fun h => f1 h, fun h => f2 h, fun h => f3 h, fun h => f4 h, fun h => f5 h, fun h => f6 h, fun h => f7 h, fun h => f8 h, fun h => f9 h, fun h => f10 h, fun h => f11 h, fun h => f12 h, fun _ => rfl, fun h => f14 h, fun h => f15 h, fun h => f16 h, fun h => f17 h⟩
      · intro L x a w K hL hd hf hx hΦ hK
        obtain ⟨hI, f0, f1, f2, f3, f4, f5, f6, f7, f8, f9, f10, f11, f12, f13, f14, f15, f16, f17⟩ := hΦ
        have e5 : a.tmps[5]? = some (.pointer (some ⟨Q, 0, none⟩)) := hf 5 (of_decide_eq_true (by kernel_rfl))
        clear hf hx hd
        have hbu := hI.1.heap HU5.out hQg
        have c0 := HK.blk_cell hbu 0
        have c1 := HK.blk_cell hbu 1
        have c2 := HK.blk_cell hbu 2
        have c3 := HK.blk_cell hbu 3
        have c4 := HK.blk_cell hbu 4
        have c5 := HK.blk_cell hbu 5
        have c6 := HK.blk_cell hbu 6
        have c7 := HK.blk_cell hbu 7
        simp only [List.getElem?_toArray, List.getElem?_cons_succ, List.getElem?_cons_zero] at c0 c1 c2 c3 c4 c5 c6 c7
        go_simp
        refine hK _ _ ?_
        exact ⟨⟨hI.1, fun h => hI.2 h⟩, fun h => f0 h, fun h => f1 h, fun h => f2 h, fun h => f3 h, fun h => f4 h, fun h => f5 h, fun h => f6 h, fun h => f7 h, fun h => f8 h, fun h => f9 h, fun h => f10 h, fun h => f11 h, fun h => f12 h, fun h => f13 h, fun _ => rfl, fun h => f15 h, fun h => f16 h, fun h => f17 h⟩
      · intro L x a w K hL hd hf hx hΦ hK
        obtain ⟨hI, f0, f1, f2, f3, f4, f5, f6, f7, f8, f9, f10, f11, f12, f13, f14, f15, f16, f17⟩ := hΦ
        have d11 := f11 (hd 11 (by kernel_rfl))
        have e29 : a.tmps[29]? = some (x 29) := hx 11 _ 29 rfl rfl (hd 11 (by kernel_rfl))
        have d13 := f13 (hd 13 (by kernel_rfl))
        have e31 : a.tmps[31]? = some (x 31) := hx 13 _ 31 rfl rfl (hd 13 (by kernel_rfl))
        have d14 := f14 (hd 14 (by kernel_rfl))
        have e32 : a.tmps[32]? = some (x 32) := hx 14 _ 32 rfl rfl (hd 14 (by kernel_rfl))
        clear hf hx hd
        rw [d11] at e29
        rw [d13] at e31
        rw [d14] at e32
        have hbel := BELW.out w hI.1
        go_simp
        go_at_call 36
        refine (HIH.out w hbel).mono ?_
        rintro e w' ⟨sq, rfl, hq1, hq2⟩
        simp only
        refine hK _ _ ?_
        exact ⟨⟨hI.1.trans (HK.Frm.of_below hq2 _), fun h => blk_up hq2 (hI.2 h)⟩, fun h => f0 h, fun h => f1 h, fun h => f2 h, fun h => f3 h, fun h => f4 h, fun h => f5 h, fun h => f6 h, fun h => f7 h, fun h => f8 h, fun h => f9 h, fun h => f10 h, fun h => f11 h, fun h => f12 h, fun h => f13 h, fun h => f14 h, fun _ => ⟨sq, rfl, hq1.turn fun b hb => ⟨hb.imp id fun hb => ⟨Nat.le_trans hI.1.size hb.1, hb.2⟩, rfl⟩⟩, fun h => f16 h, fun h => absurd (f17 h).1 (by rw [hL]; decide)⟩
      · intro L x a w K hL hd hf hx hΦ hK
        obtain ⟨hI, f0, f1, f2, f3, f4, f5, f6, f7, f8, f9, f10, f11, f12, f13, f14, f15, f16, f17⟩ := hΦ
        have d1 := f1 (hd 1 (by kernel_rfl))
        have e19 : a.tmps[19]? = some (x 19) := hx 1 _ 19 rfl rfl (hd 1 (by kernel_rfl))
        have d4 := f4 (hd 4 (by kernel_rfl))
        have e22 : a.tmps[22]? = some (x 22) := hx 4 _ 22 rfl rfl (hd 4 (by kernel_rfl))
        clear hf hx hd
        rw [d1] at e19
        rw [d4] at e22
        go_simp
        refine hK _ _ ?_
        exact ⟨⟨hI.1, fun h => hI.2 h⟩, fun h => f0 h, fun h => f1 h, fun h => f2 h, fun h => f3 h, fun h => f4 h, fun h => f5 h, fun h => f6 h, fun h => f7 h, fun h => f8 h, fun h => f9 h, fun h => f10 h, fun h => f11 h, fun h => f12 h, fun h => f13 h, fun h => f14 h, fun h => f15 h, fun _ => rfl, fun h => f17 h⟩
      · intro L x a w K hL hd hf hx hΦ hK
        obtain ⟨hI, f0, f1, f2, f3, f4, f5, f6, f7, f8, f9, f10, f11, f12, f13, f14, f15, f16, f17⟩ := hΦ
        have d16 := f16 (hd 16 (by kernel_rfl))
        have e34 : a.tmps[34]? = some (x 34) := hx 16 _ 34 rfl rfl (hd 16 (by kernel_rfl))
        have d15 := f15 (hd 15 (by kernel_rfl))
        have e33 : a.tmps[33]? = some (x 33) := hx 15 _ 33 rfl rfl (hd 15 (by kernel_rfl))
        have l15 := hd 15 (by kernel_rfl)
        clear hf hx hd
        rw [d16] at e34
        obtain ⟨sq, h33, hq1⟩ := d15
        rw [h33] at e33
        have hcur := hI.2 hL
        obtain ⟨q0, ho0⟩ : ∃ u, cur[k * 8]? = some u := ⟨_, Array.getElem?_eq_getElem (by have := HZ8.out; omega)⟩
        have c0 : w.cell? ⟨g8, k * 8, none⟩ = some q0 := (HK.blk_cell hcur _).trans ho0
        obtain ⟨q1, ho1⟩ : ∃ u, cur[k * 8 + 1]? = some u := ⟨_, Array.getElem?_eq_getElem (by have := HZ8.out; omega)⟩
        have c1 : w.cell? ⟨g8, k * 8 + 1, none⟩ = some q1 := (HK.blk_cell hcur _).trans ho1
        obtain ⟨q2, ho2⟩ : ∃ u, cur[k * 8 + 2]? = some u := ⟨_, Array.getElem?_eq_getElem (by have := HZ8.out; omega)⟩
        have c2 : w.cell? ⟨g8, k * 8 + 2, none⟩ = some q2 := (HK.blk_cell hcur _).trans ho2
        obtain ⟨q3, ho3⟩ : ∃ u, cur[k * 8 + 3]? = some u := ⟨_, Array.getElem?_eq_getElem (by have := HZ8.out; omega)⟩
        have c3 : w.cell? ⟨g8, k * 8 + 3, none⟩ = some q3 := (HK.blk_cell hcur _).trans ho3
        obtain ⟨q4, ho4⟩ : ∃ u, cur[k * 8 + 4]? = some u := ⟨_, Array.getElem?_eq_getElem (by have := HZ8.out; omega)⟩
        have c4 : w.cell? ⟨g8, k * 8 + 4, none⟩ = some q4 := (HK.blk_cell hcur _).trans ho4
        obtain ⟨q5, ho5⟩ : ∃ u, cur[k * 8 + 5]? = some u := ⟨_, Array.getElem?_eq_getElem (by have := HZ8.out; omega)⟩
        have c5 : w.cell? ⟨g8, k * 8 + 5, none⟩ = some q5 := (HK.blk_cell hcur _).trans ho5
        obtain ⟨q6, ho6⟩ : ∃ u, cur[k * 8 + 6]? = some u := ⟨_, Array.getElem?_eq_getElem (by have := HZ8.out; omega)⟩
        have c6 : w.cell? ⟨g8, k * 8 + 6, none⟩ = some q6 := (HK.blk_cell hcur _).trans ho6
        obtain ⟨q7, ho7⟩ : ∃ u, cur[k * 8 + 7]? = some u := ⟨_, Array.getElem?_eq_getElem (by have := HZ8.out; omega)⟩
        have c7 : w.cell? ⟨g8, k * 8 + 7, none⟩ = some q7 := (HK.blk_cell hcur _).trans ho7
        have cf := fun i => HK.blk_frozen hcur i
        have HCU := Lib.hid hcur
        have HQ1 := Lib.hid hq1
        clear h33 hcur hq1 ho0 ho1 ho2 ho3 ho4 ho5 ho6 ho7
        go_simp
        have hF8 := set8at_frm w g8 (k * 8) (.string q'.rule) (.int .u8 q'.o.op) (.string q'.o.name) (.slice q'.o.args.a q'.o.args.n q'.o.args.c) (.slice q'.o.fsub.a q'.o.fsub.n q'.o.fsub.c) (.int .i64 q'.o.label) (.slice sq.a sq.n sq.c) (.slice q'.o.marks.a q'.o.marks.n q'.o.marks.c)
        have h8 := set8at (o := k * 8) HCU.out (.string q'.rule) (.int .u8 q'.o.op) (.string q'.o.name) (.slice q'.o.args.a q'.o.args.n q'.o.args.c) (.slice q'.o.fsub.a q'.o.fsub.n q'.o.fsub.c) (.int .i64 q'.o.label) (.slice sq.a sq.n sq.c) (.slice q'.o.marks.a q'.o.marks.n q'.o.marks.c)
        obtain ⟨W8, hW8⟩ : ∃ W8, W8 = ((((((((w.setCell ⟨g8, k * 8, none⟩ (.string q'.rule)).setCell ⟨g8, k * 8 + 1, none⟩ (.int .u8 q'.o.op)).setCell ⟨g8, k * 8 + 2, none⟩ (.string q'.o.name)).setCell ⟨g8, k * 8 + 3, none⟩ (.slice q'.o.args.a q'.o.args.n q'.o.args.c)).setCell ⟨g8, k * 8 + 4, none⟩ (.slice q'.o.fsub.a q'.o.fsub.n q'.o.fsub.c)).setCell ⟨g8, k * 8 + 5, none⟩ (.int .i64 q'.o.label)).setCell ⟨g8, k * 8 + 6, none⟩ (.slice sq.a sq.n sq.c)).setCell ⟨g8, k * 8 + 7, none⟩ (.slice q'.o.marks.a q'.o.marks.n q'.o.marks.c)) := ⟨_, rfl⟩
        rw [← hW8] at hF8 h8 ⊢
        clear hW8
        have hkp : ∀ b, (b < n0 ∨ (w5.heap.size ≤ b ∧ b < w.heap.size)) → (b < n0 ∨ (w5.heap.size ≤ b ∧ b < W8.heap.size)) ∧ W8.heap[b]? = w.heap[b]? := fun b hb => by
          have h1 := hF8.size
          have h2 := hI.1.size
          rcases hb with hb | hb
          · exact ⟨.inl hb, hF8.block b (by omega) (by omega)⟩
          · exact ⟨.inr ⟨hb.1, by omega⟩, hF8.block b hb.2 (by omega)⟩
        refine hK undef _ ?_
        exact ⟨⟨hI.1.trans hF8, fun h => by cases h⟩, fun h => f0 h, fun h => f1 h, fun h => f2 h, fun h => f3 h, fun h => f4 h, fun h => f5 h, fun h => f6 h, fun h => f7 h, fun h => f8 h, fun h => f9 h, fun h => f10 h, fun h => f11 h, fun h => f12 h, fun h => f13 h, fun h => f14 h, fun h => (f15 h).imp fun sq h => ⟨h.1, h.2.turn hkp⟩, fun h => f16 h, fun _ => ⟨l15, sq, h8, HQ1.out.turn hkp⟩⟩
      · rintro x W ⟨hI, f0, f1, f2, f3, f4, f5, f6, f7, f8, f9, f10, f11, f12, f13, f14, f15, f16, f17⟩
        obtain ⟨_, sq, h1, h2⟩ := f17 (by kernel_rfl)
        simp only [Exit.then]
        go_step
        go_meet
        case rel => exact ⟨sq, h1, h2, hI.1⟩
    case rest =>
      obtain ⟨sq, h1, h2, h3⟩ := hcut
      have hoc := h3.heap HO5.out hOg
      have hrc := h3.heap HR5.out hRg
      have hbw := BELW.out wc h3
      have p0 := HK.blk_cell hoc 0
      have r0 := HK.blk_cell hrc 0
      have p1 := HK.blk_cell hoc 1
      have r1 := HK.blk_cell hrc 1
      have p2 := HK.blk_cell hoc 2
      have r2 := HK.blk_cell hrc 2
      have p3 := HK.blk_cell hoc 3
      have r3 := HK.blk_cell hrc 3
      have p4 := HK.blk_cell hoc 4
      have r4 := HK.blk_cell hrc 4
      have p5 := HK.blk_cell hoc 5
      have r5 := HK.blk_cell hrc 5
      have p6 := HK.blk_cell hoc 6
      have r6 := HK.blk_cell hrc 6
      have p7 := HK.blk_cell hoc 7
      have r7 := HK.blk_cell hrc 7
      have rf := fun i => HK.blk_frozen hrc i
      have H1 := Lib.hid h1
      have H2 := Lib.hid h2
      have H3 := Lib.hid h3
      have HRC := Lib.hid hrc
      have HBW := Lib.hid hbw
      clear hoc hrc h1 h2 h3 hbw
      go_wp2_with (fail)
      refine bodyPost_ret (results_cell_row (p := 6) (ty := 30) (by kernel_rfl) _ _ R 30 _ (0, 0) _ rfl (set8 (b := R) HRC.out _ _ _ _ _ _ _ _) Try.underlying30 rfl (by kernel_rfl)) rfl ?_
      have hFR := set8_frm wc R (.string rule) (.int .u8 op) (.string name) (.slice aa an ac) (.slice fa fn fc) (.int .i64 label) (.slice (some ⟨g8, 0, none⟩) sn c8) (.slice ma mn mc)
      have hzR := hFR.size
      have hRO := HR.out
      have hz4 := HZ4.out
      have hg8 := HG8.out
      have hz3 := H3.out.size
      have hg8c := HK.blk_lt H1.out
      have hzw := HB5.out.size
      refine ⟨⟨some ⟨g8, 0, none⟩, sn, c8⟩, by rw [HQS.out]; rfl, ?_, HBW.out.trans (hFR.below (B := w.heap.size) HBW.out.size (fun b e => by omega))⟩
      have hset : (xs.set k (q', sq)).map (·.1) = q.subs := by rw [List.map_set, HXS.out, HQSUB.out]
      rw [← hset]
      refine fill_pq (hFR.heap H1.out (by omega)) (HFILL.out.set (by rw [HXL.out]; have := HCSZ.out; rw [HXL.out] at this; exact this) (by rw [HXL.out]; exact hk) q' sq rfl) (by rw [List.length_set, HXL.out]) (.inr ⟨by omega, by omega⟩) (fun x hx => ?_)
      rcases List.mem_or_eq_of_mem_set hx with hx | rfl
      · exact (HXQ.out x hx).pq.turn fun b hb => ⟨.inl hb, by rw [hFR.block b (by omega) (by omega)]; exact HBW.out.block b (by omega)⟩
      · exact H2.out.turn fun b hb => by
          rcases hb with hb | ⟨hb1, hb2⟩
          · exact ⟨.inl hb, hFR.block b (by omega) (by omega)⟩
          · exact ⟨.inr ⟨by omega, by omega⟩, hFR.block b hb2 (by omega)⟩
end
end Go.Proofs.Ytfebcpmbkljaoaa
