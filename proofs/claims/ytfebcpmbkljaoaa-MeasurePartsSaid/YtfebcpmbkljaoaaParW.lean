/- The walk of MeasureParts (7). parw.py prints this text. -/
import Derived.Test.YtfebcpmbkljaoaaSpo
namespace Go.Proofs.Ytfebcpmbkljaoaa
open Go.RowKit Go.HR
set_option linter.unusedVariables false
set_option linter.unusedSimpArgs false
set_option linter.unusedSectionVars false
/-- New blocks that are no box of the two. -/
def Sx (n : Nat) (p : Bool) (v : Value) (q : Bool) (u : Value) (W : World) (k : Nat) : Prop := n ≤ k ∧ k < W.heap.size ∧ (p = true → v ≠ .pointer (some ⟨k, 0, none⟩)) ∧ (q = true → u ≠ .pointer (some ⟨k, 0, none⟩))
theorem bl_al' {n : Nat} {w W : World} {o : Obj} (h : Below n w W) (hn : n ≤ W.heap.size) : Below n w (W.alloc o) := h.alloc hn o
theorem box_up5 {W W' : World} {v u : Value} {q : Bool} {n : Nat} (hbu : ∀ (b : Nat) (o : Obj), W.heap[b]? = some o → W'.heap[b]? = some o)
    (h : ∃ B z0 z1 z2 z3 z4 z5 z6 z7, v = .pointer (some ⟨B, 0, none⟩) ∧ n ≤ B ∧ (q = true → u ≠ .pointer (some ⟨B, 0, none⟩)) ∧ W.heap[B]? = some (.cells #[z0, z1, z2, z3, z4, z5, z6, z7] 30 (0, 0))) :
    ∃ B z0 z1 z2 z3 z4 z5 z6 z7, v = .pointer (some ⟨B, 0, none⟩) ∧ n ≤ B ∧ (q = true → u ≠ .pointer (some ⟨B, 0, none⟩)) ∧ W'.heap[B]? = some (.cells #[z0, z1, z2, z3, z4, z5, z6, z7] 30 (0, 0)) := by
  obtain ⟨B, z0, z1, z2, z3, z4, z5, z6, z7, h1, h2, h3, h4⟩ := h
  exact ⟨B, z0, z1, z2, z3, z4, z5, z6, z7, h1, h2, h3, hbu _ _ h4⟩
theorem short_zero : shortR zeroR := ⟨⟨fun t h => (by cases h), Nat.zero_le _⟩, ⟨trivial, Nat.zero_le _⟩, ⟨Nat.zero_le _, fun u h => (by cases h)⟩, Nat.zero_le _, trivial⟩
theorem atis_rich {S : Nat → Prop} {W : World} {t q : PT} {r rq : RT} {is : List Int} {b : Bool} (h : AtIs (subT t is) q b) (hr : RichT S W t r) (hq : rq = (subR r is).getD zeroR) : RichT S W q rq := by
  cases hs : subT t is with
  | none =>
    rw [hs] at h
    obtain ⟨_, rfl⟩ := h
    rw [hq, subR_none hr hs]
    exact zero_rich S W
  | some q' =>
    rw [hs] at h
    obtain ⟨_, rfl⟩ := h
    obtain ⟨rq', h1, h2⟩ := subT_rich hr hs
    rw [hq, h1]
    exact h2
theorem box_new5 (W : World) (ob : Obj) {v u : Value} {q : Bool} {n : Nat}
    (h : ∃ B z0 z1 z2 z3 z4 z5 z6 z7, v = .pointer (some ⟨B, 0, none⟩) ∧ n ≤ B ∧ (q = true → u ≠ .pointer (some ⟨B, 0, none⟩)) ∧ W.heap[B]? = some (.cells #[z0, z1, z2, z3, z4, z5, z6, z7] 30 (0, 0))) :
    ∃ B z0 z1 z2 z3 z4 z5 z6 z7, v = .pointer (some ⟨B, 0, none⟩) ∧ n ≤ B ∧ (true = true → Value.pointer (some ⟨W.heap.size, 0, none⟩) ≠ .pointer (some ⟨B, 0, none⟩)) ∧ (W.alloc ob).heap[B]? = some (.cells #[z0, z1, z2, z3, z4, z5, z6, z7] 30 (0, 0)) := by
  obtain ⟨B, z0, z1, z2, z3, z4, z5, z6, z7, h1, h2, h3, h4⟩ := h
  exact ⟨B, z0, z1, z2, z3, z4, z5, z6, z7, h1, h2, fun _ e => by cases e; exact absurd (HK.blk_lt h4) (by omega), HK.blk_alloc h4 _⟩
theorem box_oth5 {W W' : World} {v u : Value} {q : Bool} {n : Nat} (hbu : ∀ (b : Nat) (o : Obj), v = .pointer (some ⟨b, 0, none⟩) → W.heap[b]? = some o → W'.heap[b]? = some o)
    (h : ∃ B z0 z1 z2 z3 z4 z5 z6 z7, v = .pointer (some ⟨B, 0, none⟩) ∧ n ≤ B ∧ (q = true → u ≠ .pointer (some ⟨B, 0, none⟩)) ∧ W.heap[B]? = some (.cells #[z0, z1, z2, z3, z4, z5, z6, z7] 30 (0, 0))) :
    ∃ B z0 z1 z2 z3 z4 z5 z6 z7, v = .pointer (some ⟨B, 0, none⟩) ∧ n ≤ B ∧ (q = true → u ≠ .pointer (some ⟨B, 0, none⟩)) ∧ W'.heap[B]? = some (.cells #[z0, z1, z2, z3, z4, z5, z6, z7] 30 (0, 0)) := by
  obtain ⟨B, z0, z1, z2, z3, z4, z5, z6, z7, h1, h2, h3, h4⟩ := h
  exact ⟨B, z0, z1, z2, z3, z4, z5, z6, z7, h1, h2, h3, hbu _ _ h1 h4⟩
set_option maxRecDepth 100000 in
set_option maxHeartbeats 16000000 in
theorem parts_walk (w : World) (tp tu : PT) (sp su sl : SL) (rp ru : RT) (is : List Int) (hsp : IsPs w.heap.size w sp tp.subs) (hop : okT w tp) (hrp : RichT (fun k => k < w.heap.size) w tp rp) (hsu : IsPs w.heap.size w su tu.subs) (hou : okT w tu) (hru : RichT (fun k => k < w.heap.size) w tu ru) (hi : IsI w sl is) :
    Calls Try.prog 7 #[.agg (tp.arr sp), .agg (tu.arr su), sl.v] w (RetB w (.bool true)) := by
  obtain ⟨pa, pn, pc⟩ := sl
  have hpn := hi.1
  simp only at hpn
  obtain ⟨G, hG⟩ : ∃ G, G = w.heap.size := ⟨_, rfl⟩
  obtain ⟨Q, hQ⟩ : ∃ Q, Q = w.heap.size + 1 := ⟨_, rfl⟩
  obtain ⟨w2, hw2⟩ : ∃ w2, w2 = (w.alloc (.cells #[.string tp.rule, .int .u8 tp.o.op, .string tp.o.name, .slice tp.o.args.a tp.o.args.n tp.o.args.c, .slice tp.o.fsub.a tp.o.fsub.n tp.o.fsub.c, .int .i64 tp.o.label, .slice sp.a sp.n sp.c, .slice tp.o.marks.a tp.o.marks.n tp.o.marks.c] 30)).alloc (.cells #[.string tu.rule, .int .u8 tu.o.op, .string tu.o.name, .slice tu.o.args.a tu.o.args.n tu.o.args.c, .slice tu.o.fsub.a tu.o.fsub.n tu.o.fsub.c, .int .i64 tu.o.label, .slice su.a su.n su.c, .slice tu.o.marks.a tu.o.marks.n tu.o.marks.c] 30) := ⟨_, rfl⟩
  have hB2 : Below w.heap.size w w2 := by rw [hw2]; exact bl_al (bl_al (Below.refl _ _))
  have hlv : Lv w2 [⟨G, tp, sp, rp⟩, ⟨Q, tu, su, ru⟩] := Lv.cons ⟨by rw [hw2, hG]; exact HK.blk_alloc (HK.blk_new _ _) _, hsp.up hB2, hrp.up hB2⟩ (Lv.cons ⟨by rw [hw2, hQ]; exact blk_new1 _ _ _, hsu.up hB2, hru.up hB2⟩ (Lv.nil _))
  have hi2 : IsI w2 ⟨pa, pn, pc⟩ is := hi.below hB2
  have hs1 : ∀ W, Below w2.heap.size w2 W → Calls Try.prog 15 #[.agg (tp.arr sp)] W fun e w' => ∃ b, e = .returned (.bool b) ∧ Below W.heap.size W w' ∧ (b = true → sizeT tp ≤ 320 ∧ shortR rp) := fun W hB => smallx_call W tp rp sp ((hsp.up hB2).up hB) (okT_below hB (okT_below hB2 hop)) ((hrp.up hB2).up hB)
  have hs2 : ∀ W, Below w2.heap.size w2 W → Calls Try.prog 15 #[.agg (tu.arr su)] W fun e w' => ∃ b, e = .returned (.bool b) ∧ Below W.heap.size W w' ∧ (b = true → sizeT tu ≤ 320 ∧ shortR ru) := fun W hB => smallx_call W tu ru su ((hsu.up hB2).up hB) (okT_below hB (okT_below hB2 hou)) ((hru.up hB2).up hB)
  simp only [arr_eq, SL.v] at hs1 hs2 ⊢
  have HS1 := Lib.hid hs1
  have HS2 := Lib.hid hs2
  have HLV2 := Lib.hid hlv
  have HI2 := Lib.hid hi2
  have HPN := Lib.hid hpn
  have HB2 := Lib.hid hB2
  have HG := Lib.hid hG
  have HQ := Lib.hid hQ
  have HW2 := Lib.hid hw2
  have haw := awake_call
  clear hs1 hs2 hlv hi2 hpn hB2 hG hQ hw2 hsp hop hrp hsu hou hru hi
  go_enter Try.func7, Try.ntmps7
  go_upto_region 1 with (fail)
  rw [← HW2.out, ← HQ.out, ← HG.out]
  go_cut [29] from 17 to 28 (fun v wx => ∃ b, v = .bool b ∧ (b = false → sizeT tp ≤ 320 ∧ shortR rp ∧ sizeT tu ≤ 320 ∧ shortR ru ∧ pn ≤ 50) ∧ Below w2.heap.size w2 wx)
  case first =>
    obtain ⟨x0, x1, x2, x3, x4, x5, x6, x7⟩ := box_cells (HLV2.out.get 0 rfl).1
    by_cases hn50 : pn ≤ 50
    · have y1 : ¬ (50 : Int) < (pn : Int) := by omega
      go_wp2_with (fail)
      go_at_call 15
      with_reducible refine (HS1.out _ (Below.refl _ _)).mono ?_
      rintro e u1 ⟨b1, rfl, hB, hz⟩
      obtain ⟨v0, v1, v2, v3, v4, v5, v6, v7⟩ := box_cells ((HLV2.out.up hB).get 1 rfl).1
      have HU1 := Lib.hid hB
      have HZ1 := Lib.hid hz
      clear hB hz
      rcases b1 with _ | _
      · go_wp2_with (fail)
        all_goals go_meet
        all_goals exact ⟨true, rfl, fun h => (by cases h), HU1.out⟩
      · go_wp2_with (go_at_call 15; (with_reducible refine (HS2.out _ HU1.out).mono ?_); rintro e u2 ⟨b2, rfl, hB, hz⟩; have HU2 := Lib.hid (below_then HU1.out hB); have HZ2 := Lib.hid hz; clear hB hz; rcases b2 with _ | _)
        all_goals go_meet
        all_goals first
          | exact ⟨true, rfl, fun h => (by cases h), HU2.out⟩
          | exact ⟨false, congrArg Value.bool (decide_eq_false (by omega)), fun _ => ⟨(HZ1.out (by trivial)).1, (HZ1.out (by trivial)).2, (HZ2.out (by trivial)).1, (HZ2.out (by trivial)).2, hn50⟩, HU2.out⟩
    · have y1 : (50 : Int) < (pn : Int) := by omega
      go_wp2_with (fail)
      go_at_call 15
      with_reducible refine (HS1.out _ (Below.refl _ _)).mono ?_
      rintro e u1 ⟨b1, rfl, hB, hz⟩
      obtain ⟨v0, v1, v2, v3, v4, v5, v6, v7⟩ := box_cells ((HLV2.out.up hB).get 1 rfl).1
      have HU1 := Lib.hid hB
      have HZ1 := Lib.hid hz
      clear hB hz
      rcases b1 with _ | _
      · go_wp2_with (fail)
        all_goals go_meet
        all_goals exact ⟨true, rfl, fun h => (by cases h), HU1.out⟩
      · go_wp2_with (go_at_call 15; (with_reducible refine (HS2.out _ HU1.out).mono ?_); rintro e u2 ⟨b2, rfl, hB, hz⟩; have HU2 := Lib.hid (below_then HU1.out hB); have HZ2 := Lib.hid hz; clear hB hz; rcases b2 with _ | _)
        all_goals go_meet
        all_goals first
          | exact ⟨true, rfl, fun h => (by cases h), HU2.out⟩
          | exact ⟨true, congrArg Value.bool (decide_eq_true (by omega)), fun h => (by cases h), HU2.out⟩
  case rest =>
    obtain ⟨b, rfl, hb, hB3⟩ := hcut
    obtain ⟨w3, hw3⟩ : ∃ w3 : World, w3 = wc := ⟨_, rfl⟩
    rw [← hw3] at hB3 ⊢
    clear hw3
    cases b with
    | true =>
      have HB3 := Lib.hid hB3
      clear hB3 hb
      go_wp2_with (go_at_call 14; (refine (haw _).mono ?_; rintro e w15 ⟨rfl, hB15⟩))
      go_ret
      exact ⟨rfl, below_then HB2.out (below_then HB3.out hB15)⟩
    | false =>
      obtain ⟨hzp, hshp, hzu, hshu, h50⟩ := hb rfl
      have hlv3 := HLV2.out.up hB3
      have hi3 := HI2.out.below hB3
      have hc1 : ∀ W, Below w3.heap.size w3 W → Calls Try.prog 31 #[.agg (tp.arr sp)] W (RetCR W rp) := fun W hB => proof_copy_all tp rp hshp sp W (((hlv3.up hB).get 0 rfl).2.1) (((hlv3.up hB).get 0 rfl).2.2)
      have hc2 : ∀ W, Below w3.heap.size w3 W → Calls Try.prog 31 #[.agg (tu.arr su)] W (RetCR W ru) := fun W hB => proof_copy_all tu ru hshu su W (((hlv3.up hB).get 1 rfl).2.1) (((hlv3.up hB).get 1 rfl).2.2)
      unfold RetCR at hc1 hc2
      simp only [arr_eq] at hc1 hc2
      have HC1 := Lib.hid hc1
      have HC2 := Lib.hid hc2
      have HLV := Lib.hid hlv3
      have HI3 := Lib.hid hi3
      have HB3 := Lib.hid (below_then HB2.out hB3)
      have HZP := Lib.hid hzp
      have HZU := Lib.hid hzu
      have HSP := Lib.hid hshp
      have HSU := Lib.hid hshu
      clear hc1 hc2 hlv3 hi3 hB3 hzp hzu hshp hshu hb HS1 HS2 HLV2 HI2 HW2
      go_upto_region 3 with (fail)
      go_cut [7, 8] from 31 to 34 (fun v7 v8 wx => ∃ (B7 B8 : Nat) (t7 t8 : PT) (s7 s8 : SL), v7 = .pointer (some ⟨B7, 0, none⟩) ∧ v8 = .pointer (some ⟨B8, 0, none⟩) ∧ Lv wx [⟨B7, t7, s7, rp⟩, ⟨B8, t8, s8, ru⟩] ∧ Below w3.heap.size w3 wx)
      case first =>
        refine Go.RE.wp_region_each [31, 32, 33, 34, 7, 8] (fun L x W => (Below w3.heap.size w3 W) ∧ (L 0 = true → x 31 = .agg #[.string tp.rule, .int .u8 tp.o.op, .string tp.o.name, .slice tp.o.args.a tp.o.args.n tp.o.args.c, .slice tp.o.fsub.a tp.o.fsub.n tp.o.fsub.c, .int .i64 tp.o.label, .slice sp.a sp.n sp.c, .slice tp.o.marks.a tp.o.marks.n tp.o.marks.c]) ∧ (L 1 = true → ∃ (t : PT) (s : SL), x 32 = .agg #[.string t.rule, .int .u8 t.o.op, .string t.o.name, .slice t.o.args.a t.o.args.n t.o.args.c, .slice t.o.fsub.a t.o.fsub.n t.o.fsub.c, .int .i64 t.o.label, .slice s.a s.n s.c, .slice t.o.marks.a t.o.marks.n t.o.marks.c] ∧ IsPq (Sx w3.heap.size (L 4) (x 7) (L 5) (x 8) W) W s t.subs ∧ RichT (Sx w3.heap.size (L 4) (x 7) (L 5) (x 8) W) W t rp) ∧ (L 2 = true → x 33 = .agg #[.string tu.rule, .int .u8 tu.o.op, .string tu.o.name, .slice tu.o.args.a tu.o.args.n tu.o.args.c, .slice tu.o.fsub.a tu.o.fsub.n tu.o.fsub.c, .int .i64 tu.o.label, .slice su.a su.n su.c, .slice tu.o.marks.a tu.o.marks.n tu.o.marks.c]) ∧ (L 3 = true → ∃ (t : PT) (s : SL), x 34 = .agg #[.string t.rule, .int .u8 t.o.op, .string t.o.name, .slice t.o.args.a t.o.args.n t.o.args.c, .slice t.o.fsub.a t.o.fsub.n t.o.fsub.c, .int .i64 t.o.label, .slice s.a s.n s.c, .slice t.o.marks.a t.o.marks.n t.o.marks.c] ∧ IsPq (Sx w3.heap.size (L 4) (x 7) (L 5) (x 8) W) W s t.subs ∧ RichT (Sx w3.heap.size (L 4) (x 7) (L 5) (x 8) W) W t ru) ∧ (L 4 = true → ∃ B z0 z1 z2 z3 z4 z5 z6 z7, x 7 = .pointer (some ⟨B, 0, none⟩) ∧ w3.heap.size ≤ B ∧ (L 5 = true → x 8 ≠ .pointer (some ⟨B, 0, none⟩)) ∧ W.heap[B]? = some (.cells #[z0, z1, z2, z3, z4, z5, z6, z7] 30 (0, 0))) ∧ (L 5 = true → ∃ B z0 z1 z2 z3 z4 z5 z6 z7, x 8 = .pointer (some ⟨B, 0, none⟩) ∧ w3.heap.size ≤ B ∧ (L 4 = true → x 7 ≠ .pointer (some ⟨B, 0, none⟩)) ∧ W.heap[B]? = some (.cells #[z0, z1, z2, z3, z4, z5, z6, z7] 30 (0, 0))) ∧ (L 6 = true → L 1 = true ∧ L 4 = true ∧ ∃ (B : Nat) (t : PT) (s : SL), x 7 = .pointer (some ⟨B, 0, none⟩) ∧ W.heap[B]? = some (.cells (t.arr s) 30 (0, 0)) ∧ IsPq (Sx w3.heap.size (L 4) (x 7) (L 5) (x 8) W) W s t.subs ∧ RichT (Sx w3.heap.size (L 4) (x 7) (L 5) (x 8) W) W t rp) ∧ (L 7 = true → L 3 = true ∧ L 5 = true ∧ ∃ (B : Nat) (t : PT) (s : SL), x 8 = .pointer (some ⟨B, 0, none⟩) ∧ W.heap[B]? = some (.cells (t.arr s) 30 (0, 0)) ∧ IsPq (Sx w3.heap.size (L 4) (x 7) (L 5) (x 8) W) W s t.subs ∧ RichT (Sx w3.heap.size (L 4) (x 7) (L 5) (x 8) W) W t ru)) (by kernel_rfl) (by kernel_rfl) (by kernel_rfl) ?_ ((Go.RE.Each.cons ?_ (Go.RE.Each.cons ?_ (Go.RE.Each.cons ?_ (Go.RE.Each.cons ?_ (Go.RE.Each.cons ?_ (Go.RE.Each.cons ?_ (Go.RE.Each.cons ?_ (Go.RE.Each.cons ?_ Go.RE.Each.nil))))))))) ?_
        · exact fun x => ⟨bl_dr (Below.refl _ w3), fun h => (by cases h), fun h => (by cases h), fun h => (by cases h), fun h => (by cases h), fun h => (by cases h), fun h => (by cases h), fun h => (by cases h), fun h => (by cases h)⟩
        · intro L x a w K hL hd hf hx hΦ hK
          obtain ⟨hI, f0, f1, f2, f3, f4, f5, f6, f7⟩ := hΦ
          have e3 : a.tmps[3]? = some (.pointer (some ⟨G, 0, none⟩)) := hf 3 (of_decide_eq_true (by kernel_rfl))
          clear hf hx hd
          obtain ⟨c0, c1, c2, c3, c4, c5, c6, c7⟩ := box_cells (blk_up hI (HLV.out.get 0 rfl).1)
          go_simp
          refine hK _ _ ?_
          exact ⟨hI, fun _ => rfl, fun h => f1 h, fun h => f2 h, fun h => f3 h, fun h => f4 h, fun h => f5 h, fun h => f6 h, fun h => f7 h⟩
        · intro L x a w K hL hd hf hx hΦ hK
          obtain ⟨hI, f0, f1, f2, f3, f4, f5, f6, f7⟩ := hΦ
          have d0 := f0 (hd 0 (by kernel_rfl))
          have e31 : a.tmps[31]? = some (x 31) := hx 0 _ 31 rfl rfl (hd 0 (by kernel_rfl))
          clear hf hx hd
          rw [d0] at e31
          go_simp
          go_at_call 31
          refine (HC1.out w hI).mono ?_
          rintro e w' ⟨t', s', rfl, hq1, hq2, hB8⟩
          have hbu : ∀ (b : Nat) (o : Obj), w.heap[b]? = some o → w'.heap[b]? = some o := fun b o h => blk_up hB8 h
          have hkp : ∀ k, Sx w3.heap.size (L 4) (x 7) (L 5) (x 8) w k → Sx w3.heap.size (L 4) (x 7) (L 5) (x 8) w' k ∧ w'.heap[k]? = w.heap[k]? := fun k hk => ⟨⟨hk.1, Nat.lt_of_lt_of_le hk.2.1 hB8.size, hk.2.2⟩, hB8.block k hk.2.1⟩
          have hnw : ∀ k, Fresh w w' k → Sx w3.heap.size (L 4) (x 7) (L 5) (x 8) w' k ∧ w'.heap[k]? = w'.heap[k]? := fun k hk => ⟨⟨Nat.le_trans hI.size hk.1, hk.2, fun h4 e => by
            obtain ⟨B, z0, z1, z2, z3, z4, z5, z6, z7, hb, _, _, hbx⟩ := f4 h4
            cases hb.symm.trans e
            exact absurd hk.1 (by have := HK.blk_lt hbx; omega), fun h5 e => by
            obtain ⟨B, z0, z1, z2, z3, z4, z5, z6, z7, hb, _, _, hbx⟩ := f5 h5
            cases hb.symm.trans e
            exact absurd hk.1 (by have := HK.blk_lt hbx; omega)⟩, rfl⟩
          simp only [arr_eq]
          refine hK _ _ ?_
          exact ⟨below_then hI hB8, fun h => f0 h, fun _ => ⟨t', s', rfl, hq1.turn hnw, RichT.turn hnw hq2⟩, fun h => f2 h, fun h => (f3 h).imp fun t h => h.imp fun s h => ⟨h.1, h.2.1.turn hkp, RichT.turn hkp h.2.2⟩, fun h => box_up5 hbu (f4 h), fun h => box_up5 hbu (f5 h), fun h => absurd (f6 h).1 (by rw [hL]; decide), fun h => ⟨(f7 h).1, (f7 h).2.1, (f7 h).2.2.imp fun B h => h.imp fun t h => h.imp fun s h => ⟨h.1, hbu _ _ h.2.1, h.2.2.1.turn hkp, RichT.turn hkp h.2.2.2⟩⟩⟩
        · intro L x a w K hL hd hf hx hΦ hK
          obtain ⟨hI, f0, f1, f2, f3, f4, f5, f6, f7⟩ := hΦ
          have e4 : a.tmps[4]? = some (.pointer (some ⟨Q, 0, none⟩)) := hf 4 (of_decide_eq_true (by kernel_rfl))
          clear hf hx hd
          obtain ⟨c0, c1, c2, c3, c4, c5, c6, c7⟩ := box_cells (blk_up hI (HLV.out.get 1 rfl).1)
          go_simp
          refine hK _ _ ?_
          exact ⟨hI, fun h => f0 h, fun h => f1 h, fun _ => rfl, fun h => f3 h, fun h => f4 h, fun h => f5 h, fun h => f6 h, fun h => f7 h⟩
        · intro L x a w K hL hd hf hx hΦ hK
          obtain ⟨hI, f0, f1, f2, f3, f4, f5, f6, f7⟩ := hΦ
          have d2 := f2 (hd 2 (by kernel_rfl))
          have e33 : a.tmps[33]? = some (x 33) := hx 2 _ 33 rfl rfl (hd 2 (by kernel_rfl))
          clear hf hx hd
          rw [d2] at e33
          go_simp
          go_at_call 31
          refine (HC2.out w hI).mono ?_
          rintro e w' ⟨t', s', rfl, hq1, hq2, hB8⟩
          have hbu : ∀ (b : Nat) (o : Obj), w.heap[b]? = some o → w'.heap[b]? = some o := fun b o h => blk_up hB8 h
          have hkp : ∀ k, Sx w3.heap.size (L 4) (x 7) (L 5) (x 8) w k → Sx w3.heap.size (L 4) (x 7) (L 5) (x 8) w' k ∧ w'.heap[k]? = w.heap[k]? := fun k hk => ⟨⟨hk.1, Nat.lt_of_lt_of_le hk.2.1 hB8.size, hk.2.2⟩, hB8.block k hk.2.1⟩
          have hnw : ∀ k, Fresh w w' k → Sx w3.heap.size (L 4) (x 7) (L 5) (x 8) w' k ∧ w'.heap[k]? = w'.heap[k]? := fun k hk => ⟨⟨Nat.le_trans hI.size hk.1, hk.2, fun h4 e => by
            obtain ⟨B, z0, z1, z2, z3, z4, z5, z6, z7, hb, _, _, hbx⟩ := f4 h4
            cases hb.symm.trans e
            exact absurd hk.1 (by have := HK.blk_lt hbx; omega), fun h5 e => by
            obtain ⟨B, z0, z1, z2, z3, z4, z5, z6, z7, hb, _, _, hbx⟩ := f5 h5
            cases hb.symm.trans e
            exact absurd hk.1 (by have := HK.blk_lt hbx; omega)⟩, rfl⟩
          simp only [arr_eq]
          refine hK _ _ ?_
          exact ⟨below_then hI hB8, fun h => f0 h, fun h => (f1 h).imp fun t h => h.imp fun s h => ⟨h.1, h.2.1.turn hkp, RichT.turn hkp h.2.2⟩, fun h => f2 h, fun _ => ⟨t', s', rfl, hq1.turn hnw, RichT.turn hnw hq2⟩, fun h => box_up5 hbu (f4 h), fun h => box_up5 hbu (f5 h), fun h => ⟨(f6 h).1, (f6 h).2.1, (f6 h).2.2.imp fun B h => h.imp fun t h => h.imp fun s h => ⟨h.1, hbu _ _ h.2.1, h.2.2.1.turn hkp, RichT.turn hkp h.2.2.2⟩⟩, fun h => absurd (f7 h).1 (by rw [hL]; decide)⟩
        · intro L x a w K hL hd hf hx hΦ hK
          obtain ⟨hI, f0, f1, f2, f3, f4, f5, f6, f7⟩ := hΦ
          clear hf hx hd
          go_simp
          have hbu : ∀ (b : Nat) (o : Obj), w.heap[b]? = some o → (w.alloc (.cells #[.string ⟨#[]⟩, .int .u8 0, .string ⟨#[]⟩, .slice none 0 0, .slice none 0 0, .int .i64 0, .slice none 0 0, .slice none 0 0] 30)).heap[b]? = some o := fun b o h => HK.blk_alloc h _
          have hkp : ∀ k, Sx w3.heap.size (L 4) (x 7) (L 5) (x 8) w k → Sx w3.heap.size true (.pointer (some ⟨w.heap.size, 0, none⟩)) (L 5) (x 8) (w.alloc (.cells #[.string ⟨#[]⟩, .int .u8 0, .string ⟨#[]⟩, .slice none 0 0, .slice none 0 0, .int .i64 0, .slice none 0 0, .slice none 0 0] 30)) k ∧ (w.alloc (.cells #[.string ⟨#[]⟩, .int .u8 0, .string ⟨#[]⟩, .slice none 0 0, .slice none 0 0, .int .i64 0, .slice none 0 0, .slice none 0 0] 30)).heap[k]? = w.heap[k]? := fun k hk => ⟨⟨hk.1, by rw [World.size_alloc]; exact Nat.lt_succ_of_lt hk.2.1, fun _ e => by cases e; exact absurd hk.2.1 (by omega), hk.2.2.2⟩, Below.heap_alloc w _ k hk.2.1⟩
          have hot : ∀ B, L 5 = true → x 8 = .pointer (some ⟨B, 0, none⟩) → B < w.heap.size := fun B h e => by
            obtain ⟨B', z0, z1, z2, z3, z4, z5, z6, z7, hb, _, _, hbx⟩ := f5 h
            cases hb.symm.trans e
            exact HK.blk_lt hbx
          refine hK _ _ ?_
          exact ⟨bl_al hI, fun h => f0 h, fun h => (f1 h).imp fun t h => h.imp fun s h => ⟨h.1, h.2.1.turn hkp, RichT.turn hkp h.2.2⟩, fun h => f2 h, fun h => (f3 h).imp fun t h => h.imp fun s h => ⟨h.1, h.2.1.turn hkp, RichT.turn hkp h.2.2⟩, fun _ => ⟨w.heap.size, _, _, _, _, _, _, _, _, rfl, hI.size, fun h e => absurd (hot _ h e) (by omega), HK.blk_new _ _⟩, fun h => box_new5 w _ (f5 h), fun h => absurd (f6 h).2.1 (by rw [hL]; decide), fun h => ⟨(f7 h).1, (f7 h).2.1, (f7 h).2.2.imp fun B h => h.imp fun t h => h.imp fun s h => ⟨h.1, hbu _ _ h.2.1, h.2.2.1.turn hkp, RichT.turn hkp h.2.2.2⟩⟩⟩
        · intro L x a w K hL hd hf hx hΦ hK
          obtain ⟨hI, f0, f1, f2, f3, f4, f5, f6, f7⟩ := hΦ
          clear hf hx hd
          go_simp
          have hbu : ∀ (b : Nat) (o : Obj), w.heap[b]? = some o → (w.alloc (.cells #[.string ⟨#[]⟩, .int .u8 0, .string ⟨#[]⟩, .slice none 0 0, .slice none 0 0, .int .i64 0, .slice none 0 0, .slice none 0 0] 30)).heap[b]? = some o := fun b o h => HK.blk_alloc h _
          have hkp : ∀ k, Sx w3.heap.size (L 4) (x 7) (L 5) (x 8) w k → Sx w3.heap.size (L 4) (x 7) true (.pointer (some ⟨w.heap.size, 0, none⟩)) (w.alloc (.cells #[.string ⟨#[]⟩, .int .u8 0, .string ⟨#[]⟩, .slice none 0 0, .slice none 0 0, .int .i64 0, .slice none 0 0, .slice none 0 0] 30)) k ∧ (w.alloc (.cells #[.string ⟨#[]⟩, .int .u8 0, .string ⟨#[]⟩, .slice none 0 0, .slice none 0 0, .int .i64 0, .slice none 0 0, .slice none 0 0] 30)).heap[k]? = w.heap[k]? := fun k hk => ⟨⟨hk.1, by rw [World.size_alloc]; exact Nat.lt_succ_of_lt hk.2.1, hk.2.2.1, fun _ e => by cases e; exact absurd hk.2.1 (by omega)⟩, Below.heap_alloc w _ k hk.2.1⟩
          have hot : ∀ B, L 4 = true → x 7 = .pointer (some ⟨B, 0, none⟩) → B < w.heap.size := fun B h e => by
            obtain ⟨B', z0, z1, z2, z3, z4, z5, z6, z7, hb, _, _, hbx⟩ := f4 h
            cases hb.symm.trans e
            exact HK.blk_lt hbx
          refine hK _ _ ?_
          exact ⟨bl_al hI, fun h => f0 h, fun h => (f1 h).imp fun t h => h.imp fun s h => ⟨h.1, h.2.1.turn hkp, RichT.turn hkp h.2.2⟩, fun h => f2 h, fun h => (f3 h).imp fun t h => h.imp fun s h => ⟨h.1, h.2.1.turn hkp, RichT.turn hkp h.2.2⟩, fun h => box_new5 w _ (f4 h), fun _ => ⟨w.heap.size, _, _, _, _, _, _, _, _, rfl, hI.size, fun h e => absurd (hot _ h e) (by omega), HK.blk_new _ _⟩, fun h => ⟨(f6 h).1, (f6 h).2.1, (f6 h).2.2.imp fun B h => h.imp fun t h => h.imp fun s h => ⟨h.1, hbu _ _ h.2.1, h.2.2.1.turn hkp, RichT.turn hkp h.2.2.2⟩⟩, fun h => absurd (f7 h).2.1 (by rw [hL]; decide)⟩
        · intro L x a w K hL hd hf hx hΦ hK
          obtain ⟨hI, f0, f1, f2, f3, f4, f5, f6, f7⟩ := hΦ
          have d4 := f4 (hd 4 (by kernel_rfl))
          have e7 : a.tmps[7]? = some (x 7) := hx 4 _ 7 rfl rfl (hd 4 (by kernel_rfl))
          have d1 := f1 (hd 1 (by kernel_rfl))
          have e32 : a.tmps[32]? = some (x 32) := hx 1 _ 32 rfl rfl (hd 1 (by kernel_rfl))
          have lo := hd 4 (by kernel_rfl)
          have lc := hd 1 (by kernel_rfl)
          clear hf hx hd
          obtain ⟨B, z0, z1, z2, z3, z4, z5, z6, z7, hb, hBl, hne, hbx⟩ := d4
          obtain ⟨t, s, hx, hq1, hq2⟩ := d1
          rw [hb] at e7
          rw [hx] at e32
          have c0 := HK.blk_cell hbx 0
          have c1 := HK.blk_cell hbx 1
          have c2 := HK.blk_cell hbx 2
          have c3 := HK.blk_cell hbx 3
          have c4 := HK.blk_cell hbx 4
          have c5 := HK.blk_cell hbx 5
          have c6 := HK.blk_cell hbx 6
          have c7 := HK.blk_cell hbx 7
          have cf := fun i => HK.blk_frozen hbx i
          go_simp
          have hF8 := set8_frm w B (.string t.rule) (.int .u8 t.o.op) (.string t.o.name) (.slice t.o.args.a t.o.args.n t.o.args.c) (.slice t.o.fsub.a t.o.fsub.n t.o.fsub.c) (.int .i64 t.o.label) (.slice s.a s.n s.c) (.slice t.o.marks.a t.o.marks.n t.o.marks.c)
          have h8 := set8 hbx (.string t.rule) (.int .u8 t.o.op) (.string t.o.name) (.slice t.o.args.a t.o.args.n t.o.args.c) (.slice t.o.fsub.a t.o.fsub.n t.o.fsub.c) (.int .i64 t.o.label) (.slice s.a s.n s.c) (.slice t.o.marks.a t.o.marks.n t.o.marks.c)
          obtain ⟨W8, hW8⟩ : ∃ W8, W8 = ((((((((w.setCell ⟨B, 0, none⟩ (.string t.rule)).setCell ⟨B, 1, none⟩ (.int .u8 t.o.op)).setCell ⟨B, 2, none⟩ (.string t.o.name)).setCell ⟨B, 3, none⟩ (.slice t.o.args.a t.o.args.n t.o.args.c)).setCell ⟨B, 4, none⟩ (.slice t.o.fsub.a t.o.fsub.n t.o.fsub.c)).setCell ⟨B, 5, none⟩ (.int .i64 t.o.label)).setCell ⟨B, 6, none⟩ (.slice s.a s.n s.c)).setCell ⟨B, 7, none⟩ (.slice t.o.marks.a t.o.marks.n t.o.marks.c)) := ⟨_, rfl⟩
          rw [← hW8] at hF8 h8 ⊢
          clear hW8
          have hkp : ∀ k, Sx w3.heap.size (L 4) (x 7) (L 5) (x 8) w k → Sx w3.heap.size (L 4) (x 7) (L 5) (x 8) W8 k ∧ W8.heap[k]? = w.heap[k]? := fun k hk => ⟨⟨hk.1, Nat.lt_of_lt_of_le hk.2.1 hF8.size, hk.2.2⟩, hF8.block k hk.2.1 (fun e => hk.2.2.1 lo (e ▸ hb))⟩
          have hoth : ∀ b o, L 5 = true → x 8 = .pointer (some ⟨b, 0, none⟩) → w.heap[b]? = some o → W8.heap[b]? = some o := fun b o h e ho => hF8.heap ho (fun eb => hne h (eb ▸ e))
          refine hK undef _ ?_
          exact ⟨hI.trans (hF8.below (B := w3.heap.size) hI.size (fun b e => by omega)), fun h => f0 h, fun h => (f1 h).imp fun t h => h.imp fun s h => ⟨h.1, h.2.1.turn hkp, RichT.turn hkp h.2.2⟩, fun h => f2 h, fun h => (f3 h).imp fun t h => h.imp fun s h => ⟨h.1, h.2.1.turn hkp, RichT.turn hkp h.2.2⟩, fun h => ⟨B, _, _, _, _, _, _, _, _, hb, hBl, hne, h8⟩, fun h => box_oth5 (fun b o e ho => hoth b o h e ho) (f5 h), fun _ => ⟨lc, lo, B, t, s, hb, h8, hq1.turn hkp, RichT.turn hkp hq2⟩, fun h => ⟨(f7 h).1, (f7 h).2.1, (f7 h).2.2.imp fun B' h' => h'.imp fun t h' => h'.imp fun s h' => ⟨h'.1, hoth _ _ (f7 h).2.1 h'.1 h'.2.1, h'.2.2.1.turn hkp, RichT.turn hkp h'.2.2.2⟩⟩⟩
        · intro L x a w K hL hd hf hx hΦ hK
          obtain ⟨hI, f0, f1, f2, f3, f4, f5, f6, f7⟩ := hΦ
          have d5 := f5 (hd 5 (by kernel_rfl))
          have e8 : a.tmps[8]? = some (x 8) := hx 5 _ 8 rfl rfl (hd 5 (by kernel_rfl))
          have d3 := f3 (hd 3 (by kernel_rfl))
          have e34 : a.tmps[34]? = some (x 34) := hx 3 _ 34 rfl rfl (hd 3 (by kernel_rfl))
          have lo := hd 5 (by kernel_rfl)
          have lc := hd 3 (by kernel_rfl)
          clear hf hx hd
          obtain ⟨B, z0, z1, z2, z3, z4, z5, z6, z7, hb, hBl, hne, hbx⟩ := d5
          obtain ⟨t, s, hx, hq1, hq2⟩ := d3
          rw [hb] at e8
          rw [hx] at e34
          have c0 := HK.blk_cell hbx 0
          have c1 := HK.blk_cell hbx 1
          have c2 := HK.blk_cell hbx 2
          have c3 := HK.blk_cell hbx 3
          have c4 := HK.blk_cell hbx 4
          have c5 := HK.blk_cell hbx 5
          have c6 := HK.blk_cell hbx 6
          have c7 := HK.blk_cell hbx 7
          have cf := fun i => HK.blk_frozen hbx i
          go_simp
          have hF8 := set8_frm w B (.string t.rule) (.int .u8 t.o.op) (.string t.o.name) (.slice t.o.args.a t.o.args.n t.o.args.c) (.slice t.o.fsub.a t.o.fsub.n t.o.fsub.c) (.int .i64 t.o.label) (.slice s.a s.n s.c) (.slice t.o.marks.a t.o.marks.n t.o.marks.c)
          have h8 := set8 hbx (.string t.rule) (.int .u8 t.o.op) (.string t.o.name) (.slice t.o.args.a t.o.args.n t.o.args.c) (.slice t.o.fsub.a t.o.fsub.n t.o.fsub.c) (.int .i64 t.o.label) (.slice s.a s.n s.c) (.slice t.o.marks.a t.o.marks.n t.o.marks.c)
          obtain ⟨W8, hW8⟩ : ∃ W8, W8 = ((((((((w.setCell ⟨B, 0, none⟩ (.string t.rule)).setCell ⟨B, 1, none⟩ (.int .u8 t.o.op)).setCell ⟨B, 2, none⟩ (.string t.o.name)).setCell ⟨B, 3, none⟩ (.slice t.o.args.a t.o.args.n t.o.args.c)).setCell ⟨B, 4, none⟩ (.slice t.o.fsub.a t.o.fsub.n t.o.fsub.c)).setCell ⟨B, 5, none⟩ (.int .i64 t.o.label)).setCell ⟨B, 6, none⟩ (.slice s.a s.n s.c)).setCell ⟨B, 7, none⟩ (.slice t.o.marks.a t.o.marks.n t.o.marks.c)) := ⟨_, rfl⟩
          rw [← hW8] at hF8 h8 ⊢
          clear hW8
          have hkp : ∀ k, Sx w3.heap.size (L 4) (x 7) (L 5) (x 8) w k → Sx w3.heap.size (L 4) (x 7) (L 5) (x 8) W8 k ∧ W8.heap[k]? = w.heap[k]? := fun k hk => ⟨⟨hk.1, Nat.lt_of_lt_of_le hk.2.1 hF8.size, hk.2.2⟩, hF8.block k hk.2.1 (fun e => hk.2.2.2 lo (e ▸ hb))⟩
          have hoth : ∀ b o, L 4 = true → x 7 = .pointer (some ⟨b, 0, none⟩) → w.heap[b]? = some o → W8.heap[b]? = some o := fun b o h e ho => hF8.heap ho (fun eb => hne h (eb ▸ e))
          refine hK undef _ ?_
          exact ⟨hI.trans (hF8.below (B := w3.heap.size) hI.size (fun b e => by omega)), fun h => f0 h, fun h => (f1 h).imp fun t h => h.imp fun s h => ⟨h.1, h.2.1.turn hkp, RichT.turn hkp h.2.2⟩, fun h => f2 h, fun h => (f3 h).imp fun t h => h.imp fun s h => ⟨h.1, h.2.1.turn hkp, RichT.turn hkp h.2.2⟩, fun h => box_oth5 (fun b o e ho => hoth b o h e ho) (f4 h), fun h => ⟨B, _, _, _, _, _, _, _, _, hb, hBl, hne, h8⟩, fun h => ⟨(f6 h).1, (f6 h).2.1, (f6 h).2.2.imp fun B' h' => h'.imp fun t h' => h'.imp fun s h' => ⟨h'.1, hoth _ _ (f6 h).2.1 h'.1 h'.2.1, h'.2.2.1.turn hkp, RichT.turn hkp h'.2.2.2⟩⟩, fun _ => ⟨lc, lo, B, t, s, hb, h8, hq1.turn hkp, RichT.turn hkp hq2⟩⟩
        · rintro x W ⟨hI, f0, f1, f2, f3, f4, f5, f6, f7⟩
          obtain ⟨_, _, B7, t7, s7, h1, h2, h3, h4⟩ := f6 (by kernel_rfl)
          obtain ⟨_, _, B8, t8, s8, k1, k2, k3, k4⟩ := f7 (by kernel_rfl)
          simp only [Exit.then]
          go_step
          go_meet
          case rel => exact ⟨B7, B8, t7, t8, s7, s8, h1, k1, Lv.cons ⟨h2, h3.ps fun b hb => hb.2.1, RichT.turn (fun b hb => ⟨hb.2.1, rfl⟩) h4⟩ (Lv.cons ⟨k2, k3.ps fun b hb => hb.2.1, RichT.turn (fun b hb => ⟨hb.2.1, rfl⟩) k4⟩ (Lv.nil _)), hI⟩
      case rest =>
        obtain ⟨B7, B8, t7, t8, s7, s8, rfl, rfl, hlv4, hB4⟩ := hcut
        obtain ⟨w4, hw4⟩ : ∃ w4 : World, w4 = wc := ⟨_, rfl⟩
        rw [← hw4] at hlv4 hB4 ⊢
        clear hw4
        have hlv4' : Lv w4 [⟨B7, t7, s7, rp⟩, ⟨B8, t8, s8, ru⟩, ⟨G, tp, sp, rp⟩, ⟨Q, tu, su, ru⟩] := hlv4.append (HLV.out.up hB4)
        have hi4 := HI3.out.below hB4
        have HLV4 := Lib.hid hlv4'
        have HLV40 := HLV4
        have HI4 := Lib.hid hi4
        have HB4 := Lib.hid (below_then HB3.out hB4)
        have hat := at_rich w4 tp rp sp ⟨pa, pn, pc⟩ is (hlv4'.get 2 rfl).2.1 (hlv4'.get 2 rfl).2.2 hi4 (by have := HPN.out; omega) (by have := HZP.out; omega) HSP.out
        obtain ⟨ea, hea⟩ : ∃ ea, ea = (atQ tp rp is).1 := ⟨_, rfl⟩
        obtain ⟨ra, hra⟩ : ∃ ra, ra = (atQ tp rp is).2 := ⟨_, rfl⟩
        unfold RetRq at hat
        rw [← hea, ← hra] at hat
        simp only [arr_eq, SL.v] at hat
        have HAT := Lib.hid hat
        have HEA := Lib.hid hea
        have HRA := Lib.hid hra
        obtain ⟨x0, x1, x2, x3, x4, x5, x6, x7⟩ := box_cells (HLV4.out.get 2 rfl).1
        clear hlv4 hlv4' hB4 hi4 hat hea hra HC1 HC2 HLV HI3
        go_upto_region 5 with (go_at_call 32; (refine HAT.out.mono ?_; rintro e w5 ⟨ta, sa, rfl, hpq, hri, hB5⟩; have HPQ := Lib.hid hpq; have HRI := Lib.hid hri; have HB5 := Lib.hid hB5; clear hpq hri hB5; simp only [arr_eq]))
        obtain ⟨A9, hA9⟩ : ∃ A9, A9 = w5.heap.size := ⟨_, rfl⟩
        obtain ⟨w6, hw6⟩ : ∃ w6, w6 = w5.alloc (.cells #[.string ta.rule, .int .u8 ta.o.op, .string ta.o.name, .slice ta.o.args.a ta.o.args.n ta.o.args.c, .slice ta.o.fsub.a ta.o.fsub.n ta.o.fsub.c, .int .i64 ta.o.label, .slice sa.a sa.n sa.c, .slice ta.o.marks.a ta.o.marks.n ta.o.marks.c] 30) := ⟨_, rfl⟩
        rw [← hw6, ← hA9]
        have hal : Below w5.heap.size w5 w6 := by rw [hw6]; exact bl_al (Below.refl _ _)
        have hlv6 : Lv w6 [⟨A9, ta, sa, ra⟩, ⟨B7, t7, s7, rp⟩, ⟨B8, t8, s8, ru⟩, ⟨G, tp, sp, rp⟩, ⟨Q, tu, su, ru⟩] := Lv.cons ⟨by rw [hw6, hA9]; exact HK.blk_new _ _, (HPQ.out.ps fun b hb => hb.1.2).up hal, (RichT.turn (T := fun k => k < w5.heap.size) (fun b hb => ⟨hb.1.2, rfl⟩) HRI.out).up hal⟩ ((HLV4.out.up HB5.out).up hal)
        have HPA6 := Lib.hid (HPQ.out.turnT (B := Fresh w4 w5) fun b hb => ⟨hb, hal.block b hb.2⟩)
        have HRA6 := Lib.hid (RichT.turnT (B := Fresh w4 w5) (fun b hb => ⟨hb, hal.block b hb.2⟩) HRI.out)
        have HB6 := Lib.hid (below_then HB4.out (below_then HB5.out hal))
        have hi6 := HI4.out.below (below_then HB5.out hal)
        have H46 := Lib.hid (below_then HB5.out hal)
        have HA9 := Lib.hid hA9
        have H56 := Lib.hid hal
        have HLV6 := Lib.hid hlv6
        have HI6 := Lib.hid hi6
        have hwt := with_rich w6 tp tu rp ru sp su ⟨pa, pn, pc⟩ is (hlv6.get 3 rfl).2.1 (hlv6.get 4 rfl).2.1 (hlv6.get 3 rfl).2.2 (hlv6.get 4 rfl).2.2 hi6 (by have := HPN.out; omega) (by have := HZP.out; omega) (by have := HZU.out; omega) HSP.out HSU.out
        obtain ⟨eb, heb⟩ : ∃ eb, eb = (withQ tp tu rp ru is).1 := ⟨_, rfl⟩
        obtain ⟨rb, hrb⟩ : ∃ rb, rb = (withQ tp tu rp ru is).2 := ⟨_, rfl⟩
        unfold RetRq at hwt
        rw [← heb, ← hrb] at hwt
        simp only [arr_eq, SL.v] at hwt
        have HWT := Lib.hid hwt
        have HEB := Lib.hid heb
        have HRB := Lib.hid hrb
        clear x0 x1 x2 x3 x4 x5 x6 x7
        obtain ⟨x0, x1, x2, x3, x4, x5, x6, x7⟩ := box_cells (HLV6.out.get 3 rfl).1
        obtain ⟨v0, v1, v2, v3, v4, v5, v6, v7⟩ := box_cells (HLV6.out.get 4 rfl).1
        clear hal hlv6 hi6 hA9 hw6 hwt heb hrb HPQ HRI HI4
        go_upto_region 6 with (go_at_call 24; (refine HWT.out.mono ?_; rintro e w7 ⟨tb, sb, rfl, hpq, hri, hB7⟩; have HPQ := Lib.hid hpq; have HRI := Lib.hid hri; have HB7 := Lib.hid hB7; clear hpq hri hB7; simp only [arr_eq]))
        obtain ⟨A11, hA11⟩ : ∃ A11, A11 = w7.heap.size := ⟨_, rfl⟩
        obtain ⟨w8, hw8⟩ : ∃ w8, w8 = w7.alloc (.cells #[.string tb.rule, .int .u8 tb.o.op, .string tb.o.name, .slice tb.o.args.a tb.o.args.n tb.o.args.c, .slice tb.o.fsub.a tb.o.fsub.n tb.o.fsub.c, .int .i64 tb.o.label, .slice sb.a sb.n sb.c, .slice tb.o.marks.a tb.o.marks.n tb.o.marks.c] 30) := ⟨_, rfl⟩
        rw [← hw8, ← hA11]
        have hal : Below w7.heap.size w7 w8 := by rw [hw8]; exact bl_al (Below.refl _ _)
        have hlv8 : Lv w8 [⟨A11, tb, sb, rb⟩, ⟨A9, ta, sa, ra⟩, ⟨B7, t7, s7, rp⟩, ⟨B8, t8, s8, ru⟩, ⟨G, tp, sp, rp⟩, ⟨Q, tu, su, ru⟩] := Lv.cons ⟨by rw [hw8, hA11]; exact HK.blk_new _ _, (HPQ.out.ps fun b hb => hb.1.2).up hal, (RichT.turn (T := fun k => k < w7.heap.size) (fun b hb => ⟨hb.1.2, rfl⟩) HRI.out).up hal⟩ ((HLV6.out.up HB7.out).up hal)
        have HPB8 := Lib.hid (HPQ.out.turnT (B := Fresh w6 w7) fun b hb => ⟨hb, hal.block b hb.2⟩)
        have HRB8 := Lib.hid (RichT.turnT (B := Fresh w6 w7) (fun b hb => ⟨hb, hal.block b hb.2⟩) HRI.out)
        have H68 := Lib.hid (below_then HB7.out hal)
        have HB8 := Lib.hid (below_then HB6.out (below_then HB7.out hal))
        have hi8 := HI6.out.below (below_then HB7.out hal)
        have HA11 := Lib.hid hA11
        have H78 := Lib.hid hal
        have HLV8 := Lib.hid hlv8
        have HI8 := Lib.hid hi8
        have hra3 := at33 w8.heap.size is tp w8 sp ⟨pa, pn, pc⟩ (Nat.le_refl _) (hlv8.get 4 rfl).2.1 hi8 (by have := HPN.out; omega) (by have := HZP.out; omega)
        unfold RetA3 at hra3
        simp only [arr_eq, SL.v] at hra3
        have HR3 := Lib.hid hra3
        clear x0 x1 x2 x3 x4 x5 x6 x7 v0 v1 v2 v3 v4 v5 v6 v7
        obtain ⟨x0, x1, x2, x3, x4, x5, x6, x7⟩ := box_cells (HLV8.out.get 4 rfl).1
        clear hal hlv8 hi8 hA11 hw8 hra3 HPQ HRI HLV6 HI6
        go_upto_region 7 with (go_at_call 33; (refine HR3.out.mono ?_; rintro e w9 ⟨tq, bq, sq, rfl, haq, hpq, hB9⟩; have HAQ := Lib.hid haq; have HPQ := Lib.hid hpq; have HB9 := Lib.hid hB9; clear haq hpq hB9; simp only [arr_eq]))
        obtain ⟨A13, hA13⟩ : ∃ A13, A13 = w9.heap.size := ⟨_, rfl⟩
        obtain ⟨w10, hw10⟩ : ∃ w10, w10 = w9.alloc (.cells #[.string tq.rule, .int .u8 tq.o.op, .string tq.o.name, .slice tq.o.args.a tq.o.args.n tq.o.args.c, .slice tq.o.fsub.a tq.o.fsub.n tq.o.fsub.c, .int .i64 tq.o.label, .slice sq.a sq.n sq.c, .slice tq.o.marks.a tq.o.marks.n tq.o.marks.c] 30) := ⟨_, rfl⟩
        rw [← hw10, ← hA13]
        have hal : Below w9.heap.size w9 w10 := by rw [hw10]; exact bl_al (Below.refl _ _)
        obtain ⟨rq, hrq⟩ : ∃ rq, rq = (subR rp is).getD zeroR := ⟨_, rfl⟩
        have hqr : RichT (fun k => k < w8.heap.size) w8 tq rq := atis_rich HAQ.out (HLV8.out.get 4 rfl).2.2 hrq
        have hlv10 : Lv w10 [⟨A13, tq, sq, rq⟩, ⟨A11, tb, sb, rb⟩, ⟨A9, ta, sa, ra⟩, ⟨B7, t7, s7, rp⟩, ⟨B8, t8, s8, ru⟩, ⟨G, tp, sp, rp⟩, ⟨Q, tu, su, ru⟩] := Lv.cons ⟨by rw [hw10, hA13]; exact HK.blk_new _ _, (HPQ.out.mono HB9.out.size).up hal, (hqr.up HB9.out).up hal⟩ ((HLV8.out.up HB9.out).up hal)
        have H810 := Lib.hid (below_then HB9.out hal)
        have HB10 := Lib.hid (below_then HB8.out (below_then HB9.out hal))
        have HI10 := Lib.hid (HI8.out.below (below_then HB9.out hal))
        have HLV10 := Lib.hid hlv10
        have HRQ := Lib.hid hrq
        clear x0 x1 x2 x3 x4 x5 x6 x7
        clear hal hlv10 hA13 hw10 hrq hqr HLV8 HI8 HPQ
        go_upto_region 8 with (fail)
        obtain ⟨A15, hA15⟩ : ∃ A15, A15 = w10.heap.size := ⟨_, rfl⟩
        obtain ⟨w11, hw11⟩ : ∃ w11, w11 = w10.alloc (.cells #[.string ⟨#[]⟩, .int .u8 0, .string ⟨#[]⟩, .slice none 0 0, .slice none 0 0, .int .i64 0, .slice none 0 0, .slice none 0 0] 30) := ⟨_, rfl⟩
        rw [← hw11, ← hA15]
        have hal : Below w10.heap.size w10 w11 := by rw [hw11]; exact bl_al (Below.refl _ _)
        have hlv11 : Lv w11 [⟨A15, zeroT, SL.nil, zeroR⟩, ⟨A13, tq, sq, rq⟩, ⟨A11, tb, sb, rb⟩, ⟨A9, ta, sa, ra⟩, ⟨B7, t7, s7, rp⟩, ⟨B8, t8, s8, ru⟩, ⟨G, tp, sp, rp⟩, ⟨Q, tu, su, ru⟩] := Lv.cons ⟨by rw [hw11, hA15]; exact HK.blk_new _ _, .nil _ _, zero_rich _ _⟩ (HLV10.out.up hal)
        have hva := valid_call w11 tp sp (hlv11.get 6 rfl).2.1 (by have := HZP.out; omega)
        unfold RetBo at hva
        simp only [arr_eq] at hva
        obtain ⟨mp, hmp⟩ : ∃ mp, mp = measT tp := ⟨_, rfl⟩
        rw [← hmp] at hva
        have HVA := Lib.hid hva
        have HMP := Lib.hid hmp
        have HLV11 := Lib.hid hlv11
        have H1011 := Lib.hid hal
        obtain ⟨x0, x1, x2, x3, x4, x5, x6, x7⟩ := box_cells (HLV11.out.get 6 rfl).1
        clear hal hlv11 hva hA15 hw11 hmp HLV10
        go_upto_if 57 with (go_at_call 34; (refine HVA.out.mono ?_; rintro e w12 ⟨rfl, hB12⟩; have HB12 := Lib.hid hB12; clear hB12))
        have HLV12 := Lib.hid (HLV11.out.up HB12.out)
        have hb1012 := below_then H1011.out HB12.out
        have HW12 := Lib.hid (below_then HB10.out hb1012)
        have H812 := Lib.hid (below_then H810.out hb1012)
        have HI12 := Lib.hid (HI10.out.below hb1012)
        clear x0 x1 x2 x3 x4 x5 x6 x7
        clear hb1012 HLV11 HI10 HB10 HB12 H1011 H810
        cases mp with
        | false =>
          have hm : measT tp = false := HMP.out.symm
          have he1 : ea = 2 ∧ ra = zeroR := by rw [HEA.out, HRA.out]; unfold atQ; rw [hm]; exact ⟨rfl, rfl⟩
          have he2 : eb = 2 ∧ rb = zeroR := by rw [HEB.out, HRB.out]; unfold withQ; rw [hm]; exact ⟨rfl, rfl⟩
          have HE1 := Lib.hid he1.2
          have HE2 := Lib.hid he2.2
          obtain rfl := he1.1
          obtain rfl := he2.1
          clear he1 he2 hm
          have hs0 : ∀ W, Below w12.heap.size w12 W → Calls Try.prog 35 _ W (RetB W (.bool true)) := fun W hB => same_live ((HLV12.out.up hB).get 3 rfl) ((HLV12.out.up hB).get 0 rfl) (HE1.out) (by rw [HE1.out]; exact short_zero)
          simp only [arr_eq] at hs0
          have HS0 := Lib.hid hs0
          clear hs0
          have hs1 : ∀ W, Below w12.heap.size w12 W → Calls Try.prog 35 _ W (RetB W (.bool true)) := fun W hB => same_live ((HLV12.out.up hB).get 2 rfl) ((HLV12.out.up hB).get 0 rfl) (HE2.out) (by rw [HE2.out]; exact short_zero)
          simp only [arr_eq] at hs1
          have HS1 := Lib.hid hs1
          clear hs1
          obtain ⟨x0, x1, x2, x3, x4, x5, x6, x7⟩ := box_cells (HLV12.out.get 3 rfl).1
          obtain ⟨y0, y1, y2, y3, y4, y5, y6, y7⟩ := box_cells (HLV12.out.get 0 rfl).1
          go_wp2_with (first | (go_at_call 14; refine (haw _).mono ?_; rintro e u9 ⟨rfl, hB⟩; have HU9 := Lib.hid (below_then HU1.out hB); clear hB) | (go_at_call 35; (with_reducible refine (HS1.out _ HU0.out).mono ?_); rintro e u1 ⟨rfl, hB⟩; have HU1 := Lib.hid (below_then HU0.out hB); clear hB) | (go_at_call 35; (with_reducible refine (HS0.out _ (Below.refl _ _)).mono ?_); rintro e u0 ⟨rfl, hB⟩; have HU0 := Lib.hid (below_then (Below.refl _ _) hB); clear hB; obtain ⟨p00, p01, p02, p03, p04, p05, p06, p07⟩ := box_cells ((HLV12.out.up HU0.out).get 2 rfl).1; obtain ⟨q00, q01, q02, q03, q04, q05, q06, q07⟩ := box_cells ((HLV12.out.up HU0.out).get 0 rfl).1))
          go_ret
          exact ⟨rfl, below_then HW12.out HU9.out⟩
        | true =>
          have hm : measT tp = true := HMP.out.symm
          cases hsub : subT tp is with
          | none =>
            have hsr : subR rp is = none := subR_none (HLV12.out.get 6 rfl).2.2 hsub
            have hrn : replT tp is tu = none := by have h := repl_has (u := tu) (is := is) (t := tp); rw [hsub] at h; cases h9 : replT tp is tu with | none => rfl | some q => rw [h9] at h; cases h
            have he1 : ea = 6 ∧ ra = zeroR := by rw [HEA.out, HRA.out]; unfold atQ; rw [hm, hsr]; exact ⟨rfl, rfl⟩
            have he2 : eb = 6 ∧ rb = zeroR := by rw [HEB.out, HRB.out]; unfold withQ; rw [hm, hrn]; exact ⟨rfl, rfl⟩
            have hbq : bq = false := by have h := HAQ.out; rw [hsub] at h; exact h.1
            have HE1 := Lib.hid he1.2
            have HE2 := Lib.hid he2.2
            obtain rfl := he1.1
            obtain rfl := he2.1
            obtain rfl := hbq
            clear he1 he2 hm hsr hrn hsub
            have hs0 : ∀ W, Below w12.heap.size w12 W → Calls Try.prog 35 _ W (RetB W (.bool true)) := fun W hB => same_live ((HLV12.out.up hB).get 3 rfl) ((HLV12.out.up hB).get 0 rfl) (HE1.out) (by rw [HE1.out]; exact short_zero)
            simp only [arr_eq] at hs0
            have HS0 := Lib.hid hs0
            clear hs0
            have hs1 : ∀ W, Below w12.heap.size w12 W → Calls Try.prog 35 _ W (RetB W (.bool true)) := fun W hB => same_live ((HLV12.out.up hB).get 2 rfl) ((HLV12.out.up hB).get 0 rfl) (HE2.out) (by rw [HE2.out]; exact short_zero)
            simp only [arr_eq] at hs1
            have HS1 := Lib.hid hs1
            clear hs1
            obtain ⟨x0, x1, x2, x3, x4, x5, x6, x7⟩ := box_cells (HLV12.out.get 3 rfl).1
            obtain ⟨y0, y1, y2, y3, y4, y5, y6, y7⟩ := box_cells (HLV12.out.get 0 rfl).1
            go_wp2_with (first | (go_at_call 14; refine (haw _).mono ?_; rintro e u9 ⟨rfl, hB⟩; have HU9 := Lib.hid (below_then HU1.out hB); clear hB) | (go_at_call 35; (with_reducible refine (HS1.out _ HU0.out).mono ?_); rintro e u1 ⟨rfl, hB⟩; have HU1 := Lib.hid (below_then HU0.out hB); clear hB) | (go_at_call 35; (with_reducible refine (HS0.out _ (Below.refl _ _)).mono ?_); rintro e u0 ⟨rfl, hB⟩; have HU0 := Lib.hid (below_then (Below.refl _ _) hB); clear hB; obtain ⟨p00, p01, p02, p03, p04, p05, p06, p07⟩ := box_cells ((HLV12.out.up HU0.out).get 2 rfl).1; obtain ⟨q00, q01, q02, q03, q04, q05, q06, q07⟩ := box_cells ((HLV12.out.up HU0.out).get 0 rfl).1))
            go_ret
            exact ⟨rfl, below_then HW12.out HU9.out⟩
          | some q0 =>
            obtain ⟨rq0, hsr, hrq0⟩ := subT_rich (HLV12.out.get 6 rfl).2.2 hsub
            have hshq : shortR rq0 := subR_short HSP.out hsr
            obtain ⟨q2, hq2⟩ : ∃ q2, replT tp is tu = some q2 := by have h := repl_has (u := tu) (is := is) (t := tp); rw [hsub] at h; cases h9 : replT tp is tu with | none => rw [h9] at h; cases h | some q => exact ⟨q, rfl⟩
            obtain ⟨r2, hr2, hrich2, hsh2⟩ := replT_rich (HLV12.out.get 7 rfl).2.2 HSU.out (HLV12.out.get 6 rfl).2.2 HSP.out hq2
            have he1 : ea = 0 ∧ ra = rq0 := by rw [HEA.out, HRA.out]; unfold atQ; rw [hm, hsr]; exact ⟨rfl, rfl⟩
            have hrqe : rq = rq0 := by rw [HRQ.out, hsr]; rfl
            have hbq : bq = true := by have h := HAQ.out; rw [hsub] at h; exact h.1
            have hz2 : sizeT q2 ≤ 640 := by have := replT_size hq2; have := HZP.out; have := HZU.out; omega
            have hw36 := with36 tu su w12.heap.size is tp q2 w12 sp ⟨pa, pn, pc⟩ (Nat.le_refl _) (HLV12.out.get 6 rfl).2.1 (HLV12.out.get 7 rfl).2.1 HI12.out (by have := HPN.out; omega) (by have := HZP.out; omega) hq2
            unfold RetWw at hw36
            simp only [arr_eq, SL.v] at hw36
            have he2 : (measT q2 = true → eb = 0 ∧ rb = r2) ∧ (measT q2 = false → eb = 5 ∧ rb = zeroR) := ⟨fun h => by rw [HEB.out, HRB.out]; unfold withQ; rw [hm, hq2]; simp only [h, hr2]; exact ⟨rfl, rfl⟩, fun h => by rw [HEB.out, HRB.out]; unfold withQ; rw [hm, hq2]; simp only [h]; exact ⟨rfl, rfl⟩⟩
            have HE1 := Lib.hid he1.2
            have HRQE := Lib.hid hrqe
            have HE2 := Lib.hid he2
            have HW36 := Lib.hid hw36
            have HSH := Lib.hid hshq
            have HSH2 := Lib.hid hsh2
            have HZ2 := Lib.hid hz2
            have HRICH := Lib.hid hrich2
            obtain rfl := he1.1
            obtain rfl := hbq
            clear he1 hrqe hw36 hshq hsh2 hz2 he2 hrich2 hsr hrq0 hr2 hq2 hsub hm
            obtain ⟨x0, x1, x2, x3, x4, x5, x6, x7⟩ := box_cells (HLV12.out.get 6 rfl).1
            obtain ⟨v0, v1, v2, v3, v4, v5, v6, v7⟩ := box_cells (HLV12.out.get 7 rfl).1
            go_upto_region 13 with (go_at_call 36; (refine HW36.out.mono ?_; rintro e w13 ⟨sw, rfl, hpq, hB13⟩; have HPQ := Lib.hid hpq; have HB13 := Lib.hid hB13; clear hpq hB13; simp only [arr_eq]))
            obtain ⟨A16, hA16⟩ : ∃ A16, A16 = w13.heap.size := ⟨_, rfl⟩
            obtain ⟨w14, hw14⟩ : ∃ w14, w14 = w13.alloc (.cells #[.string q2.rule, .int .u8 q2.o.op, .string q2.o.name, .slice q2.o.args.a q2.o.args.n q2.o.args.c, .slice q2.o.fsub.a q2.o.fsub.n q2.o.fsub.c, .int .i64 q2.o.label, .slice sw.a sw.n sw.c, .slice q2.o.marks.a q2.o.marks.n q2.o.marks.c] 30) := ⟨_, rfl⟩
            rw [← hw14, ← hA16]
            have hal : Below w13.heap.size w13 w14 := by rw [hw14]; exact bl_al (Below.refl _ _)
            have hlv14 : Lv w14 [⟨A16, q2, sw, r2⟩, ⟨A15, zeroT, SL.nil, zeroR⟩, ⟨A13, tq, sq, rq⟩, ⟨A11, tb, sb, rb⟩, ⟨A9, ta, sa, ra⟩, ⟨B7, t7, s7, rp⟩, ⟨B8, t8, s8, ru⟩, ⟨G, tp, sp, rp⟩, ⟨Q, tu, su, ru⟩] := Lv.cons ⟨by rw [hw14, hA16]; exact HK.blk_new _ _, (HPQ.out.ps fun b hb => by have := HB13.out.size; rcases hb with hb | hb <;> omega).up hal, (HRICH.out.up HB13.out).up hal⟩ ((HLV12.out.up HB13.out).up hal)
            have HLV14 := Lib.hid hlv14
            have H1214 := Lib.hid (below_then HB13.out hal)
            have HW14 := Lib.hid (below_then HW12.out (below_then HB13.out hal))
            clear x0 x1 x2 x3 x4 x5 x6 x7 v0 v1 v2 v3 v4 v5 v6 v7
            clear hlv14 hal hA16 hw14 HLV12 HI12
            have hs0 : ∀ W, Below w14.heap.size w14 W → Calls Try.prog 35 _ W (RetB W (.bool true)) := fun W hB => same_live ((HLV14.out.up hB).get 4 rfl) ((HLV14.out.up hB).get 2 rfl) (HE1.out.trans HRQE.out.symm) (by rw [HE1.out]; exact HSH.out)
            simp only [arr_eq] at hs0
            have HS0 := Lib.hid hs0
            clear hs0
            obtain ⟨x0, x1, x2, x3, x4, x5, x6, x7⟩ := box_cells (HLV14.out.get 4 rfl).1
            obtain ⟨y0, y1, y2, y3, y4, y5, y6, y7⟩ := box_cells (HLV14.out.get 2 rfl).1
            go_upto_if 111 with (first | (go_at_call 35; (with_reducible refine (HS0.out _ (Below.refl _ _)).mono ?_); rintro e u0 ⟨rfl, hB⟩; have HU0 := Lib.hid (below_then (Below.refl _ _) hB); clear hB))
            clear x0 x1 x2 x3 x4 x5 x6 x7 y0 y1 y2 y3 y4 y5 y6 y7
            have HLV15 := Lib.hid (HLV14.out.up HU0.out)
            have hva := valid_call u0 q2 sw (HLV15.out.get 0 rfl).2.1 (by have := HZ2.out; omega)
            unfold RetBo at hva
            simp only [arr_eq] at hva
            obtain ⟨mq, hmq⟩ : ∃ mq, mq = measT q2 := ⟨_, rfl⟩
            rw [← hmq] at hva
            have HVA := Lib.hid hva
            have HE2' := Lib.hid HE2.out
            have HMQ := Lib.hid hmq
            obtain ⟨x0, x1, x2, x3, x4, x5, x6, x7⟩ := box_cells (HLV15.out.get 0 rfl).1
            clear hva hmq HE2
            go_upto_if 114 with (go_at_call 34; (refine HVA.out.mono ?_; rintro e w16 ⟨rfl, hB16⟩; have HB16 := Lib.hid hB16; clear hB16))
            clear x0 x1 x2 x3 x4 x5 x6 x7
            have HLV16 := Lib.hid (HLV15.out.up HB16.out)
            have H1216 := Lib.hid (below_then H1214.out (below_then HU0.out HB16.out))
            have HW16 := Lib.hid (below_then HW14.out (below_then HU0.out HB16.out))
            clear HLV14 HLV15 HW14 H1214 HU0 HS0 HB16
            cases mq with
            | false =>
              have he2 := HE2'.out.2 HMQ.out.symm
              have HE2 := Lib.hid he2.2
              obtain rfl := he2.1
              clear he2
              have hs0 : ∀ W, Below w16.heap.size w16 W → Calls Try.prog 35 _ W (RetB W (.bool true)) := fun W hB => same_live ((HLV16.out.up hB).get 3 rfl) ((HLV16.out.up hB).get 1 rfl) (HE2.out) (by rw [HE2.out]; exact short_zero)
              simp only [arr_eq] at hs0
              have HS0 := Lib.hid hs0
              clear hs0
              obtain ⟨x0, x1, x2, x3, x4, x5, x6, x7⟩ := box_cells (HLV16.out.get 3 rfl).1
              obtain ⟨y0, y1, y2, y3, y4, y5, y6, y7⟩ := box_cells (HLV16.out.get 1 rfl).1
              go_wp2_with (first | (go_at_call 14; refine (haw _).mono ?_; rintro e u9 ⟨rfl, hB⟩; have HU9 := Lib.hid (below_then HU0.out hB); clear hB) | (go_at_call 35; (with_reducible refine (HS0.out _ (Below.refl _ _)).mono ?_); rintro e u0 ⟨rfl, hB⟩; have HU0 := Lib.hid (below_then (Below.refl _ _) hB); clear hB))
              go_ret
              exact ⟨rfl, below_then HW16.out HU9.out⟩
            | true =>
              have he2 := HE2'.out.1 HMQ.out.symm
              have HE2 := Lib.hid he2.2
              obtain rfl := he2.1
              clear he2
              have hs0 : ∀ W, Below w16.heap.size w16 W → Calls Try.prog 35 _ W (RetB W (.bool true)) := fun W hB => same_live ((HLV16.out.up hB).get 3 rfl) ((HLV16.out.up hB).get 0 rfl) (HE2.out) (by rw [HE2.out]; exact HSH2.out)
              simp only [arr_eq] at hs0
              have HS0 := Lib.hid hs0
              clear hs0
              obtain ⟨x0, x1, x2, x3, x4, x5, x6, x7⟩ := box_cells (HLV16.out.get 3 rfl).1
              obtain ⟨y0, y1, y2, y3, y4, y5, y6, y7⟩ := box_cells (HLV16.out.get 0 rfl).1
              go_upto_if 132 with (first | (go_at_call 35; (with_reducible refine (HS0.out _ (Below.refl _ _)).mono ?_); rintro e u0 ⟨rfl, hB⟩; have HU0 := Lib.hid (below_then (Below.refl _ _) hB); clear hB))
              clear x0 x1 x2 x3 x4 x5 x6 x7 y0 y1 y2 y3 y4 y5 y6 y7
              have HLV17 := Lib.hid (HLV16.out.up HU0.out)
              have H1217 := Lib.hid (below_then H1216.out HU0.out)
              have HW17 := Lib.hid (below_then HW16.out HU0.out)
              clear HLV16 HW16 H1216 HS0
              have h817 := below_then H812.out H1217.out
              have h617 := below_then H68.out h817
              have h517 := below_then H56.out h617
              have h717 := below_then H78.out h817
              have hpa := HPA6.out.turnT (B := Fresh w4 w5) (W' := u0) fun b hb => ⟨hb, h617.block b (Nat.lt_of_lt_of_le hb.2 H56.out.size)⟩
              have hra := RichT.turnT (B := Fresh w4 w5) (W' := u0) (fun b hb => ⟨hb, h617.block b (Nat.lt_of_lt_of_le hb.2 H56.out.size)⟩) HRA6.out
              have hspa := spoil_call (Fresh w4 w5) u0 ta ra sa (fun b hb => Nat.lt_of_lt_of_le hb.2 h517.size) hpa hra (by rw [HE1.out]; exact HSH.out)
              unfold RetSp at hspa
              simp only [arr_eq] at hspa
              have HSPA := Lib.hid hspa
              have H817 := Lib.hid h817
              have H717 := Lib.hid h717
              obtain ⟨x0, x1, x2, x3, x4, x5, x6, x7⟩ := box_cells (HLV17.out.get 4 rfl).1
              clear hspa hpa hra h817 h617 h517 h717
              go_upto_region 20 with (go_at_call 37; (refine HSPA.out.mono ?_; rintro e w18 ⟨rfl, hK⟩; have HKA := Lib.hid hK; clear hK))
              clear x0 x1 x2 x3 x4 x5 x6 x7
              have hz4 : w4.heap.size ≤ w6.heap.size := H46.out.size
              have hz56 := H56.out.size
              have hz68 := H68.out.size
              have hz78 := H78.out.size
              have hz817 := H817.out.size
              have hz717 := H717.out.size
              have hzA := HKA.out.frm.size
              have hkA : ∀ b, b < u0.heap.size → (b < w4.heap.size ∨ w5.heap.size ≤ b) → w18.heap[b]? = u0.heap[b]? := fun b h1 h2 => HKA.out.frm.block b h1 (fun h => by have h3 := h.1; have h4 := h.2; omega)
              have hbb : w18.heap[A11]? = some (.cells (tb.arr sb) 30 (0, 0)) := (hkA _ (HK.blk_lt (HLV17.out.get 3 rfl).1) (.inr (show w5.heap.size ≤ A11 by have h1 := HA11.out; have h2 := HB7.out.size; omega))).trans (HLV17.out.get 3 rfl).1
              have hw67 := HB7.out.size
              have hpb := HPB8.out.turnT (B := Fresh w6 w7) (W' := w18) fun b hb => ⟨hb, by have h1 := hb.1; have h2 := hb.2; rw [hkA b (by omega) (.inr (by omega))]; exact H817.out.block b (by omega)⟩
              have hrb := RichT.turnT (B := Fresh w6 w7) (W' := w18) (fun b hb => ⟨hb, by have h1 := hb.1; have h2 := hb.2; rw [hkA b (by omega) (.inr (by omega))]; exact H817.out.block b (by omega)⟩) HRB8.out
              have hspb := spoil_call (Fresh w6 w7) w18 tb rb sb (fun b hb => by have h2 := hb.2; omega) hpb hrb (by rw [HE2.out]; exact HSH2.out)
              unfold RetSp at hspb
              simp only [arr_eq] at hspb
              have HSPB := Lib.hid hspb
              have HKK := Lib.hid hkA
              have HZ4 := Lib.hid hz4
              have HZ56 := Lib.hid hz56
              have HZ68 := Lib.hid hz68
              have HZ78 := Lib.hid hz78
              have HZ817 := Lib.hid hz817
              have HZA := Lib.hid hzA
              have HZ67 := Lib.hid hw67
              obtain ⟨x0, x1, x2, x3, x4, x5, x6, x7⟩ := box_cells hbb
              clear hspb hpb hrb hkA hbb hz4 hz56 hz68 hz78 hz817 hz717 hzA hw67
              go_upto_region 21 with (go_at_call 37; (refine HSPB.out.mono ?_; rintro e w19 ⟨rfl, hK⟩; have HKB := Lib.hid hK; clear hK))
              clear x0 x1 x2 x3 x4 x5 x6 x7
              have hlv19 : Lv w19 [⟨B7, t7, s7, rp⟩, ⟨B8, t8, s8, ru⟩, ⟨G, tp, sp, rp⟩, ⟨Q, tu, su, ru⟩] := HLV40.out.keep (by have := HKB.out.frm.size; have := HZA.out; have := HZ4.out; have := HZ56.out; have := HZ68.out; have := HZ817.out; omega) fun b hb => by
                have h1 := HZ4.out; have h2 := HZ56.out; have h3 := HZ68.out; have h4 := HZ817.out; have h5 := HZA.out; have h45 := HB5.out.size
                rw [HKB.out.frm.block b (by omega) (fun h => by have h6 := h.1; omega), HKK.out b (by omega) (.inl hb), H817.out.block b (by omega), H68.out.block b (by omega), H46.out.block b hb]
              have hw19 : Below w.heap.size w w19 := by
                have h0 := HB4.out.size; have h1 := HZ4.out; have h2 := HZ56.out; have h3 := HZ68.out; have h4 := HZ817.out; have h5 := HZA.out; have h45 := HB5.out.size; have h46 := H46.out.size
                exact HW17.out.trans ((HKA.out.frm.below (B := w.heap.size) (by omega) (fun b h => by have h6 := h.1; omega)).trans (HKB.out.frm.below (B := w.heap.size) (by omega) (fun b h => by have h6 := h.1; omega)))
              have HLV19 := Lib.hid hlv19
              have HW19 := Lib.hid hw19
              clear hlv19 hw19
              have hs0 : ∀ W, Below w19.heap.size w19 W → Calls Try.prog 35 _ W (RetB W (.bool true)) := fun W hB => same_live ((HLV19.out.up hB).get 2 rfl) ((HLV19.out.up hB).get 0 rfl) (rfl) (HSP.out)
              simp only [arr_eq] at hs0
              have HS0 := Lib.hid hs0
              clear hs0
              have hs1 : ∀ W, Below w19.heap.size w19 W → Calls Try.prog 35 _ W (RetB W (.bool true)) := fun W hB => same_live ((HLV19.out.up hB).get 3 rfl) ((HLV19.out.up hB).get 1 rfl) (rfl) (HSU.out)
              simp only [arr_eq] at hs1
              have HS1 := Lib.hid hs1
              clear hs1
              obtain ⟨x0, x1, x2, x3, x4, x5, x6, x7⟩ := box_cells (HLV19.out.get 2 rfl).1
              obtain ⟨y0, y1, y2, y3, y4, y5, y6, y7⟩ := box_cells (HLV19.out.get 0 rfl).1
              go_wp2_with (first | (go_at_call 14; refine (haw _).mono ?_; rintro e u9 ⟨rfl, hB⟩; have HU9 := Lib.hid (below_then HU1.out hB); clear hB) | (go_at_call 35; (with_reducible refine (HS1.out _ HU0.out).mono ?_); rintro e u1 ⟨rfl, hB⟩; have HU1 := Lib.hid (below_then HU0.out hB); clear hB) | (go_at_call 35; (with_reducible refine (HS0.out _ (Below.refl _ _)).mono ?_); rintro e u0 ⟨rfl, hB⟩; have HU0 := Lib.hid (below_then (Below.refl _ _) hB); clear hB; obtain ⟨p00, p01, p02, p03, p04, p05, p06, p07⟩ := box_cells ((HLV19.out.up HU0.out).get 3 rfl).1; obtain ⟨q00, q01, q02, q03, q04, q05, q06, q07⟩ := box_cells ((HLV19.out.up HU0.out).get 1 rfl).1))
              go_ret
              exact ⟨rfl, below_then HW19.out HU9.out⟩
end Go.Proofs.Ytfebcpmbkljaoaa
