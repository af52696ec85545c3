/- The reference: At, Error. -/
import Derived.Test.YtfebcpmbkljaoaaRefA
import Derived.Test.YtfebcpmbkljaoaaAt
import Derived.Test.YtfebcpmbkljaoaaEachB
import Derived.Test.YtfebcpmbkljaoaaWrP
namespace Go.Proofs.Ytfebcpmbkljaoaa
open Go.RowKit Go.HR
set_option linter.unusedVariables false
set_option linter.unusedSimpArgs false
set_option linter.unusedSectionVars false
def AtIs (r : Option PT) (q : PT) (b : Bool) : Prop :=
  match r with
  | some q' => b = true ∧ q = q'
  | none => b = false ∧ q = zeroT
def RetA3 (n0 : Nat) (w : World) (r : Option PT) (e : Ending) (w' : World) : Prop :=
  ∃ (q : PT) (b : Bool) (sq : SL), e = .returned (.tuple #[.agg (q.arr sq), .bool b]) ∧ AtIs r q b ∧ IsPs n0 w' sq q.subs ∧ Below w.heap.size w w'
theorem belowR {w w2 W : World} {R : Nat} (h2 : Below w.heap.size w w2) (h : HK.Frm (· = R) w2 W) (hR : w.heap.size ≤ R) : Below w.heap.size w W := h2.trans (h.below h2.size fun k hk => by omega)
theorem box8_up {W W' : World} {R : Nat} (h : ∃ z0 z1 z2 z3 z4 z5 z6 z7, W.heap[R]? = some (.cells #[z0, z1, z2, z3, z4, z5, z6, z7] 30 (0, 0))) (hB : Below W.heap.size W W') :
    ∃ z0 z1 z2 z3 z4 z5 z6 z7, W'.heap[R]? = some (.cells #[z0, z1, z2, z3, z4, z5, z6, z7] 30 (0, 0)) := by
  obtain ⟨z0, z1, z2, z3, z4, z5, z6, z7, h⟩ := h
  exact ⟨z0, z1, z2, z3, z4, z5, z6, z7, blk_up hB h⟩
theorem isI_tail {W : World} {g o m c : Nat} {i : Int} {is : List Int} (h : IsI W ⟨some ⟨g, o, none⟩, m + 1, c + 1⟩ (i :: is)) : IsI W ⟨some ⟨g, o + 1, none⟩, m, c⟩ is := by
  obtain ⟨h1, h2, h3⟩ := h
  simp only [List.length_cons] at h1 h2
  refine ⟨by simpa using h1, by simp only; omega, .inr ⟨g, o + 1, rfl, fun j x hx => ?_⟩⟩
  obtain ⟨g', o', he, hc⟩ := h3.resolve_left (by simp)
  simp only [Option.some.injEq, Addr.mk.injEq, and_true] at he
  obtain ⟨rfl, rfl⟩ := he
  have := hc (j + 1) x (by simpa using hx)
  rw [show o + (j + 1) = o + 1 + j by omega] at this
  exact this
set_option maxRecDepth 100000 in
set_option maxHeartbeats 16000000 in
theorem at33 (n0 : Nat) : ∀ (is : List Int) (t : PT) (w : World) (sv s : SL), n0 ≤ w.heap.size → IsPs n0 w sv t.subs → IsI w s is → is.length ≤ 20000 → sizeT t ≤ 10000 →
    Calls Try.prog 33 #[.agg (t.arr sv), s.v] w (RetA3 n0 w (subT t is)) := by
  intro is
  induction is with
  | nil =>
    intro t w sv s hn0 hs hi _ hz
    have hsub : subT t [] = some t := by cases t; rfl
    rw [hsub]
    obtain ⟨sn', sc', _⟩ := hi
    obtain ⟨ia, i2, ic⟩ := s
    simp only [List.length_nil] at sn' sc'
    subst sn'
    obtain ⟨t0, ht0⟩ : ∃ t0, t0 = t := ⟨_, rfl⟩
    have hs0 : IsPs n0 w sv t0.subs := by rw [ht0]; exact hs
    rw [← ht0, show t0.arr sv = t.arr sv by rw [ht0]]
    obtain ⟨rule, ⟨op, name, ⟨aa, an, ac⟩, ⟨fa, fn, fc⟩, label, ⟨ma, mn, mc⟩⟩, subs⟩ := t
    obtain ⟨sa, sn, sc⟩ := sv
    simp only [PT.arr, PT.rule, PT.o, PT.subs, SL.v]
    have HTA := Lib.hid ht0
    have HS0 := Lib.hid hs0
    clear hs hs0 ht0 hsub
    have hx : ((w.alloc (.cells #[.string rule, .int .u8 op, .string name, .slice aa an ac, .slice fa fn fc, .int .i64 label, .slice sa sn sc, .slice ma mn mc] 30)).alloc (.cells #[.string rule, .int .u8 op, .string name, .slice aa an ac, .slice fa fn fc, .int .i64 label, .slice sa sn sc, .slice ma mn mc] 30)).heap[w.heap.size + 1]? = some (.cells #[.string rule, .int .u8 op, .string name, .slice aa an ac, .slice fa fn fc, .int .i64 label, .slice sa sn sc, .slice ma mn mc] 30 (0, 0)) := blk_new1 _ _ _
    have HX := Lib.hid hx
    clear hx
    go_enter Try.func33, Try.ntmps33
    go_wp2_with (fail)
    refine bodyPost_ret (results_row_tmp (p := 4) (u := 5) (by kernel_rfl) _ _ (w.heap.size + 1) 30 _ (0, 0) _ (.bool true) rfl rfl HX.out Try.underlying30 rfl (by kernel_rfl)) rfl ?_
    have hB2 : Below w.heap.size w ((w.alloc (.cells #[.string rule, .int .u8 op, .string name, .slice aa an ac, .slice fa fn fc, .int .i64 label, .slice sa sn sc, .slice ma mn mc] 30)).alloc (.cells #[.string rule, .int .u8 op, .string name, .slice aa an ac, .slice fa fn fc, .int .i64 label, .slice sa sn sc, .slice ma mn mc] 30)) := bl_al (bl_al (Below.refl _ _))
    exact ⟨t0, true, ⟨sa, sn, sc⟩, by rw [HTA.out]; rfl, ⟨rfl, rfl⟩, HS0.out.same fun k hk => hB2.block k (by omega), hB2⟩
  | cons i is ih =>
    intro t w sv s hn0 hs hi hl hz
    obtain ⟨ia, i2, ic⟩ := s
    obtain ⟨c0', c1', c2'⟩ := id hi
    obtain ⟨g, o, rfl, hci⟩ := c2'.resolve_left (by simp)
    simp only at hi c0' c1'
    obtain ⟨m, rfl⟩ : ∃ m, i2 = m + 1 := ⟨is.length, by simpa using c0'⟩
    obtain ⟨c, rfl⟩ : ∃ c, ic = c + 1 := ⟨ic - 1, by omega⟩
    have hp0 := hci 0 i rfl
    simp only [Nat.add_zero] at hp0
    obtain ⟨nx, hnx⟩ : ∃ nx : Option Addr, nx = if c = 0 then some ⟨g, o, none⟩ else some ⟨g, o + 1, none⟩ := ⟨_, rfl⟩
    have hit : IsI w ⟨nx, m, c⟩ is := by
      by_cases h0 : c = 0
      · have hm0 : is = [] := by
          have h5 : m + 1 = (i :: is).length := c0'
          simp only [List.length_cons] at h5
          exact List.length_eq_zero_iff.1 (by omega)
        subst hm0
        exact ⟨by simpa using c0', by simp only; omega, .inl rfl⟩
      · rw [hnx, if_neg h0]
        exact isI_tail hi
    have HNX := Lib.hid hnx.symm
    clear hnx
    simp only [List.length_cons] at c0' hl
    have hm : m ≤ 20000 := by omega
    have hln := hs.len
    have hlz : t.subs.length ≤ 10000 := subs_le t hz
    have hze : ∀ (i : Nat) q, t.subs[i]? = some q → sizeT q ≤ 10000 := fun i q hq => by have := sizeF_mem hq; have := sizeT_eq t; omega
    have hout := fun (h : ¬ (0 ≤ i ∧ i < t.subs.length)) => subT_out (is := is) h
    have hin := fun (k : Nat) (q : PT) (h : t.subs[k]? = some q) => subT_in (is := is) h
    obtain ⟨r, hr⟩ : ∃ r, r = subT t (i :: is) := ⟨_, rfl⟩
    rw [← hr] at hout ⊢
    have HRR := Lib.hid hr
    obtain ⟨t0, ht0⟩ : ∃ t0, t0 = t := ⟨_, rfl⟩
    obtain ⟨rule, ⟨op, name, ⟨aa, an, ac⟩, ⟨fa, fn, fc⟩, label, ⟨ma, mn, mc⟩⟩, subs⟩ := t
    obtain ⟨sa, sn, sc⟩ := sv
    simp only [PT.subs] at hs hln hlz hze hout hin
    rw [← hln] at hlz
    simp only [PT.arr, PT.rule, PT.o, PT.subs, SL.v]
    obtain ⟨G, hG⟩ : ∃ G, G = w.heap.size := ⟨_, rfl⟩
    obtain ⟨R, hR⟩ : ∃ R, R = w.heap.size + 1 := ⟨_, rfl⟩
    obtain ⟨w2, hw2⟩ : ∃ w2, w2 = (w.alloc (.cells #[.string rule, .int .u8 op, .string name, .slice aa an ac, .slice fa fn fc, .int .i64 label, .slice sa sn sc, .slice ma mn mc] 30)).alloc (.cells #[.string ⟨#[]⟩, .int .u8 0, .string ⟨#[]⟩, .slice none 0 0, .slice none 0 0, .int .i64 0, .slice none 0 0, .slice none 0 0] 30) := ⟨_, rfl⟩
    have hB2 : Below w.heap.size w w2 := by rw [hw2]; exact bl_al (bl_al (Below.refl _ _))
    have hg2 : w2.heap[G]? = some (.cells #[.string rule, .int .u8 op, .string name, .slice aa an ac, .slice fa fn fc, .int .i64 label, .slice sa sn sc, .slice ma mn mc] 30 (0, 0)) := by rw [hw2, hG]; exact HK.blk_alloc (HK.blk_new _ _) _
    have hr2 : w2.heap[R]? = some (.cells #[.string ⟨#[]⟩, .int .u8 0, .string ⟨#[]⟩, .slice none 0 0, .slice none 0 0, .int .i64 0, .slice none 0 0, .slice none 0 0] 30 (0, 0)) := by rw [hw2, hR]; exact blk_new1 _ _ _
    have hRw : w.heap.size ≤ R := by omega
    have hGR : G ≠ R := by omega
    have hnw2 : n0 ≤ w2.heap.size := Nat.le_trans hn0 hB2.size
    have HB2 := Lib.hid hB2
    have HG2 := Lib.hid hg2
    have HR2 := Lib.hid hr2
    have HW2 := Lib.hid hw2
    have HG := Lib.hid hG
    have HR := Lib.hid hR
    have HP0 := Lib.hid hp0
    have HIT := Lib.hid hit
    have HS := Lib.hid hs
    have HLN := Lib.hid hln
    have HOUT := Lib.hid hout
    have HIN := Lib.hid hin
    have HZE := Lib.hid hze
    have p0 : w2.cell? ⟨g, o, none⟩ = some (.int .i64 i) := cell_then hp0 hB2
    have x6 : w2.cell? ⟨G, 6, none⟩ = some (.slice sa sn sc) := HK.blk_cell hg2 6
    clear hi c2' hci hp0 hit hln hze hout hin hr hs hz ht0 hB2 hg2 hr2 hw2 hG hR c0'
    by_cases hio : 0 ≤ i ∧ i < sn
    · obtain ⟨k, rfl⟩ : ∃ k : Nat, i = (k : Int) := ⟨i.toNat, by omega⟩
      have hk : k < sn := by omega
      obtain ⟨p, hp⟩ : ∃ p, subs[k]? = some p := ⟨_, List.getElem?_eq_getElem (by rw [← HLN.out]; exact hk)⟩
      obtain ⟨pg, po, s', ha, hpg, hpc, hps⟩ := psAt HS.out hp
      subst ha
      obtain ⟨ta, tn, tc⟩ := s'
      have hrp : r = subT p is := HRR.out.trans (HIN.out k p hp)
      have hzp := HZE.out k p hp
      have hih := fun (W : World) (h1 : n0 ≤ W.heap.size) (h2 : IsPs n0 W ⟨ta, tn, tc⟩ p.subs) (h3 : IsI W ⟨nx, m, c⟩ is) => ih p W ⟨ta, tn, tc⟩ ⟨nx, m, c⟩ h1 h2 h3 (by omega) hzp
      unfold RetA3 at hih
      simp only [PT.arr, SL.v] at hih
      have HPC := Lib.hid hpc
      have HPS := Lib.hid hps
      have HIH := Lib.hid hih
      have HRP := Lib.hid hrp
      clear hpc hps hih hp ih hrp
      have z0 : (0 : Int) ≤ (k : Int) := by omega
      have z1 : (k : Int) < (sn : Int) := by omega
      have z2 : ¬ (k : Int) < 0 := by omega
      have z3 : ¬ (sn : Int) ≤ (k : Int) := by omega
      go_enter Try.func33, Try.ntmps33
      go_upto_region 3 with (fail)
      rw [← HW2.out, ← HR.out, ← HG.out]
      go_cut [22] from 10 to 22 (fun v wx => v = .bool false ∧ ∃ dd, wx = w2.drewN dd)
      case first =>
        have p0' : ∀ q, (w2.drewN q).cell? ⟨g, o, none⟩ = some (.int .i64 (k : Int)) := fun q => p0
        have x6' : ∀ q, (w2.drewN q).cell? ⟨G, 6, none⟩ = some (.slice (some ⟨pg, po, none⟩) sn sc) := fun q => x6
        go_quiet (fail)
        go_wp2_with (fail)
        go_meet
        case rel => exact ⟨rfl, _, rfl⟩
      case rest =>
        obtain ⟨rfl, dd, hwc⟩ := hcut
        obtain ⟨w2', hw2'⟩ : ∃ w2' : World, w2' = wc := ⟨_, rfl⟩
        rw [← hw2']
        have hwd : w2' = w2.drewN dd := hw2'.trans hwc
        have hB2' : Below w.heap.size w w2' := by rw [hwd]; exact HB2.out.trans ⟨rfl, rfl, rfl, Nat.le_refl _, fun _ _ => rfl⟩
        have hg2' : w2'.heap[G]? = some (.cells #[.string rule, .int .u8 op, .string name, .slice aa an ac, .slice fa fn fc, .int .i64 label, .slice (some ⟨pg, po, none⟩) sn sc, .slice ma mn mc] 30 (0, 0)) := by rw [hwd]; exact HG2.out
        have hr2' : w2'.heap[R]? = some (.cells #[.string ⟨#[]⟩, .int .u8 0, .string ⟨#[]⟩, .slice none 0 0, .slice none 0 0, .int .i64 0, .slice none 0 0, .slice none 0 0] 30 (0, 0)) := by rw [hwd]; exact HR2.out
        have hnw2' : n0 ≤ w2'.heap.size := Nat.le_trans hn0 hB2'.size
        clear hwc hw2' hwd p0 x6 HB2 HG2 HR2 hnw2
        obtain ⟨w2, hw2⟩ : ∃ w2, w2 = w2' := ⟨_, rfl⟩
        rw [← hw2] at hB2' hg2' hr2' hnw2' ⊢
        have hnw2 := hnw2'
        have HB2 := Lib.hid hB2'
        have HG2 := Lib.hid hg2'
        have HR2 := Lib.hid hr2'
        clear hw2 hB2' hg2' hr2' hnw2'
        go_upto_region 5 with (fail)
        go_cut [5] from 24 to 35 (fun v wx => ∃ (q : PT) (b : Bool) (sq : SL), v = .bool b ∧ wx.heap[R]? = some (.cells (q.arr sq) 30 (0, 0)) ∧ AtIs (subT p is) q b ∧ IsPs n0 wx sq q.subs ∧ Below w.heap.size w wx)
        case first =>
          refine Go.RE.wp_region_each [24, 25, 26, 27, 28, 29, 30, 31, 32, 33, 34, 35, 5] (fun L x W => (HK.Frm (· = R) w2 W ∧ ∃ z0 z1 z2 z3 z4 z5 z6 z7, W.heap[R]? = some (.cells #[z0, z1, z2, z3, z4, z5, z6, z7] 30 (0, 0))) ∧ (L 0 = true → x 24 = .pointer (some ⟨G, 6, none⟩)) ∧ (L 1 = true → x 25 = .slice (some ⟨pg, po, none⟩) sn sc) ∧ (L 2 = true → x 26 = .slice (some ⟨g, o, none⟩) (m + 1) (c + 1)) ∧ (L 3 = true → x 27 = .pointer (some ⟨g, o, none⟩)) ∧ (L 4 = true → x 28 = .int .i64 (k : Int)) ∧ (L 5 = true → x 29 = .pointer (some ⟨pg, po + k * 8, none⟩)) ∧ (L 6 = true → x 30 = .agg #[.string p.rule, .int .u8 p.o.op, .string p.o.name, .slice p.o.args.a p.o.args.n p.o.args.c, .slice p.o.fsub.a p.o.fsub.n p.o.fsub.c, .int .i64 p.o.label, .slice ta tn tc, .slice p.o.marks.a p.o.marks.n p.o.marks.c]) ∧ (L 7 = true → x 31 = .slice (some ⟨g, o, none⟩) (m + 1) (c + 1)) ∧ (L 8 = true → x 32 = .slice nx m c) ∧ (L 9 = true → ∃ (q : PT) (b : Bool) (sq : SL), x 33 = .tuple #[.agg #[.string q.rule, .int .u8 q.o.op, .string q.o.name, .slice q.o.args.a q.o.args.n q.o.args.c, .slice q.o.fsub.a q.o.fsub.n q.o.fsub.c, .int .i64 q.o.label, .slice sq.a sq.n sq.c, .slice q.o.marks.a q.o.marks.n q.o.marks.c], .bool b] ∧ AtIs (subT p is) q b ∧ IsPs n0 W sq q.subs) ∧ (L 10 = true → L 9 = true ∧ ∃ v, x 33 = .tuple #[x 34, v]) ∧ (L 11 = true → L 9 = true ∧ ∃ v, x 33 = .tuple #[v, x 35]) ∧ (L 12 = true → L 9 = true ∧ L 10 = true ∧ ∃ cs : Array Value, x 34 = .agg cs ∧ W.heap[R]? = some (.cells cs 30 (0, 0))) ∧ (L 13 = true → L 11 = true ∧ x 5 = x 35)) (by kernel_rfl) (by kernel_rfl) (by kernel_rfl) ?_ ((Go.RE.Each.cons ?_ (Go.RE.Each.cons ?_ (Go.RE.Each.cons ?_ (Go.RE.Each.cons ?_ (Go.RE.Each.cons ?_ (Go.RE.Each.cons ?_ (Go.RE.Each.cons ?_ (Go.RE.Each.cons ?_ (Go.RE.Each.cons ?_ (Go.RE.Each.cons ?_ (Go.RE.Each.cons ?_ (Go.RE.Each.cons ?_ (Go.RE.Each.cons ?_ (Go.RE.Each.cons ?_ Go.RE.Each.nil))))))))))))))) ?_
          · exact fun x => ⟨⟨(HK.Frm.refl _ w2).drew, ⟨_, _, _, _, _, _, _, _, HK.blk_drew HR2.out⟩⟩, fun h => (by cases h), fun h => (by cases h), fun h => (by cases h), fun h => (by cases h), fun h => (by cases h), fun h => (by cases h), fun h => (by cases h), fun h => (by cases h), fun h => (by cases h), fun h => (by cases h), fun h => (by cases h), fun h => (by cases h), fun h => (by cases h), fun h => (by cases h)⟩
          · intro L x a w K hL hd hf hx hΦ hK
            obtain ⟨hI, f0, f1, f2, f3, f4, f5, f6, f7, f8, f9, f10, f11, f12, f13⟩ := hΦ
            have e2 : a.tmps[2]? = some (.pointer (some ⟨G, 0, none⟩)) := hf 2 (of_decide_eq_true (by kernel_rfl))
            clear hf hx hd
            go_simp
            refine hK _ _ ?_
            exact ⟨hI, fun _ => rfl, fun h => f1 h, fun h => f2 h, fun h => f3 h, fun h => f4 h, fun h => f5 h, fun h => f6 h, fun h => f7 h, fun h => f8 h, fun h => f9 h, fun h => f10 h, fun h => f11 h, fun h => f12 h, fun h => f13 h⟩
          · intro L x a w K hL hd hf hx hΦ hK
            obtain ⟨hI, f0, f1, f2, f3, f4, f5, f6, f7, f8, f9, f10, f11, f12, f13⟩ := hΦ
            have d0 := f0 (hd 0 (by kernel_rfl))
            have e24 : a.tmps[24]? = some (x 24) := hx 0 _ 24 rfl rfl (hd 0 (by kernel_rfl))
            clear hf hx hd
            rw [d0] at e24
            have c6 := HK.blk_cell (hI.1.heap HG2.out hGR) 6
            simp only [List.getElem?_toArray, List.getElem?_cons_succ, List.getElem?_cons_zero] at c6
            go_simp
            refine hK _ _ ?_
            exact ⟨hI, fun h => f0 h, fun _ => rfl, fun h => f2 h, fun h => f3 h, fun h => f4 h, fun h => f5 h, fun h => f6 h, fun h => f7 h, fun h => f8 h, fun h => f9 h, fun h => f10 h, fun h => f11 h, fun h => f12 h, fun h => f13 h⟩
          · intro L x a w K hL hd hf hx hΦ hK
            obtain ⟨hI, f0, f1, f2, f3, f4, f5, f6, f7, f8, f9, f10, f11, f12, f13⟩ := hΦ
            have e1 : a.tmps[1]? = some (.slice (some ⟨g, o, none⟩) (m + 1) (c + 1)) := hf 1 (of_decide_eq_true (by kernel_rfl))
            clear hf hx hd
            go_simp
            refine hK _ _ ?_
            exact ⟨hI, fun h => f0 h, fun h => f1 h, fun _ => rfl, fun h => f3 h, fun h => f4 h, fun h => f5 h, fun h => f6 h, fun h => f7 h, fun h => f8 h, fun h => f9 h, fun h => f10 h, fun h => f11 h, fun h => f12 h, fun h => f13 h⟩
          · intro L x a w K hL hd hf hx hΦ hK
            obtain ⟨hI, f0, f1, f2, f3, f4, f5, f6, f7, f8, f9, f10, f11, f12, f13⟩ := hΦ
            have d2 := f2 (hd 2 (by kernel_rfl))
            have e26 : a.tmps[26]? = some (x 26) := hx 2 _ 26 rfl rfl (hd 2 (by kernel_rfl))
            clear hf hx hd
            rw [d2] at e26
            go_simp
            refine hK _ _ ?_
            exact ⟨hI, fun h => f0 h, fun h => f1 h, fun h => f2 h, fun _ => rfl, fun h => f4 h, fun h => f5 h, fun h => f6 h, fun h => f7 h, fun h => f8 h, fun h => f9 h, fun h => f10 h, fun h => f11 h, fun h => f12 h, fun h => f13 h⟩
          · intro L x a w K hL hd hf hx hΦ hK
            obtain ⟨hI, f0, f1, f2, f3, f4, f5, f6, f7, f8, f9, f10, f11, f12, f13⟩ := hΦ
            have d3 := f3 (hd 3 (by kernel_rfl))
            have e27 : a.tmps[27]? = some (x 27) := hx 3 _ 27 rfl rfl (hd 3 (by kernel_rfl))
            clear hf hx hd
            rw [d3] at e27
            have hbel := belowR HB2.out hI.1 hRw
            have c0 := cell_then HP0.out hbel
            go_simp
            refine hK _ _ ?_
            exact ⟨hI, fun h => f0 h, fun h => f1 h, fun h => f2 h, fun h => f3 h, fun _ => rfl, fun h => f5 h, fun h => f6 h, fun h => f7 h, fun h => f8 h, fun h => f9 h, fun h => f10 h, fun h => f11 h, fun h => f12 h, fun h => f13 h⟩
          · intro L x a w K hL hd hf hx hΦ hK
            obtain ⟨hI, f0, f1, f2, f3, f4, f5, f6, f7, f8, f9, f10, f11, f12, f13⟩ := hΦ
            have d1 := f1 (hd 1 (by kernel_rfl))
            have e25 : a.tmps[25]? = some (x 25) := hx 1 _ 25 rfl rfl (hd 1 (by kernel_rfl))
            have d4 := f4 (hd 4 (by kernel_rfl))
            have e28 : a.tmps[28]? = some (x 28) := hx 4 _ 28 rfl rfl (hd 4 (by kernel_rfl))
            clear hf hx hd
            rw [d1] at e25
            rw [d4] at e28
            go_simp
            refine hK _ _ ?_
            exact ⟨hI, fun h => f0 h, fun h => f1 h, fun h => f2 h, fun h => f3 h, fun h => f4 h, fun _ => rfl, fun h => f6 h, fun h => f7 h, fun h => f8 h, fun h => f9 h, fun h => f10 h, fun h => f11 h, fun h => f12 h, fun h => f13 h⟩
          · intro L x a w K hL hd hf hx hΦ hK
            obtain ⟨hI, f0, f1, f2, f3, f4, f5, f6, f7, f8, f9, f10, f11, f12, f13⟩ := hΦ
            have d5 := f5 (hd 5 (by kernel_rfl))
            have e29 : a.tmps[29]? = some (x 29) := hx 5 _ 29 rfl rfl (hd 5 (by kernel_rfl))
            clear hf hx hd
            rw [d5] at e29
            have hbel := belowR HB2.out hI.1 hRw
            have c0 := cell_then (HPC.out 0 _ rfl) hbel
            have c1 := cell_then (HPC.out 1 _ rfl) hbel
            have c2 := cell_then (HPC.out 2 _ rfl) hbel
            have c3 := cell_then (HPC.out 3 _ rfl) hbel
            have c4 := cell_then (HPC.out 4 _ rfl) hbel
            have c5 := cell_then (HPC.out 5 _ rfl) hbel
            have c6 := cell_then (HPC.out 6 _ rfl) hbel
            have c7 := cell_then (HPC.out 7 _ rfl) hbel
            simp only [PT.vals, SL.v, Nat.add_zero] at c0 c1 c2 c3 c4 c5 c6 c7
            go_simp
            refine hK _ _ ?_
            exact ⟨hI, fun h => f0 h, fun h => f1 h, fun h => f2 h, fun h => f3 h, fun h => f4 h, fun h => f5 h, fun _ => rfl, fun h => f7 h, fun h => f8 h, fun h => f9 h, fun h => f10 h, fun h => f11 h, fun h => f12 h, fun h => f13 h⟩
          · intro L x a w K hL hd hf hx hΦ hK
            obtain ⟨hI, f0, f1, f2, f3, f4, f5, f6, f7, f8, f9, f10, f11, f12, f13⟩ := hΦ
            have e1 : a.tmps[1]? = some (.slice (some ⟨g, o, none⟩) (m + 1) (c + 1)) := hf 1 (of_decide_eq_true (by kernel_rfl))
            clear hf hx hd
            go_simp
            refine hK _ _ ?_
            exact ⟨hI, fun h => f0 h, fun h => f1 h, fun h => f2 h, fun h => f3 h, fun h => f4 h, fun h => f5 h, fun h => f6 h, fun _ => rfl, fun h => f8 h, fun h => f9 h, fun h => f10 h, fun h => f11 h, fun h => f12 h, fun h => f13 h⟩
          · intro L x a w K hL hd hf hx hΦ hK
            obtain ⟨hI, f0, f1, f2, f3, f4, f5, f6, f7, f8, f9, f10, f11, f12, f13⟩ := hΦ
            have d7 := f7 (hd 7 (by kernel_rfl))
            have e31 : a.tmps[31]? = some (x 31) := hx 7 _ 31 rfl rfl (hd 7 (by kernel_rfl))
            clear hf hx hd
            rw [d7] at e31
            have hm1 : (1 : Int) ≤ (m : Int) + 1 := by omega
            have hnx := HNX.out
            go_simp
            refine hK _ _ ?_
            exact ⟨hI, fun h => f0 h, fun h => f1 h, fun h => f2 h, fun h => f3 h, fun h => f4 h, fun h => f5 h, fun h => f6 h, fun h => f7 h, fun _ => rfl, fun h => f9 h, fun h => f10 h, fun h => f11 h, fun h => f12 h, fun h => f13 h⟩
          · intro L x a w K hL hd hf hx hΦ hK
            obtain ⟨hI, f0, f1, f2, f3, f4, f5, f6, f7, f8, f9, f10, f11, f12, f13⟩ := hΦ
            have d6 := f6 (hd 6 (by kernel_rfl))
            have e30 : a.tmps[30]? = some (x 30) := hx 6 _ 30 rfl rfl (hd 6 (by kernel_rfl))
            have d8 := f8 (hd 8 (by kernel_rfl))
            have e32 : a.tmps[32]? = some (x 32) := hx 8 _ 32 rfl rfl (hd 8 (by kernel_rfl))
            clear hf hx hd
            rw [d6] at e30
            rw [d8] at e32
            have hbel := belowR HB2.out hI.1 hRw
            go_simp
            go_at_call 33
            refine (HIH.out w (Nat.le_trans hn0 hbel.size) (HPS.out.same fun k hk => hbel.block k (by omega)) (HIT.out.below hbel)).mono ?_
            rintro e w' ⟨q, b, sq, rfl, hq1, hq2, hq3⟩
            simp only
            refine hK _ _ ?_
            exact ⟨⟨hI.1.trans (HK.Frm.of_below hq3 _), box8_up hI.2 hq3⟩, fun h => f0 h, fun h => f1 h, fun h => f2 h, fun h => f3 h, fun h => f4 h, fun h => f5 h, fun h => f6 h, fun h => f7 h, fun h => f8 h, fun _ => ⟨q, b, sq, rfl, hq1, hq2⟩, fun h => absurd (f10 h).1 (by rw [hL]; decide), fun h => absurd (f11 h).1 (by rw [hL]; decide), fun h => absurd (f12 h).1 (by rw [hL]; decide), fun h => f13 h⟩
          · intro L x a w K hL hd hf hx hΦ hK
            obtain ⟨hI, f0, f1, f2, f3, f4, f5, f6, f7, f8, f9, f10, f11, f12, f13⟩ := hΦ
            have d9 := f9 (hd 9 (by kernel_rfl))
            have e33 : a.tmps[33]? = some (x 33) := hx 9 _ 33 rfl rfl (hd 9 (by kernel_rfl))
            have l9 := hd 9 (by kernel_rfl)
            clear hf hx hd
            obtain ⟨q, b, sq, hq, _⟩ := d9
            have hq' := hq
            rw [hq] at e33
            go_simp
            refine hK _ _ ?_
            exact ⟨hI, fun h => f0 h, fun h => f1 h, fun h => f2 h, fun h => f3 h, fun h => f4 h, fun h => f5 h, fun h => f6 h, fun h => f7 h, fun h => f8 h, fun h => f9 h, fun _ => ⟨l9, _, hq'⟩, fun h => f11 h, fun h => absurd (f12 h).2.1 (by rw [hL]; decide), fun h => f13 h⟩
          · intro L x a w K hL hd hf hx hΦ hK
            obtain ⟨hI, f0, f1, f2, f3, f4, f5, f6, f7, f8, f9, f10, f11, f12, f13⟩ := hΦ
            have d9 := f9 (hd 9 (by kernel_rfl))
            have e33 : a.tmps[33]? = some (x 33) := hx 9 _ 33 rfl rfl (hd 9 (by kernel_rfl))
            have l9 := hd 9 (by kernel_rfl)
            clear hf hx hd
            obtain ⟨q, b, sq, hq, _⟩ := d9
            have hq' := hq
            rw [hq] at e33
            go_simp
            refine hK _ _ ?_
            exact ⟨hI, fun h => f0 h, fun h => f1 h, fun h => f2 h, fun h => f3 h, fun h => f4 h, fun h => f5 h, fun h => f6 h, fun h => f7 h, fun h => f8 h, fun h => f9 h, fun h => f10 h, fun _ => ⟨l9, _, hq'⟩, fun h => f12 h, fun h => absurd (f13 h).1 (by rw [hL]; decide)⟩
          · intro L x a w K hL hd hf hx hΦ hK
            obtain ⟨hI, f0, f1, f2, f3, f4, f5, f6, f7, f8, f9, f10, f11, f12, f13⟩ := hΦ
            have d10 := f10 (hd 10 (by kernel_rfl))
            have e34 : a.tmps[34]? = some (x 34) := hx 10 _ 34 rfl rfl (hd 10 (by kernel_rfl))
            have d9 := f9 (hd 9 (by kernel_rfl))
            have e4 : a.tmps[4]? = some (.pointer (some ⟨R, 0, none⟩)) := hf 4 (of_decide_eq_true (by kernel_rfl))
            have l9 := hd 9 (by kernel_rfl)
            have l10 := hd 10 (by kernel_rfl)
            clear hf hx hd
            obtain ⟨q, b, sq, hq, hq1, hq2⟩ := d9
            obtain ⟨_, v, hv⟩ := d10
            obtain ⟨z0, z1, z2, z3, z4, z5, z6, z7, hz⟩ := hI.2
            have h34 : x 34 = .agg #[.string q.rule, .int .u8 q.o.op, .string q.o.name, .slice q.o.args.a q.o.args.n q.o.args.c, .slice q.o.fsub.a q.o.fsub.n q.o.fsub.c, .int .i64 q.o.label, .slice sq.a sq.n sq.c, .slice q.o.marks.a q.o.marks.n q.o.marks.c] := by have h9 := hv.symm.trans hq; simp only [Value.tuple.injEq, Array.mk.injEq, List.cons.injEq] at h9; exact h9.1
            rw [h34] at e34
            have c0 := HK.blk_cell hz 0
            have c1 := HK.blk_cell hz 1
            have c2 := HK.blk_cell hz 2
            have c3 := HK.blk_cell hz 3
            have c4 := HK.blk_cell hz 4
            have c5 := HK.blk_cell hz 5
            have c6 := HK.blk_cell hz 6
            have c7 := HK.blk_cell hz 7
            have cf := fun i => HK.blk_frozen hz i
            go_simp
            refine hK undef _ ?_
            exact ⟨⟨hI.1.trans (set8_frm w R _ _ _ _ _ _ _ _), ⟨_, _, _, _, _, _, _, _, set8 hz _ _ _ _ _ _ _ _⟩⟩, fun h => f0 h, fun h => f1 h, fun h => f2 h, fun h => f3 h, fun h => f4 h, fun h => f5 h, fun h => f6 h, fun h => f7 h, fun h => f8 h, fun h => (f9 h).imp fun q h => h.imp fun b h => h.imp fun sq h => ⟨h.1, h.2.1, h.2.2.same fun kk hk => (set8_frm w R _ _ _ _ _ _ _ _).block kk (Nat.lt_of_lt_of_le (Nat.lt_of_lt_of_le hk hnw2) hI.1.size) (by omega)⟩, fun h => f10 h, fun h => f11 h, fun _ => ⟨l9, l10, _, h34, set8 hz _ _ _ _ _ _ _ _⟩, fun h => f13 h⟩
          · intro L x a w K hL hd hf hx hΦ hK
            obtain ⟨hI, f0, f1, f2, f3, f4, f5, f6, f7, f8, f9, f10, f11, f12, f13⟩ := hΦ
            have d11 := f11 (hd 11 (by kernel_rfl))
            have e35 : a.tmps[35]? = some (x 35) := hx 11 _ 35 rfl rfl (hd 11 (by kernel_rfl))
            have l11 := hd 11 (by kernel_rfl)
            clear hf hx hd
            obtain ⟨_, v, hv⟩ := d11
            go_simp
            refine hK _ _ ?_
            exact ⟨hI, fun h => f0 h, fun h => f1 h, fun h => f2 h, fun h => f3 h, fun h => f4 h, fun h => f5 h, fun h => f6 h, fun h => f7 h, fun h => f8 h, fun h => f9 h, fun h => f10 h, fun h => f11 h, fun h => f12 h, fun _ => ⟨l11, rfl⟩⟩
          · rintro x W ⟨hI, f0, f1, f2, f3, f4, f5, f6, f7, f8, f9, f10, f11, f12, f13⟩
            obtain ⟨q, b, sq, hq, hq1, hq2⟩ := f9 (by kernel_rfl)
            obtain ⟨_, v1, hv1⟩ := f10 (by kernel_rfl)
            obtain ⟨_, v2, hv2⟩ := f11 (by kernel_rfl)
            obtain ⟨_, _, cs, hcs1, hcs2⟩ := f12 (by kernel_rfl)
            have h13 := (f13 (by kernel_rfl)).2
            have h34 : x 34 = .agg (q.arr sq) := by have h9 := hv1.symm.trans hq; simp only [Value.tuple.injEq, Array.mk.injEq, List.cons.injEq] at h9; exact h9.1
            have h35 : x 35 = .bool b := by have h9 := hv2.symm.trans hq; simp only [Value.tuple.injEq, Array.mk.injEq, List.cons.injEq] at h9; exact h9.2.1
            have hcq : cs = q.arr sq := by have h9 := hcs1.symm.trans h34; exact Value.agg.inj h9
            subst hcq
            simp only [Exit.then]
            go_step
            go_meet
            case rel => exact ⟨q, b, sq, h13.trans h35, hcs2, hq1, hq2, belowR HB2.out hI.1 hRw⟩
        case rest =>
          obtain ⟨q, b, sq, rfl, hc1, hc2, hc3, hc4⟩ := hcut
          have HC1 := Lib.hid hc1
          have HC2 := Lib.hid hc2
          have HC3 := Lib.hid hc3
          have HC4 := Lib.hid hc4
          clear hc1 hc2 hc3 hc4
          go_wp2_with (fail)
          refine bodyPost_ret (results_row_tmp (p := 4) (u := 5) (by kernel_rfl) _ _ R 30 _ (0, 0) _ (.bool b) rfl rfl HC1.out Try.underlying30 rfl (by rw [show (PT.arr q sq).size = 8 from rfl]; kernel_rfl)) rfl ?_
          exact ⟨q, b, sq, rfl, by rw [HRP.out]; exact HC2.out, HC3.out, HC4.out⟩
    · have hrn := HOUT.out (by rw [← HLN.out]; exact hio)
      subst hrn
      have p0' : ∀ q, (w2.drewN q).cell? ⟨g, o, none⟩ = some (.int .i64 i) := fun q => p0
      have x6' : ∀ q, (w2.drewN q).cell? ⟨G, 6, none⟩ = some (.slice sa sn sc) := fun q => x6
      go_enter Try.func33, Try.ntmps33
      go_upto_region 3 with (fail)
      rw [← HW2.out, ← HR.out, ← HG.out]
      go_cut [22] from 10 to 22 (fun v wx => v = .bool true ∧ ∃ dd, wx = w2.drewN dd)
      case first =>
        by_cases h0 : i < 0
        · go_quiet (fail)
          go_wp2_with (fail)
          go_meet
          case rel => exact ⟨rfl, _, rfl⟩
        · have z3 : (sn : Int) ≤ i := by omega
          go_quiet (fail)
          go_wp2_with (fail)
          go_meet
          case rel => exact ⟨rfl, _, rfl⟩
      case rest =>
        obtain ⟨rfl, dd, hwc⟩ := hcut
        obtain ⟨w3, hw3⟩ : ∃ w3 : World, w3 = wc := ⟨_, rfl⟩
        rw [← hw3]
        have hwd : w3 = w2.drewN dd := hw3.trans hwc
        have hr3 : w3.heap[R]? = some (.cells #[.string ⟨#[]⟩, .int .u8 0, .string ⟨#[]⟩, .slice none 0 0, .slice none 0 0, .int .i64 0, .slice none 0 0, .slice none 0 0] 30 (0, 0)) := by rw [hwd]; exact HR2.out
        have hB3 : Below w.heap.size w w3 := by rw [hwd]; exact HB2.out.trans ⟨rfl, rfl, rfl, Nat.le_refl _, fun _ _ => rfl⟩
        have cR := fun (i : Nat) => HK.blk_frozen hr3 i
        have r0 := HK.blk_cell hr3 0
        have r1 := HK.blk_cell hr3 1
        have r2 := HK.blk_cell hr3 2
        have r3 := HK.blk_cell hr3 3
        have r4 := HK.blk_cell hr3 4
        have r5 := HK.blk_cell hr3 5
        have r6 := HK.blk_cell hr3 6
        have r7 := HK.blk_cell hr3 7
        have HR3 := Lib.hid hr3
        have HB3 := Lib.hid hB3
        clear hwc hw3 hwd p0 x6 p0' x6' hr3 hB3
        go_wp2_with (fail)
        refine bodyPost_ret (results_row_tmp (p := 4) (u := 5) (by kernel_rfl) _ _ R 30 _ (0, 0) _ (.bool false) rfl rfl (set8 (b := R) HR3.out _ _ _ _ _ _ _ _) Try.underlying30 rfl (by kernel_rfl)) rfl ?_
        have hF := set8_frm w3 R (.string ⟨#[]⟩) (.int .u8 0) (.string ⟨#[]⟩) (.slice none 0 0) (.slice none 0 0) (.int .i64 0) (.slice none 0 0) (.slice none 0 0)
        exact ⟨zeroT, false, SL.nil, rfl, ⟨rfl, rfl⟩, .nil _ _, HB3.out.trans (hF.below HB3.out.size fun k hk => by omega)⟩
end Go.Proofs.Ytfebcpmbkljaoaa
namespace Go.Proofs.Ytfebcpmbkljaoaa
open Go.RowKit Go.HR
set_option linter.unusedVariables false
set_option linter.unusedSimpArgs false
set_option linter.unusedSectionVars false
theorem sub_some {w : Nat} : ∀ {u : List Int} {t : PT}, (subT t u).isSome = true → ∃ p h w', walkT t w p = some (h, w') ∧ natI p = u
  | [], t, _ => ⟨[], t, w, rfl, rfl⟩
  | i :: is, t, hs => by
    by_cases hr : 0 ≤ i ∧ i < t.subs.length
    · obtain ⟨k, rfl⟩ : ∃ k : Nat, i = (k : Int) := ⟨i.toNat, by omega⟩
      have hk : k < t.subs.length := by omega
      have hq : t.subs[k]? = some t.subs[k] := List.getElem?_eq_getElem hk
      rw [subT_in hq] at hs
      obtain ⟨p, h, w', h1, h2⟩ := sub_some (w := w / (2 * t.subs.length)) hs
      refine ⟨k :: p, h, w', ?_, by simp [natI] at h2 ⊢; exact h2⟩
      rw [walkT, hq]
      exact h1
    · rw [subT_out hr] at hs
      cases hs
theorem sub_step (t : PT) (u : List Int) : (∃ d ∈ stepsT [] whole t, plD d = u) ↔ (subT t u).isSome = true := by
  constructor
  · rintro ⟨d, hd, rfl⟩
    obtain ⟨q, h1, h2⟩ := steps_walk [] whole t d hd
    rw [List.nil_append] at h1
    have := sub_walk (is := []) h2
    rw [List.append_nil] at this
    unfold plD
    rw [h1]
    show (subT t (natI q)).isSome = true
    rw [this]
    cases d.t <;> rfl
  · intro h
    obtain ⟨p, h', w', h1, h2⟩ := sub_some (w := whole) h
    exact ⟨_, walk_step p t whole [] h' w' h1, by rw [← h2]; rfl⟩
def errT (t : PT) (ws : List (List Int)) : Nat := if measT t then (if ∀ u ∈ ws, (subT t u).isSome = true then 0 else 6) else 2
theorem err_code (t : PT) (ws : List (List Int)) : errT t ws = codeL t ws := by
  unfold errT codeL
  have : (∀ u ∈ ws, (subT t u).isSome = true) ↔ ∀ u ∈ ws, ∃ d ∈ stepsT [] whole t, plD d = u := ⟨fun h u hu => (sub_step t u).2 (h u hu), fun h u hu => (sub_step t u).1 (h u hu)⟩
  by_cases hm : measT t = true
  · rw [if_pos hm, if_pos hm]
    by_cases h : ∀ u ∈ ws, (subT t u).isSome = true
    · rw [if_pos h, if_pos (this.1 h)]
    · rw [if_neg h, if_neg fun h2 => h (this.2 h2)]
  · rw [if_neg hm, if_neg hm]
set_option maxRecDepth 100000 in
set_option maxHeartbeats 16000000 in
theorem error_call (w : World) (t : PT) (sv s : SL) (ws : List (List Int)) (hs : IsPs w.heap.size w sv t.subs) (hz : sizeT t ≤ 10000) (hw : IsW w s ws) (hl : ws.length ≤ 20000) (hu : ∀ u ∈ ws, u.length ≤ 20000) :
    Calls Try.prog 19 #[.agg (t.arr sv), s.v] w fun e w' => e = .returned (.int .i64 (codeL t ws : Nat)) ∧ Below w.heap.size w w' := by
  rw [← err_code]
  obtain ⟨E, hE⟩ : ∃ E, E = errT t ws := ⟨_, rfl⟩
  rw [← hE]
  unfold errT at hE
  have hv := fun (W : World) (hB : Below w.heap.size w W) => valid_call W t sv (hs.up hB) hz
  obtain ⟨b, hb⟩ : ∃ b, b = measT t := ⟨_, rfl⟩
  rw [← hb] at hv hE
  have ha := fun (W : World) (q : SL) (is : List Int) (bs : Bool) (hbs : bs = (subT t is).isSome) (hB : Below w.heap.size w W) (hi : IsI W q is) (hl : is.length ≤ 20000) =>
    (at33 W.heap.size is t W sv q (Nat.le_refl _) (hs.up hB) hi hl hz).mono (R' := fun e w' => ∃ (q : PT) (sq : SL), e = .returned (.tuple #[.agg #[.string q.rule, .int .u8 q.o.op, .string q.o.name, .slice q.o.args.a q.o.args.n q.o.args.c, .slice q.o.fsub.a q.o.fsub.n q.o.fsub.c, .int .i64 q.o.label, .slice sq.a sq.n sq.c, .slice q.o.marks.a q.o.marks.n q.o.marks.c], .bool bs]) ∧ Below W.heap.size W w') (fun e w' ⟨q, b, sq, h1, h2, h3, h4⟩ => ⟨q, sq, by
      have : b = bs := by
        rw [hbs]
        unfold AtIs at h2
        cases hr : subT t is with
        | none => rw [hr] at h2; exact h2.1
        | some q' => rw [hr] at h2; exact h2.1
      rw [h1, this]; rfl, h4⟩)
  have hE0 : b = true → (∀ u ∈ ws, (subT t u).isSome = true) → E = 0 := fun h1 h2 => by rw [hE, if_pos h1, if_pos h2]
  have hE6 : b = true → (¬ ∀ u ∈ ws, (subT t u).isSome = true) → E = 6 := fun h1 h2 => by rw [hE, if_pos h1, if_neg h2]
  have hE2 : b = false → E = 2 := fun h1 => by rw [hE, h1]; rfl
  obtain ⟨tt, htt⟩ : ∃ tt, tt = t := ⟨_, rfl⟩
  rw [← htt] at ha hE0 hE6
  obtain ⟨rule, ⟨op, name, ⟨aa, an, ac⟩, ⟨fa, fn, fc⟩, label, ⟨ma, mn, mc⟩⟩, subs⟩ := t
  obtain ⟨sa, sn, sc⟩ := sv
  obtain ⟨pa, n, c⟩ := s
  have hta : PT.arr tt ⟨sa, sn, sc⟩ = #[.string rule, .int .u8 op, .string name, .slice aa an ac, .slice fa fn fc, .int .i64 label, .slice sa sn sc, .slice ma mn mc] := by rw [htt]; rfl
  simp only [hta, SL.v] at ha
  simp only [PT.arr, PT.rule, PT.o, PT.subs, SL.v] at hv ⊢
  obtain ⟨hn, hws⟩ := hw
  simp only at hn hws
  rw [← hn] at hl
  obtain ⟨G, hG⟩ : ∃ G, G = w.heap.size := ⟨_, rfl⟩
  obtain ⟨w1, hw1⟩ : ∃ w1, w1 = w.alloc (.cells #[.string rule, .int .u8 op, .string name, .slice aa an ac, .slice fa fn fc, .int .i64 label, .slice sa sn sc, .slice ma mn mc] 30) := ⟨_, rfl⟩
  have hB1 : Below w.heap.size w w1 := by rw [hw1]; exact bl_al (Below.refl _ _)
  have hx1 : w1.heap[G]? = some (.cells #[.string rule, .int .u8 op, .string name, .slice aa an ac, .slice fa fn fc, .int .i64 label, .slice sa sn sc, .slice ma mn mc] 30 (0, 0)) := by rw [hw1, hG]; exact HK.blk_new _ _
  have HV := Lib.hid (hv w1 hB1)
  have HA := Lib.hid ha
  have HN := Lib.hid hn
  have HWS := Lib.hid hws
  have HU := Lib.hid hu
  have HE0 := Lib.hid hE0
  have HE6 := Lib.hid hE6
  have HE2 := Lib.hid hE2
  have HB1 := Lib.hid hB1
  have HX1 := Lib.hid hx1
  have HW1 := Lib.hid hw1
  have HG := Lib.hid hG
  clear hs hz hu hE hv hb ha hE0 hE6 hE2 htt hta hn hws hG hw1 hB1
  go_enter Try.func19, Try.ntmps19
  go_upto_region 1 with (fail)
  rw [← HW1.out, ← HG.out]
  have x0 := HK.blk_cell hx1 0
  have x1 := HK.blk_cell hx1 1
  have x2 := HK.blk_cell hx1 2
  have x3 := HK.blk_cell hx1 3
  have x4 := HK.blk_cell hx1 4
  have x5 := HK.blk_cell hx1 5
  have x6 := HK.blk_cell hx1 6
  have x7 := HK.blk_cell hx1 7
  clear hx1
  go_upto_if 10 with (go_at_call 34; (refine HV.out.mono ?_; rintro e w2 ⟨rfl, h2⟩; have H2 := Lib.hid h2; clear h2))
  cases b with
  | false =>
    obtain rfl := HE2.out rfl
    go_wp2_with (fail)
    go_ret
    exact ⟨rfl, below_then HB1.out H2.out⟩
  | true =>
    have hx2 := (H2.out.block _ (HK.blk_lt HX1.out)).trans HX1.out
    have HX2 := Lib.hid hx2
    have HB2 := Lib.hid (below_then HB1.out H2.out)
    clear hx2 x0 x1 x2 x3 x4 x5 x6 x7
    go_upto_block 0 with (fail)
    go_wp2_with (fail)
    go_loopw [5] (fun j wr => ∃ k : Nat, k ≤ n ∧ j = .int .i64 k ∧ (∀ u ∈ ws.take k, (subT tt u).isSome = true) ∧ Below w2.heap.size w2 wr) (fun j _ => n - (intOf j).toNat)
    case atStart => exact ⟨0, by omega, rfl, by simp, Below.refl _ _⟩
    case round =>
      obtain ⟨wo, hwo⟩ : ∃ wo : World, wo = wr := ⟨_, rfl⟩
      rw [← hwo] at hrel ⊢
      clear hwo
      obtain ⟨k, hk, rfl, hall, hBr⟩ := hrel
      by_cases h1 : k < n
      · obtain ⟨u, hu⟩ : ∃ u, ws[k]? = some u := ⟨_, List.getElem?_eq_getElem (by rw [← HN.out]; omega)⟩
        obtain ⟨g, o, rfl, sl, hc1⟩ := HWS.out.resolve_left (fun e => by rw [e] at hu; simp at hu)
        obtain ⟨hcu, hui⟩ := hc1 k u hu
        have hul := HU.out u (List.mem_of_getElem? hu)
        obtain ⟨⟨ua, un, uc⟩, hsl⟩ : ∃ q : SL, q = sl k := ⟨_, rfl⟩
        rw [← hsl] at hcu hui
        simp only [SL.v] at hcu
        have hBw := below_then HB2.out hBr
        have k0 : wo.cell? ⟨g, o + k, none⟩ = some (.slice ua un uc) := cell_then hcu hBw
        have hxo := (hBr.block _ (HK.blk_lt HX2.out)).trans HX2.out
        have x0 := HK.blk_cell hxo 0
        have x1 := HK.blk_cell hxo 1
        have x2 := HK.blk_cell hxo 2
        have x3 := HK.blk_cell hxo 3
        have x4 := HK.blk_cell hxo 4
        have x5 := HK.blk_cell hxo 5
        have x6 := HK.blk_cell hxo 6
        have x7 := HK.blk_cell hxo 7
        obtain ⟨bs, hbs⟩ : ∃ bs, bs = (subT tt u).isSome := ⟨_, rfl⟩
        have hcall := fun (W : World) (hB : Below wo.heap.size wo W) => HA.out W ⟨ua, un, uc⟩ u bs hbs (below_then hBw hB) (hui.below (below_then hBw hB)) hul
        simp only at hcall
        have htk : ws.take (k + 1) = ws.take k ++ [u] := by rw [List.take_add_one, hu]; rfl
        have hmem : u ∈ ws := List.mem_of_getElem? hu
        have y1 : (0 : Int) ≤ (k : Int) := by omega
        have y2 : (k : Int) < (n : Int) := by omega
        have HBS := Lib.hid hbs
        have HTK := Lib.hid htk
        have HALL := Lib.hid hall
        have HBR := Lib.hid hBr
        have HA := Lib.hid hcall
        clear hc1 hcu hui hul hsl hBw hxo hbs hcall htk hall hBr hu
        go_upto_region 6 with (fail)
        go_cut [7] from 17 to 25 (fun v wx => v = .bool bs ∧ Below wo.heap.size wo wx)
        case first =>
          refine Go.RE.wp_region_each [18, 19, 20, 21, 22, 23, 17, 24, 25, 6, 7] (fun L x W => (Below wo.heap.size wo W) ∧ (L 0 = true → x 18 = .agg #[.string rule, .int .u8 op, .string name, .slice aa an ac, .slice fa fn fc, .int .i64 label, .slice sa sn sc, .slice ma mn mc]) ∧ (L 1 = true → x 19 = .slice (some ⟨g, o, none⟩) n c) ∧ (L 2 = true → x 20 = .int .i64 (k : Int)) ∧ (L 3 = true → x 21 = .pointer (some ⟨g, o + k, none⟩)) ∧ (L 4 = true → x 22 = .slice ua un uc) ∧ (L 5 = true → ∃ (q : PT) (sq : SL), x 23 = .tuple #[.agg #[.string q.rule, .int .u8 q.o.op, .string q.o.name, .slice q.o.args.a q.o.args.n q.o.args.c, .slice q.o.fsub.a q.o.fsub.n q.o.fsub.c, .int .i64 q.o.label, .slice sq.a sq.n sq.c, .slice q.o.marks.a q.o.marks.n q.o.marks.c], .bool bs]) ∧ (L 6 = true → ∃ (q : PT) (sq : SL), x 17 = .tuple #[.agg #[.string q.rule, .int .u8 q.o.op, .string q.o.name, .slice q.o.args.a q.o.args.n q.o.args.c, .slice q.o.fsub.a q.o.fsub.n q.o.fsub.c, .int .i64 q.o.label, .slice sq.a sq.n sq.c, .slice q.o.marks.a q.o.marks.n q.o.marks.c], .bool bs]) ∧ (L 7 = true → ∃ (q : PT) (sq : SL), x 24 = .agg #[.string q.rule, .int .u8 q.o.op, .string q.o.name, .slice q.o.args.a q.o.args.n q.o.args.c, .slice q.o.fsub.a q.o.fsub.n q.o.fsub.c, .int .i64 q.o.label, .slice sq.a sq.n sq.c, .slice q.o.marks.a q.o.marks.n q.o.marks.c]) ∧ (L 8 = true → x 25 = .bool bs) ∧ (L 9 = true → ∃ B z0 z1 z2 z3 z4 z5 z6 z7, x 6 = .pointer (some ⟨B, 0, none⟩) ∧ wo.heap.size ≤ B ∧ W.heap[B]? = some (.cells #[z0, z1, z2, z3, z4, z5, z6, z7] 30 (0, 0))) ∧ (L 10 = true → True) ∧ (L 11 = true → x 7 = .bool bs)) (by kernel_rfl) (by kernel_rfl) (by kernel_rfl) ?_ ((Go.RE.Each.cons ?_ (Go.RE.Each.cons ?_ (Go.RE.Each.cons ?_ (Go.RE.Each.cons ?_ (Go.RE.Each.cons ?_ (Go.RE.Each.cons ?_ (Go.RE.Each.cons ?_ (Go.RE.Each.cons ?_ (Go.RE.Each.cons ?_ (Go.RE.Each.cons ?_ (Go.RE.Each.cons ?_ (Go.RE.Each.cons ?_ Go.RE.Each.nil))))))))))))) ?_
          · exact fun x => ⟨bl_dr (Below.refl _ wo), fun h => (by cases h), fun h => (by cases h), fun h => (by cases h), fun h => (by cases h), fun h => (by cases h), fun h => (by cases h), fun h => (by cases h), fun h => (by cases h), fun h => (by cases h), fun h => (by cases h), fun h => (by cases h), fun h => (by cases h)⟩
          · intro L x a w K hL hd hf hx hΦ hK
            obtain ⟨hI, f0, f1, f2, f3, f4, f5, f6, f7, f8, f9, f10, f11⟩ := hΦ
            have e2 : a.tmps[2]? = some (.pointer (some ⟨G, 0, none⟩)) := hf 2 (of_decide_eq_true (by kernel_rfl))
            clear hf hx hd
            have r0 := cell_then x0 hI
            have r1 := cell_then x1 hI
            have r2 := cell_then x2 hI
            have r3 := cell_then x3 hI
            have r4 := cell_then x4 hI
            have r5 := cell_then x5 hI
            have r6 := cell_then x6 hI
            have r7 := cell_then x7 hI
            go_simp
            refine hK _ _ ?_
            exact ⟨hI, fun _ => rfl, fun h => f1 h, fun h => f2 h, fun h => f3 h, fun h => f4 h, fun h => f5 h, fun h => f6 h, fun h => f7 h, fun h => f8 h, fun h => f9 h, fun _ => trivial, fun h => f11 h⟩
          · intro L x a w K hL hd hf hx hΦ hK
            obtain ⟨hI, f0, f1, f2, f3, f4, f5, f6, f7, f8, f9, f10, f11⟩ := hΦ
            have e1 : a.tmps[1]? = some (.slice (some ⟨g, o, none⟩) n c) := hf 1 (of_decide_eq_true (by kernel_rfl))
            clear hf hx hd
            go_simp
            refine hK _ _ ?_
            exact ⟨hI, fun h => f0 h, fun _ => rfl, fun h => f2 h, fun h => f3 h, fun h => f4 h, fun h => f5 h, fun h => f6 h, fun h => f7 h, fun h => f8 h, fun h => f9 h, fun _ => trivial, fun h => f11 h⟩
          · intro L x a w K hL hd hf hx hΦ hK
            obtain ⟨hI, f0, f1, f2, f3, f4, f5, f6, f7, f8, f9, f10, f11⟩ := hΦ
            have e5 : a.tmps[5]? = some (.int .i64 (k : Int)) := hf 5 (of_decide_eq_true (by kernel_rfl))
            clear hf hx hd
            go_simp
            refine hK _ _ ?_
            exact ⟨hI, fun h => f0 h, fun h => f1 h, fun _ => rfl, fun h => f3 h, fun h => f4 h, fun h => f5 h, fun h => f6 h, fun h => f7 h, fun h => f8 h, fun h => f9 h, fun _ => trivial, fun h => f11 h⟩
          · intro L x a w K hL hd hf hx hΦ hK
            obtain ⟨hI, f0, f1, f2, f3, f4, f5, f6, f7, f8, f9, f10, f11⟩ := hΦ
            have d1 := f1 (hd 1 (by kernel_rfl))
            have e19 : a.tmps[19]? = some (x 19) := hx 1 _ 19 rfl rfl (hd 1 (by kernel_rfl))
            have d2 := f2 (hd 2 (by kernel_rfl))
            have e20 : a.tmps[20]? = some (x 20) := hx 2 _ 20 rfl rfl (hd 2 (by kernel_rfl))
            clear hf hx hd
            rw [d1] at e19
            rw [d2] at e20
            go_simp
            refine hK _ _ ?_
            exact ⟨hI, fun h => f0 h, fun h => f1 h, fun h => f2 h, fun _ => rfl, fun h => f4 h, fun h => f5 h, fun h => f6 h, fun h => f7 h, fun h => f8 h, fun h => f9 h, fun _ => trivial, fun h => f11 h⟩
          · intro L x a w K hL hd hf hx hΦ hK
            obtain ⟨hI, f0, f1, f2, f3, f4, f5, f6, f7, f8, f9, f10, f11⟩ := hΦ
            have d3 := f3 (hd 3 (by kernel_rfl))
            have e21 : a.tmps[21]? = some (x 21) := hx 3 _ 21 rfl rfl (hd 3 (by kernel_rfl))
            clear hf hx hd
            rw [d3] at e21
            have rk := cell_then k0 hI
            go_simp
            refine hK _ _ ?_
            exact ⟨hI, fun h => f0 h, fun h => f1 h, fun h => f2 h, fun h => f3 h, fun _ => rfl, fun h => f5 h, fun h => f6 h, fun h => f7 h, fun h => f8 h, fun h => f9 h, fun _ => trivial, fun h => f11 h⟩
          · intro L x a w K hL hd hf hx hΦ hK
            obtain ⟨hI, f0, f1, f2, f3, f4, f5, f6, f7, f8, f9, f10, f11⟩ := hΦ
            have d0 := f0 (hd 0 (by kernel_rfl))
            have e18 : a.tmps[18]? = some (x 18) := hx 0 _ 18 rfl rfl (hd 0 (by kernel_rfl))
            have d4 := f4 (hd 4 (by kernel_rfl))
            have e22 : a.tmps[22]? = some (x 22) := hx 4 _ 22 rfl rfl (hd 4 (by kernel_rfl))
            clear hf hx hd
            rw [d0] at e18
            rw [d4] at e22
            go_simp
            go_at_call 33
            refine (HA.out w hI).mono ?_
            rintro e w' ⟨q, sq, rfl, hB8⟩
            simp only
            refine hK _ _ ?_
            exact ⟨below_then hI hB8, fun h => f0 h, fun h => f1 h, fun h => f2 h, fun h => f3 h, fun h => f4 h, fun _ => ⟨q, sq, rfl⟩, fun h => f6 h, fun h => f7 h, fun h => f8 h, fun h => box_up hB8 (f9 h), fun _ => trivial, fun h => f11 h⟩
          · intro L x a w K hL hd hf hx hΦ hK
            obtain ⟨hI, f0, f1, f2, f3, f4, f5, f6, f7, f8, f9, f10, f11⟩ := hΦ
            have d5 := f5 (hd 5 (by kernel_rfl))
            have e23 : a.tmps[23]? = some (x 23) := hx 5 _ 23 rfl rfl (hd 5 (by kernel_rfl))
            clear hf hx hd
            obtain ⟨q, sq, hq⟩ := d5
            rw [hq] at e23
            go_simp
            refine hK _ _ ?_
            exact ⟨hI, fun h => f0 h, fun h => f1 h, fun h => f2 h, fun h => f3 h, fun h => f4 h, fun h => f5 h, fun _ => ⟨q, sq, rfl⟩, fun h => f7 h, fun h => f8 h, fun h => f9 h, fun _ => trivial, fun h => f11 h⟩
          · intro L x a w K hL hd hf hx hΦ hK
            obtain ⟨hI, f0, f1, f2, f3, f4, f5, f6, f7, f8, f9, f10, f11⟩ := hΦ
            have d6 := f6 (hd 6 (by kernel_rfl))
            have e17 : a.tmps[17]? = some (x 17) := hx 6 _ 17 rfl rfl (hd 6 (by kernel_rfl))
            clear hf hx hd
            obtain ⟨q, sq, hq⟩ := d6
            rw [hq] at e17
            go_simp
            refine hK _ _ ?_
            exact ⟨hI, fun h => f0 h, fun h => f1 h, fun h => f2 h, fun h => f3 h, fun h => f4 h, fun h => f5 h, fun h => f6 h, fun _ => ⟨q, sq, rfl⟩, fun h => f8 h, fun h => f9 h, fun _ => trivial, fun h => f11 h⟩
          · intro L x a w K hL hd hf hx hΦ hK
            obtain ⟨hI, f0, f1, f2, f3, f4, f5, f6, f7, f8, f9, f10, f11⟩ := hΦ
            have d6 := f6 (hd 6 (by kernel_rfl))
            have e17 : a.tmps[17]? = some (x 17) := hx 6 _ 17 rfl rfl (hd 6 (by kernel_rfl))
            clear hf hx hd
            obtain ⟨q, sq, hq⟩ := d6
            rw [hq] at e17
            go_simp
            refine hK _ _ ?_
            exact ⟨hI, fun h => f0 h, fun h => f1 h, fun h => f2 h, fun h => f3 h, fun h => f4 h, fun h => f5 h, fun h => f6 h, fun h => f7 h, fun _ => rfl, fun h => f9 h, fun _ => trivial, fun h => f11 h⟩
          · intro L x a w K hL hd hf hx hΦ hK
            obtain ⟨hI, f0, f1, f2, f3, f4, f5, f6, f7, f8, f9, f10, f11⟩ := hΦ
            clear hf hx hd
            go_simp
            refine hK _ _ ?_
            exact ⟨bl_al hI, fun h => f0 h, fun h => f1 h, fun h => f2 h, fun h => f3 h, fun h => f4 h, fun h => f5 h, fun h => f6 h, fun h => f7 h, fun h => f8 h, fun _ => ⟨_, _, _, _, _, _, _, _, _, rfl, hI.size, HK.blk_new _ _⟩, fun _ => trivial, fun h => f11 h⟩
          · intro L x a w K hL hd hf hx hΦ hK
            obtain ⟨hI, f0, f1, f2, f3, f4, f5, f6, f7, f8, f9, f10, f11⟩ := hΦ
            have d7 := f7 (hd 7 (by kernel_rfl))
            have e24 : a.tmps[24]? = some (x 24) := hx 7 _ 24 rfl rfl (hd 7 (by kernel_rfl))
            have d9 := f9 (hd 9 (by kernel_rfl))
            have e6 : a.tmps[6]? = some (x 6) := hx 9 _ 6 rfl rfl (hd 9 (by kernel_rfl))
            clear hf hx hd
            obtain ⟨q, sq, hq⟩ := d7
            obtain ⟨B, z0, z1, z2, z3, z4, z5, z6, z7, hb, hBl, hbx⟩ := d9
            rw [hq] at e24
            rw [hb] at e6
            have c0 := HK.blk_cell hbx 0
            have c1 := HK.blk_cell hbx 1
            have c2 := HK.blk_cell hbx 2
            have c3 := HK.blk_cell hbx 3
            have c4 := HK.blk_cell hbx 4
            have c5 := HK.blk_cell hbx 5
            have c6 := HK.blk_cell hbx 6
            have c7 := HK.blk_cell hbx 7
            have cf := fun i => HK.blk_frozen hbx i
            go_simp
            refine hK undef _ ?_
            exact ⟨below_set8 hI hBl rfl, fun h => f0 h, fun h => f1 h, fun h => f2 h, fun h => f3 h, fun h => f4 h, fun h => f5 h, fun h => f6 h, fun h => f7 h, fun h => f8 h, fun h => ⟨B, _, _, _, _, _, _, _, _, hb, hBl, set8 hbx _ _ _ _ _ _ _ _⟩, fun _ => trivial, fun h => f11 h⟩
          · intro L x a w K hL hd hf hx hΦ hK
            obtain ⟨hI, f0, f1, f2, f3, f4, f5, f6, f7, f8, f9, f10, f11⟩ := hΦ
            have d8 := f8 (hd 8 (by kernel_rfl))
            have e25 : a.tmps[25]? = some (x 25) := hx 8 _ 25 rfl rfl (hd 8 (by kernel_rfl))
            clear hf hx hd
            rw [d8] at e25
            go_simp
            refine hK _ _ ?_
            exact ⟨hI, fun h => f0 h, fun h => f1 h, fun h => f2 h, fun h => f3 h, fun h => f4 h, fun h => f5 h, fun h => f6 h, fun h => f7 h, fun h => f8 h, fun h => f9 h, fun _ => trivial, fun _ => rfl⟩
          · rintro x W ⟨hI, f0, f1, f2, f3, f4, f5, f6, f7, f8, f9, f10, f11⟩
            have h11 := f11 (by kernel_rfl)
            simp only [Exit.then]
            go_step
            go_meet
            case rel => exact ⟨h11, hI⟩
        case rest =>
          obtain ⟨rfl, hB5⟩ := hcut
          have H5 := Lib.hid hB5
          clear hB5
          cases bs with
          | true =>
            go_wp2_with (fail)
            go_roundw
            case rel =>
              refine ⟨k + 1, by omega, by go_num, ?_, below_then HBR.out H5.out⟩
              intro u' hu'
              rw [HTK.out, List.mem_append] at hu'
              rcases hu' with h | h
              · exact HALL.out u' h
              · rw [List.mem_singleton.1 h]; exact HBS.out.symm
            case measure => simp [intOf]; omega
          | false =>
            obtain rfl := HE6.out (by trivial) (fun h => by have h3 := h u hmem; rw [← HBS.out] at h3; cases h3)
            go_wp2_with (fail)
            go_ret
            exact ⟨rfl, below_then HB2.out (below_then HBR.out H5.out)⟩
      · have hkn : k = n := by omega
        obtain rfl := HE0.out (by trivial) (fun u hu => by
          have h3 := hall u
          rw [List.take_of_length_le (by rw [← HN.out]; omega)] at h3
          exact h3 hu)
        have y1 : ¬ ((k : Int) < (n : Int)) := by omega
        have HBR := Lib.hid hBr
        clear hkn hall hBr
        go_wp2_with (fail)
        go_ret
        exact ⟨rfl, below_then HB2.out HBR.out⟩
end Go.Proofs.Ytfebcpmbkljaoaa
