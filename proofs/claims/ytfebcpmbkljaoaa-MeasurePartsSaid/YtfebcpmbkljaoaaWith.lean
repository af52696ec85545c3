/- The walk of With. -/
import Derived.Test.YtfebcpmbkljaoaaRepl
namespace Go.Proofs.Ytfebcpmbkljaoaa
open Go.RowKit Go.HR
set_option linter.unusedVariables false
set_option linter.unusedSimpArgs false
set_option linter.unusedSectionVars false
theorem repl_all (u : PT) (su : SL) (hl0 : ∀ t : PT, sizeT t ≤ 10000 → t.subs.length ≤ 10000) : ∀ (is : List Int) (n0 : Nat) (w : World) (t : PT) (sv s : SL), n0 ≤ w.heap.size → IsPs n0 w sv t.subs → IsPs n0 w su u.subs → IsI w s is → is.length ≤ 20000 → sizeT t ≤ 10000 →
    Calls Try.prog 46 #[.agg (t.arr sv), s.v, .agg (u.arr su)] w (RetR n0 w (replT t is u)) := by
  intro is
  induction is with
  | nil =>
    intro n0 w t sv s hn hs hu hi _ _
    rw [replT]
    exact repl_nil u su n0 w hn t sv s hu (by simpa using hi.1)
  | cons i is ih =>
    intro n0 w t sv s hn hs hu hi hl hz
    simp only [List.length_cons] at hl
    by_cases ho : 0 ≤ i ∧ i < t.subs.length
    · obtain ⟨k, rfl⟩ : ∃ k : Nat, i = (k : Int) := ⟨i.toNat, by omega⟩
      obtain ⟨q, hq⟩ : ∃ q, t.subs[k]? = some q := ⟨_, List.getElem?_eq_getElem (by omega)⟩
      have hzq : sizeT q ≤ 10000 := by have := sizeF_mem hq; have := sizeT_eq t; omega
      have hr : replT t ((k : Int) :: is) u = (replT q is u).map fun q' => PT.node t.rule t.o (t.subs.set k q') := by
        obtain ⟨r, o, ts⟩ := t
        simp only [PT.subs] at ho hq
        rw [replT, if_pos ho, Int.toNat_natCast, hq]; rfl
      rw [hr]
      have hlen := hl0 t hz
      obtain ⟨r, o, ts⟩ := t
      exact repl_step n0 u su w hn r o ts sv s k is q (replT q is u) hs hu hi hlen (by omega) hq fun W sq sp h1 h2 h3 h4 => ih n0 W q sq sp h1 h2 h3 h4 (by omega) hzq
    · have hr : replT t (i :: is) u = none := by
        obtain ⟨r, o, ts⟩ := t
        simp only [PT.subs] at ho
        rw [replT, if_neg ho]
      rw [hr]
      exact repl_out u su n0 w t sv s i is (hs.mono hn) hi hz (by omega) ho
theorem sizeF_set {ts : List PT} {k : Nat} {q q' : PT} (h : ts[k]? = some q) : sizeF (ts.set k q') + sizeT q = sizeF ts + sizeT q' := by
  induction ts generalizing k with
  | nil => simp at h
  | cons t ts ih =>
    cases k with
    | zero => simp at h; subst h; simp [sizeF]; omega
    | succ k => have := ih (k := k) (by simpa using h); simp only [List.set_cons_succ, sizeF]; omega
theorem replT_size {u : PT} : ∀ {is : List Int} {t q : PT}, replT t is u = some q → sizeT q ≤ sizeT t + sizeT u
  | [], t, q, h => by rw [replT] at h; cases h; have := sizeT_pos t; omega
  | i :: is, .node r o s, q, h => by
    rw [replT] at h
    split at h
    · split at h
      · rename_i p hp
        obtain ⟨q', hq', rfl⟩ := Option.map_eq_some_iff.1 h
        have := replT_size hq'
        have := sizeF_set (q' := q') hp
        simp only [sizeT]; omega
      · cases h
    · cases h
theorem replT_plain {u : PT} (hu : plainT u) : ∀ {is : List Int} {t q : PT}, plainT t → replT t is u = some q → plainT q
  | [], t, q, _, h => by rw [replT] at h; cases h; exact hu
  | i :: is, .node r o s, q, hp, h => by
    rw [replT] at h
    split at h
    · split at h
      · rename_i p hp2
        obtain ⟨q', hq', rfl⟩ := Option.map_eq_some_iff.1 h
        obtain ⟨h1, h2, h3, h4⟩ := hp
        have h5 := replT_plain hu ((plainF_iff s).1 h4 p (List.mem_of_getElem? hp2)) hq'
        refine ⟨h1, h2, h3, (plainF_iff _).2 fun t ht => ?_⟩
        rcases List.mem_or_eq_of_mem_set ht with ht | rfl
        · exact (plainF_iff s).1 h4 t ht
        · exact h5
      · cases h
    · cases h
/-- What With returns: the error's number, the proof. -/
def withR (t u : PT) (is : List Int) : Nat × PT := if measT t then (match replT t is u with | none => (6, zeroT) | some q => if measT q then (0, q) else (5, zeroT)) else (2, zeroT)
def RetW (w : World) (r : Nat × PT) (e : Ending) (w' : World) : Prop :=
  ∃ sv : SL, e = .returned (.tuple #[.agg (r.2.arr sv), .int .i64 (r.1 : Nat)]) ∧ IsPs w'.heap.size w' sv r.2.subs ∧ Below w.heap.size w w'
theorem subs_le (t : PT) (h : sizeT t ≤ 10000) : t.subs.length ≤ 10000 := by have := sizeT_eq t; have := sizeF_len t.subs; omega
/-- The same; its premises lie in memory of the call's own. -/
def RetWq (w : World) (r : Nat × PT) (e : Ending) (w' : World) : Prop :=
  ∃ sv : SL, e = .returned (.tuple #[.agg (r.2.arr sv), .int .i64 (r.1 : Nat)]) ∧ IsPq (fun k => w.heap.size ≤ k ∧ k < w'.heap.size) w' sv r.2.subs ∧ Below w.heap.size w w'
set_option maxRecDepth 100000 in
set_option maxHeartbeats 8000000 in
theorem with_new (w : World) (t u : PT) (sv su s : SL) (is : List Int) (hs : IsPs w.heap.size w sv t.subs) (hu : IsPs w.heap.size w su u.subs) (hi : IsI w s is) (hl : is.length ≤ 20000) (hzt : sizeT t ≤ 10000) (hzu : sizeT u ≤ 9000) (hpt : plainT t) (hpu : plainT u) :
    Calls Try.prog 24 #[.agg (t.arr sv), s.v, .agg (u.arr su)] w (RetWq w (withR t u is)) := by
  have hms := fun (W : World) (h : IsPs W.heap.size W sv t.subs) => measurable_call W t sv h hzt
  have hrp := fun (W : World) (h1 : IsPs W.heap.size W sv t.subs) (h2 : IsPs W.heap.size W su u.subs) (h3 : IsI W s is) => repl_all u su subs_le is W.heap.size W t sv s (Nat.le_refl _) h1 h2 h3 hl hzt
  have hw : withR t u is = if measT t then (match replT t is u with | none => (6, zeroT) | some q => if measT q then (0, q) else (5, zeroT)) else (2, zeroT) := rfl
  have hq1 : measT t = true → ∀ q, replT t is u = some q → sizeT q ≤ 10000 ∧ plainT q := fun hm q hq => ⟨by have := replT_size hq; have := meas_size hm; omega, replT_plain hpu hpt hq⟩
  obtain ⟨R, hR⟩ : ∃ R, R = replT t is u := ⟨_, rfl⟩
  obtain ⟨mt, hmt⟩ : ∃ mt, mt = measT t := ⟨_, rfl⟩
  unfold RetMs at hms
  rw [← hmt] at hms hw hq1
  rw [← hR] at hw
  simp only [← hR] at hrp hq1
  obtain ⟨r0, hr0⟩ : ∃ r0, r0 = withR t u is := ⟨_, rfl⟩
  rw [← hr0] at hw ⊢
  have e2 : mt = false → r0 = (2, zeroT) := fun h => by rw [hw, h]; rfl
  have e6 : mt = true → R = none → r0 = (6, zeroT) := fun h h2 => by rw [hw, h, h2]; rfl
  have e5 : mt = true → ∀ q, R = some q → measT q = false → r0 = (5, zeroT) := fun h q h2 h3 => by rw [hw, h, h2]; simp [h3]
  have e0 : mt = true → ∀ q, R = some q → measT q = true → r0 = (0, q) := fun h q h2 h3 => by rw [hw, h, h2]; simp [h3]
  have E2 := Lib.hid e2
  have E6 := Lib.hid e6
  have E5 := Lib.hid e5
  have E0 := Lib.hid e0
  clear hw hR hmt hzt hpt hpu hr0 e2 e6 e5 e0
  obtain ⟨rule, ⟨op, name, ⟨aa, an, ac⟩, ⟨fa, fn, fc⟩, label, ⟨ma, mn, mc⟩⟩, subs⟩ := t
  obtain ⟨ur, ⟨uo, un, ⟨ba, bn, bc⟩, ⟨da, dn, dc⟩, ul, ⟨na, nn, nc⟩⟩, us⟩ := u
  obtain ⟨ta, tn, tc⟩ := sv
  obtain ⟨va, vn, vc⟩ := su
  obtain ⟨sa, sn, sc⟩ := s
  simp only [PT.arr, PT.rule, PT.o, PT.subs, SL.v] at hms hrp hs hu ⊢
  obtain ⟨w3, hw3⟩ : ∃ w3, w3 = ((w.alloc (.cells #[.string rule, .int .u8 op, .string name, .slice aa an ac, .slice fa fn fc, .int .i64 label, .slice ta tn tc, .slice ma mn mc] 30)).alloc (.cells #[.string ur, .int .u8 uo, .string un, .slice ba bn bc, .slice da dn dc, .int .i64 ul, .slice va vn vc, .slice na nn nc] 30)).alloc (.cells #[.string ⟨#[]⟩, .int .u8 0, .string ⟨#[]⟩, .slice none 0 0, .slice none 0 0, .int .i64 0, .slice none 0 0, .slice none 0 0] 30) := ⟨_, rfl⟩
  have hb3 : Below w.heap.size w w3 := by rw [hw3]; exact (((Below.refl _ w).alloc (Nat.le_refl _) _).alloc (by simp) _).alloc (by simp; omega) _
  have hz3 : w3.heap.size = w.heap.size + 3 := by rw [hw3]; simp
  have k0 : w3.heap[w.heap.size]? = some (.cells #[.string rule, .int .u8 op, .string name, .slice aa an ac, .slice fa fn fc, .int .i64 label, .slice ta tn tc, .slice ma mn mc] 30 (0, 0)) := by rw [hw3]; exact HK.blk_alloc (HK.blk_alloc (HK.blk_new _ _) _) _
  have k1 : w3.heap[w.heap.size + 1]? = some (.cells #[.string ur, .int .u8 uo, .string un, .slice ba bn bc, .slice da dn dc, .int .i64 ul, .slice va vn vc, .slice na nn nc] 30 (0, 0)) := by rw [hw3]; exact HK.blk_alloc (blk_new1 _ _ _) _
  have k2 : w3.heap[w.heap.size + 2]? = some (.cells #[.string ⟨#[]⟩, .int .u8 0, .string ⟨#[]⟩, .slice none 0 0, .slice none 0 0, .int .i64 0, .slice none 0 0, .slice none 0 0] 30 (0, 0)) := by rw [hw3]; exact blk_new2 _ _ _ _
  have hm3 := hms w3 (hs.up hb3)
  have HM3 := Lib.hid hm3
  have HRP := Lib.hid hrp
  have HS := Lib.hid hs
  have HU := Lib.hid hu
  have HI := Lib.hid hi
  have HQ1 := Lib.hid hq1
  have HB3 := Lib.hid hb3
  have HZ3 := Lib.hid hz3
  have K0 := Lib.hid k0
  have K1 := Lib.hid k1
  have K2 := Lib.hid k2
  have HW3 := Lib.hid hw3
  clear hms hrp hs hu hi hq1 hb3 hz3 k0 k1 k2 hw3 hm3
  go_enter Try.func24, Try.ntmps24
  go_upto_region 1 with (fail)
  rw [← HW3.out]
  have k0 := K0.out
  have p0 : w3.cell? ⟨w.heap.size, 0, none⟩ = some (.string rule) := HK.blk_cell k0 0
  have p1 : w3.cell? ⟨w.heap.size, 1, none⟩ = some (.int .u8 op) := HK.blk_cell k0 1
  have p2 : w3.cell? ⟨w.heap.size, 2, none⟩ = some (.string name) := HK.blk_cell k0 2
  have p3 : w3.cell? ⟨w.heap.size, 3, none⟩ = some (.slice aa an ac) := HK.blk_cell k0 3
  have p4 : w3.cell? ⟨w.heap.size, 4, none⟩ = some (.slice fa fn fc) := HK.blk_cell k0 4
  have p5 : w3.cell? ⟨w.heap.size, 5, none⟩ = some (.int .i64 label) := HK.blk_cell k0 5
  have p6 : w3.cell? ⟨w.heap.size, 6, none⟩ = some (.slice ta tn tc) := HK.blk_cell k0 6
  have p7 : w3.cell? ⟨w.heap.size, 7, none⟩ = some (.slice ma mn mc) := HK.blk_cell k0 7
  clear k0
  cases mt with
  | false =>
    go_wp2_with (
      go_at_call 45
      refine HM3.out.mono ?_
      rintro e w4 ⟨rfl, hB4⟩
      have hr4 := (hB4.block _ (by have := HZ3.out; omega)).trans K2.out
      have z0 : w4.cell? ⟨w.heap.size + 2, 0, none⟩ = some (.string ⟨#[]⟩) := HK.blk_cell hr4 0
      have z1 : w4.cell? ⟨w.heap.size + 2, 1, none⟩ = some (.int .u8 0) := HK.blk_cell hr4 1
      have z2 : w4.cell? ⟨w.heap.size + 2, 2, none⟩ = some (.string ⟨#[]⟩) := HK.blk_cell hr4 2
      have z3 : w4.cell? ⟨w.heap.size + 2, 3, none⟩ = some (.slice none 0 0) := HK.blk_cell hr4 3
      have z4 : w4.cell? ⟨w.heap.size + 2, 4, none⟩ = some (.slice none 0 0) := HK.blk_cell hr4 4
      have z5 : w4.cell? ⟨w.heap.size + 2, 5, none⟩ = some (.int .i64 0) := HK.blk_cell hr4 5
      have z6 : w4.cell? ⟨w.heap.size + 2, 6, none⟩ = some (.slice none 0 0) := HK.blk_cell hr4 6
      have z7 : w4.cell? ⟨w.heap.size + 2, 7, none⟩ = some (.slice none 0 0) := HK.blk_cell hr4 7
      have zf := fun i => HK.blk_frozen hr4 i
      have HR4 := Lib.hid hr4
      have HB4 := Lib.hid hB4
      clear hr4 hB4)
    have hre := E2.out (by trivial)
    rw [hre]
    refine bodyPost_ret (results_row_tmp (p := 6) (u := 7) (by kernel_rfl) _ _ (w.heap.size + 1 + 1) 30 _ (0, 0) _ (.int .i64 2) rfl rfl (set8 (b := w.heap.size + 1 + 1) HR4.out _ _ _ _ _ _ _ _) Try.underlying30 rfl (by kernel_rfl)) rfl ?_
    have hF8 := set8_frm w4 (w.heap.size + 1 + 1) (.string ⟨#[]⟩) (.int .u8 0) (.string ⟨#[]⟩) (.slice none 0 0) (.slice none 0 0) (.int .i64 0) (.slice none 0 0) (.slice none 0 0)
    have hBW := below_then HB3.out HB4.out
    have hsz := hBW.size
    exact ⟨SL.nil, rfl, .nil _ _, hBW.trans (hF8.below (B := w.heap.size) (by omega) (fun b e => by omega))⟩
  | true =>
    go_upto_region 3 with (
      go_at_call 45
      refine HM3.out.mono ?_
      rintro e w4 ⟨rfl, hB4⟩)
    have hr4 := (hB4.block _ (by have := HZ3.out; omega)).trans K2.out
    have ht4 := (hB4.block _ (by have := HZ3.out; omega)).trans K0.out
    have hu4 := (hB4.block _ (by have := HZ3.out; omega)).trans K1.out
    have hB04 := below_then HB3.out hB4
    have hrp := HRP.out w4 (HS.out.up hB04) (HU.out.up hB04) (HI.out.below hB04)
    have HRP4 := Lib.hid hrp
    have HB04 := Lib.hid hB04
    have HR4 := Lib.hid hr4
    have x0 : w4.cell? ⟨w.heap.size, 0, none⟩ = some (.string rule) := HK.blk_cell ht4 0
    have x1 : w4.cell? ⟨w.heap.size, 1, none⟩ = some (.int .u8 op) := HK.blk_cell ht4 1
    have x2 : w4.cell? ⟨w.heap.size, 2, none⟩ = some (.string name) := HK.blk_cell ht4 2
    have x3 : w4.cell? ⟨w.heap.size, 3, none⟩ = some (.slice aa an ac) := HK.blk_cell ht4 3
    have x4 : w4.cell? ⟨w.heap.size, 4, none⟩ = some (.slice fa fn fc) := HK.blk_cell ht4 4
    have x5 : w4.cell? ⟨w.heap.size, 5, none⟩ = some (.int .i64 label) := HK.blk_cell ht4 5
    have x6 : w4.cell? ⟨w.heap.size, 6, none⟩ = some (.slice ta tn tc) := HK.blk_cell ht4 6
    have x7 : w4.cell? ⟨w.heap.size, 7, none⟩ = some (.slice ma mn mc) := HK.blk_cell ht4 7
    have y0 : w4.cell? ⟨w.heap.size + 1, 0, none⟩ = some (.string ur) := HK.blk_cell hu4 0
    have y1 : w4.cell? ⟨w.heap.size + 1, 1, none⟩ = some (.int .u8 uo) := HK.blk_cell hu4 1
    have y2 : w4.cell? ⟨w.heap.size + 1, 2, none⟩ = some (.string un) := HK.blk_cell hu4 2
    have y3 : w4.cell? ⟨w.heap.size + 1, 3, none⟩ = some (.slice ba bn bc) := HK.blk_cell hu4 3
    have y4 : w4.cell? ⟨w.heap.size + 1, 4, none⟩ = some (.slice da dn dc) := HK.blk_cell hu4 4
    have y5 : w4.cell? ⟨w.heap.size + 1, 5, none⟩ = some (.int .i64 ul) := HK.blk_cell hu4 5
    have y6 : w4.cell? ⟨w.heap.size + 1, 6, none⟩ = some (.slice va vn vc) := HK.blk_cell hu4 6
    have y7 : w4.cell? ⟨w.heap.size + 1, 7, none⟩ = some (.slice na nn nc) := HK.blk_cell hu4 7
    clear p0 p1 p2 p3 p4 p5 p6 p7 hr4 ht4 hu4 hB04 hrp hB4
    cases R with
    | none =>
      have hz := HRP4.out
      unfold RetR at hz
      simp only [Option.getD_none, Option.isSome_none, zeroT, PT.arr, PT.rule, PT.o, PO.nil, SL.nil, SL.v, PT.subs] at hz
      have HZZ := Lib.hid hz
      clear hz
      go_upto_region 4 with (
        go_at_call 46
        refine HZZ.out.mono ?_
        rintro e w5 ⟨⟨qa, qn, qc⟩, rfl, hq5, hB5⟩)
      obtain ⟨w6, hw6⟩ : ∃ w6, w6 = w5.alloc (.cells #[.string ⟨#[]⟩, .int .u8 0, .string ⟨#[]⟩, .slice none 0 0, .slice none 0 0, .int .i64 0, .slice qa qn qc, .slice none 0 0] 30) := ⟨_, rfl⟩
      rw [← hw6]
      have hB6 : Below w4.heap.size w4 w6 := by rw [hw6]; exact hB5.alloc hB5.size _
      have hr6 := (hB6.block _ (HK.blk_lt HR4.out)).trans HR4.out
      have z0 : w6.cell? ⟨w.heap.size + 2, 0, none⟩ = some (.string ⟨#[]⟩) := HK.blk_cell hr6 0
      have z1 : w6.cell? ⟨w.heap.size + 2, 1, none⟩ = some (.int .u8 0) := HK.blk_cell hr6 1
      have z2 : w6.cell? ⟨w.heap.size + 2, 2, none⟩ = some (.string ⟨#[]⟩) := HK.blk_cell hr6 2
      have z3 : w6.cell? ⟨w.heap.size + 2, 3, none⟩ = some (.slice none 0 0) := HK.blk_cell hr6 3
      have z4 : w6.cell? ⟨w.heap.size + 2, 4, none⟩ = some (.slice none 0 0) := HK.blk_cell hr6 4
      have z5 : w6.cell? ⟨w.heap.size + 2, 5, none⟩ = some (.int .i64 0) := HK.blk_cell hr6 5
      have z6 : w6.cell? ⟨w.heap.size + 2, 6, none⟩ = some (.slice none 0 0) := HK.blk_cell hr6 6
      have z7 : w6.cell? ⟨w.heap.size + 2, 7, none⟩ = some (.slice none 0 0) := HK.blk_cell hr6 7
      have zf := fun i => HK.blk_frozen hr6 i
      have HR6 := Lib.hid hr6
      have HB6 := Lib.hid hB6
      clear hr6 hB6 hw6 hq5 hB5
      go_wp2_with (fail)
      have hre := E6.out (by trivial) (by trivial)
      rw [hre]
      refine bodyPost_ret (results_row_tmp (p := 6) (u := 7) (by kernel_rfl) _ _ (w.heap.size + 1 + 1) 30 _ (0, 0) _ (.int .i64 6) rfl rfl (set8 (b := w.heap.size + 1 + 1) HR6.out _ _ _ _ _ _ _ _) Try.underlying30 rfl (by kernel_rfl)) rfl ?_
      have hF8 := set8_frm w6 (w.heap.size + 1 + 1) (.string ⟨#[]⟩) (.int .u8 0) (.string ⟨#[]⟩) (.slice none 0 0) (.slice none 0 0) (.int .i64 0) (.slice none 0 0) (.slice none 0 0)
      have hBW := below_then HB04.out HB6.out
      have hsz := hBW.size
      exact ⟨SL.nil, rfl, .nil _ _, hBW.trans (hF8.below (B := w.heap.size) (by omega) (fun b e => by omega))⟩
    | some q =>
      obtain ⟨hq10, hqp⟩ := HQ1.out (by trivial) q rfl
      obtain ⟨mq, hmq⟩ : ∃ mq, mq = measT q := ⟨_, rfl⟩
      have hcq := copy_all 10000 (by omega) q hqp hq10
      have hmsq := fun (W : World) (sv : SL) (h : IsPs W.heap.size W sv q.subs) => measurable_call W q sv h hq10
      unfold RetMs at hmsq
      rw [← hmq] at hmsq
      have HMQ := Lib.hid hmq
      have hz := HRP4.out
      unfold RetR at hz
      simp only [Option.getD_some, Option.isSome_some] at hz
      unfold CopyOk RetP at hcq
      clear hmq
      obtain ⟨vq, ⟨vo, vn2, ⟨ja, jn, jc⟩, ⟨la, ln, lc⟩, vl, ⟨pa, pn, pc⟩⟩, vs⟩ := q
      simp only [PT.arr, PT.rule, PT.o, PT.subs, SL.v] at hz hmsq hcq
      have HZZ := Lib.hid hz
      have HMS := Lib.hid hmsq
      have HCP := Lib.hid hcq
      clear hz hmsq hcq hqp HRP4
      go_upto_region 6 with (
        go_at_call 46
        refine HZZ.out.mono ?_
        rintro e w5 ⟨⟨qa, qn, qc⟩, rfl, hq5, hB5⟩)
      obtain ⟨w6, hw6⟩ : ∃ w6, w6 = w5.alloc (.cells #[.string vq, .int .u8 vo, .string vn2, .slice ja jn jc, .slice la ln lc, .int .i64 vl, .slice qa qn qc, .slice pa pn pc] 30) := ⟨_, rfl⟩
      rw [← hw6]
      have hB6 : Below w4.heap.size w4 w6 := by rw [hw6]; exact hB5.alloc hB5.size _
      have hq6 : IsPs w6.heap.size w6 ⟨qa, qn, qc⟩ vs := by
        rw [hw6]
        exact (hq5.ps (n0 := w5.heap.size) (fun b hb => by have := hB5.size; rcases hb with hb | hb <;> omega)).up ((Below.refl _ w5).alloc (Nat.le_refl _) _)
      have hbq : w6.heap[w5.heap.size]? = some (.cells #[.string vq, .int .u8 vo, .string vn2, .slice ja jn jc, .slice la ln lc, .int .i64 vl, .slice qa qn qc, .slice pa pn pc] 30 (0, 0)) := by rw [hw6]; exact HK.blk_new _ _
      have q0 : w6.cell? ⟨w5.heap.size, 0, none⟩ = some (.string vq) := HK.blk_cell hbq 0
      have q1 : w6.cell? ⟨w5.heap.size, 1, none⟩ = some (.int .u8 vo) := HK.blk_cell hbq 1
      have q2 : w6.cell? ⟨w5.heap.size, 2, none⟩ = some (.string vn2) := HK.blk_cell hbq 2
      have q3 : w6.cell? ⟨w5.heap.size, 3, none⟩ = some (.slice ja jn jc) := HK.blk_cell hbq 3
      have q4 : w6.cell? ⟨w5.heap.size, 4, none⟩ = some (.slice la ln lc) := HK.blk_cell hbq 4
      have q5 : w6.cell? ⟨w5.heap.size, 5, none⟩ = some (.int .i64 vl) := HK.blk_cell hbq 5
      have q6 : w6.cell? ⟨w5.heap.size, 6, none⟩ = some (.slice qa qn qc) := HK.blk_cell hbq 6
      have q7 : w6.cell? ⟨w5.heap.size, 7, none⟩ = some (.slice pa pn pc) := HK.blk_cell hbq 7
      have hm6 := HMS.out w6 ⟨qa, qn, qc⟩ hq6
      have HM6 := Lib.hid hm6
      have HBQ := Lib.hid hbq
      have HQ6 := Lib.hid hq6
      have HB6 := Lib.hid hB6
      clear hm6 hbq hq6 hB6 hw6 hq5 hB5 x0 x1 x2 x3 x4 x5 x6 x7 y0 y1 y2 y3 y4 y5 y6 y7
      cases mq with
      | false =>
        go_upto_region 7 with (
          go_at_call 45
          refine HM6.out.mono ?_
          rintro e w7 ⟨rfl, hB7⟩)
        have hr7 := (hB7.block _ (by have := HB6.out.size; have := HK.blk_lt HR4.out; omega)).trans ((HB6.out.block _ (HK.blk_lt HR4.out)).trans HR4.out)
        have z0 : w7.cell? ⟨w.heap.size + 2, 0, none⟩ = some (.string ⟨#[]⟩) := HK.blk_cell hr7 0
        have z1 : w7.cell? ⟨w.heap.size + 2, 1, none⟩ = some (.int .u8 0) := HK.blk_cell hr7 1
        have z2 : w7.cell? ⟨w.heap.size + 2, 2, none⟩ = some (.string ⟨#[]⟩) := HK.blk_cell hr7 2
        have z3 : w7.cell? ⟨w.heap.size + 2, 3, none⟩ = some (.slice none 0 0) := HK.blk_cell hr7 3
        have z4 : w7.cell? ⟨w.heap.size + 2, 4, none⟩ = some (.slice none 0 0) := HK.blk_cell hr7 4
        have z5 : w7.cell? ⟨w.heap.size + 2, 5, none⟩ = some (.int .i64 0) := HK.blk_cell hr7 5
        have z6 : w7.cell? ⟨w.heap.size + 2, 6, none⟩ = some (.slice none 0 0) := HK.blk_cell hr7 6
        have z7 : w7.cell? ⟨w.heap.size + 2, 7, none⟩ = some (.slice none 0 0) := HK.blk_cell hr7 7
        have zf := fun i => HK.blk_frozen hr7 i
        have HR7 := Lib.hid hr7
        have HB7 := Lib.hid hB7
        clear hr7 hB7
        go_wp2_with (fail)
        have hre := E5.out (by trivial) _ rfl HMQ.out.symm
        rw [hre]
        refine bodyPost_ret (results_row_tmp (p := 6) (u := 7) (by kernel_rfl) _ _ (w.heap.size + 1 + 1) 30 _ (0, 0) _ (.int .i64 5) rfl rfl (set8 (b := w.heap.size + 1 + 1) HR7.out _ _ _ _ _ _ _ _) Try.underlying30 rfl (by kernel_rfl)) rfl ?_
        have hF8 := set8_frm w7 (w.heap.size + 1 + 1) (.string ⟨#[]⟩) (.int .u8 0) (.string ⟨#[]⟩) (.slice none 0 0) (.slice none 0 0) (.int .i64 0) (.slice none 0 0) (.slice none 0 0)
        have hBW := below_then HB04.out (below_then HB6.out HB7.out)
        have hsz := hBW.size
        exact ⟨SL.nil, rfl, .nil _ _, hBW.trans (hF8.below (B := w.heap.size) (by omega) (fun b e => by omega))⟩
      | true =>
        go_upto_region 8 with (
          go_at_call 45
          refine HM6.out.mono ?_
          rintro e w7 ⟨rfl, hB7⟩)
        have hr7 := (hB7.block _ (by have := HB6.out.size; have := HK.blk_lt HR4.out; omega)).trans ((HB6.out.block _ (HK.blk_lt HR4.out)).trans HR4.out)
        have hbq7 := (hB7.block _ (HK.blk_lt HBQ.out)).trans HBQ.out
        have s0 : w7.cell? ⟨w5.heap.size, 0, none⟩ = some (.string vq) := HK.blk_cell hbq7 0
        have s1 : w7.cell? ⟨w5.heap.size, 1, none⟩ = some (.int .u8 vo) := HK.blk_cell hbq7 1
        have s2 : w7.cell? ⟨w5.heap.size, 2, none⟩ = some (.string vn2) := HK.blk_cell hbq7 2
        have s3 : w7.cell? ⟨w5.heap.size, 3, none⟩ = some (.slice ja jn jc) := HK.blk_cell hbq7 3
        have s4 : w7.cell? ⟨w5.heap.size, 4, none⟩ = some (.slice la ln lc) := HK.blk_cell hbq7 4
        have s5 : w7.cell? ⟨w5.heap.size, 5, none⟩ = some (.int .i64 vl) := HK.blk_cell hbq7 5
        have s6 : w7.cell? ⟨w5.heap.size, 6, none⟩ = some (.slice qa qn qc) := HK.blk_cell hbq7 6
        have s7 : w7.cell? ⟨w5.heap.size, 7, none⟩ = some (.slice pa pn pc) := HK.blk_cell hbq7 7
        have hc7 := HCP.out ⟨qa, qn, qc⟩ w7 (HQ6.out.up hB7)
        have HC7 := Lib.hid hc7
        have HR7 := Lib.hid hr7
        have HB7 := Lib.hid hB7
        clear hr7 hB7 hc7 hbq7 q0 q1 q2 q3 q4 q5 q6 q7
        go_wp2_with (
          go_at_call 47
          refine HC7.out.mono ?_
          rintro e w8 ⟨⟨ca, cn, cc⟩, rfl, hq8, hB8⟩
          have hr8 := (hB8.block _ (HK.blk_lt HR7.out)).trans HR7.out
          have z0 : w8.cell? ⟨w.heap.size + 2, 0, none⟩ = some (.string ⟨#[]⟩) := HK.blk_cell hr8 0
          have z1 : w8.cell? ⟨w.heap.size + 2, 1, none⟩ = some (.int .u8 0) := HK.blk_cell hr8 1
          have z2 : w8.cell? ⟨w.heap.size + 2, 2, none⟩ = some (.string ⟨#[]⟩) := HK.blk_cell hr8 2
          have z3 : w8.cell? ⟨w.heap.size + 2, 3, none⟩ = some (.slice none 0 0) := HK.blk_cell hr8 3
          have z4 : w8.cell? ⟨w.heap.size + 2, 4, none⟩ = some (.slice none 0 0) := HK.blk_cell hr8 4
          have z5 : w8.cell? ⟨w.heap.size + 2, 5, none⟩ = some (.int .i64 0) := HK.blk_cell hr8 5
          have z6 : w8.cell? ⟨w.heap.size + 2, 6, none⟩ = some (.slice none 0 0) := HK.blk_cell hr8 6
          have z7 : w8.cell? ⟨w.heap.size + 2, 7, none⟩ = some (.slice none 0 0) := HK.blk_cell hr8 7
          have zf := fun i => HK.blk_frozen hr8 i
          have HR8 := Lib.hid hr8
          have HB8 := Lib.hid hB8
          have HQ8 := Lib.hid hq8
          clear hr8 hB8 hq8)
        have hre := E0.out (by trivial) _ rfl HMQ.out.symm
        rw [hre]
        refine bodyPost_ret (results_row_tmp (p := 6) (u := 7) (by kernel_rfl) _ _ (w.heap.size + 1 + 1) 30 _ (0, 0) _ (.int .i64 0) rfl rfl (set8 (b := w.heap.size + 1 + 1) HR8.out _ _ _ _ _ _ _ _) Try.underlying30 rfl (by kernel_rfl)) rfl ?_
        have hF8 := set8_frm w8 (w.heap.size + 1 + 1) (.string vq) (.int .u8 vo) (.string vn2) (.slice ja jn jc) (.slice la ln lc) (.int .i64 vl) (.slice ca cn cc) (.slice pa pn pc)
        have hBW := below_then HB04.out (below_then HB6.out (below_then HB7.out HB8.out))
        have hsz := hBW.size
        have hz8 := hF8.size
        have hlr := HK.blk_lt HR7.out
        refine ⟨⟨ca, cn, cc⟩, rfl, ?_, hBW.trans (hF8.below (B := w.heap.size) (by omega) (fun b e => by omega))⟩
        have hsz7 := (below_then HB04.out (below_then HB6.out HB7.out)).size
        exact HQ8.out.turn (T := fun k => w.heap.size ≤ k ∧ k < _) fun b hb => ⟨⟨by omega, Nat.lt_of_lt_of_le hb.2 hz8⟩, hF8.block b hb.2 (by omega)⟩
theorem with_call (w : World) (t u : PT) (sv su s : SL) (is : List Int) (hs : IsPs w.heap.size w sv t.subs) (hu : IsPs w.heap.size w su u.subs) (hi : IsI w s is) (hl : is.length ≤ 20000) (hzt : sizeT t ≤ 10000) (hzu : sizeT u ≤ 9000) (hpt : plainT t) (hpu : plainT u) :
    Calls Try.prog 24 #[.agg (t.arr sv), s.v, .agg (u.arr su)] w (RetW w (withR t u is)) :=
  (with_new w t u sv su s is hs hu hi hl hzt hzu hpt hpu).mono fun e w' ⟨v, he, hq, hb⟩ => ⟨v, he, hq.ps fun b hb => hb.2, hb⟩
end Go.Proofs.Ytfebcpmbkljaoaa
