/- The walk of look, at measurable proofs. -/
import Derived.Test.YtfebcpmbkljaoaaMeaK
import Derived.Deep.OwnRows
namespace Go.Proofs.Ytfebcpmbkljaoaa
open Go.RowKit Go.HR Go.Deep
set_option linter.unusedVariables false
set_option linter.unusedSimpArgs false
set_option linter.unusedSectionVars false
theorem meas_size {t : PT} (h : measT t = true) : sizeT t ≤ 300 := by
  simp only [measT, Bool.and_eq_true, decide_eq_true_eq] at h; exact h.1
theorem meas_ok {t : PT} (h : measT t = true) {d : StepD} (hd : d ∈ stepsT [] whole t) : okD d = true := by
  simp only [measT, Bool.and_eq_true, List.all_eq_true] at h; exact h.2 d hd
theorem okD_pl {d : StepD} (h : okD d = true) : d.pl.length ≤ 40 := by
  simp only [okD, Bool.and_eq_true, decide_eq_true_eq] at h; exact h.1.1
theorem info4 : (Try.prog.info? 4).map (fun i => (i.zero, i.size, i.bytes)) = some (some (.bool false), 1, 1) := by kernel_rfl
theorem bools_make (N : Nat) (hN : N ≤ 20000) (w : World) : (Instr.makeSlice 96 (.int .i64 (N : Int)) (.int .i64 (N : Int))).run Try.prog w = .ok (.slice (some ⟨w.heap.size, 0, none⟩) N N) (w.alloc (.cells (madeCells #[.bool false] N) 4)) :=
  run_make_row' 96 4 (.bool false) 1 Try.underlying96 info4 rfl .i64 .i64 N (by omega) (by omega) w
theorem made_bools (n : Nat) : madeCells #[.bool false] n = Array.replicate n (.bool false) := by
  apply Array.ext'
  simp only [madeCells, Array.toList_map, Array.toList_range, Array.toList_replicate]
  rw [List.eq_replicate_iff]
  refine ⟨by simp, fun b hb => ?_⟩
  obtain ⟨i, hi, rfl⟩ := List.mem_map.1 hb
  simp [Nat.mod_one]
theorem steps_len {t : PT} {xs : List StepV} (h : xs.map (·.d) = stepsT [] whole t) : xs.length = sizeT t := by
  have := congrArg List.length h
  rwa [List.length_map, steps_size] at this
theorem steps_mono {t : PT} {xs : List StepV} (h : xs.map (·.d) = stepsT [] whole t) (u : List Int) : ∀ (i j : Nat) x y, i ≤ j → xs[i]? = some x → xs[j]? = some y → ordI (plI y) u < 0 → ordI (plI x) u < 0 := by
  intro i j x y hij hx hy hlt
  by_cases e : i = j
  · subst e; rw [hx] at hy; cases hy; exact hlt
  · have hp := steps_sorted [] whole t
    rw [← h, List.pairwise_map] at hp
    obtain ⟨h1, rfl⟩ := List.getElem?_eq_some_iff.1 hx
    obtain ⟨h2, rfl⟩ := List.getElem?_eq_some_iff.1 hy
    exact ordI_trans (List.pairwise_iff_getElem.1 hp i j h1 h2 (by omega)) hlt
theorem steps_inj {t : PT} {xs : List StepV} (h : xs.map (·.d) = stepsT [] whole t) {i j : Nat} {x y : StepV} (hx : xs[i]? = some x) (hy : xs[j]? = some y) (he : plI x = plI y) : i = j := by
  have hp := steps_sorted [] whole t
  rw [← h, List.pairwise_map] at hp
  obtain ⟨h1, rfl⟩ := List.getElem?_eq_some_iff.1 hx
  obtain ⟨h2, rfl⟩ := List.getElem?_eq_some_iff.1 hy
  rcases Nat.lt_trichotomy i j with hij | hij | hij
  · have := List.pairwise_iff_getElem.1 hp i j h1 h2 hij
    change ordI (plI _) (plI _) < 0 at this
    rw [he] at this; exact absurd this (ordI_irrefl _)
  · exact hij
  · have := List.pairwise_iff_getElem.1 hp j i h2 h1 hij
    change ordI (plI _) (plI _) < 0 at this
    rw [he] at this; exact absurd this (ordI_irrefl _)
theorem found_yes {t : PT} {xs : List StepV} (h : xs.map (·.d) = stepsT [] whole t) {u : List Int} {i : Nat} {ok : Bool} (hF : Found xs u i ok) (hex : ∃ x ∈ xs, plI x = u) : ok = true ∧ ∃ x, xs[i]? = some x ∧ plI x = u := by
  obtain ⟨y, hy, hyu⟩ := hex
  obtain ⟨j, hj⟩ := List.getElem?_of_mem hy
  have h0 : ordI (plI y) u = 0 := (ordI_zero _ _).2 hyu
  have hij : i ≤ j := by
    apply Nat.le_of_not_lt; intro hlt
    have := hF.lo j y hlt hj; omega
  have hjl := (List.getElem?_eq_some_iff.1 hj).1
  obtain ⟨x, hx⟩ : ∃ x, xs[i]? = some x := ⟨_, List.getElem?_eq_getElem (by omega)⟩
  have hxu : plI x = u := by
    by_cases e : i = j
    · subst e; rw [hx] at hj; cases hj; exact hyu
    · have hp := steps_sorted [] whole t
      rw [← h, List.pairwise_map] at hp
      obtain ⟨h1, e1⟩ := List.getElem?_eq_some_iff.1 hx
      obtain ⟨h2, e2⟩ := List.getElem?_eq_some_iff.1 hj
      have := List.pairwise_iff_getElem.1 hp i j h1 h2 (by omega)
      change ordI (plI _) (plI _) < 0 at this
      rw [e1, e2, hyu] at this
      have := hF.hi i x (Nat.le_refl _) hx
      omega
  exact ⟨hF.ok.2 ⟨x, hx, hxu⟩, x, hx, hxu⟩
theorem found_no {xs : List StepV} {u : List Int} {i : Nat} {ok : Bool} (hF : Found xs u i ok) (hex : ¬ ∃ x ∈ xs, plI x = u) : ok = false := by
  cases hok : ok with
  | false => rfl
  | true =>
    obtain ⟨x, hx, hxu⟩ := hF.ok.1 hok
    exact absurd ⟨x, List.mem_of_getElem? hx, hxu⟩ hex
/-- How far the scan has come. -/
def Scn (ws : List (List Int)) (xs gs : List StepV) (c j : Nat) : Prop :=
  scanS (badD ws) (xs.map (·.d)) = (gs.map (·.d) ++ (scanS (badD ws) ((xs.drop j).map (·.d))).1, c + (scanS (badD ws) ((xs.drop j).map (·.d))).2)
theorem Scn.goal {ws : List (List Int)} {xs gs : List StepV} {c j j' : Nat} {x : StepV} (h : Scn ws xs gs c j) (hx : xs[j]? = some x) (hg : (badD ws x.d || decide (x.d.t.rule = ⟨#[63]⟩)) = true)
    (hd : (xs.drop (j + 1)).dropWhile (fun y => inI (plI y) (plI x)) = (xs.drop j').dropWhile (fun y => inI (plI y) (plI x))) (hs : j' = xs.length ∨ ∃ y, xs[j']? = some y ∧ inI (plI y) (plI x) = false) : Scn ws xs (gs ++ [x]) c j' := by
  obtain ⟨hl, rfl⟩ := List.getElem?_eq_some_iff.1 hx
  unfold Scn at h ⊢
  rw [h, List.drop_eq_getElem_cons hl, List.map_cons, scanS_on hg]
  have e1 : ((xs.drop (j + 1)).map (·.d)).dropWhile (fun e => inI (plD e) (plD xs[j].d)) = (xs.drop j').map (·.d) := by
    rw [List.dropWhile_map]
    have e2 : ((fun e => inI (plD e) (plD xs[j].d)) ∘ fun x : StepV => x.d) = fun y : StepV => inI (plI y) (plI xs[j]) := rfl
    rw [e2, hd]
    rcases hs with rfl | ⟨y, hy, hf⟩
    · simp
    · obtain ⟨hl', rfl⟩ := List.getElem?_eq_some_iff.1 hy
      rw [List.drop_eq_getElem_cons hl', List.dropWhile_cons_of_neg (by rw [hf]; decide)]
  rw [e1]
  simp
theorem Scn.count {ws : List (List Int)} {xs gs : List StepV} {c j : Nat} {x : StepV} (h : Scn ws xs gs c j) (hx : xs[j]? = some x) (hg : (badD ws x.d || decide (x.d.t.rule = ⟨#[63]⟩)) = false) : Scn ws xs gs (c + 1) (j + 1) := by
  obtain ⟨hl, rfl⟩ := List.getElem?_eq_some_iff.1 hx
  unfold Scn at h ⊢
  rw [h, List.drop_eq_getElem_cons hl, List.map_cons, scanS_off hg]
  simp only [Prod.mk.injEq, true_and]; omega
theorem Scn.done {ws : List (List Int)} {xs gs : List StepV} {c : Nat} (h : Scn ws xs gs c xs.length) : (scanS (badD ws) (xs.map (·.d))).1 = gs.map (·.d) ∧ (scanS (badD ws) (xs.map (·.d))).2 = c := by
  unfold Scn at h
  rw [h]; simp [scanS_nil]
theorem dropWhile_step {xs : List StepV} {j : Nat} {y : StepV} {p : StepV → Bool} (hy : xs[j]? = some y) (hp : p y = true) : (xs.drop j).dropWhile p = (xs.drop (j + 1)).dropWhile p := by
  obtain ⟨hl, rfl⟩ := List.getElem?_eq_some_iff.1 hy
  rw [List.drop_eq_getElem_cons hl, List.dropWhile_cons_of_pos hp]
theorem within_quiet {W : World} {q : Nat} {s t : SL} {xs ys : List Int} (hs : IsI W s xs) (ht : IsI W t ys) (hl : xs.length ≤ 20000) (hl2 : ys.length ≤ 20000) :
    Calls Try.prog 59 #[s.v, t.v] (W.drewN q) fun e w'' => e = .returned (.bool (inI xs ys)) ∧ ∃ m, w'' = W.drewN m :=
  (within_call (W.drewN q) s t xs ys (hs.below ⟨rfl, rfl, rfl, Nat.le_refl _, fun _ _ => rfl⟩) (ht.below ⟨rfl, rfl, rfl, Nat.le_refl _, fun _ _ => rfl⟩) hl hl2).mono fun _ _ ⟨he, d, hd⟩ => ⟨he, q + d, by rw [hd]; simp⟩
theorem LkB.alloc {w2 W : World} {xs gs : List StepV} {v : Value} (h : LkB w2 xs gs v W) (o : Obj) : LkB w2 xs gs v (W.alloc o) := ⟨h.hB.alloc h.hB.size o, h.row.alloc o, h.mem⟩
theorem row_mono {w : World} {base base' : Nat} {e : TypeId} {size : Nat} {v : Value} {n : Nat} {xs : List Value} (h : w.ownsRow base e size v n xs) (hb : base' ≤ base) : w.ownsRow base' e size v n xs := by
  refine ⟨h.1, ?_⟩
  rcases h.2 with h0 | ⟨g, cap, cur, hv, hg, r⟩
  · exact .inl h0
  · exact .inr ⟨g, cap, cur, hv, Nat.le_trans hb hg, r⟩
theorem plI_len (x : StepV) : (plI x).length = x.d.pl.length := by simp [plI]
theorem LkB.drewN {w2 W : World} {xs gs : List StepV} {v : Value} (h : LkB w2 xs gs v W) (d : Nat) : LkB w2 xs gs v (W.drewN d) := ⟨below_drewN h.hB d, h.row, h.mem⟩
theorem cells10s (x : StepV) : ∃ pa pn pc op name aa an ac fa fn fc label ea en ec ma mn mc, x.cells = #[.slice pa pn pc, .int .i64 (x.d.wt : Nat), .string x.d.t.rule, .int .u8 op, .string name, .slice aa an ac, .slice fa fn fc, .int .i64 label, .slice ea en ec, .slice ma mn mc] ∧ x.pv.v = .slice pa pn pc := ⟨_, _, _, _, _, _, _, _, _, _, _, _, _, _, _, _, _, _, rfl, rfl⟩
theorem LkB.on {w2 W w3 : World} {xs gs : List StepV} {v v' : Value} {x : StepV} {o1 o2 : Obj} (h : LkB w2 xs gs v W) (hx : x ∈ xs) (hgrow : ((W.alloc o1).alloc o2).grownBy w3 v.ownBlock)
    (hown : w3.ownsRow w2.heap.size 39 2 v' (gs.length + 1) (flatG gs ++ [x.pv.v, .int .i64 (x.d.wt : Nat)])) : LkB w2 xs (gs ++ [x]) v' w3 ∧ w3.heap[W.heap.size]? = some o1 := by
  have hf := (((HK.Frm.refl (fun j => v.ownBlock = some j) W).alloc o1).alloc o2).grown hgrow (fun j e => .inl e)
  refine ⟨⟨?_, by rw [List.length_append, flatG_on]; exact hown, fun y hy => ?_⟩, ?_⟩
  · have hb := (Below.refl w2.heap.size W).alloc h.hB.size o1
    have hb2 := hb.alloc (by have := h.hB.size; simp; omega) o2
    exact h.hB.trans (hb2.grown hgrow (by have := h.hB.size; simp; omega) (fun k e => (h.row.lt k e).1))
  · rcases List.mem_append.1 hy with hy | hy
    · exact h.mem y hy
    · rw [List.mem_singleton.1 hy]; exact hx
  · refine (hgrow.block W.heap.size (by simp only [World.size_alloc]; omega) (fun e => ?_)).trans ((Below.heap_alloc _ _ _ (by simp)).trans (World.alloc_heap_new W o1))
    have := (h.row.lt _ e.symm).2
    omega
def RetYes (w : World) (xs : List StepV) (u : List Int) (e : Ending) (w' : World) : Prop := ∃ (i : Nat) (x : StepV), e = .returned (.tuple #[.int .i64 (i : Nat), .bool true]) ∧ xs[i]? = some x ∧ plI x = u ∧ Below w.heap.size w w'
def RetNo (w : World) (e : Ending) (w' : World) : Prop := ∃ (i : Nat), e = .returned (.tuple #[.int .i64 (i : Nat), .bool false]) ∧ Below w.heap.size w w'
set_option maxRecDepth 100000 in
set_option maxHeartbeats 8000000 in
theorem look_ok (w : World) (t : PT) (sv s : SL) (ws : List (List Int)) (hs : IsPs w.heap.size w sv t.subs) (hm : measT t = true) (hw : IsW w s ws) (hwl : ws.length ≤ 20000) (hwu : ∀ u ∈ ws, u.length ≤ 20000) : Calls Try.prog 40 #[.agg (t.arr sv), s.v] w (RetLook w t ws) := by
  have hsz := meas_size hm
  have hM := fun (W : World) (hb : Below w.heap.size w W) => measurable_call W t sv (hs.up hb) (by omega)
  have hS := fun (W : World) => callsIn_wide.1 (steps_in W t sv 4)
  have hC := fun (W : World) (Bp : Nat) (hb : Below w.heap.size w W) (hB : W.heap[Bp]? = some (.cells (t.arr sv) 30 (0, 0))) => collect_call W t sv Bp w.heap.size hB hb.size (hs.same fun j hj => hb.block j hj) (by omega)
  obtain ⟨a0, a1, a2, a3, a4, a5, a6, a7, hA⟩ : ∃ a0 a1 a2 a3 a4 a5 a6 a7, t.arr sv = #[a0, a1, a2, a3, a4, a5, a6, a7] := ⟨_, _, _, _, _, _, _, _, rfl⟩
  rw [hA] at hM hS hC ⊢
  have hb := (Below.refl _ w).alloc (Nat.le_refl _) (.cells #[a0, a1, a2, a3, a4, a5, a6, a7] 30)
  unfold RetMs at hM
  rw [hm] at hM
  obtain ⟨sa, m, sc⟩ := s
  simp only [SL.v]
  have HM := Lib.hid hM
  have HS := Lib.hid hS
  have HC := Lib.hid hC
  have HB := Lib.hid hb
  have HW := Lib.hid hw
  have HMT := Lib.hid hm
  have HWU := Lib.hid hwu
  have c := fun (W : World) (hW : Below (w.alloc (.cells #[a0, a1, a2, a3, a4, a5, a6, a7] 30)).heap.size (w.alloc (.cells #[a0, a1, a2, a3, a4, a5, a6, a7] 30)) W) (i : Nat) => HK.blk_cell ((hW.block w.heap.size (by simp)).trans (HK.blk_new w (.cells #[a0, a1, a2, a3, a4, a5, a6, a7] 30))) i
  have CC := Lib.hid c
  clear hM hS hC hb hA hs hw hm hwu c
  go_enter Try.func40, Try.ntmps40
  go_wp2_with (
    first
    | (go_at_call 45; (refine (HM.out _ HB.out).mono ?_; rintro e wa ⟨rfl, hB2⟩; have c0 := CC.out wa hB2 0; have c1 := CC.out wa hB2 1; have c2 := CC.out wa hB2 2; have c3 := CC.out wa hB2 3; have c4 := CC.out wa hB2 4; have c5 := CC.out wa hB2 5; have c6 := CC.out wa hB2 6; have c7 := CC.out wa hB2 7; have hB3 := HB.out.trans (hB2.mono (by simp)); have HB3 := Lib.hid hB3; clear hB2 hB3))
    | (go_at_call 55; (refine (HS.out _).mono ?_; rintro e wb ⟨rfl, rfl⟩))
    | (go_at_call 54; (refine (HC.out _ _ (HB3.out.alloc HB3.out.size _) (HK.blk_new _ _)).mono ?_; rintro e w1 ⟨v, xs, rfl, h1, h2, h3, h4⟩; obtain ⟨g, cap, rfl, hall⟩ := allR_of h3 h4 (by intro e; have := steps_len h2; rw [e, List.length_nil] at this; have := sizeT_pos t; omega); have hn3 : xs.length ≤ 300 := (by rw [steps_len h2]; exact hsz); obtain ⟨n, hn⟩ : ∃ n, n = xs.length := ⟨_, rfl⟩; rw [← hn] at hn3 ⊢; have hmk := bools_make n (by omega); have HN := Lib.hid hn; have H2 := Lib.hid h2; have HALL := Lib.hid hall; have H1 := Lib.hid ((HB3.out.alloc HB3.out.size (.cells #[a0, a1, a2, a3, a4, a5, a6, a7] 30)).trans (h1.mono (by have := HB3.out.size; (try simp); omega))); clear hn h1 h2 h3 h4 hall)))
  have hAL := HALL.out
  have hA0 := LkA.start w1 xs ws (.cells (madeCells #[.bool false] n) 4) (by rw [made_bools, HN.out])
  have hw1 : Below w.heap.size w w1 := H1.out
  have HA0 := Lib.hid hA0
  have HAL := Lib.hid hAL
  have HW1 := Lib.hid hw1
  clear hA0 hAL hw1 hmk c0 c1 c2 c3 c4 c5 c6 c7
  go_loopw [29] (fun i wr => ∃ k : Nat, k ≤ m ∧ i = .int .i64 k ∧ LkA w1 xs ws k wr) (fun i _ => m - (intOf i).toNat)
  case atStart => exact ⟨0, by omega, rfl, HA0.out⟩
  case round =>
    obtain ⟨k, hkm, rfl, hA⟩ := hrel
    have HA := Lib.hid hA
    clear hA
    have hm' : m = ws.length := HW.out.1
    have HMW := Lib.hid hm'
    clear hm'
    have hwl' : m ≤ 20000 := by rw [HMW.out]; exact hwl
    by_cases hk : k < m
    · obtain ⟨u, hu⟩ : ∃ u, ws[k]? = some u := ⟨_, List.getElem?_eq_getElem (by rw [← HMW.out]; exact hk)⟩
      obtain ⟨ga, oa, rfl, sl, hcs⟩ := HW.out.2.resolve_left (fun e => by rw [e] at hu; simp at hu)
      have hBw : Below w.heap.size w wr := HW1.out.trans (HA.out.hB.mono HW1.out.size)
      have hI := (hcs k u hu).2.below hBw
      have hcell : wr.cell? ⟨ga, oa + k, none⟩ = some (sl k).v := (hBw.cell (p := ⟨ga, oa + k, none⟩) (World.block_lt_of_cell? w _ (hcs k u hu).1)).trans (hcs k u hu).1
      obtain ⟨su, hsu⟩ : ∃ su, su = sl k := ⟨_, rfl⟩
      rw [← hsu] at hI hcell
      have hsr := search_call wr g cap xs su u (HALL.out.below HA.out.hB) hI (fun x hx => by have := okD_pl (meas_ok HMT.out (by rw [← H2.out]; exact List.mem_map.2 ⟨x, hx, rfl⟩)); omega) (HWU.out u (List.mem_of_getElem? hu)) (by rw [← HN.out]; omega) (steps_mono H2.out u)
      rw [← HN.out] at hsr
      by_cases hex : ∃ x ∈ xs, plI x = u
      · have hsr2 : Calls Try.prog 56 #[.slice (some ⟨g, 0, none⟩) n cap, su.v, .func (.func 57) #[] #[]] wr (RetYes wr xs u) := hsr.mono fun e w' ⟨i, ok, he, hF, hB⟩ => by
          obtain ⟨h1, x, h2, h3⟩ := found_yes H2.out hF hex
          subst h1; exact ⟨i, x, he, h2, h3, hB⟩
        have HSR := Lib.hid hsr2
        have HU := Lib.hid hu
        clear hcs hI hsr hsr2 hu hBw hsu hex
        have b1 : (0 : Int) ≤ (k : Int) := by omega
        have b2 : (k : Int) < (m : Int) := by omega
        go_wp2_with (go_at_call 56; (refine HSR.out.mono ?_; rintro e wc ⟨i, x, rfl, hix, hxu, hB4⟩; have hA5 := HA.out.below hB4; have f1 := HK.blk_frozen hA5.hb i; have hil := (List.getElem?_eq_some_iff.1 hix).1; rw [← HN.out] at hil; obtain ⟨ob, hob⟩ : ∃ ob, wc.cell? ⟨w1.heap.size, i, none⟩ = some ob := ⟨_, (HK.blk_cell hA5.hb i).trans (Array.getElem?_eq_getElem (by simp only [List.size_toArray, badL_len]; rw [← HN.out]; exact hil))⟩; have b3 : (0 : Int) ≤ (i : Int) := (by omega); have b4 : (i : Int) < (n : Int) := (by omega); have HA5 := Lib.hid hA5; have HXU := Lib.hid (And.intro hix hxu); clear hA5 hix hxu))
        go_roundw
        case rel => exact ⟨k + 1, by omega, by go_num, HA5.out.on HU.out HXU.out.1 HXU.out.2 (fun j y hy hyu => steps_inj H2.out hy HXU.out.1 (hyu.trans HXU.out.2.symm))⟩
        case measure => simp [intOf]; omega
      · have hsr2 : Calls Try.prog 56 #[.slice (some ⟨g, 0, none⟩) n cap, su.v, .func (.func 57) #[] #[]] wr (RetNo wr) := hsr.mono fun e w' ⟨i, ok, he, hF, hB⟩ => by
          have h1 := found_no hF hex
          subst h1; exact ⟨i, he, hB⟩
        have HSR := Lib.hid hsr2
        have HU := Lib.hid hu
        have HEX := Lib.hid hex
        have HBW := Lib.hid hBw
        clear hcs hI hsr hsr2 hu hBw hsu hex
        have b1 : (0 : Int) ≤ (k : Int) := by omega
        have b2 : (k : Int) < (m : Int) := by omega
        go_wp2_with (go_at_call 56; (refine HSR.out.mono ?_; rintro e wc ⟨i, rfl, hB4⟩))
        go_ret3
        refine .miss HMT.out u (List.mem_of_getElem? HU.out) (fun d hd hdu => ?_) rfl (HBW.out.trans (hB4.mono HBW.out.size))
        rw [← H2.out] at hd
        obtain ⟨x, hx, rfl⟩ := List.mem_map.1 hd
        exact HEX.out ⟨x, hx, hdu⟩
    · have hkm2 : k = m := by omega
      subst hkm2
      obtain ⟨w2, hw2⟩ : ∃ w2, w2 = wr := ⟨_, rfl⟩
      subst hw2
      have hA := HA.out
      have hall2 : ∀ u ∈ ws, ∃ d ∈ stepsT [] whole t, plD d = u := by
        intro u hu
        obtain ⟨x, hx, hxu⟩ := hA.all u (by rw [HMW.out, List.take_length]; exact hu)
        exact ⟨x.d, by rw [← H2.out]; exact List.mem_map.2 ⟨x, hx, rfl⟩, hxu⟩
      have hR := HALL.out.below hA.hB
      have hbad := hA.hb
      rw [HMW.out, List.take_length] at hbad
      have hBw : Below w.heap.size w w2 := HW1.out.trans (hA.hB.mono HW1.out.size)
      have HALL2 := Lib.hid hall2
      have HR := Lib.hid hR
      have HBAD := Lib.hid hbad
      have HBW := Lib.hid hBw
      clear hA hall2 hR hbad hBw
      have b1 : ¬ ((k : Int) < (k : Int)) := by omega
      go_wp2_with (fail)
      go_loopw [13, 14, 15] (fun v cnt i wr => ∃ (j c : Nat) (gs : List StepV), j ≤ n ∧ i = .int .i64 j ∧ cnt = .int .i64 c ∧ c ≤ j ∧ gs.length ≤ j ∧ LkB w2 xs gs v wr ∧ Scn ws xs gs c j) (fun _ _ i _ => n - (intOf i).toNat)
      case atStart => exact ⟨0, 0, [], by omega, rfl, rfl, by omega, by simp, ⟨Below.refl _ _, World.ownsRow_nil _ _ _ _, by intro x hx; cases hx⟩, by simp [Scn]⟩
      case round =>
        obtain ⟨j, c, gs, hjn, rfl, rfl, hcj, hgj, hB, hsc⟩ := hrel
        have HLB := Lib.hid hB
        have HSC := Lib.hid hsc
        clear hB hsc
        by_cases hj : j < n
        · obtain ⟨x, hx⟩ : ∃ x, xs[j]? = some x := ⟨_, List.getElem?_eq_getElem (by rw [← HN.out]; exact hj)⟩
          obtain ⟨pa, pn, pc, op, name, aa, an, ac, fa, fn, fc, label, ea, en, ec, ma, mn, mc, hq, hpv⟩ := cells10s x
          have hxin := List.mem_of_getElem? hx
          have hxs : x.d ∈ stepsT [] whole t := by rw [← H2.out]; exact List.mem_map.2 ⟨x, hxin, rfl⟩
          have hpl := okD_pl (meas_ok HMT.out hxs)
          have hAR := HR.out.below HLB.out.hB
          have cf := fun jj u => hAR.c j x hx jj u
          rw [hq] at cf
          have x0 : wr.cell? ⟨g, j * 10, none⟩ = some (.slice pa pn pc) := cf 0 _ rfl
          have x1 : wr.cell? ⟨g, j * 10 + 1, none⟩ = some (.int .i64 (x.d.wt : Nat)) := cf 1 _ rfl
          have x2 : wr.cell? ⟨g, j * 10 + 2, none⟩ = some (.string x.d.t.rule) := cf 2 _ rfl
          have x3 : wr.cell? ⟨g, j * 10 + 3, none⟩ = some (.int .u8 op) := cf 3 _ rfl
          have x4 : wr.cell? ⟨g, j * 10 + 4, none⟩ = some (.string name) := cf 4 _ rfl
          have x5 : wr.cell? ⟨g, j * 10 + 5, none⟩ = some (.slice aa an ac) := cf 5 _ rfl
          have x6 : wr.cell? ⟨g, j * 10 + 6, none⟩ = some (.slice fa fn fc) := cf 6 _ rfl
          have x7 : wr.cell? ⟨g, j * 10 + 7, none⟩ = some (.int .i64 label) := cf 7 _ rfl
          have x8 : wr.cell? ⟨g, j * 10 + 8, none⟩ = some (.slice ea en ec) := cf 8 _ rfl
          have x9 : wr.cell? ⟨g, j * 10 + 9, none⟩ = some (.slice ma mn mc) := cf 9 _ rfl
          obtain ⟨b, hb⟩ : ∃ b, b = badD ws x.d := ⟨_, rfl⟩
          have hbc : ∀ o, (wr.alloc o).cell? ⟨w1.heap.size, j, none⟩ = some (.bool b) := by
            intro o
            rw [HK.blk_cell (HK.blk_alloc ((HLB.out.hB.block _ (HK.blk_lt HBAD.out)).trans HBAD.out) o) j, hb]
            simp only [badL, List.getElem?_toArray, List.getElem?_map, hx]
            rfl
          obtain ⟨wt, hwt⟩ : ∃ wt, wt = x.d.wt := ⟨_, rfl⟩
          obtain ⟨rule, hrule⟩ : ∃ rule, rule = x.d.t.rule := ⟨_, rfl⟩
          rw [← hwt] at x1
          rw [← hrule] at x2
          have HPV := Lib.hid (And.intro hpv hwt)
          have HX := Lib.hid hx
          have HXI := Lib.hid hxin
          have HPL := Lib.hid hpl
          have HRU := Lib.hid hrule
          have HBD := Lib.hid hb
          have b2 : (0 : Int) ≤ (j : Int) := by omega
          have b3 : (j : Int) < (n : Int) := by omega
          clear hq hxin hxs hpl hAR cf hx hpv hwt hrule hb
          cases b with
          | true =>
            obtain ⟨i0, hi, hz0, hz1, hz2⟩ := info_parts info39
            have hrow := HLB.out.row
            go_wp2_with (
              at_builtin
              refine wpList_append_own _ rfl _ _ 32 rfl w2.heap.size 39 i0 (.agg #[.slice none 0 0, .int .i64 0]) 2 32 Try.underlying32 hi hz0 hz1 hz2 rfl (by decide) _ gs.length (flatG gs) rfl ((hrow.alloc _).alloc _) ⟨wr.heap.size + 1, 0, none⟩ 1 1 [.slice pa pn pc, .int .i64 (wt : Nat)] rfl rfl (by have hnw := World.news_of_block (cs := #[.slice pa pn pc, .int .i64 (wt : Nat)]) (t := 39) (fr := (0, 0)) (World.alloc_heap_new (wr.alloc (.cells #[.slice pa pn pc, .int .i64 (wt : Nat), .string rule, .int .u8 op, .string name, .slice aa an ac, .slice fa fn fc, .int .i64 label, .slice ea en ec, .slice ma mn mc] 92)) _); rw [World.size_alloc] at hnw; exact hnw) (by simp [Value.oneCell']) (by simp only [maxLen]; omega) (by omega) (by have := HLB.out.hB.size; simp; omega) ?_
              intro v' w3 hown' hgrow hnil
              obtain ⟨g', cap', rfl⟩ := ownsRow_succ hown'
              have hon := HLB.out.on HXI.out hgrow (by rw [HPV.out.1, ← HPV.out.2]; exact hown')
              have HON := Lib.hid hon
              clear hon hown' hgrow hnil)
            have hBx := HON.out.2
            obtain ⟨Bx, hBe⟩ : ∃ Bx, Bx = wr.heap.size := ⟨_, rfl⟩
            rw [← hBe] at hBx ⊢
            have HBX := Lib.hid hBx
            clear hBx hBe hrow
            go_loopw [15] (fun i wr => ∃ (j' d : Nat), j + 1 ≤ j' ∧ j' ≤ n ∧ i = .int .i64 j' ∧ wr = w3.drewN d ∧ (xs.drop (j + 1)).dropWhile (fun y => inI (plI y) (plI x)) = (xs.drop j').dropWhile (fun y => inI (plI y) (plI x))) (fun i _ => n - (intOf i).toNat)
            case atStart => exact ⟨j + 1, 0, by omega, by omega, by go_num, rfl, rfl⟩
            case round =>
              obtain ⟨j', d, hj1, hj2, rfl, rfl, hdw⟩ := hrel
              have HDW := Lib.hid hdw
              clear hdw
              obtain ⟨w4, hw4⟩ : ∃ w4, w4 = w3.drewN d := ⟨_, rfl⟩
              rw [← hw4]
              have hlb4 : LkB w2 xs (gs ++ [x]) (.slice (some ⟨g', 0, none⟩) (gs.length + 1) cap') w4 := by rw [hw4]; exact HON.out.1.drewN d
              have hc4 : w4.cell? ⟨Bx, 0, none⟩ = some (.slice pa pn pc) := by rw [hw4]; exact HK.blk_cell HBX.out 0
              have HW4 := Lib.hid hw4
              have HL4 := Lib.hid hlb4
              clear hw4 hlb4
              by_cases hj3 : j' < n
              · obtain ⟨y, hy⟩ : ∃ y, xs[j']? = some y := ⟨_, List.getElem?_eq_getElem (by rw [← HN.out]; exact hj3)⟩
                have hR4 := HR.out.below HL4.out.hB
                have hcy : w4.cell? ⟨g, j' * 10, none⟩ = some y.pv.v := hR4.c j' y hy 0 _ rfl
                have hyl : y.d.pl.length ≤ 40 := okD_pl (meas_ok HMT.out (by rw [← H2.out]; exact List.mem_map.2 ⟨y, List.mem_of_getElem? hy, rfl⟩))
                have hwq : ∀ q, Calls Try.prog 59 #[y.pv.v, .slice pa pn pc] (w4.drewN q) fun e w'' => e = .returned (.bool (inI (plI y) (plI x))) ∧ ∃ m, w'' = w4.drewN m := fun q => by
                  rw [← HPV.out.1]
                  exact within_quiet (hR4.p y (List.mem_of_getElem? hy)).isI (hR4.p x HXI.out).isI (by rw [plI_len]; have := hyl; omega) (by rw [plI_len]; have := HPL.out; omega)
                have HY := Lib.hid hy
                have b4 : (0 : Int) ≤ (j' : Int) := by omega
                have b5 : (j' : Int) < (n : Int) := by omega
                have b6 : decide (j' < n) = true := decide_eq_true hj3
                obtain ⟨r, hr'⟩ : ∃ r, r = inI (plI y) (plI x) := ⟨_, rfl⟩
                rw [← hr'] at hwq
                have HQ := Lib.hid hwq
                have HR' := Lib.hid hr'
                clear hy hR4 hyl hwq hr'
                cases r with
                | true =>
                  go_wp2_with (fail)
                  go_quiet ((go_at_call 59; exact HQ.out _))
                  go_wp2_with (fail)
                  go_roundw
                  case rel => exact ⟨j' + 1, d + nq, by omega, by omega, by go_num, by rw [HW4.out]; simp, HDW.out.trans (dropWhile_step HY.out HR'.out.symm)⟩
                  case measure => simp [intOf]; omega
                | false =>
                  go_wp2_with (fail)
                  go_quiet ((go_at_call 59; exact HQ.out _))
                  go_wp2_with (fail)
                  go_roundw
                  case rel => exact ⟨j', c, gs ++ [x], by omega, rfl, rfl, by omega, by simp; omega, HL4.out.drewN nq, HSC.out.goal HX.out (by rw [← HBD.out, ← HRU.out]; simp) HDW.out (.inr ⟨y, HY.out, HR'.out.symm⟩)⟩
                  case measure => simp [intOf]; omega
              · have hjn2 : j' = n := by omega
                subst hjn2
                have b5 : ¬ ((j' : Int) < (j' : Int)) := by omega
                have b6 : decide (j' < j') = false := decide_eq_false hj3
                go_wp2_with (fail)
                go_quiet (fail)
                go_wp2_with (fail)
                go_roundw
                case rel => exact ⟨j', c, gs ++ [x], by omega, rfl, rfl, by omega, by simp; omega, HL4.out.drewN nq, HSC.out.goal HX.out (by rw [← HBD.out, ← HRU.out]; simp) HDW.out (.inl HN.out)⟩
                case measure => simp [intOf]; omega
          | false =>
            by_cases hr : rule = ⟨#[63]⟩
            · subst hr
              obtain ⟨i0, hi, hz0, hz1, hz2⟩ := info_parts info39
              have hrow := HLB.out.row
              go_wp2_with (
                at_builtin
                refine wpList_append_own _ rfl _ _ 32 rfl w2.heap.size 39 i0 (.agg #[.slice none 0 0, .int .i64 0]) 2 32 Try.underlying32 hi hz0 hz1 hz2 rfl (by decide) _ gs.length (flatG gs) rfl ((hrow.alloc _).alloc _) ⟨wr.heap.size + 1, 0, none⟩ 1 1 [.slice pa pn pc, .int .i64 (wt : Nat)] rfl rfl (by have hnw := World.news_of_block (cs := #[.slice pa pn pc, .int .i64 (wt : Nat)]) (t := 39) (fr := (0, 0)) (World.alloc_heap_new (wr.alloc (.cells #[.slice pa pn pc, .int .i64 (wt : Nat), .string ⟨#[63]⟩, .int .u8 op, .string name, .slice aa an ac, .slice fa fn fc, .int .i64 label, .slice ea en ec, .slice ma mn mc] 92)) _); rw [World.size_alloc] at hnw; exact hnw) (by simp [Value.oneCell']) (by simp only [maxLen]; omega) (by omega) (by have := HLB.out.hB.size; simp; omega) ?_
                intro v' w3 hown' hgrow hnil
                obtain ⟨g', cap', rfl⟩ := ownsRow_succ hown'
                have hon := HLB.out.on HXI.out hgrow (by rw [HPV.out.1, ← HPV.out.2]; exact hown')
                have HON := Lib.hid hon
                clear hon hown' hgrow hnil)
              have hBx := HON.out.2
              obtain ⟨Bx, hBe⟩ : ∃ Bx, Bx = wr.heap.size := ⟨_, rfl⟩
              rw [← hBe] at hBx ⊢
              have HBX := Lib.hid hBx
              clear hBx hBe hrow
              go_loopw [15] (fun i wr => ∃ (j' d : Nat), j + 1 ≤ j' ∧ j' ≤ n ∧ i = .int .i64 j' ∧ wr = w3.drewN d ∧ (xs.drop (j + 1)).dropWhile (fun y => inI (plI y) (plI x)) = (xs.drop j').dropWhile (fun y => inI (plI y) (plI x))) (fun i _ => n - (intOf i).toNat)
              case atStart => exact ⟨j + 1, 0, by omega, by omega, by go_num, rfl, rfl⟩
              case round =>
                obtain ⟨j', d, hj1, hj2, rfl, rfl, hdw⟩ := hrel
                have HDW := Lib.hid hdw
                clear hdw
                obtain ⟨w4, hw4⟩ : ∃ w4, w4 = w3.drewN d := ⟨_, rfl⟩
                rw [← hw4]
                have hlb4 : LkB w2 xs (gs ++ [x]) (.slice (some ⟨g', 0, none⟩) (gs.length + 1) cap') w4 := by rw [hw4]; exact HON.out.1.drewN d
                have hc4 : w4.cell? ⟨Bx, 0, none⟩ = some (.slice pa pn pc) := by rw [hw4]; exact HK.blk_cell HBX.out 0
                have HW4 := Lib.hid hw4
                have HL4 := Lib.hid hlb4
                clear hw4 hlb4
                by_cases hj3 : j' < n
                · obtain ⟨y, hy⟩ : ∃ y, xs[j']? = some y := ⟨_, List.getElem?_eq_getElem (by rw [← HN.out]; exact hj3)⟩
                  have hR4 := HR.out.below HL4.out.hB
                  have hcy : w4.cell? ⟨g, j' * 10, none⟩ = some y.pv.v := hR4.c j' y hy 0 _ rfl
                  have hyl : y.d.pl.length ≤ 40 := okD_pl (meas_ok HMT.out (by rw [← H2.out]; exact List.mem_map.2 ⟨y, List.mem_of_getElem? hy, rfl⟩))
                  have hwq : ∀ q, Calls Try.prog 59 #[y.pv.v, .slice pa pn pc] (w4.drewN q) fun e w'' => e = .returned (.bool (inI (plI y) (plI x))) ∧ ∃ m, w'' = w4.drewN m := fun q => by
                    rw [← HPV.out.1]
                    exact within_quiet (hR4.p y (List.mem_of_getElem? hy)).isI (hR4.p x HXI.out).isI (by rw [plI_len]; have := hyl; omega) (by rw [plI_len]; have := HPL.out; omega)
                  have HY := Lib.hid hy
                  have b4 : (0 : Int) ≤ (j' : Int) := by omega
                  have b5 : (j' : Int) < (n : Int) := by omega
                  have b6 : decide (j' < n) = true := decide_eq_true hj3
                  obtain ⟨r, hr'⟩ : ∃ r, r = inI (plI y) (plI x) := ⟨_, rfl⟩
                  rw [← hr'] at hwq
                  have HQ := Lib.hid hwq
                  have HR' := Lib.hid hr'
                  clear hy hR4 hyl hwq hr'
                  cases r with
                  | true =>
                    go_wp2_with (fail)
                    go_quiet ((go_at_call 59; exact HQ.out _))
                    go_wp2_with (fail)
                    go_roundw
                    case rel => exact ⟨j' + 1, d + nq, by omega, by omega, by go_num, by rw [HW4.out]; simp, HDW.out.trans (dropWhile_step HY.out HR'.out.symm)⟩
                    case measure => simp [intOf]; omega
                  | false =>
                    go_wp2_with (fail)
                    go_quiet ((go_at_call 59; exact HQ.out _))
                    go_wp2_with (fail)
                    go_roundw
                    case rel => exact ⟨j', c, gs ++ [x], by omega, rfl, rfl, by omega, by simp; omega, HL4.out.drewN nq, HSC.out.goal HX.out (by rw [← HBD.out, ← HRU.out]; simp) HDW.out (.inr ⟨y, HY.out, HR'.out.symm⟩)⟩
                    case measure => simp [intOf]; omega
                · have hjn2 : j' = n := by omega
                  subst hjn2
                  have b5 : ¬ ((j' : Int) < (j' : Int)) := by omega
                  have b6 : decide (j' < j') = false := decide_eq_false hj3
                  go_wp2_with (fail)
                  go_quiet (fail)
                  go_wp2_with (fail)
                  go_roundw
                  case rel => exact ⟨j', c, gs ++ [x], by omega, rfl, rfl, by omega, by simp; omega, HL4.out.drewN nq, HSC.out.goal HX.out (by rw [← HBD.out, ← HRU.out]; simp) HDW.out (.inl HN.out)⟩
                  case measure => simp [intOf]; omega
            · have d6 : (rule.toList == [63]) = false := beq_eq_false_iff_ne.2 (not_hole hr)
              have hsc2 := HSC.out.count HX.out (by rw [← HBD.out, ← HRU.out]; simp [hr])
              have HS2 := Lib.hid hsc2
              clear hsc2
              go_wp2_with (fail)
              go_roundw
              case rel => exact ⟨j + 1, c + 1, gs, by omega, by go_num, by go_num, by omega, by omega, LkB.alloc HLB.out _, HS2.out⟩
              case measure => simp [intOf]; omega
        · have hjn2 : j = n := by omega
          have b5 : ¬ ((j : Int) < (n : Int)) := by omega
          go_wp2_with (fail)
          go_ret3
          have hsc := HSC.out
          rw [hjn2, HN.out] at hsc
          obtain ⟨e1, e2⟩ := hsc.done
          rw [H2.out] at e1 e2
          refine .ok HMT.out HALL2.out gs _ e1.symm ⟨row_mono HLB.out.row HBW.out.size, fun x hx => (HR.out.below HLB.out.hB).p x (HLB.out.mem x hx)⟩ (by rw [e2]; rfl) (HBW.out.trans (HLB.out.hB.mono HBW.out.size))
end Go.Proofs.Ytfebcpmbkljaoaa
