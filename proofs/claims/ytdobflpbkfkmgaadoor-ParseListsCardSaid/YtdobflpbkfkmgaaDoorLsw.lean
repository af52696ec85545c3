/- ParseLists (6): the walk. -/
import Derived.Test.YtdobflpbkfkmgaaDoorFms
import Derived.Test.YtdobflpbkfkmgaaDoorFuh
import Derived.Test.YtdobflpbkfkmgaaDoorLva
namespace Go.Proofs.YtdobflpbkfkmgaaDoor
open Go.RowKit Go.HK Go.FR
set_option linter.unusedVariables false
set_option linter.unusedSimpArgs false
set_option linter.unusedSectionVars false
def anL : An (List Fm) → List Fm
  | .ok l => l
  | .bad _ _ => []
/-- What comes back of Forms, spelled out. -/
def OutL (w : World) (r : An (List Fm)) (E : Ending) (W' : World) : Prop := Below w.heap.size w W' ∧ ∃ (a : Option Addr) (n c : Nat), E = .returned (.tuple #[.slice a n c, .int .i64 (anP r : Int), .int .i64 (anE r)]) ∧ IsFs (SN W') W' ⟨a, n, c⟩ (anL r) ∧ n = (anL r).length
theorem RetLs.out {w : World} {r : An (List Fm)} {E : Ending} {W' : World} (h : RetLs w r E W') : OutL w r E W' := by
  obtain ⟨hB, h⟩ := h
  cases r with
  | ok l =>
    obtain ⟨v, he, ⟨⟨a, n, c⟩, rfl, h1⟩⟩ := h
    exact ⟨hB, a, n, c, he, h1.turn fun k hk => ⟨hk.2, rfl⟩, h1.len⟩
  | bad p e => exact ⟨hB, none, 0, 0, h, .nil _ _, rfl⟩
theorem lists_out (w : World) (s : ByteArray) (hs : s.size ≤ 16384) (hL : LaidAll w) {r : An (List Fm)} (h : RdL false (bys s) r) : Calls Tryd.prog 23 #[.string s] w (OutL w (formsA r)) := (forms_call w s hs hL h).mono fun E W' h => h.out
theorem lsF_take {l : List Fm} {j : Nat} {f : Fm} (h : l[j]? = some f) : lsF (l.take (j + 1)) = if j = 0 then fullF f else lsF (l.take j) ++ ([44] ++ ([32] ++ fullF f)) := by
  rw [List.take_add_one, h, Option.toList_some]
  by_cases hj : j = 0
  · subst hj; simp [lsF, lsR]
  · rw [if_neg hj, lsF_snoc]
    intro e
    have h1 := congrArg List.length e
    have h2 := (List.getElem?_eq_some_iff.1 h).1
    simp only [List.length_take, List.length_nil] at h1
    omega
theorem nodesL_400 : ∀ l : List Fm, (∀ f ∈ l, nodesF f ≤ 400) → nodesL l ≤ 400 * l.length
  | [], _ => by simp [nodesL]
  | f :: r, h => by
    have h1 := h f (by simp)
    have h2 := nodesL_400 r fun g hg => h g (by simp [hg])
    simp only [nodesL, List.length_cons]
    omega
/-- How long the text of right formulas is. -/
theorem ls_short {l : List Fm} (hr : ∀ f ∈ l, rightF f = true) (h10 : l.length ≤ 10) : (lsF l).length ≤ 96020 := by
  have h1 := lsF_len (D := ⟨40, false⟩) l fun f hf => (good_of_right (hr f hf)).1
  have h2 := nodesL_400 l fun f hf => (good_of_right (hr f hf)).2
  omega
theorem ls_small {l : List Fm} (hr : ∀ f ∈ l, rightF f = true) (h10 : l.length ≤ 10) (hs : siFs l 500 0 ≤ 500) : (lsF l).length ≤ 12020 ∧ nodesL l ≤ 500 := by
  have hg : ∀ f ∈ l, goodF ⟨40, false⟩ 1 f = true := fun f hf => (good_of_right (hr f hf)).1
  have h1 := lsF_len (D := ⟨40, false⟩) l hg
  have h2 := nodesL_400 l fun f hf => (good_of_right (hr f hf)).2
  have h3 := (si_Fs (D := ⟨40, false⟩) l 1 500 0 hg (by omega) (by omega) (by omega)).2.2 hs
  omega
/-- What the last call answers. -/
def TailP (n : Nat) (k : Nat) (e : Int) (p : Int) (n4 : Nat) (p4 e4 : Int) : Prop := ((e = 51 ∨ e = 40 ∨ e = 41) → n4 = 0 ∧ p4 = p + (k : Int) + 3 ∧ e4 = e) ∧ (e = 0 → e4 = 0 ∧ n4 = n + 1)
theorem tail_of {l : List Fm} (hr : ∀ f ∈ l, rightF f = true) (h10 : l.length ≤ 10) {r : An Fm} {R : An (List Fm)} {k : Nat} (h1 : ∀ p e, r = .bad p e → e ≠ 50 → R = .bad (p + (k + 3)) e) (h2 : ∀ f, r = .ok f → R = .ok (l ++ [f])) (h3 : ∀ p e, r = .bad p e → e ≠ 0) :
    TailP l.length k (anE (formA r)) (anP (formA r)) (anL (formsA R)).length (anP (formsA R)) (anE (formsA R)) := by
  cases r with
  | bad p e =>
    refine ⟨fun he => ?_, fun he => absurd he (h3 p e rfl)⟩
    have he' : e = 51 ∨ e = 40 ∨ e = 41 := he
    have := h1 p e rfl (by omega)
    subst this
    refine ⟨rfl, ?_, rfl⟩
    show (((p + (k + 3) : Nat)) : Int) = (p : Int) + (k : Int) + 3
    omega
  | ok f =>
    have := h2 f rfl
    subst this
    by_cases hf : rightF f = true
    · have hall : (l ++ [f]).all rightF = true := List.all_eq_true.2 fun g hg => by
        rcases List.mem_append.1 hg with hg | hg
        · exact hr g hg
        · rw [List.mem_singleton.1 hg]; exact hf
      have e1 : formA (.ok f) = .ok f := by simp [formA, hf]
      have e2 : formsA (.ok (l ++ [f])) = .ok (l ++ [f]) := by
        unfold formsA
        simp only []
        rw [if_pos hall, if_neg (by simp; omega)]
      rw [e1, e2]
      exact ⟨fun he => by simp [anE] at he, fun _ => ⟨rfl, by simp [anL]⟩⟩
    · have e1 : formA (.ok f) = .bad 0 3 := by simp [formA, hf]
      rw [e1]
      exact ⟨fun he => by simp [anE] at he, fun he => by simp [anE] at he⟩
set_option maxRecDepth 100000 in
set_option maxHeartbeats 4000000 in
theorem lists_skip (w : World) (s1 : ByteArray) (a0 : Option Addr) (n0 c0 : Nat) (l : List Fm) (hL : LaidAll w) (hl : IsFs (SN w) w ⟨a0, n0, c0⟩ l) (hn : l.length ≤ 9223372036854775807) (hz : szFs l) (hw : s1.size ≤ maxLen)
    (hno : ¬ (l.length ≤ 10 ∧ siFs l 500 0 ≤ 500 ∧ s1.size ≤ 500)) : Calls Tryd.prog 6 #[.slice a0 n0 c0, .string s1] w (RetOk w) := by
  have ha := fun (W : World) (hB : Below w.heap.size w W) => awake_any W (hL.below hB).signs (hL.below hB).levels (hL.below hB).rows
  unfold RetA1 at ha
  have hsm := fun (W : World) (hB : Below w.heap.size w W) => small_call W ⟨a0, n0, c0⟩ l (hl.turn (sn_up hB)) hn hz
  simp only [SL.v] at hsm
  have hlen := hl.len
  simp only at hlen
  have HN0 : Hid ((n0 : Int) ≤ 9223372036854775807) := Lib.hid (by omega)
  have HW : Hid ((s1.size : Int) ≤ 9223372036854775807) := Lib.hid (by have : maxLen = 9223372036854775807 := rfl; omega)
  have HA := Lib.hid ha
  have HNO : Hid (¬ (n0 ≤ 10 ∧ siFs l 500 0 ≤ 500 ∧ s1.size ≤ 500)) := Lib.hid (by rw [hlen]; exact hno)
  obtain ⟨bs, hbs⟩ : ∃ b, b = decide (siFs l 500 0 ≤ 500) := ⟨_, rfl⟩
  rw [← hbs] at hsm
  have HBS := Lib.hid hbs
  have HSM := Lib.hid hsm
  clear ha hsm hL hl hn hz hw hno hlen hbs
  go_enter Tryd.func6, Tryd.ntmps6
  go_wp2_with (fail)
  go_at_call 9
  with_reducible refine (HA.out _ (Below.refl _ _)).mono ?_
  rintro _ w2 ⟨rfl, hB⟩
  have HB2 := Lib.hid hB
  clear hB
  by_cases h10 : (10 : Int) < (n0 : Int)
  · go_wp2_with (fail)
    go_ret
    exact ⟨rfl, HB2.out⟩
  · go_wp2_with (fail)
    go_at_call 10
    with_reducible refine (HSM.out _ HB2.out).mono ?_
    rintro _ w3 ⟨rfl, hB⟩
    have HB3 := Lib.hid (HB2.out.trans (hB.mono HB2.out.size))
    clear hB
    rcases bs with _ | _
    · go_wp2_with (fail)
      go_ret
      exact ⟨rfl, HB3.out⟩
    · have h5 : (500 : Int) < (s1.size : Int) := by
        have h1 := HNO.out
        have h2 : siFs l 500 0 ≤ 500 := of_decide_eq_true HBS.out.symm
        rcases Nat.lt_or_ge 500 s1.size with h | h
        · omega
        · exact absurd ⟨by omega, h2, h⟩ h1
      go_wp2_with (fail)
      go_ret
      exact ⟨rfl, HB3.out⟩
set_option maxRecDepth 100000 in
set_option maxHeartbeats 8000000 in
theorem lists_main (w : World) (s1 : ByteArray) (a0 : Option Addr) (n0 c0 : Nat) (l : List Fm) (hL : LaidAll w) (hl : IsFs (SN w) w ⟨a0, n0, c0⟩ l) (hz : szFs l) (h10 : l.length ≤ 10) (hsi : siFs l 500 0 ≤ 500) (hw : s1.size ≤ 500) : Calls Tryd.prog 6 #[.slice a0 n0 c0, .string s1] w (RetOk w) := by
  have ha := fun (W : World) (hB : Below w.heap.size w W) => awake_any W (hL.below hB).signs (hL.below hB).levels (hL.below hB).rows
  unfold RetA1 at ha
  have hsm := fun (W : World) (hB : Below w.heap.size w W) => small_call W ⟨a0, n0, c0⟩ l (hl.turn (sn_up hB)) (by omega) hz
  simp only [SL.v] at hsm
  rw [decide_eq_true hsi] at hsm
  have hlen := hl.len
  simp only at hlen
  have hrc := fun (W : World) (f : Fm) (a s : SL) (hB : Below w.heap.size w W) (hf : f ∈ l) (h1 : IsTs (SN W) W a f.args) (h2 : IsFs (SN W) W s f.subs) (h3 : f.op < 256) (h4 : f.name.size ≤ maxLen) => right_call W f a s (hL.below hB).rows (szFs_mem hz hf) h1 h2 h3 h4
  unfold RetW at hrc
  have hfu := fun (W : World) (f : Fm) (a s : SL) (hr : rightF f = true) (h1 : IsTs (SN W) W a f.args) (h2 : IsFs (SN W) W s f.subs) => full_call (D := ⟨40, false⟩) (by decide) f 1 (good_of_right hr).1 W a s h1 h2 (by have := len_F f 1 (good_of_right hr).1; have := (good_of_right hr).2; omega)
  have n10 : (n0 : Int) ≤ 10 := by omega
  have w500 : (s1.size : Int) ≤ 500 := by omega
  have HLEN := Lib.hid hlen
  have HA := Lib.hid ha
  have HSM := Lib.hid hsm
  have HRC := Lib.hid hrc
  have HFU := Lib.hid hfu
  have HLD := Lib.hid hL
  have HIN := Lib.hid hl
  have HSI := Lib.hid hsi
  have H10 := Lib.hid h10
  have HW5 := Lib.hid hw
  clear ha hsm hL hl hz h10 hsi hw hlen hrc hfu
  go_enter Tryd.func6, Tryd.ntmps6
  go_wp2_with (fail)
  go_at_call 9
  with_reducible refine (HA.out _ (Below.refl _ _)).mono ?_
  rintro _ w2 ⟨rfl, hB⟩
  have HB2 := Lib.hid hB
  clear hB
  go_wp2_with (fail)
  go_at_call 10
  with_reducible refine (HSM.out _ HB2.out).mono ?_
  rintro _ w3 ⟨rfl, hB⟩
  have HB3 := Lib.hid (HB2.out.trans (hB.mono HB2.out.size))
  clear hB
  go_wp2_with (fail)
  go_loopw [5, 6] (fun s i wr => ∃ (j : Nat) (st : ByteArray), j ≤ n0 ∧ s = .string st ∧ i = .int .i64 j ∧ Below w3.heap.size w3 wr ∧ (∀ f ∈ l.take j, rightF f = true) ∧ bys st = lsF (l.take j)) (fun _ i _ => n0 - (intOf i).toNat)
  case atStart => exact ⟨0, ⟨#[]⟩, by omega, rfl, rfl, Below.refl _ _, fun f hf => by simp at hf, rfl⟩
  case round =>
    obtain ⟨j, st, hj, rfl, rfl, hB, hall, hst⟩ := hrel
    have HALL := Lib.hid hall
    have HST := Lib.hid hst
    have HB := Lib.hid hB
    have HBW := Lib.hid (HB3.out.trans (hB.mono HB3.out.size))
    have hsz : st.size ≤ 96020 := by
      have h1 := ls_short hall (by have := H10.out; rw [List.length_take]; omega)
      rw [← hst] at h1
      exact h1
    clear hall hst
    by_cases hjn : (j : Int) < (n0 : Int)
    · have b0 : (0 : Int) ≤ (j : Int) := by omega
      obtain ⟨q, hq⟩ : ∃ q, l[j]? = some q := ⟨_, List.getElem?_eq_getElem (by rw [← HLEN.out]; omega)⟩
      have hp := HIN.out.turn (sn_up HBW.out)
      obtain ⟨g1, o1, hga⟩ := IsFs.pos HIN.out (show 0 < n0 by omega)
      subst hga
      obtain ⟨u, d, c0, c1, c2, c3, hu, hd, ho, hz⟩ := fs_at hp hq
      have HQ := Lib.hid hq
      have hrc1 := HRC.out wr q u d HBW.out (List.mem_of_getElem? hq) hu hd ho hz
      have HFQ : Hid (rightF q = true → ∀ W, Below wr.heap.size wr W → _) := Lib.hid fun hr W hB => HFU.out W q u d hr (hu.turn (sn_up hB)) (hd.turn (sn_up hB))
      obtain ⟨bb, hbb⟩ : ∃ b, b = rightF q := ⟨_, rfl⟩
      rw [← hbb] at hrc1 HFQ
      have hlq : bb = true → (mkS (fullF q)).size ≤ 12800 := fun h => by
        rw [mk_size]
        have hr : rightF q = true := by rw [← hbb]; exact h
        have := len_F q 1 (good_of_right hr).1
        have := (good_of_right hr).2
        omega
      have HBB := Lib.hid hbb
      have hg1 := World.block_lt_of_cell? wr ⟨g1, _, none⟩ c0
      obtain ⟨fq, hfq⟩ : ∃ x, x = mkS (fullF q) := ⟨_, rfl⟩
      have hfb : bys fq = fullF q := by rw [hfq, bys_mk]
      rw [← hfq] at hlq HFQ
      have HFB := Lib.hid hfb
      have HLQ := Lib.hid hlq
      have HRQ := Lib.hid hrc1
      clear hfq hfb hlq hrc1 hbb hq hp hu hd ho hz hB
      obtain ⟨qo, qn, qa, qs⟩ := q
      obtain ⟨ua, un, uc⟩ := u
      obtain ⟨da, dn, dc⟩ := d
      simp only [FR.Fm.op, FR.Fm.name, SL.v] at c0 c1 c2 c3 HRQ HFQ
      have HC0 := Lib.hid c0
      have HC1 := Lib.hid c1
      have HC2 := Lib.hid c2
      have HC3 := Lib.hid c3
      have HG1 := Lib.hid hg1
      clear hg1
      go_wp2_with (fail)
      go_at_call 15
      with_reducible refine HRQ.out.mono ?_
      rintro E w4 ⟨rfl, hB4⟩
      have HB4 := Lib.hid hB4
      have HB43 := Lib.hid (HB.out.trans (hB4.mono HB.out.size))
      clear c0 c1 c2 c3
      rcases bb with _ | _
      · clear hB4
        go_wp2_with (fail)
        go_ret
        exact ⟨rfl, HB3.out.trans (HB43.out.mono HB3.out.size)⟩
      · have c0 := (hB4.cell (p := ⟨g1, o1 + j * 4, none⟩) HG1.out).trans HC0.out
        have c1 := (hB4.cell (p := ⟨g1, o1 + j * 4 + 1, none⟩) HG1.out).trans HC1.out
        have c2 := (hB4.cell (p := ⟨g1, o1 + j * 4 + 2, none⟩) HG1.out).trans HC2.out
        have c3 := (hB4.cell (p := ⟨g1, o1 + j * 4 + 3, none⟩) HG1.out).trans HC3.out
        have hl12 := HLQ.out (by first | rfl | trivial)
        clear hB4
        by_cases hj0 : j = 0
        · have hjp : ¬ (0 : Int) < (j : Int) := by omega
          have HJ0 := Lib.hid hj0
          clear hj0
          go_wp2_with (fail)
          go_at_call 12
          with_reducible refine (HFQ.out (by first | rfl | trivial) _ HB4.out).mono ?_
          rintro E w5 ⟨rfl, hB5⟩
          have HB5 := Lib.hid (HB43.out.trans (hB5.mono HB43.out.size))
          clear hB5
          go_wp2_with (fail)
          all_goals first | (exfalso; omega) | skip
          go_roundw
          case rel =>
            refine ⟨j + 1, st ++ fq, by omega, rfl, by go_num, HB5.out, fun f hf => ?_, ?_⟩
            · rw [List.take_add_one, HQ.out] at hf
              rcases List.mem_append.1 hf with hf | hf
              · exact HALL.out f hf
              · have hf2 : f = .mk qo qn qa qs := by simpa using hf
                rw [hf2]; exact HBB.out.symm
            · rw [bysC, HST.out, HFB.out, lsF_take HQ.out, if_pos HJ0.out, HJ0.out]; rfl
          case measure => simp [intOf]; omega
        · have hjp : (0 : Int) < (j : Int) := by omega
          go_wp2_with (fail)
          all_goals first | (exfalso; simp only [sz_app] at *; omega) | skip
          go_at_call 12
          with_reducible refine (HFQ.out (by first | rfl | trivial) _ HB4.out).mono ?_
          rintro E w5 ⟨rfl, hB5⟩
          have HB5 := Lib.hid (HB43.out.trans (hB5.mono HB43.out.size))
          clear hB5
          go_wp2_with (fail)
          all_goals first | (exfalso; rw [sz_app] at *; simp at *; omega) | skip
          go_roundw
          case rel =>
            refine ⟨j + 1, st ++ ⟨#[44, 32]⟩ ++ fq, by omega, rfl, by go_num, HB5.out, fun f hf => ?_, ?_⟩
            · rw [List.take_add_one, HQ.out] at hf
              rcases List.mem_append.1 hf with hf | hf
              · exact HALL.out f hf
              · have hf2 : f = .mk qo qn qa qs := by simpa using hf
                rw [hf2]; exact HBB.out.symm
            · rw [bysC, bysC, HST.out, HFB.out, lsF_take HQ.out, if_neg hj0, List.append_assoc]; rfl
          case measure => simp [intOf]; omega
    · obtain rfl : j = n0 := by omega
      have hta : l.take j = l := by rw [HLEN.out]; exact List.take_length
      have hallr : ∀ f ∈ l, rightF f = true := fun f hf => HALL.out f (by rw [hta]; exact hf)
      have hbst : bys st = lsF l := by rw [HST.out, hta]
      have hss := ls_small hallr H10.out HSI.out
      have hz2 : st.size ≤ 12020 := by
        have h1 := hss.1
        rw [← hbst] at h1
        exact h1
      have hg : ∀ f ∈ l, goodF ⟨40, false⟩ 1 f = true := fun f hf => (good_of_right (hallr f hf)).1
      have e1 : formsA (.ok l) = .ok l := by
        unfold formsA
        simp only []
        rw [if_pos (List.all_eq_true.2 hallr), if_neg (by have := H10.out; omega)]
      have hf1 := fun (W : World) (hB : Below w.heap.size w W) => (lists_out W st (by omega) (HLD.out.below hB) (r := .ok l) (by rw [hbst]; exact lists_ok hg (by omega))).mono (R' := fun E W' => Below W.heap.size W W' ∧ ∃ (a : Option Addr) (n c : Nat), E = .returned (.tuple #[.slice a n c, .int .i64 0, .int .i64 0]) ∧ IsFs (SN W') W' ⟨a, n, c⟩ l) fun E W' h => by
        rw [e1] at h
        obtain ⟨hB, a, n, c, he, h1, _⟩ := h
        exact ⟨hB, a, n, c, he, h1⟩
      have hsf := fun (W : World) (a : Option Addr) (n c : Nat) (h1 : IsFs (SN W) W ⟨a, n, c⟩ l) (hB : Below w.heap.size w W) => forms_same l (by omega) W ⟨a, n, c⟩ ⟨a0, j, c0⟩ h1 (HIN.out.turn (sn_up hB))
      unfold RetY at hsf
      simp only [SL.v] at hsf
      obtain ⟨r, hr⟩ := rdF_total false (l := bys s1) (by show s1.size ≤ 16384; have := HW5.out; omega)
      have hfw := fun (W : World) (hB : Below w.heap.size w W) => form_out W (HLD.out.below hB) s1 (by have := HW5.out; omega) hr
      have HF1 := Lib.hid hf1
      have HSF := Lib.hid hsf
      have HFW := Lib.hid hfw
      have HZ2 := Lib.hid hz2
      have HCM := Lib.hid fun (h0 : l ≠ []) (W : World) (hB : Below w.heap.size w W) => lists_out W (st ++ ⟨#[44]⟩) (by rw [sz_app, show (⟨#[44]⟩ : ByteArray).size = 1 from rfl]; omega) (HLD.out.below hB) (r := .bad ((lsF l).length + 1) 50) (by rw [bysC, hbst]; exact lists_comma h0 hg (by omega))
      have HLE : Hid ((lsF l).length = st.size) := Lib.hid (by rw [← hbst]; rfl)
      have HWR : Hid (l ≠ [] → ∃ R, RdL false (bys (st ++ ⟨#[32, 44, 32]⟩ ++ s1)) R ∧ (∀ p e, r = .bad p e → e ≠ 50 → R = .bad (p + (st.size + 3)) e) ∧ (∀ f, r = .ok f → R = .ok (l ++ [f]))) := Lib.hid fun h0 => by
        rw [bysC, bysC, hbst, ← HLE.out]
        exact lists_wrong h0 hg (by have := HW5.out; have : (bys s1).length = s1.size := rfl; omega) hr
      have hrb : ∀ p e, r = .bad p e → e ≠ 0 ∧ p ≤ 16384 := fun p e h => rdF_bad (l := bys s1) (by show s1.size ≤ 16384; have := HW5.out; omega) hr h
      have HRB := Lib.hid hrb
      have HAR := Lib.hid hallr
      clear hta hallr hbst hss hz2 hg e1 hf1 hsf hfw hr hrb hB
      go_wp2_with (fail)
      go_at_call 23
      with_reducible refine (HF1.out _ HBW.out).mono ?_
      rintro E w4 ⟨hB, a1, n1, c1, rfl, h1⟩
      have HB4 := Lib.hid (HBW.out.trans (hB.mono HBW.out.size))
      have HI4 := Lib.hid h1
      clear hB h1
      go_wp2_with (fail)
      go_at_call 24
      with_reducible refine (HSF.out _ _ _ _ HI4.out HB4.out).mono ?_
      rintro E w5 ⟨rfl, hB⟩
      have HB5 := Lib.hid (HB4.out.trans (hB.mono HB4.out.size))
      clear hB
      by_cases h0 : l = []
      · have hj0 : ((j : Int) == 0) = true := by
          have h2 := HLEN.out
          rw [h0] at h2
          simp at h2
          simp [h2]
        clear h0
        go_wp2_with (fail)
        go_ret
        exact ⟨rfl, HB5.out⟩
      · have hj0 : ((j : Int) == 0) = false := by
          have h2 := HLEN.out
          have h3 := List.length_pos_iff.2 h0
          simp
          omega
        have hcm := fun (W : World) (hB : Below w.heap.size w W) => (HCM.out h0 W hB).mono (R' := fun E W' => Below W.heap.size W W' ∧ ∃ (a : Option Addr) (c : Nat), E = .returned (.tuple #[.slice a 0 c, .int .i64 ((st.size : Int) + 1), .int .i64 50])) fun E W' h => by
          obtain ⟨hB, a, n, c, he, h1, h2⟩ := h
          rw [show n = 0 from h2] at he
          refine ⟨hB, a, c, ?_⟩
          rw [he, ← HLE.out]
          rfl
        obtain ⟨R, hR, hR1, hR2⟩ := HWR.out h0
        have hwr := fun (W : World) (hB : Below w.heap.size w W) => (lists_out W (st ++ ⟨#[32, 44, 32]⟩ ++ s1) (by rw [sz_app, sz_app, show (⟨#[32, 44, 32]⟩ : ByteArray).size = 3 from rfl]; have := HZ2.out; have := HW5.out; omega) (HLD.out.below hB) hR).mono (R' := fun E W' => Below W.heap.size W W' ∧ ∃ (a : Option Addr) (c : Nat), E = .returned (.tuple #[.slice a (anL (formsA R)).length c, .int .i64 (anP (formsA R) : Int), .int .i64 (anE (formsA R))])) fun E W' h => by
          obtain ⟨hB, a, n, c, he, h1, h2⟩ := h
          rw [h2] at he
          exact ⟨hB, a, c, he⟩
        have hP := tail_of HAR.out H10.out hR1 hR2 (fun p e h => (HRB.out p e h).1)
        have hpz : (anP (formA r) : Int) ≤ 16384 ∧ 0 ≤ (anP (formA r) : Int) := by
          refine ⟨?_, by omega⟩
          cases r with
          | ok f => unfold formA; simp only []; split <;> simp [anP]
          | bad p e => have := (HRB.out p e rfl).2; show ((p : Nat) : Int) ≤ 16384; omega
        obtain ⟨e, he⟩ : ∃ e, e = anE (formA r) := ⟨_, rfl⟩
        obtain ⟨p, hp⟩ : ∃ p : Int, p = (anP (formA r) : Int) := ⟨_, rfl⟩
        obtain ⟨n4, hn4⟩ : ∃ n, n = (anL (formsA R)).length := ⟨_, rfl⟩
        obtain ⟨p4, hp4⟩ : ∃ p : Int, p = (anP (formsA R) : Int) := ⟨_, rfl⟩
        obtain ⟨e4, he4⟩ : ∃ e, e = anE (formsA R) := ⟨_, rfl⟩
        rw [← he, ← hp, ← hn4, ← hp4, ← he4] at hP
        rw [← hp] at hpz
        rw [← hn4, ← hp4, ← he4] at hwr
        have hfw := fun (W : World) (hB : Below w.heap.size w W) => (HFW.out W hB).mono (R' := fun E W' => Below W.heap.size W W' ∧ ∃ (o8 : Int) (nm : ByteArray) (aa : Option Addr) (an ac : Nat) (sa : Option Addr) (sn sc : Nat), E = .returned (.tuple #[.agg #[.int .u8 o8, .string nm, .slice aa an ac, .slice sa sn sc], .int .i64 p, .int .i64 e])) fun E W' h => by
          obtain ⟨hB, o8, nm, aa, an, ac, sa, sn, sc, h1, _⟩ := h
          rw [← he, ← hp] at h1
          exact ⟨hB, o8, nm, aa, an, ac, sa, sn, sc, h1⟩
        have hj1 : 0 ≤ (j : Int) := by omega
        have hs1 : (st.size : Int) ≤ 12020 ∧ 0 ≤ (st.size : Int) := by have := HZ2.out; omega
        have HCM2 := Lib.hid hcm
        have HFW2 := Lib.hid hfw
        have HWR2 := Lib.hid hwr
        have HP : Hid (TailP j st.size e p n4 p4 e4) := Lib.hid (by rw [HLEN.out]; exact hP)
        have HPZ := Lib.hid hpz
        have HS1 := Lib.hid hs1
        clear h0 hcm hR hR1 hR2 hwr hP hpz he hp hn4 hp4 he4 hfw hs1
        have hsc : (st.size : Int) ≤ 12020 := HS1.out.1
        have hs0 : 0 ≤ (st.size : Int) := HS1.out.2
        have hpc : p ≤ 16384 := HPZ.out.1
        have hp0 : 0 ≤ p := HPZ.out.2
        have hst4 : st.size ≤ 12020 := HZ2.out
        have hw5 : s1.size ≤ 500 := HW5.out
        go_wp2_with (fail)
        all_goals first | (exfalso; simp only [sz_app, show (⟨#[44]⟩ : ByteArray).size = 1 from rfl] at *; omega) | skip
        go_at_call 23
        with_reducible refine (HCM2.out _ HB5.out).mono ?_
        rintro E w6 ⟨hB, a6, c6, rfl⟩
        have HB6 := Lib.hid (HB5.out.trans (hB.mono HB5.out.size))
        clear hB
        go_wp2_with (fail)
        go_at_call 13
        with_reducible refine (HFW2.out _ HB6.out).mono ?_
        rintro E w7 ⟨hB, o8, n8, a8, b8, c8, d8, e8, f8, rfl⟩
        have HB7 := Lib.hid ((HB6.out.trans (hB.mono HB6.out.size)).alloc (HB6.out.trans (hB.mono HB6.out.size)).size (.cells #[.int .u8 o8, .string n8, .slice a8 b8 c8, .slice d8 e8 f8] 25))
        clear hB
        go_upto_region 23 with (fail)
        obtain ⟨w8, hw8⟩ : ∃ x, x = w7.alloc (.cells #[.int .u8 o8, .string n8, .slice a8 b8 c8, .slice d8 e8 f8] 25) := ⟨_, rfl⟩
        rw [← hw8] at HB7 ⊢
        clear hw8
        go_wp2_with (fail)
        all_goals first | (exfalso; simp only [sz_app, show (⟨#[32, 44, 32]⟩ : ByteArray).size = 3 from rfl] at *; omega) | skip
        go_at_call 23
        with_reducible refine (HWR2.out _ HB7.out).mono ?_
        rintro E w9 ⟨hB, a9, c9, rfl⟩
        have HB9 := Lib.hid (HB7.out.trans (hB.mono HB7.out.size))
        clear hB
        by_cases q1 : e = 51 ∨ e = 40 ∨ e = 41
        · obtain ⟨t1, t2, t3⟩ := HP.out.1 q1
          subst t1 t2 t3
          rcases q1 with rfl | rfl | rfl
          all_goals (
            go_wp2_with (fail)
            go_ret
            exact ⟨rfl, HB9.out⟩)
        · have x1 : (e == 51) = false := by simp; omega
          have x2 : (e == 40) = false := by simp; omega
          have x3 : (e == 41) = false := by simp; omega
          clear q1
          by_cases q2 : e = 0
          · obtain ⟨t1, t2⟩ := HP.out.2 q2
            have h9 : ((n4 : Int) == (j : Int) + 1) = true := by rw [t2]; simp
            clear t2
            subst t1 q2
            clear x1 x2 x3
            go_wp2_with (fail)
            go_ret
            refine ⟨congrArg (fun b => Ending.returned b) ?_, HB9.out⟩
            simp [go_sem]
          · have x4 : (e == 0) = false := by simp; omega
            have x5 : (e != 0) = true := by simp; omega
            clear q2
            go_wp2_with (fail)
            go_ret
            exact ⟨rfl, HB9.out⟩
theorem lists_any (w : World) (s1 : ByteArray) (a0 : Option Addr) (n0 c0 : Nat) (l : List Fm) (hL : LaidAll w) (hl : IsFs (fun k => k < w.heap.size) w ⟨a0, n0, c0⟩ l) (hn : l.length ≤ 9223372036854775807) (hz : szFs l) (hw : s1.size ≤ maxLen) : Calls Tryd.prog 6 #[.slice a0 n0 c0, .string s1] w (RetOk w) := by
  by_cases h : l.length ≤ 10 ∧ siFs l 500 0 ≤ 500 ∧ s1.size ≤ 500
  · exact lists_main w s1 a0 n0 c0 l hL hl hz h.1 h.2.1 h.2.2
  · exact lists_skip w s1 a0 n0 c0 l hL hl hn hz hw h
end Go.Proofs.YtdobflpbkfkmgaaDoor
