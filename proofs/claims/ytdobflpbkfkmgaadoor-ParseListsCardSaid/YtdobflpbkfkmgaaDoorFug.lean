/- sign (18) and FullTerm (31). -/
import Derived.Test.YtdobflpbkfkmgaaDoorFue
import Derived.Test.YtdobflpbkfkmgaaDoorMaw
namespace Go.Proofs.YtdobflpbkfkmgaaDoor
open Go.RowKit Go.HK Go.FR
set_option linter.unusedVariables false
set_option linter.unusedSimpArgs false
set_option linter.unusedSectionVars false
set_option maxRecDepth 100000 in
set_option maxHeartbeats 2000000 in
theorem sign_call (w : World) (op : Nat) (h1 : 3 ≤ op) (h2 : op ≤ 14) : Calls Tryd.prog 18 #[.int .u8 (op : Int)] w fun e w' => e = .returned (.string (mkS (opS op))) ∧ Below w.heap.size w w' := by
  rcases (by omega : op = 3 ∨ op = 4 ∨ op = 5 ∨ op = 6 ∨ op = 7 ∨ op = 8 ∨ op = 9 ∨ op = 10 ∨ op = 11 ∨ op = 12 ∨ op = 13 ∨ op = 14) with rfl | rfl | rfl | rfl | rfl | rfl | rfl | rfl | rfl | rfl | rfl | rfl
  all_goals (
    simp only [show ((3 : Nat) : Int) = 3 from rfl, show ((4 : Nat) : Int) = 4 from rfl, show ((5 : Nat) : Int) = 5 from rfl, show ((6 : Nat) : Int) = 6 from rfl, show ((7 : Nat) : Int) = 7 from rfl, show ((8 : Nat) : Int) = 8 from rfl, show ((9 : Nat) : Int) = 9 from rfl, show ((10 : Nat) : Int) = 10 from rfl, show ((11 : Nat) : Int) = 11 from rfl, show ((12 : Nat) : Int) = 12 from rfl, show ((13 : Nat) : Int) = 13 from rfl, show ((14 : Nat) : Int) = 14 from rfl]
    clear h1 h2
    go_enter Tryd.func18, Tryd.ntmps18
    go_wp2_with (fail)
    go_ret
    exact ⟨rfl, Below.refl _ _⟩)
def fullC : List Tm → List UInt8
  | [] => []
  | a :: r => fullT a ++ fullR r
theorem fullR_snoc (l : List Tm) (t : Tm) : fullR (l ++ [t]) = fullR l ++ ([44] ++ fullT t) := by
  induction l with
  | nil => simp [fullR]
  | cons a r ih => simp only [List.cons_append, fullR, ih, List.append_assoc]
theorem fullC_snoc {l : List Tm} (t : Tm) (h : l ≠ []) : fullC (l ++ [t]) = fullC l ++ ([44] ++ fullT t) := by
  cases l with
  | nil => exact absurd rfl h
  | cons a r => simp only [List.cons_append, fullC, fullR_snoc, List.append_assoc]
theorem fullA_C {l : List Tm} (h : l ≠ []) : fullA l = [40] ++ (fullC l ++ [41]) := by
  cases l with
  | nil => exact absurd rfl h
  | cons a r => simp [fullA, fullC]
theorem mkS_app (a b : List UInt8) : mkS a ++ mkS b = mkS (a ++ b) := by
  apply ByteArray.ext
  simp [mkS, ByteArray.data_append]
def FullTOk (t : Tm) : Prop := ∀ (w : World) (s : SL), IsTs (SN w) w s t.args → (fullT t).length ≤ 1000000 → Calls Tryd.prog 31 #[.agg #[.bool t.var, .string t.name, s.v]] w fun e w' => e = .returned (.string (mkS (fullT t))) ∧ Below w.heap.size w w'
theorem fullR_mem {l : List Tm} {t : Tm} (h : t ∈ l) : (fullT t).length ≤ (fullR l).length := by
  induction l with
  | nil => cases h
  | cons a r ih =>
    simp only [fullR, List.length_append]
    rcases List.mem_cons.1 h with rfl | h
    · omega
    · have := ih h; omega
theorem fullC_mem {l : List Tm} {t : Tm} (h : t ∈ l) : (fullT t).length ≤ (fullC l).length := by
  cases l with
  | nil => cases h
  | cons a r =>
    simp only [fullC, List.length_append]
    rcases List.mem_cons.1 h with rfl | h
    · omega
    · have := fullR_mem h; omega
theorem fullC_take {l : List Tm} {j : Nat} {t : Tm} (h : l[j]? = some t) : (fullC (l.take (j + 1))).length ≤ (fullC l).length ∧ fullC (l.take (j + 1)) = (if j = 0 then fullT t else fullC (l.take j) ++ ([44] ++ fullT t)) := by
  have h1 := take_one h
  have hl := (List.getElem?_eq_some_iff.1 h).1
  constructor
  · have hR : ∀ (a b : List Tm), (fullR a).length ≤ (fullR (a ++ b)).length := fun a b => by
      induction a with
      | nil => simp [fullR]
      | cons x r ih => simp only [List.cons_append, List.nil_append, fullR, List.length_append, List.length_cons]; omega
    have hC : ∀ (a b : List Tm), (fullC a).length ≤ (fullC (a ++ b)).length := fun a b => by
      cases a with
      | nil => simp [fullC]
      | cons x r => simp only [List.cons_append, fullC, List.length_append]; have := hR r b; omega
    have := hC (l.take (j + 1)) (l.drop (j + 1))
    rwa [List.take_append_drop] at this
  · rw [h1]
    by_cases hj : j = 0
    · subst hj; simp [fullC, fullR]
    · rw [if_neg hj, fullC_snoc t (fun e => by have := congrArg List.length e; rw [List.length_take, List.length_nil] at this; omega)]
theorem bysC (a b : ByteArray) : bys (a ++ b) = bys a ++ bys b := by simp [bys, ByteArray.data_append]
theorem bys_len2 (s : ByteArray) : s.size = (bys s).length := rfl
set_option maxRecDepth 100000 in
set_option maxHeartbeats 4000000 in
theorem fullT_of (b : Bool) (nm : ByteArray) (args : List Tm) (IH : ∀ t ∈ args, FullTOk t) : FullTOk (.mk b nm args) := by
  intro w s hs hN
  simp only [FR.Tm.var, FR.Tm.name, FR.Tm.args] at hs ⊢
  have hn1 := hs.len
  obtain ⟨sa, n2, sc⟩ := s
  simp only [SL.v]
  simp only at hn1
  simp only [fullT, List.length_append] at hN
  have hnl : n2 ≤ (fullA args).length := by
    rw [hn1]
    have : ∀ l : List Tm, l.length ≤ (fullR l).length := fun l => by
      induction l with
      | nil => simp
      | cons a r ih => simp only [fullR, List.length_append, List.length_cons, List.length_nil]; omega
    cases args with
    | nil => simp
    | cons a r => have := this r; simp only [fullA, List.length_append, List.length_cons, List.length_nil]; omega
  by_cases h0 : n2 = 0
  · subst h0
    obtain rfl : args = [] := List.length_eq_zero_iff.1 hn1.symm
    have hf : mkS (fullT (.mk b nm [])) = nm := by simp [fullT, fullA, mk_bys]
    rw [hf]
    clear hs hN hn1 hnl IH hf
    go_enter Tryd.func31, Tryd.ntmps31
    go_wp2_with (fail)
    go_ret
    exact ⟨rfl, bl_al9 _⟩
  · have hne : args ≠ [] := fun e => h0 (by rw [hn1, e]; rfl)
    have hfa := fullA_C hne
    have hcl : (bys nm).length + (fullC args).length + 2 ≤ 1000000 := by rw [hfa] at hN; simp only [List.length_append, List.length_cons, List.length_nil] at hN; omega
    have HS1 := Lib.hid hs
    have HIH := Lib.hid IH
    have HN := Lib.hid hn1
    have HCL := Lib.hid hcl
    have HFT : Hid (mkS (fullT (.mk b nm args)) = mkS (bys nm ++ [40] ++ fullC args ++ [41])) := Lib.hid (by simp only [fullT]; rw [hfa]; simp only [List.append_assoc])
    obtain ⟨out, hout⟩ : ∃ out, out = mkS (fullT (.mk b nm args)) := ⟨_, rfl⟩
    have HOUT := Lib.hid hout
    rw [← hout]
    have hn2 : n2 ≤ 1000000 := by omega
    have hz : ((n2 : Int) == 0) = false := by simp; omega
    have hk := HK.blk_new w (.cells #[.bool b, .string nm, .slice sa n2 sc] 53)
    have HK0 := Lib.hid hk
    clear hs IH hn1 hN hnl hne hfa hcl hout hk h0
    go_enter Tryd.func31, Tryd.ntmps31
    go_wp2_with (fail)
    all_goals first | (exfalso; have h1 := HCL.out; have h2 := bys_len2 nm; omega) | skip
    have hw1 := bl_al9 (W := w) (.cells #[.bool b, .string nm, .slice sa n2 sc] 53)
    obtain ⟨w1, hw1'⟩ : ∃ w1, w1 = w.alloc (.cells #[.bool b, .string nm, .slice sa n2 sc] 53) := ⟨_, rfl⟩
    rw [← hw1'] at HK0 hw1 ⊢
    have HW1 := Lib.hid hw1
    clear hw1 hw1'
    go_loopw [3, 4] (fun v i wr => ∃ (j : Nat) (x : ByteArray), j ≤ n2 ∧ i = .int .i64 j ∧ v = .string x ∧ bys x = bys nm ++ [40] ++ fullC (args.take j) ∧ Below w1.heap.size w1 wr) (fun _ i _ => n2 - (intOf i).toNat)
    case atStart => exact ⟨0, _, by omega, rfl, rfl, by simp [bysC, fullC]; rfl, Below.refl _ _⟩
    case round =>
      obtain ⟨j, x, hj, rfl, rfl, hx, hB⟩ := hrel
      have hkr := (hB.block _ (HK.blk_lt HK0.out)).trans HK0.out
      have k2 := HK.blk_cell hkr 2
      have HKR := Lib.hid hkr
      clear hkr
      by_cases hjn : (j : Int) < (n2 : Int)
      · have b0 : (0 : Int) ≤ (j : Int) := by omega
        obtain ⟨q, hq⟩ : ∃ q, args[j]? = some q := ⟨_, List.getElem?_eq_getElem (by rw [← HN.out]; omega)⟩
        have hp1 := HS1.out.turn (sn_up (HW1.out.trans (hB.mono HW1.out.size)))
        obtain ⟨g1, o1, hga⟩ := ts_pos HS1.out (show 0 < n2 by omega)
        subst hga
        obtain ⟨u, c0, c1, c2, hu, hz0⟩ := ts_at hp1 hq
        obtain ⟨f1, f2⟩ := fullC_take hq
        have fm := fullC_mem (List.mem_of_getElem? hq)
        have hcq := HIH.out q (List.mem_of_getElem? hq) wr u hu (by have := HCL.out; omega)
        have hxz : x.size ≤ 1000000 := by
          have h1 := bys_len2 x
          rw [hx] at h1
          simp only [List.length_append, List.length_cons, List.length_nil] at h1
          have h2 := HCL.out
          have h3 : (fullC (args.take j)).length ≤ (fullC args).length := by
            by_cases hj0 : j = 0
            · subst hj0; simp [fullC]
            · rw [if_neg hj0] at f2
              rw [f2] at f1
              simp only [List.length_append] at f1
              omega
          omega
        obtain ⟨y, hy⟩ : ∃ y, y = mkS (fullT q) := ⟨_, rfl⟩
        have hyz : y.size ≤ 1000000 := by rw [hy, mk_size]; have := HCL.out; omega
        have hyy : bys y = fullT q := by rw [hy, bys_mk]
        rw [← hy] at hcq
        obtain ⟨qb, qn, qa⟩ := q
        obtain ⟨ua, un, uc⟩ := u
        simp only [FR.Tm.var, FR.Tm.name, SL.v] at c0 c1 c2 hcq
        have HCQ := Lib.hid hcq
        have HXX := Lib.hid hx
        have HYY := Lib.hid hyy
        have HXZ := Lib.hid hxz
        have HYZ := Lib.hid hyz
        have HB := Lib.hid hB
        by_cases hj0 : j = 0
        · rw [if_pos hj0] at f2
          have HFX := Lib.hid f2
          have hxx0 : bys x = bys nm ++ [40] := by rw [hx, hj0]; simp [fullC]
          have HXX := Lib.hid hxx0
          have hjp : ¬ (0 : Int) < (j : Int) := by omega
          clear hcq hx hxx0 hyy hxz hyz hB f1 f2 fm hu hz0 hp1 hq hy hj0
          go_wp2_with (fail)
          all_goals first | (exfalso; have h1 := HXZ.out; have h2 := HYZ.out; omega) | skip
          go_at_call 31
          with_reducible refine HCQ.out.mono ?_
          rintro e w2 ⟨rfl, hB2⟩
          have HB2 := Lib.hid hB2
          clear hB2
          go_wp2_with (fail)
          all_goals first | (exfalso; have h1 := HXZ.out; have h2 := HYZ.out; omega) | skip
          go_roundw
          case rel => exact ⟨j + 1, x ++ y, by omega, by go_num, rfl, by rw [HFX.out]; simp [bysC, HXX.out, HYY.out, show bys ⟨#[44]⟩ = [44] from rfl], HB.out.trans (HB2.out.mono HB.out.size)⟩
          case measure => simp [intOf]; omega
        · rw [if_neg hj0] at f2
          have HFX := Lib.hid f2
          have hjp : (0 : Int) < (j : Int) := by omega
          clear hcq hx hyy hxz hyz hB f1 f2 fm hu hz0 hp1 hq hy hj0
          go_wp2_with (fail)
          all_goals first | (exfalso; have h1 := HXZ.out; have h2 := HYZ.out; omega) | skip
          go_at_call 31
          with_reducible refine HCQ.out.mono ?_
          rintro e w2 ⟨rfl, hB2⟩
          have HB2 := Lib.hid hB2
          clear hB2
          go_wp2_with (fail)
          all_goals first | (exfalso; have h1 := HXZ.out; have h2 := HYZ.out; omega) | skip
          go_roundw
          case rel => exact ⟨j + 1, x ++ ⟨#[44]⟩ ++ y, by omega, by go_num, rfl, by rw [HFX.out]; simp [bysC, HXX.out, HYY.out, show bys ⟨#[44]⟩ = [44] from rfl], HB.out.trans (HB2.out.mono HB.out.size)⟩
          case measure => simp [intOf]; omega
      · obtain rfl : j = n2 := by omega
        have htk : args.take j = args := List.take_of_length_le (by rw [HN.out]; exact Nat.le_refl _)
        rw [htk] at hx
        have HB := Lib.hid (HW1.out.trans (hB.mono HW1.out.size))
        have hxz : x.size ≤ 1000000 := by
          have h1 := bys_len2 x
          rw [hx] at h1
          simp only [List.length_append, List.length_cons, List.length_nil] at h1
          have h2 := HCL.out
          omega
        have HXZ := Lib.hid hxz
        have HXX := Lib.hid hx
        clear hB hx hxz htk
        go_wp2_with (fail)
        all_goals first | (exfalso; have h1 := HXZ.out; omega) | skip
        go_ret
        refine ⟨?_, HB.out⟩
        have e : x ++ ⟨#[41]⟩ = mkS (bys x ++ [41]) := by
          rw [show (⟨#[41]⟩ : ByteArray) = mkS [41] from rfl]
          conv => lhs; rw [← mk_bys x]
          rw [mkS_app]
        rw [HOUT.out, HFT.out, ← HXX.out, e]
        rfl
mutual
theorem fullT_ok : ∀ t : Tm, FullTOk t
  | .mk b nm args => fullT_of b nm args (fullT_oks args)
theorem fullT_oks : ∀ l : List Tm, ∀ t ∈ l, FullTOk t
  | [], _, h => by cases h
  | x :: r, t, h => by
    rcases List.mem_cons.1 h with he | h
    · rw [he]; exact fullT_ok x
    · exact fullT_oks r t h
end
end Go.Proofs.YtdobflpbkfkmgaaDoor
