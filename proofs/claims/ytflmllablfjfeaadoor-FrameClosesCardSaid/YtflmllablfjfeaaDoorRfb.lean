/- Frame: the reference's Fits (26) and Close (25); the program's Fits and Close where there is no relation. rfb.py prints this text. -/
import Derived.Test.YtflmllablfjfeaaDoorRfa
import Derived.Test.YtflmllablfjfeaaDoorFri
namespace Go.FR
open Go
/-- Is u wanted at w, by the worlds below k? -/
def wantK (c : Nat) (rel : List Nat) (w u : Nat) : Nat → Bool
  | 0 => (c.testBit 0 && decide (w = u)) || (c.testBit 2 && (rel.getD u 0).testBit w)
  | k + 1 => wantK c rel w u k || (c.testBit 1 && (rel.getD w 0).testBit k && (rel.getD k 0).testBit u)
theorem wantK_iff (c : Nat) (rel : List Nat) (w u : Nat) : ∀ k, wantK c rel w u k = true ↔ (c.testBit 0 = true ∧ w = u) ∨ (c.testBit 2 = true ∧ (rel.getD u 0).testBit w = true) ∨ (c.testBit 1 = true ∧ ∃ x, x < k ∧ (rel.getD w 0).testBit x = true ∧ (rel.getD x 0).testBit u = true)
  | 0 => by
    unfold wantK
    simp only [Bool.or_eq_true, Bool.and_eq_true, decide_eq_true_iff]
    constructor
    · rintro (h | h)
      · exact .inl h
      · exact .inr (.inl h)
    · rintro (h | h | ⟨_, x, hx, _⟩)
      · exact .inl h
      · exact .inr h
      · omega
  | k + 1 => by
    have ih := wantK_iff c rel w u k
    unfold wantK
    rw [Bool.or_eq_true, ih, Bool.and_eq_true, Bool.and_eq_true]
    constructor
    · rintro ((h | h | ⟨h, x, hx, h2⟩) | ⟨⟨h, h2⟩, h3⟩)
      · exact .inl h
      · exact .inr (.inl h)
      · exact .inr (.inr ⟨h, x, by omega, h2⟩)
      · exact .inr (.inr ⟨h, k, by omega, h2, h3⟩)
    · rintro (h | h | ⟨h, x, hx, h2, h3⟩)
      · exact .inl (.inl h)
      · exact .inl (.inr (.inl h))
      · by_cases e : x = k
        · subst e; exact .inr ⟨⟨h, h2⟩, h3⟩
        · exact .inl (.inr (.inr ⟨h, x, by omega, h2, h3⟩))
theorem want_need {c : Nat} {rel : List Nat} {w u : Nat} (hu : u < rel.length) : wantK c rel w u rel.length = true ↔ (needK c rel w 3).testBit u = true := by
  rw [wantK_iff, need_test, transK_test]
  unfold symK
  rw [maskN_test, Bool.and_eq_true, decide_eq_true_iff]
  constructor
  · rintro (⟨h, rfl⟩ | h | ⟨h, h2⟩)
    · exact .inl ⟨h, rfl⟩
    · exact .inr (.inr ⟨h.1, hu, h.2⟩)
    · exact .inr (.inl ⟨h, h2⟩)
  · rintro (⟨h, rfl⟩ | ⟨h, h2⟩ | ⟨h, _, h2⟩)
    · exact .inl ⟨h, rfl⟩
    · exact .inr (.inr ⟨h, h2⟩)
    · exact .inr (.inl ⟨h, h2⟩)
theorem add_bit (x u : Nat) (hx : x < 16) (hu : u < 4) (h : x.testBit u = false) : x + 1 <<< u = x ||| 1 <<< u ∧ x + 1 <<< u < 32 := by
  have key : ∀ x : Fin 16, ∀ u : Fin 4, x.val.testBit u.val = false → x.val + 1 <<< u.val = x.val ||| 1 <<< u.val ∧ x.val + 1 <<< u.val < 32 := by decide +kernel
  exact key ⟨x, hx⟩ ⟨u, hu⟩ h
theorem CloI.bit {c : Nat} {rel cur : List Nat} (h : CloI c rel cur) {w u : Nat} (hw : w < cur.length) (hu : u < cur.length) (hn : (needK c cur w 3).testBit u = true) : CloI c rel (cur.set w (cur.getD w 0 ||| 1 <<< u)) := by
  have hlk : (1 <<< u : Nat) < 2 ^ cur.length := lt_of_bits fun v hv => by
    rw [shl_test, decide_eq_true_iff] at hv
    omega
  have hcw : cur.getD w 0 < 2 ^ cur.length := by
    have hx : cur[w]? = some (cur.getD w 0) := by rw [List.getD_eq_getElem?_getD, List.getElem?_eq_getElem hw]; rfl
    exact h.ok.lt w _ hx
  refine ⟨by rw [List.length_set]; exact h.len, ⟨by rw [List.length_set]; exact h.ok.len, fun i s hs => ?_⟩, fun i u hu => ?_, fun S hl hS hf hs i u' hu' => ?_⟩
  · rw [List.length_set]
    rw [List.getElem?_set] at hs
    split at hs
    · first
        | (cases hs; exact Nat.or_lt_two_pow hcw hlk)
        | (split at hs
           · cases hs; exact Nat.or_lt_two_pow hcw hlk
           · cases hs)
    · exact h.ok.lt i s hs
  · rw [getD_setD _ _ _ _ hw]
    split
    · rename_i e; subst e
      rw [Nat.testBit_or, h.sub _ u hu]; rfl
    · exact h.sub i u hu
  · have hb := h.least S hl hS hf hs
    rw [getD_setD _ _ _ _ hw] at hu'
    split at hu'
    · rename_i e; subst e
      rw [Nat.testBit_or, Bool.or_eq_true] at hu'
      rcases hu' with hu' | hu'
      · exact hb _ _ hu'
      · rw [shl_test, decide_eq_true_iff] at hu'
        subst hu'
        have hf := hf i (by rw [hl, ← h.len]; exact hw)
        rw [need_test] at hn
        rcases hn with ⟨hc, rfl⟩ | ⟨hc, hv⟩ | ⟨hc, hv⟩
        · exact hf.1 hc
        · rw [transK_test] at hv
          obtain ⟨x, _, h3, h4⟩ := hv
          exact hf.2.1 hc x u' (hb _ _ h3) (hb _ _ h4)
        · unfold symK at hv
          rw [maskN_test, Bool.and_eq_true] at hv
          exact hf.2.2 hc u' (hb _ _ hv.2)
    · exact hb i u' hu'
theorem sum_bit {cur : List Nat} {w u : Nat} (hw : w < cur.length) (h : (cur.getD w 0).testBit u = false) : cur.sum < (cur.set w (cur.getD w 0 ||| 1 <<< u)).sum := by
  have h1 := sum_set cur w (cur.getD w 0 ||| 1 <<< u) hw
  have h2 := or_gt (a := cur.getD w 0) (b := 1 <<< u) (by rw [Nat.one_shiftLeft]; have := Nat.two_pow_pos u; omega) (fun v hv => by rw [shl_test, decide_eq_true_iff] at hv; subst hv; exact h)
  omega
theorem fits_want {c : Nat} {rel : List Nat} (hr : FrOk rel) (h : ∀ w u, w < rel.length → u < rel.length → wantK c rel w u rel.length = true → (rel.getD w 0).testBit u = true) : FitsP c rel := by
  intro w hw
  refine (lack_zero hr hw).1 ?_
  unfold lackS
  split
  · rfl
  · have h1 := need_lt (c := c) hr hw
    have hp := pow_le4 hr.len
    rw [andn_zero (by omega) (hr.lt32 w)]
    intro u hu
    have hul := bits_lt h1 hu
    exact h w u hw hul ((want_need hul).2 hu)
end Go.FR
namespace Go.Proofs.YtflmllablfjfeaaDoor
open Go.RowKit Go.HK Go.FR
set_option linter.unusedVariables false
set_option linter.unusedSimpArgs false
set_option linter.unusedSectionVars false
theorem own_zs {w : World} {b g c n : Nat} {xs : List Nat} (h : w.ownsRow b 3 1 (.slice (some ⟨g, 0, none⟩) n c) n (ints xs)) (hn : xs.length = n) : IsZs (fun k => k < w.heap.size) w ⟨some ⟨g, 0, none⟩, n, c⟩ (xs.map fun x : Nat => (x : Int)) :=
  ⟨by rw [List.length_map]; exact hn.symm, fun i u hu => ⟨g, 0, rfl, own_lt9 h g rfl, (isR_own h).z i u hu⟩⟩
theorem zs3_nat (xs : List Nat) : zs3 (xs.map fun x : Nat => (x : Int)) = ints xs := by simp [zs3, ints]
set_option maxRecDepth 100000 in
set_option maxHeartbeats 1000000 in
theorem rFits_no (w : World) (z : SL) (zs : List Int) (hz : IsZs (fun k => k < w.heap.size) w z zs) (hle : zs.length ≤ 2000) (c : Nat) (hc : c < 256) (hno : relB zs = false) : Calls Tryd.prog 26 #[z.v, .int .u8 (c : Int)] w (RetW w false) := by
  have h := rrelation_call w z zs hz hle
  rw [hno] at h
  unfold RetW at h
  have HH := Lib.hid h
  obtain ⟨za, n, zc⟩ := z
  simp only [SL.v] at HH ⊢
  clear h hz hle hno hc
  go_enter Tryd.func26, Tryd.ntmps26
  go_wp2_with (go_at_call 48; ((with_reducible refine HH.out.mono ?_); rintro e w1 ⟨rfl, hB1⟩))
  go_ret
  exact ⟨rfl, hB1⟩
set_option maxRecDepth 100000 in
set_option maxHeartbeats 1000000 in
theorem rFits_yes (w : World) (g o n cp : Nat) (rel : List Nat) (hR : IsR w g o rel) (hgw : g < w.heap.size) (hn : rel.length = n) (hok : FrOk rel) (h1 : 1 ≤ n) (c : Nat) (hc : c < 256) :
    Calls Tryd.prog 26 #[.slice (some ⟨g, o, none⟩) n cp, .int .u8 (c : Int)] w (RetW w (fitsB c rel)) := by
  have h := rrelation_call w ⟨some ⟨g, o, none⟩, n, cp⟩ (rel.map fun x : Nat => (x : Int)) ⟨by rw [List.length_map]; exact hn.symm, fun i x hx => ⟨g, o, rfl, hgw, hR.z i x hx⟩⟩ (by rw [List.length_map]; have := hok.len; omega)
  rw [frok_relB hok (by omega)] at h
  unfold RetW at h
  have HH := Lib.hid h
  have HF : Hid (∀ W, Below w.heap.size w W → Calls Tryd.prog 49 #[.slice (some ⟨g, o, none⟩) n cp, .int .u8 (c : Int)] W fun e w' => e = .returned (.bool (lackAll c rel n)) ∧ w' = W) := Lib.hid fun W hB => rfits_call W g o n cp rel (hR.below hB) hn hok c hc
  have hF : fitsB c rel = (decide (c ≤ 7) && lackAll c rel n) := by unfold fitsB; rw [hn]
  rw [hF]
  obtain ⟨sb, hsb⟩ : ∃ sb, sb = lackAll c rel n := ⟨_, rfl⟩
  rw [← hsb] at HF ⊢
  simp only [SL.v] at HH
  clear h hR hn hok hF hsb
  by_cases hc7 : c ≤ 7
  · have c1 : (c : Int) ≤ 7 := by omega
    rw [decide_eq_true hc7, Bool.true_and]
    clear hc7
    go_enter Tryd.func26, Tryd.ntmps26
    go_wp2_with (first
      | (go_at_call 48; ((with_reducible refine HH.out.mono ?_); rintro e w1 ⟨rfl, hB1⟩; have HB1 := Lib.hid hB1; clear hB1))
      | (go_at_call 49; ((with_reducible refine (HF.out _ HB1.out).mono ?_); rintro e w2 ⟨rfl, hw2⟩; have hw2 := hw2.symm; subst hw2)))
    go_ret
    exact ⟨rfl, HB1.out⟩
  · have c1 : ¬ (c : Int) ≤ 7 := by omega
    rw [decide_eq_false hc7, Bool.false_and]
    clear hc7
    go_enter Tryd.func26, Tryd.ntmps26
    go_wp2_with (go_at_call 48; ((with_reducible refine HH.out.mono ?_); rintro e w1 ⟨rfl, hB1⟩))
    go_ret
    exact ⟨rfl, hB1⟩
/-- No relation. -/
def RetNo (w : World) (e : Ending) (w' : World) : Prop := e = .returned (.tuple #[.slice none 0 0, .int .i64 2]) ∧ Below w.heap.size w w'
set_option maxRecDepth 100000 in
set_option maxHeartbeats 1000000 in
theorem rclose_no (w : World) (z : SL) (zs : List Int) (hz : IsZs (fun k => k < w.heap.size) w z zs) (hle : zs.length ≤ 2000) (c : Nat) (hc : c < 256) (hno : relB zs = false ∨ ¬ c ≤ 7) : Calls Tryd.prog 25 #[z.v, .int .u8 (c : Int)] w (RetNo w) := by
  have h := rrelation_call w z zs hz hle
  obtain ⟨rb, hrb⟩ : ∃ rb, rb = relB zs := ⟨_, rfl⟩
  rw [← hrb] at h hno
  unfold RetW at h
  have HH := Lib.hid h
  obtain ⟨za, n, zc⟩ := z
  simp only [SL.v] at HH ⊢
  clear h hz hle hc hrb
  rcases rb with _ | _
  · clear hno
    go_enter Tryd.func25, Tryd.ntmps25
    go_wp2_with (go_at_call 48; ((with_reducible refine HH.out.mono ?_); rintro e w1 ⟨rfl, hB1⟩))
    go_ret2
    exact ⟨rfl, hB1⟩
  · have c1 : (7 : Int) < (c : Int) := by
      rcases hno with h | h
      · cases h
      · omega
    clear hno
    go_enter Tryd.func25, Tryd.ntmps25
    go_wp2_with (go_at_call 48; ((with_reducible refine HH.out.mono ?_); rintro e w1 ⟨rfl, hB1⟩))
    go_ret2
    exact ⟨rfl, hB1⟩
set_option maxRecDepth 100000 in
set_option maxHeartbeats 1000000 in
theorem pclose_no (w : World) (g o n cp : Nat) (zs : List Int) (hz : IsZ w g o zs) (hn : zs.length = n) (c : Nat) (hc : c < 256) (hno : relB zs = false ∨ ¬ c ≤ 7) : Calls Tryd.prog 22 #[.slice (some ⟨g, o, none⟩) n cp, .int .u8 (c : Int)] w (RetNo w) := by
  have h := relation_call w g o n cp zs hz hn
  obtain ⟨rb, hrb⟩ : ∃ rb, rb = relB zs := ⟨_, rfl⟩
  rw [← hrb] at h hno
  have HH := Lib.hid h
  clear h hz hn hc hrb
  rcases rb with _ | _
  · clear hno
    go_enter Tryd.func22, Tryd.ntmps22
    go_wp2_with (go_at_call 41; ((with_reducible refine HH.out.mono ?_); rintro e w1 ⟨rfl, hw1⟩; have hw1 := hw1.symm; subst hw1))
    go_ret2
    exact ⟨rfl, Below.refl _ _⟩
  · have c1 : (7 : Int) < (c : Int) := by
      rcases hno with h | h
      · cases h
      · omega
    clear hno
    go_enter Tryd.func22, Tryd.ntmps22
    go_wp2_with (go_at_call 41; ((with_reducible refine HH.out.mono ?_); rintro e w1 ⟨rfl, hw1⟩; have hw1 := hw1.symm; subst hw1))
    go_ret2
    exact ⟨rfl, Below.refl _ _⟩
set_option maxRecDepth 100000 in
set_option maxHeartbeats 1000000 in
theorem pfits_no (w : World) (g o n cp : Nat) (zs : List Int) (hz : IsZ w g o zs) (hn : zs.length = n) (c : Nat) (hc : c < 256) (hno : relB zs = false) : Calls Tryd.prog 21 #[.slice (some ⟨g, o, none⟩) n cp, .int .u8 (c : Int)] w (RetW w false) := by
  have h := relation_call w g o n cp zs hz hn
  rw [hno] at h
  have HH := Lib.hid h
  clear h hz hn hc hno
  go_enter Tryd.func21, Tryd.ntmps21
  go_wp2_with (go_at_call 41; ((with_reducible refine HH.out.mono ?_); rintro e w1 ⟨rfl, hw1⟩; have hw1 := hw1.symm; subst hw1))
  go_ret
  exact ⟨rfl, Below.refl _ _⟩
set_option maxRecDepth 100000 in
set_option maxHeartbeats 16000000 in
theorem rclose_yes (w : World) (g0 o n cp0 : Nat) (rel : List Nat) (hR : IsR w g0 o rel) (hgw : g0 < w.heap.size) (hn : rel.length = n) (hok : FrOk rel) (h1 : 1 ≤ n) (c : Nat) (hc : c ≤ 7) :
    Calls Tryd.prog 25 #[.slice (some ⟨g0, o, none⟩) n cp0, .int .u8 (c : Int)] w (RetClo w c rel) := by
  have hzz : ∀ W, Below w.heap.size w W → IsZs (fun k => k < W.heap.size) W ⟨some ⟨g0, o, none⟩, n, cp0⟩ (rel.map fun x : Nat => (x : Int)) := fun W hB => ⟨by rw [List.length_map]; exact hn.symm, fun i x hx => ⟨g0, o, rfl, Nat.lt_of_lt_of_le hgw hB.size, (hR.below hB).z i x hx⟩⟩
  have h := rrelation_call w ⟨some ⟨g0, o, none⟩, n, cp0⟩ (rel.map fun x : Nat => (x : Int)) (hzz w (Below.refl _ _)) (by rw [List.length_map]; have := hok.len; omega)
  rw [frok_relB hok (by omega)] at h
  unfold RetW at h
  simp only [SL.v] at h
  have HH := Lib.hid h
  have HZZ := Lib.hid hzz
  have h4 : n ≤ 4 := by have := hok.len; omega
  have HN := Lib.hid hn
  have HOK := Lib.hid hok
  have HC := Lib.hid hc
  have c1 : ¬ (7 : Int) < (c : Int) := by omega
  obtain ⟨e0, e1, e2⟩ := u8_bits c (by omega)
  obtain ⟨x0, hx0⟩ : ∃ x, x = c.testBit 0 := ⟨_, rfl⟩
  obtain ⟨x1, hx1⟩ : ∃ x, x = c.testBit 1 := ⟨_, rfl⟩
  obtain ⟨x2, hx2⟩ : ∃ x, x = c.testBit 2 := ⟨_, rfl⟩
  rw [← hx0] at e0
  rw [← hx1] at e1
  rw [← hx2] at e2
  have HX0 := Lib.hid hx0
  have HX1 := Lib.hid hx1
  have HX2 := Lib.hid hx2
  clear h hzz hn hok hR hx0 hx1 hx2 hgw
  go_enter Tryd.func25, Tryd.ntmps25
  go_upto_region 3 with (go_at_call 48; ((with_reducible refine HH.out.mono ?_); rintro e w1 ⟨rfl, hB1⟩))
  have HB1 := Lib.hid hB1
  clear hB1
  go_wp2_with (at_builtin
               refine wpList_app_zs rfl _ _ rfl w1.heap.size 0 0 w.heap.size [] rfl (owns_mono (empty_row w1 3 1) HB1.out.size) ⟨some ⟨g0, o, none⟩, n, cp0⟩ (rel.map fun x : Nat => (x : Int)) rfl (HZZ.out _ (below_tr HB1.out (below_alloc w1 _))) (by rw [List.length_map, HN.out]; omega) (by have := HB1.out.size; simp; omega) ?_
               intro v3 w3 hown hgrow hat)
  rw [Nat.zero_add, List.nil_append, zs3_nat, List.length_map, HN.out] at hown
  obtain ⟨g, cp, rfl, hg, hgl⟩ := own_form9 hown (by omega)
  have HI0 : Hid (ClI w c rel g cp n rel w3) := Lib.hid ⟨CloI.start HOK.out, hown, (below_tr HB1.out (below_alloc w1 _)).grown hgrow (by have := HB1.out.size; simp; omega) (fun k hk => by have h2 : w1.heap.size = k := Option.some.inj hk; have := HB1.out.size; omega)⟩
  clear hown hgrow hat hg hgl
  go_loopw [] (fun wr => ∃ cur : List Nat, ClI w c rel g cp n cur wr) (fun wr => 64 - rowSum wr g n)
  case atStart => exact ⟨rel, HI0.out⟩
  case round =>
    obtain ⟨cur0, hI⟩ := hrel
    have hl0 : cur0.length = n := by have := hI.1.len; rw [HN.out] at this; exact this
    obtain ⟨wo, hwo⟩ : ∃ wo : World, wo = wr := ⟨_, rfl⟩
    subst hwo
    have hs0 : rowSum wo g n = cur0.sum := by rw [← hl0]; exact rowSum_own (isR_own hI.2.1)
    have hfc := rfits_call wo g 0 n cp cur0 (isR_own hI.2.1) hl0 hI.1.ok c (by omega)
    obtain ⟨fb, hfb⟩ : ∃ fb, fb = lackAll c cur0 n := ⟨_, rfl⟩
    rw [← hfb] at hfc
    have HFC := Lib.hid hfc
    have HFB := Lib.hid hfb
    have HS0 := Lib.hid hs0
    have HI := Lib.hid hI
    have HL0 := Lib.hid hl0
    clear hI hl0 hs0 hfc hfb
    rcases fb with _ | _
    · go_upto_region 5 with (go_at_call 49; ((with_reducible refine HFC.out.mono ?_); rintro e w2 ⟨rfl, hw2⟩; have hw2 := hw2.symm; subst hw2))
      go_wp2_with (fail)
      go_loopw [7] (fun i wr => ∃ (k : Nat) (cur : List Nat), k ≤ n ∧ i = .int .i64 k ∧ ClI w c rel g cp n cur wr ∧ ((cur = cur0 ∧ ∀ w' u', w' < k → u' < n → wantK c cur w' u' n = true → (cur.getD w' 0).testBit u' = true) ∨ cur0.sum < cur.sum)) (fun i _ => n - (intOf i).toNat)
      case atStart => exact ⟨0, cur0, by omega, rfl, HI.out, .inl ⟨rfl, fun _ _ h => by omega⟩⟩
      case round =>
        obtain ⟨k, cur, hk, rfl, hI, hP⟩ := hrel
        have HIk := Lib.hid hI
        have HP := Lib.hid hP
        clear hI hP
        by_cases hkn : (k : Int) < (n : Int)
        · have b0 : (0 : Int) ≤ (k : Int) := by omega
          go_wp2_with (fail)
          go_loopw [8] (fun i wr => ∃ (u : Nat) (cur : List Nat), u ≤ n ∧ i = .int .i64 u ∧ ClI w c rel g cp n cur wr ∧ ((cur = cur0 ∧ (∀ w' u', w' < k → u' < n → wantK c cur w' u' n = true → (cur.getD w' 0).testBit u' = true) ∧ ∀ u', u' < u → wantK c cur k u' n = true → (cur.getD k 0).testBit u' = true) ∨ cur0.sum < cur.sum)) (fun i _ => n - (intOf i).toNat)
          case atStart => exact ⟨0, cur, by omega, rfl, HIk.out, HP.out.imp (fun h => ⟨h.1, h.2, fun _ h => by omega⟩) id⟩
          case round =>
            obtain ⟨u, cur, hu, rfl, hI, hP⟩ := hrel
            have hlc : cur.length = n := by have := hI.1.len; rw [HN.out] at this; exact this
            have HIu := Lib.hid hI
            have HPu := Lib.hid hP
            have HLC := Lib.hid hlc
            have HSE : Hid (∀ i j : Nat, i < n → j < n → Calls Tryd.prog 50 #[.slice (some ⟨g, 0, none⟩) n cp, .int .i64 (i : Int), .int .i64 (j : Int)] wr fun e w' => e = .returned (.bool ((cur.getD i 0).testBit j)) ∧ w' = wr) := Lib.hid fun i j hi hj => sees_call wr g 0 n cp cur (isR_own hI.2.1) hlc i j hi (by omega)
            clear hI hP hlc
            by_cases hun : (u : Int) < (n : Int)
            · have b1 : (0 : Int) ≤ (u : Int) := by omega
              obtain ⟨s1, hs1⟩ : ∃ s, s = (cur.getD u 0).testBit k := ⟨_, rfl⟩
              have HS1 := HSE.out u k (by omega) (by omega)
              rw [← hs1] at HS1
              have HSA := Lib.hid HS1
              obtain ⟨dk, hdk⟩ : ∃ d, d = decide (k = u) := ⟨_, rfl⟩
              have ekk : ((k : Int) == (u : Int)) = dk := by
                rw [hdk]
                by_cases e : k = u
                · subst e; simp
                · have : ¬ (k : Int) = (u : Int) := by omega
                  simp [e, this]
              obtain ⟨wn, hwn⟩ : ∃ b, b = wantK c cur k u 0 := ⟨_, rfl⟩
              have HWN : Hid (wn = ((x0 && dk) || (x2 && s1))) := Lib.hid (by rw [hwn, HX0.out, HX2.out, hdk, hs1]; rfl)
              have HW0 := Lib.hid hwn
              clear HS1 hs1 hdk hwn
              go_upto_region 11 with (fail)
              go_cut [9] from 37 to 55 (fun v wx => v = .bool wn ∧ wx = wr)
              case first =>
                rcases x0 with _ | _
                · rcases x2 with _ | _
                  · go_wp2_with (fail)
                    go_meet
                    exact ⟨by rw [HWN.out]; rfl, rfl⟩
                  · go_wp2_with (go_at_call 50; ((with_reducible refine HSA.out.mono ?_); rintro e w1 ⟨rfl, hw1⟩; have hw1 := hw1.symm; subst hw1))
                    go_meet
                    exact ⟨by rw [HWN.out]; simp, rfl⟩
                · rcases dk with _ | _
                  · rcases x2 with _ | _
                    · go_wp2_with (fail)
                      go_meet
                      exact ⟨by rw [HWN.out]; rfl, rfl⟩
                    · go_wp2_with (go_at_call 50; ((with_reducible refine HSA.out.mono ?_); rintro e w1 ⟨rfl, hw1⟩; have hw1 := hw1.symm; subst hw1))
                      go_meet
                      exact ⟨by rw [HWN.out]; simp, rfl⟩
                  · go_wp2_with (fail)
                    go_meet
                    exact ⟨by rw [HWN.out]; rfl, rfl⟩
              case rest =>
                obtain ⟨rfl, hwc⟩ := hcut
                have hwc := hwc.symm
                subst hwc
                clear ekk HSA HWN
                go_wp2_with (fail)
                go_loopw [9, 10] (fun v i wq => ∃ (xq : Nat) (b : Bool), xq ≤ n ∧ v = .bool b ∧ i = .int .i64 xq ∧ b = wantK c cur k u xq ∧ wq = wr) (fun _ i _ => n - (intOf i).toNat)
                case atStart => exact ⟨0, wn, by omega, rfl, rfl, HW0.out, rfl⟩
                case round =>
                  obtain ⟨xq, b, hx, rfl, rfl, hb, rfl⟩ := hrel
                  have HBV := Lib.hid hb
                  clear hb
                  by_cases hxn : (xq : Int) < (n : Int)
                  · have b2 : (0 : Int) ≤ (xq : Int) := by omega
                    obtain ⟨s3, hs3⟩ : ∃ s, s = (cur.getD k 0).testBit xq := ⟨_, rfl⟩
                    obtain ⟨s4, hs4⟩ : ∃ s, s = (cur.getD xq 0).testBit u := ⟨_, rfl⟩
                    have HS3 := HSE.out k xq (by omega) (by omega)
                    have HS4 := HSE.out xq u (by omega) (by omega)
                    rw [← hs3] at HS3
                    rw [← hs4] at HS4
                    have HSC := Lib.hid HS3
                    have HSD := Lib.hid HS4
                    have HNX : Hid (wantK c cur k u (xq + 1) = (b || (x1 && s3 && s4))) := Lib.hid (by rw [HBV.out, hs3, hs4, HX1.out]; rfl)
                    clear HS3 HS4 hs3 hs4
                    rcases b with _ | _
                    · rcases x1 with _ | _
                      · go_wp2_with (fail)
                        go_roundw
                        case rel => exact ⟨xq + 1, _, by omega, rfl, by go_num, by rw [HNX.out]; rfl, by trivial⟩
                        case measure => simp [intOf]; omega
                      · rcases s3 with _ | _
                        · go_wp2_with (go_at_call 50; ((with_reducible refine HSC.out.mono ?_); rintro e w1 ⟨rfl, hw1⟩; have hw1 := hw1.symm; subst hw1))
                          go_roundw
                          case rel => exact ⟨xq + 1, _, by omega, rfl, by go_num, by rw [HNX.out]; rfl, by trivial⟩
                          case measure => simp [intOf]; omega
                        · go_wp2_with (first
                            | (go_at_call 50; ((with_reducible refine HSC.out.mono ?_); rintro e w1 ⟨rfl, hw1⟩; have hw1 := hw1.symm; subst hw1))
                            | (go_at_call 50; ((with_reducible refine HSD.out.mono ?_); rintro e w2 ⟨rfl, hw2⟩; have hw2 := hw2.symm; subst hw2)))
                          go_roundw
                          case rel => exact ⟨xq + 1, _, by omega, rfl, by go_num, by rw [HNX.out]; simp, by trivial⟩
                          case measure => simp [intOf]; omega
                    · go_wp2_with (fail)
                      go_roundw
                      case rel => exact ⟨xq + 1, _, by omega, rfl, by go_num, by rw [HNX.out]; rfl, by trivial⟩
                      case measure => simp [intOf]; omega
                  · obtain rfl : xq = n := by omega
                    have HQ := HSE.out k u (by omega) (by omega)
                    obtain ⟨s5, hs5⟩ : ∃ s, s = (cur.getD k 0).testBit u := ⟨_, rfl⟩
                    rw [← hs5] at HQ
                    have HSQ := Lib.hid HQ
                    have HS5 := Lib.hid hs5
                    clear HQ hs5
                    go_upto_region 16 with (fail)
                    go_cut [87] from 80 to 86 (fun v wx => v = .bool (b && !s5) ∧ wx = wr)
                    case first =>
                      rcases b with _ | _
                      · go_wp2_with (fail)
                        go_meet
                        exact ⟨rfl, rfl⟩
                      · go_wp2_with (go_at_call 50; ((with_reducible refine HSQ.out.mono ?_); rintro e w1 ⟨rfl, hw1⟩; have hw1 := hw1.symm; subst hw1))
                        go_meet
                        exact ⟨by simp, rfl⟩
                    case rest =>
                      obtain ⟨rfl, hwc⟩ := hcut
                      have hwc := hwc.symm
                      subst hwc
                      clear HSQ
                      obtain ⟨add, hadd⟩ : ∃ a, a = (b && !s5) := ⟨_, rfl⟩
                      rw [← hadd]
                      have HADD := Lib.hid hadd
                      clear hadd
                      rcases add with _ | _
                      · have HOKU : Hid (wantK c cur k u xq = true → (cur.getD k 0).testBit u = true) := Lib.hid fun h => by
                          have h2 := HADD.out
                          rw [HBV.out, h, Bool.true_and] at h2
                          rw [← HS5.out]
                          cases s5
                          · cases h2
                          · rfl
                        go_wp2_with (fail)
                        go_roundw
                        case rel => exact ⟨u + 1, cur, by omega, by go_num, HIu.out, HPu.out.imp (fun h => ⟨h.1, h.2.1, fun u' hu' hw => by
                          by_cases e : u' = u
                          · subst e; exact HOKU.out hw
                          · exact h.2.2 u' (by omega) hw⟩) id⟩
                        case measure => simp [intOf]; omega
                      · have h2 := HADD.out.symm
                        rw [Bool.and_eq_true, Bool.not_eq_true'] at h2
                        obtain ⟨hbt, hst⟩ := h2
                        have hs5 := HS5.out
                        rw [hst] at hs5
                        have hwk := HBV.out
                        rw [hbt] at hwk
                        obtain ⟨xr, hxr⟩ : ∃ xq, cur[k]? = some xq := ⟨_, List.getElem?_eq_getElem (by rw [HLC.out]; omega)⟩
                        have hgx := getD_get hxr
                        have hx16 : xr < 16 := by rw [← hgx]; exact HIu.out.1.ok.get k
                        rw [hgx] at hs5
                        have hab := add_bit xr u hx16 (by omega) hs5.symm
                        have fz1 := shl_wrap (k := u) (by omega)
                        obtain ⟨yr, hyr⟩ : ∃ y : Nat, y = 1 <<< u := ⟨_, rfl⟩
                        rw [← hyr] at hab fz1
                        obtain ⟨zr, hzr⟩ : ∃ z : Nat, z = xr + yr := ⟨_, rfl⟩
                        rw [← hzr] at hab
                        have HFZ := Lib.hid fz1
                        have HZR : Hid ((xr : Int) + (yr : Int) = (zr : Int) ∧ IntKind.i64.wrap (zr : Int) = (zr : Int)) := Lib.hid ⟨by omega, IntWalk.i64_in _ (by omega)⟩
                        have HST : Hid (CloI c rel (cur.set k zr) ∧ cur.sum < (cur.set k zr).sum) := Lib.hid (by
                          have q1 := HIu.out.1.bit (w := k) (u := u) (by rw [HLC.out]; omega) (by rw [HLC.out]; omega) ((want_need (by rw [HLC.out]; omega)).1 (by rw [HLC.out]; exact hwk.symm))
                          have q2 := sum_bit (cur := cur) (w := k) (u := u) (by rw [HLC.out]; omega) (by rw [hgx]; exact hs5.symm)
                          rw [hgx, ← hyr, ← hab.1] at q1 q2
                          exact ⟨q1, q2⟩)
                        have HK0 := Lib.hid b0
                        have HK1 := Lib.hid hkn
                        have HQN : Hid ((0 : Int) ≤ (u : Int)) := Lib.hid b1
                        have HMN : Hid (min u 64 = u) := Lib.hid (by omega)
                        have HXC : Hid (∀ W : World, W.ownsRow w.heap.size 3 1 (.slice (some ⟨g, 0, none⟩) xq cp) xq (ints cur) → W.cell? ⟨g, k, none⟩ = some (.int .i64 (xr : Int))) := Lib.hid fun W h => by have := isR_own h k xr hxr; rwa [Nat.zero_add] at this
                        have HGE := Lib.hid (own_ge HIu.out.2.1 g rfl)
                        have HOWN := Lib.hid HIu.out.2.1
                        have HBLW := Lib.hid HIu.out.2.2
                        clear hbt hst hs5 hwk hxr hgx hx16 hab fz1 hyr hzr
                        go_upto_region 17 with (fail)
                        refine Go.RE.wp_region_eachg [88, 89, 90, 91, 92, 93, 94, 95, 96, 97] (fun L x W => (HK.Frm (fun b => b = g) wr W ∧ (L 10 = false → W.ownsRow w.heap.size 3 1 (.slice (some ⟨g, 0, none⟩) xq cp) xq (ints cur))) ∧ (L 0 = true → x 88 = .slice (some ⟨g, 0, none⟩) xq cp) ∧ (L 1 = true → x 89 = .int .i64 (k : Int)) ∧ (L 2 = true → x 90 = .slice (some ⟨g, 0, none⟩) xq cp) ∧ (L 3 = true → x 91 = .int .i64 (k : Int)) ∧ (L 4 = true → x 92 = .pointer (some ⟨g, k, none⟩)) ∧ (L 5 = true → x 93 = .int .i64 (xr : Int)) ∧ (L 6 = true → x 94 = .int .i64 (u : Int)) ∧ (L 7 = true → x 95 = .int .i64 (yr : Int)) ∧ (L 8 = true → x 96 = .int .i64 (zr : Int)) ∧ (L 9 = true → x 97 = .pointer (some ⟨g, k, none⟩)) ∧ (L 10 = true → L 5 = true ∧ W.ownsRow w.heap.size 3 1 (.slice (some ⟨g, 0, none⟩) xq cp) xq (ints (cur.set k zr)))) (by kernel_rfl) (by kernel_rfl) (by kernel_rfl) ?_ ((Go.RE.Each.cons ?_ (Go.RE.Each.cons ?_ (Go.RE.Each.cons ?_ (Go.RE.Each.cons ?_ (Go.RE.Each.cons ?_ (Go.RE.Each.cons ?_ (Go.RE.Each.cons ?_ (Go.RE.Each.cons ?_ (Go.RE.Each.cons ?_ (Go.RE.Each.cons ?_ (Go.RE.Each.cons ?_ Go.RE.Each.nil)))))))))))) ?_
                        · exact fun x => ⟨⟨HK.Frm.drew (HK.Frm.refl _ _), fun _ => HOWN.out⟩, nofun, nofun, nofun, nofun, nofun, nofun, nofun, nofun, nofun, nofun, nofun⟩
                        · intro L x a wR K hL hd hf hx hΦ hK
                          obtain ⟨hI, f0, f1, f2, f3, f4, f5, f6, f7, f8, f9, f10⟩ := hΦ
                          refine ⟨fun _ => ?_, fun h => absurd h (by rw [Go.RE.wanted_none rfl]; decide)⟩
                          have e6 : a.tmps[6]? = some (.slice (some ⟨g, 0, none⟩) xq cp) := hf 6 (of_decide_eq_true (by kernel_rfl))
                          clear hf hx hd
                          go_simp
                          refine hK _ _ ?_
                          exact ⟨hI, fun _ => rfl, f1, f2, f3, f4, f5, f6, f7, f8, f9, f10⟩
                        · intro L x a wR K hL hd hf hx hΦ hK
                          obtain ⟨hI, f0, f1, f2, f3, f4, f5, f6, f7, f8, f9, f10⟩ := hΦ
                          refine ⟨fun _ => ?_, fun h => absurd h (by rw [Go.RE.wanted_none rfl]; decide)⟩
                          have e7 : a.tmps[7]? = some (.int .i64 (k : Int)) := hf 7 (of_decide_eq_true (by kernel_rfl))
                          clear hf hx hd
                          go_simp
                          refine hK _ _ ?_
                          exact ⟨hI, f0, fun _ => rfl, f2, f3, f4, f5, f6, f7, f8, f9, f10⟩
                        · intro L x a wR K hL hd hf hx hΦ hK
                          obtain ⟨hI, f0, f1, f2, f3, f4, f5, f6, f7, f8, f9, f10⟩ := hΦ
                          refine ⟨fun _ => ?_, fun h => absurd h (by rw [Go.RE.wanted_none rfl]; decide)⟩
                          have e6 : a.tmps[6]? = some (.slice (some ⟨g, 0, none⟩) xq cp) := hf 6 (of_decide_eq_true (by kernel_rfl))
                          clear hf hx hd
                          go_simp
                          refine hK _ _ ?_
                          exact ⟨hI, f0, f1, fun _ => rfl, f3, f4, f5, f6, f7, f8, f9, f10⟩
                        · intro L x a wR K hL hd hf hx hΦ hK
                          obtain ⟨hI, f0, f1, f2, f3, f4, f5, f6, f7, f8, f9, f10⟩ := hΦ
                          refine ⟨fun _ => ?_, fun h => absurd h (by rw [Go.RE.wanted_none rfl]; decide)⟩
                          have e7 : a.tmps[7]? = some (.int .i64 (k : Int)) := hf 7 (of_decide_eq_true (by kernel_rfl))
                          clear hf hx hd
                          go_simp
                          refine hK _ _ ?_
                          exact ⟨hI, f0, f1, f2, fun _ => rfl, f4, f5, f6, f7, f8, f9, f10⟩
                        · intro L x a wR K hL hd hf hx hΦ hK
                          obtain ⟨hI, f0, f1, f2, f3, f4, f5, f6, f7, f8, f9, f10⟩ := hΦ
                          refine ⟨fun _ => ?_, fun h => absurd h (by rw [Go.RE.wanted_none rfl]; decide)⟩
                          have d2 := f2 (hd 2 (by kernel_rfl))
                          have e90 : a.tmps[90]? = some (x 90) := hx 2 _ 90 rfl rfl (hd 2 (by kernel_rfl))
                          rw [d2] at e90
                          have d3 := f3 (hd 3 (by kernel_rfl))
                          have e91 : a.tmps[91]? = some (x 91) := hx 3 _ 91 rfl rfl (hd 3 (by kernel_rfl))
                          rw [d3] at e91
                          have l1 := HK0.out
                          have l2 := HK1.out
                          clear hf hx hd
                          go_simp
                          refine hK _ _ ?_
                          exact ⟨hI, f0, f1, f2, f3, fun _ => rfl, f5, f6, f7, f8, f9, f10⟩
                        · intro L x a wR K hL hd hf hx hΦ hK
                          obtain ⟨hI, f0, f1, f2, f3, f4, f5, f6, f7, f8, f9, f10⟩ := hΦ
                          refine ⟨fun _ => ?_, fun h => absurd h (by rw [Go.RE.wanted_none rfl]; decide)⟩
                          have d4 := f4 (hd 4 (by kernel_rfl))
                          have e92 : a.tmps[92]? = some (x 92) := hx 4 _ 92 rfl rfl (hd 4 (by kernel_rfl))
                          rw [d4] at e92
                          have hL10 : L 10 = false := by rcases e : L 10 with _ | _; rfl; exact absurd (f10 e).1 (by rw [hL]; decide)
                          have c := HXC.out _ (hI.2 hL10)
                          clear hf hx hd
                          go_simp
                          refine hK _ _ ?_
                          exact ⟨hI, f0, f1, f2, f3, f4, fun _ => rfl, f6, f7, f8, f9, fun h => by have hh := f10 h; simp [hL] at hh⟩
                        · intro L x a wR K hL hd hf hx hΦ hK
                          obtain ⟨hI, f0, f1, f2, f3, f4, f5, f6, f7, f8, f9, f10⟩ := hΦ
                          refine ⟨fun _ => ?_, fun h => absurd h (by rw [Go.RE.wanted_none rfl]; decide)⟩
                          have e8 : a.tmps[8]? = some (.int .i64 (u : Int)) := hf 8 (of_decide_eq_true (by kernel_rfl))
                          clear hf hx hd
                          go_simp
                          refine hK _ _ ?_
                          exact ⟨hI, f0, f1, f2, f3, f4, f5, fun _ => rfl, f7, f8, f9, f10⟩
                        · intro L x a wR K hL hd hf hx hΦ hK
                          obtain ⟨hI, f0, f1, f2, f3, f4, f5, f6, f7, f8, f9, f10⟩ := hΦ
                          refine ⟨fun _ => ?_, fun h => absurd h (by rw [Go.RE.wanted_none rfl]; decide)⟩
                          have d6 := f6 (hd 6 (by kernel_rfl))
                          have e94 : a.tmps[94]? = some (x 94) := hx 6 _ 94 rfl rfl (hd 6 (by kernel_rfl))
                          rw [d6] at e94
                          have fz1 := HFZ.out
                          have hmin := HMN.out
                          have q0 := HQN.out
                          clear hf hx hd
                          go_simp
                          refine hK _ _ ?_
                          exact ⟨hI, f0, f1, f2, f3, f4, f5, f6, fun _ => rfl, f8, f9, f10⟩
                        · intro L x a wR K hL hd hf hx hΦ hK
                          obtain ⟨hI, f0, f1, f2, f3, f4, f5, f6, f7, f8, f9, f10⟩ := hΦ
                          refine ⟨fun _ => ?_, fun h => absurd h (by rw [Go.RE.wanted_none rfl]; decide)⟩
                          have d5 := f5 (hd 5 (by kernel_rfl))
                          have e93 : a.tmps[93]? = some (x 93) := hx 5 _ 93 rfl rfl (hd 5 (by kernel_rfl))
                          rw [d5] at e93
                          have d7 := f7 (hd 7 (by kernel_rfl))
                          have e95 : a.tmps[95]? = some (x 95) := hx 7 _ 95 rfl rfl (hd 7 (by kernel_rfl))
                          rw [d7] at e95
                          have z1 := HZR.out.1
                          have z2 := HZR.out.2
                          clear hf hx hd
                          go_simp
                          refine hK _ _ ?_
                          exact ⟨hI, f0, f1, f2, f3, f4, f5, f6, f7, fun _ => rfl, f9, f10⟩
                        · intro L x a wR K hL hd hf hx hΦ hK
                          obtain ⟨hI, f0, f1, f2, f3, f4, f5, f6, f7, f8, f9, f10⟩ := hΦ
                          refine ⟨fun _ => ?_, fun h => absurd h (by rw [Go.RE.wanted_none rfl]; decide)⟩
                          have d0 := f0 (hd 0 (by kernel_rfl))
                          have e88 : a.tmps[88]? = some (x 88) := hx 0 _ 88 rfl rfl (hd 0 (by kernel_rfl))
                          rw [d0] at e88
                          have d1 := f1 (hd 1 (by kernel_rfl))
                          have e89 : a.tmps[89]? = some (x 89) := hx 1 _ 89 rfl rfl (hd 1 (by kernel_rfl))
                          rw [d1] at e89
                          have l1 := HK0.out
                          have l2 := HK1.out
                          clear hf hx hd
                          go_simp
                          refine hK _ _ ?_
                          exact ⟨hI, f0, f1, f2, f3, f4, f5, f6, f7, f8, fun _ => rfl, f10⟩
                        · intro L x a wR K hL hd hf hx hΦ hK
                          obtain ⟨hI, f0, f1, f2, f3, f4, f5, f6, f7, f8, f9, f10⟩ := hΦ
                          refine ⟨fun _ => ?_, fun h => absurd h (by rw [Go.RE.wanted_none rfl]; decide)⟩
                          have d9 := f9 (hd 9 (by kernel_rfl))
                          have e97 : a.tmps[97]? = some (x 97) := hx 9 _ 97 rfl rfl (hd 9 (by kernel_rfl))
                          rw [d9] at e97
                          have d8 := f8 (hd 8 (by kernel_rfl))
                          have e96 : a.tmps[96]? = some (x 96) := hx 8 _ 96 rfl rfl (hd 8 (by kernel_rfl))
                          rw [d8] at e96
                          have r5 := hd 5 (by kernel_rfl)
                          have c := HXC.out _ (hI.2 hL)
                          have cf := fun i => (hI.2 hL).frozenAt i
                          clear hf hx hd
                          go_simp
                          refine hK undef _ ?_
                          exact ⟨⟨hI.1.setCell (.inl rfl) _, (fun h => by cases h)⟩, f0, f1, f2, f3, f4, f5, f6, f7, f8, f9, fun _ => ⟨r5, by rw [ints_set]; exact ((hI.2 hL).stored k (.int .i64 (zr : Int))).1⟩⟩
                        · rintro x W ⟨hI, f0, f1, f2, f3, f4, f5, f6, f7, f8, f9, f10⟩
                          have HNE : Hid (ClI w c rel g cp xq (cur.set k zr) W) := Lib.hid ⟨HST.out.1, (f10 rfl).2, HBLW.out.trans (hI.1.below HBLW.out.size (fun b e => by have := HGE.out; omega))⟩
                          clear hI f0 f1 f2 f3 f4 f5 f6 f7 f8 f9 f10
                          simp only [Exit.then, Go.RE.fillL, List.any_cons, List.any_nil, Nat.beq, Bool.or_false, Bool.or_true, cond_true, cond_false, Bool.true_or, Bool.false_or]
                          go_wp2_with (fail)
                          go_roundw
                          case rel => exact ⟨u + 1, cur.set k zr, by omega, by go_num, HNE.out, .inr (by
                            have hs := HST.out.2
                            rcases HPu.out with h | h
                            · rw [← h.1]; exact hs
                            · exact Nat.lt_trans h hs)⟩
                          case measure => simp [intOf]; omega
            · obtain rfl : u = n := by omega
              go_wp2_with (fail)
              go_roundw
              case rel => exact ⟨k + 1, cur, by omega, by go_num, HIu.out, HPu.out.imp (fun h => ⟨h.1, fun w' u' hw' hu' hw => by
                by_cases e : w' = k
                · subst e; exact h.2.2 u' hu' hw
                · exact h.2.1 w' u' (by omega) hu' hw⟩) id⟩
              case measure => simp [intOf]; omega
        · obtain rfl : k = n := by omega
          have hlc : cur.length = k := by have := HIk.out.1.len; rw [HN.out] at this; exact this
          have HS1 : Hid (rowSum wr g k = cur.sum) := Lib.hid (by rw [← hlc]; exact rowSum_own (isR_own HIk.out.2.1))
          have HLE := Lib.hid HIk.out.1.ok.sum_le
          have HGR : Hid (cur0.sum < cur.sum) := Lib.hid (by
            rcases HP.out with ⟨rfl, h⟩ | h
            · exfalso
              have hf : FitsP c cur := fits_want HIk.out.1.ok fun w' u' hw' hu' hw => h w' u' (by omega) (by omega) (by rw [hlc] at hw; exact hw)
              have := (lackAll_iff HIk.out.1.ok).2 hf
              rw [hlc, ← HFB.out] at this
              cases this
            · exact h)
          clear hlc
          go_wp2_with (fail)
          go_roundw
          case rel => exact ⟨cur, HIk.out⟩
          case measure =>
            rw [HS0.out, HS1.out]
            have h5 := HLE.out
            have h6 := HGR.out
            omega
    · have HFI : Hid (FitsP c cur0) := Lib.hid ((lackAll_iff HI.out.1.ok).1 (by rw [HL0.out]; exact HFB.out.symm))
      go_wp2_with (go_at_call 49; ((with_reducible refine HFC.out.mono ?_); rintro e w2 ⟨rfl, hw2⟩; have hw2 := hw2.symm; subst hw2))
      go_ret2
      exact ⟨cur0, _, rfl, ⟨HI.out.1, HFI.out⟩, by rw [HL0.out]; exact HI.out.2.1, HI.out.2.2⟩
end Go.Proofs.YtflmllablfjfeaaDoor
