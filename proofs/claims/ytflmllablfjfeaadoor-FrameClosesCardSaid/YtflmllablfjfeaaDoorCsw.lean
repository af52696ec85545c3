/- Frame: the walk of FrameCloses (6). -/
import Derived.Test.YtflmllablfjfeaaDoorRfb
import Derived.Test.YtflmllablfjfeaaDoorPli
namespace Go.Proofs.YtflmllablfjfeaaDoor
open Go.RowKit Go.HK Go.FR
set_option linter.unusedVariables false
set_option linter.unusedSimpArgs false
set_option linter.unusedSectionVars false
theorem over_lent {w : World} {b g n c : Nat} {xs : List Value} (h : w.ownsRow b 3 1 (.slice (some ⟨g, 0, none⟩) (n + 12) c) (n + 12) xs) (hle : n ≤ 2000) : Calls Tryd.prog 24 #[.slice (some ⟨g, 0, none⟩) n c] w (RetOv w (.slice (some ⟨g, 0, none⟩) n c)) := by
  rcases h.2 with ⟨h0, _⟩ | ⟨g', cap, cur, hv, _, hh, h1, h2, h3, _⟩
  · cases h0
  · cases hv
    exact over_row w g n c cur (by omega) hle h2 (by rw [h3, Nat.mul_one]) hh
theorem own_isz {W : World} {b n : Nat} {v : Value} {xs : List Nat} (h : W.ownsRow b 3 1 v n (ints xs)) : ∃ s : SL, v = s.v ∧ IsZs (fun _ => True) W s (xs.map fun x : Nat => (x : Int)) := by
  have hl := h.1
  rw [ints_len, Nat.mul_one] at hl
  rcases h.2 with ⟨rfl, h0⟩ | ⟨g, c, cur, rfl, _⟩
  · obtain rfl : xs = [] := List.eq_nil_of_length_eq_zero (by omega)
    exact ⟨⟨none, 0, 0⟩, rfl, rfl, fun i x hx => by simp at hx⟩
  · exact ⟨⟨some ⟨g, 0, none⟩, n, c⟩, rfl, by rw [List.length_map]; exact hl.symm, fun i u hu => ⟨g, 0, rfl, trivial, (isR_own h).z i u hu⟩⟩
theorem same_own9 {W : World} {b b' n m : Nat} {v v' : Value} {xs : List Nat} (h : W.ownsRow b 3 1 v n (ints xs)) (h' : W.ownsRow b' 3 1 v' m (ints xs)) (hl : xs.length ≤ 100) : Calls Tryd.prog 27 #[v, v'] W (RetW W true) := by
  obtain ⟨s, rfl, hs⟩ := own_isz h
  obtain ⟨t, rfl, ht⟩ := own_isz h'
  have := same_call W s t _ _ hs ht (by rw [List.length_map]; omega)
  rw [decide_eq_true rfl] at this
  exact this
/-- What Close answers: a list, by a property, and an error. -/
def RetCz (W : World) (Q : List Nat → Prop) (er : Int) (e : Ending) (w' : World) : Prop := ∃ (out : List Nat) (v0 : Option Addr) (v1 v2 : Nat), Q out ∧ e = .returned (.tuple #[.slice v0 v1 v2, .int .i64 er]) ∧ w'.ownsRow W.heap.size 3 1 (.slice v0 v1 v2) out.length (ints out) ∧ Below W.heap.size W w'
theorem retC_no {W : World} {e : Ending} {w' : World} (h : RetNo W e w') : RetCz W (fun l => l = []) 2 e w' := ⟨[], none, 0, 0, rfl, h.1, World.ownsRow_nil _ _ _ _, h.2⟩
theorem retC_yes {W : World} {c : Nat} {rel : List Nat} {e : Ending} {w' : World} (h : RetClo W c rel e w') : RetCz W (CloP c rel) 0 e w' := by
  obtain ⟨out, v, h1, h2, h3, h4⟩ := h
  obtain ⟨v0, v1, v2, rfl⟩ : ∃ v0 v1 v2, v = .slice v0 v1 v2 := by
    rcases h3.2 with ⟨rfl, _⟩ | ⟨g, c, cur, rfl, _⟩
    · exact ⟨_, _, _, rfl⟩
    · exact ⟨_, _, _, rfl⟩
  exact ⟨out, v0, v1, v2, h2, h1, h3, h4⟩
set_option maxRecDepth 100000 in
set_option maxHeartbeats 8000000 in
/-- The law, where the answers are known. -/
theorem closes_of (w : World) (z : SL) (zs : List Int) (c : Nat) (hrw : IsRows w) (hz : IsZs (fun k => k < w.heap.size) w z zs) (hle : zs.length ≤ 20) (hc : c < 256) (fb : Bool) (Q : List Nat → Prop) (er : Int)
    (hF : ∀ W g n cp b, Below w.heap.size w W → W.ownsRow b 3 1 (.slice (some ⟨g, 0, none⟩) (n + 12) cp) (n + 12) (zs3 zs ++ marks 12) → zs.length = n → Calls Tryd.prog 21 #[.slice (some ⟨g, 0, none⟩) n cp, .int .u8 (c : Int)] W fun e w' => e = .returned (.bool fb) ∧ Below W.heap.size W w')
    (hCl : ∀ W g n cp b, Below w.heap.size w W → W.ownsRow b 3 1 (.slice (some ⟨g, 0, none⟩) (n + 12) cp) (n + 12) (zs3 zs ++ marks 12) → zs.length = n → Calls Tryd.prog 22 #[.slice (some ⟨g, 0, none⟩) n cp, .int .u8 (c : Int)] W (RetCz W Q er))
    (hR : ∀ W, Below w.heap.size w W → Calls Tryd.prog 26 #[z.v, .int .u8 (c : Int)] W fun e w' => e = .returned (.bool fb) ∧ Below W.heap.size W w')
    (hRC : ∀ W, Below w.heap.size w W → Calls Tryd.prog 25 #[z.v, .int .u8 (c : Int)] W (RetCz W Q er)) (hU : ∀ a b, Q a → Q b → a = b) (hQ : ∀ a, Q a → a.length ≤ 100) :
    Calls Tryd.prog 6 #[z.v, .int .u8 (c : Int)] w (RetW w true) := by
  have hl := hz.1
  have hle1 := lent_call w z zs hz (by omega)
  unfold RetLe at hle1
  have HLE := Lib.hid hle1
  have HZ : Hid (∀ W, Below w.heap.size w W → IsZs (fun k => k < W.heap.size) W z zs) := Lib.hid fun W hB => hz.turn fun k hk => ⟨Nat.lt_of_lt_of_le hk hB.size, hB.block k hk⟩
  have HZL := Lib.hid hle
  have HF := Lib.hid hF
  unfold RetCz at hCl hRC
  have HCL := Lib.hid hCl
  have HR := Lib.hid hR
  have HRC := Lib.hid hRC
  have HU := Lib.hid hU
  have HQ := Lib.hid hQ
  have HRW := Lib.hid hrw
  have HAW : Hid (∀ W, Below w.heap.size w W → Calls Tryd.prog 12 #[] W fun e w' => e = .returned (.bool true) ∧ Below W.heap.size W w') := Lib.hid fun W hB => awake_call W (hrw.below hB)
  have HKP : Hid (∀ W g c b, Below w.heap.size w W → W.ownsRow b 3 1 (.slice (some ⟨g, 0, none⟩) (zs.length + 12) c) (zs.length + 12) (zs3 zs ++ marks 12) → Calls Tryd.prog 23 #[.slice (some ⟨g, 0, none⟩) zs.length c, z.v] W fun e w' => e = .returned (.bool true) ∧ Below W.heap.size W w') := Lib.hid fun W g c b hB ho => kept_call W g c b z zs (hz.turn fun k hk => ⟨Nat.lt_of_lt_of_le hk hB.size, hB.block k hk⟩) (by omega) ho
  obtain ⟨za, n, zc⟩ := z
  simp only [] at hl
  subst hl
  simp only [SL.v] at HLE HKP HR HRC ⊢
  have hl20 : ¬ (20 : Int) < (zs.length : Int) := by omega
  obtain ⟨n, hn⟩ : ∃ n, n = zs.length := ⟨_, rfl⟩
  rw [← hn] at hl20
  simp only [← hn] at HLE HKP HR HRC ⊢
  have HN := Lib.hid hn.symm
  clear hrw hz hle hle1 hF hCl hR hRC hU hQ hn
  go_enter Tryd.func6, Tryd.ntmps6
  go_upto_region 4 with (go_at_call 20; ((with_reducible refine HLE.out.mono ?_); rintro e w1 ⟨g, cp, rfl, ho1, hB1⟩))
  have HG : Hid (w.heap.size ≤ g ∧ g < w1.heap.size) := Lib.hid (by obtain ⟨g', c', e, h1, h2⟩ := own_form9 ho1 (by omega); cases e; exact ⟨h1, h2⟩)
  have HO1 := Lib.hid ho1
  have HB1 := Lib.hid hB1
  have hfit := HF.out w1 g n cp _ hB1 ho1 HN.out
  have HFI := Lib.hid hfit
  clear ho1 hB1 hfit
  go_upto_region 5 with (go_at_call 21; ((with_reducible refine HFI.out.mono ?_); rintro e w2 ⟨rfl, hB2⟩))
  have HB2 := Lib.hid (below_tr HB1.out hB2)
  have HO2 := Lib.hid (own_below9 HO1.out hB2)
  have hcl := HCL.out w2 g n cp _ HB2.out HO2.out HN.out
  have HCC := Lib.hid hcl
  have HG2 : Hid (g < w2.heap.size) := Lib.hid (Nat.lt_of_lt_of_le HG.out.2 hB2.size)
  clear hB2 hcl
  go_upto_region 6 with (go_at_call 22; ((with_reducible refine HCC.out.mono ?_); rintro e w3 ⟨out, v0, v1, v2, hq, rfl, ho3, hB3⟩))
  have HB3 := Lib.hid (below_tr HB2.out hB3)
  have HO3 := Lib.hid (own_below9 HO2.out hB3)
  have HV3 := Lib.hid ho3
  have HQ3 := Lib.hid hq
  have HKC := Lib.hid (HKP.out w3 g cp _ HB3.out HO3.out)
  have HVG : Hid (∀ b, Value.ownBlock (.slice v0 v1 v2) = some b → ¬ b = g) := Lib.hid fun b hb e => by have := own_ge ho3 b hb; have := HG2.out; omega
  clear hq ho3 hB3
  go_upto_region 8 with (go_at_call 23; ((with_reducible refine HKC.out.mono ?_); rintro e w4 ⟨rfl, hB4⟩))
  have HB4 := Lib.hid (below_tr HB3.out hB4)
  have HO4 := Lib.hid (own_below9 HO3.out hB4)
  have HV4 := Lib.hid (own_below9 HV3.out hB4)
  have hov := over_lent HO4.out (by have := HZL.out; have := HN.out; omega)
  unfold RetOv at hov
  have HOV := Lib.hid hov
  clear hB4 hov
  go_upto_region 9 with (go_at_call 24; ((with_reducible refine HOV.out.mono ?_); rintro e w5 ⟨rfl, hF5⟩))
  have hF6 : HK.Frm (fun b => b = g) w4 w5 := hF5.mono fun b e => by simpa [Value.ownBlock] using e.symm
  have HB5 : Hid (Below w.heap.size w w5) := Lib.hid (HB4.out.trans (hF6.below HB4.out.size fun b e => by have := HG.out.1; omega))
  have HV5 := Lib.hid (hF6.owns HV4.out (fun b hb e => HVG.out b hb e))
  have HRC5 := Lib.hid (HRC.out w5 HB5.out)
  clear hF5 hF6
  go_upto_region 10 with (go_at_call 25; ((with_reducible refine HRC5.out.mono ?_); rintro e w6 ⟨out', y0, y1, y2, hq, rfl, ho6, hB6⟩))
  have HB6 := Lib.hid (below_tr HB5.out hB6)
  have heq := HU.out _ _ HQ3.out hq
  subst heq
  have HV6 := Lib.hid (own_below9 HV5.out hB6)
  have HY6 := Lib.hid ho6
  have HR6 := Lib.hid (HR.out w6 HB6.out)
  have hql := HQ.out _ hq
  have HQL := Lib.hid hql
  clear hB6 ho6 hq hql
  go_wp2_with (first
    | (go_at_call 26; ((with_reducible refine HR6.out.mono ?_); rintro e w7 ⟨rfl, hB7⟩)
       have HB7 := Lib.hid (below_tr HB6.out hB7)
       have HS7 := Lib.hid (same_own9 (own_below9 HV6.out hB7) (own_below9 HY6.out hB7) HQL.out)
       unfold RetW at HS7
       clear hB7)
    | (go_at_call 27; ((with_reducible refine HS7.out.mono ?_); rintro e w8 ⟨rfl, hB8⟩)
       have HB8 := Lib.hid (below_tr HB7.out hB8)
       have HA8 := Lib.hid (HAW.out w8 HB8.out)
       clear hB8)
    | (go_at_call 12; ((with_reducible refine HA8.out.mono ?_); rintro e w9 ⟨rfl, hB9⟩)))
  go_ret
  exact ⟨rfl, below_tr HB8.out hB9⟩
theorem lent_z {W : World} {b g n cp : Nat} {zs : List Int} (h : W.ownsRow b 3 1 (.slice (some ⟨g, 0, none⟩) (n + 12) cp) (n + 12) (zs3 zs ++ marks 12)) (hn : zs.length = n) : IsZ W g 0 zs := fun i x hx => by
  have hi := (List.getElem?_eq_some_iff.1 hx).1
  rw [Nat.zero_add, h.cellAt i (by omega), List.getElem?_append_left (by rw [zs3_len]; exact hi), zs3, List.getElem?_map, hx]; rfl
set_option maxRecDepth 100000 in
set_option maxHeartbeats 1000000 in
theorem closes_long (w : World) (za : Option Addr) (n zc c : Nat) (hrw : IsRows w) (hn : 20 < n) : Calls Tryd.prog 6 #[.slice za n zc, .int .u8 (c : Int)] w (RetW w true) := by
  have h20 : (20 : Int) < (n : Int) := by omega
  have h := awake_call w hrw
  unfold RetW at h
  have HH := Lib.hid h
  clear h hrw hn
  go_enter Tryd.func6, Tryd.ntmps6
  go_wp2_with (go_at_call 12; ((with_reducible refine HH.out.mono ?_); rintro e w1 ⟨rfl, hB1⟩))
  go_ret
  exact ⟨rfl, hB1⟩
/-- The law. -/
theorem closes_walk (w : World) (z : SL) (zs : List Int) (c : Nat) (hrw : IsRows w) (hz : IsZs (fun k => k < w.heap.size) w z zs) (hc : c < 256) : Calls Tryd.prog 6 #[z.v, .int .u8 (c : Int)] w (RetW w true) := by
  have hl := hz.1
  by_cases h20 : 20 < z.n
  · exact closes_long w z.a z.n z.c c hrw h20
  have hle : zs.length ≤ 20 := by omega
  have hzW : ∀ W, Below w.heap.size w W → IsZs (fun k => k < W.heap.size) W z zs := fun W hB => hz.turn fun k hk => ⟨Nat.lt_of_lt_of_le hk hB.size, hB.block k hk⟩
  rcases hb : relB zs with _ | _
  · refine closes_of w z zs c hrw hz hle hc false (fun l => l = []) 2 (fun W g n cp b hB ho hn => pfits_no W g 0 n cp zs (lent_z ho hn) hn c hc hb) (fun W g n cp b hB ho hn => (pclose_no W g 0 n cp zs (lent_z ho hn) hn c hc (.inl hb)).mono fun _ _ h => retC_no h) (fun W hB => rFits_no W z zs (hzW W hB) (by omega) c hc hb) (fun W hB => (rclose_no W z zs (hzW W hB) (by omega) c hc (.inl hb)).mono fun _ _ h => retC_no h) (fun a b ha hb => ha.trans hb.symm) (fun a ha => by rw [ha]; simp)
  · obtain ⟨rel, rfl, hok, h1⟩ := relB_frok hb
    rw [List.length_map] at hl hle
    obtain ⟨g0, o0, hza⟩ := hz.pos (by rw [hl]; exact h1)
    obtain ⟨za, zn, zc⟩ := z
    simp only [] at hza hl h20
    subst hza
    have hgw : g0 < w.heap.size := by
      obtain ⟨g', o', e, hs, _⟩ := hz.2 0 _ (List.getElem?_eq_getElem (show 0 < (rel.map fun x : Nat => (x : Int)).length by rw [List.length_map]; omega))
      cases e; exact hs
    have hR : ∀ W, Below w.heap.size w W → IsR W g0 o0 rel := fun W hB => (hzW W hB).z.r
    have hgW : ∀ W, Below w.heap.size w W → g0 < W.heap.size := fun W hB => Nat.lt_of_lt_of_le hgw hB.size
    have hlr : ∀ {W : World} {b g n cp : Nat}, W.ownsRow b 3 1 (.slice (some ⟨g, 0, none⟩) (n + 12) cp) (n + 12) (zs3 (rel.map fun x : Nat => (x : Int)) ++ marks 12) → (rel.map fun x : Nat => (x : Int)).length = n → IsR W g 0 rel ∧ rel.length = n := fun ho hn => ⟨(lent_z ho hn).r, by rw [List.length_map] at hn; exact hn⟩
    have hFp : ∀ W g n cp b, Below w.heap.size w W → W.ownsRow b 3 1 (.slice (some ⟨g, 0, none⟩) (n + 12) cp) (n + 12) (zs3 (rel.map fun x : Nat => (x : Int)) ++ marks 12) → (rel.map fun x : Nat => (x : Int)).length = n → Calls Tryd.prog 21 #[.slice (some ⟨g, 0, none⟩) n cp, .int .u8 (c : Int)] W fun e w' => e = .returned (.bool (fitsB c rel)) ∧ Below W.heap.size W w' := fun W g n cp b hB ho hn => fits_call W g 0 n cp rel (hlr ho hn).1 (hlr ho hn).2 hok (by have := (hlr ho hn).2; omega) c hc
    have hRf : ∀ W, Below w.heap.size w W → Calls Tryd.prog 26 #[.slice (some ⟨g0, o0, none⟩) zn zc, .int .u8 (c : Int)] W fun e w' => e = .returned (.bool (fitsB c rel)) ∧ Below W.heap.size W w' := fun W hB => rFits_yes W g0 o0 zn zc rel (hR W hB) (hgW W hB) hl.symm hok (by omega) c hc
    by_cases hc7 : c ≤ 7
    · exact closes_of w ⟨some ⟨g0, o0, none⟩, zn, zc⟩ _ c hrw hz (by rw [List.length_map]; omega) hc (fitsB c rel) (CloP c rel) 0 hFp (fun W g n cp b hB ho hn => (close_yes W g 0 n cp rel (hlr ho hn).1 (hlr ho hn).2 hok (by have := (hlr ho hn).2; omega) c hc7).mono fun _ _ h => retC_yes h) hRf (fun W hB => (rclose_yes W g0 o0 zn zc rel (hR W hB) (hgW W hB) hl.symm hok (by omega) c hc7).mono fun _ _ h => retC_yes h) (fun a b ha hb => ha.unique hb) (fun a ha => by have := ha.i.ok.len; omega)
    · exact closes_of w ⟨some ⟨g0, o0, none⟩, zn, zc⟩ _ c hrw hz (by rw [List.length_map]; omega) hc (fitsB c rel) (fun l => l = []) 2 hFp (fun W g n cp b hB ho hn => (pclose_no W g 0 n cp _ (lent_z ho hn) hn c hc (.inr hc7)).mono fun _ _ h => retC_no h) hRf (fun W hB => (rclose_no W ⟨some ⟨g0, o0, none⟩, zn, zc⟩ _ (hzW W hB) (by rw [List.length_map]; omega) c hc (.inr hc7)).mono fun _ _ h => retC_no h) (fun a b ha hb => ha.trans hb.symm) (fun a ha => by rw [ha]; simp)
end Go.Proofs.YtflmllablfjfeaaDoor
