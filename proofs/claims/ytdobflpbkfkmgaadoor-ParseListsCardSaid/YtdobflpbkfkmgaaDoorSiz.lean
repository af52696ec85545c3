/- lyceumlaw02's size (35), Size (17), Small (10), at data of any size. psiz.py prints this text. -/
import Derived.Test.YtdobflpbkfkmgaaDoorSam
import Derived.Test.YtdobflpbkfkmgaaDoorEad
namespace Go.Proofs.YtdobflpbkfkmgaaDoor
open Go.RowKit Go.HK Go.FR
set_option linter.unusedVariables false
set_option linter.unusedSimpArgs false
set_option linter.unusedSectionVars false
/-- What a name adds. -/
def quN (s : ByteArray) : Int := IntKind.i64.wrap ((s.size : Int).tdiv 40)
mutual
def siT : Tm → Int → Int
  | .mk _ _ args, m => siTs args m 0
def siTs : List Tm → Int → Int → Int
  | [], m, n => n
  | t :: r, m, n => if n ≤ m then siTs r m (IntKind.i64.wrap (n + IntKind.i64.wrap (IntKind.i64.wrap (1 + quN t.name) + siT t (IntKind.i64.wrap (m - n))))) else n
end
mutual
def siF : Fm → Int → Int
  | .mk _ nm args subs, m => siFs subs m (IntKind.i64.wrap (IntKind.i64.wrap (1 + quN nm) + siTs args m 0))
def siFs : List Fm → Int → Int → Int
  | [], m, n => n
  | f :: r, m, n => if n ≤ m then siFs r m (IntKind.i64.wrap (n + siF f (IntKind.i64.wrap (m - n)))) else n
end
theorem siT_eq (t : Tm) (m : Int) : siT t m = siTs t.args m 0 := by cases t; unfold siT; rfl
theorem drop_one {α : Type} {l : List α} {j : Nat} {t : α} (h : l[j]? = some t) : l.drop j = t :: l.drop (j + 1) := by
  obtain ⟨h1, h2⟩ := List.getElem?_eq_some_iff.1 h
  rw [List.drop_eq_getElem_cons h1, h2]
def SizeOk (l : List Tm) : Prop := szA l → ∀ (w : World) (s : SL) (m : Int), IsTs (SN w) w s l → Calls Tryd.prog 35 #[s.v, .int .i64 m] w fun e w' => e = .returned (.int .i64 (siTs l m 0)) ∧ Below w.heap.size w w'
def SizFOk (f : Fm) : Prop := szF f → ∀ (w : World) (a s : SL) (m : Int), IsTs (SN w) w a f.args → IsFs (SN w) w s f.subs → Calls Tryd.prog 17 #[.agg #[.int .u8 (f.op : Int), .string f.name, a.v, s.v], .int .i64 m] w fun e w' => e = .returned (.int .i64 (siF f m)) ∧ Below w.heap.size w w'
set_option maxRecDepth 100000 in
set_option maxHeartbeats 4000000 in
theorem size_of (l : List Tm) (IH : ∀ t ∈ l, SizeOk t.args) : SizeOk l := by
  intro hz w s m hs
  have hn1 := hs.len
  obtain ⟨sa, n2, sc⟩ := s
  simp only at hn1
  simp only [SL.v]
  have hn6 : n2 ≤ 9223372036854775807 := by rw [hn1]; exact hz.1
  have HZ := Lib.hid hz
  have HS1 := Lib.hid hs
  have HIH := Lib.hid IH
  have HN := Lib.hid hn1
  obtain ⟨R, hR⟩ : ∃ R, R = siTs l m 0 := ⟨_, rfl⟩
  rw [← hR]
  have HR := Lib.hid hR
  clear hs IH hn1 hz hR
  go_enter Tryd.func35, Tryd.ntmps35
  go_wp2_with (fail)
  go_loopw [5, 6] (fun x i wr => ∃ (j : Nat) (nn : Int), j ≤ n2 ∧ i = .int .i64 j ∧ x = .int .i64 nn ∧ siTs (l.drop j) m nn = R ∧ Below w.heap.size w wr) (fun _ i _ => n2 - (intOf i).toNat)
  case atStart => exact ⟨0, 0, by omega, rfl, rfl, by rw [HR.out]; rfl, Below.refl _ _⟩
  case round =>
    obtain ⟨j, nn, hj, rfl, rfl, hE, hB⟩ := hrel
    have HE := Lib.hid hE
    clear hE
    by_cases hjn : (j : Int) < (n2 : Int)
    · have b0 : (0 : Int) ≤ (j : Int) := by omega
      obtain ⟨q, hq⟩ : ∃ q, l[j]? = some q := ⟨_, List.getElem?_eq_getElem (by rw [← HN.out]; omega)⟩
      have hdr := drop_one hq
      rcases hle : decide (nn ≤ m) with _ | _
      · have hnm : ¬ nn ≤ m := by simpa using hle
        have HF : Hid (R = nn) := Lib.hid (by rw [← HE.out, hdr]; unfold siTs; rw [if_neg hnm])
        have HB := Lib.hid hB
        clear hle hB hdr hq
        go_wp2_with (fail)
        go_ret
        exact ⟨by rw [HF.out]; rfl, HB.out⟩
      · have hnm : nn ≤ m := by simpa using hle
        have hp1 := HS1.out.turn (sn_up hB)
        obtain ⟨g1, o1, hga⟩ := ts_pos HS1.out (show 0 < n2 by omega)
        subst hga
        obtain ⟨u, c0, c1, c2, hu, hzz⟩ := ts_at hp1 hq
        have hcq := fun (W : World) (hW : Below wr.heap.size wr W) (m' : Int) => HIH.out q (List.mem_of_getElem? hq) (by have := szTs_mem HZ.out.2 (List.mem_of_getElem? hq); cases q; exact szT_args this) W u m' (hu.turn (sn_up hW))
        have HN2 : Hid (siTs (l.drop (j + 1)) m (IntKind.i64.wrap (nn + IntKind.i64.wrap (IntKind.i64.wrap (1 + quN q.name) + siTs q.args (IntKind.i64.wrap (m - nn)) 0))) = R) := Lib.hid (by
          rw [← HE.out, hdr]
          conv => rhs; unfold siTs
          rw [if_pos hnm, siT_eq])
        obtain ⟨qb, qn, qa⟩ := q
        obtain ⟨ua, un, uc⟩ := u
        simp only [FR.Tm.var, FR.Tm.name, FR.Tm.args, SL.v] at c0 c1 c2 hcq HN2
        have HC1 := Lib.hid c1
        have HC2 := Lib.hid c2
        have HCQ := Lib.hid hcq
        have HG1 := Lib.hid (World.block_lt_of_cell? wr ⟨g1, _, none⟩ c0)
        have HB := Lib.hid hB
        have HJ1 : Hid ((0 : Int) ≤ (j : Int) ∧ (j : Int) < (n2 : Int)) := Lib.hid ⟨b0, hjn⟩
        clear c0 c1 c2 hcq hu hzz hle hB hp1 hdr hq
        go_upto_region 5 with (fail)
        refine Go.RE.wp_region_eachh [18, 19, 20, 21, 22, 23, 24, 25, 26, 27, 28, 29, 30, 31, 32, 33, 34, 35, 36, 37, 5] (fun L x W => (Below wr.heap.size wr W) ∧ (L 0 = true → x 18 = .int .i64 (nn : Int)) ∧ (L 1 = true → x 19 = .slice (some ⟨g1, o1, none⟩) n2 sc) ∧ (L 2 = true → x 20 = .int .i64 (j : Int)) ∧ (L 3 = true → x 21 = .pointer (some ⟨g1, o1 + j * 3, none⟩)) ∧ (L 4 = true → x 22 = .pointer (some ⟨g1, o1 + j * 3 + 1, none⟩)) ∧ (L 5 = true → x 23 = .string qn) ∧ (L 6 = true → x 24 = .int .i64 (qn.size : Int)) ∧ (L 7 = true → x 25 = .int .i64 (quN qn)) ∧ (L 8 = true → x 26 = .int .i64 (IntKind.i64.wrap (1 + quN qn))) ∧ (L 9 = true → x 27 = .slice (some ⟨g1, o1, none⟩) n2 sc) ∧ (L 10 = true → x 28 = .int .i64 (j : Int)) ∧ (L 11 = true → x 29 = .pointer (some ⟨g1, o1 + j * 3, none⟩)) ∧ (L 12 = true → x 30 = .pointer (some ⟨g1, o1 + j * 3 + 2, none⟩)) ∧ (L 13 = true → x 31 = .slice ua un uc) ∧ (L 14 = true → x 32 = .int .i64 m) ∧ (L 15 = true → x 33 = .int .i64 (nn : Int)) ∧ (L 16 = true → x 34 = .int .i64 (IntKind.i64.wrap (m - nn))) ∧ (L 17 = true → x 35 = .int .i64 (siTs qa (IntKind.i64.wrap (m - nn)) 0)) ∧ (L 18 = true → x 36 = .int .i64 (IntKind.i64.wrap ((IntKind.i64.wrap (1 + quN qn)) + (siTs qa (IntKind.i64.wrap (m - nn)) 0)))) ∧ (L 19 = true → x 37 = .int .i64 (IntKind.i64.wrap (nn + IntKind.i64.wrap ((IntKind.i64.wrap (1 + quN qn)) + (siTs qa (IntKind.i64.wrap (m - nn)) 0))))) ∧ (L 20 = true → L 0 = true ∧ L 15 = true ∧ x 5 = .int .i64 (IntKind.i64.wrap (nn + IntKind.i64.wrap ((IntKind.i64.wrap (1 + quN qn)) + (siTs qa (IntKind.i64.wrap (m - nn)) 0)))))) (by kernel_rfl) (by kernel_rfl) (by kernel_rfl) ?_ ((Go.RE.Each.cons ?_ (Go.RE.Each.cons ?_ (Go.RE.Each.cons ?_ (Go.RE.Each.cons ?_ (Go.RE.Each.cons ?_ (Go.RE.Each.cons ?_ (Go.RE.Each.cons ?_ (Go.RE.Each.cons ?_ (Go.RE.Each.cons ?_ (Go.RE.Each.cons ?_ (Go.RE.Each.cons ?_ (Go.RE.Each.cons ?_ (Go.RE.Each.cons ?_ (Go.RE.Each.cons ?_ (Go.RE.Each.cons ?_ (Go.RE.Each.cons ?_ (Go.RE.Each.cons ?_ (Go.RE.Each.cons ?_ (Go.RE.Each.cons ?_ (Go.RE.Each.cons ?_ (Go.RE.Each.cons ?_ Go.RE.Each.nil)))))))))))))))))))))) ?_
        · exact fun x => ⟨bl_dr9 (Below.refl _ _), nofun, nofun, nofun, nofun, nofun, nofun, nofun, nofun, nofun, nofun, nofun, nofun, nofun, nofun, nofun, nofun, nofun, nofun, nofun, nofun, nofun⟩
        · intro L x a wR K hL hd hf hx hy hΦ hK
          obtain ⟨hI, f0, f1, f2, f3, f4, f5, f6, f7, f8, f9, f10, f11, f12, f13, f14, f15, f16, f17, f18, f19, f20⟩ := hΦ
          refine ⟨fun _ => ?_, fun h => absurd h (by rw [Go.RE.wanted_none rfl]; decide)⟩
          have hL20 : L 20 = false := by rcases e : L 20 with _ | _; rfl; have hh := f20 e; simp [hL] at hh
          have e5 : a.tmps[5]? = some (.int .i64 (nn : Int)) := hy 20 _ 5 rfl rfl hL20
          clear hf hx hd hy
          go_simp
          refine hK _ _ ?_
          exact ⟨hI, fun _ => rfl, f1, f2, f3, f4, f5, f6, f7, f8, f9, f10, f11, f12, f13, f14, f15, f16, f17, f18, f19, fun h => by have hh := f20 h; simp [hL] at hh⟩
        · intro L x a wR K hL hd hf hx hy hΦ hK
          obtain ⟨hI, f0, f1, f2, f3, f4, f5, f6, f7, f8, f9, f10, f11, f12, f13, f14, f15, f16, f17, f18, f19, f20⟩ := hΦ
          refine ⟨fun _ => ?_, fun h => absurd h (by rw [Go.RE.wanted_none rfl]; decide)⟩
          have e0 : a.tmps[0]? = some (.slice (some ⟨g1, o1, none⟩) n2 sc) := hf 0 (of_decide_eq_true (by kernel_rfl))
          clear hf hx hd hy
          go_simp
          refine hK _ _ ?_
          exact ⟨hI, f0, fun _ => rfl, f2, f3, f4, f5, f6, f7, f8, f9, f10, f11, f12, f13, f14, f15, f16, f17, f18, f19, f20⟩
        · intro L x a wR K hL hd hf hx hy hΦ hK
          obtain ⟨hI, f0, f1, f2, f3, f4, f5, f6, f7, f8, f9, f10, f11, f12, f13, f14, f15, f16, f17, f18, f19, f20⟩ := hΦ
          refine ⟨fun _ => ?_, fun h => absurd h (by rw [Go.RE.wanted_none rfl]; decide)⟩
          have e6 : a.tmps[6]? = some (.int .i64 (j : Int)) := hf 6 (of_decide_eq_true (by kernel_rfl))
          clear hf hx hd hy
          go_simp
          refine hK _ _ ?_
          exact ⟨hI, f0, f1, fun _ => rfl, f3, f4, f5, f6, f7, f8, f9, f10, f11, f12, f13, f14, f15, f16, f17, f18, f19, f20⟩
        · intro L x a wR K hL hd hf hx hy hΦ hK
          obtain ⟨hI, f0, f1, f2, f3, f4, f5, f6, f7, f8, f9, f10, f11, f12, f13, f14, f15, f16, f17, f18, f19, f20⟩ := hΦ
          refine ⟨fun _ => ?_, fun h => absurd h (by rw [Go.RE.wanted_none rfl]; decide)⟩
          have d1 := f1 (hd 1 (by kernel_rfl))
          have e19 : a.tmps[19]? = some (x 19) := hx 1 _ 19 rfl rfl (hd 1 (by kernel_rfl))
          rw [d1] at e19
          have d2 := f2 (hd 2 (by kernel_rfl))
          have e20 : a.tmps[20]? = some (x 20) := hx 2 _ 20 rfl rfl (hd 2 (by kernel_rfl))
          rw [d2] at e20
          have l1 := HJ1.out.1
          have l2 := HJ1.out.2
          clear hf hx hd hy
          go_simp
          refine hK _ _ ?_
          exact ⟨hI, f0, f1, f2, fun _ => rfl, f4, f5, f6, f7, f8, f9, f10, f11, f12, f13, f14, f15, f16, f17, f18, f19, f20⟩
        · intro L x a wR K hL hd hf hx hy hΦ hK
          obtain ⟨hI, f0, f1, f2, f3, f4, f5, f6, f7, f8, f9, f10, f11, f12, f13, f14, f15, f16, f17, f18, f19, f20⟩ := hΦ
          refine ⟨fun _ => ?_, fun h => absurd h (by rw [Go.RE.wanted_none rfl]; decide)⟩
          have d3 := f3 (hd 3 (by kernel_rfl))
          have e21 : a.tmps[21]? = some (x 21) := hx 3 _ 21 rfl rfl (hd 3 (by kernel_rfl))
          rw [d3] at e21
          clear hf hx hd hy
          go_simp
          refine hK _ _ ?_
          exact ⟨hI, f0, f1, f2, f3, fun _ => rfl, f5, f6, f7, f8, f9, f10, f11, f12, f13, f14, f15, f16, f17, f18, f19, f20⟩
        · intro L x a wR K hL hd hf hx hy hΦ hK
          obtain ⟨hI, f0, f1, f2, f3, f4, f5, f6, f7, f8, f9, f10, f11, f12, f13, f14, f15, f16, f17, f18, f19, f20⟩ := hΦ
          refine ⟨fun _ => ?_, fun h => absurd h (by rw [Go.RE.wanted_none rfl]; decide)⟩
          have d4 := f4 (hd 4 (by kernel_rfl))
          have e22 : a.tmps[22]? = some (x 22) := hx 4 _ 22 rfl rfl (hd 4 (by kernel_rfl))
          rw [d4] at e22
          have c1 := (hI.cell (p := ⟨g1, o1 + j * 3 + 1, none⟩) HG1.out).trans HC1.out
          clear hf hx hd hy
          go_simp
          refine hK _ _ ?_
          exact ⟨hI, f0, f1, f2, f3, f4, fun _ => rfl, f6, f7, f8, f9, f10, f11, f12, f13, f14, f15, f16, f17, f18, f19, f20⟩
        · intro L x a wR K hL hd hf hx hy hΦ hK
          obtain ⟨hI, f0, f1, f2, f3, f4, f5, f6, f7, f8, f9, f10, f11, f12, f13, f14, f15, f16, f17, f18, f19, f20⟩ := hΦ
          refine ⟨fun _ => ?_, fun h => absurd h (by rw [Go.RE.wanted_none rfl]; decide)⟩
          have d5 := f5 (hd 5 (by kernel_rfl))
          have e23 : a.tmps[23]? = some (x 23) := hx 5 _ 23 rfl rfl (hd 5 (by kernel_rfl))
          rw [d5] at e23
          clear hf hx hd hy
          go_simp
          refine hK _ _ ?_
          exact ⟨hI, f0, f1, f2, f3, f4, f5, fun _ => rfl, f7, f8, f9, f10, f11, f12, f13, f14, f15, f16, f17, f18, f19, f20⟩
        · intro L x a wR K hL hd hf hx hy hΦ hK
          obtain ⟨hI, f0, f1, f2, f3, f4, f5, f6, f7, f8, f9, f10, f11, f12, f13, f14, f15, f16, f17, f18, f19, f20⟩ := hΦ
          refine ⟨fun _ => ?_, fun h => absurd h (by rw [Go.RE.wanted_none rfl]; decide)⟩
          have d6 := f6 (hd 6 (by kernel_rfl))
          have e24 : a.tmps[24]? = some (x 24) := hx 6 _ 24 rfl rfl (hd 6 (by kernel_rfl))
          rw [d6] at e24
          clear hf hx hd hy
          go_simp
          refine hK _ _ ?_
          exact ⟨hI, f0, f1, f2, f3, f4, f5, f6, fun _ => rfl, f8, f9, f10, f11, f12, f13, f14, f15, f16, f17, f18, f19, f20⟩
        · intro L x a wR K hL hd hf hx hy hΦ hK
          obtain ⟨hI, f0, f1, f2, f3, f4, f5, f6, f7, f8, f9, f10, f11, f12, f13, f14, f15, f16, f17, f18, f19, f20⟩ := hΦ
          refine ⟨fun _ => ?_, fun h => absurd h (by rw [Go.RE.wanted_none rfl]; decide)⟩
          have d7 := f7 (hd 7 (by kernel_rfl))
          have e25 : a.tmps[25]? = some (x 25) := hx 7 _ 25 rfl rfl (hd 7 (by kernel_rfl))
          rw [d7] at e25
          clear hf hx hd hy
          go_simp
          refine hK _ _ ?_
          exact ⟨hI, f0, f1, f2, f3, f4, f5, f6, f7, fun _ => rfl, f9, f10, f11, f12, f13, f14, f15, f16, f17, f18, f19, f20⟩
        · intro L x a wR K hL hd hf hx hy hΦ hK
          obtain ⟨hI, f0, f1, f2, f3, f4, f5, f6, f7, f8, f9, f10, f11, f12, f13, f14, f15, f16, f17, f18, f19, f20⟩ := hΦ
          refine ⟨fun _ => ?_, fun h => absurd h (by rw [Go.RE.wanted_none rfl]; decide)⟩
          have e0 : a.tmps[0]? = some (.slice (some ⟨g1, o1, none⟩) n2 sc) := hf 0 (of_decide_eq_true (by kernel_rfl))
          clear hf hx hd hy
          go_simp
          refine hK _ _ ?_
          exact ⟨hI, f0, f1, f2, f3, f4, f5, f6, f7, f8, fun _ => rfl, f10, f11, f12, f13, f14, f15, f16, f17, f18, f19, f20⟩
        · intro L x a wR K hL hd hf hx hy hΦ hK
          obtain ⟨hI, f0, f1, f2, f3, f4, f5, f6, f7, f8, f9, f10, f11, f12, f13, f14, f15, f16, f17, f18, f19, f20⟩ := hΦ
          refine ⟨fun _ => ?_, fun h => absurd h (by rw [Go.RE.wanted_none rfl]; decide)⟩
          have e6 : a.tmps[6]? = some (.int .i64 (j : Int)) := hf 6 (of_decide_eq_true (by kernel_rfl))
          clear hf hx hd hy
          go_simp
          refine hK _ _ ?_
          exact ⟨hI, f0, f1, f2, f3, f4, f5, f6, f7, f8, f9, fun _ => rfl, f11, f12, f13, f14, f15, f16, f17, f18, f19, f20⟩
        · intro L x a wR K hL hd hf hx hy hΦ hK
          obtain ⟨hI, f0, f1, f2, f3, f4, f5, f6, f7, f8, f9, f10, f11, f12, f13, f14, f15, f16, f17, f18, f19, f20⟩ := hΦ
          refine ⟨fun _ => ?_, fun h => absurd h (by rw [Go.RE.wanted_none rfl]; decide)⟩
          have d9 := f9 (hd 9 (by kernel_rfl))
          have e27 : a.tmps[27]? = some (x 27) := hx 9 _ 27 rfl rfl (hd 9 (by kernel_rfl))
          rw [d9] at e27
          have d10 := f10 (hd 10 (by kernel_rfl))
          have e28 : a.tmps[28]? = some (x 28) := hx 10 _ 28 rfl rfl (hd 10 (by kernel_rfl))
          rw [d10] at e28
          have l1 := HJ1.out.1
          have l2 := HJ1.out.2
          clear hf hx hd hy
          go_simp
          refine hK _ _ ?_
          exact ⟨hI, f0, f1, f2, f3, f4, f5, f6, f7, f8, f9, f10, fun _ => rfl, f12, f13, f14, f15, f16, f17, f18, f19, f20⟩
        · intro L x a wR K hL hd hf hx hy hΦ hK
          obtain ⟨hI, f0, f1, f2, f3, f4, f5, f6, f7, f8, f9, f10, f11, f12, f13, f14, f15, f16, f17, f18, f19, f20⟩ := hΦ
          refine ⟨fun _ => ?_, fun h => absurd h (by rw [Go.RE.wanted_none rfl]; decide)⟩
          have d11 := f11 (hd 11 (by kernel_rfl))
          have e29 : a.tmps[29]? = some (x 29) := hx 11 _ 29 rfl rfl (hd 11 (by kernel_rfl))
          rw [d11] at e29
          clear hf hx hd hy
          go_simp
          refine hK _ _ ?_
          exact ⟨hI, f0, f1, f2, f3, f4, f5, f6, f7, f8, f9, f10, f11, fun _ => rfl, f13, f14, f15, f16, f17, f18, f19, f20⟩
        · intro L x a wR K hL hd hf hx hy hΦ hK
          obtain ⟨hI, f0, f1, f2, f3, f4, f5, f6, f7, f8, f9, f10, f11, f12, f13, f14, f15, f16, f17, f18, f19, f20⟩ := hΦ
          refine ⟨fun _ => ?_, fun h => absurd h (by rw [Go.RE.wanted_none rfl]; decide)⟩
          have d12 := f12 (hd 12 (by kernel_rfl))
          have e30 : a.tmps[30]? = some (x 30) := hx 12 _ 30 rfl rfl (hd 12 (by kernel_rfl))
          rw [d12] at e30
          have c2 := (hI.cell (p := ⟨g1, o1 + j * 3 + 2, none⟩) HG1.out).trans HC2.out
          clear hf hx hd hy
          go_simp
          refine hK _ _ ?_
          exact ⟨hI, f0, f1, f2, f3, f4, f5, f6, f7, f8, f9, f10, f11, f12, fun _ => rfl, f14, f15, f16, f17, f18, f19, f20⟩
        · intro L x a wR K hL hd hf hx hy hΦ hK
          obtain ⟨hI, f0, f1, f2, f3, f4, f5, f6, f7, f8, f9, f10, f11, f12, f13, f14, f15, f16, f17, f18, f19, f20⟩ := hΦ
          refine ⟨fun _ => ?_, fun h => absurd h (by rw [Go.RE.wanted_none rfl]; decide)⟩
          have e1 : a.tmps[1]? = some (.int .i64 m) := hf 1 (of_decide_eq_true (by kernel_rfl))
          clear hf hx hd hy
          go_simp
          refine hK _ _ ?_
          exact ⟨hI, f0, f1, f2, f3, f4, f5, f6, f7, f8, f9, f10, f11, f12, f13, fun _ => rfl, f15, f16, f17, f18, f19, f20⟩
        · intro L x a wR K hL hd hf hx hy hΦ hK
          obtain ⟨hI, f0, f1, f2, f3, f4, f5, f6, f7, f8, f9, f10, f11, f12, f13, f14, f15, f16, f17, f18, f19, f20⟩ := hΦ
          refine ⟨fun _ => ?_, fun h => absurd h (by rw [Go.RE.wanted_none rfl]; decide)⟩
          have hL20 : L 20 = false := by rcases e : L 20 with _ | _; rfl; have hh := f20 e; simp [hL] at hh
          have e5 : a.tmps[5]? = some (.int .i64 (nn : Int)) := hy 20 _ 5 rfl rfl hL20
          clear hf hx hd hy
          go_simp
          refine hK _ _ ?_
          exact ⟨hI, f0, f1, f2, f3, f4, f5, f6, f7, f8, f9, f10, f11, f12, f13, f14, fun _ => rfl, f16, f17, f18, f19, fun h => by have hh := f20 h; simp [hL] at hh⟩
        · intro L x a wR K hL hd hf hx hy hΦ hK
          obtain ⟨hI, f0, f1, f2, f3, f4, f5, f6, f7, f8, f9, f10, f11, f12, f13, f14, f15, f16, f17, f18, f19, f20⟩ := hΦ
          refine ⟨fun _ => ?_, fun h => absurd h (by rw [Go.RE.wanted_none rfl]; decide)⟩
          have d14 := f14 (hd 14 (by kernel_rfl))
          have e32 : a.tmps[32]? = some (x 32) := hx 14 _ 32 rfl rfl (hd 14 (by kernel_rfl))
          rw [d14] at e32
          have d15 := f15 (hd 15 (by kernel_rfl))
          have e33 : a.tmps[33]? = some (x 33) := hx 15 _ 33 rfl rfl (hd 15 (by kernel_rfl))
          rw [d15] at e33
          clear hf hx hd hy
          go_simp
          refine hK _ _ ?_
          exact ⟨hI, f0, f1, f2, f3, f4, f5, f6, f7, f8, f9, f10, f11, f12, f13, f14, f15, fun _ => rfl, f17, f18, f19, f20⟩
        · intro L x a wR K hL hd hf hx hy hΦ hK
          obtain ⟨hI, f0, f1, f2, f3, f4, f5, f6, f7, f8, f9, f10, f11, f12, f13, f14, f15, f16, f17, f18, f19, f20⟩ := hΦ
          refine ⟨fun _ => ?_, fun h => absurd h (by rw [Go.RE.wanted_none rfl]; decide)⟩
          have d13 := f13 (hd 13 (by kernel_rfl))
          have e31 : a.tmps[31]? = some (x 31) := hx 13 _ 31 rfl rfl (hd 13 (by kernel_rfl))
          rw [d13] at e31
          have d16 := f16 (hd 16 (by kernel_rfl))
          have e34 : a.tmps[34]? = some (x 34) := hx 16 _ 34 rfl rfl (hd 16 (by kernel_rfl))
          rw [d16] at e34
          clear hf hx hd hy
          go_simp
          go_at_call 35
          with_reducible refine (HCQ.out _ hI _).mono ?_
          rintro e w' ⟨rfl, hB8⟩
          simp only
          refine hK _ _ ?_
          exact ⟨hI.trans (hB8.mono hI.size), f0, f1, f2, f3, f4, f5, f6, f7, f8, f9, f10, f11, f12, f13, f14, f15, f16, fun _ => rfl, f18, f19, f20⟩
        · intro L x a wR K hL hd hf hx hy hΦ hK
          obtain ⟨hI, f0, f1, f2, f3, f4, f5, f6, f7, f8, f9, f10, f11, f12, f13, f14, f15, f16, f17, f18, f19, f20⟩ := hΦ
          refine ⟨fun _ => ?_, fun h => absurd h (by rw [Go.RE.wanted_none rfl]; decide)⟩
          have d8 := f8 (hd 8 (by kernel_rfl))
          have e26 : a.tmps[26]? = some (x 26) := hx 8 _ 26 rfl rfl (hd 8 (by kernel_rfl))
          rw [d8] at e26
          have d17 := f17 (hd 17 (by kernel_rfl))
          have e35 : a.tmps[35]? = some (x 35) := hx 17 _ 35 rfl rfl (hd 17 (by kernel_rfl))
          rw [d17] at e35
          clear hf hx hd hy
          go_simp
          refine hK _ _ ?_
          exact ⟨hI, f0, f1, f2, f3, f4, f5, f6, f7, f8, f9, f10, f11, f12, f13, f14, f15, f16, f17, fun _ => rfl, f19, f20⟩
        · intro L x a wR K hL hd hf hx hy hΦ hK
          obtain ⟨hI, f0, f1, f2, f3, f4, f5, f6, f7, f8, f9, f10, f11, f12, f13, f14, f15, f16, f17, f18, f19, f20⟩ := hΦ
          refine ⟨fun _ => ?_, fun h => absurd h (by rw [Go.RE.wanted_none rfl]; decide)⟩
          have d0 := f0 (hd 0 (by kernel_rfl))
          have e18 : a.tmps[18]? = some (x 18) := hx 0 _ 18 rfl rfl (hd 0 (by kernel_rfl))
          rw [d0] at e18
          have d18 := f18 (hd 18 (by kernel_rfl))
          have e36 : a.tmps[36]? = some (x 36) := hx 18 _ 36 rfl rfl (hd 18 (by kernel_rfl))
          rw [d18] at e36
          clear hf hx hd hy
          go_simp
          refine hK _ _ ?_
          exact ⟨hI, f0, f1, f2, f3, f4, f5, f6, f7, f8, f9, f10, f11, f12, f13, f14, f15, f16, f17, f18, fun _ => rfl, f20⟩
        · intro L x a wR K hL hd hf hx hy hΦ hK
          obtain ⟨hI, f0, f1, f2, f3, f4, f5, f6, f7, f8, f9, f10, f11, f12, f13, f14, f15, f16, f17, f18, f19, f20⟩ := hΦ
          refine ⟨fun _ => ?_, fun h => absurd h (by rw [Go.RE.wanted_none rfl]; decide)⟩
          have d19 := f19 (hd 19 (by kernel_rfl))
          have e37 : a.tmps[37]? = some (x 37) := hx 19 _ 37 rfl rfl (hd 19 (by kernel_rfl))
          rw [d19] at e37
          have r0 := hd 0 (by kernel_rfl)
          have r15 := hd 15 (by kernel_rfl)
          clear hf hx hd hy
          go_simp
          refine hK _ _ ?_
          exact ⟨hI, f0, f1, f2, f3, f4, f5, f6, f7, f8, f9, f10, f11, f12, f13, f14, f15, f16, f17, f18, f19, fun _ => ⟨r0, r15, rfl⟩⟩
        · rintro x W ⟨hI, f0, f1, f2, f3, f4, f5, f6, f7, f8, f9, f10, f11, f12, f13, f14, f15, f16, f17, f18, f19, f20⟩
          have hv := (f20 rfl).2.2
          have HBN := Lib.hid (HB.out.trans (hI.mono HB.out.size))
          clear hI
          simp only [Exit.then, Go.RE.fillL, List.any_cons, List.any_nil, Nat.beq, Bool.or_false, Bool.or_true, cond_true, cond_false, Bool.true_or, Bool.false_or]
          go_wp2_with (fail)
          go_roundw
          case rel => exact ⟨j + 1, _, by omega, by go_num, hv, HN2.out, HBN.out⟩
          case measure => simp [intOf]; omega
    · obtain rfl : j = n2 := by omega
      have HF : Hid (R = nn) := Lib.hid (by rw [← HE.out, List.drop_of_length_le (by rw [HN.out]; exact Nat.le_refl _)]; rfl)
      have HB := Lib.hid hB
      clear hB
      go_wp2_with (fail)
      go_ret
      exact ⟨by rw [HF.out]; rfl, HB.out⟩
mutual
theorem size_t : ∀ t : Tm, SizeOk t.args
  | .mk _ _ args => size_of args (size_l args)
theorem size_l : ∀ l : List Tm, ∀ t ∈ l, SizeOk t.args
  | [], _, h => by cases h
  | x :: r, t, h => by
    rcases List.mem_cons.1 h with he | h
    · rw [he]; exact size_t x
    · exact size_l r t h
end
theorem size_all (l : List Tm) : SizeOk l := size_of l (size_l l)
set_option maxRecDepth 100000 in
set_option maxHeartbeats 4000000 in
theorem sizf_of (op : Nat) (nm : ByteArray) (args : List Tm) (subs : List Fm) (IH : ∀ f ∈ subs, SizFOk f) : SizFOk (.mk op nm args subs) := by
  intro hz w a s m ha hs
  simp only [FR.Fm.op, FR.Fm.name, FR.Fm.args, FR.Fm.subs] at ha hs ⊢
  have hn1 := hs.len
  have hca := fun (W : World) (hW : Below w.heap.size w W) => size_all args (szF_args hz) W a m (ha.turn (sn_up hW))
  obtain ⟨aa, an, ac⟩ := a
  obtain ⟨sa, n2, sc⟩ := s
  simp only at hn1
  simp only [SL.v] at hca ⊢
  have hn6 : n2 ≤ 9223372036854775807 := by rw [hn1]; exact szF_len hz
  have HZ := Lib.hid (szF_subs hz)
  have HCA := Lib.hid hca
  have HS1 := Lib.hid hs
  have HIH := Lib.hid IH
  have HN := Lib.hid hn1
  obtain ⟨R, hR⟩ : ∃ R, R = siF (.mk op nm args subs) m := ⟨_, rfl⟩
  rw [← hR]
  have HR : Hid (R = siFs subs m (IntKind.i64.wrap (IntKind.i64.wrap (1 + quN nm) + siTs args m 0))) := Lib.hid (by rw [hR]; unfold siF; rfl)
  clear hs IH hn1 hz hR ha hca
  go_enter Tryd.func17, Tryd.ntmps17
  go_upto_region 1 with (fail)
  obtain ⟨w1, hw1⟩ : ∃ w1, w1 = w.alloc (.cells #[.int .u8 (op : Int), .string nm, .slice aa an ac, .slice sa n2 sc] 25) := ⟨_, rfl⟩
  have hB1 : Below w.heap.size w w1 := by rw [hw1]; exact (Below.refl _ w).alloc (Nat.le_refl _) _
  have k1 : w1.heap[w.heap.size]? = some (.cells #[.int .u8 (op : Int), .string nm, .slice aa an ac, .slice sa n2 sc] 25 (0, 0)) := by rw [hw1]; exact HK.blk_new _ _
  rw [← hw1]
  have HB1 := Lib.hid hB1
  have HK1 := Lib.hid k1
  clear k1 hw1 hB1
  obtain ⟨n0, hn0⟩ : ∃ n0, n0 = IntKind.i64.wrap (IntKind.i64.wrap (1 + quN nm) + siTs args m 0) := ⟨_, rfl⟩
  rw [← hn0] at HR
  have HN0 := Lib.hid hn0
  clear hn0
  go_cut [5] from 5 to 16 (fun v wx => v = .int .i64 n0 ∧ Below w1.heap.size w1 wx)
  case first =>
    refine Go.RE.wp_region_eachg [7, 8, 9, 10, 11, 12, 13, 14, 15, 16, 5] (fun L x W => (Below w1.heap.size w1 W) ∧ (L 0 = true → x 7 = .pointer (some ⟨w.heap.size, 1, none⟩)) ∧ (L 1 = true → x 8 = .string nm) ∧ (L 2 = true → x 9 = .int .i64 (nm.size : Int)) ∧ (L 3 = true → x 10 = .int .i64 (quN nm)) ∧ (L 4 = true → x 11 = .int .i64 (IntKind.i64.wrap (1 + quN nm))) ∧ (L 5 = true → x 12 = .pointer (some ⟨w.heap.size, 2, none⟩)) ∧ (L 6 = true → x 13 = .slice aa an ac) ∧ (L 7 = true → x 14 = .int .i64 m) ∧ (L 8 = true → x 15 = .int .i64 (siTs args m 0)) ∧ (L 9 = true → x 16 = .int .i64 (IntKind.i64.wrap (IntKind.i64.wrap (1 + quN nm) + (siTs args m 0)))) ∧ (L 10 = true → x 5 = .int .i64 (IntKind.i64.wrap (IntKind.i64.wrap (1 + quN nm) + (siTs args m 0))))) (by kernel_rfl) (by kernel_rfl) (by kernel_rfl) ?_ ((Go.RE.Each.cons ?_ (Go.RE.Each.cons ?_ (Go.RE.Each.cons ?_ (Go.RE.Each.cons ?_ (Go.RE.Each.cons ?_ (Go.RE.Each.cons ?_ (Go.RE.Each.cons ?_ (Go.RE.Each.cons ?_ (Go.RE.Each.cons ?_ (Go.RE.Each.cons ?_ (Go.RE.Each.cons ?_ Go.RE.Each.nil)))))))))))) ?_
    · exact fun x => ⟨bl_dr9 (Below.refl _ _), nofun, nofun, nofun, nofun, nofun, nofun, nofun, nofun, nofun, nofun, nofun⟩
    · intro L x a wR K hL hd hf hx hΦ hK
      obtain ⟨hI, f0, f1, f2, f3, f4, f5, f6, f7, f8, f9, f10⟩ := hΦ
      refine ⟨fun _ => ?_, fun h => absurd h (by rw [Go.RE.wanted_none rfl]; decide)⟩
      have e2 : a.tmps[2]? = some (.pointer (some ⟨w.heap.size, 0, none⟩)) := hf 2 (of_decide_eq_true (by kernel_rfl))
      clear hf hx hd
      go_simp
      refine hK _ _ ?_
      exact ⟨hI, fun _ => rfl, f1, f2, f3, f4, f5, f6, f7, f8, f9, f10⟩
    · intro L x a wR K hL hd hf hx hΦ hK
      obtain ⟨hI, f0, f1, f2, f3, f4, f5, f6, f7, f8, f9, f10⟩ := hΦ
      refine ⟨fun _ => ?_, fun h => absurd h (by rw [Go.RE.wanted_none rfl]; decide)⟩
      have d0 := f0 (hd 0 (by kernel_rfl))
      have e7 : a.tmps[7]? = some (x 7) := hx 0 _ 7 rfl rfl (hd 0 (by kernel_rfl))
      rw [d0] at e7
      have kb := (hI.block _ (HK.blk_lt HK1.out)).trans HK1.out
      have xb := HK.blk_cell kb 1
      clear hf hx hd
      go_simp
      refine hK _ _ ?_
      exact ⟨hI, f0, fun _ => rfl, f2, f3, f4, f5, f6, f7, f8, f9, f10⟩
    · intro L x a wR K hL hd hf hx hΦ hK
      obtain ⟨hI, f0, f1, f2, f3, f4, f5, f6, f7, f8, f9, f10⟩ := hΦ
      refine ⟨fun _ => ?_, fun h => absurd h (by rw [Go.RE.wanted_none rfl]; decide)⟩
      have d1 := f1 (hd 1 (by kernel_rfl))
      have e8 : a.tmps[8]? = some (x 8) := hx 1 _ 8 rfl rfl (hd 1 (by kernel_rfl))
      rw [d1] at e8
      clear hf hx hd
      go_simp
      refine hK _ _ ?_
      exact ⟨hI, f0, f1, fun _ => rfl, f3, f4, f5, f6, f7, f8, f9, f10⟩
    · intro L x a wR K hL hd hf hx hΦ hK
      obtain ⟨hI, f0, f1, f2, f3, f4, f5, f6, f7, f8, f9, f10⟩ := hΦ
      refine ⟨fun _ => ?_, fun h => absurd h (by rw [Go.RE.wanted_none rfl]; decide)⟩
      have d2 := f2 (hd 2 (by kernel_rfl))
      have e9 : a.tmps[9]? = some (x 9) := hx 2 _ 9 rfl rfl (hd 2 (by kernel_rfl))
      rw [d2] at e9
      clear hf hx hd
      go_simp
      refine hK _ _ ?_
      exact ⟨hI, f0, f1, f2, fun _ => rfl, f4, f5, f6, f7, f8, f9, f10⟩
    · intro L x a wR K hL hd hf hx hΦ hK
      obtain ⟨hI, f0, f1, f2, f3, f4, f5, f6, f7, f8, f9, f10⟩ := hΦ
      refine ⟨fun _ => ?_, fun h => absurd h (by rw [Go.RE.wanted_none rfl]; decide)⟩
      have d3 := f3 (hd 3 (by kernel_rfl))
      have e10 : a.tmps[10]? = some (x 10) := hx 3 _ 10 rfl rfl (hd 3 (by kernel_rfl))
      rw [d3] at e10
      clear hf hx hd
      go_simp
      refine hK _ _ ?_
      exact ⟨hI, f0, f1, f2, f3, fun _ => rfl, f5, f6, f7, f8, f9, f10⟩
    · intro L x a wR K hL hd hf hx hΦ hK
      obtain ⟨hI, f0, f1, f2, f3, f4, f5, f6, f7, f8, f9, f10⟩ := hΦ
      refine ⟨fun _ => ?_, fun h => absurd h (by rw [Go.RE.wanted_none rfl]; decide)⟩
      have e2 : a.tmps[2]? = some (.pointer (some ⟨w.heap.size, 0, none⟩)) := hf 2 (of_decide_eq_true (by kernel_rfl))
      clear hf hx hd
      go_simp
      refine hK _ _ ?_
      exact ⟨hI, f0, f1, f2, f3, f4, fun _ => rfl, f6, f7, f8, f9, f10⟩
    · intro L x a wR K hL hd hf hx hΦ hK
      obtain ⟨hI, f0, f1, f2, f3, f4, f5, f6, f7, f8, f9, f10⟩ := hΦ
      refine ⟨fun _ => ?_, fun h => absurd h (by rw [Go.RE.wanted_none rfl]; decide)⟩
      have d5 := f5 (hd 5 (by kernel_rfl))
      have e12 : a.tmps[12]? = some (x 12) := hx 5 _ 12 rfl rfl (hd 5 (by kernel_rfl))
      rw [d5] at e12
      have kb := (hI.block _ (HK.blk_lt HK1.out)).trans HK1.out
      have xb := HK.blk_cell kb 2
      clear hf hx hd
      go_simp
      refine hK _ _ ?_
      exact ⟨hI, f0, f1, f2, f3, f4, f5, fun _ => rfl, f7, f8, f9, f10⟩
    · intro L x a wR K hL hd hf hx hΦ hK
      obtain ⟨hI, f0, f1, f2, f3, f4, f5, f6, f7, f8, f9, f10⟩ := hΦ
      refine ⟨fun _ => ?_, fun h => absurd h (by rw [Go.RE.wanted_none rfl]; decide)⟩
      have e1 : a.tmps[1]? = some (.int .i64 m) := hf 1 (of_decide_eq_true (by kernel_rfl))
      clear hf hx hd
      go_simp
      refine hK _ _ ?_
      exact ⟨hI, f0, f1, f2, f3, f4, f5, f6, fun _ => rfl, f8, f9, f10⟩
    · intro L x a wR K hL hd hf hx hΦ hK
      obtain ⟨hI, f0, f1, f2, f3, f4, f5, f6, f7, f8, f9, f10⟩ := hΦ
      refine ⟨fun _ => ?_, fun h => absurd h (by rw [Go.RE.wanted_none rfl]; decide)⟩
      have d6 := f6 (hd 6 (by kernel_rfl))
      have e13 : a.tmps[13]? = some (x 13) := hx 6 _ 13 rfl rfl (hd 6 (by kernel_rfl))
      rw [d6] at e13
      have d7 := f7 (hd 7 (by kernel_rfl))
      have e14 : a.tmps[14]? = some (x 14) := hx 7 _ 14 rfl rfl (hd 7 (by kernel_rfl))
      rw [d7] at e14
      clear hf hx hd
      go_simp
      go_at_call 35
      with_reducible refine (HCA.out _ (HB1.out.trans (hI.mono HB1.out.size))).mono ?_
      rintro e w' ⟨rfl, hB8⟩
      simp only
      refine hK _ _ ?_
      exact ⟨hI.trans (hB8.mono hI.size), f0, f1, f2, f3, f4, f5, f6, f7, fun _ => rfl, f9, f10⟩
    · intro L x a wR K hL hd hf hx hΦ hK
      obtain ⟨hI, f0, f1, f2, f3, f4, f5, f6, f7, f8, f9, f10⟩ := hΦ
      refine ⟨fun _ => ?_, fun h => absurd h (by rw [Go.RE.wanted_none rfl]; decide)⟩
      have d4 := f4 (hd 4 (by kernel_rfl))
      have e11 : a.tmps[11]? = some (x 11) := hx 4 _ 11 rfl rfl (hd 4 (by kernel_rfl))
      rw [d4] at e11
      have d8 := f8 (hd 8 (by kernel_rfl))
      have e15 : a.tmps[15]? = some (x 15) := hx 8 _ 15 rfl rfl (hd 8 (by kernel_rfl))
      rw [d8] at e15
      clear hf hx hd
      go_simp
      refine hK _ _ ?_
      exact ⟨hI, f0, f1, f2, f3, f4, f5, f6, f7, f8, fun _ => rfl, f10⟩
    · intro L x a wR K hL hd hf hx hΦ hK
      obtain ⟨hI, f0, f1, f2, f3, f4, f5, f6, f7, f8, f9, f10⟩ := hΦ
      refine ⟨fun _ => ?_, fun h => absurd h (by rw [Go.RE.wanted_none rfl]; decide)⟩
      have d9 := f9 (hd 9 (by kernel_rfl))
      have e16 : a.tmps[16]? = some (x 16) := hx 9 _ 16 rfl rfl (hd 9 (by kernel_rfl))
      rw [d9] at e16
      clear hf hx hd
      go_simp
      refine hK _ _ ?_
      exact ⟨hI, f0, f1, f2, f3, f4, f5, f6, f7, f8, f9, fun _ => rfl⟩
    · rintro x W ⟨hI, f0, f1, f2, f3, f4, f5, f6, f7, f8, f9, f10⟩
      simp only [Exit.then]
      go_step
      go_meet
      exact ⟨by rw [HN0.out]; exact f10 rfl, hI⟩
  case rest =>
  obtain ⟨rfl, hB3⟩ := hcut
  have kr := (hB3.block _ (HK.blk_lt HK1.out)).trans HK1.out
  have HB3 := Lib.hid (HB1.out.trans (hB3.mono HB1.out.size))
  have bx3 := HK.blk_cell kr 3
  have HKR := Lib.hid kr
  clear kr hB3
  go_wp2_with (fail)
  go_loopw [5, 6] (fun x i wr => ∃ (j : Nat) (nn : Int), j ≤ n2 ∧ i = .int .i64 j ∧ x = .int .i64 nn ∧ siFs (subs.drop j) m nn = R ∧ Below wc.heap.size wc wr) (fun _ i _ => n2 - (intOf i).toNat)
  case atStart => exact ⟨0, n0, by omega, rfl, rfl, by rw [HR.out]; rfl, Below.refl _ _⟩
  case round =>
    obtain ⟨j, nn, hj, rfl, rfl, hE, hB⟩ := hrel
    have kr2 := (hB.block _ (HK.blk_lt HKR.out)).trans HKR.out
    have bx3 := HK.blk_cell kr2 3
    have HE := Lib.hid hE
    clear hE kr2
    by_cases hjn : (j : Int) < (n2 : Int)
    · have b0 : (0 : Int) ≤ (j : Int) := by omega
      obtain ⟨q, hq⟩ : ∃ q, subs[j]? = some q := ⟨_, List.getElem?_eq_getElem (by rw [← HN.out]; omega)⟩
      have hdr := drop_one hq
      rcases hle : decide (nn ≤ m) with _ | _
      · have hnm : ¬ nn ≤ m := by simpa using hle
        have HF : Hid (R = nn) := Lib.hid (by rw [← HE.out, hdr]; unfold siFs; rw [if_neg hnm])
        have HB := Lib.hid (HB3.out.trans (hB.mono HB3.out.size))
        clear hle hB hdr hq
        go_wp2_with (fail)
        go_ret
        exact ⟨by rw [HF.out]; rfl, HB.out⟩
      · have hnm : nn ≤ m := by simpa using hle
        have HB := Lib.hid (HB3.out.trans (hB.mono HB3.out.size))
        have hp1 := HS1.out.turn (sn_up HB.out)
        obtain ⟨g1, o1, hga⟩ := IsFs.pos HS1.out (show 0 < n2 by omega)
        subst hga
        obtain ⟨u, d, c0, c1, c2, c3, hu, hd, _⟩ := fs_at hp1 hq
        have hcq := fun (m' : Int) => HIH.out q (List.mem_of_getElem? hq) (szFs_mem HZ.out (List.mem_of_getElem? hq)) wr u d m' hu hd
        have HN2 : Hid (siFs (subs.drop (j + 1)) m (IntKind.i64.wrap (nn + siF q (IntKind.i64.wrap (m - nn)))) = R) := Lib.hid (by
          rw [← HE.out, hdr]
          conv => rhs; unfold siFs
          rw [if_pos hnm])
        obtain ⟨v, hv⟩ : ∃ v, v = siF q (IntKind.i64.wrap (m - nn)) := ⟨_, rfl⟩
        have hcq2 := hcq (IntKind.i64.wrap (m - nn))
        rw [← hv] at hcq2 HN2
        obtain ⟨qo, qn, qa, qs⟩ := q
        obtain ⟨ua, un, uc⟩ := u
        obtain ⟨da, dn, dc⟩ := d
        simp only [FR.Fm.op, FR.Fm.name, SL.v] at c0 c1 c2 c3 hcq2
        simp only [IntWalk.i64_left] at hcq2 HN2
        have HCQ := Lib.hid hcq2
        have HBR := Lib.hid hB
        clear hcq hcq2 hu hd hle hB hp1 hdr hq hv
        go_wp2_with (fail)
        go_at_call 17
        with_reducible refine HCQ.out.mono ?_
        rintro e w5 ⟨rfl, hB5⟩
        have HB5 := Lib.hid (HBR.out.trans (hB5.mono HBR.out.size))
        clear hB5
        go_wp2_with (fail)
        go_roundw
        case rel => exact ⟨j + 1, _, by omega, by go_num, rfl, HN2.out, HB5.out⟩
        case measure => simp [intOf]; omega
    · obtain rfl : j = n2 := by omega
      have HF : Hid (R = nn) := Lib.hid (by rw [← HE.out, List.drop_of_length_le (by rw [HN.out]; exact Nat.le_refl _)]; rfl)
      have HB := Lib.hid (HB3.out.trans (hB.mono HB3.out.size))
      clear hB
      go_wp2_with (fail)
      go_ret
      exact ⟨by rw [HF.out]; rfl, HB.out⟩
mutual
theorem sizf_t : ∀ f : Fm, SizFOk f
  | .mk op nm args subs => sizf_of op nm args subs (sizf_l subs)
theorem sizf_l : ∀ l : List Fm, ∀ f ∈ l, SizFOk f
  | [], _, h => by cases h
  | x :: r, t, h => by
    rcases List.mem_cons.1 h with he | h
    · rw [he]; exact sizf_t x
    · exact sizf_l r t h
end
set_option maxRecDepth 100000 in
set_option maxHeartbeats 4000000 in
theorem small_call (w : World) (s : SL) (l : List Fm) (hs : IsFs (SN w) w s l) (hz : l.length ≤ 9223372036854775807) (hz2 : szFs l) : Calls Tryd.prog 10 #[s.v] w fun e w' => e = .returned (.bool (decide (siFs l 500 0 ≤ 500))) ∧ Below w.heap.size w w' := by
  have hn1 := hs.len
  obtain ⟨sa, n2, sc⟩ := s
  simp only at hn1
  simp only [SL.v]
  have hn6 : n2 ≤ 9223372036854775807 := by rw [hn1]; exact hz
  have HZ := Lib.hid hz2
  have HS1 := Lib.hid hs
  have HN := Lib.hid hn1
  obtain ⟨R, hR⟩ : ∃ R, R = siFs l 500 0 := ⟨_, rfl⟩
  rw [← hR]
  have HR := Lib.hid hR
  clear hs hn1 hz hR hz2
  go_enter Tryd.func10, Tryd.ntmps10
  go_wp2_with (fail)
  go_loopw [3, 4] (fun x i wr => ∃ (j : Nat) (nn : Int), j ≤ n2 ∧ i = .int .i64 j ∧ x = .int .i64 nn ∧ siFs (l.drop j) 500 nn = R ∧ Below w.heap.size w wr) (fun _ i _ => n2 - (intOf i).toNat)
  case atStart => exact ⟨0, 0, by omega, rfl, rfl, by rw [HR.out]; rfl, Below.refl _ _⟩
  case round =>
    obtain ⟨j, nn, hj, rfl, rfl, hE, hB⟩ := hrel
    have HE := Lib.hid hE
    clear hE
    by_cases hjn : (j : Int) < (n2 : Int)
    · have b0 : (0 : Int) ≤ (j : Int) := by omega
      obtain ⟨q, hq⟩ : ∃ q, l[j]? = some q := ⟨_, List.getElem?_eq_getElem (by rw [← HN.out]; omega)⟩
      have hdr := drop_one hq
      rcases hle : decide (nn ≤ 500) with _ | _
      · have hnm : ¬ nn ≤ 500 := by simpa using hle
        have HF : Hid (R = nn) := Lib.hid (by rw [← HE.out, hdr]; unfold siFs; rw [if_neg hnm])
        have HB := Lib.hid hB
        clear hle hB hdr hq
        go_wp2_with (fail)
        go_ret
        exact ⟨by rw [HF.out, decide_eq_false (show ¬ nn ≤ 500 by omega)]; rfl, HB.out⟩
      · have hnm : nn ≤ 500 := by simpa using hle
        have HB := Lib.hid hB
        have hp1 := HS1.out.turn (sn_up HB.out)
        obtain ⟨g1, o1, hga⟩ := IsFs.pos HS1.out (show 0 < n2 by omega)
        subst hga
        obtain ⟨u, d, c0, c1, c2, c3, hu, hd, _⟩ := fs_at hp1 hq
        have hcq2 := sizf_t q (szFs_mem HZ.out (List.mem_of_getElem? hq)) wr u d (IntKind.i64.wrap (500 - nn)) hu hd
        have HN2 : Hid (siFs (l.drop (j + 1)) 500 (IntKind.i64.wrap (nn + siF q (IntKind.i64.wrap (500 - nn)))) = R) := Lib.hid (by
          rw [← HE.out, hdr]
          conv => rhs; unfold siFs
          rw [if_pos hnm])
        obtain ⟨v, hv⟩ : ∃ v, v = siF q (IntKind.i64.wrap (500 - nn)) := ⟨_, rfl⟩
        rw [← hv] at hcq2 HN2
        obtain ⟨qo, qn, qa, qs⟩ := q
        obtain ⟨ua, un, uc⟩ := u
        obtain ⟨da, dn, dc⟩ := d
        simp only [FR.Fm.op, FR.Fm.name, SL.v] at c0 c1 c2 c3 hcq2
        simp only [IntWalk.i64_left] at hcq2 HN2
        have HCQ := Lib.hid hcq2
        clear hcq2 hu hd hle hB hp1 hdr hq hv
        go_wp2_with (fail)
        go_at_call 17
        with_reducible refine HCQ.out.mono ?_
        rintro e w5 ⟨rfl, hB5⟩
        have HB5 := Lib.hid (HB.out.trans (hB5.mono HB.out.size))
        clear hB5
        go_wp2_with (fail)
        go_roundw
        case rel => exact ⟨j + 1, _, by omega, by go_num, rfl, HN2.out, HB5.out⟩
        case measure => simp [intOf]; omega
    · obtain rfl : j = n2 := by omega
      have HF : Hid (R = nn) := Lib.hid (by rw [← HE.out, List.drop_of_length_le (by rw [HN.out]; exact Nat.le_refl _)]; rfl)
      have HB := Lib.hid hB
      clear hB
      go_wp2_with (fail)
      all_goals (go_ret; exact ⟨by rw [HF.out]; first | rfl | (simp [*]; rfl), HB.out⟩)
end Go.Proofs.YtdobflpbkfkmgaaDoor
