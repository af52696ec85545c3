/- Frame: the walk of Made (19). frv.py prints this text. -/
import Derived.Test.YtflmllablfjfeaaDoorFru
namespace Go.Proofs.YtflmllablfjfeaaDoor
open Go.RowKit Go.HK Go.FR
set_option linter.unusedVariables false
set_option linter.unusedSimpArgs false
set_option linter.unusedSectionVars false
theorem ev {a : Act} {t : Nat} {v : Value} (h : a.tmps[t]? = some v) : a.eval (.tmp t) = v := by simp [Act.eval, h]
/-- The seven numbers. -/
def sevenV (F : Nat → Nat) : Array Value := #[.int .u8 (F 0 : Nat), .int .u8 (F 1 : Nat), .int .u8 (F 2 : Nat), .int .u8 (F 3 : Nat), .int .u8 (F 4 : Nat), .int .u8 (F 5 : Nat), .int .u8 (F 6 : Nat)]
theorem seven_get (F : Nat → Nat) (k : Nat) (h : k < 7) : (sevenV F)[k]? = some (.int .u8 (F k : Nat)) := by
  rcases (by omega : k = 0 ∨ k = 1 ∨ k = 2 ∨ k = 3 ∨ k = 4 ∨ k = 5 ∨ k = 6) with rfl | rfl | rfl | rfl | rfl | rfl | rfl <;> rfl
/-- The relation that Made makes. -/
def madeR (n : Nat) (F : Nat → Nat) (k : Nat) : List Nat := (List.range k).map fun w => F w % 2 ^ n
theorem madeR_succ (n : Nat) (F : Nat → Nat) (k : Nat) : madeR n F (k + 1) = madeR n F k ++ [F k % 2 ^ n] := by simp [madeR, List.range_succ]
theorem madeR_len (n : Nat) (F : Nat → Nat) (k : Nat) : (madeR n F k).length = k := by simp [madeR]
/-- A model of the call's own. -/
def RetMo (w : World) (kind n : Nat) (rel : List Nat) (fs : List Nat) (e : Ending) (w' : World) : Prop :=
  ∃ (g c fg fc : Nat), e = .returned (.agg #[.int .u8 (kind : Int), .int .i64 (n : Int), .slice (some ⟨g, 0, none⟩) n c, .int .i64 0, .slice (some ⟨fg, 0, none⟩) fs.length fc, .slice none 0 0, .slice none 0 0]) ∧ Below w.heap.size w w' ∧
    w'.ownsRow w.heap.size 3 1 (.slice (some ⟨g, 0, none⟩) n c) n (ints rel) ∧ w'.ownsRow w.heap.size 46 3 (.slice (some ⟨fg, 0, none⟩) fs.length fc) fs.length (fcs 0 fs)
/-- Made's boxes. -/
structure MdI (w : World) (F : Nat → Nat) (kind n : Nat) (vo : Value) (k : Nat) (xs : List Nat) (wr : World) : Prop where
  hl : wr.heap[w.heap.size]? = some (.cells (sevenV F) 22 (0, 0))
  hr : wr.heap[w.heap.size + 1]? = some (.cells #[.int .u8 0, .int .i64 0, .slice none 0 0, .int .i64 0, .slice none 0 0, .slice none 0 0, .slice none 0 0] 30 (0, 0))
  hm : wr.heap[w.heap.size + 2]? = some (.cells #[.int .u8 (kind : Int), .int .i64 (n : Int), vo, .int .i64 0, .slice none 0 0, .slice none 0 0, .slice none 0 0] 30 (0, 0))
  ho : wr.ownsRow w.heap.size 3 1 vo k (ints xs)
  bl : Below w.heap.size w wr
theorem own_lt9 {w : World} {b e size n : Nat} {v : Value} {xs : List Value} (h : w.ownsRow b e size v n xs) : ∀ g, v.ownBlock = some g → g < w.heap.size := fun g hg => by
  rcases h.2 with ⟨h0, h1⟩ | ⟨g', cap, cur, rfl, _, hh, _⟩
  · rw [h0] at hg; simp [Value.ownBlock] at hg
  · simp [Value.ownBlock] at hg
    subst hg
    exact HK.blk_lt hh
theorem set7 {w : World} {b : Nat} {c0 c1 c2 c3 c4 c5 c6 : Value} {t : TypeId} (h : w.heap[b]? = some (.cells #[c0, c1, c2, c3, c4, c5, c6] t (0, 0))) (v0 v1 v2 v3 v4 v5 v6 : Value) : (((((((w.setCell ⟨b, 0, none⟩ v0).setCell ⟨b, 1, none⟩ v1).setCell ⟨b, 2, none⟩ v2).setCell ⟨b, 3, none⟩ v3).setCell ⟨b, 4, none⟩ v4).setCell ⟨b, 5, none⟩ v5).setCell ⟨b, 6, none⟩ v6).heap[b]? = some (.cells #[v0, v1, v2, v3, v4, v5, v6] t (0, 0)) := by
  have h1 : (w.setCell ⟨b, 0, none⟩ v0).heap[b]? = some (.cells #[v0, c1, c2, c3, c4, c5, c6] t (0, 0)) := HK.blk_set h 0 _
  have h2 : ((w.setCell ⟨b, 0, none⟩ v0).setCell ⟨b, 1, none⟩ v1).heap[b]? = some (.cells #[v0, v1, c2, c3, c4, c5, c6] t (0, 0)) := HK.blk_set h1 1 _
  have h3 : (((w.setCell ⟨b, 0, none⟩ v0).setCell ⟨b, 1, none⟩ v1).setCell ⟨b, 2, none⟩ v2).heap[b]? = some (.cells #[v0, v1, v2, c3, c4, c5, c6] t (0, 0)) := HK.blk_set h2 2 _
  have h4 : ((((w.setCell ⟨b, 0, none⟩ v0).setCell ⟨b, 1, none⟩ v1).setCell ⟨b, 2, none⟩ v2).setCell ⟨b, 3, none⟩ v3).heap[b]? = some (.cells #[v0, v1, v2, v3, c4, c5, c6] t (0, 0)) := HK.blk_set h3 3 _
  have h5 : (((((w.setCell ⟨b, 0, none⟩ v0).setCell ⟨b, 1, none⟩ v1).setCell ⟨b, 2, none⟩ v2).setCell ⟨b, 3, none⟩ v3).setCell ⟨b, 4, none⟩ v4).heap[b]? = some (.cells #[v0, v1, v2, v3, v4, c5, c6] t (0, 0)) := HK.blk_set h4 4 _
  have h6 : ((((((w.setCell ⟨b, 0, none⟩ v0).setCell ⟨b, 1, none⟩ v1).setCell ⟨b, 2, none⟩ v2).setCell ⟨b, 3, none⟩ v3).setCell ⟨b, 4, none⟩ v4).setCell ⟨b, 5, none⟩ v5).heap[b]? = some (.cells #[v0, v1, v2, v3, v4, v5, c6] t (0, 0)) := HK.blk_set h5 5 _
  have h7 : (((((((w.setCell ⟨b, 0, none⟩ v0).setCell ⟨b, 1, none⟩ v1).setCell ⟨b, 2, none⟩ v2).setCell ⟨b, 3, none⟩ v3).setCell ⟨b, 4, none⟩ v4).setCell ⟨b, 5, none⟩ v5).setCell ⟨b, 6, none⟩ v6).heap[b]? = some (.cells #[v0, v1, v2, v3, v4, v5, v6] t (0, 0)) := HK.blk_set h6 6 _
  exact h7
theorem frm7 (w : World) (b : Nat) (v0 v1 v2 v3 v4 v5 v6 : Value) : HK.Frm (fun j => j = b) w (((((((w.setCell ⟨b, 0, none⟩ v0).setCell ⟨b, 1, none⟩ v1).setCell ⟨b, 2, none⟩ v2).setCell ⟨b, 3, none⟩ v3).setCell ⟨b, 4, none⟩ v4).setCell ⟨b, 5, none⟩ v5).setCell ⟨b, 6, none⟩ v6) :=
  (HK.Frm.setCell (p := ⟨b, 6, none⟩) (HK.Frm.setCell (p := ⟨b, 5, none⟩) (HK.Frm.setCell (p := ⟨b, 4, none⟩) (HK.Frm.setCell (p := ⟨b, 3, none⟩) (HK.Frm.setCell (p := ⟨b, 2, none⟩) (HK.Frm.setCell (p := ⟨b, 1, none⟩) (HK.Frm.setCell (p := ⟨b, 0, none⟩) (HK.Frm.refl (fun j => j = b) w) (.inl rfl) _) (.inl rfl) _) (.inl rfl) _) (.inl rfl) _) (.inl rfl) _) (.inl rfl) _) (.inl rfl) _)
theorem isR3 {W : World} {B t : Nat} {x y z : Nat} (h : W.heap[B]? = some (.cells #[.int .i64 (x : Int), .int .i64 (y : Int), .int .i64 (z : Int)] t (0, 0))) : IsR W B 0 [x, y, z] := fun i u hu => by
  rw [Nat.zero_add, HK.blk_cell h]
  match i, hu with
  | 0, hu => simp at hu; subst hu; rfl
  | 1, hu => simp at hu; subst hu; rfl
  | 2, hu => simp at hu; subst hu; rfl
  | i + 3, hu => simp at hu
set_option maxRecDepth 100000 in
set_option maxHeartbeats 4000000 in
theorem made_call (w : World) (s : Nat) (F : Nat → Nat) (hs : s < 256) (hl : ∀ i, F i < 256) :
    Calls Tryd.prog 19 #[.int .u8 (s : Int), .agg (sevenV F)] w (RetMo w 4 (1 + s % 4) (madeR (1 + s % 4) F (1 + s % 4)) [F 4 % 2 ^ (1 + s % 4), F 5 % 2 ^ (1 + s % 4), F 6 % 2 ^ (1 + s % 4)]) := by
  obtain ⟨n, hn⟩ : ∃ n, n = 1 + s % 4 := ⟨_, rfl⟩
  rw [← hn]
  have h4 : n ≤ 4 := by omega
  have h1 : 1 ≤ n := by omega
  have hsn : 1 + (s : Int) % 4 = (n : Int) := by omega
  have hs0 : (0 : Int) ≤ (s : Int) := by omega
  have hs1 : (s : Int) < 256 := by omega
  have HL := Lib.hid hl
  have HZ1 := Lib.hid (shl_wrap (k := n) (by omega))
  obtain ⟨z, hz⟩ : ∃ z, z = 1 <<< n := ⟨_, rfl⟩
  have hz2 : 2 ^ n = z := by rw [hz, Nat.one_shiftLeft]
  have hz16 : z ≤ 16 := by rw [← hz2]; exact pow_le4 h4
  have hz0 : 0 < z := by rw [← hz2]; exact Nat.two_pow_pos n
  rw [← hz] at HZ1
  rw [hz2]
  have HMR : Hid (∀ k, madeR n F (k + 1) = madeR n F k ++ [F k % z]) := Lib.hid fun k => by rw [madeR_succ, hz2]
  have HMN : Hid (min n 64 = n) := Lib.hid (by omega)
  have HQN : Hid ((0 : Int) ≤ (n : Int)) := Lib.hid (by omega)
  have HZP : Hid (¬ z = 0) := Lib.hid (by omega)
  have HMD : Hid (∀ a : Nat, (a : Int).tmod (z : Int) = ((a % z : Nat) : Int) ∧ (a : Int) % (z : Int) = ((a % z : Nat) : Int)) := Lib.hid fun a => ⟨by rw [← Int.ofNat_tmod], by omega⟩
  clear hn hl hs hz hz2
  show Calls Tryd.prog 19 #[.int .u8 (s : Int), .agg #[.int .u8 (F 0 : Nat), .int .u8 (F 1 : Nat), .int .u8 (F 2 : Nat), .int .u8 (F 3 : Nat), .int .u8 (F 4 : Nat), .int .u8 (F 5 : Nat), .int .u8 (F 6 : Nat)]] w _
  obtain ⟨w1, hw1⟩ : ∃ w1, w1 = (w.alloc (.cells #[.int .u8 (F 0 : Nat), .int .u8 (F 1 : Nat), .int .u8 (F 2 : Nat), .int .u8 (F 3 : Nat), .int .u8 (F 4 : Nat), .int .u8 (F 5 : Nat), .int .u8 (F 6 : Nat)] 22)).alloc (.cells #[.int .u8 0, .int .i64 0, .slice none 0 0, .int .i64 0, .slice none 0 0, .slice none 0 0, .slice none 0 0] 30) := ⟨_, rfl⟩
  have hI0 : MdI w F 4 n (.slice none 0 0) 0 (madeR n F 0) (w1.alloc (.cells #[.int .u8 4, .int .i64 (n : Int), .slice none 0 0, .int .i64 0, .slice none 0 0, .slice none 0 0, .slice none 0 0] 30)) := by
    refine ⟨?_, ?_, ?_, World.ownsRow_nil _ _ _ _, ?_⟩
    · rw [hw1]; exact HK.blk_alloc (HK.blk_alloc (HK.blk_new _ _) _) _
    · rw [hw1]
      refine HK.blk_alloc ?_ _
      have := HK.blk_new (w.alloc (.cells #[.int .u8 (F 0 : Nat), .int .u8 (F 1 : Nat), .int .u8 (F 2 : Nat), .int .u8 (F 3 : Nat), .int .u8 (F 4 : Nat), .int .u8 (F 5 : Nat), .int .u8 (F 6 : Nat)] 22)) (.cells #[.int .u8 0, .int .i64 0, .slice none 0 0, .int .i64 0, .slice none 0 0, .slice none 0 0, .slice none 0 0] 30)
      simpa using this
    · have := HK.blk_new w1 (.cells #[.int .u8 4, .int .i64 (n : Int), .slice none 0 0, .int .i64 0, .slice none 0 0, .slice none 0 0, .slice none 0 0] 30)
      rw [hw1] at this ⊢
      simpa using this
    · rw [hw1]; exact (((Below.refl _ w).alloc (Nat.le_refl _) _).alloc (by simp) _).alloc (by simp; omega) _
  rw [hw1] at hI0
  have HI0 := Lib.hid hI0
  clear hI0 hw1
  go_enter Tryd.func19, Tryd.ntmps19
  go_upto_region 2 with (fail)
  clear hsn
  go_wp2_with (fail)
  go_loopw [7] (fun i wr => ∃ (k : Nat) (vo : Value), k ≤ n ∧ i = .int .i64 k ∧ MdI w F 4 n vo k (madeR n F k) wr) (fun i _ => n - (intOf i).toNat)
  case atStart => exact ⟨0, _, by omega, rfl, HI0.out⟩
  case round =>
    obtain ⟨k, vo, hk, rfl, hI⟩ := hrel
    by_cases hkn : (k : Int) < (n : Int)
    · have b0 : (0 : Int) ≤ (k : Int) := by omega
      obtain ⟨xs, hxs⟩ : ∃ xs, xs = madeR n F k := ⟨_, rfl⟩
      obtain ⟨av, hav⟩ : ∃ av, av = F k := ⟨_, rfl⟩
      have ha : av < 256 := by rw [hav]; exact HL.out k
      obtain ⟨xv, hxv⟩ : ∃ xv, xv = av % z := ⟨_, rfl⟩
      have hmd := HMD.out av
      rw [← hxv] at hmd
      have HM1 := Lib.hid hmd.1
      have HM2 := Lib.hid hmd.2
      have HWR : Hid (IntKind.i64.wrap (av : Int) = (av : Int)) := Lib.hid (IntWalk.i64_in _ (by omega))
      have HNX : Hid (madeR n F (k + 1) = xs ++ [xv]) := Lib.hid (by rw [HMR.out, hxs, hxv, hav])
      rw [← hxs] at hI
      have HMB := Lib.hid hI.hm
      have HOW := Lib.hid hI.ho
      have HBW := Lib.hid hI.bl
      have HVM : Hid (vo.ownBlock ≠ some (w.heap.size + 2)) := Lib.hid (owns_ne_type hI.ho hI.hm (by intro c h; injection h with _ h _; cases h))
      have HVL := Lib.hid (own_lt9 hI.ho)
      have HVG := Lib.hid (own_ge hI.ho)
      have HML := Lib.hid (HK.blk_lt hI.hm)
      have HMG : Hid (w.heap.size ≤ w.heap.size + 2) := Lib.hid (by omega)
      have hvb : vo.ownBlock ≠ some w.heap.size := owns_ne_type hI.ho hI.hl (by intro c h; injection h with _ h _; cases h)
      have hvr : vo.ownBlock ≠ some (w.heap.size + 1) := owns_ne_type hI.ho hI.hr (by intro c h; injection h with _ h _; cases h)
      have HBL : Hid (∀ W, HK.Frm (fun j => j = w.heap.size + 2 ∨ vo.ownBlock = some j) wr W → W.cell? ⟨w.heap.size, k, none⟩ = some (.int .u8 (av : Int))) := Lib.hid fun W h => by
        rw [HK.blk_cell (HK.Frm.heap h hI.hl (fun e => by rcases e with e | e; omega; exact hvb e)), seven_get F k (by omega), hav]
      have HUP : Hid (∀ W, HK.Frm (fun j => j = w.heap.size + 2 ∨ vo.ownBlock = some j) wr W → W.heap[w.heap.size]? = some (.cells (sevenV F) 22 (0, 0)) ∧ W.heap[w.heap.size + 1]? = some (.cells #[.int .u8 0, .int .i64 0, .slice none 0 0, .int .i64 0, .slice none 0 0, .slice none 0 0, .slice none 0 0] 30 (0, 0))) := Lib.hid fun W h => ⟨HK.Frm.heap h hI.hl (fun e => by rcases e with e | e; omega; exact hvb e), HK.Frm.heap h hI.hr (fun e => by rcases e with e | e; omega; exact hvr e)⟩
      have HK7 : Hid ((0 : Int) ≤ (k : Int) ∧ (k : Int) < 7) := Lib.hid (by omega)
      have HK4 : Hid (k ≤ 4) := Lib.hid (by omega)
      clear hI hxs hav hxv hmd hvb hvr
      go_upto_region 6 with (fail)
      refine Go.RE.wp_region_eachg [19, 20, 21, 22, 23, 24, 25, 26, 27, 28, 29, 30] (fun L x W => (HK.Frm (fun j => j = w.heap.size + 2 ∨ vo.ownBlock = some j) wr W ∧ (L 12 = false → W.heap[w.heap.size + 2]? = some (.cells #[.int .u8 4, .int .i64 (n : Int), vo, .int .i64 0, .slice none 0 0, .slice none 0 0, .slice none 0 0] 30 (0, 0))) ∧ (L 10 = false → W.ownsRow w.heap.size 3 1 vo k (ints xs)) ∧ Below w.heap.size w W) ∧ (L 0 = true → x 19 = .pointer (some ⟨w.heap.size + 2, 2, none⟩)) ∧ (L 1 = true → x 20 = vo) ∧ (L 2 = true → x 21 = .int .i64 (k : Int)) ∧ (L 3 = true → x 22 = .pointer (some ⟨w.heap.size, k, none⟩)) ∧ (L 4 = true → x 23 = .int .u8 (av : Int)) ∧ (L 5 = true → x 24 = .int .i64 (av : Int)) ∧ (L 6 = true → x 25 = .int .i64 (n : Int)) ∧ (L 7 = true → x 26 = .int .i64 (z : Int)) ∧ (L 8 = true → x 27 = .int .i64 (xv : Int)) ∧ (L 9 = true → L 8 = true ∧ ∃ B, x 28 = .slice (some ⟨B, 0, none⟩) 1 1 ∧ B ≠ w.heap.size + 2 ∧ vo.ownBlock ≠ some B ∧ B < W.heap.size ∧ W.heap[B]? = some (.cells #[.int .i64 (xv : Int)] 3 (0, 0))) ∧ (L 10 = true → L 9 = true ∧ L 1 = true ∧ ∃ g c, x 29 = .slice (some ⟨g, 0, none⟩) (k + 1) c ∧ W.ownsRow w.heap.size 3 1 (.slice (some ⟨g, 0, none⟩) (k + 1) c) (k + 1) (ints xs ++ [.int .i64 (xv : Int)]) ∧ g ≠ w.heap.size + 2) ∧ (L 11 = true → x 30 = .pointer (some ⟨w.heap.size + 2, 2, none⟩)) ∧ (L 12 = true → L 10 = true ∧ ∃ g c, x 29 = .slice (some ⟨g, 0, none⟩) (k + 1) c ∧ W.heap[w.heap.size + 2]? = some (.cells #[.int .u8 4, .int .i64 (n : Int), .slice (some ⟨g, 0, none⟩) (k + 1) c, .int .i64 0, .slice none 0 0, .slice none 0 0, .slice none 0 0] 30 (0, 0)))) (by kernel_rfl) (by kernel_rfl) (by kernel_rfl) ?_ ((Go.RE.Each.cons ?_ (Go.RE.Each.cons ?_ (Go.RE.Each.cons ?_ (Go.RE.Each.cons ?_ (Go.RE.Each.cons ?_ (Go.RE.Each.cons ?_ (Go.RE.Each.cons ?_ (Go.RE.Each.cons ?_ (Go.RE.Each.cons ?_ (Go.RE.Each.cons ?_ (Go.RE.Each.cons ?_ (Go.RE.Each.cons ?_ (Go.RE.Each.cons ?_ Go.RE.Each.nil)))))))))))))) ?_
      · exact fun x => ⟨⟨HK.Frm.drew (HK.Frm.refl _ _), fun _ => HMB.out, fun _ => HOW.out, bl_dr HBW.out⟩, fun h => (by cases h), fun h => (by cases h), fun h => (by cases h), fun h => (by cases h), fun h => (by cases h), fun h => (by cases h), fun h => (by cases h), fun h => (by cases h), fun h => (by cases h), fun h => (by cases h), fun h => (by cases h), fun h => (by cases h), fun h => (by cases h)⟩
      · intro L x a wR K hL hd hf hx hΦ hK
        obtain ⟨hI, f0, f1, f2, f3, f4, f5, f6, f7, f8, f9, f10, f11, f12⟩ := hΦ
        refine ⟨fun _ => ?_, fun h => absurd h (by rw [Go.RE.wanted_none rfl]; decide)⟩
        have e6 : a.tmps[6]? = some (.pointer (some ⟨w.heap.size + 2, 0, none⟩)) := hf 6 (of_decide_eq_true (by kernel_rfl))
        clear hf hx hd
        go_simp
        refine hK _ _ ?_
        exact ⟨hI, fun _ => rfl, fun h => f1 h, fun h => f2 h, fun h => f3 h, fun h => f4 h, fun h => f5 h, fun h => f6 h, fun h => f7 h, fun h => f8 h, fun h => f9 h, fun h => f10 h, fun h => f11 h, fun h => f12 h⟩
      · intro L x a wR K hL hd hf hx hΦ hK
        obtain ⟨hI, f0, f1, f2, f3, f4, f5, f6, f7, f8, f9, f10, f11, f12⟩ := hΦ
        refine ⟨fun _ => ?_, fun h => absurd h (by rw [Go.RE.wanted_none rfl]; decide)⟩
        have d0 := f0 (hd 0 (by kernel_rfl))
        have e19 : a.tmps[19]? = some (x 19) := hx 0 _ 19 rfl rfl (hd 0 (by kernel_rfl))
        rw [d0] at e19
        have hL12 : L 12 = false := by rcases e : L 12 with _ | _; rfl; exact absurd (f10 (f12 e).1).2.1 (by rw [hL]; decide)
        have c := HK.blk_cell (hI.2.1 hL12) 2
        clear hf hx hd
        go_simp
        refine hK _ _ ?_
        exact ⟨hI, fun h => f0 h, fun _ => rfl, fun h => f2 h, fun h => f3 h, fun h => f4 h, fun h => f5 h, fun h => f6 h, fun h => f7 h, fun h => f8 h, fun h => f9 h, fun h => by have hh := f10 h; simp [hL] at hh, fun h => f11 h, fun h => f12 h⟩
      · intro L x a wR K hL hd hf hx hΦ hK
        obtain ⟨hI, f0, f1, f2, f3, f4, f5, f6, f7, f8, f9, f10, f11, f12⟩ := hΦ
        refine ⟨fun _ => ?_, fun h => absurd h (by rw [Go.RE.wanted_none rfl]; decide)⟩
        have e7 : a.tmps[7]? = some (.int .i64 (k : Int)) := hf 7 (of_decide_eq_true (by kernel_rfl))
        clear hf hx hd
        go_simp
        refine hK _ _ ?_
        exact ⟨hI, fun h => f0 h, fun h => f1 h, fun _ => rfl, fun h => f3 h, fun h => f4 h, fun h => f5 h, fun h => f6 h, fun h => f7 h, fun h => f8 h, fun h => f9 h, fun h => f10 h, fun h => f11 h, fun h => f12 h⟩
      · intro L x a wR K hL hd hf hx hΦ hK
        obtain ⟨hI, f0, f1, f2, f3, f4, f5, f6, f7, f8, f9, f10, f11, f12⟩ := hΦ
        refine ⟨fun _ => ?_, fun h => absurd h (by rw [Go.RE.wanted_none rfl]; decide)⟩
        have e3 : a.tmps[3]? = some (.pointer (some ⟨w.heap.size, 0, none⟩)) := hf 3 (of_decide_eq_true (by kernel_rfl))
        have d2 := f2 (hd 2 (by kernel_rfl))
        have e21 : a.tmps[21]? = some (x 21) := hx 2 _ 21 rfl rfl (hd 2 (by kernel_rfl))
        rw [d2] at e21
        have l1 := HK7.out.1
        have l2 := HK7.out.2
        clear hf hx hd
        go_simp
        refine hK _ _ ?_
        exact ⟨hI, fun h => f0 h, fun h => f1 h, fun h => f2 h, fun _ => rfl, fun h => f4 h, fun h => f5 h, fun h => f6 h, fun h => f7 h, fun h => f8 h, fun h => f9 h, fun h => f10 h, fun h => f11 h, fun h => f12 h⟩
      · intro L x a wR K hL hd hf hx hΦ hK
        obtain ⟨hI, f0, f1, f2, f3, f4, f5, f6, f7, f8, f9, f10, f11, f12⟩ := hΦ
        refine ⟨fun _ => ?_, fun h => absurd h (by rw [Go.RE.wanted_none rfl]; decide)⟩
        have d3 := f3 (hd 3 (by kernel_rfl))
        have e22 : a.tmps[22]? = some (x 22) := hx 3 _ 22 rfl rfl (hd 3 (by kernel_rfl))
        rw [d3] at e22
        have c := HBL.out _ hI.1
        clear hf hx hd
        go_simp
        refine hK _ _ ?_
        exact ⟨hI, fun h => f0 h, fun h => f1 h, fun h => f2 h, fun h => f3 h, fun _ => rfl, fun h => f5 h, fun h => f6 h, fun h => f7 h, fun h => f8 h, fun h => f9 h, fun h => f10 h, fun h => f11 h, fun h => f12 h⟩
      · intro L x a wR K hL hd hf hx hΦ hK
        obtain ⟨hI, f0, f1, f2, f3, f4, f5, f6, f7, f8, f9, f10, f11, f12⟩ := hΦ
        refine ⟨fun _ => ?_, fun h => absurd h (by rw [Go.RE.wanted_none rfl]; decide)⟩
        have d4 := f4 (hd 4 (by kernel_rfl))
        have e23 : a.tmps[23]? = some (x 23) := hx 4 _ 23 rfl rfl (hd 4 (by kernel_rfl))
        rw [d4] at e23
        have hwr := HWR.out
        clear hf hx hd
        go_simp
        refine hK _ _ ?_
        exact ⟨hI, fun h => f0 h, fun h => f1 h, fun h => f2 h, fun h => f3 h, fun h => f4 h, fun _ => rfl, fun h => f6 h, fun h => f7 h, fun h => f8 h, fun h => f9 h, fun h => f10 h, fun h => f11 h, fun h => f12 h⟩
      · intro L x a wR K hL hd hf hx hΦ hK
        obtain ⟨hI, f0, f1, f2, f3, f4, f5, f6, f7, f8, f9, f10, f11, f12⟩ := hΦ
        refine ⟨fun _ => ?_, fun h => absurd h (by rw [Go.RE.wanted_none rfl]; decide)⟩
        have e5 : a.tmps[5]? = some (.int .i64 (n : Int)) := hf 5 (of_decide_eq_true (by kernel_rfl))
        clear hf hx hd
        go_simp
        refine hK _ _ ?_
        exact ⟨hI, fun h => f0 h, fun h => f1 h, fun h => f2 h, fun h => f3 h, fun h => f4 h, fun h => f5 h, fun _ => rfl, fun h => f7 h, fun h => f8 h, fun h => f9 h, fun h => f10 h, fun h => f11 h, fun h => f12 h⟩
      · intro L x a wR K hL hd hf hx hΦ hK
        obtain ⟨hI, f0, f1, f2, f3, f4, f5, f6, f7, f8, f9, f10, f11, f12⟩ := hΦ
        refine ⟨fun _ => ?_, fun h => absurd h (by rw [Go.RE.wanted_none rfl]; decide)⟩
        have d6 := f6 (hd 6 (by kernel_rfl))
        have e25 : a.tmps[25]? = some (x 25) := hx 6 _ 25 rfl rfl (hd 6 (by kernel_rfl))
        rw [d6] at e25
        have sh1 := HZ1.out
        have sh2 := (IntWalk.i64_left _).symm.trans sh1
        have hmin : min n 64 = n := HMN.out
        have qn := HQN.out
        clear hf hx hd
        go_simp
        refine hK _ _ ?_
        exact ⟨hI, fun h => f0 h, fun h => f1 h, fun h => f2 h, fun h => f3 h, fun h => f4 h, fun h => f5 h, fun h => f6 h, fun _ => rfl, fun h => f8 h, fun h => f9 h, fun h => f10 h, fun h => f11 h, fun h => f12 h⟩
      · intro L x a wR K hL hd hf hx hΦ hK
        obtain ⟨hI, f0, f1, f2, f3, f4, f5, f6, f7, f8, f9, f10, f11, f12⟩ := hΦ
        refine ⟨fun _ => ?_, fun h => absurd h (by rw [Go.RE.wanted_none rfl]; decide)⟩
        have d5 := f5 (hd 5 (by kernel_rfl))
        have e24 : a.tmps[24]? = some (x 24) := hx 5 _ 24 rfl rfl (hd 5 (by kernel_rfl))
        rw [d5] at e24
        have d7 := f7 (hd 7 (by kernel_rfl))
        have e26 : a.tmps[26]? = some (x 26) := hx 7 _ 26 rfl rfl (hd 7 (by kernel_rfl))
        rw [d7] at e26
        have hm1 := HM1.out
        have hm2 := HM2.out
        have hzp := HZP.out
        clear hf hx hd
        go_simp
        refine hK _ _ ?_
        exact ⟨hI, fun h => f0 h, fun h => f1 h, fun h => f2 h, fun h => f3 h, fun h => f4 h, fun h => f5 h, fun h => f6 h, fun h => f7 h, fun _ => rfl, fun h => by have hh := f9 h; simp [hL] at hh, fun h => f10 h, fun h => f11 h, fun h => f12 h⟩
      · intro L x a wR K hL hd hf hx hΦ hK
        obtain ⟨hI, f0, f1, f2, f3, f4, f5, f6, f7, f8, f9, f10, f11, f12⟩ := hΦ
        refine ⟨fun _ => ?_, fun h => absurd h (by rw [Go.RE.wanted_none rfl]; decide)⟩
        have d8 := f8 (hd 8 (by kernel_rfl))
        have e27 : a.tmps[27]? = some (x 27) := hx 8 _ 27 rfl rfl (hd 8 (by kernel_rfl))
        rw [d8] at e27
        have l8 := hd 8 (by kernel_rfl)
        clear hf hx hd
        go_simp
        refine hK _ _ ?_
        exact ⟨⟨hI.1.alloc _, fun h => HK.blk_alloc (hI.2.1 h) _, fun h => (hI.2.2.1 h).alloc _, hI.2.2.2.alloc hI.2.2.2.size _⟩, fun h => f0 h, fun h => f1 h, fun h => f2 h, fun h => f3 h, fun h => f4 h, fun h => f5 h, fun h => f6 h, fun h => f7 h, fun h => f8 h, fun _ => ⟨l8, wR.heap.size, rfl, by have := hI.1.size; have := HML.out; omega, fun h => by have := HVL.out _ h; have := hI.1.size; omega, by simp, HK.blk_new _ _⟩, fun h => by have hh := f10 h; simp [hL] at hh, fun h => f11 h, fun h => absurd (f10 (f12 h).1).1 (by rw [hL]; decide)⟩
      · intro L x a wR K hL hd hf hx hΦ hK
        obtain ⟨hI, f0, f1, f2, f3, f4, f5, f6, f7, f8, f9, f10, f11, f12⟩ := hΦ
        refine ⟨fun _ => ?_, fun h => absurd h (by rw [Go.RE.wanted_none rfl]; decide)⟩
        have d1 := f1 (hd 1 (by kernel_rfl))
        have e20 : a.tmps[20]? = some (x 20) := hx 1 _ 20 rfl rfl (hd 1 (by kernel_rfl))
        rw [d1] at e20
        have d9 := f9 (hd 9 (by kernel_rfl))
        have e28 : a.tmps[28]? = some (x 28) := hx 9 _ 28 rfl rfl (hd 9 (by kernel_rfl))
        have l9 := hd 9 (by kernel_rfl)
        have l1 := hd 1 (by kernel_rfl)
        have hL12 : L 12 = false := by rcases e : L 12 with _ | _; rfl; exact absurd (f12 e).1 (by rw [hL]; decide)
        clear hf hx hd
        obtain ⟨l8, B, hB0, hBM, hBo, hBl, hBc⟩ := d9
        rw [hB0] at e28
        refine wp_app_any elem25 _ _ rfl vo w.heap.size k (ints xs) (ev e20) (hI.2.2.1 hL) ⟨B, 0, none⟩ 1 1 [.int .i64 (xv : Int)] (ev e28) rfl (fun j u hj => by rw [addr_add0, HK.blk_cell hBc, List.getElem?_toArray]; exact hj) (by simp [Value.oneCell']) (by have := HK4.out; simp only [maxLen]; omega) (by have := HK4.out; omega) hI.2.2.2.size ?_
        intro v' w' hown hgrow hnil hat
        obtain ⟨gg, cc, rfl, _, hglt⟩ := own_form9 hown (by omega)
        have hat : some gg = vo.ownBlock ∨ some gg = some wR.heap.size := hat
        have hoM := HVM.out
        have hMl := HML.out
        refine hK _ _ ?_
        exact ⟨⟨hI.1.grown hgrow (fun j hj => .inl (.inr hj)), fun h => HK.blk_grown (hI.2.1 h) hgrow hoM.symm, (fun h => by cases h), hI.2.2.2.grown hgrow hI.2.2.2.size (fun j hj => HVG.out j hj)⟩, fun h => f0 h, fun h => f1 h, fun h => f2 h, fun h => f3 h, fun h => f4 h, fun h => f5 h, fun h => f6 h, fun h => f7 h, fun h => f8 h, fun h => (f9 h).imp id fun h => h.imp fun B h => ⟨h.1, h.2.1, h.2.2.1, Nat.lt_of_lt_of_le h.2.2.2.1 hgrow.size, HK.blk_grown h.2.2.2.2 hgrow h.2.2.1.symm⟩, fun _ => ⟨l9, l1, _, _, rfl, hown, (by rcases hat with h | h; intro e; exact hoM (by rw [← h, e]); have h3 : gg = wR.heap.size := Option.some.inj h; have := hI.1.size; omega)⟩, fun h => f11 h, fun h => by have hh := f12 h; simp [hL] at hh⟩
      · intro L x a wR K hL hd hf hx hΦ hK
        obtain ⟨hI, f0, f1, f2, f3, f4, f5, f6, f7, f8, f9, f10, f11, f12⟩ := hΦ
        refine ⟨fun _ => ?_, fun h => absurd h (by rw [Go.RE.wanted_none rfl]; decide)⟩
        have e6 : a.tmps[6]? = some (.pointer (some ⟨w.heap.size + 2, 0, none⟩)) := hf 6 (of_decide_eq_true (by kernel_rfl))
        clear hf hx hd
        go_simp
        refine hK _ _ ?_
        exact ⟨hI, fun h => f0 h, fun h => f1 h, fun h => f2 h, fun h => f3 h, fun h => f4 h, fun h => f5 h, fun h => f6 h, fun h => f7 h, fun h => f8 h, fun h => f9 h, fun h => f10 h, fun _ => rfl, fun h => f12 h⟩
      · intro L x a wR K hL hd hf hx hΦ hK
        obtain ⟨hI, f0, f1, f2, f3, f4, f5, f6, f7, f8, f9, f10, f11, f12⟩ := hΦ
        refine ⟨fun _ => ?_, fun h => absurd h (by rw [Go.RE.wanted_none rfl]; decide)⟩
        have d11 := f11 (hd 11 (by kernel_rfl))
        have e30 : a.tmps[30]? = some (x 30) := hx 11 _ 30 rfl rfl (hd 11 (by kernel_rfl))
        rw [d11] at e30
        have d10 := f10 (hd 10 (by kernel_rfl))
        have e29 : a.tmps[29]? = some (x 29) := hx 10 _ 29 rfl rfl (hd 10 (by kernel_rfl))
        have l10 := hd 10 (by kernel_rfl)
        clear hf hx hd
        obtain ⟨l9, l1, g, c9, hv', hown, hvM⟩ := d10
        rw [hv'] at e29
        have cf := fun i => HK.blk_frozen (hI.2.1 hL) i
        have c := HK.blk_cell (hI.2.1 hL) 2
        go_simp
        refine hK undef _ ?_
        exact ⟨⟨hI.1.setCell (p := ⟨w.heap.size + 2, 2, none⟩) (.inl (.inl rfl)) _, (fun h => by cases h), fun h => owns_setCell (hI.2.2.1 h) (p := ⟨w.heap.size + 2, 2, none⟩) HVM.out _, hI.2.2.2.setCell (p := ⟨w.heap.size + 2, 2, none⟩) HMG.out _⟩, fun h => f0 h, fun h => f1 h, fun h => f2 h, fun h => f3 h, fun h => f4 h, fun h => f5 h, fun h => f6 h, fun h => f7 h, fun h => f8 h, fun h => (f9 h).imp id fun h => h.imp fun B h => ⟨h.1, h.2.1, h.2.2.1, by simpa using h.2.2.2.1, HK.blk_set_other h.2.2.2.2 (p := ⟨w.heap.size + 2, 2, none⟩) h.2.1 _⟩, fun h => ⟨(f10 h).1, (f10 h).2.1, g, c9, hv', owns_setCell hown (p := ⟨w.heap.size + 2, 2, none⟩) (by simp only [Value.ownBlock]; intro e; exact hvM (Option.some.inj e)) _, hvM⟩, fun h => f11 h, fun _ => ⟨l10, g, c9, hv', by have := HK.blk_set (hI.2.1 hL) 2 (.slice (some ⟨g, 0, none⟩) (k + 1) c9); simpa using this⟩⟩
      · rintro x W ⟨hI, f0, f1, f2, f3, f4, f5, f6, f7, f8, f9, f10, f11, f12⟩
        obtain ⟨_, g1, c1, hv', hm⟩ := f12 rfl
        obtain ⟨_, _, g2, c2, hv2, hown, _⟩ := f10 rfl
        have hup := HUP.out _ hI.1
        have hI2 : MdI w F 4 n (.slice (some ⟨g1, 0, none⟩) (k + 1) c1) (k + 1) (xs ++ [xv]) W := ⟨hup.1, hup.2, hm, by rw [ints_append, ← hv', hv2]; exact hown, hI.2.2.2⟩
        have HI2 := Lib.hid hI2
        clear hI hI2 hv' hm hv2 hown hup f0 f1 f2 f3 f4 f5 f6 f7 f8 f9 f10 f11 f12 HMB HOW HBW HVM HVL HVG HML HMG HBL HUP HK7 HK4 HM1 HM2
        simp only [Exit.then, Go.RE.fillL, List.any_cons, List.any_nil, Nat.beq, Bool.or_false, Bool.or_true, cond_true, cond_false, Bool.true_or, Bool.false_or]
        go_wp2_with (fail)
        go_roundw
        case rel => exact ⟨k + 1, _, by omega, by go_num, by rw [HNX.out]; exact HI2.out⟩
        case measure => simp [intOf]; omega
    · obtain rfl : n = k := by omega
      obtain ⟨vg, vc, rfl, hvg1, hvg2⟩ := own_form9 hI.ho (by omega)
      obtain ⟨a4, ha4⟩ : ∃ a, a = F 4 := ⟨_, rfl⟩
      obtain ⟨a5, ha5⟩ : ∃ a, a = F 5 := ⟨_, rfl⟩
      obtain ⟨a6, ha6⟩ : ∃ a, a = F 6 := ⟨_, rfl⟩
      have hb4 : a4 < 256 := by rw [ha4]; exact HL.out _
      have hb5 : a5 < 256 := by rw [ha5]; exact HL.out _
      have hb6 : a6 < 256 := by rw [ha6]; exact HL.out _
      have HA4 := Lib.hid ha4.symm
      have HA5 := Lib.hid ha5.symm
      have HA6 := Lib.hid ha6.symm
      have hx4 := HMD.out a4
      have hx5 := HMD.out a5
      have hx6 := HMD.out a6
      obtain ⟨x4, h4'⟩ : ∃ x, x = a4 % z := ⟨_, rfl⟩
      obtain ⟨x5, h5'⟩ : ∃ x, x = a5 % z := ⟨_, rfl⟩
      obtain ⟨x6, h6'⟩ : ∃ x, x = a6 % z := ⟨_, rfl⟩
      rw [← h4'] at hx4
      have HE4 : Hid (F 4 % z = x4) := Lib.hid (by rw [← ha4, ← h4'])
      rw [← h5'] at hx5
      have HE5 : Hid (F 5 % z = x5) := Lib.hid (by rw [← ha5, ← h5'])
      rw [← h6'] at hx6
      have HE6 : Hid (F 6 % z = x6) := Lib.hid (by rw [← ha6, ← h6'])
      have HX4 := Lib.hid hx4
      have HX5 := Lib.hid hx5
      have HX6 := Lib.hid hx6
      have HWR : Hid (IntKind.i64.wrap (a4 : Int) = (a4 : Int) ∧ IntKind.i64.wrap (a5 : Int) = (a5 : Int) ∧ IntKind.i64.wrap (a6 : Int) = (a6 : Int)) := Lib.hid ⟨IntWalk.i64_in _ (by omega), IntWalk.i64_in _ (by omega), IntWalk.i64_in _ (by omega)⟩
      have HMB := Lib.hid hI.hm
      have HBW := Lib.hid hI.bl
      have HML := Lib.hid (HK.blk_lt hI.hm)
      have HMG : Hid (w.heap.size ≤ w.heap.size + 2) := Lib.hid (by omega)
      have HBL : Hid (∀ W, HK.Frm (fun j => j = w.heap.size + 2) wr W → ∀ j, j < 7 → W.cell? ⟨w.heap.size, j, none⟩ = some (.int .u8 (F j : Int))) := Lib.hid fun W h j hj => by
        rw [HK.blk_cell (HK.Frm.heap h hI.hl (by omega)), seven_get F j hj]
      have HUP : Hid (∀ W, HK.Frm (fun j => j = w.heap.size + 2) wr W → W.heap[w.heap.size + 1]? = some (.cells #[.int .u8 0, .int .i64 0, .slice none 0 0, .int .i64 0, .slice none 0 0, .slice none 0 0, .slice none 0 0] 30 (0, 0)) ∧ W.ownsRow w.heap.size 3 1 (.slice (some ⟨vg, 0, none⟩) n vc) n (ints (madeR n F n))) := Lib.hid fun W h => ⟨HK.Frm.heap h hI.hr (by omega), HK.Frm.owns h hI.ho (fun gg e e2 => owns_ne_type hI.ho hI.hm (by intro c h; injection h with _ h _; cases h) (e.trans (congrArg some e2)))⟩
      clear hI ha4 ha5 ha6 hb4 hb5 hb6 hx4 hx5 hx6 h4' h5' h6' hvg1 hvg2
      go_upto_region 7 with (fail)
      refine Go.RE.wp_region_eachg [31, 32, 33, 34, 35, 36, 37, 38, 39, 40, 41, 42, 43, 44, 45, 46, 47, 48, 49, 50, 51] (fun L x W => (HK.Frm (fun j => j = w.heap.size + 2) wr W ∧ (L 21 = false → W.heap[w.heap.size + 2]? = some (.cells #[.int .u8 4, .int .i64 (n : Int), .slice (some ⟨vg, 0, none⟩) n vc, .int .i64 0, .slice none 0 0, .slice none 0 0, .slice none 0 0] 30 (0, 0))) ∧ Below w.heap.size w W) ∧ (L 0 = true → x 31 = .pointer (some ⟨w.heap.size, 4, none⟩)) ∧ (L 1 = true → x 32 = .int .u8 (a4 : Int)) ∧ (L 2 = true → x 33 = .int .i64 (a4 : Int)) ∧ (L 3 = true → x 34 = .int .i64 (n : Int)) ∧ (L 4 = true → x 35 = .int .i64 (z : Int)) ∧ (L 5 = true → x 36 = .int .i64 (x4 : Int)) ∧ (L 6 = true → x 37 = .pointer (some ⟨w.heap.size, 5, none⟩)) ∧ (L 7 = true → x 38 = .int .u8 (a5 : Int)) ∧ (L 8 = true → x 39 = .int .i64 (a5 : Int)) ∧ (L 9 = true → x 40 = .int .i64 (n : Int)) ∧ (L 10 = true → x 41 = .int .i64 (z : Int)) ∧ (L 11 = true → x 42 = .int .i64 (x5 : Int)) ∧ (L 12 = true → x 43 = .pointer (some ⟨w.heap.size, 6, none⟩)) ∧ (L 13 = true → x 44 = .int .u8 (a6 : Int)) ∧ (L 14 = true → x 45 = .int .i64 (a6 : Int)) ∧ (L 15 = true → x 46 = .int .i64 (n : Int)) ∧ (L 16 = true → x 47 = .int .i64 (z : Int)) ∧ (L 17 = true → x 48 = .int .i64 (x6 : Int)) ∧ (L 18 = true → L 17 = true ∧ ∃ B, x 49 = .slice (some ⟨B, 0, none⟩) 3 3 ∧ B ≠ w.heap.size + 2 ∧ B < W.heap.size ∧ W.heap[B]? = some (.cells #[.int .i64 (x4 : Int), .int .i64 (x5 : Int), .int .i64 (x6 : Int)] 3 (0, 0))) ∧ (L 19 = true → L 18 = true ∧ ∃ g c, x 50 = .slice (some ⟨g, 0, none⟩) 3 c ∧ W.ownsRow w.heap.size 46 3 (.slice (some ⟨g, 0, none⟩) 3 c) 3 (fcs 0 [x4, x5, x6]) ∧ g ≠ w.heap.size + 2) ∧ (L 20 = true → x 51 = .pointer (some ⟨w.heap.size + 2, 4, none⟩)) ∧ (L 21 = true → L 18 = true ∧ L 19 = true ∧ ∃ g c, x 50 = .slice (some ⟨g, 0, none⟩) 3 c ∧ W.heap[w.heap.size + 2]? = some (.cells #[.int .u8 4, .int .i64 (n : Int), .slice (some ⟨vg, 0, none⟩) n vc, .int .i64 0, .slice (some ⟨g, 0, none⟩) 3 c, .slice none 0 0, .slice none 0 0] 30 (0, 0)))) (by kernel_rfl) (by kernel_rfl) (by kernel_rfl) ?_ ((Go.RE.Each.cons ?_ (Go.RE.Each.cons ?_ (Go.RE.Each.cons ?_ (Go.RE.Each.cons ?_ (Go.RE.Each.cons ?_ (Go.RE.Each.cons ?_ (Go.RE.Each.cons ?_ (Go.RE.Each.cons ?_ (Go.RE.Each.cons ?_ (Go.RE.Each.cons ?_ (Go.RE.Each.cons ?_ (Go.RE.Each.cons ?_ (Go.RE.Each.cons ?_ (Go.RE.Each.cons ?_ (Go.RE.Each.cons ?_ (Go.RE.Each.cons ?_ (Go.RE.Each.cons ?_ (Go.RE.Each.cons ?_ (Go.RE.Each.cons ?_ (Go.RE.Each.cons ?_ (Go.RE.Each.cons ?_ (Go.RE.Each.cons ?_ Go.RE.Each.nil))))))))))))))))))))))) ?_
      · exact fun x => ⟨⟨HK.Frm.drew (HK.Frm.refl _ _), fun _ => HMB.out, bl_dr HBW.out⟩, fun h => (by cases h), fun h => (by cases h), fun h => (by cases h), fun h => (by cases h), fun h => (by cases h), fun h => (by cases h), fun h => (by cases h), fun h => (by cases h), fun h => (by cases h), fun h => (by cases h), fun h => (by cases h), fun h => (by cases h), fun h => (by cases h), fun h => (by cases h), fun h => (by cases h), fun h => (by cases h), fun h => (by cases h), fun h => (by cases h), fun h => (by cases h), fun h => (by cases h), fun h => (by cases h), fun h => (by cases h)⟩
      · intro L x a wR K hL hd hf hx hΦ hK
        obtain ⟨hI, f0, f1, f2, f3, f4, f5, f6, f7, f8, f9, f10, f11, f12, f13, f14, f15, f16, f17, f18, f19, f20, f21⟩ := hΦ
        refine ⟨fun _ => ?_, fun h => absurd h (by rw [Go.RE.wanted_none rfl]; decide)⟩
        have e3 : a.tmps[3]? = some (.pointer (some ⟨w.heap.size, 0, none⟩)) := hf 3 (of_decide_eq_true (by kernel_rfl))
        clear hf hx hd
        go_simp
        refine hK _ _ ?_
        exact ⟨hI, fun _ => rfl, fun h => f1 h, fun h => f2 h, fun h => f3 h, fun h => f4 h, fun h => f5 h, fun h => f6 h, fun h => f7 h, fun h => f8 h, fun h => f9 h, fun h => f10 h, fun h => f11 h, fun h => f12 h, fun h => f13 h, fun h => f14 h, fun h => f15 h, fun h => f16 h, fun h => f17 h, fun h => f18 h, fun h => f19 h, fun h => f20 h, fun h => f21 h⟩
      · intro L x a wR K hL hd hf hx hΦ hK
        obtain ⟨hI, f0, f1, f2, f3, f4, f5, f6, f7, f8, f9, f10, f11, f12, f13, f14, f15, f16, f17, f18, f19, f20, f21⟩ := hΦ
        refine ⟨fun _ => ?_, fun h => absurd h (by rw [Go.RE.wanted_none rfl]; decide)⟩
        have d0 := f0 (hd 0 (by kernel_rfl))
        have e31 : a.tmps[31]? = some (x 31) := hx 0 _ 31 rfl rfl (hd 0 (by kernel_rfl))
        rw [d0] at e31
        have c := HBL.out _ hI.1 4 (by omega)
        rw [HA4.out] at c
        clear hf hx hd
        go_simp
        refine hK _ _ ?_
        exact ⟨hI, fun h => f0 h, fun _ => rfl, fun h => f2 h, fun h => f3 h, fun h => f4 h, fun h => f5 h, fun h => f6 h, fun h => f7 h, fun h => f8 h, fun h => f9 h, fun h => f10 h, fun h => f11 h, fun h => f12 h, fun h => f13 h, fun h => f14 h, fun h => f15 h, fun h => f16 h, fun h => f17 h, fun h => f18 h, fun h => f19 h, fun h => f20 h, fun h => f21 h⟩
      · intro L x a wR K hL hd hf hx hΦ hK
        obtain ⟨hI, f0, f1, f2, f3, f4, f5, f6, f7, f8, f9, f10, f11, f12, f13, f14, f15, f16, f17, f18, f19, f20, f21⟩ := hΦ
        refine ⟨fun _ => ?_, fun h => absurd h (by rw [Go.RE.wanted_none rfl]; decide)⟩
        have d1 := f1 (hd 1 (by kernel_rfl))
        have e32 : a.tmps[32]? = some (x 32) := hx 1 _ 32 rfl rfl (hd 1 (by kernel_rfl))
        rw [d1] at e32
        have hwr := HWR.out.1
        clear hf hx hd
        go_simp
        refine hK _ _ ?_
        exact ⟨hI, fun h => f0 h, fun h => f1 h, fun _ => rfl, fun h => f3 h, fun h => f4 h, fun h => f5 h, fun h => f6 h, fun h => f7 h, fun h => f8 h, fun h => f9 h, fun h => f10 h, fun h => f11 h, fun h => f12 h, fun h => f13 h, fun h => f14 h, fun h => f15 h, fun h => f16 h, fun h => f17 h, fun h => f18 h, fun h => f19 h, fun h => f20 h, fun h => f21 h⟩
      · intro L x a wR K hL hd hf hx hΦ hK
        obtain ⟨hI, f0, f1, f2, f3, f4, f5, f6, f7, f8, f9, f10, f11, f12, f13, f14, f15, f16, f17, f18, f19, f20, f21⟩ := hΦ
        refine ⟨fun _ => ?_, fun h => absurd h (by rw [Go.RE.wanted_none rfl]; decide)⟩
        have e5 : a.tmps[5]? = some (.int .i64 (n : Int)) := hf 5 (of_decide_eq_true (by kernel_rfl))
        clear hf hx hd
        go_simp
        refine hK _ _ ?_
        exact ⟨hI, fun h => f0 h, fun h => f1 h, fun h => f2 h, fun _ => rfl, fun h => f4 h, fun h => f5 h, fun h => f6 h, fun h => f7 h, fun h => f8 h, fun h => f9 h, fun h => f10 h, fun h => f11 h, fun h => f12 h, fun h => f13 h, fun h => f14 h, fun h => f15 h, fun h => f16 h, fun h => f17 h, fun h => f18 h, fun h => f19 h, fun h => f20 h, fun h => f21 h⟩
      · intro L x a wR K hL hd hf hx hΦ hK
        obtain ⟨hI, f0, f1, f2, f3, f4, f5, f6, f7, f8, f9, f10, f11, f12, f13, f14, f15, f16, f17, f18, f19, f20, f21⟩ := hΦ
        refine ⟨fun _ => ?_, fun h => absurd h (by rw [Go.RE.wanted_none rfl]; decide)⟩
        have d3 := f3 (hd 3 (by kernel_rfl))
        have e34 : a.tmps[34]? = some (x 34) := hx 3 _ 34 rfl rfl (hd 3 (by kernel_rfl))
        rw [d3] at e34
        have sh1 := HZ1.out
        have sh2 := (IntWalk.i64_left _).symm.trans sh1
        have hmin : min n 64 = n := HMN.out
        have qn := HQN.out
        clear hf hx hd
        go_simp
        refine hK _ _ ?_
        exact ⟨hI, fun h => f0 h, fun h => f1 h, fun h => f2 h, fun h => f3 h, fun _ => rfl, fun h => f5 h, fun h => f6 h, fun h => f7 h, fun h => f8 h, fun h => f9 h, fun h => f10 h, fun h => f11 h, fun h => f12 h, fun h => f13 h, fun h => f14 h, fun h => f15 h, fun h => f16 h, fun h => f17 h, fun h => f18 h, fun h => f19 h, fun h => f20 h, fun h => f21 h⟩
      · intro L x a wR K hL hd hf hx hΦ hK
        obtain ⟨hI, f0, f1, f2, f3, f4, f5, f6, f7, f8, f9, f10, f11, f12, f13, f14, f15, f16, f17, f18, f19, f20, f21⟩ := hΦ
        refine ⟨fun _ => ?_, fun h => absurd h (by rw [Go.RE.wanted_none rfl]; decide)⟩
        have d2 := f2 (hd 2 (by kernel_rfl))
        have e33 : a.tmps[33]? = some (x 33) := hx 2 _ 33 rfl rfl (hd 2 (by kernel_rfl))
        rw [d2] at e33
        have d4 := f4 (hd 4 (by kernel_rfl))
        have e35 : a.tmps[35]? = some (x 35) := hx 4 _ 35 rfl rfl (hd 4 (by kernel_rfl))
        rw [d4] at e35
        have hm1 := HX4.out.1
        have hm2 := HX4.out.2
        have hzp := HZP.out
        clear hf hx hd
        go_simp
        refine hK _ _ ?_
        exact ⟨hI, fun h => f0 h, fun h => f1 h, fun h => f2 h, fun h => f3 h, fun h => f4 h, fun _ => rfl, fun h => f6 h, fun h => f7 h, fun h => f8 h, fun h => f9 h, fun h => f10 h, fun h => f11 h, fun h => f12 h, fun h => f13 h, fun h => f14 h, fun h => f15 h, fun h => f16 h, fun h => f17 h, fun h => f18 h, fun h => f19 h, fun h => f20 h, fun h => f21 h⟩
      · intro L x a wR K hL hd hf hx hΦ hK
        obtain ⟨hI, f0, f1, f2, f3, f4, f5, f6, f7, f8, f9, f10, f11, f12, f13, f14, f15, f16, f17, f18, f19, f20, f21⟩ := hΦ
        refine ⟨fun _ => ?_, fun h => absurd h (by rw [Go.RE.wanted_none rfl]; decide)⟩
        have e3 : a.tmps[3]? = some (.pointer (some ⟨w.heap.size, 0, none⟩)) := hf 3 (of_decide_eq_true (by kernel_rfl))
        clear hf hx hd
        go_simp
        refine hK _ _ ?_
        exact ⟨hI, fun h => f0 h, fun h => f1 h, fun h => f2 h, fun h => f3 h, fun h => f4 h, fun h => f5 h, fun _ => rfl, fun h => f7 h, fun h => f8 h, fun h => f9 h, fun h => f10 h, fun h => f11 h, fun h => f12 h, fun h => f13 h, fun h => f14 h, fun h => f15 h, fun h => f16 h, fun h => f17 h, fun h => f18 h, fun h => f19 h, fun h => f20 h, fun h => f21 h⟩
      · intro L x a wR K hL hd hf hx hΦ hK
        obtain ⟨hI, f0, f1, f2, f3, f4, f5, f6, f7, f8, f9, f10, f11, f12, f13, f14, f15, f16, f17, f18, f19, f20, f21⟩ := hΦ
        refine ⟨fun _ => ?_, fun h => absurd h (by rw [Go.RE.wanted_none rfl]; decide)⟩
        have d6 := f6 (hd 6 (by kernel_rfl))
        have e37 : a.tmps[37]? = some (x 37) := hx 6 _ 37 rfl rfl (hd 6 (by kernel_rfl))
        rw [d6] at e37
        have c := HBL.out _ hI.1 5 (by omega)
        rw [HA5.out] at c
        clear hf hx hd
        go_simp
        refine hK _ _ ?_
        exact ⟨hI, fun h => f0 h, fun h => f1 h, fun h => f2 h, fun h => f3 h, fun h => f4 h, fun h => f5 h, fun h => f6 h, fun _ => rfl, fun h => f8 h, fun h => f9 h, fun h => f10 h, fun h => f11 h, fun h => f12 h, fun h => f13 h, fun h => f14 h, fun h => f15 h, fun h => f16 h, fun h => f17 h, fun h => f18 h, fun h => f19 h, fun h => f20 h, fun h => f21 h⟩
      · intro L x a wR K hL hd hf hx hΦ hK
        obtain ⟨hI, f0, f1, f2, f3, f4, f5, f6, f7, f8, f9, f10, f11, f12, f13, f14, f15, f16, f17, f18, f19, f20, f21⟩ := hΦ
        refine ⟨fun _ => ?_, fun h => absurd h (by rw [Go.RE.wanted_none rfl]; decide)⟩
        have d7 := f7 (hd 7 (by kernel_rfl))
        have e38 : a.tmps[38]? = some (x 38) := hx 7 _ 38 rfl rfl (hd 7 (by kernel_rfl))
        rw [d7] at e38
        have hwr := HWR.out.2.1
        clear hf hx hd
        go_simp
        refine hK _ _ ?_
        exact ⟨hI, fun h => f0 h, fun h => f1 h, fun h => f2 h, fun h => f3 h, fun h => f4 h, fun h => f5 h, fun h => f6 h, fun h => f7 h, fun _ => rfl, fun h => f9 h, fun h => f10 h, fun h => f11 h, fun h => f12 h, fun h => f13 h, fun h => f14 h, fun h => f15 h, fun h => f16 h, fun h => f17 h, fun h => f18 h, fun h => f19 h, fun h => f20 h, fun h => f21 h⟩
      · intro L x a wR K hL hd hf hx hΦ hK
        obtain ⟨hI, f0, f1, f2, f3, f4, f5, f6, f7, f8, f9, f10, f11, f12, f13, f14, f15, f16, f17, f18, f19, f20, f21⟩ := hΦ
        refine ⟨fun _ => ?_, fun h => absurd h (by rw [Go.RE.wanted_none rfl]; decide)⟩
        have e5 : a.tmps[5]? = some (.int .i64 (n : Int)) := hf 5 (of_decide_eq_true (by kernel_rfl))
        clear hf hx hd
        go_simp
        refine hK _ _ ?_
        exact ⟨hI, fun h => f0 h, fun h => f1 h, fun h => f2 h, fun h => f3 h, fun h => f4 h, fun h => f5 h, fun h => f6 h, fun h => f7 h, fun h => f8 h, fun _ => rfl, fun h => f10 h, fun h => f11 h, fun h => f12 h, fun h => f13 h, fun h => f14 h, fun h => f15 h, fun h => f16 h, fun h => f17 h, fun h => f18 h, fun h => f19 h, fun h => f20 h, fun h => f21 h⟩
      · intro L x a wR K hL hd hf hx hΦ hK
        obtain ⟨hI, f0, f1, f2, f3, f4, f5, f6, f7, f8, f9, f10, f11, f12, f13, f14, f15, f16, f17, f18, f19, f20, f21⟩ := hΦ
        refine ⟨fun _ => ?_, fun h => absurd h (by rw [Go.RE.wanted_none rfl]; decide)⟩
        have d9 := f9 (hd 9 (by kernel_rfl))
        have e40 : a.tmps[40]? = some (x 40) := hx 9 _ 40 rfl rfl (hd 9 (by kernel_rfl))
        rw [d9] at e40
        have sh1 := HZ1.out
        have sh2 := (IntWalk.i64_left _).symm.trans sh1
        have hmin : min n 64 = n := HMN.out
        have qn := HQN.out
        clear hf hx hd
        go_simp
        refine hK _ _ ?_
        exact ⟨hI, fun h => f0 h, fun h => f1 h, fun h => f2 h, fun h => f3 h, fun h => f4 h, fun h => f5 h, fun h => f6 h, fun h => f7 h, fun h => f8 h, fun h => f9 h, fun _ => rfl, fun h => f11 h, fun h => f12 h, fun h => f13 h, fun h => f14 h, fun h => f15 h, fun h => f16 h, fun h => f17 h, fun h => f18 h, fun h => f19 h, fun h => f20 h, fun h => f21 h⟩
      · intro L x a wR K hL hd hf hx hΦ hK
        obtain ⟨hI, f0, f1, f2, f3, f4, f5, f6, f7, f8, f9, f10, f11, f12, f13, f14, f15, f16, f17, f18, f19, f20, f21⟩ := hΦ
        refine ⟨fun _ => ?_, fun h => absurd h (by rw [Go.RE.wanted_none rfl]; decide)⟩
        have d8 := f8 (hd 8 (by kernel_rfl))
        have e39 : a.tmps[39]? = some (x 39) := hx 8 _ 39 rfl rfl (hd 8 (by kernel_rfl))
        rw [d8] at e39
        have d10 := f10 (hd 10 (by kernel_rfl))
        have e41 : a.tmps[41]? = some (x 41) := hx 10 _ 41 rfl rfl (hd 10 (by kernel_rfl))
        rw [d10] at e41
        have hm1 := HX5.out.1
        have hm2 := HX5.out.2
        have hzp := HZP.out
        clear hf hx hd
        go_simp
        refine hK _ _ ?_
        exact ⟨hI, fun h => f0 h, fun h => f1 h, fun h => f2 h, fun h => f3 h, fun h => f4 h, fun h => f5 h, fun h => f6 h, fun h => f7 h, fun h => f8 h, fun h => f9 h, fun h => f10 h, fun _ => rfl, fun h => f12 h, fun h => f13 h, fun h => f14 h, fun h => f15 h, fun h => f16 h, fun h => f17 h, fun h => f18 h, fun h => f19 h, fun h => f20 h, fun h => f21 h⟩
      · intro L x a wR K hL hd hf hx hΦ hK
        obtain ⟨hI, f0, f1, f2, f3, f4, f5, f6, f7, f8, f9, f10, f11, f12, f13, f14, f15, f16, f17, f18, f19, f20, f21⟩ := hΦ
        refine ⟨fun _ => ?_, fun h => absurd h (by rw [Go.RE.wanted_none rfl]; decide)⟩
        have e3 : a.tmps[3]? = some (.pointer (some ⟨w.heap.size, 0, none⟩)) := hf 3 (of_decide_eq_true (by kernel_rfl))
        clear hf hx hd
        go_simp
        refine hK _ _ ?_
        exact ⟨hI, fun h => f0 h, fun h => f1 h, fun h => f2 h, fun h => f3 h, fun h => f4 h, fun h => f5 h, fun h => f6 h, fun h => f7 h, fun h => f8 h, fun h => f9 h, fun h => f10 h, fun h => f11 h, fun _ => rfl, fun h => f13 h, fun h => f14 h, fun h => f15 h, fun h => f16 h, fun h => f17 h, fun h => f18 h, fun h => f19 h, fun h => f20 h, fun h => f21 h⟩
      · intro L x a wR K hL hd hf hx hΦ hK
        obtain ⟨hI, f0, f1, f2, f3, f4, f5, f6, f7, f8, f9, f10, f11, f12, f13, f14, f15, f16, f17, f18, f19, f20, f21⟩ := hΦ
        refine ⟨fun _ => ?_, fun h => absurd h (by rw [Go.RE.wanted_none rfl]; decide)⟩
        have d12 := f12 (hd 12 (by kernel_rfl))
        have e43 : a.tmps[43]? = some (x 43) := hx 12 _ 43 rfl rfl (hd 12 (by kernel_rfl))
        rw [d12] at e43
        have c := HBL.out _ hI.1 6 (by omega)
        rw [HA6.out] at c
        clear hf hx hd
        go_simp
        refine hK _ _ ?_
        exact ⟨hI, fun h => f0 h, fun h => f1 h, fun h => f2 h, fun h => f3 h, fun h => f4 h, fun h => f5 h, fun h => f6 h, fun h => f7 h, fun h => f8 h, fun h => f9 h, fun h => f10 h, fun h => f11 h, fun h => f12 h, fun _ => rfl, fun h => f14 h, fun h => f15 h, fun h => f16 h, fun h => f17 h, fun h => f18 h, fun h => f19 h, fun h => f20 h, fun h => f21 h⟩
      · intro L x a wR K hL hd hf hx hΦ hK
        obtain ⟨hI, f0, f1, f2, f3, f4, f5, f6, f7, f8, f9, f10, f11, f12, f13, f14, f15, f16, f17, f18, f19, f20, f21⟩ := hΦ
        refine ⟨fun _ => ?_, fun h => absurd h (by rw [Go.RE.wanted_none rfl]; decide)⟩
        have d13 := f13 (hd 13 (by kernel_rfl))
        have e44 : a.tmps[44]? = some (x 44) := hx 13 _ 44 rfl rfl (hd 13 (by kernel_rfl))
        rw [d13] at e44
        have hwr := HWR.out.2.2
        clear hf hx hd
        go_simp
        refine hK _ _ ?_
        exact ⟨hI, fun h => f0 h, fun h => f1 h, fun h => f2 h, fun h => f3 h, fun h => f4 h, fun h => f5 h, fun h => f6 h, fun h => f7 h, fun h => f8 h, fun h => f9 h, fun h => f10 h, fun h => f11 h, fun h => f12 h, fun h => f13 h, fun _ => rfl, fun h => f15 h, fun h => f16 h, fun h => f17 h, fun h => f18 h, fun h => f19 h, fun h => f20 h, fun h => f21 h⟩
      · intro L x a wR K hL hd hf hx hΦ hK
        obtain ⟨hI, f0, f1, f2, f3, f4, f5, f6, f7, f8, f9, f10, f11, f12, f13, f14, f15, f16, f17, f18, f19, f20, f21⟩ := hΦ
        refine ⟨fun _ => ?_, fun h => absurd h (by rw [Go.RE.wanted_none rfl]; decide)⟩
        have e5 : a.tmps[5]? = some (.int .i64 (n : Int)) := hf 5 (of_decide_eq_true (by kernel_rfl))
        clear hf hx hd
        go_simp
        refine hK _ _ ?_
        exact ⟨hI, fun h => f0 h, fun h => f1 h, fun h => f2 h, fun h => f3 h, fun h => f4 h, fun h => f5 h, fun h => f6 h, fun h => f7 h, fun h => f8 h, fun h => f9 h, fun h => f10 h, fun h => f11 h, fun h => f12 h, fun h => f13 h, fun h => f14 h, fun _ => rfl, fun h => f16 h, fun h => f17 h, fun h => f18 h, fun h => f19 h, fun h => f20 h, fun h => f21 h⟩
      · intro L x a wR K hL hd hf hx hΦ hK
        obtain ⟨hI, f0, f1, f2, f3, f4, f5, f6, f7, f8, f9, f10, f11, f12, f13, f14, f15, f16, f17, f18, f19, f20, f21⟩ := hΦ
        refine ⟨fun _ => ?_, fun h => absurd h (by rw [Go.RE.wanted_none rfl]; decide)⟩
        have d15 := f15 (hd 15 (by kernel_rfl))
        have e46 : a.tmps[46]? = some (x 46) := hx 15 _ 46 rfl rfl (hd 15 (by kernel_rfl))
        rw [d15] at e46
        have sh1 := HZ1.out
        have sh2 := (IntWalk.i64_left _).symm.trans sh1
        have hmin : min n 64 = n := HMN.out
        have qn := HQN.out
        clear hf hx hd
        go_simp
        refine hK _ _ ?_
        exact ⟨hI, fun h => f0 h, fun h => f1 h, fun h => f2 h, fun h => f3 h, fun h => f4 h, fun h => f5 h, fun h => f6 h, fun h => f7 h, fun h => f8 h, fun h => f9 h, fun h => f10 h, fun h => f11 h, fun h => f12 h, fun h => f13 h, fun h => f14 h, fun h => f15 h, fun _ => rfl, fun h => f17 h, fun h => f18 h, fun h => f19 h, fun h => f20 h, fun h => f21 h⟩
      · intro L x a wR K hL hd hf hx hΦ hK
        obtain ⟨hI, f0, f1, f2, f3, f4, f5, f6, f7, f8, f9, f10, f11, f12, f13, f14, f15, f16, f17, f18, f19, f20, f21⟩ := hΦ
        refine ⟨fun _ => ?_, fun h => absurd h (by rw [Go.RE.wanted_none rfl]; decide)⟩
        have d14 := f14 (hd 14 (by kernel_rfl))
        have e45 : a.tmps[45]? = some (x 45) := hx 14 _ 45 rfl rfl (hd 14 (by kernel_rfl))
        rw [d14] at e45
        have d16 := f16 (hd 16 (by kernel_rfl))
        have e47 : a.tmps[47]? = some (x 47) := hx 16 _ 47 rfl rfl (hd 16 (by kernel_rfl))
        rw [d16] at e47
        have hm1 := HX6.out.1
        have hm2 := HX6.out.2
        have hzp := HZP.out
        clear hf hx hd
        go_simp
        refine hK _ _ ?_
        exact ⟨hI, fun h => f0 h, fun h => f1 h, fun h => f2 h, fun h => f3 h, fun h => f4 h, fun h => f5 h, fun h => f6 h, fun h => f7 h, fun h => f8 h, fun h => f9 h, fun h => f10 h, fun h => f11 h, fun h => f12 h, fun h => f13 h, fun h => f14 h, fun h => f15 h, fun h => f16 h, fun _ => rfl, fun h => by have hh := f18 h; simp [hL] at hh, fun h => f19 h, fun h => f20 h, fun h => f21 h⟩
      · intro L x a wR K hL hd hf hx hΦ hK
        obtain ⟨hI, f0, f1, f2, f3, f4, f5, f6, f7, f8, f9, f10, f11, f12, f13, f14, f15, f16, f17, f18, f19, f20, f21⟩ := hΦ
        refine ⟨fun _ => ?_, fun h => absurd h (by rw [Go.RE.wanted_none rfl]; decide)⟩
        have d5 := f5 (hd 5 (by kernel_rfl))
        have e36 : a.tmps[36]? = some (x 36) := hx 5 _ 36 rfl rfl (hd 5 (by kernel_rfl))
        rw [d5] at e36
        have d11 := f11 (hd 11 (by kernel_rfl))
        have e42 : a.tmps[42]? = some (x 42) := hx 11 _ 42 rfl rfl (hd 11 (by kernel_rfl))
        rw [d11] at e42
        have d17 := f17 (hd 17 (by kernel_rfl))
        have e48 : a.tmps[48]? = some (x 48) := hx 17 _ 48 rfl rfl (hd 17 (by kernel_rfl))
        rw [d17] at e48
        have l17 := hd 17 (by kernel_rfl)
        clear hf hx hd
        go_simp
        refine hK _ _ ?_
        exact ⟨⟨hI.1.alloc _, fun h => HK.blk_alloc (hI.2.1 h) _, hI.2.2.alloc hI.2.2.size _⟩, fun h => f0 h, fun h => f1 h, fun h => f2 h, fun h => f3 h, fun h => f4 h, fun h => f5 h, fun h => f6 h, fun h => f7 h, fun h => f8 h, fun h => f9 h, fun h => f10 h, fun h => f11 h, fun h => f12 h, fun h => f13 h, fun h => f14 h, fun h => f15 h, fun h => f16 h, fun h => f17 h, fun _ => ⟨l17, wR.heap.size, rfl, by have := hI.1.size; have := HML.out; omega, by simp, HK.blk_new _ _⟩, fun h => by have hh := f19 h; simp [hL] at hh, fun h => f20 h, fun h => by have hh := f21 h; simp [hL] at hh⟩
      · intro L x a wR K hL hd hf hx hΦ hK
        obtain ⟨hI, f0, f1, f2, f3, f4, f5, f6, f7, f8, f9, f10, f11, f12, f13, f14, f15, f16, f17, f18, f19, f20, f21⟩ := hΦ
        refine ⟨fun _ => ?_, fun h => absurd h (by rw [Go.RE.wanted_none rfl]; decide)⟩
        have d18 := f18 (hd 18 (by kernel_rfl))
        have e49 : a.tmps[49]? = some (x 49) := hx 18 _ 49 rfl rfl (hd 18 (by kernel_rfl))
        have l18 := hd 18 (by kernel_rfl)
        clear hf hx hd
        obtain ⟨_, B, hB0, hBM, hBl, hBc⟩ := d18
        rw [hB0] at e49
        have hfc := facts_call wR B 0 3 3 [x4, x5, x6] (isR3 hBc) rfl (by omega)
        unfold RetFa at hfc
        have HFC := Lib.hid hfc
        clear hfc
        go_simp
        go_at_call 38
        with_reducible refine HFC.out.mono ?_
        rintro e w' ⟨v8, rfl, hB8, hown⟩
        obtain ⟨g8, c8, rfl, hg8, hg9⟩ := own_form9 hown (by simp)
        simp only
        refine hK _ _ ?_
        exact ⟨⟨hI.1.trans (HK.Frm.of_below hB8 _), fun h => (hB8.block _ (HK.blk_lt (hI.2.1 h))).trans (hI.2.1 h), below_tr hI.2.2 hB8⟩, fun h => f0 h, fun h => f1 h, fun h => f2 h, fun h => f3 h, fun h => f4 h, fun h => f5 h, fun h => f6 h, fun h => f7 h, fun h => f8 h, fun h => f9 h, fun h => f10 h, fun h => f11 h, fun h => f12 h, fun h => f13 h, fun h => f14 h, fun h => f15 h, fun h => f16 h, fun h => f17 h, fun h => (f18 h).imp id fun h => h.imp fun B h => ⟨h.1, h.2.1, Nat.lt_of_lt_of_le h.2.2.1 hB8.size, (hB8.block _ h.2.2.1).trans h.2.2.2⟩, fun _ => ⟨l18, g8, c8, rfl, own_mono9 hown hI.2.2.size, by have := hI.1.size; have := HML.out; omega⟩, fun h => f20 h, fun h => by have hh := f21 h; simp [hL] at hh⟩
      · intro L x a wR K hL hd hf hx hΦ hK
        obtain ⟨hI, f0, f1, f2, f3, f4, f5, f6, f7, f8, f9, f10, f11, f12, f13, f14, f15, f16, f17, f18, f19, f20, f21⟩ := hΦ
        refine ⟨fun _ => ?_, fun h => absurd h (by rw [Go.RE.wanted_none rfl]; decide)⟩
        have e6 : a.tmps[6]? = some (.pointer (some ⟨w.heap.size + 2, 0, none⟩)) := hf 6 (of_decide_eq_true (by kernel_rfl))
        clear hf hx hd
        go_simp
        refine hK _ _ ?_
        exact ⟨hI, fun h => f0 h, fun h => f1 h, fun h => f2 h, fun h => f3 h, fun h => f4 h, fun h => f5 h, fun h => f6 h, fun h => f7 h, fun h => f8 h, fun h => f9 h, fun h => f10 h, fun h => f11 h, fun h => f12 h, fun h => f13 h, fun h => f14 h, fun h => f15 h, fun h => f16 h, fun h => f17 h, fun h => f18 h, fun h => f19 h, fun _ => rfl, fun h => f21 h⟩
      · intro L x a wR K hL hd hf hx hΦ hK
        obtain ⟨hI, f0, f1, f2, f3, f4, f5, f6, f7, f8, f9, f10, f11, f12, f13, f14, f15, f16, f17, f18, f19, f20, f21⟩ := hΦ
        refine ⟨fun _ => ?_, fun h => absurd h (by rw [Go.RE.wanted_none rfl]; decide)⟩
        have d20 := f20 (hd 20 (by kernel_rfl))
        have e51 : a.tmps[51]? = some (x 51) := hx 20 _ 51 rfl rfl (hd 20 (by kernel_rfl))
        rw [d20] at e51
        have d19 := f19 (hd 19 (by kernel_rfl))
        have e50 : a.tmps[50]? = some (x 50) := hx 19 _ 50 rfl rfl (hd 19 (by kernel_rfl))
        have l18 := (f19 (hd 19 (by kernel_rfl))).1
        have l19 := hd 19 (by kernel_rfl)
        clear hf hx hd
        obtain ⟨_, g, c9, hv', hown, hgM⟩ := d19
        rw [hv'] at e50
        have cf := fun i => HK.blk_frozen (hI.2.1 hL) i
        have c := HK.blk_cell (hI.2.1 hL) 4
        go_simp
        refine hK undef _ ?_
        exact ⟨⟨hI.1.setCell (p := ⟨w.heap.size + 2, 4, none⟩) (.inl rfl) _, (fun h => by cases h), hI.2.2.setCell (p := ⟨w.heap.size + 2, 4, none⟩) HMG.out _⟩, fun h => f0 h, fun h => f1 h, fun h => f2 h, fun h => f3 h, fun h => f4 h, fun h => f5 h, fun h => f6 h, fun h => f7 h, fun h => f8 h, fun h => f9 h, fun h => f10 h, fun h => f11 h, fun h => f12 h, fun h => f13 h, fun h => f14 h, fun h => f15 h, fun h => f16 h, fun h => f17 h, fun h => (f18 h).imp id fun h => h.imp fun B h => ⟨h.1, h.2.1, by simpa using h.2.2.1, HK.blk_set_other h.2.2.2 (p := ⟨w.heap.size + 2, 4, none⟩) h.2.1 _⟩, fun h => ⟨(f19 h).1, g, c9, hv', owns_setCell hown (p := ⟨w.heap.size + 2, 4, none⟩) (by simp only [Value.ownBlock]; intro e; exact hgM (Option.some.inj e)) _, hgM⟩, fun h => f20 h, fun _ => ⟨l18, l19, g, c9, hv', by have := HK.blk_set (hI.2.1 hL) 4 (.slice (some ⟨g, 0, none⟩) 3 c9); simpa using this⟩⟩
      · rintro x W ⟨hI, f0, f1, f2, f3, f4, f5, f6, f7, f8, f9, f10, f11, f12, f13, f14, f15, f16, f17, f18, f19, f20, f21⟩
        obtain ⟨_, _, g1, fc, hv', hm⟩ := f21 rfl
        obtain ⟨_, g2, fc2, hv2, hown, _⟩ := f19 rfl
        have hup := HUP.out _ hI.1
        obtain ⟨rfl, rfl⟩ : g1 = g2 ∧ fc = fc2 := by rw [hv2] at hv'; injection hv' with h1 h2 h3; injection h1 with h1; injection h1 with h1; exact ⟨h1.symm, h3.symm⟩
        have r0 := HK.blk_cell hup.1
        have m0 := HK.blk_cell hm
        have HMM := Lib.hid hm
        have HRR := Lib.hid hup.1
        have HO1 := Lib.hid hup.2
        have HO2 := Lib.hid hown
        have HBL2 := Lib.hid hI.2.2
        have cf := fun i => HK.blk_frozen hup.1 i
        have c0 := r0 0
        have c1 := r0 1
        have c2 := r0 2
        have c3 := r0 3
        have c4 := r0 4
        have c5 := r0 5
        have c6 := r0 6
        have d0 := m0 0
        have d1 := m0 1
        have d2 := m0 2
        have d3 := m0 3
        have d4 := m0 4
        have d5 := m0 5
        have d6 := m0 6
        clear hI hm hv2 hown hup f0 f1 f2 f3 f4 f5 f6 f7 f8 f9 f10 f11 f12 f13 f14 f15 f16 f17 f18 f19 f20 f21 r0 m0 HUP HBL HMB HBW HML HMG HX4 HX5 HX6 HWR HMD HMR
        simp only [Exit.then, Go.RE.fillL, List.any_cons, List.any_nil, Nat.beq, Bool.or_false, Bool.or_true, cond_true, cond_false, Bool.true_or, Bool.false_or]
        go_wp2_with (fail)
        have hf7 := frm7 W (w.heap.size + 1) (.int .u8 4) (.int .i64 (n : Int)) (.slice (some ⟨vg, 0, none⟩) n vc) (.int .i64 0) (.slice (some ⟨g1, 0, none⟩) 3 fc) (.slice none 0 0) (.slice none 0 0)
        refine bodyPost_ret (results_cell_row (p := 4) (ty := 30) (by kernel_rfl) _ _ (w.heap.size + 1) 30 _ (0, 0) _ rfl (set7 HRR.out _ _ _ _ _ _ _) Tryd.underlying30 rfl (by kernel_rfl)) rfl ?_
        refine ⟨vg, vc, g1, fc, rfl, HBL2.out.trans (hf7.below HBL2.out.size (fun j hj => by omega)), hf7.owns HO1.out (fun gg e e2 => owns_ne_type HO1.out HRR.out (by intro c h; injection h with _ h _; cases h) (e.trans (congrArg some e2))), ?_⟩
        rw [HE4.out, HE5.out, HE6.out]
        exact hf7.owns HO2.out (fun gg e e2 => owns_ne_type HO2.out HRR.out (by intro c h; injection h with _ h _; cases h) (e.trans (congrArg some e2)))
end Go.Proofs.YtflmllablfjfeaaDoor
