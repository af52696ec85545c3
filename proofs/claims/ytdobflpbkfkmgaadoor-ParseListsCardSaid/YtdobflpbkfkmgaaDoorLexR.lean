/- The walk of the scanner's method next. -/
import Derived.Test.YtdobflpbkfkmgaaDoorLexQ
import Derived.Test.YtdobflpbkfkmgaaDoorKit
import Derived.Outline
namespace Go.Proofs.YtdobflpbkfkmgaaDoor
open Go.RowKit
set_option linter.unusedVariables false
set_option linter.unusedSimpArgs false
set_option linter.unusedSectionVars false
/-- What is read at a place. -/
def readS (s : ByteArray) (i : Nat) : KT :=
  if letterB (bt s i) then runR (s.extract i (spanE s (i + 1)))
  else if markB (bt s i) then markR (s.extract i (spanE s (i + 1)))
  else signR (s.extract i s.size)
theorem bys_extract (s : ByteArray) (i j : Nat) : bys (s.extract i j) = ((bys s).drop i).take (j - i) := by
  simp [bys, ByteArray.data_extract, Array.toList_extract, List.extract_eq_take_drop]
theorem spanE_L (s : ByteArray) : ∀ (n i : Nat), s.size - i ≤ n → i ≤ s.size → spanE s i = i + (((bys s).drop i).takeWhile alL).length
  | n, i, hn, hi => by
    by_cases h : i < s.size
    · have hd : (bys s).drop i = (bys s)[i]'h :: (bys s).drop (i + 1) := List.drop_eq_getElem_cons h
      have hb : bt s i = ((bys s)[i]'h).toNat := by rw [← bt_eq h]; rfl
      cases ha : alnumB (bt s i) with
      | true =>
        have hal : alL ((bys s)[i]'h) = true := by rw [← ha, hb]; rfl
        cases n with
        | zero => omega
        | succ n =>
          rw [spanE_yes h ha, spanE_L s n (i + 1) (by omega) (by omega), hd, List.takeWhile_cons, if_pos hal, List.length_cons]
          omega
      | false =>
        have hal : alL ((bys s)[i]'h) = false := by rw [← ha, hb]; rfl
        rw [spanE_no (fun hh => by rw [ha] at hh; cases hh.2), hd, List.takeWhile_cons, hal]
        rfl
    · rw [spanE_no (fun hh => h hh.1), List.drop_eq_nil_of_le (show (bys s).length ≤ i by show s.size ≤ i; omega)]
      rfl
theorem readS_L {s : ByteArray} {i : Nat} (h : i < s.size) : ∃ c l, (bys s).drop i = c :: l ∧ readS s i = readL c l ∧ bt s i = c.toNat := by
  have hd : (bys s).drop i = (bys s)[i]'h :: (bys s).drop (i + 1) := List.drop_eq_getElem_cons h
  have hb : bt s i = ((bys s)[i]'h).toNat := by rw [← bt_eq h]; rfl
  refine ⟨_, _, hd, ?_, hb⟩
  have hx : s.extract i (spanE s (i + 1)) = mkS ((bys s)[i]'h :: ((bys s).drop (i + 1)).takeWhile alL) := by
    rw [← mk_bys (s.extract i (spanE s (i + 1))), bys_extract, spanE_L s _ (i + 1) (Nat.le_refl _) (by omega), hd, show i + 1 + (((bys s).drop (i + 1)).takeWhile alL).length - i = (((bys s).drop (i + 1)).takeWhile alL).length + 1 by omega, List.take_succ_cons]
    congr 2
    have := List.takeWhile_append_dropWhile (p := alL) (l := (bys s).drop (i + 1))
    conv => lhs; rw [← this]
    rw [List.takeWhile_append_dropWhile]
    conv => lhs; arg 2; rw [← this]
    rw [List.take_left]
  have hy : s.extract i s.size = mkS ((bys s)[i]'h :: (bys s).drop (i + 1)) := by
    rw [← mk_bys (s.extract i s.size), bys_extract, ← hd, List.take_of_length_le]
    rw [List.length_drop]; exact Nat.le_refl _
  unfold readS readL
  rw [hb, hx, hy]
theorem readL_none {c : UInt8} {l : List UInt8} (h : (readL c l).e ≠ 0) : (readL c l).t = ⟨#[]⟩ ∧ (readL c l).k = 0 := by
  unfold readL at h ⊢
  split
  · rename_i h1; rw [if_pos h1] at h
    rcases runR_e (mkS (c :: l.takeWhile alL)) with h2 | h2
    · exact absurd h2 h
    · rw [h2]; exact ⟨rfl, rfl⟩
  · rename_i h1; rw [if_neg h1] at h
    split
    · rename_i h3; rw [if_pos h3] at h
      rcases markR_e (mkS (c :: l.takeWhile alL)) with h2 | h2
      · exact absurd h2 h
      · rw [h2]; exact ⟨rfl, rfl⟩
    · rename_i h3; rw [if_neg h3] at h
      rw [signR_L] at h ⊢
      split
      · rename_i h4; rw [h4] at h; exact absurd rfl h
      · exact ⟨rfl, rfl⟩
theorem readS_le {s : ByteArray} {i : Nat} (h : i < s.size) : (readS s i).t.size ≤ s.size - i := by
  obtain ⟨c, l, h1, h2, _⟩ := readS_L h
  rw [h2]
  by_cases he : (readL c l).e = 0
  · obtain ⟨r, hr⟩ := read_ok he
    have h3 := congrArg List.length hr.all
    rw [List.length_append, show (bys (readL c l).t).length = (readL c l).t.size from rfl, ← h1, List.length_drop] at h3
    have : (bys s).length = s.size := rfl
    omega
  · rw [(readL_none he).1]; exact Nat.zero_le _
/-- The block b may be another one; all else that was there stays. -/
def Chg (b : Nat) (w w' : World) : Prop := HK.Frm (fun k => k = b) w w'
/-- The token that was read, and the error; the scanner is behind it. -/
def RetN (w : World) (b at_ : Nat) (s : ByteArray) (r : KT) (e : Ending) (w' : World) : Prop :=
  e = .returned (.tuple #[.agg #[.int .u8 r.k, .string r.t, .int .i64 at_], .int .i64 r.e]) ∧ Scan w' b (at_ + r.t.size) s ∧ Chg b w w'
def tokBox : Obj := .cells #[.int .u8 0, .string ⟨#[]⟩, .int .i64 0] 46 (0, 0)
set_option maxRecDepth 100000 in
theorem any1_any (w : World) (c : Int) : Calls Tryd.prog 97 #[.int .u8 c] w (RetC w true) := by
  go_enter Tryd.func97, Tryd.ntmps97
  go_wp2
  go_ret
  exact ⟨rfl, rfl⟩
/-- Between two ways that were tried. -/
def NextI (w : World) (b at_ k : Nat) (s : ByteArray) (wr : World) : Prop :=
  Below w.heap.size w wr ∧ wr.heap[w.heap.size]? = some tokBox ∧ (1 ≤ k → letterB (bt s at_) = false) ∧ (2 ≤ k → markB (bt s at_) = false)
set_option maxRecDepth 100000 in
theorem start_index (b : Nat) (w : World) (k : Nat) : (k = 0 → (Instr.index 129 (.agg (startsV b)) (.int .i64 0)).run Tryd.prog w = .ok (.agg #[.func (.func 93) #[] #[], .func (.func 94) #[.pointer (some ⟨b, 0, none⟩)] #[]]) w) ∧
   (k = 1 → (Instr.index 129 (.agg (startsV b)) (.int .i64 1)).run Tryd.prog w = .ok (.agg #[.func (.func 95) #[] #[], .func (.func 96) #[.pointer (some ⟨b, 0, none⟩)] #[]]) w) ∧
   (k = 2 → (Instr.index 129 (.agg (startsV b)) (.int .i64 2)).run Tryd.prog w = .ok (.agg #[.func (.func 97) #[] #[], .func (.func 98) #[.pointer (some ⟨b, 0, none⟩)] #[]]) w) := ⟨fun _ => rfl, fun _ => rfl, fun _ => rfl⟩
/-- What the walk wants to know behind a token was read. -/
structure After (w : World) (b at_ : Nat) (s : ByteArray) (w3 : World) : Prop where
  hB : Below w.heap.size w w3
  hT : w3.heap[w.heap.size]? = some tokBox
  hS : Scan w3 b at_ s
  hb : b < w3.heap.size
  hbw : b < w.heap.size
theorem After.mk' {w w3 : World} {b at_ : Nat} {s : ByteArray} (h : Scan w b at_ s) (hB : Below w.heap.size w w3) (hT : w3.heap[w.heap.size]? = some tokBox) : After w b at_ s w3 :=
  ⟨hB, hT, h.below hB, HK.blk_lt (h.below hB).h, HK.blk_lt h.h⟩
section
variable {w w3 : World} {b at_ : Nat} {s : ByteArray} (h : After w b at_ s w3)
include h
theorem After.e0 : w3.cell? ⟨b, 0, none⟩ = some (.int .i64 at_) := h.hS.c0
theorem After.e1 (o : Obj) : (w3.alloc o).cell? ⟨b, 0, none⟩ = some (.int .i64 at_) := HK.blk_cell (HK.blk_alloc h.hS.h o) 0
theorem After.e2 (o : Obj) : (w3.alloc o).frozen? ⟨b, 0, none⟩ = false := HK.blk_frozen (HK.blk_alloc h.hS.h o) 0
theorem After.e3 (o : Obj) (v : Value) (i : Nat) : ((w3.alloc o).setCell ⟨b, 0, none⟩ v).cell? ⟨w3.heap.size, i, none⟩ = (w3.alloc o).cell? ⟨w3.heap.size, i, none⟩ := by
  unfold World.cell?
  rw [Below.heap_setCell _ _ _ _ (by have := h.hb; show w3.heap.size ≠ b; omega)]
theorem After.hT' (o : Obj) (v : Value) : ((w3.alloc o).setCell ⟨b, 0, none⟩ v).heap[w.heap.size]? = some tokBox :=
  HK.blk_set_other (HK.blk_alloc h.hT o) (p := ⟨b, 0, none⟩) (by have := h.hbw; show w.heap.size ≠ b; omega) v
theorem After.e4 (o : Obj) (v : Value) (i : Nat) : ((w3.alloc o).setCell ⟨b, 0, none⟩ v).cell? ⟨w.heap.size, i, none⟩ = #[Value.int .u8 0, .string ⟨#[]⟩, .int .i64 0][i]? := HK.blk_cell (h.hT' o v) i
theorem After.e5 (o : Obj) (v : Value) (i : Nat) : ((w3.alloc o).setCell ⟨b, 0, none⟩ v).frozen? ⟨w.heap.size, i, none⟩ = false := HK.blk_frozen (h.hT' o v) i
theorem After.g0 (o : Obj) (v u0 : Value) : (((w3.alloc o).setCell ⟨b, 0, none⟩ v).setCell ⟨w.heap.size, 0, none⟩ u0).cell? ⟨w.heap.size, 0, none⟩ = some u0 := HK.blk_cell (HK.blk_set (h.hT' o v) 0 u0) 0
theorem After.g1 (o : Obj) (v u0 u1 : Value) : ((((w3.alloc o).setCell ⟨b, 0, none⟩ v).setCell ⟨w.heap.size, 0, none⟩ u0).setCell ⟨w.heap.size, 1, none⟩ u1).cell? ⟨w.heap.size, 1, none⟩ = some u1 := HK.blk_cell (HK.blk_set (HK.blk_set (h.hT' o v) 0 u0) 1 u1) 1
theorem After.g2 (o : Obj) (v u0 u1 u2 : Value) : (((((w3.alloc o).setCell ⟨b, 0, none⟩ v).setCell ⟨w.heap.size, 0, none⟩ u0).setCell ⟨w.heap.size, 1, none⟩ u1).setCell ⟨w.heap.size, 2, none⟩ u2).cell? ⟨w.heap.size, 2, none⟩ = some u2 := HK.blk_cell (HK.blk_set (HK.blk_set (HK.blk_set (h.hT' o v) 0 u0) 1 u1) 2 u2) 2
theorem After.fin (o : Obj) (n : Nat) (u0 u1 u2 : Value) : Scan (((((w3.alloc o).setCell ⟨b, 0, none⟩ (.int .i64 n)).setCell ⟨w.heap.size, 0, none⟩ u0).setCell ⟨w.heap.size, 1, none⟩ u1).setCell ⟨w.heap.size, 2, none⟩ u2) b n s ∧
    Chg b w (((((w3.alloc o).setCell ⟨b, 0, none⟩ (.int .i64 n)).setCell ⟨w.heap.size, 0, none⟩ u0).setCell ⟨w.heap.size, 1, none⟩ u1).setCell ⟨w.heap.size, 2, none⟩ u2) := by
  have hne : b ≠ w.heap.size := by have := h.hbw; omega
  refine ⟨⟨HK.blk_set_other (HK.blk_set_other (HK.blk_set_other (HK.blk_set (HK.blk_alloc h.hS.h o) 0 (.int .i64 n)) (p := ⟨w.heap.size, 0, none⟩) hne _) (p := ⟨w.heap.size, 1, none⟩) hne _) (p := ⟨w.heap.size, 2, none⟩) hne _⟩, ?_⟩
  exact (((((HK.Frm.of_below h.hB (fun k => k = b)).alloc o).setCell (p := ⟨b, 0, none⟩) (.inl rfl) _).setCell (p := ⟨w.heap.size, 0, none⟩) (.inr (Nat.le_refl _)) _).setCell (p := ⟨w.heap.size, 1, none⟩) (.inr (Nat.le_refl _)) _).setCell (p := ⟨w.heap.size, 2, none⟩) (.inr (Nat.le_refl _)) _
end
def RetA (w : World) (b at_ : Nat) (s : ByteArray) (r : KT) (e : Ending) (w' : World) : Prop := e = .returned (.tuple #[.int .u8 r.k, .string r.t, .int .i64 r.e]) ∧ After w b at_ s w'
theorem RetK.after {w wr : World} {b at_ : Nat} {s : ByteArray} {r : KT} {e : Ending} {w' : World} (h : Scan w b at_ s) (hB : Below w.heap.size w wr) (hT : wr.heap[w.heap.size]? = some tokBox) (hr : RetK wr r e w') : RetA w b at_ s r e w' :=
  ⟨hr.1, .mk' h (hB.trans (hr.2.mono hB.size)) ((hr.2.block _ (HK.blk_lt hT)).trans hT)⟩
set_option maxRecDepth 100000 in
set_option maxHeartbeats 2000000 in
theorem next_any (w : World) (b at_ : Nat) (s : ByteArray) (h : Scan w b at_ s) (hs : s.size ≤ maxLen) (ha : at_ < s.size) (hG : Signs w) :
    Calls Tryd.prog 55 #[.pointer (some ⟨b, 0, none⟩)] w (RetN w b at_ s (readS s at_)) := by
  have H := Lib.hid h
  have HG := Lib.hid hG
  have hbl : b < w.heap.size := HK.blk_lt h.h
  have hs' := hs
  unfold maxLen at hs'
  have hRt := readS_le ha
  obtain ⟨R, hR⟩ : ∃ R, readS s at_ = R := ⟨_, rfl⟩
  rw [hR] at hRt ⊢
  have HR := Lib.hid hR
  clear h hG hR
  go_enter Tryd.func55, Tryd.ntmps55
  go_wp2_with (go_at_call 76; (refine (starts_any _ b).mono ?_; rintro e w1 ⟨rfl, hb1⟩))
  go_loopw [12] (fun i wr => ∃ k : Nat, k ≤ 2 ∧ i = .int .i64 k ∧ NextI w b at_ k s wr) (fun i _ => 3 - (intOf i).toNat)
  case atStart =>
    refine ⟨0, by omega, rfl, ?_, ?_, by omega, by omega⟩
    · exact (((Below.refl _ w).alloc (Nat.le_refl _) _).trans (hb1.mono (by simp)))
    · refine (hb1.block _ (by simp)).trans ?_
      exact HK.blk_new _ _
  case round =>
    obtain ⟨k, hk, rfl, hI⟩ := hrel
    have HI := Lib.hid hI
    clear hI
    obtain rfl | rfl | rfl : k = 0 ∨ k = 1 ∨ k = 2 := by omega
    · have hix := (start_index b wr 0).1 rfl
      have hS : Scan wr b at_ s := H.out.below HI.out.1
      have hbw : b < wr.heap.size := HK.blk_lt hS.h
      have c0 : ∀ o, (wr.alloc o).cell? ⟨b, 0, none⟩ = some (.int .i64 at_) := fun o => (HK.blk_cell (HK.blk_alloc hS.h o) 0)
      have c1 : ∀ o, (wr.alloc o).cell? ⟨b, 1, none⟩ = some (.string s) := fun o => (HK.blk_cell (HK.blk_alloc hS.h o) 1)
      have b0 : (0 : Int) ≤ (at_ : Int) := by omega
      have b1 : (at_ : Int) < (s.size : Int) := by omega
      have HS := Lib.hid hS
      clear hS
      have hq := fun w' => letter_any w' ((s[at_]'ha).toNat) (by rw [bt_eq]; exact bt_le s at_)
      cases hal : letterB (bt s at_) with
      | false =>
        have HAL := Lib.hid hal
        have HQ : Hid (∀ w', Calls Tryd.prog 93 #[.int .u8 ((s[at_]'ha).toNat : Nat)] w' (RetC w' false)) := Lib.hid (fun w' => by have := hq w'; rw [bt_eq ha, hal] at this; rw [bt_eq ha]; exact this)
        clear hq hal
        go_wp2_with (fail)
        go_quiet ((go_at_call 93; exact Calls.quiet_of_same ((HQ.out _).mono fun _ _ h => ⟨h.1, h.2.symm⟩)))
        go_wp2_with (fail)
        go_roundw
        case rel => exact ⟨1, by omega, by go_num, below_drewN (HI.out.1.alloc HI.out.1.size _) _, HK.blk_drewN (HK.blk_alloc HI.out.2.1 _) _, fun _ => HAL.out, by omega⟩
        case measure => simp [intOf]
      | true =>
        have HAL := Lib.hid hal
        have HQ : Hid (∀ w', Calls Tryd.prog 93 #[.int .u8 ((s[at_]'ha).toNat : Nat)] w' (RetC w' true)) := Lib.hid (fun w' => by have := hq w'; rw [bt_eq ha, hal] at this; rw [bt_eq ha]; exact this)
        clear hq hal
        go_wp2_with (fail)
        go_quiet ((go_at_call 93; exact Calls.quiet_of_same ((HQ.out _).mono fun _ _ h => ⟨h.1, h.2.symm⟩)))
        have hrun : ∀ w', Below w.heap.size w w' → w'.heap[w.heap.size]? = some tokBox → Calls Tryd.prog 94 #[.pointer (some ⟨b, 0, none⟩)] w' (RetA w b at_ s R) := fun w' hB hT => by
          have := run_any w' b at_ s (H.out.below hB) hs (by omega)
          rw [show runR (s.extract at_ (spanE s (at_ + 1))) = R by rw [← HR.out, readS, if_pos HAL.out]] at this
          exact this.mono fun _ _ hr => hr.after H.out hB hT
        have HRUN := Lib.hid hrun
        clear hrun
        go_wp2_with (first
          | (go_at_call 94; (refine (HRUN.out _ (below_drewN (HI.out.1.alloc HI.out.1.size _) _) (HK.blk_drewN (HK.blk_alloc HI.out.2.1 _) _)).mono ?_; rintro e w3 ⟨rfl, hA⟩; have e0 := hA.e0; have e1 := hA.e1; have e2 := hA.e2; have e3 := hA.e3; have e4 := hA.e4; have e5 := hA.e5)))
        refine bodyPost_ret (v := .tuple #[.agg #[.int .u8 R.k, .string R.t, .int .i64 at_], .int .i64 R.e]) ?_ rfl ?_
        · have g0 := hA.g0; have g1 := hA.g1; have g2 := hA.g2
          simp [results, Tryd.results55, go_sem, g0, g1, g2]
        · exact ⟨rfl, by have := hA.fin (.cells #[.int .u8 R.k, .string R.t, .int .i64 at_] 46) (at_ + R.t.size) (.int .u8 R.k) (.string R.t) (.int .i64 at_); rw [show ((at_ + R.t.size : Nat) : Int) = (at_ : Int) + (R.t.size : Int) by omega] at this; exact this⟩
    · have hix := (start_index b wr 1).2.1 rfl
      have hS : Scan wr b at_ s := H.out.below HI.out.1
      have hbw : b < wr.heap.size := HK.blk_lt hS.h
      have c0 : ∀ o, (wr.alloc o).cell? ⟨b, 0, none⟩ = some (.int .i64 at_) := fun o => (HK.blk_cell (HK.blk_alloc hS.h o) 0)
      have c1 : ∀ o, (wr.alloc o).cell? ⟨b, 1, none⟩ = some (.string s) := fun o => (HK.blk_cell (HK.blk_alloc hS.h o) 1)
      have b0 : (0 : Int) ≤ (at_ : Int) := by omega
      have b1 : (at_ : Int) < (s.size : Int) := by omega
      have HS := Lib.hid hS
      clear hS
      have hq := fun w' => mark1_any w' ((s[at_]'ha).toNat) (by rw [bt_eq]; exact bt_le s at_)
      cases hal : markB (bt s at_) with
      | false =>
        have HAL := Lib.hid hal
        have HQ : Hid (∀ w', Calls Tryd.prog 95 #[.int .u8 ((s[at_]'ha).toNat : Nat)] w' (RetC w' false)) := Lib.hid (fun w' => by have := hq w'; rw [bt_eq ha, hal] at this; rw [bt_eq ha]; exact this)
        clear hq hal
        go_wp2_with (fail)
        go_quiet ((go_at_call 95; exact Calls.quiet_of_same ((HQ.out _).mono fun _ _ h => ⟨h.1, h.2.symm⟩)))
        go_wp2_with (fail)
        go_roundw
        case rel => exact ⟨2, by omega, by go_num, below_drewN (HI.out.1.alloc HI.out.1.size _) _, HK.blk_drewN (HK.blk_alloc HI.out.2.1 _) _, fun _ => HI.out.2.2.1 (by omega), fun _ => HAL.out⟩
        case measure => simp [intOf]
      | true =>
        have HAL := Lib.hid hal
        have HQ : Hid (∀ w', Calls Tryd.prog 95 #[.int .u8 ((s[at_]'ha).toNat : Nat)] w' (RetC w' true)) := Lib.hid (fun w' => by have := hq w'; rw [bt_eq ha, hal] at this; rw [bt_eq ha]; exact this)
        clear hq hal
        go_wp2_with (fail)
        go_quiet ((go_at_call 95; exact Calls.quiet_of_same ((HQ.out _).mono fun _ _ h => ⟨h.1, h.2.symm⟩)))
        have hrun : ∀ w', Below w.heap.size w w' → w'.heap[w.heap.size]? = some tokBox → Calls Tryd.prog 96 #[.pointer (some ⟨b, 0, none⟩)] w' (RetA w b at_ s R) := fun w' hB hT => by
          have := mark_any w' b at_ s (H.out.below hB) hs (by omega)
          rw [show markR (s.extract at_ (spanE s (at_ + 1))) = R by rw [← HR.out, readS, if_neg (by rw [HI.out.2.2.1 (by omega)]; decide), if_pos HAL.out]] at this
          exact this.mono fun _ _ hr => hr.after H.out hB hT
        have HRUN := Lib.hid hrun
        clear hrun
        go_wp2_with (first
          | (go_at_call 96; (refine (HRUN.out _ (below_drewN (HI.out.1.alloc HI.out.1.size _) _) (HK.blk_drewN (HK.blk_alloc HI.out.2.1 _) _)).mono ?_; rintro e w3 ⟨rfl, hA⟩; have e0 := hA.e0; have e1 := hA.e1; have e2 := hA.e2; have e3 := hA.e3; have e4 := hA.e4; have e5 := hA.e5)))
        refine bodyPost_ret (v := .tuple #[.agg #[.int .u8 R.k, .string R.t, .int .i64 at_], .int .i64 R.e]) ?_ rfl ?_
        · have g0 := hA.g0; have g1 := hA.g1; have g2 := hA.g2
          simp [results, Tryd.results55, go_sem, g0, g1, g2]
        · exact ⟨rfl, by have := hA.fin (.cells #[.int .u8 R.k, .string R.t, .int .i64 at_] 46) (at_ + R.t.size) (.int .u8 R.k) (.string R.t) (.int .i64 at_); rw [show ((at_ + R.t.size : Nat) : Int) = (at_ : Int) + (R.t.size : Int) by omega] at this; exact this⟩
    · have hix := (start_index b wr 2).2.2 rfl
      have hS : Scan wr b at_ s := H.out.below HI.out.1
      have hbw : b < wr.heap.size := HK.blk_lt hS.h
      have c0 : ∀ o, (wr.alloc o).cell? ⟨b, 0, none⟩ = some (.int .i64 at_) := fun o => (HK.blk_cell (HK.blk_alloc hS.h o) 0)
      have c1 : ∀ o, (wr.alloc o).cell? ⟨b, 1, none⟩ = some (.string s) := fun o => (HK.blk_cell (HK.blk_alloc hS.h o) 1)
      have b0 : (0 : Int) ≤ (at_ : Int) := by omega
      have b1 : (at_ : Int) < (s.size : Int) := by omega
      have HS := Lib.hid hS
      clear hS
      have HQ : Hid (∀ w', Calls Tryd.prog 97 #[.int .u8 ((s[at_]'ha).toNat : Nat)] w' (RetC w' true)) := Lib.hid (fun w' => any1_any w' _)
      go_wp2_with (fail)
      go_quiet ((go_at_call 97; exact Calls.quiet_of_same ((HQ.out _).mono fun _ _ h => ⟨h.1, h.2.symm⟩)))
      have hrun : ∀ w', Below w.heap.size w w' → w'.heap[w.heap.size]? = some tokBox → Calls Tryd.prog 98 #[.pointer (some ⟨b, 0, none⟩)] w' (RetA w b at_ s R) := fun w' hB hT => by
        have := sign_any w' b at_ s (H.out.below hB) hs (by omega) (HG.out.below hB)
        rw [show signR (s.extract at_ s.size) = R by rw [← HR.out, readS, if_neg (by rw [HI.out.2.2.1 (by omega)]; decide), if_neg (by rw [HI.out.2.2.2 (by omega)]; decide)]] at this
        exact this.mono fun _ _ hr => hr.after H.out hB hT
      have HRUN := Lib.hid hrun
      clear hrun
      go_wp2_with (first
        | (go_at_call 98; (refine (HRUN.out _ (below_drewN (HI.out.1.alloc HI.out.1.size _) _) (HK.blk_drewN (HK.blk_alloc HI.out.2.1 _) _)).mono ?_; rintro e w3 ⟨rfl, hA⟩; have e0 := hA.e0; have e1 := hA.e1; have e2 := hA.e2; have e3 := hA.e3; have e4 := hA.e4; have e5 := hA.e5)))
      refine bodyPost_ret (v := .tuple #[.agg #[.int .u8 R.k, .string R.t, .int .i64 at_], .int .i64 R.e]) ?_ rfl ?_
      · have g0 := hA.g0; have g1 := hA.g1; have g2 := hA.g2
        simp [results, Tryd.results55, go_sem, g0, g1, g2]
      · exact ⟨rfl, by have := hA.fin (.cells #[.int .u8 R.k, .string R.t, .int .i64 at_] 46) (at_ + R.t.size) (.int .u8 R.k) (.string R.t) (.int .i64 at_); rw [show ((at_ + R.t.size : Nat) : Int) = (at_ : Int) + (R.t.size : Int) by omega] at this; exact this⟩
end Go.Proofs.YtdobflpbkfkmgaaDoor
