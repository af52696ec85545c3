/- The walk of awake. -/
import Derived.Test.YthneinepdbkgeaaSame
namespace Go.Proofs.Ythneinepdbkgeaa
open Go.RowKit Go.HK
set_option linter.unusedVariables false
set_option linter.unusedSimpArgs false
set_option linter.unusedSectionVars false
abbrev HS := List Go.HK.HN × Nat
def doS (s : HS) (i : Int) (st : ByteArray) : HS := (lead (addN s.1 s.2 i ⟨#[]⟩ st) s.1.length, s.1.length)
def undoS (s : HS) : HS := (s.1, (parF s.1 s.2).toNat)
def redoS (s : HS) : HS := (s.1, (favF s.1 s.2).toNat)
def goS (s : HS) (n : Nat) : HS := (lead s.1 n, n)
def aw0 : HS := (rootN ⟨#[97]⟩, 0)
def aw1 : HS := doS aw0 0 ⟨#[98]⟩
def aw2 : HS := doS aw1 1 ⟨#[99]⟩
def aw3 : HS := undoS aw2
def aw4 : HS := undoS aw3
def aw5 : HS := doS aw4 4 ⟨#[100]⟩
def aw6 : HS := aw5
def aw7 : HS := undoS aw6
def aw8 : HS := redoS aw7
def aw9 : HS := goS aw8 2
def aw10 : HS := undoS aw9
def aw11 : HS := undoS aw10
def aw12 : HS := redoS aw11
def aw13 : HS := goS aw12 0
def awS (k : Nat) : HS := ([aw0, aw1, aw2, aw3, aw4, aw5, aw6, aw7, aw8, aw9, aw10, aw11, aw12, aw13] : List HS).getD k aw0
def awStrs : Array Value := #[.string ⟨#[68, 111, 32, 98]⟩, .string ⟨#[68, 111, 32, 99]⟩, .string ⟨#[85, 110, 100, 111, 32, 98]⟩, .string ⟨#[85, 110, 100, 111, 32, 97]⟩, .string ⟨#[68, 111, 32, 100]⟩, .string ⟨#[82, 101, 100, 111]⟩, .string ⟨#[85, 110, 100, 111, 32, 97]⟩, .string ⟨#[82, 101, 100, 111, 32, 100]⟩, .string ⟨#[71, 111, 32, 99]⟩, .string ⟨#[85, 110, 100, 111, 32, 98]⟩, .string ⟨#[85, 110, 100, 111, 32, 97]⟩, .string ⟨#[82, 101, 100, 111, 32, 98]⟩, .string ⟨#[71, 111, 32, 97]⟩]

section
variable {w : World} {t : Nat} {F : List Nat}
theorem step_do {s : HS} (h : Hist w t F s.1 s.2) (i : Int) (st : ByteArray) (n : Int) (hs : st.size ≤ 16384) (hd : doR s.1 s.2 st ⟨#[]⟩ i = none) (hn : (s.1.length : Int) = n) :
    Calls Try.prog 17 #[.pointer (some ⟨t, 0, none⟩), .string st, .string ⟨#[]⟩, .int .i64 i] w fun e w' => e = .returned (.tuple #[.int .i64 n, .int .i64 0]) ∧ HPost w t F (doS s i st).1 (doS s i st).2 w' := by
  subst hn
  exact (do_any h st ⟨#[]⟩ i hs (by decide)).mono fun e w' ⟨_, h2⟩ => h2 hd
theorem step_undo {s : HS} (h : Hist w t F s.1 s.2) (st : ByteArray) (h0 : s.2 ≠ 0) (hs : stateF s.1 (parF s.1 s.2).toNat = st) :
    Calls Try.prog 15 #[.pointer (some ⟨t, 0, none⟩)] w fun e w' => e = .returned (.tuple #[.string st, .int .i64 0]) ∧ HPost w t F (undoS s).1 (undoS s).2 w' := by
  subst hs
  exact undo_up h h0
theorem step_redo {s : HS} (h : Hist w t F s.1 s.2) (st : ByteArray) (q : Nat) (h0 : favF s.1 s.2 = q) (hq : q < s.1.length) (hs : stateF s.1 q = st) :
    Calls Try.prog 16 #[.pointer (some ⟨t, 0, none⟩)] w fun e w' => e = .returned (.tuple #[.string st, .int .i64 0]) ∧ HPost w t F (redoS s).1 (redoS s).2 w' := by
  subst hs
  have e : (redoS s).2 = q := by simp [redoS, h0]
  rw [e]
  exact redo_down h q h0 hq
theorem step_go {s : HS} (h : Hist w t F s.1 s.2) (st : ByteArray) (n : Nat) (hq : n < s.1.length) (hs : stateF s.1 n = st) :
    Calls Try.prog 18 #[.pointer (some ⟨t, 0, none⟩), .int .i64 n] w fun e w' => e = .returned (.tuple #[.string st, .int .i64 0]) ∧ HPost w t F (goS s n).1 (goS s n).2 w' := by
  subst hs
  exact go_yes h n hq
end

theorem len_lit {w : World} {t : Nat} {F : List Nat} {nodes : List Go.HK.HN} {now : Nat} (n : Nat) (hn : nodes.length = n) (h : Hist w t F nodes now) : Calls Try.prog 20 #[.pointer (some ⟨t, 0, none⟩)] w fun e w' => e = .returned (.int .i64 n) ∧ w = w' := by
  subst hn; exact len_any h
/-- The world of awake's loop. -/
structure AwW (w : World) (B0 t : Nat) (F : List Nat) (s : HS) (wr : World) : Prop where
  h : Hist wr t F s.1 s.2
  b : Below w.heap.size w wr
  f : ∀ b ∈ F, w.heap.size ≤ b ∧ b ≠ B0
  b0 : w.heap.size ≤ B0
  s : wr.heap[B0]? = some (.cells awStrs 9 (0, 0))
theorem AwW.step {w wr w' : World} {B0 t : Nat} {F : List Nat} {s s' : HS} (h : AwW w B0 t F s wr) (hp : HPost wr t F s'.1 s'.2 w') : ∃ F', AwW w B0 t F' s' w' := by
  obtain ⟨F', hH, hF, hsub⟩ := hp
  have hlt : B0 < wr.heap.size := (Array.getElem?_eq_some_iff.1 h.s).1
  refine ⟨F', hH, h.b.trans (hF.below h.b.size (fun k hk => (h.f k hk).1)), ?_, h.b0, hF.heap h.s (fun hb => (h.f _ hb).2 rfl)⟩
  intro b hb
  rcases hsub b hb with h1 | h1
  · exact h.f b h1
  · exact ⟨Nat.le_trans h.b.size h1, by omega⟩
theorem AwW.stay {w wr w' : World} {B0 t : Nat} {F : List Nat} {s : HS} (h : AwW w B0 t F s wr) (hB : Below wr.heap.size wr w') : AwW w B0 t F s w' := by
  have hF : Frm (fun _ => False) wr w' := Frm.of_below hB _
  exact ⟨h.h.stay hF (fun _ _ => id), h.b.trans (hB.mono h.b.size), h.f, h.b0, hF.heap h.s id⟩
theorem AwW.cell {w wr : World} {B0 t : Nat} {F : List Nat} {s : HS} (h : AwW w B0 t F s wr) (k : Nat) : wr.cell? ⟨B0, k, none⟩ = awStrs[k]? := blk_cell h.s k

theorem aw_cells {w2 w3 : World} {base g c : Nat} {xs : List Nat} (hown : w2.ownsRow base 3 1 (.slice (some ⟨g, 0, none⟩) 4 c) 4 (ints xs)) (hB : Below w2.heap.size w2 w3) (o : Obj) : ∀ k : Nat, k < 4 → (w3.alloc o).cell? ⟨g, k, none⟩ = (ints xs)[k]? := by
  intro k hk
  exact (((Frm.of_below hB (fun _ => False)).alloc o).owns hown (fun _ _ => id)).cellAt k (by omega)
theorem aw_new (w3 : World) (xs : List Nat) : ∀ k : Nat, k < 4 → (w3.alloc (.cells (ints xs).toArray 3)).cell? ⟨w3.heap.size, k, none⟩ = (ints xs)[k]? := by
  intro k hk
  rw [blk_cell (blk_new w3 _)]
  simp

set_option maxRecDepth 100000 in
set_option maxHeartbeats 8000000 in
theorem awake_any (w : World) : Calls Try.prog 12 #[] w fun e w' => e = .returned (.bool true) ∧ Below w.heap.size w w' := by
  go_enter Try.func12, Try.ntmps12
  go_wp2_with (go_at_call 35; refine (new_yes _ _ (by decide)).mono ?_; rintro e w1 ⟨p, rfl, t, F, rfl, hH, hB, hF, htF⟩)
  have hb0 := hB.size
  have hlt1 := hH.lt
  obtain ⟨B0, hB0⟩ : ∃ B0, B0 = w1.heap.size := ⟨_, rfl⟩
  rw [← hB0]
  have HB0 := Lib.hid hB0
  clear hB0
  go_loopw [24] (fun i wr => ∃ (k : Nat) (F : List Nat), k ≤ 13 ∧ i = .int .i64 k ∧ AwW w B0 t F (awS k) wr) (fun i _ => 13 - (intOf i).toNat)
  case atStart =>
    refine ⟨0, F, by omega, rfl, ?_, (hB.alloc hb0 _), fun b hb => ⟨hF b hb, ?_⟩, by have := HB0.out; omega, ?_⟩
    · exact hH.stay (G := fun _ => False) ((Frm.refl _ w1).alloc _) (fun _ _ => id)
    · have := hlt1 b hb; have := HB0.out; omega
    · rw [HB0.out]; exact blk_new w1 _
  case round =>
    obtain ⟨k, F, hk, rfl, hW⟩ := hrel
    clear hH hB hF hlt1
    have hcases : k = 13 ∨ k = 0 ∨ k = 1 ∨ k = 2 ∨ k = 3 ∨ k = 4 ∨ k = 5 ∨ k = 6 ∨ k = 7 ∨ k = 8 ∨ k = 9 ∨ k = 10 ∨ k = 11 ∨ k = 12 := by omega
    rcases hcases with rfl | rfl | rfl | rfl | rfl | rfl | rfl | rfl | rfl | rfl | rfl | rfl | rfl | rfl
    · have hW : AwW w B0 t F aw13 wr := hW
      have hbt : betweenL aw13.1 2 3 = [2, 1, 0, 3] := by kernel_rfl
      have hb := between_yes (nodes := aw13.1) (now := aw13.2) hW.h 2 3 (by decide +kernel) (by decide +kernel)
      rw [hbt] at hb
      have HBT := Lib.hid hb
      have HW := Lib.hid hW
      clear hW hbt hb
      go_wp2_with (first
        | (go_at_call 21; refine HBT.out.mono ?_; rintro e w2 ⟨v, rfl, hown, hB2⟩; obtain ⟨g2, c2, rfl, hg2, hlt2⟩ := hown.form (by decide))
        | (go_at_call 17; refine (do_any (nodes := aw13.1) (now := aw13.2) (HW.out.stay hB2).h ⟨#[97]⟩ ⟨#[]⟩ 0 (by decide) (by decide)).mono ?_; rintro e w3 ⟨hd, _⟩; obtain ⟨rfl, hB3⟩ := hd 240 (by kernel_rfl); clear hd)
        | (go_at_call 23; refine (same_yes _ g2 c2 w3.heap.size 4 4 [2, 1, 0, 3] (by decide) (aw_cells hown hB3 _) (aw_new _ _) rfl).mono ?_; rintro e w4 ⟨rfl, d, rfl⟩)
        | (go_at_call 20; refine (len_lit 4 (by kernel_rfl) (nodes := aw13.1) (now := aw13.2) (((HW.out.stay hB2).stay hB3).h.stay (G := fun _ => False) (((Frm.refl _ w3).alloc _).drewN d) (fun _ _ => id))).mono ?_; rintro e w5 ⟨rfl, rfl⟩))
      go_ret
      exact ⟨rfl, (((HW.out.stay hB2).stay hB3).b.alloc (((HW.out.stay hB2).stay hB3).b.size) _).trans ⟨rfl, rfl, rfl, Nat.le_refl _, fun _ _ => rfl⟩⟩
    · have hW : AwW w B0 t F aw0 wr := hW
      have c0 : wr.cell? ⟨B0, 0, none⟩ = some (.string ⟨#[68, 111, 32, 98]⟩) := (hW.cell 0).trans rfl
      have HW := Lib.hid hW
      clear hW
      go_wp2_with (go_at_call 17; refine (step_do (s := aw0) HW.out.h 0 ⟨#[98]⟩ 1 (by decide) (by kernel_rfl) (by kernel_rfl)).mono ?_; rintro e w2 ⟨rfl, hP⟩)
      go_roundw
      case rel => (obtain ⟨F', hW'⟩ := HW.out.step (s' := aw1) hP; exact ⟨1, F', by omega, rfl, hW'⟩)
      case measure => simp [intOf]
    · have hW : AwW w B0 t F aw1 wr := hW
      have c0 : wr.cell? ⟨B0, 1, none⟩ = some (.string ⟨#[68, 111, 32, 99]⟩) := (hW.cell 1).trans rfl
      have HW := Lib.hid hW
      clear hW
      go_wp2_with (go_at_call 17; refine (step_do (s := aw1) HW.out.h 1 ⟨#[99]⟩ 2 (by decide) (by kernel_rfl) (by kernel_rfl)).mono ?_; rintro e w2 ⟨rfl, hP⟩)
      go_roundw
      case rel => (obtain ⟨F', hW'⟩ := HW.out.step (s' := aw2) hP; exact ⟨2, F', by omega, rfl, hW'⟩)
      case measure => simp [intOf]
    · have hW : AwW w B0 t F aw2 wr := hW
      have c0 : wr.cell? ⟨B0, 2, none⟩ = some (.string ⟨#[85, 110, 100, 111, 32, 98]⟩) := (hW.cell 2).trans rfl
      have e2 : (([98] : List UInt8) == (((⟨#[85, 110, 100, 111, 32, 98]⟩ : ByteArray).extract 5 6).toList)) = true := by decide +kernel
      have HW := Lib.hid hW
      clear hW
      go_wp2_with (go_at_call 15; refine (step_undo (s := aw2) HW.out.h ⟨#[98]⟩ (by decide +kernel) (by kernel_rfl)).mono ?_; rintro e w2 ⟨rfl, hP⟩)
      go_roundw
      case rel => (obtain ⟨F', hW'⟩ := HW.out.step (s' := aw3) hP; exact ⟨3, F', by omega, rfl, hW'⟩)
      case measure => simp [intOf]
    · have hW : AwW w B0 t F aw3 wr := hW
      have c0 : wr.cell? ⟨B0, 3, none⟩ = some (.string ⟨#[85, 110, 100, 111, 32, 97]⟩) := (hW.cell 3).trans rfl
      have e2 : (([97] : List UInt8) == (((⟨#[85, 110, 100, 111, 32, 97]⟩ : ByteArray).extract 5 6).toList)) = true := by decide +kernel
      have HW := Lib.hid hW
      clear hW
      go_wp2_with (go_at_call 15; refine (step_undo (s := aw3) HW.out.h ⟨#[97]⟩ (by decide +kernel) (by kernel_rfl)).mono ?_; rintro e w2 ⟨rfl, hP⟩)
      go_roundw
      case rel => (obtain ⟨F', hW'⟩ := HW.out.step (s' := aw4) hP; exact ⟨4, F', by omega, rfl, hW'⟩)
      case measure => simp [intOf]
    · have hW : AwW w B0 t F aw4 wr := hW
      have c0 : wr.cell? ⟨B0, 4, none⟩ = some (.string ⟨#[68, 111, 32, 100]⟩) := (hW.cell 4).trans rfl
      have HW := Lib.hid hW
      clear hW
      go_wp2_with (go_at_call 17; refine (step_do (s := aw4) HW.out.h 4 ⟨#[100]⟩ 3 (by decide) (by kernel_rfl) (by kernel_rfl)).mono ?_; rintro e w2 ⟨rfl, hP⟩)
      go_roundw
      case rel => (obtain ⟨F', hW'⟩ := HW.out.step (s' := aw5) hP; exact ⟨5, F', by omega, rfl, hW'⟩)
      case measure => simp [intOf]
    · have hW : AwW w B0 t F aw5 wr := hW
      have c0 : wr.cell? ⟨B0, 5, none⟩ = some (.string ⟨#[82, 101, 100, 111]⟩) := (hW.cell 5).trans rfl
      have HW := Lib.hid hW
      clear hW
      go_wp2_with (go_at_call 16; refine (redo_none (nodes := aw5.1) (now := aw5.2) HW.out.h (by kernel_rfl)).mono ?_; rintro e w2 ⟨rfl, hP⟩)
      go_roundw
      case rel => exact ⟨6, F, by omega, rfl, HW.out.stay hP⟩
      case measure => simp [intOf]
    · have hW : AwW w B0 t F aw6 wr := hW
      have c0 : wr.cell? ⟨B0, 6, none⟩ = some (.string ⟨#[85, 110, 100, 111, 32, 97]⟩) := (hW.cell 6).trans rfl
      have e2 : (([97] : List UInt8) == (((⟨#[85, 110, 100, 111, 32, 97]⟩ : ByteArray).extract 5 6).toList)) = true := by decide +kernel
      have HW := Lib.hid hW
      clear hW
      go_wp2_with (go_at_call 15; refine (step_undo (s := aw6) HW.out.h ⟨#[97]⟩ (by decide +kernel) (by kernel_rfl)).mono ?_; rintro e w2 ⟨rfl, hP⟩)
      go_roundw
      case rel => (obtain ⟨F', hW'⟩ := HW.out.step (s' := aw7) hP; exact ⟨7, F', by omega, rfl, hW'⟩)
      case measure => simp [intOf]
    · have hW : AwW w B0 t F aw7 wr := hW
      have c0 : wr.cell? ⟨B0, 7, none⟩ = some (.string ⟨#[82, 101, 100, 111, 32, 100]⟩) := (hW.cell 7).trans rfl
      have e2 : (([100] : List UInt8) == (((⟨#[82, 101, 100, 111, 32, 100]⟩ : ByteArray).extract 5 6).toList)) = true := by decide +kernel
      have HW := Lib.hid hW
      clear hW
      go_wp2_with (go_at_call 16; refine (step_redo (s := aw7) HW.out.h ⟨#[100]⟩ 3 (by kernel_rfl) (by decide +kernel) (by kernel_rfl)).mono ?_; rintro e w2 ⟨rfl, hP⟩)
      go_roundw
      case rel => (obtain ⟨F', hW'⟩ := HW.out.step (s' := aw8) hP; exact ⟨8, F', by omega, rfl, hW'⟩)
      case measure => simp [intOf]
    · have hW : AwW w B0 t F aw8 wr := hW
      have c0 : wr.cell? ⟨B0, 8, none⟩ = some (.string ⟨#[71, 111, 32, 99]⟩) := (hW.cell 8).trans rfl
      have e2 : (([99] : List UInt8) == (((⟨#[71, 111, 32, 99]⟩ : ByteArray).extract 3 4).toList)) = true := by decide +kernel
      have HW := Lib.hid hW
      clear hW
      go_wp2_with (go_at_call 18; refine (step_go (s := aw8) (HW.out.stay ((Below.refl _ wr).alloc (Nat.le_refl _) _)).h ⟨#[99]⟩ 2 (by decide +kernel) (by kernel_rfl)).mono ?_; rintro e w2 ⟨rfl, hP⟩)
      go_roundw
      case rel => (obtain ⟨F', hW'⟩ := (HW.out.stay ((Below.refl _ wr).alloc (Nat.le_refl _) (.cells #[.int .i64 2, .int .i64 0] 3))).step (s' := aw9) hP; exact ⟨9, F', by omega, rfl, hW'⟩)
      case measure => simp [intOf]
    · have hW : AwW w B0 t F aw9 wr := hW
      have c0 : wr.cell? ⟨B0, 9, none⟩ = some (.string ⟨#[85, 110, 100, 111, 32, 98]⟩) := (hW.cell 9).trans rfl
      have e2 : (([98] : List UInt8) == (((⟨#[85, 110, 100, 111, 32, 98]⟩ : ByteArray).extract 5 6).toList)) = true := by decide +kernel
      have HW := Lib.hid hW
      clear hW
      go_wp2_with (go_at_call 15; refine (step_undo (s := aw9) HW.out.h ⟨#[98]⟩ (by decide +kernel) (by kernel_rfl)).mono ?_; rintro e w2 ⟨rfl, hP⟩)
      go_roundw
      case rel => (obtain ⟨F', hW'⟩ := HW.out.step (s' := aw10) hP; exact ⟨10, F', by omega, rfl, hW'⟩)
      case measure => simp [intOf]
    · have hW : AwW w B0 t F aw10 wr := hW
      have c0 : wr.cell? ⟨B0, 10, none⟩ = some (.string ⟨#[85, 110, 100, 111, 32, 97]⟩) := (hW.cell 10).trans rfl
      have e2 : (([97] : List UInt8) == (((⟨#[85, 110, 100, 111, 32, 97]⟩ : ByteArray).extract 5 6).toList)) = true := by decide +kernel
      have HW := Lib.hid hW
      clear hW
      go_wp2_with (go_at_call 15; refine (step_undo (s := aw10) HW.out.h ⟨#[97]⟩ (by decide +kernel) (by kernel_rfl)).mono ?_; rintro e w2 ⟨rfl, hP⟩)
      go_roundw
      case rel => (obtain ⟨F', hW'⟩ := HW.out.step (s' := aw11) hP; exact ⟨11, F', by omega, rfl, hW'⟩)
      case measure => simp [intOf]
    · have hW : AwW w B0 t F aw11 wr := hW
      have c0 : wr.cell? ⟨B0, 11, none⟩ = some (.string ⟨#[82, 101, 100, 111, 32, 98]⟩) := (hW.cell 11).trans rfl
      have e2 : (([98] : List UInt8) == (((⟨#[82, 101, 100, 111, 32, 98]⟩ : ByteArray).extract 5 6).toList)) = true := by decide +kernel
      have HW := Lib.hid hW
      clear hW
      go_wp2_with (go_at_call 16; refine (step_redo (s := aw11) HW.out.h ⟨#[98]⟩ 1 (by kernel_rfl) (by decide +kernel) (by kernel_rfl)).mono ?_; rintro e w2 ⟨rfl, hP⟩)
      go_roundw
      case rel => (obtain ⟨F', hW'⟩ := HW.out.step (s' := aw12) hP; exact ⟨12, F', by omega, rfl, hW'⟩)
      case measure => simp [intOf]
    · have hW : AwW w B0 t F aw12 wr := hW
      have c0 : wr.cell? ⟨B0, 12, none⟩ = some (.string ⟨#[71, 111, 32, 97]⟩) := (hW.cell 12).trans rfl
      have e2 : (([97] : List UInt8) == (((⟨#[71, 111, 32, 97]⟩ : ByteArray).extract 3 4).toList)) = true := by decide +kernel
      have HW := Lib.hid hW
      clear hW
      go_wp2_with (go_at_call 18; refine (step_go (s := aw12) (HW.out.stay ((Below.refl _ wr).alloc (Nat.le_refl _) _)).h ⟨#[97]⟩ 0 (by decide +kernel) (by kernel_rfl)).mono ?_; rintro e w2 ⟨rfl, hP⟩)
      go_roundw
      case rel => (obtain ⟨F', hW'⟩ := (HW.out.stay ((Below.refl _ wr).alloc (Nat.le_refl _) (.cells #[.int .i64 2, .int .i64 0] 3))).step (s' := aw13) hP; exact ⟨13, F', by omega, rfl, hW'⟩)
      case measure => simp [intOf]
end Go.Proofs.Ythneinepdbkgeaa
