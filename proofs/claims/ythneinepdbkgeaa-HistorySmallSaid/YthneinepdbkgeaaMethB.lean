/- The walks of Go, Do, Entry, Children, Way, Find. -/
import Derived.Test.YthneinepdbkgeaaMeth
import Derived.Deep.DeepCutAuto
namespace Go.Proofs.Ythneinepdbkgeaa
open Go.RowKit Go.HK
set_option linter.unusedVariables false
set_option linter.unusedSimpArgs false
set_option linter.unusedSectionVars false

theorem findE_one (nodes : List HN) (n : Int) : findE nodes [n] = if 0 ≤ n ∧ n < nodes.length then 0 else 6 := by simp [findE]
theorem findE_two (nodes : List HN) (a b : Int) : findE nodes [a, b] = if (0 ≤ a ∧ a < nodes.length) ∧ 0 ≤ b ∧ b < nodes.length then 0 else 6 := by simp [findE]

/-- HistAt lies on where nothing of the tree turns. -/
theorem HistAt.below {w w' : World} {t g cp m : Nat} {nodes : List HN} {now : Nat} (h : HistAt w t g cp m nodes now) {B : Nat} (hb : Below B w w') (ht : t < B) (hg : g < B) : HistAt w' t g cp m nodes now :=
  ⟨(hb.cell (p := ⟨t, 0, none⟩) ht).trans h.c0, (hb.cell (p := ⟨t, 1, none⟩) ht).trans h.c1, (hb.cell (p := ⟨t, 2, none⟩) ht).trans h.c2, (hb.cell (p := ⟨t, 3, none⟩) ht).trans h.c3, fun i x hx =>
    let ⟨a, b, c, d, e⟩ := h.nd i x hx
    ⟨(hb.cell (p := ⟨g, _, none⟩) hg).trans a, (hb.cell (p := ⟨g, _, none⟩) hg).trans b, (hb.cell (p := ⟨g, _, none⟩) hg).trans c, (hb.cell (p := ⟨g, _, none⟩) hg).trans d, (hb.cell (p := ⟨g, _, none⟩) hg).trans e⟩⟩

section
variable {w : World} {t : Nat} {F : List Nat} {nodes : List HN} {now : Nat}

/-- find, called with one number: its list lies in a new block. -/
theorem find_one (h : Hist w t F nodes now) (n : Int) : Calls Try.prog 40 #[.pointer (some ⟨t, 0, none⟩), .slice (some ⟨w.heap.size, 0, none⟩) 1 1] (w.alloc (.cells #[.int .i64 n] 3)) fun e w' =>
    e = .returned (.int .i64 (if 0 ≤ n ∧ n < nodes.length then 0 else 6)) ∧ (w.alloc (.cells #[.int .i64 n] 3)) = w' := by
  have h' : Hist (w.alloc (.cells #[.int .i64 n] 3)) t F nodes now := h.stay (G := fun _ => False) ((Frm.refl _ w).alloc _) (fun _ _ => id)
  obtain ⟨g, cp, m, kv, es, clock, gs, hA, hC, rfl⟩ := h'.at_
  rw [← findE_one]
  exact find_any hA h.1.le w.heap.size [n] (by simp) (fun j k hj => by
    cases j with
    | zero => simp at hj; subst hj; simp
    | succ j => simp at hj) 1

set_option maxRecDepth 100000 in
set_option maxHeartbeats 2000000 in
theorem go_no (h : Hist w t F nodes now) (n : Int) (hn : ¬ (0 ≤ n ∧ n < nodes.length)) : Calls Try.prog 18 #[.pointer (some ⟨t, 0, none⟩), .int .i64 n] w fun e w' => e = .returned (.tuple #[.string ⟨#[]⟩, .int .i64 6]) ∧ Below w.heap.size w w' := by
  have hf := find_one h n
  rw [if_neg hn] at hf
  have hB : Below w.heap.size w (w.alloc (.cells #[.int .i64 n] 3)) := (Below.refl _ w).alloc (Nat.le_refl _) _
  have HB := Lib.hid hB
  clear hB hn
  have HF := Lib.hid hf
  clear hf
  go_enter Try.func18, Try.ntmps18
  go_wp2_with (go_at_call 40; refine HF.out.mono ?_; rintro e w' ⟨rfl, rfl⟩)
  go_ret2
  exact ⟨rfl, HB.out⟩

set_option maxRecDepth 100000 in
set_option maxHeartbeats 2000000 in
theorem go_yes (h : Hist w t F nodes now) (n : Nat) (hn : n < nodes.length) : Calls Try.prog 18 #[.pointer (some ⟨t, 0, none⟩), .int .i64 n] w fun e w' => e = .returned (.tuple #[.string (stateF nodes n), .int .i64 0]) ∧ HPost w t F (lead nodes n) n w' := by
  have hf := find_one h n
  rw [if_pos ⟨by omega, by omega⟩] at hf
  have h' : Hist (w.alloc (.cells #[.int .i64 n] 3)) t F nodes now := h.stay (G := fun _ => False) ((Frm.refl _ w).alloc _) (fun _ _ => id)
  have hF0 : Frm (· ∈ F) w (w.alloc (.cells #[.int .i64 n] 3)) := (Frm.refl _ w).alloc _
  have HF0 := Lib.hid hF0
  clear hF0
  have HF := Lib.hid hf
  clear hf
  have H' := Lib.hid h'
  clear h'
  go_enter Try.func18, Try.ntmps18
  go_wp2_with (first
    | (go_at_call 40; refine HF.out.mono ?_; rintro e w' ⟨rfl, rfl⟩)
    | (go_at_call 39; refine (lead_any H'.out n hn).mono ?_; rintro e w1 ⟨rfl, hH1, hF1⟩)
    | (go_at_call 37; refine (move_any hH1 n (by rw [lead_length]; exact hn)).mono ?_; rintro e w2 ⟨rfl, hH2, hF2⟩))
  go_ret2
  exact ⟨by rw [show stateF (lead nodes n) = stateF nodes from stateF_leadL _ _ _]; rfl, .of_hist hH2 ((HF0.out.trans hF1).trans hF2)⟩

/-! ### Do -/
theorem bytes_ne {a b : ByteArray} (h : a ≠ b) : (a.toList == b.toList) = false := by
  rw [← beq_toListBytes]
  cases e : (a == b) with
  | false => rfl
  | true => exact absurd ((MapKept.bytes_beq a b).1 e) h
theorem bytes_eq (a : ByteArray) : (a.toList == a.toList) = true := by simp

set_option maxRecDepth 100000 in
set_option maxHeartbeats 2000000 in
theorem do_long (h : Hist w t F nodes now) (state note : ByteArray) (tick : Int) (hs : state.size ≤ maxLen) (hn : note.size ≤ maxLen) (hl : 16384 < state.size ∨ 100 < note.size) :
    Calls Try.prog 17 #[.pointer (some ⟨t, 0, none⟩), .string state, .string note, .int .i64 tick] w fun e w' => e = .returned (.tuple #[.int .i64 0, .int .i64 3]) ∧ w = w' := by
  obtain ⟨g, cp, m, kv, es, clock, gs, hA, hC, rfl⟩ := h.at_
  have c3 := hA.c3
  unfold maxLen at hs hn
  by_cases h1 : 16384 < state.size
  · clear hl
    go_enter Try.func17, Try.ntmps17
    go_wp2_with (go_at_call 36; refine (usable_yes t _ c3).mono ?_; rintro e w' ⟨rfl, rfl⟩)
    go_ret2
    exact ⟨rfl, rfl⟩
  · have h2 := hl.resolve_left h1
    clear hl
    go_enter Try.func17, Try.ntmps17
    go_wp2_with (go_at_call 36; refine (usable_yes t _ c3).mono ?_; rintro e w' ⟨rfl, rfl⟩)
    go_ret2
    exact ⟨rfl, rfl⟩

/-- The box of the present entry. -/
def DoBox (w : World) (x : HN) (p : Value) (wx : World) : Prop := ∃ B, p = .pointer (some ⟨B, 0, none⟩) ∧ wx.heap[B]? = some (.cells #[.int .i64 x.par, .int .i64 x.tick, .string x.note, .string x.state] 45 (0, 0)) ∧ w.heap.size ≤ B ∧ Below w.heap.size w wx

/-- What Do does. -/
def doR (nodes : List HN) (now : Nat) (state note : ByteArray) (tick : Int) : Option Int :=
  if tick < tickF nodes now then some 2 else if state = stateF nodes now then some 240 else if 1000 ≤ nodes.length then some 4 else none

set_option maxRecDepth 100000 in
set_option maxHeartbeats 4000000 in
theorem do_any (h : Hist w t F nodes now) (state note : ByteArray) (tick : Int) (hs : state.size ≤ 16384) (hn : note.size ≤ 100) :
    Calls Try.prog 17 #[.pointer (some ⟨t, 0, none⟩), .string state, .string note, .int .i64 tick] w fun e w' =>
      (∀ k, doR nodes now state note tick = some k → e = .returned (.tuple #[.int .i64 0, .int .i64 k]) ∧ Below w.heap.size w w') ∧
      (doR nodes now state note tick = none → e = .returned (.tuple #[.int .i64 nodes.length, .int .i64 0]) ∧ HPost w t F (lead (addN nodes now tick note state) nodes.length) nodes.length w') := by
  have h0 := h
  obtain ⟨g, cp, m, kv, es, clock, gs, hA, hC, rfl⟩ := h.at_
  have hle := h.1.le
  have hnow := h.1.now
  obtain ⟨x, hx⟩ := get_of_lt hnow
  obtain ⟨n0, n1, n2, n3, _⟩ := hA.nd now x hx
  have c0 := hA.c0
  have c2 := hA.c2
  have c3 := hA.c3
  have tq := tickF_get hx
  have sq := stateF_get hx
  have e0 := World.new_ne w _ c0
  have e1 := World.new_ne w _ n0
  have b0 : (0 : Int) ≤ (now : Int) := by omega
  have b1 : (now : Int) < (nodes.length : Int) := by omega
  have Htq := Lib.hid tq
  have Hsq := Lib.hid sq
  clear tq sq hx
  go_enter Try.func17, Try.ntmps17
  go_upto_region 5 with (go_at_call 36; refine (usable_yes t _ c3).mono ?_; rintro e w' ⟨rfl, rfl⟩)
  go_cut [10] (fun p wx => DoBox w x p wx)
  case first =>
    go_region_held3 (fun w' => w'.cell? ⟨t, 0, none⟩ = some (.slice (some ⟨g, 0, none⟩) nodes.length cp) ∧ w'.cell? ⟨t, 2, none⟩ = some (.int .i64 now) ∧ w'.cell? ⟨g, now * 6, none⟩ = some (.int .i64 x.par) ∧ w'.cell? ⟨g, now * 6 + 1, none⟩ = some (.int .i64 x.tick) ∧ w'.cell? ⟨g, now * 6 + 2, none⟩ = some (.string x.note) ∧ w'.cell? ⟨g, now * 6 + 3, none⟩ = some (.string x.state)) (go_keep) (fail)
    all_goals (
      go_wp2_with (fail)
      go_meet
      case rel => exact ⟨w.heap.size, rfl, blk_drew (blk_new w _), Nat.le_refl _, ((Below.refl _ w).alloc (Nat.le_refl _) _).drew⟩)
  case rest =>
    obtain ⟨B, rfl, hbox, hB, hbl⟩ := hcut
    have hbt : Frm (fun _ => False) w wc := ⟨hbl.os, hbl.tape, hbl.output, hbl.size, fun k hk _ => hbl.block k hk⟩
    have hw : Hist wc t (foot t m (.slice (some ⟨g, 0, none⟩) nodes.length cp) kv gs) nodes now := h0.stay hbt (fun _ _ => id)
    have hA' := hA.below hbl (h0.lt t foot_t) (h0.lt g (foot_v tv_nv rfl))
    clear c0 c2 c3 n0 n1 n2 n3 e0 e1
    have k1 : wc.cell? ⟨B, 1, none⟩ = some (.int .i64 x.tick) := blk_cell hbox 1
    have k3 : wc.cell? ⟨B, 3, none⟩ = some (.string x.state) := blk_cell hbox 3
    have c0 := hA'.c0
    have c2 := hA'.c2
    by_cases ht : tick < x.tick
    · have hR : doR nodes now state note tick = some 2 := by rw [doR, Htq.out, if_pos ht]
      have HR := Lib.hid hR
      clear hR
      go_wp2_with (fail)
      go_ret2
      refine ⟨fun k hk => ?_, fun hk => ?_⟩
      · rw [HR.out] at hk; cases hk; exact ⟨rfl, hbl⟩
      · rw [HR.out] at hk; cases hk
    · by_cases hst : state = x.state
      · have hR : doR nodes now state note tick = some 240 := by rw [doR, Htq.out, if_neg ht, Hsq.out, if_pos hst]
        have HR := Lib.hid hR
        clear hR
        subst hst
        go_wp2_with (fail)
        go_ret2
        refine ⟨fun k hk => ?_, fun hk => ?_⟩
        · rw [HR.out] at hk; cases hk; exact ⟨rfl, hbl⟩
        · rw [HR.out] at hk; cases hk
      · have hsb := bytes_ne hst
        by_cases hfull : 1000 ≤ nodes.length
        · have hR : doR nodes now state note tick = some 4 := by rw [doR, Htq.out, if_neg ht, Hsq.out, if_neg hst, if_pos hfull]
          have HR := Lib.hid hR
          clear hR hst
          go_wp2_with (fail)
          go_ret2
          refine ⟨fun k hk => ?_, fun hk => ?_⟩
          · rw [HR.out] at hk; cases hk; exact ⟨rfl, hbl⟩
          · rw [HR.out] at hk; cases hk
        · have hR : doR nodes now state note tick = none := by rw [doR, Htq.out, if_neg ht, Hsq.out, if_neg hst, if_neg hfull]
          have HR := Lib.hid hR
          clear hR hst
          have hlt : nodes.length < 1000 := by omega
          have hwd := hw.drew
          have HF := Lib.hid hbt
          clear hbt
          go_wp2_with (fail)
          go_still_tail 11, (by kernel_rfl)
          change wpList _ _ _ _ _ wc.drew
          go_wp2_with (first
            | (go_at_call 38; refine (add_hist hwd hlt now hnow tick note state).mono ?_; rintro e w1 ⟨rfl, F1, hH1, hF1, hb1⟩)
            | (go_at_call 39; refine (lead_any hH1 nodes.length (by rw [addN_length]; omega)).mono ?_; rintro e w2 ⟨rfl, hH2, hF2⟩)
            | (go_at_call 37; refine (move_any hH2 nodes.length (by rw [lead_length, addN_length]; omega)).mono ?_; rintro e w3 ⟨rfl, hH3, hF3⟩))
          go_ret2
          refine ⟨fun k hk => ?_, fun _ => ⟨rfl, F1, hH3, ?_, ?_⟩⟩
          · rw [HR.out] at hk; cases hk
          · have f1 : Frm (· ∈ foot t m (.slice (some ⟨g, 0, none⟩) nodes.length cp) kv gs) w w1 := ((HF.out.mono (fun _ h => h.elim)).drew).trans hF1
            have hz := HF.out.size
            have hF1' : ∀ b ∈ F1, b ∈ foot t m (.slice (some ⟨g, 0, none⟩) nodes.length cp) kv gs ∨ w.heap.size ≤ b := fun b hb => (hb1 b hb).imp id (fun h => by simp at h; omega)
            exact (f1.trans' hF2 hF1').trans' hF3 hF1'
          · intro b hb
            have hz := HF.out.size
            exact (hb1 b hb).imp id (fun h => by simp at h; omega)
end
end Go.Proofs.Ythneinepdbkgeaa
