/- The walks of the scanner's methods run and mark. -/
import Derived.Test.YtdobflpbkfkmgaaDoorLexF
namespace Go.Proofs.YtdobflpbkfkmgaaDoor
open Go.RowKit
set_option linter.unusedVariables false
set_option linter.unusedSimpArgs false
set_option linter.unusedSectionVars false
def nameB (t : ByteArray) : Bool := checkB varB digitB t || checkB funB alnumB t || checkB capB alnumB t
/-- A kind, a text, an error's number. -/
structure KT where
  k : Int
  t : ByteArray
  e : Int
def runR (t : ByteArray) : KT := if wordB t then ⟨3, t, 0⟩ else if nameB t then ⟨1, t, 0⟩ else ⟨0, ⟨#[]⟩, 41⟩
def markR (t : ByteArray) : KT := if metaB t then ⟨2, t, 0⟩ else ⟨0, ⟨#[]⟩, 41⟩
def RetK (w : World) (r : KT) (e : Ending) (w' : World) : Prop := e = .returned (.tuple #[.int .u8 r.k, .string r.t, .int .i64 r.e]) ∧ Below w.heap.size w w'
theorem drew_below (w : World) (d : Nat) : Below w.heap.size w (w.drewN d) := below_drewN (Below.refl _ w) d
theorem extract_le {s : ByteArray} (hs : s.size ≤ maxLen) (a b : Nat) : (s.extract a b).size ≤ maxLen := by
  rw [ByteArray.size_extract]; omega
set_option maxRecDepth 100000 in
set_option maxHeartbeats 2000000 in
theorem mark_any (w : World) (b at_ : Nat) (s : ByteArray) (h : Scan w b at_ s) (hs : s.size ≤ maxLen) (ha : at_ + 1 ≤ s.size) :
    Calls Tryd.prog 96 #[.pointer (some ⟨b, 0, none⟩)] w (RetK w (markR (s.extract at_ (spanE s (at_ + 1))))) := by
  have hb := behind_any w b at_ s h hs ha
  have hl := extract_le hs at_ (spanE s (at_ + 1))
  obtain ⟨T, hT⟩ : ∃ T, s.extract at_ (spanE s (at_ + 1)) = T := ⟨_, rfl⟩
  rw [hT] at hb hl ⊢
  have HB := Lib.hid hb
  have hm := fun d => meta_any (w.drewN d) T hl
  cases hc : metaB T with
  | true =>
    have hr : markR T = ⟨2, T, 0⟩ := by simp [markR, hc]
    rw [hr]
    rw [hc] at hm
    have HM := Lib.hid hm
    clear hb hT hm hc hr h
    go_enter Tryd.func96, Tryd.ntmps96
    go_wp2_with (first
      | (go_at_call 108; (refine HB.out.mono ?_; rintro e w' ⟨rfl, d, rfl⟩))
      | (go_at_call 110; (refine (HM.out d).mono ?_; rintro e w2 ⟨rfl, hB2⟩)))
    refine bodyPost_ret (v := .tuple #[.int .u8 2, .string T, .int .i64 0]) (by simp [results, Tryd.results96, go_sem]) rfl ⟨rfl, ?_⟩
    exact (drew_below w d).trans hB2
  | false =>
    have hr : markR T = ⟨0, ⟨#[]⟩, 41⟩ := by simp [markR, hc]
    rw [hr]
    rw [hc] at hm
    have HM := Lib.hid hm
    clear hb hT hm hc hr h
    go_enter Tryd.func96, Tryd.ntmps96
    go_wp2_with (first
      | (go_at_call 108; (refine HB.out.mono ?_; rintro e w' ⟨rfl, d, rfl⟩))
      | (go_at_call 110; (refine (HM.out d).mono ?_; rintro e w2 ⟨rfl, hB2⟩)))
    refine bodyPost_ret (v := .tuple #[.int .u8 0, .string ⟨#[]⟩, .int .i64 41]) (by simp [results, Tryd.results96, go_sem]) rfl ⟨rfl, ?_⟩
    exact (drew_below w d).trans hB2
set_option maxRecDepth 100000 in
set_option maxHeartbeats 4000000 in
theorem run_any (w : World) (b at_ : Nat) (s : ByteArray) (h : Scan w b at_ s) (hs : s.size ≤ maxLen) (ha : at_ + 1 ≤ s.size) :
    Calls Tryd.prog 94 #[.pointer (some ⟨b, 0, none⟩)] w (RetK w (runR (s.extract at_ (spanE s (at_ + 1))))) := by
  have hb := behind_any w b at_ s h hs ha
  have hl := extract_le hs at_ (spanE s (at_ + 1))
  obtain ⟨T, hT⟩ : ∃ T, s.extract at_ (spanE s (at_ + 1)) = T := ⟨_, rfl⟩
  rw [hT] at hb hl ⊢
  have HB := Lib.hid hb
  have hw := fun w' => word_any w' T
  have hv := fun w' => variable_any w' T hl
  have hf := fun w' => function_any w' T hl
  have hp := fun w' => predicate_any w' T hl
  cases c1 : wordB T with
  | true =>
    have hr : runR T = ⟨3, T, 0⟩ := by simp [runR, c1]
    rw [hr]
    rw [c1] at hw
    have HW := Lib.hid hw
    clear hb hT hw hv hf hp c1 hr h
    go_enter Tryd.func94, Tryd.ntmps94
    go_wp2_with (first
      | (go_at_call 108; (refine HB.out.mono ?_; rintro e w' ⟨rfl, d, rfl⟩))
      | (go_at_call 109; (refine (HW.out _).mono ?_; rintro e wq ⟨rfl, rfl⟩)))
    refine bodyPost_ret (v := .tuple #[.int .u8 3, .string T, .int .i64 0]) (by simp [results, Tryd.results94, go_sem]) rfl ⟨rfl, ?_⟩
    exact drew_below w d
  | false =>
    rw [c1] at hw
    have HW := Lib.hid hw
    cases c2 : checkB varB digitB T with
    | true =>
      have hr : runR T = ⟨1, T, 0⟩ := by simp [runR, nameB, c1, c2]
      rw [hr]
      rw [c2] at hv
      have HV := Lib.hid hv
      clear hb hT hw hv hf hp c1 c2 hr h
      go_enter Tryd.func94, Tryd.ntmps94
      go_wp2_with (first
        | (go_at_call 108; (refine HB.out.mono ?_; rintro e w' ⟨rfl, d, rfl⟩))
        | (go_at_call 109; (refine (HW.out _).mono ?_; rintro e wq ⟨rfl, rfl⟩))
        | (go_at_call 63; (refine (HV.out (w.drewN d)).mono ?_; rintro e w1 ⟨rfl, hB1⟩)))
      refine bodyPost_ret (v := .tuple #[.int .u8 1, .string T, .int .i64 0]) (by simp [results, Tryd.results94, go_sem]) rfl ⟨rfl, ?_⟩
      exact (drew_below w d).trans hB1
    | false =>
      rw [c2] at hv
      have HV := Lib.hid hv
      cases c3 : checkB funB alnumB T with
      | true =>
        have hr : runR T = ⟨1, T, 0⟩ := by simp [runR, nameB, c1, c2, c3]
        rw [hr]
        rw [c3] at hf
        have HF := Lib.hid hf
        clear hb hT hw hv hf hp c1 c2 c3 hr h
        go_enter Tryd.func94, Tryd.ntmps94
        go_wp2_with (first
          | (go_at_call 108; (refine HB.out.mono ?_; rintro e w' ⟨rfl, d, rfl⟩))
          | (go_at_call 109; (refine (HW.out _).mono ?_; rintro e wq ⟨rfl, rfl⟩))
          | (go_at_call 63; (refine (HV.out (w.drewN d)).mono ?_; rintro e w1 ⟨rfl, hB1⟩))
          | (go_at_call 64; (refine (HF.out w1).mono ?_; rintro e w2 ⟨rfl, hB2⟩)))
        refine bodyPost_ret (v := .tuple #[.int .u8 1, .string T, .int .i64 0]) (by simp [results, Tryd.results94, go_sem]) rfl ⟨rfl, ?_⟩
        exact ((drew_below w d).trans hB1).trans (hB2.mono ((drew_below w d).trans hB1).size)
      | false =>
        rw [c3] at hf
        have HF := Lib.hid hf
        cases c4 : checkB capB alnumB T with
        | true =>
          have hr : runR T = ⟨1, T, 0⟩ := by simp [runR, nameB, c1, c2, c3, c4]
          rw [hr]
          rw [c4] at hp
          have HP := Lib.hid hp
          clear hb hT hw hv hf hp c1 c2 c3 c4 hr h
          go_enter Tryd.func94, Tryd.ntmps94
          go_wp2_with (first
            | (go_at_call 108; (refine HB.out.mono ?_; rintro e w' ⟨rfl, d, rfl⟩))
            | (go_at_call 109; (refine (HW.out _).mono ?_; rintro e wq ⟨rfl, rfl⟩))
            | (go_at_call 63; (refine (HV.out (w.drewN d)).mono ?_; rintro e w1 ⟨rfl, hB1⟩))
            | (go_at_call 64; (refine (HF.out w1).mono ?_; rintro e w2 ⟨rfl, hB2⟩))
            | (go_at_call 72; (refine (HP.out w2).mono ?_; rintro e w3 ⟨rfl, hB3⟩)))
          refine bodyPost_ret (v := .tuple #[.int .u8 1, .string T, .int .i64 0]) (by simp [results, Tryd.results94, go_sem]) rfl ⟨rfl, ?_⟩
          exact (((drew_below w d).trans hB1).trans (hB2.mono ((drew_below w d).trans hB1).size)).trans (hB3.mono (((drew_below w d).trans hB1).trans (hB2.mono ((drew_below w d).trans hB1).size)).size)
        | false =>
          have hr : runR T = ⟨0, ⟨#[]⟩, 41⟩ := by simp [runR, nameB, c1, c2, c3, c4]
          rw [hr]
          rw [c4] at hp
          have HP := Lib.hid hp
          clear hb hT hw hv hf hp c1 c2 c3 c4 hr h
          go_enter Tryd.func94, Tryd.ntmps94
          go_wp2_with (first
            | (go_at_call 108; (refine HB.out.mono ?_; rintro e w' ⟨rfl, d, rfl⟩))
            | (go_at_call 109; (refine (HW.out _).mono ?_; rintro e wq ⟨rfl, rfl⟩))
            | (go_at_call 63; (refine (HV.out (w.drewN d)).mono ?_; rintro e w1 ⟨rfl, hB1⟩))
            | (go_at_call 64; (refine (HF.out w1).mono ?_; rintro e w2 ⟨rfl, hB2⟩))
            | (go_at_call 72; (refine (HP.out w2).mono ?_; rintro e w3 ⟨rfl, hB3⟩)))
          refine bodyPost_ret (v := .tuple #[.int .u8 0, .string ⟨#[]⟩, .int .i64 41]) (by simp [results, Tryd.results94, go_sem]) rfl ⟨rfl, ?_⟩
          exact (((drew_below w d).trans hB1).trans (hB2.mono ((drew_below w d).trans hB1).size)).trans (hB3.mono (((drew_below w d).trans hB1).trans (hB2.mono ((drew_below w d).trans hB1).size)).size)
end Go.Proofs.YtdobflpbkfkmgaaDoor
