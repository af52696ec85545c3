/- What HistoryWrong asks of a tree. -/
import Derived.Test.YthneinepdbkgeaaOpenn
import Derived.Test.YthneinepdbkgeaaNilt
import Derived.Deep.OwnRows
import Derived.Laws.BytesArg
namespace Go.Proofs.Ythneinepdbkgeaa
open Go.RowKit Go.HK
set_option linter.unusedVariables false
set_option linter.unusedSimpArgs false
set_option linter.unusedSectionVars false
theorem info5 : (Try.prog.info? 5).map (fun i => (i.zero, i.size, i.bytes)) = some (some (.int .u8 0), 1, 1) := by kernel_rfl
/-- The string of N zero bytes. -/
def zeros (N : Nat) : ByteArray := strOfNums (List.replicate N 0)
theorem zeros_size (N : Nat) : (zeros N).size = N := by
  simp [zeros, strOfNums, ByteArray.size]
theorem zeros_make (N : Nat) (hN : N ≤ 20000) (w : World) : (Instr.makeSlice 75 (.int .i64 (N : Int)) (.int .i64 (N : Int))).run Try.prog w = .ok (.slice (some ⟨w.heap.size, 0, none⟩) N N) (w.alloc (.cells (madeCells #[.int .u8 0] N) 5)) :=
  run_make_row' 75 5 (.int .u8 0) 1 Try.underlying75 info5 rfl .i64 .i64 N (by omega) (by omega) w
theorem zeros_conv (N : Nat) (w : World) : (convert 75 9 (.slice (some ⟨w.heap.size, 0, none⟩) N N)).run Try.prog (w.alloc (.cells (madeCells #[.int .u8 0] N) 5)) = .ok (.string (zeros N)) (w.alloc (.cells (madeCells #[.int .u8 0] N) 5)) := by
  refine run_convert_bytes_arg _ 75 5 Try.underlying75 Try.underlying5 _ 0 N N (List.replicate N 0) (by simp) (fun i hi => ?_) 9 Try.underlying9
  rw [blk_cell (blk_new w _)]
  simp [madeCells, hi, Nat.mod_one, List.getD]
section
variable {w : World} {t : Nat} {F : List Nat} {nodes : List Go.HK.HN} {now : Nat}
theorem do_early (h : Hist w t F nodes now) (st note : ByteArray) (tick : Int) (hs : st.size ≤ 16384) (hn : note.size ≤ 100) (ht : tick < tickF nodes now) :
    Calls Try.prog 17 #[.pointer (some ⟨t, 0, none⟩), .string st, .string note, .int .i64 tick] w fun e w' => e = .returned (.tuple #[.int .i64 0, .int .i64 2]) ∧ Below w.heap.size w w' :=
  (do_any h st note tick hs hn).mono fun e w' ⟨h1, _⟩ => h1 2 (by unfold doR; rw [if_pos ht])
theorem do_same (h : Hist w t F nodes now) (st note : ByteArray) (tick : Int) (hs : st.size ≤ 16384) (hn : note.size ≤ 100) (ht : ¬ tick < tickF nodes now) (he : st = stateF nodes now) :
    Calls Try.prog 17 #[.pointer (some ⟨t, 0, none⟩), .string st, .string note, .int .i64 tick] w fun e w' => e = .returned (.tuple #[.int .i64 0, .int .i64 240]) ∧ Below w.heap.size w w' :=
  (do_any h st note tick hs hn).mono fun e w' ⟨h1, _⟩ => h1 240 (by unfold doR; rw [if_neg ht, if_pos he])
/-- An empty row, and an error's number. -/
def RetN (w : World) (k : Int) (e : Ending) (w' : World) : Prop := ∃ a c, e = .returned (.tuple #[.slice a 0 c, .int .i64 k]) ∧ Below w.heap.size w w'
theorem RetN.of {w w' : World} {k : Int} {e : Ending} (h : RetI w [] k e w') : RetN w k e w' := by
  obtain ⟨v, rfl, ho, hB⟩ := h
  rcases ho.2 with ⟨rfl, _⟩ | ⟨g, c, cur, rfl, _⟩
  · exact ⟨_, _, rfl, hB⟩
  · exact ⟨_, _, rfl, hB⟩
theorem children_n (h : Hist w t F nodes now) (k : Int) (hk : ¬ (0 ≤ k ∧ k < nodes.length)) : Calls Try.prog 25 #[.pointer (some ⟨t, 0, none⟩), .int .i64 k] w (RetN w 6) := (children_no h k hk).mono fun _ _ => RetN.of
theorem way_n (h : Hist w t F nodes now) (k : Int) (hk : ¬ (0 ≤ k ∧ k < nodes.length)) : Calls Try.prog 22 #[.pointer (some ⟨t, 0, none⟩), .int .i64 k] w (RetN w 6) := (way_no h k hk).mono fun _ _ => RetN.of
theorem between_n (h : Hist w t F nodes now) (a b : Int) (hk : ¬ (0 ≤ a ∧ a < nodes.length) ∨ ¬ (0 ≤ b ∧ b < nodes.length)) : Calls Try.prog 21 #[.pointer (some ⟨t, 0, none⟩), .int .i64 a, .int .i64 b] w (RetN w 6) :=
  (between_no h a b (fun h => hk.elim (fun h1 => h1 h.1) (fun h1 => h1 h.2))).mono fun _ _ => RetN.of
end
end Go.Proofs.Ythneinepdbkgeaa
