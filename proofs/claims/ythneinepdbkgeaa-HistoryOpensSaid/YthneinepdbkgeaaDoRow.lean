/- A script that came in; entries that came in. -/
import Derived.Test.YthneinepdbkgeaaLawe
import Derived.Test.YthneinepdbkgeaaActRow
namespace Go.Proofs.Ythneinepdbkgeaa
open Go.RowKit Go.HK Go.ChangeShapes Go.WideShapes Go.ChangeAt
set_option linter.unusedVariables false
set_option linter.unusedSimpArgs false
set_option linter.unusedSectionVars false
theorem cellsD : Try.prog.cellsOf 74 = 5 := by kernel_rfl
theorem cellsN : Try.prog.cellsOf 45 = 4 := by kernel_rfl
theorem cells3 : Try.prog.cellsOf 3 = 1 := by kernel_rfl
theorem cells5 : Try.prog.cellsOf 5 = 1 := by kernel_rfl
theorem cells9 : Try.prog.cellsOf 9 = 1 := by kernel_rfl
theorem str_of {H : Type} {enc : TypeId × Value → H} {w : World} {base : Nat} {spare : Nat → Bool} {held : Bool} {n : Nat} {v : Value} {x : DataW H × List MemPlace} (h : DataW.trod enc Try.prog w base spare held n 9 [v] = some x) : ∃ s, v = .string s ∧ s.size ≤ maxLen := by
  obtain ⟨s, hs, _, hz⟩ := DataW.trod_string Try.underlying9 h
  simp only [List.cons.injEq, and_true] at hs
  exact ⟨s, hs, hz⟩
theorem i64_of {H : Type} {enc : TypeId × Value → H} {w : World} {base : Nat} {spare : Nat → Bool} {held : Bool} {n : Nat} {v : Value} {x : DataW H × List MemPlace} (h : DataW.trod enc Try.prog w base spare held n 3 [v] = some x) : ∃ z, v = .int .i64 z := by
  obtain ⟨z, hz, _⟩ := DataW.trod_int Try.underlying3 h
  simp only [List.cons.injEq, and_true] at hz
  exact ⟨z, hz⟩
theorem list5 {cs : List Value} (h : cs.length = 5) : ∃ a b c d e, cs = [a, b, c, d, e] := by
  match cs, h with
  | [a, b, c, d, e], _ => exact ⟨a, b, c, d, e, rfl⟩
theorem list4 {cs : List Value} (h : cs.length = 4) : ∃ a b c d, cs = [a, b, c, d] := by
  match cs, h with
  | [a, b, c, d], _ => exact ⟨a, b, c, d, rfl⟩
section
variable {H : Type} {enc : TypeId × Value → H} {w : World} {base : Nat} {spare : Nat → Bool} {held : Bool}
theorem do_of {fuel : Nat} {cs : List Value} {x : DataW H × List MemPlace} (hl : cs.length = 5) (h : DataW.trod enc Try.prog w base spare held fuel 74 cs = some x) :
    ∃ d : DoE, cs = [.int .u8 (d.kind : Int), .int .i64 d.n, .int .i64 d.m, .string d.state, .string d.note] ∧ d.kind ≤ 255 ∧ d.state.size ≤ maxLen ∧ d.note.size ≤ maxLen := by
  obtain ⟨xs, n, _, _, _, hxl, hf⟩ := DataW.trod_struct Try.underlying74 h
  obtain ⟨c0, c1, c2, c3, c4, rfl⟩ := list5 hl
  have hxl : xs.length = 5 := hxl
  have f0 : DataW.trod enc Try.prog w base spare held n 5 (([c0, c1, c2, c3, c4].drop 0).take (Try.prog.cellsOf 5)) = xs[0]? := hf 0 _ rfl
  have f1 : DataW.trod enc Try.prog w base spare held n 3 (([c0, c1, c2, c3, c4].drop 1).take (Try.prog.cellsOf 3)) = xs[1]? := hf 1 _ rfl
  have f2 : DataW.trod enc Try.prog w base spare held n 3 (([c0, c1, c2, c3, c4].drop 2).take (Try.prog.cellsOf 3)) = xs[2]? := hf 2 _ rfl
  have f3 : DataW.trod enc Try.prog w base spare held n 9 (([c0, c1, c2, c3, c4].drop 3).take (Try.prog.cellsOf 9)) = xs[3]? := hf 3 _ rfl
  have f4 : DataW.trod enc Try.prog w base spare held n 9 (([c0, c1, c2, c3, c4].drop 4).take (Try.prog.cellsOf 9)) = xs[4]? := hf 4 _ rfl
  rw [cells5] at f0
  rw [cells3] at f1 f2
  rw [cells9] at f3 f4
  simp only [List.drop_zero, List.drop_succ_cons, List.take_succ_cons, List.take_zero] at f0 f1 f2 f3 f4
  rw [List.getElem?_eq_getElem (by omega)] at f0 f1 f2 f3 f4
  obtain ⟨e0, b0⟩ := u8_of f0
  obtain ⟨z1, rfl⟩ := i64_of f1
  obtain ⟨z2, rfl⟩ := i64_of f2
  obtain ⟨s3, rfl, h3⟩ := str_of f3
  obtain ⟨s4, rfl, h4⟩ := str_of f4
  exact ⟨⟨u8Of c0, z1, z2, s3, s4⟩, by rw [e0]; rfl, b0, h3, h4⟩
theorem ent_of {fuel : Nat} {cs : List Value} {x : DataW H × List MemPlace} (hl : cs.length = 4) (h : DataW.trod enc Try.prog w base spare held fuel 45 cs = some x) :
    ∃ d : Ent, cs = [.int .i64 d.par, .int .i64 d.tick, .string d.note, .string d.state] ∧ d.state.size ≤ maxLen ∧ d.note.size ≤ maxLen := by
  obtain ⟨xs, n, _, _, _, hxl, hf⟩ := DataW.trod_struct Try.underlying45 h
  obtain ⟨c0, c1, c2, c3, rfl⟩ := list4 hl
  have hxl : xs.length = 4 := hxl
  have f0 : DataW.trod enc Try.prog w base spare held n 3 (([c0, c1, c2, c3].drop 0).take (Try.prog.cellsOf 3)) = xs[0]? := hf 0 _ rfl
  have f1 : DataW.trod enc Try.prog w base spare held n 3 (([c0, c1, c2, c3].drop 1).take (Try.prog.cellsOf 3)) = xs[1]? := hf 1 _ rfl
  have f2 : DataW.trod enc Try.prog w base spare held n 9 (([c0, c1, c2, c3].drop 2).take (Try.prog.cellsOf 9)) = xs[2]? := hf 2 _ rfl
  have f3 : DataW.trod enc Try.prog w base spare held n 9 (([c0, c1, c2, c3].drop 3).take (Try.prog.cellsOf 9)) = xs[3]? := hf 3 _ rfl
  rw [cells3] at f0 f1
  rw [cells9] at f2 f3
  simp only [List.drop_zero, List.drop_succ_cons, List.take_succ_cons, List.take_zero] at f0 f1 f2 f3
  rw [List.getElem?_eq_getElem (by omega)] at f0 f1 f2 f3
  obtain ⟨z0, rfl⟩ := i64_of f0
  obtain ⟨z1, rfl⟩ := i64_of f1
  obtain ⟨s2, rfl, h2⟩ := str_of f2
  obtain ⟨s3, rfl, h3⟩ := str_of f3
  exact ⟨⟨z0, z1, s2, s3⟩, rfl, h3, h2⟩
theorem fld_cell {a : Addr} {m j : Nat} {u : Value} (h : w.cell? ((a.add m).add (j + 1)) = some u) : w.cell? ⟨(a.add m).block, (a.add m).off + (j + 1), none⟩ = some u := by
  rw [Go.Deep.add_add] at h
  exact (congrArg w.cell? (addr_fld a m j)).trans h
/-- A script. -/
theorem dos_of {fuel : Nat} {ad : Option Addr} {n c : Nat} {x : DataW H × List MemPlace} (h : DataW.trod enc Try.prog w base spare held fuel 59 [.slice ad n c] = some x) : n ≤ maxLen ∧ ∃ l, DosV w ad n l := by
  rcases Go.Deep.open_slice Try.underlying59 h with ⟨hcs, _⟩ | ⟨a, len, cap, m, n', D, Pl, hcs, _, hl, hm, hmm, _, hx⟩
  · simp only [List.cons.injEq, Value.slice.injEq, and_true] at hcs
    obtain ⟨rfl, rfl, rfl⟩ := hcs
    exact ⟨Nat.zero_le _, fun _ => ⟨0, 0, 0, ⟨#[]⟩, ⟨#[]⟩⟩, fun i hi => absurd hi (Nat.not_lt_zero i)⟩
  · simp only [List.cons.injEq, Value.slice.injEq, and_true] at hcs
    obtain ⟨rfl, rfl, rfl⟩ := hcs
    have each : ∀ i, i < n → ∃ d : DoE, w.cell? (a.add (i * 5)) = some (.int .u8 (d.kind : Int)) ∧ w.cell? ⟨(a.add (i * 5)).block, (a.add (i * 5)).off + 1, none⟩ = some (.int .i64 d.n) ∧ w.cell? ⟨(a.add (i * 5)).block, (a.add (i * 5)).off + 2, none⟩ = some (.int .i64 d.m) ∧ w.cell? ⟨(a.add (i * 5)).block, (a.add (i * 5)).off + 3, none⟩ = some (.string d.state) ∧ w.cell? ⟨(a.add (i * 5)).block, (a.add (i * 5)).off + 4, none⟩ = some (.string d.note) ∧ d.kind ≤ 255 ∧ d.state.size ≤ maxLen ∧ d.note.size ≤ maxLen := fun i hi => by
      obtain ⟨cs', h1, h2⟩ := hx i (by rw [hmm]; split <;> omega)
      rw [cellsD] at h1
      obtain ⟨_, hlen, hcell⟩ := World.cells?_some h1
      obtain ⟨d, rfl, b1, b2, b3⟩ := do_of hlen h2
      exact ⟨d, by simpa [Addr.add_zero'] using hcell 0 (by omega), fld_cell (hcell 1 (by omega)), fld_cell (hcell 2 (by omega)), fld_cell (hcell 3 (by omega)), fld_cell (hcell 4 (by omega)), b1, b2, b3⟩
    refine ⟨by omega, fun i => if hi : i < n then (each i hi).choose else ⟨0, 0, 0, ⟨#[]⟩, ⟨#[]⟩⟩, fun i hi => ⟨a, rfl, ?_⟩⟩
    simp only [dif_pos hi]
    exact (each i hi).choose_spec
/-- Entries. -/
theorem ents_of {fuel : Nat} {ad : Option Addr} {n c : Nat} {x : DataW H × List MemPlace} (h : DataW.trod enc Try.prog w base spare held fuel 38 [.slice ad n c] = some x) :
    n ≤ maxLen ∧ ((ad = none ∧ n = 0 ∧ c = 0) ∨ ∃ a es, ad = some a ∧ es.length = n ∧ EntsA w a es ∧ ∀ (j : Nat) (y : Ent), es[j]? = some y → y.state.size ≤ maxLen ∧ y.note.size ≤ maxLen) := by
  rcases Go.Deep.open_slice Try.underlying38 h with ⟨hcs, _⟩ | ⟨a, len, cap, m, n', D, Pl, hcs, _, hl, hm, hmm, _, hx⟩
  · simp only [List.cons.injEq, Value.slice.injEq, and_true] at hcs
    obtain ⟨rfl, rfl, rfl⟩ := hcs
    exact ⟨Nat.zero_le _, .inl ⟨rfl, rfl, rfl⟩⟩
  · simp only [List.cons.injEq, Value.slice.injEq, and_true] at hcs
    obtain ⟨rfl, rfl, rfl⟩ := hcs
    have each : ∀ i, i < n → ∃ d : Ent, (w.cell? (a.add (i * 4)) = some (.int .i64 d.par) ∧ w.cell? (a.add (i * 4 + 1)) = some (.int .i64 d.tick) ∧ w.cell? (a.add (i * 4 + 2)) = some (.string d.note) ∧ w.cell? (a.add (i * 4 + 3)) = some (.string d.state)) ∧ d.state.size ≤ maxLen ∧ d.note.size ≤ maxLen := fun i hi => by
      obtain ⟨cs', h1, h2⟩ := hx i (by rw [hmm]; split <;> omega)
      rw [cellsN] at h1
      obtain ⟨_, hlen, hcell⟩ := World.cells?_some h1
      obtain ⟨d, rfl, b2, b3⟩ := ent_of hlen h2
      have hj : ∀ j, j < 4 → w.cell? (a.add (i * 4 + j)) = [Value.int .i64 d.par, .int .i64 d.tick, .string d.note, .string d.state][j]? := fun j hj => by
        have := hcell j hj
        rwa [Go.Deep.add_add] at this
      exact ⟨d, ⟨hj 0 (by omega), hj 1 (by omega), hj 2 (by omega), hj 3 (by omega)⟩, b2, b3⟩
    refine ⟨by omega, .inr ⟨a, (List.range n).map fun i => if hi : i < n then (each i hi).choose else ⟨0, 0, ⟨#[]⟩, ⟨#[]⟩⟩, rfl, by simp, fun i x hx => ?_, fun i x hx => ?_⟩⟩
    · have hi : i < n := by have := (List.getElem?_eq_some_iff.1 hx).1; simpa using this
      have e : (each i hi).choose = x := by simpa [hi] using hx
      rw [← e]
      exact (each i hi).choose_spec.1
    · have hi : i < n := by have := (List.getElem?_eq_some_iff.1 hx).1; simpa using this
      have e : (each i hi).choose = x := by simpa [hi] using hx
      rw [← e]
      exact (each i hi).choose_spec.2
end
end Go.Proofs.Ythneinepdbkgeaa
