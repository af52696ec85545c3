/- The walks of alike, of Same and of the reference's Join. -/
import Derived.Test.YtnihpcamooncjaaDoorLexV
namespace Go.Proofs.YtnihpcamooncjaaDoor
open Go.RowKit
set_option linter.unusedVariables false
set_option linter.unusedSimpArgs false
set_option linter.unusedSectionVars false
/-- A slice of tokens. -/
def SlT (w : World) (v : Value) (xs : List Tk) : Prop := (∃ g o c, v = .slice (some ⟨g, o, none⟩) xs.length c ∧ RowT w g o xs) ∨ (xs = [] ∧ ∃ a c, v = .slice a 0 c)
theorem SlT.below {w w' : World} {v : Value} {xs : List Tk} (h : SlT w v xs) (hb : Below w.heap.size w w') : SlT w' v xs := by
  rcases h with ⟨g, o, c, rfl, h⟩ | h
  · exact .inl ⟨g, o, c, rfl, h.below hb h.lt⟩
  · exact .inr h
theorem SlT.nil {w : World} {v : Value} (h : SlT w v []) : ∃ a c, v = .slice a 0 c := by
  rcases h with ⟨g, o, c, rfl, _⟩ | ⟨_, h⟩
  · exact ⟨_, _, rfl⟩
  · exact h
theorem join_sl (w : World) (v : Value) (xs : List Tk) (h : SlT w v xs) (hn : xs.length ≤ 1000000) (hl : (joinT xs).length ≤ 100000000) : Calls Tryd.prog 10 #[v] w (RetJ w (joinT xs)) := by
  rcases h with ⟨g, o, c, rfl, h⟩ | ⟨rfl, a, c, rfl⟩
  · exact join_row w g o c xs h hn hl
  · exact join_nil w a c
set_option maxRecDepth 100000 in
set_option maxHeartbeats 2000000 in
theorem alike_none (w : World) (a a2 : Option Addr) (c c2 : Nat) : Calls Tryd.prog 14 #[.slice a 0 c, .slice a2 0 c2] w (RetD w true) := by
  go_enter Tryd.func14, Tryd.ntmps14
  go_wp2_with (fail)
  go_loopw [5] (fun i wr => i = .int .i64 0 ∧ wr = w) (fun _ _ => 0)
  case atStart => exact ⟨rfl, rfl⟩
  case round =>
    obtain ⟨rfl, rfl⟩ := hrel
    go_wp2_with (fail)
    go_ret
    exact ⟨rfl, 0, rfl⟩
set_option maxRecDepth 100000 in
set_option maxHeartbeats 4000000 in
theorem alike_row (w : World) (g o c g2 o2 c2 : Nat) (xs ys : List Tk) (h1 : RowT w g o xs) (h2 : RowT w g2 o2 ys) (hl : xs.length = ys.length) (hn : xs.length ≤ 1000000)
    (he : ∀ (i : Nat) x y, xs[i]? = some x → ys[i]? = some y → x.k = y.k ∧ x.t = y.t) :
    Calls Tryd.prog 14 #[.slice (some ⟨g, o, none⟩) xs.length c, .slice (some ⟨g2, o2, none⟩) ys.length c2] w (RetD w true) := by
  have H1 := Lib.hid h1
  have H2 := Lib.hid h2
  clear h1 h2
  rw [← hl]
  obtain ⟨n, hnn⟩ : ∃ n, xs.length = n := ⟨_, rfl⟩
  rw [hnn] at hn ⊢
  have HN := Lib.hid hnn
  have HL := Lib.hid hl
  have HE := Lib.hid he
  clear hnn hl he
  go_enter Tryd.func14, Tryd.ntmps14
  go_wp2_with (fail)
  go_loopw [5] (fun i wr => ∃ k d : Nat, k ≤ n ∧ i = .int .i64 k ∧ wr = w.drewN d) (fun i _ => n - (intOf i).toNat)
  case atStart => exact ⟨0, 0, by omega, rfl, rfl⟩
  case round =>
    obtain ⟨k, d, hk, rfl, rfl⟩ := hrel
    by_cases hlt : k < n
    · obtain ⟨x, hx⟩ : ∃ x, xs[k]? = some x := ⟨_, List.getElem?_eq_getElem (by rw [HN.out]; exact hlt)⟩
      obtain ⟨y, hy⟩ : ∃ y, ys[k]? = some y := ⟨_, List.getElem?_eq_getElem (by rw [← HL.out, HN.out]; exact hlt)⟩
      have he := HE.out
      have c0 := H1.out.c0 k x hx
      have c1 := H1.out.c1 k x hx
      have e0 : w.cell? ⟨g2, o2 + k * 3, none⟩ = some (.int .u8 x.k) := by rw [(he k x y hx hy).1]; exact H2.out.c0 k y hy
      have e1 : w.cell? ⟨g2, o2 + k * 3 + 1, none⟩ = some (.string x.t) := by rw [(he k x y hx hy).2]; exact H2.out.c1 k y hy
      have b1 : (k : Int) < (n : Int) := by omega
      have b0 : (0 : Int) ≤ (k : Int) := by omega
      clear hx hy he
      go_wp2_with (fail)
      go_quiet (fail)
      go_wp2_with (fail)
      go_roundw
      case rel => exact ⟨k + 1, d + nq, by omega, by go_num, rfl⟩
      case measure => simp [intOf]; omega
    · go_wp2_with (fail)
      go_ret
      exact ⟨rfl, d, rfl⟩
theorem alike_yes (w : World) (v v2 : Value) (xs ys : List Tk) (h1 : SlT w v xs) (h2 : SlT w v2 ys) (hl : xs.length = ys.length) (hn : xs.length ≤ 1000000)
    (he : ∀ (i : Nat) x y, xs[i]? = some x → ys[i]? = some y → x.k = y.k ∧ x.t = y.t) : Calls Tryd.prog 14 #[v, v2] w (RetD w true) := by
  cases xs with
  | nil =>
    obtain rfl : ys = [] := List.length_eq_zero_iff.1 hl.symm
    obtain ⟨a, c, rfl⟩ := h1.nil
    obtain ⟨a2, c2, rfl⟩ := h2.nil
    exact alike_none w a a2 c c2
  | cons x xs =>
    rcases h1 with ⟨g, o, c, rfl, h1⟩ | ⟨h, _⟩
    · rcases h2 with ⟨g2, o2, c2, rfl, h2⟩ | ⟨h, _⟩
      · exact alike_row w g o c g2 o2 c2 _ _ h1 h2 hl hn he
      · rw [h] at hl; cases hl
    · cases h
set_option maxRecDepth 100000 in
set_option maxHeartbeats 2000000 in
theorem same_none (w : World) (a a2 : Option Addr) (c c2 : Nat) : Calls Tryd.prog 12 #[.slice a 0 c, .slice a2 0 c2] w (RetD w true) := by
  go_enter Tryd.func12, Tryd.ntmps12
  go_wp2_with (fail)
  go_loopw [5] (fun i wr => i = .int .i64 0 ∧ wr = w) (fun _ _ => 0)
  case atStart => exact ⟨rfl, rfl⟩
  case round =>
    obtain ⟨rfl, rfl⟩ := hrel
    go_wp2_with (fail)
    go_ret
    exact ⟨rfl, 0, rfl⟩
set_option maxRecDepth 100000 in
set_option maxHeartbeats 4000000 in
theorem same_row (w : World) (g o c g2 o2 c2 : Nat) (xs ys : List Tk) (h1 : RowT w g o xs) (h2 : RowT w g2 o2 ys) (hl : xs.length = ys.length) (hn : xs.length ≤ 1000000)
    (he : ∀ (i : Nat) x y, xs[i]? = some x → ys[i]? = some y → x.k = y.k ∧ x.t = y.t ∧ x.p = y.p) :
    Calls Tryd.prog 12 #[.slice (some ⟨g, o, none⟩) xs.length c, .slice (some ⟨g2, o2, none⟩) ys.length c2] w (RetD w true) := by
  have H1 := Lib.hid h1
  have H2 := Lib.hid h2
  clear h1 h2
  rw [← hl]
  obtain ⟨n, hnn⟩ : ∃ n, xs.length = n := ⟨_, rfl⟩
  rw [hnn] at hn ⊢
  have HN := Lib.hid hnn
  have HL := Lib.hid hl
  have HE := Lib.hid he
  clear hnn hl he
  go_enter Tryd.func12, Tryd.ntmps12
  go_wp2_with (fail)
  go_loopw [5] (fun i wr => ∃ k d : Nat, k ≤ n ∧ i = .int .i64 k ∧ wr = w.drewN d) (fun i _ => n - (intOf i).toNat)
  case atStart => exact ⟨0, 0, by omega, rfl, rfl⟩
  case round =>
    obtain ⟨k, d, hk, rfl, rfl⟩ := hrel
    by_cases hlt : k < n
    · obtain ⟨x, hx⟩ : ∃ x, xs[k]? = some x := ⟨_, List.getElem?_eq_getElem (by rw [HN.out]; exact hlt)⟩
      obtain ⟨y, hy⟩ : ∃ y, ys[k]? = some y := ⟨_, List.getElem?_eq_getElem (by rw [← HL.out, HN.out]; exact hlt)⟩
      have he := HE.out
      have c0 := H1.out.c0 k x hx
      have c1 := H1.out.c1 k x hx
      have e0 : w.cell? ⟨g2, o2 + k * 3, none⟩ = some (.int .u8 x.k) := by rw [(he k x y hx hy).1]; exact H2.out.c0 k y hy
      have e1 : w.cell? ⟨g2, o2 + k * 3 + 1, none⟩ = some (.string x.t) := by rw [(he k x y hx hy).2.1]; exact H2.out.c1 k y hy
      have e2 : w.cell? ⟨g2, o2 + k * 3 + 2, none⟩ = some (.int .i64 x.p) := by rw [(he k x y hx hy).2.2]; exact H2.out.c2 k y hy
      have c2 := H1.out.c2 k x hx
      have b1 : (k : Int) < (n : Int) := by omega
      have b0 : (0 : Int) ≤ (k : Int) := by omega
      clear hx hy he
      go_wp2_with (fail)
      go_quiet (fail)
      go_wp2_with (fail)
      go_roundw
      case rel => exact ⟨k + 1, d + nq, by omega, by go_num, rfl⟩
      case measure => simp [intOf]; omega
    · go_wp2_with (fail)
      go_ret
      exact ⟨rfl, d, rfl⟩
theorem same_yes (w : World) (v v2 : Value) (xs ys : List Tk) (h1 : SlT w v xs) (h2 : SlT w v2 ys) (hl : xs.length = ys.length) (hn : xs.length ≤ 1000000)
    (he : ∀ (i : Nat) x y, xs[i]? = some x → ys[i]? = some y → x.k = y.k ∧ x.t = y.t ∧ x.p = y.p) : Calls Tryd.prog 12 #[v, v2] w (RetD w true) := by
  cases xs with
  | nil =>
    obtain rfl : ys = [] := List.length_eq_zero_iff.1 hl.symm
    obtain ⟨a, c, rfl⟩ := h1.nil
    obtain ⟨a2, c2, rfl⟩ := h2.nil
    exact same_none w a a2 c c2
  | cons x xs =>
    rcases h1 with ⟨g, o, c, rfl, h1⟩ | ⟨h, _⟩
    · rcases h2 with ⟨g2, o2, c2, rfl, h2⟩ | ⟨h, _⟩
      · exact same_row w g o c g2 o2 c2 _ _ h1 h2 hl hn he
      · rw [h] at hl; cases hl
    · cases h
end Go.Proofs.YtnihpcamooncjaaDoor
