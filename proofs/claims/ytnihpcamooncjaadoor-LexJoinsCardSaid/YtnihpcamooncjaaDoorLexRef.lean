/- The walk of the reference's Join; a slice of tokens that came in. -/
import Derived.Test.YtnihpcamooncjaaDoorLexY
import Derived.IntWalk
import Derived.ProofKit
import Derived.OpenShut
import Derived.Deep.SlicePairs
namespace Go.Proofs.YtnihpcamooncjaaDoor
open Go.RowKit Go.ChangeShapes Go.WideShapes Go.ChangeAt
set_option linter.unusedVariables false
set_option linter.unusedSimpArgs false
set_option linter.unusedSectionVars false
instance : Inhabited Tk := ⟨⟨0, ⟨#[]⟩, 0⟩⟩
/-- What a walk is told of a slice of tokens. -/
def TokensIn (w : World) (v : Value) : Prop := ∃ xs, SlT w v xs ∧ xs.length ≤ maxLen
theorem spot_none {w : World} {a : Addr} {v : Value} (h : w.cell? a = some v) : a.spot = none := by
  unfold World.cell? at h
  split at h
  · split at h
    · cases h
    · rename_i h1; cases hs : a.spot with
      | none => rfl
      | some s => rw [hs] at h1; exact absurd rfl h1
  · cases h
theorem tokens_of {H : Type} {enc : TypeId × Value → H} {w : World} {base : Nat} {spare : Nat → Bool} {held : Bool} {fuel : Nat} {v : Value} {x : DataW H × List MemPlace} (h : DataW.trod enc Tryd.prog w base spare held fuel 22 [v] = some x) : TokensIn w v := by
  rcases Go.Deep.open_slice Tryd.underlying22 h with ⟨hcs, _⟩ | ⟨a, len, cap, m, n, D, Pl, hcs, hb, hl, hm, hmm, hxx, hx⟩
  · simp only [List.cons.injEq, and_true] at hcs
    subst hcs
    exact ⟨[], .inr ⟨rfl, none, 0, rfl⟩, Nat.zero_le _⟩
  · simp only [List.cons.injEq, and_true] at hcs
    subst hcs
    have hlm : len ≤ m := by rw [hmm]; split <;> omega
    have c26 : Tryd.prog.cellsOf 26 = 3 := by kernel_rfl
    have each : ∀ i, i < m → ∃ q : Tk, w.cell? (a.add (i * 3)) = some (.int .u8 q.k) ∧ w.cell? (a.add (i * 3 + 1)) = some (.string q.t) ∧ w.cell? (a.add (i * 3 + 2)) = some (.int .i64 q.p) := by
      intro i hi
      obtain ⟨cs', h1, h2⟩ := hx i hi
      rw [c26] at h1
      obtain ⟨_, hlen, hcell⟩ := World.cells?_some h1
      obtain ⟨xs, k, hk, hxy, _, hxl, hf⟩ := DataW.trod_struct Tryd.underlying26 h2
      match xs, hxl, cs', hlen with
      | [y0, y1, y2], _, [v0, v1, v2], _ =>
        have g0 := hf 0 _ rfl
        have g1 := hf 1 _ rfl
        have g2 := hf 2 _ rfl
        have c5 : Tryd.prog.cellsOf 5 = 1 := by kernel_rfl
        have c9 : Tryd.prog.cellsOf 9 = 1 := by kernel_rfl
        have c3 : Tryd.prog.cellsOf 3 = 1 := by kernel_rfl
        simp [c5, c9, c3] at g0 g1 g2
        have e0 := hcell 0 (by omega)
        have e1 := hcell 1 (by omega)
        have e2 := hcell 2 (by omega)
        rw [Go.Deep.add_add] at e0 e1 e2
        obtain ⟨z0, hz0, _⟩ := DataW.trod_int Tryd.underlying5 g0
        obtain ⟨z1, hz1, _⟩ := DataW.trod_string Tryd.underlying9 g1
        obtain ⟨z2, hz2, _⟩ := DataW.trod_int Tryd.underlying3 g2
        simp only [List.cons.injEq, and_true] at hz0 hz1 hz2
        subst hz0; subst hz1; subst hz2
        exact ⟨⟨z0, z1, z2⟩, by simpa using e0, by simpa using e1, by simpa using e2⟩
    obtain ⟨q, hq⟩ := Go.Deep.choose_lt each
    by_cases h0 : len = 0
    · subst h0
      exact ⟨[], .inr ⟨rfl, _, _, rfl⟩, Nat.zero_le _⟩
    · obtain ⟨b, off, spot⟩ := a
      have hs : spot = none := spot_none (a := ⟨b, off, spot⟩) (by have := (hq 0 (by omega)).1; rw [Nat.zero_mul] at this; exact this)
      subst hs
      have hadd : ∀ j, ((⟨b, off, none⟩ : Addr).add j) = ⟨b, off + j, none⟩ := fun j => by unfold Addr.add; split <;> simp_all
      refine ⟨(List.range len).map q, .inl ⟨b, off, cap, by simp, ?_⟩, by simp; omega⟩
      have get : ∀ (i : Nat) x, ((List.range len).map q)[i]? = some x → i < m ∧ x = q i := fun i x hx => by
        rw [List.getElem?_map, Option.map_eq_some_iff] at hx
        obtain ⟨j, h1, h2⟩ := hx
        obtain ⟨hj, he⟩ := List.getElem?_eq_some_iff.1 h1
        rw [List.getElem_range] at he
        rw [List.length_range] at hj
        subst he
        exact ⟨by omega, h2.symm⟩
      refine ⟨fun i x hx => ?_, fun i x hx => ?_, fun i x hx => ?_, ?_⟩
      · obtain ⟨h1, rfl⟩ := get i x hx
        have := (hq i h1).1; rwa [hadd] at this
      · obtain ⟨h1, rfl⟩ := get i x hx
        have := (hq i h1).2.1; rwa [hadd] at this
      · obtain ⟨h1, rfl⟩ := get i x hx
        have := (hq i h1).2.2; rwa [hadd] at this
      · have := (hq 0 (by omega)).1
        rw [hadd] at this
        exact World.block_lt_of_cell? w _ this
/-! ### the joined text, token by token -/
theorem joinTail_append (r s : List (List UInt8)) : Lib.joinTail [32] (r ++ s) = Lib.joinTail [32] r ++ Lib.joinTail [32] s := by
  simp [Lib.joinTail]
theorem join_snoc (xs : List (List UInt8)) (y : List UInt8) : Lib.join (xs ++ [y]) [32] = if xs = [] then y else Lib.join xs [32] ++ [32] ++ y := by
  cases xs with
  | nil => simp [Lib.join_one]
  | cons x r =>
    rw [List.cons_append, Lib.join_cons, Lib.join_cons, joinTail_append, if_neg (by simp)]
    simp [Lib.joinTail]
theorem joinT_snoc (xs : List Tk) (x : Tk) : joinT (xs ++ [x]) = if x.k = 5 then joinT xs else if (textsT xs).length = 0 then bys x.t else joinT xs ++ [32] ++ bys x.t := by
  unfold joinT
  rw [textsT_snoc]
  by_cases h : x.k = 5
  · simp [h]
  · rw [if_pos (by simpa using h), if_neg h, List.map_append, List.map_cons, List.map_nil, join_snoc]
    by_cases h2 : (textsT xs).length = 0
    · rw [if_pos h2, if_pos (by rw [List.length_eq_zero_iff.1 h2]; rfl)]; rfl
    · rw [if_neg h2, if_neg (fun h3 => h2 (by have := congrArg List.length h3; simpa using this))]; rfl
theorem joinT_empty {xs : List Tk} (h : (textsT xs).length = 0) : joinT xs = [] := by
  unfold joinT
  rw [List.length_eq_zero_iff.1 h]
  rfl
theorem joinT_bound {xs : List Tk} (h : ∀ x ∈ xs, x.t.size ≤ 100) : (joinT xs).length ≤ 101 * xs.length := by
  have key : ∀ ys : List (List UInt8), (∀ y ∈ ys, y.length ≤ 100) → (Lib.joinTail [32] ys).length ≤ 101 * ys.length ∧ (Lib.join ys [32]).length ≤ 101 * ys.length := by
    intro ys
    induction ys with
    | nil => intro _; simp [Lib.joinTail, Lib.join_nil]
    | cons y ys ih =>
      intro hy
      have h1 := ih (fun z hz => hy z (by simp [hz]))
      have h2 := hy y (by simp)
      have h3 : Lib.joinTail [32] (y :: ys) = 32 :: (y ++ Lib.joinTail [32] ys) := by simp [Lib.joinTail]
      rw [h3, Lib.join_cons]
      simp only [List.length_cons, List.length_append]
      omega
  have h1 := (key ((textsT xs).map (·.data.toList)) (fun y hy => by
    obtain ⟨t, ht, rfl⟩ := List.mem_map.1 hy
    obtain ⟨x, hx, rfl⟩ := List.mem_map.1 ht
    exact h x ((List.mem_filter.1 hx).1))).2
  have h2 := textsT_len xs
  rw [List.length_map] at h1
  unfold joinT
  omega
theorem mkS_append (a b : List UInt8) : mkS (a ++ b) = mkS a ++ mkS b := by
  rw [← bys_inj, bys_mk, show bys (mkS a ++ mkS b) = bys (mkS a) ++ bys (mkS b) by simp [bys, ByteArray.data_append], bys_mk, bys_mk]
/-- A string; the world is as it was. -/
def RetS (w : World) (l : List UInt8) (e : Ending) (w' : World) : Prop := e = .returned (.string (mkS l)) ∧ w = w'
/-- Between two rounds of the reference's Join. -/
def RefI (xs : List Tk) (k : Nat) (S : ByteArray) (M : Nat) : Prop := S = mkS (joinT (xs.take k)) ∧ M = (textsT (xs.take k)).length
set_option maxRecDepth 100000 in
set_option maxHeartbeats 2000000 in
theorem ref_nil (w : World) (a : Option Addr) (c : Nat) : Calls Tryd.prog 11 #[.slice a 0 c] w (RetS w (joinT [])) := by
  go_enter Tryd.func11, Tryd.ntmps11
  go_wp2_with (fail)
  go_loop [3, 4, 5] (fun s m i => s = .string ⟨#[]⟩ ∧ m = .int .i64 0 ∧ i = .int .i64 0) (fun _ _ _ => 0)
  case atStart => exact ⟨rfl, rfl, rfl⟩
  case round =>
    obtain ⟨rfl, rfl, rfl⟩ := hrel
    go_wp2_with (fail)
    go_ret
    exact ⟨rfl, rfl⟩
set_option maxRecDepth 100000 in
set_option maxHeartbeats 4000000 in
theorem ref_row (w : World) (g o c : Nat) (xs : List Tk) (h : RowT w g o xs) (hn : xs.length ≤ 100) (hl : ∀ x ∈ xs, x.t.size ≤ 100) :
    Calls Tryd.prog 11 #[.slice (some ⟨g, o, none⟩) xs.length c] w (RetS w (joinT xs)) := by
  have H := Lib.hid h
  have HL := Lib.hid hl
  clear h hl
  obtain ⟨n, hnn⟩ : ∃ n, xs.length = n := ⟨_, rfl⟩
  rw [hnn] at hn ⊢
  have HN := Lib.hid hnn
  clear hnn
  go_enter Tryd.func11, Tryd.ntmps11
  go_wp2_with (fail)
  go_loop [3, 4, 5] (fun s m i => ∃ (k : Nat) (S : ByteArray) (M : Nat), k ≤ n ∧ i = .int .i64 k ∧ s = .string S ∧ m = .int .i64 M ∧ RefI xs k S M) (fun _ _ i => n - (intOf i).toNat)
  case atStart => exact ⟨0, ⟨#[]⟩, 0, by omega, rfl, rfl, rfl, rfl, rfl⟩
  case round =>
    obtain ⟨k, S, M, hk, rfl, rfl, rfl, hI⟩ := hrel
    have HI := Lib.hid hI
    clear hI
    have hM : M ≤ 100 := by
      have h1 := HI.out.2
      have h2 := textsT_len (xs.take k)
      have h3 := List.length_take_le k xs
      omega
    have hS : S.size ≤ 10100 := by
      have h1 := joinT_bound (xs := xs.take k) (fun x hx => HL.out x (List.mem_of_mem_take hx))
      have h3 := List.length_take_le k xs
      rw [HI.out.1, mkS_len]
      omega
    by_cases hlt : k < n
    · obtain ⟨x, hx⟩ : ∃ x, xs[k]? = some x := ⟨_, List.getElem?_eq_getElem (by rw [HN.out]; exact hlt)⟩
      have c0 := H.out.c0 k x hx
      have c1 := H.out.c1 k x hx
      have hx1 : x.t.size ≤ 100 := HL.out x (List.mem_of_getElem? hx)
      have hsn := joinT_snoc (xs.take k) x
      have hst := textsT_snoc (xs.take k) x
      rw [← take_snocT hx] at hsn hst
      have b1 : (k : Int) < (n : Int) := by omega
      have b0 : (0 : Int) ≤ (k : Int) := by omega
      by_cases h5 : x.k = 5
      · have e1 : (x.k == 5) = true := by simpa using h5
        have e2 : (x.k != 5) = false := by simpa using h5
        rw [if_pos h5] at hsn
        rw [e2, if_neg (by decide), List.append_nil] at hst
        have HR : Hid (RefI xs (k + 1) S M) := Lib.hid ⟨by rw [hsn]; exact HI.out.1, by rw [hst]; exact HI.out.2⟩
        clear hsn hst hx h5
        go_wp2_with (fail)
        go_round
        case rel => exact ⟨k + 1, S, M, by omega, by go_num, rfl, rfl, HR.out⟩
        case measure => simp [intOf]; omega
      · have e1 : (x.k == 5) = false := by simpa using h5
        have e2 : (x.k != 5) = true := by simpa using h5
        rw [if_neg h5] at hsn
        rw [if_pos e2] at hst
        by_cases hM0 : M = 0
        · rw [if_pos (by rw [← HI.out.2]; exact hM0)] at hsn
          have hS0 : S = ⟨#[]⟩ := by rw [HI.out.1, joinT_empty (by rw [← HI.out.2]; exact hM0)]; rfl
          subst hM0
          subst hS0
          have HR : Hid (RefI xs (k + 1) (⟨#[]⟩ ++ x.t) 1) := Lib.hid ⟨by
            rw [hsn, mk_bys, ← bys_inj]
            simp [bys, ByteArray.data_append], by rw [hst, List.length_append, ← HI.out.2]; rfl⟩
          clear hsn hst hx h5
          go_wp2_with (fail)
          go_round
          case rel => exact ⟨k + 1, _, _, by omega, by go_num, rfl, by go_num, HR.out⟩
          case measure => simp [intOf]; omega
        · rw [if_neg (by rw [← HI.out.2]; exact hM0)] at hsn
          have m1 : decide ((0 : Int) < (M : Int)) = true := decide_eq_true (by omega)
          have HR : Hid (RefI xs (k + 1) (S ++ ⟨#[32]⟩ ++ x.t) (M + 1)) := Lib.hid ⟨by
            rw [hsn, mkS_append, mkS_append, mk_bys, ← HI.out.1]; rfl, by rw [hst, List.length_append, ← HI.out.2]; rfl⟩
          clear hsn hst hx h5
          go_wp2_with (fail)
          go_round
          case rel => exact ⟨k + 1, _, _, by omega, by go_num, rfl, by go_num, HR.out⟩
          case measure => simp [intOf]; omega
    · have hkn : xs.take k = xs := List.take_of_length_le (by rw [HN.out]; omega)
      have HF : Hid (S = mkS (joinT xs)) := Lib.hid (by rw [HI.out.1, hkn])
      clear hkn
      go_wp2_with (fail)
      go_ret
      exact ⟨by rw [HF.out]; rfl, rfl⟩
theorem ref_sl (w : World) (v : Value) (xs : List Tk) (h : SlT w v xs) (hn : xs.length ≤ 100) (hl : ∀ x ∈ xs, x.t.size ≤ 100) : Calls Tryd.prog 11 #[v] w (RetS w (joinT xs)) := by
  rcases h with ⟨g, o, c, rfl, h⟩ | ⟨rfl, a, c, rfl⟩
  · exact ref_row w g o c xs h hn hl
  · exact ref_nil w a c
end Go.Proofs.YtnihpcamooncjaaDoor
