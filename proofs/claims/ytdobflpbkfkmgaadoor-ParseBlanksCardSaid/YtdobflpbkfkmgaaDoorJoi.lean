/- Join (27) of lex: the walk. -/
import Derived.Test.YtdobflpbkfkmgaaDoorLexV
import Derived.Test.YtdobflpbkfkmgaaDoorShel
namespace Go.Proofs.YtdobflpbkfkmgaaDoor
open Go.RowKit
set_option linter.unusedVariables false
set_option linter.unusedSimpArgs false
set_option linter.unusedSectionVars false
def textsT (xs : List Tk) : List ByteArray := (xs.filter (fun x => x.k != 5)).map (·.t)
def joinT (xs : List Tk) : List UInt8 := Lib.join ((textsT xs).map (·.data.toList)) [32]
theorem textsT_snoc (xs : List Tk) (x : Tk) : textsT (xs ++ [x]) = textsT xs ++ (if (x.k != 5) = true then [x.t] else []) := by
  simp only [textsT, List.filter_append, List.map_append, List.filter_cons, List.filter_nil]
  by_cases h : (x.k != 5) = true <;> simp [h]
theorem textsT_len (xs : List Tk) : (textsT xs).length ≤ xs.length := by
  simp only [textsT, List.length_map]
  exact List.length_filter_le _ _
def strV (x : ByteArray) : Value := .string x
/-- Between two rounds of Join. -/
def JoinI (w : World) (xs : List Tk) (k : Nat) (v : Value) (wr : World) : Prop :=
  wr.ownsRow w.heap.size 9 1 v (textsT (xs.take k)).length ((textsT (xs.take k)).map strV) ∧ Below w.heap.size w wr
def RetJn (w : World) (l : List UInt8) (e : Ending) (w' : World) : Prop := e = .returned (.string (mkS l)) ∧ Below w.heap.size w w'
theorem info9 : (Tryd.prog.info? 9).map (fun i => (i.zero, i.size, i.bytes)) = some (some (.string ⟨#[]⟩), 1, 16) := by kernel_rfl
theorem take_snocT {α : Type} {xs : List α} {k : Nat} {x : α} (h : xs[k]? = some x) : xs.take (k + 1) = xs.take k ++ [x] := by
  obtain ⟨hl, he⟩ := List.getElem?_eq_some_iff.1 h
  rw [List.take_succ_eq_append_getElem hl, he]
set_option maxRecDepth 100000 in
set_option maxHeartbeats 2000000 in
theorem join_nil (w : World) (a : Option Addr) (c : Nat) : Calls Tryd.prog 27 #[.slice a 0 c] w (RetJn w (joinT [])) := by
  go_enter Tryd.func27, Tryd.ntmps27
  go_wp2_with (fail)
  go_loopw [3, 8] (fun v i wr => i = .int .i64 0 ∧ v = .slice none 0 0 ∧ wr = w) (fun _ _ _ => 0)
  case atStart => exact ⟨rfl, rfl, rfl⟩
  case round =>
    obtain ⟨rfl, rfl, rfl⟩ := hrel
    go_wp2_with (go_at_call 44; (refine (join_none _ _ _ _).mono ?_; rintro e w' ⟨rfl, rfl⟩))
    go_ret
    exact ⟨rfl, Below.refl _ _⟩
theorem news_one {w : World} {b t : Nat} {v : Value} (h : w.heap[b]? = some (.cells #[v] t (0, 0))) : ∀ j u, [v][j]? = some u → w.cell? ((⟨b, 0, none⟩ : Addr).add j) = some u :=
  World.news_of_block (cs := #[v]) h
theorem join_fin {W : World} {B : Nat} {v : Value} {ys : List ByteArray} (h : W.ownsRow B 9 1 v ys.length (ys.map strV)) (hn : ys.length ≤ 1000000) (hl : (Lib.join (ys.map (·.data.toList)) [32]).length ≤ 100000000) :
    Calls Tryd.prog 44 #[v, .string ⟨#[32]⟩] W (RetJn W (Lib.join (ys.map (·.data.toList)) [32])) := by
  rcases h.2 with ⟨rfl, h0⟩ | ⟨g, cap, cur, rfl, hg, hh, hc, _⟩
  · have hy : ys = [] := List.length_eq_zero_iff.1 h0
    subst hy
    exact (join_none none 0 _ W).mono fun e w' ⟨h1, h2⟩ => ⟨h1, h2 ▸ Below.refl _ _⟩
  · refine (join_some g 0 cap ys ⟨#[32]⟩ W (fun j x hx => ?_) (HK.blk_lt hh) (by omega) hc (by have : (ByteArray.data ⟨#[32]⟩).toList = [32] := rfl; rw [this]; omega)).mono fun e w' ⟨h1, h2⟩ => ⟨h1, h2⟩
    have := h.cells rfl j (.string x) (by rw [List.getElem?_map, hx]; rfl)
    rw [show ((⟨g, 0, none⟩ : Addr).add j) = ⟨g, 0 + j, none⟩ by simp only [Addr.add]; split <;> simp_all] at this
    exact this
set_option maxRecDepth 100000 in
set_option maxHeartbeats 2000000 in
theorem join_row (w : World) (g o c : Nat) (xs : List Tk) (h : RowT w g o xs) (hn : xs.length ≤ 1000000) (hl : (joinT xs).length ≤ 100000000) :
    Calls Tryd.prog 27 #[.slice (some ⟨g, o, none⟩) xs.length c] w (RetJn w (joinT xs)) := by
  have H := Lib.hid h
  have HL := Lib.hid hl
  have hg := h.lt
  clear h hl
  obtain ⟨n, hnn⟩ : ∃ n, xs.length = n := ⟨_, rfl⟩
  rw [hnn] at hn ⊢
  have HN := Lib.hid hnn
  clear hnn
  go_enter Tryd.func27, Tryd.ntmps27
  go_wp2_with (fail)
  go_loopw [3, 8] (fun v i wr => ∃ k : Nat, k ≤ n ∧ i = .int .i64 k ∧ JoinI w xs k v wr) (fun _ i _ => n - (intOf i).toNat)
  case atStart => exact ⟨0, by omega, rfl, World.ownsRow_nil _ _ _ _, Below.refl _ _⟩
  case round =>
    obtain ⟨k, hk, rfl, hI⟩ := hrel
    obtain ⟨hrow, hB⟩ := hI
    have hsz := hB.size
    have hcn : (textsT (xs.take k)).length ≤ 1000000 := by have := textsT_len (xs.take k); have := List.length_take_le k xs; omega
    have HB := Lib.hid hB
    clear hB
    by_cases hlt : k < n
    · obtain ⟨x, hx⟩ : ∃ x, xs[k]? = some x := ⟨_, List.getElem?_eq_getElem (by rw [HN.out]; exact hlt)⟩
      have hR := H.out.below HB.out hg
      have c0 := hR.c0 k x hx
      have c1 := hR.c1 k x hx
      have c2 := hR.c2 k x hx
      have HX := Lib.hid hx
      have hsn := textsT_snoc (xs.take k) x
      rw [← take_snocT hx] at hsn
      clear hx hR
      have b1 : (k : Int) < (n : Int) := by omega
      have b0 : (0 : Int) ≤ (k : Int) := by omega
      cases h5 : (x.k != 5) with
      | true =>
        rw [h5, if_pos rfl] at hsn
        have HS := Lib.hid hsn
        clear hsn
        obtain ⟨i0', hi, hz0, hz1, hz2⟩ := info_parts info9
        go_wp2_with (at_builtin; (refine wpList_append_own _ rfl _ _ 61 rfl w.heap.size 9 i0' (.string ⟨#[]⟩) 1 16 Tryd.underlying61 hi hz0 hz1 hz2 rfl (by decide) _ _ _ rfl ((hrow.alloc _).alloc _) ⟨wr.heap.size + 1, 0, none⟩ 1 1 [.string x.t] rfl rfl (news_one (by simpa using World.alloc_heap_new (wr.alloc (.cells #[.int .u8 x.k, .string x.t, .int .i64 x.p] 46)) (.cells #[.string x.t] 9))) (by simp [Value.oneCell']) (by simp only [maxLen]; omega) (by omega) (by simp; omega) ?_; intro v' w1 hown' hgrow _))
        go_roundw
        case rel =>
          refine ⟨k + 1, by omega, by go_num, ?_, ?_⟩
          · rw [HS.out, List.length_append, List.map_append]
            exact hown'
          · exact (((HB.out.alloc HB.out.size _).alloc (by simp; omega) _).grown hgrow (by simp; omega) (fun j e => owns_ge hrow e))
        case measure => simp [intOf]; omega
      | false =>
        rw [h5, if_neg (by decide), List.append_nil] at hsn
        have HS := Lib.hid hsn
        clear hsn
        go_wp2_with (fail)
        go_roundw
        case rel => exact ⟨k + 1, by omega, by go_num, by rw [HS.out]; exact hrow.alloc _, HB.out.alloc HB.out.size _⟩
        case measure => simp [intOf]; omega
    · have hkn : xs.take k = xs := List.take_of_length_le (by rw [HN.out]; omega)
      rw [hkn] at hrow hcn
      have hfin := join_fin hrow hcn HL.out
      have HF := Lib.hid hfin
      clear hfin hrow
      go_wp2_with (go_at_call 44; (refine HF.out.mono ?_; rintro e w' ⟨rfl, hb⟩))
      go_ret
      exact ⟨rfl, HB.out.trans (hb.mono HB.out.size)⟩
end Go.Proofs.YtdobflpbkfkmgaaDoor
