/- Copies of marks (measure's). -/
import Derived.Test.YtfebcpmbkljaoaaRichC
import Derived.Test.YtfebcpmbkljaoaaEach
import Derived.Test.YtfebcpmbkljaoaaAt
namespace Go.Proofs.Ytfebcpmbkljaoaa
open Go.RowKit Go.HR
set_option linter.unusedVariables false
set_option linter.unusedSimpArgs false
set_option linter.unusedSectionVars false
theorem _root_.Go.World.ownsRow.mono0 {W : World} {b e sz n : Nat} {v : Value} {xs : List Value} (h : W.ownsRow b e sz v n xs) : W.ownsRow 0 e sz v n xs := by
  refine ⟨h.1, h.2.imp id ?_⟩
  rintro ⟨g, cap, cur, hv, _, r⟩
  exact ⟨g, cap, cur, hv, Nat.zero_le _, r⟩
theorem isIq_own {W : World} {b g n c : Nat} {S : Nat → Prop} {xs : List Int} (h : W.ownsRow b 3 1 (.slice (some ⟨g, 0, none⟩) n c) n (xs.map fun i => .int .i64 i)) (hS : S g) (hn : n ≤ maxLen) : IsIq S W ⟨some ⟨g, 0, none⟩, n, c⟩ xs := by
  have hl : n = xs.length := by have := h.1; simpa using this.symm
  refine ⟨hl, hn, .inr ⟨g, 0, rfl, hS, fun j x hx => ?_⟩⟩
  have := h.cells (g := g) rfl j (.int .i64 x) (by rw [List.getElem?_map, hx]; rfl)
  rw [add_zero_at] at this
  rw [Nat.zero_add]
  exact this
set_option maxRecDepth 100000 in
set_option maxHeartbeats 4000000 in
theorem clone_ints (w : World) (s : SL) (xs : List Int) (h : IsIq (fun k => k < w.heap.size) w s xs) (hn : xs.length ≤ 20000) : Calls Try.prog 65 #[s.v] w fun e w' => ∃ s' : SL, e = .returned s'.v ∧ IsIq (FreshT w w') w' s' xs ∧ Below w.heap.size w w' := by
  obtain ⟨sa, n, c⟩ := s
  obtain ⟨h1, h2, h3⟩ := h
  simp only at h1 h2 h3
  simp only [SL.v]
  have he : (binOp .eql 37 (.slice sa n c) (.slice none 0 0)).run Try.prog w = .ok (.bool sa.isNone) w := Lib.run_eql_slice_nil w 37 3 sa n c 0 0 Try.underlying37
  cases sa with
  | none =>
    have hx : xs = [] := h3.resolve_right (by rintro ⟨g, o, hh, _⟩; cases hh)
    subst hx
    simp only [Option.isNone_none] at he
    clear h1 h2 h3
    go_enter Try.func65, Try.ntmps65
    go_wp2
    go_ret
    exact ⟨SL.nil, rfl, ⟨rfl, Nat.zero_le _, .inl rfl⟩, Below.refl _ _⟩
  | some ad =>
    simp only [Option.isNone_some] at he
    have h0 : (w.alloc (.cells #[] 3)).ownsRow w.heap.size 3 1 (.slice (some ⟨w.heap.size, 0, none⟩) 0 0) 0 [] := World.ownsRow_lit w #[] 0 (Nat.le_refl _) (by simp [maxLen]) rfl
    by_cases hn0 : n = 0
    · subst hn0
      have hx : xs = [] := List.length_eq_zero_iff.1 h1.symm
      subst hx
      clear h1 h2 h3 h0
      go_enter Try.func65, Try.ntmps65
      go_wp2_with (
        refine wpList_step fun K hK => ?_
        refine step_app00 7 (by rfl) (by rfl) elem3 _ _ (by rfl) ⟨w.heap.size, 0, none⟩ 0 0 (some ad) c (Nat.le_refl _) (by rfl) (by rfl) ?_
        refine hK _ _ ?_
        clear hK K)
      go_ret
      exact ⟨⟨some ⟨w.heap.size, 0, none⟩, 0, 0⟩, rfl, ⟨rfl, Nat.zero_le _, .inl rfl⟩, bl_al (Below.refl _ _)⟩
    · obtain ⟨g, o, hh, hg, hc⟩ := h3.resolve_left (fun e => by rw [e] at h1; exact hn0 h1)
      simp only [Option.some.injEq] at hh
      subst hh
      obtain ⟨i0, hi, hz0, hz1, hz2⟩ := info_parts infoI
      have hc' : ∀ j u, (xs.map fun i : Int => (Value.int .i64 i))[j]? = some u → (w.alloc (.cells #[] 3)).cell? ((⟨g, o, none⟩ : Addr).add j) = some u := fun j u hj => by
        rw [List.getElem?_map] at hj
        obtain ⟨x, hx, rfl⟩ := Option.map_eq_some_iff.1 hj
        have h5 := hc j x hx
        have h6 : (w.alloc (.cells #[] 3)).cell? ⟨g, o + j, none⟩ = some (.int .i64 x) := (World.cell?_of_block (Below.heap_alloc w _ _ hg)).trans h5
        unfold Addr.add
        split
        · rename_i hj0; subst hj0; simpa using h6
        · exact h6
      have hn2 : n ≤ 20000 := by omega
      have hln : (xs.map fun i : Int => (Value.int .i64 i)).length = n := by rw [List.length_map, h1]
      have H1 := Lib.hid h1
      clear h1 h2 h3 hc
      go_enter Try.func65, Try.ntmps65
      go_wp2_with (
        refine wpList_step fun K hK => ?_
        refine step_appm 7 (by rfl) (by rfl) elem3 _ _ (by rfl) (.slice (some ⟨w.heap.size, 0, none⟩) 0 0) 0 [] (by rfl) (h0.mono0) ⟨g, o, none⟩ n c (xs.map fun i : Int => (Value.int .i64 i)) (by rfl) (by rw [hln]; omega) hc' (by intro u hu; simp at hu; obtain ⟨q, _, rfl⟩ := hu; simp [Value.oneCell']) n (Nat.zero_add n) (by omega) (by simp only [maxLen]; omega) (by omega) ?_
        intro g9 cap9 w1 hown1 hgrow hat hlt
        refine hK _ _ ?_
        have HO := Lib.hid hown1
        have HGR := Lib.hid hgrow
        have HAT := Lib.hid hat
        have HLT := Lib.hid hlt
        clear hown1 hgrow hat hlt hK K)
      go_ret
      have hb : Below w.heap.size w w1 := ((Below.refl _ w).alloc (Nat.le_refl _) _).grown HGR.out (by simp) (fun k e => by cases e; exact Nat.le_refl _)
      have hg9 : w.heap.size ≤ g9 := by
        rcases HAT.out with h | h
        · simp only [Value.ownBlock, Option.some.injEq] at h; omega
        · rw [h]; simp
      have ho := HO.out
      rw [List.nil_append] at ho
      exact ⟨⟨some ⟨g9, 0, none⟩, n, cap9⟩, rfl, isIq_own ho ⟨⟨hg9, HLT.out⟩, (HK.owns_block ho).elim fun cur hh => ⟨cur, _, hh⟩⟩ (by simp only [maxLen]; omega), hb⟩
theorem info37 : (Try.prog.info? 37).map (fun i => (i.zero, i.size, i.bytes)) = some (some (.slice none 0 0), 1, 24) := by kernel_rfl
theorem marks_make (N : Nat) (hN : N ≤ 20000) : ∃ cur : Array Value, cur.size = N ∧ ∀ w : World, (Instr.makeSlice 28 (.int .i64 (N : Int)) (.int .i64 (N : Int))).run Try.prog w = .ok (.slice (some ⟨w.heap.size, 0, none⟩) N N) (w.alloc (.cells cur 37)) := by
  obtain ⟨i, hi, h0, h1, h2⟩ := info_parts info37
  refine ⟨madeCells (Value.slice none 0 0).cells (N * i.size), by rw [size_madeCells, h1, Nat.mul_one], fun w => ?_⟩
  have := run_make w 28 37 i _ Try.underlying28 hi h0 .i64 .i64 (N : Int) (N : Int) (by omega) (Int.le_refl _) (by rw [h2]; omega) (by omega)
  simp only [Int.toNat_natCast] at this
  exact this
theorem fillM {S : Nat → Prop} {W : World} {R n c : Nat} {cur : Array Value} {xs : List (List Int × SL)} (h : W.heap[R]? = some (.cells cur 37 (0, 0))) (hfill : ∀ (i : Nat) x, xs[i]? = some x → cur[i]? = some x.2.v) (hn : n = xs.length) (hl : n ≤ maxLen) (hS : S R)
    (hs : ∀ x ∈ xs, IsIq S W x.2 x.1) : IsMq S W ⟨some ⟨R, 0, none⟩, n, c⟩ (xs.map (·.1)) := by
  refine ⟨by simpa using hn, hl, .inr ⟨R, 0, rfl, hS, fun i => ((xs[i]?).map (·.2)).getD SL.nil, fun i u hu => ?_⟩⟩
  rw [List.getElem?_map] at hu
  obtain ⟨x, hx, rfl⟩ := Option.map_eq_some_iff.1 hu
  simp only [hx, Option.map_some, Option.getD_some, Nat.zero_add]
  exact ⟨(HK.blk_cell h _).trans (hfill i x hx), hs x (List.mem_of_getElem? hx)⟩
set_option maxRecDepth 100000 in
set_option maxHeartbeats 2000000 in
theorem each64_nil' (w : World) (f : Value) (a : Option Addr) (c : Nat) : Calls Try.prog 64 #[.slice a 0 c, f] w fun e w' => e = .returned (.slice none 0 0) ∧ w' = w := by
  go_enter Try.func64, Try.ntmps64
  go_wp2_with (fail)
  go_ret
  exact ⟨rfl, rfl⟩
set_option maxRecDepth 100000 in
set_option maxHeartbeats 4000000 in
/-- Marks copied. -/
theorem marks_call (w : World) (s : SL) (ms : List (List Int)) (hs : IsMq (fun k => k < w.heap.size) w s ms) (hl : ms.length ≤ 20000) (hu : ∀ u ∈ ms, u.length ≤ 20000) :
    Calls Try.prog 64 #[s.v, .func (.func 65) #[] #[]] w fun e w' => ∃ s' : SL, e = .returned s'.v ∧ IsMq (FreshT w w') w' s' ms ∧ Below w.heap.size w w' := by
  obtain ⟨sa, n, sc⟩ := s
  obtain ⟨hn, hm, hs⟩ := hs
  simp only at hn hm hs
  simp only [SL.v]
  by_cases h0 : n = 0
  · subst h0
    refine Calls.mono (each64_nil' w _ sa sc) ?_
    rintro e w' ⟨rfl, rfl⟩
    have : ms = [] := List.length_eq_zero_iff.1 hn.symm
    subst this
    exact ⟨SL.nil, rfl, ⟨rfl, Nat.zero_le _, .inl rfl⟩, Below.refl _ _⟩
  · obtain ⟨cur0, hcur0, hmk⟩ := marks_make n (by omega)
    obtain ⟨g, o, rfl, hg, sl, hcs⟩ := hs.resolve_left (fun e => by rw [e] at hn; exact h0 hn)
    have b0 : ((n : Int) == 0) = false := by simp; omega
    have b1 : ¬ (n : Int) = 0 := by omega
    have HN := Lib.hid hn
    have HS := Lib.hid hcs
    have HU := Lib.hid hu
    have HGG := Lib.hid hg
    have HCU := Lib.hid hcur0
    have hn2 : n ≤ 20000 := by omega
    clear hn hs hcs hu hcur0 hm hg
    go_enter Try.func64, Try.ntmps64
    go_wp2_with (fail)
    go_loopw [16] (fun i wr => ∃ (k : Nat) (xs : List (List Int × SL)) (cur : Array Value), k ≤ n ∧ i = .int .i64 k ∧ xs.map (·.1) = ms.take k ∧ Below w.heap.size w wr ∧ wr.heap[w.heap.size]? = some (.cells cur 37 (0, 0)) ∧ cur.size = n ∧ (∀ (i : Nat) x, xs[i]? = some x → cur[i]? = some x.2.v) ∧ ∀ x ∈ xs, IsIq (Th (fun b => w.heap.size < b ∧ b < wr.heap.size) wr) wr x.2 x.1) (fun i _ => n - (intOf i).toNat)
    case atStart => exact ⟨0, [], cur0, by omega, rfl, rfl, (Below.refl _ w).alloc (Nat.le_refl _) _, HK.blk_new _ _, HCU.out, (fun i x hx => by simp at hx), (fun x hx => by simp at hx)⟩
    case round =>
      obtain ⟨k, xs, cur, hk, rfl, hxs, hB, hR, hcz, hfl, hq⟩ := hrel
      have hxl : xs.length = k := by
        have := congrArg List.length hxs
        rw [List.length_map, List.length_take, ← HN.out] at this; omega
      have HXS := Lib.hid hxs
      have HB := Lib.hid hB
      have HR := Lib.hid hR
      have HCZ := Lib.hid hcz
      have HFL := Lib.hid hfl
      have HQ := Lib.hid hq
      have HXL := Lib.hid hxl
      clear hxs hB hR hcz hfl hq hxl
      by_cases h1 : k < n
      · obtain ⟨u, hu⟩ : ∃ u, ms[k]? = some u := ⟨_, List.getElem?_eq_getElem (by rw [← HN.out]; exact h1)⟩
        obtain ⟨hc0, hiq⟩ := HS.out k u hu
        have y0 := (HB.out.cell (p := ⟨g, o + k, none⟩) HGG.out).trans hc0
        have hcp := clone_ints wr (sl k) u (hiq.turn fun q hq => ⟨Nat.lt_of_lt_of_le hq HB.out.size, HB.out.block q hq⟩) (HU.out u (List.mem_of_getElem? hu))
        have htk : ms.take (k + 1) = ms.take k ++ [u] := by rw [List.take_add_one, hu]; rfl
        obtain ⟨⟨ua, un, uc⟩, hsl⟩ : ∃ q : SL, q = sl k := ⟨_, rfl⟩
        rw [← hsl] at y0 hcp
        simp only [SL.v] at y0 hcp
        have HCP := Lib.hid hcp
        have HTK := Lib.hid htk
        have z1 : (0 : Int) ≤ (k : Int) := by omega
        have z2 : (k : Int) < (n : Int) := by omega
        clear hc0 hiq hu htk hcp hsl
        go_wp2_with (
          go_at_call 65
          refine HCP.out.mono ?_
          rintro e w2 ⟨⟨va, vn, vc⟩, rfl, hq1, hB2⟩
          have hR2 := (hB2.block _ (HK.blk_lt HR.out)).trans HR.out
          obtain ⟨o0, ho0⟩ : ∃ u, cur[k]? = some u := ⟨_, Array.getElem?_eq_getElem (by rw [HCZ.out]; omega)⟩
          have e0 : w2.cell? ⟨w.heap.size, k, none⟩ = some o0 := (HK.blk_cell hR2 _).trans ho0
          have ef := fun i => HK.blk_frozen hR2 i
          have HR2 := Lib.hid hR2
          have HQ1 := Lib.hid hq1
          have HB2 := Lib.hid hB2
          clear hR2 hB2 hq1 ho0)
        go_roundw
        case rel =>
          have hF3 : HK.Frm (· = w.heap.size) w2 (w2.setCell ⟨w.heap.size, k, none⟩ (.slice va vn vc)) := HK.Frm.setCell (F := (· = w.heap.size)) (HK.Frm.refl _ w2) (.inl rfl) _
          have hR3 := HK.blk_set HR2.out k (.slice va vn vc)
          have hwr := HB.out.size
          have hz := HB2.out.size
          have hRr := HK.blk_lt HR.out
          have hz3 := hF3.size
          refine ⟨k + 1, xs ++ [(u, ⟨va, vn, vc⟩)], _, by omega, by go_num, ?_, ?_, hR3, by simp; exact HCZ.out, ?_, ?_⟩
          · rw [List.map_append, HXS.out, HTK.out]; rfl
          · exact (below_then HB.out HB2.out).trans (hF3.below (B := w.heap.size) (by omega) (fun b e => by omega))
          · intro i x hx
            rw [Array.getElem?_setIfInBounds]
            by_cases hik : k = i
            · subst hik
              rw [List.getElem?_append_right (by rw [HXL.out]; exact Nat.le_refl _), HXL.out, Nat.sub_self] at hx
              simp at hx
              subst hx
              have := HCZ.out
              simp [this, h1]; rfl
            · rw [if_neg hik]
              have hlt : i < xs.length := by
                have := (List.getElem?_eq_some_iff.1 hx).1
                rw [List.length_append, HXL.out] at this
                simp at this
                rw [HXL.out]; omega
              rw [List.getElem?_append_left hlt] at hx
              exact HFL.out i x hx
          · intro x hx
            rcases List.mem_append.1 hx with hx | hx
            · refine (HQ.out x hx).turnT fun b hb => ⟨⟨hb.1, by omega⟩, ?_⟩
              rw [hF3.block b (by omega) (by omega), HB2.out.block b hb.2]
            · rw [List.mem_singleton.1 hx]
              refine HQ1.out.turnT fun b hb => ?_
              simp only [Fresh] at hb
              exact ⟨⟨by omega, by omega⟩, hF3.block b (by omega) (by omega)⟩
        case measure => simp [intOf]; omega
      · have hkn : k = n := by omega
        subst hkn
        have z2 : ¬ ((k : Int) < (k : Int)) := by omega
        go_wp2_with (fail)
        go_ret
        have hts : xs.map (·.1) = ms := by rw [HXS.out, HN.out, List.take_length]
        rw [← hts]
        exact ⟨⟨some ⟨w.heap.size, 0, none⟩, k, k⟩, rfl, fillM HR.out HFL.out HXL.out.symm (by simp only [maxLen]; omega) ⟨⟨Nat.le_refl _, HK.blk_lt HR.out⟩, _, _, HR.out⟩ (fun x hx => (HQ.out x hx).turnT fun b hb => ⟨⟨by omega, hb.2⟩, rfl⟩), HB.out⟩
end Go.Proofs.Ytfebcpmbkljaoaa
namespace Go.Proofs.Ytfebcpmbkljaoaa
open Go.RowKit Go.HR
set_option linter.unusedVariables false
set_option linter.unusedSimpArgs false
set_option linter.unusedSectionVars false
mutual
/-- Formulas are flat, lists are short. -/
def shortR : RT → Prop
  | .node _ _ _ args fs _ marks subs => ((∀ t ∈ args, t.args = []) ∧ args.length ≤ 20000) ∧ (flatFs fs ∧ fs.length ≤ 20000) ∧ (marks.length ≤ 20000 ∧ ∀ u ∈ marks, u.length ≤ 20000) ∧ subs.length ≤ 10000 ∧ shortF subs
def shortF : List RT → Prop
  | [] => True
  | r :: rs => shortR r ∧ shortF rs
end
theorem shortF_get : ∀ {rs : List RT} {i : Nat} {r : RT}, shortF rs → rs[i]? = some r → shortR r
  | [], _, _, _, h => by simp at h
  | g :: fs, 0, f, h, hf => by simp at hf; subst hf; exact h.1
  | g :: fs, i + 1, f, h, hf => shortF_get h.2 (by simpa using hf)
def RetCR (w : World) (r : RT) (e : Ending) (w' : World) : Prop :=
  ∃ (t' : PT) (sv' : SL), e = .returned (.agg (t'.arr sv')) ∧ IsPq (Fresh w w') w' sv' t'.subs ∧ RichT (Fresh w w') w' t' r ∧ Below w.heap.size w w'
def RetCT (w : World) (r : RT) (e : Ending) (w' : World) : Prop :=
  ∃ (t' : PT) (sv' : SL), e = .returned (.agg (t'.arr sv')) ∧ IsPq (FreshT w w') w' sv' t'.subs ∧ RichT (FreshT w w') w' t' r ∧ Below w.heap.size w w'
def CopyR (t : PT) (r : RT) : Prop := ∀ (sv : SL) (w : World), IsPs w.heap.size w sv t.subs → RichT (fun k => k < w.heap.size) w t r → Calls Try.prog 47 #[.agg (t.arr sv)] w (RetCT w r)
def EachR (ts : List PT) (rs : List RT) : Prop := ∀ (sv : SL) (w : World), IsPs w.heap.size w sv ts → RichF (fun k => k < w.heap.size) w ts rs →
  Calls Try.prog 63 #[sv.v, .func (.func 47) #[] #[]] w fun e w' => ∃ (sv' : SL) (ts' : List PT), e = .returned sv'.v ∧ IsPq (FreshT w w') w' sv' ts' ∧ RichF (FreshT w w') w' ts' rs ∧ Below w.heap.size w w'
/-- A box and a result's cell, behind w. -/
structure Bx (w : World) (G R : Nat) (bx rz : Array Value) (W : World) : Prop where
  box : W.heap[G]? = some (.cells bx 30 (0, 0))
  res : W.heap[R]? = some (.cells rz 30 (0, 0))
  bel : Below w.heap.size w W
  g : G = w.heap.size
  r : R = w.heap.size + 1
theorem Bx.call {w W W' : World} {G R : Nat} {bx rz : Array Value} (h : Bx w G R bx rz W) (hB : Below W.heap.size W W') : Bx w G R bx rz W' :=
  ⟨(hB.block _ (HK.blk_lt h.box)).trans h.box, (hB.block _ (HK.blk_lt h.res)).trans h.res, below_then h.bel hB, h.g, h.r⟩
theorem Bx.set {w W : World} {G R : Nat} {bx rz : Array Value} (h : Bx w G R bx rz W) (i : Nat) (v : Value) : Bx w G R (bx.setIfInBounds i v) rz (W.setCell ⟨G, i, none⟩ v) :=
  have hF : HK.Frm (· = G) W (W.setCell ⟨G, i, none⟩ v) := HK.Frm.setCell (F := (· = G)) (HK.Frm.refl _ W) (.inl rfl) v
  ⟨HK.blk_set h.box i v, hF.heap h.res (by have := h.g; have := h.r; omega), h.bel.trans (hF.below h.bel.size fun k hk => by have := h.g; omega), h.g, h.r⟩
theorem Bx.keep {w W W' : World} {G R : Nat} {bx rz : Array Value} (h : Bx w G R bx rz W) (hF : HK.Frm (· = G) W W') : ∀ b, (w.heap.size + 2 ≤ b ∧ b < W.heap.size) → (w.heap.size + 2 ≤ b ∧ b < W'.heap.size) ∧ W'.heap[b]? = W.heap[b]? := fun b hb =>
  ⟨⟨hb.1, Nat.lt_of_lt_of_le hb.2 hF.size⟩, hF.block b hb.2 (by have := h.g; omega)⟩
theorem Bx.fresh {w W W' : World} {G R : Nat} {bx rz : Array Value} (h : Bx w G R bx rz W) : ∀ b, Fresh W W' b → (w.heap.size + 2 ≤ b ∧ b < W'.heap.size) ∧ W'.heap[b]? = W'.heap[b]? := fun b hb =>
  ⟨⟨Nat.le_trans (by have := HK.blk_lt h.res; have := h.r; omega) hb.1, hb.2⟩, rfl⟩
theorem keepB {n : Nat} {W W' : World} (hB : Below W.heap.size W W') : ∀ b, (n ≤ b ∧ b < W.heap.size) → (n ≤ b ∧ b < W'.heap.size) ∧ W'.heap[b]? = W.heap[b]? := fun b hb => ⟨⟨hb.1, Nat.lt_of_lt_of_le hb.2 hB.size⟩, hB.block b hb.2⟩
theorem frmG (W : World) (G i : Nat) (v : Value) : HK.Frm (· = G) W (W.setCell ⟨G, i, none⟩ v) := HK.Frm.setCell (F := (· = G)) (HK.Frm.refl _ W) (.inl rfl) v
set_option maxRecDepth 100000 in
set_option maxHeartbeats 16000000 in
theorem copyR_of (t : PT) (r : RT) (hr : shortR r) (he : EachR t.subs r.subs) : CopyR t r := by
  intro sv w hs hri
  obtain ⟨rule, ⟨op, name, ⟨aa, an, ac⟩, ⟨fa, fn, fc⟩, label, ⟨ma, mn, mc⟩⟩, subs⟩ := t
  obtain ⟨r', rop, rnm, rargs, rfs, rlab, rmarks, rsubs⟩ := r
  obtain ⟨hr1, hr2, hr3, hr4, hr5, hr6, hr7, hr8⟩ := hri
  obtain ⟨⟨k1, k2⟩, ⟨k3, k4⟩, ⟨k5, k6⟩, k7, k8⟩ := hr
  simp only at hr1 hr2 hr3 hr4 hr5 hr6 hr7
  subst hr1 hr2 hr3 hr4
  obtain ⟨sa, sn, sc⟩ := sv
  simp only [PT.subs, RT.subs] at he hs
  have h62 := fun (W : World) (hB : Below w.heap.size w W) => form_all (.node op name rargs rfs) ⟨k1, k2, k4, k3⟩ ⟨aa, an, ac⟩ ⟨fa, fn, fc⟩ W (hr5.up hB) (hr6.up hB)
  have h63 := fun (W : World) (hB : Below w.heap.size w W) => he ⟨sa, sn, sc⟩ W (hs.up hB) (RichF.turn (fun k hk => ⟨Nat.lt_of_lt_of_le hk hB.size, hB.block k hk⟩) hr8)
  have h64 := fun (W : World) (hB : Below w.heap.size w W) => marks_call W ⟨ma, mn, mc⟩ rmarks (hr7.turn fun k hk => ⟨Nat.lt_of_lt_of_le hk hB.size, hB.block k hk⟩) k5 k6
  unfold RetFT at h62
  simp only [FT.op, FT.nm, FT.args, FT.subs, SL.v] at h62 h63 h64
  simp only [PT.arr, PT.rule, PT.o, PT.subs, SL.v]
  obtain ⟨w1, hw1⟩ : ∃ w1, w1 = (w.alloc (.cells #[.string rule, .int .u8 op, .string name, .slice aa an ac, .slice fa fn fc, .int .i64 label, .slice sa sn sc, .slice ma mn mc] 30)).alloc (.cells #[.string ⟨#[]⟩, .int .u8 0, .string ⟨#[]⟩, .slice none 0 0, .slice none 0 0, .int .i64 0, .slice none 0 0, .slice none 0 0] 30) := ⟨_, rfl⟩
  obtain ⟨G, hG⟩ : ∃ G, G = w.heap.size := ⟨_, rfl⟩
  obtain ⟨R, hR⟩ : ∃ R, R = w.heap.size + 1 := ⟨_, rfl⟩
  have hb1 : Bx w G R #[.string rule, .int .u8 op, .string name, .slice aa an ac, .slice fa fn fc, .int .i64 label, .slice sa sn sc, .slice ma mn mc] #[.string ⟨#[]⟩, .int .u8 0, .string ⟨#[]⟩, .slice none 0 0, .slice none 0 0, .int .i64 0, .slice none 0 0, .slice none 0 0] w1 :=
    ⟨by rw [hw1, hG]; exact HK.blk_alloc (HK.blk_new _ _) _, by rw [hw1, hR]; exact blk_new1 _ _ _, by rw [hw1]; exact bl_al (bl_al (Below.refl _ _)), hG, hR⟩
  have x1 := HK.blk_cell hb1.box 1
  have x2 := HK.blk_cell hb1.box 2
  have x3 := HK.blk_cell hb1.box 3
  have x4 := HK.blk_cell hb1.box 4
  have H62 := Lib.hid (h62 w1 hb1.bel)
  have H63 := Lib.hid h63
  have H64 := Lib.hid h64
  have HB1 := Lib.hid hb1
  have HW1 := Lib.hid hw1
  have HG := Lib.hid hG
  have HR := Lib.hid hR
  clear h62 h63 h64 hb1 hw1 hG hR hs hr5 hr6 hr7 hr8 k1 k2 k3 k4 k5 k6 k7 k8 he
  go_enter Try.func47, Try.ntmps47
  go_upto_region 1 with (fail)
  rw [← HW1.out, ← HR.out, ← HG.out]
  go_upto_region 2 with (go_at_call 62; (refine H62.out.mono ?_; rintro e w2 ⟨⟨ba, bn, bc⟩, ⟨da, dn, dc⟩, rfl, hts, hfs, hB2⟩; have hb2 := HB1.out.call hB2; have x1' := HK.blk_cell hb2.box 1; have x2' := HK.blk_cell hb2.box 2; have x3' := HK.blk_cell hb2.box 3; have x4' := HK.blk_cell hb2.box 4; have xf := fun i => HK.blk_frozen hb2.box i; have HB2 := Lib.hid hb2; have HTS := Lib.hid (hts.turnT HB1.out.fresh); have HFS := Lib.hid (hfs.turnT HB1.out.fresh); clear hb2 hts hfs hB2))
  clear x1 x2 x3 x4 x1' x2' x3' x4' xf
  obtain ⟨w3, hw3⟩ : ∃ w3, w3 = (((w2.setCell ⟨G, 1, none⟩ (.int .u8 op)).setCell ⟨G, 2, none⟩ (.string name)).setCell ⟨G, 3, none⟩ (.slice ba bn bc)).setCell ⟨G, 4, none⟩ (.slice da dn dc) := ⟨_, rfl⟩
  rw [← hw3]
  have hb3 : Bx w G R #[.string rule, .int .u8 op, .string name, .slice ba bn bc, .slice da dn dc, .int .i64 label, .slice sa sn sc, .slice ma mn mc] #[.string ⟨#[]⟩, .int .u8 0, .string ⟨#[]⟩, .slice none 0 0, .slice none 0 0, .int .i64 0, .slice none 0 0, .slice none 0 0] w3 := by rw [hw3]; exact (((HB2.out.set 1 _).set 2 _).set 3 _).set 4 _
  have hF3 : HK.Frm (· = G) w2 w3 := by rw [hw3]; exact (((frmG _ _ _ _).trans (frmG _ _ _ _)).trans (frmG _ _ _ _)).trans (frmG _ _ _ _)
  have x6 := HK.blk_cell hb3.box 6
  have HB3 := Lib.hid hb3
  have HTS3 := Lib.hid (HTS.out.turnT (HB2.out.keep hF3))
  have HFS3 := Lib.hid (HFS.out.turnT (HB2.out.keep hF3))
  have H63' := Lib.hid (H63.out w3 hb3.bel)
  clear hw3 hb3 hF3
  go_upto_region 3 with (go_at_call 63; (refine H63'.out.mono ?_; rintro e w4 ⟨⟨ta, tn, tc⟩, ts', rfl, hps, hrf, hB4⟩; have hb4 := HB3.out.call hB4; have x6' := HK.blk_cell hb4.box 6; have xf := fun i => HK.blk_frozen hb4.box i; have HB4 := Lib.hid hb4; have HPS := Lib.hid (hps.turnT HB3.out.fresh); have HRF := Lib.hid (RichF.turnT HB3.out.fresh hrf); have HTS4 := Lib.hid (HTS3.out.turnT (keepB hB4)); have HFS4 := Lib.hid (HFS3.out.turnT (keepB hB4)); clear hb4 hps hrf hB4))
  clear x6 x6' xf
  obtain ⟨w5, hw5⟩ : ∃ w5, w5 = w4.setCell ⟨G, 6, none⟩ (.slice ta tn tc) := ⟨_, rfl⟩
  rw [← hw5]
  have hb5 : Bx w G R #[.string rule, .int .u8 op, .string name, .slice ba bn bc, .slice da dn dc, .int .i64 label, .slice ta tn tc, .slice ma mn mc] #[.string ⟨#[]⟩, .int .u8 0, .string ⟨#[]⟩, .slice none 0 0, .slice none 0 0, .int .i64 0, .slice none 0 0, .slice none 0 0] w5 := by rw [hw5]; exact HB4.out.set 6 _
  have hF5 : HK.Frm (· = G) w4 w5 := by rw [hw5]; exact frmG _ _ _ _
  have x7 := HK.blk_cell hb5.box 7
  have HB5 := Lib.hid hb5
  have HTS5 := Lib.hid (HTS4.out.turnT (HB4.out.keep hF5))
  have HFS5 := Lib.hid (HFS4.out.turnT (HB4.out.keep hF5))
  have HPS5 := Lib.hid (HPS.out.turnT (HB4.out.keep hF5))
  have HRF5 := Lib.hid (RichF.turnT (HB4.out.keep hF5) HRF.out)
  have H64' := Lib.hid (H64.out w5 hb5.bel)
  clear hw5 hb5 hF5
  go_upto_region 4 with (go_at_call 64; (refine H64'.out.mono ?_; rintro e w6 ⟨⟨va, vn, vc⟩, rfl, hms, hB6⟩; have hb6 := HB5.out.call hB6; have x7' := HK.blk_cell hb6.box 7; have xf := fun i => HK.blk_frozen hb6.box i; have HB6 := Lib.hid hb6; have HMS := Lib.hid (hms.turnT HB5.out.fresh); have HTS6 := Lib.hid (HTS5.out.turnT (keepB hB6)); have HFS6 := Lib.hid (HFS5.out.turnT (keepB hB6)); have HPS6 := Lib.hid (HPS5.out.turnT (keepB hB6)); have HRF6 := Lib.hid (RichF.turnT (keepB hB6) HRF5.out); clear hb6 hms hB6))
  clear x7 x7' xf
  obtain ⟨w7, hw7⟩ : ∃ w7, w7 = w6.setCell ⟨G, 7, none⟩ (.slice va vn vc) := ⟨_, rfl⟩
  rw [← hw7]
  have hb7 : Bx w G R #[.string rule, .int .u8 op, .string name, .slice ba bn bc, .slice da dn dc, .int .i64 label, .slice ta tn tc, .slice va vn vc] #[.string ⟨#[]⟩, .int .u8 0, .string ⟨#[]⟩, .slice none 0 0, .slice none 0 0, .int .i64 0, .slice none 0 0, .slice none 0 0] w7 := by rw [hw7]; exact HB6.out.set 7 _
  have hF7 : HK.Frm (· = G) w6 w7 := by rw [hw7]; exact frmG _ _ _ _
  have c0 := HK.blk_cell hb7.box 0
  have r0 := HK.blk_cell hb7.res 0
  have c1 := HK.blk_cell hb7.box 1
  have r1 := HK.blk_cell hb7.res 1
  have c2 := HK.blk_cell hb7.box 2
  have r2 := HK.blk_cell hb7.res 2
  have c3 := HK.blk_cell hb7.box 3
  have r3 := HK.blk_cell hb7.res 3
  have c4 := HK.blk_cell hb7.box 4
  have r4 := HK.blk_cell hb7.res 4
  have c5 := HK.blk_cell hb7.box 5
  have r5 := HK.blk_cell hb7.res 5
  have c6 := HK.blk_cell hb7.box 6
  have r6 := HK.blk_cell hb7.res 6
  have c7 := HK.blk_cell hb7.box 7
  have r7 := HK.blk_cell hb7.res 7
  have rf := fun i => HK.blk_frozen hb7.res i
  have HB7 := Lib.hid hb7
  have HTS7 := Lib.hid (HTS6.out.turnT (HB6.out.keep hF7))
  have HFS7 := Lib.hid (HFS6.out.turnT (HB6.out.keep hF7))
  have HPS7 := Lib.hid (HPS6.out.turnT (HB6.out.keep hF7))
  have HRF7 := Lib.hid (RichF.turnT (HB6.out.keep hF7) HRF6.out)
  have HMS7 := Lib.hid (HMS.out.turnT (HB6.out.keep hF7))
  clear hw7 hb7 hF7
  go_wp2_with (fail)
  refine bodyPost_ret (results_cell_row (p := 2) (ty := 30) (by kernel_rfl) _ _ R 30 _ (0, 0) _ rfl (set8 HB7.out.res _ _ _ _ _ _ _ _) Try.underlying30 rfl (by kernel_rfl)) rfl ?_
  have hF8 := set8_frm w7 R (.string rule) (.int .u8 op) (.string name) (.slice ba bn bc) (.slice da dn dc) (.int .i64 label) (.slice ta tn tc) (.slice va vn vc)
  have hRw : R = w.heap.size + 1 := HR.out
  have hk8 : ∀ b, (w.heap.size + 2 ≤ b ∧ b < w7.heap.size) → Fresh w _ b ∧ _ = _ := fun b hb => ⟨⟨by omega, Nat.lt_of_lt_of_le hb.2 hF8.size⟩, hF8.block b hb.2 (by omega)⟩
  exact ⟨.node rule ⟨op, name, ⟨ba, bn, bc⟩, ⟨da, dn, dc⟩, label, ⟨va, vn, vc⟩⟩ ts', ⟨ta, tn, tc⟩, rfl, HPS7.out.turnT hk8, ⟨rfl, rfl, rfl, rfl, HTS7.out.turnT hk8, HFS7.out.turnT hk8, HMS7.out.turnT hk8, RichF.turnT hk8 HRF7.out⟩, HB7.out.bel.trans (hF8.below HB7.out.bel.size (fun k hk => by omega))⟩
def rowP (x : PT × SL) : List Value := x.1.vals x.2
set_option maxRecDepth 100000 in
set_option maxHeartbeats 8000000 in
theorem eachR_of (ts : List PT) (rs : List RT) (hl : rs.length ≤ 10000) (hc : ∀ (i : Nat) t r, ts[i]? = some t → rs[i]? = some r → CopyR t r) : EachR ts rs := by
  intro sv w hs hrf
  have hlr := hrf.length
  obtain ⟨sa, n, sc⟩ := sv
  have hn : n = ts.length := hs.len
  simp only [SL.v]
  by_cases h0 : n = 0
  · subst h0
    refine Calls.mono (each63_nil w _ sa sc) ?_
    rintro e w' ⟨rfl, rfl⟩
    have : ts = [] := List.length_eq_zero_iff.1 hn.symm
    subst this
    have : rs = [] := List.length_eq_zero_iff.1 hlr.symm
    subst this
    exact ⟨SL.nil, [], rfl, .nil _ _, trivial, Below.refl _ _⟩
  · obtain ⟨cur0, hcur0, hmk⟩ := proofs_make n (by omega)
    have b0 : ((n : Int) == 0) = false := by simp; omega
    have b1 : ¬ (n : Int) = 0 := by omega
    have HN := Lib.hid hn
    have HLR := Lib.hid hlr
    have HS := Lib.hid hs
    have HRF := Lib.hid hrf
    have HC := Lib.hid hc
    have HCU := Lib.hid hcur0
    have hn2 : n ≤ 10000 := by omega
    clear hn hs hc hcur0 hrf hlr
    go_enter Try.func63, Try.ntmps63
    go_wp2_with (fail)
    go_loopw [16] (fun i wr => ∃ (k : Nat) (xs : List (PT × SL)) (cur : Array Value), k ≤ n ∧ i = .int .i64 k ∧ xs.length = k ∧ Below w.heap.size w wr ∧ wr.heap[w.heap.size]? = some (.cells cur 30 (0, 0)) ∧ cur.size = n * 8 ∧ FillL 8 cur (xs.map rowP) ∧ (∀ x ∈ xs, IsPq (Th (fun b => w.heap.size < b ∧ b < wr.heap.size) wr) wr x.2 x.1.subs) ∧ (∀ (i : Nat) x r, xs[i]? = some x → rs[i]? = some r → RichT (Th (fun b => w.heap.size < b ∧ b < wr.heap.size) wr) wr x.1 r)) (fun i _ => n - (intOf i).toNat)
    case atStart => exact ⟨0, [], cur0, by omega, rfl, rfl, (Below.refl _ w).alloc (Nat.le_refl _) _, HK.blk_new _ _, HCU.out, (fun i x hx => by simp at hx), (fun x hx => by simp at hx), (fun i x r hx => by simp at hx)⟩
    case round =>
      obtain ⟨k, xs, cur, hk, rfl, hxl, hB, hR, hcz, hfl, hq, hrr⟩ := hrel
      have HB := Lib.hid hB
      have HR := Lib.hid hR
      have HCZ := Lib.hid hcz
      have HFL := Lib.hid hfl
      have HQ := Lib.hid hq
      have HRR := Lib.hid hrr
      have HXL := Lib.hid hxl
      clear hB hR hcz hfl hq hxl hrr
      by_cases h1 : k < n
      · obtain ⟨t, ht⟩ : ∃ t, ts[k]? = some t := ⟨_, List.getElem?_eq_getElem (by rw [← HN.out]; exact h1)⟩
        obtain ⟨r, hr⟩ : ∃ r, rs[k]? = some r := ⟨_, List.getElem?_eq_getElem (by rw [← HLR.out, ← HN.out]; exact h1)⟩
        have hrt := HRF.out.get ht hr
        obtain ⟨g, o, rfl⟩ := ps_addr HS.out ht
        obtain ⟨sv2, hcl, hps⟩ := row_at (HS.out.same fun j hj => HB.out.block j hj) ht
        have hba : Below w.heap.size w (wr.alloc (.cells (t.arr sv2) 30)) := HB.out.trans (((Below.refl _ wr).alloc (Nat.le_refl _) _).mono HB.out.size)
        have hcopy := HC.out k t r ht hr sv2 (wr.alloc (.cells (t.arr sv2) 30)) ((hps.mono HB.out.size).up ((Below.refl _ wr).alloc (Nat.le_refl _) _)) (hrt.turn fun q hq => ⟨Nat.lt_of_lt_of_le hq hba.size, hba.block q hq⟩)
        obtain ⟨r2, ⟨op2, name2, ⟨aa, an, ac⟩, ⟨fa, fn, fc⟩, label2, ⟨ma, mn, mc⟩⟩, s2⟩ := t
        obtain ⟨ta, tn, tc⟩ := sv2
        unfold RetCT at hcopy
        simp only [PT.arr, PT.vals, PT.rule, PT.o, PT.subs, SL.v] at hcl hcopy
        have y0 : wr.cell? ⟨g, o + k * 8, none⟩ = some (.string r2) := hcl 0 _ rfl
        have y1 : wr.cell? ⟨g, o + k * 8 + 1, none⟩ = some (.int .u8 op2) := hcl 1 _ rfl
        have y2 : wr.cell? ⟨g, o + k * 8 + 2, none⟩ = some (.string name2) := hcl 2 _ rfl
        have y3 : wr.cell? ⟨g, o + k * 8 + 3, none⟩ = some (.slice aa an ac) := hcl 3 _ rfl
        have y4 : wr.cell? ⟨g, o + k * 8 + 4, none⟩ = some (.slice fa fn fc) := hcl 4 _ rfl
        have y5 : wr.cell? ⟨g, o + k * 8 + 5, none⟩ = some (.int .i64 label2) := hcl 5 _ rfl
        have y6 : wr.cell? ⟨g, o + k * 8 + 6, none⟩ = some (.slice ta tn tc) := hcl 6 _ rfl
        have y7 : wr.cell? ⟨g, o + k * 8 + 7, none⟩ = some (.slice ma mn mc) := hcl 7 _ rfl
        have HCP := Lib.hid hcopy
        have HRS := Lib.hid hr
        have z1 : (0 : Int) ≤ (k : Int) := by omega
        have z2 : (k : Int) < (n : Int) := by omega
        clear hcl hps hcopy ht hrt hr hba
        go_wp2_with (
          go_at_call 47
          refine HCP.out.mono ?_
          rintro e w2 ⟨t', sv', rfl, hq2, hq3, hB2⟩
          obtain ⟨r3, ⟨op3, name3, ⟨ba, bn, bc⟩, ⟨da, dn, dc⟩, label3, ⟨ea, en, ec⟩⟩, s3⟩ := t'
          obtain ⟨va, vn, vc⟩ := sv'
          simp only [PT.arr, PT.rule, PT.o, PT.subs, SL.v] at hq2 ⊢
          have hR2 := (hB2.block _ (by have := HK.blk_lt HR.out; simp; omega)).trans (HK.blk_alloc HR.out (.cells #[.string r2, .int .u8 op2, .string name2, .slice aa an ac, .slice fa fn fc, .int .i64 label2, .slice ta tn tc, .slice ma mn mc] 30))
          obtain ⟨o0, ho0⟩ : ∃ u, cur[k * 8]? = some u := ⟨_, Array.getElem?_eq_getElem (by rw [HCZ.out]; omega)⟩
          have e0 : w2.cell? ⟨w.heap.size, k * 8, none⟩ = some o0 := (HK.blk_cell hR2 _).trans ho0
          obtain ⟨o1, ho1⟩ : ∃ u, cur[k * 8 + 1]? = some u := ⟨_, Array.getElem?_eq_getElem (by rw [HCZ.out]; omega)⟩
          have e1 : w2.cell? ⟨w.heap.size, k * 8 + 1, none⟩ = some o1 := (HK.blk_cell hR2 _).trans ho1
          obtain ⟨o2, ho2⟩ : ∃ u, cur[k * 8 + 2]? = some u := ⟨_, Array.getElem?_eq_getElem (by rw [HCZ.out]; omega)⟩
          have e2 : w2.cell? ⟨w.heap.size, k * 8 + 2, none⟩ = some o2 := (HK.blk_cell hR2 _).trans ho2
          obtain ⟨o3, ho3⟩ : ∃ u, cur[k * 8 + 3]? = some u := ⟨_, Array.getElem?_eq_getElem (by rw [HCZ.out]; omega)⟩
          have e3 : w2.cell? ⟨w.heap.size, k * 8 + 3, none⟩ = some o3 := (HK.blk_cell hR2 _).trans ho3
          obtain ⟨o4, ho4⟩ : ∃ u, cur[k * 8 + 4]? = some u := ⟨_, Array.getElem?_eq_getElem (by rw [HCZ.out]; omega)⟩
          have e4 : w2.cell? ⟨w.heap.size, k * 8 + 4, none⟩ = some o4 := (HK.blk_cell hR2 _).trans ho4
          obtain ⟨o5, ho5⟩ : ∃ u, cur[k * 8 + 5]? = some u := ⟨_, Array.getElem?_eq_getElem (by rw [HCZ.out]; omega)⟩
          have e5 : w2.cell? ⟨w.heap.size, k * 8 + 5, none⟩ = some o5 := (HK.blk_cell hR2 _).trans ho5
          obtain ⟨o6, ho6⟩ : ∃ u, cur[k * 8 + 6]? = some u := ⟨_, Array.getElem?_eq_getElem (by rw [HCZ.out]; omega)⟩
          have e6 : w2.cell? ⟨w.heap.size, k * 8 + 6, none⟩ = some o6 := (HK.blk_cell hR2 _).trans ho6
          obtain ⟨o7, ho7⟩ : ∃ u, cur[k * 8 + 7]? = some u := ⟨_, Array.getElem?_eq_getElem (by rw [HCZ.out]; omega)⟩
          have e7 : w2.cell? ⟨w.heap.size, k * 8 + 7, none⟩ = some o7 := (HK.blk_cell hR2 _).trans ho7
          have ef := fun i => HK.blk_frozen hR2 i
          have HR2 := Lib.hid hR2
          have HQ2 := Lib.hid hq2
          have HQ3 := Lib.hid hq3
          have HB2 := Lib.hid hB2
          clear hR2 hq2 hq3 hB2 ho0 ho1 ho2 ho3 ho4 ho5 ho6 ho7)
        go_roundw
        case rel =>
          obtain ⟨nt, hnt⟩ : ∃ nt, nt = PT.node r3 ⟨op3, name3, ⟨ba, bn, bc⟩, ⟨da, dn, dc⟩, label3, ⟨ea, en, ec⟩⟩ s3 := ⟨_, rfl⟩
          have hrow : rowP (nt, ⟨va, vn, vc⟩) = [.string r3, .int .u8 op3, .string name3, .slice ba bn bc, .slice da dn dc, .int .i64 label3, .slice va vn vc, .slice ea en ec] := by rw [hnt]; rfl
          have hF8 := setL_frm (rowP (nt, ⟨va, vn, vc⟩)) w2 w.heap.size (k * 8)
          have hR8 := setL_heap (rowP (nt, ⟨va, vn, vc⟩)) w2 w.heap.size (k * 8) cur HR2.out
          have hkl : (xs.map rowP).length = k := by rw [List.length_map]; exact HXL.out
          have hfl := FillL.put HFL.out (vs := rowP (nt, ⟨va, vn, vc⟩)) (by rw [hrow]; rfl) (fun x hx => by obtain ⟨t', _, rfl⟩ := List.mem_map.1 hx; rfl) (by rw [hkl, HCZ.out]; omega)
          rw [hkl] at hfl
          obtain ⟨W3, hW3⟩ : ∃ W3, W3 = setL w.heap.size w2 (k * 8) (rowP (nt, ⟨va, vn, vc⟩)) := ⟨_, rfl⟩
          have hW3' : W3 = (((((((w2.setCell ⟨w.heap.size, k * 8, none⟩ (.string r3)).setCell ⟨w.heap.size, k * 8 + 1, none⟩ (.int .u8 op3)).setCell ⟨w.heap.size, k * 8 + 2, none⟩ (.string name3)).setCell ⟨w.heap.size, k * 8 + 3, none⟩ (.slice ba bn bc)).setCell ⟨w.heap.size, k * 8 + 4, none⟩ (.slice da dn dc)).setCell ⟨w.heap.size, k * 8 + 5, none⟩ (.int .i64 label3)).setCell ⟨w.heap.size, k * 8 + 6, none⟩ (.slice va vn vc)).setCell ⟨w.heap.size, k * 8 + 7, none⟩ (.slice ea en ec) := by rw [hW3, hrow]; rfl
          rw [← hW3'] 
          rw [← hW3] at hF8 hR8
          have hwr := HB.out.size
          have hz2 := HB2.out.size
          simp only [World.size_alloc] at hz2
          have hRr := HK.blk_lt HR.out
          have hz3 := hF8.size
          have hold : ∀ b, (w.heap.size < b ∧ b < wr.heap.size) → (w.heap.size < b ∧ b < W3.heap.size) ∧ W3.heap[b]? = wr.heap[b]? := fun b hb => ⟨⟨hb.1, by omega⟩, by
            rw [hF8.block b (by omega) (by omega), HB2.out.block b (by simp; omega)]
            exact Below.heap_alloc wr _ b hb.2⟩
          have hnew : ∀ b, Fresh (wr.alloc (.cells #[.string r2, .int .u8 op2, .string name2, .slice aa an ac, .slice fa fn fc, .int .i64 label2, .slice ta tn tc, .slice ma mn mc] 30)) w2 b → (w.heap.size < b ∧ b < W3.heap.size) ∧ W3.heap[b]? = w2.heap[b]? := fun b hb => by
            simp only [Fresh, World.size_alloc] at hb
            exact ⟨⟨by omega, by omega⟩, hF8.block b (by omega) (by omega)⟩
          refine ⟨k + 1, xs ++ [(nt, ⟨va, vn, vc⟩)], _, by omega, by go_num, by simp [HXL.out], ?_, hR8, by rw [putL_size]; exact HCZ.out, by rw [List.map_append]; exact hfl, ?_, ?_⟩
          · exact (below_then HB.out (below_then (bl_al (Below.refl _ _)) HB2.out)).trans (hF8.below (B := w.heap.size) (by omega) (fun b e => by omega))
          · intro x hx
            rcases List.mem_append.1 hx with hx | hx
            · exact (HQ.out x hx).turnT hold
            · rw [List.mem_singleton.1 hx, hnt]
              exact HQ2.out.turnT hnew
          · intro i x r' hx hr'
            by_cases hi : i < xs.length
            · rw [List.getElem?_append_left hi] at hx
              exact RichT.turnT hold (HRR.out i x r' hx hr')
            · have hie : i = k := by
                have := (List.getElem?_eq_some_iff.1 hx).1
                rw [List.length_append, HXL.out] at this
                rw [HXL.out] at hi
                simp at this
                omega
              subst hie
              rw [List.getElem?_append_right (by rw [HXL.out]; exact Nat.le_refl _), HXL.out, Nat.sub_self] at hx
              simp at hx
              subst hx
              rw [HRS.out] at hr'
              cases hr'
              rw [hnt]
              exact RichT.turnT hnew HQ3.out
        case measure => simp [intOf]; omega
      · have hkn : k = n := by omega
        subst hkn
        have z2 : ¬ ((k : Int) < (k : Int)) := by omega
        go_wp2_with (fail)
        go_ret
        exact ⟨⟨some ⟨w.heap.size, 0, none⟩, k, k⟩, rfl, xs.map (·.1), fill_pq HR.out (fun i x hx j v hv => HFL.out i (rowP x) (by rw [List.getElem?_map, hx]; rfl) j v hv) HXL.out.symm ⟨⟨Nat.le_refl _, HK.blk_lt HR.out⟩, _, _, HR.out⟩ (fun x hx => (HQ.out x hx).turnT fun b hb => ⟨⟨by omega, hb.2⟩, rfl⟩),
          RichF.of (by rw [List.length_map, HXL.out, HN.out]; exact HLR.out) (fun i t r ht hr => by
            rw [List.getElem?_map] at ht
            obtain ⟨x, hx, rfl⟩ := Option.map_eq_some_iff.1 ht
            exact RichT.turnT (fun b hb => ⟨⟨by omega, hb.2⟩, rfl⟩) (HRR.out i x r hx hr)), HB.out⟩
mutual
/-- copyProof. -/
theorem copyR_all : ∀ (t : PT) (r : RT), shortR r → CopyR t r
  | .node rl o s, .node a b c d e f g rs, h => copyR_of _ _ h (eachR_of s rs h.2.2.2.1 (copyR_allF s rs h.2.2.2.2))
theorem copyR_allF : ∀ (ts : List PT) (rs : List RT), shortF rs → ∀ (i : Nat) t r, ts[i]? = some t → rs[i]? = some r → CopyR t r
  | [], _, _, i, t, r, h, _ => by simp at h
  | _ :: _, [], _, i, t, r, _, h => by simp at h
  | t :: ts, r :: rs, hs, 0, t', r', h1, h2 => by simp at h1 h2; subst h1 h2; exact copyR_all t r hs.1
  | t :: ts, r :: rs, hs, i + 1, t', r', h1, h2 => copyR_allF ts rs hs.2 i t' r' (by simpa using h1) (by simpa using h2)
end
end Go.Proofs.Ytfebcpmbkljaoaa
namespace Go.Proofs.Ytfebcpmbkljaoaa
open Go.RowKit Go.HR
set_option linter.unusedVariables false
set_option linter.unusedSimpArgs false
set_option linter.unusedSectionVars false
/-- The part at a place. -/
def subR : RT → List Int → Option RT
  | t, [] => some t
  | .node _ _ _ _ _ _ _ s, i :: is => if 0 ≤ i ∧ i < s.length then (match s[i.toNat]? with | some q => subR q is | none => none) else none
theorem subR_out {t : RT} {i : Int} {is : List Int} (h : ¬ (0 ≤ i ∧ i < t.subs.length)) : subR t (i :: is) = none := by
  obtain ⟨r, _, _, _, _, _, _, s⟩ := t
  simp only [RT.subs] at h
  rw [subR, if_neg h]
theorem subR_in {t q : RT} {k : Nat} {is : List Int} (h : t.subs[k]? = some q) : subR t ((k : Int) :: is) = subR q is := by
  obtain ⟨r, _, _, _, _, _, _, s⟩ := t
  simp only [RT.subs] at h
  obtain ⟨hl, _⟩ := List.getElem?_eq_some_iff.1 h
  rw [subR, if_pos ⟨by omega, by omega⟩, Int.toNat_natCast, h]
theorem subR_nil (t : RT) : subR t [] = some t := by cases t; rfl
def zeroR : RT := .node ⟨#[]⟩ 0 ⟨#[]⟩ [] [] 0 [] []
theorem zero_rich (S : Nat → Prop) (W : World) : RichT S W zeroT zeroR :=
  ⟨rfl, rfl, rfl, rfl, .nil _ _, .nil _ _, ⟨rfl, Nat.zero_le _, .inl rfl⟩, trivial⟩
/-- What At returns: the error's number, the proof's data. -/
def atQ (t : PT) (r : RT) (is : List Int) : Nat × RT := if measT t then (match subR r is with | none => (6, zeroR) | some q => (0, q)) else (2, zeroR)
/-- A proof in fresh memory, an error's number. -/
def RetRq (w : World) (x : Nat × RT) (e : Ending) (w' : World) : Prop :=
  ∃ (t' : PT) (sv' : SL), e = .returned (.tuple #[.agg (t'.arr sv'), .int .i64 (x.1 : Int)]) ∧ IsPq (FreshT w w') w' sv' t'.subs ∧ RichT (FreshT w w') w' t' x.2 ∧ Below w.heap.size w w'
/-- copyProof's answer, field by field. -/
theorem calls_open {w : World} {r : RT} {a : Array Value} (h : Calls Try.prog 47 a w (RetCT w r)) : Calls Try.prog 47 a w fun e w' => ∃ (cr : ByteArray) (co : Int) (cm : ByteArray) (u1 : Option Addr) (u2 u3 : Nat) (u4 : Option Addr) (u5 u6 : Nat) (cl : Int) (u7 : Option Addr) (u8 u9 : Nat) (cs : List PT) (ca : Option Addr) (cn cc : Nat),
    e = .returned (.agg #[.string cr, .int .u8 co, .string cm, .slice u1 u2 u3, .slice u4 u5 u6, .int .i64 cl, .slice ca cn cc, .slice u7 u8 u9]) ∧ IsPq (FreshT w w') w' ⟨ca, cn, cc⟩ cs ∧ RichT (FreshT w w') w' (.node cr ⟨co, cm, ⟨u1, u2, u3⟩, ⟨u4, u5, u6⟩, cl, ⟨u7, u8, u9⟩⟩ cs) r ∧ Below w.heap.size w w' := by
  refine h.mono ?_
  rintro e w' ⟨⟨cr, ⟨co, cm, ⟨u1, u2, u3⟩, ⟨u4, u5, u6⟩, cl, ⟨u7, u8, u9⟩⟩, cs⟩, ⟨ca, cn, cc⟩, he, h1, h2, h3⟩
  exact ⟨cr, co, cm, u1, u2, u3, u4, u5, u6, cl, u7, u8, u9, cs, ca, cn, cc, he, h1, h2, h3⟩
set_option maxRecDepth 100000 in
set_option maxHeartbeats 8000000 in
theorem at_rich (w : World) (t : PT) (rr : RT) (sv s : SL) (is : List Int) (hs : IsPs w.heap.size w sv t.subs) (hri : RichT (fun k => k < w.heap.size) w t rr) (hi : IsI w s is) (hl : is.length ≤ 20000) (hzt : sizeT t ≤ 10000) (hpt : shortR rr) :
    Calls Try.prog 32 #[.agg (t.arr sv), s.v] w (RetRq w (atQ t rr is)) := by
  have hms := fun (W : World) (h : IsPs W.heap.size W sv t.subs) => measurable_call W t sv h hzt
  have hw : atQ t rr is = if measT t then (match subR rr is with | none => (6, zeroR) | some q => (0, q)) else (2, zeroR) := rfl
  obtain ⟨mt, hmt⟩ : ∃ mt, mt = measT t := ⟨_, rfl⟩
  unfold RetMs at hms
  rw [← hmt] at hms hw
  obtain ⟨r0, hr0⟩ : ∃ r0, r0 = atQ t rr is := ⟨_, rfl⟩
  rw [← hr0] at hw ⊢
  have e2 : mt = false → r0 = (2, zeroR) := fun h => by rw [hw, h]; rfl
  have e6 : mt = true → subR rr is = none → r0 = (6, zeroR) := fun h h2 => by rw [hw, h, h2]; rfl
  have e0 : mt = true → ∀ q, subR rr is = some q → r0 = (0, q) := fun h q h2 => by rw [hw, h, h2]; rfl
  have E2 := Lib.hid e2
  have E6 := Lib.hid e6
  have E0 := Lib.hid e0
  have HPT := Lib.hid hpt
  have HZT := Lib.hid hzt
  have HRI := Lib.hid hri
  clear hw hmt hzt hpt hr0 e2 e6 e0 hri
  obtain ⟨rule, ⟨op, name, ⟨aa, an, ac⟩, ⟨fa, fn, fc⟩, label, ⟨ma, mn, mc⟩⟩, subs⟩ := t
  obtain ⟨ta, tn, tc⟩ := sv
  obtain ⟨sa, sn, sc⟩ := s
  simp only [PT.arr, PT.rule, PT.o, PT.subs, SL.v] at hms hs ⊢
  obtain ⟨w3, hw3⟩ : ∃ w3, w3 = (w.alloc (.cells #[.string rule, .int .u8 op, .string name, .slice aa an ac, .slice fa fn fc, .int .i64 label, .slice ta tn tc, .slice ma mn mc] 30)).alloc (.cells #[.string ⟨#[]⟩, .int .u8 0, .string ⟨#[]⟩, .slice none 0 0, .slice none 0 0, .int .i64 0, .slice none 0 0, .slice none 0 0] 30) := ⟨_, rfl⟩
  have hb3 : Below w.heap.size w w3 := by rw [hw3]; exact ((Below.refl _ w).alloc (Nat.le_refl _) _).alloc (by simp) _
  have hz3 : w3.heap.size = w.heap.size + 2 := by rw [hw3]; simp
  have k0 : w3.heap[w.heap.size]? = some (.cells #[.string rule, .int .u8 op, .string name, .slice aa an ac, .slice fa fn fc, .int .i64 label, .slice ta tn tc, .slice ma mn mc] 30 (0, 0)) := by rw [hw3]; exact HK.blk_alloc (HK.blk_new _ _) _
  have k2 : w3.heap[w.heap.size + 1]? = some (.cells #[.string ⟨#[]⟩, .int .u8 0, .string ⟨#[]⟩, .slice none 0 0, .slice none 0 0, .int .i64 0, .slice none 0 0, .slice none 0 0] 30 (0, 0)) := by rw [hw3]; exact blk_new1 _ _ _
  have hm3 := hms w3 (hs.up hb3)
  have hsn : sn = is.length := hi.1
  have HM3 := Lib.hid hm3
  have HS := Lib.hid hs
  have HI := Lib.hid hi
  have HB3 := Lib.hid hb3
  have HZ3 := Lib.hid hz3
  have K0 := Lib.hid k0
  have K2 := Lib.hid k2
  have HW3 := Lib.hid hw3
  have HSN := Lib.hid hsn
  have hsn2 : sn ≤ 20000 := by omega
  clear hms hs hi hb3 hz3 k0 k2 hw3 hm3 hsn hl
  go_enter Try.func32, Try.ntmps32
  go_upto_region 1 with (fail)
  rw [← HW3.out]
  have k0 := K0.out
  have p0 : w3.cell? ⟨w.heap.size, 0, none⟩ = some (.string rule) := HK.blk_cell k0 0
  have p1 : w3.cell? ⟨w.heap.size, 1, none⟩ = some (.int .u8 op) := HK.blk_cell k0 1
  have p2 : w3.cell? ⟨w.heap.size, 2, none⟩ = some (.string name) := HK.blk_cell k0 2
  have p3 : w3.cell? ⟨w.heap.size, 3, none⟩ = some (.slice aa an ac) := HK.blk_cell k0 3
  have p4 : w3.cell? ⟨w.heap.size, 4, none⟩ = some (.slice fa fn fc) := HK.blk_cell k0 4
  have p5 : w3.cell? ⟨w.heap.size, 5, none⟩ = some (.int .i64 label) := HK.blk_cell k0 5
  have p6 : w3.cell? ⟨w.heap.size, 6, none⟩ = some (.slice ta tn tc) := HK.blk_cell k0 6
  have p7 : w3.cell? ⟨w.heap.size, 7, none⟩ = some (.slice ma mn mc) := HK.blk_cell k0 7
  clear k0
  cases mt with
  | false =>
    go_wp2_with (
      go_at_call 45
      refine HM3.out.mono ?_
      rintro e w4 ⟨rfl, hB4⟩
      have hr4 := (hB4.block _ (by have := HZ3.out; omega)).trans K2.out
      have z0 : w4.cell? ⟨w.heap.size + 1, 0, none⟩ = some (.string ⟨#[]⟩) := HK.blk_cell hr4 0
      have z1 : w4.cell? ⟨w.heap.size + 1, 1, none⟩ = some (.int .u8 0) := HK.blk_cell hr4 1
      have z2 : w4.cell? ⟨w.heap.size + 1, 2, none⟩ = some (.string ⟨#[]⟩) := HK.blk_cell hr4 2
      have z3 : w4.cell? ⟨w.heap.size + 1, 3, none⟩ = some (.slice none 0 0) := HK.blk_cell hr4 3
      have z4 : w4.cell? ⟨w.heap.size + 1, 4, none⟩ = some (.slice none 0 0) := HK.blk_cell hr4 4
      have z5 : w4.cell? ⟨w.heap.size + 1, 5, none⟩ = some (.int .i64 0) := HK.blk_cell hr4 5
      have z6 : w4.cell? ⟨w.heap.size + 1, 6, none⟩ = some (.slice none 0 0) := HK.blk_cell hr4 6
      have z7 : w4.cell? ⟨w.heap.size + 1, 7, none⟩ = some (.slice none 0 0) := HK.blk_cell hr4 7
      have zf := fun i => HK.blk_frozen hr4 i
      have HR4 := Lib.hid hr4
      have HB4 := Lib.hid hB4
      clear hr4 hB4)
    have hre := E2.out (by trivial)
    rw [hre]
    refine bodyPost_ret (results_row_tmp (p := 4) (u := 5) (by kernel_rfl) _ _ (w.heap.size + 1) 30 _ (0, 0) _ (.int .i64 2) rfl rfl (set8 (b := w.heap.size + 1) HR4.out _ _ _ _ _ _ _ _) Try.underlying30 rfl (by kernel_rfl)) rfl ?_
    have hF8 := set8_frm w4 (w.heap.size + 1) (.string ⟨#[]⟩) (.int .u8 0) (.string ⟨#[]⟩) (.slice none 0 0) (.slice none 0 0) (.int .i64 0) (.slice none 0 0) (.slice none 0 0)
    have hBW := below_then HB3.out HB4.out
    have hsz := hBW.size
    exact ⟨zeroT, SL.nil, rfl, .nil _ _, zero_rich _ _, hBW.trans (hF8.below (B := w.heap.size) (by omega) (fun b e => by omega))⟩
  | true =>
    go_upto_region 3 with (
      go_at_call 45
      refine HM3.out.mono ?_
      rintro e w4 ⟨rfl, hB4⟩)
    have hr4 := (hB4.block _ (by have := HZ3.out; omega)).trans K2.out
    have ht4 := (hB4.block _ (by have := HZ3.out; omega)).trans K0.out
    have hz4 : w.heap.size + 2 ≤ w4.heap.size := by have := hB4.size; have := HZ3.out; omega
    have HB04 := Lib.hid (below_then HB3.out hB4)
    have HR4 := Lib.hid hr4
    have HT4 := Lib.hid ht4
    have HZ4 := Lib.hid hz4
    clear p0 p1 p2 p3 p4 p5 p6 p7 hr4 ht4 hB4 hz4
    go_wp2_with (fail)
    go_loopw [14] (fun k wr => ∃ (j : Nat) (q : PT) (rq : RT) (sq : SL), j ≤ sn ∧ k = .int .i64 j ∧ subR rr is = subR rq (is.drop j) ∧ RichT (fun k => k < w.heap.size) w q rq ∧ shortR rq ∧ sizeT q ≤ 10000 ∧ IsPs w.heap.size wr sq q.subs ∧ wr.heap[w.heap.size]? = some (.cells (q.arr sq) 30 (0, 0)) ∧ wr.heap[w.heap.size + 1]? = some (.cells #[.string ⟨#[]⟩, .int .u8 0, .string ⟨#[]⟩, .slice none 0 0, .slice none 0 0, .int .i64 0, .slice none 0 0, .slice none 0 0] 30 (0, 0)) ∧ Below w.heap.size w wr ∧ w.heap.size + 2 ≤ wr.heap.size) (fun k _ => sn - (intOf k).toNat)
    case atStart =>
      refine ⟨0, .node rule ⟨op, name, ⟨aa, an, ac⟩, ⟨fa, fn, fc⟩, label, ⟨ma, mn, mc⟩⟩ subs, rr, ⟨ta, tn, tc⟩, by omega, rfl, rfl, HRI.out, HPT.out, HZT.out, ?_, HT4.out, HR4.out, HB04.out, HZ4.out⟩
      · exact HS.out.same fun b hb => HB04.out.block b hb
    case round =>
      obtain ⟨j, q, rq, sq, hj, rfl, hsub, hrq, hpq, hzq, hS, hX, hR, hB, hz⟩ := hrel
      obtain ⟨wo, rfl⟩ : ∃ wo : World, wo = wr := ⟨_, rfl⟩
      obtain ⟨qr, ⟨qo, qn, ⟨ba, bn, bc⟩, ⟨da, dn, dc⟩, ql, ⟨na, nn, nc⟩⟩, qs⟩ := q
      obtain ⟨va, vn, vc⟩ := sq
      simp only [PT.arr, PT.rule, PT.o, PT.subs, SL.v] at hS hX
      have hvn : vn = qs.length := hS.len
      have HSUB := Lib.hid hsub
      have HPQ := Lib.hid hpq
      have HRQ := Lib.hid hrq
      obtain ⟨dr, dop, dnm, dargs, dfs, dlab, dmarks, ds⟩ := rq
      have hvd : qs.length = ds.length := RichF.length HRQ.out.2.2.2.2.2.2.2
      have HVD := Lib.hid hvd
      have HZQ := Lib.hid hzq
      have HSQ := Lib.hid hS
      have HX := Lib.hid hX
      have HR := Lib.hid hR
      have HB := Lib.hid hB
      have HZW := Lib.hid hz
      have HVN := Lib.hid hvn
      have x0 : wo.cell? ⟨w.heap.size, 0, none⟩ = some (.string qr) := HK.blk_cell hX 0
      have x1 : wo.cell? ⟨w.heap.size, 1, none⟩ = some (.int .u8 qo) := HK.blk_cell hX 1
      have x2 : wo.cell? ⟨w.heap.size, 2, none⟩ = some (.string qn) := HK.blk_cell hX 2
      have x3 : wo.cell? ⟨w.heap.size, 3, none⟩ = some (.slice ba bn bc) := HK.blk_cell hX 3
      have x4 : wo.cell? ⟨w.heap.size, 4, none⟩ = some (.slice da dn dc) := HK.blk_cell hX 4
      have x5 : wo.cell? ⟨w.heap.size, 5, none⟩ = some (.int .i64 ql) := HK.blk_cell hX 5
      have x6 : wo.cell? ⟨w.heap.size, 6, none⟩ = some (.slice va vn vc) := HK.blk_cell hX 6
      have x7 : wo.cell? ⟨w.heap.size, 7, none⟩ = some (.slice na nn nc) := HK.blk_cell hX 7
      have xf := fun i => HK.blk_frozen hX i
      have z0 : wo.cell? ⟨w.heap.size + 1, 0, none⟩ = some (.string ⟨#[]⟩) := HK.blk_cell hR 0
      have z1 : wo.cell? ⟨w.heap.size + 1, 1, none⟩ = some (.int .u8 0) := HK.blk_cell hR 1
      have z2 : wo.cell? ⟨w.heap.size + 1, 2, none⟩ = some (.string ⟨#[]⟩) := HK.blk_cell hR 2
      have z3 : wo.cell? ⟨w.heap.size + 1, 3, none⟩ = some (.slice none 0 0) := HK.blk_cell hR 3
      have z4 : wo.cell? ⟨w.heap.size + 1, 4, none⟩ = some (.slice none 0 0) := HK.blk_cell hR 4
      have z5 : wo.cell? ⟨w.heap.size + 1, 5, none⟩ = some (.int .i64 0) := HK.blk_cell hR 5
      have z6 : wo.cell? ⟨w.heap.size + 1, 6, none⟩ = some (.slice none 0 0) := HK.blk_cell hR 6
      have z7 : wo.cell? ⟨w.heap.size + 1, 7, none⟩ = some (.slice none 0 0) := HK.blk_cell hR 7
      have zf := fun i => HK.blk_frozen hR i
      clear hsub hpq hrq hzq hS hX hR hB hz hvn hvd
      by_cases h1 : j < sn
      · obtain ⟨i, hi⟩ : ∃ i, is[j]? = some i := ⟨_, List.getElem?_eq_getElem (by rw [← HSN.out]; exact h1)⟩
        have hdr : is.drop j = i :: is.drop (j + 1) := by
          obtain ⟨hl, he⟩ := List.getElem?_eq_some_iff.1 hi
          rw [List.drop_eq_getElem_cons hl, he]
        obtain ⟨g, og, hsa, hcc⟩ : ∃ g og, sa = some ⟨g, og, none⟩ ∧ wo.cell? ⟨g, og + j, none⟩ = some (.int .i64 i) := by
          rcases (HI.out.below HB.out).2.2 with h0 | ⟨g, og, ha, hc⟩
          · rw [h0] at hi; simp at hi
          · exact ⟨g, og, ha, hc j i hi⟩
        subst hsa
        have b1 : (0 : Int) ≤ (j : Int) := by omega
        have b2 : (j : Int) < (sn : Int) := by omega
        have HDR := Lib.hid hdr
        clear hdr hi
        by_cases ho : 0 ≤ i ∧ i < (vn : Int)
        · obtain ⟨k, rfl⟩ : ∃ k : Nat, i = (k : Int) := ⟨i.toNat, by omega⟩
          have hkv : k < vn := by omega
          obtain ⟨q2, hq2⟩ : ∃ q2, qs[k]? = some q2 := ⟨_, List.getElem?_eq_getElem (by rw [← HVN.out]; exact hkv)⟩
          obtain ⟨rq2, hrq2⟩ : ∃ rq2, ds[k]? = some rq2 := ⟨_, List.getElem?_eq_getElem (by rw [← HVD.out, ← HVN.out]; exact hkv)⟩
          obtain ⟨g2, o3, rfl⟩ := ps_addr HSQ.out hq2
          obtain ⟨sv2, hc, hps⟩ := row_at HSQ.out hq2
          have hsz2 : sizeT q2 ≤ 10000 := by
            have h9 := HZQ.out
            rw [sizeT_eq] at h9
            have := sizeF_mem hq2
            simp only [PT.subs] at h9
            omega
          have hpl2 : shortR rq2 := shortF_get HPQ.out.2.2.2.2 hrq2
          have hri2 := RichF.get HRQ.out.2.2.2.2.2.2.2 hq2 hrq2
          have hsub2 : subR rr is = subR rq2 (is.drop (j + 1)) := by rw [HSUB.out, HDR.out]; exact subR_in hrq2
          have hg2 : g2 < w.heap.size := by
            cases HSQ.out with
            | nil => simp at hq2
            | row g o c ts sv hg hc hs => exact hg
          obtain ⟨r2, ⟨o2, n2, ⟨ea, en, ec⟩, ⟨ia, i2, ic⟩, l2, ⟨ka, kn, kc⟩⟩, s3⟩ := q2
          obtain ⟨ua, un, uc⟩ := sv2
          simp only [PT.vals, PT.rule, PT.o, SL.v, PT.subs] at hc hps
          have y0 : wo.cell? ⟨g2, o3 + k * 8, none⟩ = some (.string r2) := hc 0 _ rfl
          have y1 : wo.cell? ⟨g2, o3 + k * 8 + 1, none⟩ = some (.int .u8 o2) := hc 1 _ rfl
          have y2 : wo.cell? ⟨g2, o3 + k * 8 + 2, none⟩ = some (.string n2) := hc 2 _ rfl
          have y3 : wo.cell? ⟨g2, o3 + k * 8 + 3, none⟩ = some (.slice ea en ec) := hc 3 _ rfl
          have y4 : wo.cell? ⟨g2, o3 + k * 8 + 4, none⟩ = some (.slice ia i2 ic) := hc 4 _ rfl
          have y5 : wo.cell? ⟨g2, o3 + k * 8 + 5, none⟩ = some (.int .i64 l2) := hc 5 _ rfl
          have y6 : wo.cell? ⟨g2, o3 + k * 8 + 6, none⟩ = some (.slice ua un uc) := hc 6 _ rfl
          have y7 : wo.cell? ⟨g2, o3 + k * 8 + 7, none⟩ = some (.slice ka kn kc) := hc 7 _ rfl
          have n1 : ¬ (k : Int) < 0 := by omega
          have n2' : ¬ (vn : Int) ≤ (k : Int) := by omega
          have n3 : (k : Int) < (vn : Int) := by omega
          have n4 : (0 : Int) ≤ (k : Int) := by omega
          have HPS := Lib.hid hps
          have HPL2 := Lib.hid hpl2
          have HRI2 := Lib.hid hri2
          have HSB2 := Lib.hid hsub2
          clear hc hps hpl2 hri2 hsub2 ho hq2 hrq2
          go_wp2_with (fail)
          have hF8 := set8_frm wo w.heap.size (.string r2) (.int .u8 o2) (.string n2) (.slice ea en ec) (.slice ia i2 ic) (.int .i64 l2) (.slice ua un uc) (.slice ka kn kc)
          have HF8 := Lib.hid hF8
          clear hF8
          go_roundw
          case rel =>
            have hF := HF8.out
            have hzw := HZW.out
            refine ⟨j + 1, .node r2 ⟨o2, n2, ⟨ea, en, ec⟩, ⟨ia, i2, ic⟩, l2, ⟨ka, kn, kc⟩⟩ s3, rq2, ⟨ua, un, uc⟩, by omega, by go_num, HSB2.out, HRI2.out, HPL2.out, hsz2, ?_, set8 HX.out _ _ _ _ _ _ _ _, ?_, ?_, ?_⟩
            · exact HPS.out.same fun b hb => hF.block b (by omega) (by omega)
            · exact (hF.block _ (by omega) (by omega)).trans HR.out
            · exact HB.out.trans (hF.below (by omega) (fun b e => by omega))
            · exact Nat.le_trans HZW.out hF.size
          case measure => simp [intOf]; omega
        · have hsub2 : subR rr is = none := by rw [HSUB.out, HDR.out]; exact subR_out (by simp only [RT.subs]; rw [← HVD.out, ← HVN.out]; exact ho)
          have hre := E6.out (by trivial) hsub2
          have HRE := Lib.hid hre
          clear hsub2 hre
          by_cases hneg : i < 0
          · go_wp2_with (fail)
            rw [HRE.out]
            refine bodyPost_ret (results_row_tmp (p := 4) (u := 5) (by kernel_rfl) _ _ (w.heap.size + 1) 30 _ (0, 0) _ (.int .i64 6) rfl rfl (set8 (b := w.heap.size + 1) HR.out _ _ _ _ _ _ _ _) Try.underlying30 rfl (by kernel_rfl)) rfl ?_
            have hF8 := set8_frm wo (w.heap.size + 1) (.string ⟨#[]⟩) (.int .u8 0) (.string ⟨#[]⟩) (.slice none 0 0) (.slice none 0 0) (.int .i64 0) (.slice none 0 0) (.slice none 0 0)
            have hzw := HZW.out
            exact ⟨zeroT, SL.nil, rfl, .nil _ _, zero_rich _ _, HB.out.trans (hF8.below (B := w.heap.size) (by omega) (fun b e => by omega))⟩
          · have n2' : (vn : Int) ≤ i := by omega
            go_wp2_with (fail)
            rw [HRE.out]
            refine bodyPost_ret (results_row_tmp (p := 4) (u := 5) (by kernel_rfl) _ _ (w.heap.size + 1) 30 _ (0, 0) _ (.int .i64 6) rfl rfl (set8 (b := w.heap.size + 1) HR.out _ _ _ _ _ _ _ _) Try.underlying30 rfl (by kernel_rfl)) rfl ?_
            have hF8 := set8_frm wo (w.heap.size + 1) (.string ⟨#[]⟩) (.int .u8 0) (.string ⟨#[]⟩) (.slice none 0 0) (.slice none 0 0) (.int .i64 0) (.slice none 0 0) (.slice none 0 0)
            have hzw := HZW.out
            exact ⟨zeroT, SL.nil, rfl, .nil _ _, zero_rich _ _, HB.out.trans (hF8.below (B := w.heap.size) (by omega) (fun b e => by omega))⟩
      · obtain rfl : j = sn := by omega
        have b1 : ¬ ((j : Int) < (j : Int)) := by omega
        have hre := E0.out (by trivial) _ (by rw [HSUB.out, List.drop_of_length_le (by rw [← HSN.out]; exact Nat.le_refl _)]; exact subR_nil _)
        have hcq := copyR_all _ _ HPQ.out ⟨va, vn, vc⟩ wo ((HSQ.out.mono (by have := HZW.out; omega))) (RichT.turn (fun k hk => ⟨Nat.lt_of_lt_of_le hk HB.out.size, HB.out.block k hk⟩) HRQ.out)
        have hcq := calls_open hcq
        simp only [PT.arr, PT.rule, PT.o, SL.v] at hcq
        have HCP := Lib.hid hcq
        have HRE := Lib.hid hre
        clear hre hcq zf z0 z1 z2 z3 z4 z5 z6 z7
        go_wp2_with (
          go_at_call 47
          refine HCP.out.mono ?_
          rintro e w8 ⟨cr, co, cm, u1, u2, u3, u4, u5, u6, cl, u7, u8, u9, cs, ca, cn, cc, rfl, hq8, hri8, hB8⟩
          have HRI8 := Lib.hid hri8
          have hr8 := (hB8.block _ (HK.blk_lt HR.out)).trans HR.out
          have z0 : w8.cell? ⟨w.heap.size + 1, 0, none⟩ = some (.string ⟨#[]⟩) := HK.blk_cell hr8 0
          have z1 : w8.cell? ⟨w.heap.size + 1, 1, none⟩ = some (.int .u8 0) := HK.blk_cell hr8 1
          have z2 : w8.cell? ⟨w.heap.size + 1, 2, none⟩ = some (.string ⟨#[]⟩) := HK.blk_cell hr8 2
          have z3 : w8.cell? ⟨w.heap.size + 1, 3, none⟩ = some (.slice none 0 0) := HK.blk_cell hr8 3
          have z4 : w8.cell? ⟨w.heap.size + 1, 4, none⟩ = some (.slice none 0 0) := HK.blk_cell hr8 4
          have z5 : w8.cell? ⟨w.heap.size + 1, 5, none⟩ = some (.int .i64 0) := HK.blk_cell hr8 5
          have z6 : w8.cell? ⟨w.heap.size + 1, 6, none⟩ = some (.slice none 0 0) := HK.blk_cell hr8 6
          have z7 : w8.cell? ⟨w.heap.size + 1, 7, none⟩ = some (.slice none 0 0) := HK.blk_cell hr8 7
          have zf := fun i => HK.blk_frozen hr8 i
          have HR8 := Lib.hid hr8
          have HB8 := Lib.hid hB8
          have HQ8 := Lib.hid hq8
          clear hr8 hB8 hq8 hri8)
        rw [HRE.out]
        refine bodyPost_ret (results_row_tmp (p := 4) (u := 5) (by kernel_rfl) _ _ (w.heap.size + 1) 30 _ (0, 0) _ (.int .i64 0) rfl rfl (set8 (b := w.heap.size + 1) HR8.out _ _ _ _ _ _ _ _) Try.underlying30 rfl (by kernel_rfl)) rfl ?_
        have hF8 := set8_frm w8 (w.heap.size + 1) (.string cr) (.int .u8 co) (.string cm) (.slice u1 u2 u3) (.slice u4 u5 u6) (.int .i64 cl) (.slice ca cn cc) (.slice u7 u8 u9)
        have hBW := HB.out.trans (HB8.out.mono HB.out.size)
        have hsz := hBW.size
        have hz8 := hF8.size
        have hlr := HK.blk_lt HR.out
        have hsw := HB.out.size
        have hzz := HZW.out
        have hk8 : ∀ b, Fresh wo w8 b → Fresh w _ b ∧ _ = _ := fun b hb => ⟨⟨Nat.le_trans hsw hb.1, Nat.lt_of_lt_of_le hb.2 hz8⟩, hF8.block b hb.2 (by have := hb.1; omega)⟩
        exact ⟨.node cr ⟨co, cm, ⟨u1, u2, u3⟩, ⟨u4, u5, u6⟩, cl, ⟨u7, u8, u9⟩⟩ cs, ⟨ca, cn, cc⟩, rfl, HQ8.out.turnT hk8, RichT.turnT hk8 HRI8.out, hBW.trans (hF8.below (B := w.heap.size) (by omega) (fun b e => by omega))⟩
end Go.Proofs.Ytfebcpmbkljaoaa
namespace Go.Proofs.Ytfebcpmbkljaoaa
open Go.RowKit Go.HR
set_option linter.unusedVariables false
set_option linter.unusedSimpArgs false
set_option linter.unusedSectionVars false
/-- A proof's data with another part at a place. -/
def replR : RT → List Int → RT → Option RT
  | t, [], u => some u
  | .node a b c d e f g s, i :: is, u => if 0 ≤ i ∧ i < s.length then
      match s[i.toNat]? with
      | some q => (replR q is u).map fun q' => .node a b c d e f g (s.set i.toNat q')
      | none => none
    else none
theorem RichF.set {S : Nat → Prop} {W : World} : ∀ {ts : List PT} {rs : List RT} {k : Nat} {q : PT} {r : RT}, RichF S W ts rs → RichT S W q r → RichF S W (ts.set k q) (rs.set k r)
  | [], [], _, _, _, _, _ => trivial
  | _ :: _, _ :: _, 0, _, _, h, hq => ⟨hq, h.2⟩
  | _ :: _, _ :: _, k + 1, _, _, h, hq => ⟨h.1, RichF.set (k := k) h.2 hq⟩
  | [], _ :: _, _, _, _, h, _ => h.elim
  | _ :: _, [], _, _, _, h, _ => h.elim
theorem shortF_set : ∀ {rs : List RT} {k : Nat} {r : RT}, shortF rs → shortR r → shortF (rs.set k r)
  | [], _, _, _, _ => trivial
  | _ :: _, 0, _, h, hr => ⟨hr, h.2⟩
  | _ :: _, k + 1, _, h, hr => ⟨h.1, shortF_set (k := k) h.2 hr⟩
theorem replT_rich {S : Nat → Prop} {W : World} {u : PT} {ru : RT} (hu : RichT S W u ru) (hsu : shortR ru) : ∀ {is : List Int} {t q : PT} {r : RT}, RichT S W t r → shortR r → replT t is u = some q → ∃ rq, replR r is ru = some rq ∧ RichT S W q rq ∧ shortR rq
  | [], t, q, r, _, _, h => by rw [replT] at h; cases h; exact ⟨ru, by rw [replR], hu, hsu⟩
  | i :: is, .node r o s, q, .node a b c d e f g rs, hr, hs, h => by
    obtain ⟨h1, h2, h3, h4, h5, h6, h7, h8⟩ := hr
    obtain ⟨k1, k2, k3, k4, k5⟩ := hs
    have hl := RichF.length h8
    rw [replT] at h
    split at h
    · rename_i hi
      split at h
      · rename_i p hp
        obtain ⟨q', hq', rfl⟩ := Option.map_eq_some_iff.1 h
        obtain ⟨rp, hrp⟩ : ∃ rp, rs[i.toNat]? = some rp := ⟨_, List.getElem?_eq_getElem (by omega)⟩
        obtain ⟨rq, e1, e2, e3⟩ := replT_rich hu hsu (RichF.get h8 hp hrp) (shortF_get k5 hrp) hq'
        refine ⟨.node a b c d e f g (rs.set i.toNat rq), ?_, ⟨h1, h2, h3, h4, h5, h6, h7, RichF.set h8 e2⟩, k1, k2, k3, by simpa using k4, shortF_set k5 e3⟩
        rw [replR, if_pos ⟨hi.1, by omega⟩, hrp]
        simp only [e1, Option.map_some]
      · cases h
    · cases h
/-- What With returns: the error's number, the proof's data. -/
def withQ (t u : PT) (r ru : RT) (is : List Int) : Nat × RT := if measT t then (match replT t is u with | none => (6, zeroR) | some q => if measT q then (0, (replR r is ru).getD zeroR) else (5, zeroR)) else (2, zeroR)
set_option maxRecDepth 100000 in
set_option maxHeartbeats 8000000 in
theorem with_rich (w : World) (t u : PT) (rr ru : RT) (sv su s : SL) (is : List Int) (hs : IsPs w.heap.size w sv t.subs) (hu : IsPs w.heap.size w su u.subs) (hrt : RichT (fun k => k < w.heap.size) w t rr) (hru : RichT (fun k => k < w.heap.size) w u ru) (hi : IsI w s is) (hl : is.length ≤ 20000) (hzt : sizeT t ≤ 10000) (hzu : sizeT u ≤ 9000) (hpt : shortR rr) (hpu : shortR ru) :
    Calls Try.prog 24 #[.agg (t.arr sv), s.v, .agg (u.arr su)] w (RetRq w (withQ t u rr ru is)) := by
  have hms := fun (W : World) (h : IsPs W.heap.size W sv t.subs) => measurable_call W t sv h hzt
  have hrp := fun (W : World) (h1 : IsPs W.heap.size W sv t.subs) (h2 : IsPs W.heap.size W su u.subs) (h3 : IsI W s is) => repl_all u su subs_le is W.heap.size W t sv s (Nat.le_refl _) h1 h2 h3 hl hzt
  have hw : withQ t u rr ru is = if measT t then (match replT t is u with | none => (6, zeroR) | some q => if measT q then (0, (replR rr is ru).getD zeroR) else (5, zeroR)) else (2, zeroR) := rfl
  have hq1 : measT t = true → ∀ q, replT t is u = some q → sizeT q ≤ 10000 ∧ ∃ rq, replR rr is ru = some rq ∧ RichT (fun k => k < w.heap.size) w q rq ∧ shortR rq := fun hm q hq => ⟨by have := replT_size hq; have := meas_size hm; omega, replT_rich hru hpu hrt hpt hq⟩
  obtain ⟨R, hR⟩ : ∃ R, R = replT t is u := ⟨_, rfl⟩
  obtain ⟨mt, hmt⟩ : ∃ mt, mt = measT t := ⟨_, rfl⟩
  unfold RetMs at hms
  rw [← hmt] at hms hw hq1
  rw [← hR] at hw
  simp only [← hR] at hrp hq1
  obtain ⟨r0, hr0⟩ : ∃ r0, r0 = withQ t u rr ru is := ⟨_, rfl⟩
  rw [← hr0] at hw ⊢
  have e2 : mt = false → r0 = (2, zeroR) := fun h => by rw [hw, h]; rfl
  have e6 : mt = true → R = none → r0 = (6, zeroR) := fun h h2 => by rw [hw, h, h2]; rfl
  have e5 : mt = true → ∀ q, R = some q → measT q = false → r0 = (5, zeroR) := fun h q h2 h3 => by rw [hw, h, h2]; simp [h3]
  have e0 : mt = true → ∀ q rq, R = some q → measT q = true → replR rr is ru = some rq → r0 = (0, rq) := fun h q rq h2 h3 h4 => by rw [hw, h, h2, h4]; simp [h3]
  have E2 := Lib.hid e2
  have E6 := Lib.hid e6
  have E5 := Lib.hid e5
  have E0 := Lib.hid e0
  clear hw hR hmt hzt hpt hpu hr0 e2 e6 e5 e0 hrt hru
  obtain ⟨rule, ⟨op, name, ⟨aa, an, ac⟩, ⟨fa, fn, fc⟩, label, ⟨ma, mn, mc⟩⟩, subs⟩ := t
  obtain ⟨ur, ⟨uo, un, ⟨ba, bn, bc⟩, ⟨da, dn, dc⟩, ul, ⟨na, nn, nc⟩⟩, us⟩ := u
  obtain ⟨ta, tn, tc⟩ := sv
  obtain ⟨va, vn, vc⟩ := su
  obtain ⟨sa, sn, sc⟩ := s
  simp only [PT.arr, PT.rule, PT.o, PT.subs, SL.v] at hms hrp hs hu ⊢
  obtain ⟨w3, hw3⟩ : ∃ w3, w3 = ((w.alloc (.cells #[.string rule, .int .u8 op, .string name, .slice aa an ac, .slice fa fn fc, .int .i64 label, .slice ta tn tc, .slice ma mn mc] 30)).alloc (.cells #[.string ur, .int .u8 uo, .string un, .slice ba bn bc, .slice da dn dc, .int .i64 ul, .slice va vn vc, .slice na nn nc] 30)).alloc (.cells #[.string ⟨#[]⟩, .int .u8 0, .string ⟨#[]⟩, .slice none 0 0, .slice none 0 0, .int .i64 0, .slice none 0 0, .slice none 0 0] 30) := ⟨_, rfl⟩
  have hb3 : Below w.heap.size w w3 := by rw [hw3]; exact (((Below.refl _ w).alloc (Nat.le_refl _) _).alloc (by simp) _).alloc (by simp; omega) _
  have hz3 : w3.heap.size = w.heap.size + 3 := by rw [hw3]; simp
  have k0 : w3.heap[w.heap.size]? = some (.cells #[.string rule, .int .u8 op, .string name, .slice aa an ac, .slice fa fn fc, .int .i64 label, .slice ta tn tc, .slice ma mn mc] 30 (0, 0)) := by rw [hw3]; exact HK.blk_alloc (HK.blk_alloc (HK.blk_new _ _) _) _
  have k1 : w3.heap[w.heap.size + 1]? = some (.cells #[.string ur, .int .u8 uo, .string un, .slice ba bn bc, .slice da dn dc, .int .i64 ul, .slice va vn vc, .slice na nn nc] 30 (0, 0)) := by rw [hw3]; exact HK.blk_alloc (blk_new1 _ _ _) _
  have k2 : w3.heap[w.heap.size + 2]? = some (.cells #[.string ⟨#[]⟩, .int .u8 0, .string ⟨#[]⟩, .slice none 0 0, .slice none 0 0, .int .i64 0, .slice none 0 0, .slice none 0 0] 30 (0, 0)) := by rw [hw3]; exact blk_new2 _ _ _ _
  have hm3 := hms w3 (hs.up hb3)
  have HM3 := Lib.hid hm3
  have HRP := Lib.hid hrp
  have HS := Lib.hid hs
  have HU := Lib.hid hu
  have HI := Lib.hid hi
  have HQ1 := Lib.hid hq1
  have HB3 := Lib.hid hb3
  have HZ3 := Lib.hid hz3
  have K0 := Lib.hid k0
  have K1 := Lib.hid k1
  have K2 := Lib.hid k2
  have HW3 := Lib.hid hw3
  clear hms hrp hs hu hi hq1 hb3 hz3 k0 k1 k2 hw3 hm3
  go_enter Try.func24, Try.ntmps24
  go_upto_region 1 with (fail)
  rw [← HW3.out]
  have k0 := K0.out
  have p0 : w3.cell? ⟨w.heap.size, 0, none⟩ = some (.string rule) := HK.blk_cell k0 0
  have p1 : w3.cell? ⟨w.heap.size, 1, none⟩ = some (.int .u8 op) := HK.blk_cell k0 1
  have p2 : w3.cell? ⟨w.heap.size, 2, none⟩ = some (.string name) := HK.blk_cell k0 2
  have p3 : w3.cell? ⟨w.heap.size, 3, none⟩ = some (.slice aa an ac) := HK.blk_cell k0 3
  have p4 : w3.cell? ⟨w.heap.size, 4, none⟩ = some (.slice fa fn fc) := HK.blk_cell k0 4
  have p5 : w3.cell? ⟨w.heap.size, 5, none⟩ = some (.int .i64 label) := HK.blk_cell k0 5
  have p6 : w3.cell? ⟨w.heap.size, 6, none⟩ = some (.slice ta tn tc) := HK.blk_cell k0 6
  have p7 : w3.cell? ⟨w.heap.size, 7, none⟩ = some (.slice ma mn mc) := HK.blk_cell k0 7
  clear k0
  cases mt with
  | false =>
    go_wp2_with (
      go_at_call 45
      refine HM3.out.mono ?_
      rintro e w4 ⟨rfl, hB4⟩
      have hr4 := (hB4.block _ (by have := HZ3.out; omega)).trans K2.out
      have z0 : w4.cell? ⟨w.heap.size + 2, 0, none⟩ = some (.string ⟨#[]⟩) := HK.blk_cell hr4 0
      have z1 : w4.cell? ⟨w.heap.size + 2, 1, none⟩ = some (.int .u8 0) := HK.blk_cell hr4 1
      have z2 : w4.cell? ⟨w.heap.size + 2, 2, none⟩ = some (.string ⟨#[]⟩) := HK.blk_cell hr4 2
      have z3 : w4.cell? ⟨w.heap.size + 2, 3, none⟩ = some (.slice none 0 0) := HK.blk_cell hr4 3
      have z4 : w4.cell? ⟨w.heap.size + 2, 4, none⟩ = some (.slice none 0 0) := HK.blk_cell hr4 4
      have z5 : w4.cell? ⟨w.heap.size + 2, 5, none⟩ = some (.int .i64 0) := HK.blk_cell hr4 5
      have z6 : w4.cell? ⟨w.heap.size + 2, 6, none⟩ = some (.slice none 0 0) := HK.blk_cell hr4 6
      have z7 : w4.cell? ⟨w.heap.size + 2, 7, none⟩ = some (.slice none 0 0) := HK.blk_cell hr4 7
      have zf := fun i => HK.blk_frozen hr4 i
      have HR4 := Lib.hid hr4
      have HB4 := Lib.hid hB4
      clear hr4 hB4)
    have hre := E2.out (by trivial)
    rw [hre]
    refine bodyPost_ret (results_row_tmp (p := 6) (u := 7) (by kernel_rfl) _ _ (w.heap.size + 1 + 1) 30 _ (0, 0) _ (.int .i64 2) rfl rfl (set8 (b := w.heap.size + 1 + 1) HR4.out _ _ _ _ _ _ _ _) Try.underlying30 rfl (by kernel_rfl)) rfl ?_
    have hF8 := set8_frm w4 (w.heap.size + 1 + 1) (.string ⟨#[]⟩) (.int .u8 0) (.string ⟨#[]⟩) (.slice none 0 0) (.slice none 0 0) (.int .i64 0) (.slice none 0 0) (.slice none 0 0)
    have hBW := below_then HB3.out HB4.out
    have hsz := hBW.size
    exact ⟨zeroT, SL.nil, rfl, .nil _ _, zero_rich _ _, hBW.trans (hF8.below (B := w.heap.size) (by omega) (fun b e => by omega))⟩
  | true =>
    go_upto_region 3 with (
      go_at_call 45
      refine HM3.out.mono ?_
      rintro e w4 ⟨rfl, hB4⟩)
    have hr4 := (hB4.block _ (by have := HZ3.out; omega)).trans K2.out
    have ht4 := (hB4.block _ (by have := HZ3.out; omega)).trans K0.out
    have hu4 := (hB4.block _ (by have := HZ3.out; omega)).trans K1.out
    have hB04 := below_then HB3.out hB4
    have hrp := HRP.out w4 (HS.out.up hB04) (HU.out.up hB04) (HI.out.below hB04)
    have HRP4 := Lib.hid hrp
    have HB04 := Lib.hid hB04
    have HR4 := Lib.hid hr4
    have x0 : w4.cell? ⟨w.heap.size, 0, none⟩ = some (.string rule) := HK.blk_cell ht4 0
    have x1 : w4.cell? ⟨w.heap.size, 1, none⟩ = some (.int .u8 op) := HK.blk_cell ht4 1
    have x2 : w4.cell? ⟨w.heap.size, 2, none⟩ = some (.string name) := HK.blk_cell ht4 2
    have x3 : w4.cell? ⟨w.heap.size, 3, none⟩ = some (.slice aa an ac) := HK.blk_cell ht4 3
    have x4 : w4.cell? ⟨w.heap.size, 4, none⟩ = some (.slice fa fn fc) := HK.blk_cell ht4 4
    have x5 : w4.cell? ⟨w.heap.size, 5, none⟩ = some (.int .i64 label) := HK.blk_cell ht4 5
    have x6 : w4.cell? ⟨w.heap.size, 6, none⟩ = some (.slice ta tn tc) := HK.blk_cell ht4 6
    have x7 : w4.cell? ⟨w.heap.size, 7, none⟩ = some (.slice ma mn mc) := HK.blk_cell ht4 7
    have y0 : w4.cell? ⟨w.heap.size + 1, 0, none⟩ = some (.string ur) := HK.blk_cell hu4 0
    have y1 : w4.cell? ⟨w.heap.size + 1, 1, none⟩ = some (.int .u8 uo) := HK.blk_cell hu4 1
    have y2 : w4.cell? ⟨w.heap.size + 1, 2, none⟩ = some (.string un) := HK.blk_cell hu4 2
    have y3 : w4.cell? ⟨w.heap.size + 1, 3, none⟩ = some (.slice ba bn bc) := HK.blk_cell hu4 3
    have y4 : w4.cell? ⟨w.heap.size + 1, 4, none⟩ = some (.slice da dn dc) := HK.blk_cell hu4 4
    have y5 : w4.cell? ⟨w.heap.size + 1, 5, none⟩ = some (.int .i64 ul) := HK.blk_cell hu4 5
    have y6 : w4.cell? ⟨w.heap.size + 1, 6, none⟩ = some (.slice va vn vc) := HK.blk_cell hu4 6
    have y7 : w4.cell? ⟨w.heap.size + 1, 7, none⟩ = some (.slice na nn nc) := HK.blk_cell hu4 7
    clear p0 p1 p2 p3 p4 p5 p6 p7 hr4 ht4 hu4 hB04 hrp hB4
    cases R with
    | none =>
      have hz := HRP4.out
      unfold RetR at hz
      simp only [Option.getD_none, Option.isSome_none, zeroT, PT.arr, PT.rule, PT.o, PO.nil, SL.nil, SL.v, PT.subs] at hz
      have HZZ := Lib.hid hz
      clear hz
      go_upto_region 4 with (
        go_at_call 46
        refine HZZ.out.mono ?_
        rintro e w5 ⟨⟨qa, qn, qc⟩, rfl, hq5, hB5⟩)
      obtain ⟨w6, hw6⟩ : ∃ w6, w6 = w5.alloc (.cells #[.string ⟨#[]⟩, .int .u8 0, .string ⟨#[]⟩, .slice none 0 0, .slice none 0 0, .int .i64 0, .slice qa qn qc, .slice none 0 0] 30) := ⟨_, rfl⟩
      rw [← hw6]
      have hB6 : Below w4.heap.size w4 w6 := by rw [hw6]; exact hB5.alloc hB5.size _
      have hr6 := (hB6.block _ (HK.blk_lt HR4.out)).trans HR4.out
      have z0 : w6.cell? ⟨w.heap.size + 2, 0, none⟩ = some (.string ⟨#[]⟩) := HK.blk_cell hr6 0
      have z1 : w6.cell? ⟨w.heap.size + 2, 1, none⟩ = some (.int .u8 0) := HK.blk_cell hr6 1
      have z2 : w6.cell? ⟨w.heap.size + 2, 2, none⟩ = some (.string ⟨#[]⟩) := HK.blk_cell hr6 2
      have z3 : w6.cell? ⟨w.heap.size + 2, 3, none⟩ = some (.slice none 0 0) := HK.blk_cell hr6 3
      have z4 : w6.cell? ⟨w.heap.size + 2, 4, none⟩ = some (.slice none 0 0) := HK.blk_cell hr6 4
      have z5 : w6.cell? ⟨w.heap.size + 2, 5, none⟩ = some (.int .i64 0) := HK.blk_cell hr6 5
      have z6 : w6.cell? ⟨w.heap.size + 2, 6, none⟩ = some (.slice none 0 0) := HK.blk_cell hr6 6
      have z7 : w6.cell? ⟨w.heap.size + 2, 7, none⟩ = some (.slice none 0 0) := HK.blk_cell hr6 7
      have zf := fun i => HK.blk_frozen hr6 i
      have HR6 := Lib.hid hr6
      have HB6 := Lib.hid hB6
      clear hr6 hB6 hw6 hq5 hB5
      go_wp2_with (fail)
      have hre := E6.out (by trivial) (by trivial)
      rw [hre]
      refine bodyPost_ret (results_row_tmp (p := 6) (u := 7) (by kernel_rfl) _ _ (w.heap.size + 1 + 1) 30 _ (0, 0) _ (.int .i64 6) rfl rfl (set8 (b := w.heap.size + 1 + 1) HR6.out _ _ _ _ _ _ _ _) Try.underlying30 rfl (by kernel_rfl)) rfl ?_
      have hF8 := set8_frm w6 (w.heap.size + 1 + 1) (.string ⟨#[]⟩) (.int .u8 0) (.string ⟨#[]⟩) (.slice none 0 0) (.slice none 0 0) (.int .i64 0) (.slice none 0 0) (.slice none 0 0)
      have hBW := below_then HB04.out HB6.out
      have hsz := hBW.size
      exact ⟨zeroT, SL.nil, rfl, .nil _ _, zero_rich _ _, hBW.trans (hF8.below (B := w.heap.size) (by omega) (fun b e => by omega))⟩
    | some q =>
      obtain ⟨hq10, rq, hrq, hriq, hqs⟩ := HQ1.out (by trivial) q rfl
      obtain ⟨mq, hmq⟩ : ∃ mq, mq = measT q := ⟨_, rfl⟩
      have hcq := fun (W : World) (sv : SL) (h1 : IsPs W.heap.size W sv q.subs) (h2 : RichT (fun k => k < W.heap.size) W q rq) => calls_open (copyR_all q rq hqs sv W h1 h2)
      have HRQ := Lib.hid hrq
      have HRIQ := Lib.hid hriq
      have hmsq := fun (W : World) (sv : SL) (h : IsPs W.heap.size W sv q.subs) => measurable_call W q sv h hq10
      unfold RetMs at hmsq
      rw [← hmq] at hmsq
      have HMQ := Lib.hid hmq
      have hz := HRP4.out
      unfold RetR at hz
      simp only [Option.getD_some, Option.isSome_some] at hz
      clear hmq hrq hriq
      obtain ⟨vq, ⟨vo, vn2, ⟨ja, jn, jc⟩, ⟨la, ln, lc⟩, vl, ⟨pa, pn, pc⟩⟩, vs⟩ := q
      simp only [PT.arr, PT.rule, PT.o, PT.subs, SL.v] at hz hmsq hcq
      have HZZ := Lib.hid hz
      have HMS := Lib.hid hmsq
      have HCP := Lib.hid hcq
      clear hz hmsq hcq hqs HRP4
      go_upto_region 6 with (
        go_at_call 46
        refine HZZ.out.mono ?_
        rintro e w5 ⟨⟨qa, qn, qc⟩, rfl, hq5, hB5⟩)
      obtain ⟨w6, hw6⟩ : ∃ w6, w6 = w5.alloc (.cells #[.string vq, .int .u8 vo, .string vn2, .slice ja jn jc, .slice la ln lc, .int .i64 vl, .slice qa qn qc, .slice pa pn pc] 30) := ⟨_, rfl⟩
      rw [← hw6]
      have hB6 : Below w4.heap.size w4 w6 := by rw [hw6]; exact hB5.alloc hB5.size _
      have hq6 : IsPs w6.heap.size w6 ⟨qa, qn, qc⟩ vs := by
        rw [hw6]
        exact (hq5.ps (n0 := w5.heap.size) (fun b hb => by have := hB5.size; rcases hb with hb | hb <;> omega)).up ((Below.refl _ w5).alloc (Nat.le_refl _) _)
      have hbq : w6.heap[w5.heap.size]? = some (.cells #[.string vq, .int .u8 vo, .string vn2, .slice ja jn jc, .slice la ln lc, .int .i64 vl, .slice qa qn qc, .slice pa pn pc] 30 (0, 0)) := by rw [hw6]; exact HK.blk_new _ _
      have q0 : w6.cell? ⟨w5.heap.size, 0, none⟩ = some (.string vq) := HK.blk_cell hbq 0
      have q1 : w6.cell? ⟨w5.heap.size, 1, none⟩ = some (.int .u8 vo) := HK.blk_cell hbq 1
      have q2 : w6.cell? ⟨w5.heap.size, 2, none⟩ = some (.string vn2) := HK.blk_cell hbq 2
      have q3 : w6.cell? ⟨w5.heap.size, 3, none⟩ = some (.slice ja jn jc) := HK.blk_cell hbq 3
      have q4 : w6.cell? ⟨w5.heap.size, 4, none⟩ = some (.slice la ln lc) := HK.blk_cell hbq 4
      have q5 : w6.cell? ⟨w5.heap.size, 5, none⟩ = some (.int .i64 vl) := HK.blk_cell hbq 5
      have q6 : w6.cell? ⟨w5.heap.size, 6, none⟩ = some (.slice qa qn qc) := HK.blk_cell hbq 6
      have q7 : w6.cell? ⟨w5.heap.size, 7, none⟩ = some (.slice pa pn pc) := HK.blk_cell hbq 7
      have hm6 := HMS.out w6 ⟨qa, qn, qc⟩ hq6
      have HM6 := Lib.hid hm6
      have HBQ := Lib.hid hbq
      have HQ6 := Lib.hid hq6
      have HB6 := Lib.hid hB6
      clear hm6 hbq hq6 hB6 hw6 hq5 hB5 x0 x1 x2 x3 x4 x5 x6 x7 y0 y1 y2 y3 y4 y5 y6 y7
      cases mq with
      | false =>
        go_upto_region 7 with (
          go_at_call 45
          refine HM6.out.mono ?_
          rintro e w7 ⟨rfl, hB7⟩)
        have hr7 := (hB7.block _ (by have := HB6.out.size; have := HK.blk_lt HR4.out; omega)).trans ((HB6.out.block _ (HK.blk_lt HR4.out)).trans HR4.out)
        have z0 : w7.cell? ⟨w.heap.size + 2, 0, none⟩ = some (.string ⟨#[]⟩) := HK.blk_cell hr7 0
        have z1 : w7.cell? ⟨w.heap.size + 2, 1, none⟩ = some (.int .u8 0) := HK.blk_cell hr7 1
        have z2 : w7.cell? ⟨w.heap.size + 2, 2, none⟩ = some (.string ⟨#[]⟩) := HK.blk_cell hr7 2
        have z3 : w7.cell? ⟨w.heap.size + 2, 3, none⟩ = some (.slice none 0 0) := HK.blk_cell hr7 3
        have z4 : w7.cell? ⟨w.heap.size + 2, 4, none⟩ = some (.slice none 0 0) := HK.blk_cell hr7 4
        have z5 : w7.cell? ⟨w.heap.size + 2, 5, none⟩ = some (.int .i64 0) := HK.blk_cell hr7 5
        have z6 : w7.cell? ⟨w.heap.size + 2, 6, none⟩ = some (.slice none 0 0) := HK.blk_cell hr7 6
        have z7 : w7.cell? ⟨w.heap.size + 2, 7, none⟩ = some (.slice none 0 0) := HK.blk_cell hr7 7
        have zf := fun i => HK.blk_frozen hr7 i
        have HR7 := Lib.hid hr7
        have HB7 := Lib.hid hB7
        clear hr7 hB7
        go_wp2_with (fail)
        have hre := E5.out (by trivial) _ rfl HMQ.out.symm
        rw [hre]
        refine bodyPost_ret (results_row_tmp (p := 6) (u := 7) (by kernel_rfl) _ _ (w.heap.size + 1 + 1) 30 _ (0, 0) _ (.int .i64 5) rfl rfl (set8 (b := w.heap.size + 1 + 1) HR7.out _ _ _ _ _ _ _ _) Try.underlying30 rfl (by kernel_rfl)) rfl ?_
        have hF8 := set8_frm w7 (w.heap.size + 1 + 1) (.string ⟨#[]⟩) (.int .u8 0) (.string ⟨#[]⟩) (.slice none 0 0) (.slice none 0 0) (.int .i64 0) (.slice none 0 0) (.slice none 0 0)
        have hBW := below_then HB04.out (below_then HB6.out HB7.out)
        have hsz := hBW.size
        exact ⟨zeroT, SL.nil, rfl, .nil _ _, zero_rich _ _, hBW.trans (hF8.below (B := w.heap.size) (by omega) (fun b e => by omega))⟩
      | true =>
        go_upto_region 8 with (
          go_at_call 45
          refine HM6.out.mono ?_
          rintro e w7 ⟨rfl, hB7⟩)
        have hr7 := (hB7.block _ (by have := HB6.out.size; have := HK.blk_lt HR4.out; omega)).trans ((HB6.out.block _ (HK.blk_lt HR4.out)).trans HR4.out)
        have hbq7 := (hB7.block _ (HK.blk_lt HBQ.out)).trans HBQ.out
        have s0 : w7.cell? ⟨w5.heap.size, 0, none⟩ = some (.string vq) := HK.blk_cell hbq7 0
        have s1 : w7.cell? ⟨w5.heap.size, 1, none⟩ = some (.int .u8 vo) := HK.blk_cell hbq7 1
        have s2 : w7.cell? ⟨w5.heap.size, 2, none⟩ = some (.string vn2) := HK.blk_cell hbq7 2
        have s3 : w7.cell? ⟨w5.heap.size, 3, none⟩ = some (.slice ja jn jc) := HK.blk_cell hbq7 3
        have s4 : w7.cell? ⟨w5.heap.size, 4, none⟩ = some (.slice la ln lc) := HK.blk_cell hbq7 4
        have s5 : w7.cell? ⟨w5.heap.size, 5, none⟩ = some (.int .i64 vl) := HK.blk_cell hbq7 5
        have s6 : w7.cell? ⟨w5.heap.size, 6, none⟩ = some (.slice qa qn qc) := HK.blk_cell hbq7 6
        have s7 : w7.cell? ⟨w5.heap.size, 7, none⟩ = some (.slice pa pn pc) := HK.blk_cell hbq7 7
        have hbw7 := below_then HB04.out (below_then HB6.out hB7)
        have hc7 := HCP.out w7 ⟨qa, qn, qc⟩ (HQ6.out.up hB7) (RichT.turn (fun k hk => ⟨Nat.lt_of_lt_of_le hk hbw7.size, hbw7.block k hk⟩) HRIQ.out)
        have HC7 := Lib.hid hc7
        have HR7 := Lib.hid hr7
        have HB7 := Lib.hid hB7
        clear hr7 hB7 hc7 hbq7 hbw7 q0 q1 q2 q3 q4 q5 q6 q7
        go_wp2_with (
          go_at_call 47
          refine HC7.out.mono ?_
          rintro e w8 ⟨cr, co, cm, u1, u2, u3, u4, u5, u6, cl, u7, u8, u9, cs, ca, cn, cc, rfl, hq8, hri8, hB8⟩
          have HRI8 := Lib.hid hri8
          have hr8 := (hB8.block _ (HK.blk_lt HR7.out)).trans HR7.out
          have z0 : w8.cell? ⟨w.heap.size + 2, 0, none⟩ = some (.string ⟨#[]⟩) := HK.blk_cell hr8 0
          have z1 : w8.cell? ⟨w.heap.size + 2, 1, none⟩ = some (.int .u8 0) := HK.blk_cell hr8 1
          have z2 : w8.cell? ⟨w.heap.size + 2, 2, none⟩ = some (.string ⟨#[]⟩) := HK.blk_cell hr8 2
          have z3 : w8.cell? ⟨w.heap.size + 2, 3, none⟩ = some (.slice none 0 0) := HK.blk_cell hr8 3
          have z4 : w8.cell? ⟨w.heap.size + 2, 4, none⟩ = some (.slice none 0 0) := HK.blk_cell hr8 4
          have z5 : w8.cell? ⟨w.heap.size + 2, 5, none⟩ = some (.int .i64 0) := HK.blk_cell hr8 5
          have z6 : w8.cell? ⟨w.heap.size + 2, 6, none⟩ = some (.slice none 0 0) := HK.blk_cell hr8 6
          have z7 : w8.cell? ⟨w.heap.size + 2, 7, none⟩ = some (.slice none 0 0) := HK.blk_cell hr8 7
          have zf := fun i => HK.blk_frozen hr8 i
          have HR8 := Lib.hid hr8
          have HB8 := Lib.hid hB8
          have HQ8 := Lib.hid hq8
          clear hr8 hB8 hq8 hri8)
        have hre := E0.out (by trivial) _ _ rfl HMQ.out.symm HRQ.out
        rw [hre]
        refine bodyPost_ret (results_row_tmp (p := 6) (u := 7) (by kernel_rfl) _ _ (w.heap.size + 1 + 1) 30 _ (0, 0) _ (.int .i64 0) rfl rfl (set8 (b := w.heap.size + 1 + 1) HR8.out _ _ _ _ _ _ _ _) Try.underlying30 rfl (by kernel_rfl)) rfl ?_
        have hF8 := set8_frm w8 (w.heap.size + 1 + 1) (.string cr) (.int .u8 co) (.string cm) (.slice u1 u2 u3) (.slice u4 u5 u6) (.int .i64 cl) (.slice ca cn cc) (.slice u7 u8 u9)
        have hBW := below_then HB04.out (below_then HB6.out (below_then HB7.out HB8.out))
        have hsz := hBW.size
        have hz8 := hF8.size
        have hlr := HK.blk_lt HR7.out
        have hsz7 := (below_then HB04.out (below_then HB6.out HB7.out)).size
        have hk8 : ∀ b, Fresh w7 w8 b → Fresh w _ b ∧ _ = _ := fun b hb => ⟨⟨Nat.le_trans hsz7 hb.1, Nat.lt_of_lt_of_le hb.2 hz8⟩, hF8.block b hb.2 (by have := hb.1; omega)⟩
        exact ⟨.node cr ⟨co, cm, ⟨u1, u2, u3⟩, ⟨u4, u5, u6⟩, cl, ⟨u7, u8, u9⟩⟩ cs, ⟨ca, cn, cc⟩, rfl, HQ8.out.turnT hk8, RichT.turnT hk8 HRI8.out, hBW.trans (hF8.below (B := w.heap.size) (by omega) (fun b e => by omega))⟩
end Go.Proofs.Ytfebcpmbkljaoaa
