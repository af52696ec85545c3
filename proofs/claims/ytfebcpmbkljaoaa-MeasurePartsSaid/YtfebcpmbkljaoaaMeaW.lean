/- The walk of what Built calls, at a rule with premises. -/
import Derived.Test.YtfebcpmbkljaoaaMeaV
import Derived.Deep.RegionLaw
namespace Go.Proofs.Ytfebcpmbkljaoaa
open Go.RowKit Go.HR
set_option linter.unusedVariables false
set_option linter.unusedSimpArgs false
set_option linter.unusedSectionVars false
theorem elem30 : HK.ElemOk Try.prog 27 30 8 144 :=
  HK.ElemOk.mk' (z := .agg #[.string ⟨#[]⟩, .int .u8 0, .string ⟨#[]⟩, .slice none 0 0, .slice none 0 0, .int .i64 0, .slice none 0 0, .slice none 0 0]) Try.underlying27 (by kernel_rfl) rfl (by decide)
/-- A box of a proof whose premises are s. -/
def boxR (v : Value) : Array Value := #[.string ⟨#[114]⟩, .int .u8 0, .string ⟨#[]⟩, .slice none 0 0, .slice none 0 0, .int .i64 0, v, .slice none 0 0]
theorem frm_of_drew {F : Nat → Prop} {w w' : World} (h : HK.Frm F w.drew w') : HK.Frm F w w' := ⟨h.os, h.tape, h.output, h.size, h.block⟩
/-- How far the loop has come. -/
structure MkInv (L : List Nat) (f i : Nat) (w : World) (Bi k : Nat) (v : Value) (xs : List (PT × SL)) (W : World) : Prop where
  ts : xs.map (·.1) = (mkA (mkT L f) k (i + 1)).1
  hF : HK.Frm (· = Bi) w W
  hr : W.heap[w.heap.size]? = some (.cells #[.string ⟨#[]⟩, .int .u8 0, .string ⟨#[]⟩, .slice none 0 0, .slice none 0 0, .int .i64 0, .slice none 0 0, .slice none 0 0] 30 (0, 0))
  hp : W.heap[w.heap.size + 1]? = some (.cells (boxR v) 30 (0, 0))
  row : W.ownsRow (w.heap.size + 2) 30 8 v k (flatP xs)
  ps : ∀ x ∈ xs, IsPq (fun b => w.heap.size + 2 ≤ b ∧ b < W.heap.size ∧ v.ownBlock ≠ some b) W x.2 x.1.subs
  hb : W.heap[Bi]? = some (.cells #[.int .i64 (mkA (mkT L f) k (i + 1)).2] 3 (0, 0))
theorem MkInv.len {L : List Nat} {f i : Nat} {w : World} {Bi k : Nat} {v : Value} {xs : List (PT × SL)} {W : World} (h : MkInv L f i w Bi k v xs W) : xs.length = k := by
  have := congrArg List.length h.ts
  rwa [List.length_map, mkA_len] at this
theorem MkInv.next {L : List Nat} {f i : Nat} {w : World} {Bi k : Nat} {v : Value} {xs : List (PT × SL)} {W W6 W7 : World} {t : PT} {sv : SL} {gg cap : Nat} {o : Obj} (h : MkInv L f i w Bi k v xs W) (hBi : Bi < w.heap.size)
    (ht : t = (mkT L f (mkA (mkT L f) k (i + 1)).2).1) (hF : HK.Frm (· = Bi) W W6) (hq : IsPq (fun b => W.heap.size ≤ b ∧ b < W6.heap.size) W6 sv t.subs) (hb : W6.heap[Bi]? = some (.cells #[.int .i64 (mkT L f (mkA (mkT L f) k (i + 1)).2).2] 3 (0, 0)))
    (hown : W7.ownsRow 0 30 8 (.slice (some ⟨gg, 0, none⟩) (k + 1) cap) (k + 1) (flatP xs ++ (t.arr sv).toList)) (hgrow : (W6.alloc o).grownBy W7 v.ownBlock) (hat : v.ownBlock = some gg ∨ gg = (W6.alloc o).heap.size) (hlt : gg < W7.heap.size) :
    MkInv L f i w Bi (k + 1) (.slice (some ⟨gg, 0, none⟩) (k + 1) cap) (xs ++ [(t, sv)]) (W7.setCell ⟨w.heap.size + 1, 6, none⟩ (.slice (some ⟨gg, 0, none⟩) (k + 1) cap)) := by
  have hv : ∀ b, v.ownBlock = some b → w.heap.size + 2 ≤ b ∧ b < W.heap.size := fun b hb => h.row.lt b hb
  have hz6 := hF.size
  have hz7 := hgrow.size
  simp only [World.size_alloc] at hz7 hat
  have hwz := HK.blk_lt h.hp
  have hgg : w.heap.size + 2 ≤ gg := by
    rcases hat with e | e
    · exact (hv gg e).1
    · omega
  have blk7 : ∀ b o', W6.heap[b]? = some o' → v.ownBlock ≠ some b → W7.heap[b]? = some o' := fun b o' h1 h2 => HK.blk_grown2 hgrow (HK.blk_alloc h1 o) (Ne.symm h2)
  have vne : ∀ b, b < w.heap.size + 2 → v.ownBlock ≠ some b := fun b hb e => by have := (hv b e).1; omega
  have eqb : ∀ b, b < W6.heap.size → v.ownBlock ≠ some b → b ≠ w.heap.size + 1 → (W7.setCell ⟨w.heap.size + 1, 6, none⟩ (.slice (some ⟨gg, 0, none⟩) (k + 1) cap)).heap[b]? = W6.heap[b]? := fun b h1 h2 h3 => by
    rw [Below.heap_setCell _ _ _ _ h3, hgrow.block b (by simp; omega) (Ne.symm h2)]
    exact Below.heap_alloc W6 o b h1
  have hp6 : W6.heap[w.heap.size + 1]? = some (.cells (boxR v) 30 (0, 0)) := hF.heap h.hp (by omega)
  have hp7 := blk7 _ _ hp6 (vne _ (by omega))
  refine ⟨?_, ?_, ?_, ?_, ?_, fun x hx => ?_, ?_⟩
  · rw [List.map_append, h.ts, ht]; rfl
  · refine ((h.hF.trans hF).trans' (G := fun b => v.ownBlock = some b ∨ b = w.heap.size + 1) (HK.Frm.setCell (p := ⟨w.heap.size + 1, 6, none⟩) (HK.Frm.grown (HK.Frm.alloc (HK.Frm.refl _ W6) o) hgrow (fun b hb => .inl (.inl hb))) (.inl (.inr rfl)) _) (fun b hb => ?_))
    rcases hb with e | e
    · have := (hv b e).1; right; omega
    · right; omega
  · rw [eqb _ (by omega) (vne _ (by omega)) (by omega)]
    exact hF.heap h.hr (by omega)
  · exact HK.blk_set hp7 6 _
  · refine HK.owns_setCell ?_ (p := ⟨w.heap.size + 1, 6, none⟩) (by simp [Value.ownBlock]; omega) _
    rw [flatP_on]
    refine ⟨hown.1, ?_⟩
    rcases hown.2 with h0 | ⟨g, c, cur, e, hg, r⟩
    · exact .inl h0
    · refine .inr ⟨g, c, cur, e, ?_, r⟩
      simp only [Value.slice.injEq, Option.some.injEq, Addr.mk.injEq] at e
      omega
  · simp only [World.size_setCell]
    rcases List.mem_append.1 hx with hx | hx
    · refine (h.ps x hx).turn fun b hb => ⟨⟨hb.1, by omega, ?_⟩, ?_⟩
      · intro e
        simp only [Value.ownBlock, Option.some.injEq] at e
        subst e
        rcases hat with e | e
        · exact hb.2.2 e
        · omega
      · rw [eqb b (by omega) hb.2.2 (by omega)]
        exact hF.block b hb.2.1 (by omega)
    · rw [List.mem_singleton.1 hx]
      refine hq.turn fun b hb => ⟨⟨by omega, by omega, ?_⟩, ?_⟩
      · intro e
        simp only [Value.ownBlock, Option.some.injEq] at e
        subst e
        rcases hat with e | e
        · have := (hv _ e).2; omega
        · omega
      · exact eqb b hb.2 (fun e => by have := (hv b e).2; omega) (by omega)
  · rw [eqb Bi (by omega) (vne _ (by omega)) (by omega), hb]; rfl
theorem set8 {W : World} {b t : Nat} {z0 z1 z2 z3 z4 z5 z6 z7 : Value} (h : W.heap[b]? = some (.cells #[z0, z1, z2, z3, z4, z5, z6, z7] t (0, 0))) (v0 v1 v2 v3 v4 v5 v6 v7 : Value) :
    ((((((((W.setCell ⟨b, 0, none⟩ v0).setCell ⟨b, 1, none⟩ v1).setCell ⟨b, 2, none⟩ v2).setCell ⟨b, 3, none⟩ v3).setCell ⟨b, 4, none⟩ v4).setCell ⟨b, 5, none⟩ v5).setCell ⟨b, 6, none⟩ v6).setCell ⟨b, 7, none⟩ v7).heap[b]? = some (.cells #[v0, v1, v2, v3, v4, v5, v6, v7] t (0, 0)) := by
  have h0 : (W.setCell ⟨b, 0, none⟩ v0).heap[b]? = some (.cells #[v0, z1, z2, z3, z4, z5, z6, z7] t (0, 0)) := HK.blk_set h 0 _
  have h1 : ((W.setCell ⟨b, 0, none⟩ v0).setCell ⟨b, 1, none⟩ v1).heap[b]? = some (.cells #[v0, v1, z2, z3, z4, z5, z6, z7] t (0, 0)) := HK.blk_set h0 1 _
  have h2 : (((W.setCell ⟨b, 0, none⟩ v0).setCell ⟨b, 1, none⟩ v1).setCell ⟨b, 2, none⟩ v2).heap[b]? = some (.cells #[v0, v1, v2, z3, z4, z5, z6, z7] t (0, 0)) := HK.blk_set h1 2 _
  have h3 : ((((W.setCell ⟨b, 0, none⟩ v0).setCell ⟨b, 1, none⟩ v1).setCell ⟨b, 2, none⟩ v2).setCell ⟨b, 3, none⟩ v3).heap[b]? = some (.cells #[v0, v1, v2, v3, z4, z5, z6, z7] t (0, 0)) := HK.blk_set h2 3 _
  have h4 : (((((W.setCell ⟨b, 0, none⟩ v0).setCell ⟨b, 1, none⟩ v1).setCell ⟨b, 2, none⟩ v2).setCell ⟨b, 3, none⟩ v3).setCell ⟨b, 4, none⟩ v4).heap[b]? = some (.cells #[v0, v1, v2, v3, v4, z5, z6, z7] t (0, 0)) := HK.blk_set h3 4 _
  have h5 : ((((((W.setCell ⟨b, 0, none⟩ v0).setCell ⟨b, 1, none⟩ v1).setCell ⟨b, 2, none⟩ v2).setCell ⟨b, 3, none⟩ v3).setCell ⟨b, 4, none⟩ v4).setCell ⟨b, 5, none⟩ v5).heap[b]? = some (.cells #[v0, v1, v2, v3, v4, v5, z6, z7] t (0, 0)) := HK.blk_set h4 5 _
  have h6 : (((((((W.setCell ⟨b, 0, none⟩ v0).setCell ⟨b, 1, none⟩ v1).setCell ⟨b, 2, none⟩ v2).setCell ⟨b, 3, none⟩ v3).setCell ⟨b, 4, none⟩ v4).setCell ⟨b, 5, none⟩ v5).setCell ⟨b, 6, none⟩ v6).heap[b]? = some (.cells #[v0, v1, v2, v3, v4, v5, v6, z7] t (0, 0)) := HK.blk_set h5 6 _
  have h7 : ((((((((W.setCell ⟨b, 0, none⟩ v0).setCell ⟨b, 1, none⟩ v1).setCell ⟨b, 2, none⟩ v2).setCell ⟨b, 3, none⟩ v3).setCell ⟨b, 4, none⟩ v4).setCell ⟨b, 5, none⟩ v5).setCell ⟨b, 6, none⟩ v6).setCell ⟨b, 7, none⟩ v7).heap[b]? = some (.cells #[v0, v1, v2, v3, v4, v5, v6, v7] t (0, 0)) := HK.blk_set h6 7 _
  exact h7
theorem set8_frm (W : World) (b : Nat) (v0 v1 v2 v3 v4 v5 v6 v7 : Value) : HK.Frm (· = b) W ((((((((W.setCell ⟨b, 0, none⟩ v0).setCell ⟨b, 1, none⟩ v1).setCell ⟨b, 2, none⟩ v2).setCell ⟨b, 3, none⟩ v3).setCell ⟨b, 4, none⟩ v4).setCell ⟨b, 5, none⟩ v5).setCell ⟨b, 6, none⟩ v6).setCell ⟨b, 7, none⟩ v7) := (HK.Frm.setCell (p := ⟨b, 7, none⟩) (HK.Frm.setCell (p := ⟨b, 6, none⟩) (HK.Frm.setCell (p := ⟨b, 5, none⟩) (HK.Frm.setCell (p := ⟨b, 4, none⟩) (HK.Frm.setCell (p := ⟨b, 3, none⟩) (HK.Frm.setCell (p := ⟨b, 2, none⟩) (HK.Frm.setCell (p := ⟨b, 1, none⟩) (HK.Frm.setCell (p := ⟨b, 0, none⟩) (HK.Frm.refl (· = b) W) (.inl rfl) _) (.inl rfl) _) (.inl rfl) _) (.inl rfl) _) (.inl rfl) _) (.inl rfl) _) (.inl rfl) _) (.inl rfl) _)
theorem MkInv.done {L : List Nat} {f i : Nat} {w : World} {Bi k : Nat} {v : SL} {xs : List (PT × SL)} {W W' : World} (h : MkInv L f i w Bi k v.v xs W) (hF : HK.Frm (· = w.heap.size) W W') :
    IsPq (fun b => w.heap.size ≤ b ∧ b < W'.heap.size) W' v (mkA (mkT L f) k (i + 1)).1 := by
  rw [← h.ts]
  obtain ⟨va, vn, vc⟩ := v
  have hr := h.row
  have hl := h.len
  subst hl
  have hz := hF.size
  have hps : ∀ x ∈ xs, IsPq (fun b => w.heap.size ≤ b ∧ b < W'.heap.size) W' x.2 x.1.subs := fun x hx => (h.ps x hx).turn fun b hb => ⟨by omega, hF.block b hb.2.1 (by omega)⟩
  rcases hr.2 with ⟨h0, h1⟩ | ⟨g, cap, cur, hv, hg, hh, r⟩
  · simp only [SL.v, Value.slice.injEq] at h0
    obtain ⟨rfl, rfl, rfl⟩ := h0
    have : xs = [] := List.length_eq_zero_iff.1 (by omega)
    subst this
    exact .nil _ _
  · simp only [SL.v, Value.slice.injEq] at hv
    obtain ⟨rfl, rfl, rfl⟩ := hv
    have hlt := HK.blk_lt hh
    have hr2 := hF.owns hr (fun g' e => by simp only [SL.v, Value.ownBlock, Option.some.injEq] at e; omega)
    exact pq_row hr2 ⟨by omega, by omega⟩ hps
section
variable {L : List Nat} {a : Option Addr} {n c : Nat} (f : Nat) (w : World) (Bi Bl Bm i deep : Nat) (hd : deep + (f + 1) = 12) (hi : i ≤ 60) (h : BAt w Bi Bl Bm i a n c L) (ih : MakeOk L a n c f)
include hd hi h ih
set_option maxRecDepth 100000 in
set_option maxHeartbeats 8000000 in
/-- A number that tells a rule. -/
theorem make_node (x : Nat) (hx : L[i]? = some x) (h60 : i < 60) (h6 : ¬ x % 6 = 0) (h7 : ¬ x % 6 = 1) : Calls Try.prog 39 #[.int .i64 deep, .pointer (some ⟨Bi, 0, none⟩), .pointer (some ⟨Bl, 0, none⟩), .pointer (some ⟨Bm, 0, none⟩)] w (RetM w Bi (mkT L (f + 1) i)) := by
  rw [mkT_node h60 hx h6 h7]
  have cb := fun o => HK.blk_cell (HK.blk_alloc h.hi o) 0
  have cf := fun o => HK.blk_frozen (HK.blk_alloc h.hi o) 0
  have cl := fun o => HK.blk_cell (HK.blk_alloc h.hl o) 0
  obtain ⟨x255, ad, had, cx, hne⟩ := h.hc i x hx
  have hadlt := World.block_lt_of_cell? w _ cx
  have cx2 : ∀ o, (w.alloc o).cell? (ad.add i) = some (.int .u8 x) := fun o => (World.cell?_of_block (Below.heap_alloc w o _ hadlt)).trans cx
  have hln := (List.getElem?_eq_some_iff.1 hx).1
  have hn := h.hn
  have b1 : (i : Int) < (n : Int) := by omega
  have b2 : (i : Int) < 60 := by omega
  have b0 : (0 : Int) ≤ (i : Int) := by omega
  have hbl := HK.blk_lt h.hi
  have hbn : w.heap.size ≠ Bi := by omega
  have hbn2 : Bi ≠ w.heap.size := by omega
  have hbn3 : Bi ≠ w.heap.size + 1 := by omega
  have hbn4 : w.heap.size + 1 ≠ Bi := by omega
  obtain ⟨K, hK⟩ : ∃ K, x % 6 = K + 2 := ⟨x % 6 - 2, by omega⟩
  have hK3 : K ≤ 3 := by omega
  rw [show x % 6 - 2 = K by omega]
  obtain ⟨r, hr⟩ : ∃ r : Nat, x % 6 = r := ⟨_, rfl⟩
  have b3 : (x : Int) % 6 = (r : Int) := by omega
  have b4 : ((r : Int) == 0) = false := by simp; omega
  have b5 : ((r : Int) == 1) = false := by simp; omega
  have b6 : ((deep : Int) == 12) = false := by simp; omega
  have b7 : (r : Int) - 2 = (K : Int) := by omega
  have H := Lib.hid h
  have HN := Lib.hid hn
  have HIH := Lib.hid ih
  have HAD := Lib.hid had
  clear h hn cx hln hx ih h6 h7 hr hK
  subst had
  go_enter Try.func39, Try.ntmps39
  go_wp2_with (fail)
  go_loopw [43] (fun j wr => ∃ (k : Nat) (v : SL) (xs : List (PT × SL)), k ≤ K ∧ j = .int .u8 k ∧ MkInv L f i w Bi k v.v xs wr) (fun j _ => K - (intOf j).toNat)
  case atStart =>
    refine ⟨0, SL.nil, [], by omega, rfl, rfl, ?_, ?_, ?_, World.ownsRow_nil _ _ _ _, (fun x hx => by simp at hx), ?_⟩
    · exact ((HK.Frm.setCell (F := (· = Bi)) (p := ⟨Bi, 0, none⟩) (HK.Frm.refl _ w) (.inl rfl) _).alloc _).alloc _
    · exact HK.blk_alloc (set_new _ _ _ _) _
    · have := HK.blk_new ((w.setCell ⟨Bi, 0, none⟩ (.int .i64 (i + 1 : Nat))).alloc (.cells #[.string ⟨#[]⟩, .int .u8 0, .string ⟨#[]⟩, .slice none 0 0, .slice none 0 0, .int .i64 0, .slice none 0 0, .slice none 0 0] 30)) (.cells (boxR (.slice none 0 0)) 30)
      rw [World.size_alloc, World.size_setCell] at this
      exact this
    · exact HK.blk_alloc (HK.blk_alloc (HK.blk_set H.out.hi 0 _) _) _
  case round =>
    obtain ⟨k, ⟨va, vn, vc⟩, xs, hk, rfl, hI⟩ := hrel
    simp only [SL.v] at hI
    by_cases h1 : k < K
    · have hj60 : (mkA (mkT L f) k (i + 1)).2 ≤ 60 := (mkA_at (mkT_at L f) k (i + 1) (by omega)).2.1
      have hAt := H.out.frm hI.hF hI.hb
      have hrec := HIH.out wr.drew Bi Bl Bm (mkA (mkT L f) k (i + 1)).2 (deep + 1) (by omega) hj60 ⟨hAt.hi, hAt.hl, hAt.hm, hAt.hn, hAt.hc⟩
      obtain ⟨t, ht⟩ : ∃ t, t = (mkT L f (mkA (mkT L f) k (i + 1)).2).1 := ⟨_, rfl⟩
      rw [← (show IntKind.i64.wrap ((deep : Int) + 1) = ((deep + 1 : Nat) : Int) by rw [IntWalk.i64_in _ (by omega)]; omega)] at hrec
      unfold RetM at hrec
      rw [← ht] at hrec
      obtain ⟨rule, ⟨op, name, ⟨aa, an, ac⟩, ⟨fa, fn, fc⟩, label, ⟨ma, mn, mc⟩⟩, subs⟩ := t
      simp only [PT.arr, PT.rule, PT.o, PT.subs, SL.v] at hrec
      have p6 : wr.cell? ⟨w.heap.size + 1, 6, none⟩ = some (.slice va vn vc) := HK.blk_cell hI.hp 6
      have pm : wr.cell? ⟨Bm, 0, none⟩ = some (.func (.func 39) #[] #[.pointer (some ⟨Bi, 0, none⟩), .pointer (some ⟨Bl, 0, none⟩), .pointer (some ⟨Bm, 0, none⟩)]) := HK.blk_cell hAt.hm 0
      have hbm := H.out.im
      have b8 : (k : Int) < (K : Int) := by omega
      have HI := Lib.hid hI
      have HREC := Lib.hid hrec
      have HT := Lib.hid ht
      have HA := Lib.hid hAt
      have hvn : ∀ b, (Value.slice va vn vc).ownBlock = some b → w.heap.size + 2 ≤ b ∧ b < wr.heap.size := fun b hb => hI.row.lt b hb
      have hbms := HK.blk_lt hAt.hm
      have HV := Lib.hid hvn
      clear hI hrec ht hAt hvn
      go_wp2_with (fail)
      go_region_law
        ((first
          | (go_simp
             go_at_call 39
             refine HREC.out.mono ?_
             rintro e w6 ⟨⟨sa, sn, sc⟩, rfl, hq6, hb6, hF6⟩
             have hkA : w6.cell? ⟨w.heap.size + 1, 6, none⟩ = some (.slice va vn vc) := HK.blk_cell (hF6.heap HI.out.hp hbn4) 6
             have hkB : w6.cell? ⟨Bm, 0, none⟩ = some (.func (.func 39) #[] #[.pointer (some ⟨Bi, 0, none⟩), .pointer (some ⟨Bl, 0, none⟩), .pointer (some ⟨Bm, 0, none⟩)]) := HK.blk_cell (hF6.heap HA.out.hm hbm) 0
             have hkA2 : ∀ o, (w6.alloc o).cell? ⟨w.heap.size + 1, 6, none⟩ = some (.slice va vn vc) := fun o => HK.blk_cell (HK.blk_alloc (hF6.heap HI.out.hp hbn4) o) 6
             have hz6 := hF6.size
             have hown6 := hF6.owns HI.out.row (fun g e => by have := (HV.out g e).1; omega)
             have HQ6 := Lib.hid hq6
             have HB6 := Lib.hid hb6
             have HF6 := Lib.hid hF6
             have HO6 := Lib.hid hown6
             clear hq6 hb6 hF6 hown6)
          | (refine HK.step_app1 (by rfl) elem30 _ _ (by rfl) (.slice va vn vc) k (flatP xs) (by rfl) (row_mono (HO6.out.alloc _) (Nat.zero_le _)) w6.heap.size 1 #[.string rule, .int .u8 op, .string name, .slice aa an ac, .slice fa fn fc, .int .i64 label, .slice sa sn sc, .slice ma mn mc] (by rfl) (HK.blk_new _ _) (by rfl) (by simp [Value.oneCell']) (by simp only [maxLen]; omega) (by omega) ?_
             intro gg cap w7 hown7 hgrow hat hlt
             have hT7 := HK.blk_grown2 hgrow (HK.blk_alloc (HF6.out.heap HI.out.hp hbn4) _) (fun e => by have := (HV.out _ e.symm).1; omega)
             have hc7 : w7.cell? ⟨w.heap.size + 1, 6, none⟩ = some (.slice va vn vc) := HK.blk_cell hT7 6
             have hm7 : w7.cell? ⟨Bm, 0, none⟩ = some (.func (.func 39) #[] #[.pointer (some ⟨Bi, 0, none⟩), .pointer (some ⟨Bl, 0, none⟩), .pointer (some ⟨Bm, 0, none⟩)]) := HK.blk_cell (HK.blk_grown2 hgrow (HK.blk_alloc (HF6.out.heap HA.out.hm hbm) _) (fun e => HK.owns_ne_type HI.out.row HA.out.hm (fun c h => by cases h) e.symm)) 0
             have hf7 := HK.blk_frozen hT7 6
             have HT7 := Lib.hid hT7
             have HOW := Lib.hid hown7
             have HGR := Lib.hid hgrow
             have HAT := Lib.hid hat
             clear hT7 hown7 hgrow hat)))
      all_goals (
        go_wp2_with (fail)
        go_roundw
        case rel => exact ⟨k + 1, ⟨some ⟨gg, 0, none⟩, k + 1, cap⟩, xs ++ [(PT.node rule ⟨op, name, ⟨aa, an, ac⟩, ⟨fa, fn, fc⟩, label, ⟨ma, mn, mc⟩⟩ subs, (⟨sa, sn, sc⟩ : SL))], by omega, by go_num, HI.out.next (sv := ⟨sa, sn, sc⟩) hbl HT.out (frm_of_drew HF6.out) HQ6.out HB6.out HOW.out HGR.out HAT.out hlt⟩
        case measure => simp [intOf]; omega)
    · have hkK : k = K := by omega
      subst hkK
      have b8 : ¬ ((k : Int) < (k : Int)) := by omega
      have HI := Lib.hid hI
      have hr := hI.hr
      have q0 : wr.cell? ⟨w.heap.size + 1, 0, none⟩ = some (.string ⟨#[114]⟩) := HK.blk_cell hI.hp 0
      have q1 : wr.cell? ⟨w.heap.size + 1, 1, none⟩ = some (.int .u8 0) := HK.blk_cell hI.hp 1
      have q2 : wr.cell? ⟨w.heap.size + 1, 2, none⟩ = some (.string ⟨#[]⟩) := HK.blk_cell hI.hp 2
      have q3 : wr.cell? ⟨w.heap.size + 1, 3, none⟩ = some (.slice none 0 0) := HK.blk_cell hI.hp 3
      have q4 : wr.cell? ⟨w.heap.size + 1, 4, none⟩ = some (.slice none 0 0) := HK.blk_cell hI.hp 4
      have q5 : wr.cell? ⟨w.heap.size + 1, 5, none⟩ = some (.int .i64 0) := HK.blk_cell hI.hp 5
      have q6 : wr.cell? ⟨w.heap.size + 1, 6, none⟩ = some (.slice va vn vc) := HK.blk_cell hI.hp 6
      have q7 : wr.cell? ⟨w.heap.size + 1, 7, none⟩ = some (.slice none 0 0) := HK.blk_cell hI.hp 7
      have z0 : wr.cell? ⟨w.heap.size, 0, none⟩ = some (.string ⟨#[]⟩) := HK.blk_cell hr 0
      have z1 : wr.cell? ⟨w.heap.size, 1, none⟩ = some (.int .u8 0) := HK.blk_cell hr 1
      have z2 : wr.cell? ⟨w.heap.size, 2, none⟩ = some (.string ⟨#[]⟩) := HK.blk_cell hr 2
      have z3 : wr.cell? ⟨w.heap.size, 3, none⟩ = some (.slice none 0 0) := HK.blk_cell hr 3
      have z4 : wr.cell? ⟨w.heap.size, 4, none⟩ = some (.slice none 0 0) := HK.blk_cell hr 4
      have z5 : wr.cell? ⟨w.heap.size, 5, none⟩ = some (.int .i64 0) := HK.blk_cell hr 5
      have z6 : wr.cell? ⟨w.heap.size, 6, none⟩ = some (.slice none 0 0) := HK.blk_cell hr 6
      have z7 : wr.cell? ⟨w.heap.size, 7, none⟩ = some (.slice none 0 0) := HK.blk_cell hr 7
      have zf := fun i => HK.blk_frozen hr i
      clear hI hr
      go_wp2_with (fail)
      have hF8 := set8_frm wr w.heap.size (.string ⟨#[114]⟩) (.int .u8 0) (.string ⟨#[]⟩) (.slice none 0 0) (.slice none 0 0) (.int .i64 0) (.slice va vn vc) (.slice none 0 0)
      refine bodyPost_ret (results_cell_row (p := 5) (ty := 30) (by kernel_rfl) _ _ w.heap.size 30 _ (0, 0) _ rfl (set8 HI.out.hr _ _ _ _ _ _ _ _) Try.underlying30 rfl (by kernel_rfl)) rfl ?_
      refine ⟨⟨va, vn, vc⟩, rfl, HI.out.done hF8, (hF8.block Bi (by have := HK.blk_lt HI.out.hb; exact this) hbn2).trans HI.out.hb, HI.out.hF.trans' hF8 (fun b hb => .inr (by omega))⟩
end
theorem make_all {L : List Nat} {a : Option Addr} {n c : Nat} : ∀ f, MakeOk L a n c f := by
  intro f
  induction f with
  | zero =>
    intro w Bi Bl Bm i deep hd hi h
    by_cases ho : i < L.length ∧ i < 60
    · obtain ⟨x, hx⟩ : ∃ x, L[i]? = some x := ⟨_, List.getElem?_eq_getElem ho.1⟩
      by_cases h6 : x % 6 = 0
      · exact make_hole 0 w Bi Bl Bm i deep hd hi h x hx ho.2 h6
      · exact make_leaf 0 w Bi Bl Bm i deep hd hi h x hx ho.2 h6 (.inr rfl)
    · exact make_out 0 w Bi Bl Bm i deep hd hi h ho
  | succ f ih =>
    intro w Bi Bl Bm i deep hd hi h
    by_cases ho : i < L.length ∧ i < 60
    · obtain ⟨x, hx⟩ : ∃ x, L[i]? = some x := ⟨_, List.getElem?_eq_getElem ho.1⟩
      by_cases h6 : x % 6 = 0
      · exact make_hole (f + 1) w Bi Bl Bm i deep hd hi h x hx ho.2 h6
      · by_cases h7 : x % 6 = 1
        · exact make_leaf (f + 1) w Bi Bl Bm i deep hd hi h x hx ho.2 h6 (.inl h7)
        · exact make_node f w Bi Bl Bm i deep hd hi h ih x hx ho.2 h6 h7
    · exact make_out (f + 1) w Bi Bl Bm i deep hd hi h ho
end Go.Proofs.Ytfebcpmbkljaoaa
