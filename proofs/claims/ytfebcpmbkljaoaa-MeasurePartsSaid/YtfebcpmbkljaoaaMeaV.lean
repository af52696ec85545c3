/- The walk of what Built calls. -/
import Derived.Test.YtfebcpmbkljaoaaMeaU
import Derived.Deep.RegionHeld3
namespace Go.Proofs.Ytfebcpmbkljaoaa
open Go.RowKit Go.HR
set_option linter.unusedVariables false
set_option linter.unusedSimpArgs false
set_option linter.unusedSectionVars false
/-- What the closure holds. -/
structure BAt (w : World) (Bi Bl Bm i : Nat) (a : Option Addr) (n c : Nat) (L : List Nat) : Prop where
  hi : w.heap[Bi]? = some (.cells #[.int .i64 i] 3 (0, 0))
  hl : w.heap[Bl]? = some (.cells #[.slice a n c] 22 (0, 0))
  hm : w.heap[Bm]? = some (.cells #[.func (.func 39) #[] #[.pointer (some ⟨Bi, 0, none⟩), .pointer (some ⟨Bl, 0, none⟩), .pointer (some ⟨Bm, 0, none⟩)]] 73 (0, 0))
  hn : n = L.length
  hc : ∀ (k : Nat) x, L[k]? = some x → x ≤ 255 ∧ ∃ ad, a = some ad ∧ w.cell? (ad.add k) = some (.int .u8 x) ∧ ad.block ≠ Bi
theorem BAt.il {w : World} {Bi Bl Bm i : Nat} {a : Option Addr} {n c : Nat} {L : List Nat} (h : BAt w Bi Bl Bm i a n c L) : Bl ≠ Bi := fun e => by
  have h1 := h.hi
  have h2 := h.hl
  rw [e, h1] at h2
  cases h2
theorem BAt.im {w : World} {Bi Bl Bm i : Nat} {a : Option Addr} {n c : Nat} {L : List Nat} (h : BAt w Bi Bl Bm i a n c L) : Bm ≠ Bi := fun e => by
  have h1 := h.hi
  have h2 := h.hm
  rw [e, h1] at h2
  cases h2
theorem add_block (a : Addr) (k : Nat) : (a.add k).block = a.block := by
  unfold Addr.add; split <;> rfl
theorem BAt.frm {w w' : World} {Bi Bl Bm i j : Nat} {a : Option Addr} {n c : Nat} {L : List Nat} (h : BAt w Bi Bl Bm i a n c L) (hF : HK.Frm (· = Bi) w w') (hj : w'.heap[Bi]? = some (.cells #[.int .i64 j] 3 (0, 0))) : BAt w' Bi Bl Bm j a n c L where
  hi := hj
  hl := hF.heap h.hl h.il
  hm := hF.heap h.hm h.im
  hn := h.hn
  hc := fun k x hx => by
    obtain ⟨h0, ad, h1, h2, h3⟩ := h.hc k x hx
    refine ⟨h0, ad, h1, ?_, h3⟩
    have hlt := World.block_lt_of_cell? w _ h2
    exact (World.cell?_of_block (hF.block _ hlt (by rw [add_block]; exact h3))).trans h2
/-- What the closure answers. -/
def RetM (w : World) (Bi : Nat) (r : PT × Nat) (e : Ending) (w' : World) : Prop :=
  ∃ sv, e = .returned (.agg (r.1.arr sv)) ∧ IsPq (fun k => w.heap.size ≤ k ∧ k < w'.heap.size) w' sv r.1.subs ∧ w'.heap[Bi]? = some (.cells #[.int .i64 r.2] 3 (0, 0)) ∧ HK.Frm (· = Bi) w w'
def MakeOk (L : List Nat) (a : Option Addr) (n c : Nat) (f : Nat) : Prop :=
  ∀ (w : World) (Bi Bl Bm i deep : Nat), deep + f = 12 → i ≤ 60 → BAt w Bi Bl Bm i a n c L → Calls Try.prog 39 #[.int .i64 deep, .pointer (some ⟨Bi, 0, none⟩), .pointer (some ⟨Bl, 0, none⟩), .pointer (some ⟨Bm, 0, none⟩)] w (RetM w Bi (mkT L f i))
theorem mkT_out {L : List Nat} {f i : Nat} (h : ¬ (i < L.length ∧ i < 60)) : mkT L f i = (holeT, i) := by
  cases f <;> simp only [mkT, if_neg h]
theorem mkT_hole {L : List Nat} {f i x : Nat} (h : i < 60) (hx : L[i]? = some x) (h6 : x % 6 = 0) : mkT L f i = (holeT, i + 1) := by
  have h1 := (List.getElem?_eq_some_iff.1 hx).1
  have h2 : L.getD i 0 = x := by rw [List.getD_eq_getElem?_getD, hx]; rfl
  cases f <;> simp only [mkT, if_pos (And.intro h1 h), h2, if_pos h6]
theorem mkT_leaf {L : List Nat} {f i x : Nat} (h : i < 60) (hx : L[i]? = some x) (h6 : ¬ x % 6 = 0) (h7 : x % 6 = 1 ∨ f = 0) : mkT L f i = (leafT x, i + 1) := by
  have h1 := (List.getElem?_eq_some_iff.1 hx).1
  have h2 : L.getD i 0 = x := by rw [List.getD_eq_getElem?_getD, hx]; rfl
  cases f with
  | zero => simp only [mkT, if_pos (And.intro h1 h), h2, if_neg h6]
  | succ f =>
    have h8 : x % 6 = 1 := by omega
    simp only [mkT, if_pos (And.intro h1 h), h2, if_neg h6, if_pos h8]
theorem mkT_node {L : List Nat} {f i x : Nat} (h : i < 60) (hx : L[i]? = some x) (h6 : ¬ x % 6 = 0) (h7 : ¬ x % 6 = 1) : mkT L (f + 1) i = (.node ruleR PO.nil (mkA (mkT L f) (x % 6 - 2) (i + 1)).1, (mkA (mkT L f) (x % 6 - 2) (i + 1)).2) := by
  have h1 := (List.getElem?_eq_some_iff.1 hx).1
  have h2 : L.getD i 0 = x := by rw [List.getD_eq_getElem?_getD, hx]; rfl
  simp only [mkT, if_pos (And.intro h1 h), h2, if_neg h6, if_neg h7]
set_option maxRecDepth 100000 in
set_option maxHeartbeats 2000000 in
theorem hole_exact (w : World) : Calls Try.prog 25 #[] w fun e w' => e = .returned (.agg (holeT.arr SL.nil)) ∧ w' = w.alloc (.cells (holeT.arr SL.nil) 30) := by
  simp only [holeT, PT.arr, PT.rule, PT.o, PO.nil, SL.nil, SL.v]
  go_enter Try.func25, Try.ntmps25
  go_wp2
  refine bodyPost_ret (results_cell_row (p := 0) (ty := 30) (by kernel_rfl) _ _ w.heap.size 30 _ (0, 0) _ rfl (HK.blk_new _ _) Try.underlying30 rfl (by kernel_rfl)) rfl ?_
  exact ⟨rfl, rfl⟩
theorem set_new (w : World) (p : Addr) (v : Value) (o : Obj) : ((w.setCell p v).alloc o).heap[w.heap.size]? = some o := by
  have h := HK.blk_new (w.setCell p v) o
  rwa [World.size_setCell] at h
theorem frm_box {w : World} {Bi : Nat} {F : Nat → Prop} (o : Obj) : HK.Frm F w (w.alloc o) := (HK.Frm.refl F w).alloc o
section
variable {L : List Nat} {a : Option Addr} {n c : Nat} (f : Nat) (w : World) (Bi Bl Bm i deep : Nat) (hd : deep + f = 12) (hi : i ≤ 60) (h : BAt w Bi Bl Bm i a n c L)
include hd hi h
set_option maxRecDepth 100000 in
set_option maxHeartbeats 2000000 in
/-- No more numbers. -/
theorem make_out (ho : ¬ (i < L.length ∧ i < 60)) : Calls Try.prog 39 #[.int .i64 deep, .pointer (some ⟨Bi, 0, none⟩), .pointer (some ⟨Bl, 0, none⟩), .pointer (some ⟨Bm, 0, none⟩)] w (RetM w Bi (mkT L f i)) := by
  rw [mkT_out ho]
  have hh := fun W => hole_exact W
  simp only [holeT, PT.arr, PT.rule, PT.o, PO.nil, SL.nil, SL.v] at hh
  have cb := fun o => HK.blk_cell (HK.blk_alloc h.hi o) 0
  have cl := fun o => HK.blk_cell (HK.blk_alloc h.hl o) 0
  have hn := h.hn
  have hbl := HK.blk_lt h.hi
  have hbn : w.heap.size ≠ Bi := by omega
  have hbn2 : Bi ≠ w.heap.size := by omega
  have H := Lib.hid h
  have HN := Lib.hid hn
  clear h
  by_cases h1 : i < n
  · have h2 : ¬ i < 60 := by omega
    have b1 : (i : Int) < (n : Int) := by omega
    have b2 : ¬ ((i : Int) < 60) := by omega
    clear hn
    go_enter Try.func39, Try.ntmps39
    go_wp2_with (go_at_call 25; (refine (hh _).mono ?_; rintro e w' ⟨rfl, rfl⟩))
    refine bodyPost_ret (results_cell_row (p := 5) (ty := 30) (by kernel_rfl) _ _ w.heap.size 30 _ (0, 0) _ rfl (HK.blk_alloc (HK.blk_new _ _) _) Try.underlying30 rfl (by kernel_rfl)) rfl ?_
    exact ⟨SL.nil, rfl, .nil _ _, HK.blk_alloc (HK.blk_alloc H.out.hi _) _, ((HK.Frm.refl _ w).alloc _).alloc _⟩
  · have b1 : ¬ ((i : Int) < (n : Int)) := by omega
    clear hn
    go_enter Try.func39, Try.ntmps39
    go_wp2_with (go_at_call 25; (refine (hh _).mono ?_; rintro e w' ⟨rfl, rfl⟩))
    refine bodyPost_ret (results_cell_row (p := 5) (ty := 30) (by kernel_rfl) _ _ w.heap.size 30 _ (0, 0) _ rfl (HK.blk_alloc (HK.blk_new _ _) _) Try.underlying30 rfl (by kernel_rfl)) rfl ?_
    exact ⟨SL.nil, rfl, .nil _ _, HK.blk_alloc (HK.blk_alloc H.out.hi _) _, ((HK.Frm.refl _ w).alloc _).alloc _⟩
set_option maxRecDepth 100000 in
set_option maxHeartbeats 2000000 in
/-- A number that tells a hole. -/
theorem make_hole (x : Nat) (hx : L[i]? = some x) (h60 : i < 60) (h6 : x % 6 = 0) : Calls Try.prog 39 #[.int .i64 deep, .pointer (some ⟨Bi, 0, none⟩), .pointer (some ⟨Bl, 0, none⟩), .pointer (some ⟨Bm, 0, none⟩)] w (RetM w Bi (mkT L f i)) := by
  rw [mkT_hole h60 hx h6]
  have hh := fun W => hole_exact W
  simp only [holeT, PT.arr, PT.rule, PT.o, PO.nil, SL.nil, SL.v] at hh
  have cb := fun o => HK.blk_cell (HK.blk_alloc h.hi o) 0
  have cf := fun o => HK.blk_frozen (HK.blk_alloc h.hi o) 0
  have cl := fun o => HK.blk_cell (HK.blk_alloc h.hl o) 0
  obtain ⟨x255, ad, rfl, cx, hne⟩ := h.hc i x hx
  have hadlt := World.block_lt_of_cell? w _ cx
  have cx2 : ∀ o, (w.alloc o).cell? (ad.add i) = some (.int .u8 x) := fun o => (World.cell?_of_block (Below.heap_alloc w o _ hadlt)).trans cx
  have hln := (List.getElem?_eq_some_iff.1 hx).1
  have hn := h.hn
  have b1 : (i : Int) < (n : Int) := by omega
  have b2 : (i : Int) < 60 := by omega
  have b0 : (0 : Int) ≤ (i : Int) := by omega
  have b3 : (x : Int) % 6 = 0 := by omega
  have hbl := HK.blk_lt h.hi
  have hbn : w.heap.size ≠ Bi := by omega
  have hbn2 : Bi ≠ w.heap.size := by omega
  have H := Lib.hid h
  have HN := Lib.hid hn
  clear h hn cx hln hx h6
  go_enter Try.func39, Try.ntmps39
  go_wp2_with (go_at_call 25; (refine (hh _).mono ?_; rintro e w' ⟨rfl, rfl⟩))
  refine bodyPost_ret (results_cell_row (p := 5) (ty := 30) (by kernel_rfl) _ _ w.heap.size 30 _ (0, 0) _ rfl (HK.blk_alloc (set_new _ _ _ _) _) Try.underlying30 rfl (by kernel_rfl)) rfl ?_
  exact ⟨SL.nil, rfl, .nil _ _, HK.blk_alloc (HK.blk_alloc (HK.blk_set H.out.hi 0 _) _) _, ((HK.Frm.setCell (F := (· = Bi)) (p := ⟨Bi, 0, none⟩) (HK.Frm.refl _ w) (.inl rfl) _).alloc _).alloc _⟩
set_option maxRecDepth 100000 in
set_option maxHeartbeats 2000000 in
/-- A number that tells an assumption. -/
theorem make_leaf (x : Nat) (hx : L[i]? = some x) (h60 : i < 60) (h6 : ¬ x % 6 = 0) (h7 : x % 6 = 1 ∨ f = 0) : Calls Try.prog 39 #[.int .i64 deep, .pointer (some ⟨Bi, 0, none⟩), .pointer (some ⟨Bl, 0, none⟩), .pointer (some ⟨Bm, 0, none⟩)] w (RetM w Bi (mkT L f i)) := by
  rw [mkT_leaf h60 hx h6 h7]
  have cb := fun o => HK.blk_cell (HK.blk_alloc h.hi o) 0
  have cf := fun o => HK.blk_frozen (HK.blk_alloc h.hi o) 0
  have cl := fun o => HK.blk_cell (HK.blk_alloc h.hl o) 0
  obtain ⟨x255, ad, rfl, cx, hne⟩ := h.hc i x hx
  have hadlt := World.block_lt_of_cell? w _ cx
  have cx2 : ∀ o, (w.alloc o).cell? (ad.add i) = some (.int .u8 x) := fun o => (World.cell?_of_block (Below.heap_alloc w o _ hadlt)).trans cx
  have hln := (List.getElem?_eq_some_iff.1 hx).1
  have hn := h.hn
  have b1 : (i : Int) < (n : Int) := by omega
  have b2 : (i : Int) < 60 := by omega
  have b0 : (0 : Int) ≤ (i : Int) := by omega
  have hbl := HK.blk_lt h.hi
  have hbn : w.heap.size ≠ Bi := by omega
  have hbn2 : Bi ≠ w.heap.size := by omega
  have H := Lib.hid h
  have HN := Lib.hid hn
  clear h hn cx hln hx
  simp only [RetM, leafT, PT.arr, PT.rule, PT.o, PO.nil, SL.nil, SL.v, PT.subs]
  by_cases h1 : x % 6 = 1
  · have b3 : (x : Int) % 6 = 1 := by omega
    clear h6 h7 h1
    go_enter Try.func39, Try.ntmps39
    go_wp2_with (fail)
    refine bodyPost_ret (results_cell_row (p := 5) (ty := 30) (by kernel_rfl) _ _ w.heap.size 30 _ (0, 0) _ rfl (set_new _ _ _ _) Try.underlying30 rfl (by kernel_rfl)) rfl ?_
    exact ⟨SL.nil, rfl, .nil _ _, HK.blk_alloc (HK.blk_set H.out.hi 0 _) _, (HK.Frm.setCell (F := (· = Bi)) (p := ⟨Bi, 0, none⟩) (HK.Frm.refl _ w) (.inl rfl) _).alloc _⟩
  · obtain ⟨r, hr⟩ : ∃ r : Nat, (x : Int) % 6 = (r : Int) := ⟨x % 6, by omega⟩
    have b3 : (x : Int) % 6 = (r : Int) := hr
    have b4 : ((r : Int) == 0) = false := by simp; omega
    have b5 : ((r : Int) == 1) = false := by simp; omega
    have b6 : ((deep : Int) == 12) = true := by simp; omega
    clear h6 h7 h1 hr
    go_enter Try.func39, Try.ntmps39
    go_wp2_with (fail)
    refine bodyPost_ret (results_cell_row (p := 5) (ty := 30) (by kernel_rfl) _ _ w.heap.size 30 _ (0, 0) _ rfl (set_new _ _ _ _) Try.underlying30 rfl (by kernel_rfl)) rfl ?_
    exact ⟨SL.nil, rfl, .nil _ _, HK.blk_alloc (HK.blk_set H.out.hi 0 _) _, (HK.Frm.setCell (F := (· = Bi)) (p := ⟨Bi, 0, none⟩) (HK.Frm.refl _ w) (.inl rfl) _).alloc _⟩
end
end Go.Proofs.Ytfebcpmbkljaoaa
