/- The walks of usable and add. -/
import Derived.Test.YthneinepdbkgeaaRows
import Derived.Test.YthneinepdbkgeaaMid
import Derived.Deep.RegionHeld3
import Derived.Deep.RegionLaw
import Derived.Deep.DeepCutAuto
import Derived.Deep.DrawnRows
import Derived.Lib.Hide
namespace Go.Proofs.Ythneinepdbkgeaa
open Go.RowKit Go.HK
set_option linter.unusedVariables false
set_option linter.unusedSimpArgs false
set_option linter.unusedSectionVars false
attribute [local go_sem ↓] Go.wp_at_zero Go.wp_at_succ

theorem ptrEq (b : Nat) (w : World) : (binOp .eql 24 (.pointer (some ⟨b, 0, none⟩)) (.pointer (some ⟨b, 0, none⟩))).run Try.prog w = .ok (.bool true) w :=
  run_eql_ptr_same w _ (te := 81) (j := (Try.prog.info? 81).getD default) (by kernel_rfl) (by kernel_rfl)

set_option maxRecDepth 100000 in
set_option maxHeartbeats 400000 in
theorem usable_yes (b : Nat) (w : World) (h : w.cell? ⟨b, 3, none⟩ = some (.pointer (some ⟨b, 0, none⟩))) :
    Calls Try.prog 36 #[.pointer (some ⟨b, 0, none⟩)] w fun e w' => e = .returned (.bool true) ∧ w = w' := by
  have he := ptrEq b w
  go_enter Try.func36, Try.ntmps36
  go_wp2
  go_ret
  exact ⟨rfl, rfl⟩

theorem info85 : (Try.prog.info? 85).map (fun i => (i.zero, i.size, i.bytes)) = some (some (.agg #[.int .i64 0, .int .i64 0, .string ⟨#[]⟩, .string ⟨#[]⟩, .slice none 0 0, .int .i64 0]), 6, 80) := by kernel_rfl
theorem elem77 : ElemOk Try.prog 77 85 6 80 := .mk' Try.underlying77 info85 rfl (by omega)
theorem info3 : (Try.prog.info? 3).map (fun i => (i.zero, i.size, i.bytes)) = some (some (.int .i64 0), 1, 8) := by kernel_rfl

theorem elem25 : ElemOk Try.prog 25 3 1 8 := .mk' Try.underlying25 info3 rfl (by omega)

structure HE where
  par : Int
  tick : Int
  note : ByteArray
  state : ByteArray
def HE.node (e : HE) : HN := ⟨e.par, e.tick, e.note, e.state, -1⟩

theorem zero25 (w : World) : (zeroValue 25).run Try.prog w = .ok (.slice none 0 0) w := by kernel_rfl
theorem lookup54 {w : World} {m : Nat} {es : Array MapEntry} {clock : Nat} {gs : List (ByteArray × Value)} (s : ByteArray) (hm : w.heap[m]? = some (.map es clock)) (hg : MapIs es.toList gs) :
    (Instr.lookup 54 (.map (some m)) (.string s) false).run Try.prog w = .ok ((gget gs s).getD (.slice none 0 0)) w :=
  run_lookup_str s Try.underlying54 Try.underlying9 (zero25 w) hm hg
theorem update54 {w : World} {m : Nat} {es : Array MapEntry} {clock : Nat} {gs : List (ByteArray × Value)} (s : ByteArray) (v : Value) (hm : w.heap[m]? = some (.map es clock)) (hg : MapIs es.toList gs) :
    ∃ es' clock', (Instr.mapUpdate 54 (.map (some m)) (.string s) v).run Try.prog w = .ok () (w.putObj m (.map es' clock')) ∧ MapIs es'.toList (gput gs s v) :=
  run_mapUpdate_str s v Try.underlying54 Try.underlying9 hm hg

/-- What add leaves. -/
def AddPost (w : World) (F : List Nat) (t : Nat) (nodes : List HN) (kf : Nat → List Nat) (xf : ByteArray → List Nat) (now : Nat) (e : HE) (w' : World) : Prop :=
  ∃ F', TreeG w' t F' (if nodes.length = 0 then [e.node] else (nodes ++ [e.node]).modify e.par.toNat fun x => { x with fav := nodes.length })
    (if nodes.length = 0 then kf else fun j => if j = e.par.toNat then kf e.par.toNat ++ [nodes.length] else kf j) (fun q => if q = e.state then xf e.state ++ [nodes.length] else xf q) now ∧ Frm (· ∈ F) w w' ∧ ∀ b ∈ F', b ∈ F ∨ w.heap.size ≤ b

set_option maxRecDepth 100000 in
set_option maxHeartbeats 4000000 in
theorem add_any (w : World) (t : Nat) (F : List Nat) (nodes : List HN) (kf : Nat → List Nat) (xf : ByteArray → List Nat) (now : Nat) (e : HE)
    (h : TreeG w t F nodes kf xf now) (hn : nodes.length < 1000) (hp : nodes.length = 0 ∨ (0 ≤ e.par ∧ e.par < nodes.length)) (hk : kf nodes.length = []) (hkl : ∀ i, (kf i).length ≤ 1000) (hxl : ∀ i, (xf i).length ≤ 1000) :
    Calls Try.prog 38 #[.pointer (some ⟨t, 0, none⟩), .agg #[.int .i64 e.par, .int .i64 e.tick, .string e.note, .string e.state]] w fun q w' =>
      q = .returned (.int .i64 nodes.length) ∧ AddPost w F t nodes kf xf now e w' := by
  obtain ⟨nv, m, kv, es, clock, gs, hC, rfl⟩ := h
  have hnv : ∃ a c, nv = .slice a nodes.length c := by
    rcases hC.hN.2 with ⟨e1, e2⟩ | ⟨g, cap, cur, e1, _⟩
    · exact ⟨none, 0, by rw [e1, e2]⟩
    · exact ⟨_, cap, e1⟩
  obtain ⟨na, nc, hnv'⟩ := hnv
  subst hnv'
  have hA : ∀ o, (w.alloc o).cell? ⟨t, 0, none⟩ = some (.slice na nodes.length nc) := fun o => blk_cell (blk_alloc hC.hT o) 0
  have hAf : ∀ o, (w.alloc o).frozen? ⟨t, 0, none⟩ = false := fun o => blk_frozen (blk_alloc hC.hT o) 0
  have ht := blk_lt hC.hT
  have at_ : (Value.slice na nodes.length nc).ownBlock ≠ some t := (hC.ne.2 _ (by simp [tvals])).1
  have ab_ : (Value.slice na nodes.length nc).ownBlock ≠ some w.heap.size := fun h0 => by have := (hC.hN.lt _ h0).2; omega
  go_enter Try.func38, Try.ntmps38
  go_upto_region 2 with (fail)
  go_cut [3, 5] (fun p3 n5 wx => n5 = .int .i64 nodes.length ∧ AddMid w (foot t m (.slice na nodes.length nc) kv gs) #[.int .i64 e.par, .int .i64 e.tick, .string e.note, .string e.state] t (nodes ++ [e.node]) kf xf now p3 wx)
  case first =>
    go_region_law
      ((refine step_app1 (by rfl) elem77 _ _ (by rfl) (.slice na nodes.length nc) nodes.length (flat nodes kv) (by rfl) (((hC.hN.alloc _).alloc _).drew) (w.heap.size + 1) 1 #[.int .i64 e.par, .int .i64 e.tick, .string e.note, .string e.state, .slice none 0 0, .int .i64 (-1)] (by rfl) (by rw [← World.size_alloc w]; exact heap_alloc_new _ _) (by rfl) (by simp [Value.oneCell']) (by simp only [maxLen]; omega) (by omega) ?_
        intro gg cap w1 hown1 hgrow hat hlt
        have hT1 := blk_grown2 hgrow (blk_drew (blk_alloc (blk_alloc hC.hT _) _)) (Ne.symm at_)
        have hc1 := blk_cell hT1 0
        have hf1 := blk_frozen hT1 0))
    all_goals (
      go_wp2_with (fail)
      go_meet
      case rel => exact ⟨rfl, mid_node (x := e.node) hC hk hgrow hown1 hat⟩)
  case rest =>
    obtain ⟨rfl, B, F1, rfl, hbox, ⟨nv1, m1, kv1, es1, clock1, gs1, hC1, rfl⟩, hBF, hB, hfr, hF⟩ := hcut
    clear hA hAf
    have hne1 := hC1.ne
    obtain ⟨u, hu⟩ : ∃ u, (gget gs1 e.state).getD (.slice none 0 0) = u := ⟨_, rfl⟩
    have hB3 : wc.cell? ⟨B, 3, none⟩ = some (.string e.state) := blk_cell hbox 3
    have hT1 : wc.cell? ⟨t, 1, none⟩ = some (.map (some m1)) := blk_cell hC1.hT 1
    have hl1 : (Instr.lookup 54 (.map (some m1)) (.string e.state) false).run Try.prog wc.drew = .ok u wc.drew := by rw [← hu]; exact lookup54 _ (blk_drew hC1.hM) hC1.hMI
    have hl2 : ∀ o, (Instr.lookup 54 (.map (some m1)) (.string e.state) false).run Try.prog (wc.alloc o).drew = .ok u (wc.alloc o).drew := fun o => by rw [← hu]; exact lookup54 _ (blk_drew (blk_alloc hC1.hM o)) hC1.hMI
    have hown0 : wc.ownsRow 0 3 1 u (xf e.state).length (ints (xf e.state)) ∧ (u = .slice none 0 0 ∨ u ∈ tvals nv1 kv1 gs1) := by
      rw [← hu]; exact hC1.grp e.state
    obtain ⟨hown0, huv⟩ := hown0
    have ut : u.ownBlock ≠ some t := huv.elim (fun h => by rw [h]; simp [Value.ownBlock]) (fun h => (hne1.2 u h).1)
    have um : u.ownBlock ≠ some m1 := huv.elim (fun h => by rw [h]; simp [Value.ownBlock]) (fun h => (hne1.2 u h).2)
    have uB : u.ownBlock ≠ some B := huv.elim (fun h => by rw [h]; simp [Value.ownBlock]) (fun h e => hBF (foot_v h e))
    have tm : t ≠ m1 := hne1.1
    have Bm : B ≠ m1 := fun e => hBF (by rw [e]; exact foot_m)
    have hTs := blk_lt hC1.hT
    have hBs := blk_lt hbox
    have Hu := Lib.hid hu
    clear hu
    go_upto_region 3 with (fail)
    go_cut [3, 5] (fun p3 n5 wx => n5 = .int .i64 nodes.length ∧ AddMid w (foot t m (.slice na nodes.length nc) kv gs) #[.int .i64 e.par, .int .i64 e.tick, .string e.note, .string e.state] t (nodes ++ [e.node]) kf (fun q => if q = e.state then xf e.state ++ [nodes.length] else xf q) now p3 wx)
    case first =>
      go_region_held3 (fun w' => w'.cell? ⟨t, 1, none⟩ = some (.map (some m1)) ∧ w'.cell? ⟨B, 3, none⟩ = some (.string e.state))
        (first
          | go_keep
          | (go_split_ands
             refine ⟨?_, ?_⟩
             · (rw [hgrow.cell_far _ (by simp; omega) (Ne.symm ut)]; assumption)
             · (rw [hgrow.cell_far _ (by simp; omega) (Ne.symm uB)]; assumption))
          | (go_split_ands
             refine ⟨?_, ?_⟩
             · (rw [cell_putObj tm]; assumption)
             · (rw [cell_putObj Bm]; assumption)))
        ((refine step_app1 (by rfl) elem25 _ _ (by rfl) u (xf e.state).length (ints (xf e.state)) (by rfl) (hown0.alloc _).drew wc.heap.size 1 #[.int .i64 nodes.length] (by rfl) (heap_alloc_new _ _) (by rfl) (by simp [Value.oneCell']) (by have := hxl e.state; simp only [maxLen]; omega) (by have := hxl e.state; omega) ?_
          intro gg cap w1 hown1 hgrow hat hlt
          obtain ⟨es', clock', hmu, hmi⟩ := update54 e.state (.slice (some ⟨gg, 0, none⟩) ((xf e.state).length + 1) cap) (blk_grown2 hgrow (blk_drew (blk_alloc hC1.hM _)) (Ne.symm um)) hC1.hMI))
      all_goals (
        go_wp2_with (fail)
        go_meet
        case rel => exact ⟨rfl, mid_file hC1 hbox hBF hB hfr hF (by rw [Hu.out]; exact hgrow) hown1 (by rw [Hu.out]; exact hat) hmi⟩)
    case rest =>
      clear hl1 hl2 ut um uB tm Bm hTs hBs Hu huv hown0 hB3 hT1 hfr hF hB hBF hbox hC1 hne1
      obtain ⟨rfl, B, F1, rfl, hbox, ⟨nv1, m1, kv1, es1, clock1, gs1, hC1, rfl⟩, hBF, hB, hfr, hF⟩ := hcut
      obtain ⟨g, cp, rfl, _, _⟩ := hC1.hN.form (by simp)
      by_cases hz : nodes.length = 0
      · have hd : decide ((0 : Int) < (nodes.length : Int)) = false := by simp [hz]
        go_wp2
        go_ret
        have hnil : nodes = [] := List.length_eq_zero_iff.1 hz
        subst hnil
        exact ⟨rfl, _, ⟨_, _, _, _, _, _, hC1, rfl⟩, hfr, hF⟩
      · obtain ⟨hp0, hp1⟩ := hp.resolve_left hz
        have hd : decide ((0 : Int) < (nodes.length : Int)) = true := by simp; omega
        have hlen : (nodes ++ [e.node]).length = nodes.length + 1 := by simp
        obtain ⟨i, hie⟩ := Int.eq_ofNat_of_zero_le hp0
        have hi' : i < nodes.length := by omega
        have hkl1 := hC1.hkl
        obtain ⟨k, hki⟩ : ∃ k, kv1[i]? = some k := ⟨_, List.getElem?_eq_getElem (by omega)⟩
        obtain ⟨x, hxi⟩ : ∃ x, (nodes ++ [e.node])[i]? = some x := ⟨_, List.getElem?_eq_getElem (by simp; omega)⟩
        have hcellN : ∀ j, j < 6 → wc.cell? ⟨g, i * 6 + j, none⟩ = (nodeCells x k)[j]? := fun j hj => by
          rw [hC1.hN.cellAt _ (by omega)]; exact flat_get _ _ _ _ _ _ hxi hki hj
        have hn4 : wc.cell? ⟨g, i * 6 + 4, none⟩ = some k := hcellN 4 (by omega)
        clear hcellN
        have hB0 : wc.cell? ⟨B, 0, none⟩ = some (.int .i64 i) := by rw [← hie]; exact blk_cell hbox 0
        have hT0 : wc.cell? ⟨t, 0, none⟩ = some (.slice (some ⟨g, 0, none⟩) (nodes.length + 1) cp) := by rw [← hlen]; exact blk_cell hC1.hT 0
        have b0 : (0 : Int) ≤ (i : Int) := by omega
        have b1 : (i : Int) < (nodes.length : Int) + 1 := by omega
        have hK1 := hC1.hK i k hki
        have hkn := hkl i
        have kg : k.ownBlock ≠ some g := fm_ne hC1.vnd (i := 0) (j := i + 1) rfl (tv_kid hki) (by omega) rfl
        have HL := Lib.hid hlen
        clear hlen
        have HK := Lib.hid hkl1
        clear hkl1
        have HX := Lib.hid hxi
        clear hxi
        have HI := Lib.hid hki
        clear hki
        have HE := Lib.hid hie
        clear hie
        go_wp2_with (fail)
        go_quiet (fail)
        go_wp2_with (
          at_builtin
          refine wpList_app1 rfl elem25 _ _ rfl k (kf i).length (ints (kf i)) rfl ((owns_drewN hK1 nq).alloc _) wc.heap.size 1 #[.int .i64 nodes.length] rfl (heap_alloc_new _ _) rfl (by simp [Value.oneCell']) (by simp only [maxLen]; omega) (by omega) ?_
          intro gg cap w1 hown1 hgrow hat hlt
          have hN1 := ((owns_drewN hC1.hN nq).alloc _).kept hgrow (.inr (Ne.symm kg))
          have hc4 : w1.cell? ⟨g, i * 6 + 4, none⟩ = some k := (hN1.cellAt _ (by have := HL.out; omega)).trans (flat_get _ _ _ _ _ _ HX.out HI.out (by omega))
          have hc5 : w1.cell? ⟨g, i * 6 + 5, none⟩ = some (.int .i64 x.fav) := (hN1.cellAt _ (by have := HL.out; omega)).trans (flat_get _ _ _ _ _ _ HX.out HI.out (by omega))
          have hf4 : w1.frozen? ⟨g, i * 6 + 4, none⟩ = false := hN1.frozenAt _
          have hf5 : w1.frozen? ⟨g, i * 6 + 5, none⟩ = false := hN1.frozenAt _)
        go_ret
        have hCq := hC1.stay (F := fun _ => False) ((Frm.refl _ wc).drewN nq) (fun _ _ => id)
        obtain ⟨hC3, hfr3, hF3⟩ := mid_child (w := w) hCq (hfr.drewN nq) hF HI.out hgrow hown1 hat
        obtain ⟨F4, hG4, hfr4, hF4⟩ := mid_fav (w := w) hC3 hfr3 hF3 i nodes.length
        have hei : e.par.toNat = i := by rw [HE.out]; rfl
        exact ⟨rfl, F4, by rw [if_neg hz, if_neg hz, hei]; exact hG4, hfr4, hF4⟩
end Go.Proofs.Ythneinepdbkgeaa
