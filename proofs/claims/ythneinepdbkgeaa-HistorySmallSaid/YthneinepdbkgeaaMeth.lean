/- The walks of the tree's small methods. -/
import Derived.Test.YthneinepdbkgeaaAdd
import Derived.Test.YthneinepdbkgeaaLead
import Derived.Test.YthneinepdbkgeaaRev
import Derived.Test.YthneinepdbkgeaaPureB
import Derived.Deep.RegionLaw
import Derived.StillTailTactics
namespace Go.Proofs.Ythneinepdbkgeaa
open Go.RowKit Go.HK
set_option linter.unusedVariables false
set_option linter.unusedSimpArgs false
set_option linter.unusedSectionVars false

/-- The world holds, at block t, with the footprint F, the tree with these entries, the present one being now. -/
def Hist (w : World) (t : Nat) (F : List Nat) (nodes : List HN) (now : Nat) : Prop := WF nodes now ∧ TreeG w t F nodes (kidsOf nodes) (idxOf nodes) now

theorem Hist.stay {w w' : World} {t : Nat} {F : List Nat} {nodes : List HN} {now : Nat} (h : Hist w t F nodes now) {G : Nat → Prop} (hf : Frm G w w') (hF : ∀ b ∈ F, ¬ G b) : Hist w' t F nodes now := ⟨h.1, h.2.stay hf hF⟩
theorem Hist.drew {w : World} {t : Nat} {F : List Nat} {nodes : List HN} {now : Nat} (h : Hist w t F nodes now) : Hist w.drew t F nodes now := h.stay (G := fun _ => False) (Frm.refl _ w).drew (fun _ _ => id)
theorem Hist.drewN {w : World} {t : Nat} {F : List Nat} {nodes : List HN} {now : Nat} (h : Hist w t F nodes now) (n : Nat) : Hist (w.drewN n) t F nodes now := h.stay (G := fun _ => False) ((Frm.refl _ w).drewN n) (fun _ _ => id)
theorem Hist.lt {w : World} {t : Nat} {F : List Nat} {nodes : List HN} {now : Nat} (h : Hist w t F nodes now) : ∀ b ∈ F, b < w.heap.size := h.2.lt

/-- What the walks read of it. -/
structure HistAt (w : World) (t g cp m : Nat) (nodes : List HN) (now : Nat) : Prop where
  c0 : w.cell? ⟨t, 0, none⟩ = some (.slice (some ⟨g, 0, none⟩) nodes.length cp)
  c1 : w.cell? ⟨t, 1, none⟩ = some (.map (some m))
  c2 : w.cell? ⟨t, 2, none⟩ = some (.int .i64 now)
  c3 : w.cell? ⟨t, 3, none⟩ = some (.pointer (some ⟨t, 0, none⟩))
  nd : ∀ (i : Nat) (x : HN), nodes[i]? = some x → w.cell? ⟨g, i * 6, none⟩ = some (.int .i64 x.par) ∧ w.cell? ⟨g, i * 6 + 1, none⟩ = some (.int .i64 x.tick) ∧ w.cell? ⟨g, i * 6 + 2, none⟩ = some (.string x.note) ∧ w.cell? ⟨g, i * 6 + 3, none⟩ = some (.string x.state) ∧ w.cell? ⟨g, i * 6 + 5, none⟩ = some (.int .i64 x.fav)

theorem Hist.at_ {w : World} {t : Nat} {F : List Nat} {nodes : List HN} {now : Nat} (h : Hist w t F nodes now) : ∃ g cp m kv es clock gs, HistAt w t g cp m nodes now ∧ TreeC w t (.slice (some ⟨g, 0, none⟩) nodes.length cp) m kv es clock gs nodes (kidsOf nodes) (idxOf nodes) now ∧ F = foot t m (.slice (some ⟨g, 0, none⟩) nodes.length cp) kv gs := by
  obtain ⟨hw, nv, m, kv, es, clock, gs, hC, rfl⟩ := h
  obtain ⟨g, cp, rfl, _, _⟩ := hC.hN.form hw.pos
  refine ⟨g, cp, m, kv, es, clock, gs, ⟨blk_cell hC.hT 0, blk_cell hC.hT 1, blk_cell hC.hT 2, blk_cell hC.hT 3, fun i x hx => ?_⟩, hC, rfl⟩
  have hi : i < nodes.length := (List.getElem?_eq_some_iff.1 hx).1
  have hkl := hC.hkl
  obtain ⟨k, hk⟩ : ∃ k, kv[i]? = some k := ⟨_, List.getElem?_eq_getElem (by omega)⟩
  have hg : ∀ j, j < 6 → w.cell? ⟨g, i * 6 + j, none⟩ = (nodeCells x k)[j]? := fun j hj => (hC.hN.cellAt _ (by omega)).trans (flat_get _ _ _ _ _ _ hx hk hj)
  exact ⟨hg 0 (by omega), hg 1 (by omega), hg 2 (by omega), hg 3 (by omega), hg 5 (by omega)⟩

section
variable {w : World} {t g cp m : Nat} {nodes : List HN} {now : Nat}

set_option maxRecDepth 100000 in
set_option maxHeartbeats 400000 in
theorem has_yes (h : HistAt w t g cp m nodes now) (hle : nodes.length ≤ 1000) (n : Int) (h0 : 0 ≤ n) (h1 : n < nodes.length) :
    Calls Try.prog 60 #[.pointer (some ⟨t, 0, none⟩), .int .i64 n] w fun e w' => e = .returned (.bool true) ∧ w = w' := by
  have c0 := h.c0
  go_enter Try.func60, Try.ntmps60
  go_wp2
  go_ret
  exact ⟨rfl, rfl⟩
set_option maxRecDepth 100000 in
set_option maxHeartbeats 400000 in
theorem has_no (h : HistAt w t g cp m nodes now) (hle : nodes.length ≤ 1000) (n : Int) (hn : ¬ (0 ≤ n ∧ n < nodes.length)) :
    Calls Try.prog 60 #[.pointer (some ⟨t, 0, none⟩), .int .i64 n] w fun e w' => e = .returned (.bool false) ∧ w = w' := by
  have c0 := h.c0
  by_cases h0 : 0 ≤ n
  · have h1 : ¬ n < nodes.length := fun h1 => hn ⟨h0, h1⟩
    clear hn
    go_enter Try.func60, Try.ntmps60
    go_wp2
    go_ret
    exact ⟨rfl, rfl⟩
  · clear hn
    go_enter Try.func60, Try.ntmps60
    go_wp2
    go_ret
    exact ⟨rfl, rfl⟩

/-- What find answers. -/
def findE (nodes : List HN) (ks : List Int) : Int := if ks.all (fun k => decide (0 ≤ k ∧ k < nodes.length)) then 0 else 6

set_option maxRecDepth 100000 in
set_option maxHeartbeats 1000000 in
theorem find_any (h : HistAt w t g cp m nodes now) (hle : nodes.length ≤ 1000) (B : Nat) (ks : List Int) (hks : ks.length ≤ 10) (hk : ∀ j k, ks[j]? = some k → w.cell? ⟨B, j, none⟩ = some (.int .i64 k)) (cap : Nat) :
    Calls Try.prog 40 #[.pointer (some ⟨t, 0, none⟩), .slice (some ⟨B, 0, none⟩) ks.length cap] w fun e w' => e = .returned (.int .i64 (findE nodes ks)) ∧ w = w' := by
  have c3 := h.c3
  obtain ⟨N, hN⟩ : ∃ N, N = ks.length := ⟨_, rfl⟩
  have hN10 : N ≤ 10 := by omega
  rw [← hN]
  have HN' := Lib.hid hN
  clear hN hks
  go_enter Try.func40, Try.ntmps40
  go_wp2_with (go_at_call 36; refine (usable_yes t _ c3).mono ?_; rintro e w' ⟨rfl, rfl⟩)
  go_loop [12] (fun i => ∃ k : Nat, k ≤ N ∧ i = .int .i64 k ∧ ∀ x ∈ ks.take k, 0 ≤ x ∧ x < nodes.length) (fun i => N - (intOf i).toNat)
  case atStart => exact ⟨0, Nat.zero_le _, rfl, by simp⟩
  case round =>
    obtain ⟨k, hkN, rfl, hall⟩ := hrel
    by_cases hlt : k < N
    · obtain ⟨x, hx⟩ : ∃ x, ks[k]? = some x := ⟨_, List.getElem?_eq_getElem (by have := HN'.out; omega)⟩
      have hc := hk k x hx
      have b0 : (0 : Int) ≤ (k : Int) := by omega
      by_cases hin : 0 ≤ x ∧ x < nodes.length
      · go_wp2_with (go_at_call 60; refine (has_yes h hle x hin.1 hin.2).mono ?_; rintro e w' ⟨rfl, rfl⟩)
        go_round
        case rel =>
          refine ⟨k + 1, by omega, by go_num, fun y hy => ?_⟩
          rw [List.take_add_one, hx] at hy
          rcases List.mem_append.1 hy with hy | hy
          · exact hall y hy
          · simp at hy; subst hy; exact hin
        case measure => simp [intOf]; omega
      · have hf : findE nodes ks = 6 := by
          unfold findE
          rw [if_neg]
          intro ha
          have := List.all_eq_true.1 ha x (List.mem_of_getElem? hx)
          exact hin (by simpa using this)
        have Hf := Lib.hid hf
        clear hf
        go_wp2_with (go_at_call 60; refine (has_no h hle x hin).mono ?_; rintro e w' ⟨rfl, rfl⟩)
        go_ret
        exact ⟨by rw [Hf.out]; rfl, rfl⟩
    · have hf : findE nodes ks = 0 := by
        unfold findE
        rw [if_pos]
        rw [List.all_eq_true]
        intro y hy
        have := hall y (by rw [List.take_of_length_le (by have := HN'.out; omega)]; exact hy)
        simpa using this
      have Hf := Lib.hid hf
      clear hf
      go_wp2
      go_ret
      exact ⟨by rw [Hf.out]; rfl, rfl⟩
end

theorem below_drewN {B : Nat} {a w : World} (h : Below B a w) (n : Nat) : Below B a (w.drewN n) := ⟨h.os, h.tape, h.output, h.size, h.block⟩
/-- What is left of the tree by whatever may have changed it. -/
def HPost (w : World) (t : Nat) (F : List Nat) (nodes : List HN) (now : Nat) (w' : World) : Prop := ∃ F', Hist w' t F' nodes now ∧ Frm (· ∈ F) w w' ∧ ∀ b ∈ F', b ∈ F ∨ w.heap.size ≤ b
theorem HPost.of_hist {w w' : World} {t : Nat} {F : List Nat} {nodes : List HN} {now : Nat} (h : Hist w' t F nodes now) (hf : Frm (· ∈ F) w w') : HPost w t F nodes now w' := ⟨F, h, hf, fun _ hb => .inl hb⟩
theorem _root_.Go.HK.WF.at_ {nodes : List HN} {now n : Nat} (h : WF nodes now) (hn : n < nodes.length) : WF nodes n := ⟨h.pos, h.le, hn, h.root, h.par, h.fav⟩
theorem stateF_get {nodes : List HN} {i : Nat} {x : HN} (h : nodes[i]? = some x) : stateF nodes i = x.state := by simp [stateF, h]
theorem parF_get {nodes : List HN} {i : Nat} {x : HN} (h : nodes[i]? = some x) : parF nodes i = x.par := by simp [parF, h]
theorem favF_get {nodes : List HN} {i : Nat} {x : HN} (h : nodes[i]? = some x) : favF nodes i = x.fav := by simp [favF, h]
theorem tickF_get {nodes : List HN} {i : Nat} {x : HN} (h : nodes[i]? = some x) : tickF nodes i = x.tick := by simp [tickF, h]
theorem noteF_get {nodes : List HN} {i : Nat} {x : HN} (h : nodes[i]? = some x) : noteF nodes i = x.note := by simp [noteF, h]
theorem get_of_lt {nodes : List HN} {i : Nat} (h : i < nodes.length) : ∃ x, nodes[i]? = some x := ⟨_, List.getElem?_eq_getElem h⟩

section
variable {w : World} {t : Nat} {F : List Nat} {nodes : List HN} {now : Nat}

set_option maxRecDepth 100000 in
set_option maxHeartbeats 1000000 in
theorem now_any (h : Hist w t F nodes now) : Calls Try.prog 14 #[.pointer (some ⟨t, 0, none⟩)] w fun e w' => e = .returned (.tuple #[.int .i64 now, .string (stateF nodes now)]) ∧ Below w.heap.size w w' := by
  obtain ⟨g, cp, m, kv, es, clock, gs, hA, hC, rfl⟩ := h.at_
  have hle := h.1.le
  have hnow := h.1.now
  obtain ⟨x, hx⟩ := get_of_lt hnow
  obtain ⟨_, _, _, hs, _⟩ := hA.nd now x hx
  have c0 := hA.c0
  have c2 := hA.c2
  have c3 := hA.c3
  have Hx := Lib.hid hx
  clear hx
  go_enter Try.func14, Try.ntmps14
  go_wp2_with (go_at_call 36; refine (usable_yes t _ c3).mono ?_; rintro e w' ⟨rfl, rfl⟩)
  go_quiet (fail)
  go_wp2
  go_ret2
  exact ⟨by rw [stateF_get Hx.out]; rfl, below_drewN (Below.refl _ _) _⟩

set_option maxRecDepth 100000 in
set_option maxHeartbeats 400000 in
theorem len_any (h : Hist w t F nodes now) : Calls Try.prog 20 #[.pointer (some ⟨t, 0, none⟩)] w fun e w' => e = .returned (.int .i64 nodes.length) ∧ w = w' := by
  obtain ⟨g, cp, m, kv, es, clock, gs, hA, hC, rfl⟩ := h.at_
  have c0 := hA.c0
  have c3 := hA.c3
  go_enter Try.func20, Try.ntmps20
  go_wp2_with (go_at_call 36; refine (usable_yes t _ c3).mono ?_; rintro e w' ⟨rfl, rfl⟩)
  go_ret
  exact ⟨rfl, rfl⟩

set_option maxRecDepth 100000 in
set_option maxHeartbeats 1000000 in
theorem move_any (h : Hist w t F nodes now) (n : Nat) (hn : n < nodes.length) : Calls Try.prog 37 #[.pointer (some ⟨t, 0, none⟩), .int .i64 n] w fun e w' => e = .returned (.string (stateF nodes n)) ∧ Hist w' t F nodes n ∧ Frm (· ∈ F) w w' := by
  obtain ⟨g, cp, m, kv, es, clock, gs, hA, hC, rfl⟩ := h.at_
  have hle := h.1.le
  obtain ⟨x, hx⟩ := get_of_lt hn
  obtain ⟨_, _, _, hs, _⟩ := hA.nd n x hx
  have c0 := hA.c0
  have c2 := hA.c2
  have f2 := blk_frozen hC.hT 2
  have hgt : g ≠ t := fun e => (hC.ne.2 _ tv_nv).1 (by rw [← e]; rfl)
  have Hx := Lib.hid hx
  clear hx
  have hs2 : (w.setCell ⟨t, 2, none⟩ (.int .i64 n)).cell? ⟨g, n * 6 + 3, none⟩ = some (.string x.state) := by
    rw [World.cell?_setCell_other]
    · exact hs
    · intro e; exact hgt (by injection e with e1; exact e1.symm)
  go_enter Try.func37, Try.ntmps37
  go_wp2
  go_ret
  refine ⟨by rw [stateF_get Hx.out]; rfl, ⟨h.1.at_ hn, _, _, _, _, _, _, hC.at_ n (Frm.setCell (F := fun b => b = t) (Frm.refl _ _) (p := ⟨t, 2, none⟩) (.inl rfl) _) (by have := blk_set hC.hT 2 (.int .i64 (n : Int)); simpa using this), rfl⟩, Frm.setCell (Frm.refl _ _) (p := ⟨t, 2, none⟩) (.inl foot_t) _⟩

set_option maxRecDepth 100000 in
set_option maxHeartbeats 1000000 in
theorem undo_root (h : Hist w t F nodes 0) : Calls Try.prog 15 #[.pointer (some ⟨t, 0, none⟩)] w fun e w' => e = .returned (.tuple #[.string ⟨#[]⟩, .int .i64 6]) ∧ w = w' := by
  obtain ⟨g, cp, m, kv, es, clock, gs, hA, hC, rfl⟩ := h.at_
  have c2 := hA.c2
  have c3 := hA.c3
  go_enter Try.func15, Try.ntmps15
  go_wp2_with (go_at_call 36; refine (usable_yes t _ c3).mono ?_; rintro e w' ⟨rfl, rfl⟩)
  go_ret2
  exact ⟨rfl, rfl⟩

set_option maxRecDepth 100000 in
set_option maxHeartbeats 2000000 in
theorem undo_up (h : Hist w t F nodes now) (h0 : now ≠ 0) : Calls Try.prog 15 #[.pointer (some ⟨t, 0, none⟩)] w fun e w' => e = .returned (.tuple #[.string (stateF nodes (parF nodes now).toNat), .int .i64 0]) ∧ HPost w t F nodes (parF nodes now).toNat w' := by
  obtain ⟨g, cp, m, kv, es, clock, gs, hA, hC, rfl⟩ := h.at_
  have hle := h.1.le
  have hnow := h.1.now
  obtain ⟨x, hx⟩ := get_of_lt hnow
  obtain ⟨hp, _, _, _, _⟩ := hA.nd now x hx
  have hpar := h.1.par now (by omega) hnow
  rw [parF_get hx] at hpar
  obtain ⟨q, hq⟩ : ∃ q : Nat, x.par = q := ⟨x.par.toNat, by omega⟩
  rw [hq] at hp hpar
  have hql : q < nodes.length := by omega
  have c0 := hA.c0
  have c2 := hA.c2
  have c3 := hA.c3
  have hd : ((now : Int) == 0) = false := by simp; omega
  have hpq : (parF nodes now).toNat = q := by rw [parF_get hx, hq]; rfl
  rw [hpq]
  clear hx hq hpq
  go_enter Try.func15, Try.ntmps15
  go_wp2_with (go_at_call 36; refine (usable_yes t _ c3).mono ?_; rintro e w' ⟨rfl, rfl⟩)
  go_still_tail 14, (by kernel_rfl)
  change wpList _ _ _ _ _ w.drew
  have hd := h.drew
  go_wp2_with (go_at_call 37; refine (move_any hd q hql).mono ?_; rintro e w1 ⟨rfl, hH, hF⟩)
  go_ret2
  exact ⟨rfl, .of_hist hH ((Frm.refl _ _).drew.trans hF)⟩

set_option maxRecDepth 100000 in
set_option maxHeartbeats 2000000 in
theorem redo_none (h : Hist w t F nodes now) (h0 : favF nodes now = -1) : Calls Try.prog 16 #[.pointer (some ⟨t, 0, none⟩)] w fun e w' => e = .returned (.tuple #[.string ⟨#[]⟩, .int .i64 6]) ∧ Below w.heap.size w w' := by
  obtain ⟨g, cp, m, kv, es, clock, gs, hA, hC, rfl⟩ := h.at_
  have hle := h.1.le
  have hnow := h.1.now
  obtain ⟨x, hx⟩ := get_of_lt hnow
  obtain ⟨_, _, _, _, hp⟩ := hA.nd now x hx
  have hq : x.fav = -1 := by rw [← favF_get hx]; exact h0
  rw [hq] at hp
  have c0 := hA.c0
  have c2 := hA.c2
  have c3 := hA.c3
  clear hx hq h0
  go_enter Try.func16, Try.ntmps16
  go_wp2_with (go_at_call 36; refine (usable_yes t _ c3).mono ?_; rintro e w' ⟨rfl, rfl⟩)
  go_quiet (fail)
  go_wp2_with (fail)
  go_ret2
  exact ⟨rfl, below_drewN (Below.refl _ _) _⟩

set_option maxRecDepth 100000 in
set_option maxHeartbeats 2000000 in
theorem redo_down (h : Hist w t F nodes now) (q : Nat) (h0 : favF nodes now = q) (hql : q < nodes.length) : Calls Try.prog 16 #[.pointer (some ⟨t, 0, none⟩)] w fun e w' => e = .returned (.tuple #[.string (stateF nodes q), .int .i64 0]) ∧ HPost w t F nodes q w' := by
  obtain ⟨g, cp, m, kv, es, clock, gs, hA, hC, rfl⟩ := h.at_
  have hle := h.1.le
  have hnow := h.1.now
  obtain ⟨x, hx⟩ := get_of_lt hnow
  obtain ⟨_, _, _, _, hp⟩ := hA.nd now x hx
  have hq : x.fav = q := by rw [← favF_get hx]; exact h0
  rw [hq] at hp
  have c0 := hA.c0
  have c2 := hA.c2
  have c3 := hA.c3
  have b0 : (0 : Int) ≤ (q : Int) := by omega
  clear hx hq h0
  go_enter Try.func16, Try.ntmps16
  go_wp2_with (go_at_call 36; refine (usable_yes t _ c3).mono ?_; rintro e w' ⟨rfl, rfl⟩)
  go_quiet (fail)
  have hd := h.drewN nq
  go_wp2_with (go_at_call 37; refine (move_any hd q hql).mono ?_; rintro e w1 ⟨rfl, hH, hF⟩)
  go_ret2
  exact ⟨rfl, .of_hist hH (((Frm.refl _ _).drewN nq).trans hF)⟩

/-- lead and lead's tree. -/
theorem lead_any (h : Hist w t F nodes now) (i : Nat) (hi : i < nodes.length) : Calls Try.prog 39 #[.pointer (some ⟨t, 0, none⟩), .int .i64 i] w fun e w' => e = .returned (.tuple #[]) ∧ Hist w' t F (lead nodes i) now ∧ Frm (· ∈ F) w w' := by
  obtain ⟨g, cp, m, kv, es, clock, gs, hA, hC, rfl⟩ := h.at_
  refine (callsIn_wide.1 (lead_in w t g nodes.length cp m kv es clock gs nodes _ _ now i hC rfl h.1 hi)).mono ?_
  rintro e w' ⟨rfl, hC', hF⟩
  refine ⟨rfl, ⟨h.1.lead hi, ?_⟩, hF⟩
  rw [kidsOf_lead, idxOf_lead]
  exact ⟨_, _, _, _, _, _, hC', rfl⟩
/-- add, the parent being there. -/
theorem add_hist (h : Hist w t F nodes now) (hle : nodes.length < 1000) (par : Nat) (hp : par < nodes.length) (tick : Int) (note state : ByteArray) :
    Calls Try.prog 38 #[.pointer (some ⟨t, 0, none⟩), .agg #[.int .i64 par, .int .i64 tick, .string note, .string state]] w fun e w' => e = .returned (.int .i64 nodes.length) ∧ HPost w t F (addN nodes par tick note state) now w' := by
  have hk : kidsOf nodes nodes.length = [] := by
    rw [kidsOf, List.filter_eq_nil_iff]
    intro x hx
    have := List.mem_range.1 hx
    have hp := h.1.par' x this
    simp
    omega
  refine (add_any w t F nodes _ _ now ⟨par, tick, note, state⟩ h.2 hle (.inr ⟨by simp, by simpa using hp⟩) hk (fun i => by have := kidsOf_len nodes i; omega) (fun s => by have := idxOf_len nodes s; omega)).mono ?_
  rintro e w' ⟨rfl, F', hG, hF, hb⟩
  have hne : nodes.length ≠ 0 := by omega
  rw [if_neg hne, if_neg hne] at hG
  refine ⟨rfl, F', ⟨h.1.addN hp hle tick note state, ?_⟩, hF, hb⟩
  rw [kidsOf_addN, idxOf_addN]
  exact hG
end
end Go.Proofs.Ythneinepdbkgeaa
