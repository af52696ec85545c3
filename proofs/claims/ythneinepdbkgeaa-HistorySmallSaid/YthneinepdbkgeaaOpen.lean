/- The walk of Open. -/
import Derived.Test.YthneinepdbkgeaaRight
import Derived.Deep.RegionWith
namespace Go.Proofs.Ythneinepdbkgeaa
open Go.RowKit Go.HK
set_option linter.unusedVariables false
set_option linter.unusedSimpArgs false
set_option linter.unusedSectionVars false
theorem right_yes (w : World) (g n c : Nat) (es : List Ent) (now : Int) (hes : EntsAt w g es) (hlen : es.length = n) (hn : n ≤ 1000) (hR : Right es now) : Calls Try.prog 44 #[.slice (some ⟨g, 0, none⟩) n c, .int .i64 now] w fun e w' => e = .returned (.bool true) ∧ Below w.heap.size w w' :=
  (right_any w g n c es now hes hlen hn hR.1 (by have := hR.2.1; omega)).mono fun e w' ⟨b, h1, h2, h3⟩ => by
    have : b = true := h2.2 hR
    subst this
    exact ⟨h1, h3⟩
theorem right_no (w : World) (g n c : Nat) (es : List Ent) (now : Int) (hes : EntsAt w g es) (hlen : es.length = n) (hn : n ≤ 1000) (hR : ¬ Right es now) : Calls Try.prog 44 #[.slice (some ⟨g, 0, none⟩) n c, .int .i64 now] w fun e w' => e = .returned (.bool false) ∧ Below w.heap.size w w' := by
  by_cases h : 0 ≤ now ∧ now < n
  · refine (right_any w g n c es now hes hlen hn h.1 h.2).mono fun e w' ⟨b, h1, h2, h3⟩ => ?_
    cases b with
    | false => exact ⟨h1, h3⟩
    | true => exact absurd (h2.1 rfl) hR
  · exact (right_far w _ n c now hn h).mono fun e w' ⟨h1, h2⟩ => ⟨h1, h2 ▸ Below.refl _ _⟩
theorem ents_len (nodes : List Go.HK.HN) : (ents nodes).length = nodes.length := by simp [ents]
/-- An entry more, the first one being the root. -/
def addE (nodes : List Go.HK.HN) (e : Ent) : List Go.HK.HN := if nodes.length = 0 then [⟨e.par, e.tick, e.note, e.state, -1⟩] else addN nodes e.par.toNat e.tick e.note e.state
def addAll (es : List Ent) : List Go.HK.HN := es.foldl addE []
theorem ents_setFav (nodes : List Go.HK.HN) (i : Nat) (f : Int) : ents (setFav nodes i f) = ents nodes := by
  apply List.ext_getElem?
  intro j
  simp only [ents, List.getElem?_map, setFav_get]
  split
  · cases nodes[j]? <;> rfl
  · rfl
theorem ents_leadL : ∀ (xs : List Nat) (nodes : List Go.HK.HN) (c : Int), ents (leadL nodes c xs) = ents nodes
  | [], _, _ => rfl
  | x :: xs, nodes, c => by
    simp only [leadL]
    rw [ents_leadL xs]
    split
    · rw [ents_setFav]
    · rfl
theorem ents_lead (nodes : List Go.HK.HN) (n : Nat) : ents (lead nodes n) = ents nodes := ents_leadL _ _ _
theorem ents_addN (nodes : List Go.HK.HN) (par : Nat) (tick : Int) (note state : ByteArray) : ents (addN nodes par tick note state) = ents nodes ++ [⟨par, tick, note, state⟩] := by
  rw [addN, ents_setFav]; simp [ents, Go.HK.HN.ent]
theorem ents_addE (nodes : List Go.HK.HN) (e : Ent) (h : nodes.length = 0 ∨ 0 ≤ e.par) : ents (addE nodes e) = ents nodes ++ [e] := by
  unfold addE
  split
  · rename_i h0
    rw [List.length_eq_zero_iff.1 h0]; rfl
  · rename_i h0
    rw [ents_addN, Int.toNat_of_nonneg (h.resolve_left h0)]
theorem addAll_snoc (es : List Ent) (e : Ent) : addAll (es ++ [e]) = addE (addAll es) e := by simp [addAll, List.foldl_append]
theorem parF_ents (nodes : List Go.HK.HN) (x : Nat) : parF nodes x = (((ents nodes)[x]?).map (·.par)).getD (-1) := by
  simp only [parF, ents, List.getElem?_map]
  cases nodes[x]? <;> rfl
theorem tickF_ents (nodes : List Go.HK.HN) (x : Nat) : tickF nodes x = (((ents nodes)[x]?).map (·.tick)).getD 0 := by
  simp only [tickF, ents, List.getElem?_map]
  cases nodes[x]? <;> rfl
theorem noteF_ents (nodes : List Go.HK.HN) (x : Nat) : noteF nodes x = (((ents nodes)[x]?).map (·.note)).getD ByteArray.empty := by
  simp only [noteF, ents, List.getElem?_map]
  cases nodes[x]? <;> rfl
theorem stateF_ents (nodes : List Go.HK.HN) (x : Nat) : stateF nodes x = (((ents nodes)[x]?).map (·.state)).getD ByteArray.empty := by
  simp only [stateF, ents, List.getElem?_map]
  cases nodes[x]? <;> rfl
/-- The first entries of a tree make a tree. -/
theorem addAll_take {es : List Ent} {now : Int} (hR : Right es now) (hle : es.length ≤ 1000) : ∀ k, k ≤ es.length → ents (addAll (es.take k)) = es.take k ∧ (addAll (es.take k)).length = k ∧ (0 < k → WF (addAll (es.take k)) 0) := by
  intro k
  induction k with
  | zero => intro _; exact ⟨rfl, rfl, fun h => by omega⟩
  | succ k ih =>
    intro hk
    obtain ⟨i1, i2, i3⟩ := ih (by omega)
    obtain ⟨x, hx⟩ : ∃ x, es[k]? = some x := ⟨_, List.getElem?_eq_getElem (by omega)⟩
    have hok := hR.2.2 k x hx
    have ht : es.take (k + 1) = es.take k ++ [x] := by rw [List.take_add_one, hx]; rfl
    rw [ht, addAll_snoc]
    have hp : (addAll (es.take k)).length = 0 ∨ 0 ≤ x.par := by
      unfold okAt at hok
      split at hok
      · left; omega
      · right; exact hok.1
    refine ⟨by rw [ents_addE _ _ hp, i1], ?_, fun _ => ?_⟩
    · have := congrArg List.length (ents_addE _ _ hp)
      simp only [ents_len, List.length_append, List.length_cons, List.length_nil] at this
      omega
    · unfold addE
      unfold okAt at hok
      split
      · rename_i h0
        have hk0 : k = 0 := by omega
        rw [if_pos hk0] at hok
        refine ⟨by simp, by simp, by simp, by simp [parF, hok.1], fun y hy0 hy => by simp at hy; omega, fun y hy => .inl ?_⟩
        have : y = 0 := by simp at hy; omega
        subst this; rfl
      · rename_i h0
        have hk0 : ¬ k = 0 := by omega
        rw [if_neg hk0] at hok
        exact (i3 (by omega)).addN (by have := hok.2.1; omega) (by omega) _ _ _
/-- The tree that Open makes. -/
def openN (es : List Ent) (x : Nat) : List Go.HK.HN := lead (addAll es) x
def OpenI (w : World) (es : List Ent) (x : Nat) (e : Ending) (w' : World) : Prop := ∃ t F, e = .returned (.tuple #[.pointer (some ⟨t, 0, none⟩), .int .i64 0]) ∧ Hist w' t F (openN es x) x ∧ Below w.heap.size w w' ∧ ∀ b ∈ F, w.heap.size ≤ b
/-- What Open holds between two entries. -/
def OpW (w : World) (t : Nat) (nodes : List Go.HK.HN) (wr : World) : Prop := ∃ F, TreeG wr t F nodes (kidsOf nodes) (idxOf nodes) 0 ∧ Below w.heap.size w wr ∧ ∀ b ∈ F, w.heap.size ≤ b
theorem kidsOf_end {nodes : List Go.HK.HN} (h : nodes.length = 0 ∨ WF nodes 0) : kidsOf nodes nodes.length = [] := by
  rw [kidsOf, List.filter_eq_nil_iff]
  intro x hx
  simp only [List.mem_range] at hx
  rcases h with h | h
  · omega
  · have := h.par' x hx
    simp; omega
theorem op_add {w wr : World} {t : Nat} {nodes : List Go.HK.HN} (h : OpW w t nodes wr) (hw : nodes.length = 0 ∨ WF nodes 0) (hn : nodes.length < 1000) (x : Ent) (hp : nodes.length = 0 ∨ (0 ≤ x.par ∧ x.par < nodes.length)) (hp0 : nodes.length = 0 → x.par = -1) :
    Calls Try.prog 38 #[.pointer (some ⟨t, 0, none⟩), .agg #[.int .i64 x.par, .int .i64 x.tick, .string x.note, .string x.state]] wr fun e w' => e = .returned (.int .i64 nodes.length) ∧ OpW w t (addE nodes x) w' := by
  obtain ⟨F, hG, hB, hF⟩ := h
  refine (add_any wr t F nodes (kidsOf nodes) (idxOf nodes) 0 ⟨x.par, x.tick, x.note, x.state⟩ hG hn hp (kidsOf_end hw) (fun i => by have := kidsOf_len nodes i; omega) (fun i => by have := idxOf_len nodes i; omega)).mono ?_
  rintro e w' ⟨rfl, F', hG', hF', hb'⟩
  refine ⟨rfl, F', ?_, hB.trans (hF'.below hB.size (fun k hk => hF k hk)), fun b hb => (hb' b hb).elim (hF b) (fun h => Nat.le_trans hB.size h)⟩
  unfold addE
  by_cases h0 : nodes.length = 0
  · rw [if_pos h0] at hG' ⊢
    rw [if_pos h0] at hG'
    have e0 : nodes = [] := List.length_eq_zero_iff.1 h0
    subst e0
    have e1 : kidsOf [(⟨x.par, x.tick, x.note, x.state, -1⟩ : Go.HK.HN)] = kidsOf [] := by
      funext i
      have hx := hp0 h0
      simp only [kidsOf, List.length_cons, List.length_nil, List.range_succ, List.range_zero, List.nil_append, List.filter_cons, List.filter_nil]
      rw [if_neg]
      simp only [parF, List.getElem?_cons_zero, Option.map_some, Option.getD_some, hx]
      simp
    have e2 : idxOf [(⟨x.par, x.tick, x.note, x.state, -1⟩ : Go.HK.HN)] = fun q => if q = x.state then idxOf [] x.state ++ [0] else idxOf [] q := by
      funext q
      simp only [idxOf, List.length_cons, List.length_nil, List.range_succ, List.range_zero, List.nil_append, List.filter_cons, List.filter_nil]
      simp only [stateF, List.getElem?_cons_zero, Option.map_some, Option.getD_some]
      by_cases h : q = x.state
      · subst h; simp
      · have : ¬ x.state = q := fun e => h e.symm
        simp [h, this]
    rw [e1, e2]
    exact hG'
  · rw [if_neg h0] at hG' ⊢
    rw [if_neg h0] at hG'
    have hpp := hp.resolve_left h0
    obtain ⟨p, hpn⟩ : ∃ p : Nat, x.par = p := ⟨x.par.toNat, by omega⟩
    rw [kidsOf_addN, idxOf_addN]
    simp only [HE.node] at hG'
    rw [hpn] at hG' ⊢
    simp only [Int.toNat_natCast] at hG' ⊢
    exact hG'
theorem OpW.stay {w wr w' : World} {t : Nat} {nodes : List Go.HK.HN} (h : OpW w t nodes wr) (hB : Below wr.heap.size wr w') : OpW w t nodes w' := by
  obtain ⟨F, hG, hb, hF⟩ := h
  exact ⟨F, hG.stay (Frm.of_below hB (fun _ => False)) (fun _ _ => id), hb.trans (hB.mono hb.size), hF⟩
/-- Every state and note is short. -/
def Short (es : List Ent) : Prop := ∀ (j : Nat) (x : Ent), es[j]? = some x → x.state.size ≤ 16384 ∧ x.note.size ≤ 100
set_option maxRecDepth 100000 in
set_option maxHeartbeats 8000000 in
theorem open_yes (w : World) (g n c : Nat) (es : List Ent) (x : Nat) (hes : EntsAt w g es) (hlen : es.length = n) (hn : n ≤ 1000) (hS : Short es) (hR : Right es x) : Calls Try.prog 27 #[.slice (some ⟨g, 0, none⟩) n c, .int .i64 x] w (OpenI w es x) := by
  have HES := Lib.hid hes
  have HLEN := Lib.hid hlen
  have HS := Lib.hid hS
  have HR := Lib.hid hR
  clear hes hlen hS hR
  go_enter Try.func27, Try.ntmps27
  go_wp2_with (fail)
  go_loopw [16] (fun i wr => ∃ k : Nat, k ≤ n ∧ i = .int .i64 k ∧ Below w.heap.size w wr) (fun i _ => n - (intOf i).toNat)
  case atStart => exact ⟨0, by omega, rfl, Below.refl _ _⟩
  case round =>
    obtain ⟨k, hk, rfl, hB⟩ := hrel
    have HB := Lib.hid hB
    by_cases hkn : k < n
    · have d1 : decide (k < n) = true := decide_eq_true hkn
      have a0 : (0 : Int) ≤ (k : Int) := by omega
      have a1 : (k : Int) < (n : Int) := by omega
      obtain ⟨y, hy⟩ : ∃ y, es[k]? = some y := ⟨_, List.getElem?_eq_getElem (by rw [HLEN.out]; exact hkn)⟩
      obtain ⟨c0, c1, c2, c3⟩ := (HES.out.below hB (Nat.le_refl _)).c k y hy
      obtain ⟨s1, s2⟩ := HS.out k y hy
      obtain ⟨P, T, M, S⟩ := y
      simp only at c0 c1 c2 c3 s1 s2
      have s3 : decide (16384 < S.size) = false := decide_eq_false (by omega)
      have s4 : decide (100 < M.size) = false := decide_eq_false (by omega)
      clear hy hB
      go_wp2_with (fail)
      go_roundw
      case rel => exact ⟨k + 1, by omega, by go_num, HB.out.alloc HB.out.size _⟩
      case measure => simp [intOf]; omega
    · have d1 : decide (k < n) = false := decide_eq_false hkn
      obtain ⟨we, rfl⟩ : ∃ we : World, we = wr := ⟨_, rfl⟩
      clear hB
      go_wp2_with (first
        | (go_at_call 44; ((with_reducible refine (right_yes we g n c es x (HES.out.below HB.out (Nat.le_refl _)) HLEN.out hn HR.out).mono ?_); rintro e w2 ⟨rfl, hB2⟩; have HB2 := Lib.hid (HB.out.trans (hB2.mono HB.out.size)); clear hB2))
        | (go_at_call 45; (refine (start_any w2).mono ?_; rintro e w3 ⟨p, rfl, t, F0, rfl, hG, hB3, hF, htF⟩)))
      have hop : OpW w t (addAll (es.take 0)) w3 := ⟨F0, hG, HB2.out.trans (hB3.mono HB2.out.size), fun b hb => Nat.le_trans HB2.out.size (hF b hb)⟩
      clear hG hB3 hF htF
      have HOP := Lib.hid hop
      clear hop
      go_loopw [38] (fun i wr => ∃ j : Nat, j ≤ n ∧ i = .int .i64 j ∧ OpW w t (addAll (es.take j)) wr) (fun i _ => n - (intOf i).toNat)
      case atStart => exact ⟨0, by omega, rfl, HOP.out⟩
      case round =>
        obtain ⟨j, hj, rfl, hO⟩ := hrel
        have hBr : Below w.heap.size w wr := by obtain ⟨F, _, h, _⟩ := hO; exact h
        have HO := Lib.hid hO
        clear hO
        obtain ⟨at1, at2, at3⟩ := addAll_take HR.out (by rw [HLEN.out]; exact hn) j (by rw [HLEN.out]; exact hj)
        have A2 := Lib.hid at2
        have A3 := Lib.hid at3
        clear at1 at2 at3
        by_cases hjn : j < n
        · have d2 : decide (j < n) = true := decide_eq_true hjn
          have a0 : (0 : Int) ≤ (j : Int) := by omega
          have a1 : (j : Int) < (n : Int) := by omega
          obtain ⟨y, hy⟩ : ∃ y, es[j]? = some y := ⟨_, List.getElem?_eq_getElem (by rw [HLEN.out]; exact hjn)⟩
          obtain ⟨c0, c1, c2, c3⟩ := (HES.out.below hBr (Nat.le_refl _)).c j y hy
          have hok := HR.out.2.2 j y hy
          have ht : es.take (j + 1) = es.take j ++ [y] := by rw [List.take_add_one, hy]; rfl
          have hadd : ∀ o, Calls Try.prog 38 #[.pointer (some ⟨t, 0, none⟩), .agg #[.int .i64 y.par, .int .i64 y.tick, .string y.note, .string y.state]] (wr.alloc o).drew fun e w' => e = .returned (.int .i64 j) ∧ OpW w t (addAll (es.take (j + 1))) w' := fun o => by
            have h1 : OpW w t (addAll (es.take j)) (wr.alloc o).drew := HO.out.stay ((Below.refl _ wr).alloc (Nat.le_refl _) o).drew
            have h2 := op_add h1 (by
              by_cases h0 : j = 0
              · left; rw [A2.out]; exact h0
              · right; exact A3.out (by omega)) (by rw [A2.out]; omega) y (by
              rw [A2.out]
              unfold okAt at hok
              split at hok
              · left; assumption
              · right; exact ⟨hok.1, hok.2.1⟩) (fun h0 => by
              rw [A2.out] at h0
              unfold okAt at hok
              rw [if_pos h0] at hok
              exact hok.1)
            rw [A2.out] at h2
            rw [ht, addAll_snoc]
            exact h2
          have HADD := Lib.hid hadd
          obtain ⟨P, T, M, S⟩ := y
          simp only at c0 c1 c2 c3
          clear hy hok ht hadd hBr
          go_wp2_with (fail)
          go_region_with (go_at_call 38; (refine (HADD.out _).mono ?_; rintro e w5 ⟨rfl, hO5⟩; have HO5 := Lib.hid hO5; clear hO5))
          all_goals (
            simp only [Exit.inBlock, Exit.then]
            go_simp
            go_wp2_with (fail)
            go_roundw
            case rel => exact ⟨j + 1, by omega, by go_num, HO5.out⟩
            case measure => simp [intOf]; omega)
        · have d2 : decide (j < n) = false := decide_eq_false hjn
          obtain rfl : j = n := by omega
          have hx : x < j := by have := HR.out.2.1; rw [HLEN.out] at this; omega
          have hall : es.take j = es := List.take_of_length_le (by rw [HLEN.out]; exact Nat.le_refl _)
          have hHist : ∃ F, Hist wr t F (addAll es) 0 ∧ Below w.heap.size w wr ∧ ∀ b ∈ F, w.heap.size ≤ b := by
            obtain ⟨F, h1, h2, h3⟩ := HO.out
            have h4 := A3.out (by omega)
            rw [hall] at h1 h4
            exact ⟨F, ⟨h4, h1⟩, h2, h3⟩
          have hal : (addAll es).length = j := by have := A2.out; rw [hall] at this; exact this
          obtain ⟨F, hH, hB5, hF⟩ := hHist
          have HH := Lib.hid hH
          have HB5 := Lib.hid hB5
          have HF := Lib.hid hF
          have HAL := Lib.hid hal
          clear hH hB5 hF hall hal hBr
          go_wp2_with (first
            | (go_at_call 39; (refine (lead_any HH.out x (by rw [HAL.out]; exact hx)).mono ?_; rintro e w6 ⟨rfl, hH6, hF6⟩; have HH6 := Lib.hid hH6; have HF6 := Lib.hid hF6; clear hH6 hF6))
            | (go_at_call 37; (refine (move_any HH6.out x (by rw [lead_length, HAL.out]; exact hx)).mono ?_; rintro e w7 ⟨rfl, hH7, hF7⟩)))
          go_ret2
          exact ⟨t, F, rfl, hH7, HB5.out.trans ((HF6.out.trans hF7).below HB5.out.size (fun k hk => HF.out k hk)), HF.out⟩
end Go.Proofs.Ythneinepdbkgeaa
