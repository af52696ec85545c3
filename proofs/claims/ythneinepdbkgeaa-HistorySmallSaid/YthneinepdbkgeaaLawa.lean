/- Functions of the law: given (30), same (31), mark (63), OverInts (56). -/
import Derived.Test.YthneinepdbkgeaaRefo
import Derived.Test.YthneinepdbkgeaaSamo
import Derived.BigQuiet
namespace Go.Proofs.Ythneinepdbkgeaa
open Go.RowKit Go.HK
set_option linter.unusedVariables false
set_option linter.unusedSimpArgs false
set_option linter.unusedSectionVars false
/-- Entries at an address. -/
def EntsA (w : World) (a : Addr) (es : List Ent) : Prop := ∀ (i : Nat) (x : Ent), es[i]? = some x → w.cell? (a.add (i * 4)) = some (.int .i64 x.par) ∧ w.cell? (a.add (i * 4 + 1)) = some (.int .i64 x.tick) ∧ w.cell? (a.add (i * 4 + 2)) = some (.string x.note) ∧ w.cell? (a.add (i * 4 + 3)) = some (.string x.state)
theorem EntsA.below {w w' : World} {a : Addr} {es : List Ent} (h : EntsA w a es) (hB : Below w.heap.size w w') : EntsA w' a es := fun i x hx => by
  obtain ⟨h0, h1, h2, h3⟩ := h i x hx
  exact ⟨(hB.cell (World.block_lt_of_cell? w _ h0)).trans h0, (hB.cell (World.block_lt_of_cell? w _ h1)).trans h1, (hB.cell (World.block_lt_of_cell? w _ h2)).trans h2, (hB.cell (World.block_lt_of_cell? w _ h3)).trans h3⟩
theorem addr_fld (a : Addr) (m j : Nat) : (⟨(a.add m).block, (a.add m).off + (j + 1), none⟩ : Addr) = a.add (m + (j + 1)) := by
  have h : (a.add m).add (j + 1) = a.add (m + (j + 1)) := by
    unfold Addr.add
    by_cases h : m = 0
    · subst h; simp
    · simp [h, Nat.add_assoc]
  rw [← h]
  simp [Addr.add]
theorem EntsA.get {w : World} {a : Addr} {es : List Ent} (h : EntsA w a es) {i : Nat} {x : Ent} (hx : es[i]? = some x) : w.cell? (a.add (i * 4)) = some (.int .i64 x.par) ∧ w.cell? ⟨(a.add (i * 4)).block, (a.add (i * 4)).off + 1, none⟩ = some (.int .i64 x.tick) ∧ w.cell? ⟨(a.add (i * 4)).block, (a.add (i * 4)).off + 2, none⟩ = some (.string x.note) ∧ w.cell? ⟨(a.add (i * 4)).block, (a.add (i * 4)).off + 3, none⟩ = some (.string x.state) := by
  obtain ⟨h0, h1, h2, h3⟩ := h i x hx
  exact ⟨h0, (congrArg w.cell? (addr_fld a (i * 4) 0)).trans h1, (congrArg w.cell? (addr_fld a (i * 4) 1)).trans h2, (congrArg w.cell? (addr_fld a (i * 4) 2)).trans h3⟩
def RetG (w : World) (es : List Ent) (e : Ending) (w' : World) : Prop := ∃ v, e = .returned v ∧ w'.ownsRow w.heap.size 98 4 v es.length (entsFlat es) ∧ Below w.heap.size w w'
theorem take_ents {es : List Ent} {k : Nat} {x : Ent} (hx : es[k]? = some x) : entsFlat (es.take (k + 1)) = entsFlat (es.take k) ++ entCells x := by
  rw [List.take_add_one, hx, entsFlat_append]; simp [entsFlat]
set_option maxRecDepth 100000 in
set_option maxHeartbeats 4000000 in
theorem given_some (w : World) (a : Addr) (n c : Nat) (es : List Ent) (hn : es.length = n) (hle : n ≤ 100000) (he : EntsA w a es) : Calls Try.prog 30 #[.slice (some a) n c] w (RetG w es) := by
  have HN := Lib.hid hn
  have HE := Lib.hid he
  clear hn he
  go_enter Try.func30, Try.ntmps30
  go_wp2_with (fail)
  go_loopw [3, 4] (fun v i wr => ∃ (vo : Value) (k : Nat), vo = v ∧ k ≤ n ∧ i = .int .i64 k ∧ wr.ownsRow w.heap.size 98 4 vo k (entsFlat (es.take k)) ∧ Below w.heap.size w wr) (fun _ i _ => n - (intOf i).toNat)
  case atStart => exact ⟨_, 0, rfl, Nat.zero_le _, rfl, World.ownsRow_nil _ _ _ _, Below.refl _ _⟩
  case round =>
    obtain ⟨vo, k, rfl, hk, rfl, ho, hB⟩ := hrel
    have HO := Lib.hid ho
    have HB := Lib.hid hB
    clear ho hB
    by_cases hkn : (k : Int) < (n : Int)
    · have b0 : (0 : Int) ≤ (k : Int) := by omega
      obtain ⟨x, hx⟩ : ∃ x, es[k]? = some x := ⟨_, List.getElem?_eq_getElem (by rw [HN.out]; omega)⟩
      obtain ⟨c0, c1, c2, c3⟩ := (HE.out.below HB.out).get hx
      have HX := Lib.hid hx
      clear hx
      go_wp2_with (
        at_builtin
        refine wpList_app1 rfl elem61 _ _ rfl vo k (entsFlat (es.take k)) rfl (own_mono0 (HO.out.alloc _)) wr.heap.size 1 #[.int .i64 x.par, .int .i64 x.tick, .string x.note, .string x.state] rfl (HK.blk_new wr _) rfl (by simp [Value.oneCell']) (by simp only [maxLen]; omega) (by omega) ?_
        intro g c w' hown2 hgrow hat hlt2)
      go_roundw
      case rel =>
        have hz := HB.out.size
        have hb2 : Below w.heap.size w w' := (HB.out.alloc hz _).grown hgrow (by simp; omega) (fun k hk => own_ge HO.out k hk)
        have hg1 : w.heap.size ≤ g := by
          rcases hat with h | h
          · exact own_ge HO.out _ h
          · simp at h; omega
        refine ⟨_, k + 1, rfl, by omega, by go_num, ?_, hb2⟩
        rw [take_ents HX.out]
        exact own_base9 hown2 hg1
      case measure => simp [intOf]; omega
    · obtain rfl : n = k := by omega
      go_wp2_with (fail)
      go_ret
      refine ⟨_, rfl, ?_, HB.out⟩
      have h := HO.out
      rw [List.take_of_length_le (by rw [HN.out]; exact Nat.le_refl _)] at h
      rw [HN.out]
      exact h
theorem given_nil (w : World) (a : Option Addr) (c : Nat) : Calls Try.prog 30 #[.slice a 0 c] w (RetG w []) := by
  unfold RetG
  go_enter Try.func30, Try.ntmps30
  go_wp2_with (fail)
  go_loopw [3, 4] (fun v i wr => v = .slice none 0 0 ∧ i = .int .i64 0 ∧ w = wr) (fun _ i _ => 0)
  case atStart => exact ⟨rfl, rfl, rfl⟩
  case round =>
    obtain ⟨rfl, rfl, rfl⟩ := hrel
    go_wp2_with (fail)
    go_ret
    exact ⟨_, rfl, World.ownsRow_nil _ _ _ _, Below.refl _ _⟩
def RetSame (w : World) (e : Ending) (w' : World) : Prop := e = .returned (.bool true) ∧ ∃ d, w' = w.drewN d
set_option maxRecDepth 100000 in
set_option maxHeartbeats 4000000 in
theorem same_ents (w : World) (g1 c1 g2 c2 n : Nat) (es : List Ent) (hn : es.length = n) (h1 : EntsAt w g1 es) (h2 : EntsAt w g2 es) (hle : n ≤ 100000) : Calls Try.prog 31 #[.slice (some ⟨g1, 0, none⟩) n c1, .slice (some ⟨g2, 0, none⟩) n c2] w (RetSame w) := by
  have HN := Lib.hid hn
  have H1 := Lib.hid h1
  have H2 := Lib.hid h2
  clear hn h1 h2
  go_enter Try.func31, Try.ntmps31
  go_wp2_with (fail)
  go_loopw [13] (fun i wx => ∃ j d : Nat, j ≤ n ∧ i = .int .i64 j ∧ wx = w.drewN d) (fun i _ => n - (intOf i).toNat)
  case atStart => exact ⟨0, 0, by omega, rfl, rfl⟩
  case round =>
    obtain ⟨j, d, hj, rfl, rfl⟩ := hrel
    by_cases hjn : (j : Int) < (n : Int)
    · obtain ⟨y, hy⟩ : ∃ y, es[j]? = some y := ⟨_, List.getElem?_eq_getElem (by rw [HN.out]; omega)⟩
      obtain ⟨c10, c11, c12, c13⟩ := H1.out.c j y hy
      obtain ⟨c20, c21, c22, c23⟩ := H2.out.c j y hy
      have b4 : (0 : Int) ≤ (j : Int) := by omega
      clear hy
      go_wp2_with (fail)
      go_quiet (fail)
      go_wp2_with (fail)
      go_roundw
      case rel => exact ⟨j + 1, d + nq, by omega, by go_num, rfl⟩
      case measure => simp [intOf]; omega
    · go_wp2_with (fail)
      go_ret
      exact ⟨rfl, d, rfl⟩
theorem same_none (w : World) (a1 a2 : Option Addr) (c1 c2 : Nat) : Calls Try.prog 31 #[.slice a1 0 c1, .slice a2 0 c2] w (RetSame w) := by
  go_enter Try.func31, Try.ntmps31
  go_wp2_with (fail)
  go_loopw [13] (fun i wr => i = .int .i64 0 ∧ w = wr) (fun i _ => 0)
  case atStart => exact ⟨rfl, rfl⟩
  case round =>
    obtain ⟨rfl, rfl⟩ := hrel
    go_wp2_with (fail)
    go_ret
    exact ⟨rfl, 0, rfl⟩
theorem mark_any (w : World) (k : Nat) (hk : k ≤ 100000) : Calls Try.prog 63 #[.int .i64 2, .int .i64 (k : Int)] w fun e w' => e = .returned (.int .i64 (9000027 + (k : Int))) ∧ w = w' := by
  go_enter Try.func63, Try.ntmps63
  go_wp2_with (fail)
  go_ret
  exact ⟨rfl, rfl⟩
def RetOv (w : World) (v : Value) (e : Ending) (w' : World) : Prop := e = .returned (.tuple #[]) ∧ Frm (fun b => v.ownBlock = some b) w w'
theorem over_nil (w : World) : Calls Try.prog 56 #[.slice none 0 0] w (RetOv w (.slice none 0 0)) := by
  go_enter Try.func56, Try.ntmps56
  go_wp2_with (fail)
  go_loopw [3] (fun i wr => i = .int .i64 0 ∧ w = wr) (fun i _ => 0)
  case atStart => exact ⟨rfl, rfl⟩
  case round =>
    obtain ⟨rfl, rfl⟩ := hrel
    go_wp2_with (fail)
    go_end0
    exact ⟨rfl, Frm.refl _ _⟩
set_option maxRecDepth 100000 in
set_option maxHeartbeats 4000000 in
theorem over_row (w : World) (g n c : Nat) (cur : Array Value) (hc : n ≤ c) (hle : n ≤ 2000) (hm : c ≤ maxLen) (hs : cur.size = c) (hg : w.heap[g]? = some (.cells cur 3 (0, 0))) : Calls Try.prog 56 #[.slice (some ⟨g, 0, none⟩) n c] w (RetOv w (.slice (some ⟨g, 0, none⟩) n c)) := by
  unfold maxLen at hm
  have HG := Lib.hid hg
  have HS := Lib.hid hs
  clear hg hs
  by_cases h : (c : Int) ≤ (n : Int) + 12
  · go_enter Try.func56, Try.ntmps56
    go_wp2_with (fail)
    go_loopw [3] (fun i wr => ∃ (k : Nat) (cu : Array Value), k ≤ c ∧ i = .int .i64 k ∧ cu.size = c ∧ wr.heap[g]? = some (.cells cu 3 (0, 0)) ∧ Frm (fun b => b = g) w wr) (fun i _ => c - (intOf i).toNat)
    case atStart => exact ⟨0, cur, Nat.zero_le _, rfl, HS.out, HG.out, Frm.refl _ _⟩
    case round =>
      obtain ⟨k, cu, hk, rfl, hcu, hcg, hF⟩ := hrel
      have b0 : (0 : Int) ≤ (k : Int) := by omega
      by_cases hkn : (k : Int) < (c : Int)
      · have b1 : k < c := by omega
        obtain ⟨u0, hu0⟩ : ∃ u, cu[k]? = some u := ⟨_, Array.getElem?_eq_getElem (by omega)⟩
        have c0 : wr.cell? ⟨g, k, none⟩ = some u0 := (HK.blk_cell hcg k).trans hu0
        have c1 : wr.frozen? ⟨g, k, none⟩ = false := HK.blk_frozen hcg k
        have b2 : k ≤ 100000 := by omega
        have HCU := Lib.hid hcu
        have HCG := Lib.hid hcg
        have HF := Lib.hid hF
        clear hcu hcg hF hu0
        go_wp2_with (go_at_call 63; refine (mark_any wr k b2).mono ?_; rintro e w' ⟨rfl, rfl⟩)
        go_roundw
        case rel => exact ⟨k + 1, _, by omega, by go_num, by simpa using HCU.out, HK.blk_set HCG.out k _, HF.out.setCell (.inl rfl) _⟩
        case measure => simp [intOf]; omega
      · go_wp2_with (fail)
        go_end0
        exact ⟨rfl, hF.mono (fun b e => by have e2 : b = g := e; subst e2; rfl)⟩
  · obtain ⟨q, hq⟩ : ∃ q, q = n + 12 := ⟨_, rfl⟩
    have e : ((n : Int) + 12).toNat = q := by omega
    have q3 : q ≤ c := by omega
    have q4 : q ≤ 3000 := by omega
    have h0 : (0 : Int) ≤ (n : Int) + 12 := by omega
    have h1 : (n : Int) + 12 ≤ (c : Int) := by omega
    clear hq
    go_enter Try.func56, Try.ntmps56
    go_wp2_with (fail)
    go_loopw [3] (fun i wr => ∃ (k : Nat) (cu : Array Value), k ≤ q ∧ i = .int .i64 k ∧ cu.size = c ∧ wr.heap[g]? = some (.cells cu 3 (0, 0)) ∧ Frm (fun b => b = g) w wr) (fun i _ => q - (intOf i).toNat)
    case atStart => exact ⟨0, cur, Nat.zero_le _, rfl, HS.out, HG.out, Frm.refl _ _⟩
    case round =>
      obtain ⟨k, cu, hk, rfl, hcu, hcg, hF⟩ := hrel
      have b0 : (0 : Int) ≤ (k : Int) := by omega
      by_cases hkn : (k : Int) < (q : Int)
      · have b1 : k < c := by omega
        obtain ⟨u0, hu0⟩ : ∃ u, cu[k]? = some u := ⟨_, Array.getElem?_eq_getElem (by omega)⟩
        have c0 : wr.cell? ⟨g, k, none⟩ = some u0 := (HK.blk_cell hcg k).trans hu0
        have c1 : wr.frozen? ⟨g, k, none⟩ = false := HK.blk_frozen hcg k
        have b2 : k ≤ 100000 := by omega
        have HCU := Lib.hid hcu
        have HCG := Lib.hid hcg
        have HF := Lib.hid hF
        clear hcu hcg hF hu0
        go_wp2_with (go_at_call 63; refine (mark_any wr k b2).mono ?_; rintro e w' ⟨rfl, rfl⟩)
        go_roundw
        case rel => exact ⟨k + 1, _, by omega, by go_num, by simpa using HCU.out, HK.blk_set HCG.out k _, HF.out.setCell (.inl rfl) _⟩
        case measure => simp [intOf]; omega
      · go_wp2_with (fail)
        go_end0
        exact ⟨rfl, hF.mono (fun b e => by have e2 : b = g := e; subst e2; rfl)⟩
theorem over_own {w : World} {b n : Nat} {v : Value} {xs : List Value} (h : w.ownsRow b 3 1 v n xs) (hle : n ≤ 2000) : Calls Try.prog 56 #[v] w (RetOv w v) := by
  rcases h.2 with ⟨rfl, _⟩ | ⟨g, c, cur, rfl, _, hh, h1, h2, h3, _⟩
  · exact over_nil w
  · exact over_row w g n c cur h1 hle h2 (by rw [h3, Nat.mul_one]) hh
end Go.Proofs.Ythneinepdbkgeaa
namespace Go.Proofs.Ythneinepdbkgeaa
open Go.RowKit Go.HK
set_option linter.unusedVariables false
set_option linter.unusedSimpArgs false
set_option linter.unusedSectionVars false
def RetTr (w : World) (e : Ending) (w' : World) : Prop := e = .returned (.bool true) ∧ Below w.heap.size w w'
set_option maxRecDepth 100000 in
set_option maxHeartbeats 8000000 in
theorem shows_any {w : World} {t now : Nat} {F : List Nat} {nodes : List Go.HK.HN} (h : Hist w t F nodes now) (ge ce gn gc : Nat) (ga : Option Addr) (he : EntsAt w ge (ents nodes)) :
    Calls Try.prog 32 #[.pointer (some ⟨t, 0, none⟩), .agg #[.slice (some ⟨ge, 0, none⟩) nodes.length ce, .int .i64 (now : Int), .slice ga gn gc]] w (RetTr w) := by
  have hpos := h.1.pos
  have hle := h.1.le
  have hnow := h.1.now
  obtain ⟨xn, hxn⟩ := get_of_lt hnow
  have hxe : (ents nodes)[now]? = some xn.ent := by simp [ents, hxn]
  have hst := stateF_get hxn
  obtain ⟨nl, hnl⟩ : ∃ nl, nl = nodes.length := ⟨_, rfl⟩
  obtain ⟨G, hG⟩ : ∃ G, G = w.heap.size := ⟨_, rfl⟩
  obtain ⟨w1, hw1⟩ : ∃ w1, w1 = w.alloc (.cells #[.slice (some ⟨ge, 0, none⟩) nl ce, .int .i64 (now : Int), .slice ga gn gc] 63) := ⟨_, rfl⟩
  have hB1 : Below w.heap.size w w1 := by rw [hw1]; exact (Below.refl _ w).alloc (Nat.le_refl _) _
  have hX1 : w1.heap[G]? = some (.cells #[.slice (some ⟨ge, 0, none⟩) nl ce, .int .i64 (now : Int), .slice ga gn gc] 63 (0, 0)) := by rw [hw1, hG]; exact HK.blk_new _ _
  have he1 := he.below hB1 (Nat.le_refl _)
  have hh : ∀ W, Below w1.heap.size w1 W → Hist W t F nodes now := fun W hB => h.stay (Frm.of_below (hB1.trans (hB.mono hB1.size)) (fun _ => False)) (fun _ _ => id)
  have hnowc := now_any (hh w1 (Below.refl _ _))
  rw [hst] at hnowc
  have hsave := fun W hB => save_any (hh W hB)
  have hlen := fun W hB => len_any (hh W hB)
  unfold RetV at hsave
  rw [ents_len] at hsave
  rw [← hnl] at hsave hlen hpos hle hnow ⊢
  have HH := Lib.hid hh
  have HNC := Lib.hid hnowc
  have HSV := Lib.hid hsave
  have HLN := Lib.hid hlen
  have HX1 := Lib.hid hX1
  have HE1 := Lib.hid he1
  have HB1 := Lib.hid hB1
  have HW1 := Lib.hid hw1
  have HG := Lib.hid hG
  have HXE := Lib.hid hxe
  have HNL := Lib.hid hnl
  clear hh hnowc hsave hlen hX1 he1 hB1 hw1 hG hxe hnl hst hxn h he
  obtain ⟨st, hst⟩ : ∃ st, st = xn.state := ⟨_, rfl⟩
  rw [← hst] at HNC
  have HST := Lib.hid hst
  clear hst
  go_enter Try.func32, Try.ntmps32
  go_upto_region 1 with (fail)
  rw [← HW1.out, ← HG.out]
  go_upto_region 3 with (first
    | (go_at_call 14; refine HNC.out.mono ?_; rintro e w2 ⟨rfl, hB2⟩; have HB2 := Lib.hid hB2; clear hB2)
    | (go_at_call 19; refine (HSV.out w2 HB2.out).mono ?_; rintro e w3 ⟨v3, rfl, hv3, hB3⟩; obtain ⟨g3, c3, rfl, hg3, hl3⟩ := own_form9 hv3 hpos; have HV3 := Lib.hid hv3; have HB3 := Lib.hid hB3; have HG3 := Lib.hid hg3; clear hv3 hB3 hg3))
  have hB13 : Below w1.heap.size w1 w3 := HB2.out.trans (HB3.out.mono HB2.out.size)
  have hX3 := blk_up9 hB13 HX1.out
  have x0 := HK.blk_cell hX3 0
  have x1 := HK.blk_cell hX3 1
  have x2 := HK.blk_cell hX3 2
  have hE3 := HE1.out.below hB13 (Nat.le_refl _)
  obtain ⟨_, _, _, c3'⟩ := hE3.c now xn.ent HXE.out
  rw [show xn.ent.state = st from HST.out.symm] at c3'
  have b0 : (0 : Int) ≤ (now : Int) := by omega
  have b1 : (now : Int) < (nl : Int) := by omega
  have hS3 : EntsAt w3 g3 (ents nodes) := EntsAt.of HV3.out (by rw [ents_len, HNL.out])
  have hsm := fun nq => same_ents (w3.drewN nq) g3 c3 ge ce nl (ents nodes) (by rw [ents_len, HNL.out]) ⟨hS3.c, hS3.lt⟩ ⟨hE3.c, hE3.lt⟩ (by omega)
  unfold RetSame at hsm
  have hln : ∀ nq, Calls Try.prog 20 #[.pointer (some ⟨t, 0, none⟩)] (w3.drewN nq) fun e w' => e = .returned (.int .i64 nl) ∧ w' = w3.drewN nq := fun nq => (HLN.out (w3.drewN nq) ⟨hB13.os, hB13.tape, hB13.output, hB13.size, hB13.block⟩).mono (fun e w' ⟨a, b⟩ => ⟨a, b.symm⟩)
  have HSM := Lib.hid hsm
  have HLQ := Lib.hid hln
  have HB13 := Lib.hid hB13
  clear hB13 hX3 hE3 hS3 hsm hln
  go_quiet (first | (go_at_call 20; refine Calls.quiet_of_same (HLQ.out _)) | (go_at_call 31; refine Calls.quiet_of (HSM.out _)))
  go_wp2_with (fail)
  obtain ⟨cu0, hcu0, hsz0⟩ : ∃ cu : Array Value, w3.heap[g3]? = some (.cells cu 45 (0, 0)) ∧ nl * 4 ≤ cu.size := by
    rcases HV3.out.2 with ⟨h, _⟩ | ⟨g, cap, cur, h, _, hh, h1, _, h3, _⟩
    · cases h
    · cases h
      exact ⟨cur, hh, by omega⟩
  have HC0 := Lib.hid hcu0
  have HZ0 := Lib.hid hsz0
  clear hcu0 hsz0 x0 x1 x2 c3' b0 b1 HSM HLQ
  go_loopw [56] (fun i wr => ∃ (k : Nat) (cu : Array Value), k ≤ nl ∧ i = .int .i64 k ∧ nl * 4 ≤ cu.size ∧ wr.heap[g3]? = some (.cells cu 45 (0, 0)) ∧ Frm (fun b => b = g3) w3 wr) (fun i _ => nl - (intOf i).toNat)
  case atStart => exact ⟨0, cu0, Nat.zero_le _, rfl, HZ0.out, HC0.out, (Frm.refl _ w3).drewN _⟩
  case round =>
    obtain ⟨k, cu, hk, rfl, hcu, hcg, hF⟩ := hrel
    have HCU := Lib.hid hcu
    have HCG := Lib.hid hcg
    have HF := Lib.hid hF
    clear hcu hcg hF
    by_cases hkn : (k : Int) < (nl : Int)
    · have b0 : (0 : Int) ≤ (k : Int) := by omega
      have hz := HCU.out
      obtain ⟨u3, hu3⟩ : ∃ u, cu[k * 4 + 3]? = some u := ⟨_, Array.getElem?_eq_getElem (by omega)⟩
      obtain ⟨u2, hu2⟩ : ∃ u, cu[k * 4 + 2]? = some u := ⟨_, Array.getElem?_eq_getElem (by omega)⟩
      have c3 : wr.cell? ⟨g3, k * 4 + 3, none⟩ = some u3 := (HK.blk_cell HCG.out _).trans hu3
      have c2 : ∀ v, (wr.setCell ⟨g3, k * 4 + 3, none⟩ v).cell? ⟨g3, k * 4 + 2, none⟩ = some u2 := fun v => by
        rw [World.cell?_setCell_other]
        · exact (HK.blk_cell HCG.out _).trans hu2
        · intro h; simp only [Addr.mk.injEq] at h; omega
      have cf := fun i => HK.blk_frozen HCG.out i
      clear hz hu3 hu2
      go_wp2_with (fail)
      go_roundw
      case rel => exact ⟨k + 1, _, by omega, by go_num, by simpa using HCU.out, HK.blk_set (HK.blk_set HCG.out _ _) _ _, (HF.out.setCell (p := ⟨g3, k * 4 + 3, none⟩) (.inl rfl) _).setCell (p := ⟨g3, k * 4 + 2, none⟩) (.inl rfl) _⟩
      case measure => simp [intOf]; omega
    · go_wp2_with (fail)
      go_ret
      have h1 := HB1.out.size
      have h2 := HB2.out.size
      have hb := HB1.out.trans (HB13.out.mono h1)
      refine ⟨rfl, hb.trans (HF.out.below (B := w.heap.size) hb.size (fun b e => ?_))⟩
      have e2 : b = g3 := e
      have := HG3.out
      omega
end Go.Proofs.Ythneinepdbkgeaa
