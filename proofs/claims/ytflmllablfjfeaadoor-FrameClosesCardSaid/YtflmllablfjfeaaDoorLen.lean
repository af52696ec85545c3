/- Frame: numbers lent (len.py prints this text): mark (45), OverInts (24), LentInts (20), KeptInts (23). -/
import Derived.Test.YtflmllablfjfeaaDoorFry
import Derived.Laws.MakeOwn
import Derived.Deep.QuietTactic
namespace Go.Proofs.YtflmllablfjfeaaDoor
open Go.RowKit Go.HK Go.FR
set_option linter.unusedVariables false
set_option linter.unusedSimpArgs false
set_option linter.unusedSectionVars false
/-- A mark. -/
theorem mark_any (w : World) (m k : Nat) (hm : m ≤ 10) (hk : k ≤ 100000) : Calls Tryd.prog 45 #[.int .i64 (m : Int), .int .i64 (k : Int)] w fun e w' => e = .returned (.int .i64 (1000003 * ((m : Int) + 7) + (k : Int))) ∧ w = w' := by
  have e1 : IntKind.i64.wrap ((m : Int) + 7) = (m : Int) + 7 := IntWalk.i64_in _ (by omega)
  have e2 : IntKind.i64.wrap (1000003 * ((m : Int) + 7)) = 1000003 * ((m : Int) + 7) := IntWalk.i64_in _ (by omega)
  have e3 : IntKind.i64.wrap (1000003 * ((m : Int) + 7) + (k : Int)) = 1000003 * ((m : Int) + 7) + (k : Int) := IntWalk.i64_in _ (by omega)
  go_enter Tryd.func45, Tryd.ntmps45
  go_wp2_with (fail)
  go_ret
  exact ⟨rfl, rfl⟩
theorem mark_1 (w : World) (k : Nat) (hk : k ≤ 100000) : Calls Tryd.prog 45 #[.int .i64 1, .int .i64 (k : Int)] w fun e w' => e = .returned (.int .i64 (8000024 + (k : Int))) ∧ w = w' := (mark_any w 1 k (by omega) hk).mono fun e w' h => ⟨by rw [h.1]; rfl, h.2⟩
theorem mark_2 (w : World) (k : Nat) (hk : k ≤ 100000) : Calls Tryd.prog 45 #[.int .i64 2, .int .i64 (k : Int)] w fun e w' => e = .returned (.int .i64 (9000027 + (k : Int))) ∧ w = w' := (mark_any w 2 k (by omega) hk).mono fun e w' h => ⟨by rw [h.1]; rfl, h.2⟩
def RetOv (w : World) (v : Value) (e : Ending) (w' : World) : Prop := e = .returned (.tuple #[]) ∧ HK.Frm (fun b => v.ownBlock = some b) w w'
theorem over_nil (w : World) : Calls Tryd.prog 24 #[.slice none 0 0] w (RetOv w (.slice none 0 0)) := by
  go_enter Tryd.func24, Tryd.ntmps24
  go_wp2_with (fail)
  go_loopw [3] (fun i wr => i = .int .i64 0 ∧ w = wr) (fun i _ => 0)
  case atStart => exact ⟨rfl, rfl⟩
  case round =>
    obtain ⟨rfl, rfl⟩ := hrel
    go_wp2_with (fail)
    go_end0
    exact ⟨rfl, HK.Frm.refl _ _⟩
set_option maxRecDepth 100000 in
set_option maxHeartbeats 4000000 in
theorem over_row (w : World) (g n c : Nat) (cur : Array Value) (hc : n ≤ c) (hle : n ≤ 2000) (hm : c ≤ maxLen) (hs : cur.size = c) (hg : w.heap[g]? = some (.cells cur 3 (0, 0))) : Calls Tryd.prog 24 #[.slice (some ⟨g, 0, none⟩) n c] w (RetOv w (.slice (some ⟨g, 0, none⟩) n c)) := by
  unfold maxLen at hm
  have HG := Lib.hid hg
  have HS := Lib.hid hs
  clear hg hs
  by_cases h : (c : Int) ≤ (n : Int) + 12
  · go_enter Tryd.func24, Tryd.ntmps24
    go_wp2_with (fail)
    go_loopw [3] (fun i wr => ∃ (k : Nat) (cu : Array Value), k ≤ c ∧ i = .int .i64 k ∧ cu.size = c ∧ wr.heap[g]? = some (.cells cu 3 (0, 0)) ∧ HK.Frm (fun b => b = g) w wr) (fun i _ => c - (intOf i).toNat)
    case atStart => exact ⟨0, cur, Nat.zero_le _, rfl, HS.out, HG.out, HK.Frm.refl _ _⟩
    case round =>
      obtain ⟨k, cu, hk, rfl, hcu, hcg, hF⟩ := hrel
      have b0 : (0 : Int) ≤ (k : Int) := by omega
      by_cases hkn : (k : Int) < (c : Int)
      · have b1 : k < c := by omega
        obtain ⟨u0, hu0⟩ : ∃ u, cu[k]? = some u := ⟨_, Array.getElem?_eq_getElem (by omega)⟩
        have c0 : wr.cell? ⟨g, k, none⟩ = some u0 := (HK.blk_cell hcg k).trans hu0
        have c1 : wr.frozen? ⟨g, k, none⟩ = false := HK.blk_frozen hcg k
        have b2 : k ≤ 100000 := by omega
        have HCU := Lib.hid hcu
        have HCG := Lib.hid hcg
        have HF := Lib.hid hF
        clear hcu hcg hF hu0
        go_wp2_with (go_at_call 45; refine (mark_2 wr k b2).mono ?_; rintro e w' ⟨rfl, rfl⟩)
        go_roundw
        case rel => exact ⟨k + 1, _, by omega, by go_num, by simpa using HCU.out, HK.blk_set HCG.out k _, HF.out.setCell (.inl rfl) _⟩
        case measure => simp [intOf]; omega
      · go_wp2_with (fail)
        go_end0
        exact ⟨rfl, hF.mono (fun b e => by have e2 : b = g := e; subst e2; rfl)⟩
  · obtain ⟨q, hq⟩ : ∃ q, q = n + 12 := ⟨_, rfl⟩
    have e : ((n : Int) + 12).toNat = q := by omega
    have q3 : q ≤ c := by omega
    have q4 : q ≤ 3000 := by omega
    have h0 : (0 : Int) ≤ (n : Int) + 12 := by omega
    have h1 : (n : Int) + 12 ≤ (c : Int) := by omega
    clear hq
    go_enter Tryd.func24, Tryd.ntmps24
    go_wp2_with (fail)
    go_loopw [3] (fun i wr => ∃ (k : Nat) (cu : Array Value), k ≤ q ∧ i = .int .i64 k ∧ cu.size = c ∧ wr.heap[g]? = some (.cells cu 3 (0, 0)) ∧ HK.Frm (fun b => b = g) w wr) (fun i _ => q - (intOf i).toNat)
    case atStart => exact ⟨0, cur, Nat.zero_le _, rfl, HS.out, HG.out, HK.Frm.refl _ _⟩
    case round =>
      obtain ⟨k, cu, hk, rfl, hcu, hcg, hF⟩ := hrel
      have b0 : (0 : Int) ≤ (k : Int) := by omega
      by_cases hkn : (k : Int) < (q : Int)
      · have b1 : k < c := by omega
        obtain ⟨u0, hu0⟩ : ∃ u, cu[k]? = some u := ⟨_, Array.getElem?_eq_getElem (by omega)⟩
        have c0 : wr.cell? ⟨g, k, none⟩ = some u0 := (HK.blk_cell hcg k).trans hu0
        have c1 : wr.frozen? ⟨g, k, none⟩ = false := HK.blk_frozen hcg k
        have b2 : k ≤ 100000 := by omega
        have HCU := Lib.hid hcu
        have HCG := Lib.hid hcg
        have HF := Lib.hid hF
        clear hcu hcg hF hu0
        go_wp2_with (go_at_call 45; refine (mark_2 wr k b2).mono ?_; rintro e w' ⟨rfl, rfl⟩)
        go_roundw
        case rel => exact ⟨k + 1, _, by omega, by go_num, by simpa using HCU.out, HK.blk_set HCG.out k _, HF.out.setCell (.inl rfl) _⟩
        case measure => simp [intOf]; omega
      · go_wp2_with (fail)
        go_end0
        exact ⟨rfl, hF.mono (fun b e => by have e2 : b = g := e; subst e2; rfl)⟩
theorem over_own {w : World} {b n : Nat} {v : Value} {xs : List Value} (h : w.ownsRow b 3 1 v n xs) (hle : n ≤ 2000) : Calls Tryd.prog 24 #[v] w (RetOv w v) := by
  rcases h.2 with ⟨rfl, _⟩ | ⟨g, c, cur, rfl, _, hh, h1, h2, h3, _⟩
  · exact over_nil w
  · exact over_row w g n c cur h1 hle h2 (by rw [h3, Nat.mul_one]) hh
def zs3 (zs : List Int) : List Value := zs.map fun x => .int .i64 x
/-- The first k marks behind what is lent. -/
def marks : Nat → List Value
  | 0 => []
  | k + 1 => marks k ++ [.int .i64 (8000024 + (k : Int))]
theorem marks_len : ∀ k, (marks k).length = k
  | 0 => rfl
  | k + 1 => by simp [marks, marks_len k]
theorem marks_get : ∀ k i, i < k → (marks k)[i]? = some (.int .i64 (8000024 + (i : Int)))
  | k + 1, i, h => by
    unfold marks
    by_cases e : i = k
    · subst e; rw [List.getElem?_append_right (by rw [marks_len]; exact Nat.le_refl _), marks_len]; simp
    · rw [List.getElem?_append_left (by rw [marks_len]; omega)]; exact marks_get k i (by omega)
theorem zs3_one (zs : List Int) : ∀ u ∈ zs3 zs, u.oneCell' = true := by
  intro u hu
  rw [zs3, List.mem_map] at hu
  obtain ⟨x, _, rfl⟩ := hu
  rfl
theorem zs3_len (zs : List Int) : (zs3 zs).length = zs.length := by simp [zs3]
theorem own_cap9 {w : World} {b e size n g c : Nat} {xs : List Value} (h : w.ownsRow b e size (.slice (some ⟨g, 0, none⟩) n c) n xs) : n ≤ c ∧ c ≤ maxLen := by
  rcases h.2 with ⟨h0, _⟩ | ⟨g', cap, cur, hv, _, _, hc, hm, _⟩
  · cases h0
  · cases hv; exact ⟨hc, hm⟩
theorem zs_addr {S : Nat → Prop} {W : World} {s : SL} {xs : List Int} (h : IsZs S W s xs) (hn : 0 < s.n) : ∃ ad, s.a = some ad ∧ ∀ j u, (zs3 xs)[j]? = some u → W.cell? (ad.add j) = some u := by
  obtain ⟨g, o, ha⟩ := h.pos hn
  refine ⟨⟨g, o, none⟩, ha, fun j u hj => ?_⟩
  rw [zs3, List.getElem?_map] at hj
  obtain ⟨x, hx, rfl⟩ := Option.map_eq_some_iff.1 hj
  obtain ⟨g', o', e, _, hc⟩ := h.2 j x hx
  rw [ha] at e
  injection e with e
  injection e with e1 e2
  subst e1 e2
  unfold Addr.add
  by_cases h0 : j = 0
  · subst h0; simpa using hc
  · simpa [h0] using hc
theorem run_app00 {P : Program} {w : World} {t ty e size bytes : Nat} (E : HK.ElemOk P t e size bytes) (ad : Addr) (n cap : Nat) (xa : Option Addr) (c : Nat) (hn : n ≤ cap) : (Builtin.append_ #[t, t] ty #[.slice (some ad) n cap, .slice xa 0 c]).run P w = .ok (.slice (some ad) n cap) w := by
  obtain ⟨ht, i, z, hi, h0, h2, h3, h4, h5⟩ := E
  cases xa <;> simp [Builtin.append_, run_underlying ht, sizeOf, typeInfo, hi, Builtin.lenOf, Builtin.firstCells, hn, storeCells, loadCells, loadCellsFrom]
theorem wpList_app00 {P : Program} {w : World} {ops : Array Oper} {o : Oper} {a : Act} {Q : Exit → Act → World → Prop} {rest : List Oper} (hgd : o.guard = none) {t e size bytes : Nat} (E : HK.ElemOk P t e size bytes) (s x : Operand)
    (ho : o.op = .call { callee := .builtin .append, args := #[s, x], argTypes := #[t, t] }) (ad : Addr) (n cap : Nat) (xa : Option Addr) (c : Nat) (hn : n ≤ cap) (hs : a.eval s = .slice (some ad) n cap) (hx : a.eval x = .slice xa 0 c)
    (h : wpList P ops Q rest (a.put o.dst (.slice (some ad) n cap)) w) : wpList P ops Q (o :: rest) a w :=
  wpList_plain hgd fun _ hK => by
    have hr := run_app00 (w := w) (ty := o.type) E ad n cap xa c hn
    unfold Oper.wp execOp
    simp only [ho, resolve, invoke, builtin, Sem.run_bind, Sem.run_pure, Result.andThen_ok, List.map_toArray, List.map_cons, List.map_nil, hs, hx, hr]
    exact hK _ _ h
/-- Append of numbers that came in, to a row of one's own that is not nil. -/
theorem wpList_app_zs {w : World} {ops : Array Oper} {o : Oper} {a : Act} {Q : Exit → Act → World → Prop} {rest : List Oper} (hgd : o.guard = none) (s x : Operand)
    (ho : o.op = .call { callee := .builtin .append, args := #[s, x], argTypes := #[25, 25] }) (g n c base : Nat) (xs : List Value) (hs : a.eval s = .slice (some ⟨g, 0, none⟩) n c) (hown : w.ownsRow base 3 1 (.slice (some ⟨g, 0, none⟩) n c) n xs)
    {S : Nat → Prop} (z : SL) (zs : List Int) (hx : a.eval x = z.v) (hz : IsZs S w z zs) (hle : n + zs.length ≤ 1000000) (hbase : base ≤ w.heap.size)
    (h : ∀ v' w', w'.ownsRow base 3 1 v' (n + zs.length) (xs ++ zs3 zs) → w.grownBy w' (some g) → (v'.ownBlock = some g ∨ v'.ownBlock = some w.heap.size) → wpList Tryd.prog ops Q rest (a.put o.dst v') w') : wpList Tryd.prog ops Q (o :: rest) a w := by
  by_cases h0 : zs = []
  · subst h0
    obtain ⟨za, zn, zc⟩ := z
    obtain rfl : zn = 0 := hz.1
    refine wpList_app00 hgd elem25 s x ho ⟨g, 0, none⟩ n c za zc (own_cap9 hown).1 hs hx ?_
    exact h _ w (by simpa [zs3] using hown) ⟨rfl, rfl, rfl, Nat.le_refl _, fun _ _ _ => rfl⟩ (.inl rfl)
  · have hp : 0 < z.n := by rw [hz.1]; exact List.length_pos_iff.2 h0
    obtain ⟨ad, ha, hc⟩ := zs_addr hz hp
    have hzl := hz.1
    have hx2 : a.eval x = .slice (some ad) zs.length z.c := by rw [hx]; unfold SL.v; rw [ha, hzl]
    exact wpList_app_any hgd elem25 s x ho _ base n xs hs hown ad zs.length z.c (zs3 zs) hx2 (by rw [zs3_len]; omega) hc (zs3_one zs) (by simp only [maxLen]; omega) (by omega) hbase fun v' w' h1 h2 h3 h4 => h v' w' h1 h2 h4
/-- What LentInts hands out. -/
def RetLe (w : World) (zs : List Int) (e : Ending) (w' : World) : Prop := ∃ g c, e = .returned (.slice (some ⟨g, 0, none⟩) zs.length c) ∧ w'.ownsRow w.heap.size 3 1 (.slice (some ⟨g, 0, none⟩) (zs.length + 12) c) (zs.length + 12) (zs3 zs ++ marks 12) ∧ Below w.heap.size w w'
set_option maxRecDepth 100000 in
set_option maxHeartbeats 4000000 in
theorem lent_call (w : World) (z : SL) (zs : List Int) (hz : IsZs (fun k => k < w.heap.size) w z zs) (hle : zs.length ≤ 2000) : Calls Tryd.prog 20 #[z.v] w (RetLe w zs) := by
  have hl := hz.1
  obtain ⟨za, n, zc⟩ := z
  simp only [] at hl
  obtain ⟨N, hN⟩ : ∃ N, N = n + 12 := ⟨_, rfl⟩
  have e12 : (n : Int) + 12 = (N : Int) := by omega
  have ew : IntKind.i64.wrap ((n : Int) + 12) = (N : Int) := by rw [e12]; exact IntWalk.i64_in _ (by omega)
  have hmk : ∀ W : World, (Instr.makeSlice 25 (.int .i64 0) (.int .i64 (N : Int))).run Tryd.prog W = .ok (.slice (some ⟨W.heap.size, 0, none⟩) 0 N) (W.alloc (.cells (madeCells #[.int .i64 0] N) 3)) := fun W => by
    obtain ⟨i, hi, hzz⟩ := Option.map_eq_some_iff.1 info3
    simp only [Prod.mk.injEq] at hzz
    have hr := run_make (P := Tryd.prog) W 25 3 i (.int .i64 0) Tryd.underlying25 hi hzz.1 .i64 .i64 0 (N : Int) (Int.le_refl _) (by omega) (by rw [hzz.2.2]; omega) (by omega)
    rw [hzz.2.1] at hr
    simpa [show (Value.int .i64 0).cells = #[.int .i64 0] from rfl] using hr
  have HOW : Hid (∀ W : World, w.heap.size ≤ W.heap.size → (W.alloc (.cells (madeCells #[.int .i64 0] N) 3)).ownsRow w.heap.size 3 1 (.slice (some ⟨W.heap.size, 0, none⟩) 0 N) 0 []) := Lib.hid fun W h => World.ownsRow_made W _ N h (by simp only [maxLen]; omega) (by rw [size_madeCells]; simp)
  have HZ := Lib.hid hz
  have HL := Lib.hid hl
  have HLE := Lib.hid hle
  have HN := Lib.hid hN
  have hn2 : n ≤ 2000 := by omega
  simp only [SL.v]
  clear hz hl hle hN
  go_enter Tryd.func20, Tryd.ntmps20
  go_wp2_with (at_builtin
               refine wpList_app_zs rfl _ _ rfl w.heap.size 0 N w.heap.size [] rfl (HOW.out w (Nat.le_refl _)) ⟨za, n, zc⟩ zs rfl (HZ.out.turn fun k hk => ⟨Nat.lt_of_lt_of_le hk (by simp), ((below_alloc w _).block k hk)⟩ : IsZs (fun k => k < (w.alloc (.cells (madeCells #[.int .i64 0] N) 3)).heap.size) _ _ _) (by have := HLE.out; omega) (by simp) ?_
               intro v3 w3 hown hgrow hat)
  rw [Nat.zero_add, List.nil_append] at hown
  have HB3 := Lib.hid (((Below.refl _ w).alloc (Nat.le_refl _) (.cells (madeCells #[.int .i64 0] N) 3)).grown hgrow (by simp) (fun k hk => by have h2 : w.heap.size = k := Option.some.inj hk; omega))
  have HO3 := Lib.hid hown
  clear hgrow hat hown
  go_loopw [3, 4] (fun v i wr => ∃ (k : Nat) (vo : Value), vo = v ∧ k ≤ 12 ∧ i = .int .i64 k ∧ wr.ownsRow w.heap.size 3 1 vo (zs.length + k) (zs3 zs ++ marks k) ∧ Below w.heap.size w wr) (fun _ i _ => 12 - (intOf i).toNat)
  case atStart => exact ⟨0, v3, rfl, by omega, rfl, by simpa [marks] using HO3.out, HB3.out⟩
  case round =>
    obtain ⟨k, vo, rfl, hk, rfl, ho, hB⟩ := hrel
    by_cases hkn : (k : Int) < 12
    · have HO := Lib.hid ho
      have HB := Lib.hid hB
      have b2 : k ≤ 100000 := by omega
      have HNX : Hid (zs3 zs ++ marks (k + 1) = (zs3 zs ++ marks k) ++ [.int .i64 (8000024 + (k : Int))]) := Lib.hid (by rw [List.append_assoc]; rfl)
      have HL2 : Hid (zs.length + k ≤ 2100) := Lib.hid (by have := HLE.out; omega)
      clear ho hB
      go_wp2_with (first
        | (go_at_call 45; ((with_reducible refine (mark_1 wr k b2).mono ?_); rintro e w' ⟨rfl, rfl⟩))
        | (at_builtin
           refine wpList_app_any rfl elem25 _ _ rfl vo w.heap.size (zs.length + k) (zs3 zs ++ marks k) rfl (HO.out.alloc _) ⟨wr.heap.size, 0, none⟩ 1 1 [.int .i64 (8000024 + (k : Int))] rfl rfl (fun q u hj => by rw [addr_add0, HK.blk_cell (HK.blk_new _ _), List.getElem?_toArray]; exact hj) (by simp [Value.oneCell']) (by have := HL2.out; simp only [maxLen]; omega) (by have := HL2.out; omega) (by have := HB.out.size; simp; omega) ?_
           intro v4 w4 hown hgrow hnil hat))
      go_roundw
      case rel => exact ⟨k + 1, v4, rfl, by omega, by go_num, by rw [HNX.out]; exact hown, (HB.out.alloc HB.out.size _).grown hgrow (by have := HB.out.size; simp; omega) (fun m hm => own_ge HO.out m hm)⟩
      case measure => simp [intOf]; omega
    · obtain rfl : k = 12 := by omega
      obtain ⟨g, c, rfl, hg, _⟩ := own_form9 ho (by omega)
      have hcap := own_cap9 ho
      have q1 : (n : Int) ≤ (c : Int) := by have := HL.out; omega
      have q2 : (0 : Int) ≤ (n : Int) := by omega
      have q3 : n ≤ c := by omega
      have HO := Lib.hid ho
      have HB := Lib.hid hB
      clear ho hB hcap hg
      go_wp2_with (fail)
      go_ret
      have e := HL.out
      subst e
      exact ⟨g, c, rfl, HO.out, HB.out⟩
set_option maxRecDepth 100000 in
set_option maxHeartbeats 4000000 in
theorem kept_call (w : World) (g c b : Nat) (z : SL) (zs : List Int) (hz : IsZs (fun k => k < w.heap.size) w z zs) (hle : zs.length ≤ 2000) (hown : w.ownsRow b 3 1 (.slice (some ⟨g, 0, none⟩) (zs.length + 12) c) (zs.length + 12) (zs3 zs ++ marks 12)) :
    Calls Tryd.prog 23 #[.slice (some ⟨g, 0, none⟩) zs.length c, z.v] w (RetW w true) := by
  have hl := hz.1
  obtain ⟨za, n, zc⟩ := z
  simp only [] at hl
  rw [← hl] at hown ⊢
  obtain ⟨N, hN⟩ : ∃ N, N = n + 12 := ⟨_, rfl⟩
  have e12 : (n : Int) + 12 = (N : Int) := by omega
  have ew : IntKind.i64.wrap ((n : Int) + 12) = (N : Int) := by rw [e12]; exact IntWalk.i64_in _ (by omega)
  have hcap := own_cap9 hown
  have q1 : (N : Int) ≤ (c : Int) := by omega
  have q2 : (0 : Int) ≤ (N : Int) := by omega
  have q3 : N ≤ c := by omega
  have HZ := Lib.hid hz
  have HL := Lib.hid hl
  have HO := Lib.hid hown
  have HN := Lib.hid hN
  have HCL : Hid (∀ W, Below w.heap.size w W → ∀ (k : Nat) (x : Int), zs[k]? = some x → W.cell? ⟨g, k, none⟩ = some (.int .i64 x)) := Lib.hid fun W hB k x hx => by
    have hkl := (List.getElem?_eq_some_iff.1 hx).1
    rw [(own_below9 hown hB).cellAt k (by omega), List.getElem?_append_left (by rw [zs3_len]; exact hkl), zs3, List.getElem?_map, hx]; rfl
  have HCM : Hid (∀ W, Below w.heap.size w W → ∀ j, j < 12 → W.cell? ⟨g, n + j, none⟩ = some (.int .i64 (8000024 + (j : Int)))) := Lib.hid fun W hB j hj => by
    rw [(own_below9 hown hB).cellAt (n + j) (by omega), List.getElem?_append_right (by rw [zs3_len]; omega), zs3_len, show n + j - zs.length = j by omega, marks_get 12 j hj]
  have hn2 : n ≤ 2000 := by omega
  simp only [SL.v]
  clear hz hl hle hN hown hcap
  go_enter Tryd.func23, Tryd.ntmps23
  go_wp2_with (fail)
  go_loopw [6] (fun i wr => ∃ k : Nat, k ≤ N ∧ i = .int .i64 k ∧ Below w.heap.size w wr) (fun i _ => N - (intOf i).toNat)
  case atStart => exact ⟨0, by omega, rfl, Below.refl _ _⟩
  case round =>
    obtain ⟨k, hk, rfl, hB⟩ := hrel
    by_cases hkN : (k : Int) < (N : Int)
    · have b0 : (0 : Int) ≤ (k : Int) := by omega
      go_upto_region 7 with (fail)
      go_cut [57] from 23 to 56 (fun v wx => v = .bool false ∧ Below wr.heap.size wr wx)
      case rest =>
        obtain ⟨rfl, hB2⟩ := hcut
        have HB2 := Lib.hid (below_tr hB hB2)
        clear hB hB2
        go_wp2_with (fail)
        go_roundw
        case rel => exact ⟨k + 1, by omega, by go_num, HB2.out⟩
        case measure => simp [intOf]; omega
      by_cases hkn : k < n
      · have b1 : (k : Int) < (n : Int) := by omega
        obtain ⟨xr, hxr⟩ : ∃ x, zs[k]? = some x := ⟨_, List.getElem?_eq_getElem (by have := HL.out; omega)⟩
        obtain ⟨lg, lo, hza, hlg, _⟩ := HZ.out.2 k xr hxr
        simp only [] at hza
        subst hza
        have HC1 : Hid (∀ W, Below wr.heap.size wr W → W.cell? ⟨g, k, none⟩ = some (.int .i64 xr)) := Lib.hid fun W h => HCL.out W (below_tr hB h) k xr hxr
        have HC2 : Hid (∀ W, Below wr.heap.size wr W → W.cell? ⟨lg, lo + k, none⟩ = some (.int .i64 xr)) := Lib.hid fun W h => by
          have hbw := below_tr hB h
          have := (HZ.out.turn (T := fun k => k < W.heap.size) fun k hk => ⟨Nat.lt_of_lt_of_le hk hbw.size, hbw.block k hk⟩).z
          exact this k xr hxr
        have HK0 := Lib.hid b0
        have HK1 : Hid ((k : Int) < (N : Int) ∧ (k : Int) < (n : Int)) := Lib.hid ⟨hkN, b1⟩
        have HBB := Lib.hid hB
        clear hxr hlg hB
        refine Go.RE.wp_region_eachg [23, 24, 25, 26, 27, 28, 29, 30, 31, 32, 33, 34, 35, 36, 37, 38, 39, 40, 41, 42, 43, 44, 45, 46, 47, 48, 49, 50, 51, 52, 53, 54, 55, 56, 57] (fun L x W => (Below wr.heap.size wr W) ∧ (L 0 = true → x 23 = .int .i64 (k : Int)) ∧ (L 1 = true → x 24 = .slice (some ⟨lg, lo, none⟩) n zc) ∧ (L 2 = true → x 25 = .int .i64 (n : Int)) ∧ (L 3 = true → x 26 = .bool true) ∧ (L 4 = true → x 27 = .bool true) ∧ (L 5 = true → x 28 = .slice (some ⟨g, 0, none⟩) N c) ∧ (L 6 = true → x 29 = .int .i64 (k : Int)) ∧ (L 7 = true → x 30 = .pointer (some ⟨g, k, none⟩)) ∧ (L 8 = true → x 31 = .int .i64 xr) ∧ (L 9 = true → x 32 = .slice (some ⟨lg, lo, none⟩) n zc) ∧ (L 10 = true → x 33 = .int .i64 (k : Int)) ∧ (L 11 = true → x 34 = .pointer (some ⟨lg, lo + k, none⟩)) ∧ (L 12 = true → x 35 = .int .i64 xr) ∧ (L 13 = true → x 36 = .bool true) ∧ (L 14 = true → x 37 = .bool false) ∧ (L 15 = true → x 38 = .bool false) ∧ (L 16 = true → x 39 = .bool false) ∧ (L 17 = true → x 40 = .int .i64 (k : Int)) ∧ (L 18 = true → x 41 = .slice (some ⟨lg, lo, none⟩) n zc) ∧ (L 19 = true → x 42 = .int .i64 (n : Int)) ∧ (L 20 = true → x 43 = .bool false) ∧ (L 21 = true → x 44 = .bool false) ∧ (L 22 = true → x 45 = undef) ∧ (L 23 = true → x 46 = undef) ∧ (L 24 = true → x 47 = undef) ∧ (L 25 = true → x 48 = undef) ∧ (L 26 = true → x 49 = undef) ∧ (L 27 = true → x 50 = undef) ∧ (L 28 = true → x 51 = undef) ∧ (L 29 = true → x 52 = undef) ∧ (L 30 = true → x 53 = undef) ∧ (L 31 = true → x 54 = undef) ∧ (L 32 = true → x 55 = undef) ∧ (L 33 = true → x 56 = .bool false) ∧ (L 34 = true → x 57 = .bool false)) (by kernel_rfl) (by kernel_rfl) (by kernel_rfl) ?_ ((Go.RE.Each.cons ?_ (Go.RE.Each.cons ?_ (Go.RE.Each.cons ?_ (Go.RE.Each.cons ?_ (Go.RE.Each.cons ?_ (Go.RE.Each.cons ?_ (Go.RE.Each.cons ?_ (Go.RE.Each.cons ?_ (Go.RE.Each.cons ?_ (Go.RE.Each.cons ?_ (Go.RE.Each.cons ?_ (Go.RE.Each.cons ?_ (Go.RE.Each.cons ?_ (Go.RE.Each.cons ?_ (Go.RE.Each.cons ?_ (Go.RE.Each.cons ?_ (Go.RE.Each.cons ?_ (Go.RE.Each.cons ?_ (Go.RE.Each.cons ?_ (Go.RE.Each.cons ?_ (Go.RE.Each.cons ?_ (Go.RE.Each.cons ?_ (Go.RE.Each.cons ?_ (Go.RE.Each.cons ?_ (Go.RE.Each.cons ?_ (Go.RE.Each.cons ?_ (Go.RE.Each.cons ?_ (Go.RE.Each.cons ?_ (Go.RE.Each.cons ?_ (Go.RE.Each.cons ?_ (Go.RE.Each.cons ?_ (Go.RE.Each.cons ?_ (Go.RE.Each.cons ?_ (Go.RE.Each.cons ?_ (Go.RE.Each.cons ?_ Go.RE.Each.nil)))))))))))))))))))))))))))))))))))) ?_
        · exact fun x => ⟨bl_dr (Below.refl _ _), nofun, nofun, nofun, nofun, nofun, nofun, nofun, nofun, nofun, nofun, nofun, nofun, nofun, nofun, nofun, nofun, nofun, nofun, nofun, nofun, nofun, nofun, nofun, nofun, nofun, nofun, nofun, nofun, nofun, nofun, nofun, nofun, nofun, nofun, nofun⟩
        · intro L x a wR K hL hd hf hx hΦ hK
          obtain ⟨hI, f0, f1, f2, f3, f4, f5, f6, f7, f8, f9, f10, f11, f12, f13, f14, f15, f16, f17, f18, f19, f20, f21, f22, f23, f24, f25, f26, f27, f28, f29, f30, f31, f32, f33, f34⟩ := hΦ
          refine ⟨fun _ => ?_, fun h => absurd h (by rw [Go.RE.wanted_none rfl]; decide)⟩
          have e6 : a.tmps[6]? = some (.int .i64 (k : Int)) := hf 6 (of_decide_eq_true (by kernel_rfl))
          clear hf hx hd
          go_simp
          refine hK _ _ ?_
          exact ⟨hI, fun _ => rfl, f1, f2, f3, f4, f5, f6, f7, f8, f9, f10, f11, f12, f13, f14, f15, f16, f17, f18, f19, f20, f21, f22, f23, f24, f25, f26, f27, f28, f29, f30, f31, f32, f33, f34⟩
        · intro L x a wR K hL hd hf hx hΦ hK
          obtain ⟨hI, f0, f1, f2, f3, f4, f5, f6, f7, f8, f9, f10, f11, f12, f13, f14, f15, f16, f17, f18, f19, f20, f21, f22, f23, f24, f25, f26, f27, f28, f29, f30, f31, f32, f33, f34⟩ := hΦ
          refine ⟨fun _ => ?_, fun h => absurd h (by rw [Go.RE.wanted_none rfl]; decide)⟩
          have e1 : a.tmps[1]? = some (.slice (some ⟨lg, lo, none⟩) n zc) := hf 1 (of_decide_eq_true (by kernel_rfl))
          clear hf hx hd
          go_simp
          refine hK _ _ ?_
          exact ⟨hI, f0, fun _ => rfl, f2, f3, f4, f5, f6, f7, f8, f9, f10, f11, f12, f13, f14, f15, f16, f17, f18, f19, f20, f21, f22, f23, f24, f25, f26, f27, f28, f29, f30, f31, f32, f33, f34⟩
        · intro L x a wR K hL hd hf hx hΦ hK
          obtain ⟨hI, f0, f1, f2, f3, f4, f5, f6, f7, f8, f9, f10, f11, f12, f13, f14, f15, f16, f17, f18, f19, f20, f21, f22, f23, f24, f25, f26, f27, f28, f29, f30, f31, f32, f33, f34⟩ := hΦ
          refine ⟨fun _ => ?_, fun h => absurd h (by rw [Go.RE.wanted_none rfl]; decide)⟩
          have d1 := f1 (hd 1 (by kernel_rfl))
          have e24 : a.tmps[24]? = some (x 24) := hx 1 _ 24 rfl rfl (hd 1 (by kernel_rfl))
          rw [d1] at e24
          clear hf hx hd
          go_simp
          refine hK _ _ ?_
          exact ⟨hI, f0, f1, fun _ => rfl, f3, f4, f5, f6, f7, f8, f9, f10, f11, f12, f13, f14, f15, f16, f17, f18, f19, f20, f21, f22, f23, f24, f25, f26, f27, f28, f29, f30, f31, f32, f33, f34⟩
        · intro L x a wR K hL hd hf hx hΦ hK
          obtain ⟨hI, f0, f1, f2, f3, f4, f5, f6, f7, f8, f9, f10, f11, f12, f13, f14, f15, f16, f17, f18, f19, f20, f21, f22, f23, f24, f25, f26, f27, f28, f29, f30, f31, f32, f33, f34⟩ := hΦ
          refine ⟨fun _ => ?_, fun h => absurd h (by rw [Go.RE.wanted_none rfl]; decide)⟩
          have d0 := f0 (hd 0 (by kernel_rfl))
          have e23 : a.tmps[23]? = some (x 23) := hx 0 _ 23 rfl rfl (hd 0 (by kernel_rfl))
          rw [d0] at e23
          have d2 := f2 (hd 2 (by kernel_rfl))
          have e25 : a.tmps[25]? = some (x 25) := hx 2 _ 25 rfl rfl (hd 2 (by kernel_rfl))
          rw [d2] at e25
          have l1 := HK0.out
          have l2 := HK1.out.1
          have l3 := HK1.out.2
          have l4 : decide (n ≤ k) = false := decide_eq_false (by omega)
          have l5 : decide (k < n) = true := decide_eq_true (by omega)
          clear hf hx hd
          go_simp
          refine hK _ _ ?_
          exact ⟨hI, f0, f1, f2, fun _ => rfl, f4, f5, f6, f7, f8, f9, f10, f11, f12, f13, f14, f15, f16, f17, f18, f19, f20, f21, f22, f23, f24, f25, f26, f27, f28, f29, f30, f31, f32, f33, f34⟩
        · intro L x a wR K hL hd hf hx hΦ hK
          obtain ⟨hI, f0, f1, f2, f3, f4, f5, f6, f7, f8, f9, f10, f11, f12, f13, f14, f15, f16, f17, f18, f19, f20, f21, f22, f23, f24, f25, f26, f27, f28, f29, f30, f31, f32, f33, f34⟩ := hΦ
          refine ⟨fun _ => ?_, fun h => absurd h (by rw [Go.RE.wanted_none rfl]; decide)⟩
          have d3 := f3 (hd 3 (by kernel_rfl))
          have e26 : a.tmps[26]? = some (x 26) := hx 3 _ 26 rfl rfl (hd 3 (by kernel_rfl))
          rw [d3] at e26
          clear hf hx hd
          go_simp
          refine hK _ _ ?_
          exact ⟨hI, f0, f1, f2, f3, fun _ => rfl, f5, f6, f7, f8, f9, f10, f11, f12, f13, f14, f15, f16, f17, f18, f19, f20, f21, f22, f23, f24, f25, f26, f27, f28, f29, f30, f31, f32, f33, f34⟩
        · intro L x a wR K hL hd hf hx hΦ hK
          obtain ⟨hI, f0, f1, f2, f3, f4, f5, f6, f7, f8, f9, f10, f11, f12, f13, f14, f15, f16, f17, f18, f19, f20, f21, f22, f23, f24, f25, f26, f27, f28, f29, f30, f31, f32, f33, f34⟩ := hΦ
          have g4 := f4 (hd 4 (by kernel_rfl))
          have ge : a.tmps[27]? = some (x 27) := hx 4 _ 27 rfl rfl (hd 4 (by kernel_rfl))
          rw [g4] at ge
          refine ⟨fun _ => ?_, fun h => absurd h (by rw [Go.RE.wanted_of rfl (Go.RE.yielded_of rfl rfl ge)]; decide)⟩
          have e5 : a.tmps[5]? = some (.slice (some ⟨g, 0, none⟩) N c) := hf 5 (of_decide_eq_true (by kernel_rfl))
          clear hf hx hd
          go_simp
          refine hK _ _ ?_
          exact ⟨hI, f0, f1, f2, f3, f4, fun _ => rfl, f6, f7, f8, f9, f10, f11, f12, f13, f14, f15, f16, f17, f18, f19, f20, f21, f22, f23, f24, f25, f26, f27, f28, f29, f30, f31, f32, f33, f34⟩
        · intro L x a wR K hL hd hf hx hΦ hK
          obtain ⟨hI, f0, f1, f2, f3, f4, f5, f6, f7, f8, f9, f10, f11, f12, f13, f14, f15, f16, f17, f18, f19, f20, f21, f22, f23, f24, f25, f26, f27, f28, f29, f30, f31, f32, f33, f34⟩ := hΦ
          have g4 := f4 (hd 4 (by kernel_rfl))
          have ge : a.tmps[27]? = some (x 27) := hx 4 _ 27 rfl rfl (hd 4 (by kernel_rfl))
          rw [g4] at ge
          refine ⟨fun _ => ?_, fun h => absurd h (by rw [Go.RE.wanted_of rfl (Go.RE.yielded_of rfl rfl ge)]; decide)⟩
          have e6 : a.tmps[6]? = some (.int .i64 (k : Int)) := hf 6 (of_decide_eq_true (by kernel_rfl))
          clear hf hx hd
          go_simp
          refine hK _ _ ?_
          exact ⟨hI, f0, f1, f2, f3, f4, f5, fun _ => rfl, f7, f8, f9, f10, f11, f12, f13, f14, f15, f16, f17, f18, f19, f20, f21, f22, f23, f24, f25, f26, f27, f28, f29, f30, f31, f32, f33, f34⟩
        · intro L x a wR K hL hd hf hx hΦ hK
          obtain ⟨hI, f0, f1, f2, f3, f4, f5, f6, f7, f8, f9, f10, f11, f12, f13, f14, f15, f16, f17, f18, f19, f20, f21, f22, f23, f24, f25, f26, f27, f28, f29, f30, f31, f32, f33, f34⟩ := hΦ
          have g4 := f4 (hd 4 (by kernel_rfl))
          have ge : a.tmps[27]? = some (x 27) := hx 4 _ 27 rfl rfl (hd 4 (by kernel_rfl))
          rw [g4] at ge
          refine ⟨fun _ => ?_, fun h => absurd h (by rw [Go.RE.wanted_of rfl (Go.RE.yielded_of rfl rfl ge)]; decide)⟩
          have d5 := f5 (hd 5 (by kernel_rfl))
          have e28 : a.tmps[28]? = some (x 28) := hx 5 _ 28 rfl rfl (hd 5 (by kernel_rfl))
          rw [d5] at e28
          have d6 := f6 (hd 6 (by kernel_rfl))
          have e29 : a.tmps[29]? = some (x 29) := hx 6 _ 29 rfl rfl (hd 6 (by kernel_rfl))
          rw [d6] at e29
          have l1 := HK0.out
          have l2 := HK1.out.1
          have l3 := HK1.out.2
          have l4 : decide (n ≤ k) = false := decide_eq_false (by omega)
          have l5 : decide (k < n) = true := decide_eq_true (by omega)
          clear hf hx hd
          go_simp
          refine hK _ _ ?_
          exact ⟨hI, f0, f1, f2, f3, f4, f5, f6, fun _ => rfl, f8, f9, f10, f11, f12, f13, f14, f15, f16, f17, f18, f19, f20, f21, f22, f23, f24, f25, f26, f27, f28, f29, f30, f31, f32, f33, f34⟩
        · intro L x a wR K hL hd hf hx hΦ hK
          obtain ⟨hI, f0, f1, f2, f3, f4, f5, f6, f7, f8, f9, f10, f11, f12, f13, f14, f15, f16, f17, f18, f19, f20, f21, f22, f23, f24, f25, f26, f27, f28, f29, f30, f31, f32, f33, f34⟩ := hΦ
          have g4 := f4 (hd 4 (by kernel_rfl))
          have ge : a.tmps[27]? = some (x 27) := hx 4 _ 27 rfl rfl (hd 4 (by kernel_rfl))
          rw [g4] at ge
          refine ⟨fun _ => ?_, fun h => absurd h (by rw [Go.RE.wanted_of rfl (Go.RE.yielded_of rfl rfl ge)]; decide)⟩
          have d7 := f7 (hd 7 (by kernel_rfl))
          have e30 : a.tmps[30]? = some (x 30) := hx 7 _ 30 rfl rfl (hd 7 (by kernel_rfl))
          rw [d7] at e30
          have c := HC1.out _ hI
          clear hf hx hd
          go_simp
          refine hK _ _ ?_
          exact ⟨hI, f0, f1, f2, f3, f4, f5, f6, f7, fun _ => rfl, f9, f10, f11, f12, f13, f14, f15, f16, f17, f18, f19, f20, f21, f22, f23, f24, f25, f26, f27, f28, f29, f30, f31, f32, f33, f34⟩
        · intro L x a wR K hL hd hf hx hΦ hK
          obtain ⟨hI, f0, f1, f2, f3, f4, f5, f6, f7, f8, f9, f10, f11, f12, f13, f14, f15, f16, f17, f18, f19, f20, f21, f22, f23, f24, f25, f26, f27, f28, f29, f30, f31, f32, f33, f34⟩ := hΦ
          have g4 := f4 (hd 4 (by kernel_rfl))
          have ge : a.tmps[27]? = some (x 27) := hx 4 _ 27 rfl rfl (hd 4 (by kernel_rfl))
          rw [g4] at ge
          refine ⟨fun _ => ?_, fun h => absurd h (by rw [Go.RE.wanted_of rfl (Go.RE.yielded_of rfl rfl ge)]; decide)⟩
          have e1 : a.tmps[1]? = some (.slice (some ⟨lg, lo, none⟩) n zc) := hf 1 (of_decide_eq_true (by kernel_rfl))
          clear hf hx hd
          go_simp
          refine hK _ _ ?_
          exact ⟨hI, f0, f1, f2, f3, f4, f5, f6, f7, f8, fun _ => rfl, f10, f11, f12, f13, f14, f15, f16, f17, f18, f19, f20, f21, f22, f23, f24, f25, f26, f27, f28, f29, f30, f31, f32, f33, f34⟩
        · intro L x a wR K hL hd hf hx hΦ hK
          obtain ⟨hI, f0, f1, f2, f3, f4, f5, f6, f7, f8, f9, f10, f11, f12, f13, f14, f15, f16, f17, f18, f19, f20, f21, f22, f23, f24, f25, f26, f27, f28, f29, f30, f31, f32, f33, f34⟩ := hΦ
          have g4 := f4 (hd 4 (by kernel_rfl))
          have ge : a.tmps[27]? = some (x 27) := hx 4 _ 27 rfl rfl (hd 4 (by kernel_rfl))
          rw [g4] at ge
          refine ⟨fun _ => ?_, fun h => absurd h (by rw [Go.RE.wanted_of rfl (Go.RE.yielded_of rfl rfl ge)]; decide)⟩
          have e6 : a.tmps[6]? = some (.int .i64 (k : Int)) := hf 6 (of_decide_eq_true (by kernel_rfl))
          clear hf hx hd
          go_simp
          refine hK _ _ ?_
          exact ⟨hI, f0, f1, f2, f3, f4, f5, f6, f7, f8, f9, fun _ => rfl, f11, f12, f13, f14, f15, f16, f17, f18, f19, f20, f21, f22, f23, f24, f25, f26, f27, f28, f29, f30, f31, f32, f33, f34⟩
        · intro L x a wR K hL hd hf hx hΦ hK
          obtain ⟨hI, f0, f1, f2, f3, f4, f5, f6, f7, f8, f9, f10, f11, f12, f13, f14, f15, f16, f17, f18, f19, f20, f21, f22, f23, f24, f25, f26, f27, f28, f29, f30, f31, f32, f33, f34⟩ := hΦ
          have g4 := f4 (hd 4 (by kernel_rfl))
          have ge : a.tmps[27]? = some (x 27) := hx 4 _ 27 rfl rfl (hd 4 (by kernel_rfl))
          rw [g4] at ge
          refine ⟨fun _ => ?_, fun h => absurd h (by rw [Go.RE.wanted_of rfl (Go.RE.yielded_of rfl rfl ge)]; decide)⟩
          have d9 := f9 (hd 9 (by kernel_rfl))
          have e32 : a.tmps[32]? = some (x 32) := hx 9 _ 32 rfl rfl (hd 9 (by kernel_rfl))
          rw [d9] at e32
          have d10 := f10 (hd 10 (by kernel_rfl))
          have e33 : a.tmps[33]? = some (x 33) := hx 10 _ 33 rfl rfl (hd 10 (by kernel_rfl))
          rw [d10] at e33
          have l1 := HK0.out
          have l2 := HK1.out.1
          have l3 := HK1.out.2
          have l4 : decide (n ≤ k) = false := decide_eq_false (by omega)
          have l5 : decide (k < n) = true := decide_eq_true (by omega)
          clear hf hx hd
          go_simp
          refine hK _ _ ?_
          exact ⟨hI, f0, f1, f2, f3, f4, f5, f6, f7, f8, f9, f10, fun _ => rfl, f12, f13, f14, f15, f16, f17, f18, f19, f20, f21, f22, f23, f24, f25, f26, f27, f28, f29, f30, f31, f32, f33, f34⟩
        · intro L x a wR K hL hd hf hx hΦ hK
          obtain ⟨hI, f0, f1, f2, f3, f4, f5, f6, f7, f8, f9, f10, f11, f12, f13, f14, f15, f16, f17, f18, f19, f20, f21, f22, f23, f24, f25, f26, f27, f28, f29, f30, f31, f32, f33, f34⟩ := hΦ
          have g4 := f4 (hd 4 (by kernel_rfl))
          have ge : a.tmps[27]? = some (x 27) := hx 4 _ 27 rfl rfl (hd 4 (by kernel_rfl))
          rw [g4] at ge
          refine ⟨fun _ => ?_, fun h => absurd h (by rw [Go.RE.wanted_of rfl (Go.RE.yielded_of rfl rfl ge)]; decide)⟩
          have d11 := f11 (hd 11 (by kernel_rfl))
          have e34 : a.tmps[34]? = some (x 34) := hx 11 _ 34 rfl rfl (hd 11 (by kernel_rfl))
          rw [d11] at e34
          have c := HC2.out _ hI
          clear hf hx hd
          go_simp
          refine hK _ _ ?_
          exact ⟨hI, f0, f1, f2, f3, f4, f5, f6, f7, f8, f9, f10, f11, fun _ => rfl, f13, f14, f15, f16, f17, f18, f19, f20, f21, f22, f23, f24, f25, f26, f27, f28, f29, f30, f31, f32, f33, f34⟩
        · intro L x a wR K hL hd hf hx hΦ hK
          obtain ⟨hI, f0, f1, f2, f3, f4, f5, f6, f7, f8, f9, f10, f11, f12, f13, f14, f15, f16, f17, f18, f19, f20, f21, f22, f23, f24, f25, f26, f27, f28, f29, f30, f31, f32, f33, f34⟩ := hΦ
          have g4 := f4 (hd 4 (by kernel_rfl))
          have ge : a.tmps[27]? = some (x 27) := hx 4 _ 27 rfl rfl (hd 4 (by kernel_rfl))
          rw [g4] at ge
          refine ⟨fun _ => ?_, fun h => absurd h (by rw [Go.RE.wanted_of rfl (Go.RE.yielded_of rfl rfl ge)]; decide)⟩
          have d8 := f8 (hd 8 (by kernel_rfl))
          have e31 : a.tmps[31]? = some (x 31) := hx 8 _ 31 rfl rfl (hd 8 (by kernel_rfl))
          rw [d8] at e31
          have d12 := f12 (hd 12 (by kernel_rfl))
          have e35 : a.tmps[35]? = some (x 35) := hx 12 _ 35 rfl rfl (hd 12 (by kernel_rfl))
          rw [d12] at e35
          clear hf hx hd
          go_simp
          refine hK _ _ ?_
          exact ⟨hI, f0, f1, f2, f3, f4, f5, f6, f7, f8, f9, f10, f11, f12, fun _ => rfl, f14, f15, f16, f17, f18, f19, f20, f21, f22, f23, f24, f25, f26, f27, f28, f29, f30, f31, f32, f33, f34⟩
        · intro L x a wR K hL hd hf hx hΦ hK
          obtain ⟨hI, f0, f1, f2, f3, f4, f5, f6, f7, f8, f9, f10, f11, f12, f13, f14, f15, f16, f17, f18, f19, f20, f21, f22, f23, f24, f25, f26, f27, f28, f29, f30, f31, f32, f33, f34⟩ := hΦ
          have g4 := f4 (hd 4 (by kernel_rfl))
          have ge : a.tmps[27]? = some (x 27) := hx 4 _ 27 rfl rfl (hd 4 (by kernel_rfl))
          rw [g4] at ge
          refine ⟨fun _ => ?_, fun h => absurd h (by rw [Go.RE.wanted_of rfl (Go.RE.yielded_of rfl rfl ge)]; decide)⟩
          have d13 := f13 (hd 13 (by kernel_rfl))
          have e36 : a.tmps[36]? = some (x 36) := hx 13 _ 36 rfl rfl (hd 13 (by kernel_rfl))
          rw [d13] at e36
          clear hf hx hd
          go_simp
          refine hK _ _ ?_
          exact ⟨hI, f0, f1, f2, f3, f4, f5, f6, f7, f8, f9, f10, f11, f12, f13, fun _ => rfl, f15, f16, f17, f18, f19, f20, f21, f22, f23, f24, f25, f26, f27, f28, f29, f30, f31, f32, f33, f34⟩
        · intro L x a wR K hL hd hf hx hΦ hK
          obtain ⟨hI, f0, f1, f2, f3, f4, f5, f6, f7, f8, f9, f10, f11, f12, f13, f14, f15, f16, f17, f18, f19, f20, f21, f22, f23, f24, f25, f26, f27, f28, f29, f30, f31, f32, f33, f34⟩ := hΦ
          refine ⟨fun _ => ?_, fun h => absurd h (by rw [Go.RE.wanted_none rfl]; decide)⟩
          have d4 := f4 (hd 4 (by kernel_rfl))
          have e27 : a.tmps[27]? = some (x 27) := hx 4 _ 27 rfl rfl (hd 4 (by kernel_rfl))
          rw [d4] at e27
          have d14 := f14 (hd 14 (by kernel_rfl))
          have e37 : a.tmps[37]? = some (x 37) := hx 14 _ 37 rfl rfl (hd 14 (by kernel_rfl))
          rw [d14] at e37
          clear hf hx hd
          go_simp
          refine hK _ _ ?_
          exact ⟨hI, f0, f1, f2, f3, f4, f5, f6, f7, f8, f9, f10, f11, f12, f13, f14, fun _ => rfl, f16, f17, f18, f19, f20, f21, f22, f23, f24, f25, f26, f27, f28, f29, f30, f31, f32, f33, f34⟩
        · intro L x a wR K hL hd hf hx hΦ hK
          obtain ⟨hI, f0, f1, f2, f3, f4, f5, f6, f7, f8, f9, f10, f11, f12, f13, f14, f15, f16, f17, f18, f19, f20, f21, f22, f23, f24, f25, f26, f27, f28, f29, f30, f31, f32, f33, f34⟩ := hΦ
          refine ⟨fun _ => ?_, fun h => absurd h (by rw [Go.RE.wanted_none rfl]; decide)⟩
          have d15 := f15 (hd 15 (by kernel_rfl))
          have e38 : a.tmps[38]? = some (x 38) := hx 15 _ 38 rfl rfl (hd 15 (by kernel_rfl))
          rw [d15] at e38
          clear hf hx hd
          go_simp
          refine hK _ _ ?_
          exact ⟨hI, f0, f1, f2, f3, f4, f5, f6, f7, f8, f9, f10, f11, f12, f13, f14, f15, fun _ => rfl, f17, f18, f19, f20, f21, f22, f23, f24, f25, f26, f27, f28, f29, f30, f31, f32, f33, f34⟩
        · intro L x a wR K hL hd hf hx hΦ hK
          obtain ⟨hI, f0, f1, f2, f3, f4, f5, f6, f7, f8, f9, f10, f11, f12, f13, f14, f15, f16, f17, f18, f19, f20, f21, f22, f23, f24, f25, f26, f27, f28, f29, f30, f31, f32, f33, f34⟩ := hΦ
          have g16 := f16 (hd 16 (by kernel_rfl))
          have ge : a.tmps[39]? = some (x 39) := hx 16 _ 39 rfl rfl (hd 16 (by kernel_rfl))
          rw [g16] at ge
          refine ⟨fun _ => ?_, fun h => absurd h (by rw [Go.RE.wanted_of rfl (Go.RE.yielded_of rfl rfl ge)]; decide)⟩
          have e6 : a.tmps[6]? = some (.int .i64 (k : Int)) := hf 6 (of_decide_eq_true (by kernel_rfl))
          clear hf hx hd
          go_simp
          refine hK _ _ ?_
          exact ⟨hI, f0, f1, f2, f3, f4, f5, f6, f7, f8, f9, f10, f11, f12, f13, f14, f15, f16, fun _ => rfl, f18, f19, f20, f21, f22, f23, f24, f25, f26, f27, f28, f29, f30, f31, f32, f33, f34⟩
        · intro L x a wR K hL hd hf hx hΦ hK
          obtain ⟨hI, f0, f1, f2, f3, f4, f5, f6, f7, f8, f9, f10, f11, f12, f13, f14, f15, f16, f17, f18, f19, f20, f21, f22, f23, f24, f25, f26, f27, f28, f29, f30, f31, f32, f33, f34⟩ := hΦ
          have g16 := f16 (hd 16 (by kernel_rfl))
          have ge : a.tmps[39]? = some (x 39) := hx 16 _ 39 rfl rfl (hd 16 (by kernel_rfl))
          rw [g16] at ge
          refine ⟨fun _ => ?_, fun h => absurd h (by rw [Go.RE.wanted_of rfl (Go.RE.yielded_of rfl rfl ge)]; decide)⟩
          have e1 : a.tmps[1]? = some (.slice (some ⟨lg, lo, none⟩) n zc) := hf 1 (of_decide_eq_true (by kernel_rfl))
          clear hf hx hd
          go_simp
          refine hK _ _ ?_
          exact ⟨hI, f0, f1, f2, f3, f4, f5, f6, f7, f8, f9, f10, f11, f12, f13, f14, f15, f16, f17, fun _ => rfl, f19, f20, f21, f22, f23, f24, f25, f26, f27, f28, f29, f30, f31, f32, f33, f34⟩
        · intro L x a wR K hL hd hf hx hΦ hK
          obtain ⟨hI, f0, f1, f2, f3, f4, f5, f6, f7, f8, f9, f10, f11, f12, f13, f14, f15, f16, f17, f18, f19, f20, f21, f22, f23, f24, f25, f26, f27, f28, f29, f30, f31, f32, f33, f34⟩ := hΦ
          have g16 := f16 (hd 16 (by kernel_rfl))
          have ge : a.tmps[39]? = some (x 39) := hx 16 _ 39 rfl rfl (hd 16 (by kernel_rfl))
          rw [g16] at ge
          refine ⟨fun _ => ?_, fun h => absurd h (by rw [Go.RE.wanted_of rfl (Go.RE.yielded_of rfl rfl ge)]; decide)⟩
          have d18 := f18 (hd 18 (by kernel_rfl))
          have e41 : a.tmps[41]? = some (x 41) := hx 18 _ 41 rfl rfl (hd 18 (by kernel_rfl))
          rw [d18] at e41
          clear hf hx hd
          go_simp
          refine hK _ _ ?_
          exact ⟨hI, f0, f1, f2, f3, f4, f5, f6, f7, f8, f9, f10, f11, f12, f13, f14, f15, f16, f17, f18, fun _ => rfl, f20, f21, f22, f23, f24, f25, f26, f27, f28, f29, f30, f31, f32, f33, f34⟩
        · intro L x a wR K hL hd hf hx hΦ hK
          obtain ⟨hI, f0, f1, f2, f3, f4, f5, f6, f7, f8, f9, f10, f11, f12, f13, f14, f15, f16, f17, f18, f19, f20, f21, f22, f23, f24, f25, f26, f27, f28, f29, f30, f31, f32, f33, f34⟩ := hΦ
          have g16 := f16 (hd 16 (by kernel_rfl))
          have ge : a.tmps[39]? = some (x 39) := hx 16 _ 39 rfl rfl (hd 16 (by kernel_rfl))
          rw [g16] at ge
          refine ⟨fun _ => ?_, fun h => absurd h (by rw [Go.RE.wanted_of rfl (Go.RE.yielded_of rfl rfl ge)]; decide)⟩
          have d17 := f17 (hd 17 (by kernel_rfl))
          have e40 : a.tmps[40]? = some (x 40) := hx 17 _ 40 rfl rfl (hd 17 (by kernel_rfl))
          rw [d17] at e40
          have d19 := f19 (hd 19 (by kernel_rfl))
          have e42 : a.tmps[42]? = some (x 42) := hx 19 _ 42 rfl rfl (hd 19 (by kernel_rfl))
          rw [d19] at e42
          have l1 := HK0.out
          have l2 := HK1.out.1
          have l3 := HK1.out.2
          have l4 : decide (n ≤ k) = false := decide_eq_false (by omega)
          have l5 : decide (k < n) = true := decide_eq_true (by omega)
          clear hf hx hd
          go_simp
          refine hK _ _ ?_
          exact ⟨hI, f0, f1, f2, f3, f4, f5, f6, f7, f8, f9, f10, f11, f12, f13, f14, f15, f16, f17, f18, f19, fun _ => rfl, f21, f22, f23, f24, f25, f26, f27, f28, f29, f30, f31, f32, f33, f34⟩
        · intro L x a wR K hL hd hf hx hΦ hK
          obtain ⟨hI, f0, f1, f2, f3, f4, f5, f6, f7, f8, f9, f10, f11, f12, f13, f14, f15, f16, f17, f18, f19, f20, f21, f22, f23, f24, f25, f26, f27, f28, f29, f30, f31, f32, f33, f34⟩ := hΦ
          have g16 := f16 (hd 16 (by kernel_rfl))
          have ge : a.tmps[39]? = some (x 39) := hx 16 _ 39 rfl rfl (hd 16 (by kernel_rfl))
          rw [g16] at ge
          refine ⟨fun _ => ?_, fun h => absurd h (by rw [Go.RE.wanted_of rfl (Go.RE.yielded_of rfl rfl ge)]; decide)⟩
          have d20 := f20 (hd 20 (by kernel_rfl))
          have e43 : a.tmps[43]? = some (x 43) := hx 20 _ 43 rfl rfl (hd 20 (by kernel_rfl))
          rw [d20] at e43
          clear hf hx hd
          go_simp
          refine hK _ _ ?_
          exact ⟨hI, f0, f1, f2, f3, f4, f5, f6, f7, f8, f9, f10, f11, f12, f13, f14, f15, f16, f17, f18, f19, f20, fun _ => rfl, f22, f23, f24, f25, f26, f27, f28, f29, f30, f31, f32, f33, f34⟩
        · intro L x a wR K hL hd hf hx hΦ hK
          obtain ⟨hI, f0, f1, f2, f3, f4, f5, f6, f7, f8, f9, f10, f11, f12, f13, f14, f15, f16, f17, f18, f19, f20, f21, f22, f23, f24, f25, f26, f27, f28, f29, f30, f31, f32, f33, f34⟩ := hΦ
          have g21 := f21 (hd 21 (by kernel_rfl))
          have ge : a.tmps[44]? = some (x 44) := hx 21 _ 44 rfl rfl (hd 21 (by kernel_rfl))
          rw [g21] at ge
          refine ⟨fun h => absurd h (by rw [Go.RE.wanted_of rfl (Go.RE.yielded_of rfl rfl ge)]; decide), fun _ => ?_⟩
          refine hK undef _ ?_
          exact ⟨hI, f0, f1, f2, f3, f4, f5, f6, f7, f8, f9, f10, f11, f12, f13, f14, f15, f16, f17, f18, f19, f20, f21, fun _ => rfl, f23, f24, f25, f26, f27, f28, f29, f30, f31, f32, f33, f34⟩
        · intro L x a wR K hL hd hf hx hΦ hK
          obtain ⟨hI, f0, f1, f2, f3, f4, f5, f6, f7, f8, f9, f10, f11, f12, f13, f14, f15, f16, f17, f18, f19, f20, f21, f22, f23, f24, f25, f26, f27, f28, f29, f30, f31, f32, f33, f34⟩ := hΦ
          have g21 := f21 (hd 21 (by kernel_rfl))
          have ge : a.tmps[44]? = some (x 44) := hx 21 _ 44 rfl rfl (hd 21 (by kernel_rfl))
          rw [g21] at ge
          refine ⟨fun h => absurd h (by rw [Go.RE.wanted_of rfl (Go.RE.yielded_of rfl rfl ge)]; decide), fun _ => ?_⟩
          refine hK undef _ ?_
          exact ⟨hI, f0, f1, f2, f3, f4, f5, f6, f7, f8, f9, f10, f11, f12, f13, f14, f15, f16, f17, f18, f19, f20, f21, f22, fun _ => rfl, f24, f25, f26, f27, f28, f29, f30, f31, f32, f33, f34⟩
        · intro L x a wR K hL hd hf hx hΦ hK
          obtain ⟨hI, f0, f1, f2, f3, f4, f5, f6, f7, f8, f9, f10, f11, f12, f13, f14, f15, f16, f17, f18, f19, f20, f21, f22, f23, f24, f25, f26, f27, f28, f29, f30, f31, f32, f33, f34⟩ := hΦ
          have g21 := f21 (hd 21 (by kernel_rfl))
          have ge : a.tmps[44]? = some (x 44) := hx 21 _ 44 rfl rfl (hd 21 (by kernel_rfl))
          rw [g21] at ge
          refine ⟨fun h => absurd h (by rw [Go.RE.wanted_of rfl (Go.RE.yielded_of rfl rfl ge)]; decide), fun _ => ?_⟩
          refine hK undef _ ?_
          exact ⟨hI, f0, f1, f2, f3, f4, f5, f6, f7, f8, f9, f10, f11, f12, f13, f14, f15, f16, f17, f18, f19, f20, f21, f22, f23, fun _ => rfl, f25, f26, f27, f28, f29, f30, f31, f32, f33, f34⟩
        · intro L x a wR K hL hd hf hx hΦ hK
          obtain ⟨hI, f0, f1, f2, f3, f4, f5, f6, f7, f8, f9, f10, f11, f12, f13, f14, f15, f16, f17, f18, f19, f20, f21, f22, f23, f24, f25, f26, f27, f28, f29, f30, f31, f32, f33, f34⟩ := hΦ
          have g21 := f21 (hd 21 (by kernel_rfl))
          have ge : a.tmps[44]? = some (x 44) := hx 21 _ 44 rfl rfl (hd 21 (by kernel_rfl))
          rw [g21] at ge
          refine ⟨fun h => absurd h (by rw [Go.RE.wanted_of rfl (Go.RE.yielded_of rfl rfl ge)]; decide), fun _ => ?_⟩
          refine hK undef _ ?_
          exact ⟨hI, f0, f1, f2, f3, f4, f5, f6, f7, f8, f9, f10, f11, f12, f13, f14, f15, f16, f17, f18, f19, f20, f21, f22, f23, f24, fun _ => rfl, f26, f27, f28, f29, f30, f31, f32, f33, f34⟩
        · intro L x a wR K hL hd hf hx hΦ hK
          obtain ⟨hI, f0, f1, f2, f3, f4, f5, f6, f7, f8, f9, f10, f11, f12, f13, f14, f15, f16, f17, f18, f19, f20, f21, f22, f23, f24, f25, f26, f27, f28, f29, f30, f31, f32, f33, f34⟩ := hΦ
          have g21 := f21 (hd 21 (by kernel_rfl))
          have ge : a.tmps[44]? = some (x 44) := hx 21 _ 44 rfl rfl (hd 21 (by kernel_rfl))
          rw [g21] at ge
          refine ⟨fun h => absurd h (by rw [Go.RE.wanted_of rfl (Go.RE.yielded_of rfl rfl ge)]; decide), fun _ => ?_⟩
          refine hK undef _ ?_
          exact ⟨hI, f0, f1, f2, f3, f4, f5, f6, f7, f8, f9, f10, f11, f12, f13, f14, f15, f16, f17, f18, f19, f20, f21, f22, f23, f24, f25, fun _ => rfl, f27, f28, f29, f30, f31, f32, f33, f34⟩
        · intro L x a wR K hL hd hf hx hΦ hK
          obtain ⟨hI, f0, f1, f2, f3, f4, f5, f6, f7, f8, f9, f10, f11, f12, f13, f14, f15, f16, f17, f18, f19, f20, f21, f22, f23, f24, f25, f26, f27, f28, f29, f30, f31, f32, f33, f34⟩ := hΦ
          have g21 := f21 (hd 21 (by kernel_rfl))
          have ge : a.tmps[44]? = some (x 44) := hx 21 _ 44 rfl rfl (hd 21 (by kernel_rfl))
          rw [g21] at ge
          refine ⟨fun h => absurd h (by rw [Go.RE.wanted_of rfl (Go.RE.yielded_of rfl rfl ge)]; decide), fun _ => ?_⟩
          refine hK undef _ ?_
          exact ⟨hI, f0, f1, f2, f3, f4, f5, f6, f7, f8, f9, f10, f11, f12, f13, f14, f15, f16, f17, f18, f19, f20, f21, f22, f23, f24, f25, f26, fun _ => rfl, f28, f29, f30, f31, f32, f33, f34⟩
        · intro L x a wR K hL hd hf hx hΦ hK
          obtain ⟨hI, f0, f1, f2, f3, f4, f5, f6, f7, f8, f9, f10, f11, f12, f13, f14, f15, f16, f17, f18, f19, f20, f21, f22, f23, f24, f25, f26, f27, f28, f29, f30, f31, f32, f33, f34⟩ := hΦ
          have g21 := f21 (hd 21 (by kernel_rfl))
          have ge : a.tmps[44]? = some (x 44) := hx 21 _ 44 rfl rfl (hd 21 (by kernel_rfl))
          rw [g21] at ge
          refine ⟨fun h => absurd h (by rw [Go.RE.wanted_of rfl (Go.RE.yielded_of rfl rfl ge)]; decide), fun _ => ?_⟩
          refine hK undef _ ?_
          exact ⟨hI, f0, f1, f2, f3, f4, f5, f6, f7, f8, f9, f10, f11, f12, f13, f14, f15, f16, f17, f18, f19, f20, f21, f22, f23, f24, f25, f26, f27, fun _ => rfl, f29, f30, f31, f32, f33, f34⟩
        · intro L x a wR K hL hd hf hx hΦ hK
          obtain ⟨hI, f0, f1, f2, f3, f4, f5, f6, f7, f8, f9, f10, f11, f12, f13, f14, f15, f16, f17, f18, f19, f20, f21, f22, f23, f24, f25, f26, f27, f28, f29, f30, f31, f32, f33, f34⟩ := hΦ
          have g21 := f21 (hd 21 (by kernel_rfl))
          have ge : a.tmps[44]? = some (x 44) := hx 21 _ 44 rfl rfl (hd 21 (by kernel_rfl))
          rw [g21] at ge
          refine ⟨fun h => absurd h (by rw [Go.RE.wanted_of rfl (Go.RE.yielded_of rfl rfl ge)]; decide), fun _ => ?_⟩
          refine hK undef _ ?_
          exact ⟨hI, f0, f1, f2, f3, f4, f5, f6, f7, f8, f9, f10, f11, f12, f13, f14, f15, f16, f17, f18, f19, f20, f21, f22, f23, f24, f25, f26, f27, f28, fun _ => rfl, f30, f31, f32, f33, f34⟩
        · intro L x a wR K hL hd hf hx hΦ hK
          obtain ⟨hI, f0, f1, f2, f3, f4, f5, f6, f7, f8, f9, f10, f11, f12, f13, f14, f15, f16, f17, f18, f19, f20, f21, f22, f23, f24, f25, f26, f27, f28, f29, f30, f31, f32, f33, f34⟩ := hΦ
          have g21 := f21 (hd 21 (by kernel_rfl))
          have ge : a.tmps[44]? = some (x 44) := hx 21 _ 44 rfl rfl (hd 21 (by kernel_rfl))
          rw [g21] at ge
          refine ⟨fun h => absurd h (by rw [Go.RE.wanted_of rfl (Go.RE.yielded_of rfl rfl ge)]; decide), fun _ => ?_⟩
          refine hK undef _ ?_
          exact ⟨hI, f0, f1, f2, f3, f4, f5, f6, f7, f8, f9, f10, f11, f12, f13, f14, f15, f16, f17, f18, f19, f20, f21, f22, f23, f24, f25, f26, f27, f28, f29, fun _ => rfl, f31, f32, f33, f34⟩
        · intro L x a wR K hL hd hf hx hΦ hK
          obtain ⟨hI, f0, f1, f2, f3, f4, f5, f6, f7, f8, f9, f10, f11, f12, f13, f14, f15, f16, f17, f18, f19, f20, f21, f22, f23, f24, f25, f26, f27, f28, f29, f30, f31, f32, f33, f34⟩ := hΦ
          have g21 := f21 (hd 21 (by kernel_rfl))
          have ge : a.tmps[44]? = some (x 44) := hx 21 _ 44 rfl rfl (hd 21 (by kernel_rfl))
          rw [g21] at ge
          refine ⟨fun h => absurd h (by rw [Go.RE.wanted_of rfl (Go.RE.yielded_of rfl rfl ge)]; decide), fun _ => ?_⟩
          refine hK undef _ ?_
          exact ⟨hI, f0, f1, f2, f3, f4, f5, f6, f7, f8, f9, f10, f11, f12, f13, f14, f15, f16, f17, f18, f19, f20, f21, f22, f23, f24, f25, f26, f27, f28, f29, f30, fun _ => rfl, f32, f33, f34⟩
        · intro L x a wR K hL hd hf hx hΦ hK
          obtain ⟨hI, f0, f1, f2, f3, f4, f5, f6, f7, f8, f9, f10, f11, f12, f13, f14, f15, f16, f17, f18, f19, f20, f21, f22, f23, f24, f25, f26, f27, f28, f29, f30, f31, f32, f33, f34⟩ := hΦ
          have g21 := f21 (hd 21 (by kernel_rfl))
          have ge : a.tmps[44]? = some (x 44) := hx 21 _ 44 rfl rfl (hd 21 (by kernel_rfl))
          rw [g21] at ge
          refine ⟨fun h => absurd h (by rw [Go.RE.wanted_of rfl (Go.RE.yielded_of rfl rfl ge)]; decide), fun _ => ?_⟩
          refine hK undef _ ?_
          exact ⟨hI, f0, f1, f2, f3, f4, f5, f6, f7, f8, f9, f10, f11, f12, f13, f14, f15, f16, f17, f18, f19, f20, f21, f22, f23, f24, f25, f26, f27, f28, f29, f30, f31, fun _ => rfl, f33, f34⟩
        · intro L x a wR K hL hd hf hx hΦ hK
          obtain ⟨hI, f0, f1, f2, f3, f4, f5, f6, f7, f8, f9, f10, f11, f12, f13, f14, f15, f16, f17, f18, f19, f20, f21, f22, f23, f24, f25, f26, f27, f28, f29, f30, f31, f32, f33, f34⟩ := hΦ
          have g16 := f16 (hd 16 (by kernel_rfl))
          have ge : a.tmps[39]? = some (x 39) := hx 16 _ 39 rfl rfl (hd 16 (by kernel_rfl))
          rw [g16] at ge
          refine ⟨fun _ => ?_, fun h => absurd h (by rw [Go.RE.wanted_of rfl (Go.RE.yielded_of rfl rfl ge)]; decide)⟩
          have d21 := f21 (hd 21 (by kernel_rfl))
          have e44 : a.tmps[44]? = some (x 44) := hx 21 _ 44 rfl rfl (hd 21 (by kernel_rfl))
          rw [d21] at e44
          have d32 := f32 (hd 32 (by kernel_rfl))
          have e55 : a.tmps[55]? = some (x 55) := hx 32 _ 55 rfl rfl (hd 32 (by kernel_rfl))
          rw [d32] at e55
          clear hf hx hd
          go_simp
          refine hK _ _ ?_
          exact ⟨hI, f0, f1, f2, f3, f4, f5, f6, f7, f8, f9, f10, f11, f12, f13, f14, f15, f16, f17, f18, f19, f20, f21, f22, f23, f24, f25, f26, f27, f28, f29, f30, f31, f32, fun _ => rfl, f34⟩
        · intro L x a wR K hL hd hf hx hΦ hK
          obtain ⟨hI, f0, f1, f2, f3, f4, f5, f6, f7, f8, f9, f10, f11, f12, f13, f14, f15, f16, f17, f18, f19, f20, f21, f22, f23, f24, f25, f26, f27, f28, f29, f30, f31, f32, f33, f34⟩ := hΦ
          refine ⟨fun _ => ?_, fun h => absurd h (by rw [Go.RE.wanted_none rfl]; decide)⟩
          have d16 := f16 (hd 16 (by kernel_rfl))
          have e39 : a.tmps[39]? = some (x 39) := hx 16 _ 39 rfl rfl (hd 16 (by kernel_rfl))
          rw [d16] at e39
          have d33 := f33 (hd 33 (by kernel_rfl))
          have e56 : a.tmps[56]? = some (x 56) := hx 33 _ 56 rfl rfl (hd 33 (by kernel_rfl))
          rw [d33] at e56
          clear hf hx hd
          go_simp
          refine hK _ _ ?_
          exact ⟨hI, f0, f1, f2, f3, f4, f5, f6, f7, f8, f9, f10, f11, f12, f13, f14, f15, f16, f17, f18, f19, f20, f21, f22, f23, f24, f25, f26, f27, f28, f29, f30, f31, f32, f33, fun _ => rfl⟩
        · rintro x W ⟨hI, f0, f1, f2, f3, f4, f5, f6, f7, f8, f9, f10, f11, f12, f13, f14, f15, f16, f17, f18, f19, f20, f21, f22, f23, f24, f25, f26, f27, f28, f29, f30, f31, f32, f33, f34⟩
          simp only [Exit.then]
          go_step
          go_meet
          exact ⟨f34 rfl, hI⟩
      · have b1 : ¬ (k : Int) < (n : Int) := by omega
        have b2 : (n : Int) ≤ (k : Int) := by omega
        obtain ⟨j, hj⟩ : ∃ j, j = k - n := ⟨_, rfl⟩
        have hj12 : j < 12 := by have := HN.out; omega
        have hkj : k = n + j := by omega
        have HC1 : Hid (∀ W, Below wr.heap.size wr W → W.cell? ⟨g, k, none⟩ = some (.int .i64 (8000024 + (j : Int)))) := Lib.hid fun W h => by rw [hkj]; exact HCM.out W (below_tr hB h) j hj12
        have HJ : Hid ((k : Int) - (n : Int) = (j : Int) ∧ IntKind.i64.wrap ((k : Int) - (n : Int)) = (j : Int) ∧ j ≤ 100000) := Lib.hid (by
          have e : (k : Int) - (n : Int) = (j : Int) := by omega
          exact ⟨e, by rw [e]; exact IntWalk.i64_in _ (by omega), by omega⟩)
        have HK0 := Lib.hid b0
        have HK1 : Hid ((k : Int) < (N : Int) ∧ ¬ (k : Int) < (n : Int) ∧ (n : Int) ≤ (k : Int)) := Lib.hid ⟨hkN, b1, b2⟩
        have HBB := Lib.hid hB
        clear hj hkj hj12 hB
        refine Go.RE.wp_region_eachg [23, 24, 25, 26, 27, 28, 29, 30, 31, 32, 33, 34, 35, 36, 37, 38, 39, 40, 41, 42, 43, 44, 45, 46, 47, 48, 49, 50, 51, 52, 53, 54, 55, 56, 57] (fun L x W => (Below wr.heap.size wr W) ∧ (L 0 = true → x 23 = .int .i64 (k : Int)) ∧ (L 1 = true → x 24 = .slice za n zc) ∧ (L 2 = true → x 25 = .int .i64 (n : Int)) ∧ (L 3 = true → x 26 = .bool false) ∧ (L 4 = true → x 27 = .bool false) ∧ (L 5 = true → x 28 = undef) ∧ (L 6 = true → x 29 = undef) ∧ (L 7 = true → x 30 = undef) ∧ (L 8 = true → x 31 = undef) ∧ (L 9 = true → x 32 = undef) ∧ (L 10 = true → x 33 = undef) ∧ (L 11 = true → x 34 = undef) ∧ (L 12 = true → x 35 = undef) ∧ (L 13 = true → x 36 = undef) ∧ (L 14 = true → x 37 = undef) ∧ (L 15 = true → x 38 = .bool false) ∧ (L 16 = true → x 39 = .bool false) ∧ (L 17 = true → x 40 = .int .i64 (k : Int)) ∧ (L 18 = true → x 41 = .slice za n zc) ∧ (L 19 = true → x 42 = .int .i64 (n : Int)) ∧ (L 20 = true → x 43 = .bool true) ∧ (L 21 = true → x 44 = .bool true) ∧ (L 22 = true → x 45 = .slice (some ⟨g, 0, none⟩) N c) ∧ (L 23 = true → x 46 = .int .i64 (k : Int)) ∧ (L 24 = true → x 47 = .pointer (some ⟨g, k, none⟩)) ∧ (L 25 = true → x 48 = .int .i64 (8000024 + (j : Int))) ∧ (L 26 = true → x 49 = .int .i64 (k : Int)) ∧ (L 27 = true → x 50 = .slice za n zc) ∧ (L 28 = true → x 51 = .int .i64 (n : Int)) ∧ (L 29 = true → x 52 = .int .i64 (j : Int)) ∧ (L 30 = true → x 53 = .int .i64 (8000024 + (j : Int))) ∧ (L 31 = true → x 54 = .bool true) ∧ (L 32 = true → x 55 = .bool false) ∧ (L 33 = true → x 56 = .bool false) ∧ (L 34 = true → x 57 = .bool false)) (by kernel_rfl) (by kernel_rfl) (by kernel_rfl) ?_ ((Go.RE.Each.cons ?_ (Go.RE.Each.cons ?_ (Go.RE.Each.cons ?_ (Go.RE.Each.cons ?_ (Go.RE.Each.cons ?_ (Go.RE.Each.cons ?_ (Go.RE.Each.cons ?_ (Go.RE.Each.cons ?_ (Go.RE.Each.cons ?_ (Go.RE.Each.cons ?_ (Go.RE.Each.cons ?_ (Go.RE.Each.cons ?_ (Go.RE.Each.cons ?_ (Go.RE.Each.cons ?_ (Go.RE.Each.cons ?_ (Go.RE.Each.cons ?_ (Go.RE.Each.cons ?_ (Go.RE.Each.cons ?_ (Go.RE.Each.cons ?_ (Go.RE.Each.cons ?_ (Go.RE.Each.cons ?_ (Go.RE.Each.cons ?_ (Go.RE.Each.cons ?_ (Go.RE.Each.cons ?_ (Go.RE.Each.cons ?_ (Go.RE.Each.cons ?_ (Go.RE.Each.cons ?_ (Go.RE.Each.cons ?_ (Go.RE.Each.cons ?_ (Go.RE.Each.cons ?_ (Go.RE.Each.cons ?_ (Go.RE.Each.cons ?_ (Go.RE.Each.cons ?_ (Go.RE.Each.cons ?_ (Go.RE.Each.cons ?_ Go.RE.Each.nil)))))))))))))))))))))))))))))))))))) ?_
        · exact fun x => ⟨bl_dr (Below.refl _ _), nofun, nofun, nofun, nofun, nofun, nofun, nofun, nofun, nofun, nofun, nofun, nofun, nofun, nofun, nofun, nofun, nofun, nofun, nofun, nofun, nofun, nofun, nofun, nofun, nofun, nofun, nofun, nofun, nofun, nofun, nofun, nofun, nofun, nofun, nofun⟩
        · intro L x a wR K hL hd hf hx hΦ hK
          obtain ⟨hI, f0, f1, f2, f3, f4, f5, f6, f7, f8, f9, f10, f11, f12, f13, f14, f15, f16, f17, f18, f19, f20, f21, f22, f23, f24, f25, f26, f27, f28, f29, f30, f31, f32, f33, f34⟩ := hΦ
          refine ⟨fun _ => ?_, fun h => absurd h (by rw [Go.RE.wanted_none rfl]; decide)⟩
          have e6 : a.tmps[6]? = some (.int .i64 (k : Int)) := hf 6 (of_decide_eq_true (by kernel_rfl))
          clear hf hx hd
          go_simp
          refine hK _ _ ?_
          exact ⟨hI, fun _ => rfl, f1, f2, f3, f4, f5, f6, f7, f8, f9, f10, f11, f12, f13, f14, f15, f16, f17, f18, f19, f20, f21, f22, f23, f24, f25, f26, f27, f28, f29, f30, f31, f32, f33, f34⟩
        · intro L x a wR K hL hd hf hx hΦ hK
          obtain ⟨hI, f0, f1, f2, f3, f4, f5, f6, f7, f8, f9, f10, f11, f12, f13, f14, f15, f16, f17, f18, f19, f20, f21, f22, f23, f24, f25, f26, f27, f28, f29, f30, f31, f32, f33, f34⟩ := hΦ
          refine ⟨fun _ => ?_, fun h => absurd h (by rw [Go.RE.wanted_none rfl]; decide)⟩
          have e1 : a.tmps[1]? = some (.slice za n zc) := hf 1 (of_decide_eq_true (by kernel_rfl))
          clear hf hx hd
          go_simp
          refine hK _ _ ?_
          exact ⟨hI, f0, fun _ => rfl, f2, f3, f4, f5, f6, f7, f8, f9, f10, f11, f12, f13, f14, f15, f16, f17, f18, f19, f20, f21, f22, f23, f24, f25, f26, f27, f28, f29, f30, f31, f32, f33, f34⟩
        · intro L x a wR K hL hd hf hx hΦ hK
          obtain ⟨hI, f0, f1, f2, f3, f4, f5, f6, f7, f8, f9, f10, f11, f12, f13, f14, f15, f16, f17, f18, f19, f20, f21, f22, f23, f24, f25, f26, f27, f28, f29, f30, f31, f32, f33, f34⟩ := hΦ
          refine ⟨fun _ => ?_, fun h => absurd h (by rw [Go.RE.wanted_none rfl]; decide)⟩
          have d1 := f1 (hd 1 (by kernel_rfl))
          have e24 : a.tmps[24]? = some (x 24) := hx 1 _ 24 rfl rfl (hd 1 (by kernel_rfl))
          rw [d1] at e24
          clear hf hx hd
          go_simp
          refine hK _ _ ?_
          exact ⟨hI, f0, f1, fun _ => rfl, f3, f4, f5, f6, f7, f8, f9, f10, f11, f12, f13, f14, f15, f16, f17, f18, f19, f20, f21, f22, f23, f24, f25, f26, f27, f28, f29, f30, f31, f32, f33, f34⟩
        · intro L x a wR K hL hd hf hx hΦ hK
          obtain ⟨hI, f0, f1, f2, f3, f4, f5, f6, f7, f8, f9, f10, f11, f12, f13, f14, f15, f16, f17, f18, f19, f20, f21, f22, f23, f24, f25, f26, f27, f28, f29, f30, f31, f32, f33, f34⟩ := hΦ
          refine ⟨fun _ => ?_, fun h => absurd h (by rw [Go.RE.wanted_none rfl]; decide)⟩
          have d0 := f0 (hd 0 (by kernel_rfl))
          have e23 : a.tmps[23]? = some (x 23) := hx 0 _ 23 rfl rfl (hd 0 (by kernel_rfl))
          rw [d0] at e23
          have d2 := f2 (hd 2 (by kernel_rfl))
          have e25 : a.tmps[25]? = some (x 25) := hx 2 _ 25 rfl rfl (hd 2 (by kernel_rfl))
          rw [d2] at e25
          have l1 := HK0.out
          have l2 := HK1.out.1
          have l3 := HK1.out.2.1
          have l4 := HK1.out.2.2
          have l5 : decide (n ≤ k) = true := decide_eq_true (by omega)
          have l6 : decide (k < n) = false := decide_eq_false (by omega)
          clear hf hx hd
          go_simp
          refine hK _ _ ?_
          exact ⟨hI, f0, f1, f2, fun _ => rfl, f4, f5, f6, f7, f8, f9, f10, f11, f12, f13, f14, f15, f16, f17, f18, f19, f20, f21, f22, f23, f24, f25, f26, f27, f28, f29, f30, f31, f32, f33, f34⟩
        · intro L x a wR K hL hd hf hx hΦ hK
          obtain ⟨hI, f0, f1, f2, f3, f4, f5, f6, f7, f8, f9, f10, f11, f12, f13, f14, f15, f16, f17, f18, f19, f20, f21, f22, f23, f24, f25, f26, f27, f28, f29, f30, f31, f32, f33, f34⟩ := hΦ
          refine ⟨fun _ => ?_, fun h => absurd h (by rw [Go.RE.wanted_none rfl]; decide)⟩
          have d3 := f3 (hd 3 (by kernel_rfl))
          have e26 : a.tmps[26]? = some (x 26) := hx 3 _ 26 rfl rfl (hd 3 (by kernel_rfl))
          rw [d3] at e26
          clear hf hx hd
          go_simp
          refine hK _ _ ?_
          exact ⟨hI, f0, f1, f2, f3, fun _ => rfl, f5, f6, f7, f8, f9, f10, f11, f12, f13, f14, f15, f16, f17, f18, f19, f20, f21, f22, f23, f24, f25, f26, f27, f28, f29, f30, f31, f32, f33, f34⟩
        · intro L x a wR K hL hd hf hx hΦ hK
          obtain ⟨hI, f0, f1, f2, f3, f4, f5, f6, f7, f8, f9, f10, f11, f12, f13, f14, f15, f16, f17, f18, f19, f20, f21, f22, f23, f24, f25, f26, f27, f28, f29, f30, f31, f32, f33, f34⟩ := hΦ
          have g4 := f4 (hd 4 (by kernel_rfl))
          have ge : a.tmps[27]? = some (x 27) := hx 4 _ 27 rfl rfl (hd 4 (by kernel_rfl))
          rw [g4] at ge
          refine ⟨fun h => absurd h (by rw [Go.RE.wanted_of rfl (Go.RE.yielded_of rfl rfl ge)]; decide), fun _ => ?_⟩
          refine hK undef _ ?_
          exact ⟨hI, f0, f1, f2, f3, f4, fun _ => rfl, f6, f7, f8, f9, f10, f11, f12, f13, f14, f15, f16, f17, f18, f19, f20, f21, f22, f23, f24, f25, f26, f27, f28, f29, f30, f31, f32, f33, f34⟩
        · intro L x a wR K hL hd hf hx hΦ hK
          obtain ⟨hI, f0, f1, f2, f3, f4, f5, f6, f7, f8, f9, f10, f11, f12, f13, f14, f15, f16, f17, f18, f19, f20, f21, f22, f23, f24, f25, f26, f27, f28, f29, f30, f31, f32, f33, f34⟩ := hΦ
          have g4 := f4 (hd 4 (by kernel_rfl))
          have ge : a.tmps[27]? = some (x 27) := hx 4 _ 27 rfl rfl (hd 4 (by kernel_rfl))
          rw [g4] at ge
          refine ⟨fun h => absurd h (by rw [Go.RE.wanted_of rfl (Go.RE.yielded_of rfl rfl ge)]; decide), fun _ => ?_⟩
          refine hK undef _ ?_
          exact ⟨hI, f0, f1, f2, f3, f4, f5, fun _ => rfl, f7, f8, f9, f10, f11, f12, f13, f14, f15, f16, f17, f18, f19, f20, f21, f22, f23, f24, f25, f26, f27, f28, f29, f30, f31, f32, f33, f34⟩
        · intro L x a wR K hL hd hf hx hΦ hK
          obtain ⟨hI, f0, f1, f2, f3, f4, f5, f6, f7, f8, f9, f10, f11, f12, f13, f14, f15, f16, f17, f18, f19, f20, f21, f22, f23, f24, f25, f26, f27, f28, f29, f30, f31, f32, f33, f34⟩ := hΦ
          have g4 := f4 (hd 4 (by kernel_rfl))
          have ge : a.tmps[27]? = some (x 27) := hx 4 _ 27 rfl rfl (hd 4 (by kernel_rfl))
          rw [g4] at ge
          refine ⟨fun h => absurd h (by rw [Go.RE.wanted_of rfl (Go.RE.yielded_of rfl rfl ge)]; decide), fun _ => ?_⟩
          refine hK undef _ ?_
          exact ⟨hI, f0, f1, f2, f3, f4, f5, f6, fun _ => rfl, f8, f9, f10, f11, f12, f13, f14, f15, f16, f17, f18, f19, f20, f21, f22, f23, f24, f25, f26, f27, f28, f29, f30, f31, f32, f33, f34⟩
        · intro L x a wR K hL hd hf hx hΦ hK
          obtain ⟨hI, f0, f1, f2, f3, f4, f5, f6, f7, f8, f9, f10, f11, f12, f13, f14, f15, f16, f17, f18, f19, f20, f21, f22, f23, f24, f25, f26, f27, f28, f29, f30, f31, f32, f33, f34⟩ := hΦ
          have g4 := f4 (hd 4 (by kernel_rfl))
          have ge : a.tmps[27]? = some (x 27) := hx 4 _ 27 rfl rfl (hd 4 (by kernel_rfl))
          rw [g4] at ge
          refine ⟨fun h => absurd h (by rw [Go.RE.wanted_of rfl (Go.RE.yielded_of rfl rfl ge)]; decide), fun _ => ?_⟩
          refine hK undef _ ?_
          exact ⟨hI, f0, f1, f2, f3, f4, f5, f6, f7, fun _ => rfl, f9, f10, f11, f12, f13, f14, f15, f16, f17, f18, f19, f20, f21, f22, f23, f24, f25, f26, f27, f28, f29, f30, f31, f32, f33, f34⟩
        · intro L x a wR K hL hd hf hx hΦ hK
          obtain ⟨hI, f0, f1, f2, f3, f4, f5, f6, f7, f8, f9, f10, f11, f12, f13, f14, f15, f16, f17, f18, f19, f20, f21, f22, f23, f24, f25, f26, f27, f28, f29, f30, f31, f32, f33, f34⟩ := hΦ
          have g4 := f4 (hd 4 (by kernel_rfl))
          have ge : a.tmps[27]? = some (x 27) := hx 4 _ 27 rfl rfl (hd 4 (by kernel_rfl))
          rw [g4] at ge
          refine ⟨fun h => absurd h (by rw [Go.RE.wanted_of rfl (Go.RE.yielded_of rfl rfl ge)]; decide), fun _ => ?_⟩
          refine hK undef _ ?_
          exact ⟨hI, f0, f1, f2, f3, f4, f5, f6, f7, f8, fun _ => rfl, f10, f11, f12, f13, f14, f15, f16, f17, f18, f19, f20, f21, f22, f23, f24, f25, f26, f27, f28, f29, f30, f31, f32, f33, f34⟩
        · intro L x a wR K hL hd hf hx hΦ hK
          obtain ⟨hI, f0, f1, f2, f3, f4, f5, f6, f7, f8, f9, f10, f11, f12, f13, f14, f15, f16, f17, f18, f19, f20, f21, f22, f23, f24, f25, f26, f27, f28, f29, f30, f31, f32, f33, f34⟩ := hΦ
          have g4 := f4 (hd 4 (by kernel_rfl))
          have ge : a.tmps[27]? = some (x 27) := hx 4 _ 27 rfl rfl (hd 4 (by kernel_rfl))
          rw [g4] at ge
          refine ⟨fun h => absurd h (by rw [Go.RE.wanted_of rfl (Go.RE.yielded_of rfl rfl ge)]; decide), fun _ => ?_⟩
          refine hK undef _ ?_
          exact ⟨hI, f0, f1, f2, f3, f4, f5, f6, f7, f8, f9, fun _ => rfl, f11, f12, f13, f14, f15, f16, f17, f18, f19, f20, f21, f22, f23, f24, f25, f26, f27, f28, f29, f30, f31, f32, f33, f34⟩
        · intro L x a wR K hL hd hf hx hΦ hK
          obtain ⟨hI, f0, f1, f2, f3, f4, f5, f6, f7, f8, f9, f10, f11, f12, f13, f14, f15, f16, f17, f18, f19, f20, f21, f22, f23, f24, f25, f26, f27, f28, f29, f30, f31, f32, f33, f34⟩ := hΦ
          have g4 := f4 (hd 4 (by kernel_rfl))
          have ge : a.tmps[27]? = some (x 27) := hx 4 _ 27 rfl rfl (hd 4 (by kernel_rfl))
          rw [g4] at ge
          refine ⟨fun h => absurd h (by rw [Go.RE.wanted_of rfl (Go.RE.yielded_of rfl rfl ge)]; decide), fun _ => ?_⟩
          refine hK undef _ ?_
          exact ⟨hI, f0, f1, f2, f3, f4, f5, f6, f7, f8, f9, f10, fun _ => rfl, f12, f13, f14, f15, f16, f17, f18, f19, f20, f21, f22, f23, f24, f25, f26, f27, f28, f29, f30, f31, f32, f33, f34⟩
        · intro L x a wR K hL hd hf hx hΦ hK
          obtain ⟨hI, f0, f1, f2, f3, f4, f5, f6, f7, f8, f9, f10, f11, f12, f13, f14, f15, f16, f17, f18, f19, f20, f21, f22, f23, f24, f25, f26, f27, f28, f29, f30, f31, f32, f33, f34⟩ := hΦ
          have g4 := f4 (hd 4 (by kernel_rfl))
          have ge : a.tmps[27]? = some (x 27) := hx 4 _ 27 rfl rfl (hd 4 (by kernel_rfl))
          rw [g4] at ge
          refine ⟨fun h => absurd h (by rw [Go.RE.wanted_of rfl (Go.RE.yielded_of rfl rfl ge)]; decide), fun _ => ?_⟩
          refine hK undef _ ?_
          exact ⟨hI, f0, f1, f2, f3, f4, f5, f6, f7, f8, f9, f10, f11, fun _ => rfl, f13, f14, f15, f16, f17, f18, f19, f20, f21, f22, f23, f24, f25, f26, f27, f28, f29, f30, f31, f32, f33, f34⟩
        · intro L x a wR K hL hd hf hx hΦ hK
          obtain ⟨hI, f0, f1, f2, f3, f4, f5, f6, f7, f8, f9, f10, f11, f12, f13, f14, f15, f16, f17, f18, f19, f20, f21, f22, f23, f24, f25, f26, f27, f28, f29, f30, f31, f32, f33, f34⟩ := hΦ
          have g4 := f4 (hd 4 (by kernel_rfl))
          have ge : a.tmps[27]? = some (x 27) := hx 4 _ 27 rfl rfl (hd 4 (by kernel_rfl))
          rw [g4] at ge
          refine ⟨fun h => absurd h (by rw [Go.RE.wanted_of rfl (Go.RE.yielded_of rfl rfl ge)]; decide), fun _ => ?_⟩
          refine hK undef _ ?_
          exact ⟨hI, f0, f1, f2, f3, f4, f5, f6, f7, f8, f9, f10, f11, f12, fun _ => rfl, f14, f15, f16, f17, f18, f19, f20, f21, f22, f23, f24, f25, f26, f27, f28, f29, f30, f31, f32, f33, f34⟩
        · intro L x a wR K hL hd hf hx hΦ hK
          obtain ⟨hI, f0, f1, f2, f3, f4, f5, f6, f7, f8, f9, f10, f11, f12, f13, f14, f15, f16, f17, f18, f19, f20, f21, f22, f23, f24, f25, f26, f27, f28, f29, f30, f31, f32, f33, f34⟩ := hΦ
          have g4 := f4 (hd 4 (by kernel_rfl))
          have ge : a.tmps[27]? = some (x 27) := hx 4 _ 27 rfl rfl (hd 4 (by kernel_rfl))
          rw [g4] at ge
          refine ⟨fun h => absurd h (by rw [Go.RE.wanted_of rfl (Go.RE.yielded_of rfl rfl ge)]; decide), fun _ => ?_⟩
          refine hK undef _ ?_
          exact ⟨hI, f0, f1, f2, f3, f4, f5, f6, f7, f8, f9, f10, f11, f12, f13, fun _ => rfl, f15, f16, f17, f18, f19, f20, f21, f22, f23, f24, f25, f26, f27, f28, f29, f30, f31, f32, f33, f34⟩
        · intro L x a wR K hL hd hf hx hΦ hK
          obtain ⟨hI, f0, f1, f2, f3, f4, f5, f6, f7, f8, f9, f10, f11, f12, f13, f14, f15, f16, f17, f18, f19, f20, f21, f22, f23, f24, f25, f26, f27, f28, f29, f30, f31, f32, f33, f34⟩ := hΦ
          refine ⟨fun _ => ?_, fun h => absurd h (by rw [Go.RE.wanted_none rfl]; decide)⟩
          have d4 := f4 (hd 4 (by kernel_rfl))
          have e27 : a.tmps[27]? = some (x 27) := hx 4 _ 27 rfl rfl (hd 4 (by kernel_rfl))
          rw [d4] at e27
          have d14 := f14 (hd 14 (by kernel_rfl))
          have e37 : a.tmps[37]? = some (x 37) := hx 14 _ 37 rfl rfl (hd 14 (by kernel_rfl))
          rw [d14] at e37
          clear hf hx hd
          go_simp
          refine hK _ _ ?_
          exact ⟨hI, f0, f1, f2, f3, f4, f5, f6, f7, f8, f9, f10, f11, f12, f13, f14, fun _ => rfl, f16, f17, f18, f19, f20, f21, f22, f23, f24, f25, f26, f27, f28, f29, f30, f31, f32, f33, f34⟩
        · intro L x a wR K hL hd hf hx hΦ hK
          obtain ⟨hI, f0, f1, f2, f3, f4, f5, f6, f7, f8, f9, f10, f11, f12, f13, f14, f15, f16, f17, f18, f19, f20, f21, f22, f23, f24, f25, f26, f27, f28, f29, f30, f31, f32, f33, f34⟩ := hΦ
          refine ⟨fun _ => ?_, fun h => absurd h (by rw [Go.RE.wanted_none rfl]; decide)⟩
          have d15 := f15 (hd 15 (by kernel_rfl))
          have e38 : a.tmps[38]? = some (x 38) := hx 15 _ 38 rfl rfl (hd 15 (by kernel_rfl))
          rw [d15] at e38
          clear hf hx hd
          go_simp
          refine hK _ _ ?_
          exact ⟨hI, f0, f1, f2, f3, f4, f5, f6, f7, f8, f9, f10, f11, f12, f13, f14, f15, fun _ => rfl, f17, f18, f19, f20, f21, f22, f23, f24, f25, f26, f27, f28, f29, f30, f31, f32, f33, f34⟩
        · intro L x a wR K hL hd hf hx hΦ hK
          obtain ⟨hI, f0, f1, f2, f3, f4, f5, f6, f7, f8, f9, f10, f11, f12, f13, f14, f15, f16, f17, f18, f19, f20, f21, f22, f23, f24, f25, f26, f27, f28, f29, f30, f31, f32, f33, f34⟩ := hΦ
          have g16 := f16 (hd 16 (by kernel_rfl))
          have ge : a.tmps[39]? = some (x 39) := hx 16 _ 39 rfl rfl (hd 16 (by kernel_rfl))
          rw [g16] at ge
          refine ⟨fun _ => ?_, fun h => absurd h (by rw [Go.RE.wanted_of rfl (Go.RE.yielded_of rfl rfl ge)]; decide)⟩
          have e6 : a.tmps[6]? = some (.int .i64 (k : Int)) := hf 6 (of_decide_eq_true (by kernel_rfl))
          clear hf hx hd
          go_simp
          refine hK _ _ ?_
          exact ⟨hI, f0, f1, f2, f3, f4, f5, f6, f7, f8, f9, f10, f11, f12, f13, f14, f15, f16, fun _ => rfl, f18, f19, f20, f21, f22, f23, f24, f25, f26, f27, f28, f29, f30, f31, f32, f33, f34⟩
        · intro L x a wR K hL hd hf hx hΦ hK
          obtain ⟨hI, f0, f1, f2, f3, f4, f5, f6, f7, f8, f9, f10, f11, f12, f13, f14, f15, f16, f17, f18, f19, f20, f21, f22, f23, f24, f25, f26, f27, f28, f29, f30, f31, f32, f33, f34⟩ := hΦ
          have g16 := f16 (hd 16 (by kernel_rfl))
          have ge : a.tmps[39]? = some (x 39) := hx 16 _ 39 rfl rfl (hd 16 (by kernel_rfl))
          rw [g16] at ge
          refine ⟨fun _ => ?_, fun h => absurd h (by rw [Go.RE.wanted_of rfl (Go.RE.yielded_of rfl rfl ge)]; decide)⟩
          have e1 : a.tmps[1]? = some (.slice za n zc) := hf 1 (of_decide_eq_true (by kernel_rfl))
          clear hf hx hd
          go_simp
          refine hK _ _ ?_
          exact ⟨hI, f0, f1, f2, f3, f4, f5, f6, f7, f8, f9, f10, f11, f12, f13, f14, f15, f16, f17, fun _ => rfl, f19, f20, f21, f22, f23, f24, f25, f26, f27, f28, f29, f30, f31, f32, f33, f34⟩
        · intro L x a wR K hL hd hf hx hΦ hK
          obtain ⟨hI, f0, f1, f2, f3, f4, f5, f6, f7, f8, f9, f10, f11, f12, f13, f14, f15, f16, f17, f18, f19, f20, f21, f22, f23, f24, f25, f26, f27, f28, f29, f30, f31, f32, f33, f34⟩ := hΦ
          have g16 := f16 (hd 16 (by kernel_rfl))
          have ge : a.tmps[39]? = some (x 39) := hx 16 _ 39 rfl rfl (hd 16 (by kernel_rfl))
          rw [g16] at ge
          refine ⟨fun _ => ?_, fun h => absurd h (by rw [Go.RE.wanted_of rfl (Go.RE.yielded_of rfl rfl ge)]; decide)⟩
          have d18 := f18 (hd 18 (by kernel_rfl))
          have e41 : a.tmps[41]? = some (x 41) := hx 18 _ 41 rfl rfl (hd 18 (by kernel_rfl))
          rw [d18] at e41
          clear hf hx hd
          go_simp
          refine hK _ _ ?_
          exact ⟨hI, f0, f1, f2, f3, f4, f5, f6, f7, f8, f9, f10, f11, f12, f13, f14, f15, f16, f17, f18, fun _ => rfl, f20, f21, f22, f23, f24, f25, f26, f27, f28, f29, f30, f31, f32, f33, f34⟩
        · intro L x a wR K hL hd hf hx hΦ hK
          obtain ⟨hI, f0, f1, f2, f3, f4, f5, f6, f7, f8, f9, f10, f11, f12, f13, f14, f15, f16, f17, f18, f19, f20, f21, f22, f23, f24, f25, f26, f27, f28, f29, f30, f31, f32, f33, f34⟩ := hΦ
          have g16 := f16 (hd 16 (by kernel_rfl))
          have ge : a.tmps[39]? = some (x 39) := hx 16 _ 39 rfl rfl (hd 16 (by kernel_rfl))
          rw [g16] at ge
          refine ⟨fun _ => ?_, fun h => absurd h (by rw [Go.RE.wanted_of rfl (Go.RE.yielded_of rfl rfl ge)]; decide)⟩
          have d17 := f17 (hd 17 (by kernel_rfl))
          have e40 : a.tmps[40]? = some (x 40) := hx 17 _ 40 rfl rfl (hd 17 (by kernel_rfl))
          rw [d17] at e40
          have d19 := f19 (hd 19 (by kernel_rfl))
          have e42 : a.tmps[42]? = some (x 42) := hx 19 _ 42 rfl rfl (hd 19 (by kernel_rfl))
          rw [d19] at e42
          have l1 := HK0.out
          have l2 := HK1.out.1
          have l3 := HK1.out.2.1
          have l4 := HK1.out.2.2
          have l5 : decide (n ≤ k) = true := decide_eq_true (by omega)
          have l6 : decide (k < n) = false := decide_eq_false (by omega)
          clear hf hx hd
          go_simp
          refine hK _ _ ?_
          exact ⟨hI, f0, f1, f2, f3, f4, f5, f6, f7, f8, f9, f10, f11, f12, f13, f14, f15, f16, f17, f18, f19, fun _ => rfl, f21, f22, f23, f24, f25, f26, f27, f28, f29, f30, f31, f32, f33, f34⟩
        · intro L x a wR K hL hd hf hx hΦ hK
          obtain ⟨hI, f0, f1, f2, f3, f4, f5, f6, f7, f8, f9, f10, f11, f12, f13, f14, f15, f16, f17, f18, f19, f20, f21, f22, f23, f24, f25, f26, f27, f28, f29, f30, f31, f32, f33, f34⟩ := hΦ
          have g16 := f16 (hd 16 (by kernel_rfl))
          have ge : a.tmps[39]? = some (x 39) := hx 16 _ 39 rfl rfl (hd 16 (by kernel_rfl))
          rw [g16] at ge
          refine ⟨fun _ => ?_, fun h => absurd h (by rw [Go.RE.wanted_of rfl (Go.RE.yielded_of rfl rfl ge)]; decide)⟩
          have d20 := f20 (hd 20 (by kernel_rfl))
          have e43 : a.tmps[43]? = some (x 43) := hx 20 _ 43 rfl rfl (hd 20 (by kernel_rfl))
          rw [d20] at e43
          clear hf hx hd
          go_simp
          refine hK _ _ ?_
          exact ⟨hI, f0, f1, f2, f3, f4, f5, f6, f7, f8, f9, f10, f11, f12, f13, f14, f15, f16, f17, f18, f19, f20, fun _ => rfl, f22, f23, f24, f25, f26, f27, f28, f29, f30, f31, f32, f33, f34⟩
        · intro L x a wR K hL hd hf hx hΦ hK
          obtain ⟨hI, f0, f1, f2, f3, f4, f5, f6, f7, f8, f9, f10, f11, f12, f13, f14, f15, f16, f17, f18, f19, f20, f21, f22, f23, f24, f25, f26, f27, f28, f29, f30, f31, f32, f33, f34⟩ := hΦ
          have g21 := f21 (hd 21 (by kernel_rfl))
          have ge : a.tmps[44]? = some (x 44) := hx 21 _ 44 rfl rfl (hd 21 (by kernel_rfl))
          rw [g21] at ge
          refine ⟨fun _ => ?_, fun h => absurd h (by rw [Go.RE.wanted_of rfl (Go.RE.yielded_of rfl rfl ge)]; decide)⟩
          have e5 : a.tmps[5]? = some (.slice (some ⟨g, 0, none⟩) N c) := hf 5 (of_decide_eq_true (by kernel_rfl))
          clear hf hx hd
          go_simp
          refine hK _ _ ?_
          exact ⟨hI, f0, f1, f2, f3, f4, f5, f6, f7, f8, f9, f10, f11, f12, f13, f14, f15, f16, f17, f18, f19, f20, f21, fun _ => rfl, f23, f24, f25, f26, f27, f28, f29, f30, f31, f32, f33, f34⟩
        · intro L x a wR K hL hd hf hx hΦ hK
          obtain ⟨hI, f0, f1, f2, f3, f4, f5, f6, f7, f8, f9, f10, f11, f12, f13, f14, f15, f16, f17, f18, f19, f20, f21, f22, f23, f24, f25, f26, f27, f28, f29, f30, f31, f32, f33, f34⟩ := hΦ
          have g21 := f21 (hd 21 (by kernel_rfl))
          have ge : a.tmps[44]? = some (x 44) := hx 21 _ 44 rfl rfl (hd 21 (by kernel_rfl))
          rw [g21] at ge
          refine ⟨fun _ => ?_, fun h => absurd h (by rw [Go.RE.wanted_of rfl (Go.RE.yielded_of rfl rfl ge)]; decide)⟩
          have e6 : a.tmps[6]? = some (.int .i64 (k : Int)) := hf 6 (of_decide_eq_true (by kernel_rfl))
          clear hf hx hd
          go_simp
          refine hK _ _ ?_
          exact ⟨hI, f0, f1, f2, f3, f4, f5, f6, f7, f8, f9, f10, f11, f12, f13, f14, f15, f16, f17, f18, f19, f20, f21, f22, fun _ => rfl, f24, f25, f26, f27, f28, f29, f30, f31, f32, f33, f34⟩
        · intro L x a wR K hL hd hf hx hΦ hK
          obtain ⟨hI, f0, f1, f2, f3, f4, f5, f6, f7, f8, f9, f10, f11, f12, f13, f14, f15, f16, f17, f18, f19, f20, f21, f22, f23, f24, f25, f26, f27, f28, f29, f30, f31, f32, f33, f34⟩ := hΦ
          have g21 := f21 (hd 21 (by kernel_rfl))
          have ge : a.tmps[44]? = some (x 44) := hx 21 _ 44 rfl rfl (hd 21 (by kernel_rfl))
          rw [g21] at ge
          refine ⟨fun _ => ?_, fun h => absurd h (by rw [Go.RE.wanted_of rfl (Go.RE.yielded_of rfl rfl ge)]; decide)⟩
          have d22 := f22 (hd 22 (by kernel_rfl))
          have e45 : a.tmps[45]? = some (x 45) := hx 22 _ 45 rfl rfl (hd 22 (by kernel_rfl))
          rw [d22] at e45
          have d23 := f23 (hd 23 (by kernel_rfl))
          have e46 : a.tmps[46]? = some (x 46) := hx 23 _ 46 rfl rfl (hd 23 (by kernel_rfl))
          rw [d23] at e46
          have l1 := HK0.out
          have l2 := HK1.out.1
          have l3 := HK1.out.2.1
          have l4 := HK1.out.2.2
          have l5 : decide (n ≤ k) = true := decide_eq_true (by omega)
          have l6 : decide (k < n) = false := decide_eq_false (by omega)
          clear hf hx hd
          go_simp
          refine hK _ _ ?_
          exact ⟨hI, f0, f1, f2, f3, f4, f5, f6, f7, f8, f9, f10, f11, f12, f13, f14, f15, f16, f17, f18, f19, f20, f21, f22, f23, fun _ => rfl, f25, f26, f27, f28, f29, f30, f31, f32, f33, f34⟩
        · intro L x a wR K hL hd hf hx hΦ hK
          obtain ⟨hI, f0, f1, f2, f3, f4, f5, f6, f7, f8, f9, f10, f11, f12, f13, f14, f15, f16, f17, f18, f19, f20, f21, f22, f23, f24, f25, f26, f27, f28, f29, f30, f31, f32, f33, f34⟩ := hΦ
          have g21 := f21 (hd 21 (by kernel_rfl))
          have ge : a.tmps[44]? = some (x 44) := hx 21 _ 44 rfl rfl (hd 21 (by kernel_rfl))
          rw [g21] at ge
          refine ⟨fun _ => ?_, fun h => absurd h (by rw [Go.RE.wanted_of rfl (Go.RE.yielded_of rfl rfl ge)]; decide)⟩
          have d24 := f24 (hd 24 (by kernel_rfl))
          have e47 : a.tmps[47]? = some (x 47) := hx 24 _ 47 rfl rfl (hd 24 (by kernel_rfl))
          rw [d24] at e47
          have c := HC1.out _ hI
          clear hf hx hd
          go_simp
          refine hK _ _ ?_
          exact ⟨hI, f0, f1, f2, f3, f4, f5, f6, f7, f8, f9, f10, f11, f12, f13, f14, f15, f16, f17, f18, f19, f20, f21, f22, f23, f24, fun _ => rfl, f26, f27, f28, f29, f30, f31, f32, f33, f34⟩
        · intro L x a wR K hL hd hf hx hΦ hK
          obtain ⟨hI, f0, f1, f2, f3, f4, f5, f6, f7, f8, f9, f10, f11, f12, f13, f14, f15, f16, f17, f18, f19, f20, f21, f22, f23, f24, f25, f26, f27, f28, f29, f30, f31, f32, f33, f34⟩ := hΦ
          have g21 := f21 (hd 21 (by kernel_rfl))
          have ge : a.tmps[44]? = some (x 44) := hx 21 _ 44 rfl rfl (hd 21 (by kernel_rfl))
          rw [g21] at ge
          refine ⟨fun _ => ?_, fun h => absurd h (by rw [Go.RE.wanted_of rfl (Go.RE.yielded_of rfl rfl ge)]; decide)⟩
          have e6 : a.tmps[6]? = some (.int .i64 (k : Int)) := hf 6 (of_decide_eq_true (by kernel_rfl))
          clear hf hx hd
          go_simp
          refine hK _ _ ?_
          exact ⟨hI, f0, f1, f2, f3, f4, f5, f6, f7, f8, f9, f10, f11, f12, f13, f14, f15, f16, f17, f18, f19, f20, f21, f22, f23, f24, f25, fun _ => rfl, f27, f28, f29, f30, f31, f32, f33, f34⟩
        · intro L x a wR K hL hd hf hx hΦ hK
          obtain ⟨hI, f0, f1, f2, f3, f4, f5, f6, f7, f8, f9, f10, f11, f12, f13, f14, f15, f16, f17, f18, f19, f20, f21, f22, f23, f24, f25, f26, f27, f28, f29, f30, f31, f32, f33, f34⟩ := hΦ
          have g21 := f21 (hd 21 (by kernel_rfl))
          have ge : a.tmps[44]? = some (x 44) := hx 21 _ 44 rfl rfl (hd 21 (by kernel_rfl))
          rw [g21] at ge
          refine ⟨fun _ => ?_, fun h => absurd h (by rw [Go.RE.wanted_of rfl (Go.RE.yielded_of rfl rfl ge)]; decide)⟩
          have e1 : a.tmps[1]? = some (.slice za n zc) := hf 1 (of_decide_eq_true (by kernel_rfl))
          clear hf hx hd
          go_simp
          refine hK _ _ ?_
          exact ⟨hI, f0, f1, f2, f3, f4, f5, f6, f7, f8, f9, f10, f11, f12, f13, f14, f15, f16, f17, f18, f19, f20, f21, f22, f23, f24, f25, f26, fun _ => rfl, f28, f29, f30, f31, f32, f33, f34⟩
        · intro L x a wR K hL hd hf hx hΦ hK
          obtain ⟨hI, f0, f1, f2, f3, f4, f5, f6, f7, f8, f9, f10, f11, f12, f13, f14, f15, f16, f17, f18, f19, f20, f21, f22, f23, f24, f25, f26, f27, f28, f29, f30, f31, f32, f33, f34⟩ := hΦ
          have g21 := f21 (hd 21 (by kernel_rfl))
          have ge : a.tmps[44]? = some (x 44) := hx 21 _ 44 rfl rfl (hd 21 (by kernel_rfl))
          rw [g21] at ge
          refine ⟨fun _ => ?_, fun h => absurd h (by rw [Go.RE.wanted_of rfl (Go.RE.yielded_of rfl rfl ge)]; decide)⟩
          have d27 := f27 (hd 27 (by kernel_rfl))
          have e50 : a.tmps[50]? = some (x 50) := hx 27 _ 50 rfl rfl (hd 27 (by kernel_rfl))
          rw [d27] at e50
          clear hf hx hd
          go_simp
          refine hK _ _ ?_
          exact ⟨hI, f0, f1, f2, f3, f4, f5, f6, f7, f8, f9, f10, f11, f12, f13, f14, f15, f16, f17, f18, f19, f20, f21, f22, f23, f24, f25, f26, f27, fun _ => rfl, f29, f30, f31, f32, f33, f34⟩
        · intro L x a wR K hL hd hf hx hΦ hK
          obtain ⟨hI, f0, f1, f2, f3, f4, f5, f6, f7, f8, f9, f10, f11, f12, f13, f14, f15, f16, f17, f18, f19, f20, f21, f22, f23, f24, f25, f26, f27, f28, f29, f30, f31, f32, f33, f34⟩ := hΦ
          have g21 := f21 (hd 21 (by kernel_rfl))
          have ge : a.tmps[44]? = some (x 44) := hx 21 _ 44 rfl rfl (hd 21 (by kernel_rfl))
          rw [g21] at ge
          refine ⟨fun _ => ?_, fun h => absurd h (by rw [Go.RE.wanted_of rfl (Go.RE.yielded_of rfl rfl ge)]; decide)⟩
          have d26 := f26 (hd 26 (by kernel_rfl))
          have e49 : a.tmps[49]? = some (x 49) := hx 26 _ 49 rfl rfl (hd 26 (by kernel_rfl))
          rw [d26] at e49
          have d28 := f28 (hd 28 (by kernel_rfl))
          have e51 : a.tmps[51]? = some (x 51) := hx 28 _ 51 rfl rfl (hd 28 (by kernel_rfl))
          rw [d28] at e51
          have e1 := HJ.out.1
          have e2 : IntKind.i64.wrap (j : Int) = (j : Int) := IntWalk.i64_in _ (by have := HJ.out.2.2; omega)
          clear hf hx hd
          go_simp
          refine hK _ _ ?_
          exact ⟨hI, f0, f1, f2, f3, f4, f5, f6, f7, f8, f9, f10, f11, f12, f13, f14, f15, f16, f17, f18, f19, f20, f21, f22, f23, f24, f25, f26, f27, f28, fun _ => rfl, f30, f31, f32, f33, f34⟩
        · intro L x a wR K hL hd hf hx hΦ hK
          obtain ⟨hI, f0, f1, f2, f3, f4, f5, f6, f7, f8, f9, f10, f11, f12, f13, f14, f15, f16, f17, f18, f19, f20, f21, f22, f23, f24, f25, f26, f27, f28, f29, f30, f31, f32, f33, f34⟩ := hΦ
          have g21 := f21 (hd 21 (by kernel_rfl))
          have ge : a.tmps[44]? = some (x 44) := hx 21 _ 44 rfl rfl (hd 21 (by kernel_rfl))
          rw [g21] at ge
          refine ⟨fun _ => ?_, fun h => absurd h (by rw [Go.RE.wanted_of rfl (Go.RE.yielded_of rfl rfl ge)]; decide)⟩
          have d29 := f29 (hd 29 (by kernel_rfl))
          have e52 : a.tmps[52]? = some (x 52) := hx 29 _ 52 rfl rfl (hd 29 (by kernel_rfl))
          rw [d29] at e52
          clear hf hx hd
          go_simp
          go_at_call 45
          with_reducible refine (mark_1 wR j HJ.out.2.2).mono ?_
          rintro e w' ⟨rfl, rfl⟩
          simp only
          refine hK _ _ ?_
          exact ⟨hI, f0, f1, f2, f3, f4, f5, f6, f7, f8, f9, f10, f11, f12, f13, f14, f15, f16, f17, f18, f19, f20, f21, f22, f23, f24, f25, f26, f27, f28, f29, fun _ => rfl, f31, f32, f33, f34⟩
        · intro L x a wR K hL hd hf hx hΦ hK
          obtain ⟨hI, f0, f1, f2, f3, f4, f5, f6, f7, f8, f9, f10, f11, f12, f13, f14, f15, f16, f17, f18, f19, f20, f21, f22, f23, f24, f25, f26, f27, f28, f29, f30, f31, f32, f33, f34⟩ := hΦ
          have g21 := f21 (hd 21 (by kernel_rfl))
          have ge : a.tmps[44]? = some (x 44) := hx 21 _ 44 rfl rfl (hd 21 (by kernel_rfl))
          rw [g21] at ge
          refine ⟨fun _ => ?_, fun h => absurd h (by rw [Go.RE.wanted_of rfl (Go.RE.yielded_of rfl rfl ge)]; decide)⟩
          have d25 := f25 (hd 25 (by kernel_rfl))
          have e48 : a.tmps[48]? = some (x 48) := hx 25 _ 48 rfl rfl (hd 25 (by kernel_rfl))
          rw [d25] at e48
          have d30 := f30 (hd 30 (by kernel_rfl))
          have e53 : a.tmps[53]? = some (x 53) := hx 30 _ 53 rfl rfl (hd 30 (by kernel_rfl))
          rw [d30] at e53
          clear hf hx hd
          go_simp
          refine hK _ _ ?_
          exact ⟨hI, f0, f1, f2, f3, f4, f5, f6, f7, f8, f9, f10, f11, f12, f13, f14, f15, f16, f17, f18, f19, f20, f21, f22, f23, f24, f25, f26, f27, f28, f29, f30, fun _ => rfl, f32, f33, f34⟩
        · intro L x a wR K hL hd hf hx hΦ hK
          obtain ⟨hI, f0, f1, f2, f3, f4, f5, f6, f7, f8, f9, f10, f11, f12, f13, f14, f15, f16, f17, f18, f19, f20, f21, f22, f23, f24, f25, f26, f27, f28, f29, f30, f31, f32, f33, f34⟩ := hΦ
          have g21 := f21 (hd 21 (by kernel_rfl))
          have ge : a.tmps[44]? = some (x 44) := hx 21 _ 44 rfl rfl (hd 21 (by kernel_rfl))
          rw [g21] at ge
          refine ⟨fun _ => ?_, fun h => absurd h (by rw [Go.RE.wanted_of rfl (Go.RE.yielded_of rfl rfl ge)]; decide)⟩
          have d31 := f31 (hd 31 (by kernel_rfl))
          have e54 : a.tmps[54]? = some (x 54) := hx 31 _ 54 rfl rfl (hd 31 (by kernel_rfl))
          rw [d31] at e54
          clear hf hx hd
          go_simp
          refine hK _ _ ?_
          exact ⟨hI, f0, f1, f2, f3, f4, f5, f6, f7, f8, f9, f10, f11, f12, f13, f14, f15, f16, f17, f18, f19, f20, f21, f22, f23, f24, f25, f26, f27, f28, f29, f30, f31, fun _ => rfl, f33, f34⟩
        · intro L x a wR K hL hd hf hx hΦ hK
          obtain ⟨hI, f0, f1, f2, f3, f4, f5, f6, f7, f8, f9, f10, f11, f12, f13, f14, f15, f16, f17, f18, f19, f20, f21, f22, f23, f24, f25, f26, f27, f28, f29, f30, f31, f32, f33, f34⟩ := hΦ
          have g16 := f16 (hd 16 (by kernel_rfl))
          have ge : a.tmps[39]? = some (x 39) := hx 16 _ 39 rfl rfl (hd 16 (by kernel_rfl))
          rw [g16] at ge
          refine ⟨fun _ => ?_, fun h => absurd h (by rw [Go.RE.wanted_of rfl (Go.RE.yielded_of rfl rfl ge)]; decide)⟩
          have d21 := f21 (hd 21 (by kernel_rfl))
          have e44 : a.tmps[44]? = some (x 44) := hx 21 _ 44 rfl rfl (hd 21 (by kernel_rfl))
          rw [d21] at e44
          have d32 := f32 (hd 32 (by kernel_rfl))
          have e55 : a.tmps[55]? = some (x 55) := hx 32 _ 55 rfl rfl (hd 32 (by kernel_rfl))
          rw [d32] at e55
          clear hf hx hd
          go_simp
          refine hK _ _ ?_
          exact ⟨hI, f0, f1, f2, f3, f4, f5, f6, f7, f8, f9, f10, f11, f12, f13, f14, f15, f16, f17, f18, f19, f20, f21, f22, f23, f24, f25, f26, f27, f28, f29, f30, f31, f32, fun _ => rfl, f34⟩
        · intro L x a wR K hL hd hf hx hΦ hK
          obtain ⟨hI, f0, f1, f2, f3, f4, f5, f6, f7, f8, f9, f10, f11, f12, f13, f14, f15, f16, f17, f18, f19, f20, f21, f22, f23, f24, f25, f26, f27, f28, f29, f30, f31, f32, f33, f34⟩ := hΦ
          refine ⟨fun _ => ?_, fun h => absurd h (by rw [Go.RE.wanted_none rfl]; decide)⟩
          have d16 := f16 (hd 16 (by kernel_rfl))
          have e39 : a.tmps[39]? = some (x 39) := hx 16 _ 39 rfl rfl (hd 16 (by kernel_rfl))
          rw [d16] at e39
          have d33 := f33 (hd 33 (by kernel_rfl))
          have e56 : a.tmps[56]? = some (x 56) := hx 33 _ 56 rfl rfl (hd 33 (by kernel_rfl))
          rw [d33] at e56
          clear hf hx hd
          go_simp
          refine hK _ _ ?_
          exact ⟨hI, f0, f1, f2, f3, f4, f5, f6, f7, f8, f9, f10, f11, f12, f13, f14, f15, f16, f17, f18, f19, f20, f21, f22, f23, f24, f25, f26, f27, f28, f29, f30, f31, f32, f33, fun _ => rfl⟩
        · rintro x W ⟨hI, f0, f1, f2, f3, f4, f5, f6, f7, f8, f9, f10, f11, f12, f13, f14, f15, f16, f17, f18, f19, f20, f21, f22, f23, f24, f25, f26, f27, f28, f29, f30, f31, f32, f33, f34⟩
          simp only [Exit.then]
          go_step
          go_meet
          exact ⟨f34 rfl, hI⟩
    · have HBB := Lib.hid hB
      clear hB
      go_wp2_with (fail)
      go_ret
      exact ⟨rfl, HBB.out⟩
end Go.Proofs.YtflmllablfjfeaaDoor
