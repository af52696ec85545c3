/- Rows filled cell by cell; copies of terms (measure's). -/
import Derived.Test.YtfebcpmbkljaoaaRich
import Derived.Test.YtfebcpmbkljaoaaRepl
import Derived.Test.YtfebcpmbkljaoaaWrA
namespace Go.Proofs.Ytfebcpmbkljaoaa
open Go.RowKit Go.HR
set_option linter.unusedVariables false
set_option linter.unusedSimpArgs false
set_option linter.unusedSectionVars false
/-- A block that can be written. -/
def ThawAt (W : World) (k : Nat) : Prop := ∃ cs t, W.heap[k]? = some (.cells cs t (0, 0))
/-- Blocks of A that can be written. -/
def Th (A : Nat → Prop) (W : World) : Nat → Prop := fun k => A k ∧ ThawAt W k
theorem th_turn {A B : Nat → Prop} {W W' : World} (hb : ∀ k, A k → B k ∧ W'.heap[k]? = W.heap[k]?) : ∀ k, Th A W k → Th B W' k ∧ W'.heap[k]? = W.heap[k]? := fun k hk => ⟨⟨(hb k hk.1).1, by unfold ThawAt; rw [(hb k hk.1).2]; exact hk.2⟩, (hb k hk.1).2⟩
theorem IsTs.turnT {A B : Nat → Prop} {W W' : World} {s : SL} {ts : List TT} (h : IsTs (Th A W) W s ts) (hb : ∀ k, A k → B k ∧ W'.heap[k]? = W.heap[k]?) : IsTs (Th B W') W' s ts := h.turn (th_turn hb)
theorem IsFs.turnT {A B : Nat → Prop} {W W' : World} {s : SL} {ts : List FT} (h : IsFs (Th A W) W s ts) (hb : ∀ k, A k → B k ∧ W'.heap[k]? = W.heap[k]?) : IsFs (Th B W') W' s ts := h.turn (th_turn hb)
theorem IsIq.turnT {A B : Nat → Prop} {W W' : World} {s : SL} {ts : List Int} (h : IsIq (Th A W) W s ts) (hb : ∀ k, A k → B k ∧ W'.heap[k]? = W.heap[k]?) : IsIq (Th B W') W' s ts := h.turn (th_turn hb)
theorem IsMq.turnT {A B : Nat → Prop} {W W' : World} {s : SL} {ts : List (List Int)} (h : IsMq (Th A W) W s ts) (hb : ∀ k, A k → B k ∧ W'.heap[k]? = W.heap[k]?) : IsMq (Th B W') W' s ts := h.turn (th_turn hb)
theorem IsPq.turnT {A B : Nat → Prop} {W W' : World} {s : SL} {ts : List PT} (h : IsPq (Th A W) W s ts) (hb : ∀ k, A k → B k ∧ W'.heap[k]? = W.heap[k]?) : IsPq (Th B W') W' s ts := h.turn (th_turn hb)
theorem RichT.turnT {A B : Nat → Prop} {W W' : World} (hb : ∀ k, A k → B k ∧ W'.heap[k]? = W.heap[k]?) {t : PT} {r : RT} (h : RichT (Th A W) W t r) : RichT (Th B W') W' t r := RichT.turn (th_turn hb) h
theorem RichF.turnT {A B : Nat → Prop} {W W' : World} (hb : ∀ k, A k → B k ∧ W'.heap[k]? = W.heap[k]?) {t : List PT} {r : List RT} (h : RichF (Th A W) W t r) : RichF (Th B W') W' t r := RichF.turn (th_turn hb) h
def putL : Array Value → Nat → List Value → Array Value
  | cur, _, [] => cur
  | cur, o, v :: vs => putL (cur.setIfInBounds o v) (o + 1) vs
def setL (R : Nat) : World → Nat → List Value → World
  | W, _, [] => W
  | W, o, v :: vs => setL R (W.setCell ⟨R, o, none⟩ v) (o + 1) vs
theorem putL_size : ∀ (vs : List Value) (cur : Array Value) (o : Nat), (putL cur o vs).size = cur.size
  | [], _, _ => rfl
  | v :: vs, cur, o => by rw [putL, putL_size vs]; simp
theorem putL_out : ∀ (vs : List Value) (cur : Array Value) (o m : Nat), m < o ∨ o + vs.length ≤ m → (putL cur o vs)[m]? = cur[m]?
  | [], _, _, _, _ => rfl
  | v :: vs, cur, o, m, h => by
    rw [putL, putL_out vs _ _ m (by simp at h; omega), Array.getElem?_setIfInBounds]
    have : ¬ o = m := by simp at h; omega
    simp [this]
theorem putL_in : ∀ (vs : List Value) (cur : Array Value) (o j : Nat) (v : Value), o + vs.length ≤ cur.size → vs[j]? = some v → (putL cur o vs)[o + j]? = some v
  | [], _, _, _, _, _, h => by simp at h
  | u :: vs, cur, o, 0, v, hz, h => by
    simp at h
    subst h
    rw [putL, putL_out vs _ _ _ (by omega), Array.getElem?_setIfInBounds]
    simp at hz
    simp; omega
  | u :: vs, cur, o, j + 1, v, hz, h => by
    have := putL_in vs (cur.setIfInBounds o u) (o + 1) j v (by simp at hz ⊢; omega) (by simpa using h)
    rw [putL, show o + (j + 1) = o + 1 + j by omega]
    exact this
theorem setL_heap {t : Nat} : ∀ (vs : List Value) (W : World) (R o : Nat) (cur : Array Value), W.heap[R]? = some (.cells cur t (0, 0)) → (setL R W o vs).heap[R]? = some (.cells (putL cur o vs) t (0, 0))
  | [], _, _, _, _, h => h
  | v :: vs, W, R, o, cur, h => setL_heap vs _ R (o + 1) _ (HK.blk_set h o v)
theorem setL_frm : ∀ (vs : List Value) (W : World) (R o : Nat), HK.Frm (· = R) W (setL R W o vs)
  | [], W, R, o => HK.Frm.refl _ _
  | v :: vs, W, R, o => (HK.Frm.setCell (F := (· = R)) (HK.Frm.refl _ W) (.inl rfl) v).trans (setL_frm vs _ R (o + 1))
/-- Rows of m cells. -/
def FillL (m : Nat) (cur : Array Value) (rows : List (List Value)) : Prop := ∀ (i : Nat) x, rows[i]? = some x → ∀ (j : Nat) v, x[j]? = some v → cur[i * m + j]? = some v
theorem FillL.put {m : Nat} {cur : Array Value} {rows : List (List Value)} {vs : List Value} (h : FillL m cur rows) (hm : vs.length = m) (hr : ∀ x ∈ rows, x.length = m) (hz : rows.length * m + m ≤ cur.size) : FillL m (putL cur (rows.length * m) vs) (rows ++ [vs]) := by
  intro i x hx j v hv
  by_cases hi : i < rows.length
  · rw [List.getElem?_append_left hi] at hx
    have hxm := hr x (List.mem_of_getElem? hx)
    have hj : j < m := by rw [← hxm]; exact (List.getElem?_eq_some_iff.1 hv).1
    have h1 : i * m + j < rows.length * m := by
      have : (i + 1) * m ≤ rows.length * m := Nat.mul_le_mul_right m (by omega)
      rw [Nat.add_mul, Nat.one_mul] at this
      omega
    rw [putL_out vs _ _ _ (.inl h1)]
    exact h i x hx j v hv
  · have hie : i = rows.length := by
      have := (List.getElem?_eq_some_iff.1 hx).1
      simp at this
      omega
    subst hie
    rw [List.getElem?_append_right (Nat.le_refl _), Nat.sub_self] at hx
    simp at hx
    subst hx
    exact putL_in vs cur _ j v (by rw [hm]; exact hz) hv
set_option maxRecDepth 100000 in
set_option maxHeartbeats 2000000 in
theorem each76_nil' (w : World) (f : Value) (a : Option Addr) (c : Nat) : Calls Try.prog 76 #[.slice a 0 c, f] w fun e w' => e = .returned (.slice none 0 0) ∧ w' = w := by
  go_enter Try.func76, Try.ntmps76
  go_wp2_with (fail)
  go_ret
  exact ⟨rfl, rfl⟩
set_option maxRecDepth 100000 in
set_option maxHeartbeats 4000000 in
/-- copyTerm at a term without arguments. -/
theorem copyTerm_call (w : World) (b : Bool) (nm : ByteArray) (a : Option Addr) (c : Nat) : Calls Try.prog 77 #[.agg #[.bool b, .string nm, .slice a 0 c]] w fun e w' => e = .returned (.agg #[.bool b, .string nm, .slice none 0 0]) ∧ Below w.heap.size w w' := by
  have h0 := fun W f => each76_nil' W f a c
  have H0 := Lib.hid h0
  clear h0
  have hx : ((w.alloc (.cells #[.bool b, .string nm, .slice none 0 0] 114)).alloc (.cells #[.bool b, .string nm, .slice none 0 0] 114)).heap[w.heap.size + 1]? = some (.cells #[.bool b, .string nm, .slice none 0 0] 114 (0, 0)) := blk_new1 _ _ _
  have HX := Lib.hid hx
  clear hx
  go_enter Try.func77, Try.ntmps77
  go_wp2_with (go_at_call 76; (refine (H0.out _ _).mono ?_; rintro e w' ⟨rfl, rfl⟩))
  refine bodyPost_ret (results_cell_row (p := 2) (ty := 114) (by kernel_rfl) _ _ (w.heap.size + 1) 114 _ (0, 0) _ rfl HX.out Try.underlying114 rfl (by kernel_rfl)) rfl ?_
  exact ⟨rfl, bl_al (bl_al (Below.refl _ _))⟩
theorem info114 : (Try.prog.info? 114).map (fun i => (i.zero, i.size, i.bytes)) = some (some (.agg #[.bool false, .string ⟨#[]⟩, .slice none 0 0]), 3, 48) := by kernel_rfl
theorem terms_make (N : Nat) (hN : N ≤ 20000) : ∃ cur : Array Value, cur.size = N * 3 ∧ ∀ w : World, (Instr.makeSlice 23 (.int .i64 (N : Int)) (.int .i64 (N : Int))).run Try.prog w = .ok (.slice (some ⟨w.heap.size, 0, none⟩) N N) (w.alloc (.cells cur 114)) := by
  obtain ⟨i, hi, h0, h1, h2⟩ := info_parts info114
  refine ⟨madeCells (Value.agg #[.bool false, .string ⟨#[]⟩, .slice none 0 0]).cells (N * i.size), by rw [size_madeCells, h1], fun w => ?_⟩
  have := run_make w 23 114 i _ Try.underlying23 hi h0 .i64 .i64 (N : Int) (N : Int) (by omega) (Int.le_refl _) (by rw [h2]; omega) (by omega)
  simp only [Int.toNat_natCast] at this
  exact this
theorem IsTs.len {S : Nat → Prop} {W : World} {s : SL} {ts : List TT} (h : IsTs S W s ts) : s.n = ts.length := by cases h <;> rfl
theorem tsAt {S : Nat → Prop} {n c i : Nat} {W : World} {a : Option Addr} {ts : List TT} {t : TT} (h : IsTs S W ⟨a, n, c⟩ ts) (hi : ts[i]? = some t) :
    ∃ g o s', a = some ⟨g, o, none⟩ ∧ S g ∧ (∀ (j : Nat) v, (t.vals s')[j]? = some v → W.cell? ⟨g, o + i * 3 + j, none⟩ = some v) ∧ IsTs S W s' t.args := by
  cases h with
  | nil a c => simp at hi
  | row g o c ts sv hg hl hc hs => exact ⟨g, o, sv i, rfl, hg, fun j v hv => hc i t hi j v hv, hs i t hi⟩
def rowT (t : TT) : List Value := [.bool t.b, .string t.nm, .slice none 0 0]
theorem fillT {S : Nat → Prop} {W : World} {R c : Nat} {cur : Array Value} {ts : List TT} (hf : ∀ t ∈ ts, t.args = []) (h : W.heap[R]? = some (.cells cur 114 (0, 0))) (hfill : FillL 3 cur (ts.map rowT)) (hl : ts.length ≤ maxLen) (hS : S R) : IsTs S W ⟨some ⟨R, 0, none⟩, ts.length, c⟩ ts :=
  .row R 0 c ts (fun _ => SL.nil) hS hl (fun i t ht j v hv => by
    have := hfill i (rowT t) (by rw [List.getElem?_map, ht]; rfl) j v hv
    rw [Nat.zero_add]
    exact (HK.blk_cell h _).trans this) (fun i t ht => by rw [hf t (List.mem_of_getElem? ht)]; exact .nil none 0)
set_option maxRecDepth 100000 in
set_option maxHeartbeats 4000000 in
/-- Terms copied. -/
theorem each76_call (w : World) (s : SL) (ts : List TT) (hs : IsTs (fun k => k < w.heap.size) w s ts) (hf : ∀ t ∈ ts, t.args = []) (hl : ts.length ≤ 20000) :
    Calls Try.prog 76 #[s.v, .func (.func 77) #[] #[]] w fun e w' => ∃ s' : SL, e = .returned s'.v ∧ IsTs (Th (fun k => w.heap.size ≤ k ∧ k < w'.heap.size) w') w' s' ts ∧ Below w.heap.size w w' := by
  obtain ⟨sa, n, sc⟩ := s
  have hn : n = ts.length := hs.len
  simp only [SL.v]
  by_cases h0 : n = 0
  · subst h0
    refine Calls.mono (each76_nil' w _ sa sc) ?_
    rintro e w' ⟨rfl, rfl⟩
    have : ts = [] := List.length_eq_zero_iff.1 hn.symm
    subst this
    exact ⟨SL.nil, rfl, .nil _ _, Below.refl _ _⟩
  · obtain ⟨cur0, hcur0, hmk⟩ := terms_make n (by omega)
    have b0 : ((n : Int) == 0) = false := by simp; omega
    have b1 : ¬ (n : Int) = 0 := by omega
    have HN := Lib.hid hn
    have HS := Lib.hid hs
    have HF := Lib.hid hf
    have HCU := Lib.hid hcur0
    have hn2 : n ≤ 20000 := by omega
    clear hn hs hf hcur0
    go_enter Try.func76, Try.ntmps76
    go_wp2_with (fail)
    go_loopw [16] (fun i wr => ∃ (k : Nat) (cur : Array Value), k ≤ n ∧ i = .int .i64 k ∧ Below w.heap.size w wr ∧ wr.heap[w.heap.size]? = some (.cells cur 114 (0, 0)) ∧ cur.size = n * 3 ∧ FillL 3 cur ((ts.take k).map rowT)) (fun i _ => n - (intOf i).toNat)
    case atStart => exact ⟨0, cur0, by omega, rfl, (Below.refl _ w).alloc (Nat.le_refl _) _, HK.blk_new _ _, HCU.out, fun i x hx => by simp at hx⟩
    case round =>
      obtain ⟨k, cur, hk, rfl, hB, hR, hcz, hfl⟩ := hrel
      have HB := Lib.hid hB
      have HR := Lib.hid hR
      have HCZ := Lib.hid hcz
      have HFL := Lib.hid hfl
      clear hB hR hcz hfl
      by_cases h1 : k < n
      · obtain ⟨t, ht⟩ : ∃ t, ts[k]? = some t := ⟨_, List.getElem?_eq_getElem (by rw [← HN.out]; exact h1)⟩
        obtain ⟨g, o, s', ha, hg, hc, hts⟩ := tsAt HS.out ht
        subst ha
        have hta := HF.out t (List.mem_of_getElem? ht)
        have hsl := hts.len
        rw [hta] at hsl
        obtain ⟨ta, tn, tc⟩ := s'
        simp only [List.length_nil] at hsl
        subst hsl
        have y0 := (HB.out.cell (p := ⟨g, o + k * 3 + 0, none⟩) hg).trans (hc 0 _ rfl)
        have y1 := (HB.out.cell (p := ⟨g, o + k * 3 + 1, none⟩) hg).trans (hc 1 _ rfl)
        have y2 := (HB.out.cell (p := ⟨g, o + k * 3 + 2, none⟩) hg).trans (hc 2 _ rfl)
        obtain ⟨b, nm, args⟩ := t
        simp only [TT.b, TT.nm, TT.args, SL.v, Nat.add_zero] at y0 y1 y2 hta
        subst hta
        have htk : ts.take (k + 1) = ts.take k ++ [.node b nm []] := by rw [List.take_add_one, ht]; rfl
        have hcp := fun W => copyTerm_call W b nm ta tc
        have HCP := Lib.hid hcp
        have HTK := Lib.hid htk
        have z1 : (0 : Int) ≤ (k : Int) := by omega
        have z2 : (k : Int) < (n : Int) := by omega
        clear hc hg hts ht htk hcp
        go_wp2_with (
          go_at_call 77
          refine (HCP.out _).mono ?_
          rintro e w2 ⟨rfl, hB2⟩
          have hR2 := (hB2.block _ (by have := HK.blk_lt HR.out; simp; omega)).trans (HK.blk_alloc HR.out (.cells #[.bool b, .string nm, .slice ta 0 tc] 114))
          obtain ⟨o0, ho0⟩ : ∃ u, cur[k * 3]? = some u := ⟨_, Array.getElem?_eq_getElem (by rw [HCZ.out]; omega)⟩
          have e0 : w2.cell? ⟨w.heap.size, k * 3, none⟩ = some o0 := (HK.blk_cell hR2 _).trans ho0
          obtain ⟨o1, ho1⟩ : ∃ u, cur[k * 3 + 1]? = some u := ⟨_, Array.getElem?_eq_getElem (by rw [HCZ.out]; omega)⟩
          have e1 : w2.cell? ⟨w.heap.size, k * 3 + 1, none⟩ = some o1 := (HK.blk_cell hR2 _).trans ho1
          obtain ⟨o2, ho2⟩ : ∃ u, cur[k * 3 + 2]? = some u := ⟨_, Array.getElem?_eq_getElem (by rw [HCZ.out]; omega)⟩
          have e2 : w2.cell? ⟨w.heap.size, k * 3 + 2, none⟩ = some o2 := (HK.blk_cell hR2 _).trans ho2
          have ef := fun i => HK.blk_frozen hR2 i
          have HR2 := Lib.hid hR2
          have HB2 := Lib.hid (below_then (bl_al (Below.refl _ _)) hB2)
          clear hR2 hB2 ho0 ho1 ho2)
        go_roundw
        case rel =>
          have hF3 := setL_frm (rowT (.node b nm [])) w2 w.heap.size (k * 3)
          have hR3 := setL_heap (rowT (.node b nm [])) w2 w.heap.size (k * 3) cur HR2.out
          have hkl : ((ts.take k).map rowT).length = k := by rw [List.length_map, List.length_take, ← HN.out]; omega
          have hfl := FillL.put HFL.out (vs := rowT (.node b nm [])) rfl (fun x hx => by obtain ⟨t', _, rfl⟩ := List.mem_map.1 hx; rfl) (by rw [hkl, HCZ.out]; omega)
          rw [hkl] at hfl
          have hwr := HB.out.size
          have hz := HB2.out.size
          refine ⟨k + 1, _, by omega, by go_num, ?_, hR3, by rw [putL_size]; exact HCZ.out, ?_⟩
          · exact (below_then HB.out HB2.out).trans (hF3.below (B := w.heap.size) (by omega) (fun b e => by omega))
          · rw [HTK.out, List.map_append]; exact hfl
        case measure => simp [intOf]; omega
      · have hkn : k = n := by omega
        subst hkn
        have z2 : ¬ ((k : Int) < (k : Int)) := by omega
        go_wp2_with (fail)
        go_ret
        have hfl := HFL.out
        rw [List.take_of_length_le (by rw [HN.out]; exact Nat.le_refl _)] at hfl
        have := fillT (S := Th (fun q => w.heap.size ≤ q ∧ q < wr.heap.size) wr) (c := k) HF.out HR.out hfl (by simp only [maxLen]; omega) ⟨⟨Nat.le_refl _, HK.blk_lt HR.out⟩, _, _, HR.out⟩
        rw [← HN.out] at this
        exact ⟨⟨some ⟨w.heap.size, 0, none⟩, k, k⟩, rfl, this, HB.out⟩
end Go.Proofs.Ytfebcpmbkljaoaa
namespace Go.Proofs.Ytfebcpmbkljaoaa
open Go.RowKit Go.HR
set_option linter.unusedVariables false
set_option linter.unusedSimpArgs false
set_option linter.unusedSectionVars false
mutual
def flatF : FT → Prop
  | .node _ _ a s => (∀ t ∈ a, t.args = []) ∧ a.length ≤ 20000 ∧ s.length ≤ 20000 ∧ flatFs s
def flatFs : List FT → Prop
  | [] => True
  | f :: fs => flatF f ∧ flatFs fs
end
theorem flatFs_get : ∀ {fs : List FT} {i : Nat} {f : FT}, flatFs fs → fs[i]? = some f → flatF f
  | [], _, _, _, h => by simp at h
  | g :: fs, 0, f, h, hf => by simp at hf; subst hf; exact h.1
  | g :: fs, i + 1, f, h, hf => flatFs_get h.2 (by simpa using hf)
def Fresh (w w' : World) : Nat → Prop := fun k => w.heap.size ≤ k ∧ k < w'.heap.size
def RetF (w : World) (f : FT) (e : Ending) (w' : World) : Prop :=
  ∃ a s : SL, e = .returned (.agg #[.int .u8 f.op, .string f.nm, a.v, s.v]) ∧ IsTs (Fresh w w') w' a f.args ∧ IsFs (Fresh w w') w' s f.subs ∧ Below w.heap.size w w'
/-- New blocks that can be written. -/
abbrev FreshT (w w' : World) : Nat → Prop := Th (Fresh w w') w'
def RetFT (w : World) (f : FT) (e : Ending) (w' : World) : Prop :=
  ∃ a s : SL, e = .returned (.agg #[.int .u8 f.op, .string f.nm, a.v, s.v]) ∧ IsTs (FreshT w w') w' a f.args ∧ IsFs (FreshT w w') w' s f.subs ∧ Below w.heap.size w w'
def FormC (f : FT) : Prop := ∀ (a s : SL) (w : World), IsTs (fun k => k < w.heap.size) w a f.args → IsFs (fun k => k < w.heap.size) w s f.subs → Calls Try.prog 62 #[.agg #[.int .u8 f.op, .string f.nm, a.v, s.v]] w (RetFT w f)
def FormsC (fs : List FT) : Prop := ∀ (s : SL) (w : World), IsFs (fun k => k < w.heap.size) w s fs → Calls Try.prog 78 #[s.v, .func (.func 62) #[] #[]] w fun e w' => ∃ s' : SL, e = .returned s'.v ∧ IsFs (FreshT w w') w' s' fs ∧ Below w.heap.size w w'
theorem IsTs.up {W W' : World} {s : SL} {ts : List TT} (h : IsTs (fun k => k < W.heap.size) W s ts) (hB : Below W.heap.size W W') : IsTs (fun k => k < W'.heap.size) W' s ts := h.turn fun k hk => ⟨Nat.lt_of_lt_of_le hk hB.size, hB.block k hk⟩
theorem IsFs.up {W W' : World} {s : SL} {fs : List FT} (h : IsFs (fun k => k < W.heap.size) W s fs) (hB : Below W.heap.size W W') : IsFs (fun k => k < W'.heap.size) W' s fs := h.turn fun k hk => ⟨Nat.lt_of_lt_of_le hk hB.size, hB.block k hk⟩
theorem set4 {W : World} {R t : Nat} {z0 z1 z2 z3 : Value} (h : W.heap[R]? = some (.cells #[z0, z1, z2, z3] t (0, 0))) (v0 v1 v2 v3 : Value) : ((((W.setCell ⟨R, 0, none⟩ v0).setCell ⟨R, 1, none⟩ v1).setCell ⟨R, 2, none⟩ v2).setCell ⟨R, 3, none⟩ v3).heap[R]? = some (.cells #[v0, v1, v2, v3] t (0, 0)) := by
  have h0 : (W.setCell ⟨R, 0, none⟩ v0).heap[R]? = some (.cells #[v0, z1, z2, z3] t (0, 0)) := HK.blk_set h 0 _
  have h1 : ((W.setCell ⟨R, 0, none⟩ v0).setCell ⟨R, 1, none⟩ v1).heap[R]? = some (.cells #[v0, v1, z2, z3] t (0, 0)) := HK.blk_set h0 1 _
  have h2 : (((W.setCell ⟨R, 0, none⟩ v0).setCell ⟨R, 1, none⟩ v1).setCell ⟨R, 2, none⟩ v2).heap[R]? = some (.cells #[v0, v1, v2, z3] t (0, 0)) := HK.blk_set h1 2 _
  exact HK.blk_set h2 3 _
theorem set4_frm (W : World) (R : Nat) (v0 v1 v2 v3 : Value) : HK.Frm (· = R) W ((((W.setCell ⟨R, 0, none⟩ v0).setCell ⟨R, 1, none⟩ v1).setCell ⟨R, 2, none⟩ v2).setCell ⟨R, 3, none⟩ v3) := setL_frm [v0, v1, v2, v3] W R 0
set_option maxRecDepth 100000 in
set_option maxHeartbeats 8000000 in
theorem form_of_each (f : FT) (hfl : flatF f) (he : FormsC f.subs) : FormC f := by
  intro a s w hta hfs
  have h76 := fun (W : World) (hB : Below w.heap.size w W) => each76_call W a f.args (hta.up hB) (by cases f; exact hfl.1) (by cases f; exact hfl.2.1)
  have h78 := fun (W : World) (hB : Below w.heap.size w W) => he s W (hfs.up hB)
  obtain ⟨f0, hf0⟩ : ∃ f0, f0 = f := ⟨_, rfl⟩
  rw [← hf0] at h76 h78 ⊢
  obtain ⟨op, nm, args, subs⟩ := f
  have hop : f0.op = op := by rw [hf0]; rfl
  have hnm : f0.nm = nm := by rw [hf0]; rfl
  rw [hop, hnm]
  obtain ⟨aa, an, ac⟩ := a
  obtain ⟨sa, sn, sc⟩ := s
  simp only [SL.v] at h76 h78 ⊢
  have H76 := Lib.hid h76
  have H78 := Lib.hid h78
  have HOP := Lib.hid hop
  have HNM := Lib.hid hnm
  clear h76 h78 hta hfs hfl he hf0 hop hnm
  obtain ⟨w1, hw1⟩ : ∃ w1, w1 = (w.alloc (.cells #[.int .u8 op, .string nm, .slice aa an ac, .slice sa sn sc] 26)).alloc (.cells #[.int .u8 0, .string ⟨#[]⟩, .slice none 0 0, .slice none 0 0] 26) := ⟨_, rfl⟩
  obtain ⟨G, hG⟩ : ∃ G, G = w.heap.size := ⟨_, rfl⟩
  obtain ⟨R, hR⟩ : ∃ R, R = w.heap.size + 1 := ⟨_, rfl⟩
  have hB1 : Below w.heap.size w w1 := by rw [hw1]; exact bl_al (bl_al (Below.refl _ _))
  have hx1 : w1.heap[G]? = some (.cells #[.int .u8 op, .string nm, .slice aa an ac, .slice sa sn sc] 26 (0, 0)) := by rw [hw1, hG]; exact HK.blk_alloc (HK.blk_new _ _) _
  have hr1 : w1.heap[R]? = some (.cells #[.int .u8 0, .string ⟨#[]⟩, .slice none 0 0, .slice none 0 0] 26 (0, 0)) := by rw [hw1, hR]; exact blk_new1 _ _ _
  have hRG : R = G + 1 := by omega
  have hwG : w.heap.size = G := hG.symm
  have x2 : w1.cell? ⟨G, 2, none⟩ = some (.slice aa an ac) := HK.blk_cell hx1 2
  have HB1 := Lib.hid hB1
  have HX1 := Lib.hid hx1
  have HR1 := Lib.hid hr1
  have HW1 := Lib.hid hw1
  have HG := Lib.hid hG
  have HR := Lib.hid hR
  have HRG := Lib.hid hRG
  have HWG := Lib.hid hwG
  clear hB1 hx1 hr1 hw1 hG hR hRG hwG
  go_enter Try.func62, Try.ntmps62
  go_upto_region 1 with (fail)
  rw [← HW1.out, ← HR.out, ← HG.out]
  have h76 := H76.out w1 HB1.out
  have H76' := Lib.hid h76
  clear h76
  go_upto_region 2 with (go_at_call 76; (refine H76'.out.mono ?_; rintro e w2 ⟨⟨ta, tn, tc⟩, rfl, hts, hB2⟩; have hX2 := (hB2.block _ (HK.blk_lt HX1.out)).trans HX1.out; have x2' := HK.blk_cell hX2 2; have xf := fun i => HK.blk_frozen hX2 i; have HX2 := Lib.hid hX2; have HTS := Lib.hid hts; have HB2 := Lib.hid hB2; clear hX2 hts hB2))
  clear x2 x2' xf
  obtain ⟨w3, hw3⟩ : ∃ w3, w3 = w2.setCell ⟨G, 2, none⟩ (.slice ta tn tc) := ⟨_, rfl⟩
  rw [← hw3]
  have hF3 : HK.Frm (· = G) w2 w3 := by rw [hw3]; exact HK.Frm.setCell (F := (· = G)) (HK.Frm.refl _ w2) (.inl rfl) _
  have hX3 : w3.heap[G]? = some (.cells #[.int .u8 op, .string nm, .slice ta tn tc, .slice sa sn sc] 26 (0, 0)) := by rw [hw3]; exact HK.blk_set HX2.out 2 _
  have hR3 : w3.heap[R]? = some (.cells #[.int .u8 0, .string ⟨#[]⟩, .slice none 0 0, .slice none 0 0] 26 (0, 0)) := hF3.heap ((HB2.out.block _ (HK.blk_lt HR1.out)).trans HR1.out) (by have := HRG.out; omega)
  have hB12 := below_then HB1.out HB2.out
  have hB3 : Below w.heap.size w w3 := hB12.trans (hF3.below hB12.size (fun k hk => by have := HWG.out; omega))
  have hw1s : w.heap.size + 2 ≤ w1.heap.size := by have := HK.blk_lt HR1.out; have := HRG.out; have := HWG.out; omega
  have hz3 := hF3.size
  have hts3 : IsTs (Th (fun k => w.heap.size + 2 ≤ k ∧ k < w3.heap.size) w3) w3 ⟨ta, tn, tc⟩ f0.args := HTS.out.turnT fun k hk => ⟨⟨Nat.le_trans hw1s hk.1, Nat.lt_of_lt_of_le hk.2 hz3⟩, hF3.block k hk.2 (by have := hk.1; have := HWG.out; omega)⟩
  have x3 := HK.blk_cell hX3 3
  have HX3 := Lib.hid hX3
  have HR3 := Lib.hid hR3
  have HB3 := Lib.hid hB3
  have HTS3 := Lib.hid hts3
  have H78' := Lib.hid (H78.out w3 hB3)
  clear hw3 hF3 hX3 hR3 hB12 hB3 hz3 hts3
  go_upto_region 3 with (go_at_call 78; (refine H78'.out.mono ?_; rintro e w4 ⟨⟨ua, un, uc⟩, rfl, hus, hB4⟩; have hX4 := (hB4.block _ (HK.blk_lt HX3.out)).trans HX3.out; have x3' := HK.blk_cell hX4 3; have xf := fun i => HK.blk_frozen hX4 i; have HX4 := Lib.hid hX4; have HUS := Lib.hid hus; have HB4 := Lib.hid hB4; clear hX4 hus hB4))
  clear x3 x3' xf
  obtain ⟨w5, hw5⟩ : ∃ w5, w5 = w4.setCell ⟨G, 3, none⟩ (.slice ua un uc) := ⟨_, rfl⟩
  rw [← hw5]
  have hF5 : HK.Frm (· = G) w4 w5 := by rw [hw5]; exact HK.Frm.setCell (F := (· = G)) (HK.Frm.refl _ w4) (.inl rfl) _
  have hX5 : w5.heap[G]? = some (.cells #[.int .u8 op, .string nm, .slice ta tn tc, .slice ua un uc] 26 (0, 0)) := by rw [hw5]; exact HK.blk_set HX4.out 3 _
  have hR5 : w5.heap[R]? = some (.cells #[.int .u8 0, .string ⟨#[]⟩, .slice none 0 0, .slice none 0 0] 26 (0, 0)) := hF5.heap ((HB4.out.block _ (HK.blk_lt HR3.out)).trans HR3.out) (by have := HRG.out; omega)
  have hB34 := below_then HB3.out HB4.out
  have hB5 : Below w.heap.size w w5 := hB34.trans (hF5.below hB34.size (fun k hk => by have := HWG.out; omega))
  have hz5 := hF5.size
  have hz4 := HB4.out.size
  have h3G := HK.blk_lt HX3.out
  have hts5 : IsTs (Th (fun k => w.heap.size + 2 ≤ k ∧ k < w5.heap.size) w5) w5 ⟨ta, tn, tc⟩ f0.args := HTS3.out.turnT fun k hk => ⟨⟨hk.1, by have := hk.2; omega⟩, (hF5.block k (by have := hk.2; omega) (by have := hk.1; have := HWG.out; omega)).trans (HB4.out.block k hk.2)⟩
  have h3s : w.heap.size + 2 ≤ w3.heap.size := by have := HK.blk_lt HR3.out; have := HRG.out; have := HWG.out; omega
  have hus5 : IsFs (Th (fun k => w.heap.size + 2 ≤ k ∧ k < w5.heap.size) w5) w5 ⟨ua, un, uc⟩ f0.subs := HUS.out.turnT fun k hk => ⟨⟨Nat.le_trans h3s hk.1, Nat.lt_of_lt_of_le hk.2 hz5⟩, hF5.block k hk.2 (by have := hk.1; omega)⟩
  have c0 := HK.blk_cell hX5 0
  have c1 := HK.blk_cell hX5 1
  have c2 := HK.blk_cell hX5 2
  have c3 := HK.blk_cell hX5 3
  have r0 := HK.blk_cell hR5 0
  have r1 := HK.blk_cell hR5 1
  have r2 := HK.blk_cell hR5 2
  have r3 := HK.blk_cell hR5 3
  have rf := fun i => HK.blk_frozen hR5 i
  have HR5 := Lib.hid hR5
  have HB5 := Lib.hid hB5
  have HTS5 := Lib.hid hts5
  have HUS5 := Lib.hid hus5
  clear hw5 hF5 hX5 hR5 hB34 hB5 hz5 hz4 h3G hts5 hus5
  go_wp2_with (fail)
  refine bodyPost_ret (results_cell_row (p := 2) (ty := 26) (by kernel_rfl) _ _ R 26 _ (0, 0) _ rfl (set4 HR5.out _ _ _ _) Try.underlying26 rfl (by kernel_rfl)) rfl ?_
  have hF6 := set4_frm w5 R (.int .u8 op) (.string nm) (.slice ta tn tc) (.slice ua un uc)
  have hz6 := hF6.size
  have hRw : R = w.heap.size + 1 := HR.out
  refine ⟨⟨ta, tn, tc⟩, ⟨ua, un, uc⟩, by rw [HOP.out, HNM.out]; rfl, HTS5.out.turnT fun k hk => ⟨⟨by have := hk.1; omega, Nat.lt_of_lt_of_le hk.2 hz6⟩, hF6.block k hk.2 (by have := hk.1; omega)⟩, HUS5.out.turnT fun k hk => ⟨⟨by have := hk.1; omega, Nat.lt_of_lt_of_le hk.2 hz6⟩, hF6.block k hk.2 (by have := hk.1; omega)⟩, HB5.out.trans (hF6.below HB5.out.size (fun k hk => by omega))⟩
theorem IsFs.len {S : Nat → Prop} {W : World} {s : SL} {fs : List FT} (h : IsFs S W s fs) : s.n = fs.length := by cases h <;> rfl
theorem fsAt {S : Nat → Prop} {n c i : Nat} {W : World} {a : Option Addr} {fs : List FT} {f : FT} (h : IsFs S W ⟨a, n, c⟩ fs) (hi : fs[i]? = some f) :
    ∃ g o a' s', a = some ⟨g, o, none⟩ ∧ S g ∧ (∀ (j : Nat) v, (f.vals a' s')[j]? = some v → W.cell? ⟨g, o + i * 4 + j, none⟩ = some v) ∧ IsTs S W a' f.args ∧ IsFs S W s' f.subs := by
  cases h with
  | nil a c => simp at hi
  | row g o c fs av sv hg hl hc ha hs => exact ⟨g, o, av i, sv i, rfl, hg, fun j v hv => hc i f hi j v hv, ha i f hi, hs i f hi⟩
theorem info26 : (Try.prog.info? 26).map (fun i => (i.zero, i.size, i.bytes)) = some (some (.agg #[.int .u8 0, .string ⟨#[]⟩, .slice none 0 0, .slice none 0 0]), 4, 72) := by kernel_rfl
theorem forms_make (N : Nat) (hN : N ≤ 20000) : ∃ cur : Array Value, cur.size = N * 4 ∧ ∀ w : World, (Instr.makeSlice 24 (.int .i64 (N : Int)) (.int .i64 (N : Int))).run Try.prog w = .ok (.slice (some ⟨w.heap.size, 0, none⟩) N N) (w.alloc (.cells cur 26)) := by
  obtain ⟨i, hi, h0, h1, h2⟩ := info_parts info26
  refine ⟨madeCells (Value.agg #[.int .u8 0, .string ⟨#[]⟩, .slice none 0 0, .slice none 0 0]).cells (N * i.size), by rw [size_madeCells, h1], fun w => ?_⟩
  have := run_make w 24 26 i _ Try.underlying24 hi h0 .i64 .i64 (N : Int) (N : Int) (by omega) (Int.le_refl _) (by rw [h2]; omega) (by omega)
  simp only [Int.toNat_natCast] at this
  exact this
def rowF (x : FT × SL × SL) : List Value := x.1.vals x.2.1 x.2.2
theorem fillF {S : Nat → Prop} {W : World} {R n c : Nat} {cur : Array Value} {xs : List (FT × SL × SL)} (h : W.heap[R]? = some (.cells cur 26 (0, 0))) (hfill : FillL 4 cur (xs.map rowF)) (hn : n = xs.length) (hl : n ≤ maxLen) (hS : S R)
    (hs : ∀ x ∈ xs, IsTs S W x.2.1 x.1.args ∧ IsFs S W x.2.2 x.1.subs) : IsFs S W ⟨some ⟨R, 0, none⟩, n, c⟩ (xs.map (·.1)) := by
  subst hn
  have hg : ∀ (i : Nat) f, (xs.map (·.1))[i]? = some f → ∃ x, xs[i]? = some x ∧ x.1 = f := fun i f hf => by
    rw [List.getElem?_map] at hf
    obtain ⟨x, hx, rfl⟩ := Option.map_eq_some_iff.1 hf
    exact ⟨x, hx, rfl⟩
  have := IsFs.row (S := S) (W := W) R 0 c (xs.map (·.1)) (fun i => ((xs[i]?).map (·.2.1)).getD SL.nil) (fun i => ((xs[i]?).map (·.2.2)).getD SL.nil) hS (by simpa using hl) (fun i f hf j v hv => by
    obtain ⟨x, hx, rfl⟩ := hg i f hf
    rw [hx] at hv
    have := hfill i (rowF x) (by rw [List.getElem?_map, hx]; rfl) j v hv
    rw [Nat.zero_add]
    exact (HK.blk_cell h _).trans this) (fun i f hf => by
    obtain ⟨x, hx, rfl⟩ := hg i f hf
    rw [hx]
    exact (hs x (List.mem_of_getElem? hx)).1) (fun i f hf => by
    obtain ⟨x, hx, rfl⟩ := hg i f hf
    rw [hx]
    exact (hs x (List.mem_of_getElem? hx)).2)
  simpa using this
set_option maxRecDepth 100000 in
set_option maxHeartbeats 2000000 in
theorem each78_nil' (w : World) (f : Value) (a : Option Addr) (c : Nat) : Calls Try.prog 78 #[.slice a 0 c, f] w fun e w' => e = .returned (.slice none 0 0) ∧ w' = w := by
  go_enter Try.func78, Try.ntmps78
  go_wp2_with (fail)
  go_ret
  exact ⟨rfl, rfl⟩
set_option maxRecDepth 100000 in
set_option maxHeartbeats 4000000 in
theorem each_of_forms (fs : List FT) (hl : fs.length ≤ 20000) (hc : ∀ (i : Nat) f, fs[i]? = some f → FormC f) : FormsC fs := by
  intro s w hs
  obtain ⟨sa, n, sc⟩ := s
  have hn : n = fs.length := hs.len
  simp only [SL.v]
  by_cases h0 : n = 0
  · subst h0
    refine Calls.mono (each78_nil' w _ sa sc) ?_
    rintro e w' ⟨rfl, rfl⟩
    have : fs = [] := List.length_eq_zero_iff.1 hn.symm
    subst this
    exact ⟨SL.nil, rfl, .nil _ _, Below.refl _ _⟩
  · obtain ⟨cur0, hcur0, hmk⟩ := forms_make n (by omega)
    have b0 : ((n : Int) == 0) = false := by simp; omega
    have b1 : ¬ (n : Int) = 0 := by omega
    have HN := Lib.hid hn
    have HS := Lib.hid hs
    have HC := Lib.hid hc
    have HCU := Lib.hid hcur0
    have hn2 : n ≤ 20000 := by omega
    clear hn hs hc hcur0
    go_enter Try.func78, Try.ntmps78
    go_wp2_with (fail)
    go_loopw [16] (fun i wr => ∃ (k : Nat) (xs : List (FT × SL × SL)) (cur : Array Value), k ≤ n ∧ i = .int .i64 k ∧ xs.map (·.1) = fs.take k ∧ Below w.heap.size w wr ∧ wr.heap[w.heap.size]? = some (.cells cur 26 (0, 0)) ∧ cur.size = n * 4 ∧ FillL 4 cur (xs.map rowF) ∧ ∀ x ∈ xs, IsTs (Th (fun b => w.heap.size < b ∧ b < wr.heap.size) wr) wr x.2.1 x.1.args ∧ IsFs (Th (fun b => w.heap.size < b ∧ b < wr.heap.size) wr) wr x.2.2 x.1.subs) (fun i _ => n - (intOf i).toNat)
    case atStart => exact ⟨0, [], cur0, by omega, rfl, rfl, (Below.refl _ w).alloc (Nat.le_refl _) _, HK.blk_new _ _, HCU.out, (fun i x hx => by simp at hx), (fun x hx => by simp at hx)⟩
    case round =>
      obtain ⟨k, xs, cur, hk, rfl, hxs, hB, hR, hcz, hfl, hq⟩ := hrel
      have hxl : xs.length = k := by
        have := congrArg List.length hxs
        rw [List.length_map, List.length_take, ← HN.out] at this; omega
      have HXS := Lib.hid hxs
      have HB := Lib.hid hB
      have HR := Lib.hid hR
      have HCZ := Lib.hid hcz
      have HFL := Lib.hid hfl
      have HQ := Lib.hid hq
      have HXL := Lib.hid hxl
      clear hxs hB hR hcz hfl hq hxl
      by_cases h1 : k < n
      · obtain ⟨f, hf⟩ : ∃ f, fs[k]? = some f := ⟨_, List.getElem?_eq_getElem (by rw [← HN.out]; exact h1)⟩
        obtain ⟨g, o, a', s', ha, hg, hc, hta, hfs⟩ := fsAt HS.out hf
        subst ha
        have hcp := HC.out k f hf a' s' (wr.alloc (.cells #[.int .u8 f.op, .string f.nm, .slice a'.a a'.n a'.c, .slice s'.a s'.n s'.c] 26)) (hta.turn fun q hq => ⟨Nat.lt_of_lt_of_le hq (Nat.le_trans HB.out.size (by simp)), (HB.out.alloc HB.out.size _).block q hq⟩) (hfs.turn fun q hq => ⟨Nat.lt_of_lt_of_le hq (Nat.le_trans HB.out.size (by simp)), (HB.out.alloc HB.out.size _).block q hq⟩)
        have htk : fs.take (k + 1) = fs.take k ++ [f] := by rw [List.take_add_one, hf]; rfl
        have y0 := (HB.out.cell (p := ⟨g, o + k * 4 + 0, none⟩) hg).trans (hc 0 _ rfl)
        have y1 := (HB.out.cell (p := ⟨g, o + k * 4 + 1, none⟩) hg).trans (hc 1 _ rfl)
        have y2 := (HB.out.cell (p := ⟨g, o + k * 4 + 2, none⟩) hg).trans (hc 2 _ rfl)
        have y3 := (HB.out.cell (p := ⟨g, o + k * 4 + 3, none⟩) hg).trans (hc 3 _ rfl)
        obtain ⟨aa, an, ac⟩ := a'
        obtain ⟨ta, tn, tc⟩ := s'
        unfold RetFT at hcp
        simp only [SL.v, Nat.add_zero] at y0 y1 y2 y3 hcp
        have HCP := Lib.hid hcp
        have HTK := Lib.hid htk
        have z1 : (0 : Int) ≤ (k : Int) := by omega
        have z2 : (k : Int) < (n : Int) := by omega
        clear hc hg hta hfs hf htk hcp
        go_wp2_with (
          go_at_call 62
          refine HCP.out.mono ?_
          rintro e w2 ⟨⟨va, vn, vc⟩, ⟨ua, un, uc⟩, rfl, hq1, hq2, hB2⟩
          have hR2 := (hB2.block _ (by have := HK.blk_lt HR.out; simp; omega)).trans (HK.blk_alloc HR.out (.cells #[.int .u8 f.op, .string f.nm, .slice aa an ac, .slice ta tn tc] 26))
          obtain ⟨o0, ho0⟩ : ∃ u, cur[k * 4]? = some u := ⟨_, Array.getElem?_eq_getElem (by rw [HCZ.out]; omega)⟩
          have e0 : w2.cell? ⟨w.heap.size, k * 4, none⟩ = some o0 := (HK.blk_cell hR2 _).trans ho0
          obtain ⟨o1, ho1⟩ : ∃ u, cur[k * 4 + 1]? = some u := ⟨_, Array.getElem?_eq_getElem (by rw [HCZ.out]; omega)⟩
          have e1 : w2.cell? ⟨w.heap.size, k * 4 + 1, none⟩ = some o1 := (HK.blk_cell hR2 _).trans ho1
          obtain ⟨o2, ho2⟩ : ∃ u, cur[k * 4 + 2]? = some u := ⟨_, Array.getElem?_eq_getElem (by rw [HCZ.out]; omega)⟩
          have e2 : w2.cell? ⟨w.heap.size, k * 4 + 2, none⟩ = some o2 := (HK.blk_cell hR2 _).trans ho2
          obtain ⟨o3, ho3⟩ : ∃ u, cur[k * 4 + 3]? = some u := ⟨_, Array.getElem?_eq_getElem (by rw [HCZ.out]; omega)⟩
          have e3 : w2.cell? ⟨w.heap.size, k * 4 + 3, none⟩ = some o3 := (HK.blk_cell hR2 _).trans ho3
          have ef := fun i => HK.blk_frozen hR2 i
          have HR2 := Lib.hid hR2
          have HQ1 := Lib.hid hq1
          have HQ2 := Lib.hid hq2
          have HB2 := Lib.hid hB2
          clear hR2 hB2 hq1 hq2 ho0 ho1 ho2 ho3)
        go_roundw
        case rel =>
          have hF3 := setL_frm (rowF (f, ⟨va, vn, vc⟩, ⟨ua, un, uc⟩)) w2 w.heap.size (k * 4)
          have hR3 := setL_heap (rowF (f, ⟨va, vn, vc⟩, ⟨ua, un, uc⟩)) w2 w.heap.size (k * 4) cur HR2.out
          have hkl : (xs.map rowF).length = k := by rw [List.length_map]; exact HXL.out
          have hfl := FillL.put HFL.out (vs := rowF (f, ⟨va, vn, vc⟩, ⟨ua, un, uc⟩)) rfl (fun x hx => by obtain ⟨t', _, rfl⟩ := List.mem_map.1 hx; rfl) (by rw [hkl, HCZ.out]; omega)
          rw [hkl] at hfl
          have hwr := HB.out.size
          have hz := HB2.out.size
          simp only [World.size_alloc] at hz
          have hRr := HK.blk_lt HR.out
          have hz3 := hF3.size
          refine ⟨k + 1, xs ++ [(f, ⟨va, vn, vc⟩, ⟨ua, un, uc⟩)], _, by omega, by go_num, ?_, ?_, hR3, by rw [putL_size]; exact HCZ.out, ?_, ?_⟩
          · rw [List.map_append, HXS.out, HTK.out]; rfl
          · exact (below_then HB.out (below_then (bl_al (Below.refl _ _)) HB2.out)).trans (hF3.below (B := w.heap.size) (by omega) (fun b e => by omega))
          · rw [List.map_append]; exact hfl
          · intro x hx
            rcases List.mem_append.1 hx with hx | hx
            · have hold : ∀ b, (w.heap.size < b ∧ b < wr.heap.size) → (w.heap.size < b ∧ b < (setL w.heap.size w2 (k * 4) (rowF (f, ⟨va, vn, vc⟩, ⟨ua, un, uc⟩))).heap.size) ∧ (setL w.heap.size w2 (k * 4) (rowF (f, ⟨va, vn, vc⟩, ⟨ua, un, uc⟩))).heap[b]? = wr.heap[b]? := fun b hb => ⟨⟨hb.1, by omega⟩, by
                rw [hF3.block b (by omega) (by omega), HB2.out.block b (by simp; omega)]
                exact Below.heap_alloc wr _ b hb.2⟩
              exact ⟨(HQ.out x hx).1.turnT hold, (HQ.out x hx).2.turnT hold⟩
            · rw [List.mem_singleton.1 hx]
              have hnew : ∀ b, Fresh (wr.alloc (.cells #[.int .u8 f.op, .string f.nm, .slice aa an ac, .slice ta tn tc] 26)) w2 b → (w.heap.size < b ∧ b < (setL w.heap.size w2 (k * 4) (rowF (f, ⟨va, vn, vc⟩, ⟨ua, un, uc⟩))).heap.size) ∧ (setL w.heap.size w2 (k * 4) (rowF (f, ⟨va, vn, vc⟩, ⟨ua, un, uc⟩))).heap[b]? = w2.heap[b]? := fun b hb => by
                simp only [Fresh, World.size_alloc] at hb
                exact ⟨⟨by omega, by omega⟩, hF3.block b (by omega) (by omega)⟩
              exact ⟨HQ1.out.turnT hnew, HQ2.out.turnT hnew⟩
        case measure => simp [intOf]; omega
      · have hkn : k = n := by omega
        subst hkn
        have z2 : ¬ ((k : Int) < (k : Int)) := by omega
        go_wp2_with (fail)
        go_ret
        have hts : xs.map (·.1) = fs := by rw [HXS.out, HN.out, List.take_length]
        rw [← hts]
        exact ⟨⟨some ⟨w.heap.size, 0, none⟩, k, k⟩, rfl, fillF HR.out HFL.out HXL.out.symm (by simp only [maxLen]; omega) ⟨⟨Nat.le_refl _, HK.blk_lt HR.out⟩, _, _, HR.out⟩ (fun x hx => ⟨(HQ.out x hx).1.turnT fun b hb => ⟨⟨by omega, hb.2⟩, rfl⟩, (HQ.out x hx).2.turnT fun b hb => ⟨⟨by omega, hb.2⟩, rfl⟩⟩), HB.out⟩
mutual
theorem form_all : ∀ f : FT, flatF f → FormC f
  | .node op nm a s, h => form_of_each _ h (each_of_forms s h.2.2.1 (form_allF s h.2.2.2))
theorem form_allF : ∀ (fs : List FT), flatFs fs → ∀ (i : Nat) f, fs[i]? = some f → FormC f
  | [], _, i, f, h => by simp at h
  | g :: fs, hfl, 0, f, h => by simp at h; subst h; exact form_all g hfl.1
  | g :: fs, hfl, i + 1, f, h => form_allF fs hfl.2 i f (by simpa using h)
end
end Go.Proofs.Ytfebcpmbkljaoaa
