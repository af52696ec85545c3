/- The walks of Entry, Children, Way, Find, Between, Save. -/
import Derived.Test.YthneinepdbkgeaaMethB
namespace Go.Proofs.Ythneinepdbkgeaa
open Go.RowKit Go.HK
set_option linter.unusedVariables false
set_option linter.unusedSimpArgs false
set_option linter.unusedSectionVars false

theorem info45 : (Try.prog.info? 45).map (fun i => (i.zero, i.size, i.bytes)) = some (some (.agg #[.int .i64 0, .int .i64 0, .string ⟨#[]⟩, .string ⟨#[]⟩]), 4, 48) := by kernel_rfl
theorem elem38 : ElemOk Try.prog 38 45 4 48 := .mk' Try.underlying38 info45 rfl (by omega)

theorem owns_mono {w : World} {base base' : Nat} {e : TypeId} {size : Nat} {v : Value} {n : Nat} {xs : List Value} (h : w.ownsRow base e size v n xs) (hb : base' ≤ base) : w.ownsRow base' e size v n xs := by
  obtain ⟨h1, h2⟩ := h
  refine ⟨h1, ?_⟩
  rcases h2 with h2 | ⟨g, cap, cur, hv, hg, r⟩
  · exact .inl h2
  · exact .inr ⟨g, cap, cur, hv, by omega, r⟩
/-- A slice of int that reads as these numbers. -/
def SlI (w : World) (v : Value) (xs : List Nat) : Prop := (v = .slice none 0 0 ∧ xs = []) ∨ ∃ a cap, v = .slice (some a) xs.length cap ∧ ∀ j u, (ints xs)[j]? = some u → w.cell? (a.add j) = some u
theorem SlI.of_owns {w : World} {base : Nat} {v : Value} {xs : List Nat} (h : w.ownsRow base 3 1 v xs.length (ints xs)) : SlI w v xs := by
  rcases h.2 with ⟨rfl, h0⟩ | ⟨g, cap, cur, rfl, _⟩
  · exact .inl ⟨rfl, List.length_eq_zero_iff.1 h0⟩
  · exact .inr ⟨⟨g, 0, none⟩, cap, rfl, h.cells rfl⟩

section
variable {w : World} {t : Nat} {F : List Nat} {nodes : List HN} {now : Nat}

set_option maxRecDepth 100000 in
theorem clone_sl (w : World) (v : Value) (xs : List Nat) (hn : xs.length ≤ 2000) (h : SlI w v xs) :
    Calls Try.prog 42 #[v] w fun e w' => ∃ v', e = .returned v' ∧ w'.ownsRow w.heap.size 3 1 v' xs.length (ints xs) ∧ Below w.heap.size w w' := by
  rcases h with ⟨rfl, rfl⟩ | ⟨a, cap, rfl, hc⟩
  · have he : (binOp .eql 25 (.slice none 0 0) (.slice none 0 0)).run Try.prog w = .ok (.bool true) w := Lib.run_eql_slice_nil w 25 3 none 0 0 0 0 Try.underlying25
    go_enter Try.func42, Try.ntmps42
    go_wp2
    go_ret
    exact ⟨_, rfl, World.ownsRow_nil _ _ _ _, Below.refl _ _⟩
  · exact (clone_any w a cap xs hn hc).mono fun e w' ⟨v, h1, h2, _, h3⟩ => ⟨v, h1, h2, h3⟩

/-- An answer with a slice of int of the call's own. -/
def RetI (w : World) (xs : List Nat) (k : Int) (e : Ending) (w' : World) : Prop := ∃ v, e = .returned (.tuple #[v, .int .i64 k]) ∧ w'.ownsRow w.heap.size 3 1 v xs.length (ints xs) ∧ Below w.heap.size w w'

set_option maxRecDepth 100000 in
set_option maxHeartbeats 2000000 in
theorem children_no (h : Hist w t F nodes now) (n : Int) (hn : ¬ (0 ≤ n ∧ n < nodes.length)) : Calls Try.prog 25 #[.pointer (some ⟨t, 0, none⟩), .int .i64 n] w (RetI w [] 6) := by
  have hf := find_one h n
  rw [if_neg hn] at hf
  have hB : Below w.heap.size w (w.alloc (.cells #[.int .i64 n] 3)) := (Below.refl _ w).alloc (Nat.le_refl _) _
  have HB := Lib.hid hB
  clear hB hn
  have HF := Lib.hid hf
  clear hf
  go_enter Try.func25, Try.ntmps25
  go_wp2_with (go_at_call 40; refine HF.out.mono ?_; rintro e w' ⟨rfl, rfl⟩)
  go_ret2
  exact ⟨_, rfl, World.ownsRow_nil _ _ _ _, HB.out⟩
set_option maxRecDepth 100000 in
set_option maxHeartbeats 2000000 in
theorem way_no (h : Hist w t F nodes now) (n : Int) (hn : ¬ (0 ≤ n ∧ n < nodes.length)) : Calls Try.prog 22 #[.pointer (some ⟨t, 0, none⟩), .int .i64 n] w (RetI w [] 6) := by
  have hf := find_one h n
  rw [if_neg hn] at hf
  have hB : Below w.heap.size w (w.alloc (.cells #[.int .i64 n] 3)) := (Below.refl _ w).alloc (Nat.le_refl _) _
  have HB := Lib.hid hB
  clear hB hn
  have HF := Lib.hid hf
  clear hf
  go_enter Try.func22, Try.ntmps22
  go_wp2_with (go_at_call 40; refine HF.out.mono ?_; rintro e w' ⟨rfl, rfl⟩)
  go_ret2
  exact ⟨_, rfl, World.ownsRow_nil _ _ _ _, HB.out⟩

set_option maxRecDepth 100000 in
set_option maxHeartbeats 2000000 in
theorem children_yes (h : Hist w t F nodes now) (n : Nat) (hn : n < nodes.length) : Calls Try.prog 25 #[.pointer (some ⟨t, 0, none⟩), .int .i64 n] w (RetI w (kidsOf nodes n) 0) := by
  have hf := find_one h n
  rw [if_pos ⟨by omega, by omega⟩] at hf
  have hB : Below w.heap.size w (w.alloc (.cells #[.int .i64 n] 3)) := (Below.refl _ w).alloc (Nat.le_refl _) _
  have h' : Hist (w.alloc (.cells #[.int .i64 n] 3)) t F nodes now := h.stay (G := fun _ => False) ((Frm.refl _ w).alloc _) (fun _ _ => id)
  obtain ⟨g, cp, m, kv, es, clock, gs, hA, hC, rfl⟩ := h'.at_
  have hle := h.1.le
  have hkl := hC.hkl
  obtain ⟨k, hk⟩ : ∃ k, kv[n]? = some k := ⟨_, List.getElem?_eq_getElem (by omega)⟩
  obtain ⟨x, hx⟩ := get_of_lt hn
  have hck : (w.alloc (.cells #[.int .i64 n] 3)).cell? ⟨g, n * 6 + 4, none⟩ = some k := (hC.hN.cellAt _ (by omega)).trans (flat_get _ _ _ _ _ _ hx hk (by omega))
  have hown := hC.hK n k hk
  have hsl := SlI.of_owns hown
  have c0 := hA.c0
  have hkn := kidsOf_len nodes n
  have b0 : (0 : Int) ≤ (n : Int) := by omega
  have b1 : (n : Int) < (nodes.length : Int) := by omega
  have HB := Lib.hid hB
  have HS := Lib.hid hsl
  clear hB hx hk hkl hsl
  have HF := Lib.hid hf
  clear hf
  go_enter Try.func25, Try.ntmps25
  go_wp2_with (first
    | (go_at_call 40; refine HF.out.mono ?_; rintro e w' ⟨rfl, rfl⟩)
    | (go_at_call 42; refine (clone_sl _ k (kidsOf nodes n) (by omega) HS.out).mono ?_; rintro e w1 ⟨v', rfl, hown1, hB1⟩))
  go_ret2
  exact ⟨_, rfl, owns_mono hown1 (by simp), HB.out.trans (hB1.mono (by simp))⟩

/-- Collect over the iterator. -/
theorem collect_any (t g n cp Bn Bl : Nat) (i0 : Int) (par : Nat → Int) (hn : n ≤ 1000) (hpar : ∀ x, x < n → par x < x ∧ -1 ≤ par x) (xs : List Nat) (hxs : IsUp par i0 xs) (hlt : ∀ x ∈ xs, x < n) (hlen : xs.length ≤ 1000) (w : World) (hG : UpGood t g n cp Bn Bl i0 par w) (hn0 : 0 < n) :
    Calls Try.prog 61 #[.func (.func 64) #[] #[.pointer (some ⟨Bn, 0, none⟩), .pointer (some ⟨Bl, 0, none⟩)]] w fun e W' =>
      ∃ v, e = .returned v ∧ W'.ownsRow w.heap.size 3 1 v xs.length (ints xs) ∧ Below w.heap.size w W' := by
  have hA := callsIn_wide.1 (appendSeq_in 3 (by omega) t g n cp Bn Bl i0 par hn hpar xs hxs hlt hlen w hG hn0)
  have HA := Lib.hid hA
  clear hA hpar hxs hlt hG
  go_enter Try.func61, Try.ntmps61
  go_wp2_with (go_at_call 65; refine HA.out.mono ?_; rintro e w1 ⟨v, rfl, h1, h2⟩)
  go_ret
  exact ⟨_, rfl, h1, h2⟩

theorem reverse_sl (w : World) (base : Nat) (v : Value) (xs : List Nat) (hn : xs.length ≤ 2000) (hown : w.ownsRow base 3 1 v xs.length (ints xs)) :
    Calls Try.prog 43 #[v] w fun e w' => e = .returned (.tuple #[]) ∧ w'.ownsRow base 3 1 v xs.length (ints xs.reverse) ∧ Frm (fun b => v.ownBlock = some b) w w' := by
  rcases hown.2 with ⟨rfl, h0⟩ | ⟨g, cap, cur, rfl, _⟩
  · have : xs = [] := List.length_eq_zero_iff.1 h0
    subst this
    exact (reverse_nil w).mono fun e w' ⟨h1, h2⟩ => ⟨h1, h2 ▸ hown, h2 ▸ Frm.refl _ _⟩
  · exact (reverse_any w base g cap xs hn hown).mono fun e w' ⟨h1, h2, h3⟩ => ⟨h1, h2, h3.mono (fun i hi => by rw [hi]; rfl)⟩

set_option maxRecDepth 100000 in
set_option maxHeartbeats 2000000 in
/-- (*list).way -/
theorem way_in (h : Hist w t F nodes now) (n : Nat) (hn : n < nodes.length) : Calls Try.prog 41 #[.pointer (some ⟨t, 0, none⟩), .int .i64 n] w fun e w' => ∃ v, e = .returned v ∧ w'.ownsRow w.heap.size 3 1 v (wayL nodes n).length (ints (wayL nodes n)) ∧ Below w.heap.size w w' := by
  obtain ⟨g, cp, m, kv, es, clock, gs, hA, hC, rfl⟩ := h.at_
  have hup : Calls Try.prog 59 #[.pointer (some ⟨t, 0, none⟩), .int .i64 n] w _ := callsIn_wide.1 (up_in w t n 0)
  have hb : Below w.heap.size w ((w.alloc (.cells #[.pointer (some ⟨t, 0, none⟩)] 105)).alloc (.cells #[.int .i64 n] 3)) := ((Below.refl _ w).alloc (Nat.le_refl _) _).alloc (by simp) _
  have hw : TreeC ((w.alloc (.cells #[.pointer (some ⟨t, 0, none⟩)] 105)).alloc (.cells #[.int .i64 n] 3)) t (.slice (some ⟨g, 0, none⟩) nodes.length cp) m kv es clock gs nodes _ _ now := hC.stay (F := fun _ => False) (((Frm.refl _ w).alloc _).alloc _) (fun _ _ => id)
  have hG : UpGood t g nodes.length cp (w.heap.size + 1) w.heap.size n (parF nodes) ((w.alloc (.cells #[.pointer (some ⟨t, 0, none⟩)] 105)).alloc (.cells #[.int .i64 n] 3)) := by
    refine upGood_of rfl hw ?_ ?_
    · have := (Boxed.new (w.alloc (.cells #[.pointer (some ⟨t, 0, none⟩)] 105)) 3 (.int .i64 n)).cell
      rw [World.size_alloc] at this
      exact this
    · exact ((Boxed.new w 105 (.pointer (some ⟨t, 0, none⟩))).alloc _).cell
  have hcol := collect_any t g nodes.length cp (w.heap.size + 1) w.heap.size n (parF nodes) h.1.le h.1.par' (upL nodes n) (isUp_upF h.1.par' _ _ (by omega) (by omega) (by omega)) (fun x hx => by have := upL_mem h.1 hn x hx; omega) (upL_len h.1 hn) _ hG h.1.pos
  have hul := upL_len h.1 hn
  have HU := Lib.hid hup
  have HC := Lib.hid hcol
  have HB := Lib.hid hb
  clear hup hcol hb
  go_enter Try.func41, Try.ntmps41
  go_wp2_with (first
    | (go_at_call 59; refine HU.out.mono ?_; rintro e w' ⟨rfl, rfl⟩)
    | (go_at_call 61; refine HC.out.mono ?_; rintro e w1 ⟨v, rfl, h1, h2⟩)
    | (go_at_call 43; refine (reverse_sl _ _ v (upL nodes n) (by omega) h1).mono ?_; rintro e w2 ⟨rfl, h3, h4⟩))
  go_ret
  have hl : (wayL nodes n).length = (upL nodes n).length := by simp [wayL]
  refine ⟨_, rfl, ?_, ?_⟩
  · rw [hl]; exact owns_mono h3 (by simp; omega)
  · have hz := h2.size
    have : Below (w.heap.size + 2) w1 w2 := by
      refine ⟨h4.os, h4.tape, h4.output, h4.size, fun k hk => h4.block k (by simp at hz; omega) (fun e => ?_)⟩
      have := (h1.lt k e).1
      simp at this
      omega
    exact (HB.out.trans (h2.mono (by simp; omega))).trans (this.mono (by omega))

set_option maxRecDepth 100000 in
set_option maxHeartbeats 2000000 in
theorem way_yes (h : Hist w t F nodes now) (n : Nat) (hn : n < nodes.length) : Calls Try.prog 22 #[.pointer (some ⟨t, 0, none⟩), .int .i64 n] w (RetI w (wayL nodes n) 0) := by
  have hf := find_one h n
  rw [if_pos ⟨by omega, by omega⟩] at hf
  have hB : Below w.heap.size w (w.alloc (.cells #[.int .i64 n] 3)) := (Below.refl _ w).alloc (Nat.le_refl _) _
  have h' : Hist (w.alloc (.cells #[.int .i64 n] 3)) t F nodes now := h.stay (G := fun _ => False) ((Frm.refl _ w).alloc _) (fun _ _ => id)
  have HB := Lib.hid hB
  have H' := Lib.hid h'
  have HF := Lib.hid hf
  clear hB h' hf
  go_enter Try.func22, Try.ntmps22
  go_wp2_with (first
    | (go_at_call 40; refine HF.out.mono ?_; rintro e w' ⟨rfl, rfl⟩)
    | (go_at_call 41; refine (way_in H'.out n hn).mono ?_; rintro e w1 ⟨v', rfl, hown1, hB1⟩))
  go_ret2
  exact ⟨_, rfl, owns_mono hown1 (by simp), HB.out.trans (hB1.mono (by simp))⟩

/-- Find. -/
def RetS (w : World) (xs : List Nat) (e : Ending) (w' : World) : Prop := ∃ v, e = .returned v ∧ w'.ownsRow w.heap.size 3 1 v xs.length (ints xs) ∧ Below w.heap.size w w'
set_option maxRecDepth 100000 in
set_option maxHeartbeats 2000000 in
theorem find_state (h : Hist w t F nodes now) (s : ByteArray) : Calls Try.prog 26 #[.pointer (some ⟨t, 0, none⟩), .string s] w (RetS w (idxOf nodes s)) := by
  obtain ⟨g, cp, m, kv, es, clock, gs, hA, hC, rfl⟩ := h.at_
  have hle := h.1.le
  have c1 := hA.c1
  have c3 := hA.c3
  obtain ⟨u, hu⟩ : ∃ u, (gget gs s).getD (.slice none 0 0) = u := ⟨_, rfl⟩
  have hl := lookup54 s hC.hM hC.hMI
  obtain ⟨hown, _⟩ := hC.grp s
  rw [hu] at hl hown
  clear hu
  have hsl := SlI.of_owns hown
  have hkn := idxOf_len nodes s
  have HS := Lib.hid hsl
  clear hsl
  go_enter Try.func26, Try.ntmps26
  go_wp2_with (first
    | (go_at_call 36; refine (usable_yes t _ c3).mono ?_; rintro e w' ⟨rfl, rfl⟩)
    | (go_at_call 42; refine (clone_sl _ u (idxOf nodes s) (by omega) HS.out).mono ?_; rintro e w1 ⟨v', rfl, hown1, hB1⟩))
  go_ret
  exact ⟨_, rfl, hown1, hB1⟩

/-- Entry: the fields, one by one. -/
def RetE (w : World) (par tick : Int) (note state : ByteArray) (k : Int) (e : Ending) (w' : World) : Prop := e = .returned (.tuple #[.agg #[.int .i64 par, .int .i64 tick, .string note, .string state], .int .i64 k]) ∧ Below w.heap.size w w'
set_option maxRecDepth 100000 in
set_option maxHeartbeats 2000000 in
theorem entry_yes (h : Hist w t F nodes now) (n : Nat) (hn : n < nodes.length) : Calls Try.prog 24 #[.pointer (some ⟨t, 0, none⟩), .int .i64 n] w (RetE w (parF nodes n) (tickF nodes n) (noteF nodes n) (stateF nodes n) 0) := by
  have hB : Below w.heap.size w (w.alloc (.cells #[.int .i64 0, .int .i64 0, .string ⟨#[]⟩, .string ⟨#[]⟩] 45)) := (Below.refl _ w).alloc (Nat.le_refl _) _
  have h' : Hist (w.alloc (.cells #[.int .i64 0, .int .i64 0, .string ⟨#[]⟩, .string ⟨#[]⟩] 45)) t F nodes now := h.stay (G := fun _ => False) ((Frm.refl _ w).alloc _) (fun _ _ => id)
  have hf := find_one h' n
  rw [if_pos ⟨by omega, by omega⟩] at hf
  have h2 : Hist ((w.alloc (.cells #[.int .i64 0, .int .i64 0, .string ⟨#[]⟩, .string ⟨#[]⟩] 45)).alloc (.cells #[.int .i64 n] 3)) t F nodes now := h'.stay (G := fun _ => False) ((Frm.refl _ _).alloc _) (fun _ _ => id)
  obtain ⟨g, cp, m, kv, es, clock, gs, hA, hC, rfl⟩ := h2.at_
  have hle := h.1.le
  obtain ⟨x, hx⟩ := get_of_lt hn
  obtain ⟨n0, n1, n2, n3, _⟩ := hA.nd n x hx
  have c0 := hA.c0
  have b0 : (0 : Int) ≤ (n : Int) := by omega
  have b1 : (n : Int) < (nodes.length : Int) := by omega
  rw [World.size_alloc] at hf
  have HB := Lib.hid hB
  have HX := Lib.hid hx
  have HF := Lib.hid hf
  clear hB hx hf
  go_enter Try.func24, Try.ntmps24
  go_wp2_with (go_at_call 40; refine HF.out.mono ?_; rintro e w' ⟨rfl, rfl⟩)
  refine bodyPost_ret (v := .tuple #[.agg #[.int .i64 x.par, .int .i64 x.tick, .string x.note, .string x.state], .int .i64 0]) (by simp [results, Try.results24, go_sem]) rfl ⟨?_, ?_⟩
  · rw [parF_get HX.out, tickF_get HX.out, noteF_get HX.out, stateF_get HX.out]
  · exact ((Below.refl _ w).alloc (Nat.le_refl _) _).alloc (by simp) _
set_option maxRecDepth 100000 in
set_option maxHeartbeats 2000000 in
theorem entry_no (h : Hist w t F nodes now) (n : Int) (hn : ¬ (0 ≤ n ∧ n < nodes.length)) : Calls Try.prog 24 #[.pointer (some ⟨t, 0, none⟩), .int .i64 n] w (RetE w 0 0 ⟨#[]⟩ ⟨#[]⟩ 6) := by
  have h' : Hist (w.alloc (.cells #[.int .i64 0, .int .i64 0, .string ⟨#[]⟩, .string ⟨#[]⟩] 45)) t F nodes now := h.stay (G := fun _ => False) ((Frm.refl _ w).alloc _) (fun _ _ => id)
  have hf := find_one h' n
  rw [if_neg hn] at hf
  rw [World.size_alloc] at hf
  have HF := Lib.hid hf
  clear hf hn
  go_enter Try.func24, Try.ntmps24
  go_wp2_with (go_at_call 40; refine HF.out.mono ?_; rintro e w' ⟨rfl, rfl⟩)
  refine bodyPost_ret (v := .tuple #[.agg #[.int .i64 0, .int .i64 0, .string ⟨#[]⟩, .string ⟨#[]⟩], .int .i64 6]) (by simp [results, Try.results24, go_sem]) rfl ⟨rfl, ?_⟩
  exact ((Below.refl _ w).alloc (Nat.le_refl _) _).alloc (by simp) _

/-- An entry as data. -/
structure Ent where
  par : Int
  tick : Int
  note : ByteArray
  state : ByteArray
def _root_.Go.HK.HN.ent (x : HN) : Ent := ⟨x.par, x.tick, x.note, x.state⟩
def entCells (x : Ent) : List Value := [.int .i64 x.par, .int .i64 x.tick, .string x.note, .string x.state]
def entsFlat (xs : List Ent) : List Value := xs.flatMap entCells
theorem entsFlat_length : ∀ xs : List Ent, (entsFlat xs).length = xs.length * 4
  | [] => rfl
  | x :: xs => by simp only [entsFlat, List.flatMap_cons, List.length_append] at *; rw [show (xs.flatMap entCells).length = xs.length * 4 from entsFlat_length xs]; simp [entCells]; omega
theorem entsFlat_append (xs ys : List Ent) : entsFlat (xs ++ ys) = entsFlat xs ++ entsFlat ys := by simp [entsFlat]
theorem entsFlat_get : ∀ (xs : List Ent) (i j : Nat) (x : Ent), xs[i]? = some x → j < 4 → (entsFlat xs)[i * 4 + j]? = (entCells x)[j]?
  | [], i, _, _, h, _ => by simp at h
  | x :: xs, 0, j, x', h, hj => by
    simp at h; subst h
    simp only [entsFlat, List.flatMap_cons, Nat.zero_mul, Nat.zero_add]
    rw [List.getElem?_append_left (by simp [entCells]; omega)]
  | x :: xs, i + 1, j, x', h, hj => by
    simp at h
    simp only [entsFlat, List.flatMap_cons]
    rw [List.getElem?_append_right (by simp [entCells]; omega), show (i + 1) * 4 + j - (entCells x).length = i * 4 + j by simp [entCells]; omega]
    exact entsFlat_get xs i j x' h hj
def ents (nodes : List HN) : List Ent := nodes.map HN.ent

/-- Save. -/
def RetV (w : World) (xs : List Ent) (n : Int) (e : Ending) (w' : World) : Prop := ∃ v, e = .returned (.tuple #[v, .int .i64 n]) ∧ w'.ownsRow w.heap.size 45 4 v xs.length (entsFlat xs) ∧ Below w.heap.size w w'
set_option maxRecDepth 100000 in
set_option maxHeartbeats 4000000 in
theorem save_any (h : Hist w t F nodes now) : Calls Try.prog 19 #[.pointer (some ⟨t, 0, none⟩)] w (RetV w (ents nodes) now) := by
  obtain ⟨g, cp, m, kv, es, clock, gs, hA, hC, hFF⟩ := h.at_
  have hle := h.1.le
  have hnow := h.1.now
  have c0 := hA.c0
  have c3 := hA.c3
  have ht := h.lt t (by rw [hFF]; exact foot_t)
  have hg := h.lt g (by rw [hFF]; exact foot_v tv_nv rfl)
  obtain ⟨i0, hi, hz0, hz1, hz2⟩ := info_parts info45
  obtain ⟨n, hnn⟩ : ∃ n, n = nodes.length := ⟨_, rfl⟩
  rw [← hnn] at c0
  have hn1000 : n ≤ 1000 := by omega
  have HN := Lib.hid hnn
  clear hnn
  have hell : (ents nodes).length = nodes.length := by simp [ents]
  have HE := Lib.hid hell
  clear hell hFF
  go_enter Try.func19, Try.ntmps19
  go_wp2_with (go_at_call 36; refine (usable_yes t _ c3).mono ?_; rintro e w' ⟨rfl, rfl⟩)
  go_loopw [4, 16] (fun v i wr => ∃ k : Nat, k ≤ n ∧ i = .int .i64 k ∧ wr.ownsRow w.heap.size 45 4 v k (entsFlat ((ents nodes).take k)) ∧ Below w.heap.size w wr) (fun _ i _ => n - (intOf i).toNat)
  case atStart => exact ⟨0, Nat.zero_le _, rfl, World.ownsRow_nil _ _ _ _, Below.refl _ _⟩
  case round =>
    obtain ⟨k, hkn, rfl, hrow, hB⟩ := hrel
    by_cases hlt : k < n
    · obtain ⟨x, hx⟩ := get_of_lt (nodes := nodes) (i := k) (by have := HN.out; omega)
      obtain ⟨q, hq⟩ : ∃ q, kv[k]? = some q := ⟨_, List.getElem?_eq_getElem (by have := HN.out; have := hC.hkl; omega)⟩
      obtain ⟨qa, ql, qc, rfl⟩ : ∃ a l c, q = .slice a l c := by
        rcases (hC.hK k q hq).2 with ⟨e, _⟩ | ⟨_, cap, _, e, _⟩
        · exact ⟨_, _, _, e⟩
        · exact ⟨_, _, _, e⟩
      have hg' : ∀ j, j < 6 → wr.cell? ⟨g, k * 6 + j, none⟩ = (nodeCells x (.slice qa ql qc))[j]? := fun j hj => (hB.cell (p := ⟨g, _, none⟩) hg).trans ((hC.hN.cellAt _ (by have := HN.out; omega)).trans (flat_get _ _ _ _ _ _ hx hq hj))
      have m0 : wr.cell? ⟨g, k * 6, none⟩ = some (.int .i64 x.par) := hg' 0 (by omega)
      have m1 : wr.cell? ⟨g, k * 6 + 1, none⟩ = some (.int .i64 x.tick) := hg' 1 (by omega)
      have m2 : wr.cell? ⟨g, k * 6 + 2, none⟩ = some (.string x.note) := hg' 2 (by omega)
      have m3 : wr.cell? ⟨g, k * 6 + 3, none⟩ = some (.string x.state) := hg' 3 (by omega)
      have m4 : wr.cell? ⟨g, k * 6 + 4, none⟩ = some (.slice qa ql qc) := hg' 4 (by omega)
      have m5 : wr.cell? ⟨g, k * 6 + 5, none⟩ = some (.int .i64 x.fav) := hg' 5 (by omega)
      clear hg'
      have b0 : (0 : Int) ≤ (k : Int) := by omega
      have b1 : (k : Int) < (n : Int) := by omega
      have HX := Lib.hid hx
      have HQ := Lib.hid hq
      clear hx hq
      go_wp2_with (
        at_builtin
        refine wpList_append_own _ rfl _ _ 38 rfl w.heap.size 45 i0 _ 4 48 Try.underlying38 hi hz0 hz1 hz2 rfl (by omega) _ _ _ rfl ((hrow.alloc _).alloc _) ⟨wr.heap.size + 1, 0, none⟩ 1 1 (entCells x.ent) rfl rfl (World.news_of_block (cs := #[.int .i64 x.par, .int .i64 x.tick, .string x.note, .string x.state]) (t := 45) (fr := (0, 0)) (by rw [← World.size_alloc wr]; exact heap_alloc_new _ _)) (by simp [entCells, Go.HK.HN.ent, Value.oneCell']) (by simp only [maxLen]; omega) (by omega) (by have := hB.size; simp; omega) ?_
        intro v' w1 hown1 hgrow hnil)
      go_roundw
      case rel =>
        refine ⟨k + 1, by omega, by go_num, ?_, ?_⟩
        · have hek : (ents nodes)[k]? = some x.ent := by simp [ents, HX.out]
          have e1 : (ents nodes).take (k + 1) = (ents nodes).take k ++ [x.ent] := by rw [List.take_add_one, hek]; rfl
          rw [e1, entsFlat_append]
          simpa [entsFlat] using hown1
        · refine ((hB.alloc hB.size _).alloc (by have := hB.size; simp; omega) _).grown hgrow (by have := hB.size; simp; omega) (fun j ej => ?_)
          exact (hrow.lt j ej).1
      case measure => simp [intOf]; omega
    · obtain rfl : k = n := by omega
      have hnowc : wr.cell? ⟨t, 2, none⟩ = some (.int .i64 now) := (hB.cell (p := ⟨t, 2, none⟩) ht).trans hA.c2
      go_wp2_with (fail)
      go_quiet (fail)
      go_wp2_with (fail)
      go_ret2
      have he := HE.out
      have hn' := HN.out
      refine ⟨_, rfl, ?_, below_drewN hB _⟩
      rw [List.take_of_length_le (by omega)] at hrow
      rw [show (ents nodes).length = k by omega]
      exact hrow
end
end Go.Proofs.Ythneinepdbkgeaa
