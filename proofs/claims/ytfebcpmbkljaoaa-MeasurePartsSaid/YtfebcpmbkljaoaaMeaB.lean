/- The walk of the iterator over the steps of a proof. -/
import Derived.Test.YtfebcpmbkljaoaaMeaA
import Derived.StillTailTactics
namespace Go.Proofs.Ytfebcpmbkljaoaa
open Go.RowKit Go.HR
set_option linter.unusedVariables false
set_option linter.unusedSimpArgs false
set_option linter.unusedSectionVars false
theorem wide_fn (f : Nat) : Fence.wide.fn f = True := rfl
theorem wide_depth : Fence.wide.depth.isSome = false := rfl
theorem asked_wide {P : Program} {o : Oper} {a : Act} {C : World → Prop} : Oper.askedIn Fence.wide P o a C := fun _ _ _ _ => trivial
attribute [local go_sem] Oper.semAt_some wide_fn asked_wide wide_depth
theorem yield_depth {m m' : Nat} {P : Program} {l : Nat} {args : Array Value} {W : World} {R : Ending → World → Prop} (h : YieldAt Fence.wide m P l args W R) : YieldAt Fence.wide m' P l args W R := by
  obtain ⟨fn, tmps, assign, body, hy, hR⟩ := h
  exact ⟨fn, tmps, assign, body, hy, hR.1, fun c cs _ => hR.2 c cs (fun d h => by cases h)⟩
/-- What the round is handed: a step, where its place lies, where its part's premises lie. -/
structure StepV where
  d : StepD
  pv : SL
  sv : SL
def StepV.cells (x : StepV) : Array Value := #[x.pv.v, .int .i64 x.d.wt, .string x.d.t.rule, .int .u8 x.d.t.o.op, .string x.d.t.o.name, x.d.t.o.args.v, x.d.t.o.fsub.v, .int .i64 x.d.t.o.label, x.sv.v, x.d.t.o.marks.v]
def encS (x : StepV) : Array Value := #[.agg x.cells]
/-- What the iterator knows of it. -/
def ToldS (n0 : Nat) (x : StepV) (W : World) : Prop := PlaceB W x.pv x.d.pl ∧ IsPs n0 W x.sv x.d.t.subs
/-- How a round ends. -/
def PostS (J Jx : List StepV → World → Prop) (Safe : World → Nat → Prop) (l : Nat) (pre : List StepV) (x : StepV) (W : World) (e : Ending) (W' : World) : Prop :=
  (e = .returned (.bool true) ∧ J (pre ++ [x]) W' ∧ Keep Safe l W W') ∨ (e = .returned (.bool false) ∧ Jx (pre ++ [x]) W')
/-- How a visit ends. -/
def PostB (J Jx : List StepV → World → Prop) (Safe : World → Nat → Prop) (l : Nat) (pre : List StepV) (ds : List StepD) (W : World) (b : Bool) (W' : World) : Prop :=
  (b = true ∧ ∃ xs, xs.map (·.d) = ds ∧ J (pre ++ xs) W' ∧ Keep Safe l W W') ∨ (b = false ∧ ∃ xs, xs.map (·.d) <+: ds ∧ Jx (pre ++ xs) W')
def PostV (J Jx : List StepV → World → Prop) (Safe : World → Nat → Prop) (l : Nat) (pre : List StepV) (ds : List StepD) (W : World) (e : Ending) (W' : World) : Prop :=
  ∃ b, e = .returned (.bool b) ∧ PostB J Jx Safe l pre ds W b W'
/-- What the iterator's own boxes hold. -/
structure VisE (Safe : World → Nat → Prop) (l n0 By Bv : Nat) (W : World) : Prop where
  hy : W.heap[By]? = some (.cells #[.func (.yield l) #[] #[]] 111 (0, 0))
  hv : W.heap[Bv]? = some (.cells #[.func (.func 74) #[] #[.pointer (some ⟨By, 0, none⟩), .pointer (some ⟨Bv, 0, none⟩)]] 111 (0, 0))
  sy : Safe W By
  sv : Safe W Bv
  ly : By ≠ l
  lv : Bv ≠ l
  old : ∀ k, k < n0 → Safe W k
  ln : n0 ≤ l
  ll : l < W.heap.size
theorem VisE.keep {Safe : World → Nat → Prop} {l n0 By Bv : Nat} {W W' : World} (h : VisE Safe l n0 By Bv W) (hk : Keep Safe l W W') : VisE Safe l n0 By Bv W' where
  hy := (hk.2 By h.sy h.ly).2.trans h.hy
  hv := (hk.2 Bv h.sv h.lv).2.trans h.hv
  sy := (hk.2 By h.sy h.ly).1
  sv := (hk.2 Bv h.sv h.lv).1
  ly := h.ly
  lv := h.lv
  old := fun k hk2 => (hk.2 k (h.old k hk2) (by have := h.ln; omega)).1
  ln := h.ln
  ll := Nat.lt_of_lt_of_le h.ll hk.1
theorem keep_ps {Safe : World → Nat → Prop} {l n0 By Bv : Nat} {W W' : World} (h : VisE Safe l n0 By Bv W) (hk : Keep Safe l W W') {s : SL} {ts : List PT} (hs : IsPs n0 W s ts) : IsPs n0 W' s ts :=
  hs.same fun k hk2 => (hk.2 k (h.old k hk2) (by have := h.ln; omega)).2
/-- A place that a round leaves as it is. -/
def PlaceS (Safe : World → Nat → Prop) (l : Nat) (W : World) (pv : SL) (pl : List Nat) : Prop := PlaceB W pv pl ∧ ∀ k, pv.v.ownBlock = some k → Safe W k ∧ k ≠ l
theorem PlaceS.keep {Safe : World → Nat → Prop} {l : Nat} {W W' : World} {pv : SL} {pl : List Nat} (h : PlaceS Safe l W pv pl) (hk : Keep Safe l W W') : PlaceS Safe l W' pv pl :=
  ⟨h.1.same fun k hb => (hk.2 k (h.2 k hb).1 (h.2 k hb).2).2, fun k hb => ⟨(hk.2 k (h.2 k hb).1 (h.2 k hb).2).1, (h.2 k hb).2⟩⟩
theorem Keep.refl (Safe : World → Nat → Prop) (l : Nat) (W : World) : Keep Safe l W W := ⟨Nat.le_refl _, fun k hk _ => ⟨hk, rfl⟩⟩
theorem keep_later {J : List StepV → World → Prop} {Safe : World → Nat → Prop} {l : Nat} {pre : List StepV} {W W' : World} (hS : IsSafe Safe J) (hJ : J pre W) (h : Later W W') : Keep Safe l W W' :=
  ⟨h.size, fun k hk _ => ⟨hS.on _ _ _ k hJ h hk, h.block k (hS.lt _ _ k hJ hk)⟩⟩
set_option maxRecDepth 100000 in
set_option maxHeartbeats 8000000 in
theorem visit_leaf (Safe : World → Nat → Prop) (l n0 By Bv N : Nat) (J Jx : List StepV → World → Prop) (hS : IsSafe Safe J) (hJ : ∀ s A C, J s A → Later A C → J s C)
    (hY : ∀ m pre x W, J pre W → ToldS n0 x W → pre.length < N → YieldAt Fence.wide m Try.prog l (encS x) W (PostS J Jx Safe l pre x W))
    (k : Nat) (pre : List StepV) (pl : List Nat) (pa : Option Addr) (pn pc : Nat) (sa : Option Addr) (sc wt : Nat) (rule : ByteArray) (op : Int) (name : ByteArray) (aa : Option Addr) (an ac : Nat) (fa : Option Addr) (fn fc : Nat) (label : Int) (ma : Option Addr) (mn mc : Nat) (W : World)
    (hj : J pre W) (hE : VisE Safe l n0 By Bv W) (hP : PlaceS Safe l W ⟨pa, pn, pc⟩ pl) (hN : pre.length + 1 ≤ N) :
    CallsIn Fence.wide k Try.prog 74 #[.agg #[.slice pa pn pc, .int .i64 wt, .string rule, .int .u8 op, .string name, .slice aa an ac, .slice fa fn fc, .int .i64 label, .slice sa 0 sc, .slice ma mn mc], .pointer (some ⟨By, 0, none⟩), .pointer (some ⟨Bv, 0, none⟩)] W
      (PostV J Jx Safe l pre (stepsT pl wt (.node rule ⟨op, name, ⟨aa, an, ac⟩, ⟨fa, fn, fc⟩, label, ⟨ma, mn, mc⟩⟩ [])) W) := by
  have hs : IsPs n0 W ⟨sa, 0, sc⟩ [] := .nil sa sc
  obtain ⟨X, hX⟩ : ∃ X : StepV, X = ⟨⟨pl, wt, .node rule ⟨op, name, ⟨aa, an, ac⟩, ⟨fa, fn, fc⟩, label, ⟨ma, mn, mc⟩⟩ []⟩, ⟨pa, pn, pc⟩, ⟨sa, 0, sc⟩⟩ := ⟨_, rfl⟩
  obtain ⟨Wa, hWa⟩ : ∃ Wa, Wa = W.alloc (.cells #[.slice pa pn pc, .int .i64 wt, .string rule, .int .u8 op, .string name, .slice aa an ac, .slice fa fn fc, .int .i64 label, .slice sa 0 sc, .slice ma mn mc] 92) := ⟨_, rfl⟩
  have hla : Later W Wa := by rw [hWa]; exact (Below.refl _ W).alloc (Nat.le_refl _) _
  have hja := hJ _ _ _ hj hla
  have hka := keep_later (l := l) hS hj hla
  have hEa := hE.keep hka
  have hPa := hP.keep hka
  have hsa := keep_ps hE hka hs
  have hbx : Wa.heap[W.heap.size]? = some (.cells #[.slice pa pn pc, .int .i64 wt, .string rule, .int .u8 op, .string name, .slice aa an ac, .slice fa fn fc, .int .i64 label, .slice sa 0 sc, .slice ma mn mc] 92 (0, 0)) := by rw [hWa]; exact HK.blk_new _ _
  have hbs : Safe Wa W.heap.size := hS.new _ _ _ _ hj hla (Nat.le_refl _) (by rw [hWa]; simp)
  have hbl : W.heap.size ≠ l := by have := hE.ll; omega
  have hyy := hY (k - 1) pre X Wa hja (by rw [hX]; exact ⟨hPa.1, hsa⟩) (by omega)
  rw [show encS X = #[.agg #[.slice pa pn pc, .int .i64 wt, .string rule, .int .u8 op, .string name, .slice aa an ac, .slice fa fn fc, .int .i64 label, .slice sa 0 sc, .slice ma mn mc]] by rw [hX]; rfl] at hyy
  obtain ⟨fn', tmps', assign', body', hy, hRR⟩ := hyy
  have cy := HK.blk_cell hEa.hy 0
  obtain ⟨Bs, hBs⟩ : ∃ Bs, Bs = W.heap.size := ⟨_, rfl⟩
  have HX := Lib.hid hX
  have HBX := Lib.hid hbx
  have HSF := Lib.hid hbs
  have HEA := Lib.hid hEa
  have HPA := Lib.hid hPa
  have HSA := Lib.hid hsa
  have HKA := Lib.hid hka
  clear hX hbx hbs hEa hPa hsa hka hj hE hP hs hja hla
  subst hWa
  refine callsIn_of_wp Try.func74 rfl trivial ?_ rfl
  simp only [Try.ntmps74, List.size_toArray, List.length_cons, List.length_nil, Nat.reduceAdd, Nat.reduceSub, Array.replicate_succ, Array.replicate_zero, List.push_toArray, List.append_toArray, List.nil_append, List.cons_append]
  gi_wp2_with (fail)
  refine hRR.mono ?_
  clear hy hRR cy
  rintro e W1 (⟨rfl, hj1, hk1⟩ | ⟨rfl, hx1⟩)
  · have hbx1 := (hk1.2 _ HSF.out hbl).2.trans HBX.out
    have hsf1 := (hk1.2 _ HSF.out hbl).1
    have s0 := HK.blk_cell hbx1 0
    have s1 := HK.blk_cell hbx1 1
    have s8 := HK.blk_cell hbx1 8
    have HJ1 := Lib.hid hj1
    have HK1 := Lib.hid (HKA.out.trans hk1)
    have HE1 := Lib.hid (HEA.out.keep hk1)
    have HP1 := Lib.hid (HPA.out.keep hk1)
    have HS1 := Lib.hid (keep_ps HEA.out hk1 HSA.out)
    have HBX1 := Lib.hid hbx1
    have HSF1 := Lib.hid hsf1
    clear hj1 hk1 hbx1 hsf1 HBX HSF HEA HPA HSA HKA
    gi_wp2_with (fail)
    gi_loopw [16] (fun i wr => i = .int .i64 0 ∧ wr = W1) (fun _ _ => 0)
    case atStart => exact ⟨rfl, rfl⟩
    case round =>
      obtain ⟨rfl, rfl⟩ := hrel
      gi_wp2_with (fail)
      go_ret
      exact ⟨true, rfl, .inl ⟨rfl, [X], by rw [HX.out]; simp [stepsT, stepsF], HJ1.out, HK1.out⟩⟩
  · gi_wp2_with (fail)
    go_ret
    exact ⟨false, rfl, .inr ⟨rfl, [X], by rw [HX.out]; simp [stepsT, stepsF], hx1⟩⟩
theorem vis_mid {wr W6 W7 : World} {cs : Array Value} {t : TypeId} {o2 : Obj} {v6 : Value} {n : Nat} {xs : List Value} (hb6 : Below (wr.alloc (.cells cs t)).heap.size (wr.alloc (.cells cs t)) W6)
    (hrow6 : W6.ownsRow (wr.alloc (.cells cs t)).heap.size 3 1 v6 n xs) (hgrow : (W6.alloc o2).grownBy W7 v6.ownBlock) : Later wr W7 ∧ W7.heap[wr.heap.size]? = some (.cells cs t (0, 0)) := by
  have h6 : Below wr.heap.size wr W6 := ((Below.refl _ wr).alloc (Nat.le_refl _) _).trans (hb6.mono (by simp))
  have h0 := hb6.size
  simp only [World.size_alloc] at h0
  refine ⟨(h6.alloc (by omega) o2).grown hgrow (by simp; omega) (fun j e => by have h9 := (hrow6.lt j e).1; rw [World.size_alloc] at h9; omega), ?_⟩
  have h7 : W6.heap[wr.heap.size]? = some (.cells cs t (0, 0)) := (hb6.block _ (by simp)).trans (HK.blk_new _ _)
  exact (hgrow.block _ (by simp; omega) (fun e => by have h9 := (hrow6.lt _ e.symm).1; rw [World.size_alloc] at h9; omega)).trans (HK.blk_alloc h7 o2)
theorem pv_own {W W' : World} {Safe : World → Nat → Prop} {J : List StepV → World → Prop} {pre : List StepV} {l g c n : Nat} {xs : List Nat} (hS : IsSafe Safe J) (hJ : J pre W) (hl : Later W W') (hll : l < W.heap.size)
    (h : W'.ownsRow (W.heap.size + 1) 3 1 (.slice (some ⟨g, 0, none⟩) n c) xs.length (ints xs)) : PlaceS Safe l W' ⟨some ⟨g, 0, none⟩, n, c⟩ xs := by
  refine ⟨⟨h.1, ?_⟩, fun k hk => ?_⟩
  · rcases h.2 with h0 | ⟨g', cap, cur, hv, hg, hh, r⟩
    · exact .inl h0
    · exact .inr ⟨g', cap, cur, hv, Nat.zero_le _, hh, r⟩
  · have := h.lt k hk
    exact ⟨hS.new _ _ _ _ hJ hl (by omega) this.2, by omega⟩
theorem row_at {n0 g o n c k : Nat} {W : World} {ts : List PT} {t : PT} (h : IsPs n0 W ⟨some ⟨g, o, none⟩, n, c⟩ ts) (hk : ts[k]? = some t) :
    ∃ sv : SL, (∀ (j : Nat) v, (t.vals sv)[j]? = some v → W.cell? ⟨g, o + k * 8 + j, none⟩ = some v) ∧ IsPs n0 W sv t.subs := by
  cases h with
  | nil a c => simp at hk
  | row g o c ts sv hg hcc hss => exact ⟨sv k, hcc k t hk, hss k t hk⟩
theorem sizeF_take {ts : List PT} {k : Nat} {t : PT} (h : ts[k]? = some t) : sizeF (ts.take k) + sizeT t ≤ sizeF ts := by
  have h1 := stepsF_take (pl := []) (w := 0) h
  have h2 := (stepsF_prefix [] 0 (k + 1) ts).length_le
  rw [h1, List.length_append, stepsF_size, stepsF_size, steps_size] at h2
  exact h2
theorem row_base {W6 wr : World} {o : Obj} {v : Value} {n : Nat} {xs : List Value} (h : W6.ownsRow (wr.alloc o).heap.size 3 1 v n xs) : W6.ownsRow (wr.heap.size + 1) 3 1 v n xs := by
  rw [World.size_alloc] at h; exact h
/-- Between two premises. -/
def VisI (J : List StepV → World → Prop) (Safe : World → Nat → Prop) (l : Nat) (pre : List StepV) (X : StepV) (pl : List Nat) (w2 : Nat) (subs : List PT) (W1 : World) (k : Nat) (wr : World) : Prop :=
  ∃ xs : List StepV, xs.map (·.d) = stepsF pl w2 0 (subs.take k) ∧ J (pre ++ ([X] ++ xs)) wr ∧ Keep Safe l W1 wr
theorem vis_on {J Jx : List StepV → World → Prop} {Safe : World → Nat → Prop} {l : Nat} {pre xs : List StepV} {X : StepV} {pl : List Nat} {w2 kk : Nat} {subs : List PT} {t2 : PT} {W1 W7 W8 : World}
    (hb : PostB J Jx Safe l (pre ++ ([X] ++ xs)) (stepsT (pl ++ [kk]) w2 t2) W7 true W8) (hxs : xs.map (·.d) = stepsF pl w2 0 (subs.take kk)) (htk : stepsF pl w2 0 (subs.take (kk + 1)) = stepsF pl w2 0 (subs.take kk) ++ stepsT (pl ++ [kk]) w2 t2)
    (hk : Keep Safe l W1 W7) : VisI J Safe l pre X pl w2 subs W1 (kk + 1) W8 := by
  rcases hb with ⟨_, ys, h1, h2, h3⟩ | ⟨h, _⟩
  · exact ⟨xs ++ ys, by rw [List.map_append, hxs, h1, htk], by simpa [List.append_assoc] using h2, hk.trans h3⟩
  · cases h
theorem vis_off {J Jx : List StepV → World → Prop} {Safe : World → Nat → Prop} {l : Nat} {pre xs : List StepV} {X : StepV} {pl : List Nat} {w2 kk : Nat} {subs : List PT} {t2 : PT} {W7 W8 : World} {ds : List StepD}
    (hb : PostB J Jx Safe l (pre ++ ([X] ++ xs)) (stepsT (pl ++ [kk]) w2 t2) W7 false W8) (hxs : xs.map (·.d) = stepsF pl w2 0 (subs.take kk)) (hpf : stepsF pl w2 0 (subs.take kk) ++ stepsT (pl ++ [kk]) w2 t2 <+: stepsF pl w2 0 subs)
    (hd : ds = X.d :: stepsF pl w2 0 subs) : false = false ∧ ∃ ys, ys.map (·.d) <+: ds ∧ Jx (pre ++ ys) W8 := by
  rcases hb with ⟨h, _⟩ | ⟨_, ys, h1, h2⟩
  · cases h
  · refine ⟨rfl, [X] ++ xs ++ ys, ?_, by simpa [List.append_assoc] using h2⟩
    rw [hd, List.map_append, List.map_append, hxs]
    obtain ⟨r, hr⟩ := h1
    obtain ⟨q, hq⟩ := hpf
    exact ⟨r ++ q, by rw [← hq, ← hr]; simp⟩
set_option maxRecDepth 100000 in
set_option maxHeartbeats 8000000 in
theorem visit_in (Safe : World → Nat → Prop) (l n0 By Bv N : Nat) (J Jx : List StepV → World → Prop) (hS : IsSafe Safe J) (hJ : ∀ s A C, J s A → Later A C → J s C)
    (hY : ∀ m pre x W, J pre W → ToldS n0 x W → pre.length < N → YieldAt Fence.wide m Try.prog l (encS x) W (PostS J Jx Safe l pre x W)) :
    ∀ (n : Nat) (T : PT) (k : Nat) (pre : List StepV) (pl : List Nat) (pv sv : SL) (wt : Nat) (W : World), sizeT T ≤ n → n ≤ 10000 → pl.length + n ≤ 20000 → wt ≤ 2 ^ 60 → J pre W → VisE Safe l n0 By Bv W → PlaceS Safe l W pv pl → IsPs n0 W sv T.subs → pre.length + sizeT T ≤ N →
      CallsIn Fence.wide k Try.prog 74 #[.agg (StepV.cells ⟨⟨pl, wt, T⟩, pv, sv⟩), .pointer (some ⟨By, 0, none⟩), .pointer (some ⟨Bv, 0, none⟩)] W (PostV J Jx Safe l pre (stepsT pl wt T) W) := by
  intro n
  induction n with
  | zero => intro T k pre pl pv sv wt W h; have := sizeT_pos T; omega
  | succ n ih =>
    intro T k pre pl pv sv wt W hsz hn10 hpn hwt hj hE hP hs hN
    have IH := Lib.hid ih
    clear ih
    obtain ⟨rule, ⟨op, name, ⟨aa, an, ac⟩, ⟨fa, fn, fc⟩, label, ⟨ma, mn, mc⟩⟩, subs⟩ := T
    obtain ⟨pa, pn, pc⟩ := pv
    obtain ⟨sa, sn, sc⟩ := sv
    simp only [StepV.cells, PT.rule, PT.o, SL.v]
    cases hs with
    | nil a c => exact visit_leaf Safe l n0 By Bv N J Jx hS hJ hY k pre pl pa pn pc sa sc wt rule op name aa an ac fa fn fc label ma mn mc W hj hE hP (by have := sizeT_pos (.node rule ⟨op, name, ⟨aa, an, ac⟩, ⟨fa, fn, fc⟩, label, ⟨ma, mn, mc⟩⟩ []); omega)
    | row g o c ts sv hg hcc hss =>
    simp only [PT.subs] at hcc hss ⊢
    obtain ⟨sn, hsn⟩ : ∃ sn, sn = subs.length := ⟨_, rfl⟩
    have hs : IsPs n0 W ⟨some ⟨g, o, none⟩, sn, sc⟩ subs := by rw [hsn]; exact .row g o sc subs sv hg hcc hss
    clear hcc hss
    rw [← hsn]
    obtain ⟨X, hX⟩ : ∃ X : StepV, X = ⟨⟨pl, wt, .node rule ⟨op, name, ⟨aa, an, ac⟩, ⟨fa, fn, fc⟩, label, ⟨ma, mn, mc⟩⟩ subs⟩, ⟨pa, pn, pc⟩, ⟨some ⟨g, o, none⟩, sn, sc⟩⟩ := ⟨_, rfl⟩
    obtain ⟨Wa, hWa⟩ : ∃ Wa, Wa = W.alloc (.cells #[.slice pa pn pc, .int .i64 wt, .string rule, .int .u8 op, .string name, .slice aa an ac, .slice fa fn fc, .int .i64 label, .slice (some ⟨g, o, none⟩) sn sc, .slice ma mn mc] 92) := ⟨_, rfl⟩
    have hla : Later W Wa := by rw [hWa]; exact (Below.refl _ W).alloc (Nat.le_refl _) _
    have hja := hJ _ _ _ hj hla
    have hka := keep_later (l := l) hS hj hla
    have hEa := hE.keep hka
    have hPa := hP.keep hka
    have hsa := keep_ps hE hka hs
    have hbx : Wa.heap[W.heap.size]? = some (.cells #[.slice pa pn pc, .int .i64 wt, .string rule, .int .u8 op, .string name, .slice aa an ac, .slice fa fn fc, .int .i64 label, .slice (some ⟨g, o, none⟩) sn sc, .slice ma mn mc] 92 (0, 0)) := by rw [hWa]; exact HK.blk_new _ _
    have hbs : Safe Wa W.heap.size := hS.new _ _ _ _ hj hla (Nat.le_refl _) (by rw [hWa]; simp)
    have hbl : W.heap.size ≠ l := by have := hE.ll; omega
    have hyy := hY (k - 1) pre X Wa hja (by rw [hX]; exact ⟨hPa.1, hsa⟩) (by rw [sizeT_eq] at hN; omega)
    rw [show encS X = #[.agg #[.slice pa pn pc, .int .i64 wt, .string rule, .int .u8 op, .string name, .slice aa an ac, .slice fa fn fc, .int .i64 label, .slice (some ⟨g, o, none⟩) sn sc, .slice ma mn mc]] by rw [hX]; rfl] at hyy
    obtain ⟨fn', tmps', assign', body', hy, hRR⟩ := hyy
    have cy := HK.blk_cell hEa.hy 0
    obtain ⟨Bs, hBs⟩ : ∃ Bs, Bs = W.heap.size := ⟨_, rfl⟩
    have HX := Lib.hid hX
    have HBX := Lib.hid hbx
    have HSF := Lib.hid hbs
    have HEA := Lib.hid hEa
    have HPA := Lib.hid hPa
    have HSA := Lib.hid hsa
    have HKA := Lib.hid hka
    have HSN := Lib.hid hsn
    clear hX hbx hbs hEa hPa hsa hka hj hE hP hs hja hla hsn
    subst hWa
    refine callsIn_of_wp Try.func74 rfl trivial ?_ rfl
    simp only [Try.ntmps74, List.size_toArray, List.length_cons, List.length_nil, Nat.reduceAdd, Nat.reduceSub, Array.replicate_succ, Array.replicate_zero, List.push_toArray, List.append_toArray, List.nil_append, List.cons_append]
    gi_wp2_with (fail)
    refine hRR.mono ?_
    clear hy hRR cy
    rintro e W1 (⟨rfl, hj1, hk1⟩ | ⟨rfl, hx1⟩)
    · have hbx1 := (hk1.2 _ HSF.out hbl).2.trans HBX.out
      have hsf1 := (hk1.2 _ HSF.out hbl).1
      have s0 := HK.blk_cell hbx1 0
      have s1 := HK.blk_cell hbx1 1
      have s8 := HK.blk_cell hbx1 8
      have HJ1 := Lib.hid hj1
      have HK1 := Lib.hid (HKA.out.trans hk1)
      have HE1 := Lib.hid (HEA.out.keep hk1)
      have HP1 := Lib.hid (HPA.out.keep hk1)
      have HS1 := Lib.hid (keep_ps HEA.out hk1 HSA.out)
      have HBX1 := Lib.hid hbx1
      have HSF1 := Lib.hid hsf1
      clear hj1 hk1 hbx1 hsf1 HBX HSF HEA HPA HSA HKA
      gi_wp2_with (fail)
      obtain ⟨w2, hw2⟩ : ∃ w2, w2 = wt / (2 * sn) := ⟨_, rfl⟩
      have hw60 : w2 ≤ 2 ^ 60 := by rw [hw2]; exact Nat.le_trans (Nat.div_le_self _ _) hwt
      have HW2 := Lib.hid hw2
      clear hw2
      gi_loopw [16] (fun i wr => ∃ kk : Nat, kk ≤ sn ∧ i = .int .i64 kk ∧ VisI J Safe l pre X pl (w2) subs W1 kk wr) (fun i _ => sn - (intOf i).toNat)
      case atStart => exact ⟨0, Nat.zero_le _, rfl, [], by simp [stepsF], by simpa using HJ1.out, Keep.refl _ _ _⟩
      case round =>
        obtain ⟨kk, hkk, rfl, xs, hxs, hjw, hkw⟩ := hrel
        have hEw := HE1.out.keep hkw
        have hPw := HP1.out.keep hkw
        have hSw := keep_ps HE1.out hkw HS1.out
        have hBw := (hkw.2 _ HSF1.out hbl).2.trans HBX1.out
        have hsfw := (hkw.2 _ HSF1.out hbl).1
        by_cases hlt : kk < sn
        · obtain ⟨t2, ht2⟩ : ∃ t2, subs[kk]? = some t2 := ⟨_, List.getElem?_eq_getElem (by rw [← HSN.out]; exact hlt)⟩
          obtain ⟨svk, hcc, hss⟩ := row_at hSw ht2
          have hz2 := sizeF_take ht2
          have hT := sizeT_eq (.node rule ⟨op, name, ⟨aa, an, ac⟩, ⟨fa, fn, fc⟩, label, ⟨ma, mn, mc⟩⟩ subs)
          simp only [PT.subs] at hT
          have hxl : xs.length = sizeF (subs.take kk) := by have := congrArg List.length hxs; rw [List.length_map, stepsF_size] at this; exact this
          have hih : ∀ (g7 c7 : Nat) (W7 : World), J (pre ++ ([X] ++ xs)) W7 → VisE Safe l n0 By Bv W7 → PlaceS Safe l W7 ⟨some ⟨g7, 0, none⟩, pl.length + 1, c7⟩ (pl ++ [kk]) → IsPs n0 W7 svk t2.subs →
              CallsIn Fence.wide (k - 1) Try.prog 74 #[.agg (StepV.cells ⟨⟨pl ++ [kk], w2, t2⟩, ⟨some ⟨g7, 0, none⟩, pl.length + 1, c7⟩, svk⟩), .pointer (some ⟨By, 0, none⟩), .pointer (some ⟨Bv, 0, none⟩)] W7 (PostV J Jx Safe l (pre ++ ([X] ++ xs)) (stepsT (pl ++ [kk]) (w2) t2) W7) := fun g7 c7 W7 h1 h2 h3 h4 =>
            IH.out t2 (k - 1) _ _ _ _ _ W7 (by omega) (by omega) (by simp; omega) hw60 h1 h2 h3 h4 (by simp; omega)
          have htk := stepsF_take (pl := pl) (w := w2) ht2
          have hpf := stepsF_prefix pl (w2) (kk + 1) subs
          rw [htk] at hpf
          obtain ⟨r2, ⟨op2, name2, ⟨a1, n1, c1⟩, ⟨a2, n2, c2⟩, label2, ⟨a3, n3, c3⟩⟩, s2⟩ := t2
          obtain ⟨ka, kn, kc⟩ := svk
          simp only [StepV.cells, PT.rule, PT.o, SL.v] at hih
          have d0 := hcc 0 _ rfl
          have d1 := hcc 1 _ rfl
          have d2 := hcc 2 _ rfl
          have d3 := hcc 3 _ rfl
          have d4 := hcc 4 _ rfl
          have d5 := hcc 5 _ rfl
          have d6 := hcc 6 _ rfl
          have d7 := hcc 7 _ rfl
          simp only [Nat.add_zero, PT.rule, PT.o, SL.v] at d0 d1 d2 d3 d4 d5 d6 d7
          have q0 : ∀ o, (wr.alloc o).cell? ⟨W.heap.size, 0, none⟩ = some (.slice pa pn pc) := fun o => HK.blk_cell (HK.blk_alloc hBw o) 0
          have hcl := fun o => clone_any (wr.alloc o) ⟨pa, pn, pc⟩ pl (by omega) (hPw.1.same fun j hj => Below.heap_alloc _ _ _ (hPw.1.lt hj))
          simp only [SL.v] at hcl
          have b0 : (0 : Int) ≤ (kk : Int) := by omega
          have b1 : (kk : Int) < (sn : Int) := by omega
          obtain ⟨i0', hi, hz0, hz1, hz2'⟩ := info_parts infoI
          have HIH := Lib.hid hih
          have HCL := Lib.hid hcl
          have HXS := Lib.hid hxs
          have HJW := Lib.hid hjw
          have HKW := Lib.hid hkw
          have HEW := Lib.hid hEw
          have HSS := Lib.hid hss
          have HTK := Lib.hid htk
          have HPF := Lib.hid hpf
          have HBW := Lib.hid hBw
          clear hih hcl hxs hjw hkw hEw hPw hSw hBw hsfw hcc hss htk hpf ht2 hz2 hT hxl s0 s1 s8
          gi_wp2_with (first
            | (gi_at_call 65; refine (callsIn_wide.2 (HCL.out _)).mono ?_; rintro e W6 ⟨v6, rfl, hrow6, hb6⟩; have hr6 := row_base hrow6; have hz6 := hb6.size; rw [World.size_alloc] at hz6; have HB6 := Lib.hid hb6; have HR6 := Lib.hid hrow6; clear hb6 hrow6)
            | (gi_at_builtin; (refine wpListIn_append_own _ rfl _ _ 37 rfl (wr.heap.size + 1) 3 i0' (.int .i64 0) 1 8 Try.underlying37 hi hz0 hz1 hz2' rfl (by decide) _ _ _ rfl (hr6.alloc _) ⟨W6.heap.size, 0, none⟩ 1 1 [.int .i64 kk] rfl rfl (World.news_of_block (cs := #[.int .i64 kk]) (t := 3) (fr := (0, 0)) (World.alloc_heap_new W6 _)) (by simp [Value.oneCell']) (by simp only [maxLen]; omega) (by omega) (by simp; omega) ?_; intro v7 W7 hown7 hgrow7 _; obtain ⟨g7, c7, rfl⟩ := ownsRow_succ hown7)))
          obtain ⟨hl7, hb7⟩ := vis_mid HB6.out HR6.out hgrow7
          have hr7 : W7.drew.ownsRow (wr.heap.size + 1) 3 1 (.slice (some ⟨g7, 0, none⟩) (pl.length + 1) c7) (pl ++ [kk]).length (ints (pl ++ [kk])) := by
            rw [List.length_append, List.length_singleton, show ints (pl ++ [kk]) = ints pl ++ [.int .i64 kk] by simp [ints]]
            exact hown7
          have hlD : Later wr W7.drew := hl7.drew
          have hjD := hJ _ _ _ HJW.out hlD
          have hkD := keep_later (l := l) hS HJW.out hlD
          have hED := HEW.out.keep hkD
          have hpD := pv_own hS HJW.out hlD HEW.out.ll hr7
          have hsD := keep_ps HEW.out hkD HSS.out
          have HCD := Lib.hid (HIH.out g7 c7 W7.drew hjD hED hpD hsD)
          have f1 := HK.blk_cell (later_heap hl7 HEW.out.hv) 0
          have f2 := HK.blk_cell (later_heap hl7 HBW.out) 1
          have f3 := HK.blk_cell (later_heap hl7 HBW.out) 8
          have e0 := HK.blk_cell hb7 0
          have e1 := HK.blk_cell hb7 1
          have e2 := HK.blk_cell hb7 2
          have e3 := HK.blk_cell hb7 3
          have e4 := HK.blk_cell hb7 4
          have e5 := HK.blk_cell hb7 5
          have e6 := HK.blk_cell hb7 6
          have e7 := HK.blk_cell hb7 7
          have HKD := Lib.hid hkD
          clear hl7 hb7 hr7 hlD hjD hkD hED hpD hsD hown7 hgrow7 hr6 hz6
          have hmix : Try.prog.follows .mixedOrders = true := by kernel_rfl
          have hsn10 : sn ≤ 10000 := by have := sizeF_len subs; have := sizeT_eq (.node rule ⟨op, name, ⟨aa, an, ac⟩, ⟨fa, fn, fc⟩, label, ⟨ma, mn, mc⟩⟩ subs); simp only [PT.subs] at this; have := HSN.out; omega
          have m1 : IntKind.i64.wrap (2 * (sn : Int)) = 2 * (sn : Int) := IntWalk.i64_in _ (by omega)
          have m2 : (wt : Int) / (2 * (sn : Int)) = (w2 : Int) := by rw [HW2.out, Int.natCast_ediv]; rfl
          have m4 : IntKind.i64.wrap (w2 : Int) = (w2 : Int) := IntWalk.i64_in _ (by omega)
          have m3 : (wt : Int).tdiv (2 * (sn : Int)) = (w2 : Int) := by rw [Int.tdiv_eq_ediv_of_nonneg (by omega)]; exact m2
          have m5 : (2 * (sn : Int) == 0) = false := by simp; omega
          have m6 : ¬ sn = 0 := by omega
          have m7 : ¬ (sn : Int) = 0 := by omega
          have m8 : ¬ 2 * (sn : Int) = 0 := by omega
          have m9 : (0 : Int) < 2 * (sn : Int) := by omega
          have m10 : (0 : Int) ≤ (wt : Int) := by omega
          refine wpIn_wide.2 ?_
          go_still_tail 12, (by kernel_rfl)
          change wpList _ _ _ _ _ W7.drew
          go_wp2_with (go_at_call 74; refine (callsIn_wide.1 HCD.out).mono ?_; rintro e W8 ⟨b, rfl, hb⟩)
          have HBB := Lib.hid hb
          clear hb
          cases b with
          | true =>
            gi_wp2_with (fail)
            go_roundw
            case rel => exact ⟨kk + 1, by omega, by go_num, vis_on HBB.out HXS.out HTK.out (HKW.out.trans HKD.out)⟩
            case measure => simp [intOf]; omega
          | false =>
            gi_wp2_with (fail)
            go_ret
            exact ⟨false, rfl, .inr (vis_off HBB.out HXS.out HPF.out (by rw [stepsT_eq, HX.out]; simp only [PT.subs, HW2.out, HSN.out]))⟩
        · obtain rfl : kk = sn := by omega
          have htake : subs.take kk = subs := List.take_of_length_le (by rw [← HSN.out]; exact Nat.le_refl _)
          have HFIN : Hid (PostB J Jx Safe l pre (stepsT pl wt (.node rule ⟨op, name, ⟨aa, an, ac⟩, ⟨fa, fn, fc⟩, label, ⟨ma, mn, mc⟩⟩ subs)) W true wr) := Lib.hid (.inl ⟨rfl, [X] ++ xs, by
            rw [List.map_append, hxs, htake, stepsT_eq, HX.out]
            simp only [PT.subs, ← HSN.out, ← HW2.out]; rfl, hjw, HK1.out.trans hkw⟩)
          clear hEw hPw hSw hBw hsfw hxs hjw hkw htake s0 s1 s8
          gi_wp2_with (fail)
          go_ret
          exact ⟨true, rfl, HFIN.out⟩
    · gi_wp2_with (fail)
      go_ret
      exact ⟨false, rfl, .inr ⟨rfl, [X], by rw [stepsT_eq, HX.out]; exact ⟨_, rfl⟩, hx1⟩⟩
end Go.Proofs.Ytfebcpmbkljaoaa
