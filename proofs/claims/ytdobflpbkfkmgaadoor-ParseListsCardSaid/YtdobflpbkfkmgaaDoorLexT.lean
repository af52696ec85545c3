/- The walk of the iterator over the tokens. -/
import Derived.Test.YtdobflpbkfkmgaaDoorLexS
namespace Go.Proofs.YtdobflpbkfkmgaaDoor
open Go.RowKit Go.Shelf
set_option linter.unusedVariables false
set_option linter.unusedSimpArgs false
set_option linter.unusedSectionVars false
theorem wide_fn (f : Nat) : Fence.wide.fn f = True := rfl
theorem asked_wide {P : Program} {o : Oper} {a : Act} {C : World → Prop} : Oper.askedIn Fence.wide P o a C := fun _ _ _ _ => trivial
attribute [local go_sem] Oper.semAt_some wide_fn asked_wide
/-- What the iterator reads and turns: the scanner, the pointer to it, the signs. -/
structure Toks (W : World) (b Bs at_ : Nat) (s : ByteArray) : Prop where
  hS : Scan W b at_ s
  hB : W.cell? ⟨Bs, 0, none⟩ = some (.pointer (some ⟨b, 0, none⟩))
  hG : Signs W
  hne : Bs ≠ b
  hn1 : b ≠ 2
  hl : Bs < W.heap.size
/-- What comes: the tokens, and then the error, if there is one. -/
def comes (ts : List Tok) (p : Nat) (e : Int) : List (Tok × Int) := ts.map (fun t => (t, 0)) ++ (if e = 0 then [] else [(⟨0, ⟨#[]⟩, p⟩, e)])
def encT (x : Tok × Int) : Array Value := #[.agg #[.int .u8 x.1.k, .string x.1.t, .int .i64 x.1.p], .int .i64 x.2]
def KK (b Bs k : Nat) : Prop := k = b ∨ k = Bs ∨ k = 2
theorem cell_same {A C : World} {k : Nat} (h : C.heap[k]? = A.heap[k]?) (i : Nat) : C.cell? ⟨k, i, none⟩ = A.cell? ⟨k, i, none⟩ := by
  simp [World.cell?, h]
theorem Toks.keep {W W' : World} {b Bs at_ : Nat} {s : ByteArray} (h : Toks W b Bs at_ s) (hk : Keep (KK b Bs) W W') : Toks W' b Bs at_ s where
  hS := ⟨(hk.2 b (.inl rfl)).trans h.hS.h⟩
  hB := (cell_same (hk.2 Bs (.inr (.inl rfl))) 0).trans h.hB
  hG := ⟨fun i g hg => (cell_same (hk.2 2 (.inr (.inr rfl))) i).trans (h.hG.1 i g hg), Nat.lt_of_lt_of_le h.hG.2 hk.1⟩
  hne := h.hne
  hn1 := h.hn1
  hl := Nat.lt_of_lt_of_le h.hl hk.1
theorem Toks.chg {W W' : World} {b Bs at_ a2 : Nat} {s : ByteArray} (h : Toks W b Bs at_ s) (hc : Chg b W W') (hS : Scan W' b a2 s) : Toks W' b Bs a2 s where
  hS := hS
  hB := (cell_same (hc.block Bs h.hl h.hne) 0).trans h.hB
  hG := ⟨fun i g hg => (cell_same (hc.block 2 h.hG.2 (fun e => h.hn1 e.symm)) i).trans (h.hG.1 i g hg), Nat.lt_of_lt_of_le h.hG.2 hc.size⟩
  hne := h.hne
  hn1 := h.hn1
  hl := Nat.lt_of_lt_of_le h.hl hc.size
set_option maxRecDepth 100000 in
set_option maxHeartbeats 1000000 in
theorem tokens_in (w : World) (b k : Nat) :
    CallsIn Fence.wide k Tryd.prog 36 #[.pointer (some ⟨b, 0, none⟩)] w fun e w' => e = .returned (.func (.func 53) #[] #[.pointer (some ⟨w.heap.size, 0, none⟩)]) ∧
      w' = w.alloc (.cells #[.pointer (some ⟨b, 0, none⟩)] 105) := by
  refine callsIn_of_wp Tryd.func36 rfl trivial ?_ rfl
  simp only [Tryd.ntmps36, List.size_toArray, List.length_cons, List.length_nil, Nat.reduceAdd, Nat.reduceSub, Array.replicate_succ, Array.replicate_zero, List.push_toArray, List.append_toArray, List.nil_append, List.cons_append]
  gi_wp2
  go_ret
  exact ⟨rfl, rfl⟩
def left (b : Nat) (s : ByteArray) (W : World) : Nat := s.size - (match W.cell? ⟨b, 0, none⟩ with | some (.int _ n) => n.toNat | _ => 0)
theorem left_eq {b at_ : Nat} {s : ByteArray} {W : World} (h : Scan W b at_ s) : left b s W = s.size - at_ := by
  simp [left, h.c0]
/-- Where the iterator is. -/
def TokI (b Bs : Nat) (s : ByteArray) (all : List (Tok × Int)) (p : Nat) (e : Int) (J : List (Tok × Int) → World → Prop) (a0 : Nat) (W : World) : Prop :=
  ∃ pre us at_, a0 ≤ at_ ∧ at_ ≤ s.size ∧ LexL at_ ((bys s).drop at_) us p e ∧ all = pre ++ comes us p e ∧ Toks W b Bs at_ s ∧ J pre W
theorem lex_at {s : ByteArray} {i : Nat} (h : i < s.size) : ∃ c, (bys s).drop i = c :: (bys s).drop (i + 1) ∧ bt s i = c.toNat ∧ readS s i = readL c ((bys s).drop (i + 1)) := by
  obtain ⟨c, l, h1, h2, h3⟩ := readS_L h
  have hd : (bys s).drop i = (bys s)[i]'h :: (bys s).drop (i + 1) := List.drop_eq_getElem_cons h
  rw [hd] at h1
  simp only [List.cons.injEq] at h1
  obtain ⟨rfl, rfl⟩ := h1
  exact ⟨_, hd, h3, h2⟩
theorem lex_blank {s : ByteArray} {i p : Nat} {us : List Tok} {e : Int} (h : i < s.size) (hb : blankB (bt s i) = true) (hL : LexL i ((bys s).drop i) us p e) : LexL (i + 1) ((bys s).drop (i + 1)) us p e := by
  obtain ⟨c, hd, hc, _⟩ := lex_at h
  rw [hd] at hL
  have hb' : blL c = true := by rw [← hb, hc]; rfl
  cases hL with
  | blank _ h2 => exact h2
  | bad h2 _ => rw [hb'] at h2; cases h2
  | tok h2 _ _ _ => rw [hb'] at h2; cases h2
theorem lex_stop {s : ByteArray} {i p : Nat} {us : List Tok} {e : Int} (h : i = s.size) (hL : LexL i ((bys s).drop i) us p e) : us = [⟨5, ⟨#[]⟩, i⟩] ∧ p = 0 ∧ e = 0 := by
  rw [List.drop_eq_nil_of_le (show (bys s).length ≤ i by show s.size ≤ i; omega)] at hL
  cases hL
  exact ⟨rfl, rfl, rfl⟩
theorem lex_next {s : ByteArray} {i p : Nat} {us : List Tok} {e : Int} (h : i < s.size) (hb : blankB (bt s i) = false) (hL : LexL i ((bys s).drop i) us p e) :
    ((readS s i).e = 0 ∧ ∃ us', comes us p e = (⟨(readS s i).k, (readS s i).t, i⟩, (readS s i).e) :: comes us' p e ∧ i + (readS s i).t.size ≤ s.size ∧ 1 ≤ (readS s i).t.size ∧ LexL (i + (readS s i).t.size) ((bys s).drop (i + (readS s i).t.size)) us' p e) ∨
    ((readS s i).e ≠ 0 ∧ comes us p e = [(⟨(readS s i).k, (readS s i).t, i⟩, (readS s i).e)]) := by
  obtain ⟨c, hd, hc, hr⟩ := lex_at h
  have hle := readS_le h
  rw [hd] at hL
  have hb' : blL c = false := by rw [← hb, hc]; rfl
  rw [hr] at hle ⊢
  cases hL with
  | blank h2 _ => rw [hb'] at h2; cases h2
  | bad _ he =>
    refine .inr ⟨he, ?_⟩
    rw [(readL_none he).1, (readL_none he).2, comes, if_neg he]
    rfl
  | @tok _ _ _ r us' _ _ _ he hrr h2 =>
    refine .inl ⟨he, us', by rw [he]; rfl, by omega, ?_, ?_⟩
    · obtain ⟨r', ht⟩ := read_ok he
      have hn : (bys (readL c ((bys s).drop (i + 1))).t).length ≠ 0 := fun e => ht.ne (List.length_eq_zero_iff.1 e)
      have : (bys (readL c ((bys s).drop (i + 1))).t).length = (readL c ((bys s).drop (i + 1))).t.size := rfl
      omega
    · have h3 : (bys s).drop (i + (readL c ((bys s).drop (i + 1))).t.size) = r := by
        rw [← List.drop_drop, hd, hrr, show (readL c ((bys s).drop (i + 1))).t.size = (bys (readL c ((bys s).drop (i + 1))).t).length from rfl, List.drop_left]
      rw [h3]; exact h2
theorem TokI.blank {b Bs at_ : Nat} {s : ByteArray} {all : List (Tok × Int)} {p : Nat} {e : Int} {J : List (Tok × Int) → World → Prop} (hJ : ∀ x A C, J x A → Chg b A C → (∃ a, Scan C b a s) → J x C) {a0 nq : Nat} {W : World} {pre : List (Tok × Int)} {us : List Tok}
    (haa : a0 ≤ at_) (hlt : at_ < s.size) (hb : blankB (bt s at_) = true) (h : LexL at_ ((bys s).drop at_) us p e ∧ all = pre ++ comes us p e ∧ Toks W b Bs at_ s ∧ J pre W) :
    TokI b Bs s all p e J a0 ((W.drewN nq).setCell ⟨b, 0, none⟩ (.int .i64 ((at_ : Int) + 1))) ∧ left b s ((W.drewN nq).setCell ⟨b, 0, none⟩ (.int .i64 ((at_ : Int) + 1))) = s.size - (at_ + 1) := by
  obtain ⟨h1, h2, h3, h4⟩ := h
  have hc : Chg b W ((W.drewN nq).setCell ⟨b, 0, none⟩ (.int .i64 ((at_ : Int) + 1))) := ((HK.Frm.refl (fun k => k = b) W).drewN nq).setCell (p := ⟨b, 0, none⟩) (.inl rfl) _
  have hS : Scan ((W.drewN nq).setCell ⟨b, 0, none⟩ (.int .i64 ((at_ : Int) + 1))) b (at_ + 1) s := by
    have := HK.blk_set (HK.blk_drewN h3.hS.h nq) 0 (.int .i64 ((at_ : Int) + 1))
    exact ⟨this⟩
  exact ⟨⟨pre, us, at_ + 1, by omega, hlt, lex_blank hlt hb h1, h2, h3.chg hc hS, hJ _ _ _ h4 hc ⟨_, hS⟩⟩, left_eq hS⟩
/-- How a round ends, for the walk. -/
def PostY (J Jx : List (Tok × Int) → World → Prop) (b Bs : Nat) (pre : List (Tok × Int)) (x : Tok × Int) (W : World) (e : Ending) (W' : World) : Prop :=
  (e = .returned (.bool true) ∧ J (pre ++ [x]) W' ∧ Keep (KK b Bs) W W') ∨ (e = .returned (.bool false) ∧ Jx (pre ++ [x]) W')
theorem Chg.drewN_l {b d : Nat} {A C : World} (h : Chg b (A.drewN d) C) : Chg b A C := ⟨h.os, h.tape, h.output, h.size, h.block⟩
theorem tok_yield {J Jx : List (Tok × Int) → World → Prop} {k l b Bs : Nat} {all : List (Tok × Int)} {s : ByteArray} (hJ : ∀ x A C, J x A → Chg b A C → (∃ a, Scan C b a s) → J x C)
    (hY : ∀ pre x W, J pre W → pre.length < all.length → YieldAt Fence.wide (k - 1) Tryd.prog l (encT x) W (PostY J Jx b Bs pre x W))
    {pre : List (Tok × Int)} {us : List Tok} {p at_ : Nat} {e : Int} {W : World} {R : KT} (ha : all = pre ++ comes us p e) (hT : Toks W b Bs at_ s) (hj : J pre W) (hne : comes us p e ≠ []) (w3 : World) (hc : Chg b W w3) {a2 : Nat} (hS3 : Scan w3 b a2 s) :
    YieldAt Fence.wide (k - 1) Tryd.prog l #[.agg #[.int .u8 R.k, .string R.t, .int .i64 at_], .int .i64 R.e] (w3.alloc (.cells #[.int .u8 R.k, .string R.t, .int .i64 at_] 46)) (PostY J Jx b Bs pre (⟨R.k, R.t, at_⟩, R.e) (w3.alloc (.cells #[.int .u8 R.k, .string R.t, .int .i64 at_] 46))) := by
  refine hY pre (⟨R.k, R.t, at_⟩, R.e) _ (hJ _ _ _ hj (hc.alloc _) ⟨_, ⟨HK.blk_alloc hS3.h _⟩⟩) ?_
  rw [ha, List.length_append]
  have : 0 < (comes us p e).length := List.length_pos_iff.2 hne
  omega
theorem tok_on {J : List (Tok × Int) → World → Prop} {b Bs : Nat} {all : List (Tok × Int)} 
    {pre : List (Tok × Int)} {us us' : List Tok} {p at_ : Nat} {e : Int} {W w3 W4 : World} {s : ByteArray} {R : KT} (ha : all = pre ++ comes us p e) (hT : Toks W b Bs at_ s ∧ J pre W)
    (h5 : comes us p e = (⟨R.k, R.t, at_⟩, R.e) :: comes us' p e) (h6 : at_ + R.t.size ≤ s.size) (h8 : LexL (at_ + R.t.size) ((bys s).drop (at_ + R.t.size)) us' p e)
    (hS3 : Scan w3 b (at_ + R.t.size) s) (hc3 : Chg b W w3) (hJ4 : J (pre ++ [(⟨R.k, R.t, at_⟩, R.e)]) W4) {o : Obj} (hk4 : Keep (KK b Bs) (w3.alloc o) W4) :
    TokI b Bs s all p e J 0 W4 ∧ left b s W4 = s.size - (at_ + R.t.size) := by
  have hT3 : Toks (w3.alloc o) b Bs (at_ + R.t.size) s := (hT.1.chg hc3 hS3).chg ((HK.Frm.refl (fun k => k = b) w3).alloc o) ⟨HK.blk_alloc hS3.h o⟩
  have hT4 := hT3.keep hk4
  exact ⟨⟨_, us', _, Nat.zero_le _, h6, h8, by rw [ha, h5]; simp, hT4, hJ4⟩, left_eq hT4.hS⟩
set_option maxRecDepth 100000 in
set_option maxHeartbeats 4000000 in
theorem toks_in (k : Nat) (hk : 1 ≤ k) (l b Bs : Nat) (s : ByteArray) (hs : s.size ≤ maxLen) (ts : List Tok) (p : Nat) (e : Int) (hL : LexL 0 (bys s) ts p e) (J Jx : List (Tok × Int) → World → Prop)
    (hJ : ∀ x A C, J x A → Chg b A C → (∃ a, Scan C b a s) → J x C)
    (hY : ∀ pre x W, J pre W → pre.length < (comes ts p e).length → YieldAt Fence.wide (k - 1) Tryd.prog l (encT x) W (PostY J Jx b Bs pre x W))
    (W : World) (hG : Toks W b Bs 0 s) (h0 : J [] W) :
    CallsIn Fence.wide k Tryd.prog 53 #[.func (.yield l) #[] #[], .pointer (some ⟨Bs, 0, none⟩)] W fun e1 W' => (∃ v, e1 = .returned v) ∧
      ((∃ ys, ys = comes ts p e ∧ J ys W') ∨ (∃ pre, pre <+: comes ts p e ∧ Jx pre W')) := by
  have hs' := hs
  unfold maxLen at hs'
  have HG0 := Lib.hid hG
  have H0 := Lib.hid h0
  have HL := Lib.hid hL
  clear hG h0 hL
  refine callsIn_of_wp Tryd.func53 rfl trivial ?_ rfl
  simp only [Tryd.ntmps53, List.size_toArray, List.length_cons, List.length_nil, Nat.reduceAdd, Nat.reduceSub, Array.replicate_succ, Array.replicate_zero, List.push_toArray, List.append_toArray, List.nil_append, List.cons_append]
  gi_wp2
  gi_loopw [] (fun wr => TokI b Bs s (comes ts p e) p e J 0 wr) (fun wr => left b s wr)
  case atStart => exact ⟨[], ts, 0, Nat.le_refl _, Nat.zero_le _, HL.out, rfl, HG0.out, H0.out⟩
  case round =>
    obtain ⟨wo, rfl⟩ : ∃ wo : World, wo = wr := ⟨_, rfl⟩
    obtain ⟨pre0, us0, a0, _, ha0, hL0, he0, hT0, hJ0⟩ := hrel
    have HI0 : Hid (TokI b Bs s (comes ts p e) p e J a0 wo) := Lib.hid ⟨pre0, us0, a0, Nat.le_refl _, ha0, hL0, he0, hT0, hJ0⟩
    have HM : Hid (left b s wo = s.size - a0) := Lib.hid (left_eq hT0.hS)
    clear hL0 he0 hT0 hJ0
    gi_wp2
    gi_loopw [] (fun wr => TokI b Bs s (comes ts p e) p e J a0 wr) (fun wr => left b s wr)
    case atStart => exact HI0.out
    case round =>
      obtain ⟨pre, us, at_, haa, ha, hL, he, hT, hJs⟩ := hrel
      have HM1 : Hid (left b s wr = s.size - at_) := Lib.hid (left_eq hT.hS)
      have HI : Hid (LexL at_ ((bys s).drop at_) us p e ∧ comes ts p e = pre ++ comes us p e ∧ Toks wr b Bs at_ s ∧ J pre wr) := Lib.hid ⟨hL, he, hT, hJs⟩
      have c0 := hT.hS.c0
      have c1 := hT.hS.c1
      have f0 : wr.frozen? ⟨b, 0, none⟩ = false := HK.blk_frozen hT.hS.h 0
      have cB := hT.hB
      have b0 : (0 : Int) ≤ (at_ : Int) := by omega
      clear hL he hT hJs
      by_cases hlt : at_ < s.size
      · have d1 : decide (at_ < s.size) = true := decide_eq_true hlt
        have b1 : (at_ : Int) < (s.size : Int) := by omega
        have hq := fun w' => blank_any w' ((s[at_]'hlt).toNat) (by rw [bt_eq]; exact bt_le s at_)
        cases hal : blankB (bt s at_) with
        | true =>
          have HAL := Lib.hid hal
          have HQ : Hid (∀ w', Calls Tryd.prog 54 #[.int .u8 ((s[at_]'hlt).toNat : Nat)] w' (RetC w' true)) := Lib.hid (fun w' => by have := hq w'; rw [bt_eq hlt, hal] at this; rw [bt_eq hlt]; exact this)
          clear hq hal
          gi_wp2_with (fail)
          gi_quiet ((gi_at_call 54; exact CallsIn.quiet_of_same (callsIn_wide.2 ((HQ.out _).mono fun _ _ h => ⟨h.1, h.2.symm⟩))))
          gi_wp2_with (fail)
          obtain ⟨r1, r2⟩ := TokI.blank hJ haa hlt HAL.out HI.out (nq := nq)
          exact ⟨r1, by rw [r2, HM1.out]; omega⟩
        | false =>
          have HAL := Lib.hid hal
          have HQ : Hid (∀ w', Calls Tryd.prog 54 #[.int .u8 ((s[at_]'hlt).toNat : Nat)] w' (RetC w' false)) := Lib.hid (fun w' => by have := hq w'; rw [bt_eq hlt, hal] at this; rw [bt_eq hlt]; exact this)
          have d2 : ((at_ : Int) == (s.size : Int)) = false := by simp; omega
          clear hq hal
          gi_wp2_with (fail)
          gi_quiet ((gi_at_call 54; exact CallsIn.quiet_of_same (callsIn_wide.2 ((HQ.out _).mono fun _ _ h => ⟨h.1, h.2.symm⟩))))
          gi_wp2_with (fail)
          gi_quiet (fail)
          obtain ⟨R, hR⟩ : ∃ R, readS s at_ = R := ⟨_, rfl⟩
          have hstep := lex_next hlt HAL.out HI.out.1
          rw [hR] at hstep
          have HST := Lib.hid hstep
          have hnx : ∀ d, Calls Tryd.prog 55 #[.pointer (some ⟨b, 0, none⟩)] (wr.drewN d) (RetN wr b at_ s (readS s at_)) := fun d => (next_any (wr.drewN d) b at_ s ⟨HK.blk_drewN HI.out.2.2.1.hS.h d⟩ hs hlt HI.out.2.2.1.hG).mono fun _ _ h => ⟨h.1, h.2.1, h.2.2.drewN_l⟩
          rw [hR] at hnx
          have HNX := Lib.hid hnx
          have HYY := Lib.hid (tok_yield hJ hY HI.out.2.1 HI.out.2.2.1 HI.out.2.2.2 (R := R) (by rcases hstep with ⟨_, us', h5, _⟩ | ⟨_, h5⟩ <;> simp [h5]))
          clear hstep hnx hR
          gi_wp2_with (gi_at_call 55; refine (callsIn_wide.2 (HNX.out _)).mono ?_; rintro e1 w3 ⟨rfl, hS3, hc3⟩; obtain ⟨fn, tmps, assign, body, hy, hRR⟩ := HYY.out w3 hc3 hS3)
          refine hRR.mono ?_
          clear hy hRR
          rintro e2 W4 (⟨rfl, hJ4, hk4⟩ | ⟨rfl, hJx4⟩)
          · rcases HST.out with ⟨h0, us', h5, h6, h7, h8⟩ | ⟨h0, h5⟩
            · have n0 : (R.e == 0) = true := by rw [h0]; rfl
              have n1 : (R.e != 0) = false := by rw [h0]; rfl
              have HQ4 : Hid (TokI b Bs s (comes ts p e) p e J 0 W4 ∧ left b s W4 = s.size - (at_ + R.t.size)) := Lib.hid (tok_on HI.out.2.1 HI.out.2.2 h5 h6 h8 hS3 hc3 hJ4 hk4)
              have H7 := Lib.hid h7
              have H6 := Lib.hid h6
              clear h0 h5 h6 h7 h8 hJ4 hk4 hS3 hc3
              gi_wp2_with (fail)
              exact ⟨HQ4.out.1, by rw [HQ4.out.2, HM.out]; have := H7.out; have := H6.out; omega⟩
            · have n0 : (R.e == 0) = false := by simpa using h0
              have n1 : (R.e != 0) = true := by simpa using h0
              have HE : Hid (comes ts p e = pre ++ [(⟨R.k, R.t, at_⟩, R.e)]) := Lib.hid (by rw [HI.out.2.1, h5])
              clear h0 h5 hk4 hS3 hc3
              gi_wp2_with (fail)
              refine bodyPost_ret (results_none rfl _ _ _) rfl ?_
              exact ⟨⟨_, rfl⟩, .inl ⟨_, HE.out.symm, hJ4⟩⟩
          · have HE : Hid (pre ++ [(⟨R.k, R.t, at_⟩, R.e)] <+: comes ts p e) := Lib.hid (by
              rcases HST.out with ⟨_, us', h5, _⟩ | ⟨_, h5⟩
              · rw [HI.out.2.1, h5]; exact ⟨comes us' p e, by simp⟩
              · rw [HI.out.2.1, h5]; exact List.prefix_rfl)
            clear hS3 hc3
            gi_wp2_with (fail)
            refine bodyPost_ret (results_none rfl _ _ _) rfl ?_
            exact ⟨⟨_, rfl⟩, .inr ⟨_, HE.out, hJx4⟩⟩
      · have hae : at_ = s.size := by omega
        have d1 : decide (at_ < s.size) = false := decide_eq_false hlt
        have d2 : ((at_ : Int) == (s.size : Int)) = true := by simp; omega
        obtain ⟨h1, h2, h3⟩ := lex_stop hae HI.out.1
        have hc5 : comes us p e = [(⟨5, ⟨#[]⟩, at_⟩, 0)] := by rw [h1, h3]; rfl
        have HE : Hid (comes ts p e = pre ++ [(⟨5, ⟨#[]⟩, at_⟩, 0)]) := Lib.hid (by rw [HI.out.2.1, hc5])
        have HYY : Hid (∀ d, YieldAt Fence.wide (k - 1) Tryd.prog l #[.agg #[.int .u8 5, .string ⟨#[]⟩, .int .i64 at_], .int .i64 0] (wr.drewN d) (PostY J Jx b Bs pre (⟨5, ⟨#[]⟩, at_⟩, 0) (wr.drewN d))) := Lib.hid (fun d =>
          hY pre (⟨5, ⟨#[]⟩, at_⟩, 0) _ (hJ _ _ _ HI.out.2.2.2 ((HK.Frm.refl (fun k => k = b) wr).drewN d) ⟨_, ⟨HK.blk_drewN HI.out.2.2.1.hS.h d⟩⟩) (by rw [HE.out]; simp))
        clear hae h1 h2 h3 hc5
        gi_wp2_with (fail)
        gi_quiet (fail)
        obtain ⟨q1, rfl⟩ : ∃ q1, q1 = nq := ⟨nq, rfl⟩
        gi_wp2_with (fail)
        gi_quiet (fail)
        obtain ⟨fn, tmps, assign, body, hy, hRR⟩ := HYY.out (q1 + nq)
        gi_wp2_with (fail)
        refine hRR.mono ?_
        clear hy hRR
        rintro e2 W4 (⟨rfl, hJ4, hk4⟩ | ⟨rfl, hJx4⟩)
        · gi_wp2_with (fail)
          refine bodyPost_ret (results_none rfl _ _ _) rfl ?_
          exact ⟨⟨_, rfl⟩, .inl ⟨_, HE.out.symm, hJ4⟩⟩
        · gi_wp2_with (fail)
          refine bodyPost_ret (results_none rfl _ _ _) rfl ?_
          exact ⟨⟨_, rfl⟩, .inr ⟨_, by rw [HE.out]; exact List.prefix_rfl, hJx4⟩⟩
end Go.Proofs.YtdobflpbkfkmgaaDoor
