import Derived.Test.YtdobflpbkfkmgaaGreatDoorR4b
import Derived.Test.YtdobflpbkfkmgaaGreatDoorFia
namespace Go.Proofs.YtdobflpbkfkmgaaGreatDoor
open Go.RowKit Go.HK Go.FR
set_option linter.unusedVariables false
set_option linter.unusedSimpArgs false
set_option linter.unusedSectionVars false
def KindOk (t:Tok):Prop:=(t.k = 3 /\ wordB t.t = true) ∨ (t.k = 1 /\ wordB t.t = false /\ nameB t.t = true) ∨ (t.k = 2 /\ metaB t.t = true) ∨ (t.k = 4 /\ bys t.t ∈ signsD) ∨ (t.k = 5 /\ bys t.t = [])
theorem read_kind {c:UInt8} {l:List UInt8} (h:(readL c l).e = 0) (p:Nat):KindOk ⟨(readL c l).k,(readL c l).t,p⟩:=by
 unfold readL at h ⊢
 by_cases h1:letterB c.toNat = true
 ·rw [if_pos h1] at h ⊢
  unfold runR at h ⊢
  cases hw:wordB (mkS (c :: l.takeWhile alL))
  ·rw [hw] at h
   simp only [Bool.false_eq_true,if_false] at h ⊢
   cases hn:nameB (mkS (c :: l.takeWhile alL))
   ·rw [hn] at h; simp at h
   ·simp only [if_true]
    exact .inr (.inl ⟨rfl,hw,hn⟩)
  ·simp only [if_true]
   exact .inl ⟨rfl,hw⟩
 ·rw [if_neg h1] at h ⊢
  by_cases h4:markB c.toNat = true
  ·rw [if_pos h4] at h ⊢
   unfold markR at h ⊢
   cases hm:metaB (mkS (c :: l.takeWhile alL))
   ·rw [hm] at h; simp at h
   ·simp only [if_true]
    exact .inr (.inr (.inl ⟨rfl,hm⟩))
  ·rw [if_neg h4] at h ⊢
   rw [signR_L] at h ⊢
   cases hs:signL (c :: l) with
   | none => rw [hs] at h; cases h
   | some g => exact .inr (.inr (.inr (.inl ⟨rfl,by rw [bys_mk]; exact (signL_mem hs).1⟩)))
theorem lex_kinds {a:Nat} {l:List UInt8} {ts:List Tok} {p:Nat} {e:Int} (h:LexL a l ts p e):∀ t ∈ ts,KindOk t:=by
 induction h with
 | nil a => intro t ht; rw [List.mem_singleton.1 ht]; exact .inr (.inr (.inr (.inr ⟨rfl,bys_mk []⟩)))
 | blank _ _ ih => exact ih
 | bad _ _ => intro t ht; cases ht
 | @tok a c l r ts p e hb he hs _ ih =>
  intro t ht
  rcases List.mem_cons.1 ht with rfl | ht
  ·exact read_kind he a
  ·exact ih t ht
def Sg (s:ByteArray):Prop:=bys s ∈ wordsD ∨ bys s ∈ signsD
theorem words_bt:∀ x ∈ wordsD,letterB ((x[0]?.getD 0).toNat) = true:=by decide
theorem signs_bt:∀ x ∈ signsD,letterB ((x[0]?.getD 0).toNat) = false /\ (x[0]?.getD 0).toNat ≠ 63 /\ x ≠ []:=by decide
theorem name_bt {s:ByteArray} (h:nameB s = true):letterB (bt s 0) = true:=by
 unfold nameB at h
 simp only [Bool.or_eq_true] at h
 rcases h with (h | h) | h
 ·have:=check_bt h; revert this; unfold varB letterB smallB capB; simp; omega
 ·have:=check_bt h; revert this; unfold funB letterB smallB capB; simp; omega
 ·have:=check_bt h; revert this; unfold letterB; intro h; rw [h]; simp
theorem sg_kind {t:Tok} (h:KindOk t) {x:List UInt8} (hs:x ∈ wordsD ∨ x ∈ signsD) (he:bys t.t = x):t.k = 3 ∨ t.k = 4:=by
 have hb:bt t.t 0 = (x[0]?.getD 0).toNat:=by unfold bt; rw [he]
 rcases h with h | h | h | h | h
 ·exact .inl h.1
 ·exfalso
  have h2:=name_bt h.2.2
  rcases hs with hs | hs
  ·have:wordB t.t = true:=decide_eq_true (by rw [he]; exact hs)
   rw [h.2.1] at this; cases this
  ·rw [hb,(signs_bt x hs).1] at h2; cases h2
 ·exfalso
  have h2:=meta_bt h.2
  rw [hb] at h2
  rcases hs with hs | hs
  ·have:=words_bt x hs; rw [h2] at this; revert this; decide
  ·exact (signs_bt x hs).2.1 h2
 ·exact .inr h.1
 ·exfalso
  rw [h.2] at he
  subst he
  rcases hs with hs | hs
  ·revert hs; decide
  ·revert hs; decide
structure SlT' (z k o n c:Nat):Prop where
 ho:o = k * 3
 hn:n + k = z + 1
 hc:n <= c
 hk:k <= z
structure TkR (W:World) (g:Nat) (ts:List Tok) (z:Nat):Prop where
 tk:TK W g ts
 lt:g < W.heap.size
 ok:TsOk ts z
 kd:∀ t ∈ ts,KindOk t
theorem TkR.up {W W':World} {g:Nat} {ts:List Tok} {z:Nat} (h:TkR W g ts z) (hB:Below W.heap.size W W'):TkR W' g ts z:=⟨h.tk.turn (hB.block g h.lt),Nat.lt_of_lt_of_le h.lt hB.size,h.ok,h.kd⟩
theorem TkR.cells {W:World} {g:Nat} {ts:List Tok} {z k o n c:Nat} (h:TkR W g ts z) (hs:SlT' z k o n c):W.cell? ⟨g,o,none⟩ = some (.int .u8 (tkA ts k).k) /\ W.cell? ⟨g,o + 1,none⟩ = some (.string (tkA ts k).t) /\ KindOk (tkA ts k) /\ (tkA ts k).t.size <= 16384 /\ (0:Int) < (n:Int):=by
 have hg:=h.ok.get hs.hk
 have h1:=h.tk.c0 k _ hg
 have h2:=h.tk.c1 k _ hg
 rw [hs.ho]
 exact ⟨h1,h2,h.kd _ (List.mem_of_getElem? hg),(h.ok.ok k _ hg).2.2.1,by have:=hs.hn; have:=hs.hk; omega⟩
set_option maxRecDepth 100000 in
set_option maxHeartbeats 2000000 in
theorem rsg_call {w:World} {g:Nat} {ts:List Tok} {z k o n c:Nat} (hT:TkR w g ts z) (hS:SlT' z k o n c) (s:ByteArray) (hs:Sg s):Calls Tryz.prog 44 #[.slice (some ⟨g,o,none⟩) n c,.string s] w (RetC w (decide (txt ts k = bys s))):=by
 obtain ⟨c0,c1,hk,_,hn⟩:=hT.cells hS
 unfold txt
 obtain ⟨t,ht⟩:∃ t,t = tkA ts k:=⟨_,rfl⟩
 rw [<- ht] at c0 c1 hk ⊢
 have hsg:bys t.t = bys s -> t.k = 3 ∨ t.k = 4:=fun he => sg_kind hk hs he
 obtain ⟨kk,tt,pp⟩:=t
 simp only at c0 c1 hsg ⊢
 clear ht hk hT hS hs
 by_cases he:bys tt = bys s
 ·have hr:decide (bys tt = bys s) = true:=decide_eq_true he
  rw [hr]
  have e2:tt = s:=bys_inj.1 he
  have hkk:=hsg he
  subst e2
  clear hsg he hr
  have e:(tt.toList == tt.toList) = true:=by simp
  rcases hkk with rfl | rfl
  all_goals (
   go_enter Tryz.func44,Tryz.ntmps44
   go_wp2_with (fail)
   go_ret
   exact ⟨rfl,rfl⟩)
 ·have hr:decide (bys tt = bys s) = false:=decide_eq_false he
  rw [hr]
  have e:(tt.toList == s.toList) = false:=bytes_ne fun e => he (by rw [e])
  clear hsg he hr
  by_cases k3:kk = 3
  ·subst k3
   go_enter Tryz.func44,Tryz.ntmps44
   go_wp2_with (fail)
   go_ret
   exact ⟨rfl,rfl⟩
  by_cases k4:kk = 4
  ·subst k4
   clear k3
   go_enter Tryz.func44,Tryz.ntmps44
   go_wp2_with (fail)
   go_ret
   exact ⟨rfl,rfl⟩
  ·have n3:(kk == 3) = false:=by simpa using k3
   have n4:(kk == 4) = false:=by simpa using k4
   clear k3 k4
   go_enter Tryz.func44,Tryz.ntmps44
   go_wp2_with (fail)
   go_ret
   exact ⟨rfl,rfl⟩
theorem tm_meta {s:ByteArray} (h:metaB s = true):tmB s = checkB funB alnumB (rest1 s) /\ fmB s = checkB capB alnumB (rest1 s):=by
 unfold metaB at h
 have h1:decide (s.size <= 16) = true /\ prefB ⟨#[63]⟩ s = true:=by
  unfold fmB tmB at h
  simp only [Bool.or_eq_true,Bool.and_eq_true] at h
  rcases h with h | h
  ·exact h.1
  ·exact h.1
 unfold tmB fmB rest1
 rw [h1.1,h1.2]
 exact ⟨rfl,rfl⟩
set_option maxRecDepth 100000 in
set_option maxHeartbeats 2000000 in
theorem rmt_call {w:World} {g:Nat} {ts:List Tok} {z k o n c:Nat} (hT:TkR w g ts z) (hS:SlT' z k o n c):Calls Tryz.prog 65 #[.slice (some ⟨g,o,none⟩) n c] w (RetC w (isTM true ts k)):=by
 obtain ⟨c0,c1,hk,hz,hn⟩:=hT.cells hS
 have hc:=ofTerms_call w (tkA ts k).t (by have:maxLen = 9223372036854775807:=rfl; omega)
 have he:isTM true ts k = (decide ((tkA ts k).k = 2) && tmB (tkA ts k).t):=by
  unfold isTM
  by_cases h2:(tkA ts k).k = 2
  ·have hm:metaB (tkA ts k).t = true:=by
    rcases hk with h | h | h | h | h
    ·omega
    ·omega
    ·exact h.2
    ·omega
    ·omega
   rw [(tm_meta hm).1]; rfl
  ·simp [h2]
 rw [he]
 obtain ⟨q,hq⟩:∃ q,q = tmB (tkA ts k).t:=⟨_,rfl⟩
 obtain ⟨kk,hkk⟩:∃ q,q = (tkA ts k).k:=⟨_,rfl⟩
 obtain ⟨tt,htt⟩:∃ q,q = (tkA ts k).t:=⟨_,rfl⟩
 rw [<- hq] at hc ⊢
 rw [<- hkk] at c0 ⊢
 rw [<- htt] at c1 hc
 have HC:=Lib.hid hc
 clear hc he hk hz hT hS hq hkk htt
 by_cases h2:kk = 2
 ·subst h2
  go_enter Tryz.func65,Tryz.ntmps65
  go_wp2_with (go_at_call 102; ((with_reducible refine HC.out.mono ?_); rintro _ w2 ⟨rfl,rfl⟩))
  go_ret
  exact ⟨rfl,rfl⟩
 ·have n2:(kk == 2) = false:=by simpa using h2
  rw [decide_eq_false h2]
  clear h2
  go_enter Tryz.func65,Tryz.ntmps65
  go_wp2_with (fail)
  go_ret
  exact ⟨rfl,rfl⟩
set_option maxRecDepth 100000 in
set_option maxHeartbeats 2000000 in
theorem rmf_call {w:World} {g:Nat} {ts:List Tok} {z k o n c:Nat} (hT:TkR w g ts z) (hS:SlT' z k o n c):Calls Tryz.prog 142 #[.slice (some ⟨g,o,none⟩) n c] w (RetC w (isFM true ts k)):=by
 obtain ⟨c0,c1,hk,hz,hn⟩:=hT.cells hS
 have hc:=ofForms_call w (tkA ts k).t (by have:maxLen = 9223372036854775807:=rfl; omega)
 have he:isFM true ts k = (decide ((tkA ts k).k = 2) && fmB (tkA ts k).t):=by
  unfold isFM
  by_cases h2:(tkA ts k).k = 2
  ·have hm:metaB (tkA ts k).t = true:=by
    rcases hk with h | h | h | h | h
    ·omega
    ·omega
    ·exact h.2
    ·omega
    ·omega
   rw [(tm_meta hm).2]; rfl
  ·simp [h2]
 rw [he]
 obtain ⟨q,hq⟩:∃ q,q = fmB (tkA ts k).t:=⟨_,rfl⟩
 obtain ⟨kk,hkk⟩:∃ q,q = (tkA ts k).k:=⟨_,rfl⟩
 obtain ⟨tt,htt⟩:∃ q,q = (tkA ts k).t:=⟨_,rfl⟩
 rw [<- hq] at hc ⊢
 rw [<- hkk] at c0 ⊢
 rw [<- htt] at c1 hc
 have HC:=Lib.hid hc
 clear hc he hk hz hT hS hq hkk htt
 by_cases h2:kk = 2
 ·subst h2
  go_enter Tryz.func142,Tryz.ntmps142
  go_wp2_with (go_at_call 122; ((with_reducible refine HC.out.mono ?_); rintro _ w2 ⟨rfl,rfl⟩))
  go_ret
  exact ⟨rfl,rfl⟩
 ·have n2:(kk == 2) = false:=by simpa using h2
  rw [decide_eq_false h2]
  clear h2
  go_enter Tryz.func142,Tryz.ntmps142
  go_wp2_with (fail)
  go_ret
  exact ⟨rfl,rfl⟩
def opN (x:List UInt8):Nat:=(unO x).getD 0
theorem unO_sg {x:List UInt8} {op:Nat} (h:unO x = some op):x ∈ wordsD ∨ x ∈ signsD:=by
 unfold unO at h
 repeat' (split at h; · first | (rename_i e; rw [e]; decide) | (rename_i e; subst e; decide))
 cases h
set_option maxRecDepth 100000 in
set_option maxHeartbeats 4000000 in
theorem rop_call {w:World} {g:Nat} {ts:List Tok} {z k o n c:Nat} (hT:TkR w g ts z) (hS:SlT' z k o n c):Calls Tryz.prog 139 #[.slice (some ⟨g,o,none⟩) n c] w (fun e w' => e = .returned (.int .u8 (opN (txt ts k):Int)) /\ w = w'):=by
 obtain ⟨c0,c1,hk,_,hn⟩:=hT.cells hS
 unfold txt
 obtain ⟨t,ht⟩:∃ t,t = tkA ts k:=⟨_,rfl⟩
 rw [<- ht] at c0 c1 hk ⊢
 have hsg:∀ op,unO (bys t.t) = some op -> t.k = 3 ∨ t.k = 4:=fun op he => sg_kind hk (unO_sg he) rfl
 obtain ⟨kk,tt,pp⟩:=t
 simp only at c0 c1 hsg ⊢
 clear ht hk hT hS
 by_cases h0:tt = ⟨#[126]⟩
 ·subst h0
  have hkk:=hsg 3 (by decide)
  rw [show opN (bys (⟨#[126]⟩:ByteArray)) = 3 by decide]
  clear hsg
  rcases hkk with rfl | rfl
  all_goals (
   go_enter Tryz.func139,Tryz.ntmps139
   go_wp2_with (fail)
   go_ret
   exact ⟨rfl,rfl⟩)
 by_cases h1:tt = ⟨#[97,108,108]⟩
 ·subst h1
  have hkk:=hsg 8 (by decide)
  rw [show opN (bys (⟨#[97,108,108]⟩:ByteArray)) = 8 by decide]
  clear hsg
  rcases hkk with rfl | rfl
  all_goals (
   go_enter Tryz.func139,Tryz.ntmps139
   go_wp2_with (fail)
   go_ret
   exact ⟨rfl,rfl⟩)
 by_cases h2:tt = ⟨#[115,111,109,101]⟩
 ·subst h2
  have hkk:=hsg 9 (by decide)
  rw [show opN (bys (⟨#[115,111,109,101]⟩:ByteArray)) = 9 by decide]
  clear hsg
  rcases hkk with rfl | rfl
  all_goals (
   go_enter Tryz.func139,Tryz.ntmps139
   go_wp2_with (fail)
   go_ret
   exact ⟨rfl,rfl⟩)
 by_cases h3:tt = ⟨#[91,93]⟩
 ·subst h3
  have hkk:=hsg 10 (by decide)
  rw [show opN (bys (⟨#[91,93]⟩:ByteArray)) = 10 by decide]
  clear hsg
  rcases hkk with rfl | rfl
  all_goals (
   go_enter Tryz.func139,Tryz.ntmps139
   go_wp2_with (fail)
   go_ret
   exact ⟨rfl,rfl⟩)
 by_cases h4:tt = ⟨#[60,62]⟩
 ·subst h4
  have hkk:=hsg 11 (by decide)
  rw [show opN (bys (⟨#[60,62]⟩:ByteArray)) = 11 by decide]
  clear hsg
  rcases hkk with rfl | rfl
  all_goals (
   go_enter Tryz.func139,Tryz.ntmps139
   go_wp2_with (fail)
   go_ret
   exact ⟨rfl,rfl⟩)
 by_cases h5:tt = ⟨#[110,101,120,116]⟩
 ·subst h5
  have hkk:=hsg 12 (by decide)
  rw [show opN (bys (⟨#[110,101,120,116]⟩:ByteArray)) = 12 by decide]
  clear hsg
  rcases hkk with rfl | rfl
  all_goals (
   go_enter Tryz.func139,Tryz.ntmps139
   go_wp2_with (fail)
   go_ret
   exact ⟨rfl,rfl⟩)
 by_cases h6:tt = ⟨#[97,108,119,97,121,115]⟩
 ·subst h6
  have hkk:=hsg 13 (by decide)
  rw [show opN (bys (⟨#[97,108,119,97,121,115]⟩:ByteArray)) = 13 by decide]
  clear hsg
  rcases hkk with rfl | rfl
  all_goals (
   go_enter Tryz.func139,Tryz.ntmps139
   go_wp2_with (fail)
   go_ret
   exact ⟨rfl,rfl⟩)
 have hr:opN (bys tt) = 0:=by
  have hb:∀ (x:List UInt8),tt ≠ ⟨x.toArray⟩ -> bys tt ≠ x:=fun x hx e => hx (by rw [<- e]; cases tt; simp [bys])
  unfold opN unO
  rw [if_neg (hb _ h0),if_neg (hb _ h3),if_neg (hb _ h4),if_neg (hb _ h5),if_neg (hb _ h6),if_neg (hb _ h1),if_neg (hb _ h2)]
  rfl
 have n0:=bytes_ne h0
 rw [show (⟨#[126]⟩:ByteArray).toList = [126] by decide +kernel] at n0
 have n1:=bytes_ne h1
 rw [show (⟨#[97,108,108]⟩:ByteArray).toList = [97,108,108] by decide +kernel] at n1
 have n2:=bytes_ne h2
 rw [show (⟨#[115,111,109,101]⟩:ByteArray).toList = [115,111,109,101] by decide +kernel] at n2
 have n3:=bytes_ne h3
 rw [show (⟨#[91,93]⟩:ByteArray).toList = [91,93] by decide +kernel] at n3
 have n4:=bytes_ne h4
 rw [show (⟨#[60,62]⟩:ByteArray).toList = [60,62] by decide +kernel] at n4
 have n5:=bytes_ne h5
 rw [show (⟨#[110,101,120,116]⟩:ByteArray).toList = [110,101,120,116] by decide +kernel] at n5
 have n6:=bytes_ne h6
 rw [show (⟨#[97,108,119,97,121,115]⟩:ByteArray).toList = [97,108,119,97,121,115] by decide +kernel] at n6
 rw [hr]
 clear h0 h1 h2 h3 h4 h5 h6 hr hsg
 by_cases k3:kk = 3
 ·subst k3
  go_enter Tryz.func139,Tryz.ntmps139
  go_wp2_with (fail)
  go_ret
  exact ⟨rfl,rfl⟩
 by_cases k4:kk = 4
 ·subst k4
  clear k3
  go_enter Tryz.func139,Tryz.ntmps139
  go_wp2_with (fail)
  go_ret
  exact ⟨rfl,rfl⟩
 ·have e3:(kk == 3) = false:=by simpa using k3
  have e4:(kk == 4) = false:=by simpa using k4
  have e5:(kk != 3) = true:=by simpa using k3
  have e6:(kk != 4) = true:=by simpa using k4
  clear k3 k4
  go_enter Tryz.func139,Tryz.ntmps139
  go_wp2_with (fail)
  go_ret
  exact ⟨rfl,rfl⟩
set_option maxRecDepth 100000 in
set_option maxHeartbeats 2000000 in
theorem two_call (w:World) (op:Int) (po qo:Int) (pn qn:ByteArray) (pa pd qa qd:Option Addr) (pb pc pe pf qb qc qe qf:Nat):Calls Tryz.prog 76 #[.int .u8 op,.agg #[.int .u8 po,.string pn,.slice pa pb pc,.slice pd pe pf],.agg #[.int .u8 qo,.string qn,.slice qa qb qc,.slice qd qe qf]] w fun e w' => ∃ r,e = .returned (.agg #[.int .u8 op,.string ⟨#[]⟩,.slice none 0 0,.slice (some ⟨r,0,none⟩) 2 2]) /\ Below w.heap.size w w' /\ w.heap.size <= r /\ w'.heap[r]? = some (.cells #[.int .u8 po,.string pn,.slice pa pb pc,.slice pd pe pf,.int .u8 qo,.string qn,.slice qa qb qc,.slice qd qe qf] 28 (0,0)):=by
 have z:=HK.blk_cell (HK.blk_alloc (HK.blk_alloc (HK.blk_new w (.cells #[.int .u8 po,.string pn,.slice pa pb pc,.slice pd pe pf] 28)) (.cells #[.int .u8 qo,.string qn,.slice qa qb qc,.slice qd qe qf] 28)) (.cells #[.int .u8 0,.string ⟨#[]⟩,.slice none 0 0,.slice none 0 0] 28))
 have y:=HK.blk_cell (HK.blk_alloc (HK.blk_new (w.alloc (.cells #[.int .u8 po,.string pn,.slice pa pb pc,.slice pd pe pf] 28)) (.cells #[.int .u8 qo,.string qn,.slice qa qb qc,.slice qd qe qf] 28)) (.cells #[.int .u8 0,.string ⟨#[]⟩,.slice none 0 0,.slice none 0 0] 28))
 go_enter Tryz.func76,Tryz.ntmps76
 go_wp2_with (fail)
 have hres:(((((w.alloc (.cells #[.int .u8 po,.string pn,.slice pa pb pc,.slice pd pe pf] 28)).alloc (.cells #[.int .u8 qo,.string qn,.slice qa qb qc,.slice qd qe qf] 28)).alloc (.cells #[.int .u8 op,.string ⟨#[]⟩,.slice none 0 0,.slice (some ⟨w.heap.size + 1 + 1 + 1,0,none⟩) 2 2] 28)).alloc (.cells #[.int .u8 po,.string pn,.slice pa pb pc,.slice pd pe pf,.int .u8 qo,.string qn,.slice qa qb qc,.slice qd qe qf] 28)).heap[w.heap.size + 1 + 1]?) = some (.cells #[.int .u8 op,.string ⟨#[]⟩,.slice none 0 0,.slice (some ⟨w.heap.size + 1 + 1 + 1,0,none⟩) 2 2] 28 (0,0)):=by
  have:=HK.blk_alloc (HK.blk_new ((w.alloc (.cells #[.int .u8 po,.string pn,.slice pa pb pc,.slice pd pe pf] 28)).alloc (.cells #[.int .u8 qo,.string qn,.slice qa qb qc,.slice qd qe qf] 28)) (.cells #[.int .u8 op,.string ⟨#[]⟩,.slice none 0 0,.slice (some ⟨w.heap.size + 1 + 1 + 1,0,none⟩) 2 2] 28)) (.cells #[.int .u8 po,.string pn,.slice pa pb pc,.slice pd pe pf,.int .u8 qo,.string qn,.slice qa qb qc,.slice qd qe qf] 28)
  simpa using this
 refine bodyPost_ret (results_cell_row (p:=6) (ty:=28) (by kernel_rfl) _ _ (w.heap.size + 1 + 1) 28 _ (0,0) _ rfl hres Tryz.underlying28 rfl (by kernel_rfl)) rfl ?_
 refine ⟨w.heap.size + 1 + 1 + 1,rfl,((((Below.refl _ w).alloc (Nat.le_refl _) _).alloc (by simp) _).alloc (by simp; omega) _).alloc (by simp; omega) _,by omega,?_⟩
 have:=HK.blk_new (((w.alloc (.cells #[.int .u8 po,.string pn,.slice pa pb pc,.slice pd pe pf] 28)).alloc (.cells #[.int .u8 qo,.string qn,.slice qa qb qc,.slice qd qe qf] 28)).alloc (.cells #[.int .u8 op,.string ⟨#[]⟩,.slice none 0 0,.slice (some ⟨w.heap.size + 1 + 1 + 1,0,none⟩) 2 2] 28)) (.cells #[.int .u8 po,.string pn,.slice pa pb pc,.slice pd pe pf,.int .u8 qo,.string qn,.slice qa qb qc,.slice qd qe qf] 28)
 simpa using this
end Go.Proofs.YtdobflpbkfkmgaaGreatDoor
