import Derived.Test.YtdobflpbkfkmgaaGreatDoorMpo
import Derived.Test.YtdobflpbkfkmgaaGreatDoorMps
namespace Go.Proofs.YtdobflpbkfkmgaaGreatDoor
open Go.RowKit Go.HK Go.FR Lib
set_option linter.unusedVariables false
set_option linter.unusedSimpArgs false
set_option linter.unusedSectionVars false
theorem Up.below {lo lo':Nat} {W W' W2:World} (h:Up lo lo' W W') (hb:Below W'.heap.size W' W2):Up lo lo' W W2:=⟨h.le,Nat.le_trans h.size hb.size,fun k h1 h2 => (hb.block k (Nat.lt_of_lt_of_le h2 h.size)).trans (h.block k h1 h2)⟩
theorem load_sl {w:World} {g t:Nat} {a:Option Addr} {n c:Nat} (h:w.heap[g]? = some (.cells #[.slice a n c] t (0,0))):(loadVar 26 ⟨g,0,none⟩).run Tryz.prog w = .ok (.slice a n c) w:=by
 have c:=HK.blk_cell h 0
 simp [loadVar,go_sem,c,Tryz.underlying26]
def FsV (W:World) (lo:Nat) (l:List Fm) (v:Value):Prop:=∃ s:SL,v = s.v /\ IsFs (SL' lo W.heap.size) W s l
theorem FsV.turn {W W':World} {lo lo':Nat} {f:List Fm} {v:Value} (h:FsV W lo f v) (hF:Up lo lo' W W'):FsV W' lo' f v:=by
 obtain ⟨s,rfl,h1⟩:=h
 exact ⟨s,rfl,h1.turn hF.turn⟩
theorem lexT_any (W:World) (s:ByteArray) (hs:s.size <= 16384) (hG:Signs W) (ts:List Tok) (p:Nat) (hL:LexL 0 (bys s) ts p 0):Calls Tryz.prog 46 #[.string s] W fun E W' => Below W.heap.size W W' /\ ∃ g c,E = .returned (.tuple #[.slice (some ⟨g,0,none⟩) ts.length c,.int .i64 0,.int .i64 0]) /\ W.heap.size <= g /\ g < W'.heap.size /\ TK W' g ts:=by
 refine (lex_any W s hs hG ts p 0 hL).mono ?_
 rintro E W' ⟨hB,⟨_,v,rfl,hrow⟩ | ⟨h0,_⟩⟩
 ·have hz:0 < ts.length:=by
   have:=(tsok_of_lex (l:=bys s) hs hL).en.len; omega
  obtain ⟨g,c,rfl,h1,h2⟩:=own_form9 hrow hz
  exact ⟨hB,g,c,rfl,h1,h2,tk_of hrow⟩
 ·exact absurd rfl h0
theorem PSt.other {W:World} {B g c:Nat} {ts:List Tok} {z:Nat} {m:Bool} {k s:Nat} (h:PSt W B g c ts z m k s) {a:Addr} (h1:a.block ≠ B) (h2:a.block ≠ g) (h3:a.block ≠ 0) (v:Value):PSt (W.setCell a v) B g c ts z m k s :=
 ⟨(Below.heap_setCell _ _ _ _ h1.symm).trans h.pb,h.tk.turn (Below.heap_setCell _ _ _ _ h2.symm),h.lv.turn (Below.heap_setCell _ _ _ _ h3.symm),h.ne,by simpa using h.glt,h.hk,h.hs⟩
set_option maxRecDepth 100000 in
set_option maxHeartbeats 4000000 in
theorem readF_ok (w:World) (s:ByteArray) (m:Bool) (hs:s.size <= 16384) (hG:Signs w) (hV:IsLv w) (ts:List Tok) (p:Nat) (hL:LexL 0 (bys s) ts p 0) {n k:Nat} {f:Fm} (hr:run m ts n (.bin 0) 0 0 = some (.ok (.fm f) k)) (hk:(tkA ts k).k = 5) :
  Calls Tryz.prog 25 #[.string s,.bool m,.func (.func 26) #[] #[]] w fun E W' => Below w.heap.size w W' /\ ∃ v,E = .returned (.tuple #[v,.int .i64 0,.int .i64 0]) /\ FmV W' w.heap.size f v:=by
 have hT:=tsok_of_lex (l:=bys s) hs hL
 have HLX:Hid (∀ W,Signs W -> Calls Tryz.prog 46 #[.string s] W fun E W' => Below W.heap.size W W' /\ ∃ g c,E = .returned (.tuple #[.slice (some ⟨g,0,none⟩) ts.length c,.int .i64 0,.int .i64 0]) /\ W.heap.size <= g /\ g < W'.heap.size /\ TK W' g ts):=hid fun W hW => lexT_any W s hs hW ts p hL
 have HR:Hid (∀ (W:World) (B g c:Nat),PSt W B g c ts (ts.length - 1) m 0 0 -> Calls Tryz.prog 26 #[.pointer (some ⟨B,0,none⟩)] W fun E W' => FJ B W W' /\ ∃ (o8:Int) (nm:ByteArray) (aa:Option Addr) (an ac:Nat) (sa:Option Addr) (sn sc:Nat),E = .returned (.agg #[.int .u8 o8,.string nm,.slice aa an ac,.slice sa sn sc]) /\ FmV W' W.heap.size f (.agg #[.int .u8 o8,.string nm,.slice aa an ac,.slice sa sn sc]) /\ PSt W' B g c ts (ts.length - 1) m k 0):=hid fun W B g c h => (formula_any hT hr W h).mono fun E W' ⟨hF,⟨v,he,hv⟩,hP⟩ => by subst he; obtain ⟨a,s2,rfl,h1⟩:=hv; obtain ⟨aa,an,ac⟩:=a; obtain ⟨sa,sn,sc⟩:=s2; exact ⟨hF,_,_,_,_,_,_,_,_,rfl,⟨⟨aa,an,ac⟩,⟨sa,sn,sc⟩,rfl,h1⟩,hP⟩
 have HTK:Hid (∀ (W:World) (B g c:Nat),PSt W B g c ts (ts.length - 1) m k 0 -> Calls Tryz.prog 48 #[.pointer (some ⟨B,0,none⟩)] W fun E W' => E = .returned (.agg #[.int .u8 (tkA ts k).k,.string (tkA ts k).t,.int .i64 ((tkA ts k).p:Int)]) /\ Below W.heap.size W W'):=hid fun W B g c h => token_any hT h
 obtain ⟨tkp,htkp⟩:∃ x,x = (tkA ts k).p:=⟨_,rfl⟩
 obtain ⟨tkt,htkt⟩:∃ x,x = (tkA ts k).t:=⟨_,rfl⟩
 obtain ⟨tkk,htkk⟩:∃ x,x = (tkA ts k).k:=⟨_,rfl⟩
 rw [<- htkk] at hk
 simp only [<- htkp,<- htkt,<- htkk] at HTK ⊢
 have ek:(tkk != 5) = false:=by simp [hk]
 clear htkp htkt htkk hk
 have hmf:∀ (fn:Fn) (first cap:Array Value) (w:World),(Instr.makeFunc fn first cap).run Tryz.prog w = .ok (.func fn first cap) w:=fun _ _ _ _ => rfl
 have fl:=fld0
 have HG:=hid hG
 have HV:=hid hV
 have HZ:=hid (show 0 < ts.length by rw [hT.en.len]; omega)
 clear hG hV hL hs hT hr
 have m01:w.heap.size ≠ w.heap.size + 1:=by omega
 have m02:w.heap.size ≠ w.heap.size + 1 + 1:=by omega
 have m12:w.heap.size + 1 ≠ w.heap.size + 1 + 1:=by omega
 have M01:=hid m01
 have M02:=hid m02
 have M12:=hid m12
 clear m01 m02 m12
 go_enter_defers Tryz.func25,Tryz.ntmps25
 go_wp2_with (fail)
 go_at_call 46
 ((with_reducible refine (HLX.out _ (HG.out.below ((((Below.refl _ w).alloc (Nat.le_refl _) _).alloc (by simp) _).alloc (by simp; omega) _))).mono ?_); rintro E w1 ⟨hB,g,c,rfl,hg1,hg2,hTK⟩; have hb0:=(hB.block w.heap.size (by simp; omega)).trans (three_new w (.cells #[.int .u8 0,.string ⟨#[]⟩,.slice none 0 0,.slice none 0 0] 28) (.cells #[.int .i64 0] 3) (.cells #[.int .i64 0] 29)).1; have hb1:=(hB.block (w.heap.size + 1) (by simp)).trans (three_new w (.cells #[.int .u8 0,.string ⟨#[]⟩,.slice none 0 0,.slice none 0 0] 28) (.cells #[.int .i64 0] 3) (.cells #[.int .i64 0] 29)).2.1; have hb2:=(hB.block (w.heap.size + 1 + 1) (by simp)).trans (three_new w (.cells #[.int .u8 0,.string ⟨#[]⟩,.slice none 0 0,.slice none 0 0] 28) (.cells #[.int .i64 0] 3) (.cells #[.int .i64 0] 29)).2.2; have d0:=HK.blk_cell hb1 0; have e0:=HK.blk_cell hb2 0; have fd0:=HK.blk_frozen hb1 0; have fe0:=HK.blk_frozen hb2 0; have H0:=hid hb0; have H1:=hid hb1; have H2:=hid hb2; have HTK1:=hid hTK; have HGG:Hid (w.heap.size + 3 <= g /\ g < w1.heap.size):=hid ⟨by simpa using hg1,hg2⟩; have HBW:Hid (Below w.heap.size w w1):=hid (((((Below.refl _ w).alloc (Nat.le_refl _) (.cells #[.int .u8 0,.string ⟨#[]⟩,.slice none 0 0,.slice none 0 0] 28)).alloc (by simp) (.cells #[.int .i64 0] 3)).alloc (by simp; omega) (.cells #[.int .i64 0] 29)).trans (hB.mono (by simp; omega))); clear hb0 hb1 hb2 hB hg1 hg2 hTK)
 go_wp2_with (fail)
 have hPS:PSt (((w1.setCell ⟨w.heap.size + 1,0,none⟩ (.int .i64 0)).setCell ⟨w.heap.size + 1 + 1,0,none⟩ (.int .i64 0)).alloc (.cells #[.slice (some ⟨g,0,none⟩) ts.length c,.int .i64 0,.int .i64 0,.bool m] 84)) w1.heap.size g c ts (ts.length - 1) m 0 0:=by
  have hg:=HGG.out
  have hv1:=HV.out.pos
  refine ⟨?_,?_,?_,⟨by omega,by omega⟩,by simp; omega,by omega,by omega⟩
  ·have:=HK.blk_new ((w1.setCell ⟨w.heap.size + 1,0,none⟩ (.int .i64 0)).setCell ⟨w.heap.size + 1 + 1,0,none⟩ (.int .i64 0)) (.cells #[.slice (some ⟨g,0,none⟩) ts.length c,.int .i64 0,.int .i64 0,.bool m] 84)
   simpa using this
  ·exact HTK1.out.turn (by rw [Below.heap_alloc _ _ _ (by simp; omega),Below.heap_setCell _ _ _ _ (by show g ≠ w.heap.size + 1 + 1; omega),Below.heap_setCell _ _ _ _ (by show g ≠ w.heap.size + 1; omega)])
  ·exact (HV.out.turn (HBW.out.block 0 HV.out.pos)).turn (by rw [Below.heap_alloc _ _ _ (by simp; omega),Below.heap_setCell _ _ _ _ (by show 0 ≠ w.heap.size + 1 + 1; omega),Below.heap_setCell _ _ _ _ (by show 0 ≠ w.heap.size + 1; omega)])
 go_at_call 26
 with_reducible refine (HR.out _ _ g c hPS).mono ?_
 rintro E w4 ⟨hF,o8,nm,aa,an,ac,sa,sn,sc,rfl,hv,hP⟩
 have hl1:=HGG.out
 have hb0:=hF.heap (HK.blk_alloc (HK.blk_set_other (HK.blk_set_other H0.out (p:=⟨w.heap.size + 1,0,none⟩) M01.out (.int .i64 0)) (p:=⟨w.heap.size + 1 + 1,0,none⟩) M02.out (.int .i64 0)) _) (by omega)
 have hb1:=hF.heap (HK.blk_alloc (HK.blk_set_other (HK.blk_set H1.out 0 (.int .i64 0)) (p:=⟨w.heap.size + 1 + 1,0,none⟩) M12.out (.int .i64 0)) _) (by omega)
 have hb2:=hF.heap (HK.blk_alloc (HK.blk_set (HK.blk_set_other H2.out (p:=⟨w.heap.size + 1,0,none⟩) M12.out.symm (.int .i64 0)) 0 (.int .i64 0)) _) (by omega)
 have c0:=HK.blk_cell hb0 0
 have fc0:=HK.blk_frozen hb0 0
 have c1:=HK.blk_cell hb0 1
 have fc1:=HK.blk_frozen hb0 1
 have c2:=HK.blk_cell hb0 2
 have fc2:=HK.blk_frozen hb0 2
 have c3:=HK.blk_cell hb0 3
 have fc3:=HK.blk_frozen hb0 3
 have d0:=HK.blk_cell hb1 0
 have e0:=HK.blk_cell hb2 0
 have fd0:=HK.blk_frozen hb1 0
 have fe0:=HK.blk_frozen hb2 0
 have K0:=hid hb0
 have K1:=hid hb1
 have K2:=hid hb2
 have HF4:=hid hF
 have HVV:=hid hv
 have HNE:Hid (w.heap.size ≠ w1.heap.size /\ w.heap.size ≠ g /\ w.heap.size ≠ 0):=hid ⟨by omega,by omega,by have:=HV.out.pos; omega⟩
 have HP:=hid hP
 clear hb0 hb1 hb2 hF hv hP hl1 hPS
 go_wp2_with (fail)
 have hP5:=((((HP.out.other (a:=⟨w.heap.size,0,none⟩) HNE.out.1 HNE.out.2.1 HNE.out.2.2 (.int .u8 o8)).other (a:=⟨w.heap.size,1,none⟩) HNE.out.1 HNE.out.2.1 HNE.out.2.2 (.string nm)).other (a:=⟨w.heap.size,2,none⟩) HNE.out.1 HNE.out.2.1 HNE.out.2.2 (.slice aa an ac)).other (a:=⟨w.heap.size,3,none⟩) HNE.out.1 HNE.out.2.1 HNE.out.2.2 (.slice sa sn sc))
 go_at_call 48
 with_reducible refine (HTK.out _ _ g c hP5).mono ?_
 rintro E w6 ⟨rfl,hB6⟩
 have q0:=(pset4 K0.out (.int .u8 o8) (.string nm) (.slice aa an ac) (.slice sa sn sc))
 have q1:=(HK.blk_set_other (HK.blk_set_other (HK.blk_set_other (HK.blk_set_other K1.out (p:=⟨w.heap.size,0,none⟩) M01.out.symm (.int .u8 o8)) (p:=⟨w.heap.size,1,none⟩) M01.out.symm (.string nm)) (p:=⟨w.heap.size,2,none⟩) M01.out.symm (.slice aa an ac)) (p:=⟨w.heap.size,3,none⟩) M01.out.symm (.slice sa sn sc))
 have q2:=(HK.blk_set_other (HK.blk_set_other (HK.blk_set_other (HK.blk_set_other K2.out (p:=⟨w.heap.size,0,none⟩) M02.out.symm (.int .u8 o8)) (p:=⟨w.heap.size,1,none⟩) M02.out.symm (.string nm)) (p:=⟨w.heap.size,2,none⟩) M02.out.symm (.slice aa an ac)) (p:=⟨w.heap.size,3,none⟩) M02.out.symm (.slice sa sn sc))
 have hk0:=(hB6.block _ (HK.blk_lt q0)).trans q0
 have hk1:=(hB6.block _ (HK.blk_lt q1)).trans q1
 have hk2:=(hB6.block _ (HK.blk_lt q2)).trans q2
 have c0:=HK.blk_cell hk0 0
 have fc0:=HK.blk_frozen hk0 0
 have c1:=HK.blk_cell hk0 1
 have fc1:=HK.blk_frozen hk0 1
 have c2:=HK.blk_cell hk0 2
 have fc2:=HK.blk_frozen hk0 2
 have c3:=HK.blk_cell hk0 3
 have fc3:=HK.blk_frozen hk0 3
 have d0:=HK.blk_cell hk1 0
 have e0:=HK.blk_cell hk2 0
 have fd0:=HK.blk_frozen hk1 0
 have fe0:=HK.blk_frozen hk2 0
 have J0:=hid hk0
 have J1:=hid hk1
 have J2:=hid hk2
 have HB6:=hid hB6
 clear hP5 hB6 q0 q1 q2 hk0 hk1 hk2
 go_wp2_with (fail)
 refine leaves_cons (f:=47) (args:=#[.pointer (some ⟨w.heap.size,0,none⟩),.pointer (some ⟨w.heap.size + 1,0,none⟩),.pointer (some ⟨w.heap.size + 1 + 1,0,none⟩)]) (by simp) (by simp [go_sem]) ?_
 refine (catch_idle _ _ _ _).mono ?_
 rintro e9 u' w8 ⟨rfl,rfl,rfl⟩
 have g0:=HK.blk_alloc (HK.blk_set_other (HK.blk_set_other (pset4 J0.out (.int .u8 o8) (.string nm) (.slice aa an ac) (.slice sa sn sc)) (p:=⟨w.heap.size + 1,0,none⟩) M01.out (.int .i64 0)) (p:=⟨w.heap.size + 1 + 1,0,none⟩) M02.out (.int .i64 0)) (.cells #[.int .i64 0,.int .i64 0] 81)
 have g1:=HK.blk_alloc (HK.blk_set_other (HK.blk_set (HK.blk_set_other (HK.blk_set_other (HK.blk_set_other (HK.blk_set_other J1.out (p:=⟨w.heap.size,0,none⟩) M01.out.symm (.int .u8 o8)) (p:=⟨w.heap.size,1,none⟩) M01.out.symm (.string nm)) (p:=⟨w.heap.size,2,none⟩) M01.out.symm (.slice aa an ac)) (p:=⟨w.heap.size,3,none⟩) M01.out.symm (.slice sa sn sc)) 0 (.int .i64 0)) (p:=⟨w.heap.size + 1 + 1,0,none⟩) M12.out (.int .i64 0)) (.cells #[.int .i64 0,.int .i64 0] 81)
 have g2:=HK.blk_alloc (HK.blk_set (HK.blk_set_other (HK.blk_set_other (HK.blk_set_other (HK.blk_set_other (HK.blk_set_other J2.out (p:=⟨w.heap.size,0,none⟩) M02.out.symm (.int .u8 o8)) (p:=⟨w.heap.size,1,none⟩) M02.out.symm (.string nm)) (p:=⟨w.heap.size,2,none⟩) M02.out.symm (.slice aa an ac)) (p:=⟨w.heap.size,3,none⟩) M02.out.symm (.slice sa sn sc)) (p:=⟨w.heap.size + 1,0,none⟩) M12.out.symm (.int .i64 0)) 0 (.int .i64 0)) (.cells #[.int .i64 0,.int .i64 0] 81)
 refine ⟨_,results_cells3 (p:=6) (u:=7) (v:=8) (ty:=28) (tu:=3) (tv:=29) (by kernel_rfl) _ _ ⟨w.heap.size,0,none⟩ ⟨w.heap.size + 1,0,none⟩ ⟨w.heap.size + 1 + 1,0,none⟩ _ _ _ rfl rfl rfl (run_loadVar_row _ w.heap.size 28 28 _ (0,0) _ g0 Tryz.underlying28 rfl (by kernel_rfl)) (load_num 3 (.inl rfl) g1 ⟨_,rfl⟩) (load_num 29 (.inr rfl) g2 ⟨_,rfl⟩),?_⟩
 have hB4:Below w.heap.size w w4:=(((HBW.out.setCell (p:=⟨w.heap.size + 1,0,none⟩) (by simp) _).setCell (p:=⟨w.heap.size + 1 + 1,0,none⟩) (by show w.heap.size <= w.heap.size + 1 + 1; omega) _).alloc (by simp; have:=HBW.out.size; omega) _).trans (HF4.out.below (by simp; have:=HBW.out.size; omega) (fun k hk => by have:=HBW.out.size; omega))
 have hB5:=((((hB4.setCell (p:=⟨w.heap.size,0,none⟩) (Nat.le_refl _) (.int .u8 o8)).setCell (p:=⟨w.heap.size,1,none⟩) (Nat.le_refl _) (.string nm)).setCell (p:=⟨w.heap.size,2,none⟩) (Nat.le_refl _) (.slice aa an ac)).setCell (p:=⟨w.heap.size,3,none⟩) (Nat.le_refl _) (.slice sa sn sc))
 have hB6':=hB5.trans (HB6.out.mono (by simp; exact hB4.size))
 have hB7:=((((hB6'.setCell (p:=⟨w.heap.size,0,none⟩) (Nat.le_refl _) (.int .u8 o8)).setCell (p:=⟨w.heap.size,1,none⟩) (Nat.le_refl _) (.string nm)).setCell (p:=⟨w.heap.size,2,none⟩) (Nat.le_refl _) (.slice aa an ac)).setCell (p:=⟨w.heap.size,3,none⟩) (Nat.le_refl _) (.slice sa sn sc))
 have hB8:=((hB7.setCell (p:=⟨w.heap.size + 1,0,none⟩) (by simp) (.int .i64 0)).setCell (p:=⟨w.heap.size + 1 + 1,0,none⟩) (by show w.heap.size <= w.heap.size + 1 + 1; omega) (.int .i64 0)).alloc (by simp; exact hB6'.size) (.cells #[.int .i64 0,.int .i64 0] 81)
 refine ⟨hB8,_,rfl,HVV.out.turn ?_⟩
 have hl1:=HGG.out
 have u0:Up _ w.heap.size w4 w4:=⟨(by simp; omega:w.heap.size <= (((w1.setCell ⟨w.heap.size + 1,0,none⟩ (.int .i64 0)).setCell ⟨w.heap.size + 1 + 1,0,none⟩ (.int .i64 0)).alloc (.cells #[.slice (some ⟨g,0,none⟩) ts.length c,.int .i64 0,.int .i64 0,.bool m] 84)).heap.size),Nat.le_refl _,fun _ _ _ => rfl⟩
 have u1:=(((((u0.set (a:=⟨w.heap.size,0,none⟩) (by simp; omega) (.int .u8 o8)).set (a:=⟨w.heap.size,1,none⟩) (by simp; omega) (.string nm)).set (a:=⟨w.heap.size,2,none⟩) (by simp; omega) (.slice aa an ac)).set (a:=⟨w.heap.size,3,none⟩) (by simp; omega) (.slice sa sn sc))).below HB6.out
 exact ((((((u1.set (a:=⟨w.heap.size,0,none⟩) (by simp; omega) (.int .u8 o8)).set (a:=⟨w.heap.size,1,none⟩) (by simp; omega) (.string nm)).set (a:=⟨w.heap.size,2,none⟩) (by simp; omega) (.slice aa an ac)).set (a:=⟨w.heap.size,3,none⟩) (by simp; omega) (.slice sa sn sc)).set (a:=⟨w.heap.size + 1,0,none⟩) (by simp; omega) (.int .i64 0)).set (a:=⟨w.heap.size + 1 + 1,0,none⟩) (by simp; omega) (.int .i64 0)).alloc _
set_option maxRecDepth 100000 in
set_option maxHeartbeats 4000000 in
theorem readF_tail (w:World) (s:ByteArray) (m:Bool) (hs:s.size <= 16384) (hG:Signs w) (hV:IsLv w) (ts:List Tok) (p:Nat) (hL:LexL 0 (bys s) ts p 0) {n k:Nat} {f:Fm} (hr:run m ts n (.bin 0) 0 0 = some (.ok (.fm f) k)) (hk:(tkA ts k).k ≠ 5) :
  Calls Tryz.prog 25 #[.string s,.bool m,.func (.func 26) #[] #[]] w fun E W' => Below w.heap.size w W' /\ E = .returned (.tuple #[.agg #[.int .u8 0,.string ⟨#[]⟩,.slice none 0 0,.slice none 0 0],.int .i64 ((tkA ts k).p:Int),.int .i64 50]):=by
 have hT:=tsok_of_lex (l:=bys s) hs hL
 have HLX:Hid (∀ W,Signs W -> Calls Tryz.prog 46 #[.string s] W fun E W' => Below W.heap.size W W' /\ ∃ g c,E = .returned (.tuple #[.slice (some ⟨g,0,none⟩) ts.length c,.int .i64 0,.int .i64 0]) /\ W.heap.size <= g /\ g < W'.heap.size /\ TK W' g ts):=hid fun W hW => lexT_any W s hs hW ts p hL
 have HR:Hid (∀ (W:World) (B g c:Nat),PSt W B g c ts (ts.length - 1) m 0 0 -> Calls Tryz.prog 26 #[.pointer (some ⟨B,0,none⟩)] W fun E W' => FJ B W W' /\ ∃ (o8:Int) (nm:ByteArray) (aa:Option Addr) (an ac:Nat) (sa:Option Addr) (sn sc:Nat),E = .returned (.agg #[.int .u8 o8,.string nm,.slice aa an ac,.slice sa sn sc]) /\ FmV W' W.heap.size f (.agg #[.int .u8 o8,.string nm,.slice aa an ac,.slice sa sn sc]) /\ PSt W' B g c ts (ts.length - 1) m k 0):=hid fun W B g c h => (formula_any hT hr W h).mono fun E W' ⟨hF,⟨v,he,hv⟩,hP⟩ => by subst he; obtain ⟨a,s2,rfl,h1⟩:=hv; obtain ⟨aa,an,ac⟩:=a; obtain ⟨sa,sn,sc⟩:=s2; exact ⟨hF,_,_,_,_,_,_,_,_,rfl,⟨⟨aa,an,ac⟩,⟨sa,sn,sc⟩,rfl,h1⟩,hP⟩
 have HTK:Hid (∀ (W:World) (B g c:Nat),PSt W B g c ts (ts.length - 1) m k 0 -> Calls Tryz.prog 48 #[.pointer (some ⟨B,0,none⟩)] W fun E W' => E = .returned (.agg #[.int .u8 (tkA ts k).k,.string (tkA ts k).t,.int .i64 ((tkA ts k).p:Int)]) /\ Below W.heap.size W W'):=hid fun W B g c h => token_any hT h
 have HFL:Hid (∀ (W:World) (B g c:Nat),PSt W B g c ts (ts.length - 1) m k 0 -> Calls Tryz.prog 49 #[.pointer (some ⟨B,0,none⟩),.int .i64 50] W fun E W' => E = .panicked [{ v:=.iface 81 (.agg #[.int .i64 ((tkA ts k).p:Int),.int .i64 50]),recovered:=false }] /\ Below W.heap.size W W'):=hid fun W B g c h => fail_any hT h 50
 obtain ⟨tkp,htkp⟩:∃ x,x = (tkA ts k).p:=⟨_,rfl⟩
 obtain ⟨tkt,htkt⟩:∃ x,x = (tkA ts k).t:=⟨_,rfl⟩
 obtain ⟨tkk,htkk⟩:∃ x,x = (tkA ts k).k:=⟨_,rfl⟩
 rw [<- htkk] at hk
 simp only [<- htkp,<- htkt,<- htkk] at HTK HFL ⊢
 have ek:(tkk != 5) = true:=by simp [hk]
 clear htkp htkt htkk hk
 have hmf:∀ (fn:Fn) (first cap:Array Value) (w:World),(Instr.makeFunc fn first cap).run Tryz.prog w = .ok (.func fn first cap) w:=fun _ _ _ _ => rfl
 have fl:=fld0
 have HG:=hid hG
 have HV:=hid hV
 have HZ:=hid (show 0 < ts.length by rw [hT.en.len]; omega)
 clear hG hV hL hs hT hr
 have m01:w.heap.size ≠ w.heap.size + 1:=by omega
 have m02:w.heap.size ≠ w.heap.size + 1 + 1:=by omega
 have m12:w.heap.size + 1 ≠ w.heap.size + 1 + 1:=by omega
 have M01:=hid m01
 have M02:=hid m02
 have M12:=hid m12
 clear m01 m02 m12
 go_enter_defers Tryz.func25,Tryz.ntmps25
 go_wp2_with (fail)
 go_at_call 46
 ((with_reducible refine (HLX.out _ (HG.out.below ((((Below.refl _ w).alloc (Nat.le_refl _) _).alloc (by simp) _).alloc (by simp; omega) _))).mono ?_); rintro E w1 ⟨hB,g,c,rfl,hg1,hg2,hTK⟩; have hb0:=(hB.block w.heap.size (by simp; omega)).trans (three_new w (.cells #[.int .u8 0,.string ⟨#[]⟩,.slice none 0 0,.slice none 0 0] 28) (.cells #[.int .i64 0] 3) (.cells #[.int .i64 0] 29)).1; have hb1:=(hB.block (w.heap.size + 1) (by simp)).trans (three_new w (.cells #[.int .u8 0,.string ⟨#[]⟩,.slice none 0 0,.slice none 0 0] 28) (.cells #[.int .i64 0] 3) (.cells #[.int .i64 0] 29)).2.1; have hb2:=(hB.block (w.heap.size + 1 + 1) (by simp)).trans (three_new w (.cells #[.int .u8 0,.string ⟨#[]⟩,.slice none 0 0,.slice none 0 0] 28) (.cells #[.int .i64 0] 3) (.cells #[.int .i64 0] 29)).2.2; have d0:=HK.blk_cell hb1 0; have e0:=HK.blk_cell hb2 0; have fd0:=HK.blk_frozen hb1 0; have fe0:=HK.blk_frozen hb2 0; have H0:=hid hb0; have H1:=hid hb1; have H2:=hid hb2; have HTK1:=hid hTK; have HGG:Hid (w.heap.size + 3 <= g /\ g < w1.heap.size):=hid ⟨by simpa using hg1,hg2⟩; have HBW:Hid (Below w.heap.size w w1):=hid (((((Below.refl _ w).alloc (Nat.le_refl _) (.cells #[.int .u8 0,.string ⟨#[]⟩,.slice none 0 0,.slice none 0 0] 28)).alloc (by simp) (.cells #[.int .i64 0] 3)).alloc (by simp; omega) (.cells #[.int .i64 0] 29)).trans (hB.mono (by simp; omega))); clear hb0 hb1 hb2 hB hg1 hg2 hTK)
 go_wp2_with (fail)
 have hPS:PSt (((w1.setCell ⟨w.heap.size + 1,0,none⟩ (.int .i64 0)).setCell ⟨w.heap.size + 1 + 1,0,none⟩ (.int .i64 0)).alloc (.cells #[.slice (some ⟨g,0,none⟩) ts.length c,.int .i64 0,.int .i64 0,.bool m] 84)) w1.heap.size g c ts (ts.length - 1) m 0 0:=by
  have hg:=HGG.out
  have hv1:=HV.out.pos
  refine ⟨?_,?_,?_,⟨by omega,by omega⟩,by simp; omega,by omega,by omega⟩
  ·have:=HK.blk_new ((w1.setCell ⟨w.heap.size + 1,0,none⟩ (.int .i64 0)).setCell ⟨w.heap.size + 1 + 1,0,none⟩ (.int .i64 0)) (.cells #[.slice (some ⟨g,0,none⟩) ts.length c,.int .i64 0,.int .i64 0,.bool m] 84)
   simpa using this
  ·exact HTK1.out.turn (by rw [Below.heap_alloc _ _ _ (by simp; omega),Below.heap_setCell _ _ _ _ (by show g ≠ w.heap.size + 1 + 1; omega),Below.heap_setCell _ _ _ _ (by show g ≠ w.heap.size + 1; omega)])
  ·exact (HV.out.turn (HBW.out.block 0 HV.out.pos)).turn (by rw [Below.heap_alloc _ _ _ (by simp; omega),Below.heap_setCell _ _ _ _ (by show 0 ≠ w.heap.size + 1 + 1; omega),Below.heap_setCell _ _ _ _ (by show 0 ≠ w.heap.size + 1; omega)])
 go_at_call 26
 with_reducible refine (HR.out _ _ g c hPS).mono ?_
 rintro E w4 ⟨hF,o8,nm,aa,an,ac,sa,sn,sc,rfl,hv,hP⟩
 have hl1:=HGG.out
 have hb0:=hF.heap (HK.blk_alloc (HK.blk_set_other (HK.blk_set_other H0.out (p:=⟨w.heap.size + 1,0,none⟩) M01.out (.int .i64 0)) (p:=⟨w.heap.size + 1 + 1,0,none⟩) M02.out (.int .i64 0)) _) (by omega)
 have hb1:=hF.heap (HK.blk_alloc (HK.blk_set_other (HK.blk_set H1.out 0 (.int .i64 0)) (p:=⟨w.heap.size + 1 + 1,0,none⟩) M12.out (.int .i64 0)) _) (by omega)
 have hb2:=hF.heap (HK.blk_alloc (HK.blk_set (HK.blk_set_other H2.out (p:=⟨w.heap.size + 1,0,none⟩) M12.out.symm (.int .i64 0)) 0 (.int .i64 0)) _) (by omega)
 have c0:=HK.blk_cell hb0 0
 have fc0:=HK.blk_frozen hb0 0
 have c1:=HK.blk_cell hb0 1
 have fc1:=HK.blk_frozen hb0 1
 have c2:=HK.blk_cell hb0 2
 have fc2:=HK.blk_frozen hb0 2
 have c3:=HK.blk_cell hb0 3
 have fc3:=HK.blk_frozen hb0 3
 have d0:=HK.blk_cell hb1 0
 have e0:=HK.blk_cell hb2 0
 have fd0:=HK.blk_frozen hb1 0
 have fe0:=HK.blk_frozen hb2 0
 have K0:=hid hb0
 have K1:=hid hb1
 have K2:=hid hb2
 have HF4:=hid hF
 have HVV:=hid hv
 have HNE:Hid (w.heap.size ≠ w1.heap.size /\ w.heap.size ≠ g /\ w.heap.size ≠ 0):=hid ⟨by omega,by omega,by have:=HV.out.pos; omega⟩
 have HP:=hid hP
 clear hb0 hb1 hb2 hF hv hP hl1 hPS
 go_wp2_with (fail)
 have hP5:=((((HP.out.other (a:=⟨w.heap.size,0,none⟩) HNE.out.1 HNE.out.2.1 HNE.out.2.2 (.int .u8 o8)).other (a:=⟨w.heap.size,1,none⟩) HNE.out.1 HNE.out.2.1 HNE.out.2.2 (.string nm)).other (a:=⟨w.heap.size,2,none⟩) HNE.out.1 HNE.out.2.1 HNE.out.2.2 (.slice aa an ac)).other (a:=⟨w.heap.size,3,none⟩) HNE.out.1 HNE.out.2.1 HNE.out.2.2 (.slice sa sn sc))
 go_at_call 48
 with_reducible refine (HTK.out _ _ g c hP5).mono ?_
 rintro E w6 ⟨rfl,hB6⟩
 have q0:=(pset4 K0.out (.int .u8 o8) (.string nm) (.slice aa an ac) (.slice sa sn sc))
 have q1:=(HK.blk_set_other (HK.blk_set_other (HK.blk_set_other (HK.blk_set_other K1.out (p:=⟨w.heap.size,0,none⟩) M01.out.symm (.int .u8 o8)) (p:=⟨w.heap.size,1,none⟩) M01.out.symm (.string nm)) (p:=⟨w.heap.size,2,none⟩) M01.out.symm (.slice aa an ac)) (p:=⟨w.heap.size,3,none⟩) M01.out.symm (.slice sa sn sc))
 have q2:=(HK.blk_set_other (HK.blk_set_other (HK.blk_set_other (HK.blk_set_other K2.out (p:=⟨w.heap.size,0,none⟩) M02.out.symm (.int .u8 o8)) (p:=⟨w.heap.size,1,none⟩) M02.out.symm (.string nm)) (p:=⟨w.heap.size,2,none⟩) M02.out.symm (.slice aa an ac)) (p:=⟨w.heap.size,3,none⟩) M02.out.symm (.slice sa sn sc))
 have hk0:=(hB6.block _ (HK.blk_lt q0)).trans q0
 have hk1:=(hB6.block _ (HK.blk_lt q1)).trans q1
 have hk2:=(hB6.block _ (HK.blk_lt q2)).trans q2
 have c0:=HK.blk_cell hk0 0
 have fc0:=HK.blk_frozen hk0 0
 have c1:=HK.blk_cell hk0 1
 have fc1:=HK.blk_frozen hk0 1
 have c2:=HK.blk_cell hk0 2
 have fc2:=HK.blk_frozen hk0 2
 have c3:=HK.blk_cell hk0 3
 have fc3:=HK.blk_frozen hk0 3
 have d0:=HK.blk_cell hk1 0
 have e0:=HK.blk_cell hk2 0
 have fd0:=HK.blk_frozen hk1 0
 have fe0:=HK.blk_frozen hk2 0
 have J0:=hid hk0
 have J1:=hid hk1
 have J2:=hid hk2
 have HB6:=hid hB6
 have hP6:=hP5.below hB6
 clear hP5 hB6 q0 q1 q2 hk0 hk1 hk2
 go_wp2_with (fail)
 go_at_call 49
 with_reducible refine (HFL.out _ _ g c hP6).mono ?_
 rintro E w7 ⟨rfl,hB7⟩
 have hB4:Below w.heap.size w w4:=(((HBW.out.setCell (p:=⟨w.heap.size + 1,0,none⟩) (by simp) _).setCell (p:=⟨w.heap.size + 1 + 1,0,none⟩) (by show w.heap.size <= w.heap.size + 1 + 1; omega) _).alloc (by simp; have:=HBW.out.size; omega) _).trans (HF4.out.below (by simp; have:=HBW.out.size; omega) (fun k hk => by have:=HBW.out.size; omega))
 have hB5:=((((hB4.setCell (p:=⟨w.heap.size,0,none⟩) (Nat.le_refl _) (.int .u8 o8)).setCell (p:=⟨w.heap.size,1,none⟩) (Nat.le_refl _) (.string nm)).setCell (p:=⟨w.heap.size,2,none⟩) (Nat.le_refl _) (.slice aa an ac)).setCell (p:=⟨w.heap.size,3,none⟩) (Nat.le_refl _) (.slice sa sn sc))
 have hB6':=hB5.trans (HB6.out.mono (by simp; exact hB4.size))
 have hB7':=hB6'.trans (hB7.mono hB6'.size)
 have l0:=(hB7.block _ (HK.blk_lt J0.out)).trans J0.out
 have l1:=(hB7.block _ (HK.blk_lt J1.out)).trans J1.out
 have l2:=(hB7.block _ (HK.blk_lt J2.out)).trans J2.out
 refine leaves_cons (f:=47) (args:=#[.pointer (some ⟨w.heap.size,0,none⟩),.pointer (some ⟨w.heap.size + 1,0,none⟩),.pointer (some ⟨w.heap.size + 1 + 1,0,none⟩)]) (by simp) (by simp [go_sem]) ?_
 refine (catch_fail _ _ _ (tkp:Int) 50 [] w7 _ _ _ _ _ _ l0 l1 l2 M01.out M02.out M12.out).mono ?_
 rintro e9 u' w8 ⟨rfl,rfl,g0,g1,g2,hF8⟩
 refine ⟨_,results_cells3 (p:=6) (u:=7) (v:=8) (ty:=28) (tu:=3) (tv:=29) (by kernel_rfl) _ _ ⟨w.heap.size,0,none⟩ ⟨w.heap.size + 1,0,none⟩ ⟨w.heap.size + 1 + 1,0,none⟩ _ _ _ rfl rfl rfl (run_loadVar_row _ w.heap.size 28 28 _ (0,0) _ g0 Tryz.underlying28 rfl (by kernel_rfl)) (load_num 3 (.inl rfl) g1 ⟨_,rfl⟩) (load_num 29 (.inr rfl) g2 ⟨_,rfl⟩),?_⟩
 refine ⟨?_,rfl⟩
 exact (hB7').trans (hF8.below (hB7'.size) (fun k hk => by rcases hk with rfl | rfl | rfl <;> omega))
set_option maxRecDepth 100000 in
set_option maxHeartbeats 4000000 in
theorem readF_bad (w:World) (s:ByteArray) (m:Bool) (hs:s.size <= 16384) (hG:Signs w) (hV:IsLv w) (ts:List Tok) (p:Nat) (hL:LexL 0 (bys s) ts p 0) {n k:Nat} {e:Nat} (hr:run m ts n (.bin 0) 0 0 = some (.bad k e)) :
  Calls Tryz.prog 25 #[.string s,.bool m,.func (.func 26) #[] #[]] w fun E W' => Below w.heap.size w W' /\ E = .returned (.tuple #[.agg #[.int .u8 0,.string ⟨#[]⟩,.slice none 0 0,.slice none 0 0],.int .i64 ((tkA ts k).p:Int),.int .i64 (e:Int)]):=by
 have hT:=tsok_of_lex (l:=bys s) hs hL
 have HLX:Hid (∀ W,Signs W -> Calls Tryz.prog 46 #[.string s] W fun E W' => Below W.heap.size W W' /\ ∃ g c,E = .returned (.tuple #[.slice (some ⟨g,0,none⟩) ts.length c,.int .i64 0,.int .i64 0]) /\ W.heap.size <= g /\ g < W'.heap.size /\ TK W' g ts):=hid fun W hW => lexT_any W s hs hW ts p hL
 have HR:Hid (∀ (W:World) (B g c:Nat),PSt W B g c ts (ts.length - 1) m 0 0 -> Calls Tryz.prog 26 #[.pointer (some ⟨B,0,none⟩)] W fun E W' => FJ B W W' /\ E = .panicked [{ v:=.iface 81 (.agg #[.int .i64 ((tkA ts k).p:Int),.int .i64 (e:Int)]),recovered:=false }]):=hid fun W B g c h => formula_any hT hr W h
 obtain ⟨tkp,htkp⟩:∃ x,x = (tkA ts k).p:=⟨_,rfl⟩
 simp only [<- htkp] at HR ⊢
 clear htkp
 have hmf:∀ (fn:Fn) (first cap:Array Value) (w:World),(Instr.makeFunc fn first cap).run Tryz.prog w = .ok (.func fn first cap) w:=fun _ _ _ _ => rfl
 have fl:=fld0
 have HG:=hid hG
 have HV:=hid hV
 have HZ:=hid (show 0 < ts.length by rw [hT.en.len]; omega)
 clear hG hV hL hs hT hr
 have m01:w.heap.size ≠ w.heap.size + 1:=by omega
 have m02:w.heap.size ≠ w.heap.size + 1 + 1:=by omega
 have m12:w.heap.size + 1 ≠ w.heap.size + 1 + 1:=by omega
 have M01:=hid m01
 have M02:=hid m02
 have M12:=hid m12
 clear m01 m02 m12
 go_enter_defers Tryz.func25,Tryz.ntmps25
 go_wp2_with (fail)
 go_at_call 46
 ((with_reducible refine (HLX.out _ (HG.out.below ((((Below.refl _ w).alloc (Nat.le_refl _) _).alloc (by simp) _).alloc (by simp; omega) _))).mono ?_); rintro E w1 ⟨hB,g,c,rfl,hg1,hg2,hTK⟩; have hb0:=(hB.block w.heap.size (by simp; omega)).trans (three_new w (.cells #[.int .u8 0,.string ⟨#[]⟩,.slice none 0 0,.slice none 0 0] 28) (.cells #[.int .i64 0] 3) (.cells #[.int .i64 0] 29)).1; have hb1:=(hB.block (w.heap.size + 1) (by simp)).trans (three_new w (.cells #[.int .u8 0,.string ⟨#[]⟩,.slice none 0 0,.slice none 0 0] 28) (.cells #[.int .i64 0] 3) (.cells #[.int .i64 0] 29)).2.1; have hb2:=(hB.block (w.heap.size + 1 + 1) (by simp)).trans (three_new w (.cells #[.int .u8 0,.string ⟨#[]⟩,.slice none 0 0,.slice none 0 0] 28) (.cells #[.int .i64 0] 3) (.cells #[.int .i64 0] 29)).2.2; have d0:=HK.blk_cell hb1 0; have e0:=HK.blk_cell hb2 0; have fd0:=HK.blk_frozen hb1 0; have fe0:=HK.blk_frozen hb2 0; have H0:=hid hb0; have H1:=hid hb1; have H2:=hid hb2; have HTK1:=hid hTK; have HGG:Hid (w.heap.size + 3 <= g /\ g < w1.heap.size):=hid ⟨by simpa using hg1,hg2⟩; have HBW:Hid (Below w.heap.size w w1):=hid (((((Below.refl _ w).alloc (Nat.le_refl _) (.cells #[.int .u8 0,.string ⟨#[]⟩,.slice none 0 0,.slice none 0 0] 28)).alloc (by simp) (.cells #[.int .i64 0] 3)).alloc (by simp; omega) (.cells #[.int .i64 0] 29)).trans (hB.mono (by simp; omega))); clear hb0 hb1 hb2 hB hg1 hg2 hTK)
 go_wp2_with (fail)
 have hPS:PSt (((w1.setCell ⟨w.heap.size + 1,0,none⟩ (.int .i64 0)).setCell ⟨w.heap.size + 1 + 1,0,none⟩ (.int .i64 0)).alloc (.cells #[.slice (some ⟨g,0,none⟩) ts.length c,.int .i64 0,.int .i64 0,.bool m] 84)) w1.heap.size g c ts (ts.length - 1) m 0 0:=by
  have hg:=HGG.out
  have hv1:=HV.out.pos
  refine ⟨?_,?_,?_,⟨by omega,by omega⟩,by simp; omega,by omega,by omega⟩
  ·have:=HK.blk_new ((w1.setCell ⟨w.heap.size + 1,0,none⟩ (.int .i64 0)).setCell ⟨w.heap.size + 1 + 1,0,none⟩ (.int .i64 0)) (.cells #[.slice (some ⟨g,0,none⟩) ts.length c,.int .i64 0,.int .i64 0,.bool m] 84)
   simpa using this
  ·exact HTK1.out.turn (by rw [Below.heap_alloc _ _ _ (by simp; omega),Below.heap_setCell _ _ _ _ (by show g ≠ w.heap.size + 1 + 1; omega),Below.heap_setCell _ _ _ _ (by show g ≠ w.heap.size + 1; omega)])
  ·exact (HV.out.turn (HBW.out.block 0 HV.out.pos)).turn (by rw [Below.heap_alloc _ _ _ (by simp; omega),Below.heap_setCell _ _ _ _ (by show 0 ≠ w.heap.size + 1 + 1; omega),Below.heap_setCell _ _ _ _ (by show 0 ≠ w.heap.size + 1; omega)])
 go_at_call 26
 with_reducible refine (HR.out _ _ g c hPS).mono ?_
 rintro E w4 ⟨hF,rfl⟩
 have hl1:=HGG.out
 have hb0:=hF.heap (HK.blk_alloc (HK.blk_set_other (HK.blk_set_other H0.out (p:=⟨w.heap.size + 1,0,none⟩) M01.out (.int .i64 0)) (p:=⟨w.heap.size + 1 + 1,0,none⟩) M02.out (.int .i64 0)) _) (by omega)
 have hb1:=hF.heap (HK.blk_alloc (HK.blk_set_other (HK.blk_set H1.out 0 (.int .i64 0)) (p:=⟨w.heap.size + 1 + 1,0,none⟩) M12.out (.int .i64 0)) _) (by omega)
 have hb2:=hF.heap (HK.blk_alloc (HK.blk_set (HK.blk_set_other H2.out (p:=⟨w.heap.size + 1,0,none⟩) M12.out.symm (.int .i64 0)) 0 (.int .i64 0)) _) (by omega)
 have HF4:=hid hF
 have hB4:Below w.heap.size w w4:=(((HBW.out.setCell (p:=⟨w.heap.size + 1,0,none⟩) (by simp) _).setCell (p:=⟨w.heap.size + 1 + 1,0,none⟩) (by show w.heap.size <= w.heap.size + 1 + 1; omega) _).alloc (by simp; have:=HBW.out.size; omega) _).trans (HF4.out.below (by simp; have:=HBW.out.size; omega) (fun k hk => by have:=HBW.out.size; omega))
 refine leaves_cons (f:=47) (args:=#[.pointer (some ⟨w.heap.size,0,none⟩),.pointer (some ⟨w.heap.size + 1,0,none⟩),.pointer (some ⟨w.heap.size + 1 + 1,0,none⟩)]) (by simp) (by simp [go_sem]) ?_
 refine (catch_fail _ _ _ (tkp:Int) (e:Int) [] w4 _ _ _ _ _ _ hb0 hb1 hb2 M01.out M02.out M12.out).mono ?_
 rintro e9 u' w8 ⟨rfl,rfl,g0,g1,g2,hF8⟩
 refine ⟨_,results_cells3 (p:=6) (u:=7) (v:=8) (ty:=28) (tu:=3) (tv:=29) (by kernel_rfl) _ _ ⟨w.heap.size,0,none⟩ ⟨w.heap.size + 1,0,none⟩ ⟨w.heap.size + 1 + 1,0,none⟩ _ _ _ rfl rfl rfl (run_loadVar_row _ w.heap.size 28 28 _ (0,0) _ g0 Tryz.underlying28 rfl (by kernel_rfl)) (load_num 3 (.inl rfl) g1 ⟨_,rfl⟩) (load_num 29 (.inr rfl) g2 ⟨_,rfl⟩),?_⟩
 refine ⟨?_,rfl⟩
 exact (hB4).trans (hF8.below (hB4.size) (fun k hk => by rcases hk with rfl | rfl | rfl <;> omega))
end Go.Proofs.YtdobflpbkfkmgaaGreatDoor
namespace Go.Proofs.YtdobflpbkfkmgaaGreatDoor
open Go.RowKit Go.HK Go.FR Lib
set_option linter.unusedVariables false
set_option linter.unusedSimpArgs false
set_option linter.unusedSectionVars false
set_option maxRecDepth 100000 in
set_option maxHeartbeats 4000000 in
theorem readT_ok (w:World) (s:ByteArray) (m:Bool) (hs:s.size <= 16384) (hG:Signs w) (hV:IsLv w) (ts:List Tok) (p:Nat) (hL:LexL 0 (bys s) ts p 0) {n k:Nat} {f:Tm} (hr:run m ts n .term 0 0 = some (.ok (.t f) k)) (hk:(tkA ts k).k = 5) :
  Calls Tryz.prog 30 #[.string s,.bool m,.func (.func 31) #[] #[]] w fun E W' => Below w.heap.size w W' /\ ∃ v,E = .returned (.tuple #[v,.int .i64 0,.int .i64 0]) /\ TmV W' w.heap.size f v:=by
 have hT:=tsok_of_lex (l:=bys s) hs hL
 have HLX:Hid (∀ W,Signs W -> Calls Tryz.prog 46 #[.string s] W fun E W' => Below W.heap.size W W' /\ ∃ g c,E = .returned (.tuple #[.slice (some ⟨g,0,none⟩) ts.length c,.int .i64 0,.int .i64 0]) /\ W.heap.size <= g /\ g < W'.heap.size /\ TK W' g ts):=hid fun W hW => lexT_any W s hs hW ts p hL
 have HR:Hid (∀ (W:World) (B g c:Nat),PSt W B g c ts (ts.length - 1) m 0 0 -> Calls Tryz.prog 31 #[.pointer (some ⟨B,0,none⟩)] W fun E W' => FJ B W W' /\ ∃ (o8:Bool) (nm:ByteArray) (aa:Option Addr) (an ac:Nat),E = .returned (.agg #[.bool o8,.string nm,.slice aa an ac]) /\ TmV W' W.heap.size f (.agg #[.bool o8,.string nm,.slice aa an ac]) /\ PSt W' B g c ts (ts.length - 1) m k 0):=hid fun W B g c h => (term_any hT hr W h).mono fun E W' ⟨hF,⟨v,he,hv⟩,hP⟩ => by subst he; obtain ⟨a,rfl,h1⟩:=hv; obtain ⟨aa,an,ac⟩:=a; exact ⟨hF,_,_,_,_,_,rfl,⟨⟨aa,an,ac⟩,rfl,h1⟩,hP⟩
 have HTK:Hid (∀ (W:World) (B g c:Nat),PSt W B g c ts (ts.length - 1) m k 0 -> Calls Tryz.prog 48 #[.pointer (some ⟨B,0,none⟩)] W fun E W' => E = .returned (.agg #[.int .u8 (tkA ts k).k,.string (tkA ts k).t,.int .i64 ((tkA ts k).p:Int)]) /\ Below W.heap.size W W'):=hid fun W B g c h => token_any hT h
 obtain ⟨tkp,htkp⟩:∃ x,x = (tkA ts k).p:=⟨_,rfl⟩
 obtain ⟨tkt,htkt⟩:∃ x,x = (tkA ts k).t:=⟨_,rfl⟩
 obtain ⟨tkk,htkk⟩:∃ x,x = (tkA ts k).k:=⟨_,rfl⟩
 rw [<- htkk] at hk
 simp only [<- htkp,<- htkt,<- htkk] at HTK ⊢
 have ek:(tkk != 5) = false:=by simp [hk]
 clear htkp htkt htkk hk
 have hmf:∀ (fn:Fn) (first cap:Array Value) (w:World),(Instr.makeFunc fn first cap).run Tryz.prog w = .ok (.func fn first cap) w:=fun _ _ _ _ => rfl
 have fl:=fld0
 have HG:=hid hG
 have HV:=hid hV
 have HZ:=hid (show 0 < ts.length by rw [hT.en.len]; omega)
 clear hG hV hL hs hT hr
 have m01:w.heap.size ≠ w.heap.size + 1:=by omega
 have m02:w.heap.size ≠ w.heap.size + 1 + 1:=by omega
 have m12:w.heap.size + 1 ≠ w.heap.size + 1 + 1:=by omega
 have M01:=hid m01
 have M02:=hid m02
 have M12:=hid m12
 clear m01 m02 m12
 go_enter_defers Tryz.func30,Tryz.ntmps30
 go_wp2_with (fail)
 go_at_call 46
 ((with_reducible refine (HLX.out _ (HG.out.below ((((Below.refl _ w).alloc (Nat.le_refl _) _).alloc (by simp) _).alloc (by simp; omega) _))).mono ?_); rintro E w1 ⟨hB,g,c,rfl,hg1,hg2,hTK⟩; have hb0:=(hB.block w.heap.size (by simp; omega)).trans (three_new w (.cells #[.bool false,.string ⟨#[]⟩,.slice none 0 0] 36) (.cells #[.int .i64 0] 3) (.cells #[.int .i64 0] 29)).1; have hb1:=(hB.block (w.heap.size + 1) (by simp)).trans (three_new w (.cells #[.bool false,.string ⟨#[]⟩,.slice none 0 0] 36) (.cells #[.int .i64 0] 3) (.cells #[.int .i64 0] 29)).2.1; have hb2:=(hB.block (w.heap.size + 1 + 1) (by simp)).trans (three_new w (.cells #[.bool false,.string ⟨#[]⟩,.slice none 0 0] 36) (.cells #[.int .i64 0] 3) (.cells #[.int .i64 0] 29)).2.2; have d0:=HK.blk_cell hb1 0; have e0:=HK.blk_cell hb2 0; have fd0:=HK.blk_frozen hb1 0; have fe0:=HK.blk_frozen hb2 0; have H0:=hid hb0; have H1:=hid hb1; have H2:=hid hb2; have HTK1:=hid hTK; have HGG:Hid (w.heap.size + 3 <= g /\ g < w1.heap.size):=hid ⟨by simpa using hg1,hg2⟩; have HBW:Hid (Below w.heap.size w w1):=hid (((((Below.refl _ w).alloc (Nat.le_refl _) (.cells #[.bool false,.string ⟨#[]⟩,.slice none 0 0] 36)).alloc (by simp) (.cells #[.int .i64 0] 3)).alloc (by simp; omega) (.cells #[.int .i64 0] 29)).trans (hB.mono (by simp; omega))); clear hb0 hb1 hb2 hB hg1 hg2 hTK)
 go_wp2_with (fail)
 have hPS:PSt (((w1.setCell ⟨w.heap.size + 1,0,none⟩ (.int .i64 0)).setCell ⟨w.heap.size + 1 + 1,0,none⟩ (.int .i64 0)).alloc (.cells #[.slice (some ⟨g,0,none⟩) ts.length c,.int .i64 0,.int .i64 0,.bool m] 84)) w1.heap.size g c ts (ts.length - 1) m 0 0:=by
  have hg:=HGG.out
  have hv1:=HV.out.pos
  refine ⟨?_,?_,?_,⟨by omega,by omega⟩,by simp; omega,by omega,by omega⟩
  ·have:=HK.blk_new ((w1.setCell ⟨w.heap.size + 1,0,none⟩ (.int .i64 0)).setCell ⟨w.heap.size + 1 + 1,0,none⟩ (.int .i64 0)) (.cells #[.slice (some ⟨g,0,none⟩) ts.length c,.int .i64 0,.int .i64 0,.bool m] 84)
   simpa using this
  ·exact HTK1.out.turn (by rw [Below.heap_alloc _ _ _ (by simp; omega),Below.heap_setCell _ _ _ _ (by show g ≠ w.heap.size + 1 + 1; omega),Below.heap_setCell _ _ _ _ (by show g ≠ w.heap.size + 1; omega)])
  ·exact (HV.out.turn (HBW.out.block 0 HV.out.pos)).turn (by rw [Below.heap_alloc _ _ _ (by simp; omega),Below.heap_setCell _ _ _ _ (by show 0 ≠ w.heap.size + 1 + 1; omega),Below.heap_setCell _ _ _ _ (by show 0 ≠ w.heap.size + 1; omega)])
 go_at_call 31
 with_reducible refine (HR.out _ _ g c hPS).mono ?_
 rintro E w4 ⟨hF,o8,nm,aa,an,ac,rfl,hv,hP⟩
 have hl1:=HGG.out
 have hb0:=hF.heap (HK.blk_alloc (HK.blk_set_other (HK.blk_set_other H0.out (p:=⟨w.heap.size + 1,0,none⟩) M01.out (.int .i64 0)) (p:=⟨w.heap.size + 1 + 1,0,none⟩) M02.out (.int .i64 0)) _) (by omega)
 have hb1:=hF.heap (HK.blk_alloc (HK.blk_set_other (HK.blk_set H1.out 0 (.int .i64 0)) (p:=⟨w.heap.size + 1 + 1,0,none⟩) M12.out (.int .i64 0)) _) (by omega)
 have hb2:=hF.heap (HK.blk_alloc (HK.blk_set (HK.blk_set_other H2.out (p:=⟨w.heap.size + 1,0,none⟩) M12.out.symm (.int .i64 0)) 0 (.int .i64 0)) _) (by omega)
 have c0:=HK.blk_cell hb0 0
 have fc0:=HK.blk_frozen hb0 0
 have c1:=HK.blk_cell hb0 1
 have fc1:=HK.blk_frozen hb0 1
 have c2:=HK.blk_cell hb0 2
 have fc2:=HK.blk_frozen hb0 2
 have d0:=HK.blk_cell hb1 0
 have e0:=HK.blk_cell hb2 0
 have fd0:=HK.blk_frozen hb1 0
 have fe0:=HK.blk_frozen hb2 0
 have K0:=hid hb0
 have K1:=hid hb1
 have K2:=hid hb2
 have HF4:=hid hF
 have HVV:=hid hv
 have HNE:Hid (w.heap.size ≠ w1.heap.size /\ w.heap.size ≠ g /\ w.heap.size ≠ 0):=hid ⟨by omega,by omega,by have:=HV.out.pos; omega⟩
 have HP:=hid hP
 clear hb0 hb1 hb2 hF hv hP hl1 hPS
 go_wp2_with (fail)
 have hP5:=(((HP.out.other (a:=⟨w.heap.size,0,none⟩) HNE.out.1 HNE.out.2.1 HNE.out.2.2 (.bool o8)).other (a:=⟨w.heap.size,1,none⟩) HNE.out.1 HNE.out.2.1 HNE.out.2.2 (.string nm)).other (a:=⟨w.heap.size,2,none⟩) HNE.out.1 HNE.out.2.1 HNE.out.2.2 (.slice aa an ac))
 go_at_call 48
 with_reducible refine (HTK.out _ _ g c hP5).mono ?_
 rintro E w6 ⟨rfl,hB6⟩
 have q0:=(pset3 K0.out (.bool o8) (.string nm) (.slice aa an ac))
 have q1:=(HK.blk_set_other (HK.blk_set_other (HK.blk_set_other K1.out (p:=⟨w.heap.size,0,none⟩) M01.out.symm (.bool o8)) (p:=⟨w.heap.size,1,none⟩) M01.out.symm (.string nm)) (p:=⟨w.heap.size,2,none⟩) M01.out.symm (.slice aa an ac))
 have q2:=(HK.blk_set_other (HK.blk_set_other (HK.blk_set_other K2.out (p:=⟨w.heap.size,0,none⟩) M02.out.symm (.bool o8)) (p:=⟨w.heap.size,1,none⟩) M02.out.symm (.string nm)) (p:=⟨w.heap.size,2,none⟩) M02.out.symm (.slice aa an ac))
 have hk0:=(hB6.block _ (HK.blk_lt q0)).trans q0
 have hk1:=(hB6.block _ (HK.blk_lt q1)).trans q1
 have hk2:=(hB6.block _ (HK.blk_lt q2)).trans q2
 have c0:=HK.blk_cell hk0 0
 have fc0:=HK.blk_frozen hk0 0
 have c1:=HK.blk_cell hk0 1
 have fc1:=HK.blk_frozen hk0 1
 have c2:=HK.blk_cell hk0 2
 have fc2:=HK.blk_frozen hk0 2
 have d0:=HK.blk_cell hk1 0
 have e0:=HK.blk_cell hk2 0
 have fd0:=HK.blk_frozen hk1 0
 have fe0:=HK.blk_frozen hk2 0
 have J0:=hid hk0
 have J1:=hid hk1
 have J2:=hid hk2
 have HB6:=hid hB6
 clear hP5 hB6 q0 q1 q2 hk0 hk1 hk2
 go_wp2_with (fail)
 refine leaves_cons (f:=53) (args:=#[.pointer (some ⟨w.heap.size,0,none⟩),.pointer (some ⟨w.heap.size + 1,0,none⟩),.pointer (some ⟨w.heap.size + 1 + 1,0,none⟩)]) (by simp) (by simp [go_sem]) ?_
 refine (catch_idleT _ _ _ _).mono ?_
 rintro e9 u' w8 ⟨rfl,rfl,rfl⟩
 have g0:=HK.blk_alloc (HK.blk_set_other (HK.blk_set_other (pset3 J0.out (.bool o8) (.string nm) (.slice aa an ac)) (p:=⟨w.heap.size + 1,0,none⟩) M01.out (.int .i64 0)) (p:=⟨w.heap.size + 1 + 1,0,none⟩) M02.out (.int .i64 0)) (.cells #[.int .i64 0,.int .i64 0] 81)
 have g1:=HK.blk_alloc (HK.blk_set_other (HK.blk_set (HK.blk_set_other (HK.blk_set_other (HK.blk_set_other J1.out (p:=⟨w.heap.size,0,none⟩) M01.out.symm (.bool o8)) (p:=⟨w.heap.size,1,none⟩) M01.out.symm (.string nm)) (p:=⟨w.heap.size,2,none⟩) M01.out.symm (.slice aa an ac)) 0 (.int .i64 0)) (p:=⟨w.heap.size + 1 + 1,0,none⟩) M12.out (.int .i64 0)) (.cells #[.int .i64 0,.int .i64 0] 81)
 have g2:=HK.blk_alloc (HK.blk_set (HK.blk_set_other (HK.blk_set_other (HK.blk_set_other (HK.blk_set_other J2.out (p:=⟨w.heap.size,0,none⟩) M02.out.symm (.bool o8)) (p:=⟨w.heap.size,1,none⟩) M02.out.symm (.string nm)) (p:=⟨w.heap.size,2,none⟩) M02.out.symm (.slice aa an ac)) (p:=⟨w.heap.size + 1,0,none⟩) M12.out.symm (.int .i64 0)) 0 (.int .i64 0)) (.cells #[.int .i64 0,.int .i64 0] 81)
 refine ⟨_,results_cells3 (p:=6) (u:=7) (v:=8) (ty:=36) (tu:=3) (tv:=29) (by kernel_rfl) _ _ ⟨w.heap.size,0,none⟩ ⟨w.heap.size + 1,0,none⟩ ⟨w.heap.size + 1 + 1,0,none⟩ _ _ _ rfl rfl rfl (run_loadVar_row _ w.heap.size 36 36 _ (0,0) _ g0 Tryz.underlying36 rfl (by kernel_rfl)) (load_num 3 (.inl rfl) g1 ⟨_,rfl⟩) (load_num 29 (.inr rfl) g2 ⟨_,rfl⟩),?_⟩
 have hB4:Below w.heap.size w w4:=(((HBW.out.setCell (p:=⟨w.heap.size + 1,0,none⟩) (by simp) _).setCell (p:=⟨w.heap.size + 1 + 1,0,none⟩) (by show w.heap.size <= w.heap.size + 1 + 1; omega) _).alloc (by simp; have:=HBW.out.size; omega) _).trans (HF4.out.below (by simp; have:=HBW.out.size; omega) (fun k hk => by have:=HBW.out.size; omega))
 have hB5:=(((hB4.setCell (p:=⟨w.heap.size,0,none⟩) (Nat.le_refl _) (.bool o8)).setCell (p:=⟨w.heap.size,1,none⟩) (Nat.le_refl _) (.string nm)).setCell (p:=⟨w.heap.size,2,none⟩) (Nat.le_refl _) (.slice aa an ac))
 have hB6':=hB5.trans (HB6.out.mono (by simp; exact hB4.size))
 have hB7:=(((hB6'.setCell (p:=⟨w.heap.size,0,none⟩) (Nat.le_refl _) (.bool o8)).setCell (p:=⟨w.heap.size,1,none⟩) (Nat.le_refl _) (.string nm)).setCell (p:=⟨w.heap.size,2,none⟩) (Nat.le_refl _) (.slice aa an ac))
 have hB8:=((hB7.setCell (p:=⟨w.heap.size + 1,0,none⟩) (by simp) (.int .i64 0)).setCell (p:=⟨w.heap.size + 1 + 1,0,none⟩) (by show w.heap.size <= w.heap.size + 1 + 1; omega) (.int .i64 0)).alloc (by simp; exact hB6'.size) (.cells #[.int .i64 0,.int .i64 0] 81)
 refine ⟨hB8,_,rfl,HVV.out.turn ?_⟩
 have hl1:=HGG.out
 have u0:Up _ w.heap.size w4 w4:=⟨(by simp; omega:w.heap.size <= (((w1.setCell ⟨w.heap.size + 1,0,none⟩ (.int .i64 0)).setCell ⟨w.heap.size + 1 + 1,0,none⟩ (.int .i64 0)).alloc (.cells #[.slice (some ⟨g,0,none⟩) ts.length c,.int .i64 0,.int .i64 0,.bool m] 84)).heap.size),Nat.le_refl _,fun _ _ _ => rfl⟩
 have u1:=((((u0.set (a:=⟨w.heap.size,0,none⟩) (by simp; omega) (.bool o8)).set (a:=⟨w.heap.size,1,none⟩) (by simp; omega) (.string nm)).set (a:=⟨w.heap.size,2,none⟩) (by simp; omega) (.slice aa an ac))).below HB6.out
 exact (((((u1.set (a:=⟨w.heap.size,0,none⟩) (by simp; omega) (.bool o8)).set (a:=⟨w.heap.size,1,none⟩) (by simp; omega) (.string nm)).set (a:=⟨w.heap.size,2,none⟩) (by simp; omega) (.slice aa an ac)).set (a:=⟨w.heap.size + 1,0,none⟩) (by simp; omega) (.int .i64 0)).set (a:=⟨w.heap.size + 1 + 1,0,none⟩) (by simp; omega) (.int .i64 0)).alloc _
set_option maxRecDepth 100000 in
set_option maxHeartbeats 4000000 in
theorem readT_tail (w:World) (s:ByteArray) (m:Bool) (hs:s.size <= 16384) (hG:Signs w) (hV:IsLv w) (ts:List Tok) (p:Nat) (hL:LexL 0 (bys s) ts p 0) {n k:Nat} {f:Tm} (hr:run m ts n .term 0 0 = some (.ok (.t f) k)) (hk:(tkA ts k).k ≠ 5) :
  Calls Tryz.prog 30 #[.string s,.bool m,.func (.func 31) #[] #[]] w fun E W' => Below w.heap.size w W' /\ E = .returned (.tuple #[.agg #[.bool false,.string ⟨#[]⟩,.slice none 0 0],.int .i64 ((tkA ts k).p:Int),.int .i64 50]):=by
 have hT:=tsok_of_lex (l:=bys s) hs hL
 have HLX:Hid (∀ W,Signs W -> Calls Tryz.prog 46 #[.string s] W fun E W' => Below W.heap.size W W' /\ ∃ g c,E = .returned (.tuple #[.slice (some ⟨g,0,none⟩) ts.length c,.int .i64 0,.int .i64 0]) /\ W.heap.size <= g /\ g < W'.heap.size /\ TK W' g ts):=hid fun W hW => lexT_any W s hs hW ts p hL
 have HR:Hid (∀ (W:World) (B g c:Nat),PSt W B g c ts (ts.length - 1) m 0 0 -> Calls Tryz.prog 31 #[.pointer (some ⟨B,0,none⟩)] W fun E W' => FJ B W W' /\ ∃ (o8:Bool) (nm:ByteArray) (aa:Option Addr) (an ac:Nat),E = .returned (.agg #[.bool o8,.string nm,.slice aa an ac]) /\ TmV W' W.heap.size f (.agg #[.bool o8,.string nm,.slice aa an ac]) /\ PSt W' B g c ts (ts.length - 1) m k 0):=hid fun W B g c h => (term_any hT hr W h).mono fun E W' ⟨hF,⟨v,he,hv⟩,hP⟩ => by subst he; obtain ⟨a,rfl,h1⟩:=hv; obtain ⟨aa,an,ac⟩:=a; exact ⟨hF,_,_,_,_,_,rfl,⟨⟨aa,an,ac⟩,rfl,h1⟩,hP⟩
 have HTK:Hid (∀ (W:World) (B g c:Nat),PSt W B g c ts (ts.length - 1) m k 0 -> Calls Tryz.prog 48 #[.pointer (some ⟨B,0,none⟩)] W fun E W' => E = .returned (.agg #[.int .u8 (tkA ts k).k,.string (tkA ts k).t,.int .i64 ((tkA ts k).p:Int)]) /\ Below W.heap.size W W'):=hid fun W B g c h => token_any hT h
 have HFL:Hid (∀ (W:World) (B g c:Nat),PSt W B g c ts (ts.length - 1) m k 0 -> Calls Tryz.prog 49 #[.pointer (some ⟨B,0,none⟩),.int .i64 50] W fun E W' => E = .panicked [{ v:=.iface 81 (.agg #[.int .i64 ((tkA ts k).p:Int),.int .i64 50]),recovered:=false }] /\ Below W.heap.size W W'):=hid fun W B g c h => fail_any hT h 50
 obtain ⟨tkp,htkp⟩:∃ x,x = (tkA ts k).p:=⟨_,rfl⟩
 obtain ⟨tkt,htkt⟩:∃ x,x = (tkA ts k).t:=⟨_,rfl⟩
 obtain ⟨tkk,htkk⟩:∃ x,x = (tkA ts k).k:=⟨_,rfl⟩
 rw [<- htkk] at hk
 simp only [<- htkp,<- htkt,<- htkk] at HTK HFL ⊢
 have ek:(tkk != 5) = true:=by simp [hk]
 clear htkp htkt htkk hk
 have hmf:∀ (fn:Fn) (first cap:Array Value) (w:World),(Instr.makeFunc fn first cap).run Tryz.prog w = .ok (.func fn first cap) w:=fun _ _ _ _ => rfl
 have fl:=fld0
 have HG:=hid hG
 have HV:=hid hV
 have HZ:=hid (show 0 < ts.length by rw [hT.en.len]; omega)
 clear hG hV hL hs hT hr
 have m01:w.heap.size ≠ w.heap.size + 1:=by omega
 have m02:w.heap.size ≠ w.heap.size + 1 + 1:=by omega
 have m12:w.heap.size + 1 ≠ w.heap.size + 1 + 1:=by omega
 have M01:=hid m01
 have M02:=hid m02
 have M12:=hid m12
 clear m01 m02 m12
 go_enter_defers Tryz.func30,Tryz.ntmps30
 go_wp2_with (fail)
 go_at_call 46
 ((with_reducible refine (HLX.out _ (HG.out.below ((((Below.refl _ w).alloc (Nat.le_refl _) _).alloc (by simp) _).alloc (by simp; omega) _))).mono ?_); rintro E w1 ⟨hB,g,c,rfl,hg1,hg2,hTK⟩; have hb0:=(hB.block w.heap.size (by simp; omega)).trans (three_new w (.cells #[.bool false,.string ⟨#[]⟩,.slice none 0 0] 36) (.cells #[.int .i64 0] 3) (.cells #[.int .i64 0] 29)).1; have hb1:=(hB.block (w.heap.size + 1) (by simp)).trans (three_new w (.cells #[.bool false,.string ⟨#[]⟩,.slice none 0 0] 36) (.cells #[.int .i64 0] 3) (.cells #[.int .i64 0] 29)).2.1; have hb2:=(hB.block (w.heap.size + 1 + 1) (by simp)).trans (three_new w (.cells #[.bool false,.string ⟨#[]⟩,.slice none 0 0] 36) (.cells #[.int .i64 0] 3) (.cells #[.int .i64 0] 29)).2.2; have d0:=HK.blk_cell hb1 0; have e0:=HK.blk_cell hb2 0; have fd0:=HK.blk_frozen hb1 0; have fe0:=HK.blk_frozen hb2 0; have H0:=hid hb0; have H1:=hid hb1; have H2:=hid hb2; have HTK1:=hid hTK; have HGG:Hid (w.heap.size + 3 <= g /\ g < w1.heap.size):=hid ⟨by simpa using hg1,hg2⟩; have HBW:Hid (Below w.heap.size w w1):=hid (((((Below.refl _ w).alloc (Nat.le_refl _) (.cells #[.bool false,.string ⟨#[]⟩,.slice none 0 0] 36)).alloc (by simp) (.cells #[.int .i64 0] 3)).alloc (by simp; omega) (.cells #[.int .i64 0] 29)).trans (hB.mono (by simp; omega))); clear hb0 hb1 hb2 hB hg1 hg2 hTK)
 go_wp2_with (fail)
 have hPS:PSt (((w1.setCell ⟨w.heap.size + 1,0,none⟩ (.int .i64 0)).setCell ⟨w.heap.size + 1 + 1,0,none⟩ (.int .i64 0)).alloc (.cells #[.slice (some ⟨g,0,none⟩) ts.length c,.int .i64 0,.int .i64 0,.bool m] 84)) w1.heap.size g c ts (ts.length - 1) m 0 0:=by
  have hg:=HGG.out
  have hv1:=HV.out.pos
  refine ⟨?_,?_,?_,⟨by omega,by omega⟩,by simp; omega,by omega,by omega⟩
  ·have:=HK.blk_new ((w1.setCell ⟨w.heap.size + 1,0,none⟩ (.int .i64 0)).setCell ⟨w.heap.size + 1 + 1,0,none⟩ (.int .i64 0)) (.cells #[.slice (some ⟨g,0,none⟩) ts.length c,.int .i64 0,.int .i64 0,.bool m] 84)
   simpa using this
  ·exact HTK1.out.turn (by rw [Below.heap_alloc _ _ _ (by simp; omega),Below.heap_setCell _ _ _ _ (by show g ≠ w.heap.size + 1 + 1; omega),Below.heap_setCell _ _ _ _ (by show g ≠ w.heap.size + 1; omega)])
  ·exact (HV.out.turn (HBW.out.block 0 HV.out.pos)).turn (by rw [Below.heap_alloc _ _ _ (by simp; omega),Below.heap_setCell _ _ _ _ (by show 0 ≠ w.heap.size + 1 + 1; omega),Below.heap_setCell _ _ _ _ (by show 0 ≠ w.heap.size + 1; omega)])
 go_at_call 31
 with_reducible refine (HR.out _ _ g c hPS).mono ?_
 rintro E w4 ⟨hF,o8,nm,aa,an,ac,rfl,hv,hP⟩
 have hl1:=HGG.out
 have hb0:=hF.heap (HK.blk_alloc (HK.blk_set_other (HK.blk_set_other H0.out (p:=⟨w.heap.size + 1,0,none⟩) M01.out (.int .i64 0)) (p:=⟨w.heap.size + 1 + 1,0,none⟩) M02.out (.int .i64 0)) _) (by omega)
 have hb1:=hF.heap (HK.blk_alloc (HK.blk_set_other (HK.blk_set H1.out 0 (.int .i64 0)) (p:=⟨w.heap.size + 1 + 1,0,none⟩) M12.out (.int .i64 0)) _) (by omega)
 have hb2:=hF.heap (HK.blk_alloc (HK.blk_set (HK.blk_set_other H2.out (p:=⟨w.heap.size + 1,0,none⟩) M12.out.symm (.int .i64 0)) 0 (.int .i64 0)) _) (by omega)
 have c0:=HK.blk_cell hb0 0
 have fc0:=HK.blk_frozen hb0 0
 have c1:=HK.blk_cell hb0 1
 have fc1:=HK.blk_frozen hb0 1
 have c2:=HK.blk_cell hb0 2
 have fc2:=HK.blk_frozen hb0 2
 have d0:=HK.blk_cell hb1 0
 have e0:=HK.blk_cell hb2 0
 have fd0:=HK.blk_frozen hb1 0
 have fe0:=HK.blk_frozen hb2 0
 have K0:=hid hb0
 have K1:=hid hb1
 have K2:=hid hb2
 have HF4:=hid hF
 have HVV:=hid hv
 have HNE:Hid (w.heap.size ≠ w1.heap.size /\ w.heap.size ≠ g /\ w.heap.size ≠ 0):=hid ⟨by omega,by omega,by have:=HV.out.pos; omega⟩
 have HP:=hid hP
 clear hb0 hb1 hb2 hF hv hP hl1 hPS
 go_wp2_with (fail)
 have hP5:=(((HP.out.other (a:=⟨w.heap.size,0,none⟩) HNE.out.1 HNE.out.2.1 HNE.out.2.2 (.bool o8)).other (a:=⟨w.heap.size,1,none⟩) HNE.out.1 HNE.out.2.1 HNE.out.2.2 (.string nm)).other (a:=⟨w.heap.size,2,none⟩) HNE.out.1 HNE.out.2.1 HNE.out.2.2 (.slice aa an ac))
 go_at_call 48
 with_reducible refine (HTK.out _ _ g c hP5).mono ?_
 rintro E w6 ⟨rfl,hB6⟩
 have q0:=(pset3 K0.out (.bool o8) (.string nm) (.slice aa an ac))
 have q1:=(HK.blk_set_other (HK.blk_set_other (HK.blk_set_other K1.out (p:=⟨w.heap.size,0,none⟩) M01.out.symm (.bool o8)) (p:=⟨w.heap.size,1,none⟩) M01.out.symm (.string nm)) (p:=⟨w.heap.size,2,none⟩) M01.out.symm (.slice aa an ac))
 have q2:=(HK.blk_set_other (HK.blk_set_other (HK.blk_set_other K2.out (p:=⟨w.heap.size,0,none⟩) M02.out.symm (.bool o8)) (p:=⟨w.heap.size,1,none⟩) M02.out.symm (.string nm)) (p:=⟨w.heap.size,2,none⟩) M02.out.symm (.slice aa an ac))
 have hk0:=(hB6.block _ (HK.blk_lt q0)).trans q0
 have hk1:=(hB6.block _ (HK.blk_lt q1)).trans q1
 have hk2:=(hB6.block _ (HK.blk_lt q2)).trans q2
 have c0:=HK.blk_cell hk0 0
 have fc0:=HK.blk_frozen hk0 0
 have c1:=HK.blk_cell hk0 1
 have fc1:=HK.blk_frozen hk0 1
 have c2:=HK.blk_cell hk0 2
 have fc2:=HK.blk_frozen hk0 2
 have d0:=HK.blk_cell hk1 0
 have e0:=HK.blk_cell hk2 0
 have fd0:=HK.blk_frozen hk1 0
 have fe0:=HK.blk_frozen hk2 0
 have J0:=hid hk0
 have J1:=hid hk1
 have J2:=hid hk2
 have HB6:=hid hB6
 have hP6:=hP5.below hB6
 clear hP5 hB6 q0 q1 q2 hk0 hk1 hk2
 go_wp2_with (fail)
 go_at_call 49
 with_reducible refine (HFL.out _ _ g c hP6).mono ?_
 rintro E w7 ⟨rfl,hB7⟩
 have hB4:Below w.heap.size w w4:=(((HBW.out.setCell (p:=⟨w.heap.size + 1,0,none⟩) (by simp) _).setCell (p:=⟨w.heap.size + 1 + 1,0,none⟩) (by show w.heap.size <= w.heap.size + 1 + 1; omega) _).alloc (by simp; have:=HBW.out.size; omega) _).trans (HF4.out.below (by simp; have:=HBW.out.size; omega) (fun k hk => by have:=HBW.out.size; omega))
 have hB5:=(((hB4.setCell (p:=⟨w.heap.size,0,none⟩) (Nat.le_refl _) (.bool o8)).setCell (p:=⟨w.heap.size,1,none⟩) (Nat.le_refl _) (.string nm)).setCell (p:=⟨w.heap.size,2,none⟩) (Nat.le_refl _) (.slice aa an ac))
 have hB6':=hB5.trans (HB6.out.mono (by simp; exact hB4.size))
 have hB7':=hB6'.trans (hB7.mono hB6'.size)
 have l0:=(hB7.block _ (HK.blk_lt J0.out)).trans J0.out
 have l1:=(hB7.block _ (HK.blk_lt J1.out)).trans J1.out
 have l2:=(hB7.block _ (HK.blk_lt J2.out)).trans J2.out
 refine leaves_cons (f:=53) (args:=#[.pointer (some ⟨w.heap.size,0,none⟩),.pointer (some ⟨w.heap.size + 1,0,none⟩),.pointer (some ⟨w.heap.size + 1 + 1,0,none⟩)]) (by simp) (by simp [go_sem]) ?_
 refine (catch_failT _ _ _ (tkp:Int) 50 [] w7 _ _ _ _ _ l0 l1 l2 M01.out M02.out M12.out).mono ?_
 rintro e9 u' w8 ⟨rfl,rfl,g0,g1,g2,hF8⟩
 refine ⟨_,results_cells3 (p:=6) (u:=7) (v:=8) (ty:=36) (tu:=3) (tv:=29) (by kernel_rfl) _ _ ⟨w.heap.size,0,none⟩ ⟨w.heap.size + 1,0,none⟩ ⟨w.heap.size + 1 + 1,0,none⟩ _ _ _ rfl rfl rfl (run_loadVar_row _ w.heap.size 36 36 _ (0,0) _ g0 Tryz.underlying36 rfl (by kernel_rfl)) (load_num 3 (.inl rfl) g1 ⟨_,rfl⟩) (load_num 29 (.inr rfl) g2 ⟨_,rfl⟩),?_⟩
 refine ⟨?_,rfl⟩
 exact (hB7').trans (hF8.below (hB7'.size) (fun k hk => by rcases hk with rfl | rfl | rfl <;> omega))
set_option maxRecDepth 100000 in
set_option maxHeartbeats 4000000 in
theorem readT_bad (w:World) (s:ByteArray) (m:Bool) (hs:s.size <= 16384) (hG:Signs w) (hV:IsLv w) (ts:List Tok) (p:Nat) (hL:LexL 0 (bys s) ts p 0) {n k:Nat} {e:Nat} (hr:run m ts n .term 0 0 = some (.bad k e)) :
  Calls Tryz.prog 30 #[.string s,.bool m,.func (.func 31) #[] #[]] w fun E W' => Below w.heap.size w W' /\ E = .returned (.tuple #[.agg #[.bool false,.string ⟨#[]⟩,.slice none 0 0],.int .i64 ((tkA ts k).p:Int),.int .i64 (e:Int)]):=by
 have hT:=tsok_of_lex (l:=bys s) hs hL
 have HLX:Hid (∀ W,Signs W -> Calls Tryz.prog 46 #[.string s] W fun E W' => Below W.heap.size W W' /\ ∃ g c,E = .returned (.tuple #[.slice (some ⟨g,0,none⟩) ts.length c,.int .i64 0,.int .i64 0]) /\ W.heap.size <= g /\ g < W'.heap.size /\ TK W' g ts):=hid fun W hW => lexT_any W s hs hW ts p hL
 have HR:Hid (∀ (W:World) (B g c:Nat),PSt W B g c ts (ts.length - 1) m 0 0 -> Calls Tryz.prog 31 #[.pointer (some ⟨B,0,none⟩)] W fun E W' => FJ B W W' /\ E = .panicked [{ v:=.iface 81 (.agg #[.int .i64 ((tkA ts k).p:Int),.int .i64 (e:Int)]),recovered:=false }]):=hid fun W B g c h => term_any hT hr W h
 obtain ⟨tkp,htkp⟩:∃ x,x = (tkA ts k).p:=⟨_,rfl⟩
 simp only [<- htkp] at HR ⊢
 clear htkp
 have hmf:∀ (fn:Fn) (first cap:Array Value) (w:World),(Instr.makeFunc fn first cap).run Tryz.prog w = .ok (.func fn first cap) w:=fun _ _ _ _ => rfl
 have fl:=fld0
 have HG:=hid hG
 have HV:=hid hV
 have HZ:=hid (show 0 < ts.length by rw [hT.en.len]; omega)
 clear hG hV hL hs hT hr
 have m01:w.heap.size ≠ w.heap.size + 1:=by omega
 have m02:w.heap.size ≠ w.heap.size + 1 + 1:=by omega
 have m12:w.heap.size + 1 ≠ w.heap.size + 1 + 1:=by omega
 have M01:=hid m01
 have M02:=hid m02
 have M12:=hid m12
 clear m01 m02 m12
 go_enter_defers Tryz.func30,Tryz.ntmps30
 go_wp2_with (fail)
 go_at_call 46
 ((with_reducible refine (HLX.out _ (HG.out.below ((((Below.refl _ w).alloc (Nat.le_refl _) _).alloc (by simp) _).alloc (by simp; omega) _))).mono ?_); rintro E w1 ⟨hB,g,c,rfl,hg1,hg2,hTK⟩; have hb0:=(hB.block w.heap.size (by simp; omega)).trans (three_new w (.cells #[.bool false,.string ⟨#[]⟩,.slice none 0 0] 36) (.cells #[.int .i64 0] 3) (.cells #[.int .i64 0] 29)).1; have hb1:=(hB.block (w.heap.size + 1) (by simp)).trans (three_new w (.cells #[.bool false,.string ⟨#[]⟩,.slice none 0 0] 36) (.cells #[.int .i64 0] 3) (.cells #[.int .i64 0] 29)).2.1; have hb2:=(hB.block (w.heap.size + 1 + 1) (by simp)).trans (three_new w (.cells #[.bool false,.string ⟨#[]⟩,.slice none 0 0] 36) (.cells #[.int .i64 0] 3) (.cells #[.int .i64 0] 29)).2.2; have d0:=HK.blk_cell hb1 0; have e0:=HK.blk_cell hb2 0; have fd0:=HK.blk_frozen hb1 0; have fe0:=HK.blk_frozen hb2 0; have H0:=hid hb0; have H1:=hid hb1; have H2:=hid hb2; have HTK1:=hid hTK; have HGG:Hid (w.heap.size + 3 <= g /\ g < w1.heap.size):=hid ⟨by simpa using hg1,hg2⟩; have HBW:Hid (Below w.heap.size w w1):=hid (((((Below.refl _ w).alloc (Nat.le_refl _) (.cells #[.bool false,.string ⟨#[]⟩,.slice none 0 0] 36)).alloc (by simp) (.cells #[.int .i64 0] 3)).alloc (by simp; omega) (.cells #[.int .i64 0] 29)).trans (hB.mono (by simp; omega))); clear hb0 hb1 hb2 hB hg1 hg2 hTK)
 go_wp2_with (fail)
 have hPS:PSt (((w1.setCell ⟨w.heap.size + 1,0,none⟩ (.int .i64 0)).setCell ⟨w.heap.size + 1 + 1,0,none⟩ (.int .i64 0)).alloc (.cells #[.slice (some ⟨g,0,none⟩) ts.length c,.int .i64 0,.int .i64 0,.bool m] 84)) w1.heap.size g c ts (ts.length - 1) m 0 0:=by
  have hg:=HGG.out
  have hv1:=HV.out.pos
  refine ⟨?_,?_,?_,⟨by omega,by omega⟩,by simp; omega,by omega,by omega⟩
  ·have:=HK.blk_new ((w1.setCell ⟨w.heap.size + 1,0,none⟩ (.int .i64 0)).setCell ⟨w.heap.size + 1 + 1,0,none⟩ (.int .i64 0)) (.cells #[.slice (some ⟨g,0,none⟩) ts.length c,.int .i64 0,.int .i64 0,.bool m] 84)
   simpa using this
  ·exact HTK1.out.turn (by rw [Below.heap_alloc _ _ _ (by simp; omega),Below.heap_setCell _ _ _ _ (by show g ≠ w.heap.size + 1 + 1; omega),Below.heap_setCell _ _ _ _ (by show g ≠ w.heap.size + 1; omega)])
  ·exact (HV.out.turn (HBW.out.block 0 HV.out.pos)).turn (by rw [Below.heap_alloc _ _ _ (by simp; omega),Below.heap_setCell _ _ _ _ (by show 0 ≠ w.heap.size + 1 + 1; omega),Below.heap_setCell _ _ _ _ (by show 0 ≠ w.heap.size + 1; omega)])
 go_at_call 31
 with_reducible refine (HR.out _ _ g c hPS).mono ?_
 rintro E w4 ⟨hF,rfl⟩
 have hl1:=HGG.out
 have hb0:=hF.heap (HK.blk_alloc (HK.blk_set_other (HK.blk_set_other H0.out (p:=⟨w.heap.size + 1,0,none⟩) M01.out (.int .i64 0)) (p:=⟨w.heap.size + 1 + 1,0,none⟩) M02.out (.int .i64 0)) _) (by omega)
 have hb1:=hF.heap (HK.blk_alloc (HK.blk_set_other (HK.blk_set H1.out 0 (.int .i64 0)) (p:=⟨w.heap.size + 1 + 1,0,none⟩) M12.out (.int .i64 0)) _) (by omega)
 have hb2:=hF.heap (HK.blk_alloc (HK.blk_set (HK.blk_set_other H2.out (p:=⟨w.heap.size + 1,0,none⟩) M12.out.symm (.int .i64 0)) 0 (.int .i64 0)) _) (by omega)
 have HF4:=hid hF
 have hB4:Below w.heap.size w w4:=(((HBW.out.setCell (p:=⟨w.heap.size + 1,0,none⟩) (by simp) _).setCell (p:=⟨w.heap.size + 1 + 1,0,none⟩) (by show w.heap.size <= w.heap.size + 1 + 1; omega) _).alloc (by simp; have:=HBW.out.size; omega) _).trans (HF4.out.below (by simp; have:=HBW.out.size; omega) (fun k hk => by have:=HBW.out.size; omega))
 refine leaves_cons (f:=53) (args:=#[.pointer (some ⟨w.heap.size,0,none⟩),.pointer (some ⟨w.heap.size + 1,0,none⟩),.pointer (some ⟨w.heap.size + 1 + 1,0,none⟩)]) (by simp) (by simp [go_sem]) ?_
 refine (catch_failT _ _ _ (tkp:Int) (e:Int) [] w4 _ _ _ _ _ hb0 hb1 hb2 M01.out M02.out M12.out).mono ?_
 rintro e9 u' w8 ⟨rfl,rfl,g0,g1,g2,hF8⟩
 refine ⟨_,results_cells3 (p:=6) (u:=7) (v:=8) (ty:=36) (tu:=3) (tv:=29) (by kernel_rfl) _ _ ⟨w.heap.size,0,none⟩ ⟨w.heap.size + 1,0,none⟩ ⟨w.heap.size + 1 + 1,0,none⟩ _ _ _ rfl rfl rfl (run_loadVar_row _ w.heap.size 36 36 _ (0,0) _ g0 Tryz.underlying36 rfl (by kernel_rfl)) (load_num 3 (.inl rfl) g1 ⟨_,rfl⟩) (load_num 29 (.inr rfl) g2 ⟨_,rfl⟩),?_⟩
 refine ⟨?_,rfl⟩
 exact (hB4).trans (hF8.below (hB4.size) (fun k hk => by rcases hk with rfl | rfl | rfl <;> omega))
set_option maxRecDepth 100000 in
set_option maxHeartbeats 2000000 in
theorem readT_lexbad (w:World) (s:ByteArray) (m:Bool) (hs:s.size <= 16384) (hG:Signs w) (ts:List Tok) (p:Nat) (e:Int) (hL:LexL 0 (bys s) ts p e) (he:e ≠ 0) :
  Calls Tryz.prog 30 #[.string s,.bool m,.func (.func 31) #[] #[]] w fun E w' => E = .returned (.tuple #[.agg #[.bool false,.string ⟨#[]⟩,.slice none 0 0],.int .i64 (p:Int),.int .i64 e]) /\ Below w.heap.size w w':=by
 have HLX:Hid (∀ W,Signs W -> Calls Tryz.prog 46 #[.string s] W (RetL W ts p e)):=hid fun W hW => lex_any W s hs hW ts p e hL
 have hmf:∀ (fn:Fn) (first cap:Array Value) (w:World),(Instr.makeFunc fn first cap).run Tryz.prog w = .ok (.func fn first cap) w:=fun _ _ _ _ => rfl
 have HG:=hid hG
 have HE:=hid he
 have he1:(e != 0) = true:=by simp [he]
 clear hG hL hs he
 unfold RetL at HLX
 go_enter_defers Tryz.func30,Tryz.ntmps30
 go_upto_region 3 with (go_at_call 46; ((with_reducible refine (HLX.out _ (HG.out.below ((((Below.refl _ w).alloc (Nat.le_refl _) _).alloc (by simp) _).alloc (by simp; omega) _))).mono ?_); rintro E w1 ⟨hB,⟨h0,_⟩ | ⟨_,rfl⟩⟩; exact absurd h0 HE.out; have hb0:=(hB.block w.heap.size (by simp; omega)).trans (three_new w (.cells #[.bool false,.string ⟨#[]⟩,.slice none 0 0] 36) (.cells #[.int .i64 0] 3) (.cells #[.int .i64 0] 29)).1; have hb1:=(hB.block (w.heap.size + 1) (by simp)).trans (three_new w (.cells #[.bool false,.string ⟨#[]⟩,.slice none 0 0] 36) (.cells #[.int .i64 0] 3) (.cells #[.int .i64 0] 29)).2.1; have hb2:=(hB.block (w.heap.size + 1 + 1) (by simp)).trans (three_new w (.cells #[.bool false,.string ⟨#[]⟩,.slice none 0 0] 36) (.cells #[.int .i64 0] 3) (.cells #[.int .i64 0] 29)).2.2; have c0:=HK.blk_cell hb0 0; have c1:=HK.blk_cell hb0 1; have c2:=HK.blk_cell hb0 2; have d0:=HK.blk_cell hb1 0; have e0:=HK.blk_cell hb2 0; have fc0:=HK.blk_frozen hb0 0; have fc1:=HK.blk_frozen hb0 1; have fc2:=HK.blk_frozen hb0 2; have fd0:=HK.blk_frozen hb1 0; have fe0:=HK.blk_frozen hb2 0; have H0:=hid hb0; have H1:=hid hb1; have H2:=hid hb2; have HBW:Hid (Below w.heap.size w w1):=hid (((((Below.refl _ w).alloc (Nat.le_refl _) (.cells #[.bool false,.string ⟨#[]⟩,.slice none 0 0] 36)).alloc (by simp) (.cells #[.int .i64 0] 3)).alloc (by simp; omega) (.cells #[.int .i64 0] 29)).trans (hB.mono (by simp; omega)))))
 go_region
 go_wp2
 have m01:w.heap.size ≠ w.heap.size + 1:=by omega
 have m02:w.heap.size ≠ w.heap.size + 1 + 1:=by omega
 have m12:w.heap.size + 1 ≠ w.heap.size + 1 + 1:=by omega
 have g0:=HK.blk_set_other (HK.blk_set_other (pset3 (HK.blk_set_other (HK.blk_set_other H0.out (p:=⟨w.heap.size + 1,0,none⟩) m01 (.int .i64 (p:Int))) (p:=⟨w.heap.size + 1 + 1,0,none⟩) m02 (.int .i64 e)) (.bool false) (.string ⟨#[]⟩) (.slice none 0 0)) (p:=⟨w.heap.size + 1,0,none⟩) m01 (.int .i64 (p:Int))) (p:=⟨w.heap.size + 1 + 1,0,none⟩) m02 (.int .i64 e)
 refine ⟨_,results_cells3 (p:=6) (u:=7) (v:=8) (ty:=36) (tu:=3) (tv:=29) (by kernel_rfl) _ _ ⟨w.heap.size,0,none⟩ ⟨w.heap.size + 1,0,none⟩ ⟨w.heap.size + 1 + 1,0,none⟩ _ _ _ rfl rfl rfl (run_loadVar_row _ w.heap.size 36 36 _ (0,0) _ (HK.blk_drew g0) Tryz.underlying36 rfl (by kernel_rfl)) ?_ ?_,rfl,?_⟩
 ·have q:=HK.blk_set (HK.blk_set_other (HK.blk_set_other (HK.blk_set_other (HK.blk_set_other (HK.blk_set H1.out 0 (.int .i64 (p:Int))) (p:=⟨w.heap.size + 1 + 1,0,none⟩) m12 (.int .i64 e)) (p:=⟨w.heap.size,0,none⟩) m01.symm (.bool false)) (p:=⟨w.heap.size,1,none⟩) m01.symm (.string ⟨#[]⟩)) (p:=⟨w.heap.size,2,none⟩) m01.symm (.slice none 0 0)) 0 (.int .i64 (p:Int))
  exact load_num 3 (.inl rfl) (HK.blk_drew (HK.blk_set_other q (p:=⟨w.heap.size + 1 + 1,0,none⟩) m12 _)) ⟨_,rfl⟩
 ·have q:=HK.blk_set (HK.blk_set_other (HK.blk_set_other (HK.blk_set_other (HK.blk_set_other (HK.blk_set (HK.blk_set_other H2.out (p:=⟨w.heap.size + 1,0,none⟩) m12.symm (.int .i64 (p:Int))) 0 (.int .i64 e)) (p:=⟨w.heap.size,0,none⟩) m02.symm (.bool false)) (p:=⟨w.heap.size,1,none⟩) m02.symm (.string ⟨#[]⟩)) (p:=⟨w.heap.size,2,none⟩) m02.symm (.slice none 0 0)) (p:=⟨w.heap.size + 1,0,none⟩) m12.symm (.int .i64 (p:Int))) 0 (.int .i64 e)
  exact load_num 29 (.inr rfl) (HK.blk_drew q) ⟨_,rfl⟩
 ·exact (((((((HBW.out.setCell (p:=⟨w.heap.size + 1,0,none⟩) (by simp) _).setCell (p:=⟨w.heap.size + 1 + 1,0,none⟩) (by show w.heap.size <= w.heap.size + 1 + 1; omega) _).setCell (p:=⟨w.heap.size,0,none⟩) (Nat.le_refl _) _).setCell (p:=⟨w.heap.size,1,none⟩) (Nat.le_refl _) _).setCell (p:=⟨w.heap.size,2,none⟩) (Nat.le_refl _) _).setCell (p:=⟨w.heap.size + 1,0,none⟩) (by simp) _).setCell (p:=⟨w.heap.size + 1 + 1,0,none⟩) (by show w.heap.size <= w.heap.size + 1 + 1; omega) _).drew
end Go.Proofs.YtdobflpbkfkmgaaGreatDoor
namespace Go.Proofs.YtdobflpbkfkmgaaGreatDoor
open Go.RowKit Go.HK Go.FR Lib
set_option linter.unusedVariables false
set_option linter.unusedSimpArgs false
set_option linter.unusedSectionVars false
set_option maxRecDepth 100000 in
set_option maxHeartbeats 4000000 in
theorem readL_ok (w:World) (s:ByteArray) (m:Bool) (hs:s.size <= 16384) (hG:Signs w) (hV:IsLv w) (ts:List Tok) (p:Nat) (hL:LexL 0 (bys s) ts p 0) {n' n k:Nat} {f:List Fm} (hr:runFs m ts n' n 0 = some (.ok f k)) (hk:(tkA ts k).k = 5) :
  Calls Tryz.prog 41 #[.string s,.bool m,.func (.func 42) #[] #[]] w fun E W' => Below w.heap.size w W' /\ ∃ v,E = .returned (.tuple #[v,.int .i64 0,.int .i64 0]) /\ FsV W' w.heap.size f v:=by
 have hT:=tsok_of_lex (l:=bys s) hs hL
 have HLX:Hid (∀ W,Signs W -> Calls Tryz.prog 46 #[.string s] W fun E W' => Below W.heap.size W W' /\ ∃ g c,E = .returned (.tuple #[.slice (some ⟨g,0,none⟩) ts.length c,.int .i64 0,.int .i64 0]) /\ W.heap.size <= g /\ g < W'.heap.size /\ TK W' g ts):=hid fun W hW => lexT_any W s hs hW ts p hL
 have HR:Hid (∀ (W:World) (B g c:Nat),PSt W B g c ts (ts.length - 1) m 0 0 -> Calls Tryz.prog 42 #[.pointer (some ⟨B,0,none⟩)] W fun E W' => FJ B W W' /\ ∃ (aa:Option Addr) (an ac:Nat),E = .returned (.slice aa an ac) /\ FsV W' W.heap.size f (.slice aa an ac) /\ PSt W' B g c ts (ts.length - 1) m k 0):=hid fun W B g c h => (forms_any hT hr W h).mono fun E W' ⟨hF,⟨v,he,hv⟩,hP⟩ => by subst he; obtain ⟨aa,an,ac⟩:=v; exact ⟨hF,_,_,_,rfl,⟨⟨aa,an,ac⟩,rfl,hv⟩,hP⟩
 have HTK:Hid (∀ (W:World) (B g c:Nat),PSt W B g c ts (ts.length - 1) m k 0 -> Calls Tryz.prog 48 #[.pointer (some ⟨B,0,none⟩)] W fun E W' => E = .returned (.agg #[.int .u8 (tkA ts k).k,.string (tkA ts k).t,.int .i64 ((tkA ts k).p:Int)]) /\ Below W.heap.size W W'):=hid fun W B g c h => token_any hT h
 obtain ⟨tkp,htkp⟩:∃ x,x = (tkA ts k).p:=⟨_,rfl⟩
 obtain ⟨tkt,htkt⟩:∃ x,x = (tkA ts k).t:=⟨_,rfl⟩
 obtain ⟨tkk,htkk⟩:∃ x,x = (tkA ts k).k:=⟨_,rfl⟩
 rw [<- htkk] at hk
 simp only [<- htkp,<- htkt,<- htkk] at HTK ⊢
 have ek:(tkk != 5) = false:=by simp [hk]
 clear htkp htkt htkk hk
 have hmf:∀ (fn:Fn) (first cap:Array Value) (w:World),(Instr.makeFunc fn first cap).run Tryz.prog w = .ok (.func fn first cap) w:=fun _ _ _ _ => rfl
 have fl:=fld0
 have HG:=hid hG
 have HV:=hid hV
 have HZ:=hid (show 0 < ts.length by rw [hT.en.len]; omega)
 clear hG hV hL hs hT hr
 have m01:w.heap.size ≠ w.heap.size + 1:=by omega
 have m02:w.heap.size ≠ w.heap.size + 1 + 1:=by omega
 have m12:w.heap.size + 1 ≠ w.heap.size + 1 + 1:=by omega
 have M01:=hid m01
 have M02:=hid m02
 have M12:=hid m12
 clear m01 m02 m12
 go_enter_defers Tryz.func41,Tryz.ntmps41
 go_wp2_with (fail)
 go_at_call 46
 ((with_reducible refine (HLX.out _ (HG.out.below ((((Below.refl _ w).alloc (Nat.le_refl _) _).alloc (by simp) _).alloc (by simp; omega) _))).mono ?_); rintro E w1 ⟨hB,g,c,rfl,hg1,hg2,hTK⟩; have hb0:=(hB.block w.heap.size (by simp; omega)).trans (three_new w (.cells #[.slice none 0 0] 26) (.cells #[.int .i64 0] 3) (.cells #[.int .i64 0] 29)).1; have hb1:=(hB.block (w.heap.size + 1) (by simp)).trans (three_new w (.cells #[.slice none 0 0] 26) (.cells #[.int .i64 0] 3) (.cells #[.int .i64 0] 29)).2.1; have hb2:=(hB.block (w.heap.size + 1 + 1) (by simp)).trans (three_new w (.cells #[.slice none 0 0] 26) (.cells #[.int .i64 0] 3) (.cells #[.int .i64 0] 29)).2.2; have d0:=HK.blk_cell hb1 0; have e0:=HK.blk_cell hb2 0; have fd0:=HK.blk_frozen hb1 0; have fe0:=HK.blk_frozen hb2 0; have H0:=hid hb0; have H1:=hid hb1; have H2:=hid hb2; have HTK1:=hid hTK; have HGG:Hid (w.heap.size + 3 <= g /\ g < w1.heap.size):=hid ⟨by simpa using hg1,hg2⟩; have HBW:Hid (Below w.heap.size w w1):=hid (((((Below.refl _ w).alloc (Nat.le_refl _) (.cells #[.slice none 0 0] 26)).alloc (by simp) (.cells #[.int .i64 0] 3)).alloc (by simp; omega) (.cells #[.int .i64 0] 29)).trans (hB.mono (by simp; omega))); clear hb0 hb1 hb2 hB hg1 hg2 hTK)
 go_wp2_with (fail)
 have hPS:PSt (((w1.setCell ⟨w.heap.size + 1,0,none⟩ (.int .i64 0)).setCell ⟨w.heap.size + 1 + 1,0,none⟩ (.int .i64 0)).alloc (.cells #[.slice (some ⟨g,0,none⟩) ts.length c,.int .i64 0,.int .i64 0,.bool m] 84)) w1.heap.size g c ts (ts.length - 1) m 0 0:=by
  have hg:=HGG.out
  have hv1:=HV.out.pos
  refine ⟨?_,?_,?_,⟨by omega,by omega⟩,by simp; omega,by omega,by omega⟩
  ·have:=HK.blk_new ((w1.setCell ⟨w.heap.size + 1,0,none⟩ (.int .i64 0)).setCell ⟨w.heap.size + 1 + 1,0,none⟩ (.int .i64 0)) (.cells #[.slice (some ⟨g,0,none⟩) ts.length c,.int .i64 0,.int .i64 0,.bool m] 84)
   simpa using this
  ·exact HTK1.out.turn (by rw [Below.heap_alloc _ _ _ (by simp; omega),Below.heap_setCell _ _ _ _ (by show g ≠ w.heap.size + 1 + 1; omega),Below.heap_setCell _ _ _ _ (by show g ≠ w.heap.size + 1; omega)])
  ·exact (HV.out.turn (HBW.out.block 0 HV.out.pos)).turn (by rw [Below.heap_alloc _ _ _ (by simp; omega),Below.heap_setCell _ _ _ _ (by show 0 ≠ w.heap.size + 1 + 1; omega),Below.heap_setCell _ _ _ _ (by show 0 ≠ w.heap.size + 1; omega)])
 go_at_call 42
 with_reducible refine (HR.out _ _ g c hPS).mono ?_
 rintro E w4 ⟨hF,aa,an,ac,rfl,hv,hP⟩
 have hl1:=HGG.out
 have hb0:=hF.heap (HK.blk_alloc (HK.blk_set_other (HK.blk_set_other H0.out (p:=⟨w.heap.size + 1,0,none⟩) M01.out (.int .i64 0)) (p:=⟨w.heap.size + 1 + 1,0,none⟩) M02.out (.int .i64 0)) _) (by omega)
 have hb1:=hF.heap (HK.blk_alloc (HK.blk_set_other (HK.blk_set H1.out 0 (.int .i64 0)) (p:=⟨w.heap.size + 1 + 1,0,none⟩) M12.out (.int .i64 0)) _) (by omega)
 have hb2:=hF.heap (HK.blk_alloc (HK.blk_set (HK.blk_set_other H2.out (p:=⟨w.heap.size + 1,0,none⟩) M12.out.symm (.int .i64 0)) 0 (.int .i64 0)) _) (by omega)
 have c0:=HK.blk_cell hb0 0
 have fc0:=HK.blk_frozen hb0 0
 have d0:=HK.blk_cell hb1 0
 have e0:=HK.blk_cell hb2 0
 have fd0:=HK.blk_frozen hb1 0
 have fe0:=HK.blk_frozen hb2 0
 have K0:=hid hb0
 have K1:=hid hb1
 have K2:=hid hb2
 have HF4:=hid hF
 have HVV:=hid hv
 have HNE:Hid (w.heap.size ≠ w1.heap.size /\ w.heap.size ≠ g /\ w.heap.size ≠ 0):=hid ⟨by omega,by omega,by have:=HV.out.pos; omega⟩
 have HP:=hid hP
 clear hb0 hb1 hb2 hF hv hP hl1 hPS
 go_wp2_with (fail)
 have hP5:=(HP.out.other (a:=⟨w.heap.size,0,none⟩) HNE.out.1 HNE.out.2.1 HNE.out.2.2 (.slice aa an ac))
 go_at_call 48
 with_reducible refine (HTK.out _ _ g c hP5).mono ?_
 rintro E w6 ⟨rfl,hB6⟩
 have q0:=(HK.blk_set K0.out 0 (.slice aa an ac))
 have q1:=(HK.blk_set_other K1.out (p:=⟨w.heap.size,0,none⟩) M01.out.symm (.slice aa an ac))
 have q2:=(HK.blk_set_other K2.out (p:=⟨w.heap.size,0,none⟩) M02.out.symm (.slice aa an ac))
 have hk0:=(hB6.block _ (HK.blk_lt q0)).trans q0
 have hk1:=(hB6.block _ (HK.blk_lt q1)).trans q1
 have hk2:=(hB6.block _ (HK.blk_lt q2)).trans q2
 have c0:=HK.blk_cell hk0 0
 have fc0:=HK.blk_frozen hk0 0
 have d0:=HK.blk_cell hk1 0
 have e0:=HK.blk_cell hk2 0
 have fd0:=HK.blk_frozen hk1 0
 have fe0:=HK.blk_frozen hk2 0
 have J0:=hid hk0
 have J1:=hid hk1
 have J2:=hid hk2
 have HB6:=hid hB6
 clear hP5 hB6 q0 q1 q2 hk0 hk1 hk2
 go_wp2_with (fail)
 refine leaves_cons (f:=73) (args:=#[.pointer (some ⟨w.heap.size,0,none⟩),.pointer (some ⟨w.heap.size + 1,0,none⟩),.pointer (some ⟨w.heap.size + 1 + 1,0,none⟩)]) (by simp) (by simp [go_sem]) ?_
 refine (catch_idleL _ _ _ _).mono ?_
 rintro e9 u' w8 ⟨rfl,rfl,rfl⟩
 have g0:=HK.blk_alloc (HK.blk_set_other (HK.blk_set_other (HK.blk_set J0.out 0 (.slice aa an ac)) (p:=⟨w.heap.size + 1,0,none⟩) M01.out (.int .i64 0)) (p:=⟨w.heap.size + 1 + 1,0,none⟩) M02.out (.int .i64 0)) (.cells #[.int .i64 0,.int .i64 0] 81)
 have g1:=HK.blk_alloc (HK.blk_set_other (HK.blk_set (HK.blk_set_other J1.out (p:=⟨w.heap.size,0,none⟩) M01.out.symm (.slice aa an ac)) 0 (.int .i64 0)) (p:=⟨w.heap.size + 1 + 1,0,none⟩) M12.out (.int .i64 0)) (.cells #[.int .i64 0,.int .i64 0] 81)
 have g2:=HK.blk_alloc (HK.blk_set (HK.blk_set_other (HK.blk_set_other J2.out (p:=⟨w.heap.size,0,none⟩) M02.out.symm (.slice aa an ac)) (p:=⟨w.heap.size + 1,0,none⟩) M12.out.symm (.int .i64 0)) 0 (.int .i64 0)) (.cells #[.int .i64 0,.int .i64 0] 81)
 refine ⟨_,results_cells3 (p:=6) (u:=7) (v:=8) (ty:=26) (tu:=3) (tv:=29) (by kernel_rfl) _ _ ⟨w.heap.size,0,none⟩ ⟨w.heap.size + 1,0,none⟩ ⟨w.heap.size + 1 + 1,0,none⟩ _ _ _ rfl rfl rfl (load_sl g0) (load_num 3 (.inl rfl) g1 ⟨_,rfl⟩) (load_num 29 (.inr rfl) g2 ⟨_,rfl⟩),?_⟩
 have hB4:Below w.heap.size w w4:=(((HBW.out.setCell (p:=⟨w.heap.size + 1,0,none⟩) (by simp) _).setCell (p:=⟨w.heap.size + 1 + 1,0,none⟩) (by show w.heap.size <= w.heap.size + 1 + 1; omega) _).alloc (by simp; have:=HBW.out.size; omega) _).trans (HF4.out.below (by simp; have:=HBW.out.size; omega) (fun k hk => by have:=HBW.out.size; omega))
 have hB5:=(hB4.setCell (p:=⟨w.heap.size,0,none⟩) (Nat.le_refl _) (.slice aa an ac))
 have hB6':=hB5.trans (HB6.out.mono (by simp; exact hB4.size))
 have hB7:=(hB6'.setCell (p:=⟨w.heap.size,0,none⟩) (Nat.le_refl _) (.slice aa an ac))
 have hB8:=((hB7.setCell (p:=⟨w.heap.size + 1,0,none⟩) (by simp) (.int .i64 0)).setCell (p:=⟨w.heap.size + 1 + 1,0,none⟩) (by show w.heap.size <= w.heap.size + 1 + 1; omega) (.int .i64 0)).alloc (by simp; exact hB6'.size) (.cells #[.int .i64 0,.int .i64 0] 81)
 refine ⟨hB8,_,rfl,HVV.out.turn ?_⟩
 have hl1:=HGG.out
 have u0:Up _ w.heap.size w4 w4:=⟨(by simp; omega:w.heap.size <= (((w1.setCell ⟨w.heap.size + 1,0,none⟩ (.int .i64 0)).setCell ⟨w.heap.size + 1 + 1,0,none⟩ (.int .i64 0)).alloc (.cells #[.slice (some ⟨g,0,none⟩) ts.length c,.int .i64 0,.int .i64 0,.bool m] 84)).heap.size),Nat.le_refl _,fun _ _ _ => rfl⟩
 have u1:=((u0.set (a:=⟨w.heap.size,0,none⟩) (by simp; omega) (.slice aa an ac))).below HB6.out
 exact (((u1.set (a:=⟨w.heap.size,0,none⟩) (by simp; omega) (.slice aa an ac)).set (a:=⟨w.heap.size + 1,0,none⟩) (by simp; omega) (.int .i64 0)).set (a:=⟨w.heap.size + 1 + 1,0,none⟩) (by simp; omega) (.int .i64 0)).alloc _
set_option maxRecDepth 100000 in
set_option maxHeartbeats 4000000 in
theorem readL_tail (w:World) (s:ByteArray) (m:Bool) (hs:s.size <= 16384) (hG:Signs w) (hV:IsLv w) (ts:List Tok) (p:Nat) (hL:LexL 0 (bys s) ts p 0) {n' n k:Nat} {f:List Fm} (hr:runFs m ts n' n 0 = some (.ok f k)) (hk:(tkA ts k).k ≠ 5) :
  Calls Tryz.prog 41 #[.string s,.bool m,.func (.func 42) #[] #[]] w fun E W' => Below w.heap.size w W' /\ E = .returned (.tuple #[.slice none 0 0,.int .i64 ((tkA ts k).p:Int),.int .i64 50]):=by
 have hT:=tsok_of_lex (l:=bys s) hs hL
 have HLX:Hid (∀ W,Signs W -> Calls Tryz.prog 46 #[.string s] W fun E W' => Below W.heap.size W W' /\ ∃ g c,E = .returned (.tuple #[.slice (some ⟨g,0,none⟩) ts.length c,.int .i64 0,.int .i64 0]) /\ W.heap.size <= g /\ g < W'.heap.size /\ TK W' g ts):=hid fun W hW => lexT_any W s hs hW ts p hL
 have HR:Hid (∀ (W:World) (B g c:Nat),PSt W B g c ts (ts.length - 1) m 0 0 -> Calls Tryz.prog 42 #[.pointer (some ⟨B,0,none⟩)] W fun E W' => FJ B W W' /\ ∃ (aa:Option Addr) (an ac:Nat),E = .returned (.slice aa an ac) /\ FsV W' W.heap.size f (.slice aa an ac) /\ PSt W' B g c ts (ts.length - 1) m k 0):=hid fun W B g c h => (forms_any hT hr W h).mono fun E W' ⟨hF,⟨v,he,hv⟩,hP⟩ => by subst he; obtain ⟨aa,an,ac⟩:=v; exact ⟨hF,_,_,_,rfl,⟨⟨aa,an,ac⟩,rfl,hv⟩,hP⟩
 have HTK:Hid (∀ (W:World) (B g c:Nat),PSt W B g c ts (ts.length - 1) m k 0 -> Calls Tryz.prog 48 #[.pointer (some ⟨B,0,none⟩)] W fun E W' => E = .returned (.agg #[.int .u8 (tkA ts k).k,.string (tkA ts k).t,.int .i64 ((tkA ts k).p:Int)]) /\ Below W.heap.size W W'):=hid fun W B g c h => token_any hT h
 have HFL:Hid (∀ (W:World) (B g c:Nat),PSt W B g c ts (ts.length - 1) m k 0 -> Calls Tryz.prog 49 #[.pointer (some ⟨B,0,none⟩),.int .i64 50] W fun E W' => E = .panicked [{ v:=.iface 81 (.agg #[.int .i64 ((tkA ts k).p:Int),.int .i64 50]),recovered:=false }] /\ Below W.heap.size W W'):=hid fun W B g c h => fail_any hT h 50
 obtain ⟨tkp,htkp⟩:∃ x,x = (tkA ts k).p:=⟨_,rfl⟩
 obtain ⟨tkt,htkt⟩:∃ x,x = (tkA ts k).t:=⟨_,rfl⟩
 obtain ⟨tkk,htkk⟩:∃ x,x = (tkA ts k).k:=⟨_,rfl⟩
 rw [<- htkk] at hk
 simp only [<- htkp,<- htkt,<- htkk] at HTK HFL ⊢
 have ek:(tkk != 5) = true:=by simp [hk]
 clear htkp htkt htkk hk
 have hmf:∀ (fn:Fn) (first cap:Array Value) (w:World),(Instr.makeFunc fn first cap).run Tryz.prog w = .ok (.func fn first cap) w:=fun _ _ _ _ => rfl
 have fl:=fld0
 have HG:=hid hG
 have HV:=hid hV
 have HZ:=hid (show 0 < ts.length by rw [hT.en.len]; omega)
 clear hG hV hL hs hT hr
 have m01:w.heap.size ≠ w.heap.size + 1:=by omega
 have m02:w.heap.size ≠ w.heap.size + 1 + 1:=by omega
 have m12:w.heap.size + 1 ≠ w.heap.size + 1 + 1:=by omega
 have M01:=hid m01
 have M02:=hid m02
 have M12:=hid m12
 clear m01 m02 m12
 go_enter_defers Tryz.func41,Tryz.ntmps41
 go_wp2_with (fail)
 go_at_call 46
 ((with_reducible refine (HLX.out _ (HG.out.below ((((Below.refl _ w).alloc (Nat.le_refl _) _).alloc (by simp) _).alloc (by simp; omega) _))).mono ?_); rintro E w1 ⟨hB,g,c,rfl,hg1,hg2,hTK⟩; have hb0:=(hB.block w.heap.size (by simp; omega)).trans (three_new w (.cells #[.slice none 0 0] 26) (.cells #[.int .i64 0] 3) (.cells #[.int .i64 0] 29)).1; have hb1:=(hB.block (w.heap.size + 1) (by simp)).trans (three_new w (.cells #[.slice none 0 0] 26) (.cells #[.int .i64 0] 3) (.cells #[.int .i64 0] 29)).2.1; have hb2:=(hB.block (w.heap.size + 1 + 1) (by simp)).trans (three_new w (.cells #[.slice none 0 0] 26) (.cells #[.int .i64 0] 3) (.cells #[.int .i64 0] 29)).2.2; have d0:=HK.blk_cell hb1 0; have e0:=HK.blk_cell hb2 0; have fd0:=HK.blk_frozen hb1 0; have fe0:=HK.blk_frozen hb2 0; have H0:=hid hb0; have H1:=hid hb1; have H2:=hid hb2; have HTK1:=hid hTK; have HGG:Hid (w.heap.size + 3 <= g /\ g < w1.heap.size):=hid ⟨by simpa using hg1,hg2⟩; have HBW:Hid (Below w.heap.size w w1):=hid (((((Below.refl _ w).alloc (Nat.le_refl _) (.cells #[.slice none 0 0] 26)).alloc (by simp) (.cells #[.int .i64 0] 3)).alloc (by simp; omega) (.cells #[.int .i64 0] 29)).trans (hB.mono (by simp; omega))); clear hb0 hb1 hb2 hB hg1 hg2 hTK)
 go_wp2_with (fail)
 have hPS:PSt (((w1.setCell ⟨w.heap.size + 1,0,none⟩ (.int .i64 0)).setCell ⟨w.heap.size + 1 + 1,0,none⟩ (.int .i64 0)).alloc (.cells #[.slice (some ⟨g,0,none⟩) ts.length c,.int .i64 0,.int .i64 0,.bool m] 84)) w1.heap.size g c ts (ts.length - 1) m 0 0:=by
  have hg:=HGG.out
  have hv1:=HV.out.pos
  refine ⟨?_,?_,?_,⟨by omega,by omega⟩,by simp; omega,by omega,by omega⟩
  ·have:=HK.blk_new ((w1.setCell ⟨w.heap.size + 1,0,none⟩ (.int .i64 0)).setCell ⟨w.heap.size + 1 + 1,0,none⟩ (.int .i64 0)) (.cells #[.slice (some ⟨g,0,none⟩) ts.length c,.int .i64 0,.int .i64 0,.bool m] 84)
   simpa using this
  ·exact HTK1.out.turn (by rw [Below.heap_alloc _ _ _ (by simp; omega),Below.heap_setCell _ _ _ _ (by show g ≠ w.heap.size + 1 + 1; omega),Below.heap_setCell _ _ _ _ (by show g ≠ w.heap.size + 1; omega)])
  ·exact (HV.out.turn (HBW.out.block 0 HV.out.pos)).turn (by rw [Below.heap_alloc _ _ _ (by simp; omega),Below.heap_setCell _ _ _ _ (by show 0 ≠ w.heap.size + 1 + 1; omega),Below.heap_setCell _ _ _ _ (by show 0 ≠ w.heap.size + 1; omega)])
 go_at_call 42
 with_reducible refine (HR.out _ _ g c hPS).mono ?_
 rintro E w4 ⟨hF,aa,an,ac,rfl,hv,hP⟩
 have hl1:=HGG.out
 have hb0:=hF.heap (HK.blk_alloc (HK.blk_set_other (HK.blk_set_other H0.out (p:=⟨w.heap.size + 1,0,none⟩) M01.out (.int .i64 0)) (p:=⟨w.heap.size + 1 + 1,0,none⟩) M02.out (.int .i64 0)) _) (by omega)
 have hb1:=hF.heap (HK.blk_alloc (HK.blk_set_other (HK.blk_set H1.out 0 (.int .i64 0)) (p:=⟨w.heap.size + 1 + 1,0,none⟩) M12.out (.int .i64 0)) _) (by omega)
 have hb2:=hF.heap (HK.blk_alloc (HK.blk_set (HK.blk_set_other H2.out (p:=⟨w.heap.size + 1,0,none⟩) M12.out.symm (.int .i64 0)) 0 (.int .i64 0)) _) (by omega)
 have c0:=HK.blk_cell hb0 0
 have fc0:=HK.blk_frozen hb0 0
 have d0:=HK.blk_cell hb1 0
 have e0:=HK.blk_cell hb2 0
 have fd0:=HK.blk_frozen hb1 0
 have fe0:=HK.blk_frozen hb2 0
 have K0:=hid hb0
 have K1:=hid hb1
 have K2:=hid hb2
 have HF4:=hid hF
 have HVV:=hid hv
 have HNE:Hid (w.heap.size ≠ w1.heap.size /\ w.heap.size ≠ g /\ w.heap.size ≠ 0):=hid ⟨by omega,by omega,by have:=HV.out.pos; omega⟩
 have HP:=hid hP
 clear hb0 hb1 hb2 hF hv hP hl1 hPS
 go_wp2_with (fail)
 have hP5:=(HP.out.other (a:=⟨w.heap.size,0,none⟩) HNE.out.1 HNE.out.2.1 HNE.out.2.2 (.slice aa an ac))
 go_at_call 48
 with_reducible refine (HTK.out _ _ g c hP5).mono ?_
 rintro E w6 ⟨rfl,hB6⟩
 have q0:=(HK.blk_set K0.out 0 (.slice aa an ac))
 have q1:=(HK.blk_set_other K1.out (p:=⟨w.heap.size,0,none⟩) M01.out.symm (.slice aa an ac))
 have q2:=(HK.blk_set_other K2.out (p:=⟨w.heap.size,0,none⟩) M02.out.symm (.slice aa an ac))
 have hk0:=(hB6.block _ (HK.blk_lt q0)).trans q0
 have hk1:=(hB6.block _ (HK.blk_lt q1)).trans q1
 have hk2:=(hB6.block _ (HK.blk_lt q2)).trans q2
 have c0:=HK.blk_cell hk0 0
 have fc0:=HK.blk_frozen hk0 0
 have d0:=HK.blk_cell hk1 0
 have e0:=HK.blk_cell hk2 0
 have fd0:=HK.blk_frozen hk1 0
 have fe0:=HK.blk_frozen hk2 0
 have J0:=hid hk0
 have J1:=hid hk1
 have J2:=hid hk2
 have HB6:=hid hB6
 have hP6:=hP5.below hB6
 clear hP5 hB6 q0 q1 q2 hk0 hk1 hk2
 go_wp2_with (fail)
 go_at_call 49
 with_reducible refine (HFL.out _ _ g c hP6).mono ?_
 rintro E w7 ⟨rfl,hB7⟩
 have hB4:Below w.heap.size w w4:=(((HBW.out.setCell (p:=⟨w.heap.size + 1,0,none⟩) (by simp) _).setCell (p:=⟨w.heap.size + 1 + 1,0,none⟩) (by show w.heap.size <= w.heap.size + 1 + 1; omega) _).alloc (by simp; have:=HBW.out.size; omega) _).trans (HF4.out.below (by simp; have:=HBW.out.size; omega) (fun k hk => by have:=HBW.out.size; omega))
 have hB5:=(hB4.setCell (p:=⟨w.heap.size,0,none⟩) (Nat.le_refl _) (.slice aa an ac))
 have hB6':=hB5.trans (HB6.out.mono (by simp; exact hB4.size))
 have hB7':=hB6'.trans (hB7.mono hB6'.size)
 have l0:=(hB7.block _ (HK.blk_lt J0.out)).trans J0.out
 have l1:=(hB7.block _ (HK.blk_lt J1.out)).trans J1.out
 have l2:=(hB7.block _ (HK.blk_lt J2.out)).trans J2.out
 refine leaves_cons (f:=73) (args:=#[.pointer (some ⟨w.heap.size,0,none⟩),.pointer (some ⟨w.heap.size + 1,0,none⟩),.pointer (some ⟨w.heap.size + 1 + 1,0,none⟩)]) (by simp) (by simp [go_sem]) ?_
 refine (catch_failL _ _ _ (tkp:Int) 50 [] w7 _ _ _ l0 l1 l2 M01.out M02.out M12.out).mono ?_
 rintro e9 u' w8 ⟨rfl,rfl,g0,g1,g2,hF8⟩
 refine ⟨_,results_cells3 (p:=6) (u:=7) (v:=8) (ty:=26) (tu:=3) (tv:=29) (by kernel_rfl) _ _ ⟨w.heap.size,0,none⟩ ⟨w.heap.size + 1,0,none⟩ ⟨w.heap.size + 1 + 1,0,none⟩ _ _ _ rfl rfl rfl (load_sl g0) (load_num 3 (.inl rfl) g1 ⟨_,rfl⟩) (load_num 29 (.inr rfl) g2 ⟨_,rfl⟩),?_⟩
 refine ⟨?_,rfl⟩
 exact (hB7').trans (hF8.below (hB7'.size) (fun k hk => by rcases hk with rfl | rfl | rfl <;> omega))
set_option maxRecDepth 100000 in
set_option maxHeartbeats 4000000 in
theorem readL_bad (w:World) (s:ByteArray) (m:Bool) (hs:s.size <= 16384) (hG:Signs w) (hV:IsLv w) (ts:List Tok) (p:Nat) (hL:LexL 0 (bys s) ts p 0) {n' n k:Nat} {e:Nat} (hr:runFs m ts n' n 0 = some (.bad k e)) :
  Calls Tryz.prog 41 #[.string s,.bool m,.func (.func 42) #[] #[]] w fun E W' => Below w.heap.size w W' /\ E = .returned (.tuple #[.slice none 0 0,.int .i64 ((tkA ts k).p:Int),.int .i64 (e:Int)]):=by
 have hT:=tsok_of_lex (l:=bys s) hs hL
 have HLX:Hid (∀ W,Signs W -> Calls Tryz.prog 46 #[.string s] W fun E W' => Below W.heap.size W W' /\ ∃ g c,E = .returned (.tuple #[.slice (some ⟨g,0,none⟩) ts.length c,.int .i64 0,.int .i64 0]) /\ W.heap.size <= g /\ g < W'.heap.size /\ TK W' g ts):=hid fun W hW => lexT_any W s hs hW ts p hL
 have HR:Hid (∀ (W:World) (B g c:Nat),PSt W B g c ts (ts.length - 1) m 0 0 -> Calls Tryz.prog 42 #[.pointer (some ⟨B,0,none⟩)] W fun E W' => FJ B W W' /\ E = .panicked [{ v:=.iface 81 (.agg #[.int .i64 ((tkA ts k).p:Int),.int .i64 (e:Int)]),recovered:=false }]):=hid fun W B g c h => forms_any hT hr W h
 obtain ⟨tkp,htkp⟩:∃ x,x = (tkA ts k).p:=⟨_,rfl⟩
 simp only [<- htkp] at HR ⊢
 clear htkp
 have hmf:∀ (fn:Fn) (first cap:Array Value) (w:World),(Instr.makeFunc fn first cap).run Tryz.prog w = .ok (.func fn first cap) w:=fun _ _ _ _ => rfl
 have fl:=fld0
 have HG:=hid hG
 have HV:=hid hV
 have HZ:=hid (show 0 < ts.length by rw [hT.en.len]; omega)
 clear hG hV hL hs hT hr
 have m01:w.heap.size ≠ w.heap.size + 1:=by omega
 have m02:w.heap.size ≠ w.heap.size + 1 + 1:=by omega
 have m12:w.heap.size + 1 ≠ w.heap.size + 1 + 1:=by omega
 have M01:=hid m01
 have M02:=hid m02
 have M12:=hid m12
 clear m01 m02 m12
 go_enter_defers Tryz.func41,Tryz.ntmps41
 go_wp2_with (fail)
 go_at_call 46
 ((with_reducible refine (HLX.out _ (HG.out.below ((((Below.refl _ w).alloc (Nat.le_refl _) _).alloc (by simp) _).alloc (by simp; omega) _))).mono ?_); rintro E w1 ⟨hB,g,c,rfl,hg1,hg2,hTK⟩; have hb0:=(hB.block w.heap.size (by simp; omega)).trans (three_new w (.cells #[.slice none 0 0] 26) (.cells #[.int .i64 0] 3) (.cells #[.int .i64 0] 29)).1; have hb1:=(hB.block (w.heap.size + 1) (by simp)).trans (three_new w (.cells #[.slice none 0 0] 26) (.cells #[.int .i64 0] 3) (.cells #[.int .i64 0] 29)).2.1; have hb2:=(hB.block (w.heap.size + 1 + 1) (by simp)).trans (three_new w (.cells #[.slice none 0 0] 26) (.cells #[.int .i64 0] 3) (.cells #[.int .i64 0] 29)).2.2; have d0:=HK.blk_cell hb1 0; have e0:=HK.blk_cell hb2 0; have fd0:=HK.blk_frozen hb1 0; have fe0:=HK.blk_frozen hb2 0; have H0:=hid hb0; have H1:=hid hb1; have H2:=hid hb2; have HTK1:=hid hTK; have HGG:Hid (w.heap.size + 3 <= g /\ g < w1.heap.size):=hid ⟨by simpa using hg1,hg2⟩; have HBW:Hid (Below w.heap.size w w1):=hid (((((Below.refl _ w).alloc (Nat.le_refl _) (.cells #[.slice none 0 0] 26)).alloc (by simp) (.cells #[.int .i64 0] 3)).alloc (by simp; omega) (.cells #[.int .i64 0] 29)).trans (hB.mono (by simp; omega))); clear hb0 hb1 hb2 hB hg1 hg2 hTK)
 go_wp2_with (fail)
 have hPS:PSt (((w1.setCell ⟨w.heap.size + 1,0,none⟩ (.int .i64 0)).setCell ⟨w.heap.size + 1 + 1,0,none⟩ (.int .i64 0)).alloc (.cells #[.slice (some ⟨g,0,none⟩) ts.length c,.int .i64 0,.int .i64 0,.bool m] 84)) w1.heap.size g c ts (ts.length - 1) m 0 0:=by
  have hg:=HGG.out
  have hv1:=HV.out.pos
  refine ⟨?_,?_,?_,⟨by omega,by omega⟩,by simp; omega,by omega,by omega⟩
  ·have:=HK.blk_new ((w1.setCell ⟨w.heap.size + 1,0,none⟩ (.int .i64 0)).setCell ⟨w.heap.size + 1 + 1,0,none⟩ (.int .i64 0)) (.cells #[.slice (some ⟨g,0,none⟩) ts.length c,.int .i64 0,.int .i64 0,.bool m] 84)
   simpa using this
  ·exact HTK1.out.turn (by rw [Below.heap_alloc _ _ _ (by simp; omega),Below.heap_setCell _ _ _ _ (by show g ≠ w.heap.size + 1 + 1; omega),Below.heap_setCell _ _ _ _ (by show g ≠ w.heap.size + 1; omega)])
  ·exact (HV.out.turn (HBW.out.block 0 HV.out.pos)).turn (by rw [Below.heap_alloc _ _ _ (by simp; omega),Below.heap_setCell _ _ _ _ (by show 0 ≠ w.heap.size + 1 + 1; omega),Below.heap_setCell _ _ _ _ (by show 0 ≠ w.heap.size + 1; omega)])
 go_at_call 42
 with_reducible refine (HR.out _ _ g c hPS).mono ?_
 rintro E w4 ⟨hF,rfl⟩
 have hl1:=HGG.out
 have hb0:=hF.heap (HK.blk_alloc (HK.blk_set_other (HK.blk_set_other H0.out (p:=⟨w.heap.size + 1,0,none⟩) M01.out (.int .i64 0)) (p:=⟨w.heap.size + 1 + 1,0,none⟩) M02.out (.int .i64 0)) _) (by omega)
 have hb1:=hF.heap (HK.blk_alloc (HK.blk_set_other (HK.blk_set H1.out 0 (.int .i64 0)) (p:=⟨w.heap.size + 1 + 1,0,none⟩) M12.out (.int .i64 0)) _) (by omega)
 have hb2:=hF.heap (HK.blk_alloc (HK.blk_set (HK.blk_set_other H2.out (p:=⟨w.heap.size + 1,0,none⟩) M12.out.symm (.int .i64 0)) 0 (.int .i64 0)) _) (by omega)
 have HF4:=hid hF
 have hB4:Below w.heap.size w w4:=(((HBW.out.setCell (p:=⟨w.heap.size + 1,0,none⟩) (by simp) _).setCell (p:=⟨w.heap.size + 1 + 1,0,none⟩) (by show w.heap.size <= w.heap.size + 1 + 1; omega) _).alloc (by simp; have:=HBW.out.size; omega) _).trans (HF4.out.below (by simp; have:=HBW.out.size; omega) (fun k hk => by have:=HBW.out.size; omega))
 refine leaves_cons (f:=73) (args:=#[.pointer (some ⟨w.heap.size,0,none⟩),.pointer (some ⟨w.heap.size + 1,0,none⟩),.pointer (some ⟨w.heap.size + 1 + 1,0,none⟩)]) (by simp) (by simp [go_sem]) ?_
 refine (catch_failL _ _ _ (tkp:Int) (e:Int) [] w4 _ _ _ hb0 hb1 hb2 M01.out M02.out M12.out).mono ?_
 rintro e9 u' w8 ⟨rfl,rfl,g0,g1,g2,hF8⟩
 refine ⟨_,results_cells3 (p:=6) (u:=7) (v:=8) (ty:=26) (tu:=3) (tv:=29) (by kernel_rfl) _ _ ⟨w.heap.size,0,none⟩ ⟨w.heap.size + 1,0,none⟩ ⟨w.heap.size + 1 + 1,0,none⟩ _ _ _ rfl rfl rfl (load_sl g0) (load_num 3 (.inl rfl) g1 ⟨_,rfl⟩) (load_num 29 (.inr rfl) g2 ⟨_,rfl⟩),?_⟩
 refine ⟨?_,rfl⟩
 exact (hB4).trans (hF8.below (hB4.size) (fun k hk => by rcases hk with rfl | rfl | rfl <;> omega))
set_option maxRecDepth 100000 in
set_option maxHeartbeats 2000000 in
theorem readL_lexbad (w:World) (s:ByteArray) (m:Bool) (hs:s.size <= 16384) (hG:Signs w) (ts:List Tok) (p:Nat) (e:Int) (hL:LexL 0 (bys s) ts p e) (he:e ≠ 0) :
  Calls Tryz.prog 41 #[.string s,.bool m,.func (.func 42) #[] #[]] w fun E w' => E = .returned (.tuple #[.slice none 0 0,.int .i64 (p:Int),.int .i64 e]) /\ Below w.heap.size w w':=by
 have HLX:Hid (∀ W,Signs W -> Calls Tryz.prog 46 #[.string s] W (RetL W ts p e)):=hid fun W hW => lex_any W s hs hW ts p e hL
 have hmf:∀ (fn:Fn) (first cap:Array Value) (w:World),(Instr.makeFunc fn first cap).run Tryz.prog w = .ok (.func fn first cap) w:=fun _ _ _ _ => rfl
 have HG:=hid hG
 have HE:=hid he
 have he1:(e != 0) = true:=by simp [he]
 clear hG hL hs he
 unfold RetL at HLX
 go_enter_defers Tryz.func41,Tryz.ntmps41
 go_upto_region 3 with (go_at_call 46; ((with_reducible refine (HLX.out _ (HG.out.below ((((Below.refl _ w).alloc (Nat.le_refl _) _).alloc (by simp) _).alloc (by simp; omega) _))).mono ?_); rintro E w1 ⟨hB,⟨h0,_⟩ | ⟨_,rfl⟩⟩; exact absurd h0 HE.out; have hb0:=(hB.block w.heap.size (by simp; omega)).trans (three_new w (.cells #[.slice none 0 0] 26) (.cells #[.int .i64 0] 3) (.cells #[.int .i64 0] 29)).1; have hb1:=(hB.block (w.heap.size + 1) (by simp)).trans (three_new w (.cells #[.slice none 0 0] 26) (.cells #[.int .i64 0] 3) (.cells #[.int .i64 0] 29)).2.1; have hb2:=(hB.block (w.heap.size + 1 + 1) (by simp)).trans (three_new w (.cells #[.slice none 0 0] 26) (.cells #[.int .i64 0] 3) (.cells #[.int .i64 0] 29)).2.2; have c0:=HK.blk_cell hb0 0; have d0:=HK.blk_cell hb1 0; have e0:=HK.blk_cell hb2 0; have fc0:=HK.blk_frozen hb0 0; have fd0:=HK.blk_frozen hb1 0; have fe0:=HK.blk_frozen hb2 0; have H0:=hid hb0; have H1:=hid hb1; have H2:=hid hb2; have HBW:Hid (Below w.heap.size w w1):=hid (((((Below.refl _ w).alloc (Nat.le_refl _) (.cells #[.slice none 0 0] 26)).alloc (by simp) (.cells #[.int .i64 0] 3)).alloc (by simp; omega) (.cells #[.int .i64 0] 29)).trans (hB.mono (by simp; omega)))))
 go_region
 go_wp2
 have m01:w.heap.size ≠ w.heap.size + 1:=by omega
 have m02:w.heap.size ≠ w.heap.size + 1 + 1:=by omega
 have m12:w.heap.size + 1 ≠ w.heap.size + 1 + 1:=by omega
 have g0:=HK.blk_set_other (HK.blk_set_other (HK.blk_set (HK.blk_set_other (HK.blk_set_other H0.out (p:=⟨w.heap.size + 1,0,none⟩) m01 (.int .i64 (p:Int))) (p:=⟨w.heap.size + 1 + 1,0,none⟩) m02 (.int .i64 e)) 0 (.slice none 0 0)) (p:=⟨w.heap.size + 1,0,none⟩) m01 (.int .i64 (p:Int))) (p:=⟨w.heap.size + 1 + 1,0,none⟩) m02 (.int .i64 e)
 refine ⟨_,results_cells3 (p:=6) (u:=7) (v:=8) (ty:=26) (tu:=3) (tv:=29) (by kernel_rfl) _ _ ⟨w.heap.size,0,none⟩ ⟨w.heap.size + 1,0,none⟩ ⟨w.heap.size + 1 + 1,0,none⟩ _ _ _ rfl rfl rfl (load_sl (HK.blk_drew g0)) ?_ ?_,rfl,?_⟩
 ·have q:=HK.blk_set (HK.blk_set_other (HK.blk_set_other (HK.blk_set H1.out 0 (.int .i64 (p:Int))) (p:=⟨w.heap.size + 1 + 1,0,none⟩) m12 (.int .i64 e)) (p:=⟨w.heap.size,0,none⟩) m01.symm (.slice none 0 0)) 0 (.int .i64 (p:Int))
  exact load_num 3 (.inl rfl) (HK.blk_drew (HK.blk_set_other q (p:=⟨w.heap.size + 1 + 1,0,none⟩) m12 _)) ⟨_,rfl⟩
 ·have q:=HK.blk_set (HK.blk_set_other (HK.blk_set_other (HK.blk_set (HK.blk_set_other H2.out (p:=⟨w.heap.size + 1,0,none⟩) m12.symm (.int .i64 (p:Int))) 0 (.int .i64 e)) (p:=⟨w.heap.size,0,none⟩) m02.symm (.slice none 0 0)) (p:=⟨w.heap.size + 1,0,none⟩) m12.symm (.int .i64 (p:Int))) 0 (.int .i64 e)
  exact load_num 29 (.inr rfl) (HK.blk_drew q) ⟨_,rfl⟩
 ·exact (((((HBW.out.setCell (p:=⟨w.heap.size + 1,0,none⟩) (by simp) _).setCell (p:=⟨w.heap.size + 1 + 1,0,none⟩) (by show w.heap.size <= w.heap.size + 1 + 1; omega) _).setCell (p:=⟨w.heap.size,0,none⟩) (Nat.le_refl _) _).setCell (p:=⟨w.heap.size + 1,0,none⟩) (by simp) _).setCell (p:=⟨w.heap.size + 1 + 1,0,none⟩) (by show w.heap.size <= w.heap.size + 1 + 1; omega) _).drew
end Go.Proofs.YtdobflpbkfkmgaaGreatDoor
