import Derived.Test.YtdobflpbkfkmgaaGreatDoorR4
import Derived.Test.YtdobflpbkfkmgaaGreatDoorMaw
namespace Go.Proofs.YtdobflpbkfkmgaaGreatDoor
open Go.RowKit Go.HK Go.FR Lib
set_option linter.unusedVariables false
set_option linter.unusedSimpArgs false
set_option linter.unusedSectionVars false
theorem infoTk:(Tryz.prog.info? 100).map (fun i => (i.zero,i.size,i.bytes)) = some (some (.agg #[.int .u8 0,.string ⟨#[]⟩,.int .i64 0]),3,32):=by kernel_rfl
theorem elemTk:ElemOk Tryz.prog 64 100 3 32:=.mk' Tryz.underlying64 infoTk rfl (by omega)
theorem tk_of_r {W:World} {base g c:Nat} {ts:List Tok} (h:W.ownsRow base 100 3 (.slice (some ⟨g,0,none⟩) ts.length c) ts.length (flatT ts)):TK W g ts:=by
 have hat:∀ (i j:Nat) t,ts[i]? = some t -> j < 3 -> W.cell? ⟨g,i * 3 + j,none⟩ = [Value.int .u8 t.k,.string t.t,.int .i64 (t.p:Int)][j]?:=fun i j t ht hj => by
  have hl:i < ts.length:=(List.getElem?_eq_some_iff.1 ht).1
  rw [h.cellAt (i * 3 + j) (by omega)]
  exact flat_get (fun t:Tok => [Value.int .u8 t.k,.string t.t,.int .i64 (t.p:Int)]) 3 (fun _ => rfl) ts i j t ht hj
 exact ⟨fun i t ht => hat i 0 t ht (by omega),fun i t ht => hat i 1 t ht (by omega),fun i t ht => hat i 2 t ht (by omega)⟩
theorem own_cap {w:World} {b e size n:Nat} {g c:Nat} {xs:List Value} (h:w.ownsRow b e size (.slice (some ⟨g,0,none⟩) n c) n xs):n <= c:=by
 rcases h.2 with ⟨h0,_⟩ | ⟨g',cap,cur,he,_,_,hn,_⟩
 ·cases h0
 ·cases he; exact hn
theorem flatT_snoc (xs:List Tok) (t:Tok):flatT (xs ++ [t]) = flatT xs ++ [.int .u8 t.k,.string t.t,.int .i64 t.p]:=by simp [flatT]
def RetLx (w:World) (ts:List Tok) (p:Nat) (er:Int) (E:Ending) (W':World):Prop:=Below w.heap.size w W' /\ ((er = 0 /\ ∃ g c,E = .returned (.tuple #[.slice (some ⟨g,0,none⟩) ts.length c,.int .i64 0,.int .i64 0]) /\ TK W' g ts /\ g < W'.heap.size /\ w.heap.size <= g /\ ts.length <= c) ∨
 (er ≠ 0 /\ E = .returned (.tuple #[.slice none 0 0,.int .i64 (p:Int),.int .i64 er])))
theorem lex_tok {j:Nat} {c:UInt8} {l:List UInt8} {rest:List Tok} {p:Nat} {e:Int} (h:LexL j (c :: l) rest p e) (hb:blL c = false) :
  ((readL c l).e ≠ 0 /\ rest = [] /\ p = j /\ e = (readL c l).e) ∨ ((readL c l).e = 0 /\ ∃ r rest',c :: l = bys (readL c l).t ++ r /\ rest = ⟨(readL c l).k,(readL c l).t,j⟩ :: rest' /\ LexL (j + (readL c l).t.size) r rest' p e):=by
 cases h with
 | blank h1 _ => rw [hb] at h1; cases h1
 | bad h1 h2 => exact .inl ⟨h2,rfl,rfl,rfl⟩
 | tok h1 h2 h3 h4 => exact .inr ⟨h2,_,_,h3,rfl,h4⟩
theorem tok_size {c:UInt8} {l:List UInt8} (h:(readL c l).e = 0):1 <= (readL c l).t.size:=by
 obtain ⟨r,hr⟩:=read_ok h
 have:(bys (readL c l).t).length ≠ 0:=fun e => hr.ne (List.length_eq_zero_iff.1 e)
 have e:(bys (readL c l).t).length = (readL c l).t.size:=rfl
 omega
set_option maxRecDepth 100000 in
theorem drop_ext {s:ByteArray} {j:Nat} (hj:j <= s.size):bys (s.extract j s.size) = (bys s).drop j:=by
 unfold bys
 rw [ByteArray.data_extract]
 simp
 rw [List.take_of_length_le]
 have:s.data.toList.length = s.size:=rfl
 rw [List.length_drop]; omega
set_option maxRecDepth 100000 in
theorem ext_tok {s t:ByteArray} {j:Nat} {r:List UInt8} (h:(bys s).drop j = bys t ++ r):s.extract j (j + t.size) = t:=by
 apply bys_inj.1
 have e:bys (s.extract j (j + t.size)) = ((bys s).drop j).take t.size:=by
  unfold bys
  rw [ByteArray.data_extract]
  simp
 rw [e,h,show t.size = (bys t).length from rfl,List.take_append_of_le_length (Nat.le_refl (bys t).length),List.take_of_length_le (Nat.le_refl _)]
set_option maxRecDepth 100000 in
set_option maxHeartbeats 8000000 in
theorem rlex_call (w:World) (s:ByteArray) (hs:s.size <= 16384) {ts:List Tok} {p:Nat} {er:Int} (hL:LexL 0 (bys s) ts p er):Calls Tryz.prog 35 #[.string s] w (RetLx w ts p er):=by
 have hsz:(s.size:Int) <= 16384:=by omega
 have hlen:(bys s).length = s.size:=rfl
 have HL:=hid hL
 have HS:=hid hs
 have HLEN:=hid hlen
 clear hL hs hlen
 go_enter Tryz.func35,Tryz.ntmps35
 go_wp2_with (fail)
 go_loopw [5,6] (fun v i wr => ∃ (v5:Value) (j:Nat) (pre rest:List Tok),v5 = v /\ j <= s.size /\ i = .int .i64 j /\ LexL j ((bys s).drop j) rest p er /\ ts = pre ++ rest /\ pre.length <= j /\ wr.ownsRow w.heap.size 100 3 v5 pre.length (flatT pre) /\ Below w.heap.size w wr) (fun _ i _ => s.size - (intOf i).toNat)
 case atStart => exact ⟨_,0,[],ts,rfl,by omega,rfl,by simpa using HL.out,rfl,Nat.le_refl _,World.ownsRow_nil _ _ _ _,Below.refl _ _⟩
 case round =>
  obtain ⟨v5,j,pre,rest,rfl,hj,rfl,hR,hts,hpl,hown,hB⟩:=hrel
  have hB1:=hB.size
  have HB:=hid hB
  have HOW:=hid hown
  have HR:=hid hR
  have HTS:=hid hts
  have hp6:pre.length <= 16384:=by omega
  obtain ⟨M,hM⟩:∃ M,M = pre.length:=⟨_,rfl⟩
  have HM:=hid hM
  rw [<- hM] at hp6 hpl
  have HPL:=hid hpl
  clear hB hown hR hts hM hpl
  have j0:(0:Int) <= (j:Int):=by omega
  have ji:(j:Int) <= (s.size:Int):=by omega
  by_cases hjs:(j:Int) < (s.size:Int)
  ·have hj2:j < s.size:=by omega
   obtain ⟨c,l,hcl⟩:∃ c l,(bys s).drop j = c :: l:=by
    cases e:(bys s).drop j with
    | nil => have:=congrArg List.length e; rw [List.length_drop,HLEN.out] at this; simp at this; omega
    | cons c l => exact ⟨c,l,rfl⟩
   have hc:s[j]'hj2 = c:=by
    have h1:(bys s)[j]? = some c:=by
     have h2:=congrArg (fun x => x[0]?) hcl
     simp only [List.getElem?_drop,Nat.add_zero] at h2
     exact h2
    have h2:=(List.getElem?_eq_some_iff.1 h1).2
    rw [<- h2]; rfl
   have hn:∀ k:UInt8,((((s[j]'hj2).toNat:Nat):Int) == (k.toNat:Int)) = decide (c = k):=fun k => by
    rw [hc,Bool.eq_iff_iff]
    simp only [beq_iff_eq,decide_eq_true_eq,Int.natCast_inj]
    exact UInt8.toNat_inj
   have m0:=hn 32
   have m1:=hn 9
   have m2:=hn 10
   have m3:=hn 13
   rw [show ((((32:UInt8).toNat:Nat)):Int) = 32 from rfl] at m0
   rw [show ((((9:UInt8).toNat:Nat)):Int) = 9 from rfl] at m1
   rw [show ((((10:UInt8).toNat:Nat)):Int) = 10 from rfl] at m2
   rw [show ((((13:UInt8).toNat:Nat)):Int) = 13 from rfl] at m3
   have HCL:=hid hcl
   clear hn hc hcl
   have hbl:blL c = (decide (c = 32) || decide (c = 9) || decide (c = 10) || decide (c = 13)):=by
    have e:∀ k:UInt8,decide (c.toNat = k.toNat) = decide (c = k):=fun k => decide_eq_decide.2 UInt8.toNat_inj
    unfold blL blankB
    rw [<- e 32,<- e 9,<- e 10,<- e 13]
    rfl
   have HBL:=hid hbl
   clear hbl
   have HNX:Hid (blL c = true -> LexL (j + 1) ((bys s).drop (j + 1)) rest p er):=hid fun hb => by
    have h:=HR.out
    rw [HCL.out] at h
    have e:(bys s).drop (j + 1) = l:=by rw [<- List.drop_drop,HCL.out]; rfl
    rw [e]
    cases h with
    | blank _ h => exact h
    | bad h1 _ => rw [hb] at h1; cases h1
    | tok h1 _ _ _ => rw [hb] at h1; cases h1
   by_cases c0:c = 32
   case pos =>
    have hb:=HNX.out (by rw [HBL.out,c0]; rfl)
    have HX:=hid hb
    rw [decide_eq_true c0] at m0
    rw [decide_eq_false (by rw [c0]; decide)] at m1 m2 m3
    clear hb c0
    go_wp2_with (fail)
    go_roundw
    case rel => exact ⟨_,j + 1,pre,rest,rfl,by omega,by go_num,HX.out,HTS.out,by rw [<- HM.out]; have:=HPL.out; omega,HOW.out,HB.out⟩
    case measure => simp [intOf]; omega
   by_cases c1:c = 9
   case pos =>
    have hb:=HNX.out (by rw [HBL.out,c1]; rfl)
    have HX:=hid hb
    rw [decide_eq_true c1] at m1
    rw [decide_eq_false c0] at m0
    rw [decide_eq_false (by rw [c1]; decide)] at m2 m3
    clear hb c0 c1
    go_wp2_with (fail)
    go_roundw
    case rel => exact ⟨_,j + 1,pre,rest,rfl,by omega,by go_num,HX.out,HTS.out,by rw [<- HM.out]; have:=HPL.out; omega,HOW.out,HB.out⟩
    case measure => simp [intOf]; omega
   by_cases c2:c = 10
   case pos =>
    have hb:=HNX.out (by rw [HBL.out,c2]; rfl)
    have HX:=hid hb
    rw [decide_eq_true c2] at m2
    rw [decide_eq_false c0] at m0
    rw [decide_eq_false c1] at m1
    rw [decide_eq_false (by rw [c2]; decide)] at m3
    clear hb c0 c1 c2
    go_wp2_with (fail)
    go_roundw
    case rel => exact ⟨_,j + 1,pre,rest,rfl,by omega,by go_num,HX.out,HTS.out,by rw [<- HM.out]; have:=HPL.out; omega,HOW.out,HB.out⟩
    case measure => simp [intOf]; omega
   by_cases c3:c = 13
   case pos =>
    have hb:=HNX.out (by rw [HBL.out,c3]; rfl)
    have HX:=hid hb
    rw [decide_eq_true c3] at m3
    rw [decide_eq_false c0] at m0
    rw [decide_eq_false c1] at m1
    rw [decide_eq_false c2] at m2
    clear hb c0 c1 c2 c3
    go_wp2_with (fail)
    go_roundw
    case rel => exact ⟨_,j + 1,pre,rest,rfl,by omega,by go_num,HX.out,HTS.out,by rw [<- HM.out]; have:=HPL.out; omega,HOW.out,HB.out⟩
    case measure => simp [intOf]; omega
   have hbf:blL c = false:=by rw [HBL.out]; simp [c0,c1,c2,c3]
   have hlt:=lex_tok (by rw [<- HCL.out]; exact HR.out) hbf
   have htc:=fun W => token_call W (s.extract j s.size) c l (by rw [drop_ext hj]; exact HCL.out) (by rw [ByteArray.size_extract]; have:=HS.out; omega)
   unfold RetTk tkK tkN at htc
   rw [decide_eq_false c0] at m0
   rw [decide_eq_false c1] at m1
   rw [decide_eq_false c2] at m2
   rw [decide_eq_false c3] at m3
   have HLT:=hid hlt
   clear hbf c0 c1 c2 c3 hlt
   by_cases he:(readL c l).e = 0
   ·simp only [he,if_true] at htc
    have hok:∃ r rest',c :: l = bys (readL c l).t ++ r /\ rest = ⟨(readL c l).k,(readL c l).t,j⟩ :: rest' /\ LexL (j + (readL c l).t.size) r rest' p er:=by
     rcases HLT.out with h | h
     ·exact absurd he h.1
     ·exact h.2
    have ht1:=tok_size he
    obtain ⟨kk,hkk⟩:∃ q,q = (readL c l).k:=⟨_,rfl⟩
    obtain ⟨tt,htt⟩:∃ q,q = (readL c l).t:=⟨_,rfl⟩
    rw [<- hkk,<- htt] at htc hok
    rw [<- htt] at ht1
    obtain ⟨r,rest',h1,h2,h3⟩:=hok
    have hdr:(bys s).drop j = bys tt ++ r:=by rw [HCL.out]; exact h1
    have hext:=ext_tok hdr
    have hle:j + tt.size <= s.size:=by
     have:=congrArg List.length hdr
     rw [List.length_drop,List.length_append,HLEN.out] at this
     have e:(bys tt).length = tt.size:=rfl
     omega
    have hdr2:(bys s).drop (j + tt.size) = r:=by
     rw [<- List.drop_drop,hdr,show tt.size = (bys tt).length from rfl,List.drop_append_of_le_length (Nat.le_refl (bys tt).length),List.drop_of_length_le (Nat.le_refl _)]; rfl
    obtain ⟨nn,hnn⟩:∃ n,n = tt.size:=⟨_,rfl⟩
    rw [<- hnn] at htc hext hle hdr2 h3 ht1
    have HTC:=hid htc
    have HR2:Hid (LexL (j + nn) ((bys s).drop (j + nn)) rest' p er):=hid (by rw [hdr2]; exact h3)
    have HTS2:Hid (ts = (pre ++ [⟨kk,tt,j⟩]) ++ rest'):=hid (by rw [HTS.out,h2]; simp)
    have hji:(j:Int) + (nn:Int) <= (s.size:Int):=by omega
    have hji0:(j:Int) <= (j:Int) + (nn:Int):=by omega
    have hext2:s.extract j (((j:Int) + (nn:Int)).toNat) = tt:=by rw [show ((j:Int) + (nn:Int)).toNat = j + nn by omega]; exact hext
    have HMX:Hid (flatT (pre ++ [⟨kk,tt,j⟩]) = flatT pre ++ [.int .u8 kk,.string tt,.int .i64 (j:Int)]):=hid (flatT_snoc _ _)
    have HFL:Hid (M = pre.length):=HM
    have hrow:wr.ownsRow w.heap.size 100 3 v5 M (flatT pre):=by rw [HM.out]; exact HOW.out
    clear hdr h1 h2 h3 hdr2 hnn hkk htt htc he
    go_wp2_with (fail)
    go_at_call 64
    with_reducible refine (HTC.out _).mono ?_
    rintro _ w2 ⟨rfl,rfl⟩
    go_wp2_with (at_builtin; (refine wpList_app_any rfl elemTk _ _ rfl v5 w.heap.size M (flatT pre) rfl (hrow.alloc _) ⟨wr.heap.size,0,none⟩ 1 1 [.int .u8 kk,.string tt,.int .i64 (j:Int)] rfl rfl (fun i u hi => by rw [addr_add0,HK.blk_cell (HK.blk_new _ _),List.getElem?_toArray]; exact hi) (by intro u hu; simp at hu; rcases hu with rfl | rfl | rfl <;> rfl) (by simp only [maxLen]; omega) (by omega) (by simp; omega) ?_; intro v' w1 hown' hgrow _ _))
    go_roundw
    case rel =>
     refine ⟨_,j + nn,pre ++ [⟨kk,tt,j⟩],rest',rfl,by omega,by go_num,HR2.out,HTS2.out,by rw [List.length_append,<- HM.out]; have:=HPL.out; simp; omega,?_,?_⟩
     ·rw [HMX.out,List.length_append,<- HM.out]
      exact hown'
     ·exact ((HB.out.alloc HB.out.size _).grown hgrow (by simp; omega) (fun i e => own_ge hrow i e))
    case measure => simp [intOf]; omega
   ·simp only [he,if_false] at htc
    have hbad:rest = [] /\ p = j /\ er = (readL c l).e:=by
     rcases HLT.out with h | h
     ·exact h.2
     ·exact absurd h.1 he
    obtain ⟨_,hpj,hee⟩:=hbad
    rw [<- hee] at htc he
    have hne:(er != 0) = true:=by simp [he]
    have hne2:(er == 0) = false:=by simp [he]
    have HTC:=hid htc
    have HPJ:=hid hpj
    have HNE:=hid he
    clear htc hpj hee he
    go_wp2_with (fail)
    go_at_call 64
    with_reducible refine (HTC.out _).mono ?_
    rintro _ w2 ⟨rfl,rfl⟩
    go_wp2_with (fail)
    refine bodyPost_ret (v:=.tuple #[.slice none 0 0,.int .i64 (j:Int),.int .i64 er]) (by simp [results,Tryz.results35,go_sem]) rfl ?_
    exact ⟨HB.out,.inr ⟨HNE.out,by rw [HPJ.out]⟩⟩
  ·have hjn:j = s.size:=by omega
   have hfin:rest = [⟨5,mkS [],j⟩] /\ er = 0:=by
    have h:=HR.out
    rw [List.drop_of_length_le (by rw [HLEN.out]; omega)] at h
    cases h
    exact ⟨rfl,rfl⟩
   have HFIN:=hid hfin
   have hsn:((s.size:Nat):Int) = (j:Int):=by omega
   have HSN:=hid hsn
   have hrow:wr.ownsRow w.heap.size 100 3 v5 M (flatT pre):=by rw [HM.out]; exact HOW.out
   have HMX:Hid (flatT (pre ++ [⟨5,mkS [],j⟩]) = flatT pre ++ [.int .u8 5,.string ⟨#[]⟩,.int .i64 (s.size:Int)]):=hid (by rw [flatT_snoc,hsn]; rfl)
   clear hfin hjn hsn
   go_wp2_with (at_builtin; (refine wpList_app_any rfl elemTk _ _ rfl v5 w.heap.size M (flatT pre) rfl (hrow.alloc _) ⟨wr.heap.size,0,none⟩ 1 1 [.int .u8 5,.string ⟨#[]⟩,.int .i64 (s.size:Int)] rfl rfl (fun i u hi => by rw [addr_add0,HK.blk_cell (HK.blk_new _ _),List.getElem?_toArray]; exact hi) (by intro u hu; simp at hu; rcases hu with rfl | rfl | rfl <;> rfl) (by simp only [maxLen]; omega) (by omega) (by simp; omega) ?_; intro v' w1 hown' hgrow _ _))
   obtain ⟨g,cc,rfl,hg1,hg2⟩:=own_form9 hown' (by omega)
   refine bodyPost_ret (v:=.tuple #[.slice (some ⟨g,0,none⟩) (M + 1) cc,.int .i64 0,.int .i64 0]) (by simp [results,Tryz.results35,go_sem]) rfl ?_
   have hts2:ts = pre ++ [⟨5,mkS [],j⟩]:=by rw [HTS.out,HFIN.out.1]
   have hl2:ts.length = M + 1:=by rw [hts2,List.length_append,<- HM.out]; rfl
   have hfl:flatT ts = flatT pre ++ [.int .u8 5,.string ⟨#[]⟩,.int .i64 (s.size:Int)]:=by rw [hts2]; exact HMX.out
   have hcap:M + 1 <= cc:=own_cap hown'
   refine ⟨((HB.out.alloc HB.out.size _).grown hgrow (by simp; omega) (fun i e => own_ge hrow i e)),.inl ⟨HFIN.out.2,g,cc,by rw [hl2],tk_of_r (c:=cc) (by rw [hl2,hfl]; exact hown'),hg2,hg1,by rw [hl2]; exact hcap⟩⟩
end Go.Proofs.YtdobflpbkfkmgaaGreatDoor
