import Derived.Test.YtdobflpbkfkmgaaGreatDoorPbz
import Derived.Test.YtdobflpbkfkmgaaGreatDoorSam
import Derived.Test.YtdobflpbkfkmgaaGreatDoorOut
namespace Go.Proofs.YtdobflpbkfkmgaaGreatDoor
open Go.RowKit Go.HK Go.FR Lib
set_option linter.unusedVariables false
set_option linter.unusedSimpArgs false
set_option linter.unusedSectionVars false
theorem runL_total {m:Bool} {ts:List Tok} {z:Nat} (hE:Ends ts z):∀ (n k:Nat) (acc:List Fm),k <= z -> z - k < n -> ∃ x,runL m ts (10 * z + 100) n acc k = some x
 | 0,k,acc,hk,hn => by omega
 | n + 1,k,acc,hk,hn => by
  obtain ⟨x,hx⟩:=run_total (metas:=m) hE (10 * z + 100) (.bin 0) k 0 hk (by simp) (by simp only [rank]; omega)
  have hi:=run_iz hE _ _ _ _ _ hk hx
  unfold runL
  rw [hx]
  cases x with
  | bad k2 e => exact ⟨_,rfl⟩
  | ok o k2 =>
   simp only [inO,isBin] at hi
   simp only
   split
   ·rename_i ht
    have hlt:=hE.lt hi.2.1 (by rw [ht]; decide)
    exact runL_total hE n (k2 + 1) _ hlt (by have:=hi.2.2 trivial; omega)
   ·exact ⟨_,rfl⟩
theorem rdL_total (m:Bool) {l:List UInt8} (hl:l.length <= 16384):∃ r,RdL m l r:=by
 obtain ⟨ts,p,e,hL⟩:=lex_total _ l (Nat.le_refl _) 0
 by_cases he:e = 0
 ·subst he
  have hT:=tsok_of_lex hl hL
  by_cases h5:(tkA ts 0).k = 5
  ·exact ⟨_,.read (N:=0) (n:=0) hL (by unfold runFs; rw [if_pos h5])⟩
  ·obtain ⟨x,hx⟩:=runL_total (m:=m) hT.en (ts.length - 1 + 1) 0 [] (Nat.zero_le _) (by omega)
   exact ⟨_,.read hL (by unfold runFs; rw [if_neg h5]; exact hx)⟩
 ·exact ⟨_,.lexbad hL he⟩
theorem runL_nodes {m:Bool} {ts:List Tok} {z N:Nat} (hE:Ends ts z) (hz:z <= 16384):∀ (n:Nat) (acc:List Fm) (k:Nat) (l:List Fm) (k':Nat),k <= z -> runL m ts N n acc k = some (.ok l k') -> (∀ f ∈ acc,nodesF f <= 16384) -> (∀ f ∈ l,nodesF f <= 16384) /\ l.length + k <= acc.length + z
 | 0,acc,k,l,k',hk,h,ha => by cases h
 | n + 1,acc,k,l,k',hk,h,ha => by
  unfold runL at h
  cases hx:run m ts N (.bin 0) k 0 with
  | none => rw [hx] at h; cases h
  | some x =>
   rw [hx] at h
   cases x with
   | bad k2 e => cases h
   | ok o k2 =>
    have hi:=run_iz hE _ _ _ _ _ hk hx
    simp only [inO] at hi
    have h1:=run_rd m ts N _ _ _ _ _ hx
    rw [ty_fm (rd_ty h1)] at h1
    have h2:=rd_nodes h1
    simp only [nodesO,accN] at h2
    have hacc:∀ f ∈ acc ++ [fmO o],nodesF f <= 16384:=fun f hf => by
     rcases List.mem_append.1 hf with hf | hf
     ·exact ha f hf
     ·rw [List.mem_singleton.1 hf]; omega
    simp only at h
    split at h
    ·rename_i ht
     have hlt:=hE.lt hi.2.1 (by rw [ht]; decide)
     obtain ⟨a,b⟩:=runL_nodes hE hz n _ _ l k' hlt h hacc
     refine ⟨a,?_⟩
     simp only [List.length_append,List.length_cons,List.length_nil] at b
     omega
    ·cases h
     have:=hi.2.2 rfl
     exact ⟨hacc,by simp only [List.length_append,List.length_cons,List.length_nil]; omega⟩
theorem rdL_ok {m:Bool} {l:List UInt8} {r:An (List Fm)} {fs:List Fm} (hl:l.length <= 16384) (h:RdL m l r) (hr:r = .ok fs):(∀ f ∈ fs,nodesF f <= 16384) /\ fs.length <= 16384:=by
 cases h with
 | lexbad hL he => cases hr
 | @read ts p N n x hL hrn =>
  cases x with
  | bad k e => cases hr
  | ok o k =>
   have hT:=tsok_of_lex hl hL
   simp only [resL] at hr
   split at hr
   ·cases hr
    unfold runFs at hrn
    split at hrn
    ·cases hrn; exact ⟨(fun f hf => by cases hf),Nat.zero_le _⟩
    ·obtain ⟨a,b⟩:=runL_nodes hT.en hT.le n [] 0 _ _ (Nat.zero_le _) hrn (fun f hf => by cases hf)
     have:=hT.le
     simp only [List.length_nil] at b
     exact ⟨a,by omega⟩
   ·cases hr
def inOl (z:Nat):Ol -> Prop
 | .ok _ k' => k' <= z
 | .bad k' e => k' <= z /\ (e = 50 ∨ e = 51)
theorem runL_in {m:Bool} {ts:List Tok} {z N:Nat} (hE:Ends ts z):∀ (n:Nat) (acc:List Fm) (k:Nat) (x:Ol),k <= z -> runL m ts N n acc k = some x -> inOl z x
 | 0,acc,k,x,hk,h => by cases h
 | n + 1,acc,k,x,hk,h => by
  unfold runL at h
  cases hx:run m ts N (.bin 0) k 0 with
  | none => rw [hx] at h; cases h
  | some y =>
   rw [hx] at h
   have hi:=run_iz hE _ _ _ _ _ hk hx
   cases y with
   | bad k2 e =>
    simp only [inO] at hi
    cases h
    exact hi.2
   | ok o k2 =>
    simp only [inO] at hi
    simp only at h
    split at h
    ·rename_i ht
     have hlt:=hE.lt hi.2.1 (by rw [ht]; decide)
     exact runL_in hE n _ _ x hlt h
    ·cases h
     exact hi.2.1
theorem rdL_bad {m:Bool} {l:List UInt8} {r:An (List Fm)} {p:Nat} {e:Int} (hl:l.length <= 16384) (h:RdL m l r) (hr:r = .bad p e):e ≠ 0 /\ p <= 16384:=by
 cases h with
 | lexbad hL he => cases hr; rcases lex_err hL with h | h; exact absurd h.1 he; exact ⟨he,by omega⟩
 | @read ts p N n x hL hrn =>
  have hT:=tsok_of_lex hl hL
  have hin:inOl (ts.length - 1) x:=by
   unfold runFs at hrn
   split at hrn
   ·cases hrn; exact Nat.zero_le _
   ·exact runL_in hT.en n [] 0 x (Nat.zero_le _) hrn
  cases x with
  | bad k e =>
   simp only [inOl] at hin
   cases hr; exact ⟨by omega,tkp_le hT hin.1⟩
  | ok o k =>
   simp only [inOl] at hin
   simp only [resL] at hr
   split at hr
   ·cases hr
   ·cases hr; exact ⟨by decide,tkp_le hT hin⟩
def formsA (r:An (List Fm)):An (List Fm):=match r with | .ok l => if l.all rightF = true then (if 64 < l.length then .bad 0 5 else .ok l) else .bad 0 3 | x => x
set_option maxRecDepth 100000 in
set_option maxHeartbeats 2000000 in
theorem formsA_bad (w:World) (s:ByteArray) (hs:s.size <= 16384) (hG:Signs w) (hV:IsLv w) {p:Nat} {e:Int} (h:RdL false (bys s) (.bad p e)):Calls Tryz.prog 17 #[.string s] w (RetLs w (.bad p e)):=by
 have he:=(rdL_bad (l:=bys s) hs h rfl).1
 have hc:=read37 w s false hs hG hV h
 unfold RetLs at hc ⊢
 simp only [] at hc ⊢
 have he1:(e == 0) = false:=by simp [he]
 have HC:=hid hc
 clear hc hG hV hs h he
 go_enter Tryz.func17,Tryz.ntmps17
 go_wp2_with (fail)
 go_at_call 41
 with_reducible refine HC.out.mono ?_
 rintro E w1 ⟨hB1,rfl⟩
 have HB1:=hid hB1
 clear hB1
 go_wp2_with (fail)
 refine bodyPost_ret (v:=.tuple #[.slice none 0 0,.int .i64 (p:Int),.int .i64 e]) (by simp [results,Tryz.results17,go_sem]) rfl ?_
 exact ⟨HB1.out,rfl⟩
set_option maxRecDepth 100000 in
set_option maxHeartbeats 4000000 in
theorem formsA_ok (w:World) (s:ByteArray) (hs:s.size <= 16384) (hG:Signs w) (hV:IsLv w) (hR:IsRows w) {l:List Fm} (h:RdL false (bys s) (.ok l)):Calls Tryz.prog 17 #[.string s] w (RetLs w (formsA (.ok l))):=by
 obtain ⟨hN,hN2⟩:=rdL_ok (l:=bys s) hs h rfl
 have hc:=(read37 w s false hs hG hV h).mono (R':=fun E W' => Below w.heap.size w W' /\ ∃ (a:Option Addr) (n c:Nat),E = .returned (.tuple #[.slice a n c,.int .i64 0,.int .i64 0]) /\ IsFs (SL' w.heap.size W'.heap.size) W' ⟨a,n,c⟩ l) fun E W' ⟨hB,v,he,hv⟩ => by
  obtain ⟨⟨a,n,c⟩,rfl,h1⟩:=hv
  exact ⟨hB,a,n,c,he,h1⟩
 have hj:=fun (W:World) (lo:Nat) (f:Fm) (v:Value) (hf:f ∈ l) (hB:Below w.heap.size w W) (hv:FmV W lo f v) => right_v (hR.turn (hB.block 1 hR.pos)) hv (by have:=hN f hf; omega)
 unfold RetW at hj
 obtain ⟨rr,hrr⟩:∃ rr,rr = formsA (.ok l):=⟨_,rfl⟩
 rw [<- hrr]
 have HRR:=hid hrr
 have HC:=hid hc
 have HJ:=hid hj
 have HN2:=hid hN2
 clear hc hj hG hV hR hs h hN hN2 hrr
 go_enter Tryz.func17,Tryz.ntmps17
 go_wp2_with (fail)
 go_at_call 41
 with_reducible refine HC.out.mono ?_
 rintro E w1 ⟨hB1,a,n,c,rfl,hv⟩
 have hlen:=hv.len
 simp only at hlen
 have hn4:n <= 16384:=by rw [hlen]; exact HN2.out
 have HB1:=hid hB1
 have HV:=hid hv
 have HLEN:=hid hlen
 clear hB1 hv hlen
 go_wp2_with (fail)
 go_loopw [22] (fun i wr => ∃ j:Nat,j <= n /\ i = .int .i64 j /\ Below w1.heap.size w1 wr /\ (∀ k,k < j -> ∀ f,l[k]? = some f -> rightF f = true)) (fun i _ => n - (intOf i).toNat)
 case atStart => exact ⟨0,by omega,rfl,Below.refl _ _,fun k hk => absurd hk (Nat.not_lt_zero k)⟩
 case round =>
  obtain ⟨j,hj,rfl,hB,hall⟩:=hrel
  have HALL:=hid hall
  have HB:=hid hB
  have HBW:=hid (HB1.out.trans (hB.mono HB1.out.size))
  clear hall
  by_cases hjn:(j:Int) < (n:Int)
  ·have b0:(0:Int) <= (j:Int):=by omega
   obtain ⟨q,hq⟩:∃ q,l[j]? = some q:=⟨_,List.getElem?_eq_getElem (by rw [<- HLEN.out]; omega)⟩
   have hp:=HV.out.turn (T:=SN wr) (W':=wr) fun k hk => ⟨Nat.lt_of_lt_of_le hk.2 hB.size,hB.block k hk.2⟩
   obtain ⟨g1,o1,hga⟩:=IsFs.pos HV.out (show 0 < n by omega)
   subst hga
   obtain ⟨u,d,c0,c1,c2,c3,hu,hd,ho,hz⟩:=fs_at hp hq
   have HQ:=hid hq
   obtain ⟨qo,qn,qa,qs⟩:=q
   obtain ⟨ua,un,uc⟩:=u
   obtain ⟨da,dn,dc⟩:=d
   simp only [FR.Fm.op,FR.Fm.name,FR.Fm.args,FR.Fm.subs,SL.v] at c0 c1 c2 c3 hu hd ho hz
   have hbx:=bl_al9 (W:=wr) (.cells #[.int .u8 (qo:Int),.string qn,.slice ua un uc,.slice da dn dc] 28)
   have hcall:=HJ.out (wr.alloc (.cells #[.int .u8 (qo:Int),.string qn,.slice ua un uc,.slice da dn dc] 28)) 0 (.mk qo qn qa qs) (.agg #[.int .u8 (qo:Int),.string qn,.slice ua un uc,.slice da dn dc]) (List.mem_of_getElem? hq) (HBW.out.trans (hbx.mono HBW.out.size))
    ⟨⟨ua,un,uc⟩,⟨da,dn,dc⟩,rfl,hu.turn fun k hk => ⟨⟨Nat.zero_le _,Nat.lt_of_lt_of_le hk hbx.size⟩,hbx.block k hk⟩,hd.turn fun k hk => ⟨⟨Nat.zero_le _,Nat.lt_of_lt_of_le hk hbx.size⟩,hbx.block k hk⟩,ho,hz⟩
   obtain ⟨bb,hbb⟩:∃ b,b = rightF (.mk qo qn qa qs):=⟨_,rfl⟩
   rw [<- hbb] at hcall
   have HBB:=hid hbb
   have HCC:=hid hcall
   clear hcall hbb hq hp hu hd hbx hB
   go_wp2_with (fail)
   go_at_call 27
   with_reducible refine HCC.out.mono ?_
   rintro E w2 ⟨rfl,hB2⟩
   have HB2:=hid (HB.out.trans ((bl_al9 (W:=wr) (.cells #[.int .u8 (qo:Int),.string qn,.slice ua un uc,.slice da dn dc] 28)).trans (hB2.mono (bl_al9 _).size) |>.mono HB.out.size))
   clear hB2 c0 c1 c2 c3
   rcases bb with _ | _
   ·go_wp2_with (fail)
    refine bodyPost_ret (v:=.tuple #[.slice none 0 0,.int .i64 0,.int .i64 3]) (by simp [results,Tryz.results17,go_sem]) rfl ?_
    have hr:rr = .bad 0 3:=by
     rw [HRR.out]
     unfold formsA
     simp only []
     rw [if_neg]
     intro hf
     have:=List.all_eq_true.1 hf _ (List.mem_of_getElem? HQ.out)
     rw [<- HBB.out] at this
     cases this
    rw [hr]
    exact ⟨HB1.out.trans (HB2.out.mono HB1.out.size),rfl⟩
   ·go_wp2_with (fail)
    go_roundw
    case rel =>
     refine ⟨j + 1,by omega,by go_num,HB2.out,fun k hk f hf => ?_⟩
     by_cases hkj:k = j
     ·subst hkj
      rw [HQ.out] at hf
      cases hf
      exact HBB.out.symm
     ·exact HALL.out k (by omega) f hf
    case measure => simp [intOf]; omega
  ·obtain rfl:j = n:=by omega
   have hal:l.all rightF = true:=List.all_eq_true.2 fun f hf => by
    obtain ⟨k,hk⟩:=List.mem_iff_getElem?.1 hf
    exact HALL.out k (by rw [HLEN.out]; exact (List.getElem?_eq_some_iff.1 hk).1) f hk
   have HAL:=hid hal
   clear hal hB
   by_cases h64:(64:Int) < (j:Int)
   ·go_wp2_with (fail)
    refine bodyPost_ret (v:=.tuple #[.slice none 0 0,.int .i64 0,.int .i64 5]) (by simp [results,Tryz.results17,go_sem]) rfl ?_
    have hr:rr = .bad 0 5:=by
     rw [HRR.out]
     unfold formsA
     simp only []
     rw [if_pos HAL.out,if_pos (by rw [<- HLEN.out]; omega)]
    rw [hr]
    exact ⟨HBW.out,rfl⟩
   ·go_wp2_with (fail)
    refine bodyPost_ret (v:=.tuple #[.slice a j c,.int .i64 0,.int .i64 0]) (by simp [results,Tryz.results17,go_sem]) rfl ?_
    have hr:rr = .ok l:=by
     rw [HRR.out]
     unfold formsA
     simp only []
     rw [if_pos HAL.out,if_neg (by rw [<- HLEN.out]; omega)]
    rw [hr]
    refine ⟨HBW.out,_,rfl,⟨a,j,c⟩,rfl,HV.out.turn fun k hk => ⟨⟨hk.1,Nat.lt_of_lt_of_le hk.2 HB.out.size⟩,HB.out.block k hk.2⟩⟩
theorem forms_call (w:World) (s:ByteArray) (hs:s.size <= 16384) (hL:LaidAll w) {r:An (List Fm)} (h:RdL false (bys s) r):Calls Tryz.prog 17 #[.string s] w (RetLs w (formsA r)):=by
 cases r with
 | ok f => exact formsA_ok w s hs hL.signs hL.levels hL.rows h
 | bad p e => exact formsA_bad w s hs hL.signs hL.levels h
end Go.Proofs.YtdobflpbkfkmgaaGreatDoor
