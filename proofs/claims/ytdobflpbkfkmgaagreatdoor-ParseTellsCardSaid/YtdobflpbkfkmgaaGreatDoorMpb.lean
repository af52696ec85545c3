import Derived.Test.YtdobflpbkfkmgaaGreatDoorMju
import Derived.WalkSmall
namespace Go.Proofs.YtdobflpbkfkmgaaGreatDoor
open Go.RowKit Go.HK Go.FR Lib
set_option linter.unusedVariables false
set_option linter.unusedSimpArgs false
set_option linter.unusedSectionVars false
structure TK (W:World) (g:Nat) (ts:List Tok):Prop where
 c0:∀ (i:Nat) t,ts[i]? = some t -> W.cell? ⟨g,i * 3,none⟩ = some (.int .u8 t.k)
 c1:∀ (i:Nat) t,ts[i]? = some t -> W.cell? ⟨g,i * 3 + 1,none⟩ = some (.string t.t)
 c2:∀ (i:Nat) t,ts[i]? = some t -> W.cell? ⟨g,i * 3 + 2,none⟩ = some (.int .i64 (t.p:Int))
theorem TK.turn {W W':World} {g:Nat} {ts:List Tok} (h:TK W g ts) (hb:W'.heap[g]? = W.heap[g]?):TK W' g ts :=
 ⟨fun i t ht => (World.cell?_of_block (a:=⟨g,_,none⟩) hb).trans (h.c0 i t ht),fun i t ht => (World.cell?_of_block (a:=⟨g,_,none⟩) hb).trans (h.c1 i t ht),fun i t ht => (World.cell?_of_block (a:=⟨g,_,none⟩) hb).trans (h.c2 i t ht)⟩
def lvT (i:Nat):ByteArray:=⟨(lvS i).toArray⟩
def IsLv (W:World):Prop:=∀ i < 5,W.cell? ⟨0,i * 3,none⟩ = some (.string (lvT i)) /\ W.cell? ⟨0,i * 3 + 1,none⟩ = some (.int .u8 (lvO i:Int)) /\ W.cell? ⟨0,i * 3 + 2,none⟩ = some (.bool (lvR i))
theorem IsLv.turn {W W':World} (h:IsLv W) (hb:W'.heap[0]? = W.heap[0]?):IsLv W':=fun i hi =>
 ⟨(World.cell?_of_block (a:=⟨0,_,none⟩) hb).trans (h i hi).1,(World.cell?_of_block (a:=⟨0,_,none⟩) hb).trans (h i hi).2.1,(World.cell?_of_block (a:=⟨0,_,none⟩) hb).trans (h i hi).2.2⟩
theorem IsLv.pos {W:World} (h:IsLv W):0 < W.heap.size:=World.block_lt_of_cell? W ⟨0,_,none⟩ (h 0 (by omega)).1
structure TsOk (ts:List Tok) (z:Nat):Prop where
 en:Ends ts z
 le:z <= 16384
 ok:∀ (i:Nat) t,ts[i]? = some t -> 0 <= t.k /\ t.k < 256 /\ t.t.size <= 16384 /\ t.p <= 16384 /\ (t.k = 2 -> 1 <= t.t.size)
theorem TsOk.get {ts:List Tok} {z k:Nat} (h:TsOk ts z) (hk:k <= z):ts[k]? = some (tkA ts k):=by
 have hl:k < ts.length:=by rw [h.en.len]; omega
 unfold tkA
 rw [List.getD_eq_getElem?_getD,List.getElem?_eq_getElem hl]; rfl
structure PSt (W:World) (B g c:Nat) (ts:List Tok) (z:Nat) (m:Bool) (k s:Nat):Prop where
 pb:W.heap[B]? = some (.cells #[.slice (some ⟨g,0,none⟩) ts.length c,.int .i64 (k:Int),.int .i64 (s:Int),.bool m] 84 (0,0))
 tk:TK W g ts
 lv:IsLv W
 ne:B ≠ g /\ B ≠ 0
 glt:g < W.heap.size
 hk:k <= z
 hs:s <= k
theorem PSt.below {W W':World} {B g c:Nat} {ts:List Tok} {z:Nat} {m:Bool} {k s:Nat} (h:PSt W B g c ts z m k s) (hb:Below W.heap.size W W'):PSt W' B g c ts z m k s :=
 ⟨(hb.block B (HK.blk_lt h.pb)).trans h.pb,h.tk.turn (hb.block g h.glt),h.lv.turn (hb.block 0 h.lv.pos),h.ne,Nat.lt_of_lt_of_le h.glt hb.size,h.hk,h.hs⟩
theorem PSt.alloc {W:World} {B g c:Nat} {ts:List Tok} {z:Nat} {m:Bool} {k s:Nat} (h:PSt W B g c ts z m k s) (o:Obj):PSt (W.alloc o) B g c ts z m k s :=
 h.below ((Below.refl _ W).alloc (Nat.le_refl _) o)
theorem PSt.goto {W:World} {B g c:Nat} {ts:List Tok} {z:Nat} {m:Bool} {k s k':Nat} (h:PSt W B g c ts z m k s) (hk:k' <= z) (hs:s <= k'):PSt (W.setCell ⟨B,1,none⟩ (.int .i64 (k':Int))) B g c ts z m k' s where
 pb:=by have:=HK.blk_set h.pb 1 (.int .i64 (k':Int)); simpa using this
 tk:=h.tk.turn (Below.heap_setCell _ _ _ _ h.ne.1.symm)
 lv:=h.lv.turn (Below.heap_setCell _ _ _ _ h.ne.2.symm)
 ne:=h.ne
 glt:=by simpa using h.glt
 hk:=hk
 hs:=hs
theorem PSt.nest {W:World} {B g c:Nat} {ts:List Tok} {z:Nat} {m:Bool} {k s s':Nat} (h:PSt W B g c ts z m k s) (hs:s' <= k):PSt (W.setCell ⟨B,2,none⟩ (.int .i64 (s':Int))) B g c ts z m k s' where
 pb:=by have:=HK.blk_set h.pb 2 (.int .i64 (s':Int)); simpa using this
 tk:=h.tk.turn (Below.heap_setCell _ _ _ _ h.ne.1.symm)
 lv:=h.lv.turn (Below.heap_setCell _ _ _ _ h.ne.2.symm)
 ne:=h.ne
 glt:=by simpa using h.glt
 hk:=h.hk
 hs:=hs
theorem pset3 {w:World} {b:Nat} {c0 c1 c2:Value} {t:TypeId} (h:w.heap[b]? = some (.cells #[c0,c1,c2] t (0,0))) (v0 v1 v2:Value):(((w.setCell ⟨b,0,none⟩ v0).setCell ⟨b,1,none⟩ v1).setCell ⟨b,2,none⟩ v2).heap[b]? = some (.cells #[v0,v1,v2] t (0,0)):=by
 have h1:=HK.blk_set h 0 v0
 have h2:=HK.blk_set h1 1 v1
 have h3:=HK.blk_set h2 2 v2
 simpa using h3
theorem pset4 {w:World} {b:Nat} {c0 c1 c2 c3:Value} {t:TypeId} (h:w.heap[b]? = some (.cells #[c0,c1,c2,c3] t (0,0))) (v0 v1 v2 v3:Value):((((w.setCell ⟨b,0,none⟩ v0).setCell ⟨b,1,none⟩ v1).setCell ⟨b,2,none⟩ v2).setCell ⟨b,3,none⟩ v3).heap[b]? = some (.cells #[v0,v1,v2,v3] t (0,0)):=by
 have h1:=HK.blk_set h 0 v0
 have h2:=HK.blk_set h1 1 v1
 have h3:=HK.blk_set h2 2 v2
 have h4:=HK.blk_set h3 3 v3
 simpa using h4
set_option maxRecDepth 100000 in
theorem fld0 (a b c:Value) (W:World):(Instr.field 86 (.agg #[a,b,c]) 0).run Tryz.prog W = .ok a W:=rfl
set_option maxRecDepth 100000 in
theorem fld1 (a b c:Value) (W:World):(Instr.field 86 (.agg #[a,b,c]) 1).run Tryz.prog W = .ok b W:=rfl
set_option maxRecDepth 100000 in
theorem fld2 (a b c:Value) (W:World):(Instr.field 86 (.agg #[a,b,c]) 2).run Tryz.prog W = .ok c W:=rfl
theorem str_ne {a b:ByteArray} (h:bys a ≠ bys b):(a.toList == b.toList) = false:=bytes_ne fun e => h (by rw [e])
def tkV (t:Tok):Value:=.agg #[.int .u8 t.k,.string t.t,.int .i64 (t.p:Int)]
section
variable {w:World} {B g c:Nat} {ts:List Tok} {z:Nat} {m:Bool} {k s:Nat}
set_option maxRecDepth 100000 in
set_option maxHeartbeats 1000000 in
theorem token_any (hT:TsOk ts z) (h:PSt w B g c ts z m k s):Calls Tryz.prog 48 #[.pointer (some ⟨B,0,none⟩)] w fun e w' => e = .returned (tkV (tkA ts k)) /\ Below w.heap.size w w':=by
 have h':=h.alloc (Obj.cells #[.int .u8 0,.string ⟨#[]⟩,.int .i64 0] 86)
 have p0:=HK.blk_cell h'.pb 0
 have p1:=HK.blk_cell h'.pb 1
 have ht:=hT.get h.hk
 have q0:=h'.tk.c0 k _ ht
 have q1:=h'.tk.c1 k _ ht
 have q2:=h'.tk.c2 k _ ht
 obtain ⟨n,hn⟩:∃ n,n = ts.length:=⟨_,rfl⟩
 have hkn:k < n:=by rw [hn,hT.en.len]; have:=h.hk; omega
 rw [<- hn] at p0
 have b0:0 <= (k:Int) /\ (k:Int) < (n:Int):=by omega
 obtain ⟨t,htk⟩:∃ t,t = tkA ts k:=⟨_,rfl⟩
 rw [<- htk] at q0 q1 q2 ⊢
 obtain ⟨tkk,tt,tp⟩:=t
 simp only [] at q0 q1 q2
 unfold tkV
 clear htk hn ht h h' hT
 go_enter Tryz.func48,Tryz.ntmps48
 go_wp2
 go_region
 go_wp2
 refine bodyPost_ret (results_cell_row (p:=2) (ty:=86) (by kernel_rfl) _ _ w.heap.size 86 _ (0,0) _ rfl (HK.blk_drew (HK.blk_new _ _)) Tryz.underlying86 rfl (by kernel_rfl)) rfl ?_
 exact ⟨rfl,((Below.refl _ w).alloc (Nat.le_refl _) _).drew⟩
def failE (ts:List Tok) (k e:Nat):Ending:=.panicked [{ v:=.iface 81 (.agg #[.int .i64 ((tkA ts k).p:Int),.int .i64 (e:Int)]),recovered:=false }]
set_option maxRecDepth 100000 in
set_option maxHeartbeats 1000000 in
theorem fail_any (hT:TsOk ts z) (h:PSt w B g c ts z m k s) (e:Nat):Calls Tryz.prog 49 #[.pointer (some ⟨B,0,none⟩),.int .i64 (e:Int)] w fun E w' => E = failE ts k e /\ Below w.heap.size w w':=by
 have ht:=token_any hT h
 unfold tkV at ht
 unfold failE
 obtain ⟨tk,htk⟩:∃ t,t = tkA ts k:=⟨_,rfl⟩
 rw [<- htk] at ht ⊢
 have HT:=hid ht
 clear ht htk h hT
 have fl:=fld2
 go_enter Tryz.func49,Tryz.ntmps49
 go_wp2_with (go_at_call 48; ((with_reducible refine HT.out.mono ?_); rintro e w1 ⟨rfl,hB⟩))
 exact ⟨rfl,rfl,hB⟩
set_option maxRecDepth 100000 in
set_option maxHeartbeats 1000000 in
theorem take_no (hT:TsOk ts z) (h:PSt w B g c ts z m k s) (sg:ByteArray) (hn:txt ts k ≠ bys sg):Calls Tryz.prog 80 #[.pointer (some ⟨B,0,none⟩),.string sg] w fun e w' => e = .returned (.bool false) /\ Below w.heap.size w w':=by
 have ht:=token_any hT h
 unfold tkV at ht
 unfold txt at hn
 obtain ⟨tk,htk⟩:∃ t,t = tkA ts k:=⟨_,rfl⟩
 rw [<- htk] at ht hn
 have HT:=hid ht
 have e1:(tk.t.toList == sg.toList) = false:=str_ne hn
 clear ht htk h hT hn
 have fl:=fld1
 go_enter Tryz.func80,Tryz.ntmps80
 go_wp2_with (go_at_call 48; ((with_reducible refine HT.out.mono ?_); rintro e w1 ⟨rfl,hB⟩))
 go_ret
 exact ⟨rfl,hB⟩
set_option maxRecDepth 100000 in
set_option maxHeartbeats 1000000 in
theorem take_yes (hT:TsOk ts z) (h:PSt w B g c ts z m k s) (sg:ByteArray) (hn:txt ts k = bys sg) (hne:bys sg ≠ []):Calls Tryz.prog 80 #[.pointer (some ⟨B,0,none⟩),.string sg] w fun e w' => e = .returned (.bool true) /\ FJ B w w' /\ PSt w' B g c ts z m (k + 1) s:=by
 have ht:=token_any hT h
 have hz:=hT.en.lt h.hk (by rw [hn]; exact hne)
 unfold tkV at ht
 unfold txt at hn
 obtain ⟨tk,htk⟩:∃ t,t = tkA ts k:=⟨_,rfl⟩
 rw [<- htk] at ht hn
 have HT:=hid ht
 have e1:(tk.t.toList == sg.toList) = true:=by
  have:tk.t = sg:=bys_inj.1 hn
  simp [this]
 have HP:Hid (∀ W,Below w.heap.size w W -> PSt W B g c ts z m k s):=hid fun W hB => h.below hB
 have HZ:=hid hz
 have HTZ:=hid hT.le
 have HHS:=hid h.hs
 have hk6:k <= 20000:=by have:=hT.le; omega
 clear ht htk h hT hn hz
 have fl:=fld1
 go_enter Tryz.func80,Tryz.ntmps80
 go_wp2_with (go_at_call 48; ((with_reducible refine HT.out.mono ?_); rintro e w1 ⟨rfl,hB⟩; have pb:=(HP.out _ hB).pb; have p1:=HK.blk_cell pb 1; have f1:=HK.blk_frozen pb 1; have HB:=hid hB; clear hB pb))
 go_ret
 have e2:((k:Int) + 1) = ((k + 1:Nat):Int):=by omega
 rw [e2]
 exact ⟨rfl,(frm_below HB.out).setCell (p:=⟨B,1,none⟩) (.inl rfl) _,(HP.out _ HB.out).goto (by have:=HZ.out; omega) (by have:=HHS.out; omega)⟩
set_option maxRecDepth 100000 in
set_option maxHeartbeats 1000000 in
theorem need_no (hT:TsOk ts z) (h:PSt w B g c ts z m k s) (sg:ByteArray) (hn:txt ts k ≠ bys sg):Calls Tryz.prog 91 #[.pointer (some ⟨B,0,none⟩),.string sg] w fun e w' => e = failE ts k 50 /\ Below w.heap.size w w':=by
 have HT:=hid (take_no hT h sg hn)
 have HF:Hid (∀ W,Below w.heap.size w W -> Calls Tryz.prog 49 #[.pointer (some ⟨B,0,none⟩),.int .i64 50] W fun E w' => E = failE ts k 50 /\ Below W.heap.size W w'):=hid fun W hB => fail_any hT (h.below hB) 50
 clear h hT hn
 unfold failE at HF ⊢
 go_enter Tryz.func91,Tryz.ntmps91
 go_wp2_with (first
  | (go_at_call 80; ((with_reducible refine HT.out.mono ?_); rintro e w1 ⟨rfl,hB⟩; have HB:=hid hB; clear hB))
  | (go_at_call 49; ((with_reducible refine (HF.out _ HB.out).mono ?_); rintro e w2 ⟨rfl,hB2⟩)))
 exact ⟨rfl,rfl,HB.out.trans (hB2.mono HB.out.size)⟩
set_option maxRecDepth 100000 in
set_option maxHeartbeats 1000000 in
theorem need_yes (hT:TsOk ts z) (h:PSt w B g c ts z m k s) (sg:ByteArray) (hn:txt ts k = bys sg) (hne:bys sg ≠ []):Calls Tryz.prog 91 #[.pointer (some ⟨B,0,none⟩),.string sg] w fun e w' => e = .returned (.tuple #[]) /\ FJ B w w' /\ PSt w' B g c ts z m (k + 1) s:=by
 have HT:=hid (take_yes hT h sg hn hne)
 clear h hT hn hne
 go_enter Tryz.func91,Tryz.ntmps91
 go_wp2_with (go_at_call 80; ((with_reducible refine HT.out.mono ?_); rintro e w1 ⟨rfl,hF,hP⟩))
 go_end0
 exact ⟨rfl,hF,hP⟩
set_option maxRecDepth 100000 in
set_option maxHeartbeats 1000000 in
theorem begin_no (hT:TsOk ts z) (h:PSt w B g c ts z m k s) (hs:120 < s):Calls Tryz.prog 54 #[.pointer (some ⟨B,0,none⟩)] w fun e w' => e = failE ts k 51 /\ Below w.heap.size w w':=by
 have HF:Hid (Calls Tryz.prog 49 #[.pointer (some ⟨B,0,none⟩),.int .i64 51] w fun E w' => E = failE ts k 51 /\ Below w.heap.size w w'):=hid (fail_any hT h 51)
 have p2:=HK.blk_cell h.pb 2
 have hs':(120:Int) < (s:Int):=by omega
 clear h hT hs
 unfold failE at HF ⊢
 go_enter Tryz.func54,Tryz.ntmps54
 go_wp2_with (go_at_call 49; ((with_reducible refine HF.out.mono ?_); rintro e w2 ⟨rfl,hB2⟩))
 exact ⟨rfl,rfl,hB2⟩
set_option maxRecDepth 100000 in
set_option maxHeartbeats 1000000 in
theorem begin_yes (h:PSt w B g c ts z m k s) (hs:¬ 120 < s):Calls Tryz.prog 54 #[.pointer (some ⟨B,0,none⟩)] w fun e w' => e = .returned (.tuple #[]) /\ w' = w:=by
 have p2:=HK.blk_cell h.pb 2
 have hs':¬ (120:Int) < (s:Int):=by omega
 clear h hs
 go_enter Tryz.func54,Tryz.ntmps54
 go_wp2
 go_end0
 exact ⟨rfl,rfl⟩
set_option maxRecDepth 100000 in
set_option maxHeartbeats 1000000 in
theorem variable_one (w:World) (s:ByteArray):Calls Tryz.prog 55 #[.string s] w fun e w' => e = .returned (.agg #[.bool true,.string s,.slice none 0 0]) /\ Below w.heap.size w w':=by
 go_enter Tryz.func55,Tryz.ntmps55
 go_wp2
 refine bodyPost_ret (results_cell_row (p:=2) (ty:=36) (by kernel_rfl) _ _ w.heap.size 36 _ (0,0) _ rfl (HK.blk_new _ _) Tryz.underlying36 rfl (by kernel_rfl)) rfl ?_
 exact ⟨rfl,(Below.refl _ w).alloc (Nat.le_refl _) _⟩
set_option maxRecDepth 100000 in
set_option maxHeartbeats 1000000 in
theorem fmeta_any (h:PSt w B g c ts z m k s) (x:ByteArray) (hx:1 <= x.size) (hx2:x.size <= 16384):Calls Tryz.prog 134 #[.pointer (some ⟨B,0,none⟩),.string x] w (RetW w (m && checkB capB alnumB (rest1 x))):=by
 have p3:=HK.blk_cell h.pb 3
 have hc:(rest1 x).size <= maxLen:=by unfold rest1 maxLen; simp; omega
 have hp:=fun W => predicate_any W (rest1 x) hc
 obtain ⟨r,hr⟩:∃ r,r = checkB capB alnumB (rest1 x):=⟨_,rfl⟩
 rw [<- hr] at hp ⊢
 unfold RetW at hp
 unfold rest1 at hp
 have HP:=hid hp
 have s1:¬ ((x.size:Int) < 1):=by omega
 have s2:(1:Int) <= (x.size:Int):=by omega
 have s3:1 <= x.size:=hx
 clear h hp hr hc
 unfold RetW
 cases m
 ·go_enter Tryz.func134,Tryz.ntmps134
  go_wp2_with (fail)
  go_ret
  exact ⟨rfl,Below.refl _ _⟩
 ·go_enter Tryz.func134,Tryz.ntmps134
  go_wp2_with (go_at_call 112; ((with_reducible refine (HP.out _).mono ?_); rintro e w1 ⟨rfl,hB⟩))
  go_ret
  exact ⟨by simp,hB⟩
set_option maxRecDepth 100000 in
set_option maxHeartbeats 1000000 in
theorem tmeta_any (h:PSt w B g c ts z m k s) (x:ByteArray) (hx:1 <= x.size) (hx2:x.size <= 16384):Calls Tryz.prog 57 #[.pointer (some ⟨B,0,none⟩),.string x] w (RetW w (m && checkB funB alnumB (rest1 x))):=by
 have p3:=HK.blk_cell h.pb 3
 have hc:(rest1 x).size <= maxLen:=by unfold rest1 maxLen; simp; omega
 have hp:=fun W => function_any W (rest1 x) hc
 obtain ⟨r,hr⟩:∃ r,r = checkB funB alnumB (rest1 x):=⟨_,rfl⟩
 rw [<- hr] at hp ⊢
 unfold RetW at hp
 unfold rest1 at hp
 have HP:=hid hp
 have s1:¬ ((x.size:Int) < 1):=by omega
 have s2:(1:Int) <= (x.size:Int):=by omega
 have s3:1 <= x.size:=hx
 clear h hp hr hc
 unfold RetW
 cases m
 ·go_enter Tryz.func57,Tryz.ntmps57
  go_wp2_with (fail)
  go_ret
  exact ⟨rfl,Below.refl _ _⟩
 ·go_enter Tryz.func57,Tryz.ntmps57
  go_wp2_with (go_at_call 59; ((with_reducible refine (HP.out _).mono ?_); rintro e w1 ⟨rfl,hB⟩))
  go_ret
  exact ⟨by simp,hB⟩
end
end Go.Proofs.YtdobflpbkfkmgaaGreatDoor
namespace Go.Proofs.YtdobflpbkfkmgaaGreatDoor
open Go.RowKit Go.HK Go.FR Lib
set_option linter.unusedVariables false
set_option linter.unusedSimpArgs false
set_option linter.unusedSectionVars false
section
variable {w:World} {B g c:Nat} {ts:List Tok} {z:Nat} {m:Bool} {k s:Nat}
set_option maxRecDepth 100000 in
set_option maxHeartbeats 2000000 in
theorem name_var (hT:TsOk ts z) (h:PSt w B g c ts z m k s):Calls Tryz.prog 56 #[.pointer (some ⟨B,0,none⟩),.int .u8 1,.func (.func 58) #[] #[]] w fun e w' => if isVar ts k = true then (e = .returned (.string (tkA ts k).t) /\ FJ B w w' /\ PSt w' B g c ts z m (k + 1) s) else (e = failE ts k 50 /\ FJ B w w'):=by
 have ht:=token_any hT h
 have hi:=hT.ok k _ (hT.get h.hk)
 have hzz:(tkA ts k).k = 1 -> k < z:=fun e => hT.en.ltk h.hk (by omega)
 have hmx:(tkA ts k).t.size <= maxLen:=by unfold maxLen; omega
 have hf:∀ W,PSt W B g c ts z m k s -> Calls Tryz.prog 49 #[.pointer (some ⟨B,0,none⟩),.int .i64 50] W fun E w' => E = failE ts k 50 /\ Below W.heap.size W w':=fun W hW => fail_any hT hW 50
 have hp:(tkA ts k).k = 1 -> ∀ W,PSt W B g c ts z m k s -> Calls Tryz.prog 58 #[.string (tkA ts k).t] W (RetW W (checkB varB digitB (tkA ts k).t)):=fun hk W hW => variable_any W _ hmx
 unfold tkV at ht
 unfold failE at hf ⊢
 simp only [show ((50:Nat):Int) = 50 from rfl] at hf ⊢
 unfold isVar
 obtain ⟨P,hP⟩:∃ P:Int,P = ((tkA ts k).p:Int):=⟨_,rfl⟩
 rw [<- hP] at ht hf ⊢
 obtain ⟨b,hb⟩:∃ b,b = (checkB varB digitB (tkA ts k).t):=⟨_,rfl⟩
 rw [<- hb] at hp ⊢
 obtain ⟨tk,htk⟩:∃ t,t = tkA ts k:=⟨_,rfl⟩
 rw [<- htk] at ht hi hzz hp ⊢
 clear hb hP htk hmx
 obtain ⟨tkk,tt,tp⟩:=tk
 simp only [] at ht hi hzz hp ⊢
 have HT:=hid ht
 have HF:=hid hf
 have HPS:Hid (∀ W,Below w.heap.size w W -> PSt W B g c ts z m k s):=hid fun W hB => h.below hB
 have HBL:Hid (B < w.heap.size):=hid (HK.blk_lt h.pb)
 have HHS:=hid h.hs
 have hk6:k <= 20000:=by have:=hT.le; have:=h.hk; omega
 have HI:=hid hi
 clear ht hf h hi
 by_cases hk:tkk = 1
 ·subst hk
  have hp:=hp rfl
  have hz:=hzz rfl
  unfold RetW at hp
  have HP:=hid hp
  have HZ:=hid hz
  have HTL:=hid hT.le
  clear hp hz hzz hT
  cases b
  ·simp only [Bool.and_false,Bool.false_eq_true,if_false]
   go_enter Tryz.func56,Tryz.ntmps56
   go_wp2_with (first
    | (go_at_call 48; ((with_reducible refine HT.out.mono ?_); rintro e w1 ⟨rfl,hB⟩; have HB:=hid hB; clear hB))
    | (go_at_call 58; ((with_reducible refine (HP.out _ ((HPS.out _ HB.out).alloc _)).mono ?_); rintro e w2 ⟨rfl,hB2⟩; have HB2:=hid ((HB.out.alloc HB.out.size _).trans (hB2.mono (by have:=HB.out.size; simp; omega))); clear hB2))
    | (go_at_call 49; ((with_reducible refine (HF.out _ (HPS.out _ HB2.out)).mono ?_); rintro e w3 ⟨rfl,hB3⟩)))
   exact ⟨rfl,rfl,frm_below (HB2.out.trans (hB3.mono HB2.out.size))⟩
  ·simp only [decide_true,Bool.and_self,if_true]
   go_enter Tryz.func56,Tryz.ntmps56
   go_wp2_with (first
    | (go_at_call 48; ((with_reducible refine HT.out.mono ?_); rintro e w1 ⟨rfl,hB⟩; have hne:w1.heap.size ≠ B:=(by have:=hB.size; have:=HBL.out; omega); have HB:=hid hB; clear hB))
    | (go_at_call 58; ((with_reducible refine (HP.out _ ((HPS.out _ HB.out).alloc _)).mono ?_); rintro e w2 ⟨rfl,hB2⟩; have hbb:=(hB2.block _ (by simp)).trans (HK.blk_new w1 _); have c1:=HK.blk_cell hbb 1; have HB2:=hid ((HB.out.alloc HB.out.size _).trans (hB2.mono (by have:=HB.out.size; simp; omega))); clear hB2 hbb; have pb:=(HPS.out _ HB2.out).pb; have p1:=HK.blk_cell pb 1; have f1:=HK.blk_frozen pb 1; clear pb)))
   go_ret
   have e2:((k:Int) + 1) = ((k + 1:Nat):Int):=by omega
   rw [e2]
   exact ⟨rfl,(frm_below HB2.out).setCell (p:=⟨B,1,none⟩) (.inl rfl) _,(HPS.out _ HB2.out).goto (by have:=HZ.out; omega) (by have:=HHS.out; omega)⟩
 ·have hk1:(tkk == 1) = false:=by simp [hk]
  simp only [decide_eq_false hk,Bool.false_and,Bool.false_eq_true,if_false]
  clear hp hzz hT
  go_enter Tryz.func56,Tryz.ntmps56
  go_wp2_with (first
   | (go_at_call 48; ((with_reducible refine HT.out.mono ?_); rintro e w1 ⟨rfl,hB⟩; have HB:=hid hB; clear hB))
   | (go_at_call 49; ((with_reducible refine (HF.out _ ((HPS.out _ HB.out).alloc _)).mono ?_); rintro e w3 ⟨rfl,hB3⟩)))
  exact ⟨rfl,rfl,frm_below ((HB.out.alloc HB.out.size _).trans (hB3.mono (by have:=HB.out.size; simp; omega)))⟩
set_option maxRecDepth 100000 in
set_option maxHeartbeats 2000000 in
theorem name_fun (hT:TsOk ts z) (h:PSt w B g c ts z m k s):Calls Tryz.prog 56 #[.pointer (some ⟨B,0,none⟩),.int .u8 1,.func (.func 59) #[] #[]] w fun e w' => if isFun ts k = true then (e = .returned (.string (tkA ts k).t) /\ FJ B w w' /\ PSt w' B g c ts z m (k + 1) s) else (e = failE ts k 50 /\ FJ B w w'):=by
 have ht:=token_any hT h
 have hi:=hT.ok k _ (hT.get h.hk)
 have hzz:(tkA ts k).k = 1 -> k < z:=fun e => hT.en.ltk h.hk (by omega)
 have hmx:(tkA ts k).t.size <= maxLen:=by unfold maxLen; omega
 have hf:∀ W,PSt W B g c ts z m k s -> Calls Tryz.prog 49 #[.pointer (some ⟨B,0,none⟩),.int .i64 50] W fun E w' => E = failE ts k 50 /\ Below W.heap.size W w':=fun W hW => fail_any hT hW 50
 have hp:(tkA ts k).k = 1 -> ∀ W,PSt W B g c ts z m k s -> Calls Tryz.prog 59 #[.string (tkA ts k).t] W (RetW W (checkB funB alnumB (tkA ts k).t)):=fun hk W hW => function_any W _ hmx
 unfold tkV at ht
 unfold failE at hf ⊢
 simp only [show ((50:Nat):Int) = 50 from rfl] at hf ⊢
 unfold isFun
 obtain ⟨P,hP⟩:∃ P:Int,P = ((tkA ts k).p:Int):=⟨_,rfl⟩
 rw [<- hP] at ht hf ⊢
 obtain ⟨b,hb⟩:∃ b,b = (checkB funB alnumB (tkA ts k).t):=⟨_,rfl⟩
 rw [<- hb] at hp ⊢
 obtain ⟨tk,htk⟩:∃ t,t = tkA ts k:=⟨_,rfl⟩
 rw [<- htk] at ht hi hzz hp ⊢
 clear hb hP htk hmx
 obtain ⟨tkk,tt,tp⟩:=tk
 simp only [] at ht hi hzz hp ⊢
 have HT:=hid ht
 have HF:=hid hf
 have HPS:Hid (∀ W,Below w.heap.size w W -> PSt W B g c ts z m k s):=hid fun W hB => h.below hB
 have HBL:Hid (B < w.heap.size):=hid (HK.blk_lt h.pb)
 have HHS:=hid h.hs
 have hk6:k <= 20000:=by have:=hT.le; have:=h.hk; omega
 have HI:=hid hi
 clear ht hf h hi
 by_cases hk:tkk = 1
 ·subst hk
  have hp:=hp rfl
  have hz:=hzz rfl
  unfold RetW at hp
  have HP:=hid hp
  have HZ:=hid hz
  have HTL:=hid hT.le
  clear hp hz hzz hT
  cases b
  ·simp only [Bool.and_false,Bool.false_eq_true,if_false]
   go_enter Tryz.func56,Tryz.ntmps56
   go_wp2_with (first
    | (go_at_call 48; ((with_reducible refine HT.out.mono ?_); rintro e w1 ⟨rfl,hB⟩; have HB:=hid hB; clear hB))
    | (go_at_call 59; ((with_reducible refine (HP.out _ ((HPS.out _ HB.out).alloc _)).mono ?_); rintro e w2 ⟨rfl,hB2⟩; have HB2:=hid ((HB.out.alloc HB.out.size _).trans (hB2.mono (by have:=HB.out.size; simp; omega))); clear hB2))
    | (go_at_call 49; ((with_reducible refine (HF.out _ (HPS.out _ HB2.out)).mono ?_); rintro e w3 ⟨rfl,hB3⟩)))
   exact ⟨rfl,rfl,frm_below (HB2.out.trans (hB3.mono HB2.out.size))⟩
  ·simp only [decide_true,Bool.and_self,if_true]
   go_enter Tryz.func56,Tryz.ntmps56
   go_wp2_with (first
    | (go_at_call 48; ((with_reducible refine HT.out.mono ?_); rintro e w1 ⟨rfl,hB⟩; have hne:w1.heap.size ≠ B:=(by have:=hB.size; have:=HBL.out; omega); have HB:=hid hB; clear hB))
    | (go_at_call 59; ((with_reducible refine (HP.out _ ((HPS.out _ HB.out).alloc _)).mono ?_); rintro e w2 ⟨rfl,hB2⟩; have hbb:=(hB2.block _ (by simp)).trans (HK.blk_new w1 _); have c1:=HK.blk_cell hbb 1; have HB2:=hid ((HB.out.alloc HB.out.size _).trans (hB2.mono (by have:=HB.out.size; simp; omega))); clear hB2 hbb; have pb:=(HPS.out _ HB2.out).pb; have p1:=HK.blk_cell pb 1; have f1:=HK.blk_frozen pb 1; clear pb)))
   go_ret
   have e2:((k:Int) + 1) = ((k + 1:Nat):Int):=by omega
   rw [e2]
   exact ⟨rfl,(frm_below HB2.out).setCell (p:=⟨B,1,none⟩) (.inl rfl) _,(HPS.out _ HB2.out).goto (by have:=HZ.out; omega) (by have:=HHS.out; omega)⟩
 ·have hk1:(tkk == 1) = false:=by simp [hk]
  simp only [decide_eq_false hk,Bool.false_and,Bool.false_eq_true,if_false]
  clear hp hzz hT
  go_enter Tryz.func56,Tryz.ntmps56
  go_wp2_with (first
   | (go_at_call 48; ((with_reducible refine HT.out.mono ?_); rintro e w1 ⟨rfl,hB⟩; have HB:=hid hB; clear hB))
   | (go_at_call 49; ((with_reducible refine (HF.out _ ((HPS.out _ HB.out).alloc _)).mono ?_); rintro e w3 ⟨rfl,hB3⟩)))
  exact ⟨rfl,rfl,frm_below ((HB.out.alloc HB.out.size _).trans (hB3.mono (by have:=HB.out.size; simp; omega)))⟩
set_option maxRecDepth 100000 in
set_option maxHeartbeats 2000000 in
theorem name_pre (hT:TsOk ts z) (h:PSt w B g c ts z m k s):Calls Tryz.prog 56 #[.pointer (some ⟨B,0,none⟩),.int .u8 1,.func (.func 112) #[] #[]] w fun e w' => if isPre ts k = true then (e = .returned (.string (tkA ts k).t) /\ FJ B w w' /\ PSt w' B g c ts z m (k + 1) s) else (e = failE ts k 50 /\ FJ B w w'):=by
 have ht:=token_any hT h
 have hi:=hT.ok k _ (hT.get h.hk)
 have hzz:(tkA ts k).k = 1 -> k < z:=fun e => hT.en.ltk h.hk (by omega)
 have hmx:(tkA ts k).t.size <= maxLen:=by unfold maxLen; omega
 have hf:∀ W,PSt W B g c ts z m k s -> Calls Tryz.prog 49 #[.pointer (some ⟨B,0,none⟩),.int .i64 50] W fun E w' => E = failE ts k 50 /\ Below W.heap.size W w':=fun W hW => fail_any hT hW 50
 have hp:(tkA ts k).k = 1 -> ∀ W,PSt W B g c ts z m k s -> Calls Tryz.prog 112 #[.string (tkA ts k).t] W (RetW W (checkB capB alnumB (tkA ts k).t)):=fun hk W hW => predicate_any W _ hmx
 unfold tkV at ht
 unfold failE at hf ⊢
 simp only [show ((50:Nat):Int) = 50 from rfl] at hf ⊢
 unfold isPre
 obtain ⟨P,hP⟩:∃ P:Int,P = ((tkA ts k).p:Int):=⟨_,rfl⟩
 rw [<- hP] at ht hf ⊢
 obtain ⟨b,hb⟩:∃ b,b = (checkB capB alnumB (tkA ts k).t):=⟨_,rfl⟩
 rw [<- hb] at hp ⊢
 obtain ⟨tk,htk⟩:∃ t,t = tkA ts k:=⟨_,rfl⟩
 rw [<- htk] at ht hi hzz hp ⊢
 clear hb hP htk hmx
 obtain ⟨tkk,tt,tp⟩:=tk
 simp only [] at ht hi hzz hp ⊢
 have HT:=hid ht
 have HF:=hid hf
 have HPS:Hid (∀ W,Below w.heap.size w W -> PSt W B g c ts z m k s):=hid fun W hB => h.below hB
 have HBL:Hid (B < w.heap.size):=hid (HK.blk_lt h.pb)
 have HHS:=hid h.hs
 have hk6:k <= 20000:=by have:=hT.le; have:=h.hk; omega
 have HI:=hid hi
 clear ht hf h hi
 by_cases hk:tkk = 1
 ·subst hk
  have hp:=hp rfl
  have hz:=hzz rfl
  unfold RetW at hp
  have HP:=hid hp
  have HZ:=hid hz
  have HTL:=hid hT.le
  clear hp hz hzz hT
  cases b
  ·simp only [Bool.and_false,Bool.false_eq_true,if_false]
   go_enter Tryz.func56,Tryz.ntmps56
   go_wp2_with (first
    | (go_at_call 48; ((with_reducible refine HT.out.mono ?_); rintro e w1 ⟨rfl,hB⟩; have HB:=hid hB; clear hB))
    | (go_at_call 112; ((with_reducible refine (HP.out _ ((HPS.out _ HB.out).alloc _)).mono ?_); rintro e w2 ⟨rfl,hB2⟩; have HB2:=hid ((HB.out.alloc HB.out.size _).trans (hB2.mono (by have:=HB.out.size; simp; omega))); clear hB2))
    | (go_at_call 49; ((with_reducible refine (HF.out _ (HPS.out _ HB2.out)).mono ?_); rintro e w3 ⟨rfl,hB3⟩)))
   exact ⟨rfl,rfl,frm_below (HB2.out.trans (hB3.mono HB2.out.size))⟩
  ·simp only [decide_true,Bool.and_self,if_true]
   go_enter Tryz.func56,Tryz.ntmps56
   go_wp2_with (first
    | (go_at_call 48; ((with_reducible refine HT.out.mono ?_); rintro e w1 ⟨rfl,hB⟩; have hne:w1.heap.size ≠ B:=(by have:=hB.size; have:=HBL.out; omega); have HB:=hid hB; clear hB))
    | (go_at_call 112; ((with_reducible refine (HP.out _ ((HPS.out _ HB.out).alloc _)).mono ?_); rintro e w2 ⟨rfl,hB2⟩; have hbb:=(hB2.block _ (by simp)).trans (HK.blk_new w1 _); have c1:=HK.blk_cell hbb 1; have HB2:=hid ((HB.out.alloc HB.out.size _).trans (hB2.mono (by have:=HB.out.size; simp; omega))); clear hB2 hbb; have pb:=(HPS.out _ HB2.out).pb; have p1:=HK.blk_cell pb 1; have f1:=HK.blk_frozen pb 1; clear pb)))
   go_ret
   have e2:((k:Int) + 1) = ((k + 1:Nat):Int):=by omega
   rw [e2]
   exact ⟨rfl,(frm_below HB2.out).setCell (p:=⟨B,1,none⟩) (.inl rfl) _,(HPS.out _ HB2.out).goto (by have:=HZ.out; omega) (by have:=HHS.out; omega)⟩
 ·have hk1:(tkk == 1) = false:=by simp [hk]
  simp only [decide_eq_false hk,Bool.false_and,Bool.false_eq_true,if_false]
  clear hp hzz hT
  go_enter Tryz.func56,Tryz.ntmps56
  go_wp2_with (first
   | (go_at_call 48; ((with_reducible refine HT.out.mono ?_); rintro e w1 ⟨rfl,hB⟩; have HB:=hid hB; clear hB))
   | (go_at_call 49; ((with_reducible refine (HF.out _ ((HPS.out _ HB.out).alloc _)).mono ?_); rintro e w3 ⟨rfl,hB3⟩)))
  exact ⟨rfl,rfl,frm_below ((HB.out.alloc HB.out.size _).trans (hB3.mono (by have:=HB.out.size; simp; omega)))⟩
set_option maxRecDepth 100000 in
set_option maxHeartbeats 2000000 in
theorem name_fm (hT:TsOk ts z) (h:PSt w B g c ts z m k s):Calls Tryz.prog 56 #[.pointer (some ⟨B,0,none⟩),.int .u8 2,.func (.func 134) #[.pointer (some ⟨B,0,none⟩)] #[]] w fun e w' => if isFM m ts k = true then (e = .returned (.string (tkA ts k).t) /\ FJ B w w' /\ PSt w' B g c ts z m (k + 1) s) else (e = failE ts k 50 /\ FJ B w w'):=by
 have ht:=token_any hT h
 have hi:=hT.ok k _ (hT.get h.hk)
 have hzz:(tkA ts k).k = 2 -> k < z:=fun e => hT.en.ltk h.hk (by omega)
 have hmx:(tkA ts k).t.size <= maxLen:=by unfold maxLen; omega
 have hf:∀ W,PSt W B g c ts z m k s -> Calls Tryz.prog 49 #[.pointer (some ⟨B,0,none⟩),.int .i64 50] W fun E w' => E = failE ts k 50 /\ Below W.heap.size W w':=fun W hW => fail_any hT hW 50
 have hp:(tkA ts k).k = 2 -> ∀ W,PSt W B g c ts z m k s -> Calls Tryz.prog 134 #[.pointer (some ⟨B,0,none⟩),.string (tkA ts k).t] W (RetW W (m && checkB capB alnumB (rest1 (tkA ts k).t))):=fun hk W hW => fmeta_any hW _ (hi.2.2.2.2 hk) (hi.2.2.1)
 unfold tkV at ht
 unfold failE at hf ⊢
 simp only [show ((50:Nat):Int) = 50 from rfl] at hf ⊢
 unfold isFM
 obtain ⟨P,hP⟩:∃ P:Int,P = ((tkA ts k).p:Int):=⟨_,rfl⟩
 rw [<- hP] at ht hf ⊢
 obtain ⟨b,hb⟩:∃ b,b = (m && checkB capB alnumB (rest1 (tkA ts k).t)):=⟨_,rfl⟩
 rw [<- hb] at hp ⊢
 obtain ⟨tk,htk⟩:∃ t,t = tkA ts k:=⟨_,rfl⟩
 rw [<- htk] at ht hi hzz hp ⊢
 clear hb hP htk hmx
 obtain ⟨tkk,tt,tp⟩:=tk
 simp only [] at ht hi hzz hp ⊢
 have HT:=hid ht
 have HF:=hid hf
 have HPS:Hid (∀ W,Below w.heap.size w W -> PSt W B g c ts z m k s):=hid fun W hB => h.below hB
 have HBL:Hid (B < w.heap.size):=hid (HK.blk_lt h.pb)
 have HHS:=hid h.hs
 have hk6:k <= 20000:=by have:=hT.le; have:=h.hk; omega
 have HI:=hid hi
 clear ht hf h hi
 by_cases hk:tkk = 2
 ·subst hk
  have hp:=hp rfl
  have hz:=hzz rfl
  unfold RetW at hp
  have HP:=hid hp
  have HZ:=hid hz
  have HTL:=hid hT.le
  clear hp hz hzz hT
  cases b
  ·simp only [Bool.and_false,Bool.false_eq_true,if_false]
   go_enter Tryz.func56,Tryz.ntmps56
   go_wp2_with (first
    | (go_at_call 48; ((with_reducible refine HT.out.mono ?_); rintro e w1 ⟨rfl,hB⟩; have HB:=hid hB; clear hB))
    | (go_at_call 134; ((with_reducible refine (HP.out _ ((HPS.out _ HB.out).alloc _)).mono ?_); rintro e w2 ⟨rfl,hB2⟩; have HB2:=hid ((HB.out.alloc HB.out.size _).trans (hB2.mono (by have:=HB.out.size; simp; omega))); clear hB2))
    | (go_at_call 49; ((with_reducible refine (HF.out _ (HPS.out _ HB2.out)).mono ?_); rintro e w3 ⟨rfl,hB3⟩)))
   exact ⟨rfl,rfl,frm_below (HB2.out.trans (hB3.mono HB2.out.size))⟩
  ·simp only [decide_true,Bool.and_self,if_true]
   go_enter Tryz.func56,Tryz.ntmps56
   go_wp2_with (first
    | (go_at_call 48; ((with_reducible refine HT.out.mono ?_); rintro e w1 ⟨rfl,hB⟩; have hne:w1.heap.size ≠ B:=(by have:=hB.size; have:=HBL.out; omega); have HB:=hid hB; clear hB))
    | (go_at_call 134; ((with_reducible refine (HP.out _ ((HPS.out _ HB.out).alloc _)).mono ?_); rintro e w2 ⟨rfl,hB2⟩; have hbb:=(hB2.block _ (by simp)).trans (HK.blk_new w1 _); have c1:=HK.blk_cell hbb 1; have HB2:=hid ((HB.out.alloc HB.out.size _).trans (hB2.mono (by have:=HB.out.size; simp; omega))); clear hB2 hbb; have pb:=(HPS.out _ HB2.out).pb; have p1:=HK.blk_cell pb 1; have f1:=HK.blk_frozen pb 1; clear pb)))
   go_ret
   have e2:((k:Int) + 1) = ((k + 1:Nat):Int):=by omega
   rw [e2]
   exact ⟨rfl,(frm_below HB2.out).setCell (p:=⟨B,1,none⟩) (.inl rfl) _,(HPS.out _ HB2.out).goto (by have:=HZ.out; omega) (by have:=HHS.out; omega)⟩
 ·have hk1:(tkk == 2) = false:=by simp [hk]
  simp only [decide_eq_false hk,Bool.false_and,Bool.false_eq_true,if_false]
  clear hp hzz hT
  go_enter Tryz.func56,Tryz.ntmps56
  go_wp2_with (first
   | (go_at_call 48; ((with_reducible refine HT.out.mono ?_); rintro e w1 ⟨rfl,hB⟩; have HB:=hid hB; clear hB))
   | (go_at_call 49; ((with_reducible refine (HF.out _ ((HPS.out _ HB.out).alloc _)).mono ?_); rintro e w3 ⟨rfl,hB3⟩)))
  exact ⟨rfl,rfl,frm_below ((HB.out.alloc HB.out.size _).trans (hB3.mono (by have:=HB.out.size; simp; omega)))⟩
set_option maxRecDepth 100000 in
set_option maxHeartbeats 2000000 in
theorem name_tm (hT:TsOk ts z) (h:PSt w B g c ts z m k s):Calls Tryz.prog 56 #[.pointer (some ⟨B,0,none⟩),.int .u8 2,.func (.func 57) #[.pointer (some ⟨B,0,none⟩)] #[]] w fun e w' => if isTM m ts k = true then (e = .returned (.string (tkA ts k).t) /\ FJ B w w' /\ PSt w' B g c ts z m (k + 1) s) else (e = failE ts k 50 /\ FJ B w w'):=by
 have ht:=token_any hT h
 have hi:=hT.ok k _ (hT.get h.hk)
 have hzz:(tkA ts k).k = 2 -> k < z:=fun e => hT.en.ltk h.hk (by omega)
 have hmx:(tkA ts k).t.size <= maxLen:=by unfold maxLen; omega
 have hf:∀ W,PSt W B g c ts z m k s -> Calls Tryz.prog 49 #[.pointer (some ⟨B,0,none⟩),.int .i64 50] W fun E w' => E = failE ts k 50 /\ Below W.heap.size W w':=fun W hW => fail_any hT hW 50
 have hp:(tkA ts k).k = 2 -> ∀ W,PSt W B g c ts z m k s -> Calls Tryz.prog 57 #[.pointer (some ⟨B,0,none⟩),.string (tkA ts k).t] W (RetW W (m && checkB funB alnumB (rest1 (tkA ts k).t))):=fun hk W hW => tmeta_any hW _ (hi.2.2.2.2 hk) (hi.2.2.1)
 unfold tkV at ht
 unfold failE at hf ⊢
 simp only [show ((50:Nat):Int) = 50 from rfl] at hf ⊢
 unfold isTM
 obtain ⟨P,hP⟩:∃ P:Int,P = ((tkA ts k).p:Int):=⟨_,rfl⟩
 rw [<- hP] at ht hf ⊢
 obtain ⟨b,hb⟩:∃ b,b = (m && checkB funB alnumB (rest1 (tkA ts k).t)):=⟨_,rfl⟩
 rw [<- hb] at hp ⊢
 obtain ⟨tk,htk⟩:∃ t,t = tkA ts k:=⟨_,rfl⟩
 rw [<- htk] at ht hi hzz hp ⊢
 clear hb hP htk hmx
 obtain ⟨tkk,tt,tp⟩:=tk
 simp only [] at ht hi hzz hp ⊢
 have HT:=hid ht
 have HF:=hid hf
 have HPS:Hid (∀ W,Below w.heap.size w W -> PSt W B g c ts z m k s):=hid fun W hB => h.below hB
 have HBL:Hid (B < w.heap.size):=hid (HK.blk_lt h.pb)
 have HHS:=hid h.hs
 have hk6:k <= 20000:=by have:=hT.le; have:=h.hk; omega
 have HI:=hid hi
 clear ht hf h hi
 by_cases hk:tkk = 2
 ·subst hk
  have hp:=hp rfl
  have hz:=hzz rfl
  unfold RetW at hp
  have HP:=hid hp
  have HZ:=hid hz
  have HTL:=hid hT.le
  clear hp hz hzz hT
  cases b
  ·simp only [Bool.and_false,Bool.false_eq_true,if_false]
   go_enter Tryz.func56,Tryz.ntmps56
   go_wp2_with (first
    | (go_at_call 48; ((with_reducible refine HT.out.mono ?_); rintro e w1 ⟨rfl,hB⟩; have HB:=hid hB; clear hB))
    | (go_at_call 57; ((with_reducible refine (HP.out _ ((HPS.out _ HB.out).alloc _)).mono ?_); rintro e w2 ⟨rfl,hB2⟩; have HB2:=hid ((HB.out.alloc HB.out.size _).trans (hB2.mono (by have:=HB.out.size; simp; omega))); clear hB2))
    | (go_at_call 49; ((with_reducible refine (HF.out _ (HPS.out _ HB2.out)).mono ?_); rintro e w3 ⟨rfl,hB3⟩)))
   exact ⟨rfl,rfl,frm_below (HB2.out.trans (hB3.mono HB2.out.size))⟩
  ·simp only [decide_true,Bool.and_self,if_true]
   go_enter Tryz.func56,Tryz.ntmps56
   go_wp2_with (first
    | (go_at_call 48; ((with_reducible refine HT.out.mono ?_); rintro e w1 ⟨rfl,hB⟩; have hne:w1.heap.size ≠ B:=(by have:=hB.size; have:=HBL.out; omega); have HB:=hid hB; clear hB))
    | (go_at_call 57; ((with_reducible refine (HP.out _ ((HPS.out _ HB.out).alloc _)).mono ?_); rintro e w2 ⟨rfl,hB2⟩; have hbb:=(hB2.block _ (by simp)).trans (HK.blk_new w1 _); have c1:=HK.blk_cell hbb 1; have HB2:=hid ((HB.out.alloc HB.out.size _).trans (hB2.mono (by have:=HB.out.size; simp; omega))); clear hB2 hbb; have pb:=(HPS.out _ HB2.out).pb; have p1:=HK.blk_cell pb 1; have f1:=HK.blk_frozen pb 1; clear pb)))
   go_ret
   have e2:((k:Int) + 1) = ((k + 1:Nat):Int):=by omega
   rw [e2]
   exact ⟨rfl,(frm_below HB2.out).setCell (p:=⟨B,1,none⟩) (.inl rfl) _,(HPS.out _ HB2.out).goto (by have:=HZ.out; omega) (by have:=HHS.out; omega)⟩
 ·have hk1:(tkk == 2) = false:=by simp [hk]
  simp only [decide_eq_false hk,Bool.false_and,Bool.false_eq_true,if_false]
  clear hp hzz hT
  go_enter Tryz.func56,Tryz.ntmps56
  go_wp2_with (first
   | (go_at_call 48; ((with_reducible refine HT.out.mono ?_); rintro e w1 ⟨rfl,hB⟩; have HB:=hid hB; clear hB))
   | (go_at_call 49; ((with_reducible refine (HF.out _ ((HPS.out _ HB.out).alloc _)).mono ?_); rintro e w3 ⟨rfl,hB3⟩)))
  exact ⟨rfl,rfl,frm_below ((HB.out.alloc HB.out.size _).trans (hB3.mono (by have:=HB.out.size; simp; omega)))⟩
end
end Go.Proofs.YtdobflpbkfkmgaaGreatDoor
namespace Go.Proofs.YtdobflpbkfkmgaaGreatDoor
open Go.RowKit Go.HK Go.FR Lib
set_option linter.unusedVariables false
set_option linter.unusedSimpArgs false
set_option linter.unusedSectionVars false
def unG:List (ByteArray × Value):=[(⟨#[126]⟩,.int .u8 3),(⟨#[91,93]⟩,.int .u8 10),(⟨#[60,62]⟩,.int .u8 11),(⟨#[110,101,120,116]⟩,.int .u8 12),(⟨#[97,108,119,97,121,115]⟩,.int .u8 13),(⟨#[97,108,108]⟩,.int .u8 8),(⟨#[115,111,109,101]⟩,.int .u8 9)]
theorem run_lookup2_str {P:Program} {w:World} {t k e:TypeId} {m:Nat} {es:Array MapEntry} {clock:Nat} {gs:List (ByteArray × Value)} {z:Value} (s:ByteArray)
  (ht:P.underlying t = some (.map k e)) (hk:P.underlying k = some .string) (hz:(zeroValue e).run P w = .ok z w)
  (hm:w.heap[m]? = some (.map es clock)) (hg:MapIs es.toList gs) :
  (Instr.lookup t (.map (some m)) (.string s) true).run P w = .ok (.tuple #[(gget gs s).getD z,.bool (gget gs s).isSome]) w:=by
 have h1:=MapKept.run_findKey (P:=P) (w:=w) hk (findNow_str s es.toList gs 0 hg)
 have h2:=MapKept.run_checkKey (P:=P) (w:=w) (k:=.string s) hk (by simp [MapKept.IsKey]) es.isEmpty 9999
 unfold Instr.lookup
 simp only [Sem.run_bind,run_underlying ht,Result.andThen,MapKept.run_getObj_map hm,Sem.run_pure,h2,h1]
 unfold gget
 cases gfind s gs 0 with
 | none => simp [hz]
 | some q => simp
theorem put_get {w:World} {M:Nat} {o o':Obj} (h:w.heap[M]? = some o):(w.putObj M o').heap[M]? = some o':=by
 obtain ⟨hlt,_⟩:=Array.getElem?_eq_some_iff.1 h
 simp [World.putObj,hlt]
theorem put_below {B:Nat} {a w:World} (h:Below B a w) {M:Nat} (hM:B <= M) (o:Obj):Below B a (w.putObj M o) :=
 ⟨h.os,h.tape,h.output,by simpa [World.putObj] using h.size,fun k hk => by
  rw [<- h.block k hk]; simp [World.putObj,Array.getElem?_setIfInBounds]; intro e; omega⟩
set_option maxRecDepth 100000 in
set_option maxHeartbeats 2000000 in
theorem unaries_call (w:World):Calls Tryz.prog 110 #[] w fun e w' => e = .returned (.map (some w.heap.size)) /\ Below w.heap.size w w' /\ ∃ es cl,w'.heap[w.heap.size]? = some (.map es cl) /\ MapIs es.toList unG:=by
 have hmm:=@run_makeMap Tryz.prog
 have h0:(w.alloc (.map #[] 0)).heap[w.heap.size]? = some (.map #[] 0):=HK.blk_new w _
 have g0:MapIs (#[]:Array MapEntry).toList []:=rfl
 have b0:Below w.heap.size w (w.alloc (.map #[] 0)):=(Below.refl _ w).alloc (Nat.le_refl _) _
 obtain ⟨e1,c1,r1,g1⟩:=run_mapUpdate_str (P:=Tryz.prog) ⟨#[126]⟩ (.int .u8 3) Tryz.underlying143 Tryz.underlying9 h0 g0
 have h1:=put_get (o':=.map e1 c1) h0
 have b1:=put_below b0 (Nat.le_refl _) (.map e1 c1)
 obtain ⟨e2,c2,r2,g2⟩:=run_mapUpdate_str (P:=Tryz.prog) ⟨#[91,93]⟩ (.int .u8 10) Tryz.underlying143 Tryz.underlying9 h1 g1
 have h2:=put_get (o':=.map e2 c2) h1
 have b2:=put_below b1 (Nat.le_refl _) (.map e2 c2)
 obtain ⟨e3,c3,r3,g3⟩:=run_mapUpdate_str (P:=Tryz.prog) ⟨#[60,62]⟩ (.int .u8 11) Tryz.underlying143 Tryz.underlying9 h2 g2
 have h3:=put_get (o':=.map e3 c3) h2
 have b3:=put_below b2 (Nat.le_refl _) (.map e3 c3)
 obtain ⟨e4,c4,r4,g4⟩:=run_mapUpdate_str (P:=Tryz.prog) ⟨#[110,101,120,116]⟩ (.int .u8 12) Tryz.underlying143 Tryz.underlying9 h3 g3
 have h4:=put_get (o':=.map e4 c4) h3
 have b4:=put_below b3 (Nat.le_refl _) (.map e4 c4)
 obtain ⟨e5,c5,r5,g5⟩:=run_mapUpdate_str (P:=Tryz.prog) ⟨#[97,108,119,97,121,115]⟩ (.int .u8 13) Tryz.underlying143 Tryz.underlying9 h4 g4
 have h5:=put_get (o':=.map e5 c5) h4
 have b5:=put_below b4 (Nat.le_refl _) (.map e5 c5)
 obtain ⟨e6,c6,r6,g6⟩:=run_mapUpdate_str (P:=Tryz.prog) ⟨#[97,108,108]⟩ (.int .u8 8) Tryz.underlying143 Tryz.underlying9 h5 g5
 have h6:=put_get (o':=.map e6 c6) h5
 have b6:=put_below b5 (Nat.le_refl _) (.map e6 c6)
 obtain ⟨e7,c7,r7,g7⟩:=run_mapUpdate_str (P:=Tryz.prog) ⟨#[115,111,109,101]⟩ (.int .u8 9) Tryz.underlying143 Tryz.underlying9 h6 g6
 have h7:=put_get (o':=.map e7 c7) h6
 have b7:=put_below b6 (Nat.le_refl _) (.map e7 c7)
 have HG:=hid (show MapIs e7.toList unG from g7)
 have HH:=hid h7
 have HB:=hid b7
 clear g0 g1 g2 g3 g4 g5 g6 g7 h0 h1 h2 h3 h4 h5 h6 h7 b0 b1 b2 b3 b4 b5 b6 b7
 go_enter Tryz.func110,Tryz.ntmps110
 go_wp2
 go_ret
 exact ⟨rfl,HB.out,_,_,HH.out,HG.out⟩
theorem unO_get (s:ByteArray):gget unG s = (unO (bys s)).map fun op => .int .u8 (op:Int):=by
 have h:∀ l:List UInt8,s = (⟨l.toArray⟩:ByteArray) ↔ bys s = l:=fun l => bys_eq.symm
 unfold unO
 unfold unG gget
 simp only [gfind,Nat.zero_add]
 by_cases q3:bys s = [126]
 ·have:s = ⟨#[126]⟩:=bys_eq.1 q3
  subst this
  rfl
 have p3:¬ s = ⟨#[126]⟩:=fun e => q3 (by rw [e]; rfl)
 rw [if_neg q3,if_neg p3]
 by_cases q10:bys s = [91,93]
 ·have:s = ⟨#[91,93]⟩:=bys_eq.1 q10
  subst this
  rfl
 have p10:¬ s = ⟨#[91,93]⟩:=fun e => q10 (by rw [e]; rfl)
 rw [if_neg q10,if_neg p10]
 by_cases q11:bys s = [60,62]
 ·have:s = ⟨#[60,62]⟩:=bys_eq.1 q11
  subst this
  rfl
 have p11:¬ s = ⟨#[60,62]⟩:=fun e => q11 (by rw [e]; rfl)
 rw [if_neg q11,if_neg p11]
 by_cases q12:bys s = [110,101,120,116]
 ·have:s = ⟨#[110,101,120,116]⟩:=bys_eq.1 q12
  subst this
  rfl
 have p12:¬ s = ⟨#[110,101,120,116]⟩:=fun e => q12 (by rw [e]; rfl)
 rw [if_neg q12,if_neg p12]
 by_cases q13:bys s = [97,108,119,97,121,115]
 ·have:s = ⟨#[97,108,119,97,121,115]⟩:=bys_eq.1 q13
  subst this
  rfl
 have p13:¬ s = ⟨#[97,108,119,97,121,115]⟩:=fun e => q13 (by rw [e]; rfl)
 rw [if_neg q13,if_neg p13]
 by_cases q8:bys s = [97,108,108]
 ·have:s = ⟨#[97,108,108]⟩:=bys_eq.1 q8
  subst this
  rfl
 have p8:¬ s = ⟨#[97,108,108]⟩:=fun e => q8 (by rw [e]; rfl)
 rw [if_neg q8,if_neg p8]
 by_cases q9:bys s = [115,111,109,101]
 ·have:s = ⟨#[115,111,109,101]⟩:=bys_eq.1 q9
  subst this
  rfl
 have p9:¬ s = ⟨#[115,111,109,101]⟩:=fun e => q9 (by rw [e]; rfl)
 rw [if_neg q9,if_neg p9]
 rfl
end Go.Proofs.YtdobflpbkfkmgaaGreatDoor
