import Derived.Test.YtdobflpbkfkmgaaGreatDoorLexM
namespace Go.Proofs.YtdobflpbkfkmgaaGreatDoor
open Go.RowKit Go.Shelf Lib
set_option linter.unusedVariables false
set_option linter.unusedSimpArgs false
set_option linter.unusedSectionVars false
attribute [local go_sem] Oper.semAt_some wide_fn asked_wide
theorem toks_stops (k:Nat) (hk:1 <= k) (w:World) (b Bs:Nat) (s:ByteArray) (hs:s.size <= maxLen) (ts:List Tok) (p:Nat) (e:Int) (hL:LexL 0 (bys s) ts p e) (hT:Toks w b Bs 0 s) :
  SeqC Fence.wide k Tryz.prog 107 #[.pointer (some ⟨Bs,0,none⟩)] encT b (fun W => ∃ a,Scan W b a s) (KK b Bs) (fun ys => ys = comes ts p e) (fun pre => pre <+: comes ts p e) (comes ts p e).length w:=by
 intro l J Jx W hW hJ _ hY h0
 refine toks_in k hk l b Bs s hs ts p e hL J Jx hJ hY W ?_ h0
 have lt:∀ {a:Addr} {v:Value},w.cell? a = some v -> W.cell? a = some v:=fun {a v} h => (hW.cell (p:=a) (World.block_lt_of_cell? w a h)).trans h
 exact ⟨hT.hS.below hW,lt hT.hB,hT.hG.below hW,hT.hne,hT.hn1,Nat.lt_of_lt_of_le hT.hl hW.size⟩
def flatT (ts:List Tok):List Value:=ts.flatMap (fun t => [.int .u8 t.k,.string t.t,.int .i64 t.p])
theorem info26:(Tryz.prog.info? 86).map (fun i => (i.zero,i.size,i.bytes)) = some (some (.agg #[.int .u8 0,.string ⟨#[]⟩,.int .i64 0]),3,32):=by kernel_rfl
structure LexI (w:World) (s:ByteArray) (pre:List (Tok × Int)) (W:World):Prop where
 all0:∀ x ∈ pre,x.2 = 0
 hr:∃ v,Boxed W (w.heap.size + 3) 77 v /\ W.ownsRow w.heap.size 86 3 v pre.length (flatT (pre.map (·.1)))
 r2:Boxed W w.heap.size 77 (.slice none 0 0)
 r3:Boxed W (w.heap.size + 1) 3 (.int .i64 0)
 r4:Boxed W (w.heap.size + 2) 29 (.int .i64 0)
 hS:∃ a,Scan W (w.heap.size + 4) a s
 hB:Below w.heap.size w W
 hz:w.heap.size + 6 <= W.heap.size
 r5:Boxed W (w.heap.size + 5) 138 (.pointer (some ⟨w.heap.size + 4,0,none⟩))
structure LexX (w:World) (pre:List (Tok × Int)) (W:World):Prop where
 last:∃ q x,pre = q ++ [x] /\ x.2 ≠ 0 /\ Boxed W (w.heap.size + 1) 3 (.int .i64 x.1.p) /\ Boxed W (w.heap.size + 2) 29 (.int .i64 x.2)
 r2:Boxed W w.heap.size 77 (.slice none 0 0)
 hB:Below w.heap.size w W
def LexAx (w:World) (s:ByteArray) (x:Tok × Int) (a':Act) (W:World):Prop :=
 ∃ Bx,w.heap.size + 6 <= Bx /\ W.heap[Bx]? = some (.cells #[.int .u8 x.1.k,.string x.1.t,.int .i64 x.1.p] 86 (0,0)) /\
  a' = { tmps:=#[.string s,undef,.pointer (some ⟨w.heap.size,0,none⟩),.pointer (some ⟨w.heap.size + 1,0,none⟩),.pointer (some ⟨w.heap.size + 1 + 1,0,none⟩),.pointer (some ⟨w.heap.size + 1 + 1 + 1,0,none⟩),.pointer (some ⟨w.heap.size + 1 + 1 + 1 + 1,0,none⟩),
   .pointer (some ⟨Bx,0,none⟩),.int .i64 x.2,.string s,.int .i64 s.size,.bool false,.string s,.agg #[.int .i64 0,.string s],.func (.func 107) #[] #[.pointer (some ⟨w.heap.size + 1 + 1 + 1 + 1 + 1,0,none⟩)],
   .agg #[.int .u8 x.1.k,.string x.1.t,.int .i64 x.1.p],.int .i64 x.2,undef,undef,undef,undef,undef,undef,undef,undef,undef,undef],defers:=[] }
abbrev LexTurn (w:World) (s:ByteArray) (A C:World):Prop:=Turn (w.heap.size + 4) (w.heap.size + 6) (fun W => ∃ a,Scan W (w.heap.size + 4) a s) A C
theorem boxed_turn {w A C:World} {s:ByteArray} {k t:Nat} {v:Value} (h:Boxed A k t v) (ht:LexTurn w s A C) (hk:k ≠ w.heap.size + 4):Boxed C k t v:=ht.same _ _ h hk (.inr rfl)
theorem below_turn {w A C:World} {s:ByteArray} (h:Below w.heap.size w A) (ht:LexTurn w s A C):Below w.heap.size w C :=
 ⟨ht.os.trans h.os,ht.tape.trans h.tape,ht.output.trans h.output,Nat.le_trans h.size ht.size,fun k hk => by
  obtain ⟨o,ho⟩:∃ o,w.heap[k]? = some o:=⟨_,Array.getElem?_eq_getElem hk⟩
  rw [ht.same k o ((h.block k hk).trans ho) (by omega) (.inl (by omega)),ho]⟩
theorem owns_ne_scan {W:World} {n0 b a:Nat} {s:ByteArray} {v:Value} {n:Nat} {xs:List Value} (h:W.ownsRow n0 86 3 v n xs) (hS:Scan W b a s):v.ownBlock ≠ some b :=
 HK.owns_ne_type h hS.h (fun c e => by cases e)
theorem LexI.turn {w A C:World} {s:ByteArray} {pre:List (Tok × Int)} (h:LexI w s pre A) (ht:LexTurn w s A C):LexI w s pre C where
 all0:=h.all0
 hr:=by
  obtain ⟨v,h1,h2⟩:=h.hr
  obtain ⟨a,hS⟩:=h.hS
  have hne:=owns_ne_scan h2 hS
  refine ⟨v,boxed_turn h1 ht (by omega),h2.1,?_⟩
  rcases h2.2 with h0 | ⟨g,cap,cur,rfl,hg,hh,r⟩
  ·exact .inl h0
  ·exact .inr ⟨g,cap,cur,rfl,hg,ht.same _ _ hh (fun e => hne (by simp [Value.ownBlock,e])) (.inr rfl),r⟩
 r2:=boxed_turn h.r2 ht (by omega)
 r3:=boxed_turn h.r3 ht (by omega)
 r4:=boxed_turn h.r4 ht (by omega)
 hS:=ht.keep h.hS
 hB:=below_turn h.hB ht
 hz:=Nat.le_trans h.hz ht.size
 r5:=boxed_turn h.r5 ht (by omega)
theorem LexI.alloc {w A:World} {s:ByteArray} {pre:List (Tok × Int)} (h:LexI w s pre A) (o:Obj):LexI w s pre (A.alloc o) :=
 h.turn (Turn.of_alloc (fun X Y _ hxy ⟨a,hS⟩ => ⟨a,⟨hxy.trans hS.h⟩⟩) A (by have:=h.hz; omega) o)
theorem LexX.turn {w A C:World} {s:ByteArray} {pre:List (Tok × Int)} (h:LexX w pre A) (ht:LexTurn w s A C):LexX w pre C where
 last:=by
  obtain ⟨q,x,h1,h2,h3,h4⟩:=h.last
  exact ⟨q,x,h1,h2,boxed_turn h3 ht (by omega),boxed_turn h4 ht (by omega)⟩
 r2:=boxed_turn h.r2 ht (by omega)
 hB:=below_turn h.hB ht
theorem LexAx.turn {w A C:World} {s:ByteArray} {x:Tok × Int} {a':Act} (h:LexAx w s x a' A) (ht:LexTurn w s A C):LexAx w s x a' C:=by
 obtain ⟨Bx,h1,h2,h3⟩:=h
 exact ⟨Bx,h1,ht.same _ _ h2 (by omega) (.inr rfl),h3⟩
theorem owns_ge {W:World} {base e size:Nat} {v:Value} {n:Nat} {xs:List Value} (h:W.ownsRow base e size v n xs) {j:Nat} (hj:v.ownBlock = some j):base <= j:=by
 rcases h.2 with ⟨rfl,_⟩ | ⟨g,cap,cur,rfl,hg,_,_⟩
 ·cases hj
 ·simp [Value.ownBlock] at hj; subst hj; exact hg
theorem LexI.step {w W w1:World} {s:ByteArray} {pre:List (Tok × Int)} (h:LexI w s pre W) (hw1:2 < w.heap.size) {v v':Value} {tmp:Obj} {t:Tok} (hv:Boxed W (w.heap.size + 3) 77 v) (hrow:W.ownsRow w.heap.size 86 3 v pre.length (flatT (pre.map (·.1))))
  (hgrow:(W.alloc tmp).grownBy w1 v.ownBlock) (hv2:Boxed (w1.setCell ⟨w.heap.size + 3,0,none⟩ v') (w.heap.size + 3) 77 v') (hr2:(w1.setCell ⟨w.heap.size + 3,0,none⟩ v').ownsRow w.heap.size 86 3 v' (pre.length + 1) (flatT (pre.map (·.1)) ++ [.int .u8 t.k,.string t.t,.int .i64 t.p]))
  (hb2:Below w.heap.size W (w1.setCell ⟨w.heap.size + 3,0,none⟩ v')) :
  Keep (KK (w.heap.size + 4) (w.heap.size + 5)) W (w1.setCell ⟨w.heap.size + 3,0,none⟩ v') /\ LexI w s (pre ++ [(t,0)]) (w1.setCell ⟨w.heap.size + 3,0,none⟩ v'):=by
 have hf:HK.Frm (fun j => j = w.heap.size + 3 ∨ v.ownBlock = some j) W (w1.setCell ⟨w.heap.size + 3,0,none⟩ v') :=
  (((HK.Frm.refl _ W).alloc tmp).grown hgrow (fun j e => .inl (.inr e))).setCell (p:=⟨w.heap.size + 3,0,none⟩) (.inl (.inl rfl)) _
 have stay:∀ {k ty:Nat} {cs:Array Value},W.heap[k]? = some (.cells cs ty (0,0)) -> k ≠ w.heap.size + 3 -> ty ≠ 86 -> (w1.setCell ⟨w.heap.size + 3,0,none⟩ v').heap[k]? = some (.cells cs ty (0,0)):=fun {k ty cs} hk hne hty =>
  hf.heap hk (fun hh => hh.elim hne (fun e => HK.owns_ne_type hrow hk (fun c e => by cases e; exact hty rfl) e))
 obtain ⟨a,hS⟩:=h.hS
 have hz:=h.hz
 refine ⟨⟨hf.size,fun k hk => ?_⟩,?_⟩
 ·rcases hk with rfl | rfl | rfl
  ·rw [hS.h]; exact stay hS.h (by omega) (by decide)
  ·rw [show W.heap[w.heap.size + 5]? = _ from h.r5]; exact stay h.r5 (by omega) (by decide)
  ·exact hf.block 2 (by omega) (fun hh => hh.elim (fun e => by omega) (fun e => by have:=owns_ge hrow e; omega))
 ·exact {
   all0:=fun x hx => by
    rcases List.mem_append.1 hx with hx | hx
    ·exact h.all0 x hx
    ·rw [List.mem_singleton.1 hx]
   hr:=⟨v',hv2,by
    rw [List.length_append,List.map_append]
    simp only [flatT,List.flatMap_append,List.map_cons,List.map_nil,List.flatMap_cons,List.flatMap_nil,List.append_nil] at hr2 ⊢
    exact hr2⟩
   r2:=stay h.r2 (by omega) (by decide)
   r3:=stay h.r3 (by omega) (by decide)
   r4:=stay h.r4 (by omega) (by decide)
   hS:=⟨a,⟨stay hS.h (by omega) (by decide)⟩⟩
   hB:=h.hB.trans hb2
   hz:=Nat.le_trans hz hf.size
   r5:=stay h.r5 (by omega) (by decide) }
theorem owns_slice {W:World} {base e size:Nat} {v:Value} {n:Nat} {xs:List Value} (h:W.ownsRow base e size v n xs):∃ a c,v = .slice a n c:=by
 rcases h.2 with ⟨rfl,h0⟩ | ⟨g,cap,cur,rfl,_⟩
 ·exact ⟨none,0,by rw [h0]⟩
 ·exact ⟨_,_,rfl⟩
theorem Boxed.putD {W:World} {k t D:Nat} {v:Value} (h:Boxed W k t v) (hne:k ≠ D) (o:Obj):Boxed (W.putObj D o) k t v:=h.kept (grownBy_putObj' W D o) (fun e => hne (by cases e; rfl))
theorem LexI.fail {w W:World} {s:ByteArray} {pre:List (Tok × Int)} (h:LexI w s pre W) {t:Tok} {f:Int} (hf:f ≠ 0) (B:Nat) :
  KeepsFrom B W (((W.setCell ⟨w.heap.size,0,none⟩ (.slice none 0 0)).setCell ⟨w.heap.size + 1,0,none⟩ (.int .i64 t.p)).setCell ⟨w.heap.size + 1 + 1,0,none⟩ (.int .i64 f)).drew /\
  LexX w (pre ++ [(t,f)]) (((W.setCell ⟨w.heap.size,0,none⟩ (.slice none 0 0)).setCell ⟨w.heap.size + 1,0,none⟩ (.int .i64 t.p)).setCell ⟨w.heap.size + 1 + 1,0,none⟩ (.int .i64 f)).drew:=by
 refine ⟨((((KeepsOthers.setCell W _ _).trans (KeepsOthers.setCell _ _ _)).trans (KeepsOthers.setCell _ _ _)).trans (KeepsOthers.drew _)).from _,⟨pre,(t,f),rfl,hf,?_,?_⟩,?_,?_⟩
 ·exact (((h.r3.other (by omega) (.slice none 0 0)).set (.int .i64 t.p)).other (by omega) (.int .i64 f))
 ·exact (((h.r4.other (by omega) (.slice none 0 0)).other (by omega) (.int .i64 t.p)).set (.int .i64 f))
 ·exact (((h.r2.set (.slice none 0 0)).other (by omega) (.int .i64 t.p)).other (by omega) (.int .i64 f))
 ·exact (((h.hB.setCell (p:=⟨w.heap.size,0,none⟩) (Nat.le_refl _) _).setCell (p:=⟨w.heap.size + 1,0,none⟩) (by simp) _).setCell (p:=⟨w.heap.size + 1 + 1,0,none⟩) (by simp; omega) _).drew
def RetL (w:World) (ts:List Tok) (p:Nat) (e:Int) (E:Ending) (W':World):Prop :=
 Below w.heap.size w W' /\ ((e = 0 /\ ∃ v,E = .returned (.tuple #[v,.int .i64 0,.int .i64 0]) /\ W'.ownsRow w.heap.size 86 3 v ts.length (flatT ts)) ∨ (e ≠ 0 /\ E = .returned (.tuple #[.slice none 0 0,.int .i64 p,.int .i64 e])))
theorem comes_good {ts:List Tok} {p:Nat} {e:Int} (h:∀ x ∈ comes ts p e,x.2 = 0):e = 0 /\ (comes ts p e).length = ts.length /\ (comes ts p e).map (·.1) = ts:=by
 by_cases he:e = 0
 ·subst he
  refine ⟨rfl,by simp [comes],?_⟩
  simp only [comes,if_pos,List.append_nil,List.map_map]
  exact List.map_id ts
 ·have:=h (⟨0,⟨#[]⟩,p⟩,e) (by simp [comes,he])
  exact absurd this he
theorem comes_bad {ts:List Tok} {p:Nat} {e:Int} {q:List (Tok × Int)} {x:Tok × Int} (h:q ++ [x] <+: comes ts p e) (hx:x.2 ≠ 0):e ≠ 0 /\ x.1.p = p /\ x.2 = e:=by
 have hm:x ∈ comes ts p e:=h.subset (by simp)
 simp only [comes,List.mem_append,List.mem_map] at hm
 rcases hm with ⟨t,_,rfl⟩ | hm
 ·exact absurd rfl hx
 ·split at hm
  ·cases hm
  ·rename_i he
   rw [List.mem_singleton.1 hm]
   exact ⟨he,rfl,rfl⟩
set_option maxRecDepth 100000 in
set_option maxHeartbeats 4000000 in
theorem lex_in (w:World) (s:ByteArray) (hs:s.size <= 16384) (hG:Signs w) (ts:List Tok) (p:Nat) (e:Int) (hL:LexL 0 (bys s) ts p e) :
  CallsIn Fence.wide 9 Tryz.prog 46 #[.string s] w (RetL w ts p e):=by
 have hs2:s.size <= maxLen:=by unfold maxLen; omega
 have HG:=hid hG
 have HL:=hid hL
 have d1:¬ ((16384:Int) < (s.size:Int)):=by omega
 clear hG hL
 refine callsIn_of_wp_marks Tryz.func46 rfl trivial ?_ rfl
 simp only [Tryz.ntmps46,List.size_toArray,List.length_cons,List.length_nil,Nat.reduceAdd,Nat.reduceSub,Array.replicate_succ,Array.replicate_zero,List.push_toArray,List.append_toArray,List.nil_append,List.cons_append]
 gi_wp2_with (gi_at_call 78; refine (tokens_in _ _ _).mono ?_; rintro e w' ⟨rfl,rfl⟩)
 obtain ⟨w0,hw0⟩:∃ w0,w0 = ((((((w.alloc (.cells #[.slice none 0 0] 77)).alloc (.cells #[.int .i64 0] 3)).alloc (.cells #[.int .i64 0] 29)).alloc (.cells #[.slice none 0 0] 77)).alloc (.cells #[.int .i64 0,.string s] 112)).alloc (.cells #[.pointer (some ⟨w.heap.size + 1 + 1 + 1 + 1,0,none⟩)] 138)):=⟨_,rfl⟩
 have hb0:Below w.heap.size w w0:=by
  rw [hw0]; exact (((((((Below.refl _ w).alloc (Nat.le_refl _) _).alloc (by simp) _).alloc (by simp; omega) _).alloc (by simp; omega) _).alloc (by simp; omega) _).alloc (by simp; omega) _)
 have hsz:w0.heap.size = w.heap.size + 6:=by rw [hw0]; simp
 have b2:Boxed w0 w.heap.size 77 (.slice none 0 0):=by rw [hw0]; exact (((((Boxed.new w 77 _).alloc _).alloc _).alloc _).alloc _).alloc _
 have b3:Boxed w0 (w.heap.size + 1) 3 (.int .i64 0):=by
  rw [hw0]; have:=((((Boxed.new (w.alloc (.cells #[.slice none 0 0] 77)) 3 (.int .i64 0)).alloc (.cells #[.int .i64 0] 29)).alloc (.cells #[.slice none 0 0] 77)).alloc (.cells #[.int .i64 0,.string s] 112)).alloc (.cells #[.pointer (some ⟨w.heap.size + 1 + 1 + 1 + 1,0,none⟩)] 138)
  simpa using this
 have b4:Boxed w0 (w.heap.size + 2) 29 (.int .i64 0):=by
  rw [hw0]; have:=(((Boxed.new ((w.alloc (.cells #[.slice none 0 0] 77)).alloc (.cells #[.int .i64 0] 3)) 29 (.int .i64 0)).alloc (.cells #[.slice none 0 0] 77)).alloc (.cells #[.int .i64 0,.string s] 112)).alloc (.cells #[.pointer (some ⟨w.heap.size + 1 + 1 + 1 + 1,0,none⟩)] 138)
  simpa using this
 have b5:Boxed w0 (w.heap.size + 3) 77 (.slice none 0 0):=by
  rw [hw0]; have:=((Boxed.new (((w.alloc (.cells #[.slice none 0 0] 77)).alloc (.cells #[.int .i64 0] 3)).alloc (.cells #[.int .i64 0] 29)) 77 (.slice none 0 0)).alloc (.cells #[.int .i64 0,.string s] 112)).alloc (.cells #[.pointer (some ⟨w.heap.size + 1 + 1 + 1 + 1,0,none⟩)] 138)
  simpa using this
 have b6:Scan w0 (w.heap.size + 4) 0 s:=by
  rw [hw0]; have:=HK.blk_alloc (HK.blk_new ((((w.alloc (.cells #[.slice none 0 0] 77)).alloc (.cells #[.int .i64 0] 3)).alloc (.cells #[.int .i64 0] 29)).alloc (.cells #[.slice none 0 0] 77)) (.cells #[.int .i64 0,.string s] 112)) (.cells #[.pointer (some ⟨w.heap.size + 1 + 1 + 1 + 1,0,none⟩)] 138)
  exact ⟨by simpa using this⟩
 have b7:Boxed w0 (w.heap.size + 5) 138 (.pointer (some ⟨w.heap.size + 4,0,none⟩)):=by
  rw [hw0]; have:=Boxed.new (((((w.alloc (.cells #[.slice none 0 0] 77)).alloc (.cells #[.int .i64 0] 3)).alloc (.cells #[.int .i64 0] 29)).alloc (.cells #[.slice none 0 0] 77)).alloc (.cells #[.int .i64 0,.string s] 112)) 138 (.pointer (some ⟨w.heap.size + 4,0,none⟩))
  simpa using this
 have hG0:Signs w0:=HG.out.below hb0
 have hw1:=HG.out.2
 have hT:Toks w0 (w.heap.size + 4) (w.heap.size + 5) 0 s:=⟨b6,b7.cell,hG0,by omega,by omega,by omega⟩
 have hI0:LexI w s [] w0:=⟨(fun x hx => by cases hx),⟨_,b5,World.ownsRow_nil _ _ _ _⟩,b2,b3,b4,⟨0,b6⟩,hb0,by omega,b7⟩
 have hlen:(comes ts p e).length <= s.size + 3:=by
  have:=(lex_places HL.out).1
  have h2:(bys s).length = s.size:=rfl
  simp only [comes,List.length_append,List.length_map]
  split <;> simp <;> omega
 rw [<- hw0]
 refine range_cell (b:=w.heap.size + 4) (T:=fun W => ∃ a,Scan W (w.heap.size + 4) a s) (K:=KK (w.heap.size + 4) (w.heap.size + 5)) rfl (by omega) (gf:=107) (lb:=#[.pointer (some ⟨w.heap.size + 5,0,none⟩)]) rfl trivial (enters_of Tryz.func107 (by kernel_rfl) rfl)
  (fun A C _ h ⟨a,hS⟩ => ⟨a,⟨h.trans hS.h⟩⟩)
  (toks_stops 8 (by omega) w0 _ _ s hs2 ts p e HL.out hT)
  (by omega) (fun k hk => by rcases hk with h | h | h <;> omega) (fun _ => rfl)
  (LexI w s) (fun c pre W => c = .ret /\ LexX w pre W)
  (fun _ A C h ht => by rw [hsz] at ht; exact h.turn ht) (fun _ _ A C h ht => by rw [hsz] at ht; exact ⟨h.1,h.2.turn ht⟩) hI0
  (LexAx w s) (fun _ _ A C h ht => by rw [hsz] at ht; exact h.turn ht) ?assign ?body ?done ?stop
 case assign =>
  intro l pre x W R hI hR
  simp only [encT]
  gi_wp2
  have hz:=hI.hz
  refine hR _ _ ((KeepsOthers.alloc _ _).from _) ⟨by simp,fun k hk => Below.heap_alloc _ _ _ (by rcases hk with h | h | h <;> omega)⟩ (hI.alloc _) ⟨W.heap.size,hz,HK.blk_new _ _,rfl⟩
 case body =>
  intro l pre x a' W hI hax hpl
  obtain ⟨Bx,hBx,hX,rfl⟩:=hax
  obtain ⟨⟨k,t,pl⟩,f⟩:=x
  dsimp only at hX ⊢
  have hz:=hI.hz
  have x0:=HK.blk_cell hX 0
  have x1:=HK.blk_cell hX 1
  have x2:=HK.blk_cell hX 2
  obtain ⟨v,hv,hrow⟩:=hI.hr
  have c5:=hv.cell
  have HI:=hid hI
  have HX:=hid hX
  have HPL:=hid hpl
  have HLEN:=hid hlen
  have HW:=hid hw0
  have HSZ:=hid hsz
  have HT:=hid hT
  clear hI hX hpl hlen hw0 hsz b2 b3 b4 b5 b6 b7 hG0 hT hI0 hb0 HL
  by_cases h0:f = 0
  ·subst h0
   have hB:=HI.out.hB.size
   have hn:pre.length <= 16400:=by have:=HPL.out; have:=HLEN.out; omega
   obtain ⟨i0',hi,hz0,hz1,hz2⟩:=info_parts info26
   gi_wp2_with (gi_at_builtin; refine wpListIn_append_own _ rfl _ _ 77 rfl w.heap.size 86 i0' (.agg #[.int .u8 0,.string ⟨#[]⟩,.int .i64 0]) 3 32 Tryz.underlying77 hi hz0 hz1 hz2 rfl (by decide) _ _ _ rfl (hrow.alloc _) ⟨W.heap.size,0,none⟩ 1 1 [.int .u8 k,.string t,.int .i64 pl] rfl rfl (World.news_of_block (cs:=#[.int .u8 k,.string t,.int .i64 pl]) (t:=86) (fr:=(0,0)) (World.alloc_heap_new W _)) (by simp [Value.oneCell']) (by simp only [maxLen]; omega) (by omega) (by simp; omega) ?_; intro v' w1 hown' hgrow _; obtain ⟨g',cap',rfl⟩:=ownsRow_succ hown'; obtain ⟨hv1,hv2,hr2,hk2,hb2⟩:=hv.appended (by decide) hrow hB (by omega) hown' hgrow; have hc1:=hv1.cell; have hf1:=hv1.frozen)
   obtain ⟨g1,g2⟩:=HI.out.step hw1 (t:=⟨k,t,pl⟩) hv hrow hgrow hv2 hr2 hb2
   exact ⟨hk2.from _,g1,g2⟩
  ·have n1:(f != 0) = true:=by simpa using h0
   have n0:(f == 0) = false:=by simpa using h0
   have r2:=HI.out.r2.cell
   have r3:=HI.out.r3.cell
   have r4:=HI.out.r4.cell
   have q2:=HI.out.r2.frozen
   have q3:=HI.out.r3.frozen
   have q4:=HI.out.r4.frozen
   have HF:=hid (HI.out.fail (t:=⟨k,t,pl⟩) h0 w0.heap.size)
   have hmix:Tryz.prog.follows .mixedOrders = true:=by kernel_rfl
   clear h0
   gi_wp2_with (fail)
   gi_region_with_o (fail)
   all_goals (
    gi_wp2
    exact ⟨HF.out.1,rfl,HF.out.2⟩)
 case done =>
  rintro D ys W hD rfl hI hK
  obtain ⟨he,hl,hm⟩:=comes_good hI.all0
  obtain ⟨v,hv,hrow⟩:=hI.hr
  rw [hl,hm] at hrow
  obtain ⟨oa,oc,rfl⟩:=owns_slice hrow
  have c5:=hv.cell
  have r2:=hI.r2.cell
  have r3:=hI.r3.cell
  have r4:=hI.r4.cell
  have q2:=hI.r2.frozen
  have q3:=hI.r3.frozen
  have q4:=hI.r4.frozen
  have HI:=hid hI
  have HE:=hid he
  have HL2:=hid hl
  have HM2:=hid hm
  have HKD:=hid hK
  have HD:=hid hD
  have HR:=hid hrow
  have HW:=hid hw0
  have HSZ:=hid hsz
  clear hI he hl hm hK hD hrow hw0 hsz b2 b3 b4 b5 b6 b7 hG0 hT hI0 hb0 HL
  gi_wp2
  have hK2:=(((KeepsOthers.setCell W ⟨w.heap.size,0,none⟩ (.slice oa ts.length oc)).trans (KeepsOthers.setCell _ ⟨w.heap.size + 1,0,none⟩ (.int .i64 0))).trans (KeepsOthers.setCell _ ⟨w.heap.size + 1 + 1,0,none⟩ (.int .i64 0))).same D _ HKD.out rfl
  refine ⟨by simp,.inl ⟨_,_,rfl,run_takeDeferred hK2,?_⟩⟩
  have hDn:w.heap.size + 2 < D:=by have:=HD.out; have:=HSZ.out; omega
  have n2:=HK.owns_ne_type HR.out HI.out.r2 (fun c e => by cases e)
  have n3:=HK.owns_ne_type HR.out HI.out.r3 (fun c e => by cases e)
  have n4:=HK.owns_ne_type HR.out HI.out.r4 (fun c e => by cases e)
  have t2:=(Boxed.putD (((HI.out.r2.set (.slice oa ts.length oc)).other (B':=w.heap.size + 1) (by omega) (.int .i64 0)).other (B':=w.heap.size + 1 + 1) (by omega) (.int .i64 0)) (D:=D) (by omega) (.deferred none)).cell
  have t3:=(Boxed.putD (((HI.out.r3.other (B':=w.heap.size) (by omega) (.slice oa ts.length oc)).set (.int .i64 0)).other (B':=w.heap.size + 1 + 1) (by omega) (.int .i64 0)) (D:=D) (by omega) (.deferred none)).cell
  have t4:=(Boxed.putD (((HI.out.r4.other (B':=w.heap.size) (by omega) (.slice oa ts.length oc)).other (B':=w.heap.size + 1) (by omega) (.int .i64 0)).set (.int .i64 0)) (D:=D) (by omega) (.deferred none)).cell
  have hrow2:=HK.owns_setCell (HK.owns_setCell (HK.owns_setCell HR.out (p:=⟨w.heap.size,0,none⟩) n2 (.slice oa ts.length oc)) (p:=⟨w.heap.size + 1,0,none⟩) n3 (.int .i64 0)) (p:=⟨w.heap.size + 1 + 1,0,none⟩) n4 (.int .i64 0)
  have hrow3:=ownsRow_putObj hrow2 (.deferred none) hK2 rfl
  refine ⟨.tuple #[.slice oa ts.length oc,.int .i64 0,.int .i64 0],by simp [results,Tryz.results46,go_sem,t2,t3,t4],?_,.inl ⟨HE.out,_,rfl,hrow3⟩⟩
  refine (((HI.out.hB.setCell (p:=⟨w.heap.size,0,none⟩) (Nat.le_refl _) _).setCell (p:=⟨w.heap.size + 1,0,none⟩) (by simp) _).setCell (p:=⟨w.heap.size + 1 + 1,0,none⟩) (by simp; omega) _).grown (grownBy_putObj' _ D _) (by have:=HI.out.hB.size; simp; omega) (fun k e => by cases e; omega)
 case stop =>
  rintro D c pre W hD hpre ⟨rfl,hX⟩ hK
  obtain ⟨q,x,rfl,h0,r3,r4⟩:=hX.last
  obtain ⟨he,hp,hx⟩:=comes_bad hpre h0
  rw [hp] at r3
  rw [hx] at r4
  have HE:=hid he
  have HKD:=hid hK
  have HD:=hid hD
  have HX:=hid hX
  have HSZ:=hid hsz
  clear he hp hx hpre hK hD hX hw0 hsz b2 b3 b4 b5 b6 b7 hG0 hT hI0 hb0 HL
  gi_wp2
  refine ⟨by simp,.inl ⟨_,_,rfl,run_takeDeferred HKD.out,?_⟩⟩
  have hDn:w.heap.size + 2 < D:=by have:=HD.out; have:=HSZ.out; omega
  have t2:=(Boxed.putD HX.out.r2 (D:=D) (by omega) (.deferred none)).cell
  have t3:=(Boxed.putD r3 (D:=D) (by omega) (.deferred none)).cell
  have t4:=(Boxed.putD r4 (D:=D) (by omega) (.deferred none)).cell
  refine ⟨.tuple #[.slice none 0 0,.int .i64 p,.int .i64 e],by simp [results,Tryz.results46,go_sem,t2,t3,t4],?_,.inr ⟨HE.out,rfl⟩⟩
  exact (HX.out.hB).grown (grownBy_putObj' W D _) (by have:=HX.out.hB.size; omega) (fun k e => by cases e; omega)
end Go.Proofs.YtdobflpbkfkmgaaGreatDoor
