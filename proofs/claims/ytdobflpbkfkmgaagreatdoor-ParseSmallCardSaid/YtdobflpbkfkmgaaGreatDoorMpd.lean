import Derived.Test.YtdobflpbkfkmgaaGreatDoorMpb
import Derived.Test.YtdobflpbkfkmgaaGreatDoorMpa
namespace Go.Proofs.YtdobflpbkfkmgaaGreatDoor
open Go.RowKit Go.HK Go.FR Lib
set_option linter.unusedVariables false
set_option linter.unusedSimpArgs false
set_option linter.unusedSectionVars false
def SL' (lo n:Nat) (k:Nat):Prop:=lo <= k /\ k < n
def FmV (W:World) (lo:Nat) (f:Fm) (v:Value):Prop:=∃ a s:SL,v = .agg #[.int .u8 (f.op:Int),.string f.name,a.v,s.v] /\ IsTs (SL' lo W.heap.size) W a f.args /\ IsFs (SL' lo W.heap.size) W s f.subs /\ f.op < 256 /\ f.name.size <= maxLen
def TmV (W:World) (lo:Nat) (t:Tm) (v:Value):Prop:=∃ s:SL,v = .agg #[.bool t.var,.string t.name,s.v] /\ IsTs (SL' lo W.heap.size) W s t.args /\ t.name.size <= maxLen
def TsV (W:World) (lo:Nat) (l:List Tm) (v:Value):Prop:=∃ s:SL,v = s.v /\ IsTs (SL' lo W.heap.size) W s l
structure Up (lo lo':Nat) (W W':World):Prop where
 le:lo' <= lo
 size:W.heap.size <= W'.heap.size
 block:∀ k,lo <= k -> k < W.heap.size -> W'.heap[k]? = W.heap[k]?
theorem Up.turn {lo lo':Nat} {W W':World} (h:Up lo lo' W W'):∀ k,SL' lo W.heap.size k -> SL' lo' W'.heap.size k /\ W'.heap[k]? = W.heap[k]?:=fun k hk => ⟨⟨Nat.le_trans h.le hk.1,Nat.lt_of_lt_of_le hk.2 h.size⟩,h.block k hk.1 hk.2⟩
theorem Up.of_fj {B lo lo':Nat} {W W':World} (h:FJ B W W') (hB:B < lo) (hl:lo' <= lo):Up lo lo' W W':=⟨hl,h.size,fun k h1 h2 => h.block k h2 (by omega)⟩
theorem Up.set {lo lo':Nat} {W W':World} (h:Up lo lo' W W') {a:Addr} (ha:a.block < lo) (v:Value):Up lo lo' W (W'.setCell a v):=⟨h.le,by simpa using h.size,fun k h1 h2 => (Below.heap_setCell _ _ _ _ (by omega)).trans (h.block k h1 h2)⟩
theorem Up.alloc {lo lo':Nat} {W W':World} (h:Up lo lo' W W') (o:Obj):Up lo lo' W (W'.alloc o):=⟨h.le,Nat.le_trans h.size (by simp),fun k h1 h2 => (Below.heap_alloc _ _ _ (Nat.lt_of_lt_of_le h2 h.size)).trans (h.block k h1 h2)⟩
theorem Up.drew {lo lo':Nat} {W W':World} (h:Up lo lo' W W'):Up lo lo' W W'.drew:=⟨h.le,h.size,h.block⟩
theorem Up.tr {lo lo':Nat} {A C D:World} (h:Up lo lo' A C) (h2:Up lo lo' C D):Up lo lo' A D:=⟨h.le,Nat.le_trans h.size h2.size,fun k h3 h4 => (h2.block k h3 (Nat.lt_of_lt_of_le h4 h.size)).trans (h.block k h3 h4)⟩
theorem Up.mono {lo lo' l2:Nat} {A C:World} (h:Up lo lo' A C) (hl:l2 <= lo'):Up lo l2 A C:=⟨Nat.le_trans hl h.le,h.size,h.block⟩
theorem FmV.turn {W W':World} {lo lo':Nat} {f:Fm} {v:Value} (h:FmV W lo f v) (hF:Up lo lo' W W'):FmV W' lo' f v:=by
 obtain ⟨a,s,h1,h2,h3,h4,h5⟩:=h
 exact ⟨a,s,h1,h2.turn hF.turn,h3.turn hF.turn,h4,h5⟩
theorem TmV.turn {W W':World} {lo lo':Nat} {f:Tm} {v:Value} (h:TmV W lo f v) (hF:Up lo lo' W W'):TmV W' lo' f v:=by
 obtain ⟨s,h1,h2,h5⟩:=h
 exact ⟨s,h1,h2.turn hF.turn,h5⟩
theorem TsV.turn {W W':World} {lo lo':Nat} {f:List Tm} {v:Value} (h:TsV W lo f v) (hF:Up lo lo' W W'):TsV W' lo' f v:=by
 obtain ⟨s,h1,h2⟩:=h
 exact ⟨s,h1,h2.turn hF.turn⟩
def obV (W:World) (lo:Nat):Ob -> Value -> Prop
 | .fm f,v => FmV W lo f v
 | .ts l,v => TsV W lo l v
 | .t t,v => TmV W lo t v
def RetP (w:World) (B g c:Nat) (ts:List Tok) (z:Nat) (m:Bool) (s:Nat) (x:Ot) (e:Ending) (w':World):Prop :=
 FJ B w w' /\ match x with
  | .ok o k' => (∃ v,e = .returned v /\ obV w' w.heap.size o v) /\ PSt w' B g c ts z m k' s
  | .bad k' er => e = failE ts k' er
theorem PSt.lt {W:World} {B g c:Nat} {ts:List Tok} {z:Nat} {m:Bool} {k s:Nat} (h:PSt W B g c ts z m k s):B < W.heap.size /\ g < W.heap.size /\ 0 < W.heap.size:=⟨HK.blk_lt h.pb,h.glt,h.lv.pos⟩
theorem PSt.set {W:World} {B g c:Nat} {ts:List Tok} {z:Nat} {m:Bool} {k s:Nat} (h:PSt W B g c ts z m k s) {N:Nat} (hN:B < N /\ g < N /\ 0 < N) {a:Addr} (ha:N <= a.block) (v:Value):PSt (W.setCell a v) B g c ts z m k s :=
 ⟨HK.blk_set_other h.pb (by omega) v,h.tk.turn (Below.heap_setCell _ _ _ _ (by omega)),h.lv.turn (Below.heap_setCell _ _ _ _ (by omega)),h.ne,by simpa using h.glt,h.hk,h.hs⟩
theorem flat_get {α:Type} (f:α -> List Value) (m:Nat) (hf:∀ x,(f x).length = m):∀ (xs:List α) (i j:Nat) (x:α),xs[i]? = some x -> j < m -> (xs.flatMap f)[i * m + j]? = (f x)[j]?
 | [],i,j,x,h,_ => by simp at h
 | y :: xs,0,j,x,h,hj => by
  simp at h; subst h
  rw [List.flatMap_cons,Nat.zero_mul,Nat.zero_add,List.getElem?_append_left (by rw [hf]; exact hj)]
 | y :: xs,i + 1,j,x,h,hj => by
  rw [List.flatMap_cons,List.getElem?_append_right (by rw [hf,Nat.add_mul]; omega),hf,show (i + 1) * m + j - m = i * m + j by rw [Nat.add_mul]; omega]
  exact flat_get f m hf xs i j x (by simpa using h) hj
def celT (l:List (Tm × SL)):List Value:=l.flatMap fun p => tmV p.1 p.2
def celF (l:List (Fm × SL × SL)):List Value:=l.flatMap fun p => fmV p.1 p.2.1 p.2.2
theorem ts_row {S:Nat -> Prop} {W:World} {g c n:Nat} (l:List (Tm × SL)) (h:∀ (i:Nat) v,(celT l)[i]? = some v -> W.cell? ⟨g,i,none⟩ = some v) (hg:S g) (hs:∀ p ∈ l,IsTs S W p.2 p.1.args /\ p.1.name.size <= maxLen) (hn:n = l.length):IsTs S W ⟨some ⟨g,0,none⟩,n,c⟩ (l.map (·.1)):=by
 have e:n = (l.map (·.1)).length:=by rw [List.length_map,hn]
 rw [e]
 have hat:∀ (i:Nat) t,(l.map (·.1))[i]? = some t -> ∃ p,l[i]? = some p /\ p.1 = t /\ (l.getD i (.mk false ⟨#[]⟩ [],⟨none,0,0⟩)).2 = p.2:=by
  intro i t ht
  rw [List.getElem?_map] at ht
  cases hp:l[i]? with
  | none => rw [hp] at ht; cases ht
  | some p => rw [hp] at ht; exact ⟨p,rfl,Option.some.inj ht,by rw [List.getD_eq_getElem?_getD,hp]; rfl⟩
 refine .row g 0 c _ (fun i => (l.getD i (.mk false ⟨#[]⟩ [],⟨none,0,0⟩)).2) hg (fun i t ht j v hv => ?_) (fun i t ht => ?_) (fun t ht => ?_)
 ·obtain ⟨p,h1,rfl,h2⟩:=hat i t ht
  rw [h2] at hv
  rw [Nat.zero_add]
  refine h _ _ ?_
  have hj:j < 3:=by
   rcases Nat.lt_or_ge j 3 with h3 | h3
   ·exact h3
   ·rw [List.getElem?_eq_none (by simpa [tmV] using h3)] at hv; cases hv
  exact (flat_get (fun p:Tm × SL => tmV p.1 p.2) 3 (fun _ => rfl) l i j p h1 hj).trans hv
 ·obtain ⟨p,h1,rfl,h2⟩:=hat i t ht
  rw [h2]
  exact (hs p (List.mem_of_getElem? h1)).1
 ·obtain ⟨p,h1,rfl⟩:=List.mem_map.1 ht
  exact (hs p h1).2
theorem fs_row {S:Nat -> Prop} {W:World} {g c n:Nat} (l:List (Fm × SL × SL)) (h:∀ (i:Nat) v,(celF l)[i]? = some v -> W.cell? ⟨g,i,none⟩ = some v) (hg:S g) (hs:∀ p ∈ l,IsTs S W p.2.1 p.1.args /\ IsFs S W p.2.2 p.1.subs /\ p.1.op < 256 /\ p.1.name.size <= maxLen) (hn:n = l.length):IsFs S W ⟨some ⟨g,0,none⟩,n,c⟩ (l.map (·.1)):=by
 have e:n = (l.map (·.1)).length:=by rw [List.length_map,hn]
 rw [e]
 have hat:∀ (i:Nat) t,(l.map (·.1))[i]? = some t -> ∃ p,l[i]? = some p /\ p.1 = t /\ (l.getD i (.mk 0 ⟨#[]⟩ [] [],⟨none,0,0⟩,⟨none,0,0⟩)).2 = p.2:=by
  intro i t ht
  rw [List.getElem?_map] at ht
  cases hp:l[i]? with
  | none => rw [hp] at ht; cases ht
  | some p => rw [hp] at ht; exact ⟨p,rfl,Option.some.inj ht,by rw [List.getD_eq_getElem?_getD,hp]; rfl⟩
 refine .row g 0 c _ (fun i => (l.getD i (.mk 0 ⟨#[]⟩ [] [],⟨none,0,0⟩,⟨none,0,0⟩)).2.1) (fun i => (l.getD i (.mk 0 ⟨#[]⟩ [] [],⟨none,0,0⟩,⟨none,0,0⟩)).2.2) hg (fun i t ht j v hv => ?_) (fun i t ht => ?_) (fun i t ht => ?_) (fun t ht => ?_)
 ·obtain ⟨p,h1,rfl,h2⟩:=hat i t ht
  rw [h2] at hv
  rw [Nat.zero_add]
  refine h _ _ ?_
  have hj:j < 4:=by
   rcases Nat.lt_or_ge j 4 with h3 | h3
   ·exact h3
   ·rw [List.getElem?_eq_none (by simpa [fmV] using h3)] at hv; cases hv
  exact (flat_get (fun p:Fm × SL × SL => fmV p.1 p.2.1 p.2.2) 4 (fun _ => rfl) l i j p h1 hj).trans hv
 ·obtain ⟨p,h1,rfl,h2⟩:=hat i t ht
  rw [h2]
  exact (hs p (List.mem_of_getElem? h1)).1
 ·obtain ⟨p,h1,rfl,h2⟩:=hat i t ht
  rw [h2]
  exact (hs p (List.mem_of_getElem? h1)).2.1
 ·obtain ⟨p,h1,rfl⟩:=List.mem_map.1 ht
  exact (hs p h1).2.2
theorem two_terms {S:Nat -> Prop} {W:World} {g:Nat} (x t:ByteArray) (hx:x.size <= maxLen) (ht:t.size <= maxLen) (h:W.heap[g]? = some (.cells #[Value.bool true,Value.string x,Value.slice none 0 0,Value.bool true,Value.string t,Value.slice none 0 0] 36 (0,0))) (hg:S g):IsTs S W ⟨some ⟨g,0,none⟩,2,2⟩ [Va x,Va t]:=by
 refine ts_row [(Va x,⟨none,0,0⟩),(Va t,⟨none,0,0⟩)] (fun i v hv => ?_) hg ?_ rfl
 ·rw [HK.blk_cell h]
  rcases (by omega:i = 0 ∨ i = 1 ∨ i = 2 ∨ i = 3 ∨ i = 4 ∨ i = 5 ∨ 6 <= i) with rfl | rfl | rfl | rfl | rfl | rfl | h6
  iterate 6 exact hv
  rw [List.getElem?_eq_none (by simpa [celT,tmV] using h6)] at hv; cases hv
 ·intro p hp
  simp only [List.mem_cons,List.mem_nil_iff,or_false] at hp
  rcases hp with rfl | rfl
  ·exact ⟨.nil _ _,hx⟩
  ·exact ⟨.nil _ _,ht⟩
theorem meta_fin {w8:World} {r0 r1:Nat} {O x0:Obj} {a0 a1 a2 a3:Value} (h1:w8.heap[r1]? = some (.cells #[a0,a1,a2,a3] 28 (0,0))) (h0:w8.heap[r0]? = some x0) (hne:r0 ≠ r1) (v0 v2:Value) {W9:World}
  (h:W9 = (((w8.setCell ⟨r1,0,none⟩ v0).alloc O).setCell ⟨r1,2,none⟩ v2).drew ∨ W9 = (((w8.alloc O).setCell ⟨r1,0,none⟩ v0).setCell ⟨r1,2,none⟩ v2).drew ∨ W9 = (((w8.alloc O).setCell ⟨r1,2,none⟩ v2).setCell ⟨r1,0,none⟩ v0).drew) :
  W9.heap[r1]? = some (.cells #[v0,a1,v2,a3] 28 (0,0)) /\ W9.heap[r0]? = some x0 /\ W9.heap[w8.heap.size]? = some O /\ (∀ (B:Nat) (A:World),A.heap.size <= r1 -> FJ B A w8 -> FJ B A W9) /\
   (∀ (B g c:Nat) (ts:List Tok) (z:Nat) (m:Bool) (k s N:Nat),B < N /\ g < N /\ 0 < N -> N <= r1 -> PSt w8 B g c ts z m k s -> PSt W9 B g c ts z m k s):=by
 have l1:=HK.blk_lt h1
 have l0:=HK.blk_lt h0
 have hn:w8.heap.size ≠ r1:=by omega
 rcases h with rfl | rfl | rfl
 ·refine ⟨HK.blk_drew (by simpa using HK.blk_set (HK.blk_alloc (HK.blk_set h1 0 v0) O) 2 v2),HK.blk_drew (HK.blk_set_other (HK.blk_alloc (HK.blk_set_other h0 hne v0) O) hne v2),?_,fun B A hA hF => (((hF.setCell (p:=⟨r1,0,none⟩) (.inr hA) v0).alloc O).setCell (p:=⟨r1,2,none⟩) (.inr hA) v2).drew,fun B g c ts z m k s N hN hr h => ?_⟩
  ·have:=HK.blk_new (w8.setCell ⟨r1,0,none⟩ v0) O
   simp only [World.size_setCell] at this
   exact HK.blk_drew (HK.blk_set_other this hn v2)
  ·exact (((h.set hN (a:=⟨r1,0,none⟩) hr v0).alloc O).set hN (a:=⟨r1,2,none⟩) hr v2).below ((Below.refl _ _).drew)
 ·refine ⟨HK.blk_drew (by simpa using HK.blk_set (HK.blk_set (HK.blk_alloc h1 O) 0 v0) 2 v2),HK.blk_drew (HK.blk_set_other (HK.blk_set_other (HK.blk_alloc h0 O) hne v0) hne v2),HK.blk_drew (HK.blk_set_other (HK.blk_set_other (HK.blk_new w8 O) hn v0) hn v2),fun B A hA hF => (((hF.alloc O).setCell (p:=⟨r1,0,none⟩) (.inr hA) v0).setCell (p:=⟨r1,2,none⟩) (.inr hA) v2).drew,fun B g c ts z m k s N hN hr h => (((h.alloc O).set hN (a:=⟨r1,0,none⟩) hr v0).set hN (a:=⟨r1,2,none⟩) hr v2).below ((Below.refl _ _).drew)⟩
 ·refine ⟨HK.blk_drew (by simpa using HK.blk_set (HK.blk_set (HK.blk_alloc h1 O) 2 v2) 0 v0),HK.blk_drew (HK.blk_set_other (HK.blk_set_other (HK.blk_alloc h0 O) hne v2) hne v0),HK.blk_drew (HK.blk_set_other (HK.blk_set_other (HK.blk_new w8 O) hn v2) hn v0),fun B A hA hF => (((hF.alloc O).setCell (p:=⟨r1,2,none⟩) (.inr hA) v2).setCell (p:=⟨r1,0,none⟩) (.inr hA) v0).drew,fun B g c ts z m k s N hN hr h => (((h.alloc O).set hN (a:=⟨r1,2,none⟩) hr v2).set hN (a:=⟨r1,0,none⟩) hr v0).below ((Below.refl _ _).drew)⟩
section
variable {w:World} {B g c:Nat} {ts:List Tok} {z:Nat} {m:Bool} {k s:Nat}
theorem name_var_yes (hT:TsOk ts z) (h:PSt w B g c ts z m k s) (hc:isVar ts k = true):Calls Tryz.prog 56 #[.pointer (some ⟨B,0,none⟩),.int .u8 1,.func (.func 58) #[] #[]] w fun e w' => e = .returned (.string (tkA ts k).t) /\ FJ B w w' /\ PSt w' B g c ts z m (k + 1) s:=by
 have:=name_var hT h
 simpa only [hc,if_true] using this
theorem name_var_no (hT:TsOk ts z) (h:PSt w B g c ts z m k s) (hc:¬ isVar ts k = true):Calls Tryz.prog 56 #[.pointer (some ⟨B,0,none⟩),.int .u8 1,.func (.func 58) #[] #[]] w fun e w' => e = failE ts k 50 /\ FJ B w w':=by
 have:=name_var hT h
 simpa only [hc,Bool.false_eq_true,if_false] using this
theorem name_fun_yes (hT:TsOk ts z) (h:PSt w B g c ts z m k s) (hc:isFun ts k = true):Calls Tryz.prog 56 #[.pointer (some ⟨B,0,none⟩),.int .u8 1,.func (.func 59) #[] #[]] w fun e w' => e = .returned (.string (tkA ts k).t) /\ FJ B w w' /\ PSt w' B g c ts z m (k + 1) s:=by
 have:=name_fun hT h
 simpa only [hc,if_true] using this
theorem name_fun_no (hT:TsOk ts z) (h:PSt w B g c ts z m k s) (hc:¬ isFun ts k = true):Calls Tryz.prog 56 #[.pointer (some ⟨B,0,none⟩),.int .u8 1,.func (.func 59) #[] #[]] w fun e w' => e = failE ts k 50 /\ FJ B w w':=by
 have:=name_fun hT h
 simpa only [hc,Bool.false_eq_true,if_false] using this
theorem name_pre_yes (hT:TsOk ts z) (h:PSt w B g c ts z m k s) (hc:isPre ts k = true):Calls Tryz.prog 56 #[.pointer (some ⟨B,0,none⟩),.int .u8 1,.func (.func 112) #[] #[]] w fun e w' => e = .returned (.string (tkA ts k).t) /\ FJ B w w' /\ PSt w' B g c ts z m (k + 1) s:=by
 have:=name_pre hT h
 simpa only [hc,if_true] using this
theorem name_pre_no (hT:TsOk ts z) (h:PSt w B g c ts z m k s) (hc:¬ isPre ts k = true):Calls Tryz.prog 56 #[.pointer (some ⟨B,0,none⟩),.int .u8 1,.func (.func 112) #[] #[]] w fun e w' => e = failE ts k 50 /\ FJ B w w':=by
 have:=name_pre hT h
 simpa only [hc,Bool.false_eq_true,if_false] using this
theorem name_fm_yes (hT:TsOk ts z) (h:PSt w B g c ts z m k s) (hc:isFM m ts k = true):Calls Tryz.prog 56 #[.pointer (some ⟨B,0,none⟩),.int .u8 2,.func (.func 134) #[.pointer (some ⟨B,0,none⟩)] #[]] w fun e w' => e = .returned (.string (tkA ts k).t) /\ FJ B w w' /\ PSt w' B g c ts z m (k + 1) s:=by
 have:=name_fm hT h
 simpa only [hc,if_true] using this
theorem name_fm_no (hT:TsOk ts z) (h:PSt w B g c ts z m k s) (hc:¬ isFM m ts k = true):Calls Tryz.prog 56 #[.pointer (some ⟨B,0,none⟩),.int .u8 2,.func (.func 134) #[.pointer (some ⟨B,0,none⟩)] #[]] w fun e w' => e = failE ts k 50 /\ FJ B w w':=by
 have:=name_fm hT h
 simpa only [hc,Bool.false_eq_true,if_false] using this
theorem name_tm_yes (hT:TsOk ts z) (h:PSt w B g c ts z m k s) (hc:isTM m ts k = true):Calls Tryz.prog 56 #[.pointer (some ⟨B,0,none⟩),.int .u8 2,.func (.func 57) #[.pointer (some ⟨B,0,none⟩)] #[]] w fun e w' => e = .returned (.string (tkA ts k).t) /\ FJ B w w' /\ PSt w' B g c ts z m (k + 1) s:=by
 have:=name_tm hT h
 simpa only [hc,if_true] using this
theorem name_tm_no (hT:TsOk ts z) (h:PSt w B g c ts z m k s) (hc:¬ isTM m ts k = true):Calls Tryz.prog 56 #[.pointer (some ⟨B,0,none⟩),.int .u8 2,.func (.func 57) #[.pointer (some ⟨B,0,none⟩)] #[]] w fun e w' => e = failE ts k 50 /\ FJ B w w':=by
 have:=name_tm hT h
 simpa only [hc,Bool.false_eq_true,if_false] using this
set_option maxRecDepth 100000 in
set_option maxHeartbeats 4000000 in
theorem meta_call (hT:TsOk ts z) (h:PSt w B g c ts z m k s):Calls Tryz.prog 125 #[.pointer (some ⟨B,0,none⟩)] w (RetP w B g c ts z m s (metaP m ts k)):=by
 have HT:=hid hT
 have HP0:=hid h
 have HBL:Hid (B < w.heap.size):=hid (HK.blk_lt h.pb)
 have HSZ:Hid (∀ k,k <= z -> (tkA ts k).t.size <= maxLen):=hid fun k hk => by have:=(hT.ok k _ (hT.get hk)).2.2.1; unfold maxLen; omega
 have hmf:∀ (fn:Fn) (first cap:Array Value) (w:World),(Instr.makeFunc fn first cap).run Tryz.prog w = .ok (.func fn first cap) w:=fun _ _ _ _ => rfl
 have HKZ:=hid h.hk
 have HLT:=hid h.lt
 clear hT h
 unfold RetP metaP
 by_cases c1:isFM m ts k = true
 ·have C1:=hid c1
  rw [if_pos c1]
  clear c1
  by_cases c2:txt ts (k + 1) = [91]
  ·have C2:=hid (show txt ts (k + 1) = bys ⟨#[91]⟩ from c2)
   rw [if_pos c2]
   clear c2
   by_cases c3:isTM m ts (k + 2) = true
   ·have C3:=hid c3
    rw [if_pos c3]
    clear c3
    by_cases c4:txt ts (k + 3) = [47]
    ·have C4:=hid (show txt ts (k + 3) = bys ⟨#[47]⟩ from c4)
     rw [if_pos c4]
     clear c4
     by_cases c5:isVar ts (k + 4) = true
     ·have C5:=hid c5
      rw [if_pos c5]
      clear c5
      by_cases c6:txt ts (k + 5) = [93]
      ·have C6:=hid (show txt ts (k + 5) = bys ⟨#[93]⟩ from c6)
       rw [if_pos c6]
       clear c6
       go_enter Tryz.func125,Tryz.ntmps125
       go_upto_region 7 with (first
        | (go_at_call 56; ((with_reducible refine (name_fm_yes HT.out (HP0.out.alloc _) C1.out).mono ?_); rintro e w1 ⟨rfl,hF1,hP1⟩; have HF1:=hid hF1; have HP1:=hid hP1; clear hF1 hP1))
        | (go_at_call 80; ((with_reducible refine (take_yes HT.out (HP1.out.alloc _) ⟨#[91]⟩ C2.out (by decide)).mono ?_); rintro e w2 ⟨rfl,hF2,hP2⟩; have HF2:=hid hF2; have HP2:=hid hP2; clear hF2 hP2))
        | (go_at_call 56; ((with_reducible refine (name_tm_yes HT.out HP2.out C3.out).mono ?_); rintro e w3 ⟨rfl,hF3,hP3⟩; have HF3:=hid hF3; have HP3:=hid hP3; clear hF3 hP3))
        | (go_at_call 55; ((with_reducible refine (variable_one w3 _).mono ?_); rintro e w4 ⟨rfl,hB4⟩; have HP4:=hid (HP3.out.below hB4); have HF4:=hid (frm_below (B:=B) hB4); clear hB4))
        | (go_at_call 91; ((with_reducible refine (need_yes HT.out (HP4.out.alloc _) ⟨#[47]⟩ C4.out (by decide)).mono ?_); rintro e w5 ⟨rfl,hF5,hP5⟩; have HF5:=hid hF5; have HP5:=hid hP5; clear hF5 hP5))
        | (go_at_call 56; ((with_reducible refine (name_var_yes HT.out HP5.out C5.out).mono ?_); rintro e w6 ⟨rfl,hF6,hP6⟩; have HF6:=hid hF6; have HP6:=hid hP6; clear hF6 hP6))
        | (go_at_call 55; ((with_reducible refine (variable_one w6 _).mono ?_); rintro e w7 ⟨rfl,hB7⟩; have HP7:=hid (HP6.out.below hB7); have HF7:=hid (frm_below (B:=B) hB7); clear hB7))
        | (go_at_call 91; ((with_reducible refine (need_yes HT.out (HP7.out.alloc _) ⟨#[93]⟩ C6.out (by decide)).mono ?_); rintro e w8 ⟨rfl,hF8,hP8⟩; have HF8:=hid hF8; have HP8:=hid hP8; clear hF8 hP8; have hb1:=HK.Frm.heap ((((HF2.out.trans HF3.out).trans HF4.out).alloc _).trans ((((HF5.out.trans HF6.out).trans HF7.out).alloc _).trans HF8.out)) (HK.blk_new w1 _) (by have h1:=HBL.out; have h2:=HF1.out.size; simp at h2; omega); have HB1:=hid hb1; have y0:=HK.blk_cell hb1 0; have y2:=HK.blk_cell hb1 2; have u0:=HK.blk_frozen hb1 0; have u2:=HK.blk_frozen hb1 2; have hb4:=HK.Frm.heap ((((HF5.out.trans HF6.out).trans HF7.out).alloc _).trans HF8.out) (HK.blk_new w4 _) (by have h1:=HBL.out; have h2:=((((((HK.Frm.refl _ w).alloc _ |>.trans HF1.out).alloc _).trans HF2.out).trans HF3.out).trans HF4.out).size; omega); have HB4:=hid hb4; have x0:=HK.blk_cell hb4 0; have x1:=HK.blk_cell hb4 1; have x2:=HK.blk_cell hb4 2; have hb7:=HK.Frm.heap HF8.out (HK.blk_new w7 _) (by have h1:=HBL.out; have h2:=((((((((((HK.Frm.refl _ w).alloc _ |>.trans HF1.out).alloc _).trans HF2.out).trans HF3.out).trans HF4.out).alloc _).trans HF5.out).trans HF6.out).trans HF7.out).size; omega); have HB7:=hid hb7; have v0:=HK.blk_cell hb7 0; have v1:=HK.blk_cell hb7 1; have v2:=HK.blk_cell hb7 2; have hb0:=HK.Frm.heap ((HF1.out.alloc _).trans ((((HF2.out.trans HF3.out).trans HF4.out).alloc _).trans ((((HF5.out.trans HF6.out).trans HF7.out).alloc _).trans HF8.out))) (HK.blk_new w _) (by have h1:=HBL.out; omega); have HB0:=hid hb0; clear hb0 hb1 hb4 hb7)))
       have n14:w1.heap.size ≠ w4.heap.size:=by have:=(((HF2.out.trans HF3.out).trans HF4.out)).size; simp at this; omega
       have n17:w1.heap.size ≠ w7.heap.size:=by have:=(((((HF2.out.trans HF3.out).trans HF4.out).alloc _).trans HF5.out).trans (HF6.out.trans HF7.out)).size; simp at this; omega
       have xB0:=HK.blk_cell (HK.blk_set_other HB4.out (p:=⟨w1.heap.size,0,none⟩) n14.symm (Value.int .u8 16)) 0
       have vB0:=HK.blk_cell (HK.blk_set_other HB7.out (p:=⟨w1.heap.size,0,none⟩) n17.symm (Value.int .u8 16)) 0
       have xB1:=HK.blk_cell (HK.blk_set_other HB4.out (p:=⟨w1.heap.size,0,none⟩) n14.symm (Value.int .u8 16)) 1
       have vB1:=HK.blk_cell (HK.blk_set_other HB7.out (p:=⟨w1.heap.size,0,none⟩) n17.symm (Value.int .u8 16)) 1
       have xB2:=HK.blk_cell (HK.blk_set_other HB4.out (p:=⟨w1.heap.size,0,none⟩) n14.symm (Value.int .u8 16)) 2
       have vB2:=HK.blk_cell (HK.blk_set_other HB7.out (p:=⟨w1.heap.size,0,none⟩) n17.symm (Value.int .u8 16)) 2
       have yC0:=HK.blk_cell (HK.blk_alloc HB1.out (Obj.cells #[Value.bool true,Value.string (tkA ts (k + 1 + 1 + 1 + 1)).t,Value.slice none 0 0,Value.bool true,Value.string (tkA ts (k + 1 + 1)).t,Value.slice none 0 0] 36)) 0
       have uC0:=HK.blk_frozen (HK.blk_alloc HB1.out (Obj.cells #[Value.bool true,Value.string (tkA ts (k + 1 + 1 + 1 + 1)).t,Value.slice none 0 0,Value.bool true,Value.string (tkA ts (k + 1 + 1)).t,Value.slice none 0 0] 36)) 0
       have yC2:=HK.blk_cell (HK.blk_alloc HB1.out (Obj.cells #[Value.bool true,Value.string (tkA ts (k + 1 + 1 + 1 + 1)).t,Value.slice none 0 0,Value.bool true,Value.string (tkA ts (k + 1 + 1)).t,Value.slice none 0 0] 36)) 2
       have uC2:=HK.blk_frozen (HK.blk_alloc HB1.out (Obj.cells #[Value.bool true,Value.string (tkA ts (k + 1 + 1 + 1 + 1)).t,Value.slice none 0 0,Value.bool true,Value.string (tkA ts (k + 1 + 1)).t,Value.slice none 0 0] 36)) 2
       have yD2:=HK.blk_cell (HK.blk_alloc (HK.blk_set HB1.out 0 (Value.int .u8 16)) (Obj.cells #[Value.bool true,Value.string (tkA ts (k + 1 + 1 + 1 + 1)).t,Value.slice none 0 0,Value.bool true,Value.string (tkA ts (k + 1 + 1)).t,Value.slice none 0 0] 36)) 2
       have uD2:=HK.blk_frozen (HK.blk_alloc (HK.blk_set HB1.out 0 (Value.int .u8 16)) (Obj.cells #[Value.bool true,Value.string (tkA ts (k + 1 + 1 + 1 + 1)).t,Value.slice none 0 0,Value.bool true,Value.string (tkA ts (k + 1 + 1)).t,Value.slice none 0 0] 36)) 2
       have yE2:=HK.blk_cell (HK.blk_set (HK.blk_alloc HB1.out (Obj.cells #[Value.bool true,Value.string (tkA ts (k + 1 + 1 + 1 + 1)).t,Value.slice none 0 0,Value.bool true,Value.string (tkA ts (k + 1 + 1)).t,Value.slice none 0 0] 36)) 0 (Value.int .u8 16)) 2
       have uE2:=HK.blk_frozen (HK.blk_set (HK.blk_alloc HB1.out (Obj.cells #[Value.bool true,Value.string (tkA ts (k + 1 + 1 + 1 + 1)).t,Value.slice none 0 0,Value.bool true,Value.string (tkA ts (k + 1 + 1)).t,Value.slice none 0 0] 36)) 0 (Value.int .u8 16)) 2
       have yF0:=HK.blk_cell (HK.blk_set (HK.blk_alloc HB1.out (Obj.cells #[Value.bool true,Value.string (tkA ts (k + 1 + 1 + 1 + 1)).t,Value.slice none 0 0,Value.bool true,Value.string (tkA ts (k + 1 + 1)).t,Value.slice none 0 0] 36)) 2 (Value.slice (some ⟨w8.heap.size,0,none⟩) 2 2)) 0
       have uF0:=HK.blk_frozen (HK.blk_set (HK.blk_alloc HB1.out (Obj.cells #[Value.bool true,Value.string (tkA ts (k + 1 + 1 + 1 + 1)).t,Value.slice none 0 0,Value.bool true,Value.string (tkA ts (k + 1 + 1)).t,Value.slice none 0 0] 36)) 2 (Value.slice (some ⟨w8.heap.size,0,none⟩) 2 2)) 0
       have HSZ1:=hid (show w.heap.size < w1.heap.size by have:=HF1.out.size; simp at this; omega)
       have HF8w:=hid (((((((((((((HK.Frm.refl _ w).alloc _ |>.trans HF1.out).alloc _).trans HF2.out).trans HF3.out).trans HF4.out).alloc _).trans HF5.out).trans HF6.out).trans HF7.out).alloc _).trans HF8.out))
       go_region
       all_goals (
        first
         | (obtain ⟨W9,hW9⟩:∃ W9,W9 = (((w8.setCell ⟨w1.heap.size,0,none⟩ (Value.int .u8 16)).alloc (Obj.cells #[Value.bool true,Value.string (tkA ts (k + 1 + 1 + 1 + 1)).t,Value.slice none 0 0,Value.bool true,Value.string (tkA ts (k + 1 + 1)).t,Value.slice none 0 0] 36)).setCell ⟨w1.heap.size,2,none⟩ (Value.slice (some ⟨w8.heap.size,0,none⟩) 2 2)).drew:=⟨_,rfl⟩; rw [<- hW9])
         | (obtain ⟨W9,hW9⟩:∃ W9,W9 = (((w8.alloc (Obj.cells #[Value.bool true,Value.string (tkA ts (k + 1 + 1 + 1 + 1)).t,Value.slice none 0 0,Value.bool true,Value.string (tkA ts (k + 1 + 1)).t,Value.slice none 0 0] 36)).setCell ⟨w1.heap.size,0,none⟩ (Value.int .u8 16)).setCell ⟨w1.heap.size,2,none⟩ (Value.slice (some ⟨w8.heap.size,0,none⟩) 2 2)).drew:=⟨_,rfl⟩; rw [<- hW9])
         | (obtain ⟨W9,hW9⟩:∃ W9,W9 = (((w8.alloc (Obj.cells #[Value.bool true,Value.string (tkA ts (k + 1 + 1 + 1 + 1)).t,Value.slice none 0 0,Value.bool true,Value.string (tkA ts (k + 1 + 1)).t,Value.slice none 0 0] 36)).setCell ⟨w1.heap.size,2,none⟩ (Value.slice (some ⟨w8.heap.size,0,none⟩) 2 2)).setCell ⟨w1.heap.size,0,none⟩ (Value.int .u8 16)).drew:=⟨_,rfl⟩; rw [<- hW9])
        have hfin:=meta_fin (O:=(Obj.cells #[Value.bool true,Value.string (tkA ts (k + 1 + 1 + 1 + 1)).t,Value.slice none 0 0,Value.bool true,Value.string (tkA ts (k + 1 + 1)).t,Value.slice none 0 0] 36)) HB1.out HB0.out (by have:=HSZ1.out; omega) (Value.int .u8 16) (Value.slice (some ⟨w8.heap.size,0,none⟩) 2 2) (W9:=W9) (by first | exact .inl hW9 | exact .inr (.inl hW9) | exact .inr (.inr hW9))
        obtain ⟨k1,k0,kO,kF,kP⟩:=hfin
        clear hW9
        have HF9:=hid (kF B w (Nat.le_of_lt HSZ1.out) HF8w.out)
        have HP9:=hid (kP B g c ts z m _ s w.heap.size HLT.out (Nat.le_of_lt HSZ1.out) HP8.out)
        have HO9:=hid kO
        have HK0:=hid k0
        have N8:Hid (w.heap.size ≠ w8.heap.size /\ w.heap.size <= w8.heap.size):=hid (by have:=HSZ1.out; have:=HK.blk_lt HB1.out; omega)
        have d0:=HK.blk_cell k1 0
        have d1:=HK.blk_cell k1 1
        have d2:=HK.blk_cell k1 2
        have d3:=HK.blk_cell k1 3
        have r0:=HK.blk_cell k0 0
        have r1:=HK.blk_cell k0 1
        have r2:=HK.blk_cell k0 2
        have r3:=HK.blk_cell k0 3
        have z0:=HK.blk_frozen k0 0
        have z1:=HK.blk_frozen k0 1
        have z2:=HK.blk_frozen k0 2
        have z3:=HK.blk_frozen k0 3
        clear k1 k0 kO kF kP y0 y2 u0 u2 x0 x1 x2 v0 v1 v2
        go_wp2_with (fail)
        refine bodyPost_ret (results_cell_row (p:=2) (ty:=28) (by kernel_rfl) _ _ w.heap.size 28 _ (0,0) _ rfl (pset4 HK0.out _ _ _ _) Tryz.underlying28 rfl (by kernel_rfl)) rfl ?_
        refine ⟨((((HF9.out.setCell (p:=⟨w.heap.size,0,none⟩) (.inr (Nat.le_refl _)) _).setCell (p:=⟨w.heap.size,1,none⟩) (.inr (Nat.le_refl _)) _).setCell (p:=⟨w.heap.size,2,none⟩) (.inr (Nat.le_refl _)) _).setCell (p:=⟨w.heap.size,3,none⟩) (.inr (Nat.le_refl _)) _),⟨_,rfl,⟨some ⟨w8.heap.size,0,none⟩,2,2⟩,⟨none,0,0⟩,rfl,?_,.nil _ _,by show (16:Nat) < 256; decide,HSZ.out k HKZ.out⟩,(((HP9.out.set HLT.out (a:=⟨w.heap.size,0,none⟩) (Nat.le_refl _) _).set HLT.out (a:=⟨w.heap.size,1,none⟩) (Nat.le_refl _) _).set HLT.out (a:=⟨w.heap.size,2,none⟩) (Nat.le_refl _) _).set HLT.out (a:=⟨w.heap.size,3,none⟩) (Nat.le_refl _) _⟩
        have ho:=HK.blk_set_other (HK.blk_set_other (HK.blk_set_other (HK.blk_set_other HO9.out (p:=⟨w.heap.size,0,none⟩) N8.out.1.symm (Value.int .u8 16)) (p:=⟨w.heap.size,1,none⟩) N8.out.1.symm (Value.string (tkA ts k).t)) (p:=⟨w.heap.size,2,none⟩) N8.out.1.symm (Value.slice (some ⟨w8.heap.size,0,none⟩) 2 2)) (p:=⟨w.heap.size,3,none⟩) N8.out.1.symm (Value.slice none 0 0)
        exact two_terms _ _ (HSZ.out (k + 4) (by have:=HP6.out.hk; omega)) (HSZ.out (k + 2) (by have:=HP3.out.hk; omega)) ho ⟨N8.out.2,HK.blk_lt ho⟩)
      ·have C6:=hid (show txt ts (k + 5) ≠ bys ⟨#[93]⟩ from c6)
       rw [if_neg c6]
       clear c6
       go_enter Tryz.func125,Tryz.ntmps125
       go_wp2_with (first
        | (go_at_call 56; ((with_reducible refine (name_fm_yes HT.out (HP0.out.alloc _) C1.out).mono ?_); rintro e w1 ⟨rfl,hF1,hP1⟩; have HF1:=hid hF1; have HP1:=hid hP1; clear hF1 hP1))
        | (go_at_call 80; ((with_reducible refine (take_yes HT.out (HP1.out.alloc _) ⟨#[91]⟩ C2.out (by decide)).mono ?_); rintro e w2 ⟨rfl,hF2,hP2⟩; have HF2:=hid hF2; have HP2:=hid hP2; clear hF2 hP2))
        | (go_at_call 56; ((with_reducible refine (name_tm_yes HT.out HP2.out C3.out).mono ?_); rintro e w3 ⟨rfl,hF3,hP3⟩; have HF3:=hid hF3; have HP3:=hid hP3; clear hF3 hP3))
        | (go_at_call 55; ((with_reducible refine (variable_one w3 _).mono ?_); rintro e w4 ⟨rfl,hB4⟩; have HP4:=hid (HP3.out.below hB4); have HF4:=hid (frm_below (B:=B) hB4); clear hB4))
        | (go_at_call 91; ((with_reducible refine (need_yes HT.out (HP4.out.alloc _) ⟨#[47]⟩ C4.out (by decide)).mono ?_); rintro e w5 ⟨rfl,hF5,hP5⟩; have HF5:=hid hF5; have HP5:=hid hP5; clear hF5 hP5))
        | (go_at_call 56; ((with_reducible refine (name_var_yes HT.out HP5.out C5.out).mono ?_); rintro e w6 ⟨rfl,hF6,hP6⟩; have HF6:=hid hF6; have HP6:=hid hP6; clear hF6 hP6))
        | (go_at_call 55; ((with_reducible refine (variable_one w6 _).mono ?_); rintro e w7 ⟨rfl,hB7⟩; have HP7:=hid (HP6.out.below hB7); have HF7:=hid (frm_below (B:=B) hB7); clear hB7))
        | (go_at_call 91; ((with_reducible refine (need_no HT.out (HP7.out.alloc _) ⟨#[93]⟩ C6.out).mono ?_); rintro e w8 ⟨he,hB8⟩; unfold failE at he; subst he)))
       exact ⟨rfl,(((((((((((HK.Frm.refl _ w).alloc _ |>.trans HF1.out).alloc _).trans HF2.out).trans HF3.out).trans HF4.out).alloc _).trans HF5.out).trans HF6.out).trans HF7.out).alloc _).trans (frm_below hB8),by unfold failE; rfl⟩
     ·have C5:=hid c5
      rw [if_neg c5]
      clear c5
      go_enter Tryz.func125,Tryz.ntmps125
      go_wp2_with (first
       | (go_at_call 56; ((with_reducible refine (name_fm_yes HT.out (HP0.out.alloc _) C1.out).mono ?_); rintro e w1 ⟨rfl,hF1,hP1⟩; have HF1:=hid hF1; have HP1:=hid hP1; clear hF1 hP1))
       | (go_at_call 80; ((with_reducible refine (take_yes HT.out (HP1.out.alloc _) ⟨#[91]⟩ C2.out (by decide)).mono ?_); rintro e w2 ⟨rfl,hF2,hP2⟩; have HF2:=hid hF2; have HP2:=hid hP2; clear hF2 hP2))
       | (go_at_call 56; ((with_reducible refine (name_tm_yes HT.out HP2.out C3.out).mono ?_); rintro e w3 ⟨rfl,hF3,hP3⟩; have HF3:=hid hF3; have HP3:=hid hP3; clear hF3 hP3))
       | (go_at_call 55; ((with_reducible refine (variable_one w3 _).mono ?_); rintro e w4 ⟨rfl,hB4⟩; have HP4:=hid (HP3.out.below hB4); have HF4:=hid (frm_below (B:=B) hB4); clear hB4))
       | (go_at_call 91; ((with_reducible refine (need_yes HT.out (HP4.out.alloc _) ⟨#[47]⟩ C4.out (by decide)).mono ?_); rintro e w5 ⟨rfl,hF5,hP5⟩; have HF5:=hid hF5; have HP5:=hid hP5; clear hF5 hP5))
       | (go_at_call 56; ((with_reducible refine (name_var_no HT.out HP5.out C5.out).mono ?_); rintro e w6 ⟨he,hF6⟩; unfold failE at he; subst he)))
      exact ⟨rfl,((((((((HK.Frm.refl _ w).alloc _ |>.trans HF1.out).alloc _).trans HF2.out).trans HF3.out).trans HF4.out).alloc _).trans HF5.out).trans hF6,by unfold failE; rfl⟩
    ·have C4:=hid (show txt ts (k + 3) ≠ bys ⟨#[47]⟩ from c4)
     rw [if_neg c4]
     clear c4
     go_enter Tryz.func125,Tryz.ntmps125
     go_wp2_with (first
      | (go_at_call 56; ((with_reducible refine (name_fm_yes HT.out (HP0.out.alloc _) C1.out).mono ?_); rintro e w1 ⟨rfl,hF1,hP1⟩; have HF1:=hid hF1; have HP1:=hid hP1; clear hF1 hP1))
      | (go_at_call 80; ((with_reducible refine (take_yes HT.out (HP1.out.alloc _) ⟨#[91]⟩ C2.out (by decide)).mono ?_); rintro e w2 ⟨rfl,hF2,hP2⟩; have HF2:=hid hF2; have HP2:=hid hP2; clear hF2 hP2))
      | (go_at_call 56; ((with_reducible refine (name_tm_yes HT.out HP2.out C3.out).mono ?_); rintro e w3 ⟨rfl,hF3,hP3⟩; have HF3:=hid hF3; have HP3:=hid hP3; clear hF3 hP3))
      | (go_at_call 55; ((with_reducible refine (variable_one w3 _).mono ?_); rintro e w4 ⟨rfl,hB4⟩; have HP4:=hid (HP3.out.below hB4); have HF4:=hid (frm_below (B:=B) hB4); clear hB4))
      | (go_at_call 91; ((with_reducible refine (need_no HT.out (HP4.out.alloc _) ⟨#[47]⟩ C4.out).mono ?_); rintro e w5 ⟨he,hB5⟩; unfold failE at he; subst he)))
     exact ⟨rfl,(((((((HK.Frm.refl _ w).alloc _ |>.trans HF1.out).alloc _).trans HF2.out).trans HF3.out).trans HF4.out).alloc _).trans (frm_below hB5),by unfold failE; rfl⟩
   ·have C3:=hid c3
    rw [if_neg c3]
    clear c3
    go_enter Tryz.func125,Tryz.ntmps125
    go_wp2_with (first
     | (go_at_call 56; ((with_reducible refine (name_fm_yes HT.out (HP0.out.alloc _) C1.out).mono ?_); rintro e w1 ⟨rfl,hF1,hP1⟩; have HF1:=hid hF1; have HP1:=hid hP1; clear hF1 hP1))
     | (go_at_call 80; ((with_reducible refine (take_yes HT.out (HP1.out.alloc _) ⟨#[91]⟩ C2.out (by decide)).mono ?_); rintro e w2 ⟨rfl,hF2,hP2⟩; have HF2:=hid hF2; have HP2:=hid hP2; clear hF2 hP2))
     | (go_at_call 56; ((with_reducible refine (name_tm_no HT.out HP2.out C3.out).mono ?_); rintro e w3 ⟨he,hF3⟩; unfold failE at he; subst he)))
    exact ⟨rfl,((((HK.Frm.refl _ w).alloc _ |>.trans HF1.out).alloc _).trans HF2.out).trans hF3,by unfold failE; rfl⟩
  ·have C2:=hid (show txt ts (k + 1) ≠ bys ⟨#[91]⟩ from c2)
   rw [if_neg c2]
   clear c2
   go_enter Tryz.func125,Tryz.ntmps125
   go_wp2_with (first
    | (go_at_call 56; ((with_reducible refine (name_fm_yes HT.out (HP0.out.alloc _) C1.out).mono ?_); rintro e w1 ⟨rfl,hF1,hP1⟩; have HF1:=hid hF1; have HP1:=hid hP1; clear hF1 hP1))
    | (go_at_call 80; ((with_reducible refine (take_no HT.out (HP1.out.alloc _) ⟨#[91]⟩ C2.out).mono ?_); rintro e w2 ⟨rfl,hB2⟩; have HF2:=hid (frm_below (B:=B) hB2); have HP2:=hid ((HP1.out.alloc _).below hB2); clear hB2; have hb1:=HK.Frm.heap HF2.out (HK.blk_new w1 _) (by have h1:=HBL.out; have h2:=HF1.out.size; simp at h2; omega); have d0:=HK.blk_cell hb1 0; have d1:=HK.blk_cell hb1 1; have d2:=HK.blk_cell hb1 2; have d3:=HK.blk_cell hb1 3; have hb0:=HK.Frm.heap (HF1.out.alloc _ |>.trans HF2.out) (HK.blk_new w _) (by have h1:=HBL.out; omega); have r0:=HK.blk_cell hb0 0; have r1:=HK.blk_cell hb0 1; have r2:=HK.blk_cell hb0 2; have r3:=HK.blk_cell hb0 3; have z0:=HK.blk_frozen hb0 0; have z1:=HK.blk_frozen hb0 1; have z2:=HK.blk_frozen hb0 2; have z3:=HK.blk_frozen hb0 3; have HB0:=hid hb0; have HB1:=hid hb1; clear hb0 hb1)))
   refine bodyPost_ret (results_cell_row (p:=2) (ty:=28) (by kernel_rfl) _ _ w.heap.size 28 _ (0,0) _ rfl (pset4 HB0.out _ _ _ _) Tryz.underlying28 rfl (by kernel_rfl)) rfl ?_
   exact ⟨((((((((HK.Frm.refl _ w).alloc _ |>.trans HF1.out).alloc _).trans HF2.out).setCell (p:=⟨w.heap.size,0,none⟩) (.inr (Nat.le_refl _)) _).setCell (p:=⟨w.heap.size,1,none⟩) (.inr (Nat.le_refl _)) _).setCell (p:=⟨w.heap.size,2,none⟩) (.inr (Nat.le_refl _)) _).setCell (p:=⟨w.heap.size,3,none⟩) (.inr (Nat.le_refl _)) _),⟨_,rfl,⟨none,0,0⟩,⟨none,0,0⟩,rfl,.nil _ _,.nil _ _,by show (15:Nat) < 256; decide,HSZ.out k HKZ.out⟩,(((HP2.out.set HLT.out (a:=⟨w.heap.size,0,none⟩) (Nat.le_refl _) _).set HLT.out (a:=⟨w.heap.size,1,none⟩) (Nat.le_refl _) _).set HLT.out (a:=⟨w.heap.size,2,none⟩) (Nat.le_refl _) _).set HLT.out (a:=⟨w.heap.size,3,none⟩) (Nat.le_refl _) _⟩
 ·have C1:=hid c1
  rw [if_neg c1]
  clear c1
  go_enter Tryz.func125,Tryz.ntmps125
  go_wp2_with (first
   | (go_at_call 56; ((with_reducible refine (name_fm_no HT.out (HP0.out.alloc _) C1.out).mono ?_); rintro e w1 ⟨he,hF1⟩; unfold failE at he; subst he)))
  exact ⟨rfl,((HK.Frm.refl _ w).alloc _).trans hF1,by unfold failE; rfl⟩
end
end Go.Proofs.YtdobflpbkfkmgaaGreatDoor
namespace Go.Proofs.YtdobflpbkfkmgaaGreatDoor
open Go.RowKit Go.HK Go.FR Lib
set_option linter.unusedVariables false
set_option linter.unusedSimpArgs false
set_option linter.unusedSectionVars false
section
variable {w:World} {B g c:Nat} {ts:List Tok} {z:Nat} {m:Bool} {k s:Nat}
theorem PSt.up (h:PSt w B g c ts z m k s) {t:Nat} (ht:t = s + 1) (hk:t <= k):PSt (w.setCell ⟨B,2,none⟩ (.int .i64 ((s:Int) + 1))) B g c ts z m k t:=by
 have:=h.nest (s':=t) hk
 rw [ht] at this ⊢
 exact this
theorem PSt.dn (h:PSt w B g c ts z m k s) {t:Nat} (ht:s = t + 1):PSt (w.setCell ⟨B,2,none⟩ (.int .i64 (t:Int))) B g c ts z m k t:=h.nest (s':=t) (by have:=h.hs; omega)
theorem FJ.nest {A:World} (h:FJ B A w) (u:Value):FJ B A (w.setCell ⟨B,2,none⟩ u):=h.setCell (p:=⟨B,2,none⟩) (.inl rfl) u
end
def Done (B g c:Nat) (ts:List Tok) (z:Nat) (m:Bool) (n:Nat):Prop:=∀ (q:Gl) (k s:Nat) (x:Ot),run m ts n q k s = some x -> match q with
 | .bin i => i <= 5 -> ∀ w,PSt w B g c ts z m k s -> Calls Tryz.prog 50 #[.pointer (some ⟨B,0,none⟩),.int .i64 (i:Int)] w (RetP w B g c ts z m s x)
 | .un => ∀ w,PSt w B g c ts z m k s -> Calls Tryz.prog 79 #[.pointer (some ⟨B,0,none⟩)] w (RetP w B g c ts z m s x)
 | .basic => ∀ w,PSt w B g c ts z m k s -> Calls Tryz.prog 111 #[.pointer (some ⟨B,0,none⟩)] w (RetP w B g c ts z m s x)
 | .args => ∀ w,PSt w B g c ts z m k s -> Calls Tryz.prog 60 #[.pointer (some ⟨B,0,none⟩)] w (RetP w B g c ts z m s x)
 | .list acc => acc = [] -> ∀ w,PSt w B g c ts z m k s -> Calls Tryz.prog 90 #[.pointer (some ⟨B,0,none⟩),.func (.func 31) #[.pointer (some ⟨B,0,none⟩)] #[]] w (RetP w B g c ts z m s x)
 | .term => ∀ w,PSt w B g c ts z m k s -> Calls Tryz.prog 31 #[.pointer (some ⟨B,0,none⟩)] w (RetP w B g c ts z m s x)
 | .loop _ _ => True
section
variable {B g c:Nat} {ts:List Tok} {z:Nat} {m:Bool}
set_option maxRecDepth 100000 in
set_option maxHeartbeats 4000000 in
theorem args_of (hT:TsOk ts z) {n:Nat} (IH:Done B g c ts z m n) {k s:Nat} {x:Ot} (hr:run m ts (n + 1) .args k s = some x) (w:World) (h:PSt w B g c ts z m k s):Calls Tryz.prog 60 #[.pointer (some ⟨B,0,none⟩)] w (RetP w B g c ts z m s x):=by
 have HT:=hid hT
 have HP0:=hid h
 have HBL:Hid (B < w.heap.size):=hid (HK.blk_lt h.pb)
 have HLT:=hid h.lt
 have hs6:s <= 20000:=by have:=hT.le; have:=h.hk; have:=h.hs; omega
 have HSK:=hid h.hs
 have hmf:∀ (fn:Fn) (first cap:Array Value) (w:World),(Instr.makeFunc fn first cap).run Tryz.prog w = .ok (.func fn first cap) w:=fun _ _ _ _ => rfl
 clear hT h
 unfold run at hr
 by_cases c1:txt ts k = [40]
 ·rw [if_pos c1] at hr
  have C1:=hid (show txt ts k = bys ⟨#[40]⟩ from c1)
  clear c1
  obtain ⟨t,ht⟩:∃ t,t = s + 1:=⟨_,rfl⟩
  have HTT:=hid ht
  have hti:(t:Int) = (s:Int) + 1:=by omega
  have htn:t <= 20001:=by omega
  rw [<- ht] at hr
  clear ht
  have hHL:∀ y,run m ts n (.list []) (k + 1) t = some y -> ∀ W,PSt W B g c ts z m (k + 1) t -> Calls Tryz.prog 90 #[.pointer (some ⟨B,0,none⟩),.func (.func 31) #[.pointer (some ⟨B,0,none⟩)] #[]] W (RetP W B g c ts z m t y):=fun y hy W hW => IH _ _ _ _ hy rfl W hW
  unfold RetP
  rcases thenO_some hr with ⟨o,k2,h1,h2⟩ | ⟨k2,er,h1,rfl⟩
  ·have hty:=run_ty _ _ _ _ _ _ _ h1
   have e:=ty_ts hty
   obtain ⟨l,hl⟩:∃ l,l = tsO o:=⟨_,rfl⟩
   rw [<- hl] at e h2
   subst e
   have HL:=hid (hHL _ h1)
   unfold RetP at HL
   clear hHL h1 hty hr hl
   by_cases c2:txt ts k2 = [41]
   ·rw [if_pos c2] at h2
    have C2:=hid (show txt ts k2 = bys ⟨#[41]⟩ from c2)
    cases h2
    clear c2
    go_enter Tryz.func60,Tryz.ntmps60
    go_wp2_with (first
     | (go_at_call 80; ((with_reducible refine (take_yes HT.out HP0.out ⟨#[40]⟩ C1.out (by decide)).mono ?_); rintro e w1 ⟨rfl,hF1,hP1⟩; have p2:=HK.blk_cell hP1.pb 2; have f2:=HK.blk_frozen hP1.pb 2; have HF1:=hid hF1; have HP1:=hid hP1; clear hF1 hP1))
     | (go_at_call 90; ((with_reducible refine (HL.out _ (HP1.out.up HTT.out (by have:=HSK.out; have:=HTT.out; omega))).mono ?_); rintro e w2 ⟨hF2,⟨v2,rfl,hv2⟩,hP2⟩; have p2:=HK.blk_cell hP2.pb 2; have f2:=HK.blk_frozen hP2.pb 2; have HF2:=hid hF2; have HP2:=hid hP2; have HLE:=hid (show w.heap.size <= w1.heap.size from HF1.out.size); have HLT2:=hid (show B < w1.heap.size from Nat.lt_of_lt_of_le HBL.out HLE.out); have HV2:Hid (TsV w2 w1.heap.size l v2):=hid (by simpa [obV] using hv2); clear hF2 hP2 hv2))
     | (go_at_call 91; ((with_reducible refine (need_yes HT.out (HP2.out.dn HTT.out) ⟨#[41]⟩ C2.out (by decide)).mono ?_); rintro e w3 ⟨rfl,hF3,hP3⟩)))
    go_ret
    exact ⟨(FJ.nest ((FJ.nest HF1.out _).trans HF2.out) _).trans hF3,⟨_,rfl,TsV.turn HV2.out (((Up.of_fj (B:=B) (FJ.nest (HK.Frm.refl _ w2) _) HLT2.out (Nat.le_refl _)).tr (Up.of_fj hF3 HLT2.out (Nat.le_refl _))).mono HLE.out)⟩,hP3⟩
   ·rw [if_neg c2] at h2
    have C2:=hid (show txt ts k2 ≠ bys ⟨#[41]⟩ from c2)
    cases h2
    clear c2
    go_enter Tryz.func60,Tryz.ntmps60
    go_wp2_with (first
     | (go_at_call 80; ((with_reducible refine (take_yes HT.out HP0.out ⟨#[40]⟩ C1.out (by decide)).mono ?_); rintro e w1 ⟨rfl,hF1,hP1⟩; have p2:=HK.blk_cell hP1.pb 2; have f2:=HK.blk_frozen hP1.pb 2; have HF1:=hid hF1; have HP1:=hid hP1; clear hF1 hP1))
     | (go_at_call 90; ((with_reducible refine (HL.out _ (HP1.out.up HTT.out (by have:=HSK.out; have:=HTT.out; omega))).mono ?_); rintro e w2 ⟨hF2,⟨v2,rfl,hv2⟩,hP2⟩; have p2:=HK.blk_cell hP2.pb 2; have f2:=HK.blk_frozen hP2.pb 2; have HF2:=hid hF2; have HP2:=hid hP2; have HLE:=hid (show w.heap.size <= w1.heap.size from HF1.out.size); have HLT2:=hid (show B < w1.heap.size from Nat.lt_of_lt_of_le HBL.out HLE.out); have HV2:Hid (TsV w2 w1.heap.size l v2):=hid (by simpa [obV] using hv2); clear hF2 hP2 hv2))
     | (go_at_call 91; ((with_reducible refine (need_no HT.out (HP2.out.dn HTT.out) ⟨#[41]⟩ C2.out).mono ?_); rintro e w3 ⟨he,hB3⟩; unfold failE at he; subst he)))
    exact ⟨rfl,(FJ.nest ((FJ.nest HF1.out _).trans HF2.out) _).trans (frm_below hB3),by unfold failE; rfl⟩
  ·have HL:=hid (hHL _ h1)
   unfold RetP at HL
   clear hHL h1 hr
   go_enter Tryz.func60,Tryz.ntmps60
   go_wp2_with (first
    | (go_at_call 80; ((with_reducible refine (take_yes HT.out HP0.out ⟨#[40]⟩ C1.out (by decide)).mono ?_); rintro e w1 ⟨rfl,hF1,hP1⟩; have p2:=HK.blk_cell hP1.pb 2; have f2:=HK.blk_frozen hP1.pb 2; have HF1:=hid hF1; have HP1:=hid hP1; clear hF1 hP1))
    | (go_at_call 90; ((with_reducible refine (HL.out _ (HP1.out.up HTT.out (by have:=HSK.out; have:=HTT.out; omega))).mono ?_); rintro e w2 ⟨hF2,he⟩; unfold failE at he; subst he)))
   exact ⟨rfl,(FJ.nest HF1.out _).trans hF2,by unfold failE; rfl⟩
 ·rw [if_neg c1] at hr
  cases hr
  have C1:=hid (show txt ts k ≠ bys ⟨#[40]⟩ from c1)
  clear c1
  unfold RetP
  go_enter Tryz.func60,Tryz.ntmps60
  go_wp2_with (go_at_call 80; ((with_reducible refine (take_no HT.out HP0.out ⟨#[40]⟩ C1.out).mono ?_); rintro e w1 ⟨rfl,hB1⟩))
  go_ret
  exact ⟨frm_below hB1,⟨_,rfl,⟨none,0,0⟩,rfl,.nil _ _⟩,HP0.out.below hB1⟩
theorem tm_end {w W:World} {k s:Nat} {t:Tm} {v:Value} {lo:Nat} (hF:FJ B w W) (hP:PSt W B g c ts z m k s) (hL:B < w.heap.size /\ g < w.heap.size /\ 0 < w.heap.size) (hV:TmV W lo t v) (hlo:w.heap.size < lo) (u0 u1 u2:Value) :
  FJ B w (((W.setCell ⟨w.heap.size,0,none⟩ u0).setCell ⟨w.heap.size,1,none⟩ u1).setCell ⟨w.heap.size,2,none⟩ u2) /\ TmV (((W.setCell ⟨w.heap.size,0,none⟩ u0).setCell ⟨w.heap.size,1,none⟩ u1).setCell ⟨w.heap.size,2,none⟩ u2) w.heap.size t v /\ PSt (((W.setCell ⟨w.heap.size,0,none⟩ u0).setCell ⟨w.heap.size,1,none⟩ u1).setCell ⟨w.heap.size,2,none⟩ u2) B g c ts z m k s:=by
 have hU:Up lo w.heap.size W W:=⟨Nat.le_of_lt hlo,Nat.le_refl _,fun _ _ _ => rfl⟩
 exact ⟨((hF.setCell (p:=⟨w.heap.size,0,none⟩) (.inr (Nat.le_refl _)) _).setCell (p:=⟨w.heap.size,1,none⟩) (.inr (Nat.le_refl _)) _).setCell (p:=⟨w.heap.size,2,none⟩) (.inr (Nat.le_refl _)) _,
  hV.turn (((hU.set (a:=⟨w.heap.size,0,none⟩) hlo _).set (a:=⟨w.heap.size,1,none⟩) hlo _).set (a:=⟨w.heap.size,2,none⟩) hlo _),
  ((hP.set hL (a:=⟨w.heap.size,0,none⟩) (Nat.le_refl _) _).set hL (a:=⟨w.heap.size,1,none⟩) (Nat.le_refl _) _).set hL (a:=⟨w.heap.size,2,none⟩) (Nat.le_refl _) _⟩
theorem fm_end {w W:World} {k s:Nat} {t:Fm} {v:Value} {lo:Nat} (hF:FJ B w W) (hP:PSt W B g c ts z m k s) (hL:B < w.heap.size /\ g < w.heap.size /\ 0 < w.heap.size) (hV:FmV W lo t v) (hlo:w.heap.size < lo) (u0 u1 u2 u3:Value) :
  FJ B w ((((W.setCell ⟨w.heap.size,0,none⟩ u0).setCell ⟨w.heap.size,1,none⟩ u1).setCell ⟨w.heap.size,2,none⟩ u2).setCell ⟨w.heap.size,3,none⟩ u3) /\ FmV ((((W.setCell ⟨w.heap.size,0,none⟩ u0).setCell ⟨w.heap.size,1,none⟩ u1).setCell ⟨w.heap.size,2,none⟩ u2).setCell ⟨w.heap.size,3,none⟩ u3) w.heap.size t v /\ PSt ((((W.setCell ⟨w.heap.size,0,none⟩ u0).setCell ⟨w.heap.size,1,none⟩ u1).setCell ⟨w.heap.size,2,none⟩ u2).setCell ⟨w.heap.size,3,none⟩ u3) B g c ts z m k s:=by
 have hU:Up lo w.heap.size W W:=⟨Nat.le_of_lt hlo,Nat.le_refl _,fun _ _ _ => rfl⟩
 exact ⟨(((hF.setCell (p:=⟨w.heap.size,0,none⟩) (.inr (Nat.le_refl _)) _).setCell (p:=⟨w.heap.size,1,none⟩) (.inr (Nat.le_refl _)) _).setCell (p:=⟨w.heap.size,2,none⟩) (.inr (Nat.le_refl _)) _).setCell (p:=⟨w.heap.size,3,none⟩) (.inr (Nat.le_refl _)) _,
  hV.turn ((((hU.set (a:=⟨w.heap.size,0,none⟩) hlo _).set (a:=⟨w.heap.size,1,none⟩) hlo _).set (a:=⟨w.heap.size,2,none⟩) hlo _).set (a:=⟨w.heap.size,3,none⟩) hlo _),
  (((hP.set hL (a:=⟨w.heap.size,0,none⟩) (Nat.le_refl _) _).set hL (a:=⟨w.heap.size,1,none⟩) (Nat.le_refl _) _).set hL (a:=⟨w.heap.size,2,none⟩) (Nat.le_refl _) _).set hL (a:=⟨w.heap.size,3,none⟩) (Nat.le_refl _) _⟩
set_option maxRecDepth 100000 in
set_option maxHeartbeats 4000000 in
theorem term_of {n:Nat} (hT:TsOk ts z) (IH:Done B g c ts z m n) {k s:Nat} {x:Ot} (hr:run m ts (n + 1) .term k s = some x) (w:World) (h:PSt w B g c ts z m k s):Calls Tryz.prog 31 #[.pointer (some ⟨B,0,none⟩)] w (RetP w B g c ts z m s x):=by
 have HT:=hid hT
 have HP0:=hid h
 have HBL:Hid (B < w.heap.size):=hid (HK.blk_lt h.pb)
 have HLT:=hid h.lt
 have HHS:=hid h.hs
 have HSZ:Hid ((tkA ts k).t.size <= maxLen):=hid (by have:=(hT.ok k _ (hT.get h.hk)).2.2.1; unfold maxLen; omega)
 have hk6:k <= 20000:=by have:=hT.le; have:=h.hk; omega
 have hmf:∀ (fn:Fn) (first cap:Array Value) (w:World),(Instr.makeFunc fn first cap).run Tryz.prog w = .ok (.func fn first cap) w:=fun _ _ _ _ => rfl
 obtain ⟨kk,hkk⟩:∃ kk,kk = (tkA ts k).k:=⟨_,rfl⟩
 have HTOK:Hid (∀ W,PSt W B g c ts z m k s -> Calls Tryz.prog 48 #[.pointer (some ⟨B,0,none⟩)] W fun e w' => e = .returned (.agg #[.int .u8 kk,.string (tkA ts k).t,.int .i64 ((tkA ts k).p:Int)]) /\ Below W.heap.size W w'):=hid fun W hW => by rw [hkk]; exact token_any hT hW
 have HKK:=hid hkk
 have HVAR:Hid (∀ W,Calls Tryz.prog 58 #[.string (tkA ts k).t] W (RetW W (checkB varB digitB (tkA ts k).t))):=hid fun W => variable_any W _ HSZ.out
 have HLTZ:Hid (kk ≠ 5 -> k < z):=hid fun e => hT.en.ltk h.hk (by rw [<- hkk]; exact e)
 unfold run at hr
 rw [<- hkk] at hr
 clear hT h hkk
 unfold RetP
 by_cases c0:120 < s
 ·rw [if_pos c0] at hr
  cases hr
  have C0:=hid c0
  clear c0
  go_enter Tryz.func31,Tryz.ntmps31
  go_wp2_with (go_at_call 54; ((with_reducible refine (begin_no HT.out (HP0.out.alloc _) C0.out).mono ?_); rintro e w1 ⟨he,hB1⟩; unfold failE at he; subst he))
  exact ⟨rfl,((HK.Frm.refl _ w).alloc _).trans (frm_below hB1),by unfold failE; rfl⟩
 rw [if_neg c0] at hr
 have C0:=hid c0
 clear c0
 by_cases c1:kk = 2
 ·rw [if_pos c1] at hr
  subst c1
  by_cases c2:isTM m ts k = true
  ·rw [if_pos c2] at hr
   cases hr
   have C2:=hid c2
   clear c2
   go_enter Tryz.func31,Tryz.ntmps31
   go_wp2_with (first
    | (go_at_call 54; ((with_reducible refine (begin_yes (HP0.out.alloc _) C0.out).mono ?_); rintro e w0 ⟨rfl,rfl⟩))
    | (go_at_call 48; ((with_reducible refine (HTOK.out _ (HP0.out.alloc _)).mono ?_); rintro e w1 ⟨rfl,hB1⟩; have HP1:=hid ((HP0.out.alloc _).below hB1); have HF1:=hid (frm_below (B:=B) hB1); clear hB1))
    | (go_at_call 56; ((with_reducible refine (name_tm_yes HT.out (HP1.out.alloc _) C2.out).mono ?_); rintro e w2 ⟨rfl,hF2,hP2⟩; have HF2:=hid hF2; have HP2:=hid hP2; clear hF2 hP2))
    | (go_at_call 55; ((with_reducible refine (variable_one _ _).mono ?_); rintro e w3 ⟨rfl,hB3⟩; have HP3:=hid (HP2.out.below hB3); have HF3:=hid ((HF1.out.alloc _).trans (HF2.out.trans (frm_below hB3))); clear hB3; have hb0:=HK.Frm.heap HF3.out (HK.blk_new w _) (by have h1:=HBL.out; omega); have r0:=HK.blk_cell hb0 0; have r1:=HK.blk_cell hb0 1; have r2:=HK.blk_cell hb0 2; have z0:=HK.blk_frozen hb0 0; have z1:=HK.blk_frozen hb0 1; have z2:=HK.blk_frozen hb0 2; have HB0:=hid hb0; clear hb0)))
   refine bodyPost_ret (results_cell_row (p:=2) (ty:=36) (by kernel_rfl) _ _ w.heap.size 36 _ (0,0) _ rfl (pset3 HB0.out _ _ _) Tryz.underlying36 rfl (by kernel_rfl)) rfl ?_
   obtain ⟨q1,q2,q3⟩:=tm_end (t:=Va (tkA ts k).t) (lo:=w3.heap.size) (((HK.Frm.refl _ w).alloc _).trans HF3.out) HP3.out HLT.out ⟨⟨none,0,0⟩,rfl,.nil _ _,HSZ.out⟩ (by have:=HK.blk_lt HB0.out; omega) (Value.bool true) (Value.string (tkA ts k).t) (Value.slice none 0 0)
   exact ⟨q1,⟨_,rfl,q2⟩,q3⟩
  ·rw [if_neg c2] at hr
   cases hr
   have C2:=hid c2
   clear c2
   go_enter Tryz.func31,Tryz.ntmps31
   go_wp2_with (first
    | (go_at_call 54; ((with_reducible refine (begin_yes (HP0.out.alloc _) C0.out).mono ?_); rintro e w0 ⟨rfl,rfl⟩))
    | (go_at_call 48; ((with_reducible refine (HTOK.out _ (HP0.out.alloc _)).mono ?_); rintro e w1 ⟨rfl,hB1⟩; have HP1:=hid ((HP0.out.alloc _).below hB1); have HF1:=hid (frm_below (B:=B) hB1); clear hB1))
    | (go_at_call 56; ((with_reducible refine (name_tm_no HT.out (HP1.out.alloc _) C2.out).mono ?_); rintro e w2 ⟨he,hF2⟩; unfold failE at he; subst he)))
   exact ⟨rfl,(((HK.Frm.refl _ w).alloc _).trans (HF1.out.alloc _)).trans hF2,by unfold failE; rfl⟩
 rw [if_neg c1] at hr
 have e2:(kk == 2) = false:=by simp [c1]
 obtain ⟨vb,hvb⟩:∃ vb,vb = checkB varB digitB (tkA ts k).t:=⟨_,rfl⟩
 have HVAR2:Hid (∀ W,Calls Tryz.prog 58 #[.string (tkA ts k).t] W fun e w' => e = .returned (.bool vb) /\ Below W.heap.size W w'):=hid fun W => by rw [hvb]; exact HVAR.out W
 have HVV:Hid (isVar ts k = (decide (kk = 1) && vb)):=hid (by unfold isVar; rw [<- HKK.out,hvb])
 clear HVAR hvb
 by_cases c3:isVar ts k = true
 ·rw [if_pos c3] at hr
  cases hr
  have h4:=c3
  rw [HVV.out] at h4
  simp only [Bool.and_eq_true,decide_eq_true_iff] at h4
  obtain ⟨rfl,rfl⟩:=h4
  clear c3
  go_enter Tryz.func31,Tryz.ntmps31
  go_wp2_with (first
   | (go_at_call 54; ((with_reducible refine (begin_yes (HP0.out.alloc _) C0.out).mono ?_); rintro e w0 ⟨rfl,rfl⟩))
   | (go_at_call 48; ((with_reducible refine (HTOK.out _ (HP0.out.alloc _)).mono ?_); rintro e w1 ⟨rfl,hB1⟩; have HP1:=hid ((HP0.out.alloc _).below hB1); have HF1:=hid (frm_below (B:=B) hB1); clear hB1))
   | (go_at_call 58; ((with_reducible refine (HVAR2.out _).mono ?_); rintro e w2 ⟨rfl,hB2⟩; have hP2:=(HP1.out.alloc _).below hB2; have p1:=HK.blk_cell hP2.pb 1; have f1:=HK.blk_frozen hP2.pb 1; have hne:w1.heap.size ≠ B:=(by have h1:=HF1.out.size; have h2:=HBL.out; simp at h1; omega); have hx:=(hB2.block _ (by simp)).trans (HK.blk_new w1 _); have x1:=HK.blk_cell hx 1; have HP2:=hid hP2; have HF2:=hid (frm_below (B:=B) hB2); clear hB2 hP2 hx))
   | (go_at_call 55; ((with_reducible refine (variable_one _ _).mono ?_); rintro e w3 ⟨rfl,hB3⟩; have HP3:Hid (PSt w3 B g c ts z m (k + 1) s):=hid ((HP2.out.goto (k':=k + 1) (HLTZ.out (by omega)) (by have:=HHS.out; omega)).below hB3); have HF3:=hid ((HF1.out.alloc _).trans ((HF2.out.setCell (p:=⟨B,1,none⟩) (.inl rfl) _).trans (frm_below hB3))); clear hB3; have hb0:=HK.Frm.heap HF3.out (HK.blk_new w _) (by have h1:=HBL.out; omega); have r0:=HK.blk_cell hb0 0; have r1:=HK.blk_cell hb0 1; have r2:=HK.blk_cell hb0 2; have z0:=HK.blk_frozen hb0 0; have z1:=HK.blk_frozen hb0 1; have z2:=HK.blk_frozen hb0 2; have HB0:=hid hb0; clear hb0)))
  refine bodyPost_ret (results_cell_row (p:=2) (ty:=36) (by kernel_rfl) _ _ w.heap.size 36 _ (0,0) _ rfl (pset3 HB0.out _ _ _) Tryz.underlying36 rfl (by kernel_rfl)) rfl ?_
  obtain ⟨q1,q2,q3⟩:=tm_end (t:=Va (tkA ts k).t) (lo:=w3.heap.size) (((HK.Frm.refl _ w).alloc _).trans HF3.out) HP3.out HLT.out ⟨⟨none,0,0⟩,rfl,.nil _ _,HSZ.out⟩ (by have:=HK.blk_lt HB0.out; omega) (Value.bool true) (Value.string (tkA ts k).t) (Value.slice none 0 0)
  exact ⟨q1,⟨_,rfl,q2⟩,q3⟩
 rw [if_neg c3] at hr
 have C3:=hid c3
 clear c3
 by_cases c4:kk = 1
 ·subst c4
  obtain rfl:vb = false:=by
   rcases vb with _ | _
   ·rfl
   ·exfalso; apply C3.out; rw [HVV.out]; rfl
  by_cases c5:isFun ts k = true
  ·rw [if_pos c5] at hr
   have C5:=hid c5
   clear c5
   have hHA:∀ y,run m ts n .args (k + 1) s = some y -> ∀ W,PSt W B g c ts z m (k + 1) s -> Calls Tryz.prog 60 #[.pointer (some ⟨B,0,none⟩)] W (RetP W B g c ts z m s y):=fun y hy W hW => IH _ _ _ _ hy W hW
   rcases thenO_some hr with ⟨o,k2,h1,h2⟩ | ⟨k2,er,h1,rfl⟩
   ·have hty:=run_ty _ _ _ _ _ _ _ h1
    have e:=ty_ts hty
    obtain ⟨l,hl⟩:∃ l,l = tsO o:=⟨_,rfl⟩
    rw [<- hl] at e h2
    subst e
    have HL:=hid (hHA _ h1)
    unfold RetP at HL
    cases h2
    clear hHA h1 hty hr hl
    go_enter Tryz.func31,Tryz.ntmps31
    go_wp2_with (first
     | (go_at_call 54; ((with_reducible refine (begin_yes (HP0.out.alloc _) C0.out).mono ?_); rintro e w0 ⟨rfl,rfl⟩))
     | (go_at_call 48; ((with_reducible refine (HTOK.out _ (HP0.out.alloc _)).mono ?_); rintro e w1 ⟨rfl,hB1⟩; have HP1:=hid ((HP0.out.alloc _).below hB1); have HF1:=hid (frm_below (B:=B) hB1); clear hB1))
     | (go_at_call 58; ((with_reducible refine (HVAR2.out _).mono ?_); rintro e w2 ⟨rfl,hB2⟩; have HP2:=hid ((HP1.out.alloc _).below hB2); have HF2:=hid (frm_below (B:=B) hB2); clear hB2))
     | (go_at_call 56; ((with_reducible refine (name_fun_yes HT.out HP2.out C5.out).mono ?_); rintro e w3 ⟨rfl,hF3,hP3⟩; have HF2b:=hid hF3; have HP3:=hid hP3; clear hF3 hP3))
     | (go_at_call 60; ((with_reducible refine (HL.out _ HP3.out).mono ?_); rintro e w4 ⟨hF4,⟨v4,rfl,hv4⟩,hP4⟩; obtain ⟨⟨ga,gn,gc⟩,hve,hvt⟩:=hv4; simp only [SL.v] at hve; subst hve; have HVT:=hid hvt; have HP4:=hid hP4; have HF3:=hid ((HF1.out.alloc _).trans (HF2.out.trans (HF2b.out.trans hF4))); have HL3:Hid (w.heap.size < w3.heap.size):=hid (by have h1:=((HF1.out.alloc _).trans (HF2.out.trans HF2b.out)).size; simp at h1; omega); clear hF4 hP4 hvt; have hb0:=HK.Frm.heap HF3.out (HK.blk_new w _) (by have h1:=HBL.out; omega); have r0:=HK.blk_cell hb0 0; have r1:=HK.blk_cell hb0 1; have r2:=HK.blk_cell hb0 2; have z0:=HK.blk_frozen hb0 0; have z1:=HK.blk_frozen hb0 1; have z2:=HK.blk_frozen hb0 2; have HB0:=hid hb0; clear hb0)))
    refine bodyPost_ret (results_cell_row (p:=2) (ty:=36) (by kernel_rfl) _ _ w.heap.size 36 _ (0,0) _ rfl (pset3 HB0.out _ _ _) Tryz.underlying36 rfl (by kernel_rfl)) rfl ?_
    obtain ⟨q1,q2,q3⟩:=tm_end (t:=.mk false (tkA ts k).t l) (lo:=w3.heap.size) (((HK.Frm.refl _ w).alloc _).trans HF3.out) HP4.out HLT.out ⟨⟨ga,gn,gc⟩,rfl,HVT.out,HSZ.out⟩ HL3.out (Value.bool false) (Value.string (tkA ts k).t) (Value.slice ga gn gc)
    exact ⟨q1,⟨_,rfl,q2⟩,q3⟩
   ·have HL:=hid (hHA _ h1)
    unfold RetP at HL
    clear hHA h1 hr
    go_enter Tryz.func31,Tryz.ntmps31
    go_wp2_with (first
     | (go_at_call 54; ((with_reducible refine (begin_yes (HP0.out.alloc _) C0.out).mono ?_); rintro e w0 ⟨rfl,rfl⟩))
     | (go_at_call 48; ((with_reducible refine (HTOK.out _ (HP0.out.alloc _)).mono ?_); rintro e w1 ⟨rfl,hB1⟩; have HP1:=hid ((HP0.out.alloc _).below hB1); have HF1:=hid (frm_below (B:=B) hB1); clear hB1))
     | (go_at_call 58; ((with_reducible refine (HVAR2.out _).mono ?_); rintro e w2 ⟨rfl,hB2⟩; have HP2:=hid ((HP1.out.alloc _).below hB2); have HF2:=hid (frm_below (B:=B) hB2); clear hB2))
     | (go_at_call 56; ((with_reducible refine (name_fun_yes HT.out HP2.out C5.out).mono ?_); rintro e w3 ⟨rfl,hF3,hP3⟩; have HF2b:=hid hF3; have HP3:=hid hP3; clear hF3 hP3))
     | (go_at_call 60; ((with_reducible refine (HL.out _ HP3.out).mono ?_); rintro e w4 ⟨hF4,he⟩; unfold failE at he; subst he)))
    exact ⟨rfl,((HK.Frm.refl _ w).alloc _).trans ((HF1.out.alloc _).trans (HF2.out.trans (HF2b.out.trans hF4))),by unfold failE; rfl⟩
  ·rw [if_neg c5] at hr
   cases hr
   have C5:=hid c5
   clear c5
   go_enter Tryz.func31,Tryz.ntmps31
   go_wp2_with (first
    | (go_at_call 54; ((with_reducible refine (begin_yes (HP0.out.alloc _) C0.out).mono ?_); rintro e w0 ⟨rfl,rfl⟩))
    | (go_at_call 48; ((with_reducible refine (HTOK.out _ (HP0.out.alloc _)).mono ?_); rintro e w1 ⟨rfl,hB1⟩; have HP1:=hid ((HP0.out.alloc _).below hB1); have HF1:=hid (frm_below (B:=B) hB1); clear hB1))
    | (go_at_call 58; ((with_reducible refine (HVAR2.out _).mono ?_); rintro e w2 ⟨rfl,hB2⟩; have HP2:=hid ((HP1.out.alloc _).below hB2); have HF2:=hid (frm_below (B:=B) hB2); clear hB2))
    | (go_at_call 56; ((with_reducible refine (name_fun_no HT.out HP2.out C5.out).mono ?_); rintro e w3 ⟨he,hF3⟩; unfold failE at he; subst he)))
   exact ⟨rfl,((HK.Frm.refl _ w).alloc _).trans ((HF1.out.alloc _).trans (HF2.out.trans hF3)),by unfold failE; rfl⟩
 ·have c5:¬ isFun ts k = true:=by
   unfold isFun
   rw [<- HKK.out,decide_eq_false c4]; simp
  rw [if_neg c5] at hr
  cases hr
  have C5:=hid c5
  have e1:(kk == 1) = false:=by simp [c4]
  clear c5
  go_enter Tryz.func31,Tryz.ntmps31
  go_wp2_with (first
   | (go_at_call 54; ((with_reducible refine (begin_yes (HP0.out.alloc _) C0.out).mono ?_); rintro e w0 ⟨rfl,rfl⟩))
   | (go_at_call 48; ((with_reducible refine (HTOK.out _ (HP0.out.alloc _)).mono ?_); rintro e w1 ⟨rfl,hB1⟩; have HP1:=hid ((HP0.out.alloc _).below hB1); have HF1:=hid (frm_below (B:=B) hB1); clear hB1))
   | (go_at_call 56; ((with_reducible refine (name_fun_no HT.out (HP1.out.alloc _) C5.out).mono ?_); rintro e w3 ⟨he,hF3⟩; unfold failE at he; subst he)))
  exact ⟨rfl,((HK.Frm.refl _ w).alloc _).trans ((HF1.out.alloc _).trans hF3),by unfold failE; rfl⟩
end
end Go.Proofs.YtdobflpbkfkmgaaGreatDoor
namespace Go.Proofs.YtdobflpbkfkmgaaGreatDoor
open Go.RowKit Go.HK Go.FR Lib
set_option linter.unusedVariables false
set_option linter.unusedSimpArgs false
set_option linter.unusedSectionVars false
theorem PSt.grown {W W':World} {B g c:Nat} {ts:List Tok} {z:Nat} {m:Bool} {k s:Nat} (h:PSt W B g c ts z m k s) {row:Option Nat} (hg:W.grownBy W' row) {N:Nat} (hN:B < N /\ g < N /\ 0 < N) (hr:∀ j,row = some j -> N <= j):PSt W' B g c ts z m k s :=
 ⟨(hg.block B (HK.blk_lt h.pb) (fun e => by have:=hr B e.symm; omega)).trans h.pb,h.tk.turn (hg.block g h.glt (fun e => by have:=hr g e.symm; omega)),h.lv.turn (hg.block 0 h.lv.pos (fun e => by have:=hr 0 e.symm; omega)),h.ne,Nat.lt_of_lt_of_le h.glt hg.size,h.hk,h.hs⟩
def atOf (W:World) (B:Nat):Nat:=match W.cell? ⟨B,1,none⟩ with | some (.int _ i) => i.toNat | _ => 0
theorem PSt.at_ {W:World} {B g c:Nat} {ts:List Tok} {z:Nat} {m:Bool} {k s:Nat} (h:PSt W B g c ts z m k s):atOf W B = k:=by
 unfold atOf
 rw [HK.blk_cell h.pb 1]
 simp
theorem info53:(Tryz.prog.info? 36).map (fun i => (i.zero,i.size,i.bytes)) = some (some (.agg #[.bool false,.string ⟨#[]⟩,.slice none 0 0]),3,48):=by kernel_rfl
theorem elem22:ElemOk Tryz.prog 25 36 3 48:=.mk' Tryz.underlying25 info53 rfl (by omega)
structure LsT (w:World) (B g c:Nat) (ts:List Tok) (z:Nat) (m:Bool) (s:Nat) (L:List (Tm × SL)) (k1:Nat) (v:Value) (wr:World):Prop where
 hF:FJ B w wr
 hP:PSt wr B g c ts z m k1 s
 own:wr.ownsRow w.heap.size 36 3 v L.length (celT L)
 el:∀ p ∈ L,IsTs (fun j => SL' w.heap.size wr.heap.size j /\ some j ≠ v.ownBlock) wr p.2 p.1.args /\ p.1.name.size <= maxLen
 le:L.length <= k1
 ne:1 <= L.length
theorem LsT.next {w:World} {B g c:Nat} {ts:List Tok} {z:Nat} {m:Bool} {s:Nat} {L:List (Tm × SL)} {k1:Nat} {v:Value} {wr:World} (h:LsT w B g c ts z m s L k1 v wr) (hL:B < w.heap.size /\ g < w.heap.size /\ 0 < w.heap.size) {w2 w3:World} {v':Value} {k2:Nat} {p:Tm × SL} {o:Obj} (h2:FJ B wr w2) (hP2:PSt w2 B g c ts z m k2 s) (hk:k1 < k2) (hp:IsTs (SL' wr.heap.size w2.heap.size) w2 p.2 p.1.args /\ p.1.name.size <= maxLen)
  (ho:w3.ownsRow w.heap.size 36 3 v' (L.length + 1) (celT L ++ tmV p.1 p.2)) (hg:(w2.alloc o).grownBy w3 v.ownBlock) (hat:v'.ownBlock = v.ownBlock ∨ v'.ownBlock = some (w2.alloc o).heap.size):LsT w B g c ts z m s (L ++ [p]) k2 v' w3:=by
 have hge:∀ j,v.ownBlock = some j -> w.heap.size <= j /\ j < wr.heap.size:=h.own.lt
 have hbl:∀ j,w.heap.size <= j -> j < w2.heap.size -> some j ≠ v.ownBlock -> w3.heap[j]? = w2.heap[j]?:=fun j h1 h3 h4 => (hg.block j (by simp; omega) h4).trans (Below.heap_alloc _ _ _ h3)
 have hsz:w2.heap.size <= w3.heap.size:=Nat.le_trans (by simp) hg.size
 have hne:∀ j,j < w2.heap.size -> some j ≠ v.ownBlock -> some j ≠ v'.ownBlock:=fun j h1 h3 => by
  rcases hat with e | e
  ·rw [e]; exact h3
  ·rw [e]; intro e2; have:=Option.some.inj e2; simp at this; omega
 refine ⟨((h.hF.trans h2).alloc o).grown hg (fun j e => .inr (hge j e).1),(hP2.alloc o).grown hg hL (fun j e => (hge j e).1),?_,fun q hq => ?_,by have:=h.le; simp; omega,by simp⟩
 ·rw [List.length_append,show celT (L ++ [p]) = celT L ++ tmV p.1 p.2 by simp [celT]]
  exact ho
 ·rcases List.mem_append.1 hq with hq | hq
  ·have hq:=h.el q hq
   have hT:∀ j,(SL' w.heap.size wr.heap.size j /\ some j ≠ v.ownBlock) -> (SL' w.heap.size w3.heap.size j /\ some j ≠ v'.ownBlock) /\ w3.heap[j]? = wr.heap[j]?:=fun j hj => by
    have h5:=Nat.lt_of_lt_of_le hj.1.2 h2.size
    exact ⟨⟨⟨hj.1.1,Nat.lt_of_lt_of_le h5 hsz⟩,hne j h5 hj.2⟩,(hbl j hj.1.1 h5 hj.2).trans (h2.block j hj.1.2 (fun e => by have:=hj.1.1; omega))⟩
   exact ⟨hq.1.turn hT,hq.2⟩
  ·rw [List.mem_singleton] at hq
   subst hq
   have hT:∀ j,SL' wr.heap.size w2.heap.size j -> (SL' w.heap.size w3.heap.size j /\ some j ≠ v'.ownBlock) /\ w3.heap[j]? = w2.heap[j]?:=fun j hj => by
    have h5:w.heap.size <= j:=Nat.le_trans h.hF.size hj.1
    have h6:some j ≠ v.ownBlock:=fun e => by have:=(hge j e.symm).2; have:=hj.1; omega
    exact ⟨⟨⟨h5,Nat.lt_of_lt_of_le hj.2 hsz⟩,hne j hj.2 h6⟩,hbl j h5 hj.2 h6⟩
   exact ⟨hp.1.turn hT,hp.2⟩
theorem LsT.first {w:World} {B g c:Nat} {ts:List Tok} {z:Nat} {m:Bool} {s:Nat} {w2:World} {k2:Nat} {p:Tm × SL} (h2:FJ B w w2) (hP2:PSt w2 B g c ts z m k2 s) (hk:0 < k2) (hp:IsTs (SL' w.heap.size w2.heap.size) w2 p.2 p.1.args /\ p.1.name.size <= maxLen):LsT w B g c ts z m s [p] k2 (.slice (some ⟨w2.heap.size,0,none⟩) 1 1) (w2.alloc (.cells #[.bool p.1.var,.string p.1.name,p.2.v] 36)):=by
 refine ⟨h2.alloc _,hP2.alloc _,?_,fun q hq => ?_,by simp; omega,by simp⟩
 ·have:=World.ownsRow_lit (base:=w.heap.size) (e:=36) (size:=3) w2 #[.bool p.1.var,.string p.1.name,p.2.v] 1 h2.size (by decide) rfl
  simpa [celT,tmV] using this
 ·rw [List.mem_singleton] at hq
  subst hq
  have hT:∀ j,SL' w.heap.size w2.heap.size j -> (SL' w.heap.size (w2.alloc (.cells #[.bool q.1.var,.string q.1.name,q.2.v] 36)).heap.size j /\ some j ≠ (Value.slice (some ⟨w2.heap.size,0,none⟩) 1 1).ownBlock) /\ (w2.alloc (.cells #[.bool q.1.var,.string q.1.name,q.2.v] 36)).heap[j]? = w2.heap[j]?:=fun j hj => ⟨⟨⟨hj.1,by have:=hj.2; simp; omega⟩,fun e => by have h7:j = w2.heap.size:=Option.some.inj e; have:=hj.2; omega⟩,Below.heap_alloc _ _ _ hj.2⟩
  exact ⟨hp.1.turn hT,hp.2⟩
theorem LsT.value {w:World} {B g c:Nat} {ts:List Tok} {z:Nat} {m:Bool} {s:Nat} {L:List (Tm × SL)} {k1:Nat} {v:Value} {wr w1:World} (h:LsT w B g c ts z m s L k1 v wr) (hb:Below wr.heap.size wr w1):∃ s:SL,v = s.v /\ IsTs (SL' w.heap.size w1.heap.size) w1 s (L.map (·.1)):=by
 obtain ⟨g',c',rfl,h1,h2⟩:=own_form9 h.own h.ne
 refine ⟨⟨some ⟨g',0,none⟩,L.length,c'⟩,rfl,ts_row L (fun i v hv => ?_) ⟨h1,Nat.lt_of_lt_of_le h2 hb.size⟩ (fun p hp => ?_) rfl⟩
 ·have hlt:i < L.length * 3:=by
   rw [<- h.own.1]
   exact (List.getElem?_eq_some_iff.1 hv).1
  rw [(World.cell?_of_block (a:=⟨g',i,none⟩) (hb.block g' h2)),h.own.cellAt i hlt]
  exact hv
 ·have hq:=h.el p hp
  have hT:∀ j,(SL' w.heap.size wr.heap.size j /\ some j ≠ (Value.slice (some ⟨g',0,none⟩) L.length c').ownBlock) -> SL' w.heap.size w1.heap.size j /\ w1.heap[j]? = wr.heap[j]?:=fun j hj => ⟨⟨hj.1.1,Nat.lt_of_lt_of_le hj.1.2 hb.size⟩,hb.block j hj.1.2⟩
  exact ⟨hq.1.turn hT,hq.2⟩
theorem info25:(Tryz.prog.info? 28).map (fun i => (i.zero,i.size,i.bytes)) = some (some (.agg #[.int .u8 0,.string ⟨#[]⟩,.slice none 0 0,.slice none 0 0]),4,72):=by kernel_rfl
theorem elem23:ElemOk Tryz.prog 26 28 4 72:=.mk' Tryz.underlying26 info25 rfl (by omega)
structure LsF (w:World) (B g c:Nat) (ts:List Tok) (z:Nat) (m:Bool) (s:Nat) (L:List (Fm × SL × SL)) (k1:Nat) (v:Value) (wr:World):Prop where
 hF:FJ B w wr
 hP:PSt wr B g c ts z m k1 s
 own:wr.ownsRow w.heap.size 28 4 v L.length (celF L)
 el:∀ p ∈ L,IsTs (fun j => SL' w.heap.size wr.heap.size j /\ some j ≠ v.ownBlock) wr p.2.1 p.1.args /\ IsFs (fun j => SL' w.heap.size wr.heap.size j /\ some j ≠ v.ownBlock) wr p.2.2 p.1.subs /\ p.1.op < 256 /\ p.1.name.size <= maxLen
 le:L.length <= k1
 ne:1 <= L.length
theorem LsF.next {w:World} {B g c:Nat} {ts:List Tok} {z:Nat} {m:Bool} {s:Nat} {L:List (Fm × SL × SL)} {k1:Nat} {v:Value} {wr:World} (h:LsF w B g c ts z m s L k1 v wr) (hL:B < w.heap.size /\ g < w.heap.size /\ 0 < w.heap.size) {w2 w3:World} {v':Value} {k2:Nat} {p:Fm × SL × SL} {o:Obj} (h2:FJ B wr w2) (hP2:PSt w2 B g c ts z m k2 s) (hk:k1 < k2) (hp:IsTs (SL' wr.heap.size w2.heap.size) w2 p.2.1 p.1.args /\ IsFs (SL' wr.heap.size w2.heap.size) w2 p.2.2 p.1.subs /\ p.1.op < 256 /\ p.1.name.size <= maxLen)
  (ho:w3.ownsRow w.heap.size 28 4 v' (L.length + 1) (celF L ++ fmV p.1 p.2.1 p.2.2)) (hg:(w2.alloc o).grownBy w3 v.ownBlock) (hat:v'.ownBlock = v.ownBlock ∨ v'.ownBlock = some (w2.alloc o).heap.size):LsF w B g c ts z m s (L ++ [p]) k2 v' w3:=by
 have hge:∀ j,v.ownBlock = some j -> w.heap.size <= j /\ j < wr.heap.size:=h.own.lt
 have hbl:∀ j,w.heap.size <= j -> j < w2.heap.size -> some j ≠ v.ownBlock -> w3.heap[j]? = w2.heap[j]?:=fun j h1 h3 h4 => (hg.block j (by simp; omega) h4).trans (Below.heap_alloc _ _ _ h3)
 have hsz:w2.heap.size <= w3.heap.size:=Nat.le_trans (by simp) hg.size
 have hne:∀ j,j < w2.heap.size -> some j ≠ v.ownBlock -> some j ≠ v'.ownBlock:=fun j h1 h3 => by
  rcases hat with e | e
  ·rw [e]; exact h3
  ·rw [e]; intro e2; have:=Option.some.inj e2; simp at this; omega
 refine ⟨((h.hF.trans h2).alloc o).grown hg (fun j e => .inr (hge j e).1),(hP2.alloc o).grown hg hL (fun j e => (hge j e).1),?_,fun q hq => ?_,by have:=h.le; simp; omega,by simp⟩
 ·rw [List.length_append,show celF (L ++ [p]) = celF L ++ fmV p.1 p.2.1 p.2.2 by simp [celF]]
  exact ho
 ·rcases List.mem_append.1 hq with hq | hq
  ·have hq:=h.el q hq
   have hT:∀ j,(SL' w.heap.size wr.heap.size j /\ some j ≠ v.ownBlock) -> (SL' w.heap.size w3.heap.size j /\ some j ≠ v'.ownBlock) /\ w3.heap[j]? = wr.heap[j]?:=fun j hj => by
    have h5:=Nat.lt_of_lt_of_le hj.1.2 h2.size
    exact ⟨⟨⟨hj.1.1,Nat.lt_of_lt_of_le h5 hsz⟩,hne j h5 hj.2⟩,(hbl j hj.1.1 h5 hj.2).trans (h2.block j hj.1.2 (fun e => by have:=hj.1.1; omega))⟩
   exact ⟨hq.1.turn hT,hq.2.1.turn hT,hq.2.2⟩
  ·rw [List.mem_singleton] at hq
   subst hq
   have hT:∀ j,SL' wr.heap.size w2.heap.size j -> (SL' w.heap.size w3.heap.size j /\ some j ≠ v'.ownBlock) /\ w3.heap[j]? = w2.heap[j]?:=fun j hj => by
    have h5:w.heap.size <= j:=Nat.le_trans h.hF.size hj.1
    have h6:some j ≠ v.ownBlock:=fun e => by have:=(hge j e.symm).2; have:=hj.1; omega
    exact ⟨⟨⟨h5,Nat.lt_of_lt_of_le hj.2 hsz⟩,hne j hj.2 h6⟩,hbl j h5 hj.2 h6⟩
   exact ⟨hp.1.turn hT,hp.2.1.turn hT,hp.2.2⟩
theorem LsF.first {w:World} {B g c:Nat} {ts:List Tok} {z:Nat} {m:Bool} {s:Nat} {w2:World} {k2:Nat} {p:Fm × SL × SL} (h2:FJ B w w2) (hP2:PSt w2 B g c ts z m k2 s) (hk:0 < k2) (hp:IsTs (SL' w.heap.size w2.heap.size) w2 p.2.1 p.1.args /\ IsFs (SL' w.heap.size w2.heap.size) w2 p.2.2 p.1.subs /\ p.1.op < 256 /\ p.1.name.size <= maxLen):LsF w B g c ts z m s [p] k2 (.slice (some ⟨w2.heap.size,0,none⟩) 1 1) (w2.alloc (.cells #[.int .u8 (p.1.op:Int),.string p.1.name,p.2.1.v,p.2.2.v] 28)):=by
 refine ⟨h2.alloc _,hP2.alloc _,?_,fun q hq => ?_,by simp; omega,by simp⟩
 ·have:=World.ownsRow_lit (base:=w.heap.size) (e:=28) (size:=4) w2 #[.int .u8 (p.1.op:Int),.string p.1.name,p.2.1.v,p.2.2.v] 1 h2.size (by decide) rfl
  simpa [celF,fmV] using this
 ·rw [List.mem_singleton] at hq
  subst hq
  have hT:∀ j,SL' w.heap.size w2.heap.size j -> (SL' w.heap.size (w2.alloc (.cells #[.int .u8 (q.1.op:Int),.string q.1.name,q.2.1.v,q.2.2.v] 28)).heap.size j /\ some j ≠ (Value.slice (some ⟨w2.heap.size,0,none⟩) 1 1).ownBlock) /\ (w2.alloc (.cells #[.int .u8 (q.1.op:Int),.string q.1.name,q.2.1.v,q.2.2.v] 28)).heap[j]? = w2.heap[j]?:=fun j hj => ⟨⟨⟨hj.1,by have:=hj.2; simp; omega⟩,fun e => by have h7:j = w2.heap.size:=Option.some.inj e; have:=hj.2; omega⟩,Below.heap_alloc _ _ _ hj.2⟩
  exact ⟨hp.1.turn hT,hp.2.1.turn hT,hp.2.2⟩
theorem LsF.value {w:World} {B g c:Nat} {ts:List Tok} {z:Nat} {m:Bool} {s:Nat} {L:List (Fm × SL × SL)} {k1:Nat} {v:Value} {wr w1:World} (h:LsF w B g c ts z m s L k1 v wr) (hb:Below wr.heap.size wr w1):∃ s:SL,v = s.v /\ IsFs (SL' w.heap.size w1.heap.size) w1 s (L.map (·.1)):=by
 obtain ⟨g',c',rfl,h1,h2⟩:=own_form9 h.own h.ne
 refine ⟨⟨some ⟨g',0,none⟩,L.length,c'⟩,rfl,fs_row L (fun i v hv => ?_) ⟨h1,Nat.lt_of_lt_of_le h2 hb.size⟩ (fun p hp => ?_) rfl⟩
 ·have hlt:i < L.length * 4:=by
   rw [<- h.own.1]
   exact (List.getElem?_eq_some_iff.1 hv).1
  rw [(World.cell?_of_block (a:=⟨g',i,none⟩) (hb.block g' h2)),h.own.cellAt i hlt]
  exact hv
 ·have hq:=h.el p hp
  have hT:∀ j,(SL' w.heap.size wr.heap.size j /\ some j ≠ (Value.slice (some ⟨g',0,none⟩) L.length c').ownBlock) -> SL' w.heap.size w1.heap.size j /\ w1.heap[j]? = wr.heap[j]?:=fun j hj => ⟨⟨hj.1.1,Nat.lt_of_lt_of_le hj.1.2 hb.size⟩,hb.block j hj.1.2⟩
  exact ⟨hq.1.turn hT,hq.2.1.turn hT,hq.2.2⟩
end Go.Proofs.YtdobflpbkfkmgaaGreatDoor
