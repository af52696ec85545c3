import Derived.Orders
import Derived.RegionTactic
namespace Go.RE
open Go
set_option linter.unusedVariables false
set_option linter.unusedSimpArgs false
set_option linter.unusedSectionVars false

theorem countP_lt {α:Type} {p p':α -> Bool} (hp:∀ j,p' j = true -> p j = true):∀ {l:List α} {i:α},i ∈ l -> p i = true -> p' i = false -> l.countP p' < l.countP p
 | [],_,h,_,_ => by cases h
 | b :: l,i,h,h1,h2 => by
  rw [List.countP_cons,List.countP_cons]
  have hm:l.countP p' <= l.countP p:=List.countP_mono_left fun j _ => hp j
  rcases List.mem_cons.1 h with rfl | h
  ·simp only [h1,h2,if_true]
   simp
   omega
  ·have ih:=countP_lt hp h h1 h2
   have hb:=hp b
   cases h3:p' b <;> cases h4:p b <;> simp_all <;> omega

section
variable {P:Program} {ops:Array Oper} {Q:Exit -> Act -> World -> Prop} {md:Region.Mode}

def left (ops:Array Oper) (L:Array Bool):Nat:=(List.range ops.size).countP fun i => !L.getD i true

theorem getD_set (L:Array Bool) (i j:Nat) (hi:i < L.size) (d:Bool):(L.setIfInBounds i true).getD j d = if j = i then true else L.getD j d:=by
 rw [Array.getD_eq_getD_getElem?,Array.getD_eq_getD_getElem?,Array.getElem?_setIfInBounds]
 by_cases h:i = j
 ·subst h; simp [hi]
 ·have h2:¬ j = i:=fun e => h e.symm
  simp [h,h2]

theorem wpAny_inv {J:Array Bool -> Act -> World -> Prop} (hz:∀ L a w,J L a w -> L.size = ops.size)
  (hstep:∀ (L:Array Bool) (a:Act) (w:World) (i:Nat) (o:Oper),J L a w -> ops[i]? = some o -> L.getD i false = false -> (∀ e ∈ o.after,Region.binds md e = true -> L.getD e.on false = true) -> wpOp P ops Q i (fun a' w' => J (L.setIfInBounds i true) a' w') a w)
  (hend:∀ L a w,J L a w -> (∀ i,i < ops.size -> L.getD i false = true) -> Q .normal a w)
  (hback:∀ (i:Nat) (o:Oper),ops[i]? = some o -> ∀ e ∈ o.after,Region.binds md e = true -> e.on < i) :
  ∀ fuel L a w,J L a w -> left ops L <= fuel -> wpAny P md ops Q fuel L a w:=by
 have hall:∀ L a w,J L a w -> Region.ready md ops L = [] -> ∀ i,i < ops.size -> L.getD i false = true:=by
  intro L a w hJ hr i
  induction i using Nat.strongRecOn with
  | ind i ih =>
   intro hi
   have hni:i ∉ Region.ready md ops L:=by rw [hr]; exact List.not_mem_nil
   rcases hL:L.getD i false with _ | _
   ·exfalso
    apply hni
    have hs:=hz _ _ _ hJ
    have ho:ops[i]? = some ops[i]:=Array.getElem?_eq_getElem hi
    refine mem_ready.2 ⟨?_,_,ho,fun e he hb => ?_⟩
    ·rw [Array.getD_eq_getD_getElem?] at hL ⊢
     rw [Array.getElem?_eq_getElem (by omega)] at hL ⊢
     exact hL
    ·have h1:=hback i _ ho e he hb
     exact ih e.on h1 (by omega)
   ·rfl
 intro fuel
 induction fuel with
 | zero =>
  intro L a w hJ hl
  have hr:Region.ready md ops L = []:=by
   apply List.eq_nil_iff_forall_not_mem.2
   intro i hi
   have hm:=mem_ready.1 hi
   obtain ⟨h1,o,h2,h3⟩:=hm
   have hlt:i < ops.size:=by
    rcases Nat.lt_or_ge i ops.size with h | h
    ·exact h
    ·rw [Array.getElem?_eq_none h] at h2; cases h2
   have:0 < left ops L:=List.countP_pos_iff.2 ⟨i,List.mem_range.2 hlt,by rw [h1]; rfl⟩
   omega
  exact ⟨hr,hend L a w hJ (hall L a w hJ hr)⟩
 | succ fuel ih =>
  intro L a w hJ hl
  refine ⟨fun hr => hend L a w hJ (hall L a w hJ hr),fun i hi => ?_⟩
  obtain ⟨h1,o,h2,h3⟩:=mem_ready.1 hi
  have hs:=hz _ _ _ hJ
  have hlt:i < ops.size:=by
   rcases Nat.lt_or_ge i ops.size with h | h
   ·exact h
   ·rw [Array.getElem?_eq_none h] at h2; cases h2
  have h1':L.getD i false = false:=by
   rw [Array.getD_eq_getD_getElem?,Array.getElem?_eq_getElem (by omega)] at h1 ⊢
   exact h1
  refine wpOp_mono (fun a' w' h => ih _ _ _ h ?_) (hstep L a w i o hJ h2 h1' h3)
  have:left ops (L.setIfInBounds i true) < left ops L:=by
   refine countP_lt (fun j hj => ?_) (List.mem_range.2 hlt) (by rw [h1]; rfl) (by rw [getD_set L i i (by omega)]; simp)
   rw [getD_set L i j (by omega)] at hj
   by_cases hji:j = i
   ·simp [hji] at hj
   ·simpa [hji] using hj
  omega

def putAll (a:Act) (ds:List Nat) (x:Nat -> Value):Act:=ds.foldl (fun a d => a.put (some d) (x d)) a

theorem putAll_defers (ds:List Nat) (x:Nat -> Value):∀ a:Act,(putAll a ds x).defers = a.defers:=by
 induction ds with
 | nil => intro a; rfl
 | cons d ds ih => intro a; exact (ih _).trans rfl

theorem putAll_tmps (ds:List Nat) (x:Nat -> Value):∀ (a:Act),(putAll a ds x).tmps.size = a.tmps.size /\ ∀ t,(putAll a ds x).tmps[t]? = if t ∈ ds /\ t < a.tmps.size then some (x t) else a.tmps[t]?:=by
 induction ds with
 | nil => intro a; exact ⟨rfl,fun t => by simp [putAll]⟩
 | cons d ds ih =>
  intro a
  obtain ⟨h1,h2⟩:=ih (a.put (some d) (x d))
  have hz:(a.put (some d) (x d)).tmps.size = a.tmps.size:=by simp [Act.put]
  refine ⟨h1.trans hz,fun t => ?_⟩
  have:=h2 t
  rw [hz] at this
  show (putAll (a.put (some d) (x d)) ds x).tmps[t]? = _
  rw [this]
  simp only [Act.put,Array.getElem?_setIfInBounds,List.mem_cons]
  by_cases hd:t = d
  ·subst hd
   by_cases hlt:t < a.tmps.size
   ·simp [hlt]
   ·simp [hlt]
  ·have hd':¬ d = t:=fun e => hd e.symm
   simp [hd,hd']

def fillL (ds:List Nat) (x:Nat -> Value):Nat -> List Value -> List Value
 | _,[] => []
 | i,v :: l => cond (ds.any (Nat.beq i)) (x i) v :: fillL ds x (i + 1) l
theorem fillL_get (ds:List Nat) (x:Nat -> Value):∀ (l:List Value) (i t:Nat),(fillL ds x i l)[t]? = if ds.any (Nat.beq (i + t)) = true /\ t < l.length then some (x (i + t)) else l[t]?
 | [],i,t => by simp [fillL]
 | v :: l,i,0 => by
  by_cases h:ds.any (Nat.beq i) = true
  ·simp only [fillL,Nat.add_zero,h,cond_true]
   simp
  ·have h':ds.any (Nat.beq i) = false:=by
    cases hb:ds.any (Nat.beq i)
    ·rfl
    ·exact absurd hb h
   simp only [fillL,Nat.add_zero,h',cond_false]
   simp
 | v :: l,i,t + 1 => by
  have ih:=fillL_get ds x l (i + 1) t
  have hi:i + 1 + t = i + (t + 1):=by omega
  rw [hi] at ih
  simp only [fillL,List.getElem?_cons_succ,ih,List.length_cons,Nat.add_lt_add_iff_right]

theorem act_ext {a b:Act} (h1:a.defers = b.defers) (h2:∀ t:Nat,a.tmps[t]? = b.tmps[t]?):a = b:=by
 obtain ⟨t1,d1⟩:=a
 obtain ⟨t2,d2⟩:=b
 simp only at h1 h2
 subst h1
 congr 1
 exact Array.ext_getElem? h2

def dstsOf (ops:Array Oper):List Nat:=ops.toList.filterMap (·.dst)

def okB (ops:Array Oper) (n:Nat):Bool :=
 (ops.toList.all fun o => o.guard.isNone) && ((List.range ops.size).all fun i => ((ops[i]?).map fun o => o.after.all fun e => !Region.binds .any e || decide (e.on < i)).getD true)
 && decide (dstsOf ops).Nodup && ((dstsOf ops).all fun d => decide (d < n))

def upd (L:Nat -> Bool) (i:Nat):Nat -> Bool:=fun j => if j = i then true else L j
def updv (x:Nat -> Value) (d:Option Tmp) (v:Value):Nat -> Value:=fun t => if d = some t then v else x t

def Owed (P:Program) (ops:Array Oper) (Q:Exit -> Act -> World -> Prop) (a0:Act) (Φ:(Nat -> Bool) -> (Nat -> Value) -> World -> Prop) (i:Nat) (o:Oper):Prop :=
 ∀ (L:Nat -> Bool) (x:Nat -> Value) (a:Act) (w:World) (K:Act -> World -> Prop),L i = false ->
  (∀ k,(o.after.toList.any fun e => Nat.beq e.on k && Region.binds .any e) = true -> L k = true) ->
  (∀ t,t ∉ dstsOf ops -> a.tmps[t]? = a0.tmps[t]?) ->
  (∀ k ok d,ops[k]? = some ok -> ok.dst = some d -> L k = true -> a.tmps[d]? = some (x d)) ->
  Φ L x w -> (∀ v w',Φ (upd L i) (updv x o.dst v) w' -> K (a.put o.dst v) w') -> Oper.wp P o a w K Q

def Each (C:Nat -> Oper -> Prop):Nat -> List Oper -> Prop
 | _,[] => True
 | i,o :: os => C i o /\ Each C (i + 1) os

theorem Each.nil {C:Nat -> Oper -> Prop} {i:Nat}:Each C i []:=trivial
theorem Each.cons {C:Nat -> Oper -> Prop} {i:Nat} {o:Oper} {os:List Oper} (h:C i o) (t:Each C (i + 1) os):Each C i (o :: os):=⟨h,t⟩
theorem Each.get {C:Nat -> Oper -> Prop}:∀ {l:List Oper} {i:Nat},Each C i l -> ∀ {j:Nat} {o:Oper},l[j]? = some o -> C (i + j) o
 | [],_,_,_,_,h => by simp at h
 | b :: l,i,⟨h1,h2⟩,0,o,h => by simp at h; subst h; exact h1
 | b :: l,i,⟨h1,h2⟩,j + 1,o,h => by
  have:=Each.get h2 (j:=j) (o:=o) (by simpa using h)
  rwa [Nat.add_assoc,Nat.add_comm 1 j] at this

theorem dst_mem {k:Nat} {o:Oper} {d:Nat} (h:ops[k]? = some o) (hd:o.dst = some d):d ∈ dstsOf ops:=by
 refine List.mem_filterMap.2 ⟨o,?_,hd⟩
 rw [<- Array.getElem?_toList] at h
 exact List.mem_of_getElem? h

theorem dst_inj_list:∀ {l:List Oper},(l.filterMap (·.dst)).Nodup -> ∀ {i j:Nat} {o u:Oper} {d:Nat},l[i]? = some o -> l[j]? = some u -> o.dst = some d -> u.dst = some d -> i = j
 | [],_,i,_,_,_,_,h,_,_,_ => by simp at h
 | b :: l,hn,i,j,o,u,d,hi,hj,ho,hu => by
  have hmem:∀ {k:Nat} {q:Oper},l[k]? = some q -> q.dst = some d -> d ∈ l.filterMap (·.dst):=fun h hd => List.mem_filterMap.2 ⟨_,List.mem_of_getElem? h,hd⟩
  have hn':(l.filterMap (·.dst)).Nodup:=by
   rw [List.filterMap_cons] at hn
   split at hn
   ·exact hn
   ·exact (List.nodup_cons.1 hn).2
  have hb:b.dst = some d -> d ∉ l.filterMap (·.dst):=fun hbd => by
   rw [List.filterMap_cons,hbd] at hn
   exact (List.nodup_cons.1 hn).1
  cases i with
  | zero =>
   cases j with
   | zero => rfl
   | succ j => simp at hi hj; subst hi; exact absurd (hmem hj hu) (hb ho)
  | succ i =>
   cases j with
   | zero => simp at hi hj; subst hj; exact absurd (hmem hi ho) (hb hu)
   | succ j => simp at hi hj; rw [dst_inj_list hn' hi hj ho hu]

theorem fill_eq (l:List Value) (df:List Deferred) (ds:List Nat) (x:Nat -> Value):putAll ⟨l.toArray,df⟩ ds x = ⟨(fillL ds x 0 l).toArray,df⟩:=by
 refine act_ext (putAll_defers _ _ _) fun t => ?_
 rw [(putAll_tmps _ _ _).2 t]
 show _ = (fillL ds x 0 l).toArray[t]?
 have hr:(fillL ds x 0 l).toArray[t]? = (fillL ds x 0 l)[t]?:=by simp
 have hl:l.toArray[t]? = l[t]?:=by simp
 rw [hr,fillL_get,Nat.zero_add]
 simp only [hl]
 have:(t ∈ ds /\ t < l.toArray.size) ↔ (ds.any (Nat.beq t) = true /\ t < l.length):=by
  rw [List.any_eq_true]
  constructor
  ·rintro ⟨h1,h2⟩
   exact ⟨⟨t,h1,Nat.beq_refl t⟩,by simpa using h2⟩
  ·rintro ⟨⟨u,h1,h3⟩,h2⟩
   rw [Nat.eq_of_beq_eq_true h3]
   refine ⟨h1,?_⟩
   rw [<- Nat.eq_of_beq_eq_true h3]
   simpa using h2
 by_cases h:t ∈ ds /\ t < l.toArray.size
 ·rw [if_pos h,if_pos (this.1 h)]
 ·rw [if_neg h,if_neg (fun h' => h (this.2 h'))]
end
end Go.RE
