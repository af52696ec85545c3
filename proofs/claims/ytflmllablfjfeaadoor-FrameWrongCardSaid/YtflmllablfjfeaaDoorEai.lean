import Derived.Test.YtflmllablfjfeaaDoorEach
import Derived.RangeFuncCalls
import Derived.CallsIn
namespace Go.RE
open Go
set_option linter.unusedVariables false
set_option linter.unusedSimpArgs false
set_option linter.unusedSectionVars false
section
variable {P:Program} {ops:Array Oper} {Q:Exit -> Act -> World -> Prop}
theorem callsIn_round {l n:Nat} {f:FuncId} {args:Array Value} {w:World} {R:Ending -> World -> Prop} (h:Calls P f args w R):CallsIn (Fence.wide.inRound l) n P f args w R :=
 CallsIn.inRound l (callsIn_wide.2 h)
theorem rowsIn_round {l n:Nat} {row:String} {args:Array Value} {w:World} {R:Value -> World -> Prop} (h:Rows P row args w R):RowsIn (Fence.wide.inRound l) n P row args w R :=
 fun c cs _ => let ⟨v,w',r,s⟩:=h c cs; ⟨v,w',r,stepsIn_wide.2 s⟩
theorem upon_in {l n:Nat} {o:Oper} {a:Act} {K K':Act -> World -> Prop} (hK:∀ a w,K a w -> K' a w):∀ r,o.upon P a K Q r -> o.uponIn (Fence.wide.inRound l) n P a K' Q r:=by
 intro r h
 cases r with
 | ok x w' =>
  cases x with
  | value v => exact hK _ _ h
  | skip => exact hK _ _ h
  | defer d => exact hK _ _ h
  | enter f args =>
   refine ⟨(fun hh => by cases hh),(callsIn_round (P:=P) h).mono ?_⟩
   intro e w'' he
   cases e with
   | returned v => exact hK _ _ he
   | panicked c => exact he
   | outgrown => exact he
  | row row args => exact ⟨(fun hh => by cases hh),(rowsIn_round (P:=P) h).mono fun v w'' he => hK _ _ he⟩
  | round _ _ _ _ _ => exact h.elim
  | _ => exact h.elim
 | halt h1 w' =>
  cases h1 with
  | panic v => exact h
  | _ => exact h.elim
theorem wpOpsIn_of {l n:Nat} (hnd:∀ (i:Nat) (o:Oper),ops[i]? = some o -> ∀ c,o.op ≠ .defer c) (hQ:¬ LetsOut Q):∀ (L:List Nat) (a:Act) (w:World),wpOps P ops Q L a w -> wpOpsIn (Fence.wide.inRound l) n P ops Q L a w
 | [],a,w,h => h
 | i :: rest,a,w,h => by
  unfold wpOps at h
  unfold wpOpsIn
  rcases ho:ops[i]? with _ | o
  ·rw [ho] at h
   exact wpOpsIn_of hnd hQ rest a w h
  ·rw [ho] at h
   simp only at h ⊢
   split
   ·rename_i hw
    rw [if_pos hw] at h
    rcases h with h | ⟨_,h⟩
    ·refine ⟨fun f _ => trivial,?_⟩
     rw [Oper.semAt_eq _ _ _ (hnd i o ho)]
     exact upon_in (wpOpsIn_of hnd hQ rest) _ h
    ·exact absurd h hQ
   ·rename_i hw
    rw [if_neg hw] at h
    exact ⟨fun f _ => trivial,wpOpsIn_of hnd hQ rest _ w h⟩
theorem wpIn_region_round {id l n:Nat} {a:Act} {w:World} (hm:P.follows .mixedOrders = true) (hnd:∀ (i:Nat) (o:Oper),ops[i]? = some o -> ∀ c,o.op ≠ .defer c) (hQ:¬ LetsOut Q)
  (h:wpAny P .any ops Q ops.size (Array.replicate ops.size false) a { w with drawn:=w.drawn + 1 }):(Code.region id ops true).wpIn (Fence.wide.inRound l) n P Q a w :=
 wpIn_region_draw fun t => by
  refine wpOpsIn_of hnd hQ _ _ _ ?_
  simp only [Region.schedule,hm,Bool.true_or,if_true]
  exact wpAny_sound ops.size t _ a _ h
def noDefer (ops:Array Oper):Bool:=ops.all fun o => match o.op with | .defer _ => false | _ => true
theorem noDefer_of {ops:Array Oper} (h:noDefer ops = true):∀ (i:Nat) (o:Oper),ops[i]? = some o -> ∀ c,o.op ≠ .defer c:=by
 intro i o ho c e
 have:=Array.all_eq_true.1 h i (Array.getElem?_eq_some_iff.1 ho).1
 have h2:=(Array.getElem?_eq_some_iff.1 ho).2
 rw [h2,e] at this
 cases this
theorem any_each_put {a0:Act} {w0:World} (Φ:(Nat -> Bool) -> (Nat -> Value) -> World -> Prop) (hm:P.follows .mixedOrders = true)
  (hok:okB ops a0.tmps.size = true) (h0:∀ x,Φ (fun _ => false) x w0.drew)
  (hstep:Each (Owed P ops Q a0 Φ) 0 ops.toList)
  (hend:∀ x w,Φ (fun i => decide (i < ops.size)) x w -> Q .normal (putAll a0 (dstsOf ops) x) w):wpAny P .any ops Q ops.size (Array.replicate ops.size false) a0 { w0 with drawn:=w0.drawn + 1 }:=by
 simp only [okB,Bool.and_eq_true,decide_eq_true_eq,List.all_eq_true] at hok
 obtain ⟨⟨⟨k1,k2⟩,k3⟩,k4⟩:=hok
 refine wpAny_inv (J:=fun L a w => L.size = ops.size /\ ∃ x:Nat -> Value,a.defers = a0.defers /\ a.tmps.size = a0.tmps.size /\ (∀ t,t ∉ dstsOf ops -> a.tmps[t]? = a0.tmps[t]?) /\ (∀ k ok d,ops[k]? = some ok -> ok.dst = some d -> L.getD k false = true -> a.tmps[d]? = some (x d)) /\ Φ (fun i => L.getD i false) x w) (fun L a w h => h.1) ?_ ?_ ?_ _ _ _ _ ?_ ?_
 ·rintro L a w i o ⟨hz,x,f1,f2,f3,f4,hΦ⟩ hi hL hdep
  have hlt:i < ops.size:=by
   rcases Nat.lt_or_ge i ops.size with h | h
   ·exact h
   ·rw [Array.getElem?_eq_none h] at hi; cases hi
  have hg:o.guard = none:=by
   have:=k1 o (by rw [<- Array.getElem?_toList] at hi; exact List.mem_of_getElem? hi)
   simpa using this
  have hC:=hstep.get (j:=i) (o:=o) (by rw [Array.getElem?_toList]; exact hi)
  rw [Nat.zero_add] at hC
  unfold wpOp
  simp only [hi,Region.wanted,hg,if_true]
  refine .inl (hC (fun i => L.getD i false) x a w _ hL (fun k hk => by
   obtain ⟨e,he,hb⟩:=List.any_eq_true.1 hk
   rw [Bool.and_eq_true] at hb
   rw [<- Nat.eq_of_beq_eq_true hb.1]
   exact hdep e (by simpa using he) hb.2) f3 f4 hΦ ?_)
  intro v w' hΦ'
  have hLu:(fun j => (L.setIfInBounds i true).getD j false) = upd (fun j => L.getD j false) i:=by
   funext j
   rw [getD_set L i j (by omega)]
   rfl
  have hpz:(a.put o.dst v).tmps.size = a.tmps.size:=by
   cases o.dst <;> simp [Act.put]
  refine ⟨by simp [hz],updv x o.dst v,?_,hpz.trans f2,?_,?_,?_⟩
  ·cases o.dst <;> exact f1
  ·intro t ht
   have hne:o.dst ≠ some t:=fun e => ht (dst_mem hi e)
   rw [<- f3 t ht]
   cases hd:o.dst with
   | none => rfl
   | some d =>
    have:d ≠ t:=fun e => hne (by rw [hd,e])
    simp [Act.put,Array.getElem?_setIfInBounds,this]
  ·intro k ok d hk hkd hLk
   rw [getD_set L i k (by omega)] at hLk
   by_cases hki:k = i
   ·subst hki
    rw [hi] at hk
    cases hk
    have hdlt:d < a.tmps.size:=by
     have:=k4 d (dst_mem hi hkd)
     rw [f2]
     simpa using this
    simp [hkd,Act.put,updv,hdlt]
   ·rw [if_neg hki] at hLk
    have h5:=f4 k ok d hk hkd hLk
    have hne:o.dst ≠ some d:=fun e => hki (dst_inj_list k3 (by rw [Array.getElem?_toList]; exact hk) (by rw [Array.getElem?_toList]; exact hi) hkd e)
    have hx:updv x o.dst v d = x d:=by unfold updv; rw [if_neg hne]
    rw [hx]
    cases hd:o.dst with
    | none => exact h5
    | some d' =>
     have:d' ≠ d:=fun e => hne (by rw [hd,e])
     simp [Act.put,Array.getElem?_setIfInBounds,this]
     exact h5
  ·rw [hLu]; exact hΦ'
 ·rintro L a w ⟨hz,x,f1,f2,f3,f4,hΦ⟩ hall
  have hfn:(fun i => L.getD i false) = fun i => decide (i < ops.size):=by
   funext i
   by_cases hi:i < ops.size
   ·rw [hall i hi]; simp [hi]
   ·rw [Array.getD_eq_getD_getElem?,Array.getElem?_eq_none (by omega)]; simp [hi]
  rw [hfn] at hΦ
  have ha:a = putAll a0 (dstsOf ops) x:=by
   refine act_ext (f1.trans (putAll_defers _ _ _).symm) fun t => ?_
   rw [(putAll_tmps _ _ _).2 t]
   by_cases ht:t ∈ dstsOf ops
   ·have hlt:t < a0.tmps.size:=by simpa using k4 t ht
    rw [if_pos ⟨ht,hlt⟩]
    obtain ⟨o,ho,hd⟩:=List.mem_filterMap.1 ht
    obtain ⟨k,hk⟩:=List.mem_iff_getElem?.1 ho
    rw [Array.getElem?_toList] at hk
    have hklt:k < ops.size:=by
     rcases Nat.lt_or_ge k ops.size with h | h
     ·exact h
     ·rw [Array.getElem?_eq_none h] at hk; cases hk
    exact f4 k o t hk hd (hall k hklt)
   ·rw [if_neg (fun h => ht h.1)]
    exact f3 t ht
  rw [ha]
  exact hend x w hΦ
 ·intro i o hi e he hb
  have:=k2 i (List.mem_range.2 (by
   rcases Nat.lt_or_ge i ops.size with h | h
   ·exact h
   ·rw [Array.getElem?_eq_none h] at hi; cases hi))
  rw [hi] at this
  simp only [Option.map_some,Option.getD_some,Array.all_eq_true'] at this
  have:=this e he
  rw [hb] at this
  simpa using this
 ·refine ⟨by simp,fun _ => undef,rfl,rfl,fun _ _ => rfl,?_,?_⟩
  ·intro k ok d hk hd hL
   exfalso
   have hklt:k < ops.size:=by
    rcases Nat.lt_or_ge k ops.size with h | h
    ·exact h
    ·rw [Array.getElem?_eq_none h] at hk; cases hk
   rw [Array.getD_eq_getD_getElem?] at hL
   simp [hklt] at hL
  ·have:(fun i => (Array.replicate ops.size false).getD i false) = fun _ => false:=by
    funext i
    rw [Array.getD_eq_getD_getElem?]
    by_cases h:i < ops.size <;> simp [h]
   rw [this]
   exact h0 _
 ·exact Nat.le_trans List.countP_le_length (by simp)
theorem wpIn_region_each {id ll n:Nat} {l:List Value} {df:List Deferred} {w0:World} (ds:List Nat) (Φ:(Nat -> Bool) -> (Nat -> Value) -> World -> Prop) (hm:P.follows .mixedOrders = true) (hnd:noDefer ops = true) (hQ:¬ LetsOut Q)
  (hok:okB ops l.length = true) (hds:dstsOf ops = ds) (h0:∀ x,Φ (fun _ => false) x w0.drew)
  (hstep:Each (Owed P ops Q ⟨l.toArray,df⟩ Φ) 0 ops.toList)
  (hend:∀ x w,Φ (fun i => decide (i < ops.size)) x w -> Q .normal ⟨(fillL ds x 0 l).toArray,df⟩ w):(Code.region id ops true).wpIn (Fence.wide.inRound ll) n P Q ⟨l.toArray,df⟩ w0:=by
 refine wpIn_region_round hm (noDefer_of hnd) hQ (any_each_put Φ hm (by simpa using hok) h0 hstep fun x w h => ?_)
 rw [hds,fill_eq]
 exact hend x w h
end
end Go.RE
