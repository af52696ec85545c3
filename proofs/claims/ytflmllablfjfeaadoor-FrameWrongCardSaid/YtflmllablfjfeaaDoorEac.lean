import Derived.Test.YtflmllablfjfeaaDoorEach
namespace Go.RE
open Go
set_option linter.unusedVariables false
set_option linter.unusedSimpArgs false
set_option linter.unusedSectionVars false
section
variable {P:Program} {ops:Array Oper} {Q:Exit -> Act -> World -> Prop} {md:Region.Mode}
def okG (ops:Array Oper) (n:Nat):Bool :=
 ((List.range ops.size).all fun i => ((ops[i]?).map fun o => o.after.all fun e => !Region.binds .any e || decide (e.on < i)).getD true)
 && decide (dstsOf ops).Nodup && ((dstsOf ops).all fun d => decide (d < n))
def OwedG (P:Program) (ops:Array Oper) (Q:Exit -> Act -> World -> Prop) (a0:Act) (Φ:(Nat -> Bool) -> (Nat -> Value) -> World -> Prop) (i:Nat) (o:Oper):Prop :=
 ∀ (L:Nat -> Bool) (x:Nat -> Value) (a:Act) (w:World) (K:Act -> World -> Prop),L i = false ->
  (∀ k,(o.after.toList.any fun e => Nat.beq e.on k && Region.binds .any e) = true -> L k = true) ->
  (∀ t,t ∉ dstsOf ops -> a.tmps[t]? = a0.tmps[t]?) ->
  (∀ k ok d,ops[k]? = some ok -> ok.dst = some d -> L k = true -> a.tmps[d]? = some (x d)) ->
  Φ L x w -> (∀ v w',Φ (upd L i) (updv x o.dst v) w' -> K (a.put o.dst v) w') -> (Region.wanted o (yielded ops a.tmps) = true -> Oper.wp P o a w K Q) /\ (Region.wanted o (yielded ops a.tmps) = false -> K (a.put o.dst undef) w)
theorem yielded_of {ops:Array Oper} {tmps:Array Value} {j d:Nat} {o:Oper} {b:Bool} (ho:ops[j]? = some o) (hd:o.dst = some d) (ht:tmps[d]? = some (.bool b)):yielded ops tmps j = some b:=by
 simp [yielded,ho,hd,ht]
theorem wanted_none {o:Oper} {f:Nat -> Option Bool} (h:o.guard = none):Region.wanted o f = true:=by simp [Region.wanted,h]
theorem wanted_of {o:Oper} {f:Nat -> Option Bool} {j:Nat} {c b:Bool} (h:o.guard = some (j,c)) (hf:f j = some b):Region.wanted o f = (b == c):=by
 simp [Region.wanted,h,hf]
theorem wanted_undef {o:Oper} {ops:Array Oper} {tmps:Array Value} {j d:Nat} {c:Bool} {oj:Oper} (h:o.guard = some (j,c)) (ho:ops[j]? = some oj) (hd:oj.dst = some d) (ht:tmps[d]? = some undef):Region.wanted o (yielded ops tmps) = false:=by
 simp [Region.wanted,h,yielded,ho,hd,ht,undef]
theorem wp_region_eachg_put {id:Nat} {a0:Act} {w0:World} (Φ:(Nat -> Bool) -> (Nat -> Value) -> World -> Prop) (hm:P.follows .mixedOrders = true)
  (hok:okG ops a0.tmps.size = true) (h0:∀ x,Φ (fun _ => false) x w0.drew)
  (hstep:Each (OwedG P ops Q a0 Φ) 0 ops.toList)
  (hend:∀ x w,Φ (fun i => decide (i < ops.size)) x w -> Q .normal (putAll a0 (dstsOf ops) x) w):(Code.region id ops true).wp P Q a0 w0:=by
 simp only [okG,Bool.and_eq_true,decide_eq_true_eq,List.all_eq_true] at hok
 obtain ⟨⟨k2,k3⟩,k4⟩:=hok
 refine wp_region_any hm ?_
 refine wpAny_inv (J:=fun L a w => L.size = ops.size /\ ∃ x:Nat -> Value,a.defers = a0.defers /\ a.tmps.size = a0.tmps.size /\ (∀ t,t ∉ dstsOf ops -> a.tmps[t]? = a0.tmps[t]?) /\ (∀ k ok d,ops[k]? = some ok -> ok.dst = some d -> L.getD k false = true -> a.tmps[d]? = some (x d)) /\ Φ (fun i => L.getD i false) x w) (fun L a w h => h.1) ?_ ?_ ?_ _ _ _ _ ?_ ?_
 ·rintro L a w i o ⟨hz,x,f1,f2,f3,f4,hΦ⟩ hi hL hdep
  have hlt:i < ops.size:=by
   rcases Nat.lt_or_ge i ops.size with h | h
   ·exact h
   ·rw [Array.getElem?_eq_none h] at hi; cases hi
  have hC:=hstep.get (j:=i) (o:=o) (by rw [Array.getElem?_toList]; exact hi)
  rw [Nat.zero_add] at hC
  unfold wpOp
  simp only [hi]
  have hfin:∀ v w',Φ (upd (fun i => L.getD i false) i) (updv x o.dst v) w' -> (L.setIfInBounds i true).size = ops.size /\ ∃ x':Nat -> Value,(a.put o.dst v).defers = a0.defers /\ (a.put o.dst v).tmps.size = a0.tmps.size /\ (∀ t,t ∉ dstsOf ops -> (a.put o.dst v).tmps[t]? = a0.tmps[t]?) /\ (∀ k ok d,ops[k]? = some ok -> ok.dst = some d -> (L.setIfInBounds i true).getD k false = true -> (a.put o.dst v).tmps[d]? = some (x' d)) /\ Φ (fun j => (L.setIfInBounds i true).getD j false) x' w':=by
   intro v w' hΦ'
   have hLu:(fun j => (L.setIfInBounds i true).getD j false) = upd (fun j => L.getD j false) i:=by
    funext j
    rw [getD_set L i j (by omega)]
    rfl
   have hpz:(a.put o.dst v).tmps.size = a.tmps.size:=by
    cases o.dst <;> simp [Act.put]
   refine ⟨by simp [hz],updv x o.dst v,?_,hpz.trans f2,?_,?_,?_⟩
   ·cases o.dst <;> exact f1
   ·intro t ht
    have hne:o.dst ≠ some t:=fun e => ht (dst_mem hi e)
    rw [<- f3 t ht]
    cases hd:o.dst with
    | none => rfl
    | some d =>
     have:d ≠ t:=fun e => hne (by rw [hd,e])
     simp [Act.put,Array.getElem?_setIfInBounds,this]
   ·intro k ok d hk hkd hLk
    rw [getD_set L i k (by omega)] at hLk
    by_cases hki:k = i
    ·subst hki
     rw [hi] at hk
     cases hk
     have hdlt:d < a.tmps.size:=by
      have:=k4 d (dst_mem hi hkd)
      rw [f2]
      simpa using this
     simp [hkd,Act.put,updv,hdlt]
    ·rw [if_neg hki] at hLk
     have h5:=f4 k ok d hk hkd hLk
     have hne:o.dst ≠ some d:=fun e => hki (dst_inj_list k3 (by rw [Array.getElem?_toList]; exact hk) (by rw [Array.getElem?_toList]; exact hi) hkd e)
     have hx:updv x o.dst v d = x d:=by unfold updv; rw [if_neg hne]
     rw [hx]
     cases hd:o.dst with
     | none => exact h5
     | some d' =>
      have:d' ≠ d:=fun e => hne (by rw [hd,e])
      simp [Act.put,Array.getElem?_setIfInBounds,this]
      exact h5
   ·rw [hLu]; exact hΦ'
  have hC2:=hC (fun i => L.getD i false) x a w (fun a' w' => (L.setIfInBounds i true).size = ops.size /\ ∃ x':Nat -> Value,a'.defers = a0.defers /\ a'.tmps.size = a0.tmps.size /\ (∀ t,t ∉ dstsOf ops -> a'.tmps[t]? = a0.tmps[t]?) /\ (∀ k ok d,ops[k]? = some ok -> ok.dst = some d -> (L.setIfInBounds i true).getD k false = true -> a'.tmps[d]? = some (x' d)) /\ Φ (fun j => (L.setIfInBounds i true).getD j false) x' w') hL (fun k hk => by
   obtain ⟨e,he,hb⟩:=List.any_eq_true.1 hk
   rw [Bool.and_eq_true] at hb
   rw [<- Nat.eq_of_beq_eq_true hb.1]
   exact hdep e (by simpa using he) hb.2) f3 f4 hΦ hfin
  by_cases hw:Region.wanted o (yielded ops a.tmps) = true
  ·rw [if_pos hw]
   exact .inl (hC2.1 hw)
  ·rw [if_neg hw]
   exact hC2.2 (by simpa using hw)
 ·rintro L a w ⟨hz,x,f1,f2,f3,f4,hΦ⟩ hall
  have hfn:(fun i => L.getD i false) = fun i => decide (i < ops.size):=by
   funext i
   by_cases hi:i < ops.size
   ·rw [hall i hi]; simp [hi]
   ·rw [Array.getD_eq_getD_getElem?,Array.getElem?_eq_none (by omega)]; simp [hi]
  rw [hfn] at hΦ
  have ha:a = putAll a0 (dstsOf ops) x:=by
   refine act_ext (f1.trans (putAll_defers _ _ _).symm) fun t => ?_
   rw [(putAll_tmps _ _ _).2 t]
   by_cases ht:t ∈ dstsOf ops
   ·have hlt:t < a0.tmps.size:=by simpa using k4 t ht
    rw [if_pos ⟨ht,hlt⟩]
    obtain ⟨o,ho,hd⟩:=List.mem_filterMap.1 ht
    obtain ⟨k,hk⟩:=List.mem_iff_getElem?.1 ho
    rw [Array.getElem?_toList] at hk
    have hklt:k < ops.size:=by
     rcases Nat.lt_or_ge k ops.size with h | h
     ·exact h
     ·rw [Array.getElem?_eq_none h] at hk; cases hk
    exact f4 k o t hk hd (hall k hklt)
   ·rw [if_neg (fun h => ht h.1)]
    exact f3 t ht
  rw [ha]
  exact hend x w hΦ
 ·intro i o hi e he hb
  have:=k2 i (List.mem_range.2 (by
   rcases Nat.lt_or_ge i ops.size with h | h
   ·exact h
   ·rw [Array.getElem?_eq_none h] at hi; cases hi))
  rw [hi] at this
  simp only [Option.map_some,Option.getD_some,Array.all_eq_true'] at this
  have:=this e he
  rw [hb] at this
  simpa using this
 ·refine ⟨by simp,fun _ => undef,rfl,rfl,fun _ _ => rfl,?_,?_⟩
  ·intro k ok d hk hd hL
   exfalso
   have hklt:k < ops.size:=by
    rcases Nat.lt_or_ge k ops.size with h | h
    ·exact h
    ·rw [Array.getElem?_eq_none h] at hk; cases hk
   rw [Array.getD_eq_getD_getElem?] at hL
   simp [hklt] at hL
  ·have:(fun i => (Array.replicate ops.size false).getD i false) = fun _ => false:=by
    funext i
    rw [Array.getD_eq_getD_getElem?]
    by_cases h:i < ops.size <;> simp [h]
   rw [this]
   exact h0 _
 ·exact Nat.le_trans List.countP_le_length (by simp)
theorem wp_region_eachg {id:Nat} {l:List Value} {df:List Deferred} {w0:World} (ds:List Nat) (Φ:(Nat -> Bool) -> (Nat -> Value) -> World -> Prop) (hm:P.follows .mixedOrders = true)
  (hok:okG ops l.length = true) (hds:dstsOf ops = ds) (h0:∀ x,Φ (fun _ => false) x w0.drew)
  (hstep:Each (OwedG P ops Q ⟨l.toArray,df⟩ Φ) 0 ops.toList)
  (hend:∀ x w,Φ (fun i => decide (i < ops.size)) x w -> Q .normal ⟨(fillL ds x 0 l).toArray,df⟩ w):(Code.region id ops true).wp P Q ⟨l.toArray,df⟩ w0:=by
 refine wp_region_eachg_put Φ hm (by simpa using hok) h0 hstep fun x w h => ?_
 rw [hds,fill_eq]
 exact hend x w h
end
end Go.RE
