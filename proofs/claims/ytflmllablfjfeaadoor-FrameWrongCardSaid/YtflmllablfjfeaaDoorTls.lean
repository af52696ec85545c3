import Derived.Test.YtflmllablfjfeaaDoorKit
namespace Go.Proofs.YtflmllablfjfeaaDoor
open Go.RowKit Go.HK
set_option linter.unusedVariables false
set_option linter.unusedSimpArgs false
set_option linter.unusedSectionVars false
theorem owns_mono {w:World} {base base':Nat} {e:TypeId} {size:Nat} {v:Value} {n:Nat} {xs:List Value} (h:w.ownsRow base e size v n xs) (hb:base' <= base):w.ownsRow base' e size v n xs:=by
 refine ⟨h.1,?_⟩
 rcases h.2 with h0 | ⟨g,cap,cur,rfl,hg,r⟩
 ·exact .inl h0
 ·exact .inr ⟨g,cap,cur,rfl,Nat.le_trans hb hg,r⟩
theorem own_ge {w:World} {base:Nat} {e:TypeId} {size:Nat} {v:Value} {n:Nat} {xs:List Value} (h:w.ownsRow base e size v n xs):∀ g,v.ownBlock = some g -> base <= g:=by
 intro g hg
 rcases h.2 with ⟨rfl,_⟩ | ⟨g',c,cur,rfl,hb,hh,_⟩
 ·cases hg
 ·cases hg; exact hb
theorem addr_add0 (g j:Nat):(⟨g,0,none⟩:Addr).add j = ⟨g,j,none⟩:=by
 simp [Addr.add]
 exact fun h => h.symm
theorem own_below9 {W W':World} {b e size n:Nat} {v:Value} {xs:List Value} (h:W.ownsRow b e size v n xs) (hB:Below W.heap.size W W'):W'.ownsRow b e size v n xs :=
 (Frm.of_below hB (fun _ => False)).owns h fun g _ hg => hg
theorem own_mono9 {W:World} {b b' e size n:Nat} {v:Value} {xs:List Value} (h:W.ownsRow b e size v n xs) (hb:b' <= b):W.ownsRow b' e size v n xs:=owns_mono h hb
theorem own_mono0 {W:World} {b e size n:Nat} {v:Value} {xs:List Value} (h:W.ownsRow b e size v n xs):W.ownsRow 0 e size v n xs:=owns_mono h (Nat.zero_le _)
theorem blk_up9 {W W':World} {n g:Nat} {o:Obj} (hS:Below n W W') (h:W.heap[g]? = some o) (hn:W.heap.size <= n:=by first | exact Nat.le_refl _ | omega):W'.heap[g]? = some o:=(hS.block _ (Nat.lt_of_lt_of_le (HK.blk_lt h) hn)).trans h
theorem own_form9 {w:World} {b e size n:Nat} {v:Value} {xs:List Value} (h:w.ownsRow b e size v n xs) (hn:0 < n):∃ g c,v = .slice (some ⟨g,0,none⟩) n c /\ b <= g /\ g < w.heap.size:=by
 obtain ⟨g,c,rfl,h1,h2⟩:=h.form hn
 exact ⟨g,c,rfl,h1,h2⟩
section
variable {P:Program} {w:World} {ops:Array Oper} {o:Oper} {a:Act} {Q:Exit -> Act -> World -> Prop}
theorem wp_app_any {K:Act -> World -> Prop} {t e size bytes:Nat} (E:ElemOk P t e size bytes) (s x:Operand)
  (ho:o.op = .call { callee:=.builtin .append,args:=#[s,x],argTypes:=#[t,t] }) (v:Value) (base n:Nat) (xs:List Value) (hs:a.eval s = v) (hown:w.ownsRow base e size v n xs)
  (ad:Addr) (m c:Nat) (news:List Value) (hx:a.eval x = .slice (some ad) m c) (hl:news.length = m * size) (hnews:∀ j u,news[j]? = some u -> w.cell? (ad.add j) = some u) (h1:∀ u ∈ news,u.oneCell' = true)
  (h63:n + m <= maxLen) (hbytes:(n + m) * bytes <= 140737488355328) (hbase:base <= w.heap.size)
  (h:∀ v' w',w'.ownsRow base e size v' (n + m) (xs ++ news) -> w.grownBy w' v.ownBlock -> (v' = .slice none 0 0 ↔ v = .slice none 0 0 /\ m = 0) -> (v'.ownBlock = v.ownBlock ∨ v'.ownBlock = some w.heap.size) -> K (a.put o.dst v') w'):o.wp P a w K Q:=by
 obtain ⟨ht,i,z,hi,h0,h2,h3,h4,h5⟩:=E
 obtain ⟨v',w',hr,q2,q3,q4,q5⟩:=run_append_own_at (P:=P) w base t o.type e i z size bytes ht hi h0 h2 h3 h4 h5 v n xs hown ad m c news hl hnews h1 h63 hbytes hbase
 unfold Oper.wp execOp
 simp only [ho,resolve,invoke,builtin,Sem.run_bind,Sem.run_pure,Result.andThen_ok,List.map_toArray,List.map_cons,List.map_nil,hs,hx,hr]
 exact h v' w' q2 q3 q4 q5
theorem wpList_app_any {rest:List Oper} (hgd:o.guard = none) {t e size bytes:Nat} (E:ElemOk P t e size bytes) (s x:Operand)
  (ho:o.op = .call { callee:=.builtin .append,args:=#[s,x],argTypes:=#[t,t] }) (v:Value) (base n:Nat) (xs:List Value) (hs:a.eval s = v) (hown:w.ownsRow base e size v n xs)
  (ad:Addr) (m c:Nat) (news:List Value) (hx:a.eval x = .slice (some ad) m c) (hl:news.length = m * size) (hnews:∀ j u,news[j]? = some u -> w.cell? (ad.add j) = some u) (h1:∀ u ∈ news,u.oneCell' = true)
  (h63:n + m <= maxLen) (hbytes:(n + m) * bytes <= 140737488355328) (hbase:base <= w.heap.size)
  (h:∀ v' w',w'.ownsRow base e size v' (n + m) (xs ++ news) -> w.grownBy w' v.ownBlock -> (v' = .slice none 0 0 ↔ v = .slice none 0 0 /\ m = 0) -> (v'.ownBlock = v.ownBlock ∨ v'.ownBlock = some w.heap.size) -> wpList P ops Q rest (a.put o.dst v') w'):wpList P ops Q (o :: rest) a w :=
 wpList_plain hgd fun _ hK => wp_app_any E s x ho v base n xs hs hown ad m c news hx hl hnews h1 h63 hbytes hbase fun v' w' h2 h3 h4 h5 => hK _ _ (h v' w' h2 h3 h4 h5)
end
def ints (xs:List Nat):List Value:=xs.map fun x:Nat => Value.int .i64 (x:Int)
theorem ints_one (xs:List Nat):∀ u ∈ ints xs,u.oneCell' = true:=by
 intro u hu
 rw [ints,List.mem_map] at hu
 obtain ⟨x,_,rfl⟩:=hu
 rfl
theorem ints_append (xs ys:List Nat):ints (xs ++ ys) = ints xs ++ ints ys:=by simp [ints]
theorem ints_len (xs:List Nat):(ints xs).length = xs.length:=by simp [ints]
end Go.Proofs.YtflmllablfjfeaaDoor
