import Derived.Test.YtflmllablfjfeaaDoorFrh
import Derived.Test.YtflmllablfjfeaaDoorFrp
import Derived.Test.YtflmllablfjfeaaDoorFri
import Derived.Deep.QuietTactic
import Derived.BigQuiet
import Derived.Test.YtflmllablfjfeaaDoorFrj
import Derived.Sort.CutIn
import Derived.Sort.QuietIn
namespace Go.Proofs.YtflmllablfjfeaaDoor
open Go.RowKit Go.HK Go.FR Go.HRB
set_option linter.unusedVariables false
set_option linter.unusedSimpArgs false
set_option linter.unusedSectionVars false
def LtL (l m:List Nat):Prop:=∃ d:Nat,(∀ i:Nat,i < d -> l[i]? = m[i]?) /\ ∃ a b:Nat,l[d]? = some a /\ m[d]? = some b /\ a < b
theorem LtL.ahead (p:List Nat) {l m:List Nat} (h:LtL l m):LtL (p ++ l) (p ++ m):=by
 obtain ⟨d,h1,a,b,h2,h3,h4⟩:=h
 refine ⟨p.length + d,fun i hi => ?_,a,b,?_,?_,h4⟩
 ·by_cases hp:i < p.length
  ·rw [List.getElem?_append_left hp,List.getElem?_append_left hp]
  ·rw [List.getElem?_append_right (by omega),List.getElem?_append_right (by omega)]
   exact h1 _ (by omega)
 ·rw [List.getElem?_append_right (by omega),show p.length + d - p.length = d by omega]; exact h2
 ·rw [List.getElem?_append_right (by omega),show p.length + d - p.length = d by omega]; exact h3
theorem LtL.on {l m:List Nat} (h:LtL l m) (x y:List Nat):LtL (l ++ x) (m ++ y):=by
 obtain ⟨d,h1,a,b,h2,h3,h4⟩:=h
 obtain ⟨hl,_⟩:=List.getElem?_eq_some_iff.1 h2
 obtain ⟨hm,_⟩:=List.getElem?_eq_some_iff.1 h3
 refine ⟨d,fun i hi => ?_,a,b,?_,?_,h4⟩
 ·rw [List.getElem?_append_left (by omega),List.getElem?_append_left (by omega)]; exact h1 i hi
 ·rw [List.getElem?_append_left hl]; exact h2
 ·rw [List.getElem?_append_left hm]; exact h3
theorem LtL.first {l m:List Nat} (h:LtL l m) {k a b:Nat} (he:∀ i,i < k -> l[i]? = m[i]?) (ha:l[k]? = some a) (hb:m[k]? = some b) (hne:a ≠ b):a < b:=by
 obtain ⟨d,h1,a',b',h2,h3,h4⟩:=h
 rcases Nat.lt_trichotomy d k with hd | rfl | hd
 ·have:=he d hd
  rw [h2,h3] at this
  cases this
  omega
 ·rw [ha] at h2; rw [hb] at h3; cases h2; cases h3; exact h4
 ·have:=h1 k hd
  rw [ha,hb] at this
  cases this
  exact absurd rfl hne
theorem LtL.ne {l m:List Nat} (h:LtL l m):l ≠ m:=by
 rintro rfl
 obtain ⟨d,_,a,b,h2,h3,h4⟩:=h
 rw [h2] at h3
 cases h3
 omega
def tup (T:List Nat):Nat -> List (List Nat)
 | 0 => [[]]
 | k + 1 => (tup T k).flatMap fun f => T.map fun t => f ++ [t]
theorem tup_len (T:List Nat):∀ k,(tup T k).length = T.length ^ k
 | 0 => rfl
 | k + 1 => by
  unfold tup
  rw [List.length_flatMap]
  simp only [List.length_map,List.map_const',List.sum_replicate_nat,tup_len T k]
  rw [Nat.pow_succ]
theorem tup_mem {T:List Nat}:∀ {k:Nat} {f:List Nat},f ∈ tup T k -> f.length = k /\ ∀ x ∈ f,x ∈ T
 | 0,f,h => by
  unfold tup at h
  simp only [List.mem_singleton] at h
  subst h
  exact ⟨rfl,fun x hx => by cases hx⟩
 | k + 1,f,h => by
  unfold tup at h
  rw [List.mem_flatMap] at h
  obtain ⟨g,hg,h⟩:=h
  rw [List.mem_map] at h
  obtain ⟨t,ht,rfl⟩:=h
  obtain ⟨h1,h2⟩:=tup_mem hg
  refine ⟨by simp [h1],fun x hx => ?_⟩
  rw [List.mem_append,List.mem_singleton] at hx
  rcases hx with hx | rfl
  ·exact h2 x hx
  ·exact ht
theorem tup_sorted {T:List Nat} (hT:T.Pairwise (· < ·)):∀ k,(tup T k).Pairwise LtL
 | 0 => List.pairwise_singleton _ _
 | k + 1 => by
  unfold tup
  rw [List.pairwise_flatMap]
  refine ⟨fun f _ => ?_,(tup_sorted hT k).imp fun {f g} h => ?_⟩
  ·rw [List.pairwise_map]
   exact hT.imp fun {a b} h => LtL.ahead f ⟨0,fun i hi => by omega,a,b,rfl,rfl,h⟩
  ·intro x hx y hy
   rw [List.mem_map] at hx hy
   obtain ⟨_,_,rfl⟩:=hx
   obtain ⟨_,_,rfl⟩:=hy
   exact h.on _ _
def digs (T:List Nat) (k j:Nat):List Nat:=(List.range k).map fun t => T.getD (j / T.length ^ (k - 1 - t) % T.length) 0
theorem digs_succ (T:List Nat) (k j:Nat):digs T (k + 1) j = digs T k (j / T.length) ++ [T.getD (j % T.length) 0]:=by
 unfold digs
 rw [List.range_succ,List.map_append]
 congr 1
 ·refine List.map_congr_left fun t ht => ?_
  rw [List.mem_range] at ht
  rw [Nat.div_div_eq_div_mul,show k + 1 - 1 - t = (k - 1 - t) + 1 by omega,Nat.pow_succ,Nat.mul_comm]
 ·simp
theorem flat_get {α β:Type} (c:Nat) (c0:0 < c) (f:α -> List β):∀ (l:List α),(∀ x ∈ l,(f x).length = c) -> ∀ (j:Nat) (x:α),l[j / c]? = some x -> (l.flatMap f)[j]? = (f x)[j % c]?
 | [],_,j,x,h => by simp at h
 | a :: l,hc,j,x,h => by
  rw [List.flatMap_cons]
  have ha:=hc a (by simp)
  by_cases hj:j < c
  ·rw [Nat.div_eq_of_lt hj] at h
   simp only [List.getElem?_cons_zero,Option.some.injEq] at h
   subst h
   rw [List.getElem?_append_left (by omega),Nat.mod_eq_of_lt hj]
  ·have hd:j / c = (j - c) / c + 1:=Nat.div_eq_sub_div c0 (by omega)
   rw [hd,List.getElem?_cons_succ] at h
   rw [List.getElem?_append_right (by omega),ha,flat_get c c0 f l (fun x hx => hc x (by simp [hx])) (j - c) x h]
   rw [Nat.mod_eq_sub_mod (a:=j) (b:=c) (by omega)]
theorem tup_get {T:List Nat} (h0:0 < T.length):∀ {k j:Nat},j < T.length ^ k -> (tup T k)[j]? = some (digs T k j)
 | 0,j,h => by
  obtain rfl:j = 0:=by simpa using h
  rfl
 | k + 1,j,h => by
  have hj:j / T.length < T.length ^ k:=by
   rw [Nat.div_lt_iff_lt_mul h0,<- Nat.pow_succ]; exact h
  have ih:=tup_get h0 hj
  unfold tup
  rw [flat_get T.length h0 _ _ (fun x _ => by simp) j _ ih,digs_succ,List.getElem?_map,List.getElem?_eq_getElem (Nat.mod_lt _ h0)]
  simp [List.getD_eq_getElem?_getD,List.getElem?_eq_getElem (Nat.mod_lt j h0)]
def numF (T:List Nat) (f:List Nat):Nat:=f.foldl (fun a x => a * T.length + T.idxOf x) 0
theorem numF_on (T:List Nat) (f:List Nat) (x:Nat):numF T (f ++ [x]) = numF T f * T.length + T.idxOf x:=by simp [numF,List.foldl_append]
theorem idx_getD {T:List Nat} (hT:T.Pairwise (· < ·)) {a:Nat} (ha:a < T.length):T.idxOf (T.getD a 0) = a:=by
 have hn:T.Nodup:=hT.imp fun h => Nat.ne_of_lt h
 rw [List.getD_eq_getElem?_getD,List.getElem?_eq_getElem ha,Option.getD_some]
 exact hn.idxOf_getElem a ha
theorem numF_digs {T:List Nat} (hT:T.Pairwise (· < ·)) (h0:0 < T.length):∀ {k j:Nat},j < T.length ^ k -> numF T (digs T k j) = j
 | 0,j,h => by
  obtain rfl:j = 0:=by simpa using h
  rfl
 | k + 1,j,h => by
  have hj:j / T.length < T.length ^ k:=by
   rw [Nat.div_lt_iff_lt_mul h0,<- Nat.pow_succ]; exact h
  rw [digs_succ,numF_on,numF_digs hT h0 hj,idx_getD hT (Nat.mod_lt _ h0)]
  exact Nat.div_add_mod' j T.length
theorem truths_sorted (force:Bool) (rel:List Nat) (k:Nat):(truthsK force rel k).Pairwise (· < ·):=(List.pairwise_lt_range (n:=k)).filter _
theorem relsD_sorted (force:Bool) (m n:Nat):∀ (d:Nat) (rel:List Nat),d <= n -> rel.length = n -> (relsD force m n d rel).Pairwise LtL /\ ∀ x ∈ relsD force m n d rel,x.length = n /\ ∀ i,i < n - d -> x[i]? = rel[i]?
 | 0,rel,hd,hl => by
  unfold relsD
  refine ⟨List.pairwise_singleton _ _,fun x hx => ?_⟩
  rw [List.mem_singleton] at hx
  subst hx
  exact ⟨hl,fun _ _ => rfl⟩
 | d + 1,rel,hd,hl => by
  have ih:=fun s => relsD_sorted force m n d (rel.set (n - (d + 1)) s) (by omega) (by rw [List.length_set]; exact hl)
  have hin:∀ s x,x ∈ (if suitsB force m (rel.set (n - (d + 1)) s) (n - (d + 1)) = true then relsD force m n d (rel.set (n - (d + 1)) s) else []) -> x.length = n /\ x[n - (d + 1)]? = some s /\ ∀ i,i < n - (d + 1) -> x[i]? = rel[i]?:=by
   intro s x hx
   split at hx
   ·obtain ⟨h1,h2⟩:=(ih s).2 x hx
    refine ⟨h1,?_,fun i hi => ?_⟩
    ·rw [h2 _ (by omega),List.getElem?_set_self (by omega)]
    ·rw [h2 i (by omega),List.getElem?_set_ne (by omega)]
   ·cases hx
  unfold relsD
  refine ⟨?_,fun x hx => ?_⟩
  ·rw [List.pairwise_flatMap]
   refine ⟨fun s _ => ?_,(List.pairwise_lt_range (n:=2 ^ n)).imp fun {s u} hsu x hx y hy => ?_⟩
   ·split
    ·exact (ih s).1
    ·exact List.Pairwise.nil
   ·obtain ⟨_,hx1,hx2⟩:=hin s x hx
    obtain ⟨_,hy1,hy2⟩:=hin u y hy
    exact ⟨n - (d + 1),fun i hi => by rw [hx2 i hi,hy2 i hi],s,u,hx1,hy1,hsu⟩
  ·rw [List.mem_flatMap] at hx
   obtain ⟨s,_,hx⟩:=hx
   obtain ⟨h1,_,h3⟩:=hin s x hx
   exact ⟨h1,h3⟩
theorem rels_sorted (force:Bool) (m n:Nat):(relsL force m n).Pairwise LtL:=(relsD_sorted force m n n _ (Nat.le_refl _) (by simp)).1
theorem rels_len {force:Bool} {m n:Nat} {x:List Nat} (h:x ∈ relsL force m n):x.length = n:=((relsD_sorted force m n n _ (Nat.le_refl _) (by simp)).2 x h).1
theorem relsD_ok (force:Bool) (m n:Nat):∀ (d:Nat) (rel x:List Nat),d <= n -> rel.length = n -> FrOk rel -> x ∈ relsD force m n d rel -> FrOk x /\ (1 <= d -> suitsB force m x (n - 1) = true)
 | 0,rel,x,hd,hl,hr,hx => by
  unfold relsD at hx
  rw [List.mem_singleton] at hx
  subst hx
  exact ⟨hr,fun h => by omega⟩
 | d + 1,rel,x,hd,hl,hr,hx => by
  unfold relsD at hx
  rw [List.mem_flatMap] at hx
  obtain ⟨s,hs,hx⟩:=hx
  rw [List.mem_range] at hs
  split at hx
  ·rename_i hsu
   obtain ⟨h1,h2⟩:=relsD_ok force m n d (rel.set (n - (d + 1)) s) x (by omega) (by rw [List.length_set]; exact hl) (frok_set hr (by rw [hl]; exact hs)) hx
   refine ⟨h1,fun _ => ?_⟩
   rcases Nat.eq_zero_or_pos d with rfl | hd0
   ·unfold relsD at hx
    rw [List.mem_singleton] at hx
    subst hx
    exact hsu
   ·exact h2 hd0
  ·cases hx
theorem rels_ok {force:Bool} {m n:Nat} (h4:n <= 4) (h1:1 <= n) {x:List Nat} (h:x ∈ relsL force m n):FrOk x /\ suitsB force m x (n - 1) = true:=by
 obtain ⟨a,b⟩:=relsD_ok force m n n _ x (Nat.le_refl _) (by simp) (replicate_ok n h4) h
 exact ⟨a,b h1⟩
def chunk (force:Bool) (n k:Nat) (rel:List Nat):List (List Nat):=(tup (truthsK force rel (2 ^ n)) k).map (rel ++ ·)
def allE (force:Bool) (m n k:Nat):List (List Nat):=(relsL force m n).flatMap (chunk force n k)
theorem allE_sorted (force:Bool) (m n k:Nat):(allE force m n k).Pairwise LtL:=by
 unfold allE
 rw [List.pairwise_flatMap]
 refine ⟨fun rel _ => ?_,(rels_sorted force m n).imp fun {r u} h x hx y hy => ?_⟩
 ·unfold chunk
  rw [List.pairwise_map]
  exact (tup_sorted (truths_sorted _ _ _) k).imp fun h => h.ahead _
 ·unfold chunk at hx hy
  rw [List.mem_map] at hx hy
  obtain ⟨_,_,rfl⟩:=hx
  obtain ⟨_,_,rfl⟩:=hy
  exact h.on _ _
def pick (W:List Nat -> Nat):List (List Nat) -> Nat -> Option (List Nat × Nat)
 | [],_ => none
 | r :: L,i => if W r <= i then pick W L (i - W r) else some (r,i)
def sumW (W:List Nat -> Nat) (L:List (List Nat)):Nat:=(L.map W).sum
theorem pick_some {W:List Nat -> Nat}:∀ {L:List (List Nat)} {i:Nat} {r:List Nat} {j:Nat},pick W L i = some (r,j) -> ∃ pre post,L = pre ++ r :: post /\ i = sumW W pre + j /\ j < W r
 | [],i,r,j,h => by cases h
 | q :: L,i,r,j,h => by
  unfold pick at h
  split at h
  ·rename_i hle
   obtain ⟨pre,post,h1,h2,h3⟩:=pick_some h
   refine ⟨q :: pre,post,by rw [h1]; rfl,?_,h3⟩
   simp only [sumW,List.map_cons,List.sum_cons] at h2 ⊢
   omega
  ·rename_i hle
   cases h
   exact ⟨[],L,rfl,by simp [sumW],by omega⟩
theorem pick_none {W:List Nat -> Nat}:∀ {L:List (List Nat)} {i:Nat},pick W L i = none ↔ sumW W L <= i
 | [],i => by simp [pick,sumW]
 | q :: L,i => by
  unfold pick
  have ih:=pick_none (W:=W) (L:=L) (i:=i - W q)
  simp only [sumW,List.map_cons,List.sum_cons] at ih ⊢
  split
  ·rw [ih]; omega
  ·constructor
   ·intro h; cases h
   ·intro h; omega
theorem pick_on {W:List Nat -> Nat}:∀ {pre:List (List Nat)} {L:List (List Nat)} {i:Nat},sumW W pre <= i -> pick W (pre ++ L) i = pick W L (i - sumW W pre)
 | [],L,i,h => by simp [sumW]
 | q :: pre,L,i,h => by
  simp only [sumW,List.map_cons,List.sum_cons] at h
  show (if W q <= i then pick W (pre ++ L) (i - W q) else some (q,i)) = _
  rw [if_pos (by omega),pick_on (by simp only [sumW]; omega)]
  simp only [sumW,List.map_cons,List.sum_cons,Nat.sub_sub]
def numE (force:Bool) (m n k:Nat) (rel f:List Nat):Nat:=sumW (waysR force n k) ((relsL force m n).takeWhile (· ≠ rel)) + numF (truthsK force rel (2 ^ n)) f
structure NthOk (force:Bool) (m n k i:Nat) (rel f:List Nat):Prop where
 mem:rel ∈ relsL force m n
 len:f.length = k
 fact:∀ x ∈ f,x ∈ truthsK force rel (2 ^ n)
 at_:(allE force m n k)[i]? = some (rel ++ f)
 num:numE force m n k rel f = i
theorem flat_at {f:List Nat -> List (List Nat)} {W:List Nat -> Nat}:∀ {pre:List (List Nat)} {r:List Nat} {post:List (List Nat)} {j:Nat},(∀ x ∈ pre,(f x).length = W x) -> j < (f r).length -> ((pre ++ r :: post).flatMap f)[sumW W pre + j]? = (f r)[j]?
 | [],r,post,j,h,hj => by
  simp only [List.nil_append,List.flatMap_cons,sumW,List.map_nil,List.sum_nil,Nat.zero_add]
  rw [List.getElem?_append_left hj]
 | q :: pre,r,post,j,h,hj => by
  rw [List.cons_append,List.flatMap_cons]
  have hq:=h q (by simp)
  simp only [sumW,List.map_cons,List.sum_cons]
  rw [List.getElem?_append_right (by omega),hq,show W q + (List.map W pre).sum + j - W q = sumW W pre + j by simp only [sumW]; omega]
  exact flat_at (fun x hx => h x (by simp [hx])) hj
theorem sumK_sumW (force:Bool) (n k:Nat) (L:List (List Nat)):sumK force n k L = sumW (waysR force n k) L:=rfl
theorem sumW_le {W:List Nat -> Nat}:∀ {L:List (List Nat)} {x:List Nat},x ∈ L -> W x <= sumW W L
 | [],x,h => by cases h
 | q :: L,x,h => by
  simp only [sumW,List.map_cons,List.sum_cons]
  rcases List.mem_cons.1 h with rfl | h
  ·omega
  ·have:=sumW_le (W:=W) h
   simp only [sumW] at this
   omega
theorem ways_eq {force:Bool} {m n k:Nat} (hc:countS force m n k = countS force m n k) {x:List Nat} (hs:sumK force n k (relsL force m n) <= 16384) (hx:x ∈ relsL force m n):waysR force n k x = (truthsK force x (2 ^ n)).length ^ k:=by
 have h:=sumW_le (W:=waysR force n k) hx
 rw [<- sumK_sumW] at h
 unfold waysR powC at h ⊢
 omega
theorem nth_ok {force:Bool} {m n k i:Nat} {rel:List Nat} {j:Nat} (hs:sumK force n k (relsL force m n) <= 16384) (hp:pick (waysR force n k) (relsL force m n) i = some (rel,j)):NthOk force m n k i rel (digs (truthsK force rel (2 ^ n)) k j):=by
 obtain ⟨pre,post,hL,hi,hj⟩:=pick_some hp
 have hmem:rel ∈ relsL force m n:=by rw [hL]; simp
 have hw:∀ x ∈ relsL force m n,waysR force n k x = (truthsK force x (2 ^ n)).length ^ k:=fun x hx => ways_eq rfl hs hx
 have h0:=truths_pos force rel n
 have hjl:j < (truthsK force rel (2 ^ n)).length ^ k:=by rw [<- hw rel hmem]; exact hj
 have hg:=tup_get (T:=truthsK force rel (2 ^ n)) (by omega) hjl
 obtain ⟨hm1,hm2⟩:=tup_mem (List.mem_of_getElem? hg)
 refine ⟨hmem,hm1,hm2,?_,?_⟩
 ·unfold allE
  rw [hL,hi,flat_at (W:=waysR force n k) (fun x hx => by unfold chunk; rw [List.length_map,tup_len,hw x (by rw [hL]; simp [hx])]) (by unfold chunk; rw [List.length_map,tup_len]; exact hjl)]
  unfold chunk
  rw [List.getElem?_map,hg]
  rfl
 ·unfold numE
  rw [numF_digs (truths_sorted _ _ _) (by omega) hjl,hi]
  congr 1
  have hs2:=rels_sorted force m n
  rw [hL] at hs2 ⊢
  rw [List.pairwise_append] at hs2
  rw [List.takeWhile_append_of_pos (fun x hx => by have:=(hs2.2.2 x hx rel (by simp)).ne; simpa using this)]
  simp
theorem nth_order {force:Bool} {m n k i j:Nat} {r u f g:List Nat} (hi:NthOk force m n k i r f) (hj:NthOk force m n k j u g):(i < j -> LtL (r ++ f) (u ++ g)) /\ (i = j -> r ++ f = u ++ g):=by
 constructor
 ·intro h
  have hp:=List.pairwise_iff_getElem.1 (allE_sorted force m n k)
  obtain ⟨a1,a2⟩:=List.getElem?_eq_some_iff.1 hi.at_
  obtain ⟨b1,b2⟩:=List.getElem?_eq_some_iff.1 hj.at_
  have:=hp i j a1 b1 h
  rwa [a2,b2] at this
 ·rintro rfl
  have:=hi.at_.symm.trans hj.at_
  simpa using this
theorem sublist_flat {α β:Type} {f g:α -> List β}:∀ {l:List α},(∀ a ∈ l,(f a).Sublist (g a)) -> (l.flatMap f).Sublist (l.flatMap g)
 | [],_ => List.Sublist.refl _
 | a :: l,h => by
  rw [List.flatMap_cons,List.flatMap_cons]
  exact (h a (by simp)).append (sublist_flat fun x hx => h x (by simp [hx]))
theorem sublist_sum {W:List Nat -> Nat} {l m:List (List Nat)} (h:l.Sublist m):sumW W l <= sumW W m:=by
 induction h with
 | slnil => exact Nat.le_refl _
 | cons a _ ih => simp only [sumW,List.map_cons,List.sum_cons] at ih ⊢; omega
 | cons_cons a _ ih => simp only [sumW,List.map_cons,List.sum_cons] at ih ⊢; omega
end Go.Proofs.YtflmllablfjfeaaDoor
namespace Go.Proofs.YtflmllablfjfeaaDoor
open Go.RowKit Go.HK Go.FR
set_option linter.unusedVariables false
set_option linter.unusedSimpArgs false
set_option linter.unusedSectionVars false
theorem bl_drN6 {B:Nat} {a w:World} (h:Below B a w) (n:Nat):Below B a (w.drewN n):=⟨h.os,h.tape,h.output,h.size,h.block⟩
set_option maxRecDepth 100000 in
set_option maxHeartbeats 2000000 in
theorem eq_call (w:World) (s t:SL) (xs ys:List Int) {S T:Nat -> Prop} (hs:IsZs S w s xs) (ht:IsZs T w t ys) (hl:xs.length <= 4611686018427387904) :
  Calls Tryd.prog 61 #[s.v,t.v] w (RetW w (decide (xs = ys))):=by
 obtain ⟨sa,n,sc⟩:=s
 obtain ⟨ta,m,tc⟩:=t
 have h1:=hs.1
 have h2:=ht.1
 simp only [SL.v] at h1 h2 ⊢
 by_cases hnm:n = m
 ·have HS:=Lib.hid hs
  have HT:=Lib.hid ht
  have H1:=Lib.hid h1
  have H2:Hid (n = ys.length):=Lib.hid (by rw [hnm]; exact h2)
  subst hnm
  obtain ⟨rb,hrb⟩:∃ rb,rb = decide (xs = ys):=⟨_,rfl⟩
  rw [<- hrb]
  have HRB:=Lib.hid hrb
  have hn63:n <= 4611686018427387904:=by omega
  clear hs ht h1 h2 hrb hl
  go_enter Tryd.func61,Tryd.ntmps61
  go_wp2_with (fail)
  go_loopw [13] (fun i wr => ∃ k d:Nat,k <= n /\ i = .int .i64 k /\ xs.take k = ys.take k /\ wr = w.drewN d) (fun i _ => n - (intOf i).toNat)
  case atStart => exact ⟨0,0,Nat.zero_le _,rfl,rfl,rfl⟩
  case round =>
   obtain ⟨k,d,hkn,rfl,htk,rfl⟩:=hrel
   have HTK:=Lib.hid htk
   clear htk
   by_cases hlt:k < n
   ·obtain ⟨x,hx⟩:∃ x,xs[k]? = some x:=⟨_,List.getElem?_eq_getElem (by have:=H1.out; omega)⟩
    obtain ⟨y,hy⟩:∃ y,ys[k]? = some y:=⟨_,List.getElem?_eq_getElem (by have:=H2.out; omega)⟩
    obtain ⟨g,o,rfl,_,cx⟩:=HS.out.2 k x hx
    obtain ⟨g',o',rfl,_,cy⟩:=HT.out.2 k y hy
    have b0:(0:Int) <= (k:Int):=by omega
    have b1:(k:Int) < (n:Int):=by omega
    by_cases hxy:x = y
    ·have HN:Hid (xs.take (k + 1) = ys.take (k + 1)):=Lib.hid (by rw [take_one hx,take_one hy,HTK.out,hxy])
     have e1:(x != y) = false:=by simpa using hxy
     clear hx hy hxy
     go_wp2_with (fail)
     go_quiet (fail)
     go_wp2_with (fail)
     go_roundw
     case rel => exact ⟨k + 1,d + nq,by omega,by go_num,HN.out,rfl⟩
     case measure => simp [intOf]; omega
    ·have HN:Hid (rb = false):=Lib.hid (by
      rw [HRB.out]
      exact decide_eq_false fun e => hxy (by rw [e,hy] at hx; exact (Option.some.inj hx).symm))
     have e1:(x != y) = true:=by simpa using hxy
     clear hx hy hxy
     go_wp2_with (fail)
     go_quiet (fail)
     go_wp2_with (fail)
     go_ret
     exact ⟨by rw [HN.out]; rfl,bl_drN6 (bl_drN6 (Below.refl _ _) _) _⟩
   ·have HN:Hid (rb = true):=Lib.hid (by
     rw [HRB.out]
     have:=HTK.out
     rw [List.take_of_length_le (by have:=H1.out; omega),List.take_of_length_le (by have:=H2.out; omega)] at this
     exact decide_eq_true this)
    go_wp2_with (fail)
    go_ret
    exact ⟨by rw [HN.out]; rfl,bl_drN6 (Below.refl _ _) _⟩
 ·have hne:decide (xs = ys) = false:=decide_eq_false fun e => hnm (by rw [h1,h2,e])
  rw [hne]
  have e1:((n:Int) != (m:Int)) = true:=by simp; omega
  have e2:¬ (n:Int) = (m:Int):=by omega
  clear hs ht h1 h2 hne
  go_enter Tryd.func61,Tryd.ntmps61
  go_wp2_with (fail)
  go_ret
  exact ⟨rfl,Below.refl _ _⟩
theorem idx_min {x:Nat}:∀ {l:List Nat} {j:Nat},j < l.idxOf x -> l[j]? ≠ some x
 | [],j,h => by simp
 | a :: l,j,h => by
  rw [List.idxOf_cons] at h
  by_cases e:a = x
  ·simp [e] at h
  ·have hf:(a == x) = false:=by simpa using e
   simp only [hf,cond_false,Bool.false_eq_true,if_false] at h
   cases j with
   | zero => simp [e]
   | succ j => simpa using idx_min (l:=l) (j:=j) (by omega)
set_option maxRecDepth 100000 in
set_option maxHeartbeats 2000000 in
theorem idx_call (w:World) (g o n c:Nat) (xs:List Nat) (hX:IsR w g o xs) (hn:xs.length = n) (hle:n <= 4611686018427387904) (x:Nat) (hx:x ∈ xs) :
  Calls Tryd.prog 62 #[.slice (some ⟨g,o,none⟩) n c,.int .i64 (x:Int)] w fun e w' => e = .returned (.int .i64 ((xs.idxOf x:Nat):Int)) /\ w' = w:=by
 have hi:=List.idxOf_lt_length_iff.2 hx
 have hgi:=List.getElem_idxOf hi
 obtain ⟨d,hd⟩:∃ d,d = xs.idxOf x:=⟨_,rfl⟩
 have hmin:∀ j,j < d -> xs[j]? ≠ some x:=fun j hj => idx_min (by rw [<- hd]; exact hj)
 have hat:xs[d]? = some x:=by rw [List.getElem?_eq_some_iff]; subst hd; exact ⟨hi,hgi⟩
 rw [<- hd] at hi ⊢
 have HX:=Lib.hid hX
 have HN:=Lib.hid hn
 have HM:=Lib.hid hmin
 have HA:=Lib.hid hat
 have hdn:d < n:=by omega
 clear hX hn hmin hat hd hgi hi hx
 go_enter Tryd.func62,Tryd.ntmps62
 go_wp2_with (fail)
 go_loopw [8] (fun i wr => ∃ k:Nat,k <= d /\ i = .int .i64 k /\ wr = w) (fun i _ => n - (intOf i).toNat)
 case atStart => exact ⟨0,Nat.zero_le _,rfl,rfl⟩
 case round =>
  obtain ⟨k,hkd,rfl,rfl⟩:=hrel
  have b0:(0:Int) <= (k:Int):=by omega
  have b1:(k:Int) < (n:Int):=by omega
  obtain ⟨y,hy⟩:∃ y,xs[k]? = some y:=⟨_,List.getElem?_eq_getElem (by have:=HN.out; omega)⟩
  have cy:=HX.out k y hy
  by_cases hk:k = d
  ·subst hk
   obtain rfl:x = y:=by have:=HA.out; rw [hy] at this; exact (Option.some.inj this).symm
   clear hy
   go_wp2_with (fail)
   go_ret
   exact ⟨rfl,rfl⟩
  ·have hne:¬ x = y:=fun e => HM.out k (by omega) (by rw [hy,e])
   have e1:((x:Int) == (y:Int)) = false:=by simp; omega
   have e2:¬ (x:Int) = (y:Int):=by omega
   have hk1:k + 1 <= d:=by omega
   clear hy hne
   go_wp2_with (fail)
   go_roundw
   case rel => exact ⟨k + 1,hk1,by go_num,trivial⟩
   case measure => simp [intOf]; omega
end Go.Proofs.YtflmllablfjfeaaDoor
namespace Go.Proofs.YtflmllablfjfeaaDoor
open Go.RowKit Go.HK Go.FR Go.HRB
set_option linter.unusedVariables false
set_option linter.unusedSimpArgs false
set_option linter.unusedSectionVars false
attribute [local go_sem] Oper.semAt_some wide_fn asked_wide wide_depth
def MV (kind n g o cr:Nat) (hf hu hb:SL):Value:=.agg #[.int .u8 (kind:Int),.int .i64 (n:Int),.slice (some ⟨g,o,none⟩) n cr,.int .i64 0,hf.v,hu.v,hb.v]
theorem isZs_of {W:World} {g o n c:Nat} {xs:List Nat} (h:IsR W g o xs) (hn:xs.length = n):IsZs (fun _ => True) W ⟨some ⟨g,o,none⟩,n,c⟩ (xs.map fun x:Nat => (x:Int)) :=
 ⟨by simp [hn],fun i x hx => ⟨g,o,rfl,trivial,h.z i x hx⟩⟩
theorem ways_le (force:Bool) (n k:Nat) (x:List Nat):waysR force n k x <= 16385:=powC_le _ _
theorem ways_pos (force:Bool) (n k:Nat) (x:List Nat):1 <= waysR force n k x:=by
 have h:=truths_pos force x n
 unfold waysR powC
 have:=Nat.one_le_pow k _ h
 omega
theorem sum_small (force:Bool) (n k:Nat):∀ pre:List (List Nat),sumK force n k pre <= 16385 * pre.length
 | [] => by simp [sumK]
 | x :: pre => by
  have h1:=sum_small force n k pre
  have h2:=ways_le force n k x
  simp only [sumK,List.map_cons,List.sum_cons,List.length_cons] at h1 ⊢
  omega
theorem sum_many (force:Bool) (n k:Nat):∀ pre:List (List Nat),pre.length <= sumK force n k pre
 | [] => by simp [sumK]
 | x :: pre => by
  have h1:=sum_many force n k pre
  have h2:=ways_pos force n k x
  simp only [sumK,List.map_cons,List.sum_cons,List.length_cons] at h1 ⊢
  omega
theorem numF_lt {T:List Nat}:∀ {f:List Nat},(∀ x ∈ f,x ∈ T) -> ∀ a,a * T.length ^ f.length + (f.foldl (fun a x => a * T.length + T.idxOf x) 0) < (a + 1) * T.length ^ f.length /\ f.foldl (fun a x => a * T.length + T.idxOf x) a = a * T.length ^ f.length + (f.foldl (fun a x => a * T.length + T.idxOf x) 0)
 | [],_,a => by simp
 | x :: f,h,a => by
  have hx:=List.idxOf_lt_length_iff.2 (h x (by simp))
  have ih:=numF_lt (f:=f) fun y hy => h y (by simp [hy])
  simp only [List.foldl_cons,List.length_cons,Nat.zero_mul,Nat.zero_add]
  obtain ⟨_,e1⟩:=ih (a * T.length + T.idxOf x)
  obtain ⟨h2,e2⟩:=ih (T.idxOf x)
  rw [e1,e2]
  have h3:(T.idxOf x + 1) * T.length ^ f.length <= T.length * T.length ^ f.length:=Nat.mul_le_mul_right _ hx
  have e4:a * T.length ^ (f.length + 1) = a * T.length * T.length ^ f.length:=by rw [Nat.pow_succ,Nat.mul_assoc,Nat.mul_comm (T.length ^ f.length)]
  have e5:(a + 1) * T.length ^ (f.length + 1) = a * T.length * T.length ^ f.length + T.length * T.length ^ f.length:=by rw [Nat.pow_succ,Nat.add_mul,Nat.one_mul,Nat.mul_comm (T.length ^ f.length),<- Nat.mul_assoc]
  rw [e4,e5,Nat.add_mul]
  omega
theorem numF_small {T:List Nat} {f:List Nat} (h:∀ x ∈ f,x ∈ T):numF T f < T.length ^ f.length:=by
 have:=(numF_lt h 0).1
 simp only [Nat.zero_mul,Nat.zero_add,Nat.one_mul] at this
 exact this
def factN (facts:List (ByteArray × Int × Int)):List Nat:=facts.map fun f => f.2.2.toNat
structure NuI (wb:World) (B6:Nat) (MO:Obj) (S:Nat) (W:World):Prop where
 hm:W.heap[wb.heap.size]? = some MO
 hs:W.heap[B6]? = some (.cells #[.int .i64 (S:Int)] 3 (0,0))
 hB:Below wb.heap.size wb W
 hz:B6 + 4 <= W.heap.size
theorem NuI.turn {wb:World} {B6 S b:Nat} {MO:Obj} {A C:World} (h:NuI wb B6 MO S A) (hlt:wb.heap.size < B6) (hb:b = B6 + 7) (ht:Turn b (B6 + 4) A C):NuI wb B6 MO S C where
 hm:=ht.same _ _ h.hm (by omega) (.inl (by omega))
 hs:=ht.same _ _ h.hs (by omega) (.inl (by omega))
 hB:=⟨ht.os.trans h.hB.os,ht.tape.trans h.hB.tape,ht.output.trans h.hB.output,Nat.le_trans h.hB.size ht.size,fun k hk => by
  have hlt:=Nat.lt_of_lt_of_le hk h.hB.size
  have:=ht.same k A.heap[k] (Array.getElem?_eq_getElem hlt) (by omega) (.inl (by omega))
  rw [this,<- Array.getElem?_eq_getElem hlt]
  exact h.hB.block k hk⟩
 hz:=Nat.le_trans h.hz ht.size
def NuS (force:Bool) (n names:Nat) (rel:List Nat) (wb:World) (B6:Nat) (MO:Obj) (pre:List (List Nat)) (W:World):Prop:=rel ∉ pre /\ NuI wb B6 MO (sumK force n names pre) W
def NuX (force:Bool) (n names:Nat) (rel fs:List Nat) (wb:World) (B6:Nat) (MO:Obj) (c:Code) (pre:List (List Nat)) (W:World):Prop :=
 c = .exit 0 /\ ∃ p,pre = p ++ [rel] /\ rel ∉ p /\ NuI wb B6 MO (sumK force n names p + numF (truthsK force rel (2 ^ n)) fs) W
theorem numE_of {force:Bool} {m n k:Nat} {rel f:List Nat} {p:List (List Nat)} (hp:p ++ [rel] <+: relsL force m n) (hn:rel ∉ p):numE force m n k rel f = sumK force n k p + numF (truthsK force rel (2 ^ n)) f:=by
 obtain ⟨r,hr⟩:=hp
 unfold numE
 rw [<- hr,List.append_assoc,List.takeWhile_append_of_pos (fun x hx => by
  have:x ≠ rel:=fun e => hn (e ▸ hx)
  simpa using this)]
 simp [sumK_sumW]
theorem wrap_add (m y:Nat) (h:m <= 1000000000) (h2:y <= 1000000000):IntKind.i64.wrap ((m:Int) + (y:Int)) = ((m + y:Nat):Int):=by rw [Int.natCast_add]; exact IntWalk.i64_in _ (by omega)
theorem wrap_mul (a t m:Nat) (e:m = a * t) (h:m <= 1000000000):IntKind.i64.wrap ((a:Int) * (t:Int)) = (m:Int):=by subst e; rw [<- Int.natCast_mul]; exact IntWalk.i64_in _ (by omega)
def NuSafe (B6:Nat) (W:World) (k:Nat):Prop:=k < W.heap.size /\ k ≠ B6
set_option maxRecDepth 100000 in
set_option maxHeartbeats 8000000 in
theorem number_aux (k:Nat) (hk4:4 <= k) (wb:World) (kind n mask g o cr:Nat) (hf hu hb:SL) (rel:List Nat) (facts:List (ByteArray × Int × Int)) 
  (hkd:kind < 256) (hmask:mask < 256) (h1:1 <= n) (h4:n <= 4) (hok:FrOk rel) (hn:rel.length = n) (hg:g < wb.heap.size) (hR:IsR wb g o rel) (hF:IsFz (fun j => j < wb.heap.size) wb hf facts) (hL:facts.length <= 1000000000)
  (hV:∀ W,Below wb.heap.size wb W -> Calls Tryd.prog 18 #[MV kind n g o cr hf hu hb] W (RetW W true))
  (hwr:wrongB kind mask (n:Int) = false) (hsu:suitsB (decide (kind = 3)) mask rel (n - 1) = true) (hct:countS (decide (kind = 3)) mask facts.length n <= 16384)
  (hfk:∀ f ∈ facts,∃ x:Nat,f.2.2 = (x:Int) /\ x ∈ truthsK (decide (kind = 3)) rel (2 ^ n)) (hmem:rel ∈ relsL (decide (kind = 3)) mask n) :
  CallsIn Fence.wide k Tryd.prog 34 #[MV kind n g o cr hf hu hb,.int .u8 (mask:Int)] wb (fun e w' => e = .returned (.tuple #[.int .i64 ((numE (decide (kind = 3)) mask n facts.length rel (factN facts):Nat):Int),.int .i64 0]) /\ Below wb.heap.size wb w'):=by
 obtain ⟨fa,fn,fc⟩:=hf
 obtain ⟨ua,un,uc⟩:=hu
 obtain ⟨ba,bn,bc⟩:=hb
 have hfn:fn = facts.length:=hF.1
 obtain ⟨nI,hnI⟩:∃ z:Int,z = (n:Int) - 1:=⟨_,rfl⟩
 have hsum:sumK (decide (kind = 3)) n facts.length (relsL (decide (kind = 3)) mask n) <= 16384:=by unfold countS at hct; omega
 have hwr2:=fun w => wrong_call w kind mask (n:Int) hkd hmask (by omega)
 rw [hwr] at hwr2
 have HV:Hid (∀ W,Below wb.heap.size wb W -> Calls Tryd.prog 18 #[MV kind n g o cr ⟨fa,fn,fc⟩ ⟨ua,un,uc⟩ ⟨ba,bn,bc⟩] W (RetW W true)):=Lib.hid hV
 have HWR:=Lib.hid hwr2
 have HSU:Hid (∀ W,Below wb.heap.size wb W -> Calls Tryd.prog 42 #[.int .u8 (kind:Int),.int .u8 (mask:Int),.slice (some ⟨g,o,none⟩) n cr,.int .i64 nI] W (RetB W true)):=Lib.hid fun W hB => by
  rw [hnI,show (n:Int) - 1 = ((n - 1:Nat):Int) by omega,<- hsu]
  exact suits_call W g o n cr rel (hR.below hB) hn hok kind mask (n - 1) hmask (by omega)
 have HCT:Hid (∀ W,Calls Tryd.prog 57 #[.int .u8 (kind:Int),.int .u8 (mask:Int),.int .i64 (fn:Int),.int .i64 (n:Int)] W (RetN W (countS (decide (kind = 3)) mask facts.length n))):=Lib.hid fun W => by
  rw [hfn]; exact count_call W kind mask facts.length n hkd hmask h4 (by omega)
 have HRL:=Lib.hid fun W => relations_call W kind mask n
 have HFN:=Lib.hid hfn
 have HNI:=Lib.hid hnI
 have HSUM:=Lib.hid hsum
 have HR:=Lib.hid hR
 have HF:=Lib.hid hF
 have HFK:=Lib.hid hfk
 have HMEM:=Lib.hid hmem
 have HOK:=Lib.hid hok
 have HNN:=Lib.hid hn
 have HKD:=Lib.hid hkd
 have hfn9:fn <= 1000000000:=by rw [hfn]; exact hL
 clear hfn hnI hsum hR hF hfk hmem hok hn hL
 unfold MV at HV ⊢
 simp only [SL.v] at HV ⊢
 clear hV hwr2 hwr hsu
 refine callsIn_of_wp_marks Tryd.func34 rfl trivial ?_ rfl
 simp only [Tryd.ntmps34,List.size_toArray,List.length_cons,List.length_nil,Nat.reduceAdd,Nat.reduceSub,Array.replicate_succ,Array.replicate_zero,List.push_toArray,List.append_toArray,List.nil_append,List.cons_append]
 obtain ⟨A0,hA0⟩:∃ A,A = wb.alloc (.cells #[.int .u8 (kind:Int),.int .i64 (n:Int),.slice (some ⟨g,o,none⟩) n cr,.int .i64 0,.slice fa fn fc,.slice ua un uc,.slice ba bn bc] 30):=⟨_,rfl⟩
 have hb0:Below wb.heap.size wb A0:=by rw [hA0]; exact (Below.refl _ wb).alloc (Nat.le_refl _) _
 have hm0:A0.heap[wb.heap.size]? = some (.cells #[.int .u8 (kind:Int),.int .i64 (n:Int),.slice (some ⟨g,o,none⟩) n cr,.int .i64 0,.slice fa fn fc,.slice ua un uc,.slice ba bn bc] 30 (0,0)):=by rw [hA0]; exact HK.blk_new _ _
 have hz0:wb.heap.size < A0.heap.size:=HK.blk_lt hm0
 have HB0:Hid (∀ W,Below A0.heap.size A0 W -> Below wb.heap.size wb W /\ W.heap[wb.heap.size]? = some (.cells #[.int .u8 (kind:Int),.int .i64 (n:Int),.slice (some ⟨g,o,none⟩) n cr,.int .i64 0,.slice fa fn fc,.slice ua un uc,.slice ba bn bc] 30 (0,0))):=Lib.hid fun W h => ⟨hb0.trans (h.mono (Nat.le_of_lt hz0)),(h.block _ hz0).trans hm0⟩
 have HA0:Hid (Below A0.heap.size A0 A0):=Lib.hid (Below.refl _ _)
 have HZ0:=Lib.hid hz0
 have c0:=fun i => HK.blk_cell hm0 i
 obtain ⟨CS,hCS⟩:∃ z,z = countS (decide (kind = 3)) mask facts.length n:=⟨_,rfl⟩
 rw [<- hCS] at HCT hct
 have hct5:¬ (16384:Int) < (CS:Int):=by omega
 clear hm0 hb0 hct hCS hz0
 gi_upto_region 1 with (fail)
 rw [<- hA0]
 clear hA0
 gi_upto_region 3 with (first
  | (gi_at_call 18; refine (callsIn_wide.2 (HV.out _ (HB0.out _ HA0.out).1)).mono ?_; rintro e w1 ⟨rfl,hB1⟩; have HB1:=Lib.hid hB1; clear hB1; have p0:=HK.blk_cell (HB0.out _ HB1.out).2 0; have p1:=HK.blk_cell (HB0.out _ HB1.out).2 1; have p2:=HK.blk_cell (HB0.out _ HB1.out).2 2)
  | (gi_at_call 55; refine (callsIn_wide.2 (HWR.out _)).mono ?_; rintro e w' ⟨rfl,hw⟩; cases hw)
  | (gi_at_call 42; rw [<- HNI.out]; refine (callsIn_wide.2 (HSU.out _ (HB0.out _ HB1.out).1)).mono ?_; rintro e w2 ⟨rfl,hB2⟩; have HB2:=Lib.hid (HB1.out.trans (hB2.mono HB1.out.size)); clear hB2))
 have q0:=HK.blk_cell (HB0.out _ HB2.out).2 0
 have q1:=HK.blk_cell (HB0.out _ HB2.out).2 1
 have q4:=HK.blk_cell (HB0.out _ HB2.out).2 4
 clear p0 p1 p2 c0 HB1 HA0
 gi_upto_region 5 with (gi_at_call 57; refine (callsIn_wide.2 (HCT.out _)).mono ?_; rintro e w3 ⟨rfl,hB3⟩; have HB3:=Lib.hid (HB2.out.trans (hB3.mono HB2.out.size)); clear hB3)
 clear q0 q1 q4 HB2
 have hbx:=HK.blk_alloc (HB0.out _ HB3.out).2 (.cells #[.int .i64 0] 3)
 have q0:=HK.blk_cell hbx 0
 have q1:=HK.blk_cell hbx 1
 gi_wp2_with (gi_at_call 58; refine (callsIn_wide.2 (HRL.out _)).mono ?_; rintro e w' ⟨rfl,hw⟩; cases hw)
 obtain ⟨B6,hB6⟩:∃ B,B = w3.heap.size:=⟨_,rfl⟩
 obtain ⟨w0,hw0⟩:∃ w0,w0 = ((((w3.alloc (.cells #[.int .i64 0] 3)).alloc (.cells #[.int .u8 (kind:Int)] 5)).alloc (.cells #[.int .u8 (mask:Int)] 5)).alloc (.cells #[.int .i64 (n:Int)] 3)):=⟨_,rfl⟩
 have hlt:wb.heap.size < B6:=by rw [hB6]; exact Nat.lt_of_lt_of_le HZ0.out HB3.out.size
 have hb0:Below wb.heap.size wb w0:=by
  have h3:=(HB0.out _ HB3.out).1
  have:=h3.size
  rw [hw0]; exact ((((h3.alloc (by omega) _).alloc (by simp; omega) _).alloc (by simp; omega) _).alloc (by simp; omega) _)
 have hz0:w0.heap.size = B6 + 4:=by rw [hw0,hB6]; simp
 have v2:w0.heap[wb.heap.size]? = some (.cells #[.int .u8 (kind:Int),.int .i64 (n:Int),.slice (some ⟨g,o,none⟩) n cr,.int .i64 0,.slice fa fn fc,.slice ua un uc,.slice ba bn bc] 30 (0,0)):=by
  rw [hw0]; iterate 3 (refine HK.blk_alloc ?_ _)
  exact hbx
 have v6:w0.heap[B6]? = some (.cells #[.int .i64 0] 3 (0,0)):=by
  rw [hw0,hB6]; iterate 3 (refine HK.blk_alloc ?_ _)
  exact HK.blk_new _ _
 have vk:w0.heap[B6 + 1]? = some (.cells #[.int .u8 (kind:Int)] 5 (0,0)):=by
  rw [hw0,hB6]; iterate 2 (refine HK.blk_alloc ?_ _)
  have:=HK.blk_new (w3.alloc (.cells #[.int .i64 0] 3)) (.cells #[.int .u8 (kind:Int)] 5)
  simpa using this
 have vm:w0.heap[B6 + 2]? = some (.cells #[.int .u8 (mask:Int)] 5 (0,0)):=by
  rw [hw0,hB6]; refine HK.blk_alloc ?_ _
  have:=HK.blk_new ((w3.alloc (.cells #[.int .i64 0] 3)).alloc (.cells #[.int .u8 (kind:Int)] 5)) (.cells #[.int .u8 (mask:Int)] 5)
  simpa using this
 have vn:w0.heap[B6 + 3]? = some (.cells #[.int .i64 (n:Int)] 3 (0,0)):=by
  rw [hw0,hB6]
  have:=HK.blk_new (((w3.alloc (.cells #[.int .i64 0] 3)).alloc (.cells #[.int .u8 (kind:Int)] 5)).alloc (.cells #[.int .u8 (mask:Int)] 5)) (.cells #[.int .i64 (n:Int)] 3)
  simpa using this
 have hI0:NuS (decide (kind = 3)) n facts.length rel wb B6 (.cells #[.int .u8 (kind:Int),.int .i64 (n:Int),.slice (some ⟨g,o,none⟩) n cr,.int .i64 0,.slice fa fn fc,.slice ua un uc,.slice ba bn bc] 30 (0,0)) [] w0:=⟨by simp,v2,by simpa [sumK] using v6,hb0,by omega⟩
 obtain ⟨b,hb⟩:∃ b,b = w0.heap.size + 3:=⟨_,rfl⟩
 have hb7:b = B6 + 7:=by omega
 have hseq:=relations_seq (k - 1) w0 (B6 + 3) (B6 + 1) (B6 + 2) n kind mask hmask h4 vn vk vm
 rw [<- hb] at hseq
 rw [<- hw0]
 rw [<- hB6]
 clear q0 q1 hbx v2 v6 vk vm vn hb0 HCT HWR HSU HV HRL HB0 HB3 hw0 hB6 hct5 HZ0
 refine range_b (n:=k) rfl (by omega) (gf:=73) (lb:=#[.pointer (some ⟨B6 + 3,0,none⟩),.pointer (some ⟨B6 + 1,0,none⟩),.pointer (some ⟨B6 + 2,0,none⟩)]) rfl trivial (enters_of Tryd.func73 (by kernel_rfl) rfl)
  hb hseq (fun _ => rfl)
  (NuS (decide (kind = 3)) n facts.length rel wb B6 (.cells #[.int .u8 (kind:Int),.int .i64 (n:Int),.slice (some ⟨g,o,none⟩) n cr,.int .i64 0,.slice fa fn fc,.slice ua un uc,.slice ba bn bc] 30 (0,0))) (NuX (decide (kind = 3)) n facts.length rel (factN facts) wb B6 (.cells #[.int .u8 (kind:Int),.int .i64 (n:Int),.slice (some ⟨g,o,none⟩) n cr,.int .i64 0,.slice fa fn fc,.slice ua un uc,.slice ba bn bc] 30 (0,0)))
  (fun s A C h ht => by rw [hz0] at ht; exact ⟨h.1,h.2.turn hlt hb7 ht⟩) (fun c s A C h ht => by
   rw [hz0] at ht
   obtain ⟨h1,p,h2,h3,h4⟩:=h
   exact ⟨h1,p,h2,h3,h4.turn hlt hb7 ht⟩) hI0
  (NuSafe B6) (fun j hj => ⟨by rcases hj with h | h | h <;> omega,by rcases hj with h | h | h <;> omega⟩)
  (fun _ _ _ _ h => h.1) (fun _ A C j _ ht h => ⟨Nat.lt_of_lt_of_le h.1 ht.size,h.2⟩) (fun _ A C j hi _ h1 h2 => by have:=hi.2.hz; exact ⟨h2,by omega⟩)
  (fun x a' W => x.length = n /\ FrOk x /\ RowB b W x /\ a' = { tmps:=#[.agg #[.int .u8 (kind:Int),.int .i64 (n:Int),.slice (some ⟨g,o,none⟩) n cr,.int .i64 0,.slice fa fn fc,.slice ua un uc,.slice ba bn bc],.int .u8 (mask:Int),.pointer (some ⟨wb.heap.size,0,none⟩),undef,.int .i64 0,.int .i64 0,.pointer (some ⟨B6,0,none⟩),.slice (some ⟨b,0,none⟩) n n,undef,undef,undef,undef,.agg #[.int .u8 (kind:Int),.int .i64 (n:Int),.slice (some ⟨g,o,none⟩) n cr,.int .i64 0,.slice fa fn fc,.slice ua un uc,.slice ba bn bc],.bool true,.bool false,.bool false,.pointer (some ⟨wb.heap.size,0,none⟩),.int .u8 (kind:Int),.int .u8 (mask:Int),.pointer (some ⟨wb.heap.size,1,none⟩),.int .i64 (n:Int),.bool false,.bool false,.bool false,.pointer (some ⟨wb.heap.size,0,none⟩),.int .u8 (kind:Int),.int .u8 (mask:Int),.pointer (some ⟨wb.heap.size,2,none⟩),.slice (some ⟨g,o,none⟩) n cr,.pointer (some ⟨wb.heap.size,1,none⟩),.int .i64 (n:Int),.int .i64 nI,.bool true,.bool false,.bool false,.pointer (some ⟨wb.heap.size,0,none⟩),.int .u8 (kind:Int),.int .u8 (mask:Int),.pointer (some ⟨wb.heap.size,4,none⟩),.slice fa fn fc,.int .i64 (fn:Int),.pointer (some ⟨wb.heap.size,1,none⟩),.int .i64 (n:Int),.int .i64 (CS:Int),.bool (decide (16384 < (CS:Int))),.pointer (some ⟨wb.heap.size,0,none⟩),.int .u8 (kind:Int),.int .u8 (mask:Int),.pointer (some ⟨wb.heap.size,1,none⟩),.int .i64 (n:Int),.func (.func 73) #[] #[.pointer (some ⟨B6 + 3,0,none⟩),.pointer (some ⟨B6 + 1,0,none⟩),.pointer (some ⟨B6 + 2,0,none⟩)],.slice (some ⟨b,0,none⟩) n n,undef,undef,undef,undef,undef,undef,undef,undef,undef,undef,undef,undef,undef,undef,undef,undef,undef,undef,undef,undef,undef,undef,undef,undef,undef,undef,undef,undef,undef,undef,undef,undef,undef,undef,undef,undef,undef,undef],defers:=[] }) (fun x a' A C h ht => ⟨h.1,h.2.1,ht.same _ _ h.2.2.1 (.inr rfl),h.2.2.2⟩) ?assign ?body ?done ?stop
 case assign =>
  intro l pre x W R hI hT hR
  have HT:=Lib.hid hT
  have HI:=Lib.hid hI
  clear hT hI hI0 hseq hb hb7
  unfold encR
  gi_wp2
  exact hR _ _ (KeepsFrom.refl _ _) ⟨Nat.le_refl _,fun k hk _ => ⟨hk,rfl⟩⟩ HI.out ⟨HT.out.1,HT.out.2.1,HT.out.2.2,rfl⟩
 case body =>
  intro l pre xr a' ws hI hax hpl
  obtain ⟨hlen,hxok,hrow,rfl⟩:=hax
  obtain ⟨hnp,hI⟩:=hI
  obtain ⟨S,hS⟩:∃ S,S = sumK (decide (kind = 3)) n facts.length pre:=⟨_,rfl⟩
  have hS9:S <= 300000000:=by
   have q1:=sum_small (decide (kind = 3)) n facts.length pre
   have q2:=sum_many (decide (kind = 3)) n facts.length (relsL (decide (kind = 3)) mask n)
   have q3:=HSUM.out
   omega
  rw [<- hS] at hI
  obtain ⟨L5,hL5⟩:∃ L,L = truthsK (decide (kind = 3)) xr (2 ^ n):=⟨_,rfl⟩
  obtain ⟨T,hT⟩:∃ T,T = L5.length:=⟨_,rfl⟩
  have hT1:1 <= T:=by rw [hT,hL5]; exact truths_pos _ _ _
  have hT16:T <= 16:=by rw [hT,hL5]; exact Nat.le_trans (truthsK_len _ _ _) (pow_le4 h4)
  have hxr:IsR ws b 0 xr:=RowB.isR hrow
  have HTR:Hid (Calls Tryd.prog 59 #[.int .u8 (kind:Int),.slice (some ⟨b,0,none⟩) n n] ws (RetRow ws L5)):=Lib.hid (by rw [hL5]; exact truths_call ws b 0 n n xr hxr hlen hxok kind HKD.out)
  have HEQ:Hid (∀ W,Below ws.heap.size ws W -> Calls Tryd.prog 61 #[.slice (some ⟨b,0,none⟩) n n,.slice (some ⟨g,o,none⟩) n cr] W (RetW W (decide (xr = rel)))):=Lib.hid fun W hB => by
   have hd:decide (xr = rel) = decide ((xr.map fun x:Nat => (x:Int)) = rel.map fun x:Nat => (x:Int)):=by
    rw [Bool.eq_iff_iff,decide_eq_true_iff,decide_eq_true_iff]
    exact ⟨fun e => by rw [e],fun e => List.map_inj_right (fun _ _ h => Int.ofNat.inj h) |>.1 e⟩
   rw [hd]
   exact eq_call W ⟨some ⟨b,0,none⟩,n,n⟩ ⟨some ⟨g,o,none⟩,n,cr⟩ _ _ (isZs_of (hxr.below hB) hlen) (isZs_of ((HR.out.below (hI.hB)).below hB) HNN.out) (by simp; omega)
  have HBE:=Lib.hid hI.hB
  have HMB:=Lib.hid hI.hm
  have HSM:=Lib.hid hI.hs
  have HZ:=Lib.hid hI.hz
  have HS:=Lib.hid hS
  have HL5:=Lib.hid hL5
  have HT:=Lib.hid hT
  have HNP:=Lib.hid hnp
  have HROW:=Lib.hid hrow
  have HW0:=Lib.hid hz0
  have HB7:=Lib.hid hb7
  have HLT:=Lib.hid hlt
  have HPL:=Lib.hid hpl
  clear hI hS hL5 hT hnp hxr hrow hlen hxok hz0 hb hb7 hI0 hseq hlt hpl
  have hmb0:=HK.blk_cell HMB.out 0
  by_cases hx:xr = rel
  ·have hd:decide (xr = rel) = true:=decide_eq_true hx
   have HX:=Lib.hid hx
   rw [hd] at HEQ
   clear hx hd
   gi_upto_region 12 with (first
    | (gi_at_call 59; refine (callsIn_wide.2 HTR.out).mono ?_; rintro e w5 ⟨v5,rfl,hB5,hv5⟩; rcases hv5.2 with ⟨h0,h9⟩ | ⟨g5,tc,cu,rfl,hrst⟩; (exact absurd h9 (by have:=HT.out; omega)); rw [<- HT.out] at hv5 ⊢; have HB5:=Lib.hid hB5; have HV5:=Lib.hid hv5; have hm5:=HK.blk_cell ((hB5.block _ (HK.blk_lt HMB.out)).trans HMB.out) 2; clear hB5 hv5 hrst)
    | (gi_at_call 61; refine (callsIn_wide.2 (HEQ.out _ HB5.out)).mono ?_; rintro e wq ⟨rfl,hB6⟩; have HI5:=Lib.hid ((isR_own HV5.out).below hB6); have HB6:=Lib.hid (HB5.out.trans (hB6.mono HB5.out.size)); clear hB6))
   clear hmb0 hm5
   have HMB:=Lib.hid ((HB6.out.block _ (HK.blk_lt HMB.out)).trans HMB.out)
   have HSM:=Lib.hid ((HB6.out.block _ (HK.blk_lt HSM.out)).trans HSM.out)
   have HBE:=Lib.hid (HBE.out.trans (HB6.out.mono HBE.out.size))
   have m4:=HK.blk_cell HMB.out 4
   have HF5:Hid (∀ x ∈ factN facts,x ∈ L5):=Lib.hid fun x hx => by
    unfold factN at hx
    rw [List.mem_map] at hx
    obtain ⟨f,hf,rfl⟩:=hx
    obtain ⟨y,e,hy⟩:=HFK.out f hf
    rw [e,Int.toNat_natCast,HL5.out,HX.out]
    exact hy
   have HTP:Hid (T ^ fn <= 16384):=Lib.hid (by
    have q1:=sumW_le (W:=waysR (decide (kind = 3)) n facts.length) HMEM.out
    have q2:=HSUM.out
    rw [sumK_sumW] at q2
    have q3:waysR (decide (kind = 3)) n facts.length rel = min (T ^ fn) 16385:=by rw [HT.out,HL5.out,HX.out,HFN.out]; rfl
    omega)
   gi_wp2_with (fail)
   clear m4
   gi_loopw [72,9] (fun i a wx => ∃ j:Nat,j <= fn /\ i = .int .i64 j /\ a = .int .i64 ((numF L5 ((factN facts).take j):Nat):Int) /\ Below wq.heap.size wq wx) (fun i _ _ => fn - (intOf i).toNat)
   case atStart => exact ⟨0,by omega,rfl,rfl,Below.refl _ _⟩
   case round =>
    obtain ⟨j,hjn,rfl,rfl,hB⟩:=hrel
    have HB:=Lib.hid hB
    clear hB
    have hal:numF L5 ((factN facts).take j) <= 16384:=by
     have q1:=numF_small (T:=L5) (f:=(factN facts).take j) fun x hx => HF5.out x (List.mem_of_mem_take hx)
     have q2:((factN facts).take j).length <= fn:=by rw [List.length_take]; omega
     have q3:=Nat.pow_le_pow_right (n:=L5.length) (by rw [<- HT.out]; exact hT1) q2
     have q4:=HTP.out
     rw [HT.out] at q4
     omega
    by_cases hj:(j:Int) < (fn:Int)
    ·have j0:(0:Int) <= (j:Int):=by omega
     obtain ⟨f,hf⟩:∃ f,facts[j]? = some f:=⟨_,List.getElem?_eq_getElem (by have:=HFN.out; omega)⟩
     obtain ⟨x,hxe,hxm⟩:=HFK.out f (List.mem_of_getElem? hf)
     obtain ⟨gf,of,hfa,hgf,d0,d1,d2,dz⟩:=HF.out.2 j f hf
     obtain ⟨nm,ag,tr⟩:=f
     simp only at hfa hxe d0 d1 d2 dz
     subst hfa hxe
     have hxl:x ∈ L5:=by rw [HL5.out,HX.out]; exact hxm
     have up:∀ i v,wb.cell? ⟨gf,i,none⟩ = some v -> wr.cell? ⟨gf,i,none⟩ = some v:=fun i v h => by
      have e1:=HBE.out.cell (p:=⟨gf,i,none⟩) hgf
      have e2:=HB.out.cell (p:=⟨gf,i,none⟩) (Nat.lt_of_lt_of_le hgf HBE.out.size)
      exact e2.trans (e1.trans h)
     have c0:=up _ _ d0
     have c1:=up _ _ d1
     have c2:=up _ _ d2
     obtain ⟨A,hA⟩:∃ A,A = numF L5 ((factN facts).take j):=⟨_,rfl⟩
     rw [<- hA] at hal ⊢
     obtain ⟨y,hy⟩:∃ y,y = L5.idxOf x:=⟨_,rfl⟩
     have hyT:y < T:=by rw [hy,HT.out]; exact List.idxOf_lt_length_iff.2 hxl
     obtain ⟨m,hm⟩:∃ m,m = A * T:=⟨_,rfl⟩
     have hm9:m <= 262144:=by rw [hm]; exact Nat.le_trans (Nat.mul_le_mul hal hT16) (by omega)
     have HNX:Hid (((m + y:Nat):Int) = ((numF L5 ((factN facts).take (j + 1)):Nat):Int)):=Lib.hid (by
      have e:(factN facts)[j]? = some x:=by unfold factN; rw [List.getElem?_map,hf]; simp
      rw [take_one e,numF_on,<- hA,<- hy,<- HT.out,hm])
     have HIX:Hid (∀ W,Below wq.heap.size wq W -> Calls Tryd.prog 62 #[.slice (some ⟨g5,0,none⟩) T tc,.int .i64 (x:Int)] W fun e w' => e = .returned (.int .i64 (y:Int)) /\ w' = W):=Lib.hid fun W hW => by rw [hy]; exact idx_call W g5 0 T tc L5 (HI5.out.below hW) HT.out.symm (by omega) x hxl
     have kc:=HK.blk_cell (HK.blk_new wr (.cells #[.string nm,.int .i64 ag,.int .i64 (x:Int)] 46)) 2
     have mu6:IntKind.i64.wrap ((A:Int) * (T:Int)) = (m:Int):=wrap_mul A T m hm (Nat.le_trans hm9 (by omega))
     have mu7:wrap64 ((A:Int) * (T:Int)) = (m:Int):=(IntWalk.i64_left _).symm.trans mu6
     have hy9:y <= 1000000000:=Nat.le_trans (Nat.le_of_lt hyT) (Nat.le_trans hT16 (by decide))
     have ad6:IntKind.i64.wrap ((m:Int) + (y:Int)) = ((m + y:Nat):Int):=wrap_add m y (Nat.le_trans hm9 (by decide)) hy9
     have ad7:wrap64 ((m:Int) + (y:Int)) = ((m + y:Nat):Int):=(IntWalk.i64_left _).symm.trans ad6
     clear hA hy hm hm9 hy9 hyT hf d0 d1 d2 up hxl hxm HTR HEQ
     gi_wp2_with (gi_at_call 62; refine (callsIn_wide.2 (HIX.out _ (HB.out.alloc HB.out.size _))).mono ?_; rintro e w' ⟨rfl,hw⟩; cases hw)
     go_roundw
     case rel => exact ⟨j + 1,by omega,by go_num,by rw [<- HNX.out,Int.natCast_add],HB.out.alloc HB.out.size _⟩
     case measure => simp [intOf]; omega
    ·obtain rfl:j = fn:=by omega
     have hmb:=(HB.out.block _ (HK.blk_lt HMB.out)).trans HMB.out
     have hsb:=(HB.out.block _ (HK.blk_lt HSM.out)).trans HSM.out
     have s6:=HK.blk_cell hsb 0
     have f6:=HK.blk_frozen hsb 0
     have hall:(factN facts).take j = factN facts:=List.take_of_length_le (by unfold factN; rw [List.length_map]; have:=HFN.out; omega)
     rw [hall] at hal ⊢
     obtain ⟨A,hA⟩:∃ A,A = numF L5 (factN facts):=⟨_,rfl⟩
     rw [<- hA] at hal ⊢
     obtain ⟨q,hq⟩:∃ q,q = S + A:=⟨_,rfl⟩
     have ad6:IntKind.i64.wrap ((S:Int) + (A:Int)) = (q:Int):=by rw [hq,Int.natCast_add]; exact IntWalk.i64_in _ (by omega)
     have ad7:wrap64 ((S:Int) + (A:Int)) = (q:Int):=(IntWalk.i64_left _).symm.trans ad6
     have HQ:Hid (q = sumK (decide (kind = 3)) n facts.length pre + numF (truthsK (decide (kind = 3)) rel (2 ^ n)) (factN facts)):=Lib.hid (by rw [hq,hA,HS.out,HL5.out,HX.out])
     have HMB:=Lib.hid hmb
     have HSB:=Lib.hid hsb
     clear hq hA hall hmb hsb hal HTR HEQ
     gi_wp2
     have hset:=HK.blk_set HSB.out 0 (.int .i64 (q:Int))
     have hWs:∀ j,j < ws.heap.size -> j ≠ B6 -> (wr.setCell ⟨B6,0,none⟩ (.int .i64 (q:Int))).heap[j]? = ws.heap[j]?:=fun j hj hne => by
      have e1:(wr.setCell ⟨B6,0,none⟩ (.int .i64 (q:Int))).heap[j]? = wr.heap[j]?:=Below.heap_setCell _ _ _ _ hne
      exact e1.trans ((HB.out.block j (Nat.lt_of_lt_of_le hj HB6.out.size)).trans (HB6.out.block j hj))
     have hsz:ws.heap.size <= (wr.setCell ⟨B6,0,none⟩ (.int .i64 (q:Int))).heap.size:=by
      have:=HB.out.size; have:=HB6.out.size; simp; omega
     refine ⟨⟨hsz,fun j ob hj ho _ => (hWs j (HK.blk_lt ho) (by have:=HLT.out; have:=HW0.out; omega)).trans ho⟩,rfl,pre,by rw [HX.out],HNP.out,?_⟩
     rw [<- HQ.out]
     refine ⟨(Below.heap_setCell _ _ _ _ (by have:=HLT.out; simp; omega)).trans HMB.out,by simpa using hset,?_,Nat.le_trans HZ.out hsz⟩
     exact (HBE.out.trans (HB.out.mono HBE.out.size)).setCell (p:=⟨B6,0,none⟩) (by have:=HLT.out; simp; omega) _
  ·have hd:decide (xr = rel) = false:=decide_eq_false hx
   have HX:=Lib.hid hx
   rw [hd] at HEQ
   clear hx hd
   gi_upto_region 10 with (first
    | (gi_at_call 59; refine (callsIn_wide.2 HTR.out).mono ?_; rintro e w5 ⟨v5,rfl,hB5,hv5⟩; rcases hv5.2 with ⟨h0,h9⟩ | ⟨g5,tc,cu,rfl,hrst⟩; (exact absurd h9 (by have:=HT.out; omega)); rw [<- HT.out] at hv5 ⊢; have HB5:=Lib.hid hB5; have HV5:=Lib.hid hv5; have hm5:=HK.blk_cell ((hB5.block _ (HK.blk_lt HMB.out)).trans HMB.out) 2; clear hB5 hv5 hrst)
    | (gi_at_call 61; refine (callsIn_wide.2 (HEQ.out _ HB5.out)).mono ?_; rintro e wr ⟨rfl,hB6⟩; have HB6:=Lib.hid (HB5.out.trans (hB6.mono HB5.out.size)); clear hB6))
   clear hmb0 hm5
   have HMB:=Lib.hid ((HB6.out.block _ (HK.blk_lt HMB.out)).trans HMB.out)
   have HSM:=Lib.hid ((HB6.out.block _ (HK.blk_lt HSM.out)).trans HSM.out)
   have HBE:=Lib.hid (HBE.out.trans (HB6.out.mono HBE.out.size))
   have HZR:Hid (ws.heap.size <= wr.heap.size):=Lib.hid HB6.out.size
   obtain ⟨p,hp⟩:∃ p,p = powC T fn:=⟨_,rfl⟩
   have hp2:p <= 16385:=by rw [hp]; exact powC_le _ _
   obtain ⟨q,hq⟩:∃ q,q = S + p:=⟨_,rfl⟩
   have HSQ:Hid (sumK (decide (kind = 3)) n facts.length (pre ++ [xr]) = q):=Lib.hid (by rw [sumK_on,<- HS.out,hq,hp,HT.out,HL5.out,waysR,HFN.out])
   have HPW:Hid (∀ W,Calls Tryd.prog 60 #[.int .i64 (T:Int),.int .i64 (fn:Int)] W fun e w' => e = .returned (.int .i64 (p:Int)) /\ w' = W):=Lib.hid fun W => by rw [hp]; exact power_call W T fn hT1 hT16 (by omega)
   have hq2:q <= 300016385:=by omega
   have ad6:IntKind.i64.wrap ((S:Int) + (p:Int)) = (q:Int):=by rw [hq,Int.natCast_add]; exact IntWalk.i64_in _ (by omega)
   have ad7:wrap64 ((S:Int) + (p:Int)) = (q:Int):=(IntWalk.i64_left _).symm.trans ad6
   clear hp hq hp2
   refine Go.RE.wpIn_region_each [61,62,63,64,65,66,67,68] (fun L x W => (HK.Frm (fun j => j = B6) wr W /\ (L 8 = false -> W.heap[B6]? = some (.cells #[.int .i64 (S:Int)] 3 (0,0)))) /\ (L 0 = true -> x 61 = .int .i64 (S:Int)) /\ (L 1 = true -> x 62 = .slice (some ⟨g5,0,none⟩) T tc) /\ (L 2 = true -> L 1 = true /\ x 63 = .int .i64 (T:Int)) /\ (L 3 = true -> x 64 = .pointer (some ⟨wb.heap.size,4,none⟩)) /\ (L 4 = true -> L 3 = true /\ x 65 = .slice fa fn fc) /\ (L 5 = true -> L 4 = true /\ x 66 = .int .i64 (fn:Int)) /\ (L 6 = true -> L 2 = true /\ L 5 = true /\ x 67 = .int .i64 (p:Int)) /\ (L 7 = true -> L 0 = true /\ L 6 = true /\ x 68 = .int .i64 (q:Int)) /\ (L 8 = true -> L 7 = true /\ W.heap[B6]? = some (.cells #[.int .i64 (q:Int)] 3 (0,0)))) (by kernel_rfl) (by kernel_rfl) ?_ (by kernel_rfl) (by kernel_rfl) ?_ ((Go.RE.Each.cons ?_ (Go.RE.Each.cons ?_ (Go.RE.Each.cons ?_ (Go.RE.Each.cons ?_ (Go.RE.Each.cons ?_ (Go.RE.Each.cons ?_ (Go.RE.Each.cons ?_ (Go.RE.Each.cons ?_ (Go.RE.Each.cons ?_ Go.RE.Each.nil)))))))))) ?_
   ·rintro ⟨a,w,h⟩; exact h
   ·exact fun x => ⟨⟨⟨rfl,rfl,rfl,Nat.le_refl _,fun _ _ _ => rfl⟩,fun _ => HSM.out⟩,fun h => (by cases h),fun h => (by cases h),fun h => (by cases h),fun h => (by cases h),fun h => (by cases h),fun h => (by cases h),fun h => (by cases h),fun h => (by cases h),fun h => (by cases h)⟩
   ·intro L x a w K hL hd hf hx hΦ hK
    obtain ⟨hI,f0,f1,f2,f3,f4,f5,f6,f7,f8⟩:=hΦ
    have e6:a.tmps[6]? = some (.pointer (some ⟨B6,0,none⟩)):=hf 6 (of_decide_eq_true (by kernel_rfl))
    clear hf hx hd
    have hL8:L 8 = false:=by rcases e:L 8 with _ | _; rfl; exact absurd (f7 (f8 e).1).1 (by rw [hL]; decide)
    have c:=HK.blk_cell (hI.2 hL8) 0
    go_simp
    refine hK _ _ ?_
    exact ⟨hI,fun _ => rfl,fun h => f1 h,fun h => f2 h,fun h => f3 h,fun h => f4 h,fun h => f5 h,fun h => f6 h,fun h => absurd (f7 h).1 (by rw [hL]; decide),fun h => f8 h⟩
   ·intro L x a w K hL hd hf hx hΦ hK
    obtain ⟨hI,f0,f1,f2,f3,f4,f5,f6,f7,f8⟩:=hΦ
    have e8:a.tmps[8]? = some (.slice (some ⟨g5,0,none⟩) T tc):=hf 8 (of_decide_eq_true (by kernel_rfl))
    clear hf hx hd
    go_simp
    refine hK _ _ ?_
    exact ⟨hI,fun h => f0 h,fun _ => rfl,fun h => absurd (f2 h).1 (by rw [hL]; decide),fun h => f3 h,fun h => f4 h,fun h => f5 h,fun h => f6 h,fun h => f7 h,fun h => f8 h⟩
   ·intro L x a w K hL hd hf hx hΦ hK
    obtain ⟨hI,f0,f1,f2,f3,f4,f5,f6,f7,f8⟩:=hΦ
    have d1:=f1 (hd 1 (by kernel_rfl))
    have e62:a.tmps[62]? = some (x 62):=hx 1 _ 62 rfl rfl (hd 1 (by kernel_rfl))
    have l1:=hd 1 (by kernel_rfl)
    clear hf hx hd
    rw [d1] at e62
    go_simp
    refine hK _ _ ?_
    exact ⟨hI,fun h => f0 h,fun h => f1 h,fun _ => ⟨l1,rfl⟩,fun h => f3 h,fun h => f4 h,fun h => f5 h,fun h => absurd (f6 h).1 (by rw [hL]; decide),fun h => f7 h,fun h => f8 h⟩
   ·intro L x a w K hL hd hf hx hΦ hK
    obtain ⟨hI,f0,f1,f2,f3,f4,f5,f6,f7,f8⟩:=hΦ
    have e2:a.tmps[2]? = some (.pointer (some ⟨wb.heap.size,0,none⟩)):=hf 2 (of_decide_eq_true (by kernel_rfl))
    clear hf hx hd
    go_simp
    refine hK _ _ ?_
    exact ⟨hI,fun h => f0 h,fun h => f1 h,fun h => f2 h,fun _ => rfl,fun h => absurd (f4 h).1 (by rw [hL]; decide),fun h => f5 h,fun h => f6 h,fun h => f7 h,fun h => f8 h⟩
   ·intro L x a w K hL hd hf hx hΦ hK
    obtain ⟨hI,f0,f1,f2,f3,f4,f5,f6,f7,f8⟩:=hΦ
    have d3:=f3 (hd 3 (by kernel_rfl))
    have e64:a.tmps[64]? = some (x 64):=hx 3 _ 64 rfl rfl (hd 3 (by kernel_rfl))
    have l3:=hd 3 (by kernel_rfl)
    clear hf hx hd
    rw [d3] at e64
    have c:=HK.blk_cell (HK.Frm.heap hI.1 HMB.out (by have:=HLT.out; omega)) 4
    go_simp
    refine hK _ _ ?_
    exact ⟨hI,fun h => f0 h,fun h => f1 h,fun h => f2 h,fun h => f3 h,fun _ => ⟨l3,rfl⟩,fun h => absurd (f5 h).1 (by rw [hL]; decide),fun h => f6 h,fun h => f7 h,fun h => f8 h⟩
   ·intro L x a w K hL hd hf hx hΦ hK
    obtain ⟨hI,f0,f1,f2,f3,f4,f5,f6,f7,f8⟩:=hΦ
    have d4:=f4 (hd 4 (by kernel_rfl))
    have e65:a.tmps[65]? = some (x 65):=hx 4 _ 65 rfl rfl (hd 4 (by kernel_rfl))
    have l4:=hd 4 (by kernel_rfl)
    clear hf hx hd
    rw [d4.2] at e65
    go_simp
    refine hK _ _ ?_
    exact ⟨hI,fun h => f0 h,fun h => f1 h,fun h => f2 h,fun h => f3 h,fun h => f4 h,fun _ => ⟨l4,rfl⟩,fun h => absurd (f6 h).2.1 (by rw [hL]; decide),fun h => f7 h,fun h => f8 h⟩
   ·intro L x a w K hL hd hf hx hΦ hK
    obtain ⟨hI,f0,f1,f2,f3,f4,f5,f6,f7,f8⟩:=hΦ
    have d2:=f2 (hd 2 (by kernel_rfl))
    have e63:a.tmps[63]? = some (x 63):=hx 2 _ 63 rfl rfl (hd 2 (by kernel_rfl))
    have d5:=f5 (hd 5 (by kernel_rfl))
    have e66:a.tmps[66]? = some (x 66):=hx 5 _ 66 rfl rfl (hd 5 (by kernel_rfl))
    have l2:=hd 2 (by kernel_rfl)
    have l5:=hd 5 (by kernel_rfl)
    clear hf hx hd
    rw [d2.2] at e63
    rw [d5.2] at e66
    go_simp
    go_at_call 60
    refine (HPW.out _).mono ?_
    rintro e w' ⟨rfl,hw'⟩
    have hw':=hw'.symm
    subst hw'
    simp only
    refine hK _ _ ?_
    exact ⟨hI,fun h => f0 h,fun h => f1 h,fun h => f2 h,fun h => f3 h,fun h => f4 h,fun h => f5 h,fun _ => ⟨l2,l5,rfl⟩,fun h => absurd (f7 h).2.1 (by rw [hL]; decide),fun h => f8 h⟩
   ·intro L x a w K hL hd hf hx hΦ hK
    obtain ⟨hI,f0,f1,f2,f3,f4,f5,f6,f7,f8⟩:=hΦ
    have d0:=f0 (hd 0 (by kernel_rfl))
    have e61:a.tmps[61]? = some (x 61):=hx 0 _ 61 rfl rfl (hd 0 (by kernel_rfl))
    have d6:=f6 (hd 6 (by kernel_rfl))
    have e67:a.tmps[67]? = some (x 67):=hx 6 _ 67 rfl rfl (hd 6 (by kernel_rfl))
    have l0:=hd 0 (by kernel_rfl)
    have l6:=hd 6 (by kernel_rfl)
    clear hf hx hd
    rw [d0] at e61
    rw [d6.2.2] at e67
    go_simp
    refine hK _ _ ?_
    exact ⟨hI,fun h => f0 h,fun h => f1 h,fun h => f2 h,fun h => f3 h,fun h => f4 h,fun h => f5 h,fun h => f6 h,fun _ => ⟨l0,l6,rfl⟩,fun h => absurd (f8 h).1 (by rw [hL]; decide)⟩
   ·intro L x a w K hL hd hf hx hΦ hK
    obtain ⟨hI,f0,f1,f2,f3,f4,f5,f6,f7,f8⟩:=hΦ
    have d7:=f7 (hd 7 (by kernel_rfl))
    have e68:a.tmps[68]? = some (x 68):=hx 7 _ 68 rfl rfl (hd 7 (by kernel_rfl))
    have e6:a.tmps[6]? = some (.pointer (some ⟨B6,0,none⟩)):=hf 6 (of_decide_eq_true (by kernel_rfl))
    have l7:=hd 7 (by kernel_rfl)
    clear hf hx hd
    rw [d7.2.2] at e68
    have c:=HK.blk_cell (hI.2 hL) 0
    have cf:=HK.blk_frozen (hI.2 hL) 0
    go_simp
    refine hK undef _ ?_
    exact ⟨⟨hI.1.setCell (p:=⟨B6,0,none⟩) (.inl rfl) _,fun h => by cases h⟩,fun h => f0 h,fun h => f1 h,fun h => f2 h,fun h => f3 h,fun h => f4 h,fun h => f5 h,fun h => f6 h,fun h => f7 h,fun _ => ⟨l7,by have:=HK.blk_set (hI.2 hL) 0 (.int .i64 (q:Int)); simpa using this⟩⟩
   ·rintro x W ⟨hI,f0,f1,f2,f3,f4,f5,f6,f7,f8⟩
    obtain ⟨_,hSq⟩:=f8 (by kernel_rfl)
    obtain ⟨hfr,_⟩:=hI
    have HFR:=Lib.hid hfr
    have HSQ9:=Lib.hid hSq
    clear hfr hSq f0 f1 f2 f3 f4 f5 f6 f7 f8 HTR HPW HEQ ad6 ad7
    simp only [Exit.then]
    gi_wp2
    have hsame:∀ j,j < ws.heap.size -> j ≠ B6 -> W.heap[j]? = ws.heap[j]?:=fun j hj hne => (HFR.out.block j (Nat.lt_of_lt_of_le hj HZR.out) hne).trans (HB6.out.block j hj)
    have hsz:ws.heap.size <= W.heap.size:=Nat.le_trans HZR.out HFR.out.size
    refine ⟨⟨hsz,fun j ob hj ho _ => (hsame j (HK.blk_lt ho) (by have:=HLT.out; have:=HW0.out; omega)).trans ho⟩,⟨hsz,fun j hj _ => ⟨⟨Nat.lt_of_lt_of_le hj.1 hsz,hj.2⟩,hsame j hj.1 hj.2⟩⟩,?_,?_⟩
    ·intro hm
     rw [List.mem_append,List.mem_singleton] at hm
     rcases hm with hm | hm
     ·exact HNP.out hm
     ·exact HX.out hm.symm
    ·rw [HSQ.out]
     exact ⟨HK.Frm.heap HFR.out HMB.out (by have:=HLT.out; omega),HSQ9.out,⟨HFR.out.os.trans HBE.out.os,HFR.out.tape.trans HBE.out.tape,HFR.out.output.trans HBE.out.output,Nat.le_trans HBE.out.size HFR.out.size,fun j hj => (HFR.out.block j (Nat.lt_of_lt_of_le hj HBE.out.size) (by have:=HLT.out; omega)).trans (HBE.out.block j hj)⟩,Nat.le_trans HZ.out hsz⟩
 case done =>
  rintro D ys W hD rfl hI hK
  exact absurd HMEM.out hI.1
 case stop =>
  rintro D c pre W hD hpre ⟨rfl,p,rfl,hnp,hI⟩ hK
  have hnum:=numE_of (k:=facts.length) (f:=factN facts) hpre hnp
  obtain ⟨N,hN⟩:∃ N,N = numE (decide (kind = 3)) mask n facts.length rel (factN facts):=⟨_,rfl⟩
  rw [<- hN] at hnum
  rw [<- hnum] at hI
  have HNE:=Lib.hid hN
  have c6:=HK.blk_cell hI.hs 0
  have HI:=Lib.hid hI
  have HKD:=Lib.hid hK
  have HD:=Lib.hid hD
  have HSZ:=Lib.hid hz0
  clear hI hK hD hz0 hI0 hseq hb hb7 hpre hnp hN hnum
  gi_wp2
  refine ⟨by simp,.inl ⟨_,_,rfl,run_takeDeferred HKD.out,?_⟩⟩
  have hDn:wb.heap.size < D:=by have:=HD.out; have:=HSZ.out; omega
  refine ⟨.tuple #[.int .i64 (N:Int),.int .i64 0],by simp [results,Tryd.results34,go_sem],by rw [HNE.out],?_⟩
  exact HI.out.hB.grown (grownBy_putObj' W D _) (by have:=HI.out.hB.size; omega) (fun k e => by cases e; omega)
theorem number_call (wb:World) (kind n mask g o cr:Nat) (hf hu hb:SL) (rel:List Nat) (facts:List (ByteArray × Int × Int)) 
  (hkd:kind < 256) (hmask:mask < 256) (h1:1 <= n) (h4:n <= 4) (hok:FrOk rel) (hn:rel.length = n) (hg:g < wb.heap.size) (hR:IsR wb g o rel) (hF:IsFz (fun j => j < wb.heap.size) wb hf facts) (hL:facts.length <= 1000000000)
  (hV:∀ W,Below wb.heap.size wb W -> Calls Tryd.prog 18 #[MV kind n g o cr hf hu hb] W (RetW W true))
  (hwr:wrongB kind mask (n:Int) = false) (hsu:suitsB (decide (kind = 3)) mask rel (n - 1) = true) (hct:countS (decide (kind = 3)) mask facts.length n <= 16384)
  (hfk:∀ f ∈ facts,∃ x:Nat,f.2.2 = (x:Int) /\ x ∈ truthsK (decide (kind = 3)) rel (2 ^ n)) (hmem:rel ∈ relsL (decide (kind = 3)) mask n) :
  Calls Tryd.prog 34 #[MV kind n g o cr hf hu hb,.int .u8 (mask:Int)] wb (fun e w' => e = .returned (.tuple #[.int .i64 ((numE (decide (kind = 3)) mask n facts.length rel (factN facts):Nat):Int),.int .i64 0]) /\ Below wb.heap.size wb w') :=
 callsIn_wide.1 (number_aux 4 (by omega) wb kind n mask g o cr hf hu hb rel facts hkd hmask h1 h4 hok hn hg hR hF hL hV hwr hsu hct hfk hmem)
end Go.Proofs.YtflmllablfjfeaaDoor
