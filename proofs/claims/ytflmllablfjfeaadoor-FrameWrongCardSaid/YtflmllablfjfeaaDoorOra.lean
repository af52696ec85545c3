import Derived.Test.YtflmllablfjfeaaDoorFrh
namespace Go.Proofs.YtflmllablfjfeaaDoor
open Go.RowKit Go.HK Go.FR Go.HRB
set_option linter.unusedVariables false
set_option linter.unusedSimpArgs false
set_option linter.unusedSectionVars false
def LtL (l m:List Nat):Prop:=∃ d:Nat,(∀ i:Nat,i < d -> l[i]? = m[i]?) /\ ∃ a b:Nat,l[d]? = some a /\ m[d]? = some b /\ a < b
theorem LtL.ahead (p:List Nat) {l m:List Nat} (h:LtL l m):LtL (p ++ l) (p ++ m):=by
 obtain ⟨d,h1,a,b,h2,h3,h4⟩:=h
 refine ⟨p.length + d,fun i hi => ?_,a,b,?_,?_,h4⟩
 ·by_cases hp:i < p.length
  ·rw [List.getElem?_append_left hp,List.getElem?_append_left hp]
  ·rw [List.getElem?_append_right (by omega),List.getElem?_append_right (by omega)]
   exact h1 _ (by omega)
 ·rw [List.getElem?_append_right (by omega),show p.length + d - p.length = d by omega]; exact h2
 ·rw [List.getElem?_append_right (by omega),show p.length + d - p.length = d by omega]; exact h3
theorem LtL.on {l m:List Nat} (h:LtL l m) (x y:List Nat):LtL (l ++ x) (m ++ y):=by
 obtain ⟨d,h1,a,b,h2,h3,h4⟩:=h
 obtain ⟨hl,_⟩:=List.getElem?_eq_some_iff.1 h2
 obtain ⟨hm,_⟩:=List.getElem?_eq_some_iff.1 h3
 refine ⟨d,fun i hi => ?_,a,b,?_,?_,h4⟩
 ·rw [List.getElem?_append_left (by omega),List.getElem?_append_left (by omega)]; exact h1 i hi
 ·rw [List.getElem?_append_left hl]; exact h2
 ·rw [List.getElem?_append_left hm]; exact h3
theorem LtL.first {l m:List Nat} (h:LtL l m) {k a b:Nat} (he:∀ i,i < k -> l[i]? = m[i]?) (ha:l[k]? = some a) (hb:m[k]? = some b) (hne:a ≠ b):a < b:=by
 obtain ⟨d,h1,a',b',h2,h3,h4⟩:=h
 rcases Nat.lt_trichotomy d k with hd | rfl | hd
 ·have:=he d hd
  rw [h2,h3] at this
  cases this
  omega
 ·rw [ha] at h2; rw [hb] at h3; cases h2; cases h3; exact h4
 ·have:=h1 k hd
  rw [ha,hb] at this
  cases this
  exact absurd rfl hne
theorem LtL.ne {l m:List Nat} (h:LtL l m):l ≠ m:=by
 rintro rfl
 obtain ⟨d,_,a,b,h2,h3,h4⟩:=h
 rw [h2] at h3
 cases h3
 omega
def digs (T:List Nat) (k j:Nat):List Nat:=(List.range k).map fun t => T.getD (j / T.length ^ (k - 1 - t) % T.length) 0
def pick (W:List Nat -> Nat):List (List Nat) -> Nat -> Option (List Nat × Nat)
 | [],_ => none
 | r :: L,i => if W r <= i then pick W L (i - W r) else some (r,i)
def sumW (W:List Nat -> Nat) (L:List (List Nat)):Nat:=(L.map W).sum
theorem pick_none {W:List Nat -> Nat}:∀ {L:List (List Nat)} {i:Nat},pick W L i = none ↔ sumW W L <= i
 | [],i => by simp [pick,sumW]
 | q :: L,i => by
  unfold pick
  have ih:=pick_none (W:=W) (L:=L) (i:=i - W q)
  simp only [sumW,List.map_cons,List.sum_cons] at ih ⊢
  split
  ·rw [ih]; omega
  ·constructor
   ·intro h; cases h
   ·intro h; omega
theorem pick_on {W:List Nat -> Nat}:∀ {pre:List (List Nat)} {L:List (List Nat)} {i:Nat},sumW W pre <= i -> pick W (pre ++ L) i = pick W L (i - sumW W pre)
 | [],L,i,h => by simp [sumW]
 | q :: pre,L,i,h => by
  simp only [sumW,List.map_cons,List.sum_cons] at h
  show (if W q <= i then pick W (pre ++ L) (i - W q) else some (q,i)) = _
  rw [if_pos (by omega),pick_on (by simp only [sumW]; omega)]
  simp only [sumW,List.map_cons,List.sum_cons,Nat.sub_sub]
theorem sumK_sumW (force:Bool) (n k:Nat) (L:List (List Nat)):sumK force n k L = sumW (waysR force n k) L:=rfl
end Go.Proofs.YtflmllablfjfeaaDoor
