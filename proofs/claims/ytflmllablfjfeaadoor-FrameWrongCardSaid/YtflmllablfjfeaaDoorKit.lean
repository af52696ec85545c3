import Derived.WalkKit
import Derived.WalkSpells
import Derived.WalkLawsBesides
import Derived.LaidEqlPtr
import Derived.Deep.QuietTactic
import Derived.BigQuiet
import Derived.Maps.AppendAt
import Derived.Deep.AppendLies
import Derived.MapKept
import Derived.RangeFuncOwn
namespace Go.HK
open Go Go.RowKit
set_option linter.unusedVariables false
set_option linter.unusedSimpArgs false
set_option linter.unusedSectionVars false

structure Frm (F:Nat -> Prop) (w w':World):Prop where
 os:w'.os = w.os
 tape:w'.tape = w.tape
 output:w'.output = w.output
 size:w.heap.size <= w'.heap.size
 block:∀ k,k < w.heap.size -> ¬ F k -> w'.heap[k]? = w.heap[k]?

theorem Frm.refl (F:Nat -> Prop) (w:World):Frm F w w:=⟨rfl,rfl,rfl,Nat.le_refl _,fun _ _ _ => rfl⟩
theorem Frm.trans {F:Nat -> Prop} {a b c:World} (h:Frm F a b) (k:Frm F b c):Frm F a c :=
 ⟨k.os.trans h.os,k.tape.trans h.tape,k.output.trans h.output,Nat.le_trans h.size k.size,fun i hi hn => (k.block i (Nat.lt_of_lt_of_le hi h.size) hn).trans (h.block i hi hn)⟩
theorem Frm.mono {F G:Nat -> Prop} {a b:World} (h:Frm F a b) (hG:∀ i,F i -> G i):Frm G a b :=
 ⟨h.os,h.tape,h.output,h.size,fun i hi hn => h.block i hi (fun f => hn (hG i f))⟩
theorem Frm.drew {F:Nat -> Prop} {a w:World} (h:Frm F a w):Frm F a w.drew:=⟨h.os,h.tape,h.output,h.size,h.block⟩
theorem Frm.drewN {F:Nat -> Prop} {a w:World} (h:Frm F a w) (n:Nat):Frm F a (w.drewN n):=⟨h.os,h.tape,h.output,h.size,h.block⟩
theorem Frm.alloc {F:Nat -> Prop} {a w:World} (h:Frm F a w) (o:Obj):Frm F a (w.alloc o) :=
 h.trans ⟨rfl,rfl,rfl,by simp,fun k hk _ => Below.heap_alloc _ _ _ hk⟩
theorem Frm.setCell {F:Nat -> Prop} {a w:World} (h:Frm F a w) {p:Addr} (hp:F p.block ∨ a.heap.size <= p.block) (u:Value):Frm F a (w.setCell p u):=by
 refine ⟨h.os,h.tape,h.output,by simp; exact h.size,fun i hi hn => ?_⟩
 rw [Below.heap_setCell _ _ _ _ (fun e => by subst e; exact hp.elim hn (fun hh => by omega))]
 exact h.block i hi hn
theorem Frm.grown {F:Nat -> Prop} {a w w':World} {row:Option Nat} (h:Frm F a w) (hg:w.grownBy w' row) (hr:∀ k,row = some k -> F k ∨ a.heap.size <= k):Frm F a w' :=
 ⟨hg.os.trans h.os,hg.tape.trans h.tape,hg.output.trans h.output,Nat.le_trans h.size hg.size,fun i hi hn =>
  (hg.block i (Nat.lt_of_lt_of_le hi h.size) (fun e => (hr i e.symm).elim hn (fun hh => by omega))).trans (h.block i hi hn)⟩
theorem Frm.putObj {F:Nat -> Prop} {a w:World} (h:Frm F a w) {l:Nat} (hl:F l ∨ a.heap.size <= l) (o:Obj):Frm F a (w.putObj l o) :=
 h.grown (grownBy_putObj' w l o) (fun k e => by cases e; exact hl)
theorem Frm.below {F:Nat -> Prop} {a b:World} (h:Frm F a b) {B:Nat} (hB:B <= a.heap.size) (hF:∀ k,F k -> B <= k):Below B a b :=
 ⟨h.os,h.tape,h.output,h.size,fun k hk => h.block k (by omega) (fun f => by have:=hF k f; omega)⟩
theorem Frm.of_below {a b:World} (h:Below a.heap.size a b) (F:Nat -> Prop):Frm F a b :=
 ⟨h.os,h.tape,h.output,h.size,fun k hk _ => h.block k hk⟩
theorem Frm.heap {F:Nat -> Prop} {a b:World} (h:Frm F a b) {k:Nat} {o:Obj} (ho:a.heap[k]? = some o) (hn:¬ F k):b.heap[k]? = some o :=
 (h.block k (Array.getElem?_eq_some_iff.1 ho).1 hn).trans ho
theorem Frm.owns {F:Nat -> Prop} {a b:World} (h:Frm F a b) {base:Nat} {e:TypeId} {size:Nat} {v:Value} {n:Nat} {xs:List Value} (ho:a.ownsRow base e size v n xs) (hn:∀ g,v.ownBlock = some g -> ¬ F g):b.ownsRow base e size v n xs:=by
 refine ⟨ho.1,?_⟩
 rcases ho.2 with h0 | ⟨g,cap,cur,rfl,hg,hh,r⟩
 ·exact .inl h0
 ·exact .inr ⟨g,cap,cur,rfl,hg,h.heap hh (hn g rfl),r⟩

theorem blk_cell {w:World} {b:Nat} {cs:Array Value} {t:TypeId} (h:w.heap[b]? = some (.cells cs t (0,0))) (i:Nat):w.cell? ⟨b,i,none⟩ = cs[i]?:=by
 simp [World.cell?,h]
theorem blk_frozen {w:World} {b:Nat} {cs:Array Value} {t:TypeId} (h:w.heap[b]? = some (.cells cs t (0,0))) (i:Nat):w.frozen? ⟨b,i,none⟩ = false:=by
 simp [World.frozen?,h]
theorem blk_set {w:World} {b:Nat} {cs:Array Value} {t:TypeId} (h:w.heap[b]? = some (.cells cs t (0,0))) (i:Nat) (u:Value) :
  (w.setCell ⟨b,i,none⟩ u).heap[b]? = some (.cells (cs.setIfInBounds i u) t (0,0)):=by
 obtain ⟨hlt,hk⟩:=Array.getElem?_eq_some_iff.1 h
 show (w.heap.modify b _)[b]? = _
 rw [Array.getElem?_eq_getElem (by rw [Array.size_modify]; exact hlt),Array.getElem_modify_self,hk]
 rfl
theorem blk_set_other {w:World} {b:Nat} {o:Obj} (h:w.heap[b]? = some o) {p:Addr} (hp:b ≠ p.block) (u:Value):(w.setCell p u).heap[b]? = some o :=
 (Below.heap_setCell w p u b hp).trans h
theorem blk_alloc {w:World} {b:Nat} {o:Obj} (h:w.heap[b]? = some o) (o':Obj):(w.alloc o').heap[b]? = some o :=
 (Below.heap_alloc w o' b (Array.getElem?_eq_some_iff.1 h).1).trans h
theorem blk_new (w:World) (o:Obj):(w.alloc o).heap[w.heap.size]? = some o:=World.alloc_heap_new w o
theorem blk_grown {w w':World} {row:Option Nat} {b:Nat} {o:Obj} (h:w.heap[b]? = some o) (hg:w.grownBy w' row) (hn:some b ≠ row):w'.heap[b]? = some o :=
 (hg.block b (Array.getElem?_eq_some_iff.1 h).1 hn).trans h
theorem blk_lt {w:World} {b:Nat} {o:Obj} (h:w.heap[b]? = some o):b < w.heap.size:=(Array.getElem?_eq_some_iff.1 h).1
theorem owns_setCell {w:World} {base:Nat} {e:TypeId} {size:Nat} {v:Value} {n:Nat} {xs:List Value} (h:w.ownsRow base e size v n xs) {p:Addr} (hp:v.ownBlock ≠ some p.block) (u:Value):(w.setCell p u).ownsRow base e size v n xs:=by
 refine ⟨h.1,?_⟩
 rcases h.2 with h0 | ⟨g,cap,cur,rfl,hg,hh,r⟩
 ·exact .inl h0
 ·exact .inr ⟨g,cap,cur,rfl,hg,blk_set_other hh (fun e => hp (by simp [Value.ownBlock,e])) u,r⟩
theorem owns_ne_type {w:World} {base:Nat} {e:TypeId} {size:Nat} {v:Value} {n:Nat} {xs:List Value} (h:w.ownsRow base e size v n xs) {b:Nat} {o:Obj} (ho:w.heap[b]? = some o) (hne:∀ c,o ≠ .cells c e (0,0)):v.ownBlock ≠ some b:=by
 intro hb
 rcases h.2 with ⟨rfl,_⟩ | ⟨g,cap,cur,rfl,_,hh,_⟩
 ·cases hb
 ·simp [Value.ownBlock] at hb
  subst hb
  rw [hh] at ho
  cases ho
  exact hne _ rfl

def MapIs (es:List MapEntry) (gs:List (ByteArray × Value)):Prop:=es.map (fun e => (e.key,e.val)) = gs.map (fun p => (Value.string p.1,p.2))
def gfind (s:ByteArray):List (ByteArray × Value) -> Nat -> Option (Nat × Value)
 | [],_ => none
 | p :: r,i => if s = p.1 then some (i,p.2) else gfind s r (i + 1)
def gget (gs:List (ByteArray × Value)) (s:ByteArray):Option Value:=(gfind s gs 0).map (·.2)
def gput:List (ByteArray × Value) -> ByteArray -> Value -> List (ByteArray × Value)
 | [],s,v => [(s,v)]
 | p :: r,s,v => if s = p.1 then (p.1,v) :: r else p :: gput r s v

theorem gfind_add (s:ByteArray):∀ (gs:List (ByteArray × Value)) (i:Nat),gfind s gs i = (gfind s gs 0).map (fun q => (q.1 + i,q.2))
 | [],_ => rfl
 | p :: r,i => by
  simp only [gfind]
  by_cases h:s = p.1
  ·simp [h]
  ·simp only [h,if_false,Nat.zero_add]
   rw [gfind_add s r (i + 1),gfind_add s r 1]
   cases gfind s r 0 <;> simp [Nat.add_assoc,Nat.add_comm 1 i]
theorem findNow_str (s:ByteArray):∀ (es:List MapEntry) (gs:List (ByteArray × Value)) (i:Nat),MapIs es gs ->
  Instr.findNow .string (.string s) es i = some (gfind s gs i)
 | [],gs,i,h => by
  have:gs = []:=by simpa [MapIs] using h.symm
  subst this
  simp [Instr.findNow,gfind]
 | e :: es,gs,i,h => by
  cases gs with
  | nil => simp [MapIs] at h
  | cons p gs =>
   simp only [MapIs,List.map_cons,List.cons.injEq,Prod.mk.injEq] at h
   obtain ⟨⟨hk,hv⟩,ht⟩:=h
   have ih:=findNow_str s es gs (i + 1) ht
   simp only [Instr.findNow,hk,Instr.sameNow,gfind]
   by_cases hs:s = p.1
   ·have hb:(s == p.1) = true:=(MapKept.bytes_beq _ _).2 hs
    rw [hb,if_pos hs,hv]
   ·have hb:(s == p.1) = false:=by
     cases h:(s == p.1) with
     | false => rfl
     | true => exact absurd ((MapKept.bytes_beq _ _).1 h) hs
    simp only [hb,hs,if_false]
    exact ih
theorem gfind_mem {s:ByteArray}:∀ {gs:List (ByteArray × Value)} {i j:Nat} {v:Value},gfind s gs i = some (j,v) -> ∃ k,j = i + k /\ gs[k]? = some (s,v)
 | [],_,_,_,h => by cases h
 | p :: r,i,j,v,h => by
  simp only [gfind] at h
  split at h
  ·rename_i hs
   cases h
   exact ⟨0,rfl,by simp [hs]⟩
  ·obtain ⟨k,hk,hm⟩:=gfind_mem h
   exact ⟨k + 1,by omega,by simpa using hm⟩
theorem gput_set {s:ByteArray} {v:Value}:∀ {gs:List (ByteArray × Value)} {i j:Nat} {u:Value},gfind s gs i = some (j,u) -> gput gs s v = gs.set (j - i) (s,v)
 | [],_,_,_,h => by cases h
 | p :: r,i,j,u,h => by
  simp only [gfind] at h
  simp only [gput]
  split at h
  ·rename_i hs
   cases h
   simp [hs]
  ·rename_i hs
   obtain ⟨k,hk,_⟩:=gfind_mem h
   rw [if_neg hs,gput_set h]
   have:j - i = (j - (i + 1)) + 1:=by omega
   rw [this]
   simp
theorem gput_new {s:ByteArray} {v:Value}:∀ {gs:List (ByteArray × Value)} {i:Nat},gfind s gs i = none -> gput gs s v = gs ++ [(s,v)]
 | [],_,_ => rfl
 | p :: r,i,h => by
  simp only [gfind] at h
  simp only [gput]
  split at h
  ·cases h
  ·rename_i hs
   rw [if_neg hs,gput_new h]
   rfl

section
variable {P:Program} {w:World}
theorem run_mapUpdate_str {t k e:TypeId} {m:Nat} {es:Array MapEntry} {clock:Nat} {gs:List (ByteArray × Value)} (s:ByteArray) (v:Value)
  (ht:P.underlying t = some (.map k e)) (hk:P.underlying k = some .string)
  (hm:w.heap[m]? = some (.map es clock)) (hg:MapIs es.toList gs) :
  ∃ es' clock',(Instr.mapUpdate t (.map (some m)) (.string s) v).run P w = .ok () (w.putObj m (.map es' clock')) /\ MapIs es'.toList (gput gs s v):=by
 have h1:=MapKept.run_findKey (P:=P) (w:=w) hk (findNow_str s es.toList gs 0 hg)
 have h2:=MapKept.run_checkKey (P:=P) (w:=w) (k:=.string s) hk (by simp [MapKept.IsKey]) false 9999
 cases hf:gfind s gs 0 with
 | none =>
  refine ⟨es.push { key:=.string s,val:=v,born:=clock },clock + 1,?_,?_⟩
  ·unfold Instr.mapUpdate
   rw [hf] at h1
   simp only [Sem.run_bind,run_underlying ht,Result.andThen,MapKept.run_getObj_map hm,h2,h1,MapKept.run_setObj_map _ hm]
   rfl
  ·rw [gput_new hf]
   simp only [MapIs,Array.toList_push,List.map_append] at hg ⊢
   rw [hg]
   rfl
 | some q =>
  obtain ⟨j,u⟩:=q
  obtain ⟨k',hk',hmem⟩:=gfind_mem hf
  obtain rfl:j = k':=by omega
  have hkey:∃ e,es[j]? = some e /\ e.key = .string s:=by
   have:=congrArg (·[j]?) hg
   simp only [List.getElem?_map,hmem,Option.map_some,Array.getElem?_toList] at this
   cases he:es[j]? with
   | none => rw [he] at this; simp at this
   | some e => rw [he] at this; simp at this; exact ⟨e,rfl,this.1⟩
  obtain ⟨e0,he0,hke⟩:=hkey
  refine ⟨es.modify j fun e => { e with key:=.string s,val:=v },clock,?_,?_⟩
  ·unfold Instr.mapUpdate
   rw [hf] at h1
   have hb:Instr.sameBits 10000 (.string s) (.string s) = true:=by simp [Instr.sameBits,(MapKept.bytes_beq s s).2 rfl]
   simp only [Sem.run_bind,run_underlying ht,Result.andThen,MapKept.run_getObj_map hm,h2,h1,he0,Option.map_some,Option.getD_some,hke,Instr.keyThatStays,hb,if_true,Sem.run_pure,MapKept.run_setObj_map _ hm]
   rfl
  ·rw [gput_set hf]
   simp only [MapIs,Nat.sub_zero] at hg ⊢
   apply List.ext_getElem?
   intro i
   have hi:=congrArg (·[i]?) hg
   simp only [List.getElem?_map,Array.getElem?_toList,Array.getElem?_modify,List.getElem?_set] at hi ⊢
   by_cases hij:j = i
   ·subst hij
    have hlt:j < gs.length:=(List.getElem?_eq_some_iff.1 hmem).1
    simp [he0,hlt]
   ·simp only [hij,if_false]
    exact hi
end

def ElemOk (P:Program) (t e size bytes:Nat):Prop :=
 P.underlying t = some (.slice e) /\ ∃ i z,P.info? e = some i /\ i.zero = some z /\ i.size = size /\ i.bytes = bytes /\ z.cells.size = size /\ 0 < size
theorem ElemOk.mk' {P:Program} {t e size bytes:Nat} {z:Value} (ht:P.underlying t = some (.slice e)) (hi:(P.info? e).map (fun i => (i.zero,i.size,i.bytes)) = some (some z,size,bytes)) (hz:z.cells.size = size) (hs:0 < size):ElemOk P t e size bytes:=by
 obtain ⟨i,hi,h0,h1,h2⟩:=info_parts hi
 exact ⟨ht,i,z,hi,h0,h1,h2,hz,hs⟩
section
variable {P:Program} {w:World} {ops:Array Oper} {o:Oper} {a:Act} {Q:Exit -> Act -> World -> Prop}
end
end Go.HK
