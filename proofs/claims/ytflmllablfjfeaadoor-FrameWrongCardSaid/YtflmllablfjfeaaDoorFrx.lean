import Derived.Test.YtflmllablfjfeaaDoorFrw
import Derived.Test.YtflmllablfjfeaaDoorEad
import Derived.Deep.RegionLawGrows
namespace Go.Proofs.YtflmllablfjfeaaDoor
open Go.RowKit Go.HK Go.FR Lib
set_option linter.unusedVariables false
set_option linter.unusedSimpArgs false
set_option linter.unusedSectionVars false
theorem info35:(Tryd.prog.info? 35).map (fun i => (i.zero,i.size,i.bytes)) = some (some (.agg #[.int .u8 0,.string ⟨#[]⟩,.slice none 0 0,.slice none 0 0]),4,72):=by kernel_rfl
theorem elem33:ElemOk Tryd.prog 33 35 4 72:=.mk' Tryd.underlying33 info35 rfl (by omega)
theorem wp_app_grows {o:Oper} {a:Act} {w:World} {K:Act -> World -> Prop} {Q:Exit -> Act -> World -> Prop} (s x:Operand) (hop:o.op = Op.call { callee:=Callee.builtin Builtin.append,args:=#[s,x],argTypes:=#[33,33] })
  (ao:Option Addr) (n cap:Nat) (olds:List Value) (hs:a.eval s = .slice ao n cap) (hnone:ao = none -> n = 0 /\ cap = 0) (hlo:olds.length = n * 4) (holds:∀ b,ao = some b -> ∀ j u,olds[j]? = some u -> w.cell? (b.add j) = some u)
  (ad:Addr) (m c:Nat) (news:List Value) (hx:a.eval x = .slice (some ad) m c) (hn:news.length = m * 4) (hc:∀ j u,news[j]? = some u -> w.cell? (ad.add j) = some u) (h1c:∀ u ∈ news,u.oneCell' = true)
  (hfull:cap < n + m) (b1:n + m <= maxLen) (b2:(n + m) * 72 <= 140737488355328)
  (hK:∀ v' w',w'.ownsRow w.heap.size 35 4 v' (n + m) (olds ++ news) -> w.grownBy w' none -> K (a.put o.dst v') w'):o.wp Tryd.prog a w K Q:=by
 obtain ⟨ht,i,z,hi,h0,h2,h3,h4,h5⟩:=elem33
 have hg:({ o with guard:=none }:Oper).guard = none:=rfl
 have:=step_append_grows (P:=Tryd.prog) (ops:=#[]) (o:={ o with guard:=none }) (a:=a) (w:=w) (K:=K) (Q:=Q) (E:=True) rfl s x 33 hop 35 i z 4 72 ht hi h0 h2 h3 h4 h5 ao n cap olds hs hnone hlo holds ad m c news hx hn hc h1c hfull b1 b2 hK
 rw [if_pos (by simp [Region.wanted])] at this
 exact this
def cellsS (L:List (Fm × SL × SL)):List Value:=L.flatMap fun p => fmV p.1 p.2.1 p.2.2
theorem cellsS_append (a b:List (Fm × SL × SL)):cellsS (a ++ b) = cellsS a ++ cellsS b:=by simp [cellsS]
theorem cellsS_len:∀ L:List (Fm × SL × SL),(cellsS L).length = L.length * 4
 | [] => rfl
 | p :: r => by
  have:=cellsS_len r
  unfold cellsS at this ⊢
  rw [List.flatMap_cons,List.length_append,this]
  simp [fmV]; omega
theorem cellsS_one (p:Fm × SL × SL):cellsS [p] = fmV p.1 p.2.1 p.2.2:=by simp [cellsS]
theorem cellsS_take:∀ (L:List (Fm × SL × SL)) (k:Nat),cellsS (L.take k) = (cellsS L).take (k * 4)
 | [],k => by simp [cellsS]
 | p :: r,0 => by simp [cellsS]
 | p :: r,k + 1 => by
  have ih:=cellsS_take r k
  have e:cellsS (p :: r) = fmV p.1 p.2.1 p.2.2 ++ cellsS r:=by simp [cellsS]
  have e2:cellsS ((p :: r).take (k + 1)) = fmV p.1 p.2.1 p.2.2 ++ cellsS (r.take k):=by simp [cellsS]
  have hl:(fmV p.1 p.2.1 p.2.2).length = 4:=rfl
  rw [e,e2,ih,List.take_append,hl,List.take_of_length_le (l:=fmV p.1 p.2.1 p.2.2) (by rw [hl]; omega),show (k + 1) * 4 - 4 = k * 4 by omega]
theorem cellsS_get:∀ {L:List (Fm × SL × SL)} {k:Nat} {p:Fm × SL × SL} (_:L[k]? = some p) (j:Nat) (v:Value),(fmV p.1 p.2.1 p.2.2)[j]? = some v -> (cellsS L)[k * 4 + j]? = some v
 | [],k,p,h,j,v,hv => by simp at h
 | q :: r,0,p,h,j,v,hv => by
  simp at h
  subst h
  have e:cellsS (q :: r) = fmV q.1 q.2.1 q.2.2 ++ cellsS r:=by simp [cellsS]
  rw [e,Nat.zero_mul,Nat.zero_add,List.getElem?_append_left (List.getElem?_eq_some_iff.1 hv).1]
  exact hv
 | q :: r,k + 1,p,h,j,v,hv => by
  have e:cellsS (q :: r) = fmV q.1 q.2.1 q.2.2 ++ cellsS r:=by simp [cellsS]
  have ih:=cellsS_get (L:=r) (k:=k) (by simpa using h) j v hv
  rw [e,List.getElem?_append_right (by simp [fmV]; omega)]
  rw [<- ih]
  congr 1
  simp [fmV]; omega
structure StkI (w:World) (v:Value) (L:List (Fm × SL × SL)) (W:World):Prop where
 ho:W.ownsRow w.heap.size 35 4 v L.length (cellsS L)
 hf:∀ p ∈ L,IsFm (fun k => w.heap.size < k /\ k < W.heap.size /\ v.ownBlock ≠ some k) W p.2.1 p.2.2 p.1
 bl:Below w.heap.size w W
 rz:W.heap[w.heap.size]? = some (.cells #[.int .u8 0,.string ⟨#[]⟩,.slice none 0 0,.slice none 0 0] 35 (0,0))
 rn:v.ownBlock ≠ some w.heap.size
theorem StkI.at {w:World} {g n c:Nat} {L:List (Fm × SL × SL)} {W W':World} (h:StkI w (.slice (some ⟨g,0,none⟩) n c) L W) (hB:Below W.heap.size W W') (hn:L.length = n) {k:Nat} {p:Fm × SL × SL} (hp:L[k]? = some p) :
  W'.cell? ⟨g,k * 4,none⟩ = some (.int .u8 (p.1.op:Int)) /\ W'.cell? ⟨g,k * 4 + 1,none⟩ = some (.string p.1.name) /\ W'.cell? ⟨g,k * 4 + 2,none⟩ = some p.2.1.v /\ W'.cell? ⟨g,k * 4 + 3,none⟩ = some p.2.2.v:=by
 have ho:=own_below9 h.ho hB
 have hk:=(List.getElem?_eq_some_iff.1 hp).1
 rw [hn] at ho
 exact ⟨(ho.cellAt _ (by omega)).trans (cellsS_get hp 0 _ rfl),(ho.cellAt _ (by omega)).trans (cellsS_get hp 1 _ rfl),(ho.cellAt _ (by omega)).trans (cellsS_get hp 2 _ rfl),(ho.cellAt _ (by omega)).trans (cellsS_get hp 3 _ rfl)⟩
theorem bytes_nil:(⟨#[]⟩:ByteArray).size = 0:=rfl
theorem join_one {W:World} {S:Nat -> Prop} {op B c:Nat} {p:Fm × SL × SL} (hop:op < 256) (hf:IsFm S W p.2.1 p.2.2 p.1) (hS:S B) (hB:W.heap[B]? = some (.cells #[.int .u8 (p.1.op:Int),.string p.1.name,p.2.1.v,p.2.2.v] 35 (0,0))):IsFm S W ⟨none,0,0⟩ ⟨some ⟨B,0,none⟩,1,c⟩ (Op1 op p.1):=by
 refine ⟨.nil none 0,?_,hop,by show (⟨#[]⟩:ByteArray).size <= maxLen; rw [bytes_nil]; omega⟩
 exact .row B 0 c [p.1] (fun _ => p.2.1) (fun _ => p.2.2) hS (fun i f hi j v hv => by
  cases i with
  | succ i => simp at hi
  | zero =>
   simp at hi; subst hi
   rw [HK.blk_cell hB]
   simpa [fmV] using hv) (fun i f hi => by
  cases i with
  | succ i => simp at hi
  | zero => simp at hi; subst hi; exact hf.t) (fun i f hi => by
  cases i with
  | succ i => simp at hi
  | zero => simp at hi; subst hi; exact hf.s) (fun f hi => by simp at hi; subst hi; exact ⟨hf.o,hf.z⟩)
theorem join_two {W:World} {S:Nat -> Prop} {op B c:Nat} {p q:Fm × SL × SL} (hop:op < 256) (hf:IsFm S W p.2.1 p.2.2 p.1) (hf2:IsFm S W q.2.1 q.2.2 q.1) (hS:S B)
  (hB:W.heap[B]? = some (.cells #[.int .u8 (p.1.op:Int),.string p.1.name,p.2.1.v,p.2.2.v,.int .u8 (q.1.op:Int),.string q.1.name,q.2.1.v,q.2.2.v] 35 (0,0))):IsFm S W ⟨none,0,0⟩ ⟨some ⟨B,0,none⟩,2,c⟩ (Op2 op p.1 q.1):=by
 refine ⟨.nil none 0,?_,hop,by show (⟨#[]⟩:ByteArray).size <= maxLen; rw [bytes_nil]; omega⟩
 exact .row B 0 c [p.1,q.1] (fun i => if i = 0 then p.2.1 else q.2.1) (fun i => if i = 0 then p.2.2 else q.2.2) hS (fun i f hi j v hv => by
  rw [HK.blk_cell hB]
  match i,hi with
  | 0,hi =>
   simp at hi; subst hi
   match j,hv with
   | 0,hv => simpa [fmV] using hv
   | 1,hv => simpa [fmV] using hv
   | 2,hv => simpa [fmV] using hv
   | 3,hv => simpa [fmV] using hv
   | j + 4,hv => simp [fmV] at hv
  | 1,hi =>
   simp at hi; subst hi
   match j,hv with
   | 0,hv => simpa [fmV] using hv
   | 1,hv => simpa [fmV] using hv
   | 2,hv => simpa [fmV] using hv
   | 3,hv => simpa [fmV] using hv
   | j + 4,hv => simp [fmV] at hv
  | i + 2,hi => simp at hi) (fun i f hi => by
  match i,hi with
  | 0,hi => simp at hi; subst hi; exact hf.t
  | 1,hi => simp at hi; subst hi; exact hf2.t
  | i + 2,hi => simp at hi) (fun i f hi => by
  match i,hi with
  | 0,hi => simp at hi; subst hi; exact hf.s
  | 1,hi => simp at hi; subst hi; exact hf2.s
  | i + 2,hi => simp at hi) (fun f hi => by
  rcases List.mem_cons.1 hi with rfl | hi
  ·exact ⟨hf.o,hf.z⟩
  ·simp at hi; subst hi; exact ⟨hf2.o,hf2.z⟩)
theorem StkI.push {w:World} {v v':Value} {L:List (Fm × SL × SL)} {p:Fm × SL × SL} {A W W':World} (h:StkI w v L A) (hAB:Below A.heap.size A W) (ho:W'.ownsRow w.heap.size 35 4 v' (L.length + 1) (cellsS L ++ fmV p.1 p.2.1 p.2.2)) (hg:W.grownBy W' v.ownBlock)
  (hv:v'.ownBlock = v.ownBlock ∨ v'.ownBlock = some W.heap.size) (hp:IsFm (fun k => w.heap.size < k /\ k < W.heap.size /\ v.ownBlock ≠ some k) W p.2.1 p.2.2 p.1):StkI w v' (L ++ [p]) W':=by
 have hcell:∀ k,w.heap.size < k /\ k < W.heap.size /\ v.ownBlock ≠ some k -> (w.heap.size < k /\ k < W'.heap.size /\ v'.ownBlock ≠ some k) /\ W'.heap[k]? = W.heap[k]?:=fun k hk => by
  refine ⟨⟨hk.1,Nat.lt_of_lt_of_le hk.2.1 hg.size,?_⟩,hg.block k hk.2.1 (fun e => hk.2.2 e.symm)⟩
  rcases hv with e | e
  ·rw [e]; exact hk.2.2
  ·rw [e]; intro h2; have:=Option.some.inj h2; omega
 have hw:=h.bl.size
 have hrz:=blk_up9 hAB h.rz
 refine ⟨by rw [List.length_append,cellsS_append,cellsS_one]; exact ho,fun q hq => ?_,?_,?_,?_⟩
 ·rcases List.mem_append.1 hq with hq | hq
  ·exact (h.hf q hq).turn fun k hk => by
    have h2:=hcell k ⟨hk.1,Nat.lt_of_lt_of_le hk.2.1 hAB.size,hk.2.2⟩
    exact ⟨h2.1,h2.2.trans (hAB.block k hk.2.1)⟩
  ·simp at hq; subst hq
   exact hp.turn hcell
 ·exact (below_tr h.bl hAB).grown hg (Nat.le_trans hw hAB.size) (fun k hk => own_ge h.ho k hk)
 ·exact HK.blk_grown hrz hg (fun e => h.rn e.symm)
 ·rcases hv with e | e
  ·rw [e]; exact h.rn
  ·rw [e]; intro h2; have:=Option.some.inj h2; have:=HK.blk_lt hrz; omega
theorem StkI.fresh {w:World} {v v':Value} {L:List (Fm × SL × SL)} {p:Fm × SL × SL} {A W:World} {j:Nat} (h:StkI w v L A) (hj:j <= L.length) (hAB:Below A.heap.size A W) (ho:W.ownsRow A.heap.size 35 4 v' (j + 1) (cellsS (L.take j) ++ fmV p.1 p.2.1 p.2.2))
  (hp:IsFm (fun k => w.heap.size < k /\ k < W.heap.size /\ v'.ownBlock ≠ some k) W p.2.1 p.2.2 p.1):StkI w v' (L.take j ++ [p]) W:=by
 have hge:=own_ge ho
 refine ⟨?_,fun q hq => ?_,below_tr h.bl hAB,blk_up9 hAB h.rz,fun e => ?_⟩
 ·rw [List.length_append,List.length_take,Nat.min_eq_left hj,cellsS_append,cellsS_one]
  exact own_mono9 ho h.bl.size
 ·rcases List.mem_append.1 hq with hq | hq
  ·exact (h.hf q (List.mem_of_mem_take hq)).turn fun k hk => ⟨⟨hk.1,Nat.lt_of_lt_of_le hk.2.1 hAB.size,fun e => by have:=hge k e; omega⟩,hAB.block k hk.2.1⟩
  ·simp at hq; subst hq; exact hp
 ·have:=hge _ e
  have:=HK.blk_lt h.rz
  omega
theorem set4 {w:World} {b:Nat} {c0 c1 c2 c3:Value} {t:TypeId} (h:w.heap[b]? = some (.cells #[c0,c1,c2,c3] t (0,0))) (v0 v1 v2 v3:Value):((((w.setCell ⟨b,0,none⟩ v0).setCell ⟨b,1,none⟩ v1).setCell ⟨b,2,none⟩ v2).setCell ⟨b,3,none⟩ v3).heap[b]? = some (.cells #[v0,v1,v2,v3] t (0,0)):=by
 have h1:(w.setCell ⟨b,0,none⟩ v0).heap[b]? = some (.cells #[v0,c1,c2,c3] t (0,0)):=HK.blk_set h 0 _
 have h2:((w.setCell ⟨b,0,none⟩ v0).setCell ⟨b,1,none⟩ v1).heap[b]? = some (.cells #[v0,v1,c2,c3] t (0,0)):=HK.blk_set h1 1 _
 have h3:(((w.setCell ⟨b,0,none⟩ v0).setCell ⟨b,1,none⟩ v1).setCell ⟨b,2,none⟩ v2).heap[b]? = some (.cells #[v0,v1,v2,c3] t (0,0)):=HK.blk_set h2 2 _
 have h4:((((w.setCell ⟨b,0,none⟩ v0).setCell ⟨b,1,none⟩ v1).setCell ⟨b,2,none⟩ v2).setCell ⟨b,3,none⟩ v3).heap[b]? = some (.cells #[v0,v1,v2,v3] t (0,0)):=HK.blk_set h3 3 _
 exact h4
theorem frm4 {a w:World} {b:Nat} (h:HK.Frm (fun j => j = b) a w) (v0 v1 v2 v3:Value):HK.Frm (fun j => j = b) a ((((w.setCell ⟨b,0,none⟩ v0).setCell ⟨b,1,none⟩ v1).setCell ⟨b,2,none⟩ v2).setCell ⟨b,3,none⟩ v3) :=
 (HK.Frm.setCell (p:=⟨b,3,none⟩) (HK.Frm.setCell (p:=⟨b,2,none⟩) (HK.Frm.setCell (p:=⟨b,1,none⟩) (HK.Frm.setCell (p:=⟨b,0,none⟩) h (.inl rfl) _) (.inl rfl) _) (.inl rfl) _) (.inl rfl) _)
theorem blk4 {w:World} {b B:Nat} {o:Obj} (h:w.heap[B]? = some o) (hn:B ≠ b) (v0 v1 v2 v3:Value):((((w.setCell ⟨b,0,none⟩ v0).setCell ⟨b,1,none⟩ v1).setCell ⟨b,2,none⟩ v2).setCell ⟨b,3,none⟩ v3).heap[B]? = some o :=
 (blk_set_other (blk_set_other (blk_set_other (blk_set_other h (p:=⟨b,0,none⟩) hn _) (p:=⟨b,1,none⟩) hn _) (p:=⟨b,2,none⟩) hn _) (p:=⟨b,3,none⟩) hn _)
def IsBy (W:World) (a:Option Addr) (l:List Nat):Prop:=∀ (i b:Nat),l[i]? = some b -> b < 256 /\ ∃ g o,a = some ⟨g,o,none⟩ /\ W.cell? ⟨g,o + i,none⟩ = some (.int .u8 (b:Int))
theorem IsBy.below {W W':World} {a:Option Addr} {l:List Nat} (h:IsBy W a l) (hB:Below W.heap.size W W'):IsBy W' a l:=fun i b hb => by
 obtain ⟨h1,g,o,ha,hc⟩:=h i b hb
 exact ⟨h1,g,o,ha,(hB.cell (p:=⟨g,o + i,none⟩) (World.block_lt_of_cell? W ⟨g,o + i,none⟩ hc)).trans hc⟩
section
variable (modal:Bool) (s:List Fm) (b:Nat)
theorem bstep_A (h:b % 10 < 3):bstep modal s b = s ++ [AtomF (pqr (b % 10))]:=by unfold bstep; simp only []; rw [if_pos h]
theorem bstep_B (h:b % 10 = 3) (hn:1 <= s.length):bstep modal s b = s.take (s.length - 1) ++ [Op1 3 (s.getD (s.length - 1) FalseF)]:=by
 unfold bstep; simp only []; rw [if_neg (by omega),if_pos ⟨h,hn⟩]
theorem bstep_C (h:3 < b % 10) (h8:b % 10 < 8) (hn:2 <= s.length):bstep modal s b = s.take (s.length - 2) ++ [Op2 (b % 10) (s.getD (s.length - 2) FalseF) (s.getD (s.length - 1) FalseF)]:=by
 unfold bstep; simp only []; rw [if_neg (by omega),if_neg (by omega),if_pos ⟨h,h8,hn⟩]
theorem bstep_D (h8:8 <= b % 10) (hn:1 <= s.length):bstep true s b = s.take (s.length - 1) ++ [Op1 (b % 10 + 2) (s.getD (s.length - 1) FalseF)]:=by
 unfold bstep; simp only []; rw [if_neg (by omega),if_neg (by omega),if_neg (by omega),if_pos ⟨h8,hn,trivial⟩]
theorem bstep_E (h8:b % 10 = 8) (hn:s.length = 0 ∨ modal = false):bstep modal s b = s ++ [FalseF]:=by
 unfold bstep; simp only []
 rw [if_neg (by omega),if_neg (by omega),if_neg (by omega),if_neg (by rintro ⟨_,h2,h3⟩; rcases hn with h | h; omega; rw [h] at h3; cases h3),if_pos h8]
theorem bstep_N (h:3 <= b % 10) (hB:b % 10 = 3 -> s.length = 0) (hC:3 < b % 10 -> b % 10 < 8 -> s.length < 2) (hD:8 <= b % 10 -> b % 10 = 9 /\ (s.length = 0 ∨ modal = false)):bstep modal s b = s:=by
 unfold bstep; simp only []
 rw [if_neg (by omega),if_neg (by rintro ⟨h1,h2⟩; have:=hB h1; omega),if_neg (by rintro ⟨h1,h2,h3⟩; have:=hC h1 h2; omega),if_neg (by rintro ⟨h1,h2,h3⟩; rcases (hD h1).2 with h | h; omega; rw [h] at h3; cases h3),if_neg (by intro h1; have:=hD (by omega); omega)]
end
theorem isFm_atom {S:Nat -> Prop} {W:World} (k:Nat):IsFm S W ⟨none,0,0⟩ ⟨none,0,0⟩ (AtomF (pqr k)):=⟨.nil none 0,.nil none 0,(show 1 < 256 by omega),(show (1:Nat) <= maxLen by unfold maxLen; omega)⟩
theorem isFm_false {S:Nat -> Prop} {W:World}:IsFm S W ⟨none,0,0⟩ ⟨none,0,0⟩ FalseF:=⟨.nil none 0,.nil none 0,(show 2 < 256 by omega),(show (0:Nat) <= maxLen by omega)⟩
theorem map_getD {L:List (Fm × SL × SL)} {k:Nat} {q:Fm × SL × SL} (h:L[k]? = some q):(L.map (·.1)).getD k FalseF = q.1:=by
 rw [List.getD_eq_getElem?_getD,List.getElem?_map,h]; rfl
def FjI (w wq:World) (f:Fm) (W:World):Prop:=Below wq.heap.size wq W /\ ∃ a s:SL,W.heap[wq.heap.size]? = some (.cells #[.int .u8 (f.op:Int),.string f.name,a.v,s.v] 35 (0,0)) /\ IsFm (fun k => w.heap.size < k /\ k < W.heap.size /\ k ≠ wq.heap.size) W a s f
theorem bjoin_succ {L:List Fm} {i:Nat} {f:Fm} (hi:1 <= i) (h:L[i]? = some f):bjoin (L.take (i + 1)) = Op2 5 (bjoin (L.take i)) f:=by
 cases L with
 | nil => simp at h
 | cons g r =>
  obtain ⟨i,rfl⟩:∃ j,i = j + 1:=⟨i - 1,by omega⟩
  have h2:r[i]? = some f:=by simpa using h
  show (r.take (i + 1)).foldl _ g = Op2 5 ((r.take i).foldl _ g) f
  rw [take_one h2,List.foldl_append]; rfl
def RetFm (w:World) (f:Fm) (e:Ending) (w':World):Prop:=∃ a s:SL,e = .returned (fv f a s) /\ Below w.heap.size w w' /\ IsFm (fun k => k < w'.heap.size) w' a s f
def RetFn (w:World) (f:Fm) (e:Ending) (w':World):Prop:=∃ a s:SL,e = .returned (fv f a s) /\ Below w.heap.size w w' /\ IsFm (fun k => w.heap.size <= k /\ k < w'.heap.size) w' a s f
set_option maxRecDepth 100000 in
set_option maxHeartbeats 16000000 in
theorem built_fresh (w:World) (kd:Nat) (a0:Option Addr) (ln lc:Nat) (l:List Nat) (hkd:kd < 256) (hl:l.length = ln) (hl2:ln <= 9223372036854775807) (hB:IsBy w a0 l) :
  Calls Tryd.prog 14 #[.int .u8 (kd:Int),.slice a0 ln lc] w (RetFn w (builtF (decide (kd = 4)) l)):=by
 obtain ⟨modal,hmod⟩:∃ modal,modal = decide (kd = 4):=⟨_,rfl⟩
 rw [<- hmod]
 have HMOD:=hid hmod
 have HB:=hid hB
 have HL:=hid hl
 clear hmod hB hl
 have hI0:StkI w (.slice none 0 0) [] (w.alloc (.cells #[.int .u8 0,.string ⟨#[]⟩,.slice none 0 0,.slice none 0 0] 35)):=⟨World.ownsRow_nil _ _ _ _,fun p hp => (by cases hp),(Below.refl _ w).alloc (Nat.le_refl _) _,HK.blk_new _ _,by simp [Value.ownBlock]⟩
 have HI0:=hid hI0
 clear hI0
 go_enter Tryd.func14,Tryd.ntmps14
 go_wp2_with (fail)
 go_loopw [5,6] (fun v i wr => ∃ (vo:Value) (k:Nat) (Ls:List (Fm × SL × SL)),vo = v /\ (k <= ln /\ k <= 20) /\ i = .int .i64 k /\ Ls.map (·.1) = (l.take k).foldl (bstep modal) [] /\ StkI w vo Ls wr) (fun _ i _ => 20 - (intOf i).toNat)
 case atStart => exact ⟨_,0,[],rfl,⟨by omega,by omega⟩,rfl,rfl,HI0.out⟩
 case round =>
  obtain ⟨vo,k,Ls,rfl,⟨hkl,hk20⟩,rfl,hLs,hI⟩:=hrel
  have hpl:=bstack_pln modal (l.take k) [] 0 ⟨rfl,by simp [nodesL]⟩
  rw [<- hLs] at hpl
  have hLl:Ls.length <= k:=by
   have h1:=nodesL_len (Ls.map (·.1))
   have h2:=hpl.2
   rw [List.length_map] at h1
   have:(l.take k).length <= k:=by rw [List.length_take]; omega
   omega
  have HI:=hid hI
  have b0:(0:Int) <= (k:Int):=by omega
  by_cases hin:k < ln /\ k < 20
  ·obtain ⟨hk1,hk2⟩:=hin
   obtain ⟨b,hb⟩:∃ b,l[k]? = some b:=⟨_,List.getElem?_eq_getElem (by rw [HL.out]; exact hk1)⟩
   obtain ⟨hb256,g0,o0,ha0,hc0⟩:=HB.out.below hI.bl k b hb
   subst ha0
   obtain ⟨n,hLn⟩:∃ n,Ls.length = n:=⟨_,rfl⟩
   obtain ⟨p,hp⟩:∃ p,p = b % 10:=⟨_,rfl⟩
   have hp10:p < 10:=by omega
   have hm1:(b:Int) % 10 = (p:Int):=by omega
   have hm2:(b:Int).tmod 10 = (p:Int):=by rw [hp]; exact (Int.ofNat_tmod b 10).symm
   have HSTP:Hid ((l.take (k + 1)).foldl (bstep modal) [] = bstep modal (Ls.map (·.1)) b):=hid (by rw [take_one hb,List.foldl_append,<- hLs]; rfl)
   have HK20:Hid (k < ln /\ k < 20):=hid ⟨hk1,hk2⟩
   have hk2i:(k:Int) < 20:=by omega
   have HP:=hid hp
   have HLN:=hid hLn
   have hn20:n <= 20:=by omega
   have HN20:=hid hn20
   have hform:vo = .slice none 0 0 /\ n = 0 ∨ ∃ g c,vo = .slice (some ⟨g,0,none⟩) n c /\ n <= c:=by
    have h:=hI.ho
    rw [hLn] at h
    rcases h.2 with ⟨h0,h1⟩ | ⟨g',cap,cur,h1,_,_,h2,_⟩
    ·exact .inl ⟨h0,h1⟩
    ·exact .inr ⟨g',cap,h1,h2⟩
   have hvn:∃ ad cc,vo = .slice ad n cc:=by
    rcases hform with ⟨h1,h2⟩ | ⟨g,c,h1,_⟩
    ·exact ⟨none,0,by rw [h1,h2]⟩
    ·exact ⟨_,_,h1⟩
   have hbp:True:=trivial
   clear hLs hpl hb hp hkl hk20
   have key:(p < 3) ∨ (p = 3 /\ 1 <= n) ∨ (p = 3 /\ n = 0) ∨ (3 < p /\ p < 8 /\ 2 <= n) ∨ (3 < p /\ p < 8 /\ n < 2) ∨ (8 <= p /\ 1 <= n /\ kd = 4) ∨ (p = 8 /\ n = 0) ∨ (p = 8 /\ 1 <= n /\ ¬ kd = 4) ∨ (p = 9 /\ n = 0) ∨ (p = 9 /\ 1 <= n /\ ¬ kd = 4):=by omega
   have HATM:=hid (atom_call wr (pqr p))
   have HJ2:Hid (Calls Tryd.prog 15 #[.int .u8 2,.slice none 0 0] wr fun e w' => e = .returned (.agg #[.int .u8 2,.string ⟨#[]⟩,.slice none 0 0,.slice none 0 0]) /\ w' = wr.alloc (.cells #[.int .u8 2,.string ⟨#[]⟩,.slice none 0 0,.slice none 0 0] 35)):=hid (join_call wr 2 none 0 0)
   have henc:=enc80
   have hu80:p < 3 -> Utf8.encode (80 + (p:Int)) = pqr p:=fun h => enc80 p (by omega)
   clear henc
   rcases key with hsc | hsc | hsc | hsc | hsc | hsc | hsc | hsc | hsc | hsc
   ·have c1:(p:Int) < 3:=by omega
    have c1b:p < 3:=by omega
    obtain ⟨ad,cc,rfl⟩:=hvn
    have HNX:Hid (bstep modal (Ls.map (·.1)) b = Ls.map (·.1) ++ [AtomF (pqr p)]):=hid (by rw [bstep_A _ _ _ (by rw [<- HP.out]; omega),<- HP.out])
    have hown0:=hI.ho
    rw [hLn] at hown0
    have HOW:=hid hown0
    have HBS:=hid hI.bl.size
    clear hI hLl hbp hsc hform hown0 hLn
    go_wp2_with (first
     | (go_at_call 29; ((with_reducible refine HATM.out.mono ?_); rintro e w2 ⟨rfl,hw2⟩; subst hw2))
     | (
      at_builtin
      refine wpList_app_any rfl elem33 _ _ rfl (.slice ad n cc) w.heap.size n (cellsS Ls) rfl ((HOW.out.alloc _).alloc _) ⟨(wr.alloc (.cells #[.int .u8 1,.string (pqr p),.slice none 0 0,.slice none 0 0] 35)).heap.size,0,none⟩ 1 1 [.int .u8 1,.string (pqr p),.slice none 0 0,.slice none 0 0] (by simp [Act.eval]) rfl (fun j u hj => by rw [addr_add0,HK.blk_cell (HK.blk_new _ _),List.getElem?_toArray]; exact hj) (by simp [Value.oneCell']) (by have:=HN20.out; simp only [maxLen]; omega) (by have:=HN20.out; omega) (Nat.le_trans HBS.out (by simp; omega)) ?_
      intro v3 w3 hown hgrow hnil hat))
    rw [<- HLN.out] at hown
    have hst:=HI.out.push (p:=(AtomF (pqr p),⟨none,0,0⟩,⟨none,0,0⟩)) (((Below.refl _ wr).alloc (Nat.le_refl _) _).alloc (by simp) _) hown hgrow hat (isFm_atom p)
    have HST:=hid hst
    clear hst hown hgrow hat hnil
    go_roundw
    case rel => exact ⟨_,k + 1,_,rfl,by have:=HK20.out; omega,by go_num,by rw [HSTP.out,HNX.out]; simp,HST.out⟩
    case measure => have:=HK20.out; simp [intOf]; omega
   ·have c1:¬ (p:Int) < 3:=by omega
    have c1b:¬ p < 3:=by omega
    have c2:((p:Int) == 3) = true:=by simp; omega
    have c3:(1:Int) <= (n:Int):=by omega
    have c3b:1 <= n:=by omega
    have hn0:1 <= n:=by omega
    obtain ⟨g,c,rfl,hnc⟩:∃ g c,vo = .slice (some ⟨g,0,none⟩) n c /\ n <= c:=by
     rcases hform with ⟨_,h2⟩ | h
     ·omega
     ·exact h
    obtain ⟨j,hj⟩:∃ j,j = n - 1:=⟨_,rfl⟩
    obtain ⟨⟨ef,⟨ea0,ea1,ea2⟩,⟨es0,es1,es2⟩⟩,hee⟩:∃ q,Ls[j]? = some q:=⟨_,List.getElem?_eq_getElem (by omega)⟩
    obtain ⟨eo,heo⟩:∃ o,o = ef.op:=⟨_,rfl⟩
    obtain ⟨em,hem⟩:∃ m,m = ef.name:=⟨_,rfl⟩
    have HCE:Hid (∀ W,Below wr.heap.size wr W -> W.cell? ⟨g,j * 4,none⟩ = some (.int .u8 (eo:Int)) /\ W.cell? ⟨g,j * 4 + 1,none⟩ = some (.string em) /\ W.cell? ⟨g,j * 4 + 2,none⟩ = some (.slice ea0 ea1 ea2) /\ W.cell? ⟨g,j * 4 + 3,none⟩ = some (.slice es0 es1 es2)):=hid fun W h => by
     rw [heo,hem]; exact hI.at h hLn hee
    have HeF:Hid (IsFm (fun k => w.heap.size < k /\ k < wr.heap.size /\ (Value.slice (some ⟨g,0,none⟩) n c).ownBlock ≠ some k) wr ⟨ea0,ea1,ea2⟩ ⟨es0,es1,es2⟩ ef):=hid (hI.hf _ (List.mem_of_getElem? hee))
    have HeO:=hid heo
    have HeM:=hid hem
    have HeE:=hid hee
    have HJ:Hid ((0:Int) <= (j:Int) /\ (j:Int) < (n:Int)):=hid (by omega)
    have HJC:Hid ((0:Int) <= (j:Int) /\ (j:Int) <= (c:Int)):=hid (by omega)
    have HJL:Hid (j <= Ls.length):=hid (by omega)
    have HS1:Hid (IntKind.i64.wrap ((n:Int) - 1) = (j:Int) /\ wrap64 ((n:Int) - 1) = (j:Int) /\ (n:Int) - 1 = (j:Int)):=hid (by rw [<- IntWalk.i64_left,IntWalk.i64_in _ (by omega)]; omega)
    have HTL:Hid ((cellsS (Ls.take j)).length = j * 4):=hid (by rw [cellsS_len,List.length_take,Nat.min_eq_left (by omega)])
    have HTC:Hid (∀ W,Below wr.heap.size wr W -> ∀ jj u,(cellsS (Ls.take j))[jj]? = some u -> W.cell? ((⟨g,0,none⟩:Addr).add jj) = some u):=hid fun W h jj u hu => by
     have ho:=own_below9 hI.ho h
     rw [hLn] at ho
     rw [cellsS_take,List.getElem?_take] at hu
     split at hu
     ·rw [addr_add0,ho.cellAt _ (by omega)]; exact hu
     ·cases hu
    have HQ256:Hid (3 < 256):=hid (by decide)
    have HNX:Hid (bstep modal (Ls.map (·.1)) b = (Ls.take j).map (·.1) ++ [Op1 3 ef]):=hid (by
     have hl9:(Ls.map (·.1)).length = n:=by rw [List.length_map]; exact hLn
     rw [bstep_B _ _ _ (by rw [<- HP.out]; omega) (by omega),hl9,<- hj,map_getD hee,List.map_take])
    clear hI hLl hbp hsc hform hvn hLn hj heo hem hee hnc
    obtain ⟨wb,hwb⟩:∃ wb:World,wb = wr:=⟨_,rfl⟩
    subst hwb
    go_upto_region 10 with (fail)
    refine Go.RE.wp_region_eachh [46,47,48,49,50,51,52,53,54,55,56,57,58,59,60,5] (fun L x W => (Below wb.heap.size wb W) /\ (L 0 = true -> x 46 = .slice (some ⟨g,0,none⟩) n c) /\ (L 1 = true -> x 47 = .int .i64 (n:Int)) /\ (L 2 = true -> x 48 = .int .i64 (j:Int)) /\ (L 3 = true -> x 49 = .int .i64 (n:Int)) /\ (L 4 = true -> x 50 = .int .i64 (j:Int)) /\ (L 5 = true -> x 51 = .slice (some ⟨g,0,none⟩) j j) /\ (L 6 = true -> x 52 = .slice (some ⟨g,0,none⟩) n c) /\ (L 7 = true -> x 53 = .int .i64 (n:Int)) /\ (L 8 = true -> x 54 = .int .i64 (j:Int)) /\ (L 9 = true -> x 55 = .pointer (some ⟨g,j * 4,none⟩)) /\ (L 10 = true -> x 56 = .agg #[.int .u8 (eo:Int),.string em,.slice ea0 ea1 ea2,.slice es0 es1 es2]) /\ (L 11 = true -> ∃ B,x 57 = .slice (some ⟨B,0,none⟩) 1 1 /\ W.heap[B]? = some (.cells #[.int .u8 (eo:Int),.string em,.slice ea0 ea1 ea2,.slice es0 es1 es2] 35 (0,0)) /\ wb.heap.size <= B /\ B < W.heap.size) /\ (L 12 = true -> ∃ B,x 58 = .agg #[.int .u8 (3:Int),.string ⟨#[]⟩,.slice none 0 0,.slice (some ⟨B,0,none⟩) 1 1] /\ W.heap[B]? = some (.cells #[.int .u8 (eo:Int),.string em,.slice ea0 ea1 ea2,.slice es0 es1 es2] 35 (0,0)) /\ wb.heap.size <= B /\ B < W.heap.size) /\ (L 13 = true -> ∃ B B2,x 59 = .slice (some ⟨B2,0,none⟩) 1 1 /\ W.heap[B2]? = some (.cells #[.int .u8 (3:Int),.string ⟨#[]⟩,.slice none 0 0,.slice (some ⟨B,0,none⟩) 1 1] 35 (0,0)) /\ W.heap[B]? = some (.cells #[.int .u8 (eo:Int),.string em,.slice ea0 ea1 ea2,.slice es0 es1 es2] 35 (0,0)) /\ wb.heap.size <= B /\ B < W.heap.size) /\ (L 14 = true -> ∃ B v',x 60 = v' /\ (∃ g c,v' = .slice (some ⟨g,0,none⟩) (j + 1) c) /\ (W.ownsRow wb.heap.size 35 4 v' (j + 1) (cellsS (Ls.take j) ++ [.int .u8 (3:Int),.string ⟨#[]⟩,.slice none 0 0,.slice (some ⟨B,0,none⟩) 1 1]) /\ v'.ownBlock ≠ some B) /\ W.heap[B]? = some (.cells #[.int .u8 (eo:Int),.string em,.slice ea0 ea1 ea2,.slice es0 es1 es2] 35 (0,0)) /\ wb.heap.size <= B /\ B < W.heap.size) /\ (L 15 = true -> L 0 = true /\ L 5 = true /\ L 6 = true /\ L 8 = true /\ L 9 = true /\ L 10 = true /\ L 11 = true /\ L 12 = true /\ L 13 = true /\ L 14 = true /\ ∃ B v',x 5 = v' /\ (∃ g c,v' = .slice (some ⟨g,0,none⟩) (j + 1) c) /\ (W.ownsRow wb.heap.size 35 4 v' (j + 1) (cellsS (Ls.take j) ++ [.int .u8 (3:Int),.string ⟨#[]⟩,.slice none 0 0,.slice (some ⟨B,0,none⟩) 1 1]) /\ v'.ownBlock ≠ some B) /\ W.heap[B]? = some (.cells #[.int .u8 (eo:Int),.string em,.slice ea0 ea1 ea2,.slice es0 es1 es2] 35 (0,0)) /\ wb.heap.size <= B /\ B < W.heap.size)) (by kernel_rfl) (by kernel_rfl) (by kernel_rfl) ?_ ((Go.RE.Each.cons ?_ (Go.RE.Each.cons ?_ (Go.RE.Each.cons ?_ (Go.RE.Each.cons ?_ (Go.RE.Each.cons ?_ (Go.RE.Each.cons ?_ (Go.RE.Each.cons ?_ (Go.RE.Each.cons ?_ (Go.RE.Each.cons ?_ (Go.RE.Each.cons ?_ (Go.RE.Each.cons ?_ (Go.RE.Each.cons ?_ (Go.RE.Each.cons ?_ (Go.RE.Each.cons ?_ (Go.RE.Each.cons ?_ (Go.RE.Each.cons ?_ Go.RE.Each.nil))))))))))))))))) ?_
    ·exact fun x => ⟨bl_dr (Below.refl _ _),fun h => (by cases h),fun h => (by cases h),fun h => (by cases h),fun h => (by cases h),fun h => (by cases h),fun h => (by cases h),fun h => (by cases h),fun h => (by cases h),fun h => (by cases h),fun h => (by cases h),fun h => (by cases h),fun h => (by cases h),fun h => (by cases h),fun h => (by cases h),fun h => (by cases h),fun h => (by cases h)⟩
    ·intro L x a wR K hL hd hf hx hy hΦ hK
     obtain ⟨hI,f0,f1,f2,f3,f4,f5,f6,f7,f8,f9,f10,f11,f12,f13,f14,f15⟩:=hΦ
     refine ⟨fun _ => ?_,fun h => absurd h (by rw [Go.RE.wanted_none rfl]; decide)⟩
     have hL15:L 15 = false:=by rcases e:L 15 with _ | _; rfl; have hh:=f15 e; simp [hL] at hh
     have e5:a.tmps[5]? = some (.slice (some ⟨g,0,none⟩) n c):=hy 15 _ 5 rfl rfl hL15
     clear hf hx hd hy
     go_simp
     refine hK _ _ ?_
     exact ⟨hI,fun _ => rfl,fun h => f1 h,fun h => f2 h,fun h => f3 h,fun h => f4 h,fun h => f5 h,fun h => f6 h,fun h => f7 h,fun h => f8 h,fun h => f9 h,fun h => f10 h,fun h => f11 h,fun h => f12 h,fun h => f13 h,fun h => f14 h,fun h => by have hh:=f15 h; simp [hL] at hh⟩
    ·intro L x a wR K hL hd hf hx hy hΦ hK
     obtain ⟨hI,f0,f1,f2,f3,f4,f5,f6,f7,f8,f9,f10,f11,f12,f13,f14,f15⟩:=hΦ
     refine ⟨fun _ => ?_,fun h => absurd h (by rw [Go.RE.wanted_none rfl]; decide)⟩
     have e7:a.tmps[7]? = some (.int .i64 (n:Int)):=hf 7 (of_decide_eq_true (by kernel_rfl))
     clear hf hx hd hy
     go_simp
     refine hK _ _ ?_
     exact ⟨hI,fun h => f0 h,fun _ => rfl,fun h => f2 h,fun h => f3 h,fun h => f4 h,fun h => f5 h,fun h => f6 h,fun h => f7 h,fun h => f8 h,fun h => f9 h,fun h => f10 h,fun h => f11 h,fun h => f12 h,fun h => f13 h,fun h => f14 h,fun h => f15 h⟩
    ·intro L x a wR K hL hd hf hx hy hΦ hK
     obtain ⟨hI,f0,f1,f2,f3,f4,f5,f6,f7,f8,f9,f10,f11,f12,f13,f14,f15⟩:=hΦ
     refine ⟨fun _ => ?_,fun h => absurd h (by rw [Go.RE.wanted_none rfl]; decide)⟩
     have d1:=f1 (hd 1 (by kernel_rfl))
     have e47:a.tmps[47]? = some (x 47):=hx 1 _ 47 rfl rfl (hd 1 (by kernel_rfl))
     rw [d1] at e47
     have sb1:=HS1.out.1
     have sb2:=HS1.out.2.1
     clear hf hx hd hy
     go_simp
     refine hK _ _ ?_
     exact ⟨hI,fun h => f0 h,fun h => f1 h,fun _ => rfl,fun h => f3 h,fun h => f4 h,fun h => f5 h,fun h => f6 h,fun h => f7 h,fun h => f8 h,fun h => f9 h,fun h => f10 h,fun h => f11 h,fun h => f12 h,fun h => f13 h,fun h => f14 h,fun h => f15 h⟩
    ·intro L x a wR K hL hd hf hx hy hΦ hK
     obtain ⟨hI,f0,f1,f2,f3,f4,f5,f6,f7,f8,f9,f10,f11,f12,f13,f14,f15⟩:=hΦ
     refine ⟨fun _ => ?_,fun h => absurd h (by rw [Go.RE.wanted_none rfl]; decide)⟩
     have e7:a.tmps[7]? = some (.int .i64 (n:Int)):=hf 7 (of_decide_eq_true (by kernel_rfl))
     clear hf hx hd hy
     go_simp
     refine hK _ _ ?_
     exact ⟨hI,fun h => f0 h,fun h => f1 h,fun h => f2 h,fun _ => rfl,fun h => f4 h,fun h => f5 h,fun h => f6 h,fun h => f7 h,fun h => f8 h,fun h => f9 h,fun h => f10 h,fun h => f11 h,fun h => f12 h,fun h => f13 h,fun h => f14 h,fun h => f15 h⟩
    ·intro L x a wR K hL hd hf hx hy hΦ hK
     obtain ⟨hI,f0,f1,f2,f3,f4,f5,f6,f7,f8,f9,f10,f11,f12,f13,f14,f15⟩:=hΦ
     refine ⟨fun _ => ?_,fun h => absurd h (by rw [Go.RE.wanted_none rfl]; decide)⟩
     have d3:=f3 (hd 3 (by kernel_rfl))
     have e49:a.tmps[49]? = some (x 49):=hx 3 _ 49 rfl rfl (hd 3 (by kernel_rfl))
     rw [d3] at e49
     have sb1:=HS1.out.1
     have sb2:=HS1.out.2.1
     clear hf hx hd hy
     go_simp
     refine hK _ _ ?_
     exact ⟨hI,fun h => f0 h,fun h => f1 h,fun h => f2 h,fun h => f3 h,fun _ => rfl,fun h => f5 h,fun h => f6 h,fun h => f7 h,fun h => f8 h,fun h => f9 h,fun h => f10 h,fun h => f11 h,fun h => f12 h,fun h => f13 h,fun h => f14 h,fun h => f15 h⟩
    ·intro L x a wR K hL hd hf hx hy hΦ hK
     obtain ⟨hI,f0,f1,f2,f3,f4,f5,f6,f7,f8,f9,f10,f11,f12,f13,f14,f15⟩:=hΦ
     refine ⟨fun _ => ?_,fun h => absurd h (by rw [Go.RE.wanted_none rfl]; decide)⟩
     have d0:=f0 (hd 0 (by kernel_rfl))
     have e46:a.tmps[46]? = some (x 46):=hx 0 _ 46 rfl rfl (hd 0 (by kernel_rfl))
     rw [d0] at e46
     have d2:=f2 (hd 2 (by kernel_rfl))
     have e48:a.tmps[48]? = some (x 48):=hx 2 _ 48 rfl rfl (hd 2 (by kernel_rfl))
     rw [d2] at e48
     have d4:=f4 (hd 4 (by kernel_rfl))
     have e50:a.tmps[50]? = some (x 50):=hx 4 _ 50 rfl rfl (hd 4 (by kernel_rfl))
     rw [d4] at e50
     have l1:=HJC.out.1
     have l2:=HJC.out.2
     clear hf hx hd hy
     go_simp
     refine hK _ _ ?_
     exact ⟨hI,fun h => f0 h,fun h => f1 h,fun h => f2 h,fun h => f3 h,fun h => f4 h,fun _ => rfl,fun h => f6 h,fun h => f7 h,fun h => f8 h,fun h => f9 h,fun h => f10 h,fun h => f11 h,fun h => f12 h,fun h => f13 h,fun h => f14 h,fun h => by have hh:=f15 h; simp [hL] at hh⟩
    ·intro L x a wR K hL hd hf hx hy hΦ hK
     obtain ⟨hI,f0,f1,f2,f3,f4,f5,f6,f7,f8,f9,f10,f11,f12,f13,f14,f15⟩:=hΦ
     refine ⟨fun _ => ?_,fun h => absurd h (by rw [Go.RE.wanted_none rfl]; decide)⟩
     have hL15:L 15 = false:=by rcases e:L 15 with _ | _; rfl; have hh:=f15 e; simp [hL] at hh
     have e5:a.tmps[5]? = some (.slice (some ⟨g,0,none⟩) n c):=hy 15 _ 5 rfl rfl hL15
     clear hf hx hd hy
     go_simp
     refine hK _ _ ?_
     exact ⟨hI,fun h => f0 h,fun h => f1 h,fun h => f2 h,fun h => f3 h,fun h => f4 h,fun h => f5 h,fun _ => rfl,fun h => f7 h,fun h => f8 h,fun h => f9 h,fun h => f10 h,fun h => f11 h,fun h => f12 h,fun h => f13 h,fun h => f14 h,fun h => by have hh:=f15 h; simp [hL] at hh⟩
    ·intro L x a wR K hL hd hf hx hy hΦ hK
     obtain ⟨hI,f0,f1,f2,f3,f4,f5,f6,f7,f8,f9,f10,f11,f12,f13,f14,f15⟩:=hΦ
     refine ⟨fun _ => ?_,fun h => absurd h (by rw [Go.RE.wanted_none rfl]; decide)⟩
     have e7:a.tmps[7]? = some (.int .i64 (n:Int)):=hf 7 (of_decide_eq_true (by kernel_rfl))
     clear hf hx hd hy
     go_simp
     refine hK _ _ ?_
     exact ⟨hI,fun h => f0 h,fun h => f1 h,fun h => f2 h,fun h => f3 h,fun h => f4 h,fun h => f5 h,fun h => f6 h,fun _ => rfl,fun h => f8 h,fun h => f9 h,fun h => f10 h,fun h => f11 h,fun h => f12 h,fun h => f13 h,fun h => f14 h,fun h => f15 h⟩
    ·intro L x a wR K hL hd hf hx hy hΦ hK
     obtain ⟨hI,f0,f1,f2,f3,f4,f5,f6,f7,f8,f9,f10,f11,f12,f13,f14,f15⟩:=hΦ
     refine ⟨fun _ => ?_,fun h => absurd h (by rw [Go.RE.wanted_none rfl]; decide)⟩
     have d7:=f7 (hd 7 (by kernel_rfl))
     have e53:a.tmps[53]? = some (x 53):=hx 7 _ 53 rfl rfl (hd 7 (by kernel_rfl))
     rw [d7] at e53
     have sb1:=HS1.out.1
     have sb2:=HS1.out.2.1
     clear hf hx hd hy
     go_simp
     refine hK _ _ ?_
     exact ⟨hI,fun h => f0 h,fun h => f1 h,fun h => f2 h,fun h => f3 h,fun h => f4 h,fun h => f5 h,fun h => f6 h,fun h => f7 h,fun _ => rfl,fun h => f9 h,fun h => f10 h,fun h => f11 h,fun h => f12 h,fun h => f13 h,fun h => f14 h,fun h => by have hh:=f15 h; simp [hL] at hh⟩
    ·intro L x a wR K hL hd hf hx hy hΦ hK
     obtain ⟨hI,f0,f1,f2,f3,f4,f5,f6,f7,f8,f9,f10,f11,f12,f13,f14,f15⟩:=hΦ
     refine ⟨fun _ => ?_,fun h => absurd h (by rw [Go.RE.wanted_none rfl]; decide)⟩
     have d6:=f6 (hd 6 (by kernel_rfl))
     have e52:a.tmps[52]? = some (x 52):=hx 6 _ 52 rfl rfl (hd 6 (by kernel_rfl))
     rw [d6] at e52
     have d8:=f8 (hd 8 (by kernel_rfl))
     have e54:a.tmps[54]? = some (x 54):=hx 8 _ 54 rfl rfl (hd 8 (by kernel_rfl))
     rw [d8] at e54
     have l1:=HJ.out.1
     have l2:=HJ.out.2
     clear hf hx hd hy
     go_simp
     refine hK _ _ ?_
     exact ⟨hI,fun h => f0 h,fun h => f1 h,fun h => f2 h,fun h => f3 h,fun h => f4 h,fun h => f5 h,fun h => f6 h,fun h => f7 h,fun h => f8 h,fun _ => rfl,fun h => f10 h,fun h => f11 h,fun h => f12 h,fun h => f13 h,fun h => f14 h,fun h => by have hh:=f15 h; simp [hL] at hh⟩
    ·intro L x a wR K hL hd hf hx hy hΦ hK
     obtain ⟨hI,f0,f1,f2,f3,f4,f5,f6,f7,f8,f9,f10,f11,f12,f13,f14,f15⟩:=hΦ
     refine ⟨fun _ => ?_,fun h => absurd h (by rw [Go.RE.wanted_none rfl]; decide)⟩
     have d9:=f9 (hd 9 (by kernel_rfl))
     have e55:a.tmps[55]? = some (x 55):=hx 9 _ 55 rfl rfl (hd 9 (by kernel_rfl))
     rw [d9] at e55
     obtain ⟨c0,c1,c2,c3⟩:=HCE.out _ hI
     clear hf hx hd hy
     go_simp
     refine hK _ _ ?_
     exact ⟨hI,fun h => f0 h,fun h => f1 h,fun h => f2 h,fun h => f3 h,fun h => f4 h,fun h => f5 h,fun h => f6 h,fun h => f7 h,fun h => f8 h,fun h => f9 h,fun _ => rfl,fun h => f11 h,fun h => f12 h,fun h => f13 h,fun h => f14 h,fun h => by have hh:=f15 h; simp [hL] at hh⟩
    ·intro L x a wR K hL hd hf hx hy hΦ hK
     obtain ⟨hI,f0,f1,f2,f3,f4,f5,f6,f7,f8,f9,f10,f11,f12,f13,f14,f15⟩:=hΦ
     refine ⟨fun _ => ?_,fun h => absurd h (by rw [Go.RE.wanted_none rfl]; decide)⟩
     have d10:=f10 (hd 10 (by kernel_rfl))
     have e56:a.tmps[56]? = some (x 56):=hx 10 _ 56 rfl rfl (hd 10 (by kernel_rfl))
     rw [d10] at e56
     clear hf hx hd hy
     go_simp
     refine hK _ _ ?_
     exact ⟨hI.alloc hI.size _,fun h => f0 h,fun h => f1 h,fun h => f2 h,fun h => f3 h,fun h => f4 h,fun h => f5 h,fun h => f6 h,fun h => f7 h,fun h => f8 h,fun h => f9 h,fun h => f10 h,fun _ => ⟨wR.heap.size,rfl,HK.blk_new _ _,hI.size,by simp⟩,fun h => (f12 h).imp fun B h => ⟨h.1,blk_up9 ((Below.refl _ wR).alloc (Nat.le_refl _) _) h.2.1,h.2.2.1,Nat.lt_of_lt_of_le h.2.2.2 ((Below.refl _ wR).alloc (Nat.le_refl _) _).size⟩,fun h => (f13 h).imp fun B h => h.imp fun B2 h => ⟨h.1,blk_up9 ((Below.refl _ wR).alloc (Nat.le_refl _) _) h.2.1,blk_up9 ((Below.refl _ wR).alloc (Nat.le_refl _) _) h.2.2.1,h.2.2.2.1,Nat.lt_of_lt_of_le h.2.2.2.2 ((Below.refl _ wR).alloc (Nat.le_refl _) _).size⟩,fun h => (f14 h).imp fun B h => h.imp fun v h => ⟨h.1,h.2.1,⟨own_below9 h.2.2.1.1 ((Below.refl _ wR).alloc (Nat.le_refl _) _),h.2.2.1.2⟩,blk_up9 ((Below.refl _ wR).alloc (Nat.le_refl _) _) h.2.2.2.1,h.2.2.2.2.1,Nat.lt_of_lt_of_le h.2.2.2.2.2 ((Below.refl _ wR).alloc (Nat.le_refl _) _).size⟩,fun h => by have hh:=f15 h; simp [hL] at hh⟩
    ·intro L x a wR K hL hd hf hx hy hΦ hK
     obtain ⟨hI,f0,f1,f2,f3,f4,f5,f6,f7,f8,f9,f10,f11,f12,f13,f14,f15⟩:=hΦ
     refine ⟨fun _ => ?_,fun h => absurd h (by rw [Go.RE.wanted_none rfl]; decide)⟩
     have d11:=f11 (hd 11 (by kernel_rfl))
     have e57:a.tmps[57]? = some (x 57):=hx 11 _ 57 rfl rfl (hd 11 (by kernel_rfl))
     clear hf hx hd hy
     obtain ⟨B,hB0,hb1,hb2,hb3⟩:=d11
     rw [hB0] at e57
     have HJO:=hid (join_call wR 3 (some ⟨B,0,none⟩) 1 1)
     try simp only [show ((3:Nat):Int) = 3 from rfl] at HJO
     go_simp
     go_at_call 15
     with_reducible refine HJO.out.mono ?_
     rintro e w' ⟨rfl,hw8⟩
     have hB8:Below wR.heap.size wR w':=by rw [hw8]; exact (Below.refl _ wR).alloc (Nat.le_refl _) _
     simp only
     refine hK _ _ ?_
     exact ⟨below_tr hI hB8,fun h => f0 h,fun h => f1 h,fun h => f2 h,fun h => f3 h,fun h => f4 h,fun h => f5 h,fun h => f6 h,fun h => f7 h,fun h => f8 h,fun h => f9 h,fun h => f10 h,fun h => (f11 h).imp fun B h => ⟨h.1,blk_up9 hB8 h.2.1,h.2.2.1,Nat.lt_of_lt_of_le h.2.2.2 hB8.size⟩,fun _ => ⟨B,rfl,blk_up9 hB8 hb1,hb2,Nat.lt_of_lt_of_le hb3 hB8.size⟩,fun h => (f13 h).imp fun B h => h.imp fun B2 h => ⟨h.1,blk_up9 hB8 h.2.1,blk_up9 hB8 h.2.2.1,h.2.2.2.1,Nat.lt_of_lt_of_le h.2.2.2.2 hB8.size⟩,fun h => (f14 h).imp fun B h => h.imp fun v h => ⟨h.1,h.2.1,⟨own_below9 h.2.2.1.1 hB8,h.2.2.1.2⟩,blk_up9 hB8 h.2.2.2.1,h.2.2.2.2.1,Nat.lt_of_lt_of_le h.2.2.2.2.2 hB8.size⟩,fun h => by have hh:=f15 h; simp [hL] at hh⟩
    ·intro L x a wR K hL hd hf hx hy hΦ hK
     obtain ⟨hI,f0,f1,f2,f3,f4,f5,f6,f7,f8,f9,f10,f11,f12,f13,f14,f15⟩:=hΦ
     refine ⟨fun _ => ?_,fun h => absurd h (by rw [Go.RE.wanted_none rfl]; decide)⟩
     have d12:=f12 (hd 12 (by kernel_rfl))
     have e58:a.tmps[58]? = some (x 58):=hx 12 _ 58 rfl rfl (hd 12 (by kernel_rfl))
     clear hf hx hd hy
     obtain ⟨B,hB0,hb1,hb2,hb3⟩:=d12
     rw [hB0] at e58
     go_simp
     refine hK _ _ ?_
     exact ⟨hI.alloc hI.size _,fun h => f0 h,fun h => f1 h,fun h => f2 h,fun h => f3 h,fun h => f4 h,fun h => f5 h,fun h => f6 h,fun h => f7 h,fun h => f8 h,fun h => f9 h,fun h => f10 h,fun h => (f11 h).imp fun B h => ⟨h.1,blk_up9 ((Below.refl _ wR).alloc (Nat.le_refl _) _) h.2.1,h.2.2.1,Nat.lt_of_lt_of_le h.2.2.2 ((Below.refl _ wR).alloc (Nat.le_refl _) _).size⟩,fun h => (f12 h).imp fun B h => ⟨h.1,blk_up9 ((Below.refl _ wR).alloc (Nat.le_refl _) _) h.2.1,h.2.2.1,Nat.lt_of_lt_of_le h.2.2.2 ((Below.refl _ wR).alloc (Nat.le_refl _) _).size⟩,fun _ => ⟨B,wR.heap.size,rfl,HK.blk_new _ _,HK.blk_alloc hb1 _,hb2,by simp; omega⟩,fun h => (f14 h).imp fun B h => h.imp fun v h => ⟨h.1,h.2.1,⟨own_below9 h.2.2.1.1 ((Below.refl _ wR).alloc (Nat.le_refl _) _),h.2.2.1.2⟩,blk_up9 ((Below.refl _ wR).alloc (Nat.le_refl _) _) h.2.2.2.1,h.2.2.2.2.1,Nat.lt_of_lt_of_le h.2.2.2.2.2 ((Below.refl _ wR).alloc (Nat.le_refl _) _).size⟩,fun h => by have hh:=f15 h; simp [hL] at hh⟩
    ·intro L x a wR K hL hd hf hx hy hΦ hK
     obtain ⟨hI,f0,f1,f2,f3,f4,f5,f6,f7,f8,f9,f10,f11,f12,f13,f14,f15⟩:=hΦ
     refine ⟨fun _ => ?_,fun h => absurd h (by rw [Go.RE.wanted_none rfl]; decide)⟩
     have d5:=f5 (hd 5 (by kernel_rfl))
     have e51:a.tmps[51]? = some (x 51):=hx 5 _ 51 rfl rfl (hd 5 (by kernel_rfl))
     rw [d5] at e51
     have d13:=f13 (hd 13 (by kernel_rfl))
     have e59:a.tmps[59]? = some (x 59):=hx 13 _ 59 rfl rfl (hd 13 (by kernel_rfl))
     clear hf hx hd hy
     obtain ⟨B,B2,hB0,hbb,hb1,hb2,hb3⟩:=d13
     rw [hB0] at e59
     refine wp_app_grows (.tmp 51) (.tmp 59) rfl (some ⟨g,0,none⟩) j j (cellsS (Ls.take j)) (ev e51) (by intro h; cases h) HTL.out (fun bb hbb => by cases hbb; exact HTC.out _ hI) ⟨B2,0,none⟩ 1 1 [.int .u8 (3:Int),.string ⟨#[]⟩,.slice none 0 0,.slice (some ⟨B,0,none⟩) 1 1] (ev e59) rfl (fun u y hy => by rw [addr_add0,HK.blk_cell hbb,List.getElem?_toArray]; exact hy) (by simp [Value.oneCell']) (by omega) (by have h1:=HN20.out; have h2:=HJ.out.2; simp only [maxLen]; omega) (by have h1:=HN20.out; have h2:=HJ.out.2; omega) ?_
     intro v' w' hown hgrow
     have hB8:Below wR.heap.size wR w':=(Below.refl _ wR).grown hgrow (Nat.le_refl _) (fun _ h => by cases h)
     have hvB:=own_ge hown
     refine hK _ _ ?_
     exact ⟨below_tr hI hB8,fun h => f0 h,fun h => f1 h,fun h => f2 h,fun h => f3 h,fun h => f4 h,fun h => f5 h,fun h => f6 h,fun h => f7 h,fun h => f8 h,fun h => f9 h,fun h => f10 h,fun h => (f11 h).imp fun B h => ⟨h.1,blk_up9 hB8 h.2.1,h.2.2.1,Nat.lt_of_lt_of_le h.2.2.2 hB8.size⟩,fun h => (f12 h).imp fun B h => ⟨h.1,blk_up9 hB8 h.2.1,h.2.2.1,Nat.lt_of_lt_of_le h.2.2.2 hB8.size⟩,fun h => (f13 h).imp fun B h => h.imp fun B2 h => ⟨h.1,blk_up9 hB8 h.2.1,blk_up9 hB8 h.2.2.1,h.2.2.2.1,Nat.lt_of_lt_of_le h.2.2.2.2 hB8.size⟩,fun _ => ⟨B,v',rfl,(by obtain ⟨gg,gc,h9,_,_⟩:=own_form9 hown (by omega); exact ⟨gg,gc,h9⟩),⟨own_mono9 hown hI.size,(fun h => by have:=hvB B h; omega)⟩,blk_up9 hB8 hb1,hb2,Nat.lt_of_lt_of_le hb3 hB8.size⟩,fun h => by have hh:=f15 h; simp [hL] at hh⟩
    ·intro L x a wR K hL hd hf hx hy hΦ hK
     obtain ⟨hI,f0,f1,f2,f3,f4,f5,f6,f7,f8,f9,f10,f11,f12,f13,f14,f15⟩:=hΦ
     refine ⟨fun _ => ?_,fun h => absurd h (by rw [Go.RE.wanted_none rfl]; decide)⟩
     have d14:=f14 (hd 14 (by kernel_rfl))
     have e60:a.tmps[60]? = some (x 60):=hx 14 _ 60 rfl rfl (hd 14 (by kernel_rfl))
     have r0:=hd 0 (by kernel_rfl)
     have r5:=hd 5 (by kernel_rfl)
     have r6:=hd 6 (by kernel_rfl)
     have r8:=hd 8 (by kernel_rfl)
     have r9:=hd 9 (by kernel_rfl)
     have r10:=hd 10 (by kernel_rfl)
     have r11:=hd 11 (by kernel_rfl)
     have r12:=hd 12 (by kernel_rfl)
     have r13:=hd 13 (by kernel_rfl)
     have r14:=hd 14 (by kernel_rfl)
     clear hf hx hd hy
     obtain ⟨B,v',hv',⟨gg,gc,rfl⟩,hown,hb⟩:=d14
     rw [hv'] at e60
     go_simp
     refine hK _ _ ?_
     exact ⟨hI,fun h => f0 h,fun h => f1 h,fun h => f2 h,fun h => f3 h,fun h => f4 h,fun h => f5 h,fun h => f6 h,fun h => f7 h,fun h => f8 h,fun h => f9 h,fun h => f10 h,fun h => f11 h,fun h => f12 h,fun h => f13 h,fun h => f14 h,fun _ => ⟨r0,r5,r6,r8,r9,r10,r11,r12,r13,r14,B,_,rfl,⟨gg,gc,rfl⟩,hown,hb⟩⟩
    ·rintro x W ⟨hI,f0,f1,f2,f3,f4,f5,f6,f7,f8,f9,f10,f11,f12,f13,f14,f15⟩
     obtain ⟨_,_,_,_,_,_,_,_,_,_,B,v',hx5,⟨gg,gc,hv'⟩,⟨hown,hvB⟩,hbc,hb1,hb2⟩:=f15 rfl
     subst hv'
     have hge:=own_ge hown
     have hturn:∀ {a s:SL} {f:Fm},IsFm (fun k => w.heap.size < k /\ k < wb.heap.size /\ (Value.slice (some ⟨g,0,none⟩) n c).ownBlock ≠ some k) wb a s f -> IsFm (fun k => w.heap.size < k /\ k < W.heap.size /\ (Value.slice (some ⟨gg,0,none⟩) (j + 1) gc).ownBlock ≠ some k) W a s f:=fun h => h.turn fun k hk => ⟨⟨hk.1,Nat.lt_of_lt_of_le hk.2.1 hI.size,fun e => by have:=hge k e; omega⟩,hI.block k hk.2.1⟩
     rw [HeO.out,HeM.out] at hbc
     have hnew:=join_one (p:=(ef,⟨ea0,ea1,ea2⟩,⟨es0,es1,es2⟩)) (op:=3) (c:=1) HQ256.out (hturn HeF.out) (B:=B) ⟨(by have:=HK.blk_lt HI.out.rz; omega),hb2,hvB⟩ hbc
     have hst:=HI.out.fresh (p:=(Op1 3 ef,⟨none,0,0⟩,⟨some ⟨B,0,none⟩,1,1⟩)) (v':=.slice (some ⟨gg,0,none⟩) (j + 1) gc) (j:=j) HJL.out hI hown hnew
     have HST:=hid hst
     have HX5:=hid hx5
     clear hI hst hnew hturn hge hown hvB hbc hb1 hb2 hx5 f0 f1 f2 f3 f4 f5 f6 f7 f8 f9 f10 f11 f12 f13 f14 f15
     simp only [Exit.then,Go.RE.fillL,List.any_cons,List.any_nil,Nat.beq,Bool.or_false,Bool.or_true,cond_true,cond_false,Bool.true_or,Bool.false_or]
     rw [HX5.out]
     go_wp2_with (fail)
     go_roundw
     case rel => exact ⟨_,k + 1,_,rfl,by have:=HK20.out; omega,by go_num,by rw [HSTP.out,HNX.out]; simp,HST.out⟩
     case measure => have:=HK20.out; simp [intOf]; omega
   ·obtain ⟨ad,cc,rfl⟩:=hvn
    have c1:¬ (p:Int) < 3:=by omega
    have c1b:¬ p < 3:=by omega
    have c2:((p:Int) == 3) = true:=by simp; omega
    have c3:¬ (1:Int) <= (n:Int):=by omega
    have c3b:¬ 1 <= n:=by omega
    have c4:¬ (3:Int) < (p:Int):=by omega
    have c4b:¬ 3 < p:=by omega
    have c7:¬ (8:Int) <= (p:Int):=by omega
    have c7b:¬ 8 <= p:=by omega
    have c9:((p:Int) == 8) = false:=by simp; omega
    have c9n:¬ (p:Int) = 8:=by omega
    have HNX:Hid (bstep modal (Ls.map (·.1)) b = Ls.map (·.1)):=hid (by exact bstep_N _ _ _ (by rw [<- HP.out]; omega) (by rw [<- HP.out,List.length_map,hLn]; omega) (by rw [<- HP.out,List.length_map,hLn]; omega) (by rw [<- HP.out,List.length_map,hLn,HMOD.out]; intro h; first | (exfalso; omega) | (refine ⟨by omega,?_⟩; first | (left; omega) | (right; exact decide_eq_false (by omega)))))
    clear hI hLl hbp hsc hform hLn
    go_wp2_with (fail)
    go_roundw
    case rel => exact ⟨_,k + 1,Ls,rfl,by have:=HK20.out; omega,by go_num,by rw [HSTP.out,HNX.out],HI.out⟩
    case measure => have:=HK20.out; simp [intOf]; omega
   ·have c1:¬ (p:Int) < 3:=by omega
    have c1b:¬ p < 3:=by omega
    have c2:((p:Int) == 3) = false:=by simp; omega
    have c2n:¬ (p:Int) = 3:=by omega
    have c4:(3:Int) < (p:Int):=by omega
    have c4b:3 < p:=by omega
    have c5:(p:Int) < 8:=by omega
    have c5b:p < 8:=by omega
    have c6:(2:Int) <= (n:Int):=by omega
    have c6b:2 <= n:=by omega
    have hn0:1 <= n:=by omega
    obtain ⟨g,c,rfl,hnc⟩:∃ g c,vo = .slice (some ⟨g,0,none⟩) n c /\ n <= c:=by
     rcases hform with ⟨_,h2⟩ | h
     ·omega
     ·exact h
    obtain ⟨j,hj⟩:∃ j,j = n - 2:=⟨_,rfl⟩
    obtain ⟨⟨ef,⟨ea0,ea1,ea2⟩,⟨es0,es1,es2⟩⟩,hee⟩:∃ q,Ls[j]? = some q:=⟨_,List.getElem?_eq_getElem (by omega)⟩
    obtain ⟨eo,heo⟩:∃ o,o = ef.op:=⟨_,rfl⟩
    obtain ⟨em,hem⟩:∃ m,m = ef.name:=⟨_,rfl⟩
    have HCE:Hid (∀ W,Below wr.heap.size wr W -> W.cell? ⟨g,j * 4,none⟩ = some (.int .u8 (eo:Int)) /\ W.cell? ⟨g,j * 4 + 1,none⟩ = some (.string em) /\ W.cell? ⟨g,j * 4 + 2,none⟩ = some (.slice ea0 ea1 ea2) /\ W.cell? ⟨g,j * 4 + 3,none⟩ = some (.slice es0 es1 es2)):=hid fun W h => by
     rw [heo,hem]; exact hI.at h hLn hee
    have HeF:Hid (IsFm (fun k => w.heap.size < k /\ k < wr.heap.size /\ (Value.slice (some ⟨g,0,none⟩) n c).ownBlock ≠ some k) wr ⟨ea0,ea1,ea2⟩ ⟨es0,es1,es2⟩ ef):=hid (hI.hf _ (List.mem_of_getElem? hee))
    have HeO:=hid heo
    have HeM:=hid hem
    have HeE:=hid hee
    obtain ⟨i,hi⟩:∃ i,i = n - 1:=⟨_,rfl⟩
    obtain ⟨⟨yf,⟨ya0,ya1,ya2⟩,⟨ys0,ys1,ys2⟩⟩,hye⟩:∃ q,Ls[i]? = some q:=⟨_,List.getElem?_eq_getElem (by omega)⟩
    obtain ⟨yo,hyo⟩:∃ o,o = yf.op:=⟨_,rfl⟩
    obtain ⟨ym,hym⟩:∃ m,m = yf.name:=⟨_,rfl⟩
    have HCD:Hid (∀ W,Below wr.heap.size wr W -> W.cell? ⟨g,i * 4,none⟩ = some (.int .u8 (yo:Int)) /\ W.cell? ⟨g,i * 4 + 1,none⟩ = some (.string ym) /\ W.cell? ⟨g,i * 4 + 2,none⟩ = some (.slice ya0 ya1 ya2) /\ W.cell? ⟨g,i * 4 + 3,none⟩ = some (.slice ys0 ys1 ys2)):=hid fun W h => by
     rw [hyo,hym]; exact hI.at h hLn hye
    have HyF:Hid (IsFm (fun k => w.heap.size < k /\ k < wr.heap.size /\ (Value.slice (some ⟨g,0,none⟩) n c).ownBlock ≠ some k) wr ⟨ya0,ya1,ya2⟩ ⟨ys0,ys1,ys2⟩ yf):=hid (hI.hf _ (List.mem_of_getElem? hye))
    have HyO:=hid hyo
    have HyM:=hid hym
    have HyE:=hid hye
    have HI2:Hid ((0:Int) <= (i:Int) /\ (i:Int) < (n:Int)):=hid (by omega)
    have HS3:Hid (IntKind.i64.wrap ((n:Int) - 1) = (i:Int) /\ wrap64 ((n:Int) - 1) = (i:Int) /\ (n:Int) - 1 = (i:Int)):=hid (by rw [<- IntWalk.i64_left,IntWalk.i64_in _ (by omega)]; omega)
    have HJ:Hid ((0:Int) <= (j:Int) /\ (j:Int) < (n:Int)):=hid (by omega)
    have HJC:Hid ((0:Int) <= (j:Int) /\ (j:Int) <= (c:Int)):=hid (by omega)
    have HJL:Hid (j <= Ls.length):=hid (by omega)
    have HS1:Hid (IntKind.i64.wrap ((n:Int) - 2) = (j:Int) /\ wrap64 ((n:Int) - 2) = (j:Int) /\ (n:Int) - 2 = (j:Int)):=hid (by rw [<- IntWalk.i64_left,IntWalk.i64_in _ (by omega)]; omega)
    have HTL:Hid ((cellsS (Ls.take j)).length = j * 4):=hid (by rw [cellsS_len,List.length_take,Nat.min_eq_left (by omega)])
    have HTC:Hid (∀ W,Below wr.heap.size wr W -> ∀ jj u,(cellsS (Ls.take j))[jj]? = some u -> W.cell? ((⟨g,0,none⟩:Addr).add jj) = some u):=hid fun W h jj u hu => by
     have ho:=own_below9 hI.ho h
     rw [hLn] at ho
     rw [cellsS_take,List.getElem?_take] at hu
     split at hu
     ·rw [addr_add0,ho.cellAt _ (by omega)]; exact hu
     ·cases hu
    obtain ⟨q,hq⟩:∃ q,q = p:=⟨_,rfl⟩
    obtain ⟨pt,hpt⟩:∃ pt,pt = 4 + p:=⟨_,rfl⟩
    have HP1:Hid (IntKind.u8.wrap (4 + (p:Int)) = (pt:Int) /\ 4 + (p:Int) = (pt:Int)):=hid (by rw [IntWalk.u8_in _ (by omega)]; omega)
    have HP2:Hid (IntKind.u8.wrap ((pt:Int) - 4) = (q:Int) /\ (pt:Int) - 4 = (q:Int)):=hid (by rw [IntWalk.u8_in _ (by omega)]; omega)
    have HQ256:Hid (q < 256):=hid (by omega)
    have HNX:Hid (bstep modal (Ls.map (·.1)) b = (Ls.take j).map (·.1) ++ [Op2 q ef yf]):=hid (by
     have hl9:(Ls.map (·.1)).length = n:=by rw [List.length_map]; exact hLn
     rw [bstep_C _ _ _ (by rw [<- HP.out]; omega) (by rw [<- HP.out]; omega) (by omega),hl9,<- hj,<- hi,map_getD hee,map_getD hye,List.map_take,<- HP.out,hq])
    clear hI hLl hbp hsc hform hvn hLn hj heo hem hee hi hyo hym hye hq hpt hnc
    obtain ⟨wb,hwb⟩:∃ wb:World,wb = wr:=⟨_,rfl⟩
    subst hwb
    go_upto_region 12 with (fail)
    refine Go.RE.wp_region_eachh [72,73,74,75,76,77,78,79,80,81,82,83,84,85,86,87,88,89,90,91,92,93,94,5] (fun L x W => (Below wb.heap.size wb W) /\ (L 0 = true -> x 72 = .slice (some ⟨g,0,none⟩) n c) /\ (L 1 = true -> x 73 = .int .i64 (n:Int)) /\ (L 2 = true -> x 74 = .int .i64 (j:Int)) /\ (L 3 = true -> x 75 = .int .i64 (n:Int)) /\ (L 4 = true -> x 76 = .int .i64 (j:Int)) /\ (L 5 = true -> x 77 = .slice (some ⟨g,0,none⟩) j j) /\ (L 6 = true -> x 78 = .int .u8 (p:Int)) /\ (L 7 = true -> x 79 = .int .u8 (pt:Int)) /\ (L 8 = true -> x 80 = .int .u8 (q:Int)) /\ (L 9 = true -> x 81 = .slice (some ⟨g,0,none⟩) n c) /\ (L 10 = true -> x 82 = .int .i64 (n:Int)) /\ (L 11 = true -> x 83 = .int .i64 (j:Int)) /\ (L 12 = true -> x 84 = .pointer (some ⟨g,j * 4,none⟩)) /\ (L 13 = true -> x 85 = .agg #[.int .u8 (eo:Int),.string em,.slice ea0 ea1 ea2,.slice es0 es1 es2]) /\ (L 14 = true -> x 86 = .slice (some ⟨g,0,none⟩) n c) /\ (L 15 = true -> x 87 = .int .i64 (n:Int)) /\ (L 16 = true -> x 88 = .int .i64 (i:Int)) /\ (L 17 = true -> x 89 = .pointer (some ⟨g,i * 4,none⟩)) /\ (L 18 = true -> x 90 = .agg #[.int .u8 (yo:Int),.string ym,.slice ya0 ya1 ya2,.slice ys0 ys1 ys2]) /\ (L 19 = true -> ∃ B,x 91 = .slice (some ⟨B,0,none⟩) 2 2 /\ W.heap[B]? = some (.cells #[.int .u8 (eo:Int),.string em,.slice ea0 ea1 ea2,.slice es0 es1 es2,.int .u8 (yo:Int),.string ym,.slice ya0 ya1 ya2,.slice ys0 ys1 ys2] 35 (0,0)) /\ wb.heap.size <= B /\ B < W.heap.size) /\ (L 20 = true -> ∃ B,x 92 = .agg #[.int .u8 (q:Int),.string ⟨#[]⟩,.slice none 0 0,.slice (some ⟨B,0,none⟩) 2 2] /\ W.heap[B]? = some (.cells #[.int .u8 (eo:Int),.string em,.slice ea0 ea1 ea2,.slice es0 es1 es2,.int .u8 (yo:Int),.string ym,.slice ya0 ya1 ya2,.slice ys0 ys1 ys2] 35 (0,0)) /\ wb.heap.size <= B /\ B < W.heap.size) /\ (L 21 = true -> ∃ B B2,x 93 = .slice (some ⟨B2,0,none⟩) 1 1 /\ W.heap[B2]? = some (.cells #[.int .u8 (q:Int),.string ⟨#[]⟩,.slice none 0 0,.slice (some ⟨B,0,none⟩) 2 2] 35 (0,0)) /\ W.heap[B]? = some (.cells #[.int .u8 (eo:Int),.string em,.slice ea0 ea1 ea2,.slice es0 es1 es2,.int .u8 (yo:Int),.string ym,.slice ya0 ya1 ya2,.slice ys0 ys1 ys2] 35 (0,0)) /\ wb.heap.size <= B /\ B < W.heap.size) /\ (L 22 = true -> ∃ B v',x 94 = v' /\ (∃ g c,v' = .slice (some ⟨g,0,none⟩) (j + 1) c) /\ (W.ownsRow wb.heap.size 35 4 v' (j + 1) (cellsS (Ls.take j) ++ [.int .u8 (q:Int),.string ⟨#[]⟩,.slice none 0 0,.slice (some ⟨B,0,none⟩) 2 2]) /\ v'.ownBlock ≠ some B) /\ W.heap[B]? = some (.cells #[.int .u8 (eo:Int),.string em,.slice ea0 ea1 ea2,.slice es0 es1 es2,.int .u8 (yo:Int),.string ym,.slice ya0 ya1 ya2,.slice ys0 ys1 ys2] 35 (0,0)) /\ wb.heap.size <= B /\ B < W.heap.size) /\ (L 23 = true -> L 0 = true /\ L 9 = true /\ L 14 = true /\ ∃ B v',x 5 = v' /\ (∃ g c,v' = .slice (some ⟨g,0,none⟩) (j + 1) c) /\ (W.ownsRow wb.heap.size 35 4 v' (j + 1) (cellsS (Ls.take j) ++ [.int .u8 (q:Int),.string ⟨#[]⟩,.slice none 0 0,.slice (some ⟨B,0,none⟩) 2 2]) /\ v'.ownBlock ≠ some B) /\ W.heap[B]? = some (.cells #[.int .u8 (eo:Int),.string em,.slice ea0 ea1 ea2,.slice es0 es1 es2,.int .u8 (yo:Int),.string ym,.slice ya0 ya1 ya2,.slice ys0 ys1 ys2] 35 (0,0)) /\ wb.heap.size <= B /\ B < W.heap.size)) (by kernel_rfl) (by kernel_rfl) (by kernel_rfl) ?_ ((Go.RE.Each.cons ?_ (Go.RE.Each.cons ?_ (Go.RE.Each.cons ?_ (Go.RE.Each.cons ?_ (Go.RE.Each.cons ?_ (Go.RE.Each.cons ?_ (Go.RE.Each.cons ?_ (Go.RE.Each.cons ?_ (Go.RE.Each.cons ?_ (Go.RE.Each.cons ?_ (Go.RE.Each.cons ?_ (Go.RE.Each.cons ?_ (Go.RE.Each.cons ?_ (Go.RE.Each.cons ?_ (Go.RE.Each.cons ?_ (Go.RE.Each.cons ?_ (Go.RE.Each.cons ?_ (Go.RE.Each.cons ?_ (Go.RE.Each.cons ?_ (Go.RE.Each.cons ?_ (Go.RE.Each.cons ?_ (Go.RE.Each.cons ?_ (Go.RE.Each.cons ?_ (Go.RE.Each.cons ?_ Go.RE.Each.nil))))))))))))))))))))))))) ?_
    ·exact fun x => ⟨bl_dr (Below.refl _ _),fun h => (by cases h),fun h => (by cases h),fun h => (by cases h),fun h => (by cases h),fun h => (by cases h),fun h => (by cases h),fun h => (by cases h),fun h => (by cases h),fun h => (by cases h),fun h => (by cases h),fun h => (by cases h),fun h => (by cases h),fun h => (by cases h),fun h => (by cases h),fun h => (by cases h),fun h => (by cases h),fun h => (by cases h),fun h => (by cases h),fun h => (by cases h),fun h => (by cases h),fun h => (by cases h),fun h => (by cases h),fun h => (by cases h),fun h => (by cases h)⟩
    ·intro L x a wR K hL hd hf hx hy hΦ hK
     obtain ⟨hI,f0,f1,f2,f3,f4,f5,f6,f7,f8,f9,f10,f11,f12,f13,f14,f15,f16,f17,f18,f19,f20,f21,f22,f23⟩:=hΦ
     refine ⟨fun _ => ?_,fun h => absurd h (by rw [Go.RE.wanted_none rfl]; decide)⟩
     have hL23:L 23 = false:=by rcases e:L 23 with _ | _; rfl; have hh:=f23 e; simp [hL] at hh
     have e5:a.tmps[5]? = some (.slice (some ⟨g,0,none⟩) n c):=hy 23 _ 5 rfl rfl hL23
     clear hf hx hd hy
     go_simp
     refine hK _ _ ?_
     exact ⟨hI,fun _ => rfl,fun h => f1 h,fun h => f2 h,fun h => f3 h,fun h => f4 h,fun h => f5 h,fun h => f6 h,fun h => f7 h,fun h => f8 h,fun h => f9 h,fun h => f10 h,fun h => f11 h,fun h => f12 h,fun h => f13 h,fun h => f14 h,fun h => f15 h,fun h => f16 h,fun h => f17 h,fun h => f18 h,fun h => f19 h,fun h => f20 h,fun h => f21 h,fun h => f22 h,fun h => by have hh:=f23 h; simp [hL] at hh⟩
    ·intro L x a wR K hL hd hf hx hy hΦ hK
     obtain ⟨hI,f0,f1,f2,f3,f4,f5,f6,f7,f8,f9,f10,f11,f12,f13,f14,f15,f16,f17,f18,f19,f20,f21,f22,f23⟩:=hΦ
     refine ⟨fun _ => ?_,fun h => absurd h (by rw [Go.RE.wanted_none rfl]; decide)⟩
     have e7:a.tmps[7]? = some (.int .i64 (n:Int)):=hf 7 (of_decide_eq_true (by kernel_rfl))
     clear hf hx hd hy
     go_simp
     refine hK _ _ ?_
     exact ⟨hI,fun h => f0 h,fun _ => rfl,fun h => f2 h,fun h => f3 h,fun h => f4 h,fun h => f5 h,fun h => f6 h,fun h => f7 h,fun h => f8 h,fun h => f9 h,fun h => f10 h,fun h => f11 h,fun h => f12 h,fun h => f13 h,fun h => f14 h,fun h => f15 h,fun h => f16 h,fun h => f17 h,fun h => f18 h,fun h => f19 h,fun h => f20 h,fun h => f21 h,fun h => f22 h,fun h => f23 h⟩
    ·intro L x a wR K hL hd hf hx hy hΦ hK
     obtain ⟨hI,f0,f1,f2,f3,f4,f5,f6,f7,f8,f9,f10,f11,f12,f13,f14,f15,f16,f17,f18,f19,f20,f21,f22,f23⟩:=hΦ
     refine ⟨fun _ => ?_,fun h => absurd h (by rw [Go.RE.wanted_none rfl]; decide)⟩
     have d1:=f1 (hd 1 (by kernel_rfl))
     have e73:a.tmps[73]? = some (x 73):=hx 1 _ 73 rfl rfl (hd 1 (by kernel_rfl))
     rw [d1] at e73
     have sb1:=HS1.out.1
     have sb2:=HS1.out.2.1
     clear hf hx hd hy
     go_simp
     refine hK _ _ ?_
     exact ⟨hI,fun h => f0 h,fun h => f1 h,fun _ => rfl,fun h => f3 h,fun h => f4 h,fun h => f5 h,fun h => f6 h,fun h => f7 h,fun h => f8 h,fun h => f9 h,fun h => f10 h,fun h => f11 h,fun h => f12 h,fun h => f13 h,fun h => f14 h,fun h => f15 h,fun h => f16 h,fun h => f17 h,fun h => f18 h,fun h => f19 h,fun h => f20 h,fun h => f21 h,fun h => f22 h,fun h => f23 h⟩
    ·intro L x a wR K hL hd hf hx hy hΦ hK
     obtain ⟨hI,f0,f1,f2,f3,f4,f5,f6,f7,f8,f9,f10,f11,f12,f13,f14,f15,f16,f17,f18,f19,f20,f21,f22,f23⟩:=hΦ
     refine ⟨fun _ => ?_,fun h => absurd h (by rw [Go.RE.wanted_none rfl]; decide)⟩
     have e7:a.tmps[7]? = some (.int .i64 (n:Int)):=hf 7 (of_decide_eq_true (by kernel_rfl))
     clear hf hx hd hy
     go_simp
     refine hK _ _ ?_
     exact ⟨hI,fun h => f0 h,fun h => f1 h,fun h => f2 h,fun _ => rfl,fun h => f4 h,fun h => f5 h,fun h => f6 h,fun h => f7 h,fun h => f8 h,fun h => f9 h,fun h => f10 h,fun h => f11 h,fun h => f12 h,fun h => f13 h,fun h => f14 h,fun h => f15 h,fun h => f16 h,fun h => f17 h,fun h => f18 h,fun h => f19 h,fun h => f20 h,fun h => f21 h,fun h => f22 h,fun h => f23 h⟩
    ·intro L x a wR K hL hd hf hx hy hΦ hK
     obtain ⟨hI,f0,f1,f2,f3,f4,f5,f6,f7,f8,f9,f10,f11,f12,f13,f14,f15,f16,f17,f18,f19,f20,f21,f22,f23⟩:=hΦ
     refine ⟨fun _ => ?_,fun h => absurd h (by rw [Go.RE.wanted_none rfl]; decide)⟩
     have d3:=f3 (hd 3 (by kernel_rfl))
     have e75:a.tmps[75]? = some (x 75):=hx 3 _ 75 rfl rfl (hd 3 (by kernel_rfl))
     rw [d3] at e75
     have sb1:=HS1.out.1
     have sb2:=HS1.out.2.1
     clear hf hx hd hy
     go_simp
     refine hK _ _ ?_
     exact ⟨hI,fun h => f0 h,fun h => f1 h,fun h => f2 h,fun h => f3 h,fun _ => rfl,fun h => f5 h,fun h => f6 h,fun h => f7 h,fun h => f8 h,fun h => f9 h,fun h => f10 h,fun h => f11 h,fun h => f12 h,fun h => f13 h,fun h => f14 h,fun h => f15 h,fun h => f16 h,fun h => f17 h,fun h => f18 h,fun h => f19 h,fun h => f20 h,fun h => f21 h,fun h => f22 h,fun h => f23 h⟩
    ·intro L x a wR K hL hd hf hx hy hΦ hK
     obtain ⟨hI,f0,f1,f2,f3,f4,f5,f6,f7,f8,f9,f10,f11,f12,f13,f14,f15,f16,f17,f18,f19,f20,f21,f22,f23⟩:=hΦ
     refine ⟨fun _ => ?_,fun h => absurd h (by rw [Go.RE.wanted_none rfl]; decide)⟩
     have d0:=f0 (hd 0 (by kernel_rfl))
     have e72:a.tmps[72]? = some (x 72):=hx 0 _ 72 rfl rfl (hd 0 (by kernel_rfl))
     rw [d0] at e72
     have d2:=f2 (hd 2 (by kernel_rfl))
     have e74:a.tmps[74]? = some (x 74):=hx 2 _ 74 rfl rfl (hd 2 (by kernel_rfl))
     rw [d2] at e74
     have d4:=f4 (hd 4 (by kernel_rfl))
     have e76:a.tmps[76]? = some (x 76):=hx 4 _ 76 rfl rfl (hd 4 (by kernel_rfl))
     rw [d4] at e76
     have l1:=HJC.out.1
     have l2:=HJC.out.2
     clear hf hx hd hy
     go_simp
     refine hK _ _ ?_
     exact ⟨hI,fun h => f0 h,fun h => f1 h,fun h => f2 h,fun h => f3 h,fun h => f4 h,fun _ => rfl,fun h => f6 h,fun h => f7 h,fun h => f8 h,fun h => f9 h,fun h => f10 h,fun h => f11 h,fun h => f12 h,fun h => f13 h,fun h => f14 h,fun h => f15 h,fun h => f16 h,fun h => f17 h,fun h => f18 h,fun h => f19 h,fun h => f20 h,fun h => f21 h,fun h => f22 h,fun h => f23 h⟩
    ·intro L x a wR K hL hd hf hx hy hΦ hK
     obtain ⟨hI,f0,f1,f2,f3,f4,f5,f6,f7,f8,f9,f10,f11,f12,f13,f14,f15,f16,f17,f18,f19,f20,f21,f22,f23⟩:=hΦ
     refine ⟨fun _ => ?_,fun h => absurd h (by rw [Go.RE.wanted_none rfl]; decide)⟩
     have e8:a.tmps[8]? = some (.int .u8 (p:Int)):=hf 8 (of_decide_eq_true (by kernel_rfl))
     clear hf hx hd hy
     go_simp
     refine hK _ _ ?_
     exact ⟨hI,fun h => f0 h,fun h => f1 h,fun h => f2 h,fun h => f3 h,fun h => f4 h,fun h => f5 h,fun _ => rfl,fun h => f7 h,fun h => f8 h,fun h => f9 h,fun h => f10 h,fun h => f11 h,fun h => f12 h,fun h => f13 h,fun h => f14 h,fun h => f15 h,fun h => f16 h,fun h => f17 h,fun h => f18 h,fun h => f19 h,fun h => f20 h,fun h => f21 h,fun h => f22 h,fun h => f23 h⟩
    ·intro L x a wR K hL hd hf hx hy hΦ hK
     obtain ⟨hI,f0,f1,f2,f3,f4,f5,f6,f7,f8,f9,f10,f11,f12,f13,f14,f15,f16,f17,f18,f19,f20,f21,f22,f23⟩:=hΦ
     refine ⟨fun _ => ?_,fun h => absurd h (by rw [Go.RE.wanted_none rfl]; decide)⟩
     have d6:=f6 (hd 6 (by kernel_rfl))
     have e78:a.tmps[78]? = some (x 78):=hx 6 _ 78 rfl rfl (hd 6 (by kernel_rfl))
     rw [d6] at e78
     have q1:=HP1.out.1
     clear hf hx hd hy
     go_simp
     refine hK _ _ ?_
     exact ⟨hI,fun h => f0 h,fun h => f1 h,fun h => f2 h,fun h => f3 h,fun h => f4 h,fun h => f5 h,fun h => f6 h,fun _ => rfl,fun h => f8 h,fun h => f9 h,fun h => f10 h,fun h => f11 h,fun h => f12 h,fun h => f13 h,fun h => f14 h,fun h => f15 h,fun h => f16 h,fun h => f17 h,fun h => f18 h,fun h => f19 h,fun h => f20 h,fun h => f21 h,fun h => f22 h,fun h => f23 h⟩
    ·intro L x a wR K hL hd hf hx hy hΦ hK
     obtain ⟨hI,f0,f1,f2,f3,f4,f5,f6,f7,f8,f9,f10,f11,f12,f13,f14,f15,f16,f17,f18,f19,f20,f21,f22,f23⟩:=hΦ
     refine ⟨fun _ => ?_,fun h => absurd h (by rw [Go.RE.wanted_none rfl]; decide)⟩
     have d7:=f7 (hd 7 (by kernel_rfl))
     have e79:a.tmps[79]? = some (x 79):=hx 7 _ 79 rfl rfl (hd 7 (by kernel_rfl))
     rw [d7] at e79
     have q2:=HP2.out.1
     clear hf hx hd hy
     go_simp
     refine hK _ _ ?_
     exact ⟨hI,fun h => f0 h,fun h => f1 h,fun h => f2 h,fun h => f3 h,fun h => f4 h,fun h => f5 h,fun h => f6 h,fun h => f7 h,fun _ => rfl,fun h => f9 h,fun h => f10 h,fun h => f11 h,fun h => f12 h,fun h => f13 h,fun h => f14 h,fun h => f15 h,fun h => f16 h,fun h => f17 h,fun h => f18 h,fun h => f19 h,fun h => f20 h,fun h => f21 h,fun h => f22 h,fun h => f23 h⟩
    ·intro L x a wR K hL hd hf hx hy hΦ hK
     obtain ⟨hI,f0,f1,f2,f3,f4,f5,f6,f7,f8,f9,f10,f11,f12,f13,f14,f15,f16,f17,f18,f19,f20,f21,f22,f23⟩:=hΦ
     refine ⟨fun _ => ?_,fun h => absurd h (by rw [Go.RE.wanted_none rfl]; decide)⟩
     have hL23:L 23 = false:=by rcases e:L 23 with _ | _; rfl; have hh:=f23 e; simp [hL] at hh
     have e5:a.tmps[5]? = some (.slice (some ⟨g,0,none⟩) n c):=hy 23 _ 5 rfl rfl hL23
     clear hf hx hd hy
     go_simp
     refine hK _ _ ?_
     exact ⟨hI,fun h => f0 h,fun h => f1 h,fun h => f2 h,fun h => f3 h,fun h => f4 h,fun h => f5 h,fun h => f6 h,fun h => f7 h,fun h => f8 h,fun _ => rfl,fun h => f10 h,fun h => f11 h,fun h => f12 h,fun h => f13 h,fun h => f14 h,fun h => f15 h,fun h => f16 h,fun h => f17 h,fun h => f18 h,fun h => f19 h,fun h => f20 h,fun h => f21 h,fun h => f22 h,fun h => by have hh:=f23 h; simp [hL] at hh⟩
    ·intro L x a wR K hL hd hf hx hy hΦ hK
     obtain ⟨hI,f0,f1,f2,f3,f4,f5,f6,f7,f8,f9,f10,f11,f12,f13,f14,f15,f16,f17,f18,f19,f20,f21,f22,f23⟩:=hΦ
     refine ⟨fun _ => ?_,fun h => absurd h (by rw [Go.RE.wanted_none rfl]; decide)⟩
     have e7:a.tmps[7]? = some (.int .i64 (n:Int)):=hf 7 (of_decide_eq_true (by kernel_rfl))
     clear hf hx hd hy
     go_simp
     refine hK _ _ ?_
     exact ⟨hI,fun h => f0 h,fun h => f1 h,fun h => f2 h,fun h => f3 h,fun h => f4 h,fun h => f5 h,fun h => f6 h,fun h => f7 h,fun h => f8 h,fun h => f9 h,fun _ => rfl,fun h => f11 h,fun h => f12 h,fun h => f13 h,fun h => f14 h,fun h => f15 h,fun h => f16 h,fun h => f17 h,fun h => f18 h,fun h => f19 h,fun h => f20 h,fun h => f21 h,fun h => f22 h,fun h => f23 h⟩
    ·intro L x a wR K hL hd hf hx hy hΦ hK
     obtain ⟨hI,f0,f1,f2,f3,f4,f5,f6,f7,f8,f9,f10,f11,f12,f13,f14,f15,f16,f17,f18,f19,f20,f21,f22,f23⟩:=hΦ
     refine ⟨fun _ => ?_,fun h => absurd h (by rw [Go.RE.wanted_none rfl]; decide)⟩
     have d10:=f10 (hd 10 (by kernel_rfl))
     have e82:a.tmps[82]? = some (x 82):=hx 10 _ 82 rfl rfl (hd 10 (by kernel_rfl))
     rw [d10] at e82
     have sb1:=HS1.out.1
     have sb2:=HS1.out.2.1
     clear hf hx hd hy
     go_simp
     refine hK _ _ ?_
     exact ⟨hI,fun h => f0 h,fun h => f1 h,fun h => f2 h,fun h => f3 h,fun h => f4 h,fun h => f5 h,fun h => f6 h,fun h => f7 h,fun h => f8 h,fun h => f9 h,fun h => f10 h,fun _ => rfl,fun h => f12 h,fun h => f13 h,fun h => f14 h,fun h => f15 h,fun h => f16 h,fun h => f17 h,fun h => f18 h,fun h => f19 h,fun h => f20 h,fun h => f21 h,fun h => f22 h,fun h => f23 h⟩
    ·intro L x a wR K hL hd hf hx hy hΦ hK
     obtain ⟨hI,f0,f1,f2,f3,f4,f5,f6,f7,f8,f9,f10,f11,f12,f13,f14,f15,f16,f17,f18,f19,f20,f21,f22,f23⟩:=hΦ
     refine ⟨fun _ => ?_,fun h => absurd h (by rw [Go.RE.wanted_none rfl]; decide)⟩
     have d9:=f9 (hd 9 (by kernel_rfl))
     have e81:a.tmps[81]? = some (x 81):=hx 9 _ 81 rfl rfl (hd 9 (by kernel_rfl))
     rw [d9] at e81
     have d11:=f11 (hd 11 (by kernel_rfl))
     have e83:a.tmps[83]? = some (x 83):=hx 11 _ 83 rfl rfl (hd 11 (by kernel_rfl))
     rw [d11] at e83
     have l1:=HJ.out.1
     have l2:=HJ.out.2
     clear hf hx hd hy
     go_simp
     refine hK _ _ ?_
     exact ⟨hI,fun h => f0 h,fun h => f1 h,fun h => f2 h,fun h => f3 h,fun h => f4 h,fun h => f5 h,fun h => f6 h,fun h => f7 h,fun h => f8 h,fun h => f9 h,fun h => f10 h,fun h => f11 h,fun _ => rfl,fun h => f13 h,fun h => f14 h,fun h => f15 h,fun h => f16 h,fun h => f17 h,fun h => f18 h,fun h => f19 h,fun h => f20 h,fun h => f21 h,fun h => f22 h,fun h => f23 h⟩
    ·intro L x a wR K hL hd hf hx hy hΦ hK
     obtain ⟨hI,f0,f1,f2,f3,f4,f5,f6,f7,f8,f9,f10,f11,f12,f13,f14,f15,f16,f17,f18,f19,f20,f21,f22,f23⟩:=hΦ
     refine ⟨fun _ => ?_,fun h => absurd h (by rw [Go.RE.wanted_none rfl]; decide)⟩
     have d12:=f12 (hd 12 (by kernel_rfl))
     have e84:a.tmps[84]? = some (x 84):=hx 12 _ 84 rfl rfl (hd 12 (by kernel_rfl))
     rw [d12] at e84
     obtain ⟨c0,c1,c2,c3⟩:=HCE.out _ hI
     clear hf hx hd hy
     go_simp
     refine hK _ _ ?_
     exact ⟨hI,fun h => f0 h,fun h => f1 h,fun h => f2 h,fun h => f3 h,fun h => f4 h,fun h => f5 h,fun h => f6 h,fun h => f7 h,fun h => f8 h,fun h => f9 h,fun h => f10 h,fun h => f11 h,fun h => f12 h,fun _ => rfl,fun h => f14 h,fun h => f15 h,fun h => f16 h,fun h => f17 h,fun h => f18 h,fun h => f19 h,fun h => f20 h,fun h => f21 h,fun h => f22 h,fun h => f23 h⟩
    ·intro L x a wR K hL hd hf hx hy hΦ hK
     obtain ⟨hI,f0,f1,f2,f3,f4,f5,f6,f7,f8,f9,f10,f11,f12,f13,f14,f15,f16,f17,f18,f19,f20,f21,f22,f23⟩:=hΦ
     refine ⟨fun _ => ?_,fun h => absurd h (by rw [Go.RE.wanted_none rfl]; decide)⟩
     have hL23:L 23 = false:=by rcases e:L 23 with _ | _; rfl; have hh:=f23 e; simp [hL] at hh
     have e5:a.tmps[5]? = some (.slice (some ⟨g,0,none⟩) n c):=hy 23 _ 5 rfl rfl hL23
     clear hf hx hd hy
     go_simp
     refine hK _ _ ?_
     exact ⟨hI,fun h => f0 h,fun h => f1 h,fun h => f2 h,fun h => f3 h,fun h => f4 h,fun h => f5 h,fun h => f6 h,fun h => f7 h,fun h => f8 h,fun h => f9 h,fun h => f10 h,fun h => f11 h,fun h => f12 h,fun h => f13 h,fun _ => rfl,fun h => f15 h,fun h => f16 h,fun h => f17 h,fun h => f18 h,fun h => f19 h,fun h => f20 h,fun h => f21 h,fun h => f22 h,fun h => by have hh:=f23 h; simp [hL] at hh⟩
    ·intro L x a wR K hL hd hf hx hy hΦ hK
     obtain ⟨hI,f0,f1,f2,f3,f4,f5,f6,f7,f8,f9,f10,f11,f12,f13,f14,f15,f16,f17,f18,f19,f20,f21,f22,f23⟩:=hΦ
     refine ⟨fun _ => ?_,fun h => absurd h (by rw [Go.RE.wanted_none rfl]; decide)⟩
     have e7:a.tmps[7]? = some (.int .i64 (n:Int)):=hf 7 (of_decide_eq_true (by kernel_rfl))
     clear hf hx hd hy
     go_simp
     refine hK _ _ ?_
     exact ⟨hI,fun h => f0 h,fun h => f1 h,fun h => f2 h,fun h => f3 h,fun h => f4 h,fun h => f5 h,fun h => f6 h,fun h => f7 h,fun h => f8 h,fun h => f9 h,fun h => f10 h,fun h => f11 h,fun h => f12 h,fun h => f13 h,fun h => f14 h,fun _ => rfl,fun h => f16 h,fun h => f17 h,fun h => f18 h,fun h => f19 h,fun h => f20 h,fun h => f21 h,fun h => f22 h,fun h => f23 h⟩
    ·intro L x a wR K hL hd hf hx hy hΦ hK
     obtain ⟨hI,f0,f1,f2,f3,f4,f5,f6,f7,f8,f9,f10,f11,f12,f13,f14,f15,f16,f17,f18,f19,f20,f21,f22,f23⟩:=hΦ
     refine ⟨fun _ => ?_,fun h => absurd h (by rw [Go.RE.wanted_none rfl]; decide)⟩
     have d15:=f15 (hd 15 (by kernel_rfl))
     have e87:a.tmps[87]? = some (x 87):=hx 15 _ 87 rfl rfl (hd 15 (by kernel_rfl))
     rw [d15] at e87
     have sb1:=HS3.out.1
     have sb2:=HS3.out.2.1
     clear hf hx hd hy
     go_simp
     refine hK _ _ ?_
     exact ⟨hI,fun h => f0 h,fun h => f1 h,fun h => f2 h,fun h => f3 h,fun h => f4 h,fun h => f5 h,fun h => f6 h,fun h => f7 h,fun h => f8 h,fun h => f9 h,fun h => f10 h,fun h => f11 h,fun h => f12 h,fun h => f13 h,fun h => f14 h,fun h => f15 h,fun _ => rfl,fun h => f17 h,fun h => f18 h,fun h => f19 h,fun h => f20 h,fun h => f21 h,fun h => f22 h,fun h => f23 h⟩
    ·intro L x a wR K hL hd hf hx hy hΦ hK
     obtain ⟨hI,f0,f1,f2,f3,f4,f5,f6,f7,f8,f9,f10,f11,f12,f13,f14,f15,f16,f17,f18,f19,f20,f21,f22,f23⟩:=hΦ
     refine ⟨fun _ => ?_,fun h => absurd h (by rw [Go.RE.wanted_none rfl]; decide)⟩
     have d14:=f14 (hd 14 (by kernel_rfl))
     have e86:a.tmps[86]? = some (x 86):=hx 14 _ 86 rfl rfl (hd 14 (by kernel_rfl))
     rw [d14] at e86
     have d16:=f16 (hd 16 (by kernel_rfl))
     have e88:a.tmps[88]? = some (x 88):=hx 16 _ 88 rfl rfl (hd 16 (by kernel_rfl))
     rw [d16] at e88
     have l1:=HI2.out.1
     have l2:=HI2.out.2
     clear hf hx hd hy
     go_simp
     refine hK _ _ ?_
     exact ⟨hI,fun h => f0 h,fun h => f1 h,fun h => f2 h,fun h => f3 h,fun h => f4 h,fun h => f5 h,fun h => f6 h,fun h => f7 h,fun h => f8 h,fun h => f9 h,fun h => f10 h,fun h => f11 h,fun h => f12 h,fun h => f13 h,fun h => f14 h,fun h => f15 h,fun h => f16 h,fun _ => rfl,fun h => f18 h,fun h => f19 h,fun h => f20 h,fun h => f21 h,fun h => f22 h,fun h => f23 h⟩
    ·intro L x a wR K hL hd hf hx hy hΦ hK
     obtain ⟨hI,f0,f1,f2,f3,f4,f5,f6,f7,f8,f9,f10,f11,f12,f13,f14,f15,f16,f17,f18,f19,f20,f21,f22,f23⟩:=hΦ
     refine ⟨fun _ => ?_,fun h => absurd h (by rw [Go.RE.wanted_none rfl]; decide)⟩
     have d17:=f17 (hd 17 (by kernel_rfl))
     have e89:a.tmps[89]? = some (x 89):=hx 17 _ 89 rfl rfl (hd 17 (by kernel_rfl))
     rw [d17] at e89
     obtain ⟨c0,c1,c2,c3⟩:=HCD.out _ hI
     clear hf hx hd hy
     go_simp
     refine hK _ _ ?_
     exact ⟨hI,fun h => f0 h,fun h => f1 h,fun h => f2 h,fun h => f3 h,fun h => f4 h,fun h => f5 h,fun h => f6 h,fun h => f7 h,fun h => f8 h,fun h => f9 h,fun h => f10 h,fun h => f11 h,fun h => f12 h,fun h => f13 h,fun h => f14 h,fun h => f15 h,fun h => f16 h,fun h => f17 h,fun _ => rfl,fun h => f19 h,fun h => f20 h,fun h => f21 h,fun h => f22 h,fun h => f23 h⟩
    ·intro L x a wR K hL hd hf hx hy hΦ hK
     obtain ⟨hI,f0,f1,f2,f3,f4,f5,f6,f7,f8,f9,f10,f11,f12,f13,f14,f15,f16,f17,f18,f19,f20,f21,f22,f23⟩:=hΦ
     refine ⟨fun _ => ?_,fun h => absurd h (by rw [Go.RE.wanted_none rfl]; decide)⟩
     have d13:=f13 (hd 13 (by kernel_rfl))
     have e85:a.tmps[85]? = some (x 85):=hx 13 _ 85 rfl rfl (hd 13 (by kernel_rfl))
     rw [d13] at e85
     have d18:=f18 (hd 18 (by kernel_rfl))
     have e90:a.tmps[90]? = some (x 90):=hx 18 _ 90 rfl rfl (hd 18 (by kernel_rfl))
     rw [d18] at e90
     clear hf hx hd hy
     go_simp
     refine hK _ _ ?_
     exact ⟨hI.alloc hI.size _,fun h => f0 h,fun h => f1 h,fun h => f2 h,fun h => f3 h,fun h => f4 h,fun h => f5 h,fun h => f6 h,fun h => f7 h,fun h => f8 h,fun h => f9 h,fun h => f10 h,fun h => f11 h,fun h => f12 h,fun h => f13 h,fun h => f14 h,fun h => f15 h,fun h => f16 h,fun h => f17 h,fun h => f18 h,fun _ => ⟨wR.heap.size,rfl,HK.blk_new _ _,hI.size,by simp⟩,fun h => (f20 h).imp fun B h => ⟨h.1,blk_up9 ((Below.refl _ wR).alloc (Nat.le_refl _) _) h.2.1,h.2.2.1,Nat.lt_of_lt_of_le h.2.2.2 ((Below.refl _ wR).alloc (Nat.le_refl _) _).size⟩,fun h => (f21 h).imp fun B h => h.imp fun B2 h => ⟨h.1,blk_up9 ((Below.refl _ wR).alloc (Nat.le_refl _) _) h.2.1,blk_up9 ((Below.refl _ wR).alloc (Nat.le_refl _) _) h.2.2.1,h.2.2.2.1,Nat.lt_of_lt_of_le h.2.2.2.2 ((Below.refl _ wR).alloc (Nat.le_refl _) _).size⟩,fun h => (f22 h).imp fun B h => h.imp fun v h => ⟨h.1,h.2.1,⟨own_below9 h.2.2.1.1 ((Below.refl _ wR).alloc (Nat.le_refl _) _),h.2.2.1.2⟩,blk_up9 ((Below.refl _ wR).alloc (Nat.le_refl _) _) h.2.2.2.1,h.2.2.2.2.1,Nat.lt_of_lt_of_le h.2.2.2.2.2 ((Below.refl _ wR).alloc (Nat.le_refl _) _).size⟩,fun h => ⟨((f23 h)).1,((f23 h).2).1,((f23 h).2.2).1,((f23 h).2.2.2).imp fun B h => h.imp fun v h => ⟨h.1,h.2.1,⟨own_below9 h.2.2.1.1 ((Below.refl _ wR).alloc (Nat.le_refl _) _),h.2.2.1.2⟩,blk_up9 ((Below.refl _ wR).alloc (Nat.le_refl _) _) h.2.2.2.1,h.2.2.2.2.1,Nat.lt_of_lt_of_le h.2.2.2.2.2 ((Below.refl _ wR).alloc (Nat.le_refl _) _).size⟩⟩⟩
    ·intro L x a wR K hL hd hf hx hy hΦ hK
     obtain ⟨hI,f0,f1,f2,f3,f4,f5,f6,f7,f8,f9,f10,f11,f12,f13,f14,f15,f16,f17,f18,f19,f20,f21,f22,f23⟩:=hΦ
     refine ⟨fun _ => ?_,fun h => absurd h (by rw [Go.RE.wanted_none rfl]; decide)⟩
     have d8:=f8 (hd 8 (by kernel_rfl))
     have e80:a.tmps[80]? = some (x 80):=hx 8 _ 80 rfl rfl (hd 8 (by kernel_rfl))
     rw [d8] at e80
     have d19:=f19 (hd 19 (by kernel_rfl))
     have e91:a.tmps[91]? = some (x 91):=hx 19 _ 91 rfl rfl (hd 19 (by kernel_rfl))
     clear hf hx hd hy
     obtain ⟨B,hB0,hb1,hb2,hb3⟩:=d19
     rw [hB0] at e91
     have HJO:=hid (join_call wR q (some ⟨B,0,none⟩) 2 2)
     try simp only [show ((3:Nat):Int) = 3 from rfl] at HJO
     go_simp
     go_at_call 15
     with_reducible refine HJO.out.mono ?_
     rintro e w' ⟨rfl,hw8⟩
     have hB8:Below wR.heap.size wR w':=by rw [hw8]; exact (Below.refl _ wR).alloc (Nat.le_refl _) _
     simp only
     refine hK _ _ ?_
     exact ⟨below_tr hI hB8,fun h => f0 h,fun h => f1 h,fun h => f2 h,fun h => f3 h,fun h => f4 h,fun h => f5 h,fun h => f6 h,fun h => f7 h,fun h => f8 h,fun h => f9 h,fun h => f10 h,fun h => f11 h,fun h => f12 h,fun h => f13 h,fun h => f14 h,fun h => f15 h,fun h => f16 h,fun h => f17 h,fun h => f18 h,fun h => (f19 h).imp fun B h => ⟨h.1,blk_up9 hB8 h.2.1,h.2.2.1,Nat.lt_of_lt_of_le h.2.2.2 hB8.size⟩,fun _ => ⟨B,rfl,blk_up9 hB8 hb1,hb2,Nat.lt_of_lt_of_le hb3 hB8.size⟩,fun h => (f21 h).imp fun B h => h.imp fun B2 h => ⟨h.1,blk_up9 hB8 h.2.1,blk_up9 hB8 h.2.2.1,h.2.2.2.1,Nat.lt_of_lt_of_le h.2.2.2.2 hB8.size⟩,fun h => (f22 h).imp fun B h => h.imp fun v h => ⟨h.1,h.2.1,⟨own_below9 h.2.2.1.1 hB8,h.2.2.1.2⟩,blk_up9 hB8 h.2.2.2.1,h.2.2.2.2.1,Nat.lt_of_lt_of_le h.2.2.2.2.2 hB8.size⟩,fun h => ⟨((f23 h)).1,((f23 h).2).1,((f23 h).2.2).1,((f23 h).2.2.2).imp fun B h => h.imp fun v h => ⟨h.1,h.2.1,⟨own_below9 h.2.2.1.1 hB8,h.2.2.1.2⟩,blk_up9 hB8 h.2.2.2.1,h.2.2.2.2.1,Nat.lt_of_lt_of_le h.2.2.2.2.2 hB8.size⟩⟩⟩
    ·intro L x a wR K hL hd hf hx hy hΦ hK
     obtain ⟨hI,f0,f1,f2,f3,f4,f5,f6,f7,f8,f9,f10,f11,f12,f13,f14,f15,f16,f17,f18,f19,f20,f21,f22,f23⟩:=hΦ
     refine ⟨fun _ => ?_,fun h => absurd h (by rw [Go.RE.wanted_none rfl]; decide)⟩
     have d20:=f20 (hd 20 (by kernel_rfl))
     have e92:a.tmps[92]? = some (x 92):=hx 20 _ 92 rfl rfl (hd 20 (by kernel_rfl))
     clear hf hx hd hy
     obtain ⟨B,hB0,hb1,hb2,hb3⟩:=d20
     rw [hB0] at e92
     go_simp
     refine hK _ _ ?_
     exact ⟨hI.alloc hI.size _,fun h => f0 h,fun h => f1 h,fun h => f2 h,fun h => f3 h,fun h => f4 h,fun h => f5 h,fun h => f6 h,fun h => f7 h,fun h => f8 h,fun h => f9 h,fun h => f10 h,fun h => f11 h,fun h => f12 h,fun h => f13 h,fun h => f14 h,fun h => f15 h,fun h => f16 h,fun h => f17 h,fun h => f18 h,fun h => (f19 h).imp fun B h => ⟨h.1,blk_up9 ((Below.refl _ wR).alloc (Nat.le_refl _) _) h.2.1,h.2.2.1,Nat.lt_of_lt_of_le h.2.2.2 ((Below.refl _ wR).alloc (Nat.le_refl _) _).size⟩,fun h => (f20 h).imp fun B h => ⟨h.1,blk_up9 ((Below.refl _ wR).alloc (Nat.le_refl _) _) h.2.1,h.2.2.1,Nat.lt_of_lt_of_le h.2.2.2 ((Below.refl _ wR).alloc (Nat.le_refl _) _).size⟩,fun _ => ⟨B,wR.heap.size,rfl,HK.blk_new _ _,HK.blk_alloc hb1 _,hb2,by simp; omega⟩,fun h => (f22 h).imp fun B h => h.imp fun v h => ⟨h.1,h.2.1,⟨own_below9 h.2.2.1.1 ((Below.refl _ wR).alloc (Nat.le_refl _) _),h.2.2.1.2⟩,blk_up9 ((Below.refl _ wR).alloc (Nat.le_refl _) _) h.2.2.2.1,h.2.2.2.2.1,Nat.lt_of_lt_of_le h.2.2.2.2.2 ((Below.refl _ wR).alloc (Nat.le_refl _) _).size⟩,fun h => ⟨((f23 h)).1,((f23 h).2).1,((f23 h).2.2).1,((f23 h).2.2.2).imp fun B h => h.imp fun v h => ⟨h.1,h.2.1,⟨own_below9 h.2.2.1.1 ((Below.refl _ wR).alloc (Nat.le_refl _) _),h.2.2.1.2⟩,blk_up9 ((Below.refl _ wR).alloc (Nat.le_refl _) _) h.2.2.2.1,h.2.2.2.2.1,Nat.lt_of_lt_of_le h.2.2.2.2.2 ((Below.refl _ wR).alloc (Nat.le_refl _) _).size⟩⟩⟩
    ·intro L x a wR K hL hd hf hx hy hΦ hK
     obtain ⟨hI,f0,f1,f2,f3,f4,f5,f6,f7,f8,f9,f10,f11,f12,f13,f14,f15,f16,f17,f18,f19,f20,f21,f22,f23⟩:=hΦ
     refine ⟨fun _ => ?_,fun h => absurd h (by rw [Go.RE.wanted_none rfl]; decide)⟩
     have d5:=f5 (hd 5 (by kernel_rfl))
     have e77:a.tmps[77]? = some (x 77):=hx 5 _ 77 rfl rfl (hd 5 (by kernel_rfl))
     rw [d5] at e77
     have d21:=f21 (hd 21 (by kernel_rfl))
     have e93:a.tmps[93]? = some (x 93):=hx 21 _ 93 rfl rfl (hd 21 (by kernel_rfl))
     clear hf hx hd hy
     obtain ⟨B,B2,hB0,hbb,hb1,hb2,hb3⟩:=d21
     rw [hB0] at e93
     refine wp_app_grows (.tmp 77) (.tmp 93) rfl (some ⟨g,0,none⟩) j j (cellsS (Ls.take j)) (ev e77) (by intro h; cases h) HTL.out (fun bb hbb => by cases hbb; exact HTC.out _ hI) ⟨B2,0,none⟩ 1 1 [.int .u8 (q:Int),.string ⟨#[]⟩,.slice none 0 0,.slice (some ⟨B,0,none⟩) 2 2] (ev e93) rfl (fun u y hy => by rw [addr_add0,HK.blk_cell hbb,List.getElem?_toArray]; exact hy) (by simp [Value.oneCell']) (by omega) (by have h1:=HN20.out; have h2:=HJ.out.2; simp only [maxLen]; omega) (by have h1:=HN20.out; have h2:=HJ.out.2; omega) ?_
     intro v' w' hown hgrow
     have hB8:Below wR.heap.size wR w':=(Below.refl _ wR).grown hgrow (Nat.le_refl _) (fun _ h => by cases h)
     have hvB:=own_ge hown
     refine hK _ _ ?_
     exact ⟨below_tr hI hB8,fun h => f0 h,fun h => f1 h,fun h => f2 h,fun h => f3 h,fun h => f4 h,fun h => f5 h,fun h => f6 h,fun h => f7 h,fun h => f8 h,fun h => f9 h,fun h => f10 h,fun h => f11 h,fun h => f12 h,fun h => f13 h,fun h => f14 h,fun h => f15 h,fun h => f16 h,fun h => f17 h,fun h => f18 h,fun h => (f19 h).imp fun B h => ⟨h.1,blk_up9 hB8 h.2.1,h.2.2.1,Nat.lt_of_lt_of_le h.2.2.2 hB8.size⟩,fun h => (f20 h).imp fun B h => ⟨h.1,blk_up9 hB8 h.2.1,h.2.2.1,Nat.lt_of_lt_of_le h.2.2.2 hB8.size⟩,fun h => (f21 h).imp fun B h => h.imp fun B2 h => ⟨h.1,blk_up9 hB8 h.2.1,blk_up9 hB8 h.2.2.1,h.2.2.2.1,Nat.lt_of_lt_of_le h.2.2.2.2 hB8.size⟩,fun _ => ⟨B,v',rfl,(by obtain ⟨gg,gc,h9,_,_⟩:=own_form9 hown (by omega); exact ⟨gg,gc,h9⟩),⟨own_mono9 hown hI.size,(fun h => by have:=hvB B h; omega)⟩,blk_up9 hB8 hb1,hb2,Nat.lt_of_lt_of_le hb3 hB8.size⟩,fun h => ⟨((f23 h)).1,((f23 h).2).1,((f23 h).2.2).1,((f23 h).2.2.2).imp fun B h => h.imp fun v h => ⟨h.1,h.2.1,⟨own_below9 h.2.2.1.1 hB8,h.2.2.1.2⟩,blk_up9 hB8 h.2.2.2.1,h.2.2.2.2.1,Nat.lt_of_lt_of_le h.2.2.2.2.2 hB8.size⟩⟩⟩
    ·intro L x a wR K hL hd hf hx hy hΦ hK
     obtain ⟨hI,f0,f1,f2,f3,f4,f5,f6,f7,f8,f9,f10,f11,f12,f13,f14,f15,f16,f17,f18,f19,f20,f21,f22,f23⟩:=hΦ
     refine ⟨fun _ => ?_,fun h => absurd h (by rw [Go.RE.wanted_none rfl]; decide)⟩
     have d22:=f22 (hd 22 (by kernel_rfl))
     have e94:a.tmps[94]? = some (x 94):=hx 22 _ 94 rfl rfl (hd 22 (by kernel_rfl))
     have r0:=hd 0 (by kernel_rfl)
     have r9:=hd 9 (by kernel_rfl)
     have r14:=hd 14 (by kernel_rfl)
     clear hf hx hd hy
     obtain ⟨B,v',hv',⟨gg,gc,rfl⟩,hown,hb⟩:=d22
     rw [hv'] at e94
     go_simp
     refine hK _ _ ?_
     exact ⟨hI,fun h => f0 h,fun h => f1 h,fun h => f2 h,fun h => f3 h,fun h => f4 h,fun h => f5 h,fun h => f6 h,fun h => f7 h,fun h => f8 h,fun h => f9 h,fun h => f10 h,fun h => f11 h,fun h => f12 h,fun h => f13 h,fun h => f14 h,fun h => f15 h,fun h => f16 h,fun h => f17 h,fun h => f18 h,fun h => f19 h,fun h => f20 h,fun h => f21 h,fun h => f22 h,fun _ => ⟨r0,r9,r14,B,_,rfl,⟨gg,gc,rfl⟩,hown,hb⟩⟩
    ·rintro x W ⟨hI,f0,f1,f2,f3,f4,f5,f6,f7,f8,f9,f10,f11,f12,f13,f14,f15,f16,f17,f18,f19,f20,f21,f22,f23⟩
     obtain ⟨_,_,_,B,v',hx5,⟨gg,gc,hv'⟩,⟨hown,hvB⟩,hbc,hb1,hb2⟩:=f23 rfl
     subst hv'
     have hge:=own_ge hown
     have hturn:∀ {a s:SL} {f:Fm},IsFm (fun k => w.heap.size < k /\ k < wb.heap.size /\ (Value.slice (some ⟨g,0,none⟩) n c).ownBlock ≠ some k) wb a s f -> IsFm (fun k => w.heap.size < k /\ k < W.heap.size /\ (Value.slice (some ⟨gg,0,none⟩) (j + 1) gc).ownBlock ≠ some k) W a s f:=fun h => h.turn fun k hk => ⟨⟨hk.1,Nat.lt_of_lt_of_le hk.2.1 hI.size,fun e => by have:=hge k e; omega⟩,hI.block k hk.2.1⟩
     rw [HeO.out,HeM.out,HyO.out,HyM.out] at hbc
     have hnew:=join_two (p:=(ef,⟨ea0,ea1,ea2⟩,⟨es0,es1,es2⟩)) (q:=(yf,⟨ya0,ya1,ya2⟩,⟨ys0,ys1,ys2⟩)) (op:=q) (c:=2) HQ256.out (hturn HeF.out) (hturn HyF.out) (B:=B) ⟨(by have:=HK.blk_lt HI.out.rz; omega),hb2,hvB⟩ hbc
     have hst:=HI.out.fresh (p:=(Op2 q ef yf,⟨none,0,0⟩,⟨some ⟨B,0,none⟩,2,2⟩)) (v':=.slice (some ⟨gg,0,none⟩) (j + 1) gc) (j:=j) HJL.out hI hown hnew
     have HST:=hid hst
     have HX5:=hid hx5
     clear hI hst hnew hturn hge hown hvB hbc hb1 hb2 hx5 f0 f1 f2 f3 f4 f5 f6 f7 f8 f9 f10 f11 f12 f13 f14 f15 f16 f17 f18 f19 f20 f21 f22 f23
     simp only [Exit.then,Go.RE.fillL,List.any_cons,List.any_nil,Nat.beq,Bool.or_false,Bool.or_true,cond_true,cond_false,Bool.true_or,Bool.false_or]
     rw [HX5.out]
     go_wp2_with (fail)
     go_roundw
     case rel => exact ⟨_,k + 1,_,rfl,by have:=HK20.out; omega,by go_num,by rw [HSTP.out,HNX.out]; simp,HST.out⟩
     case measure => have:=HK20.out; simp [intOf]; omega
   ·obtain ⟨ad,cc,rfl⟩:=hvn
    have c1:¬ (p:Int) < 3:=by omega
    have c1b:¬ p < 3:=by omega
    have c2:((p:Int) == 3) = false:=by simp; omega
    have c2n:¬ (p:Int) = 3:=by omega
    have c4:(3:Int) < (p:Int):=by omega
    have c4b:3 < p:=by omega
    have c5:(p:Int) < 8:=by omega
    have c5b:p < 8:=by omega
    have c6:¬ (2:Int) <= (n:Int):=by omega
    have c6b:¬ 2 <= n:=by omega
    have c7:¬ (8:Int) <= (p:Int):=by omega
    have c7b:¬ 8 <= p:=by omega
    have c9:((p:Int) == 8) = false:=by simp; omega
    have c9n:¬ (p:Int) = 8:=by omega
    have HNX:Hid (bstep modal (Ls.map (·.1)) b = Ls.map (·.1)):=hid (by exact bstep_N _ _ _ (by rw [<- HP.out]; omega) (by rw [<- HP.out,List.length_map,hLn]; omega) (by rw [<- HP.out,List.length_map,hLn]; omega) (by rw [<- HP.out,List.length_map,hLn,HMOD.out]; intro h; first | (exfalso; omega) | (refine ⟨by omega,?_⟩; first | (left; omega) | (right; exact decide_eq_false (by omega)))))
    clear hI hLl hbp hsc hform hLn
    go_wp2_with (fail)
    go_roundw
    case rel => exact ⟨_,k + 1,Ls,rfl,by have:=HK20.out; omega,by go_num,by rw [HSTP.out,HNX.out],HI.out⟩
    case measure => have:=HK20.out; simp [intOf]; omega
   ·have c1:¬ (p:Int) < 3:=by omega
    have c1b:¬ p < 3:=by omega
    have c2:((p:Int) == 3) = false:=by simp; omega
    have c2n:¬ (p:Int) = 3:=by omega
    have c4:(3:Int) < (p:Int):=by omega
    have c4b:3 < p:=by omega
    have c5:¬ (p:Int) < 8:=by omega
    have c5b:¬ p < 8:=by omega
    have c7:(8:Int) <= (p:Int):=by omega
    have c7b:8 <= p:=by omega
    have c3:(1:Int) <= (n:Int):=by omega
    have c3b:1 <= n:=by omega
    have c8:((kd:Int) == 4) = true:=by simp; omega
    have hn0:1 <= n:=by omega
    obtain ⟨g,c,rfl,hnc⟩:∃ g c,vo = .slice (some ⟨g,0,none⟩) n c /\ n <= c:=by
     rcases hform with ⟨_,h2⟩ | h
     ·omega
     ·exact h
    obtain ⟨j,hj⟩:∃ j,j = n - 1:=⟨_,rfl⟩
    obtain ⟨⟨ef,⟨ea0,ea1,ea2⟩,⟨es0,es1,es2⟩⟩,hee⟩:∃ q,Ls[j]? = some q:=⟨_,List.getElem?_eq_getElem (by omega)⟩
    obtain ⟨eo,heo⟩:∃ o,o = ef.op:=⟨_,rfl⟩
    obtain ⟨em,hem⟩:∃ m,m = ef.name:=⟨_,rfl⟩
    have HCE:Hid (∀ W,Below wr.heap.size wr W -> W.cell? ⟨g,j * 4,none⟩ = some (.int .u8 (eo:Int)) /\ W.cell? ⟨g,j * 4 + 1,none⟩ = some (.string em) /\ W.cell? ⟨g,j * 4 + 2,none⟩ = some (.slice ea0 ea1 ea2) /\ W.cell? ⟨g,j * 4 + 3,none⟩ = some (.slice es0 es1 es2)):=hid fun W h => by
     rw [heo,hem]; exact hI.at h hLn hee
    have HeF:Hid (IsFm (fun k => w.heap.size < k /\ k < wr.heap.size /\ (Value.slice (some ⟨g,0,none⟩) n c).ownBlock ≠ some k) wr ⟨ea0,ea1,ea2⟩ ⟨es0,es1,es2⟩ ef):=hid (hI.hf _ (List.mem_of_getElem? hee))
    have HeO:=hid heo
    have HeM:=hid hem
    have HeE:=hid hee
    have HJ:Hid ((0:Int) <= (j:Int) /\ (j:Int) < (n:Int)):=hid (by omega)
    have HJC:Hid ((0:Int) <= (j:Int) /\ (j:Int) <= (c:Int)):=hid (by omega)
    have HJL:Hid (j <= Ls.length):=hid (by omega)
    have HS1:Hid (IntKind.i64.wrap ((n:Int) - 1) = (j:Int) /\ wrap64 ((n:Int) - 1) = (j:Int) /\ (n:Int) - 1 = (j:Int)):=hid (by rw [<- IntWalk.i64_left,IntWalk.i64_in _ (by omega)]; omega)
    have HTL:Hid ((cellsS (Ls.take j)).length = j * 4):=hid (by rw [cellsS_len,List.length_take,Nat.min_eq_left (by omega)])
    have HTC:Hid (∀ W,Below wr.heap.size wr W -> ∀ jj u,(cellsS (Ls.take j))[jj]? = some u -> W.cell? ((⟨g,0,none⟩:Addr).add jj) = some u):=hid fun W h jj u hu => by
     have ho:=own_below9 hI.ho h
     rw [hLn] at ho
     rw [cellsS_take,List.getElem?_take] at hu
     split at hu
     ·rw [addr_add0,ho.cellAt _ (by omega)]; exact hu
     ·cases hu
    obtain ⟨q,hq⟩:∃ q,q = p + 2:=⟨_,rfl⟩
    obtain ⟨pt,hpt⟩:∃ pt,pt = 10 + p:=⟨_,rfl⟩
    have HP1:Hid (IntKind.u8.wrap (10 + (p:Int)) = (pt:Int) /\ 10 + (p:Int) = (pt:Int)):=hid (by rw [IntWalk.u8_in _ (by omega)]; omega)
    have HP2:Hid (IntKind.u8.wrap ((pt:Int) - 8) = (q:Int) /\ (pt:Int) - 8 = (q:Int)):=hid (by rw [IntWalk.u8_in _ (by omega)]; omega)
    have HQ256:Hid (q < 256):=hid (by omega)
    have HNX:Hid (bstep modal (Ls.map (·.1)) b = (Ls.take j).map (·.1) ++ [Op1 q ef]):=hid (by
     have hl9:(Ls.map (·.1)).length = n:=by rw [List.length_map]; exact hLn
     rw [show modal = true by rw [HMOD.out]; exact decide_eq_true (by omega)]
     rw [bstep_D _ _ (by rw [<- HP.out]; omega) (by omega),hl9,<- hj,map_getD hee,List.map_take,<- HP.out,hq])
    clear hI hLl hbp hsc hform hvn hLn hj heo hem hee hq hpt hnc
    obtain ⟨wb,hwb⟩:∃ wb:World,wb = wr:=⟨_,rfl⟩
    subst hwb
    go_upto_region 14 with (fail)
    refine Go.RE.wp_region_eachh [106,107,108,109,110,111,112,113,114,115,116,117,118,119,120,121,122,123,5] (fun L x W => (Below wb.heap.size wb W) /\ (L 0 = true -> x 106 = .slice (some ⟨g,0,none⟩) n c) /\ (L 1 = true -> x 107 = .int .i64 (n:Int)) /\ (L 2 = true -> x 108 = .int .i64 (j:Int)) /\ (L 3 = true -> x 109 = .int .i64 (n:Int)) /\ (L 4 = true -> x 110 = .int .i64 (j:Int)) /\ (L 5 = true -> x 111 = .slice (some ⟨g,0,none⟩) j j) /\ (L 6 = true -> x 112 = .int .u8 (p:Int)) /\ (L 7 = true -> x 113 = .int .u8 (pt:Int)) /\ (L 8 = true -> x 114 = .int .u8 (q:Int)) /\ (L 9 = true -> x 115 = .slice (some ⟨g,0,none⟩) n c) /\ (L 10 = true -> x 116 = .int .i64 (n:Int)) /\ (L 11 = true -> x 117 = .int .i64 (j:Int)) /\ (L 12 = true -> x 118 = .pointer (some ⟨g,j * 4,none⟩)) /\ (L 13 = true -> x 119 = .agg #[.int .u8 (eo:Int),.string em,.slice ea0 ea1 ea2,.slice es0 es1 es2]) /\ (L 14 = true -> ∃ B,x 120 = .slice (some ⟨B,0,none⟩) 1 1 /\ W.heap[B]? = some (.cells #[.int .u8 (eo:Int),.string em,.slice ea0 ea1 ea2,.slice es0 es1 es2] 35 (0,0)) /\ wb.heap.size <= B /\ B < W.heap.size) /\ (L 15 = true -> ∃ B,x 121 = .agg #[.int .u8 (q:Int),.string ⟨#[]⟩,.slice none 0 0,.slice (some ⟨B,0,none⟩) 1 1] /\ W.heap[B]? = some (.cells #[.int .u8 (eo:Int),.string em,.slice ea0 ea1 ea2,.slice es0 es1 es2] 35 (0,0)) /\ wb.heap.size <= B /\ B < W.heap.size) /\ (L 16 = true -> ∃ B B2,x 122 = .slice (some ⟨B2,0,none⟩) 1 1 /\ W.heap[B2]? = some (.cells #[.int .u8 (q:Int),.string ⟨#[]⟩,.slice none 0 0,.slice (some ⟨B,0,none⟩) 1 1] 35 (0,0)) /\ W.heap[B]? = some (.cells #[.int .u8 (eo:Int),.string em,.slice ea0 ea1 ea2,.slice es0 es1 es2] 35 (0,0)) /\ wb.heap.size <= B /\ B < W.heap.size) /\ (L 17 = true -> ∃ B v',x 123 = v' /\ (∃ g c,v' = .slice (some ⟨g,0,none⟩) (j + 1) c) /\ (W.ownsRow wb.heap.size 35 4 v' (j + 1) (cellsS (Ls.take j) ++ [.int .u8 (q:Int),.string ⟨#[]⟩,.slice none 0 0,.slice (some ⟨B,0,none⟩) 1 1]) /\ v'.ownBlock ≠ some B) /\ W.heap[B]? = some (.cells #[.int .u8 (eo:Int),.string em,.slice ea0 ea1 ea2,.slice es0 es1 es2] 35 (0,0)) /\ wb.heap.size <= B /\ B < W.heap.size) /\ (L 18 = true -> L 0 = true /\ L 9 = true /\ ∃ B v',x 5 = v' /\ (∃ g c,v' = .slice (some ⟨g,0,none⟩) (j + 1) c) /\ (W.ownsRow wb.heap.size 35 4 v' (j + 1) (cellsS (Ls.take j) ++ [.int .u8 (q:Int),.string ⟨#[]⟩,.slice none 0 0,.slice (some ⟨B,0,none⟩) 1 1]) /\ v'.ownBlock ≠ some B) /\ W.heap[B]? = some (.cells #[.int .u8 (eo:Int),.string em,.slice ea0 ea1 ea2,.slice es0 es1 es2] 35 (0,0)) /\ wb.heap.size <= B /\ B < W.heap.size)) (by kernel_rfl) (by kernel_rfl) (by kernel_rfl) ?_ ((Go.RE.Each.cons ?_ (Go.RE.Each.cons ?_ (Go.RE.Each.cons ?_ (Go.RE.Each.cons ?_ (Go.RE.Each.cons ?_ (Go.RE.Each.cons ?_ (Go.RE.Each.cons ?_ (Go.RE.Each.cons ?_ (Go.RE.Each.cons ?_ (Go.RE.Each.cons ?_ (Go.RE.Each.cons ?_ (Go.RE.Each.cons ?_ (Go.RE.Each.cons ?_ (Go.RE.Each.cons ?_ (Go.RE.Each.cons ?_ (Go.RE.Each.cons ?_ (Go.RE.Each.cons ?_ (Go.RE.Each.cons ?_ (Go.RE.Each.cons ?_ Go.RE.Each.nil)))))))))))))))))))) ?_
    ·exact fun x => ⟨bl_dr (Below.refl _ _),fun h => (by cases h),fun h => (by cases h),fun h => (by cases h),fun h => (by cases h),fun h => (by cases h),fun h => (by cases h),fun h => (by cases h),fun h => (by cases h),fun h => (by cases h),fun h => (by cases h),fun h => (by cases h),fun h => (by cases h),fun h => (by cases h),fun h => (by cases h),fun h => (by cases h),fun h => (by cases h),fun h => (by cases h),fun h => (by cases h),fun h => (by cases h)⟩
    ·intro L x a wR K hL hd hf hx hy hΦ hK
     obtain ⟨hI,f0,f1,f2,f3,f4,f5,f6,f7,f8,f9,f10,f11,f12,f13,f14,f15,f16,f17,f18⟩:=hΦ
     refine ⟨fun _ => ?_,fun h => absurd h (by rw [Go.RE.wanted_none rfl]; decide)⟩
     have hL18:L 18 = false:=by rcases e:L 18 with _ | _; rfl; have hh:=f18 e; simp [hL] at hh
     have e5:a.tmps[5]? = some (.slice (some ⟨g,0,none⟩) n c):=hy 18 _ 5 rfl rfl hL18
     clear hf hx hd hy
     go_simp
     refine hK _ _ ?_
     exact ⟨hI,fun _ => rfl,fun h => f1 h,fun h => f2 h,fun h => f3 h,fun h => f4 h,fun h => f5 h,fun h => f6 h,fun h => f7 h,fun h => f8 h,fun h => f9 h,fun h => f10 h,fun h => f11 h,fun h => f12 h,fun h => f13 h,fun h => f14 h,fun h => f15 h,fun h => f16 h,fun h => f17 h,fun h => by have hh:=f18 h; simp [hL] at hh⟩
    ·intro L x a wR K hL hd hf hx hy hΦ hK
     obtain ⟨hI,f0,f1,f2,f3,f4,f5,f6,f7,f8,f9,f10,f11,f12,f13,f14,f15,f16,f17,f18⟩:=hΦ
     refine ⟨fun _ => ?_,fun h => absurd h (by rw [Go.RE.wanted_none rfl]; decide)⟩
     have e7:a.tmps[7]? = some (.int .i64 (n:Int)):=hf 7 (of_decide_eq_true (by kernel_rfl))
     clear hf hx hd hy
     go_simp
     refine hK _ _ ?_
     exact ⟨hI,fun h => f0 h,fun _ => rfl,fun h => f2 h,fun h => f3 h,fun h => f4 h,fun h => f5 h,fun h => f6 h,fun h => f7 h,fun h => f8 h,fun h => f9 h,fun h => f10 h,fun h => f11 h,fun h => f12 h,fun h => f13 h,fun h => f14 h,fun h => f15 h,fun h => f16 h,fun h => f17 h,fun h => f18 h⟩
    ·intro L x a wR K hL hd hf hx hy hΦ hK
     obtain ⟨hI,f0,f1,f2,f3,f4,f5,f6,f7,f8,f9,f10,f11,f12,f13,f14,f15,f16,f17,f18⟩:=hΦ
     refine ⟨fun _ => ?_,fun h => absurd h (by rw [Go.RE.wanted_none rfl]; decide)⟩
     have d1:=f1 (hd 1 (by kernel_rfl))
     have e107:a.tmps[107]? = some (x 107):=hx 1 _ 107 rfl rfl (hd 1 (by kernel_rfl))
     rw [d1] at e107
     have sb1:=HS1.out.1
     have sb2:=HS1.out.2.1
     clear hf hx hd hy
     go_simp
     refine hK _ _ ?_
     exact ⟨hI,fun h => f0 h,fun h => f1 h,fun _ => rfl,fun h => f3 h,fun h => f4 h,fun h => f5 h,fun h => f6 h,fun h => f7 h,fun h => f8 h,fun h => f9 h,fun h => f10 h,fun h => f11 h,fun h => f12 h,fun h => f13 h,fun h => f14 h,fun h => f15 h,fun h => f16 h,fun h => f17 h,fun h => f18 h⟩
    ·intro L x a wR K hL hd hf hx hy hΦ hK
     obtain ⟨hI,f0,f1,f2,f3,f4,f5,f6,f7,f8,f9,f10,f11,f12,f13,f14,f15,f16,f17,f18⟩:=hΦ
     refine ⟨fun _ => ?_,fun h => absurd h (by rw [Go.RE.wanted_none rfl]; decide)⟩
     have e7:a.tmps[7]? = some (.int .i64 (n:Int)):=hf 7 (of_decide_eq_true (by kernel_rfl))
     clear hf hx hd hy
     go_simp
     refine hK _ _ ?_
     exact ⟨hI,fun h => f0 h,fun h => f1 h,fun h => f2 h,fun _ => rfl,fun h => f4 h,fun h => f5 h,fun h => f6 h,fun h => f7 h,fun h => f8 h,fun h => f9 h,fun h => f10 h,fun h => f11 h,fun h => f12 h,fun h => f13 h,fun h => f14 h,fun h => f15 h,fun h => f16 h,fun h => f17 h,fun h => f18 h⟩
    ·intro L x a wR K hL hd hf hx hy hΦ hK
     obtain ⟨hI,f0,f1,f2,f3,f4,f5,f6,f7,f8,f9,f10,f11,f12,f13,f14,f15,f16,f17,f18⟩:=hΦ
     refine ⟨fun _ => ?_,fun h => absurd h (by rw [Go.RE.wanted_none rfl]; decide)⟩
     have d3:=f3 (hd 3 (by kernel_rfl))
     have e109:a.tmps[109]? = some (x 109):=hx 3 _ 109 rfl rfl (hd 3 (by kernel_rfl))
     rw [d3] at e109
     have sb1:=HS1.out.1
     have sb2:=HS1.out.2.1
     clear hf hx hd hy
     go_simp
     refine hK _ _ ?_
     exact ⟨hI,fun h => f0 h,fun h => f1 h,fun h => f2 h,fun h => f3 h,fun _ => rfl,fun h => f5 h,fun h => f6 h,fun h => f7 h,fun h => f8 h,fun h => f9 h,fun h => f10 h,fun h => f11 h,fun h => f12 h,fun h => f13 h,fun h => f14 h,fun h => f15 h,fun h => f16 h,fun h => f17 h,fun h => f18 h⟩
    ·intro L x a wR K hL hd hf hx hy hΦ hK
     obtain ⟨hI,f0,f1,f2,f3,f4,f5,f6,f7,f8,f9,f10,f11,f12,f13,f14,f15,f16,f17,f18⟩:=hΦ
     refine ⟨fun _ => ?_,fun h => absurd h (by rw [Go.RE.wanted_none rfl]; decide)⟩
     have d0:=f0 (hd 0 (by kernel_rfl))
     have e106:a.tmps[106]? = some (x 106):=hx 0 _ 106 rfl rfl (hd 0 (by kernel_rfl))
     rw [d0] at e106
     have d2:=f2 (hd 2 (by kernel_rfl))
     have e108:a.tmps[108]? = some (x 108):=hx 2 _ 108 rfl rfl (hd 2 (by kernel_rfl))
     rw [d2] at e108
     have d4:=f4 (hd 4 (by kernel_rfl))
     have e110:a.tmps[110]? = some (x 110):=hx 4 _ 110 rfl rfl (hd 4 (by kernel_rfl))
     rw [d4] at e110
     have l1:=HJC.out.1
     have l2:=HJC.out.2
     clear hf hx hd hy
     go_simp
     refine hK _ _ ?_
     exact ⟨hI,fun h => f0 h,fun h => f1 h,fun h => f2 h,fun h => f3 h,fun h => f4 h,fun _ => rfl,fun h => f6 h,fun h => f7 h,fun h => f8 h,fun h => f9 h,fun h => f10 h,fun h => f11 h,fun h => f12 h,fun h => f13 h,fun h => f14 h,fun h => f15 h,fun h => f16 h,fun h => f17 h,fun h => f18 h⟩
    ·intro L x a wR K hL hd hf hx hy hΦ hK
     obtain ⟨hI,f0,f1,f2,f3,f4,f5,f6,f7,f8,f9,f10,f11,f12,f13,f14,f15,f16,f17,f18⟩:=hΦ
     refine ⟨fun _ => ?_,fun h => absurd h (by rw [Go.RE.wanted_none rfl]; decide)⟩
     have e8:a.tmps[8]? = some (.int .u8 (p:Int)):=hf 8 (of_decide_eq_true (by kernel_rfl))
     clear hf hx hd hy
     go_simp
     refine hK _ _ ?_
     exact ⟨hI,fun h => f0 h,fun h => f1 h,fun h => f2 h,fun h => f3 h,fun h => f4 h,fun h => f5 h,fun _ => rfl,fun h => f7 h,fun h => f8 h,fun h => f9 h,fun h => f10 h,fun h => f11 h,fun h => f12 h,fun h => f13 h,fun h => f14 h,fun h => f15 h,fun h => f16 h,fun h => f17 h,fun h => f18 h⟩
    ·intro L x a wR K hL hd hf hx hy hΦ hK
     obtain ⟨hI,f0,f1,f2,f3,f4,f5,f6,f7,f8,f9,f10,f11,f12,f13,f14,f15,f16,f17,f18⟩:=hΦ
     refine ⟨fun _ => ?_,fun h => absurd h (by rw [Go.RE.wanted_none rfl]; decide)⟩
     have d6:=f6 (hd 6 (by kernel_rfl))
     have e112:a.tmps[112]? = some (x 112):=hx 6 _ 112 rfl rfl (hd 6 (by kernel_rfl))
     rw [d6] at e112
     have q1:=HP1.out.1
     clear hf hx hd hy
     go_simp
     refine hK _ _ ?_
     exact ⟨hI,fun h => f0 h,fun h => f1 h,fun h => f2 h,fun h => f3 h,fun h => f4 h,fun h => f5 h,fun h => f6 h,fun _ => rfl,fun h => f8 h,fun h => f9 h,fun h => f10 h,fun h => f11 h,fun h => f12 h,fun h => f13 h,fun h => f14 h,fun h => f15 h,fun h => f16 h,fun h => f17 h,fun h => f18 h⟩
    ·intro L x a wR K hL hd hf hx hy hΦ hK
     obtain ⟨hI,f0,f1,f2,f3,f4,f5,f6,f7,f8,f9,f10,f11,f12,f13,f14,f15,f16,f17,f18⟩:=hΦ
     refine ⟨fun _ => ?_,fun h => absurd h (by rw [Go.RE.wanted_none rfl]; decide)⟩
     have d7:=f7 (hd 7 (by kernel_rfl))
     have e113:a.tmps[113]? = some (x 113):=hx 7 _ 113 rfl rfl (hd 7 (by kernel_rfl))
     rw [d7] at e113
     have q2:=HP2.out.1
     clear hf hx hd hy
     go_simp
     refine hK _ _ ?_
     exact ⟨hI,fun h => f0 h,fun h => f1 h,fun h => f2 h,fun h => f3 h,fun h => f4 h,fun h => f5 h,fun h => f6 h,fun h => f7 h,fun _ => rfl,fun h => f9 h,fun h => f10 h,fun h => f11 h,fun h => f12 h,fun h => f13 h,fun h => f14 h,fun h => f15 h,fun h => f16 h,fun h => f17 h,fun h => f18 h⟩
    ·intro L x a wR K hL hd hf hx hy hΦ hK
     obtain ⟨hI,f0,f1,f2,f3,f4,f5,f6,f7,f8,f9,f10,f11,f12,f13,f14,f15,f16,f17,f18⟩:=hΦ
     refine ⟨fun _ => ?_,fun h => absurd h (by rw [Go.RE.wanted_none rfl]; decide)⟩
     have hL18:L 18 = false:=by rcases e:L 18 with _ | _; rfl; have hh:=f18 e; simp [hL] at hh
     have e5:a.tmps[5]? = some (.slice (some ⟨g,0,none⟩) n c):=hy 18 _ 5 rfl rfl hL18
     clear hf hx hd hy
     go_simp
     refine hK _ _ ?_
     exact ⟨hI,fun h => f0 h,fun h => f1 h,fun h => f2 h,fun h => f3 h,fun h => f4 h,fun h => f5 h,fun h => f6 h,fun h => f7 h,fun h => f8 h,fun _ => rfl,fun h => f10 h,fun h => f11 h,fun h => f12 h,fun h => f13 h,fun h => f14 h,fun h => f15 h,fun h => f16 h,fun h => f17 h,fun h => by have hh:=f18 h; simp [hL] at hh⟩
    ·intro L x a wR K hL hd hf hx hy hΦ hK
     obtain ⟨hI,f0,f1,f2,f3,f4,f5,f6,f7,f8,f9,f10,f11,f12,f13,f14,f15,f16,f17,f18⟩:=hΦ
     refine ⟨fun _ => ?_,fun h => absurd h (by rw [Go.RE.wanted_none rfl]; decide)⟩
     have e7:a.tmps[7]? = some (.int .i64 (n:Int)):=hf 7 (of_decide_eq_true (by kernel_rfl))
     clear hf hx hd hy
     go_simp
     refine hK _ _ ?_
     exact ⟨hI,fun h => f0 h,fun h => f1 h,fun h => f2 h,fun h => f3 h,fun h => f4 h,fun h => f5 h,fun h => f6 h,fun h => f7 h,fun h => f8 h,fun h => f9 h,fun _ => rfl,fun h => f11 h,fun h => f12 h,fun h => f13 h,fun h => f14 h,fun h => f15 h,fun h => f16 h,fun h => f17 h,fun h => f18 h⟩
    ·intro L x a wR K hL hd hf hx hy hΦ hK
     obtain ⟨hI,f0,f1,f2,f3,f4,f5,f6,f7,f8,f9,f10,f11,f12,f13,f14,f15,f16,f17,f18⟩:=hΦ
     refine ⟨fun _ => ?_,fun h => absurd h (by rw [Go.RE.wanted_none rfl]; decide)⟩
     have d10:=f10 (hd 10 (by kernel_rfl))
     have e116:a.tmps[116]? = some (x 116):=hx 10 _ 116 rfl rfl (hd 10 (by kernel_rfl))
     rw [d10] at e116
     have sb1:=HS1.out.1
     have sb2:=HS1.out.2.1
     clear hf hx hd hy
     go_simp
     refine hK _ _ ?_
     exact ⟨hI,fun h => f0 h,fun h => f1 h,fun h => f2 h,fun h => f3 h,fun h => f4 h,fun h => f5 h,fun h => f6 h,fun h => f7 h,fun h => f8 h,fun h => f9 h,fun h => f10 h,fun _ => rfl,fun h => f12 h,fun h => f13 h,fun h => f14 h,fun h => f15 h,fun h => f16 h,fun h => f17 h,fun h => f18 h⟩
    ·intro L x a wR K hL hd hf hx hy hΦ hK
     obtain ⟨hI,f0,f1,f2,f3,f4,f5,f6,f7,f8,f9,f10,f11,f12,f13,f14,f15,f16,f17,f18⟩:=hΦ
     refine ⟨fun _ => ?_,fun h => absurd h (by rw [Go.RE.wanted_none rfl]; decide)⟩
     have d9:=f9 (hd 9 (by kernel_rfl))
     have e115:a.tmps[115]? = some (x 115):=hx 9 _ 115 rfl rfl (hd 9 (by kernel_rfl))
     rw [d9] at e115
     have d11:=f11 (hd 11 (by kernel_rfl))
     have e117:a.tmps[117]? = some (x 117):=hx 11 _ 117 rfl rfl (hd 11 (by kernel_rfl))
     rw [d11] at e117
     have l1:=HJ.out.1
     have l2:=HJ.out.2
     clear hf hx hd hy
     go_simp
     refine hK _ _ ?_
     exact ⟨hI,fun h => f0 h,fun h => f1 h,fun h => f2 h,fun h => f3 h,fun h => f4 h,fun h => f5 h,fun h => f6 h,fun h => f7 h,fun h => f8 h,fun h => f9 h,fun h => f10 h,fun h => f11 h,fun _ => rfl,fun h => f13 h,fun h => f14 h,fun h => f15 h,fun h => f16 h,fun h => f17 h,fun h => f18 h⟩
    ·intro L x a wR K hL hd hf hx hy hΦ hK
     obtain ⟨hI,f0,f1,f2,f3,f4,f5,f6,f7,f8,f9,f10,f11,f12,f13,f14,f15,f16,f17,f18⟩:=hΦ
     refine ⟨fun _ => ?_,fun h => absurd h (by rw [Go.RE.wanted_none rfl]; decide)⟩
     have d12:=f12 (hd 12 (by kernel_rfl))
     have e118:a.tmps[118]? = some (x 118):=hx 12 _ 118 rfl rfl (hd 12 (by kernel_rfl))
     rw [d12] at e118
     obtain ⟨c0,c1,c2,c3⟩:=HCE.out _ hI
     clear hf hx hd hy
     go_simp
     refine hK _ _ ?_
     exact ⟨hI,fun h => f0 h,fun h => f1 h,fun h => f2 h,fun h => f3 h,fun h => f4 h,fun h => f5 h,fun h => f6 h,fun h => f7 h,fun h => f8 h,fun h => f9 h,fun h => f10 h,fun h => f11 h,fun h => f12 h,fun _ => rfl,fun h => f14 h,fun h => f15 h,fun h => f16 h,fun h => f17 h,fun h => f18 h⟩
    ·intro L x a wR K hL hd hf hx hy hΦ hK
     obtain ⟨hI,f0,f1,f2,f3,f4,f5,f6,f7,f8,f9,f10,f11,f12,f13,f14,f15,f16,f17,f18⟩:=hΦ
     refine ⟨fun _ => ?_,fun h => absurd h (by rw [Go.RE.wanted_none rfl]; decide)⟩
     have d13:=f13 (hd 13 (by kernel_rfl))
     have e119:a.tmps[119]? = some (x 119):=hx 13 _ 119 rfl rfl (hd 13 (by kernel_rfl))
     rw [d13] at e119
     clear hf hx hd hy
     go_simp
     refine hK _ _ ?_
     exact ⟨hI.alloc hI.size _,fun h => f0 h,fun h => f1 h,fun h => f2 h,fun h => f3 h,fun h => f4 h,fun h => f5 h,fun h => f6 h,fun h => f7 h,fun h => f8 h,fun h => f9 h,fun h => f10 h,fun h => f11 h,fun h => f12 h,fun h => f13 h,fun _ => ⟨wR.heap.size,rfl,HK.blk_new _ _,hI.size,by simp⟩,fun h => (f15 h).imp fun B h => ⟨h.1,blk_up9 ((Below.refl _ wR).alloc (Nat.le_refl _) _) h.2.1,h.2.2.1,Nat.lt_of_lt_of_le h.2.2.2 ((Below.refl _ wR).alloc (Nat.le_refl _) _).size⟩,fun h => (f16 h).imp fun B h => h.imp fun B2 h => ⟨h.1,blk_up9 ((Below.refl _ wR).alloc (Nat.le_refl _) _) h.2.1,blk_up9 ((Below.refl _ wR).alloc (Nat.le_refl _) _) h.2.2.1,h.2.2.2.1,Nat.lt_of_lt_of_le h.2.2.2.2 ((Below.refl _ wR).alloc (Nat.le_refl _) _).size⟩,fun h => (f17 h).imp fun B h => h.imp fun v h => ⟨h.1,h.2.1,⟨own_below9 h.2.2.1.1 ((Below.refl _ wR).alloc (Nat.le_refl _) _),h.2.2.1.2⟩,blk_up9 ((Below.refl _ wR).alloc (Nat.le_refl _) _) h.2.2.2.1,h.2.2.2.2.1,Nat.lt_of_lt_of_le h.2.2.2.2.2 ((Below.refl _ wR).alloc (Nat.le_refl _) _).size⟩,fun h => ⟨((f18 h)).1,((f18 h).2).1,((f18 h).2.2).imp fun B h => h.imp fun v h => ⟨h.1,h.2.1,⟨own_below9 h.2.2.1.1 ((Below.refl _ wR).alloc (Nat.le_refl _) _),h.2.2.1.2⟩,blk_up9 ((Below.refl _ wR).alloc (Nat.le_refl _) _) h.2.2.2.1,h.2.2.2.2.1,Nat.lt_of_lt_of_le h.2.2.2.2.2 ((Below.refl _ wR).alloc (Nat.le_refl _) _).size⟩⟩⟩
    ·intro L x a wR K hL hd hf hx hy hΦ hK
     obtain ⟨hI,f0,f1,f2,f3,f4,f5,f6,f7,f8,f9,f10,f11,f12,f13,f14,f15,f16,f17,f18⟩:=hΦ
     refine ⟨fun _ => ?_,fun h => absurd h (by rw [Go.RE.wanted_none rfl]; decide)⟩
     have d8:=f8 (hd 8 (by kernel_rfl))
     have e114:a.tmps[114]? = some (x 114):=hx 8 _ 114 rfl rfl (hd 8 (by kernel_rfl))
     rw [d8] at e114
     have d14:=f14 (hd 14 (by kernel_rfl))
     have e120:a.tmps[120]? = some (x 120):=hx 14 _ 120 rfl rfl (hd 14 (by kernel_rfl))
     clear hf hx hd hy
     obtain ⟨B,hB0,hb1,hb2,hb3⟩:=d14
     rw [hB0] at e120
     have HJO:=hid (join_call wR q (some ⟨B,0,none⟩) 1 1)
     try simp only [show ((3:Nat):Int) = 3 from rfl] at HJO
     go_simp
     go_at_call 15
     with_reducible refine HJO.out.mono ?_
     rintro e w' ⟨rfl,hw8⟩
     have hB8:Below wR.heap.size wR w':=by rw [hw8]; exact (Below.refl _ wR).alloc (Nat.le_refl _) _
     simp only
     refine hK _ _ ?_
     exact ⟨below_tr hI hB8,fun h => f0 h,fun h => f1 h,fun h => f2 h,fun h => f3 h,fun h => f4 h,fun h => f5 h,fun h => f6 h,fun h => f7 h,fun h => f8 h,fun h => f9 h,fun h => f10 h,fun h => f11 h,fun h => f12 h,fun h => f13 h,fun h => (f14 h).imp fun B h => ⟨h.1,blk_up9 hB8 h.2.1,h.2.2.1,Nat.lt_of_lt_of_le h.2.2.2 hB8.size⟩,fun _ => ⟨B,rfl,blk_up9 hB8 hb1,hb2,Nat.lt_of_lt_of_le hb3 hB8.size⟩,fun h => (f16 h).imp fun B h => h.imp fun B2 h => ⟨h.1,blk_up9 hB8 h.2.1,blk_up9 hB8 h.2.2.1,h.2.2.2.1,Nat.lt_of_lt_of_le h.2.2.2.2 hB8.size⟩,fun h => (f17 h).imp fun B h => h.imp fun v h => ⟨h.1,h.2.1,⟨own_below9 h.2.2.1.1 hB8,h.2.2.1.2⟩,blk_up9 hB8 h.2.2.2.1,h.2.2.2.2.1,Nat.lt_of_lt_of_le h.2.2.2.2.2 hB8.size⟩,fun h => ⟨((f18 h)).1,((f18 h).2).1,((f18 h).2.2).imp fun B h => h.imp fun v h => ⟨h.1,h.2.1,⟨own_below9 h.2.2.1.1 hB8,h.2.2.1.2⟩,blk_up9 hB8 h.2.2.2.1,h.2.2.2.2.1,Nat.lt_of_lt_of_le h.2.2.2.2.2 hB8.size⟩⟩⟩
    ·intro L x a wR K hL hd hf hx hy hΦ hK
     obtain ⟨hI,f0,f1,f2,f3,f4,f5,f6,f7,f8,f9,f10,f11,f12,f13,f14,f15,f16,f17,f18⟩:=hΦ
     refine ⟨fun _ => ?_,fun h => absurd h (by rw [Go.RE.wanted_none rfl]; decide)⟩
     have d15:=f15 (hd 15 (by kernel_rfl))
     have e121:a.tmps[121]? = some (x 121):=hx 15 _ 121 rfl rfl (hd 15 (by kernel_rfl))
     clear hf hx hd hy
     obtain ⟨B,hB0,hb1,hb2,hb3⟩:=d15
     rw [hB0] at e121
     go_simp
     refine hK _ _ ?_
     exact ⟨hI.alloc hI.size _,fun h => f0 h,fun h => f1 h,fun h => f2 h,fun h => f3 h,fun h => f4 h,fun h => f5 h,fun h => f6 h,fun h => f7 h,fun h => f8 h,fun h => f9 h,fun h => f10 h,fun h => f11 h,fun h => f12 h,fun h => f13 h,fun h => (f14 h).imp fun B h => ⟨h.1,blk_up9 ((Below.refl _ wR).alloc (Nat.le_refl _) _) h.2.1,h.2.2.1,Nat.lt_of_lt_of_le h.2.2.2 ((Below.refl _ wR).alloc (Nat.le_refl _) _).size⟩,fun h => (f15 h).imp fun B h => ⟨h.1,blk_up9 ((Below.refl _ wR).alloc (Nat.le_refl _) _) h.2.1,h.2.2.1,Nat.lt_of_lt_of_le h.2.2.2 ((Below.refl _ wR).alloc (Nat.le_refl _) _).size⟩,fun _ => ⟨B,wR.heap.size,rfl,HK.blk_new _ _,HK.blk_alloc hb1 _,hb2,by simp; omega⟩,fun h => (f17 h).imp fun B h => h.imp fun v h => ⟨h.1,h.2.1,⟨own_below9 h.2.2.1.1 ((Below.refl _ wR).alloc (Nat.le_refl _) _),h.2.2.1.2⟩,blk_up9 ((Below.refl _ wR).alloc (Nat.le_refl _) _) h.2.2.2.1,h.2.2.2.2.1,Nat.lt_of_lt_of_le h.2.2.2.2.2 ((Below.refl _ wR).alloc (Nat.le_refl _) _).size⟩,fun h => ⟨((f18 h)).1,((f18 h).2).1,((f18 h).2.2).imp fun B h => h.imp fun v h => ⟨h.1,h.2.1,⟨own_below9 h.2.2.1.1 ((Below.refl _ wR).alloc (Nat.le_refl _) _),h.2.2.1.2⟩,blk_up9 ((Below.refl _ wR).alloc (Nat.le_refl _) _) h.2.2.2.1,h.2.2.2.2.1,Nat.lt_of_lt_of_le h.2.2.2.2.2 ((Below.refl _ wR).alloc (Nat.le_refl _) _).size⟩⟩⟩
    ·intro L x a wR K hL hd hf hx hy hΦ hK
     obtain ⟨hI,f0,f1,f2,f3,f4,f5,f6,f7,f8,f9,f10,f11,f12,f13,f14,f15,f16,f17,f18⟩:=hΦ
     refine ⟨fun _ => ?_,fun h => absurd h (by rw [Go.RE.wanted_none rfl]; decide)⟩
     have d5:=f5 (hd 5 (by kernel_rfl))
     have e111:a.tmps[111]? = some (x 111):=hx 5 _ 111 rfl rfl (hd 5 (by kernel_rfl))
     rw [d5] at e111
     have d16:=f16 (hd 16 (by kernel_rfl))
     have e122:a.tmps[122]? = some (x 122):=hx 16 _ 122 rfl rfl (hd 16 (by kernel_rfl))
     clear hf hx hd hy
     obtain ⟨B,B2,hB0,hbb,hb1,hb2,hb3⟩:=d16
     rw [hB0] at e122
     refine wp_app_grows (.tmp 111) (.tmp 122) rfl (some ⟨g,0,none⟩) j j (cellsS (Ls.take j)) (ev e111) (by intro h; cases h) HTL.out (fun bb hbb => by cases hbb; exact HTC.out _ hI) ⟨B2,0,none⟩ 1 1 [.int .u8 (q:Int),.string ⟨#[]⟩,.slice none 0 0,.slice (some ⟨B,0,none⟩) 1 1] (ev e122) rfl (fun u y hy => by rw [addr_add0,HK.blk_cell hbb,List.getElem?_toArray]; exact hy) (by simp [Value.oneCell']) (by omega) (by have h1:=HN20.out; have h2:=HJ.out.2; simp only [maxLen]; omega) (by have h1:=HN20.out; have h2:=HJ.out.2; omega) ?_
     intro v' w' hown hgrow
     have hB8:Below wR.heap.size wR w':=(Below.refl _ wR).grown hgrow (Nat.le_refl _) (fun _ h => by cases h)
     have hvB:=own_ge hown
     refine hK _ _ ?_
     exact ⟨below_tr hI hB8,fun h => f0 h,fun h => f1 h,fun h => f2 h,fun h => f3 h,fun h => f4 h,fun h => f5 h,fun h => f6 h,fun h => f7 h,fun h => f8 h,fun h => f9 h,fun h => f10 h,fun h => f11 h,fun h => f12 h,fun h => f13 h,fun h => (f14 h).imp fun B h => ⟨h.1,blk_up9 hB8 h.2.1,h.2.2.1,Nat.lt_of_lt_of_le h.2.2.2 hB8.size⟩,fun h => (f15 h).imp fun B h => ⟨h.1,blk_up9 hB8 h.2.1,h.2.2.1,Nat.lt_of_lt_of_le h.2.2.2 hB8.size⟩,fun h => (f16 h).imp fun B h => h.imp fun B2 h => ⟨h.1,blk_up9 hB8 h.2.1,blk_up9 hB8 h.2.2.1,h.2.2.2.1,Nat.lt_of_lt_of_le h.2.2.2.2 hB8.size⟩,fun _ => ⟨B,v',rfl,(by obtain ⟨gg,gc,h9,_,_⟩:=own_form9 hown (by omega); exact ⟨gg,gc,h9⟩),⟨own_mono9 hown hI.size,(fun h => by have:=hvB B h; omega)⟩,blk_up9 hB8 hb1,hb2,Nat.lt_of_lt_of_le hb3 hB8.size⟩,fun h => ⟨((f18 h)).1,((f18 h).2).1,((f18 h).2.2).imp fun B h => h.imp fun v h => ⟨h.1,h.2.1,⟨own_below9 h.2.2.1.1 hB8,h.2.2.1.2⟩,blk_up9 hB8 h.2.2.2.1,h.2.2.2.2.1,Nat.lt_of_lt_of_le h.2.2.2.2.2 hB8.size⟩⟩⟩
    ·intro L x a wR K hL hd hf hx hy hΦ hK
     obtain ⟨hI,f0,f1,f2,f3,f4,f5,f6,f7,f8,f9,f10,f11,f12,f13,f14,f15,f16,f17,f18⟩:=hΦ
     refine ⟨fun _ => ?_,fun h => absurd h (by rw [Go.RE.wanted_none rfl]; decide)⟩
     have d17:=f17 (hd 17 (by kernel_rfl))
     have e123:a.tmps[123]? = some (x 123):=hx 17 _ 123 rfl rfl (hd 17 (by kernel_rfl))
     have r0:=hd 0 (by kernel_rfl)
     have r9:=hd 9 (by kernel_rfl)
     clear hf hx hd hy
     obtain ⟨B,v',hv',⟨gg,gc,rfl⟩,hown,hb⟩:=d17
     rw [hv'] at e123
     go_simp
     refine hK _ _ ?_
     exact ⟨hI,fun h => f0 h,fun h => f1 h,fun h => f2 h,fun h => f3 h,fun h => f4 h,fun h => f5 h,fun h => f6 h,fun h => f7 h,fun h => f8 h,fun h => f9 h,fun h => f10 h,fun h => f11 h,fun h => f12 h,fun h => f13 h,fun h => f14 h,fun h => f15 h,fun h => f16 h,fun h => f17 h,fun _ => ⟨r0,r9,B,_,rfl,⟨gg,gc,rfl⟩,hown,hb⟩⟩
    ·rintro x W ⟨hI,f0,f1,f2,f3,f4,f5,f6,f7,f8,f9,f10,f11,f12,f13,f14,f15,f16,f17,f18⟩
     obtain ⟨_,_,B,v',hx5,⟨gg,gc,hv'⟩,⟨hown,hvB⟩,hbc,hb1,hb2⟩:=f18 rfl
     subst hv'
     have hge:=own_ge hown
     have hturn:∀ {a s:SL} {f:Fm},IsFm (fun k => w.heap.size < k /\ k < wb.heap.size /\ (Value.slice (some ⟨g,0,none⟩) n c).ownBlock ≠ some k) wb a s f -> IsFm (fun k => w.heap.size < k /\ k < W.heap.size /\ (Value.slice (some ⟨gg,0,none⟩) (j + 1) gc).ownBlock ≠ some k) W a s f:=fun h => h.turn fun k hk => ⟨⟨hk.1,Nat.lt_of_lt_of_le hk.2.1 hI.size,fun e => by have:=hge k e; omega⟩,hI.block k hk.2.1⟩
     rw [HeO.out,HeM.out] at hbc
     have hnew:=join_one (p:=(ef,⟨ea0,ea1,ea2⟩,⟨es0,es1,es2⟩)) (op:=q) (c:=1) HQ256.out (hturn HeF.out) (B:=B) ⟨(by have:=HK.blk_lt HI.out.rz; omega),hb2,hvB⟩ hbc
     have hst:=HI.out.fresh (p:=(Op1 q ef,⟨none,0,0⟩,⟨some ⟨B,0,none⟩,1,1⟩)) (v':=.slice (some ⟨gg,0,none⟩) (j + 1) gc) (j:=j) HJL.out hI hown hnew
     have HST:=hid hst
     have HX5:=hid hx5
     clear hI hst hnew hturn hge hown hvB hbc hb1 hb2 hx5 f0 f1 f2 f3 f4 f5 f6 f7 f8 f9 f10 f11 f12 f13 f14 f15 f16 f17 f18
     simp only [Exit.then,Go.RE.fillL,List.any_cons,List.any_nil,Nat.beq,Bool.or_false,Bool.or_true,cond_true,cond_false,Bool.true_or,Bool.false_or]
     rw [HX5.out]
     go_wp2_with (fail)
     go_roundw
     case rel => exact ⟨_,k + 1,_,rfl,by have:=HK20.out; omega,by go_num,by rw [HSTP.out,HNX.out]; simp,HST.out⟩
     case measure => have:=HK20.out; simp [intOf]; omega
   ·have c1:¬ (p:Int) < 3:=by omega
    have c1b:¬ p < 3:=by omega
    have c2:((p:Int) == 3) = false:=by simp; omega
    have c2n:¬ (p:Int) = 3:=by omega
    have c4:(3:Int) < (p:Int):=by omega
    have c4b:3 < p:=by omega
    have c5:¬ (p:Int) < 8:=by omega
    have c5b:¬ p < 8:=by omega
    have c7:(8:Int) <= (p:Int):=by omega
    have c7b:8 <= p:=by omega
    have c3:¬ (1:Int) <= (n:Int):=by omega
    have c3b:¬ 1 <= n:=by omega
    have c9:((p:Int) == 8) = true:=by simp; omega
    obtain ⟨ad,cc,rfl⟩:=hvn
    have HNX:Hid (bstep modal (Ls.map (·.1)) b = Ls.map (·.1) ++ [FalseF]):=hid (by exact bstep_E _ _ _ (by rw [<- HP.out]; omega) (by rw [List.length_map,hLn,HMOD.out]; first | (left; omega) | (right; exact decide_eq_false (by omega))))
    have hown0:=hI.ho
    rw [hLn] at hown0
    have HOW:=hid hown0
    have HBS:=hid hI.bl.size
    clear hI hLl hbp hsc hform hown0 hLn
    go_wp2_with (first
     | (go_at_call 15; ((with_reducible refine HJ2.out.mono ?_); rintro e w2 ⟨rfl,hw2⟩; subst hw2))
     | (
      at_builtin
      refine wpList_app_any rfl elem33 _ _ rfl (.slice ad n cc) w.heap.size n (cellsS Ls) rfl ((HOW.out.alloc _).alloc _) ⟨(wr.alloc (.cells #[.int .u8 2,.string ⟨#[]⟩,.slice none 0 0,.slice none 0 0] 35)).heap.size,0,none⟩ 1 1 [.int .u8 2,.string ⟨#[]⟩,.slice none 0 0,.slice none 0 0] (by simp [Act.eval]) rfl (fun j u hj => by rw [addr_add0,HK.blk_cell (HK.blk_new _ _),List.getElem?_toArray]; exact hj) (by simp [Value.oneCell']) (by have:=HN20.out; simp only [maxLen]; omega) (by have:=HN20.out; omega) (Nat.le_trans HBS.out (by simp; omega)) ?_
      intro v3 w3 hown hgrow hnil hat))
    rw [<- HLN.out] at hown
    have hst:=HI.out.push (p:=(FalseF,⟨none,0,0⟩,⟨none,0,0⟩)) (((Below.refl _ wr).alloc (Nat.le_refl _) _).alloc (by simp) _) hown hgrow hat isFm_false
    have HST:=hid hst
    clear hst hown hgrow hat hnil
    go_roundw
    case rel => exact ⟨_,k + 1,_,rfl,by have:=HK20.out; omega,by go_num,by rw [HSTP.out,HNX.out]; simp,HST.out⟩
    case measure => have:=HK20.out; simp [intOf]; omega
   ·have c1:¬ (p:Int) < 3:=by omega
    have c1b:¬ p < 3:=by omega
    have c2:((p:Int) == 3) = false:=by simp; omega
    have c2n:¬ (p:Int) = 3:=by omega
    have c4:(3:Int) < (p:Int):=by omega
    have c4b:3 < p:=by omega
    have c5:¬ (p:Int) < 8:=by omega
    have c5b:¬ p < 8:=by omega
    have c7:(8:Int) <= (p:Int):=by omega
    have c7b:8 <= p:=by omega
    have c3:(1:Int) <= (n:Int):=by omega
    have c3b:1 <= n:=by omega
    have c8:((kd:Int) == 4) = false:=by simp; omega
    have c8n:¬ (kd:Int) = 4:=by omega
    have c9:((p:Int) == 8) = true:=by simp; omega
    obtain ⟨ad,cc,rfl⟩:=hvn
    have HNX:Hid (bstep modal (Ls.map (·.1)) b = Ls.map (·.1) ++ [FalseF]):=hid (by exact bstep_E _ _ _ (by rw [<- HP.out]; omega) (by rw [List.length_map,hLn,HMOD.out]; first | (left; omega) | (right; exact decide_eq_false (by omega))))
    have hown0:=hI.ho
    rw [hLn] at hown0
    have HOW:=hid hown0
    have HBS:=hid hI.bl.size
    clear hI hLl hbp hsc hform hown0 hLn
    go_wp2_with (first
     | (go_at_call 15; ((with_reducible refine HJ2.out.mono ?_); rintro e w2 ⟨rfl,hw2⟩; subst hw2))
     | (
      at_builtin
      refine wpList_app_any rfl elem33 _ _ rfl (.slice ad n cc) w.heap.size n (cellsS Ls) rfl ((HOW.out.alloc _).alloc _) ⟨(wr.alloc (.cells #[.int .u8 2,.string ⟨#[]⟩,.slice none 0 0,.slice none 0 0] 35)).heap.size,0,none⟩ 1 1 [.int .u8 2,.string ⟨#[]⟩,.slice none 0 0,.slice none 0 0] (by simp [Act.eval]) rfl (fun j u hj => by rw [addr_add0,HK.blk_cell (HK.blk_new _ _),List.getElem?_toArray]; exact hj) (by simp [Value.oneCell']) (by have:=HN20.out; simp only [maxLen]; omega) (by have:=HN20.out; omega) (Nat.le_trans HBS.out (by simp; omega)) ?_
      intro v3 w3 hown hgrow hnil hat))
    rw [<- HLN.out] at hown
    have hst:=HI.out.push (p:=(FalseF,⟨none,0,0⟩,⟨none,0,0⟩)) (((Below.refl _ wr).alloc (Nat.le_refl _) _).alloc (by simp) _) hown hgrow hat isFm_false
    have HST:=hid hst
    clear hst hown hgrow hat hnil
    go_roundw
    case rel => exact ⟨_,k + 1,_,rfl,by have:=HK20.out; omega,by go_num,by rw [HSTP.out,HNX.out]; simp,HST.out⟩
    case measure => have:=HK20.out; simp [intOf]; omega
   ·obtain ⟨ad,cc,rfl⟩:=hvn
    have c1:¬ (p:Int) < 3:=by omega
    have c1b:¬ p < 3:=by omega
    have c2:((p:Int) == 3) = false:=by simp; omega
    have c2n:¬ (p:Int) = 3:=by omega
    have c4:(3:Int) < (p:Int):=by omega
    have c4b:3 < p:=by omega
    have c5:¬ (p:Int) < 8:=by omega
    have c5b:¬ p < 8:=by omega
    have c7:(8:Int) <= (p:Int):=by omega
    have c7b:8 <= p:=by omega
    have c3:¬ (1:Int) <= (n:Int):=by omega
    have c3b:¬ 1 <= n:=by omega
    have c9:((p:Int) == 8) = false:=by simp; omega
    have c9n:¬ (p:Int) = 8:=by omega
    have HNX:Hid (bstep modal (Ls.map (·.1)) b = Ls.map (·.1)):=hid (by exact bstep_N _ _ _ (by rw [<- HP.out]; omega) (by rw [<- HP.out,List.length_map,hLn]; omega) (by rw [<- HP.out,List.length_map,hLn]; omega) (by rw [<- HP.out,List.length_map,hLn,HMOD.out]; intro h; first | (exfalso; omega) | (refine ⟨by omega,?_⟩; first | (left; omega) | (right; exact decide_eq_false (by omega)))))
    clear hI hLl hbp hsc hform hLn
    go_wp2_with (fail)
    go_roundw
    case rel => exact ⟨_,k + 1,Ls,rfl,by have:=HK20.out; omega,by go_num,by rw [HSTP.out,HNX.out],HI.out⟩
    case measure => have:=HK20.out; simp [intOf]; omega
   ·obtain ⟨ad,cc,rfl⟩:=hvn
    have c1:¬ (p:Int) < 3:=by omega
    have c1b:¬ p < 3:=by omega
    have c2:((p:Int) == 3) = false:=by simp; omega
    have c2n:¬ (p:Int) = 3:=by omega
    have c4:(3:Int) < (p:Int):=by omega
    have c4b:3 < p:=by omega
    have c5:¬ (p:Int) < 8:=by omega
    have c5b:¬ p < 8:=by omega
    have c7:(8:Int) <= (p:Int):=by omega
    have c7b:8 <= p:=by omega
    have c3:(1:Int) <= (n:Int):=by omega
    have c3b:1 <= n:=by omega
    have c8:((kd:Int) == 4) = false:=by simp; omega
    have c8n:¬ (kd:Int) = 4:=by omega
    have c9:((p:Int) == 8) = false:=by simp; omega
    have c9n:¬ (p:Int) = 8:=by omega
    have HNX:Hid (bstep modal (Ls.map (·.1)) b = Ls.map (·.1)):=hid (by exact bstep_N _ _ _ (by rw [<- HP.out]; omega) (by rw [<- HP.out,List.length_map,hLn]; omega) (by rw [<- HP.out,List.length_map,hLn]; omega) (by rw [<- HP.out,List.length_map,hLn,HMOD.out]; intro h; first | (exfalso; omega) | (refine ⟨by omega,?_⟩; first | (left; omega) | (right; exact decide_eq_false (by omega)))))
    clear hI hLl hbp hsc hform hLn
    go_wp2_with (fail)
    go_roundw
    case rel => exact ⟨_,k + 1,Ls,rfl,by have:=HK20.out; omega,by go_num,by rw [HSTP.out,HNX.out],HI.out⟩
    case measure => have:=HK20.out; simp [intOf]; omega
  ·have hk3:k = ln ∨ k = 20:=by omega
   have hbs:(l.take k).foldl (bstep modal) [] = bstack modal (l.take 20):=by
    unfold bstack
    rcases hk3 with h | h
    ·rw [h,List.take_of_length_le (by rw [HL.out]; exact Nat.le_refl _),List.take_of_length_le (by rw [HL.out]; omega)]
    ·rw [h]
   have HBF:Hid (builtF modal l = bjoin (Ls.map (·.1))):=hid (by unfold builtF; rw [hLs,hbs])
   obtain ⟨n,hLn⟩:∃ n,Ls.length = n:=⟨_,rfl⟩
   have hn20:n <= 20:=by omega
   have hex:¬ (k < ln /\ k < 20):=hin
   have hd:decide (k < ln) = false ∨ (decide (k < ln) = true /\ ¬ (k:Int) < 20):=by
    by_cases h:k < ln
    ·exact .inr ⟨decide_eq_true h,by omega⟩
    ·exact .inl (decide_eq_false h)
   have hform:vo = .slice none 0 0 /\ n = 0 ∨ ∃ g c,vo = .slice (some ⟨g,0,none⟩) n c /\ n <= c:=by
    have h:=hI.ho
    rw [hLn] at h
    rcases h.2 with ⟨h0,h1⟩ | ⟨g',cap,cur,h1,_,_,h2,_⟩
    ·exact .inl ⟨h0,h1⟩
    ·exact .inr ⟨g',cap,h1,h2⟩
   have HLN:=hid hLn
   have hrz:=hI.rz
   have HBL:=hid hI.bl
   clear hLs hpl hbs hk3 hin hex hkl hk20 hLl
   by_cases hn0:n = 0
   ·have HE:Hid (Ls = []):=hid (List.eq_nil_of_length_eq_zero (by omega))
    obtain ⟨ad,cc,rfl⟩:∃ ad cc,vo = .slice ad 0 cc:=by
     rcases hform with ⟨h1,h2⟩ | ⟨g,c,h1,_⟩
     ·exact ⟨none,0,h1⟩
     ·exact ⟨_,_,by rw [h1,hn0]⟩
    have HJ2:Hid (Calls Tryd.prog 15 #[.int .u8 2,.slice none 0 0] wr fun e w' => e = .returned (.agg #[.int .u8 2,.string ⟨#[]⟩,.slice none 0 0,.slice none 0 0]) /\ w' = wr.alloc (.cells #[.int .u8 2,.string ⟨#[]⟩,.slice none 0 0,.slice none 0 0] 35)):=hid (join_call wr 2 none 0 0)
    have hrz2:=HK.blk_alloc hrz (.cells #[.int .u8 2,.string ⟨#[]⟩,.slice none 0 0,.slice none 0 0] 35)
    have cf:=fun i => HK.blk_frozen hrz2 i
    have c:=HK.blk_cell hrz2
    have c0:=c 0
    have c1:=c 1
    have c2:=c 2
    have c3:=c 3
    have HRZ:=hid hrz2
    clear c hrz hrz2 hI hform hLn hn0 hn20
    rcases hd with hd | ⟨hd,hd2⟩
    all_goals (
     go_wp2_with (go_at_call 15; ((with_reducible refine HJ2.out.mono ?_); rintro e w2 ⟨rfl,hw2⟩; subst hw2))
     refine bodyPost_ret (results_cell_row (p:=4) (ty:=35) (by kernel_rfl) _ _ w.heap.size 35 _ (0,0) _ rfl (set4 HRZ.out _ _ _ _) Tryd.underlying35 rfl (by kernel_rfl)) rfl ?_
     rw [HBF.out,HE.out]
     exact ⟨⟨none,0,0⟩,⟨none,0,0⟩,rfl,(HBL.out.alloc HBL.out.size _).trans ((frm4 (HK.Frm.refl (fun j => j = w.heap.size) _) _ _ _ _).below (Nat.le_trans HBL.out.size (by simp)) (fun j hj => by omega)),isFm_false⟩)
   ·obtain ⟨g,c,rfl,hnc⟩:∃ g c,vo = .slice (some ⟨g,0,none⟩) n c /\ n <= c:=by
     rcases hform with ⟨_,h2⟩ | h
     ·omega
     ·exact h
    obtain ⟨⟨zf,⟨za0,za1,za2⟩,⟨zs0,zs1,zs2⟩⟩,hze⟩:∃ q,Ls[0]? = some q:=⟨_,List.getElem?_eq_getElem (by omega)⟩
    obtain ⟨zo,hzo⟩:∃ o,o = zf.op:=⟨_,rfl⟩
    obtain ⟨zm,hzm⟩:∃ m,m = zf.name:=⟨_,rfl⟩
    have hc0:=hI.at (Below.refl _ _) hLn hze
    rw [Nat.zero_mul,Nat.zero_add,Nat.zero_add,Nat.zero_add] at hc0
    simp only [SL.v] at hc0
    rw [<- hzo,<- hzm] at hc0
    obtain ⟨c0,c1,c2,c3⟩:=hc0
    obtain ⟨wq,hwq⟩:∃ wq:World,wq = wr:=⟨_,rfl⟩
    subst hwq
    have HI:=hid hI
    have n1:¬ n = 0:=hn0
    have n2:0 < n:=by omega
    have n3:(0:Int) < (n:Int):=by omega
    have HFI0:Hid (FjI w wq (bjoin ((Ls.map (·.1)).take 1)) (wq.alloc (.cells #[.int .u8 (zo:Int),.string zm,.slice za0 za1 za2,.slice zs0 zs1 zs2] 35))):=hid (by
     refine ⟨(Below.refl _ _).alloc (Nat.le_refl _) _,⟨za0,za1,za2⟩,⟨zs0,zs1,zs2⟩,?_,?_⟩
     ·have e:bjoin ((Ls.map (·.1)).take 1) = zf:=by
       cases Ls with
       | nil => simp at hze
       | cons q r => simp at hze; subst hze; rfl
      rw [e,<- hzo,<- hzm]
      exact HK.blk_new _ _
     ·have e:bjoin ((Ls.map (·.1)).take 1) = zf:=by
       cases Ls with
       | nil => simp at hze
       | cons q r => simp at hze; subst hze; rfl
      rw [e]
      exact (hI.hf _ (List.mem_of_getElem? hze)).turn fun k hk => ⟨⟨hk.1,by simp; omega,by omega⟩,Below.heap_alloc _ _ _ hk.2.1⟩)
    have HQW:Hid (w.heap.size < wq.heap.size):=hid (HK.blk_lt hI.rz)
    have HN20:=hid hn20
    have HRZ:=hid hrz
    clear hI hform hze hzo hzm hLn hn0 hrz hnc
    rcases hd with hd | ⟨hd,hd2⟩
    all_goals (
     go_upto_region 20 with (fail))
    all_goals clear c0 c1 c2 c3
    all_goals (
     go_wp2_with (fail)
     go_loopw [10] (fun iv wr => ∃ i:Nat,1 <= i /\ i <= n /\ iv = .int .i64 i /\ FjI w wq (bjoin ((Ls.map (·.1)).take i)) wr) (fun iv _ => n - (intOf iv).toNat)
     case atStart => exact ⟨1,by omega,by omega,rfl,HFI0.out⟩
     case round =>
      obtain ⟨i,hi1,hin,rfl,hF⟩:=hrel
      have b0:(0:Int) <= (i:Int):=by omega
      have HLI:=hid hF.1
      by_cases hin2:(i:Int) < (n:Int)
      ·obtain ⟨⟨yf,⟨ya0,ya1,ya2⟩,⟨ys0,ys1,ys2⟩⟩,hye⟩:∃ q,Ls[i]? = some q:=⟨_,List.getElem?_eq_getElem (by rw [HLN.out]; omega)⟩
       obtain ⟨yo,hyo⟩:∃ o,o = yf.op:=⟨_,rfl⟩
       obtain ⟨ym,hym⟩:∃ m,m = yf.name:=⟨_,rfl⟩
       have HCY:Hid (∀ W,HK.Frm (fun j => j = wq.heap.size) wr W -> W.cell? ⟨g,i * 4,none⟩ = some (.int .u8 (yo:Int)) /\ W.cell? ⟨g,i * 4 + 1,none⟩ = some (.string ym) /\ W.cell? ⟨g,i * 4 + 2,none⟩ = some (.slice ya0 ya1 ya2) /\ W.cell? ⟨g,i * 4 + 3,none⟩ = some (.slice ys0 ys1 ys2)):=hid fun W h => by
        rw [hyo,hym]; exact HI.out.at (hF.1.trans (h.below hF.1.size (fun j hj => by omega))) HLN.out hye
       have HYF:Hid (IsFm (fun k => w.heap.size < k /\ k < wq.heap.size) wq ⟨ya0,ya1,ya2⟩ ⟨ys0,ys1,ys2⟩ yf):=hid ((HI.out.hf _ (List.mem_of_getElem? hye)).turn fun k hk => ⟨⟨hk.1,hk.2.1⟩,rfl⟩)
       have HNX:Hid (bjoin ((Ls.map (·.1)).take (i + 1)) = Op2 5 (bjoin ((Ls.map (·.1)).take i)) yf):=hid (bjoin_succ hi1 (by rw [List.getElem?_map,hye]; rfl))
       obtain ⟨ef,hef⟩:∃ ef,ef = bjoin ((Ls.map (·.1)).take i):=⟨_,rfl⟩
       rw [<- hef] at hF HNX
       obtain ⟨hFl,⟨ea0,ea1,ea2⟩,⟨es0,es1,es2⟩,hFb,hFf⟩:=hF
       simp only [SL.v] at hFb
       obtain ⟨eo,heo⟩:∃ o,o = ef.op:=⟨_,rfl⟩
       obtain ⟨em,hem⟩:∃ m,m = ef.name:=⟨_,rfl⟩
       rw [<- heo,<- hem] at hFb
       have HFB:=hid hFb
       have HFF:=hid hFf
       have HFL:=hid hFl
       have HI2:Hid ((0:Int) <= (i:Int) /\ (i:Int) < (n:Int)):=hid (by omega)
       have HI1:Hid (1 <= i /\ i < n):=hid (by omega)
       have HEO:=hid heo
       have HEM:=hid hem
       have HYO:=hid hyo
       have HYM:=hid hym
       obtain ⟨wb,hwb⟩:∃ wb:World,wb = wr:=⟨_,rfl⟩
       subst hwb
       have HQB:=hid hFl.size
       clear hye hyo hym hef hFl hFb hFf heo hem
       go_upto_region 23 with (fail)
       refine Go.RE.wp_region_eachg [144,145,146,147,148,149,150] (fun L x W => (HK.Frm (fun j => j = wq.heap.size) wb W /\ (L 7 = false -> W.heap[wq.heap.size]? = some (.cells #[.int .u8 (eo:Int),.string em,.slice ea0 ea1 ea2,.slice es0 es1 es2] 35 (0,0)))) /\ (L 0 = true -> x 144 = .agg #[.int .u8 (eo:Int),.string em,.slice ea0 ea1 ea2,.slice es0 es1 es2]) /\ (L 1 = true -> x 145 = .slice (some ⟨g,0,none⟩) n c) /\ (L 2 = true -> x 146 = .int .i64 (i:Int)) /\ (L 3 = true -> x 147 = .pointer (some ⟨g,i * 4,none⟩)) /\ (L 4 = true -> x 148 = .agg #[.int .u8 (yo:Int),.string ym,.slice ya0 ya1 ya2,.slice ys0 ys1 ys2]) /\ (L 5 = true -> ∃ B,x 149 = .slice (some ⟨B,0,none⟩) 2 2 /\ W.heap[B]? = some (.cells #[.int .u8 (eo:Int),.string em,.slice ea0 ea1 ea2,.slice es0 es1 es2,.int .u8 (yo:Int),.string ym,.slice ya0 ya1 ya2,.slice ys0 ys1 ys2] 35 (0,0)) /\ wb.heap.size <= B /\ B < W.heap.size) /\ (L 6 = true -> ∃ B,x 150 = .agg #[.int .u8 5,.string ⟨#[]⟩,.slice none 0 0,.slice (some ⟨B,0,none⟩) 2 2] /\ W.heap[B]? = some (.cells #[.int .u8 (eo:Int),.string em,.slice ea0 ea1 ea2,.slice es0 es1 es2,.int .u8 (yo:Int),.string ym,.slice ya0 ya1 ya2,.slice ys0 ys1 ys2] 35 (0,0)) /\ wb.heap.size <= B /\ B < W.heap.size) /\ (L 7 = true -> L 0 = true /\ ∃ B,W.heap[wq.heap.size]? = some (.cells #[.int .u8 5,.string ⟨#[]⟩,.slice none 0 0,.slice (some ⟨B,0,none⟩) 2 2] 35 (0,0)) /\ W.heap[B]? = some (.cells #[.int .u8 (eo:Int),.string em,.slice ea0 ea1 ea2,.slice es0 es1 es2,.int .u8 (yo:Int),.string ym,.slice ya0 ya1 ya2,.slice ys0 ys1 ys2] 35 (0,0)) /\ wb.heap.size <= B /\ B < W.heap.size)) (by kernel_rfl) (by kernel_rfl) (by kernel_rfl) ?_ ((Go.RE.Each.cons ?_ (Go.RE.Each.cons ?_ (Go.RE.Each.cons ?_ (Go.RE.Each.cons ?_ (Go.RE.Each.cons ?_ (Go.RE.Each.cons ?_ (Go.RE.Each.cons ?_ (Go.RE.Each.cons ?_ Go.RE.Each.nil))))))))) ?_
       ·exact fun x => ⟨⟨HK.Frm.drew (HK.Frm.refl _ _),fun _ => HFB.out⟩,fun h => (by cases h),fun h => (by cases h),fun h => (by cases h),fun h => (by cases h),fun h => (by cases h),fun h => (by cases h),fun h => (by cases h),fun h => (by cases h)⟩
       ·intro L x a wR K hL hd hf hx hΦ hK
        obtain ⟨hI,f0,f1,f2,f3,f4,f5,f6,f7⟩:=hΦ
        refine ⟨fun _ => ?_,fun h => absurd h (by rw [Go.RE.wanted_none rfl]; decide)⟩
        have e9:a.tmps[9]? = some (.pointer (some ⟨wq.heap.size,0,none⟩)):=hf 9 (of_decide_eq_true (by kernel_rfl))
        have hL7:L 7 = false:=by rcases e:L 7 with _ | _; rfl; have hh:=f7 e; simp [hL] at hh
        have c:=HK.blk_cell (hI.2 hL7)
        have c0:=c 0
        have c1:=c 1
        have c2:=c 2
        have c3:=c 3
        clear c
        clear hf hx hd
        go_simp
        refine hK _ _ ?_
        exact ⟨hI,fun _ => rfl,fun h => f1 h,fun h => f2 h,fun h => f3 h,fun h => f4 h,fun h => f5 h,fun h => f6 h,fun h => by have hh:=f7 h; simp [hL] at hh⟩
       ·intro L x a wR K hL hd hf hx hΦ hK
        obtain ⟨hI,f0,f1,f2,f3,f4,f5,f6,f7⟩:=hΦ
        refine ⟨fun _ => ?_,fun h => absurd h (by rw [Go.RE.wanted_none rfl]; decide)⟩
        have e5:a.tmps[5]? = some (.slice (some ⟨g,0,none⟩) n c):=hf 5 (of_decide_eq_true (by kernel_rfl))
        clear hf hx hd
        go_simp
        refine hK _ _ ?_
        exact ⟨hI,fun h => f0 h,fun _ => rfl,fun h => f2 h,fun h => f3 h,fun h => f4 h,fun h => f5 h,fun h => f6 h,fun h => f7 h⟩
       ·intro L x a wR K hL hd hf hx hΦ hK
        obtain ⟨hI,f0,f1,f2,f3,f4,f5,f6,f7⟩:=hΦ
        refine ⟨fun _ => ?_,fun h => absurd h (by rw [Go.RE.wanted_none rfl]; decide)⟩
        have e10:a.tmps[10]? = some (.int .i64 (i:Int)):=hf 10 (of_decide_eq_true (by kernel_rfl))
        clear hf hx hd
        go_simp
        refine hK _ _ ?_
        exact ⟨hI,fun h => f0 h,fun h => f1 h,fun _ => rfl,fun h => f3 h,fun h => f4 h,fun h => f5 h,fun h => f6 h,fun h => f7 h⟩
       ·intro L x a wR K hL hd hf hx hΦ hK
        obtain ⟨hI,f0,f1,f2,f3,f4,f5,f6,f7⟩:=hΦ
        refine ⟨fun _ => ?_,fun h => absurd h (by rw [Go.RE.wanted_none rfl]; decide)⟩
        have d1:=f1 (hd 1 (by kernel_rfl))
        have e145:a.tmps[145]? = some (x 145):=hx 1 _ 145 rfl rfl (hd 1 (by kernel_rfl))
        rw [d1] at e145
        have d2:=f2 (hd 2 (by kernel_rfl))
        have e146:a.tmps[146]? = some (x 146):=hx 2 _ 146 rfl rfl (hd 2 (by kernel_rfl))
        rw [d2] at e146
        have l1:=HI2.out.1
        have l2:=HI2.out.2
        clear hf hx hd
        go_simp
        refine hK _ _ ?_
        exact ⟨hI,fun h => f0 h,fun h => f1 h,fun h => f2 h,fun _ => rfl,fun h => f4 h,fun h => f5 h,fun h => f6 h,fun h => f7 h⟩
       ·intro L x a wR K hL hd hf hx hΦ hK
        obtain ⟨hI,f0,f1,f2,f3,f4,f5,f6,f7⟩:=hΦ
        refine ⟨fun _ => ?_,fun h => absurd h (by rw [Go.RE.wanted_none rfl]; decide)⟩
        have d3:=f3 (hd 3 (by kernel_rfl))
        have e147:a.tmps[147]? = some (x 147):=hx 3 _ 147 rfl rfl (hd 3 (by kernel_rfl))
        rw [d3] at e147
        obtain ⟨c0,c1,c2,c3⟩:=HCY.out _ hI.1
        clear hf hx hd
        go_simp
        refine hK _ _ ?_
        exact ⟨hI,fun h => f0 h,fun h => f1 h,fun h => f2 h,fun h => f3 h,fun _ => rfl,fun h => f5 h,fun h => f6 h,fun h => f7 h⟩
       ·intro L x a wR K hL hd hf hx hΦ hK
        obtain ⟨hI,f0,f1,f2,f3,f4,f5,f6,f7⟩:=hΦ
        refine ⟨fun _ => ?_,fun h => absurd h (by rw [Go.RE.wanted_none rfl]; decide)⟩
        have d0:=f0 (hd 0 (by kernel_rfl))
        have e144:a.tmps[144]? = some (x 144):=hx 0 _ 144 rfl rfl (hd 0 (by kernel_rfl))
        rw [d0] at e144
        have d4:=f4 (hd 4 (by kernel_rfl))
        have e148:a.tmps[148]? = some (x 148):=hx 4 _ 148 rfl rfl (hd 4 (by kernel_rfl))
        rw [d4] at e148
        clear hf hx hd
        go_simp
        refine hK _ _ ?_
        exact ⟨⟨hI.1.alloc _,fun h => HK.blk_alloc (hI.2 h) _⟩,fun h => f0 h,fun h => f1 h,fun h => f2 h,fun h => f3 h,fun h => f4 h,fun _ => ⟨wR.heap.size,rfl,HK.blk_new _ _,hI.1.size,by simp⟩,fun h => (f6 h).imp fun B h => ⟨h.1,blk_up9 ((Below.refl _ wR).alloc (Nat.le_refl _) _) h.2.1,h.2.2.1,Nat.lt_of_lt_of_le h.2.2.2 ((Below.refl _ wR).alloc (Nat.le_refl _) _).size⟩,fun h => ⟨(f7 h).1,(f7 h).2.imp fun B h => ⟨blk_up9 ((Below.refl _ wR).alloc (Nat.le_refl _) _) h.1,blk_up9 ((Below.refl _ wR).alloc (Nat.le_refl _) _) h.2.1,h.2.2.1,Nat.lt_of_lt_of_le h.2.2.2 ((Below.refl _ wR).alloc (Nat.le_refl _) _).size⟩⟩⟩
       ·intro L x a wR K hL hd hf hx hΦ hK
        obtain ⟨hI,f0,f1,f2,f3,f4,f5,f6,f7⟩:=hΦ
        refine ⟨fun _ => ?_,fun h => absurd h (by rw [Go.RE.wanted_none rfl]; decide)⟩
        have d5:=f5 (hd 5 (by kernel_rfl))
        have e149:a.tmps[149]? = some (x 149):=hx 5 _ 149 rfl rfl (hd 5 (by kernel_rfl))
        clear hf hx hd
        obtain ⟨B,hB0,hb1,hb2,hb3⟩:=d5
        rw [hB0] at e149
        have HJO:Hid (Calls Tryd.prog 15 #[.int .u8 5,.slice (some ⟨B,0,none⟩) 2 2] wR fun e w' => e = .returned (.agg #[.int .u8 5,.string ⟨#[]⟩,.slice none 0 0,.slice (some ⟨B,0,none⟩) 2 2]) /\ w' = wR.alloc (.cells #[.int .u8 5,.string ⟨#[]⟩,.slice none 0 0,.slice (some ⟨B,0,none⟩) 2 2] 35)):=hid (join_call wR 5 (some ⟨B,0,none⟩) 2 2)
        go_simp
        go_at_call 15
        with_reducible refine HJO.out.mono ?_
        rintro e w' ⟨rfl,hw8⟩
        have hB8:Below wR.heap.size wR w':=by rw [hw8]; exact (Below.refl _ wR).alloc (Nat.le_refl _) _
        simp only
        refine hK _ _ ?_
        exact ⟨⟨hI.1.trans (HK.Frm.of_below hB8 _),fun h => blk_up9 hB8 (hI.2 h)⟩,fun h => f0 h,fun h => f1 h,fun h => f2 h,fun h => f3 h,fun h => f4 h,fun h => (f5 h).imp fun B h => ⟨h.1,blk_up9 hB8 h.2.1,h.2.2.1,Nat.lt_of_lt_of_le h.2.2.2 hB8.size⟩,fun _ => ⟨B,rfl,blk_up9 hB8 hb1,hb2,Nat.lt_of_lt_of_le hb3 hB8.size⟩,fun h => ⟨(f7 h).1,(f7 h).2.imp fun B h => ⟨blk_up9 hB8 h.1,blk_up9 hB8 h.2.1,h.2.2.1,Nat.lt_of_lt_of_le h.2.2.2 hB8.size⟩⟩⟩
       ·intro L x a wR K hL hd hf hx hΦ hK
        obtain ⟨hI,f0,f1,f2,f3,f4,f5,f6,f7⟩:=hΦ
        refine ⟨fun _ => ?_,fun h => absurd h (by rw [Go.RE.wanted_none rfl]; decide)⟩
        have e9:a.tmps[9]? = some (.pointer (some ⟨wq.heap.size,0,none⟩)):=hf 9 (of_decide_eq_true (by kernel_rfl))
        have d6:=f6 (hd 6 (by kernel_rfl))
        have e150:a.tmps[150]? = some (x 150):=hx 6 _ 150 rfl rfl (hd 6 (by kernel_rfl))
        have r0:=hd 0 (by kernel_rfl)
        clear hf hx hd
        obtain ⟨B,hB0,hb1,hb2,hb3⟩:=d6
        rw [hB0] at e150
        have c:=HK.blk_cell (hI.2 hL)
        have c0:=c 0
        have c1:=c 1
        have c2:=c 2
        have c3:=c 3
        clear c
        have cf:=fun i => HK.blk_frozen (hI.2 hL) i
        go_simp
        refine hK undef _ ?_
        exact ⟨⟨frm4 hI.1 _ _ _ _,(fun h => by cases h)⟩,fun h => f0 h,fun h => f1 h,fun h => f2 h,fun h => f3 h,fun h => f4 h,fun h => (f5 h).imp fun B h => ⟨h.1,blk4 h.2.1 (by have:=HK.blk_lt HFB.out; have:=h.2.2.1; omega) _ _ _ _,h.2.2.1,by simpa using h.2.2.2⟩,fun h => (f6 h).imp fun B h => ⟨h.1,blk4 h.2.1 (by have:=HK.blk_lt HFB.out; have:=h.2.2.1; omega) _ _ _ _,h.2.2.1,by simpa using h.2.2.2⟩,fun _ => ⟨r0,B,set4 (hI.2 hL) _ _ _ _,blk4 hb1 (by have:=HK.blk_lt HFB.out; omega) _ _ _ _,hb2,by simpa using hb3⟩⟩
       ·rintro x W ⟨hI,f0,f1,f2,f3,f4,f5,f6,f7⟩
        obtain ⟨_,B,hFn,hbc,hb1,hb2⟩:=f7 rfl
        have hfrm:=hI.1
        have hBW:Below wq.heap.size wq W:=HFL.out.trans (hfrm.below HQB.out (fun j hj => by omega))
        rw [HEO.out,HEM.out,HYO.out,HYM.out] at hbc
        have hnew:=join_two (p:=(ef,⟨ea0,ea1,ea2⟩,⟨es0,es1,es2⟩)) (q:=(yf,⟨ya0,ya1,ya2⟩,⟨ys0,ys1,ys2⟩)) (op:=5) (c:=2) (S:=fun k => w.heap.size < k /\ k < W.heap.size /\ k ≠ wq.heap.size) (by omega)
         (HFF.out.turn fun k hk => ⟨⟨hk.1,Nat.lt_of_lt_of_le hk.2.1 hfrm.size,hk.2.2⟩,hfrm.block k hk.2.1 hk.2.2⟩)
         (HYF.out.turn fun k hk => ⟨⟨hk.1,Nat.lt_of_lt_of_le hk.2 hBW.size,by omega⟩,hBW.block k hk.2⟩) (B:=B) ⟨by have:=HQW.out; have:=HQB.out; omega,hb2,by have:=HQB.out; have:=HK.blk_lt HFB.out; omega⟩ hbc
        have HST:Hid (FjI w wq (Op2 5 ef yf) W):=hid ⟨hBW,⟨none,0,0⟩,⟨some ⟨B,0,none⟩,2,2⟩,hFn,hnew⟩
        clear hI hfrm hBW hbc hnew hFn hb1 hb2 f0 f1 f2 f3 f4 f5 f6 f7
        simp only [Exit.then,Go.RE.fillL,List.any_cons,List.any_nil,Nat.beq,Bool.or_false,Bool.or_true,cond_true,cond_false,Bool.true_or,Bool.false_or]
        go_wp2_with (fail)
        go_roundw
        case rel => exact ⟨i + 1,by omega,by have:=HI1.out; omega,by go_num,by rw [HNX.out]; exact HST.out⟩
        case measure => have:=HI1.out; simp [intOf]; omega
      ·obtain rfl:n = i:=by omega
       have hall:(Ls.map (·.1)).take n = Ls.map (·.1):=List.take_of_length_le (by rw [List.length_map,HLN.out]; exact Nat.le_refl _)
       rw [hall,<- HBF.out] at hF
       obtain ⟨ef,hef⟩:∃ ef,ef = builtF modal l:=⟨_,rfl⟩
       have HEF:=hid hef
       rw [<- hef] at hF
       obtain ⟨hFl,⟨ea0,ea1,ea2⟩,⟨es0,es1,es2⟩,hFb,hFf⟩:=hF
       simp only [SL.v] at hFb
       obtain ⟨eo,heo⟩:∃ o,o = ef.op:=⟨_,rfl⟩
       obtain ⟨em,hem⟩:∃ m,m = ef.name:=⟨_,rfl⟩
       rw [<- heo,<- hem] at hFb
       have hrz:=blk_up9 hFl HRZ.out
       have cf:=fun i => HK.blk_frozen hrz i
       have c:=HK.blk_cell hrz
       have c0:=c 0
       have c1:=c 1
       have c2:=c 2
       have c3:=c 3
       have d:=HK.blk_cell hFb
       have d0:=d 0
       have d1:=d 1
       have d2:=d 2
       have d3:=d 3
       have HRZ2:=hid hrz
       have HFF:=hid hFf
       have HFL:=hid hFl
       have HEO:=hid heo
       have HEM:=hid hem
       clear c d hrz hFl hFb hFf heo hem hef hall
       go_wp2_with (fail)
       refine bodyPost_ret (results_cell_row (p:=4) (ty:=35) (by kernel_rfl) _ _ w.heap.size 35 _ (0,0) _ rfl (set4 HRZ2.out _ _ _ _) Tryd.underlying35 rfl (by kernel_rfl)) rfl ?_
       rw [<- HEF.out]
       have hfr:=frm4 (HK.Frm.refl (fun j => j = w.heap.size) wr) (.int .u8 (eo:Int)) (.string em) (.slice ea0 ea1 ea2) (.slice es0 es1 es2)
       refine ⟨⟨ea0,ea1,ea2⟩,⟨es0,es1,es2⟩,by unfold fv; rw [<- HEO.out,<- HEM.out]; rfl,(below_tr HBL.out HFL.out).trans (hfr.below (Nat.le_trans HBL.out.size HFL.out.size) (fun j hj => by omega)),HFF.out.turn fun k hk => ⟨⟨by omega,Nat.lt_of_lt_of_le hk.2.1 hfr.size⟩,hfr.block k hk.2.1 (by omega)⟩⟩)
theorem built_call (w:World) (kd:Nat) (a0:Option Addr) (ln lc:Nat) (l:List Nat) (hkd:kd < 256) (hl:l.length = ln) (hl2:ln <= 9223372036854775807) (hB:IsBy w a0 l) :
  Calls Tryd.prog 14 #[.int .u8 (kd:Int),.slice a0 ln lc] w (RetFm w (builtF (decide (kd = 4)) l)) :=
 (built_fresh w kd a0 ln lc l hkd hl hl2 hB).mono fun e w' ⟨a,s,h1,h2,h3⟩ => ⟨a,s,h1,h2,h3.turn fun k hk => ⟨hk.2,rfl⟩⟩
end Go.Proofs.YtflmllablfjfeaaDoor
