import Derived.Test.YtflmllablfjfeaaDoorKit
import Derived.RangeFuncNested
import Derived.RangeFuncBound
import Derived.RangeFuncCalls
import Derived.RangeFuncLeaves
import Derived.RangeFuncBox
import Derived.Shelf.Abstract
import Derived.Shelf.RegionOpen
import Derived.OwnWalkIn
import Derived.TacticsInMore
import Derived.LoopNIn
import Derived.LoopIn
import Derived.Sort.QuietIn
namespace Go.HRB
open Go Go.RowKit
set_option linter.unusedVariables false
set_option linter.unusedSimpArgs false
set_option linter.unusedSectionVars false
abbrev FB (b:Nat) (A C:World):Prop:=HK.Frm (fun k => k = b) A C
structure Turn (b B:Nat) (A C:World):Prop where
 os:C.os = A.os
 tape:C.tape = A.tape
 output:C.output = A.output
 size:A.heap.size <= C.heap.size
 same:∀ k o,A.heap[k]? = some o -> k ≠ b -> (k < B ∨ o.isCells = true) -> C.heap[k]? = some o
theorem Turn.of_fb {b B:Nat} {A C:World} (h:FB b A C):Turn b B A C:=⟨h.os,h.tape,h.output,h.size,fun k o hk hne _ => HK.Frm.heap h hk hne⟩
theorem Turn.of_alloc {b B:Nat} (A:World) (o:Obj):Turn b B A (A.alloc o):=.of_fb ((HK.Frm.refl _ A).alloc o)
theorem Turn.of_put {b B:Nat} {A:World} {l:Nat} {o:Obj} (ho:A.heap[l]? = some o) (hn:o.isCells = false) (hl:B <= l) (o':Obj):Turn b B A (A.putObj l o'):=by
 have hf:=(HK.Frm.refl (fun k => k = l) A).putObj (l:=l) (.inl rfl) o'
 refine ⟨hf.os,hf.tape,hf.output,hf.size,fun k x hk _ hx => ?_⟩
 refine HK.Frm.heap hf hk (fun e => ?_)
 subst e
 rw [ho] at hk; cases hk
 rcases hx with hx | hx
 ·omega
 ·rw [hn] at hx; cases hx
structure TurnA (B:Nat) (A C:World):Prop where
 size:A.heap.size <= C.heap.size
 same:∀ k o,A.heap[k]? = some o -> (k < B ∨ o.isCells = true) -> C.heap[k]? = some o
theorem TurnA.of_put {B:Nat} {A:World} {l:Nat} {o:Obj} (ho:A.heap[l]? = some o) (hn:o.isCells = false) (hl:B <= l) (o':Obj):TurnA B A (A.putObj l o'):=by
 have hf:=(HK.Frm.refl (fun k => k = l) A).putObj (l:=l) (.inl rfl) o'
 refine ⟨hf.size,fun k x hk hx => ?_⟩
 refine HK.Frm.heap hf hk (fun e => ?_)
 subst e
 rw [ho] at hk; cases hk
 rcases hx with hx | hx
 ·omega
 ·rw [hn] at hx; cases hx
def Keep (Safe:World -> Nat -> Prop) (l:Nat) (A C:World):Prop:=A.heap.size <= C.heap.size /\ ∀ k,Safe A k -> k ≠ l -> Safe C k /\ C.heap[k]? = A.heap[k]?
theorem Keep.trans {Safe:World -> Nat -> Prop} {l:Nat} {A B C:World} (h:Keep Safe l A B) (k:Keep Safe l B C):Keep Safe l A C :=
 ⟨Nat.le_trans h.1 k.1,fun i hi hl => ⟨(k.2 i (h.2 i hi hl).1 hl).1,(k.2 i (h.2 i hi hl).1 hl).2.trans (h.2 i hi hl).2⟩⟩
structure IsSafe {α:Type} (b:Nat) (Safe:World -> Nat -> Prop) (J:List α -> World -> Prop):Prop where
 lt:∀ s A k,J s A -> Safe A k -> k < A.heap.size
 on:∀ s A C k,J s A -> FB b A C -> Safe A k -> Safe C k
 new:∀ s A C k,J s A -> FB b A C -> A.heap.size <= k -> k < C.heap.size -> Safe C k
def SeqB {α:Type} (F:Fence) (n:Nat) (P:Program) (g:Nat) (lb:Array Value) (encs:α -> Array Value) (b:Nat) (Told:α -> World -> Prop) (K:Nat -> Prop) (S Sp:List α -> Prop) (N:Nat) (w:World):Prop :=
 ∀ (Safe:World -> Nat -> Prop) (l:Nat) (J Jx:List α -> World -> Prop) (W:World),Below w.heap.size w W -> W.heap.size = w.heap.size + 2 -> w.heap.size <= l -> l < W.heap.size -> IsSafe b Safe J -> (∀ k,K k -> Safe W k) -> (∀ s A C,J s A -> FB b A C -> J s C) -> (∀ s A C,Jx s A -> FB b A C -> Jx s C) ->
  (∀ pre x W1,J pre W1 -> Told x W1 -> pre.length < N -> YieldAt F (n - 1) P l (encs x) W1 fun e W' =>
   (e = .returned (.bool true) /\ J (pre ++ [x]) W' /\ Keep Safe l W1 W') ∨ (e = .returned (.bool false) /\ Jx (pre ++ [x]) W')) ->
  J [] W ->
  CallsIn F n P g (#[.func (.yield l) #[] #[]] ++ lb) W fun e W' => (∃ v,e = .returned v) /\ ((∃ xs,S xs /\ J xs W') ∨ (∃ pre,Sp pre /\ Jx pre W'))
section
variable {α:Type} {F:Fence} {n:Nat} {P:Program}
theorem range_b {g:Operand} {ps:Array Tmp} {assign body:Code} {Q:Exit -> Act -> World -> Prop} {a:Act} {w:World}
  (hro:F.round = none) (h1:1 <= n) {gf:Nat} {lb:Array Value} (hg:a.eval g = .func (.func gf) #[] lb) (hFg:F.fn gf) (eg:∀ args w,(callFunc gf args).run P w = .ok (.enter gf args) w)
  {encs:α -> Array Value} {b:Nat} (hb:b = w.heap.size + 3) {Told:α -> World -> Prop} {K:Nat -> Prop} {S Sp:List α -> Prop} {N:Nat} (hseq:SeqB F (n - 1) P gf lb encs b Told K S Sp N w)
  (hps:∀ x,(encs x).size = ps.size) 
  (I:List α -> World -> Prop) (Ix:Code -> List α -> World -> Prop) (hI:∀ s A C,I s A -> Turn b w.heap.size A C -> I s C) (hIx:∀ c s A C,Ix c s A -> Turn b w.heap.size A C -> Ix c s C) (h0:I [] w)
  (Safe:World -> Nat -> Prop) (hK:∀ k,K k -> Safe w k) (hlt:∀ s A k,I s A -> Safe A k -> k < A.heap.size) (hon:∀ s A C k,I s A -> Turn b w.heap.size A C -> Safe A k -> Safe C k) (hnew:∀ s A C k,I s A -> Turn b w.heap.size A C -> A.heap.size <= k -> k < C.heap.size -> Safe C k)
  (Ax:α -> Act -> World -> Prop) (hAx:∀ x a' A C,Ax x a' A -> TurnA w.heap.size A C -> Ax x a' C)
  (hassign:∀ (l:Nat) (pre:List α) (x:α) (W:World) (R:Act -> World -> Prop),I pre W -> Told x W -> (∀ a' W',KeepsFrom w.heap.size W W' -> Keep Safe l W W' -> I pre W' -> Ax x a' W' -> R a' W') ->
   assign.wpIn (F.inRound l) (n - 1 - 1) P (Exit.then R (fun _ _ _ => False)) { tmps:=(ps.zip (encs x)).foldl (fun t (p,v) => t.setIfInBounds p v) a.tmps,defers:=[] } W)
  (hbody:∀ (l:Nat) (pre:List α) (x:α) (a':Act) (W:World),I pre W -> Ax x a' W -> pre.length < N -> body.wpIn (F.inRound l) (n - 1 - 1) P (ownPostG w.heap.size (Keep Safe l) I Ix (pre ++ [x]) W) a' W)
  (hdone:∀ (D:Nat) (xs:List α) (W:World),w.heap.size <= D -> S xs -> I xs W -> W.heap[D]? = some (.deferred (some [])) -> Q .normal { a with defers:={ target:=.collected D,args:=#[] } :: a.defers } W)
  (hstop:∀ (D:Nat) (c:Code) (pre:List α) (W:World),w.heap.size <= D -> Sp pre -> Ix c pre W -> W.heap[D]? = some (.deferred (some [])) -> c.wpIn F n P Q { a with defers:={ target:=.collected D,args:=#[] } :: a.defers } W) :
  (Code.rangeFunc g ps assign body).wpIn F n P Q a w:=by
 refine wpIn_rangeFunc fun fn hfn => ?_
 rw [hro]
 obtain ⟨B,hBd⟩:∃ B,B = w.heap.size:=⟨_,rfl⟩
 have hne1:¬ B + 1 = b:=by omega
 have hne0:¬ B = b:=by omega
 obtain ⟨rc,hrc⟩:∃ rc:LoopState -> Option Code -> Loop,rc = fun st pe => { state:=st,pending:=pe,fn:=fn,tmps:=a.tmps,params:=ps,assign:=assign,body:=body,defers:=B }:=⟨_,rfl⟩
 have hturn:∀ {A:World} {st:LoopState} {pe:Option Code} (o:Obj),A.heap[B + 1]? = some (.loop (rc st pe)) -> Turn b w.heap.size A (A.putObj (B + 1) o):=fun o h => Turn.of_put h rfl (by omega) o
 have hkst:∀ {s:List α} {A:World} {st:LoopState} {pe:Option Code} (o:Obj),I s A -> A.heap[B + 1]? = some (.loop (rc st pe)) -> Keep Safe (B + 1) A (A.putObj (B + 1) o):=fun o hi h =>
  ⟨by simp [World.putObj],fun k hk hne => ⟨hon _ _ _ k hi (hturn o h) hk,World.putObj_heap_other (fun e => hne e)⟩⟩
 have hput:∀ {A:World} {o o':Obj},A.heap[B + 1]? = some o -> (A.putObj (B + 1) o').heap[B + 1]? = some o':=fun h => World.putObj_heap_same (Array.getElem?_eq_some_iff.1 h).1
 have hput0:∀ {A:World} {o o':Obj},A.heap[B]? = some o -> (A.putObj (B + 1) o').heap[B]? = some o:=fun h => (World.putObj_heap_other (by omega)).trans h
 refine ⟨B + 1,[{ target:=.collected B,args:=#[] }],(w.alloc (.deferred (some []))).alloc (.loop (rc .ready none)),{ target:=.fn (.func gf) lb,args:=#[.func (.yield (B + 1)) #[] #[]] },(w.alloc (.deferred (some []))).alloc (.loop (rc .ready none)),gf,
  #[.func (.yield (B + 1)) #[] #[]] ++ lb,(w.alloc (.deferred (some []))).alloc (.loop (rc .ready none)),?_,?_,?_,?_,fun _ => h1,?_⟩
 ·rw [hrc,hBd]; exact run_enterLoop_outer _ _ _ _ _
 ·simp only [resolve,hg]
  simp [go_sem]
 ·intro f' hf'; simp [Target.leads] at hf'; subst hf'; exact hFg
 ·simp [invoke,go_sem,eg]
 have hrec1:((w.alloc (.deferred (some []))).alloc (.loop (rc .ready none))).heap[B + 1]? = some (.loop (rc .ready none)):=by
  have:=World.alloc_heap_new (w.alloc (.deferred (some []))) (.loop (rc .ready none))
  rwa [World.size_alloc,<- hBd] at this
 have hdef1:((w.alloc (.deferred (some []))).alloc (.loop (rc .ready none))).heap[B]? = some (.deferred (some [])) :=
  (Below.heap_alloc _ _ _ (by simp [hBd])).trans (by rw [hBd]; exact World.alloc_heap_new w _)
 have hi1:I [] ((w.alloc (.deferred (some []))).alloc (.loop (rc .ready none))):=hI _ _ _ (hI _ _ _ h0 (Turn.of_alloc _ _)) (Turn.of_alloc _ _)
 refine (hseq Safe (B + 1) (fun pre W => I pre W /\ W.heap[B + 1]? = some (.loop (rc .ready none)) /\ W.heap[B]? = some (.deferred (some [])))
  (fun pre W => ∃ c,Ix c pre W /\ W.heap[B + 1]? = some (.loop (rc .done (some c))) /\ W.heap[B]? = some (.deferred (some [])))
  _ (((Below.refl _ w).alloc (Nat.le_refl _) _).alloc (by simp) _) (by simp) (by omega) (by simp; omega)
  ⟨fun s A k h hk => hlt s A k h.1 hk,fun s A C k h hc hk => hon s A C k h.1 (.of_fb hc) hk,fun s A C k h hc h1 h2 => hnew s A C k h.1 (.of_fb hc) h1 h2⟩
  (fun k hk => hon _ _ _ _ (hI _ _ _ h0 (Turn.of_alloc _ _)) (Turn.of_alloc _ _) (hon _ _ _ _ h0 (Turn.of_alloc _ _) (hK k hk)))
  (fun s A C h hc => ⟨hI _ _ _ h.1 (.of_fb hc),HK.Frm.heap hc h.2.1 hne1,HK.Frm.heap hc h.2.2 hne0⟩)
  (fun s A C ⟨c,h2,h3,h4⟩ hc => ⟨c,hIx _ _ _ _ h2 (.of_fb hc),HK.Frm.heap hc h3 hne1,HK.Frm.heap hc h4 hne0⟩)
  ?_ ⟨hi1,hrec1,hdef1⟩).mono ?_
 ·rintro pre x W ⟨hi,hl,hd⟩ htold hlen
  have hy:=run_yield (P:=P) (args:=encs x) hl (by rw [hrc]; exact hps x)
  rw [hrc] at hy
  refine ⟨fn,_,assign,body,hy,roundIn_of_wpIn hfn (hassign _ pre x W _ hi htold fun a' W2 hk2 hp2 hi2 ha2 => ?_)⟩
  have hl2:=hk2.same _ _ (by omega) hl rfl
  have hd2:=hk2.same _ _ (by omega) hd rfl
  refine ⟨_,run_beginRound hl2 (by rw [hrc]),?_⟩
  have hl3:(W2.putObj (B + 1) (.loop { rc .ready none with state:=.busy })).heap[B + 1]? = some (.loop (rc .busy none)):=by
   rw [hput hl2,hrc]
  have hd3:(W2.putObj (B + 1) (.loop { rc .ready none with state:=.busy })).heap[B]? = some (.deferred (some [])):=hput0 hd2
  have hi3:=hI _ _ _ hi2 (hturn (.loop { rc .ready none with state:=.busy }) hl2)
  refine wpIn_mono (hbody _ pre x a' _ hi3 (hAx _ _ _ _ ha2 (TurnA.of_put hl2 rfl (by omega) _)) hlen) ?_
  have fin:∀ (jump:Option Code) (W4:World),KeepsFrom w.heap.size (W2.putObj (B + 1) (.loop { rc .ready none with state:=.busy })) W4 ->
    W4.heap[B + 1]? = some (.loop (rc .busy none)) /\ ∃ o,(Instr.endRound (B + 1) jump).run P W4 = .ok (.bool jump.isNone) (W4.putObj (B + 1) o) /\ o = .loop (rc (if jump.isNone then .ready else .done) jump) /\
     (W4.putObj (B + 1) o).heap[B + 1]? = some o /\ (W4.putObj (B + 1) o).heap[B]? = some (.deferred (some [])):=fun jump W4 hk4 => by
   have hl4:=hk4.same _ _ (by omega) hl3 rfl
   have hd4:=hk4.same _ _ (by omega) hd3 rfl
   refine ⟨hl4,_,run_endRound (P:=P) jump hl4,by rw [hrc],hput hl4,hput0 hd4⟩
  have jumps:∀ (c:Code) (W4:World),KeepsFrom w.heap.size (W2.putObj (B + 1) (.loop { rc .ready none with state:=.busy })) W4 -> Ix c (pre ++ [x]) W4 ->
    ∃ v W5,(Instr.endRound (B + 1) (some c)).run P W4 = .ok (.bool v) W5 /\ v = false /\ ∃ c,Ix c (pre ++ [x]) W5 /\ W5.heap[B + 1]? = some (.loop (rc .done (some c))) /\ W5.heap[B]? = some (.deferred (some [])):=fun c W4 hk4 hi4 => by
   obtain ⟨hl4,o,hr,rfl,h5,h6⟩:=fin (some c) W4 hk4
   exact ⟨_,_,hr,rfl,c,hIx _ _ _ _ hi4 (hturn _ hl4),h5,h6⟩
  rintro e a3 W4 hp
  cases e with
  | normal =>
   obtain ⟨hk4,hp4,hi4⟩:=hp
   obtain ⟨hl4,o,hr,rfl,h5,h6⟩:=fin none W4 hk4
   exact ⟨_,_,hr,.inl ⟨rfl,⟨hI _ _ _ hi4 (hturn _ hl4),h5,h6⟩,((hp2.trans (hkst _ hi2 hl2)).trans hp4).trans (hkst _ hi4 hl4)⟩⟩
  | ret =>
   obtain ⟨v,W5,hr,rfl,h6⟩:=jumps _ W4 hp.1 hp.2
   exact ⟨_,_,hr,.inr ⟨rfl,h6⟩⟩
  | exit id =>
   obtain ⟨v,W5,hr,rfl,h6⟩:=jumps _ W4 hp.1 hp.2
   exact ⟨_,_,hr,.inr ⟨rfl,h6⟩⟩
  | goto t =>
   obtain ⟨v,W5,hr,rfl,h6⟩:=jumps _ W4 hp.1 hp.2
   exact ⟨_,_,hr,.inr ⟨rfl,h6⟩⟩
  | panic ch => exact hp.elim
  | outgrown => exact hp.elim
 ·rintro e W2 ⟨⟨v,rfl⟩,⟨xs,hS1,hi,hl,hd⟩ | ⟨pre,hSp1,c,hi,hl,hd⟩⟩
  ·refine ⟨none,_,by have:=run_endLoop (P:=P) hl (by rw [hrc]; simp); rw [hrc] at this; exact this,?_⟩
   exact hdone B xs _ (by omega) hS1 (hI _ _ _ hi (hturn _ hl)) (hput0 hd)
  ·refine ⟨some c,_,by have:=run_endLoop (P:=P) hl (by rw [hrc]; simp); rw [hrc] at this; exact this,?_⟩
   exact hstop B c pre _ (by omega) hSp1 (hIx _ _ _ _ hi (hturn _ hl)) (hput0 hd)
end
end Go.HRB
