import Derived.Test.YtflmllablfjfeaaDoorFre
import Derived.Test.YtflmllablfjfeaaDoorRnb
import Derived.StillTailTactics
namespace Go.Proofs.YtflmllablfjfeaaDoor
open Go.RowKit Go.HK Go.FR Go.HRB
set_option linter.unusedVariables false
set_option linter.unusedSimpArgs false
set_option linter.unusedSectionVars false
theorem wide_fn (f:Nat):Fence.wide.fn f = True:=rfl
theorem wide_depth:Fence.wide.depth.isSome = false:=rfl
theorem asked_wide {P:Program} {o:Oper} {a:Act} {C:World -> Prop}:Oper.askedIn Fence.wide P o a C:=fun _ _ _ _ => trivial
attribute [local go_sem] Oper.semAt_some wide_fn asked_wide wide_depth
theorem yield_depth {m m':Nat} {P:Program} {l:Nat} {args:Array Value} {W:World} {R:Ending -> World -> Prop} (h:YieldAt Fence.wide m P l args W R):YieldAt Fence.wide m' P l args W R:=by
 obtain ⟨fn,tmps,assign,body,hy,hR⟩:=h
 exact ⟨fn,tmps,assign,body,hy,hR.1,fun c cs _ => hR.2 c cs (fun d h => by cases h)⟩
def relsD (force:Bool) (m n:Nat):Nat -> List Nat -> List (List Nat)
 | 0,rel => [rel]
 | d + 1,rel => (List.range (2 ^ n)).flatMap fun s => if suitsB force m (rel.set (n - (d + 1)) s) (n - (d + 1)) = true then relsD force m n d (rel.set (n - (d + 1)) s) else []
def relsK (force:Bool) (m n d:Nat) (rel:List Nat) (k:Nat):List (List Nat) :=
 (List.range k).flatMap fun s => if suitsB force m (rel.set (n - (d + 1)) s) (n - (d + 1)) = true then relsD force m n d (rel.set (n - (d + 1)) s) else []
theorem relsK_succ (force:Bool) (m n d:Nat) (rel:List Nat) (k:Nat):relsK force m n d rel (k + 1) = relsK force m n d rel k ++ if suitsB force m (rel.set (n - (d + 1)) k) (n - (d + 1)) = true then relsD force m n d (rel.set (n - (d + 1)) k) else []:=by
 unfold relsK
 rw [List.range_succ,List.flatMap_append]
 simp
theorem relsK_prefix (force:Bool) (m n d:Nat) (rel:List Nat) {k N:Nat} (h:k <= N):relsK force m n d rel k <+: relsK force m n d rel N:=by
 induction N with
 | zero =>
  obtain rfl:k = 0:=by omega
  exact List.prefix_refl _
 | succ N ih =>
  by_cases e:k = N + 1
  ·subst e; exact List.prefix_refl _
  ·rw [relsK_succ]
   exact (ih (by omega)).trans (List.prefix_append _ _)
def encR (b n:Nat) (x:List Nat):Array Value:=#[.slice (some ⟨b,0,none⟩) n n]
def RowB (b:Nat) (W:World) (x:List Nat):Prop:=W.heap[b]? = some (.cells (ints x).toArray 3 (0,0))
def ToldR (b n:Nat) (x:List Nat) (W:World):Prop:=x.length = n /\ FrOk x /\ RowB b W x
theorem RowB.isR {b:Nat} {W:World} {x:List Nat} (h:RowB b W x):IsR W b 0 x:=fun i y hy => by
 rw [Nat.zero_add,HK.blk_cell h,List.getElem?_toArray,ints,List.getElem?_map,hy]; rfl
theorem RowB.set {b:Nat} {W:World} {x:List Nat} (h:RowB b W x) (i v:Nat):RowB b (W.setCell ⟨b,i,none⟩ (.int .i64 (v:Int))) (x.set i v):=by
 have:=HK.blk_set h i (.int .i64 (v:Int))
 unfold RowB
 rw [this]
 simp [ints,List.map_set]
def KeepB (Safe:World -> Nat -> Prop) (l b:Nat) (A C:World):Prop:=A.heap.size <= C.heap.size /\ (Safe A b -> Safe C b) /\ ∀ k,Safe A k -> k ≠ l -> k ≠ b -> Safe C k /\ C.heap[k]? = A.heap[k]?
theorem KeepB.refl (Safe:World -> Nat -> Prop) (l b:Nat) (A:World):KeepB Safe l b A A:=⟨Nat.le_refl _,id,fun k h _ _ => ⟨h,rfl⟩⟩
theorem KeepB.trans {Safe:World -> Nat -> Prop} {l b:Nat} {A B C:World} (h:KeepB Safe l b A B) (k:KeepB Safe l b B C):KeepB Safe l b A C :=
 ⟨Nat.le_trans h.1 k.1,fun hh => k.2.1 (h.2.1 hh),fun i hi hl hb => ⟨(k.2.2 i (h.2.2 i hi hl hb).1 hl hb).1,(k.2.2 i (h.2.2 i hi hl hb).1 hl hb).2.trans (h.2.2 i hi hl hb).2⟩⟩
theorem KeepB.of_keep {Safe:World -> Nat -> Prop} {l b:Nat} {A C:World} (h:Keep Safe l A C) (hb:b ≠ l):KeepB Safe l b A C :=
 ⟨h.1,fun hh => (h.2 b hh hb).1,fun k hk hl _ => h.2 k hk hl⟩
theorem KeepB.of_fb {J:List (List Nat) -> World -> Prop} {Safe:World -> Nat -> Prop} {l b:Nat} {pre:List (List Nat)} {A C:World} (hS:IsSafe b Safe J) (hJ:J pre A) (h:FB b A C):KeepB Safe l b A C :=
 ⟨h.size,fun hh => hS.on _ _ _ b hJ h hh,fun k hk _ hb => ⟨hS.on _ _ _ k hJ h hk,h.block k (hS.lt _ _ k hJ hk) hb⟩⟩
structure FE (Safe:World -> Nat -> Prop) (l b Bs By Br Bk Bm Bf n kind mask:Nat) (W:World):Prop where
 hs:W.heap[Bs]? = some (.cells #[.int .i64 (n:Int)] 3 (0,0))
 hy:W.heap[By]? = some (.cells #[.func (.yield l) #[] #[]] 80 (0,0))
 hr:W.heap[Br]? = some (.cells #[.slice (some ⟨b,0,none⟩) n n] 25 (0,0))
 hk:W.heap[Bk]? = some (.cells #[.int .u8 (kind:Int)] 5 (0,0))
 hm:W.heap[Bm]? = some (.cells #[.int .u8 (mask:Int)] 5 (0,0))
 hf:W.heap[Bf]? = some (.cells #[.func (.func 74) #[] #[.pointer (some ⟨Bs,0,none⟩),.pointer (some ⟨By,0,none⟩),.pointer (some ⟨Br,0,none⟩),.pointer (some ⟨Bk,0,none⟩),.pointer (some ⟨Bm,0,none⟩),.pointer (some ⟨Bf,0,none⟩)]] 112 (0,0))
 sf:∀ k,k = Bs ∨ k = By ∨ k = Br ∨ k = Bk ∨ k = Bm ∨ k = Bf -> Safe W k /\ k ≠ l /\ k ≠ b
 sb:Safe W b /\ b ≠ l
theorem FE.keep {Safe:World -> Nat -> Prop} {l b Bs By Br Bk Bm Bf n kind mask:Nat} {A C:World} (h:FE Safe l b Bs By Br Bk Bm Bf n kind mask A) (hk:KeepB Safe l b A C):FE Safe l b Bs By Br Bk Bm Bf n kind mask C where
 hs:=(hk.2.2 _ (h.sf Bs (by simp)).1 (h.sf Bs (by simp)).2.1 (h.sf Bs (by simp)).2.2).2.trans h.hs
 hy:=(hk.2.2 _ (h.sf By (by simp)).1 (h.sf By (by simp)).2.1 (h.sf By (by simp)).2.2).2.trans h.hy
 hr:=(hk.2.2 _ (h.sf Br (by simp)).1 (h.sf Br (by simp)).2.1 (h.sf Br (by simp)).2.2).2.trans h.hr
 hk:=(hk.2.2 _ (h.sf Bk (by simp)).1 (h.sf Bk (by simp)).2.1 (h.sf Bk (by simp)).2.2).2.trans h.hk
 hm:=(hk.2.2 _ (h.sf Bm (by simp)).1 (h.sf Bm (by simp)).2.1 (h.sf Bm (by simp)).2.2).2.trans h.hm
 hf:=(hk.2.2 _ (h.sf Bf (by simp)).1 (h.sf Bf (by simp)).2.1 (h.sf Bf (by simp)).2.2).2.trans h.hf
 sf:=fun k hh => ⟨(hk.2.2 k (h.sf k hh).1 (h.sf k hh).2.1 (h.sf k hh).2.2).1,(h.sf k hh).2⟩
 sb:=⟨hk.2.1 h.sb.1,h.sb.2⟩
def PostF (J Jx:List (List Nat) -> World -> Prop) (Safe:World -> Nat -> Prop) (l b:Nat) (pre:List (List Nat)) (rel:List Nat) (L:List (List Nat)) (W:World) (bb:Bool) (W':World):Prop :=
 (bb = true /\ J (pre ++ L) W' /\ RowB b W' rel /\ KeepB Safe l b W W') ∨ (bb = false /\ ∃ ys,ys <+: L /\ Jx (pre ++ ys) W')
def RetF (J Jx:List (List Nat) -> World -> Prop) (Safe:World -> Nat -> Prop) (l b:Nat) (pre:List (List Nat)) (rel:List Nat) (L:List (List Nat)) (W:World) (e:Ending) (W':World):Prop :=
 ∃ bb,e = .returned (.bool bb) /\ PostF J Jx Safe l b pre rel L W bb W'
set_option maxRecDepth 100000 in
set_option maxHeartbeats 4000000 in
theorem from_leaf (Safe:World -> Nat -> Prop) (l b Bs By Br Bk Bm Bf n kind mask N:Nat) (J Jx:List (List Nat) -> World -> Prop)
  (hY:∀ m pre x W,J pre W -> ToldR b n x W -> pre.length < N -> YieldAt Fence.wide m Tryd.prog l (encR b n x) W fun e W' => (e = .returned (.bool true) /\ J (pre ++ [x]) W' /\ Keep Safe l W W') ∨ (e = .returned (.bool false) /\ Jx (pre ++ [x]) W'))
  (k:Nat) (pre:List (List Nat)) (rel:List Nat) (W:World) (hj:J pre W) (hE:FE Safe l b Bs By Br Bk Bm Bf n kind mask W) (hT:ToldR b n rel W) (hN:pre.length < N) :
  CallsIn Fence.wide k Tryd.prog 74 #[.int .i64 (n:Int),.pointer (some ⟨Bs,0,none⟩),.pointer (some ⟨By,0,none⟩),.pointer (some ⟨Br,0,none⟩),.pointer (some ⟨Bk,0,none⟩),.pointer (some ⟨Bm,0,none⟩),.pointer (some ⟨Bf,0,none⟩)] W
   (RetF J Jx Safe l b pre rel [rel] W):=by
 have hyy:=hY (k - 1) pre rel W hj hT hN
 unfold encR at hyy
 obtain ⟨fn',tmps',assign',body',hy,hRR⟩:=hyy
 have cs:=HK.blk_cell hE.hs 0
 have cy:=HK.blk_cell hE.hy 0
 have cr:=HK.blk_cell hE.hr 0
 have HE:=Lib.hid hE
 have HT:=Lib.hid hT
 clear hj hE hT hY
 refine callsIn_of_wp Tryd.func74 rfl trivial ?_ rfl
 simp only [Tryd.ntmps74,List.size_toArray,List.length_cons,List.length_nil,Nat.reduceAdd,Nat.reduceSub,Array.replicate_succ,Array.replicate_zero,List.push_toArray,List.append_toArray,List.nil_append,List.cons_append]
 gi_wp2_with (fail)
 refine hRR.mono ?_
 clear hy hRR cy cs cr
 rintro e W1 (⟨rfl,hj1,hk1⟩ | ⟨rfl,hx1⟩)
 ·have hrow:RowB b W1 rel:=(hk1.2 b HE.out.sb.1 HE.out.sb.2).2.trans HT.out.2.2
  gi_wp2_with (fail)
  go_ret
  exact ⟨true,rfl,.inl ⟨rfl,hj1,hrow,KeepB.of_keep hk1 HE.out.sb.2⟩⟩
 ·gi_wp2_with (fail)
  go_ret
  exact ⟨false,rfl,.inr ⟨rfl,[rel],List.prefix_refl _,hx1⟩⟩
end Go.Proofs.YtflmllablfjfeaaDoor
