import Derived.Test.YtdobflpbkfkmgaaGreatDoorMpj
import Derived.Defers
import Derived.Recover
import Derived.Laws.ResultCell
namespace Go.Proofs.YtdobflpbkfkmgaaGreatDoor
open Go.RowKit Go.HK Go.FR Lib
set_option linter.unusedVariables false
set_option linter.unusedSimpArgs false
set_option linter.unusedSectionVars false
set_option maxRecDepth 100000 in
theorem ta98 (v:Value) (W:World):(Instr.typeAssert (.iface 81 v) 20 81 true).run Tryz.prog W = .ok (.tuple #[v,.bool true]) W:=rfl
set_option maxRecDepth 100000 in
theorem taNil (W:World):(Instr.typeAssert .nilIface 20 81 true).run Tryz.prog W = .ok (.tuple #[.agg #[.int .i64 0,.int .i64 0],.bool false]) W:=rfl
set_option maxRecDepth 100000 in
set_option maxHeartbeats 400000 in
theorem catch_idle (b0 b1 b2:Nat) (w:World) :
  CallsD Tryz.prog 47 #[.pointer (some ⟨b0,0,none⟩),.pointer (some ⟨b1,0,none⟩),.pointer (some ⟨b2,0,none⟩)] .returning w fun e u' w' => e = .returned (.tuple #[]) /\ u' = .returning /\ w' = w.alloc (.cells #[.int .i64 0,.int .i64 0] 81):=by
 refine callsD_of_wpS Tryz.func47 rfl fun c₀ cs hu => ?_
 simp only [Tryz.ntmps47,List.size_toArray,List.length_cons,List.length_nil,Nat.reduceAdd,Nat.reduceSub,Array.replicate_succ,Array.replicate_zero,List.push_toArray,List.append_toArray,List.nil_append,List.cons_append]
 apply wpS_seq
 apply wpS_region
 simp [wpOpsS,go_sem,recoverD,hu,Exit.thenS,taNil]
 refine wpS_of_wp ?_
 go_wp2
 cases c₀
 simp_all [bodyPostS,results,Tryz.results47]
set_option maxRecDepth 100000 in
set_option maxHeartbeats 1000000 in
theorem catch_fail (b0 b1 b2:Nat) (at_ er:Int) (older:List PanicEntry) (w:World) (x0 x1 x2 x3 y0 z0:Value) (h0:w.heap[b0]? = some (.cells #[x0,x1,x2,x3] 28 (0,0))) (h1:w.heap[b1]? = some (.cells #[y0] 3 (0,0))) (h2:w.heap[b2]? = some (.cells #[z0] 29 (0,0))) (n01:b0 ≠ b1) (n02:b0 ≠ b2) (n12:b1 ≠ b2) :
  CallsD Tryz.prog 47 #[.pointer (some ⟨b0,0,none⟩),.pointer (some ⟨b1,0,none⟩),.pointer (some ⟨b2,0,none⟩)] (.panicking ({ v:=.iface 81 (.agg #[.int .i64 at_,.int .i64 er]),recovered:=false } :: older)) w fun e u' w' => e = .returned (.tuple #[]) /\ u' = .panicking ({ v:=.iface 81 (.agg #[.int .i64 at_,.int .i64 er]),recovered:=true } :: older) /\
   w'.heap[b0]? = some (.cells #[.int .u8 0,.string ⟨#[]⟩,.slice none 0 0,.slice none 0 0] 28 (0,0)) /\ w'.heap[b1]? = some (.cells #[.int .i64 at_] 3 (0,0)) /\ w'.heap[b2]? = some (.cells #[.int .i64 er] 29 (0,0)) /\ HK.Frm (fun k => k = b0 ∨ k = b1 ∨ k = b2) w w':=by
 refine callsD_of_wpS Tryz.func47 rfl fun c₀ cs hu => ?_
 simp only [Tryz.ntmps47,List.size_toArray,List.length_cons,List.length_nil,Nat.reduceAdd,Nat.reduceSub,Array.replicate_succ,Array.replicate_zero,List.push_toArray,List.append_toArray,List.nil_append,List.cons_append]
 apply wpS_seq
 apply wpS_region
 simp [wpOpsS,go_sem,recoverD,hu,Exit.thenS,ta98]
 refine wpS_of_wp ?_
 have l0:=HK.blk_lt h0
 have l1:=HK.blk_lt h1
 have l2:=HK.blk_lt h2
 have c0:=HK.blk_cell h0 0
 have c1:=HK.blk_cell h0 1
 have c2:=HK.blk_cell h0 2
 have c3:=HK.blk_cell h0 3
 have d1:=HK.blk_cell h1 0
 have d2:=HK.blk_cell h2 0
 have f0:=HK.blk_frozen h0 0
 have f1:=HK.blk_frozen h0 1
 have f2:=HK.blk_frozen h0 2
 have f3:=HK.blk_frozen h0 3
 have e1:=HK.blk_frozen h1 0
 have e2:=HK.blk_frozen h2 0
 have K0:=hid h0
 have K1:=hid h1
 have K2:=hid h2
 have m0:¬ w.heap.size = b0:=by omega
 have m1:¬ w.heap.size = b1:=by omega
 have m2:¬ w.heap.size = b2:=by omega
 clear h0 h1 h2
 go_wp2
 go_region
 go_wp2
 refine ⟨rfl,.panicking ({ v:=.iface 81 (.agg #[.int .i64 at_,.int .i64 er]),recovered:=true } :: older),by simp_all,.tuple #[],by simp [results,Tryz.results47],rfl,rfl,?_,?_,?_,?_⟩
 ·exact HK.blk_drew (HK.blk_alloc (HK.blk_alloc (HK.blk_set_other (HK.blk_set_other (pset4 K0.out _ _ _ _) (p:=⟨b1,0,none⟩) n01 _) (p:=⟨b2,0,none⟩) n02 _) _) _)
 ·have q:=HK.blk_set (HK.blk_set_other (HK.blk_set_other (HK.blk_set_other (HK.blk_set_other K1.out (p:=⟨b0,0,none⟩) n01.symm (.int .u8 0)) (p:=⟨b0,1,none⟩) n01.symm (.string ⟨#[]⟩)) (p:=⟨b0,2,none⟩) n01.symm (.slice none 0 0)) (p:=⟨b0,3,none⟩) n01.symm (.slice none 0 0)) 0 (.int .i64 at_)
  exact HK.blk_drew (HK.blk_alloc (HK.blk_alloc (HK.blk_set_other q (p:=⟨b2,0,none⟩) n12 _) _) _)
 ·have q:=HK.blk_set (HK.blk_set_other (HK.blk_set_other (HK.blk_set_other (HK.blk_set_other (HK.blk_set_other K2.out (p:=⟨b0,0,none⟩) n02.symm (.int .u8 0)) (p:=⟨b0,1,none⟩) n02.symm (.string ⟨#[]⟩)) (p:=⟨b0,2,none⟩) n02.symm (.slice none 0 0)) (p:=⟨b0,3,none⟩) n02.symm (.slice none 0 0)) (p:=⟨b1,0,none⟩) n12.symm (.int .i64 at_)) 0 (.int .i64 er)
  exact HK.blk_drew (HK.blk_alloc (HK.blk_alloc q _) _)
 ·exact (((((((((HK.Frm.refl _ w).setCell (p:=⟨b0,0,none⟩) (.inl (.inl rfl)) _).setCell (p:=⟨b0,1,none⟩) (.inl (.inl rfl)) _).setCell (p:=⟨b0,2,none⟩) (.inl (.inl rfl)) _).setCell (p:=⟨b0,3,none⟩) (.inl (.inl rfl)) _).setCell (p:=⟨b1,0,none⟩) (.inl (.inr (.inl rfl))) _).setCell (p:=⟨b2,0,none⟩) (.inl (.inr (.inr rfl))) _).alloc _).alloc _).drew
end Go.Proofs.YtdobflpbkfkmgaaGreatDoor
namespace Go.Proofs.YtdobflpbkfkmgaaGreatDoor
open Go.RowKit Go.HK Go.FR Lib
set_option linter.unusedVariables false
set_option linter.unusedSimpArgs false
set_option linter.unusedSectionVars false
theorem results_cells3 {P:Program} {fn:Func} {p u v:Tmp} {ty tu tv:TypeId} (h:fn.results = #[.cell p ty,.cell u tu,.cell v tv]) (tmps:Array Value) (w:World) (A B C:Addr) (a b c:Value)
  (hp:tmps.getD p undef = .pointer (some A)) (hq:tmps.getD u undef = .pointer (some B)) (hr:tmps.getD v undef = .pointer (some C))
  (ha:(loadVar ty A).run P w = .ok a w) (hb:(loadVar tu B).run P w = .ok b w) (hc:(loadVar tv C).run P w = .ok c w) :
  (results fn tmps).run P w = .ok (.tuple #[a,b,c]) w:=by
 have e:(results fn tmps).run P w = ((asAddr (tmps.getD p undef)).run P w).andThen fun a w₁ => ((loadVar ty a).run P w₁).andThen fun x w₂ => ((asAddr (tmps.getD u undef)).run P w₂).andThen fun b w₃ => ((loadVar tu b).run P w₃).andThen fun y w₄ => ((asAddr (tmps.getD v undef)).run P w₄).andThen fun c w₅ => ((loadVar tv c).run P w₅).andThen fun z w₆ => .ok (.tuple #[x,y,z]) w₆:=by
  simp only [results,h]
  simp [Sem.run_bind,Result.andThen]
 rw [e,hp,hq,hr]
 simp [asAddr,ha,hb,hc,Result.andThen]
theorem load_num {w:World} {g t:Nat} {v:Value} (ty:TypeId) (hty:ty = 3 ∨ ty = 29) (h:w.heap[g]? = some (.cells #[v] t (0,0))) (hv:∃ i,v = .int .i64 i):(loadVar ty ⟨g,0,none⟩).run Tryz.prog w = .ok v w:=by
 have c:=HK.blk_cell h 0
 obtain ⟨i,rfl⟩:=hv
 rcases hty with rfl | rfl
 ·simp [loadVar,go_sem,c,Tryz.underlying3]
 ·simp [loadVar,go_sem,c,Tryz.underlying29]
end Go.Proofs.YtdobflpbkfkmgaaGreatDoor
namespace Go.Proofs.YtdobflpbkfkmgaaGreatDoor
open Go.RowKit Go.HK Go.FR Lib
set_option linter.unusedVariables false
set_option linter.unusedSimpArgs false
set_option linter.unusedSectionVars false
theorem three_new (w:World) (o1 o2 o3:Obj):(((w.alloc o1).alloc o2).alloc o3).heap[w.heap.size]? = some o1 /\ (((w.alloc o1).alloc o2).alloc o3).heap[w.heap.size + 1]? = some o2 /\ (((w.alloc o1).alloc o2).alloc o3).heap[w.heap.size + 1 + 1]? = some o3:=by
 have h2:=HK.blk_new (w.alloc o1) o2
 have h3:=HK.blk_new ((w.alloc o1).alloc o2) o3
 simp only [World.size_alloc] at h2 h3
 exact ⟨HK.blk_alloc (HK.blk_alloc (HK.blk_new w o1) o2) o3,HK.blk_alloc h2 o3,h3⟩
set_option maxRecDepth 100000 in
set_option maxHeartbeats 2000000 in
theorem read_lexbad (w:World) (s:ByteArray) (m:Bool) (hs:s.size <= 16384) (hG:Signs w) (ts:List Tok) (p:Nat) (e:Int) (hL:LexL 0 (bys s) ts p e) (he:e ≠ 0) :
  Calls Tryz.prog 25 #[.string s,.bool m,.func (.func 26) #[] #[]] w fun E w' => E = .returned (.tuple #[.agg #[.int .u8 0,.string ⟨#[]⟩,.slice none 0 0,.slice none 0 0],.int .i64 (p:Int),.int .i64 e]) /\ Below w.heap.size w w':=by
 have HLX:Hid (∀ W,Signs W -> Calls Tryz.prog 46 #[.string s] W (RetL W ts p e)):=hid fun W hW => lex_any W s hs hW ts p e hL
 have hmf:∀ (fn:Fn) (first cap:Array Value) (w:World),(Instr.makeFunc fn first cap).run Tryz.prog w = .ok (.func fn first cap) w:=fun _ _ _ _ => rfl
 have HG:=hid hG
 have HE:=hid he
 have he1:(e != 0) = true:=by simp [he]
 clear hG hL hs he
 unfold RetL at HLX
 go_enter_defers Tryz.func25,Tryz.ntmps25
 go_upto_region 3 with (go_at_call 46; ((with_reducible refine (HLX.out _ (HG.out.below ((((Below.refl _ w).alloc (Nat.le_refl _) _).alloc (by simp) _).alloc (by simp; omega) _))).mono ?_); rintro E w1 ⟨hB,⟨h0,_⟩ | ⟨_,rfl⟩⟩; exact absurd h0 HE.out; have hb0:=(hB.block w.heap.size (by simp; omega)).trans (three_new w (.cells #[.int .u8 0,.string ⟨#[]⟩,.slice none 0 0,.slice none 0 0] 28) (.cells #[.int .i64 0] 3) (.cells #[.int .i64 0] 29)).1; have hb1:=(hB.block (w.heap.size + 1) (by simp)).trans (three_new w (.cells #[.int .u8 0,.string ⟨#[]⟩,.slice none 0 0,.slice none 0 0] 28) (.cells #[.int .i64 0] 3) (.cells #[.int .i64 0] 29)).2.1; have hb2:=(hB.block (w.heap.size + 1 + 1) (by simp)).trans (three_new w (.cells #[.int .u8 0,.string ⟨#[]⟩,.slice none 0 0,.slice none 0 0] 28) (.cells #[.int .i64 0] 3) (.cells #[.int .i64 0] 29)).2.2; have c0:=HK.blk_cell hb0 0; have c1:=HK.blk_cell hb0 1; have c2:=HK.blk_cell hb0 2; have c3:=HK.blk_cell hb0 3; have d0:=HK.blk_cell hb1 0; have e0:=HK.blk_cell hb2 0; have fc0:=HK.blk_frozen hb0 0; have fc1:=HK.blk_frozen hb0 1; have fc2:=HK.blk_frozen hb0 2; have fc3:=HK.blk_frozen hb0 3; have fd0:=HK.blk_frozen hb1 0; have fe0:=HK.blk_frozen hb2 0; have H0:=hid hb0; have H1:=hid hb1; have H2:=hid hb2; have HBW:Hid (Below w.heap.size w w1):=hid (((((Below.refl _ w).alloc (Nat.le_refl _) (.cells #[.int .u8 0,.string ⟨#[]⟩,.slice none 0 0,.slice none 0 0] 28)).alloc (by simp) (.cells #[.int .i64 0] 3)).alloc (by simp; omega) (.cells #[.int .i64 0] 29)).trans (hB.mono (by simp; omega)))))
 go_region
 go_wp2
 have m01:w.heap.size ≠ w.heap.size + 1:=by omega
 have m02:w.heap.size ≠ w.heap.size + 1 + 1:=by omega
 have m12:w.heap.size + 1 ≠ w.heap.size + 1 + 1:=by omega
 have g0:=HK.blk_set_other (HK.blk_set_other (pset4 (HK.blk_set_other (HK.blk_set_other H0.out (p:=⟨w.heap.size + 1,0,none⟩) m01 (.int .i64 (p:Int))) (p:=⟨w.heap.size + 1 + 1,0,none⟩) m02 (.int .i64 e)) (.int .u8 0) (.string ⟨#[]⟩) (.slice none 0 0) (.slice none 0 0)) (p:=⟨w.heap.size + 1,0,none⟩) m01 (.int .i64 (p:Int))) (p:=⟨w.heap.size + 1 + 1,0,none⟩) m02 (.int .i64 e)
 refine ⟨_,results_cells3 (p:=6) (u:=7) (v:=8) (ty:=28) (tu:=3) (tv:=29) (by kernel_rfl) _ _ ⟨w.heap.size,0,none⟩ ⟨w.heap.size + 1,0,none⟩ ⟨w.heap.size + 1 + 1,0,none⟩ _ _ _ rfl rfl rfl (run_loadVar_row _ w.heap.size 28 28 _ (0,0) _ (HK.blk_drew g0) Tryz.underlying28 rfl (by kernel_rfl)) ?_ ?_,rfl,?_⟩
 ·have q:=HK.blk_set (HK.blk_set_other (HK.blk_set_other (HK.blk_set_other (HK.blk_set_other (HK.blk_set_other (HK.blk_set H1.out 0 (.int .i64 (p:Int))) (p:=⟨w.heap.size + 1 + 1,0,none⟩) m12 (.int .i64 e)) (p:=⟨w.heap.size,0,none⟩) m01.symm (.int .u8 0)) (p:=⟨w.heap.size,1,none⟩) m01.symm (.string ⟨#[]⟩)) (p:=⟨w.heap.size,2,none⟩) m01.symm (.slice none 0 0)) (p:=⟨w.heap.size,3,none⟩) m01.symm (.slice none 0 0)) 0 (.int .i64 (p:Int))
  exact load_num 3 (.inl rfl) (HK.blk_drew (HK.blk_set_other q (p:=⟨w.heap.size + 1 + 1,0,none⟩) m12 _)) ⟨_,rfl⟩
 ·have q:=HK.blk_set (HK.blk_set_other (HK.blk_set_other (HK.blk_set_other (HK.blk_set_other (HK.blk_set_other (HK.blk_set (HK.blk_set_other H2.out (p:=⟨w.heap.size + 1,0,none⟩) m12.symm (.int .i64 (p:Int))) 0 (.int .i64 e)) (p:=⟨w.heap.size,0,none⟩) m02.symm (.int .u8 0)) (p:=⟨w.heap.size,1,none⟩) m02.symm (.string ⟨#[]⟩)) (p:=⟨w.heap.size,2,none⟩) m02.symm (.slice none 0 0)) (p:=⟨w.heap.size,3,none⟩) m02.symm (.slice none 0 0)) (p:=⟨w.heap.size + 1,0,none⟩) m12.symm (.int .i64 (p:Int))) 0 (.int .i64 e)
  exact load_num 29 (.inr rfl) (HK.blk_drew q) ⟨_,rfl⟩
 ·exact ((((((((HBW.out.setCell (p:=⟨w.heap.size + 1,0,none⟩) (by simp) _).setCell (p:=⟨w.heap.size + 1 + 1,0,none⟩) (by show w.heap.size <= w.heap.size + 1 + 1; omega) _).setCell (p:=⟨w.heap.size,0,none⟩) (Nat.le_refl _) _).setCell (p:=⟨w.heap.size,1,none⟩) (Nat.le_refl _) _).setCell (p:=⟨w.heap.size,2,none⟩) (Nat.le_refl _) _).setCell (p:=⟨w.heap.size,3,none⟩) (Nat.le_refl _) _).setCell (p:=⟨w.heap.size + 1,0,none⟩) (by simp) _).setCell (p:=⟨w.heap.size + 1 + 1,0,none⟩) (by show w.heap.size <= w.heap.size + 1 + 1; omega) _).drew
end Go.Proofs.YtdobflpbkfkmgaaGreatDoor
namespace Go.Proofs.YtdobflpbkfkmgaaGreatDoor
open Go.RowKit Go.HK Go.FR Lib
set_option linter.unusedVariables false
set_option linter.unusedSimpArgs false
set_option linter.unusedSectionVars false
theorem tk_of {W:World} {base g c:Nat} {ts:List Tok} (h:W.ownsRow base 86 3 (.slice (some ⟨g,0,none⟩) ts.length c) ts.length (flatT ts)):TK W g ts:=by
 have hat:∀ (i j:Nat) t,ts[i]? = some t -> j < 3 -> W.cell? ⟨g,i * 3 + j,none⟩ = [Value.int .u8 t.k,.string t.t,.int .i64 (t.p:Int)][j]?:=fun i j t ht hj => by
  have hl:i < ts.length:=(List.getElem?_eq_some_iff.1 ht).1
  rw [h.cellAt (i * 3 + j) (by omega)]
  exact flat_get (fun t:Tok => [Value.int .u8 t.k,.string t.t,.int .i64 (t.p:Int)]) 3 (fun _ => rfl) ts i j t ht hj
 exact ⟨fun i t ht => hat i 0 t ht (by omega),fun i t ht => hat i 1 t ht (by omega),fun i t ht => hat i 2 t ht (by omega)⟩
end Go.Proofs.YtdobflpbkfkmgaaGreatDoor
namespace Go.Proofs.YtdobflpbkfkmgaaGreatDoor
open Go.RowKit Go.HK Go.FR Lib
set_option linter.unusedVariables false
set_option linter.unusedSimpArgs false
set_option linter.unusedSectionVars false
set_option maxRecDepth 100000 in
set_option maxHeartbeats 400000 in
theorem catch_idleT (b0 b1 b2:Nat) (w:World) :
  CallsD Tryz.prog 53 #[.pointer (some ⟨b0,0,none⟩),.pointer (some ⟨b1,0,none⟩),.pointer (some ⟨b2,0,none⟩)] .returning w fun e u' w' => e = .returned (.tuple #[]) /\ u' = .returning /\ w' = w.alloc (.cells #[.int .i64 0,.int .i64 0] 81):=by
 refine callsD_of_wpS Tryz.func53 rfl fun c₀ cs hu => ?_
 simp only [Tryz.ntmps53,List.size_toArray,List.length_cons,List.length_nil,Nat.reduceAdd,Nat.reduceSub,Array.replicate_succ,Array.replicate_zero,List.push_toArray,List.append_toArray,List.nil_append,List.cons_append]
 apply wpS_seq
 apply wpS_region
 simp [wpOpsS,go_sem,recoverD,hu,Exit.thenS,taNil]
 refine wpS_of_wp ?_
 go_wp2
 cases c₀
 simp_all [bodyPostS,results,Tryz.results53]
set_option maxRecDepth 100000 in
set_option maxHeartbeats 1000000 in
theorem catch_failT (b0 b1 b2:Nat) (at_ er:Int) (older:List PanicEntry) (w:World) (x0 x1 x2 y0 z0:Value) (h0:w.heap[b0]? = some (.cells #[x0,x1,x2] 36 (0,0))) (h1:w.heap[b1]? = some (.cells #[y0] 3 (0,0))) (h2:w.heap[b2]? = some (.cells #[z0] 29 (0,0))) (n01:b0 ≠ b1) (n02:b0 ≠ b2) (n12:b1 ≠ b2) :
  CallsD Tryz.prog 53 #[.pointer (some ⟨b0,0,none⟩),.pointer (some ⟨b1,0,none⟩),.pointer (some ⟨b2,0,none⟩)] (.panicking ({ v:=.iface 81 (.agg #[.int .i64 at_,.int .i64 er]),recovered:=false } :: older)) w fun e u' w' => e = .returned (.tuple #[]) /\ u' = .panicking ({ v:=.iface 81 (.agg #[.int .i64 at_,.int .i64 er]),recovered:=true } :: older) /\
   w'.heap[b0]? = some (.cells #[.bool false,.string ⟨#[]⟩,.slice none 0 0] 36 (0,0)) /\ w'.heap[b1]? = some (.cells #[.int .i64 at_] 3 (0,0)) /\ w'.heap[b2]? = some (.cells #[.int .i64 er] 29 (0,0)) /\ HK.Frm (fun k => k = b0 ∨ k = b1 ∨ k = b2) w w':=by
 refine callsD_of_wpS Tryz.func53 rfl fun c₀ cs hu => ?_
 simp only [Tryz.ntmps53,List.size_toArray,List.length_cons,List.length_nil,Nat.reduceAdd,Nat.reduceSub,Array.replicate_succ,Array.replicate_zero,List.push_toArray,List.append_toArray,List.nil_append,List.cons_append]
 apply wpS_seq
 apply wpS_region
 simp [wpOpsS,go_sem,recoverD,hu,Exit.thenS,ta98]
 refine wpS_of_wp ?_
 have l0:=HK.blk_lt h0
 have l1:=HK.blk_lt h1
 have l2:=HK.blk_lt h2
 have c0:=HK.blk_cell h0 0
 have c1:=HK.blk_cell h0 1
 have c2:=HK.blk_cell h0 2
 have d1:=HK.blk_cell h1 0
 have d2:=HK.blk_cell h2 0
 have f0:=HK.blk_frozen h0 0
 have f1:=HK.blk_frozen h0 1
 have f2:=HK.blk_frozen h0 2
 have e1:=HK.blk_frozen h1 0
 have e2:=HK.blk_frozen h2 0
 have K0:=hid h0
 have K1:=hid h1
 have K2:=hid h2
 have m0:¬ w.heap.size = b0:=by omega
 have m1:¬ w.heap.size = b1:=by omega
 have m2:¬ w.heap.size = b2:=by omega
 clear h0 h1 h2
 go_wp2
 go_region
 go_wp2
 refine ⟨rfl,.panicking ({ v:=.iface 81 (.agg #[.int .i64 at_,.int .i64 er]),recovered:=true } :: older),by simp_all,.tuple #[],by simp [results,Tryz.results53],rfl,rfl,?_,?_,?_,?_⟩
 ·exact HK.blk_drew (HK.blk_alloc (HK.blk_alloc (HK.blk_set_other (HK.blk_set_other (pset3 K0.out (.bool false) (.string ⟨#[]⟩) (.slice none 0 0)) (p:=⟨b1,0,none⟩) n01 _) (p:=⟨b2,0,none⟩) n02 _) _) _)
 ·have q:=HK.blk_set (HK.blk_set_other (HK.blk_set_other (HK.blk_set_other K1.out (p:=⟨b0,0,none⟩) n01.symm (.bool false)) (p:=⟨b0,1,none⟩) n01.symm (.string ⟨#[]⟩)) (p:=⟨b0,2,none⟩) n01.symm (.slice none 0 0)) 0 (.int .i64 at_)
  exact HK.blk_drew (HK.blk_alloc (HK.blk_alloc (HK.blk_set_other q (p:=⟨b2,0,none⟩) n12 _) _) _)
 ·have q:=HK.blk_set (HK.blk_set_other (HK.blk_set_other (HK.blk_set_other (HK.blk_set_other K2.out (p:=⟨b0,0,none⟩) n02.symm (.bool false)) (p:=⟨b0,1,none⟩) n02.symm (.string ⟨#[]⟩)) (p:=⟨b0,2,none⟩) n02.symm (.slice none 0 0)) (p:=⟨b1,0,none⟩) n12.symm (.int .i64 at_)) 0 (.int .i64 er)
  exact HK.blk_drew (HK.blk_alloc (HK.blk_alloc q _) _)
 ·exact ((((((((HK.Frm.refl _ w).setCell (p:=⟨b0,0,none⟩) (.inl (.inl rfl)) _).setCell (p:=⟨b0,1,none⟩) (.inl (.inl rfl)) _).setCell (p:=⟨b0,2,none⟩) (.inl (.inl rfl)) _).setCell (p:=⟨b1,0,none⟩) (.inl (.inr (.inl rfl))) _).setCell (p:=⟨b2,0,none⟩) (.inl (.inr (.inr rfl))) _).alloc _).alloc _).drew
set_option maxRecDepth 100000 in
set_option maxHeartbeats 400000 in
theorem catch_idleL (b0 b1 b2:Nat) (w:World) :
  CallsD Tryz.prog 73 #[.pointer (some ⟨b0,0,none⟩),.pointer (some ⟨b1,0,none⟩),.pointer (some ⟨b2,0,none⟩)] .returning w fun e u' w' => e = .returned (.tuple #[]) /\ u' = .returning /\ w' = w.alloc (.cells #[.int .i64 0,.int .i64 0] 81):=by
 refine callsD_of_wpS Tryz.func73 rfl fun c₀ cs hu => ?_
 simp only [Tryz.ntmps73,List.size_toArray,List.length_cons,List.length_nil,Nat.reduceAdd,Nat.reduceSub,Array.replicate_succ,Array.replicate_zero,List.push_toArray,List.append_toArray,List.nil_append,List.cons_append]
 apply wpS_seq
 apply wpS_region
 simp [wpOpsS,go_sem,recoverD,hu,Exit.thenS,taNil]
 refine wpS_of_wp ?_
 go_wp2
 cases c₀
 simp_all [bodyPostS,results,Tryz.results73]
set_option maxRecDepth 100000 in
set_option maxHeartbeats 1000000 in
theorem catch_failL (b0 b1 b2:Nat) (at_ er:Int) (older:List PanicEntry) (w:World) (x0 y0 z0:Value) (h0:w.heap[b0]? = some (.cells #[x0] 26 (0,0))) (h1:w.heap[b1]? = some (.cells #[y0] 3 (0,0))) (h2:w.heap[b2]? = some (.cells #[z0] 29 (0,0))) (n01:b0 ≠ b1) (n02:b0 ≠ b2) (n12:b1 ≠ b2) :
  CallsD Tryz.prog 73 #[.pointer (some ⟨b0,0,none⟩),.pointer (some ⟨b1,0,none⟩),.pointer (some ⟨b2,0,none⟩)] (.panicking ({ v:=.iface 81 (.agg #[.int .i64 at_,.int .i64 er]),recovered:=false } :: older)) w fun e u' w' => e = .returned (.tuple #[]) /\ u' = .panicking ({ v:=.iface 81 (.agg #[.int .i64 at_,.int .i64 er]),recovered:=true } :: older) /\
   w'.heap[b0]? = some (.cells #[.slice none 0 0] 26 (0,0)) /\ w'.heap[b1]? = some (.cells #[.int .i64 at_] 3 (0,0)) /\ w'.heap[b2]? = some (.cells #[.int .i64 er] 29 (0,0)) /\ HK.Frm (fun k => k = b0 ∨ k = b1 ∨ k = b2) w w':=by
 refine callsD_of_wpS Tryz.func73 rfl fun c₀ cs hu => ?_
 simp only [Tryz.ntmps73,List.size_toArray,List.length_cons,List.length_nil,Nat.reduceAdd,Nat.reduceSub,Array.replicate_succ,Array.replicate_zero,List.push_toArray,List.append_toArray,List.nil_append,List.cons_append]
 apply wpS_seq
 apply wpS_region
 simp [wpOpsS,go_sem,recoverD,hu,Exit.thenS,ta98]
 refine wpS_of_wp ?_
 have l0:=HK.blk_lt h0
 have l1:=HK.blk_lt h1
 have l2:=HK.blk_lt h2
 have c0:=HK.blk_cell h0 0
 have d1:=HK.blk_cell h1 0
 have d2:=HK.blk_cell h2 0
 have f0:=HK.blk_frozen h0 0
 have e1:=HK.blk_frozen h1 0
 have e2:=HK.blk_frozen h2 0
 have K0:=hid h0
 have K1:=hid h1
 have K2:=hid h2
 have m0:¬ w.heap.size = b0:=by omega
 have m1:¬ w.heap.size = b1:=by omega
 have m2:¬ w.heap.size = b2:=by omega
 clear h0 h1 h2
 go_wp2
 go_region
 go_wp2
 refine ⟨rfl,.panicking ({ v:=.iface 81 (.agg #[.int .i64 at_,.int .i64 er]),recovered:=true } :: older),by simp_all,.tuple #[],by simp [results,Tryz.results73],rfl,rfl,?_,?_,?_,?_⟩
 ·exact HK.blk_drew (HK.blk_alloc (HK.blk_set_other (HK.blk_set_other (HK.blk_set K0.out 0 (.slice none 0 0)) (p:=⟨b1,0,none⟩) n01 _) (p:=⟨b2,0,none⟩) n02 _) _)
 ·have q:=HK.blk_set (HK.blk_set_other K1.out (p:=⟨b0,0,none⟩) n01.symm (.slice none 0 0)) 0 (.int .i64 at_)
  exact HK.blk_drew (HK.blk_alloc (HK.blk_set_other q (p:=⟨b2,0,none⟩) n12 _) _)
 ·have q:=HK.blk_set (HK.blk_set_other (HK.blk_set_other K2.out (p:=⟨b0,0,none⟩) n02.symm (.slice none 0 0)) (p:=⟨b1,0,none⟩) n12.symm (.int .i64 at_)) 0 (.int .i64 er)
  exact HK.blk_drew (HK.blk_alloc q _)
 ·exact (((((HK.Frm.refl _ w).setCell (p:=⟨b0,0,none⟩) (.inl (.inl rfl)) _).setCell (p:=⟨b1,0,none⟩) (.inl (.inr (.inl rfl))) _).setCell (p:=⟨b2,0,none⟩) (.inl (.inr (.inr rfl))) _).alloc _).drew
end Go.Proofs.YtdobflpbkfkmgaaGreatDoor
