import Derived.Test.YtflmllablfjfeaaDoorWrb
import Derived.Deep.CutRange
namespace Go.Proofs.YtflmllablfjfeaaDoor
open Go.RowKit Go.HK Go.FR
set_option linter.unusedVariables false
set_option linter.unusedSimpArgs false
set_option linter.unusedSectionVars false
theorem add_cells {w:World} {g o:Nat} {news:List Value} (h:∀ j u,news[j]? = some u -> w.cell? ⟨g,o + j,none⟩ = some u):∀ j u,news[j]? = some u -> w.cell? ((⟨g,o,none⟩:Addr).add j) = some u:=by
 intro j u hj
 have:=h j u hj
 unfold Addr.add
 by_cases h0:j = 0
 ·subst h0; simpa using this
 ·simpa [h0] using this
set_option maxRecDepth 100000 in
set_option maxHeartbeats 1000000 in
theorem copyF_call (w:World) (g o n c:Nat) (news:List Value) (hl:news.length = n * 3) (hc:∀ j u,news[j]? = some u -> w.cell? ⟨g,o + j,none⟩ = some u) (h1:∀ u ∈ news,u.oneCell' = true) (hle:n <= 10000) :
  Calls Tryd.prog 63 #[.slice (some ⟨g,o,none⟩) n c] w (fun e w' => ∃ v,e = .returned v /\ Below w.heap.size w w' /\ w'.ownsRow w.heap.size 46 3 v n news):=by
 have HL:=Lib.hid hl
 have HC:=Lib.hid (add_cells hc)
 have H1:=Lib.hid h1
 clear hl hc h1
 go_enter Tryd.func63,Tryd.ntmps63
 go_wp2_with (
  at_builtin
  refine wpList_app_any rfl elem26 _ _ rfl (.slice none 0 0) w.heap.size 0 [] rfl ⟨rfl,.inl ⟨rfl,rfl⟩⟩ ⟨g,o,none⟩ n c news rfl HL.out HC.out H1.out (by simp only [maxLen]; omega) (by omega) (Nat.le_refl _) ?_
  intro v3 w3 hown hgrow hnil hat)
 go_ret
 rw [Nat.zero_add,List.nil_append] at hown
 exact ⟨v3,rfl,(Below.refl w.heap.size w).grown hgrow (Nat.le_refl _) (fun k hk => by cases hk),hown⟩
theorem funcs_nil (w:World):Calls Tryd.prog 64 #[.slice none 0 0] w (fun e w' => e = .returned (.slice none 0 0) /\ Below w.heap.size w w'):=by
 go_enter Tryd.func64,Tryd.ntmps64
 go_wp2_with (fail)
 go_loopw [3,4] (fun v i wr => v = .slice none 0 0 /\ i = .int .i64 0 /\ wr = w) (fun _ i _ => 0)
 case atStart => exact ⟨rfl,rfl,rfl⟩
 case round =>
  obtain ⟨rfl,rfl,rfl⟩:=hrel
  go_wp2_with (fail)
  go_ret
  exact ⟨rfl,Below.refl _ _⟩
theorem binds_nil (w:World):Calls Tryd.prog 65 #[.slice none 0 0] w (fun e w' => e = .returned (.slice none 0 0) /\ Below w.heap.size w w'):=by
 go_enter Tryd.func65,Tryd.ntmps65
 go_wp2_with (fail)
 go_ret
 exact ⟨rfl,Below.refl _ _⟩
end Go.Proofs.YtflmllablfjfeaaDoor
namespace Go.Proofs.YtflmllablfjfeaaDoor
open Go.RowKit Go.HK Go.FR Lib
set_option linter.unusedVariables false
set_option linter.unusedSimpArgs false
set_option linter.unusedSectionVars false
structure CmB (w:World) (cs:Array Value) (W:World):Prop where
 b1:W.heap[w.heap.size]? = some (.cells cs 30 (0,0))
 b2:W.heap[w.heap.size + 1]? = some (.cells #[.int .u8 0,.int .i64 0,.slice none 0 0,.int .i64 0,.slice none 0 0,.slice none 0 0,.slice none 0 0] 30 (0,0))
 hB:Below w.heap.size w W
theorem CmB.below {w A C:World} {cs:Array Value} (h:CmB w cs A) (hb:Below A.heap.size A C):CmB w cs C :=
 ⟨(hb.block _ (HK.blk_lt h.b1)).trans h.b1,(hb.block _ (HK.blk_lt h.b2)).trans h.b2,h.hB.trans (hb.mono h.hB.size)⟩
theorem CmB.set {w A:World} {cs:Array Value} (h:CmB w cs A) (k:Nat) (v:Value):CmB w (cs.setIfInBounds k v) (A.setCell ⟨w.heap.size,k,none⟩ v) :=
 ⟨HK.blk_set h.b1 k v,(Below.heap_setCell _ _ _ _ (by simp)).trans h.b2,h.hB.setCell (p:=⟨w.heap.size,k,none⟩) (Nat.le_refl _) _⟩
theorem own_blk9 {W:World} {b e size n:Nat} {v:Value} {xs:List Value} (h:W.ownsRow b e size v n xs) {g:Nat} (hg:v.ownBlock = some g):b <= g /\ g < W.heap.size:=by
 rcases h.2 with ⟨rfl,_⟩ | ⟨g',cap,cur,rfl,h1,h2,_⟩
 ·cases hg
 ·have e:g' = g:=Option.some.inj hg
  subst e
  exact ⟨h1,HK.blk_lt h2⟩
set_option maxRecDepth 100000 in
set_option maxHeartbeats 8000000 in
theorem copyM_call (w:World) (kind n m g o c gF oF cF:Nat) (rel:List Nat) (news:List Value) (h1:1 <= n) (hm:1 <= m) (hn9:n <= 4) (hm9:m <= 1000) (hR:IsR w g o rel) (hn:rel.length = n) (hl:news.length = m * 3) (hc:∀ j u,news[j]? = some u -> w.cell? ⟨gF,oF + j,none⟩ = some u) (h2:∀ u ∈ news,u.oneCell' = true) :
  Calls Tryd.prog 36 #[.agg #[.int .u8 (kind:Int),.int .i64 (n:Int),.slice (some ⟨g,o,none⟩) n c,.int .i64 0,.slice (some ⟨gF,oF,none⟩) m cF,.slice none 0 0,.slice none 0 0]] w (fun e w' => ∃ g1 c1 g2 c2,e = .returned (.agg #[.int .u8 (kind:Int),.int .i64 (n:Int),.slice (some ⟨g1,0,none⟩) n c1,.int .i64 0,.slice (some ⟨g2,0,none⟩) m c2,.slice none 0 0,.slice none 0 0]) /\ Below w.heap.size w w' /\ w'.ownsRow w.heap.size 3 1 (.slice (some ⟨g1,0,none⟩) n c1) n (ints rel) /\ w'.ownsRow w.heap.size 46 3 (.slice (some ⟨g2,0,none⟩) m c2) m news):=by
 have HR:=hid hR
 have HN:=hid hn
 have HL:=hid hl
 have HC:=hid hc
 have H2:=hid h2
 clear hR hn hl hc h2
 go_enter Tryd.func36,Tryd.ntmps36
 go_upto_region 1 with (fail)
 obtain ⟨A0,hA0⟩:∃ A,A = (w.alloc (.cells #[.int .u8 (kind:Int),.int .i64 (n:Int),.slice (some ⟨g,o,none⟩) n c,.int .i64 0,.slice (some ⟨gF,oF,none⟩) m cF,.slice none 0 0,.slice none 0 0] 30)).alloc (.cells #[.int .u8 0,.int .i64 0,.slice none 0 0,.int .i64 0,.slice none 0 0,.slice none 0 0,.slice none 0 0] 30):=⟨_,rfl⟩
 have hM:CmB w #[.int .u8 (kind:Int),.int .i64 (n:Int),.slice (some ⟨g,o,none⟩) n c,.int .i64 0,.slice (some ⟨gF,oF,none⟩) m cF,.slice none 0 0,.slice none 0 0] A0:=by
  rw [hA0]
  refine ⟨HK.blk_alloc (HK.blk_new _ _) _,?_,((Below.refl _ w).alloc (Nat.le_refl _) _).alloc (by simp) _⟩
  have:=HK.blk_new (w.alloc (.cells #[.int .u8 (kind:Int),.int .i64 (n:Int),.slice (some ⟨g,o,none⟩) n c,.int .i64 0,.slice (some ⟨gF,oF,none⟩) m cF,.slice none 0 0,.slice none 0 0] 30)) (.cells #[.int .u8 0,.int .i64 0,.slice none 0 0,.int .i64 0,.slice none 0 0,.slice none 0 0,.slice none 0 0] 30)
  simpa using this
 have hz0:A0.heap.size = w.heap.size + 2:=by rw [hA0]; simp
 rw [<- hA0]
 have HM0:=hid hM
 have HZ0:=hid hz0
 have c0:=fun i => HK.blk_cell hM.b1 i
 have f0:=fun i => HK.blk_frozen hM.b1 i
 clear hA0 hM hz0
 have hq:=copy_call A0 g o n c rel (HR.out.below HM0.out.hB) HN.out (by omega)
 unfold RetRow at hq
 have HQ:=hid hq
 clear hq
 go_upto_region 2 with (go_at_call 35; ((with_reducible refine HQ.out.mono ?_); rintro e w1 ⟨v1,rfl,hB1,ho1⟩); rw [HN.out] at ho1; obtain ⟨g1,c1,rfl,hg1,hl1⟩:=own_form9 ho1 h1; have HM1:=hid (HM0.out.below hB1); have HO1:=hid ho1; have HG1:=hid hg1; have k1:=fun i => HK.blk_cell HM1.out.b1 i; have f1:=fun i => HK.blk_frozen HM1.out.b1 i; clear hB1 ho1 hg1 hl1)
 obtain ⟨W1,hW1⟩:∃ X,X = w1.setCell ⟨w.heap.size,2,none⟩ (.slice (some ⟨g1,0,none⟩) n c1):=⟨_,rfl⟩
 have hm1:CmB w #[.int .u8 (kind:Int),.int .i64 (n:Int),.slice (some ⟨g1,0,none⟩) n c1,.int .i64 0,.slice (some ⟨gF,oF,none⟩) m cF,.slice none 0 0,.slice none 0 0] W1:=by
  have h:=HM1.out.set 2 (.slice (some ⟨g1,0,none⟩) n c1)
  rw [hW1]
  simpa using h
 have ho1:W1.ownsRow w.heap.size 3 1 (.slice (some ⟨g1,0,none⟩) n c1) n (ints rel):=by
  rw [hW1]
  exact owns_setCell (own_mono9 HO1.out (by have:=HZ0.out; omega)) (by simp only [Value.ownBlock]; intro e; have e2:=Option.some.inj e; have:=HG1.out; have:=HZ0.out; omega) _
 rw [<- hW1]
 have hgF:gF < w.heap.size:=by
  obtain ⟨u,hu⟩:∃ u,news[0]? = some u:=⟨_,List.getElem?_eq_getElem (by have:=HL.out; omega)⟩
  exact World.block_lt_of_cell? w ⟨gF,oF + 0,none⟩ (HC.out 0 u hu)
 have hq:=copyF_call W1 gF oF m cF news HL.out (fun j u hj => (hm1.hB.cell (p:=⟨gF,oF + j,none⟩) hgF).trans (HC.out j u hj)) H2.out (by omega)
 have HQ:=hid hq
 have HM1:=hid hm1
 have HO1:=hid ho1
 clear hq hm1 ho1 hW1 c0 f0 k1 f1
 have c1':=fun i => HK.blk_cell HM1.out.b1 i
 go_upto_region 3 with (go_at_call 63; ((with_reducible refine HQ.out.mono ?_); rintro e w2 ⟨v2,rfl,hB2,ho2⟩); obtain ⟨g2,c2,rfl,hg2,hl2⟩:=own_form9 ho2 hm; have HM2:=hid (HM1.out.below hB2); have HO2:=hid ho2; have HO1:=hid (own_below9 HO1.out hB2); have HG2:=hid (Nat.le_trans HM1.out.hB.size hg2); have HG2N:=hid hg2; have k1:=fun i => HK.blk_cell HM2.out.b1 i; have f1:=fun i => HK.blk_frozen HM2.out.b1 i; clear hB2 ho2 hg2 hl2)
 obtain ⟨W2,hW2⟩:∃ X,X = w2.setCell ⟨w.heap.size,4,none⟩ (.slice (some ⟨g2,0,none⟩) m c2):=⟨_,rfl⟩
 have hm2:CmB w #[.int .u8 (kind:Int),.int .i64 (n:Int),.slice (some ⟨g1,0,none⟩) n c1,.int .i64 0,.slice (some ⟨g2,0,none⟩) m c2,.slice none 0 0,.slice none 0 0] W2:=by
  have h:=HM2.out.set 4 (.slice (some ⟨g2,0,none⟩) m c2)
  rw [hW2]
  simpa using h
 have ho1:W2.ownsRow w.heap.size 3 1 (.slice (some ⟨g1,0,none⟩) n c1) n (ints rel):=by
  rw [hW2]
  exact owns_setCell HO1.out (by simp only [Value.ownBlock]; intro e; have e2:=Option.some.inj e; have:=HG1.out; have:=HZ0.out; omega) _
 have ho2:W2.ownsRow w.heap.size 46 3 (.slice (some ⟨g2,0,none⟩) m c2) m news:=by
  rw [hW2]
  exact owns_setCell (own_mono9 HO2.out HM1.out.hB.size) (by simp only [Value.ownBlock]; intro e; have e2:=Option.some.inj e; have:=own_blk9 HO2.out (g:=g2) rfl; have:=HK.blk_lt HM1.out.b1; omega) _
 rw [<- hW2]
 have HM2:=hid hm2
 have HO1:=hid ho1
 have HO2:=hid ho2
 have HGN:Hid (w.heap.size + 1 < g2):=hid (by have:=own_blk9 HO2.out (g:=g2) rfl; have h1:=HK.blk_lt HM1.out.b2; have h2:=HG2.out; have h3:=HG2N.out; omega)
 clear hm2 ho1 ho2 hW2 c1' k1 f1
 have c3x:=fun i => HK.blk_cell HM2.out.b1 i
 go_upto_region 4 with (go_at_call 64; ((with_reducible refine (funcs_nil _).mono ?_); rintro e w3 ⟨rfl,hB3⟩); have HM3:=hid (HM2.out.below hB3); have HO1:=hid (own_below9 HO1.out hB3); have HO2:=hid (own_below9 HO2.out hB3); have k1:=fun i => HK.blk_cell HM3.out.b1 i; have f1:=fun i => HK.blk_frozen HM3.out.b1 i; clear hB3)
 obtain ⟨W3,hW3⟩:∃ X,X = w3.setCell ⟨w.heap.size,5,none⟩ (.slice none 0 0):=⟨_,rfl⟩
 have hm3:CmB w #[.int .u8 (kind:Int),.int .i64 (n:Int),.slice (some ⟨g1,0,none⟩) n c1,.int .i64 0,.slice (some ⟨g2,0,none⟩) m c2,.slice none 0 0,.slice none 0 0] W3:=by
  have h:=HM3.out.set 5 (.slice none 0 0)
  rw [hW3]
  simpa using h
 have ho1:W3.ownsRow w.heap.size 3 1 (.slice (some ⟨g1,0,none⟩) n c1) n (ints rel):=by
  rw [hW3]
  exact owns_setCell HO1.out (by simp only [Value.ownBlock]; intro e; have e2:=Option.some.inj e; have:=HG1.out; have:=HZ0.out; omega) _
 have ho2:W3.ownsRow w.heap.size 46 3 (.slice (some ⟨g2,0,none⟩) m c2) m news:=by
  rw [hW3]
  exact owns_setCell HO2.out (by simp only [Value.ownBlock]; intro e; have e2:=Option.some.inj e; have:=HGN.out; omega) _
 rw [<- hW3]
 have HM3:=hid hm3
 have HO1:=hid ho1
 have HO2:=hid ho2
 clear hm3 ho1 ho2 hW3 c3x k1 f1
 have c4x:=fun i => HK.blk_cell HM3.out.b1 i
 go_upto_region 5 with (go_at_call 65; ((with_reducible refine (binds_nil _).mono ?_); rintro e w4 ⟨rfl,hB4⟩); have HM4:=hid (HM3.out.below hB4); have HO1:=hid (own_below9 HO1.out hB4); have HO2:=hid (own_below9 HO2.out hB4); have k1:=fun i => HK.blk_cell HM4.out.b1 i; have f1:=fun i => HK.blk_frozen HM4.out.b1 i; clear hB4)
 obtain ⟨W4,hW4⟩:∃ X,X = w4.setCell ⟨w.heap.size,6,none⟩ (.slice none 0 0):=⟨_,rfl⟩
 have hm4:CmB w #[.int .u8 (kind:Int),.int .i64 (n:Int),.slice (some ⟨g1,0,none⟩) n c1,.int .i64 0,.slice (some ⟨g2,0,none⟩) m c2,.slice none 0 0,.slice none 0 0] W4:=by
  have h:=HM4.out.set 6 (.slice none 0 0)
  rw [hW4]
  simpa using h
 have ho1:W4.ownsRow w.heap.size 3 1 (.slice (some ⟨g1,0,none⟩) n c1) n (ints rel):=by
  rw [hW4]
  exact owns_setCell HO1.out (by simp only [Value.ownBlock]; intro e; have e2:=Option.some.inj e; have:=HG1.out; have:=HZ0.out; omega) _
 have ho2:W4.ownsRow w.heap.size 46 3 (.slice (some ⟨g2,0,none⟩) m c2) m news:=by
  rw [hW4]
  exact owns_setCell HO2.out (by simp only [Value.ownBlock]; intro e; have e2:=Option.some.inj e; have:=HGN.out; omega) _
 rw [<- hW4]
 have HM4:=hid hm4
 have HO1:=hid ho1
 have HO2:=hid ho2
 clear hm4 ho1 ho2 hW4 c4x k1 f1
 have k1:=fun i => HK.blk_cell HM4.out.b1 i
 have k2:=fun i => HK.blk_cell HM4.out.b2 i
 have f2:=fun i => HK.blk_frozen HM4.out.b2 i
 go_wp2_with (fail)
 obtain ⟨W9,hW9⟩:∃ X,X = (((((((W4.setCell ⟨w.heap.size + 1,0,none⟩ (.int .u8 (kind:Int))).setCell ⟨w.heap.size + 1,1,none⟩ (.int .i64 (n:Int))).setCell ⟨w.heap.size + 1,2,none⟩ (.slice (some ⟨g1,0,none⟩) n c1)).setCell ⟨w.heap.size + 1,3,none⟩ (.int .i64 0)).setCell ⟨w.heap.size + 1,4,none⟩ (.slice (some ⟨g2,0,none⟩) m c2)).setCell ⟨w.heap.size + 1,5,none⟩ (.slice none 0 0)).setCell ⟨w.heap.size + 1,6,none⟩ (.slice none 0 0)):=⟨_,rfl⟩
 rw [<- hW9]
 have h94:W9.heap[w.heap.size + 1]? = some (.cells #[.int .u8 (kind:Int),.int .i64 (n:Int),.slice (some ⟨g1,0,none⟩) n c1,.int .i64 0,.slice (some ⟨g2,0,none⟩) m c2,.slice none 0 0,.slice none 0 0] 30 (0,0)):=by
  rw [hW9]
  exact put7_same HM4.out.b2 rfl _ _ _ _ _ _ _
 have hB9:Below w.heap.size w W9:=by
  rw [hW9]
  exact put7_below HM4.out.hB (by omega) _ _ _ _ _ _ _
 have ho1:W9.ownsRow w.heap.size 3 1 (.slice (some ⟨g1,0,none⟩) n c1) n (ints rel):=by
  rw [hW9]
  iterate 7 (refine owns_setCell ?_ (by simp only [Value.ownBlock]; intro e; have e2:=Option.some.inj e; have:=HG1.out; have:=HZ0.out; omega) _)
  exact HO1.out
 have ho2:W9.ownsRow w.heap.size 46 3 (.slice (some ⟨g2,0,none⟩) m c2) m news:=by
  rw [hW9]
  iterate 7 (refine owns_setCell ?_ (by simp only [Value.ownBlock]; intro e; have e2:=Option.some.inj e; have:=HGN.out; omega) _)
  exact HO2.out
 have t0:=HK.blk_cell h94 0
 have t1:=HK.blk_cell h94 1
 have t2:=HK.blk_cell h94 2
 have t3:=HK.blk_cell h94 3
 have t4:=HK.blk_cell h94 4
 have t5:=HK.blk_cell h94 5
 have t6:=HK.blk_cell h94 6
 clear h94 hW9 k1 k2 f2
 refine bodyPost_ret (v:=.agg #[.int .u8 (kind:Int),.int .i64 (n:Int),.slice (some ⟨g1,0,none⟩) n c1,.int .i64 0,.slice (some ⟨g2,0,none⟩) m c2,.slice none 0 0,.slice none 0 0]) (by simp [results,Tryd.results36,go_sem,t0,t1,t2,t3,t4,t5,t6]) rfl ?_
 exact ⟨g1,c1,g2,c2,rfl,hB9,ho1,ho2⟩
end Go.Proofs.YtflmllablfjfeaaDoor
namespace Go.Proofs.YtflmllablfjfeaaDoor
open Go.RowKit Go.HK Go.FR
set_option linter.unusedVariables false
set_option linter.unusedSimpArgs false
set_option linter.unusedSectionVars false
theorem ok_all {m:Mdl} (h:m.ok = true):(m.kind = 3 ∨ m.kind = 4) /\ relB m.rel = true /\ m.size = (m.rel.length:Int) /\ suitsB (decide (m.kind = 3)) 0 (natsI m.rel) (m.rel.length - 1) = true /\ factsK (decide (m.kind = 3)) (natsI m.rel) m.facts m.facts.length = true:=by
 unfold Mdl.ok validB at h
 simp only [Bool.and_eq_true,decide_eq_true_iff] at h
 exact ⟨h.1.1.1.1.1.1.1,h.1.1.1.1.1.1.2,h.1.1.1.1.1.2,h.1.2,h.2⟩
theorem not_ok {m:Mdl} (h:¬ m.ok = true):m.ok = false:=by cases e:m.ok; rfl; exact absurd e h
theorem bad_size {m:Mdl} (h:m.size ≠ (m.rel.length:Int)):m.ok = false:=not_ok fun e => h (ok_all e).2.2.1
theorem bad_kind {m:Mdl} (h:¬ (m.kind = 3 ∨ m.kind = 4)):m.ok = false:=not_ok fun e => h (ok_all e).1
theorem bad_rel {m:Mdl} {i:Nat} {x:Int} (hx:m.rel[i]? = some x) (h:x < 0 ∨ ((2 ^ m.rel.length:Nat):Int) <= x):m.ok = false:=not_ok fun e => by
 have hr:=(ok_all e).2.1
 unfold relB at hr
 simp only [Bool.and_eq_true,decide_eq_true_iff] at hr
 have hi:=(List.getElem?_eq_some_iff.1 hx).1
 have:=relK_get hr.2 hi
 rw [List.getD_eq_getElem?_getD,hx,Option.getD_some] at this
 omega
theorem bad_suits {m:Mdl} (h:suitsB (decide (m.kind = 3)) 0 (natsI m.rel) (m.rel.length - 1) = false):m.ok = false:=not_ok fun e => by
 rw [(ok_all e).2.2.2.1] at h
 cases h
theorem bad_fact {m:Mdl} {k:Nat} (hk:k < m.facts.length) (h:factB (decide (m.kind = 3)) (natsI m.rel) m.facts k = false):m.ok = false:=not_ok fun e => by
 have:=factsK_no hk h
 rw [(ok_all e).2.2.2.2] at this
 cases this
theorem factB_args {force:Bool} {rel:List Nat} {fs:List (ByteArray × Int × Int)} {k:Nat} {f:ByteArray × Int × Int} (hf:fs[k]? = some f) (h:f.2.1 ≠ 0 ∨ f.2.2 < 0 ∨ ((2 ^ rel.length:Nat):Int) <= f.2.2):factB force rel fs k = false:=by
 cases e:factB force rel fs k
 ·rfl
 ·exfalso
  unfold factB at e
  rw [List.getD_eq_getElem?_getD,hf,Option.getD_some] at e
  simp only [Bool.and_eq_true,decide_eq_true_iff] at e
  have h1:=e.1.2
  omega
theorem factB_name {force:Bool} {rel:List Nat} {fs:List (ByteArray × Int × Int)} {k:Nat} (h0:k ≠ 0) (h:ltS (nmK fs (k - 1)) (nmK fs k) = false):factB force rel fs k = false:=by
 cases e:factB force rel fs k
 ·rfl
 ·exfalso
  unfold factB at e
  simp only [Bool.and_eq_true,Bool.or_eq_true,decide_eq_true_iff] at e
  rcases e.1.1.2 with h1 | h1
  ·exact h0 h1
  ·rw [h1] at h; cases h
theorem blind {rel:List Nat} {n:Nat} (hn:rel.length = n) (h1:1 <= n) (hr:FrOk rel) (h:rel[n - 1]? = some 0):suitsB true 0 rel (n - 1) = false:=by
 cases e:suitsB true 0 rel (n - 1)
 ·rfl
 ·exfalso
  unfold suitsB at e
  simp only [if_true,Bool.and_eq_true] at e
  have hl:=lackAll_get e.2 (show n - 1 < n - 1 + 1 by omega)
  have hf:=(lack_zero hr (w:=n - 1) (by omega)).1 hl
  have:=hf.1 (by decide)
  rw [List.getD_eq_getElem?_getD,h,Option.getD_some,Nat.zero_testBit] at this
  cases this
def bm (k:Nat) (z:Int) (rel:List Int) (fs:List (ByteArray × Int × Int)):Mdl:=⟨k,z,rel,0,fs,0,0⟩
def zs (rl:List Nat):List Int:=rl.map fun x:Nat => (x:Int)
theorem zs_len (rl:List Nat):(zs rl).length = rl.length:=by simp [zs]
theorem bad0 {n:Nat} {rl:List Nat} (hn:rl.length = n) (h4:n <= 4) (nn:Int) (fs):(bm 3 (max nn 5) (zs rl) fs).ok = false :=
 bad_size (by show max nn 5 ≠ ((zs rl).length:Int); rw [zs_len]; omega)
theorem bad1 {n:Nat} {rl:List Nat} (hn:rl.length = n) (h1:1 <= n) (nn:Int) (z:Int) (fs):(bm 3 z ((zs rl).set 0 (max nn ((2 ^ n:Nat):Int))) fs).ok = false :=
 bad_rel (i:=0) (x:=max nn ((2 ^ n:Nat):Int)) (by show ((zs rl).set 0 _)[0]? = _; rw [List.getElem?_set_self (by rw [zs_len]; omega)]) (.inr (by show ((2 ^ ((zs rl).set 0 _).length:Nat):Int) <= _; rw [List.length_set,zs_len,hn]; omega))
theorem bad2 {n:Nat} {rl:List Nat} (hn:rl.length = n) (h1:1 <= n) (hr:FrOk rl) (nn:Int) (z:Int) (fs):(bm 3 z ((zs rl).set (n - 1) (min nn 0)) fs).ok = false:=by
 by_cases h:nn < 0
 ·exact bad_rel (i:=n - 1) (x:=min nn 0) (by show ((zs rl).set _ _)[n - 1]? = _; rw [List.getElem?_set_self (by rw [zs_len]; omega)]) (.inl (by omega))
 ·refine bad_suits ?_
  show suitsB true 0 (natsI ((zs rl).set (n - 1) (min nn 0))) (((zs rl).set (n - 1) (min nn 0)).length - 1) = false
  have e:(zs rl).set (n - 1) (min nn 0) = zs (rl.set (n - 1) 0):=by
   rw [show min nn 0 = ((0:Nat):Int) by omega]
   simp [zs,List.map_set]
  rw [e,zs_len,List.length_set,hn,show natsI (zs (rl.set (n - 1) 0)) = rl.set (n - 1) 0 from natsI_of _]
  exact blind (by rw [List.length_set]; exact hn) h1 (frok_set hr (Nat.two_pow_pos _)) (by rw [List.getElem?_set_self (by omega)])
theorem bad3 {n:Nat} {rl:List Nat} (nn:Int) (z:Int) (p:ByteArray) (fs):(bm 3 z (zs rl) ((p,0,min nn (-1)) :: fs)).ok = false :=
 bad_fact (k:=0) (by simp [bm]) (factB_args (f:=(p,0,min nn (-1))) rfl (.inr (.inl (by show min nn (-1) < 0; omega))))
theorem bad4 {n:Nat} {rl:List Nat} (hn:rl.length = n) (nn:Int) (z:Int) (p:ByteArray) (f0 f1):(bm 3 z (zs rl) [f0,f1,(p,0,max nn ((2 ^ n:Nat):Int))]).ok = false :=
 bad_fact (k:=2) (by simp [bm]) (factB_args (f:=(p,0,max nn ((2 ^ n:Nat):Int))) rfl (.inr (.inr (by show ((2 ^ (natsI (zs rl)).length:Nat):Int) <= max nn _; rw [show natsI (zs rl) = rl from natsI_of _,hn]; omega))))
theorem bad5 {rl:List Nat} (z:Int) (f0) (a b:Int × Int):(bm 3 z (zs rl) [f0,(⟨#[82]⟩,a),(⟨#[82]⟩,b)]).ok = false :=
 bad_fact (k:=2) (by simp [bm]) (factB_name (by omega) (by show ltS ⟨#[82]⟩ ⟨#[82]⟩ = false; decide +kernel))
theorem bad6 {rl:List Nat} (nn:Int) (z:Int) (p:ByteArray) (x:Int) (f0 f2):(bm 3 z (zs rl) [f0,(p,max nn 1,x),f2]).ok = false :=
 bad_fact (k:=1) (by simp [bm]) (factB_args (f:=(p,max nn 1,x)) rfl (.inl (by show max nn 1 ≠ 0; omega)))
theorem bad7 (z:Int) (rel fs):(bm 5 z rel fs).ok = false:=bad_kind (by show ¬ ((5:Nat) = 3 ∨ (5:Nat) = 4); omega)
structure OwM (n:Nat) (rl us:List Nat) (b B g c fg fc:Nat) (W:World):Prop where
 bx:W.heap[B]? = some (.cells #[.int .u8 3,.int .i64 (n:Int),.slice (some ⟨g,0,none⟩) n c,.int .i64 0,.slice (some ⟨fg,0,none⟩) 3 fc,.slice none 0 0,.slice none 0 0] 30 (0,0))
 o1:W.ownsRow b 3 1 (.slice (some ⟨g,0,none⟩) n c) n (ints rl)
 o2:W.ownsRow b 46 3 (.slice (some ⟨fg,0,none⟩) 3 fc) 3 (fcs 0 us)
theorem OwM.up {n:Nat} {rl us:List Nat} {b B g c fg fc:Nat} {W W':World} (h:OwM n rl us b B g c fg fc W) (hB:Below W.heap.size W W'):OwM n rl us b B g c fg fc W':=⟨(hB.block _ (HK.blk_lt h.bx)).trans h.bx,own_below9 h.o1 hB,own_below9 h.o2 hB⟩
structure CpB (lo B g fg n c fc k:Nat) (z:Int) (c1 c2:Array Value) (W:World):Prop where
 bx:W.heap[B]? = some (.cells #[.int .u8 (k:Int),.int .i64 z,.slice (some ⟨g,0,none⟩) n c,.int .i64 0,.slice (some ⟨fg,0,none⟩) 3 fc,.slice none 0 0,.slice none 0 0] 30 (0,0))
 r:W.heap[g]? = some (.cells c1 3 (0,0))
 f:W.heap[fg]? = some (.cells c2 46 (0,0))
 lg:lo <= g
 lf:lo <= fg
theorem CpB.ne1 {lo B g fg n c fc k:Nat} {z:Int} {c1 c2:Array Value} {W:World} (h:CpB lo B g fg n c fc k z c1 c2 W):B ≠ g /\ B ≠ fg /\ g ≠ fg:=by
 refine ⟨fun e => ?_,fun e => ?_,fun e => ?_⟩
 ·have:=h.bx; rw [e,h.r] at this; injection this with this; injection this with _ h2; cases h2
 ·have:=h.bx; rw [e,h.f] at this; injection this with this; injection this with _ h2; cases h2
 ·have:=h.r; rw [e,h.f] at this; injection this with this; injection this with _ h2; cases h2
theorem CpB.setR {lo B g fg n c fc k:Nat} {z:Int} {c1 c2:Array Value} {W:World} (h:CpB lo B g fg n c fc k z c1 c2 W) (i:Nat) (v:Value):CpB lo B g fg n c fc k z (c1.setIfInBounds i v) c2 (W.setCell ⟨g,i,none⟩ v) :=
 ⟨HK.blk_set_other h.bx h.ne1.1 v,HK.blk_set h.r i v,HK.blk_set_other h.f (fun e => h.ne1.2.2 e.symm) v,h.lg,h.lf⟩
theorem CpB.setF {lo B g fg n c fc k:Nat} {z:Int} {c1 c2:Array Value} {W:World} (h:CpB lo B g fg n c fc k z c1 c2 W) (i:Nat) (v:Value):CpB lo B g fg n c fc k z c1 (c2.setIfInBounds i v) (W.setCell ⟨fg,i,none⟩ v) :=
 ⟨HK.blk_set_other h.bx h.ne1.2.1 v,HK.blk_set_other h.r h.ne1.2.2 v,HK.blk_set h.f i v,h.lg,h.lf⟩
theorem CpB.setZ {lo B g fg n c fc k:Nat} {z:Int} {c1 c2:Array Value} {W:World} (h:CpB lo B g fg n c fc k z c1 c2 W) (y:Int):CpB lo B g fg n c fc k y c1 c2 (W.setCell ⟨B,1,none⟩ (.int .i64 y)) :=
 ⟨HK.blk_set h.bx 1 _,HK.blk_set_other h.r (fun e => h.ne1.1 e.symm) _,HK.blk_set_other h.f (fun e => h.ne1.2.1 e.symm) _,h.lg,h.lf⟩
theorem CpB.setK {lo B g fg n c fc k:Nat} {z:Int} {c1 c2:Array Value} {W:World} (h:CpB lo B g fg n c fc k z c1 c2 W) (y:Nat):CpB lo B g fg n c fc y z c1 c2 (W.setCell ⟨B,0,none⟩ (.int .u8 (y:Int))) :=
 ⟨HK.blk_set h.bx 0 _,HK.blk_set_other h.r (fun e => h.ne1.1 e.symm) _,HK.blk_set_other h.f (fun e => h.ne1.2.1 e.symm) _,h.lg,h.lf⟩
theorem take_get {cur:Array Value} {m:Nat} {xs:List Value} (h:cur.toList.take m = xs) {j:Nat} {u:Value} (hj:xs[j]? = some u):cur[j]? = some u:=by
 rw [<- h,List.getElem?_take] at hj
 split at hj
 ·rw [<- hj,Array.getElem?_toList]
 ·cases hj
theorem OwM.cp {n:Nat} {rl us:List Nat} {b B g c fg fc:Nat} {W:World} (h:OwM n rl us b B g c fg fc W):∃ c1 c2,CpB b B g fg n c fc 3 (n:Int) c1 c2 W /\ (∀ (j:Nat) (u:Value),(ints rl)[j]? = some u -> c1[j]? = some u) /\ ∀ (j:Nat) (u:Value),(fcs 0 us)[j]? = some u -> c2[j]? = some u:=by
 obtain ⟨_,⟨e,_⟩ | ⟨g1,cap1,cur1,e1,l1,b1,_,_,_,t1⟩⟩:=h.o1
 ·cases e
 obtain ⟨_,⟨e,_⟩ | ⟨g2,cap2,cur2,e2,l2,b2,_,_,_,t2⟩⟩:=h.o2
 ·cases e
 injection e1 with e1 _ _
 injection e1 with e1
 injection e1 with e1
 injection e2 with e2 _ _
 injection e2 with e2
 injection e2 with e2
 subst e1 e2
 exact ⟨cur1,cur2,⟨h.bx,b1,b2,l1,l2⟩,fun j u hj => take_get t1 hj,fun j u hj => take_get t2 hj⟩
theorem CpB.mb {lo B g fg n c fc k:Nat} {z:Int} {c1 c2:Array Value} {W:World} (h:CpB lo B g fg n c fc k z c1 c2 W) {zz:List Int} {fs:List (ByteArray × Int × Int)} (hk:k < 256) (hz:zz.length = n) (hr:∀ (i:Nat) (x:Int),zz[i]? = some x -> c1[i]? = some (.int .i64 x)) (h3:fs.length = 3)
  (hf:∀ (i:Nat) f,fs[i]? = some f -> c2[i * 3]? = some (.string f.1) /\ c2[i * 3 + 1]? = some (.int .i64 f.2.1) /\ c2[i * 3 + 2]? = some (.int .i64 f.2.2) /\ f.1.size <= maxLen):MB W B (bm k z zz fs) :=
 ⟨k,z,0,some ⟨g,0,none⟩,n,c,some ⟨fg,0,none⟩,3,fc,none,0,0,none,0,0,h.bx,rfl,rfl,rfl,
  ⟨⟨hz.symm,fun i x hx => ⟨g,0,rfl,HK.blk_lt h.r,by rw [HK.blk_cell h.r,Nat.zero_add]; exact hr i x hx⟩⟩,
  ⟨h3.symm,fun i f hi => by
    obtain ⟨a,b,d,e⟩:=hf i f hi
    refine ⟨fg,0,rfl,HK.blk_lt h.f,?_,?_,?_,e⟩
    ·rw [HK.blk_cell h.f,Nat.zero_add]; exact a
    ·rw [HK.blk_cell h.f,Nat.zero_add]; exact b
    ·rw [HK.blk_cell h.f,Nat.zero_add]; exact d⟩,
  rfl,rfl,hk,by show 3 <= 1000000000; omega⟩⟩
theorem row_zs {rl:List Nat} {c1:Array Value} (h:∀ (j:Nat) (u:Value),(ints rl)[j]? = some u -> c1[j]? = some u):∀ (i:Nat) (x:Int),(zs rl)[i]? = some x -> c1[i]? = some (.int .i64 x):=fun i x hx => by
 unfold zs at hx
 rw [List.getElem?_map] at hx
 obtain ⟨y,hy,rfl⟩:=Option.map_eq_some_iff.1 hx
 exact h i _ (by unfold ints; rw [List.getElem?_map,hy]; rfl)
theorem zs_set {zz:List Int} {c1:Array Value} (h:∀ (i:Nat) (x:Int),zz[i]? = some x -> c1[i]? = some (.int .i64 x)) (k:Nat) (y:Int):∀ (i:Nat) (x:Int),(zz.set k y)[i]? = some x -> (c1.setIfInBounds k (.int .i64 y))[i]? = some (.int .i64 x):=fun i x hx => by
 have hl:=(List.getElem?_eq_some_iff.1 hx).1
 rw [List.length_set] at hl
 have h1:=h i _ (List.getElem?_eq_getElem hl)
 have h2:=(Array.getElem?_eq_some_iff.1 h1).1
 by_cases e:k = i
 ·subst e
  rw [List.getElem?_set_self hl] at hx
  cases hx
  rw [Array.getElem?_setIfInBounds_self_of_lt h2]
 ·rw [List.getElem?_set_ne e] at hx
  rw [Array.getElem?_setIfInBounds_ne e]
  exact h i x hx
theorem pqr_small (i:Nat):(pqr i).size <= maxLen:=by
 unfold pqr maxLen
 show 1 <= _
 omega
theorem row_fs {u4 u5 u6:Nat} {c2:Array Value} (h:∀ (j:Nat) (u:Value),(fcs 0 [u4,u5,u6])[j]? = some u -> c2[j]? = some u) :
  (9 <= c2.size) /\ c2[0]? = some (.string (pqr 0)) /\ c2[1]? = some (.int .i64 0) /\ c2[2]? = some (.int .i64 (u4:Int)) /\ c2[3]? = some (.string (pqr 1)) /\ c2[4]? = some (.int .i64 0) /\ c2[5]? = some (.int .i64 (u5:Int)) /\ c2[6]? = some (.string (pqr 2)) /\ c2[7]? = some (.int .i64 0) /\ c2[8]? = some (.int .i64 (u6:Int)):=by
 have h8:=h 8 _ rfl
 exact ⟨(Array.getElem?_eq_some_iff.1 h8).1,h 0 _ rfl,h 1 _ rfl,h 2 _ rfl,h 3 _ rfl,h 4 _ rfl,h 5 _ rfl,h 6 _ rfl,h 7 _ rfl,h8⟩
theorem fs_three {p0 p1 p2:ByteArray} {a0 a1 a2 t0 t1 t2:Int} {c2:Array Value} (h0:c2[0]? = some (.string p0)) (h1:c2[1]? = some (.int .i64 a0)) (h2:c2[2]? = some (.int .i64 t0)) (h3:c2[3]? = some (.string p1)) (h4:c2[4]? = some (.int .i64 a1)) (h5:c2[5]? = some (.int .i64 t1)) (h6:c2[6]? = some (.string p2)) (h7:c2[7]? = some (.int .i64 a2)) (h8:c2[8]? = some (.int .i64 t2)) (z0:p0.size <= maxLen) (z1:p1.size <= maxLen) (z2:p2.size <= maxLen) :
  ∀ (i:Nat) f,[(p0,a0,t0),(p1,a1,t1),(p2,a2,t2)][i]? = some f -> c2[i * 3]? = some (.string f.1) /\ c2[i * 3 + 1]? = some (.int .i64 f.2.1) /\ c2[i * 3 + 2]? = some (.int .i64 f.2.2) /\ f.1.size <= maxLen
 | 0,f,h => by cases h; exact ⟨h0,h1,h2,z0⟩
 | 1,f,h => by cases h; exact ⟨h3,h4,h5,z1⟩
 | 2,f,h => by cases h; exact ⟨h6,h7,h8,z2⟩
def BadM (W:World) (B:Nat):Prop:=∃ m:Mdl,MB W B m /\ m.ok = false
section
variable {n:Nat} {rl:List Nat} {u4 u5 u6 b B g c fg fc:Nat} {W:World}
theorem wr0 (h:OwM n rl [u4,u5,u6] b B g c fg fc W) (hn:rl.length = n) (h4:n <= 4) (nn:Int):BadM (W.setCell ⟨B,1,none⟩ (.int .i64 (max nn 5))) B:=by
 obtain ⟨c1,c2,hC,hr,hf⟩:=h.cp
 obtain ⟨z9,f0,f1,f2,f3,f4,f5,f6,f7,f8⟩:=row_fs hf
 exact ⟨_,(hC.setZ (max nn 5)).mb (by omega) (by rw [zs_len]; exact hn) (row_zs hr) rfl (fs_three f0 f1 f2 f3 f4 f5 f6 f7 f8 (pqr_small _) (pqr_small _) (pqr_small _)),bad0 hn h4 nn _⟩
theorem wr1 (h:OwM n rl [u4,u5,u6] b B g c fg fc W) (hn:rl.length = n) (h1:1 <= n) (nn:Int):BadM (W.setCell ⟨g,0,none⟩ (.int .i64 (max nn ((2 ^ n:Nat):Int)))) B:=by
 obtain ⟨c1,c2,hC,hr,hf⟩:=h.cp
 obtain ⟨z9,f0,f1,f2,f3,f4,f5,f6,f7,f8⟩:=row_fs hf
 exact ⟨_,(hC.setR 0 _).mb (by omega) (by rw [List.length_set,zs_len]; exact hn) (zs_set (row_zs hr) 0 _) rfl (fs_three f0 f1 f2 f3 f4 f5 f6 f7 f8 (pqr_small _) (pqr_small _) (pqr_small _)),bad1 hn h1 nn _ _⟩
theorem wr2 (h:OwM n rl [u4,u5,u6] b B g c fg fc W) (hn:rl.length = n) (h1:1 <= n) (hro:FrOk rl) (nn:Int):BadM (W.setCell ⟨g,n - 1,none⟩ (.int .i64 (min nn 0))) B:=by
 obtain ⟨c1,c2,hC,hr,hf⟩:=h.cp
 obtain ⟨z9,f0,f1,f2,f3,f4,f5,f6,f7,f8⟩:=row_fs hf
 exact ⟨_,(hC.setR (n - 1) _).mb (by omega) (by rw [List.length_set,zs_len]; exact hn) (zs_set (row_zs hr) (n - 1) _) rfl (fs_three f0 f1 f2 f3 f4 f5 f6 f7 f8 (pqr_small _) (pqr_small _) (pqr_small _)),bad2 hn h1 hro nn _ _⟩
theorem wr3 (h:OwM n rl [u4,u5,u6] b B g c fg fc W) (hn:rl.length = n) (nn:Int):BadM (W.setCell ⟨fg,2,none⟩ (.int .i64 (min nn (-1)))) B:=by
 obtain ⟨c1,c2,hC,hr,hf⟩:=h.cp
 obtain ⟨z9,f0,f1,f2,f3,f4,f5,f6,f7,f8⟩:=row_fs hf
 exact ⟨_,(hC.setF 2 _).mb (by omega) (by rw [zs_len]; exact hn) (row_zs hr) rfl (fs_three (by rw [Array.getElem?_setIfInBounds_ne (by omega)]; exact f0) (by rw [Array.getElem?_setIfInBounds_ne (by omega)]; exact f1) (Array.getElem?_setIfInBounds_self_of_lt (by omega)) (by rw [Array.getElem?_setIfInBounds_ne (by omega)]; exact f3) (by rw [Array.getElem?_setIfInBounds_ne (by omega)]; exact f4) (by rw [Array.getElem?_setIfInBounds_ne (by omega)]; exact f5) (by rw [Array.getElem?_setIfInBounds_ne (by omega)]; exact f6) (by rw [Array.getElem?_setIfInBounds_ne (by omega)]; exact f7) (by rw [Array.getElem?_setIfInBounds_ne (by omega)]; exact f8) (pqr_small _) (pqr_small _) (pqr_small _)),bad3 (n:=n) nn _ _ _⟩
theorem wr4 (h:OwM n rl [u4,u5,u6] b B g c fg fc W) (hn:rl.length = n) (nn:Int):BadM (W.setCell ⟨fg,8,none⟩ (.int .i64 (max nn ((2 ^ n:Nat):Int)))) B:=by
 obtain ⟨c1,c2,hC,hr,hf⟩:=h.cp
 obtain ⟨z9,f0,f1,f2,f3,f4,f5,f6,f7,f8⟩:=row_fs hf
 exact ⟨_,(hC.setF 8 _).mb (by omega) (by rw [zs_len]; exact hn) (row_zs hr) rfl (fs_three (by rw [Array.getElem?_setIfInBounds_ne (by omega)]; exact f0) (by rw [Array.getElem?_setIfInBounds_ne (by omega)]; exact f1) (by rw [Array.getElem?_setIfInBounds_ne (by omega)]; exact f2) (by rw [Array.getElem?_setIfInBounds_ne (by omega)]; exact f3) (by rw [Array.getElem?_setIfInBounds_ne (by omega)]; exact f4) (by rw [Array.getElem?_setIfInBounds_ne (by omega)]; exact f5) (by rw [Array.getElem?_setIfInBounds_ne (by omega)]; exact f6) (by rw [Array.getElem?_setIfInBounds_ne (by omega)]; exact f7) (Array.getElem?_setIfInBounds_self_of_lt (by omega)) (pqr_small _) (pqr_small _) (pqr_small _)),bad4 hn nn _ _ _ _⟩
theorem wr5 (h:OwM n rl [u4,u5,u6] b B g c fg fc W) (hn:rl.length = n):BadM (W.setCell ⟨fg,3,none⟩ (.string ⟨#[82]⟩)) B:=by
 obtain ⟨c1,c2,hC,hr,hf⟩:=h.cp
 obtain ⟨z9,f0,f1,f2,f3,f4,f5,f6,f7,f8⟩:=row_fs hf
 have e2:pqr 2 = ⟨#[82]⟩:=by decide +kernel
 rw [e2] at f6
 exact ⟨_,(hC.setF 3 _).mb (by omega) (by rw [zs_len]; exact hn) (row_zs hr) rfl (fs_three (by rw [Array.getElem?_setIfInBounds_ne (by omega)]; exact f0) (by rw [Array.getElem?_setIfInBounds_ne (by omega)]; exact f1) (by rw [Array.getElem?_setIfInBounds_ne (by omega)]; exact f2) (Array.getElem?_setIfInBounds_self_of_lt (by omega)) (by rw [Array.getElem?_setIfInBounds_ne (by omega)]; exact f4) (by rw [Array.getElem?_setIfInBounds_ne (by omega)]; exact f5) (by rw [Array.getElem?_setIfInBounds_ne (by omega)]; exact f6) (by rw [Array.getElem?_setIfInBounds_ne (by omega)]; exact f7) (by rw [Array.getElem?_setIfInBounds_ne (by omega)]; exact f8) (pqr_small _) (by decide) (by decide)),bad5 _ _ _ _⟩
theorem wr6 (h:OwM n rl [u4,u5,u6] b B g c fg fc W) (hn:rl.length = n) (nn:Int):BadM (W.setCell ⟨fg,4,none⟩ (.int .i64 (max nn 1))) B:=by
 obtain ⟨c1,c2,hC,hr,hf⟩:=h.cp
 obtain ⟨z9,f0,f1,f2,f3,f4,f5,f6,f7,f8⟩:=row_fs hf
 exact ⟨_,(hC.setF 4 _).mb (by omega) (by rw [zs_len]; exact hn) (row_zs hr) rfl (fs_three (by rw [Array.getElem?_setIfInBounds_ne (by omega)]; exact f0) (by rw [Array.getElem?_setIfInBounds_ne (by omega)]; exact f1) (by rw [Array.getElem?_setIfInBounds_ne (by omega)]; exact f2) (by rw [Array.getElem?_setIfInBounds_ne (by omega)]; exact f3) (Array.getElem?_setIfInBounds_self_of_lt (by omega)) (by rw [Array.getElem?_setIfInBounds_ne (by omega)]; exact f5) (by rw [Array.getElem?_setIfInBounds_ne (by omega)]; exact f6) (by rw [Array.getElem?_setIfInBounds_ne (by omega)]; exact f7) (by rw [Array.getElem?_setIfInBounds_ne (by omega)]; exact f8) (pqr_small _) (pqr_small _) (pqr_small _)),bad6 nn _ _ _ _ _⟩
theorem wr7 (h:OwM n rl [u4,u5,u6] b B g c fg fc W) (hn:rl.length = n):BadM (W.setCell ⟨B,0,none⟩ (.int .u8 5)) B:=by
 obtain ⟨c1,c2,hC,hr,hf⟩:=h.cp
 obtain ⟨z9,f0,f1,f2,f3,f4,f5,f6,f7,f8⟩:=row_fs hf
 exact ⟨_,(hC.setK 5).mb (by omega) (by rw [zs_len]; exact hn) (row_zs hr) rfl (fs_three f0 f1 f2 f3 f4 f5 f6 f7 f8 (pqr_small _) (pqr_small _) (pqr_small _)),bad7 _ _ _⟩
end
def RetEr (W:World) (x:Value) (er:Int) (e:Ending) (w':World):Prop:=e = .returned (.tuple #[x,.int .i64 er]) /\ Below W.heap.size W w'
abbrev M0v:Value:=.agg #[.int .u8 0,.int .i64 0,.slice none 0 0,.int .i64 0,.slice none 0 0,.slice none 0 0,.slice none 0 0]
theorem at_erv {W:World} {v u:Value} {m:Mdl} {f:Fm} (hv:IsMv W v m) (hu:IsFv W u f) (hrw:IsRows W) (hN:nodesF f <= 10000) (h:m.ok = false ∨ rightK m.kind f = false):Calls Tryd.prog 16 #[v,u] W (RetEr W (.int .i64 0) 2):=by
 obtain ⟨hh,rfl,h1⟩:=mv_of hv
 obtain ⟨a,s,rfl,h2⟩:=fv_of hu
 have:=at_call W m hh f a s h1 h2 hrw hN
 have hb:(m.ok && rightK m.kind f) = false:=by
  rcases h with h | h
  ·rw [h]; rfl
  ·rw [h,Bool.and_false]
 unfold RetAt at this
 rw [hb] at this
 exact this.mono fun e w' h => ⟨h.2,h.1⟩
theorem at_lkv {W:World} {v u:Value} {m:Mdl} {f:Fm} (hv:IsMv W v m) (hu:IsFv W u f) (hrw:IsRows W) (hN:nodesF f <= 10000) (hok:m.ok = true) (hr:rightK m.kind f = true) (hl:m.lack f = true):Calls Tryd.prog 16 #[v,u] W (RetEr W (.int .i64 0) 6):=by
 obtain ⟨hh,rfl,h1⟩:=mv_of hv
 obtain ⟨a,s,rfl,h2⟩:=fv_of hu
 have:=at_call W m hh f a s h1 h2 hrw hN
 unfold RetAt at this
 rw [hok,hr,hl] at this
 exact this.mono fun e w' h => ⟨h.2,h.1⟩
theorem holds_erv {W:World} {v u:Value} {m:Mdl} {f:Fm} (hv:IsMv W v m) (hu:IsFv W u f) (hrw:IsRows W) (hN:nodesF f <= 10000) (h:m.ok = false ∨ rightK m.kind f = false):Calls Tryd.prog 17 #[v,u] W (RetEr W (.bool false) 2):=by
 obtain ⟨hh,rfl,h1⟩:=mv_of hv
 obtain ⟨a,s,rfl,h2⟩:=fv_of hu
 have:=holds_17 W m hh f a s h1 h2 hrw hN
 have hb:(m.ok && rightK m.kind f) = false:=by
  rcases h with h | h
  ·rw [h]; rfl
  ·rw [h,Bool.and_false]
 unfold RetHo at this
 rw [hb] at this
 exact this.mono fun e w' h => ⟨h.2,h.1⟩
theorem valid_of {W:World} {v:Value} {m:Mdl} (hv:IsMv W v m) {b:Bool} (h:m.ok = b):∀ W',Below W.heap.size W W' -> Calls Tryd.prog 18 #[v] W' (RetW W' b):=fun W' hB => by
 have:=validMv (hv.below hB)
 rwa [h] at this
theorem part_erv {W:World} {v:Value} {m:Mdl} (hv:IsMv W v m) (h:m.ok = false) (wd:Int):Calls Tryd.prog 30 #[v,.int .i64 wd] W (RetEr W M0v 2):=by
 have hV:=valid_of hv h
 obtain ⟨k,z,lp,r0,r1,r2,f0,f1,f2,u0,u1,u2,b0,b1,b2,rfl,h2,h3,h4,h5⟩:=hv
 exact (part_nv W k z lp wd r0 f0 u0 b0 r1 r2 f1 f2 u1 u2 b1 b2 hV).mono fun e w' h => ⟨h.2,h.1⟩
theorem number_erv {W:World} {v:Value} {m:Mdl} (hv:IsMv W v m) (h:m.ok = false) (mask:Nat):Calls Tryd.prog 34 #[v,.int .u8 (mask:Int)] W (RetEr W (.int .i64 0) 2):=by
 have hV:=valid_of hv h
 obtain ⟨k,z,lp,r0,r1,r2,f0,f1,f2,u0,u1,u2,b0,b1,b2,rfl,h2,h3,h4,h5⟩:=hv
 exact (number_nv W k mask z lp r0 f0 u0 b0 r1 r2 f1 f2 u1 u2 b1 b2 hV).mono fun e w' h => h
theorem number_mask {W:World} {v:Value} {m:Mdl} (hv:IsMv W v m) (h:m.ok = true) (mask:Nat) (hm:mask < 256) (hz:-9223372036854775808 <= m.size /\ m.size <= 9223372036854775807) (hw:wrongB m.kind mask m.size = true):Calls Tryd.prog 34 #[v,.int .u8 (mask:Int)] W (RetEr W (.int .i64 0) 2):=by
 have hV:=valid_of hv h
 obtain ⟨k,z,lp,r0,r1,r2,f0,f1,f2,u0,u1,u2,b0,b1,b2,rfl,h2,h3,h4,h5⟩:=hv
 have hk:=h5.k
 rw [h2] at hk hw
 rw [h3] at hz hw
 exact (number_wr W k mask z lp r0 f0 u0 b0 r1 r2 f1 f2 u1 u2 b1 b2 hk hm hz hw hV).mono fun e w' h => h
theorem part_offv {W:World} {v:Value} {m:Mdl} (hv:IsMv W v m) (h:m.ok = true) (wd:Int) (hw:wd < 0 ∨ m.size <= wd):Calls Tryd.prog 30 #[v,.int .i64 wd] W (RetEr W M0v 6):=by
 have hV:=valid_of hv h
 obtain ⟨k,z,lp,r0,r1,r2,f0,f1,f2,u0,u1,u2,b0,b1,b2,rfl,h2,h3,h4,h5⟩:=hv
 by_cases h0:wd < 0
 ·exact (part_low W k z lp wd r0 f0 u0 b0 r1 r2 f1 f2 u1 u2 b1 b2 h0 hV).mono fun e w' h => ⟨h.2,h.1⟩
 ·rw [h3] at hw
  exact (part_high W k z lp wd r0 f0 u0 b0 r1 r2 f1 f2 u1 u2 b1 b2 h0 (hw.resolve_left h0) hV).mono fun e w' h => ⟨h.2,h.1⟩
theorem rightMv {W:World} {u:Value} {f:Fm} (hu:IsFv W u f) (kind:Nat) (hk:kind = 3 ∨ kind = 4) (hrw:IsRows W) (hN:nodesF f <= 10000):Calls Tryd.prog 37 #[.int .u8 (kind:Int),u] W (RetW W (rightK kind f)):=by
 obtain ⟨a,s,rfl,h2⟩:=fv_of hu
 exact rightM W kind hk f a s hrw hN h2
mutual
theorem pln_mono:∀ f:Fm,plnF false f = true -> plnF true f = true
 | .mk op nm args subs,h => by
  unfold plnF at h ⊢
  rw [Bool.and_eq_true,Bool.and_eq_true] at h ⊢
  obtain ⟨⟨ha,h1⟩,h2⟩:=h
  refine ⟨⟨ha,?_⟩,plnL_mono subs h2⟩
  simp only [Bool.false_and,Bool.or_false] at h1
  rw [Bool.or_eq_true]
  exact .inl h1
theorem plnL_mono:∀ l:List Fm,plnL false l = true -> plnL true l = true
 | [],_ => by unfold plnL; rfl
 | f :: r,h => by
  unfold plnL at h ⊢
  rw [Bool.and_eq_true] at h ⊢
  exact ⟨pln_mono f h.1,plnL_mono r h.2⟩
end
theorem no_box (f:Fm):rightK 3 (.mk 10 ⟨#[]⟩ [] [f]) = false:=by
 unfold rightK opsF
 simp
theorem no_dia (f:Fm):rightK 3 (.mk 11 ⟨#[]⟩ [] [f]) = false:=by
 unfold rightK opsF
 simp
abbrev Pa:Fm:=.mk 1 ⟨#[80]⟩ [.mk false ⟨#[97]⟩ []] []
theorem no_args (f:Fm):rightK 3 (.mk 4 ⟨#[]⟩ [] [f,Pa]) = false:=by
 unfold rightK opsF opsL opsL opsF
 simp
theorem yes_dia {f:Fm} (h:plnF false f = true) (hd:depthF f <= 20) (hn:nodesF f <= 40):rightK 4 (.mk 11 ⟨#[]⟩ [] [f]) = true :=
 pln_right (modal:=true) (f:=Op1 11 f) (fun _ => rfl) (pln_one (.inr ⟨rfl,.inr rfl⟩) (pln_mono f h)) (by rw [depth_one]; omega) (by rw [nodes_one]; omega)
abbrev NotS:Fm:=.mk 3 ⟨#[]⟩ [] [.mk 1 ⟨#[83]⟩ [] []]
theorem right_S:rightK 3 NotS = true:=by decide +kernel
theorem look_S (a b c:Nat):look3 a b c ⟨#[83]⟩ = none:=by
 unfold look3
 rw [if_neg (by decide +kernel),if_neg (by decide +kernel),if_neg (by decide +kernel)]
theorem lack_S (kind n:Nat) (rel:List Nat) (a b c:Nat):(mdl kind n rel [a,b,c]).lack NotS = true:=by
 rw [mdl_lack]
 unfold lackF lackL lackF lackL
 rw [look_S]
 rfl
theorem ts_one (W:World) (z:ByteArray) (hz:z.size <= maxLen):IsTs (Lt (W.alloc (.cells #[.bool false,.string z,.slice none 0 0] 70))) (W.alloc (.cells #[.bool false,.string z,.slice none 0 0] 70)) ⟨some ⟨W.heap.size,0,none⟩,1,1⟩ [.mk false z []] :=
 .row W.heap.size 0 1 [.mk false z []] (fun _ => ⟨none,0,0⟩) (by simp [Lt]) (fun i t ht j v hv => by
  rw [HK.blk_cell (HK.blk_new _ _)]
  match i,ht with
  | 0,ht =>
   simp at ht; subst ht
   have hv2:([Value.bool false,Value.string z,Value.slice none 0 0]:List Value)[j]? = some v:=hv
   simpa using hv2
  | i + 1,ht => simp at ht) (fun i t ht => by
  match i,ht with
  | 0,ht => simp at ht; subst ht; exact .nil none 0
  | i + 1,ht => simp at ht) (fun t ht => by
  simp at ht; subst ht; exact hz)
theorem fm_atom {W:World} {S:Nat -> Prop} {a:SL} {ts:List Tm} {z:ByteArray} (hz:z.size <= maxLen) (h:IsTs S W a ts):IsFm S W a ⟨none,0,0⟩ (.mk 1 z ts []):=⟨h,.nil none 0,by show 1 < 256; omega,hz⟩
theorem OwM.mb {n:Nat} {rl:List Nat} {u4 u5 u6 b B g c fg fc:Nat} {W:World} (h:OwM n rl [u4,u5,u6] b B g c fg fc W) (hn:rl.length = n):MB W B (mdl 3 n rl [u4,u5,u6]):=by
 obtain ⟨c1,c2,hC,hr,hf⟩:=h.cp
 obtain ⟨z9,f0,f1,f2,f3,f4,f5,f6,f7,f8⟩:=row_fs hf
 exact hC.mb (by omega) (by rw [List.length_map]; exact hn) (row_zs hr) rfl (fs_three f0 f1 f2 f3 f4 f5 f6 f7 f8 (pqr_small _) (pqr_small _) (pqr_small _))
theorem count_er (W:World) (kind mask:Nat) (size:Int) (hk:kind < 256) (hm:mask < 256) (hs:-9223372036854775808 <= size /\ size <= 9223372036854775807) (hw:wrongB kind mask size = true):Calls Tryd.prog 32 #[.int .u8 (kind:Int),.int .u8 (mask:Int),.slice none 0 0,.int .i64 size] W (RetEr W (.int .i64 0) 2) :=
 (count_nil W kind mask size hk hm hs).mono fun e w' h => by
  unfold RetCount at h
  rw [if_pos (.inl hw)] at h
  exact ⟨h.2,h.1⟩
theorem count_qp (W:World) (B:Nat) (hB:W.heap[B]? = some (.cells #[.string ⟨#[81]⟩,.string ⟨#[80]⟩] 9 (0,0))):Calls Tryd.prog 32 #[.int .u8 4,.int .u8 0,.slice (some ⟨B,0,none⟩) 2 2,.int .i64 1] W (RetEr W (.int .i64 0) 2) :=
 (count32_call W 4 0 1 B 0 2 2 [⟨#[81]⟩,⟨#[80]⟩] (fun i x hx => by
  rw [HK.blk_cell hB]
  match i,hx with
  | 0,hx => simp at hx; subst hx; exact ⟨by simp,by decide⟩
  | 1,hx => simp at hx; subst hx; exact ⟨by simp,by decide⟩
  | i + 2,hx => simp at hx) rfl (by omega) (by omega) (by omega) (by omega)).mono fun e w' h => by
  unfold RetCount at h
  rw [if_pos (.inr (by decide +kernel))] at h
  exact ⟨h.2,h.1⟩
theorem nth_er5 (W:World) (nn:Int) (h:-9223372036854775808 <= nn /\ nn <= 9223372036854775807):Calls Tryd.prog 33 #[.int .u8 4,.int .u8 0,.slice none 0 0,.int .i64 (max nn 5),.int .i64 0] W (RetEr W M0v 2) :=
 (nth_size W 4 0 (max nn 5) 0 (by omega) (by omega) (by omega) (by
  unfold wrongB
  rw [if_neg (by omega),if_pos rfl,decide_eq_true (show (4:Int) < max nn 5 by omega),Bool.or_true])).mono fun e w' h => ⟨h.2,h.1⟩
set_option maxRecDepth 100000 in
set_option maxHeartbeats 1000000 in
theorem close_er (w:World) (B:Nat) (nn:Int) (hB:w.heap[B]? = some (.cells #[.int .i64 (max nn 2)] 3 (0,0))):Calls Tryd.prog 22 #[.slice (some ⟨B,0,none⟩) 1 1,.int .u8 0] w (RetEr w (.slice none 0 0) 2):=by
 have h:=relation_call w B 0 1 1 [max nn 2] (fun i x hx => by
  rw [HK.blk_cell hB]
  match i,hx with
  | 0,hx => simp at hx; subst hx; simp
  | i + 1,hx => simp at hx) rfl
 have hno:relB [max nn 2] = false:=by
  unfold relB relK
  have:¬ max nn 2 < ((2 ^ 1:Nat):Int):=by omega
  simp [this]; omega
 rw [hno] at h
 have HH:=Lib.hid h
 clear h hno hB
 go_enter Tryd.func22,Tryd.ntmps22
 go_wp2_with (go_at_call 41; ((with_reducible refine HH.out.mono ?_); rintro e w1 ⟨rfl,hw1⟩; have hw1:=hw1.symm; subst hw1))
 go_ret2
 exact ⟨rfl,Below.refl _ _⟩
theorem nth_er1 (W:World) (nn:Int) (h:-9223372036854775808 <= nn /\ nn <= 9223372036854775807):Calls Tryd.prog 33 #[.int .u8 3,.int .u8 0,.slice none 0 0,.int .i64 1,.int .i64 (max nn 1)] W (RetEr W M0v 6):=by
 have hq:=nth_one W (max nn 1).toNat (by omega) (by omega)
 rw [show (((max nn 1).toNat:Nat):Int) = max nn 1 by omega] at hq
 exact hq.mono fun e w' h => ⟨h.2,h.1⟩
end Go.Proofs.YtflmllablfjfeaaDoor
