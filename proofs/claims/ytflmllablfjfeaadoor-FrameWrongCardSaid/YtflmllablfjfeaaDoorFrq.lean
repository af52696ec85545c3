import Derived.Test.YtflmllablfjfeaaDoorFrp
namespace Go.Proofs.YtflmllablfjfeaaDoor
open Go.RowKit Go.HK Go.FR Lib
set_option linter.unusedVariables false
set_option linter.unusedSimpArgs false
set_option linter.unusedSectionVars false
set_option maxRecDepth 100000 in
set_option maxHeartbeats 4000000 in
theorem valid_4 (w:World) (loop:Int) (g o n c:Nat) (fs us bs:SL) (rel:List Nat) (facts:List (ByteArray × Int × Int)) (hn:rel.length = n) (hok:FrOk rel) (h1:1 <= n) (hR:IsR w g o rel) (hF:IsFz (fun k => k < w.heap.size) w fs facts) (hl:fs.n <= 1000000000)
  (hu:us.n = 0) (hb:bs.n = 0) (hloop:loop = 0) (hs:suitsB false 0 rel (n - 1) = true) :
  Calls Tryd.prog 18 #[.agg #[.int .u8 4,.int .i64 (n:Int),.slice (some ⟨g,o,none⟩) n c,.int .i64 loop,fs.v,us.v,bs.v]] w (RetW w (factsK false rel facts facts.length)):=by
 obtain ⟨fa,fn,fc⟩:=fs
 obtain ⟨ua,un,uc⟩:=us
 obtain ⟨ba,bn,bc⟩:=bs
 simp only [SL.v] at hu hb hl ⊢
 subst hu hb hloop
 have h4:n <= 4:=by have:=hok.len; omega
 have HB1:Hid (∀ o,Below w.heap.size w (w.alloc o)):=hid fun o => (Below.refl _ w).alloc (Nat.le_refl _) _
 have hrl:=fun (o':Obj) => relation_call (w.alloc o') g o n c _ (hR.below ((Below.refl _ w).alloc (Nat.le_refl _) o')).z (by rw [List.length_map]; exact hn)
 rw [frok_relB hok (by omega)] at hrl
 have hsu:∀ (o':Obj),Calls Tryd.prog 42 #[.int .u8 4,.int .u8 0,.slice (some ⟨g,o,none⟩) n c,.int .i64 ((n:Int) - 1)] (w.alloc o') (RetB (w.alloc o') true):=fun o' => by
  have hRr:=hR.below ((Below.refl _ w).alloc (Nat.le_refl _) o')
  have:=suits_modal (w.alloc o') g o n c rel hRr hn hok 4 0 (n - 1) (by omega) (by omega) (by omega)
  rw [show lackAll 0 rel (n - 1 + 1) = suitsB false 0 rel (n - 1) from rfl] at this
  rw [show suitsB false 0 rel (n - 1) = true from hs,show (((n - 1:Nat)):Int) = (n:Int) - 1 by omega] at this
  exact this
 unfold RetB at hsu
 have HRL:=hid hrl
 have HSU:=hid hsu
 have HN:=hid hn
 have HR:=hid hR
 have HF:=hid hF
 have HFN:Hid (facts.length = fn):=hid hF.1.symm
 have HOK:=hid hok
 have HBN:Hid (∀ (o:Obj) (W:World),Below (w.alloc o).heap.size (w.alloc o) W -> Below w.heap.size w W):=hid fun o W h => ((Below.refl _ w).alloc (Nat.le_refl _) o).trans (h.mono (by simp))
 have HBO:Hid (∀ (o:Obj) (W:World),Below (w.alloc o).heap.size (w.alloc o) W -> W.heap[w.heap.size]? = some o):=hid fun o W h => (h.block _ (by simp)).trans (HK.blk_new w o)
 clear hrl hsu hn hF hok hR hs
 have hp16:2 ^ n <= 16:=pow_le4 h4
 go_enter Tryd.func18,Tryd.ntmps18
 go_upto_region 5 with (first
   | (go_at_call 41; ((with_reducible refine (HRL.out _).mono ?_); rintro e w1 ⟨rfl,hw1⟩; have hw1:=hw1.symm; subst hw1))
   | (go_at_call 42; ((with_reducible refine (HSU.out _).mono ?_); rintro e w2 ⟨rfl,hB2⟩)))
 have hbox:=HBO.out _ _ hB2
 have d4:=HK.blk_cell hbox 4
 have HB2:=hid (HBN.out _ _ hB2)
 obtain ⟨bx,hbx⟩:∃ bx,bx = Obj.cells #[.int .u8 4,.int .i64 (n:Int),.slice (some ⟨g,o,none⟩) n c,.int .i64 0,.slice fa fn fc,.slice ua 0 uc,.slice ba 0 bc] 30:=⟨_,rfl⟩
 rw [<- hbx] at hbox
 have HBX:=hid hbox
 have HBXE:=hid hbx
 clear hbox hB2 HSU HRL hbx
 go_wp2_with (fail)
 clear d4
 go_loopw [56] (fun i wr => ∃ k:Nat,k <= fn /\ i = .int .i64 k /\ Below w.heap.size w wr /\ wr.heap[w.heap.size]? = some bx /\ factsK false rel facts k = true) (fun i _ => fn - (intOf i).toNat)
 case atStart => exact ⟨0,by omega,rfl,HB2.out,HBX.out,rfl⟩
 case round =>
  obtain ⟨k,hk,rfl,hB,hbk,hfk⟩:=hrel
  by_cases hkn:(k:Int) < (fn:Int)
  ·have b0:(0:Int) <= (k:Int):=by omega
   obtain ⟨⟨s,ar,tr⟩,hf⟩:∃ f,facts[k]? = some f:=⟨_,List.getElem?_eq_getElem (by rw [HFN.out]; omega)⟩
   obtain ⟨fg,fo,hfa⟩:=HF.out.pos (show 0 < fn by omega)
   simp only [] at hfa
   subst hfa
   have hFr:=HF.out.turn (T:=fun k => k < wr.heap.size) (fun k hk => ⟨Nat.lt_of_lt_of_le hk hB.size,hB.block k hk⟩)
   obtain ⟨c0,c1,c2,hz⟩:=hFr.at hf
   simp only [] at c0 c1 c2 hz
   rw [HBXE.out] at hbk
   have hgd:facts.getD k (⟨#[]⟩,0,0) = (s,ar,tr):=by rw [List.getD_eq_getElem?_getD,hf]; rfl
   obtain ⟨pb,hpb⟩:∃ pb,pb = predB s:=⟨_,rfl⟩
   have hpr:∀ W,Calls Tryd.prog 43 #[.string s] W (RetW W pb):=fun W => by
    have:=predicate_any W s hz
    rw [show checkB capB alnumB s = pb from hpb.symm] at this
    exact this
   unfold RetW at hpr
   have HPR:=hid hpr
   have HGD:=hid hgd
   have HPB:=hid hpb
   have HFK:=hid hfk
   have HFT:Hid (∀ W,Below wr.heap.size wr W -> IsFz (fun k => k < W.heap.size) W ⟨some ⟨fg,fo,none⟩,fn,fc⟩ facts):=hid fun W hW => hFr.turn (fun k hk => ⟨Nat.lt_of_lt_of_le hk hW.size,hW.block k hk⟩)
   have HBW:=hid hB
   obtain ⟨fb,hfb⟩:∃ fb,fb = Obj.cells #[.string s,.int .i64 ar,.int .i64 tr] 46:=⟨_,rfl⟩
   have HBB:Hid (∀ (W:World),Below (wr.alloc fb).heap.size (wr.alloc fb) W -> Below wr.heap.size wr W):=hid fun W h => ((Below.refl _ wr).alloc (Nat.le_refl _) fb).trans (h.mono (by simp))
   have HBK:Hid (∀ (W:World),Below (wr.alloc fb).heap.size (wr.alloc fb) W -> W.heap[w.heap.size]? = some (Obj.cells #[.int .u8 4,.int .i64 (n:Int),.slice (some ⟨g,o,none⟩) n c,.int .i64 0,.slice (some ⟨fg,fo,none⟩) fn fc,.slice ua 0 uc,.slice ba 0 bc] 30)):=hid fun W h => by
    exact (h.block _ (by have:=HK.blk_lt hbk; simp; omega)).trans (HK.blk_alloc hbk fb)
   have HBO2:Hid (∀ (W:World),Below (wr.alloc fb).heap.size (wr.alloc fb) W -> W.heap[wr.heap.size]? = some (Obj.cells #[.string s,.int .i64 ar,.int .i64 tr] 46)):=hid fun W h => by rw [<- hfb]; exact (h.block _ (by simp)).trans (HK.blk_new wr fb)
   have HFB:=hid hfb
   have HHK:=hid hf
   clear hpr hpb hbk hf hFr hgd hfk hB hfb
   go_upto_region 8 with (fail)
   rw [<- HFB.out]
   go_cut [80] from 61 to 80 (fun v wx => ∃ sb:Bool,v = .bool sb /\ sb = !(predB s && (decide (k = 0) || ltS (nmK facts (k - 1)) s)) /\ Below (wr.alloc fb).heap.size (wr.alloc fb) wx)
   case first =>
    cases pb
    case false =>
     refine Go.RE.wp_region_eachg [61,62,63,64,65,66,67,68,69,70,71,72,73,74,75,76,77,78,79,80] (fun L x W => (Below (wr.alloc fb).heap.size (wr.alloc fb) W) /\ (L 0 = true -> x 61 = .pointer (some ⟨wr.heap.size,0,none⟩)) /\ (L 1 = true -> x 62 = .string s) /\ (L 2 = true -> x 63 = .bool false) /\ (L 3 = true -> x 64 = .bool true) /\ (L 4 = true -> x 65 = .bool true) /\ (L 5 = true -> x 66 = undef) /\ (L 6 = true -> x 67 = undef) /\ (L 7 = true -> x 68 = undef) /\ (L 8 = true -> x 69 = undef) /\ (L 9 = true -> x 70 = undef) /\ (L 10 = true -> x 71 = undef) /\ (L 11 = true -> x 72 = undef) /\ (L 12 = true -> x 73 = undef) /\ (L 13 = true -> x 74 = undef) /\ (L 14 = true -> x 75 = undef) /\ (L 15 = true -> x 76 = undef) /\ (L 16 = true -> x 77 = undef) /\ (L 17 = true -> x 78 = undef) /\ (L 18 = true -> x 79 = undef) /\ (L 19 = true -> x 80 = .bool true)) (by kernel_rfl) (by kernel_rfl) (by kernel_rfl) ?_ ((Go.RE.Each.cons ?_ (Go.RE.Each.cons ?_ (Go.RE.Each.cons ?_ (Go.RE.Each.cons ?_ (Go.RE.Each.cons ?_ (Go.RE.Each.cons ?_ (Go.RE.Each.cons ?_ (Go.RE.Each.cons ?_ (Go.RE.Each.cons ?_ (Go.RE.Each.cons ?_ (Go.RE.Each.cons ?_ (Go.RE.Each.cons ?_ (Go.RE.Each.cons ?_ (Go.RE.Each.cons ?_ (Go.RE.Each.cons ?_ (Go.RE.Each.cons ?_ (Go.RE.Each.cons ?_ (Go.RE.Each.cons ?_ (Go.RE.Each.cons ?_ (Go.RE.Each.cons ?_ Go.RE.Each.nil))))))))))))))))))))) ?_
     ·exact fun x => ⟨bl_dr (Below.refl _ _),fun h => (by cases h),fun h => (by cases h),fun h => (by cases h),fun h => (by cases h),fun h => (by cases h),fun h => (by cases h),fun h => (by cases h),fun h => (by cases h),fun h => (by cases h),fun h => (by cases h),fun h => (by cases h),fun h => (by cases h),fun h => (by cases h),fun h => (by cases h),fun h => (by cases h),fun h => (by cases h),fun h => (by cases h),fun h => (by cases h),fun h => (by cases h),fun h => (by cases h)⟩
     ·intro L x a wR K hL hd hf hx hΦ hK
      obtain ⟨hI,f0,f1,f2,f3,f4,f5,f6,f7,f8,f9,f10,f11,f12,f13,f14,f15,f16,f17,f18,f19⟩:=hΦ
      refine ⟨fun _ => ?_,fun h => absurd h (by rw [Go.RE.wanted_none rfl]; decide)⟩
      have e4:a.tmps[4]? = some (.pointer (some ⟨wr.heap.size,0,none⟩)):=hf 4 (of_decide_eq_true (by kernel_rfl))
      clear hf hx hd
      go_simp
      refine hK _ _ ?_
      exact ⟨hI,fun _ => rfl,fun h => f1 h,fun h => f2 h,fun h => f3 h,fun h => f4 h,fun h => f5 h,fun h => f6 h,fun h => f7 h,fun h => f8 h,fun h => f9 h,fun h => f10 h,fun h => f11 h,fun h => f12 h,fun h => f13 h,fun h => f14 h,fun h => f15 h,fun h => f16 h,fun h => f17 h,fun h => f18 h,fun h => f19 h⟩
     ·intro L x a wR K hL hd hf hx hΦ hK
      obtain ⟨hI,f0,f1,f2,f3,f4,f5,f6,f7,f8,f9,f10,f11,f12,f13,f14,f15,f16,f17,f18,f19⟩:=hΦ
      refine ⟨fun _ => ?_,fun h => absurd h (by rw [Go.RE.wanted_none rfl]; decide)⟩
      have d0:=f0 (hd 0 (by kernel_rfl))
      have e61:a.tmps[61]? = some (x 61):=hx 0 _ 61 rfl rfl (hd 0 (by kernel_rfl))
      rw [d0] at e61
      have c:=HK.blk_cell (HBO2.out _ hI) 0
      clear hf hx hd
      go_simp
      refine hK _ _ ?_
      exact ⟨hI,fun h => f0 h,fun _ => rfl,fun h => f2 h,fun h => f3 h,fun h => f4 h,fun h => f5 h,fun h => f6 h,fun h => f7 h,fun h => f8 h,fun h => f9 h,fun h => f10 h,fun h => f11 h,fun h => f12 h,fun h => f13 h,fun h => f14 h,fun h => f15 h,fun h => f16 h,fun h => f17 h,fun h => f18 h,fun h => f19 h⟩
     ·intro L x a wR K hL hd hf hx hΦ hK
      obtain ⟨hI,f0,f1,f2,f3,f4,f5,f6,f7,f8,f9,f10,f11,f12,f13,f14,f15,f16,f17,f18,f19⟩:=hΦ
      refine ⟨fun _ => ?_,fun h => absurd h (by rw [Go.RE.wanted_none rfl]; decide)⟩
      have d1:=f1 (hd 1 (by kernel_rfl))
      have e62:a.tmps[62]? = some (x 62):=hx 1 _ 62 rfl rfl (hd 1 (by kernel_rfl))
      rw [d1] at e62
      clear hf hx hd
      go_simp
      go_at_call 43
      with_reducible refine (HPR.out _).mono ?_
      rintro e w' ⟨rfl,hB8⟩
      simp only
      refine hK _ _ ?_
      exact ⟨hI.trans (hB8.mono hI.size),fun h => f0 h,fun h => f1 h,fun _ => rfl,fun h => f3 h,fun h => f4 h,fun h => f5 h,fun h => f6 h,fun h => f7 h,fun h => f8 h,fun h => f9 h,fun h => f10 h,fun h => f11 h,fun h => f12 h,fun h => f13 h,fun h => f14 h,fun h => f15 h,fun h => f16 h,fun h => f17 h,fun h => f18 h,fun h => f19 h⟩
     ·intro L x a wR K hL hd hf hx hΦ hK
      obtain ⟨hI,f0,f1,f2,f3,f4,f5,f6,f7,f8,f9,f10,f11,f12,f13,f14,f15,f16,f17,f18,f19⟩:=hΦ
      refine ⟨fun _ => ?_,fun h => absurd h (by rw [Go.RE.wanted_none rfl]; decide)⟩
      have d2:=f2 (hd 2 (by kernel_rfl))
      have e63:a.tmps[63]? = some (x 63):=hx 2 _ 63 rfl rfl (hd 2 (by kernel_rfl))
      rw [d2] at e63
      clear hf hx hd
      go_simp
      refine hK _ _ ?_
      exact ⟨hI,fun h => f0 h,fun h => f1 h,fun h => f2 h,fun _ => rfl,fun h => f4 h,fun h => f5 h,fun h => f6 h,fun h => f7 h,fun h => f8 h,fun h => f9 h,fun h => f10 h,fun h => f11 h,fun h => f12 h,fun h => f13 h,fun h => f14 h,fun h => f15 h,fun h => f16 h,fun h => f17 h,fun h => f18 h,fun h => f19 h⟩
     ·intro L x a wR K hL hd hf hx hΦ hK
      obtain ⟨hI,f0,f1,f2,f3,f4,f5,f6,f7,f8,f9,f10,f11,f12,f13,f14,f15,f16,f17,f18,f19⟩:=hΦ
      refine ⟨fun _ => ?_,fun h => absurd h (by rw [Go.RE.wanted_none rfl]; decide)⟩
      have d3:=f3 (hd 3 (by kernel_rfl))
      have e64:a.tmps[64]? = some (x 64):=hx 3 _ 64 rfl rfl (hd 3 (by kernel_rfl))
      rw [d3] at e64
      clear hf hx hd
      go_simp
      refine hK _ _ ?_
      exact ⟨hI,fun h => f0 h,fun h => f1 h,fun h => f2 h,fun h => f3 h,fun _ => rfl,fun h => f5 h,fun h => f6 h,fun h => f7 h,fun h => f8 h,fun h => f9 h,fun h => f10 h,fun h => f11 h,fun h => f12 h,fun h => f13 h,fun h => f14 h,fun h => f15 h,fun h => f16 h,fun h => f17 h,fun h => f18 h,fun h => f19 h⟩
     ·intro L x a wR K hL hd hf hx hΦ hK
      obtain ⟨hI,f0,f1,f2,f3,f4,f5,f6,f7,f8,f9,f10,f11,f12,f13,f14,f15,f16,f17,f18,f19⟩:=hΦ
      have g4:=f4 (hd 4 (by kernel_rfl))
      have ge:a.tmps[65]? = some (x 65):=hx 4 _ 65 rfl rfl (hd 4 (by kernel_rfl))
      rw [g4] at ge
      refine ⟨fun h => absurd h (by rw [Go.RE.wanted_of rfl (Go.RE.yielded_of rfl rfl ge)]; decide),fun _ => ?_⟩
      refine hK undef _ ?_
      exact ⟨hI,fun h => f0 h,fun h => f1 h,fun h => f2 h,fun h => f3 h,fun h => f4 h,fun _ => rfl,fun h => f6 h,fun h => f7 h,fun h => f8 h,fun h => f9 h,fun h => f10 h,fun h => f11 h,fun h => f12 h,fun h => f13 h,fun h => f14 h,fun h => f15 h,fun h => f16 h,fun h => f17 h,fun h => f18 h,fun h => f19 h⟩
     ·intro L x a wR K hL hd hf hx hΦ hK
      obtain ⟨hI,f0,f1,f2,f3,f4,f5,f6,f7,f8,f9,f10,f11,f12,f13,f14,f15,f16,f17,f18,f19⟩:=hΦ
      have g4:=f4 (hd 4 (by kernel_rfl))
      have ge:a.tmps[65]? = some (x 65):=hx 4 _ 65 rfl rfl (hd 4 (by kernel_rfl))
      rw [g4] at ge
      refine ⟨fun h => absurd h (by rw [Go.RE.wanted_of rfl (Go.RE.yielded_of rfl rfl ge)]; decide),fun _ => ?_⟩
      refine hK undef _ ?_
      exact ⟨hI,fun h => f0 h,fun h => f1 h,fun h => f2 h,fun h => f3 h,fun h => f4 h,fun h => f5 h,fun _ => rfl,fun h => f7 h,fun h => f8 h,fun h => f9 h,fun h => f10 h,fun h => f11 h,fun h => f12 h,fun h => f13 h,fun h => f14 h,fun h => f15 h,fun h => f16 h,fun h => f17 h,fun h => f18 h,fun h => f19 h⟩
     ·intro L x a wR K hL hd hf hx hΦ hK
      obtain ⟨hI,f0,f1,f2,f3,f4,f5,f6,f7,f8,f9,f10,f11,f12,f13,f14,f15,f16,f17,f18,f19⟩:=hΦ
      have g4:=f4 (hd 4 (by kernel_rfl))
      have ge:a.tmps[65]? = some (x 65):=hx 4 _ 65 rfl rfl (hd 4 (by kernel_rfl))
      rw [g4] at ge
      refine ⟨fun h => absurd h (by rw [Go.RE.wanted_of rfl (Go.RE.yielded_of rfl rfl ge)]; decide),fun _ => ?_⟩
      refine hK undef _ ?_
      exact ⟨hI,fun h => f0 h,fun h => f1 h,fun h => f2 h,fun h => f3 h,fun h => f4 h,fun h => f5 h,fun h => f6 h,fun _ => rfl,fun h => f8 h,fun h => f9 h,fun h => f10 h,fun h => f11 h,fun h => f12 h,fun h => f13 h,fun h => f14 h,fun h => f15 h,fun h => f16 h,fun h => f17 h,fun h => f18 h,fun h => f19 h⟩
     ·intro L x a wR K hL hd hf hx hΦ hK
      obtain ⟨hI,f0,f1,f2,f3,f4,f5,f6,f7,f8,f9,f10,f11,f12,f13,f14,f15,f16,f17,f18,f19⟩:=hΦ
      have g7:=f7 (hd 7 (by kernel_rfl))
      have ge:a.tmps[68]? = some (x 68):=hx 7 _ 68 rfl rfl (hd 7 (by kernel_rfl))
      rw [g7] at ge
      refine ⟨fun h => absurd h (by rw [Go.RE.wanted_undef rfl rfl rfl ge]; decide),fun _ => ?_⟩
      refine hK undef _ ?_
      exact ⟨hI,fun h => f0 h,fun h => f1 h,fun h => f2 h,fun h => f3 h,fun h => f4 h,fun h => f5 h,fun h => f6 h,fun h => f7 h,fun _ => rfl,fun h => f9 h,fun h => f10 h,fun h => f11 h,fun h => f12 h,fun h => f13 h,fun h => f14 h,fun h => f15 h,fun h => f16 h,fun h => f17 h,fun h => f18 h,fun h => f19 h⟩
     ·intro L x a wR K hL hd hf hx hΦ hK
      obtain ⟨hI,f0,f1,f2,f3,f4,f5,f6,f7,f8,f9,f10,f11,f12,f13,f14,f15,f16,f17,f18,f19⟩:=hΦ
      have g7:=f7 (hd 7 (by kernel_rfl))
      have ge:a.tmps[68]? = some (x 68):=hx 7 _ 68 rfl rfl (hd 7 (by kernel_rfl))
      rw [g7] at ge
      refine ⟨fun h => absurd h (by rw [Go.RE.wanted_undef rfl rfl rfl ge]; decide),fun _ => ?_⟩
      refine hK undef _ ?_
      exact ⟨hI,fun h => f0 h,fun h => f1 h,fun h => f2 h,fun h => f3 h,fun h => f4 h,fun h => f5 h,fun h => f6 h,fun h => f7 h,fun h => f8 h,fun _ => rfl,fun h => f10 h,fun h => f11 h,fun h => f12 h,fun h => f13 h,fun h => f14 h,fun h => f15 h,fun h => f16 h,fun h => f17 h,fun h => f18 h,fun h => f19 h⟩
     ·intro L x a wR K hL hd hf hx hΦ hK
      obtain ⟨hI,f0,f1,f2,f3,f4,f5,f6,f7,f8,f9,f10,f11,f12,f13,f14,f15,f16,f17,f18,f19⟩:=hΦ
      have g7:=f7 (hd 7 (by kernel_rfl))
      have ge:a.tmps[68]? = some (x 68):=hx 7 _ 68 rfl rfl (hd 7 (by kernel_rfl))
      rw [g7] at ge
      refine ⟨fun h => absurd h (by rw [Go.RE.wanted_undef rfl rfl rfl ge]; decide),fun _ => ?_⟩
      refine hK undef _ ?_
      exact ⟨hI,fun h => f0 h,fun h => f1 h,fun h => f2 h,fun h => f3 h,fun h => f4 h,fun h => f5 h,fun h => f6 h,fun h => f7 h,fun h => f8 h,fun h => f9 h,fun _ => rfl,fun h => f11 h,fun h => f12 h,fun h => f13 h,fun h => f14 h,fun h => f15 h,fun h => f16 h,fun h => f17 h,fun h => f18 h,fun h => f19 h⟩
     ·intro L x a wR K hL hd hf hx hΦ hK
      obtain ⟨hI,f0,f1,f2,f3,f4,f5,f6,f7,f8,f9,f10,f11,f12,f13,f14,f15,f16,f17,f18,f19⟩:=hΦ
      have g7:=f7 (hd 7 (by kernel_rfl))
      have ge:a.tmps[68]? = some (x 68):=hx 7 _ 68 rfl rfl (hd 7 (by kernel_rfl))
      rw [g7] at ge
      refine ⟨fun h => absurd h (by rw [Go.RE.wanted_undef rfl rfl rfl ge]; decide),fun _ => ?_⟩
      refine hK undef _ ?_
      exact ⟨hI,fun h => f0 h,fun h => f1 h,fun h => f2 h,fun h => f3 h,fun h => f4 h,fun h => f5 h,fun h => f6 h,fun h => f7 h,fun h => f8 h,fun h => f9 h,fun h => f10 h,fun _ => rfl,fun h => f12 h,fun h => f13 h,fun h => f14 h,fun h => f15 h,fun h => f16 h,fun h => f17 h,fun h => f18 h,fun h => f19 h⟩
     ·intro L x a wR K hL hd hf hx hΦ hK
      obtain ⟨hI,f0,f1,f2,f3,f4,f5,f6,f7,f8,f9,f10,f11,f12,f13,f14,f15,f16,f17,f18,f19⟩:=hΦ
      have g7:=f7 (hd 7 (by kernel_rfl))
      have ge:a.tmps[68]? = some (x 68):=hx 7 _ 68 rfl rfl (hd 7 (by kernel_rfl))
      rw [g7] at ge
      refine ⟨fun h => absurd h (by rw [Go.RE.wanted_undef rfl rfl rfl ge]; decide),fun _ => ?_⟩
      refine hK undef _ ?_
      exact ⟨hI,fun h => f0 h,fun h => f1 h,fun h => f2 h,fun h => f3 h,fun h => f4 h,fun h => f5 h,fun h => f6 h,fun h => f7 h,fun h => f8 h,fun h => f9 h,fun h => f10 h,fun h => f11 h,fun _ => rfl,fun h => f13 h,fun h => f14 h,fun h => f15 h,fun h => f16 h,fun h => f17 h,fun h => f18 h,fun h => f19 h⟩
     ·intro L x a wR K hL hd hf hx hΦ hK
      obtain ⟨hI,f0,f1,f2,f3,f4,f5,f6,f7,f8,f9,f10,f11,f12,f13,f14,f15,f16,f17,f18,f19⟩:=hΦ
      have g7:=f7 (hd 7 (by kernel_rfl))
      have ge:a.tmps[68]? = some (x 68):=hx 7 _ 68 rfl rfl (hd 7 (by kernel_rfl))
      rw [g7] at ge
      refine ⟨fun h => absurd h (by rw [Go.RE.wanted_undef rfl rfl rfl ge]; decide),fun _ => ?_⟩
      refine hK undef _ ?_
      exact ⟨hI,fun h => f0 h,fun h => f1 h,fun h => f2 h,fun h => f3 h,fun h => f4 h,fun h => f5 h,fun h => f6 h,fun h => f7 h,fun h => f8 h,fun h => f9 h,fun h => f10 h,fun h => f11 h,fun h => f12 h,fun _ => rfl,fun h => f14 h,fun h => f15 h,fun h => f16 h,fun h => f17 h,fun h => f18 h,fun h => f19 h⟩
     ·intro L x a wR K hL hd hf hx hΦ hK
      obtain ⟨hI,f0,f1,f2,f3,f4,f5,f6,f7,f8,f9,f10,f11,f12,f13,f14,f15,f16,f17,f18,f19⟩:=hΦ
      have g7:=f7 (hd 7 (by kernel_rfl))
      have ge:a.tmps[68]? = some (x 68):=hx 7 _ 68 rfl rfl (hd 7 (by kernel_rfl))
      rw [g7] at ge
      refine ⟨fun h => absurd h (by rw [Go.RE.wanted_undef rfl rfl rfl ge]; decide),fun _ => ?_⟩
      refine hK undef _ ?_
      exact ⟨hI,fun h => f0 h,fun h => f1 h,fun h => f2 h,fun h => f3 h,fun h => f4 h,fun h => f5 h,fun h => f6 h,fun h => f7 h,fun h => f8 h,fun h => f9 h,fun h => f10 h,fun h => f11 h,fun h => f12 h,fun h => f13 h,fun _ => rfl,fun h => f15 h,fun h => f16 h,fun h => f17 h,fun h => f18 h,fun h => f19 h⟩
     ·intro L x a wR K hL hd hf hx hΦ hK
      obtain ⟨hI,f0,f1,f2,f3,f4,f5,f6,f7,f8,f9,f10,f11,f12,f13,f14,f15,f16,f17,f18,f19⟩:=hΦ
      have g7:=f7 (hd 7 (by kernel_rfl))
      have ge:a.tmps[68]? = some (x 68):=hx 7 _ 68 rfl rfl (hd 7 (by kernel_rfl))
      rw [g7] at ge
      refine ⟨fun h => absurd h (by rw [Go.RE.wanted_undef rfl rfl rfl ge]; decide),fun _ => ?_⟩
      refine hK undef _ ?_
      exact ⟨hI,fun h => f0 h,fun h => f1 h,fun h => f2 h,fun h => f3 h,fun h => f4 h,fun h => f5 h,fun h => f6 h,fun h => f7 h,fun h => f8 h,fun h => f9 h,fun h => f10 h,fun h => f11 h,fun h => f12 h,fun h => f13 h,fun h => f14 h,fun _ => rfl,fun h => f16 h,fun h => f17 h,fun h => f18 h,fun h => f19 h⟩
     ·intro L x a wR K hL hd hf hx hΦ hK
      obtain ⟨hI,f0,f1,f2,f3,f4,f5,f6,f7,f8,f9,f10,f11,f12,f13,f14,f15,f16,f17,f18,f19⟩:=hΦ
      have g7:=f7 (hd 7 (by kernel_rfl))
      have ge:a.tmps[68]? = some (x 68):=hx 7 _ 68 rfl rfl (hd 7 (by kernel_rfl))
      rw [g7] at ge
      refine ⟨fun h => absurd h (by rw [Go.RE.wanted_undef rfl rfl rfl ge]; decide),fun _ => ?_⟩
      refine hK undef _ ?_
      exact ⟨hI,fun h => f0 h,fun h => f1 h,fun h => f2 h,fun h => f3 h,fun h => f4 h,fun h => f5 h,fun h => f6 h,fun h => f7 h,fun h => f8 h,fun h => f9 h,fun h => f10 h,fun h => f11 h,fun h => f12 h,fun h => f13 h,fun h => f14 h,fun h => f15 h,fun _ => rfl,fun h => f17 h,fun h => f18 h,fun h => f19 h⟩
     ·intro L x a wR K hL hd hf hx hΦ hK
      obtain ⟨hI,f0,f1,f2,f3,f4,f5,f6,f7,f8,f9,f10,f11,f12,f13,f14,f15,f16,f17,f18,f19⟩:=hΦ
      have g7:=f7 (hd 7 (by kernel_rfl))
      have ge:a.tmps[68]? = some (x 68):=hx 7 _ 68 rfl rfl (hd 7 (by kernel_rfl))
      rw [g7] at ge
      refine ⟨fun h => absurd h (by rw [Go.RE.wanted_undef rfl rfl rfl ge]; decide),fun _ => ?_⟩
      refine hK undef _ ?_
      exact ⟨hI,fun h => f0 h,fun h => f1 h,fun h => f2 h,fun h => f3 h,fun h => f4 h,fun h => f5 h,fun h => f6 h,fun h => f7 h,fun h => f8 h,fun h => f9 h,fun h => f10 h,fun h => f11 h,fun h => f12 h,fun h => f13 h,fun h => f14 h,fun h => f15 h,fun h => f16 h,fun _ => rfl,fun h => f18 h,fun h => f19 h⟩
     ·intro L x a wR K hL hd hf hx hΦ hK
      obtain ⟨hI,f0,f1,f2,f3,f4,f5,f6,f7,f8,f9,f10,f11,f12,f13,f14,f15,f16,f17,f18,f19⟩:=hΦ
      have g4:=f4 (hd 4 (by kernel_rfl))
      have ge:a.tmps[65]? = some (x 65):=hx 4 _ 65 rfl rfl (hd 4 (by kernel_rfl))
      rw [g4] at ge
      refine ⟨fun h => absurd h (by rw [Go.RE.wanted_of rfl (Go.RE.yielded_of rfl rfl ge)]; decide),fun _ => ?_⟩
      refine hK undef _ ?_
      exact ⟨hI,fun h => f0 h,fun h => f1 h,fun h => f2 h,fun h => f3 h,fun h => f4 h,fun h => f5 h,fun h => f6 h,fun h => f7 h,fun h => f8 h,fun h => f9 h,fun h => f10 h,fun h => f11 h,fun h => f12 h,fun h => f13 h,fun h => f14 h,fun h => f15 h,fun h => f16 h,fun h => f17 h,fun _ => rfl,fun h => f19 h⟩
     ·intro L x a wR K hL hd hf hx hΦ hK
      obtain ⟨hI,f0,f1,f2,f3,f4,f5,f6,f7,f8,f9,f10,f11,f12,f13,f14,f15,f16,f17,f18,f19⟩:=hΦ
      refine ⟨fun _ => ?_,fun h => absurd h (by rw [Go.RE.wanted_none rfl]; decide)⟩
      have d4:=f4 (hd 4 (by kernel_rfl))
      have e65:a.tmps[65]? = some (x 65):=hx 4 _ 65 rfl rfl (hd 4 (by kernel_rfl))
      rw [d4] at e65
      have d18:=f18 (hd 18 (by kernel_rfl))
      have e79:a.tmps[79]? = some (x 79):=hx 18 _ 79 rfl rfl (hd 18 (by kernel_rfl))
      rw [d18] at e79
      clear hf hx hd
      go_simp
      refine hK _ _ ?_
      exact ⟨hI,fun h => f0 h,fun h => f1 h,fun h => f2 h,fun h => f3 h,fun h => f4 h,fun h => f5 h,fun h => f6 h,fun h => f7 h,fun h => f8 h,fun h => f9 h,fun h => f10 h,fun h => f11 h,fun h => f12 h,fun h => f13 h,fun h => f14 h,fun h => f15 h,fun h => f16 h,fun h => f17 h,fun h => f18 h,fun _ => rfl⟩
     ·rintro x W ⟨hI,f0,f1,f2,f3,f4,f5,f6,f7,f8,f9,f10,f11,f12,f13,f14,f15,f16,f17,f18,f19⟩
      simp only [Exit.then]
      go_step
      go_meet
      exact ⟨true,f19 rfl,by rw [<- HPB.out]; rfl,hI⟩
    case true =>
     by_cases h0:k = 0
     ·have bk:decide ((0:Int) < (k:Int)) = false:=decide_eq_false (by omega)
      have bk2:decide (0 < k) = false:=decide_eq_false (by omega)
      have H0:=hid h0
      clear h0
      refine Go.RE.wp_region_eachg [61,62,63,64,65,66,67,68,69,70,71,72,73,74,75,76,77,78,79,80] (fun L x W => (Below (wr.alloc fb).heap.size (wr.alloc fb) W) /\ (L 0 = true -> x 61 = .pointer (some ⟨wr.heap.size,0,none⟩)) /\ (L 1 = true -> x 62 = .string s) /\ (L 2 = true -> x 63 = .bool true) /\ (L 3 = true -> x 64 = .bool false) /\ (L 4 = true -> x 65 = .bool false) /\ (L 5 = true -> x 66 = .int .i64 (k:Int)) /\ (L 6 = true -> x 67 = .bool false) /\ (L 7 = true -> x 68 = .bool false) /\ (L 8 = true -> x 69 = undef) /\ (L 9 = true -> x 70 = undef) /\ (L 10 = true -> x 71 = undef) /\ (L 11 = true -> x 72 = undef) /\ (L 12 = true -> x 73 = undef) /\ (L 13 = true -> x 74 = undef) /\ (L 14 = true -> x 75 = undef) /\ (L 15 = true -> x 76 = undef) /\ (L 16 = true -> x 77 = undef) /\ (L 17 = true -> x 78 = undef) /\ (L 18 = true -> x 79 = .bool false) /\ (L 19 = true -> x 80 = .bool false)) (by kernel_rfl) (by kernel_rfl) (by kernel_rfl) ?_ ((Go.RE.Each.cons ?_ (Go.RE.Each.cons ?_ (Go.RE.Each.cons ?_ (Go.RE.Each.cons ?_ (Go.RE.Each.cons ?_ (Go.RE.Each.cons ?_ (Go.RE.Each.cons ?_ (Go.RE.Each.cons ?_ (Go.RE.Each.cons ?_ (Go.RE.Each.cons ?_ (Go.RE.Each.cons ?_ (Go.RE.Each.cons ?_ (Go.RE.Each.cons ?_ (Go.RE.Each.cons ?_ (Go.RE.Each.cons ?_ (Go.RE.Each.cons ?_ (Go.RE.Each.cons ?_ (Go.RE.Each.cons ?_ (Go.RE.Each.cons ?_ (Go.RE.Each.cons ?_ Go.RE.Each.nil))))))))))))))))))))) ?_
      ·exact fun x => ⟨bl_dr (Below.refl _ _),fun h => (by cases h),fun h => (by cases h),fun h => (by cases h),fun h => (by cases h),fun h => (by cases h),fun h => (by cases h),fun h => (by cases h),fun h => (by cases h),fun h => (by cases h),fun h => (by cases h),fun h => (by cases h),fun h => (by cases h),fun h => (by cases h),fun h => (by cases h),fun h => (by cases h),fun h => (by cases h),fun h => (by cases h),fun h => (by cases h),fun h => (by cases h),fun h => (by cases h)⟩
      ·intro L x a wR K hL hd hf hx hΦ hK
       obtain ⟨hI,f0,f1,f2,f3,f4,f5,f6,f7,f8,f9,f10,f11,f12,f13,f14,f15,f16,f17,f18,f19⟩:=hΦ
       refine ⟨fun _ => ?_,fun h => absurd h (by rw [Go.RE.wanted_none rfl]; decide)⟩
       have e4:a.tmps[4]? = some (.pointer (some ⟨wr.heap.size,0,none⟩)):=hf 4 (of_decide_eq_true (by kernel_rfl))
       clear hf hx hd
       go_simp
       refine hK _ _ ?_
       exact ⟨hI,fun _ => rfl,fun h => f1 h,fun h => f2 h,fun h => f3 h,fun h => f4 h,fun h => f5 h,fun h => f6 h,fun h => f7 h,fun h => f8 h,fun h => f9 h,fun h => f10 h,fun h => f11 h,fun h => f12 h,fun h => f13 h,fun h => f14 h,fun h => f15 h,fun h => f16 h,fun h => f17 h,fun h => f18 h,fun h => f19 h⟩
      ·intro L x a wR K hL hd hf hx hΦ hK
       obtain ⟨hI,f0,f1,f2,f3,f4,f5,f6,f7,f8,f9,f10,f11,f12,f13,f14,f15,f16,f17,f18,f19⟩:=hΦ
       refine ⟨fun _ => ?_,fun h => absurd h (by rw [Go.RE.wanted_none rfl]; decide)⟩
       have d0:=f0 (hd 0 (by kernel_rfl))
       have e61:a.tmps[61]? = some (x 61):=hx 0 _ 61 rfl rfl (hd 0 (by kernel_rfl))
       rw [d0] at e61
       have c:=HK.blk_cell (HBO2.out _ hI) 0
       clear hf hx hd
       go_simp
       refine hK _ _ ?_
       exact ⟨hI,fun h => f0 h,fun _ => rfl,fun h => f2 h,fun h => f3 h,fun h => f4 h,fun h => f5 h,fun h => f6 h,fun h => f7 h,fun h => f8 h,fun h => f9 h,fun h => f10 h,fun h => f11 h,fun h => f12 h,fun h => f13 h,fun h => f14 h,fun h => f15 h,fun h => f16 h,fun h => f17 h,fun h => f18 h,fun h => f19 h⟩
      ·intro L x a wR K hL hd hf hx hΦ hK
       obtain ⟨hI,f0,f1,f2,f3,f4,f5,f6,f7,f8,f9,f10,f11,f12,f13,f14,f15,f16,f17,f18,f19⟩:=hΦ
       refine ⟨fun _ => ?_,fun h => absurd h (by rw [Go.RE.wanted_none rfl]; decide)⟩
       have d1:=f1 (hd 1 (by kernel_rfl))
       have e62:a.tmps[62]? = some (x 62):=hx 1 _ 62 rfl rfl (hd 1 (by kernel_rfl))
       rw [d1] at e62
       clear hf hx hd
       go_simp
       go_at_call 43
       with_reducible refine (HPR.out _).mono ?_
       rintro e w' ⟨rfl,hB8⟩
       simp only
       refine hK _ _ ?_
       exact ⟨hI.trans (hB8.mono hI.size),fun h => f0 h,fun h => f1 h,fun _ => rfl,fun h => f3 h,fun h => f4 h,fun h => f5 h,fun h => f6 h,fun h => f7 h,fun h => f8 h,fun h => f9 h,fun h => f10 h,fun h => f11 h,fun h => f12 h,fun h => f13 h,fun h => f14 h,fun h => f15 h,fun h => f16 h,fun h => f17 h,fun h => f18 h,fun h => f19 h⟩
      ·intro L x a wR K hL hd hf hx hΦ hK
       obtain ⟨hI,f0,f1,f2,f3,f4,f5,f6,f7,f8,f9,f10,f11,f12,f13,f14,f15,f16,f17,f18,f19⟩:=hΦ
       refine ⟨fun _ => ?_,fun h => absurd h (by rw [Go.RE.wanted_none rfl]; decide)⟩
       have d2:=f2 (hd 2 (by kernel_rfl))
       have e63:a.tmps[63]? = some (x 63):=hx 2 _ 63 rfl rfl (hd 2 (by kernel_rfl))
       rw [d2] at e63
       clear hf hx hd
       go_simp
       refine hK _ _ ?_
       exact ⟨hI,fun h => f0 h,fun h => f1 h,fun h => f2 h,fun _ => rfl,fun h => f4 h,fun h => f5 h,fun h => f6 h,fun h => f7 h,fun h => f8 h,fun h => f9 h,fun h => f10 h,fun h => f11 h,fun h => f12 h,fun h => f13 h,fun h => f14 h,fun h => f15 h,fun h => f16 h,fun h => f17 h,fun h => f18 h,fun h => f19 h⟩
      ·intro L x a wR K hL hd hf hx hΦ hK
       obtain ⟨hI,f0,f1,f2,f3,f4,f5,f6,f7,f8,f9,f10,f11,f12,f13,f14,f15,f16,f17,f18,f19⟩:=hΦ
       refine ⟨fun _ => ?_,fun h => absurd h (by rw [Go.RE.wanted_none rfl]; decide)⟩
       have d3:=f3 (hd 3 (by kernel_rfl))
       have e64:a.tmps[64]? = some (x 64):=hx 3 _ 64 rfl rfl (hd 3 (by kernel_rfl))
       rw [d3] at e64
       clear hf hx hd
       go_simp
       refine hK _ _ ?_
       exact ⟨hI,fun h => f0 h,fun h => f1 h,fun h => f2 h,fun h => f3 h,fun _ => rfl,fun h => f5 h,fun h => f6 h,fun h => f7 h,fun h => f8 h,fun h => f9 h,fun h => f10 h,fun h => f11 h,fun h => f12 h,fun h => f13 h,fun h => f14 h,fun h => f15 h,fun h => f16 h,fun h => f17 h,fun h => f18 h,fun h => f19 h⟩
      ·intro L x a wR K hL hd hf hx hΦ hK
       obtain ⟨hI,f0,f1,f2,f3,f4,f5,f6,f7,f8,f9,f10,f11,f12,f13,f14,f15,f16,f17,f18,f19⟩:=hΦ
       have g4:=f4 (hd 4 (by kernel_rfl))
       have ge:a.tmps[65]? = some (x 65):=hx 4 _ 65 rfl rfl (hd 4 (by kernel_rfl))
       rw [g4] at ge
       refine ⟨fun _ => ?_,fun h => absurd h (by rw [Go.RE.wanted_of rfl (Go.RE.yielded_of rfl rfl ge)]; decide)⟩
       have e3:a.tmps[3]? = some (.int .i64 (k:Int)):=hf 3 (of_decide_eq_true (by kernel_rfl))
       clear hf hx hd
       go_simp
       refine hK _ _ ?_
       exact ⟨hI,fun h => f0 h,fun h => f1 h,fun h => f2 h,fun h => f3 h,fun h => f4 h,fun _ => rfl,fun h => f6 h,fun h => f7 h,fun h => f8 h,fun h => f9 h,fun h => f10 h,fun h => f11 h,fun h => f12 h,fun h => f13 h,fun h => f14 h,fun h => f15 h,fun h => f16 h,fun h => f17 h,fun h => f18 h,fun h => f19 h⟩
      ·intro L x a wR K hL hd hf hx hΦ hK
       obtain ⟨hI,f0,f1,f2,f3,f4,f5,f6,f7,f8,f9,f10,f11,f12,f13,f14,f15,f16,f17,f18,f19⟩:=hΦ
       have g4:=f4 (hd 4 (by kernel_rfl))
       have ge:a.tmps[65]? = some (x 65):=hx 4 _ 65 rfl rfl (hd 4 (by kernel_rfl))
       rw [g4] at ge
       refine ⟨fun _ => ?_,fun h => absurd h (by rw [Go.RE.wanted_of rfl (Go.RE.yielded_of rfl rfl ge)]; decide)⟩
       have d5:=f5 (hd 5 (by kernel_rfl))
       have e66:a.tmps[66]? = some (x 66):=hx 5 _ 66 rfl rfl (hd 5 (by kernel_rfl))
       rw [d5] at e66
       clear hf hx hd
       go_simp
       refine hK _ _ ?_
       exact ⟨hI,fun h => f0 h,fun h => f1 h,fun h => f2 h,fun h => f3 h,fun h => f4 h,fun h => f5 h,fun _ => rfl,fun h => f7 h,fun h => f8 h,fun h => f9 h,fun h => f10 h,fun h => f11 h,fun h => f12 h,fun h => f13 h,fun h => f14 h,fun h => f15 h,fun h => f16 h,fun h => f17 h,fun h => f18 h,fun h => f19 h⟩
      ·intro L x a wR K hL hd hf hx hΦ hK
       obtain ⟨hI,f0,f1,f2,f3,f4,f5,f6,f7,f8,f9,f10,f11,f12,f13,f14,f15,f16,f17,f18,f19⟩:=hΦ
       have g4:=f4 (hd 4 (by kernel_rfl))
       have ge:a.tmps[65]? = some (x 65):=hx 4 _ 65 rfl rfl (hd 4 (by kernel_rfl))
       rw [g4] at ge
       refine ⟨fun _ => ?_,fun h => absurd h (by rw [Go.RE.wanted_of rfl (Go.RE.yielded_of rfl rfl ge)]; decide)⟩
       have d6:=f6 (hd 6 (by kernel_rfl))
       have e67:a.tmps[67]? = some (x 67):=hx 6 _ 67 rfl rfl (hd 6 (by kernel_rfl))
       rw [d6] at e67
       clear hf hx hd
       go_simp
       refine hK _ _ ?_
       exact ⟨hI,fun h => f0 h,fun h => f1 h,fun h => f2 h,fun h => f3 h,fun h => f4 h,fun h => f5 h,fun h => f6 h,fun _ => rfl,fun h => f8 h,fun h => f9 h,fun h => f10 h,fun h => f11 h,fun h => f12 h,fun h => f13 h,fun h => f14 h,fun h => f15 h,fun h => f16 h,fun h => f17 h,fun h => f18 h,fun h => f19 h⟩
      ·intro L x a wR K hL hd hf hx hΦ hK
       obtain ⟨hI,f0,f1,f2,f3,f4,f5,f6,f7,f8,f9,f10,f11,f12,f13,f14,f15,f16,f17,f18,f19⟩:=hΦ
       have g7:=f7 (hd 7 (by kernel_rfl))
       have ge:a.tmps[68]? = some (x 68):=hx 7 _ 68 rfl rfl (hd 7 (by kernel_rfl))
       rw [g7] at ge
       refine ⟨fun h => absurd h (by rw [Go.RE.wanted_of rfl (Go.RE.yielded_of rfl rfl ge)]; decide),fun _ => ?_⟩
       refine hK undef _ ?_
       exact ⟨hI,fun h => f0 h,fun h => f1 h,fun h => f2 h,fun h => f3 h,fun h => f4 h,fun h => f5 h,fun h => f6 h,fun h => f7 h,fun _ => rfl,fun h => f9 h,fun h => f10 h,fun h => f11 h,fun h => f12 h,fun h => f13 h,fun h => f14 h,fun h => f15 h,fun h => f16 h,fun h => f17 h,fun h => f18 h,fun h => f19 h⟩
      ·intro L x a wR K hL hd hf hx hΦ hK
       obtain ⟨hI,f0,f1,f2,f3,f4,f5,f6,f7,f8,f9,f10,f11,f12,f13,f14,f15,f16,f17,f18,f19⟩:=hΦ
       have g7:=f7 (hd 7 (by kernel_rfl))
       have ge:a.tmps[68]? = some (x 68):=hx 7 _ 68 rfl rfl (hd 7 (by kernel_rfl))
       rw [g7] at ge
       refine ⟨fun h => absurd h (by rw [Go.RE.wanted_of rfl (Go.RE.yielded_of rfl rfl ge)]; decide),fun _ => ?_⟩
       refine hK undef _ ?_
       exact ⟨hI,fun h => f0 h,fun h => f1 h,fun h => f2 h,fun h => f3 h,fun h => f4 h,fun h => f5 h,fun h => f6 h,fun h => f7 h,fun h => f8 h,fun _ => rfl,fun h => f10 h,fun h => f11 h,fun h => f12 h,fun h => f13 h,fun h => f14 h,fun h => f15 h,fun h => f16 h,fun h => f17 h,fun h => f18 h,fun h => f19 h⟩
      ·intro L x a wR K hL hd hf hx hΦ hK
       obtain ⟨hI,f0,f1,f2,f3,f4,f5,f6,f7,f8,f9,f10,f11,f12,f13,f14,f15,f16,f17,f18,f19⟩:=hΦ
       have g7:=f7 (hd 7 (by kernel_rfl))
       have ge:a.tmps[68]? = some (x 68):=hx 7 _ 68 rfl rfl (hd 7 (by kernel_rfl))
       rw [g7] at ge
       refine ⟨fun h => absurd h (by rw [Go.RE.wanted_of rfl (Go.RE.yielded_of rfl rfl ge)]; decide),fun _ => ?_⟩
       refine hK undef _ ?_
       exact ⟨hI,fun h => f0 h,fun h => f1 h,fun h => f2 h,fun h => f3 h,fun h => f4 h,fun h => f5 h,fun h => f6 h,fun h => f7 h,fun h => f8 h,fun h => f9 h,fun _ => rfl,fun h => f11 h,fun h => f12 h,fun h => f13 h,fun h => f14 h,fun h => f15 h,fun h => f16 h,fun h => f17 h,fun h => f18 h,fun h => f19 h⟩
      ·intro L x a wR K hL hd hf hx hΦ hK
       obtain ⟨hI,f0,f1,f2,f3,f4,f5,f6,f7,f8,f9,f10,f11,f12,f13,f14,f15,f16,f17,f18,f19⟩:=hΦ
       have g7:=f7 (hd 7 (by kernel_rfl))
       have ge:a.tmps[68]? = some (x 68):=hx 7 _ 68 rfl rfl (hd 7 (by kernel_rfl))
       rw [g7] at ge
       refine ⟨fun h => absurd h (by rw [Go.RE.wanted_of rfl (Go.RE.yielded_of rfl rfl ge)]; decide),fun _ => ?_⟩
       refine hK undef _ ?_
       exact ⟨hI,fun h => f0 h,fun h => f1 h,fun h => f2 h,fun h => f3 h,fun h => f4 h,fun h => f5 h,fun h => f6 h,fun h => f7 h,fun h => f8 h,fun h => f9 h,fun h => f10 h,fun _ => rfl,fun h => f12 h,fun h => f13 h,fun h => f14 h,fun h => f15 h,fun h => f16 h,fun h => f17 h,fun h => f18 h,fun h => f19 h⟩
      ·intro L x a wR K hL hd hf hx hΦ hK
       obtain ⟨hI,f0,f1,f2,f3,f4,f5,f6,f7,f8,f9,f10,f11,f12,f13,f14,f15,f16,f17,f18,f19⟩:=hΦ
       have g7:=f7 (hd 7 (by kernel_rfl))
       have ge:a.tmps[68]? = some (x 68):=hx 7 _ 68 rfl rfl (hd 7 (by kernel_rfl))
       rw [g7] at ge
       refine ⟨fun h => absurd h (by rw [Go.RE.wanted_of rfl (Go.RE.yielded_of rfl rfl ge)]; decide),fun _ => ?_⟩
       refine hK undef _ ?_
       exact ⟨hI,fun h => f0 h,fun h => f1 h,fun h => f2 h,fun h => f3 h,fun h => f4 h,fun h => f5 h,fun h => f6 h,fun h => f7 h,fun h => f8 h,fun h => f9 h,fun h => f10 h,fun h => f11 h,fun _ => rfl,fun h => f13 h,fun h => f14 h,fun h => f15 h,fun h => f16 h,fun h => f17 h,fun h => f18 h,fun h => f19 h⟩
      ·intro L x a wR K hL hd hf hx hΦ hK
       obtain ⟨hI,f0,f1,f2,f3,f4,f5,f6,f7,f8,f9,f10,f11,f12,f13,f14,f15,f16,f17,f18,f19⟩:=hΦ
       have g7:=f7 (hd 7 (by kernel_rfl))
       have ge:a.tmps[68]? = some (x 68):=hx 7 _ 68 rfl rfl (hd 7 (by kernel_rfl))
       rw [g7] at ge
       refine ⟨fun h => absurd h (by rw [Go.RE.wanted_of rfl (Go.RE.yielded_of rfl rfl ge)]; decide),fun _ => ?_⟩
       refine hK undef _ ?_
       exact ⟨hI,fun h => f0 h,fun h => f1 h,fun h => f2 h,fun h => f3 h,fun h => f4 h,fun h => f5 h,fun h => f6 h,fun h => f7 h,fun h => f8 h,fun h => f9 h,fun h => f10 h,fun h => f11 h,fun h => f12 h,fun _ => rfl,fun h => f14 h,fun h => f15 h,fun h => f16 h,fun h => f17 h,fun h => f18 h,fun h => f19 h⟩
      ·intro L x a wR K hL hd hf hx hΦ hK
       obtain ⟨hI,f0,f1,f2,f3,f4,f5,f6,f7,f8,f9,f10,f11,f12,f13,f14,f15,f16,f17,f18,f19⟩:=hΦ
       have g7:=f7 (hd 7 (by kernel_rfl))
       have ge:a.tmps[68]? = some (x 68):=hx 7 _ 68 rfl rfl (hd 7 (by kernel_rfl))
       rw [g7] at ge
       refine ⟨fun h => absurd h (by rw [Go.RE.wanted_of rfl (Go.RE.yielded_of rfl rfl ge)]; decide),fun _ => ?_⟩
       refine hK undef _ ?_
       exact ⟨hI,fun h => f0 h,fun h => f1 h,fun h => f2 h,fun h => f3 h,fun h => f4 h,fun h => f5 h,fun h => f6 h,fun h => f7 h,fun h => f8 h,fun h => f9 h,fun h => f10 h,fun h => f11 h,fun h => f12 h,fun h => f13 h,fun _ => rfl,fun h => f15 h,fun h => f16 h,fun h => f17 h,fun h => f18 h,fun h => f19 h⟩
      ·intro L x a wR K hL hd hf hx hΦ hK
       obtain ⟨hI,f0,f1,f2,f3,f4,f5,f6,f7,f8,f9,f10,f11,f12,f13,f14,f15,f16,f17,f18,f19⟩:=hΦ
       have g7:=f7 (hd 7 (by kernel_rfl))
       have ge:a.tmps[68]? = some (x 68):=hx 7 _ 68 rfl rfl (hd 7 (by kernel_rfl))
       rw [g7] at ge
       refine ⟨fun h => absurd h (by rw [Go.RE.wanted_of rfl (Go.RE.yielded_of rfl rfl ge)]; decide),fun _ => ?_⟩
       refine hK undef _ ?_
       exact ⟨hI,fun h => f0 h,fun h => f1 h,fun h => f2 h,fun h => f3 h,fun h => f4 h,fun h => f5 h,fun h => f6 h,fun h => f7 h,fun h => f8 h,fun h => f9 h,fun h => f10 h,fun h => f11 h,fun h => f12 h,fun h => f13 h,fun h => f14 h,fun _ => rfl,fun h => f16 h,fun h => f17 h,fun h => f18 h,fun h => f19 h⟩
      ·intro L x a wR K hL hd hf hx hΦ hK
       obtain ⟨hI,f0,f1,f2,f3,f4,f5,f6,f7,f8,f9,f10,f11,f12,f13,f14,f15,f16,f17,f18,f19⟩:=hΦ
       have g7:=f7 (hd 7 (by kernel_rfl))
       have ge:a.tmps[68]? = some (x 68):=hx 7 _ 68 rfl rfl (hd 7 (by kernel_rfl))
       rw [g7] at ge
       refine ⟨fun h => absurd h (by rw [Go.RE.wanted_of rfl (Go.RE.yielded_of rfl rfl ge)]; decide),fun _ => ?_⟩
       refine hK undef _ ?_
       exact ⟨hI,fun h => f0 h,fun h => f1 h,fun h => f2 h,fun h => f3 h,fun h => f4 h,fun h => f5 h,fun h => f6 h,fun h => f7 h,fun h => f8 h,fun h => f9 h,fun h => f10 h,fun h => f11 h,fun h => f12 h,fun h => f13 h,fun h => f14 h,fun h => f15 h,fun _ => rfl,fun h => f17 h,fun h => f18 h,fun h => f19 h⟩
      ·intro L x a wR K hL hd hf hx hΦ hK
       obtain ⟨hI,f0,f1,f2,f3,f4,f5,f6,f7,f8,f9,f10,f11,f12,f13,f14,f15,f16,f17,f18,f19⟩:=hΦ
       have g7:=f7 (hd 7 (by kernel_rfl))
       have ge:a.tmps[68]? = some (x 68):=hx 7 _ 68 rfl rfl (hd 7 (by kernel_rfl))
       rw [g7] at ge
       refine ⟨fun h => absurd h (by rw [Go.RE.wanted_of rfl (Go.RE.yielded_of rfl rfl ge)]; decide),fun _ => ?_⟩
       refine hK undef _ ?_
       exact ⟨hI,fun h => f0 h,fun h => f1 h,fun h => f2 h,fun h => f3 h,fun h => f4 h,fun h => f5 h,fun h => f6 h,fun h => f7 h,fun h => f8 h,fun h => f9 h,fun h => f10 h,fun h => f11 h,fun h => f12 h,fun h => f13 h,fun h => f14 h,fun h => f15 h,fun h => f16 h,fun _ => rfl,fun h => f18 h,fun h => f19 h⟩
      ·intro L x a wR K hL hd hf hx hΦ hK
       obtain ⟨hI,f0,f1,f2,f3,f4,f5,f6,f7,f8,f9,f10,f11,f12,f13,f14,f15,f16,f17,f18,f19⟩:=hΦ
       have g4:=f4 (hd 4 (by kernel_rfl))
       have ge:a.tmps[65]? = some (x 65):=hx 4 _ 65 rfl rfl (hd 4 (by kernel_rfl))
       rw [g4] at ge
       refine ⟨fun _ => ?_,fun h => absurd h (by rw [Go.RE.wanted_of rfl (Go.RE.yielded_of rfl rfl ge)]; decide)⟩
       have d7:=f7 (hd 7 (by kernel_rfl))
       have e68:a.tmps[68]? = some (x 68):=hx 7 _ 68 rfl rfl (hd 7 (by kernel_rfl))
       rw [d7] at e68
       have d17:=f17 (hd 17 (by kernel_rfl))
       have e78:a.tmps[78]? = some (x 78):=hx 17 _ 78 rfl rfl (hd 17 (by kernel_rfl))
       rw [d17] at e78
       clear hf hx hd
       go_simp
       refine hK _ _ ?_
       exact ⟨hI,fun h => f0 h,fun h => f1 h,fun h => f2 h,fun h => f3 h,fun h => f4 h,fun h => f5 h,fun h => f6 h,fun h => f7 h,fun h => f8 h,fun h => f9 h,fun h => f10 h,fun h => f11 h,fun h => f12 h,fun h => f13 h,fun h => f14 h,fun h => f15 h,fun h => f16 h,fun h => f17 h,fun _ => rfl,fun h => f19 h⟩
      ·intro L x a wR K hL hd hf hx hΦ hK
       obtain ⟨hI,f0,f1,f2,f3,f4,f5,f6,f7,f8,f9,f10,f11,f12,f13,f14,f15,f16,f17,f18,f19⟩:=hΦ
       refine ⟨fun _ => ?_,fun h => absurd h (by rw [Go.RE.wanted_none rfl]; decide)⟩
       have d4:=f4 (hd 4 (by kernel_rfl))
       have e65:a.tmps[65]? = some (x 65):=hx 4 _ 65 rfl rfl (hd 4 (by kernel_rfl))
       rw [d4] at e65
       have d18:=f18 (hd 18 (by kernel_rfl))
       have e79:a.tmps[79]? = some (x 79):=hx 18 _ 79 rfl rfl (hd 18 (by kernel_rfl))
       rw [d18] at e79
       clear hf hx hd
       go_simp
       refine hK _ _ ?_
       exact ⟨hI,fun h => f0 h,fun h => f1 h,fun h => f2 h,fun h => f3 h,fun h => f4 h,fun h => f5 h,fun h => f6 h,fun h => f7 h,fun h => f8 h,fun h => f9 h,fun h => f10 h,fun h => f11 h,fun h => f12 h,fun h => f13 h,fun h => f14 h,fun h => f15 h,fun h => f16 h,fun h => f17 h,fun h => f18 h,fun _ => rfl⟩
      ·rintro x W ⟨hI,f0,f1,f2,f3,f4,f5,f6,f7,f8,f9,f10,f11,f12,f13,f14,f15,f16,f17,f18,f19⟩
       simp only [Exit.then]
       go_step
       go_meet
       exact ⟨false,f19 rfl,by rw [<- HPB.out,decide_eq_true H0.out]; rfl,hI⟩
     ·obtain ⟨j,hj⟩:∃ j,j = k - 1:=⟨_,rfl⟩
      obtain ⟨⟨t,ta,tt⟩,ht⟩:∃ f,facts[j]? = some f:=⟨_,List.getElem?_eq_getElem (by rw [HFN.out]; omega)⟩
      have hgt:facts.getD j (⟨#[]⟩,0,0) = (t,ta,tt):=by rw [List.getD_eq_getElem?_getD,ht]; rfl
      obtain ⟨lb,hlb⟩:∃ lb,lb = Op.bytesLess t.toList s.toList:=⟨_,rfl⟩
      have HNS:Hid (ltS (nmK facts (k - 1)) s = lb):=hid (by unfold nmK ltS; rw [<- hj,hgt,hlb])
      have bk:decide ((0:Int) < (k:Int)) = true:=decide_eq_true (by omega)
      have bk2:decide (0 < k) = true:=decide_eq_true (by omega)
      have HJ1:Hid ((0:Int) <= (j:Int) /\ (j:Int) < (fn:Int)):=hid (by omega)
      have HAD:Hid (IntKind.i64.wrap ((k:Int) - 1) = (j:Int)):=hid (by rw [IntWalk.i64_in _ (by omega)]; omega)
      have HAD2:Hid (wrap64 ((k:Int) - 1) = (j:Int)):=hid ((IntWalk.i64_left _).symm.trans HAD.out)
      have HLB:=hid hlb.symm
      have HHJ:=hid ht
      have H0:=hid h0
      clear h0 hj hgt hlb ht
      refine Go.RE.wp_region_eachg [61,62,63,64,65,66,67,68,69,70,71,72,73,74,75,76,77,78,79,80] (fun L x W => (Below (wr.alloc fb).heap.size (wr.alloc fb) W) /\ (L 0 = true -> x 61 = .pointer (some ⟨wr.heap.size,0,none⟩)) /\ (L 1 = true -> x 62 = .string s) /\ (L 2 = true -> x 63 = .bool true) /\ (L 3 = true -> x 64 = .bool false) /\ (L 4 = true -> x 65 = .bool false) /\ (L 5 = true -> x 66 = .int .i64 (k:Int)) /\ (L 6 = true -> x 67 = .bool true) /\ (L 7 = true -> x 68 = .bool true) /\ (L 8 = true -> x 69 = .pointer (some ⟨w.heap.size,4,none⟩)) /\ (L 9 = true -> x 70 = .slice (some ⟨fg,fo,none⟩) fn fc) /\ (L 10 = true -> x 71 = .int .i64 (k:Int)) /\ (L 11 = true -> x 72 = .int .i64 (j:Int)) /\ (L 12 = true -> x 73 = .pointer (some ⟨fg,fo + j * 3,none⟩)) /\ (L 13 = true -> x 74 = .pointer (some ⟨fg,fo + j * 3,none⟩)) /\ (L 14 = true -> x 75 = .string t) /\ (L 15 = true -> x 76 = .pointer (some ⟨wr.heap.size,0,none⟩)) /\ (L 16 = true -> x 77 = .string s) /\ (L 17 = true -> x 78 = .bool (!lb)) /\ (L 18 = true -> x 79 = .bool (!lb)) /\ (L 19 = true -> x 80 = .bool (!lb))) (by kernel_rfl) (by kernel_rfl) (by kernel_rfl) ?_ ((Go.RE.Each.cons ?_ (Go.RE.Each.cons ?_ (Go.RE.Each.cons ?_ (Go.RE.Each.cons ?_ (Go.RE.Each.cons ?_ (Go.RE.Each.cons ?_ (Go.RE.Each.cons ?_ (Go.RE.Each.cons ?_ (Go.RE.Each.cons ?_ (Go.RE.Each.cons ?_ (Go.RE.Each.cons ?_ (Go.RE.Each.cons ?_ (Go.RE.Each.cons ?_ (Go.RE.Each.cons ?_ (Go.RE.Each.cons ?_ (Go.RE.Each.cons ?_ (Go.RE.Each.cons ?_ (Go.RE.Each.cons ?_ (Go.RE.Each.cons ?_ (Go.RE.Each.cons ?_ Go.RE.Each.nil))))))))))))))))))))) ?_
      ·exact fun x => ⟨bl_dr (Below.refl _ _),fun h => (by cases h),fun h => (by cases h),fun h => (by cases h),fun h => (by cases h),fun h => (by cases h),fun h => (by cases h),fun h => (by cases h),fun h => (by cases h),fun h => (by cases h),fun h => (by cases h),fun h => (by cases h),fun h => (by cases h),fun h => (by cases h),fun h => (by cases h),fun h => (by cases h),fun h => (by cases h),fun h => (by cases h),fun h => (by cases h),fun h => (by cases h),fun h => (by cases h)⟩
      ·intro L x a wR K hL hd hf hx hΦ hK
       obtain ⟨hI,f0,f1,f2,f3,f4,f5,f6,f7,f8,f9,f10,f11,f12,f13,f14,f15,f16,f17,f18,f19⟩:=hΦ
       refine ⟨fun _ => ?_,fun h => absurd h (by rw [Go.RE.wanted_none rfl]; decide)⟩
       have e4:a.tmps[4]? = some (.pointer (some ⟨wr.heap.size,0,none⟩)):=hf 4 (of_decide_eq_true (by kernel_rfl))
       clear hf hx hd
       go_simp
       refine hK _ _ ?_
       exact ⟨hI,fun _ => rfl,fun h => f1 h,fun h => f2 h,fun h => f3 h,fun h => f4 h,fun h => f5 h,fun h => f6 h,fun h => f7 h,fun h => f8 h,fun h => f9 h,fun h => f10 h,fun h => f11 h,fun h => f12 h,fun h => f13 h,fun h => f14 h,fun h => f15 h,fun h => f16 h,fun h => f17 h,fun h => f18 h,fun h => f19 h⟩
      ·intro L x a wR K hL hd hf hx hΦ hK
       obtain ⟨hI,f0,f1,f2,f3,f4,f5,f6,f7,f8,f9,f10,f11,f12,f13,f14,f15,f16,f17,f18,f19⟩:=hΦ
       refine ⟨fun _ => ?_,fun h => absurd h (by rw [Go.RE.wanted_none rfl]; decide)⟩
       have d0:=f0 (hd 0 (by kernel_rfl))
       have e61:a.tmps[61]? = some (x 61):=hx 0 _ 61 rfl rfl (hd 0 (by kernel_rfl))
       rw [d0] at e61
       have c:=HK.blk_cell (HBO2.out _ hI) 0
       clear hf hx hd
       go_simp
       refine hK _ _ ?_
       exact ⟨hI,fun h => f0 h,fun _ => rfl,fun h => f2 h,fun h => f3 h,fun h => f4 h,fun h => f5 h,fun h => f6 h,fun h => f7 h,fun h => f8 h,fun h => f9 h,fun h => f10 h,fun h => f11 h,fun h => f12 h,fun h => f13 h,fun h => f14 h,fun h => f15 h,fun h => f16 h,fun h => f17 h,fun h => f18 h,fun h => f19 h⟩
      ·intro L x a wR K hL hd hf hx hΦ hK
       obtain ⟨hI,f0,f1,f2,f3,f4,f5,f6,f7,f8,f9,f10,f11,f12,f13,f14,f15,f16,f17,f18,f19⟩:=hΦ
       refine ⟨fun _ => ?_,fun h => absurd h (by rw [Go.RE.wanted_none rfl]; decide)⟩
       have d1:=f1 (hd 1 (by kernel_rfl))
       have e62:a.tmps[62]? = some (x 62):=hx 1 _ 62 rfl rfl (hd 1 (by kernel_rfl))
       rw [d1] at e62
       clear hf hx hd
       go_simp
       go_at_call 43
       with_reducible refine (HPR.out _).mono ?_
       rintro e w' ⟨rfl,hB8⟩
       simp only
       refine hK _ _ ?_
       exact ⟨hI.trans (hB8.mono hI.size),fun h => f0 h,fun h => f1 h,fun _ => rfl,fun h => f3 h,fun h => f4 h,fun h => f5 h,fun h => f6 h,fun h => f7 h,fun h => f8 h,fun h => f9 h,fun h => f10 h,fun h => f11 h,fun h => f12 h,fun h => f13 h,fun h => f14 h,fun h => f15 h,fun h => f16 h,fun h => f17 h,fun h => f18 h,fun h => f19 h⟩
      ·intro L x a wR K hL hd hf hx hΦ hK
       obtain ⟨hI,f0,f1,f2,f3,f4,f5,f6,f7,f8,f9,f10,f11,f12,f13,f14,f15,f16,f17,f18,f19⟩:=hΦ
       refine ⟨fun _ => ?_,fun h => absurd h (by rw [Go.RE.wanted_none rfl]; decide)⟩
       have d2:=f2 (hd 2 (by kernel_rfl))
       have e63:a.tmps[63]? = some (x 63):=hx 2 _ 63 rfl rfl (hd 2 (by kernel_rfl))
       rw [d2] at e63
       clear hf hx hd
       go_simp
       refine hK _ _ ?_
       exact ⟨hI,fun h => f0 h,fun h => f1 h,fun h => f2 h,fun _ => rfl,fun h => f4 h,fun h => f5 h,fun h => f6 h,fun h => f7 h,fun h => f8 h,fun h => f9 h,fun h => f10 h,fun h => f11 h,fun h => f12 h,fun h => f13 h,fun h => f14 h,fun h => f15 h,fun h => f16 h,fun h => f17 h,fun h => f18 h,fun h => f19 h⟩
      ·intro L x a wR K hL hd hf hx hΦ hK
       obtain ⟨hI,f0,f1,f2,f3,f4,f5,f6,f7,f8,f9,f10,f11,f12,f13,f14,f15,f16,f17,f18,f19⟩:=hΦ
       refine ⟨fun _ => ?_,fun h => absurd h (by rw [Go.RE.wanted_none rfl]; decide)⟩
       have d3:=f3 (hd 3 (by kernel_rfl))
       have e64:a.tmps[64]? = some (x 64):=hx 3 _ 64 rfl rfl (hd 3 (by kernel_rfl))
       rw [d3] at e64
       clear hf hx hd
       go_simp
       refine hK _ _ ?_
       exact ⟨hI,fun h => f0 h,fun h => f1 h,fun h => f2 h,fun h => f3 h,fun _ => rfl,fun h => f5 h,fun h => f6 h,fun h => f7 h,fun h => f8 h,fun h => f9 h,fun h => f10 h,fun h => f11 h,fun h => f12 h,fun h => f13 h,fun h => f14 h,fun h => f15 h,fun h => f16 h,fun h => f17 h,fun h => f18 h,fun h => f19 h⟩
      ·intro L x a wR K hL hd hf hx hΦ hK
       obtain ⟨hI,f0,f1,f2,f3,f4,f5,f6,f7,f8,f9,f10,f11,f12,f13,f14,f15,f16,f17,f18,f19⟩:=hΦ
       have g4:=f4 (hd 4 (by kernel_rfl))
       have ge:a.tmps[65]? = some (x 65):=hx 4 _ 65 rfl rfl (hd 4 (by kernel_rfl))
       rw [g4] at ge
       refine ⟨fun _ => ?_,fun h => absurd h (by rw [Go.RE.wanted_of rfl (Go.RE.yielded_of rfl rfl ge)]; decide)⟩
       have e3:a.tmps[3]? = some (.int .i64 (k:Int)):=hf 3 (of_decide_eq_true (by kernel_rfl))
       clear hf hx hd
       go_simp
       refine hK _ _ ?_
       exact ⟨hI,fun h => f0 h,fun h => f1 h,fun h => f2 h,fun h => f3 h,fun h => f4 h,fun _ => rfl,fun h => f6 h,fun h => f7 h,fun h => f8 h,fun h => f9 h,fun h => f10 h,fun h => f11 h,fun h => f12 h,fun h => f13 h,fun h => f14 h,fun h => f15 h,fun h => f16 h,fun h => f17 h,fun h => f18 h,fun h => f19 h⟩
      ·intro L x a wR K hL hd hf hx hΦ hK
       obtain ⟨hI,f0,f1,f2,f3,f4,f5,f6,f7,f8,f9,f10,f11,f12,f13,f14,f15,f16,f17,f18,f19⟩:=hΦ
       have g4:=f4 (hd 4 (by kernel_rfl))
       have ge:a.tmps[65]? = some (x 65):=hx 4 _ 65 rfl rfl (hd 4 (by kernel_rfl))
       rw [g4] at ge
       refine ⟨fun _ => ?_,fun h => absurd h (by rw [Go.RE.wanted_of rfl (Go.RE.yielded_of rfl rfl ge)]; decide)⟩
       have d5:=f5 (hd 5 (by kernel_rfl))
       have e66:a.tmps[66]? = some (x 66):=hx 5 _ 66 rfl rfl (hd 5 (by kernel_rfl))
       rw [d5] at e66
       clear hf hx hd
       go_simp
       refine hK _ _ ?_
       exact ⟨hI,fun h => f0 h,fun h => f1 h,fun h => f2 h,fun h => f3 h,fun h => f4 h,fun h => f5 h,fun _ => rfl,fun h => f7 h,fun h => f8 h,fun h => f9 h,fun h => f10 h,fun h => f11 h,fun h => f12 h,fun h => f13 h,fun h => f14 h,fun h => f15 h,fun h => f16 h,fun h => f17 h,fun h => f18 h,fun h => f19 h⟩
      ·intro L x a wR K hL hd hf hx hΦ hK
       obtain ⟨hI,f0,f1,f2,f3,f4,f5,f6,f7,f8,f9,f10,f11,f12,f13,f14,f15,f16,f17,f18,f19⟩:=hΦ
       have g4:=f4 (hd 4 (by kernel_rfl))
       have ge:a.tmps[65]? = some (x 65):=hx 4 _ 65 rfl rfl (hd 4 (by kernel_rfl))
       rw [g4] at ge
       refine ⟨fun _ => ?_,fun h => absurd h (by rw [Go.RE.wanted_of rfl (Go.RE.yielded_of rfl rfl ge)]; decide)⟩
       have d6:=f6 (hd 6 (by kernel_rfl))
       have e67:a.tmps[67]? = some (x 67):=hx 6 _ 67 rfl rfl (hd 6 (by kernel_rfl))
       rw [d6] at e67
       clear hf hx hd
       go_simp
       refine hK _ _ ?_
       exact ⟨hI,fun h => f0 h,fun h => f1 h,fun h => f2 h,fun h => f3 h,fun h => f4 h,fun h => f5 h,fun h => f6 h,fun _ => rfl,fun h => f8 h,fun h => f9 h,fun h => f10 h,fun h => f11 h,fun h => f12 h,fun h => f13 h,fun h => f14 h,fun h => f15 h,fun h => f16 h,fun h => f17 h,fun h => f18 h,fun h => f19 h⟩
      ·intro L x a wR K hL hd hf hx hΦ hK
       obtain ⟨hI,f0,f1,f2,f3,f4,f5,f6,f7,f8,f9,f10,f11,f12,f13,f14,f15,f16,f17,f18,f19⟩:=hΦ
       have g7:=f7 (hd 7 (by kernel_rfl))
       have ge:a.tmps[68]? = some (x 68):=hx 7 _ 68 rfl rfl (hd 7 (by kernel_rfl))
       rw [g7] at ge
       refine ⟨fun _ => ?_,fun h => absurd h (by rw [Go.RE.wanted_of rfl (Go.RE.yielded_of rfl rfl ge)]; decide)⟩
       have e1:a.tmps[1]? = some (.pointer (some ⟨w.heap.size,0,none⟩)):=hf 1 (of_decide_eq_true (by kernel_rfl))
       clear hf hx hd
       go_simp
       refine hK _ _ ?_
       exact ⟨hI,fun h => f0 h,fun h => f1 h,fun h => f2 h,fun h => f3 h,fun h => f4 h,fun h => f5 h,fun h => f6 h,fun h => f7 h,fun _ => rfl,fun h => f9 h,fun h => f10 h,fun h => f11 h,fun h => f12 h,fun h => f13 h,fun h => f14 h,fun h => f15 h,fun h => f16 h,fun h => f17 h,fun h => f18 h,fun h => f19 h⟩
      ·intro L x a wR K hL hd hf hx hΦ hK
       obtain ⟨hI,f0,f1,f2,f3,f4,f5,f6,f7,f8,f9,f10,f11,f12,f13,f14,f15,f16,f17,f18,f19⟩:=hΦ
       have g7:=f7 (hd 7 (by kernel_rfl))
       have ge:a.tmps[68]? = some (x 68):=hx 7 _ 68 rfl rfl (hd 7 (by kernel_rfl))
       rw [g7] at ge
       refine ⟨fun _ => ?_,fun h => absurd h (by rw [Go.RE.wanted_of rfl (Go.RE.yielded_of rfl rfl ge)]; decide)⟩
       have d8:=f8 (hd 8 (by kernel_rfl))
       have e69:a.tmps[69]? = some (x 69):=hx 8 _ 69 rfl rfl (hd 8 (by kernel_rfl))
       rw [d8] at e69
       have c:=HK.blk_cell (HBK.out _ hI) 4
       clear hf hx hd
       go_simp
       refine hK _ _ ?_
       exact ⟨hI,fun h => f0 h,fun h => f1 h,fun h => f2 h,fun h => f3 h,fun h => f4 h,fun h => f5 h,fun h => f6 h,fun h => f7 h,fun h => f8 h,fun _ => rfl,fun h => f10 h,fun h => f11 h,fun h => f12 h,fun h => f13 h,fun h => f14 h,fun h => f15 h,fun h => f16 h,fun h => f17 h,fun h => f18 h,fun h => f19 h⟩
      ·intro L x a wR K hL hd hf hx hΦ hK
       obtain ⟨hI,f0,f1,f2,f3,f4,f5,f6,f7,f8,f9,f10,f11,f12,f13,f14,f15,f16,f17,f18,f19⟩:=hΦ
       have g7:=f7 (hd 7 (by kernel_rfl))
       have ge:a.tmps[68]? = some (x 68):=hx 7 _ 68 rfl rfl (hd 7 (by kernel_rfl))
       rw [g7] at ge
       refine ⟨fun _ => ?_,fun h => absurd h (by rw [Go.RE.wanted_of rfl (Go.RE.yielded_of rfl rfl ge)]; decide)⟩
       have e3:a.tmps[3]? = some (.int .i64 (k:Int)):=hf 3 (of_decide_eq_true (by kernel_rfl))
       clear hf hx hd
       go_simp
       refine hK _ _ ?_
       exact ⟨hI,fun h => f0 h,fun h => f1 h,fun h => f2 h,fun h => f3 h,fun h => f4 h,fun h => f5 h,fun h => f6 h,fun h => f7 h,fun h => f8 h,fun h => f9 h,fun _ => rfl,fun h => f11 h,fun h => f12 h,fun h => f13 h,fun h => f14 h,fun h => f15 h,fun h => f16 h,fun h => f17 h,fun h => f18 h,fun h => f19 h⟩
      ·intro L x a wR K hL hd hf hx hΦ hK
       obtain ⟨hI,f0,f1,f2,f3,f4,f5,f6,f7,f8,f9,f10,f11,f12,f13,f14,f15,f16,f17,f18,f19⟩:=hΦ
       have g7:=f7 (hd 7 (by kernel_rfl))
       have ge:a.tmps[68]? = some (x 68):=hx 7 _ 68 rfl rfl (hd 7 (by kernel_rfl))
       rw [g7] at ge
       refine ⟨fun _ => ?_,fun h => absurd h (by rw [Go.RE.wanted_of rfl (Go.RE.yielded_of rfl rfl ge)]; decide)⟩
       have d10:=f10 (hd 10 (by kernel_rfl))
       have e71:a.tmps[71]? = some (x 71):=hx 10 _ 71 rfl rfl (hd 10 (by kernel_rfl))
       rw [d10] at e71
       have ad:=HAD.out
       have ad2:=HAD2.out
       clear hf hx hd
       go_simp
       refine hK _ _ ?_
       exact ⟨hI,fun h => f0 h,fun h => f1 h,fun h => f2 h,fun h => f3 h,fun h => f4 h,fun h => f5 h,fun h => f6 h,fun h => f7 h,fun h => f8 h,fun h => f9 h,fun h => f10 h,fun _ => rfl,fun h => f12 h,fun h => f13 h,fun h => f14 h,fun h => f15 h,fun h => f16 h,fun h => f17 h,fun h => f18 h,fun h => f19 h⟩
      ·intro L x a wR K hL hd hf hx hΦ hK
       obtain ⟨hI,f0,f1,f2,f3,f4,f5,f6,f7,f8,f9,f10,f11,f12,f13,f14,f15,f16,f17,f18,f19⟩:=hΦ
       have g7:=f7 (hd 7 (by kernel_rfl))
       have ge:a.tmps[68]? = some (x 68):=hx 7 _ 68 rfl rfl (hd 7 (by kernel_rfl))
       rw [g7] at ge
       refine ⟨fun _ => ?_,fun h => absurd h (by rw [Go.RE.wanted_of rfl (Go.RE.yielded_of rfl rfl ge)]; decide)⟩
       have d9:=f9 (hd 9 (by kernel_rfl))
       have e70:a.tmps[70]? = some (x 70):=hx 9 _ 70 rfl rfl (hd 9 (by kernel_rfl))
       rw [d9] at e70
       have d11:=f11 (hd 11 (by kernel_rfl))
       have e72:a.tmps[72]? = some (x 72):=hx 11 _ 72 rfl rfl (hd 11 (by kernel_rfl))
       rw [d11] at e72
       have l1:=HJ1.out.1
       have l2:=HJ1.out.2
       clear hf hx hd
       go_simp
       refine hK _ _ ?_
       exact ⟨hI,fun h => f0 h,fun h => f1 h,fun h => f2 h,fun h => f3 h,fun h => f4 h,fun h => f5 h,fun h => f6 h,fun h => f7 h,fun h => f8 h,fun h => f9 h,fun h => f10 h,fun h => f11 h,fun _ => rfl,fun h => f13 h,fun h => f14 h,fun h => f15 h,fun h => f16 h,fun h => f17 h,fun h => f18 h,fun h => f19 h⟩
      ·intro L x a wR K hL hd hf hx hΦ hK
       obtain ⟨hI,f0,f1,f2,f3,f4,f5,f6,f7,f8,f9,f10,f11,f12,f13,f14,f15,f16,f17,f18,f19⟩:=hΦ
       have g7:=f7 (hd 7 (by kernel_rfl))
       have ge:a.tmps[68]? = some (x 68):=hx 7 _ 68 rfl rfl (hd 7 (by kernel_rfl))
       rw [g7] at ge
       refine ⟨fun _ => ?_,fun h => absurd h (by rw [Go.RE.wanted_of rfl (Go.RE.yielded_of rfl rfl ge)]; decide)⟩
       have d12:=f12 (hd 12 (by kernel_rfl))
       have e73:a.tmps[73]? = some (x 73):=hx 12 _ 73 rfl rfl (hd 12 (by kernel_rfl))
       rw [d12] at e73
       clear hf hx hd
       go_simp
       refine hK _ _ ?_
       exact ⟨hI,fun h => f0 h,fun h => f1 h,fun h => f2 h,fun h => f3 h,fun h => f4 h,fun h => f5 h,fun h => f6 h,fun h => f7 h,fun h => f8 h,fun h => f9 h,fun h => f10 h,fun h => f11 h,fun h => f12 h,fun _ => rfl,fun h => f14 h,fun h => f15 h,fun h => f16 h,fun h => f17 h,fun h => f18 h,fun h => f19 h⟩
      ·intro L x a wR K hL hd hf hx hΦ hK
       obtain ⟨hI,f0,f1,f2,f3,f4,f5,f6,f7,f8,f9,f10,f11,f12,f13,f14,f15,f16,f17,f18,f19⟩:=hΦ
       have g7:=f7 (hd 7 (by kernel_rfl))
       have ge:a.tmps[68]? = some (x 68):=hx 7 _ 68 rfl rfl (hd 7 (by kernel_rfl))
       rw [g7] at ge
       refine ⟨fun _ => ?_,fun h => absurd h (by rw [Go.RE.wanted_of rfl (Go.RE.yielded_of rfl rfl ge)]; decide)⟩
       have d13:=f13 (hd 13 (by kernel_rfl))
       have e74:a.tmps[74]? = some (x 74):=hx 13 _ 74 rfl rfl (hd 13 (by kernel_rfl))
       rw [d13] at e74
       have c:=((HFT.out _ (HBB.out _ hI)).at HHJ.out).1
       clear hf hx hd
       go_simp
       refine hK _ _ ?_
       exact ⟨hI,fun h => f0 h,fun h => f1 h,fun h => f2 h,fun h => f3 h,fun h => f4 h,fun h => f5 h,fun h => f6 h,fun h => f7 h,fun h => f8 h,fun h => f9 h,fun h => f10 h,fun h => f11 h,fun h => f12 h,fun h => f13 h,fun _ => rfl,fun h => f15 h,fun h => f16 h,fun h => f17 h,fun h => f18 h,fun h => f19 h⟩
      ·intro L x a wR K hL hd hf hx hΦ hK
       obtain ⟨hI,f0,f1,f2,f3,f4,f5,f6,f7,f8,f9,f10,f11,f12,f13,f14,f15,f16,f17,f18,f19⟩:=hΦ
       have g7:=f7 (hd 7 (by kernel_rfl))
       have ge:a.tmps[68]? = some (x 68):=hx 7 _ 68 rfl rfl (hd 7 (by kernel_rfl))
       rw [g7] at ge
       refine ⟨fun _ => ?_,fun h => absurd h (by rw [Go.RE.wanted_of rfl (Go.RE.yielded_of rfl rfl ge)]; decide)⟩
       have e4:a.tmps[4]? = some (.pointer (some ⟨wr.heap.size,0,none⟩)):=hf 4 (of_decide_eq_true (by kernel_rfl))
       clear hf hx hd
       go_simp
       refine hK _ _ ?_
       exact ⟨hI,fun h => f0 h,fun h => f1 h,fun h => f2 h,fun h => f3 h,fun h => f4 h,fun h => f5 h,fun h => f6 h,fun h => f7 h,fun h => f8 h,fun h => f9 h,fun h => f10 h,fun h => f11 h,fun h => f12 h,fun h => f13 h,fun h => f14 h,fun _ => rfl,fun h => f16 h,fun h => f17 h,fun h => f18 h,fun h => f19 h⟩
      ·intro L x a wR K hL hd hf hx hΦ hK
       obtain ⟨hI,f0,f1,f2,f3,f4,f5,f6,f7,f8,f9,f10,f11,f12,f13,f14,f15,f16,f17,f18,f19⟩:=hΦ
       have g7:=f7 (hd 7 (by kernel_rfl))
       have ge:a.tmps[68]? = some (x 68):=hx 7 _ 68 rfl rfl (hd 7 (by kernel_rfl))
       rw [g7] at ge
       refine ⟨fun _ => ?_,fun h => absurd h (by rw [Go.RE.wanted_of rfl (Go.RE.yielded_of rfl rfl ge)]; decide)⟩
       have d15:=f15 (hd 15 (by kernel_rfl))
       have e76:a.tmps[76]? = some (x 76):=hx 15 _ 76 rfl rfl (hd 15 (by kernel_rfl))
       rw [d15] at e76
       have c:=HK.blk_cell (HBO2.out _ hI) 0
       clear hf hx hd
       go_simp
       refine hK _ _ ?_
       exact ⟨hI,fun h => f0 h,fun h => f1 h,fun h => f2 h,fun h => f3 h,fun h => f4 h,fun h => f5 h,fun h => f6 h,fun h => f7 h,fun h => f8 h,fun h => f9 h,fun h => f10 h,fun h => f11 h,fun h => f12 h,fun h => f13 h,fun h => f14 h,fun h => f15 h,fun _ => rfl,fun h => f17 h,fun h => f18 h,fun h => f19 h⟩
      ·intro L x a wR K hL hd hf hx hΦ hK
       obtain ⟨hI,f0,f1,f2,f3,f4,f5,f6,f7,f8,f9,f10,f11,f12,f13,f14,f15,f16,f17,f18,f19⟩:=hΦ
       have g7:=f7 (hd 7 (by kernel_rfl))
       have ge:a.tmps[68]? = some (x 68):=hx 7 _ 68 rfl rfl (hd 7 (by kernel_rfl))
       rw [g7] at ge
       refine ⟨fun _ => ?_,fun h => absurd h (by rw [Go.RE.wanted_of rfl (Go.RE.yielded_of rfl rfl ge)]; decide)⟩
       have d14:=f14 (hd 14 (by kernel_rfl))
       have e75:a.tmps[75]? = some (x 75):=hx 14 _ 75 rfl rfl (hd 14 (by kernel_rfl))
       rw [d14] at e75
       have d16:=f16 (hd 16 (by kernel_rfl))
       have e77:a.tmps[77]? = some (x 77):=hx 16 _ 77 rfl rfl (hd 16 (by kernel_rfl))
       rw [d16] at e77
       have l1:=HLB.out
       clear hf hx hd
       go_simp
       refine hK _ _ ?_
       exact ⟨hI,fun h => f0 h,fun h => f1 h,fun h => f2 h,fun h => f3 h,fun h => f4 h,fun h => f5 h,fun h => f6 h,fun h => f7 h,fun h => f8 h,fun h => f9 h,fun h => f10 h,fun h => f11 h,fun h => f12 h,fun h => f13 h,fun h => f14 h,fun h => f15 h,fun h => f16 h,fun _ => rfl,fun h => f18 h,fun h => f19 h⟩
      ·intro L x a wR K hL hd hf hx hΦ hK
       obtain ⟨hI,f0,f1,f2,f3,f4,f5,f6,f7,f8,f9,f10,f11,f12,f13,f14,f15,f16,f17,f18,f19⟩:=hΦ
       have g4:=f4 (hd 4 (by kernel_rfl))
       have ge:a.tmps[65]? = some (x 65):=hx 4 _ 65 rfl rfl (hd 4 (by kernel_rfl))
       rw [g4] at ge
       refine ⟨fun _ => ?_,fun h => absurd h (by rw [Go.RE.wanted_of rfl (Go.RE.yielded_of rfl rfl ge)]; decide)⟩
       have d7:=f7 (hd 7 (by kernel_rfl))
       have e68:a.tmps[68]? = some (x 68):=hx 7 _ 68 rfl rfl (hd 7 (by kernel_rfl))
       rw [d7] at e68
       have d17:=f17 (hd 17 (by kernel_rfl))
       have e78:a.tmps[78]? = some (x 78):=hx 17 _ 78 rfl rfl (hd 17 (by kernel_rfl))
       rw [d17] at e78
       clear hf hx hd
       go_simp
       refine hK _ _ ?_
       exact ⟨hI,fun h => f0 h,fun h => f1 h,fun h => f2 h,fun h => f3 h,fun h => f4 h,fun h => f5 h,fun h => f6 h,fun h => f7 h,fun h => f8 h,fun h => f9 h,fun h => f10 h,fun h => f11 h,fun h => f12 h,fun h => f13 h,fun h => f14 h,fun h => f15 h,fun h => f16 h,fun h => f17 h,fun _ => rfl,fun h => f19 h⟩
      ·intro L x a wR K hL hd hf hx hΦ hK
       obtain ⟨hI,f0,f1,f2,f3,f4,f5,f6,f7,f8,f9,f10,f11,f12,f13,f14,f15,f16,f17,f18,f19⟩:=hΦ
       refine ⟨fun _ => ?_,fun h => absurd h (by rw [Go.RE.wanted_none rfl]; decide)⟩
       have d4:=f4 (hd 4 (by kernel_rfl))
       have e65:a.tmps[65]? = some (x 65):=hx 4 _ 65 rfl rfl (hd 4 (by kernel_rfl))
       rw [d4] at e65
       have d18:=f18 (hd 18 (by kernel_rfl))
       have e79:a.tmps[79]? = some (x 79):=hx 18 _ 79 rfl rfl (hd 18 (by kernel_rfl))
       rw [d18] at e79
       clear hf hx hd
       go_simp
       refine hK _ _ ?_
       exact ⟨hI,fun h => f0 h,fun h => f1 h,fun h => f2 h,fun h => f3 h,fun h => f4 h,fun h => f5 h,fun h => f6 h,fun h => f7 h,fun h => f8 h,fun h => f9 h,fun h => f10 h,fun h => f11 h,fun h => f12 h,fun h => f13 h,fun h => f14 h,fun h => f15 h,fun h => f16 h,fun h => f17 h,fun h => f18 h,fun _ => rfl⟩
      ·rintro x W ⟨hI,f0,f1,f2,f3,f4,f5,f6,f7,f8,f9,f10,f11,f12,f13,f14,f15,f16,f17,f18,f19⟩
       simp only [Exit.then]
       go_step
       go_meet
       exact ⟨!lb,f19 rfl,by rw [<- HPB.out,decide_eq_false H0.out,HNS.out]; rfl,hI⟩
   case rest =>
    obtain ⟨sb,rfl,hsb,hB3⟩:=hcut
    have Hfalse:=hid hsb
    have HB3:=hid hB3
    have HNO:Hid (factB false rel facts k = false -> factsK false rel facts facts.length = false):=hid fun h => factsK_no (by rw [HFN.out]; omega) h
    have f1:=shl_wrap (k:=n) (by omega)
    obtain ⟨z,hz⟩:∃ z,z = 1 <<< n:=⟨_,rfl⟩
    have hz2:2 ^ n = z:=by rw [hz,Nat.one_shiftLeft]
    have hz16:z <= 16:=by omega
    have HZ:=hid hz2
    rw [<- hz] at f1
    have HF1:=hid f1
    clear f1 hz hz2
    have HFE:Hid (factB false rel facts k = ((!sb) && (decide (ar = 0) && decide (0 <= tr) && decide (tr < (z:Int))) && (!false || persK rel tr.toNat n))):=hid (by
     rw [Hfalse.out,Bool.not_not]
     unfold factB nmK
     rw [HGD.out,HN.out,HZ.out])
    clear hsb hB3
    cases sb
    case true =>
     go_wp2_with (fail)
     go_ret
     exact ⟨by rw [HNO.out (by rw [HFE.out]; rfl)]; rfl,HBW.out.trans ((HBB.out _ HB3.out).mono HBW.out.size)⟩
    case false =>
     obtain ⟨w3,hw3⟩:∃ w3:World,w3 = wc:=⟨_,rfl⟩
     subst hw3
     go_upto_region 10 with (fail)
     go_cut [96] from 81 to 96 (fun v wx => ∃ xb:Bool,v = .bool xb /\ xb = !(decide (ar = 0) && decide (0 <= tr) && decide (tr < (z:Int))) /\ Below (wr.alloc fb).heap.size (wr.alloc fb) wx)
     case first =>
      by_cases h0:ar = 0
      ·have HQ:Hid ((ar != 0) = false):=hid (by simpa using h0)
       have H0:=hid (decide_eq_true h0)
       clear h0
       by_cases h1:tr < 0
       ·have HQ2:Hid (decide (tr < 0) = true):=hid (decide_eq_true h1)
        have H1:Hid (decide (0 <= tr) = false):=hid (decide_eq_false (by omega))
        clear h1
        refine Go.RE.wp_region_eachg [81,82,83,84,85,86,87,88,89,90,91,92,93,94,95,96] (fun L x W => (Below (wr.alloc fb).heap.size (wr.alloc fb) W) /\ (L 0 = true -> x 81 = .pointer (some ⟨wr.heap.size,1,none⟩)) /\ (L 1 = true -> x 82 = .int .i64 ar) /\ (L 2 = true -> x 83 = .bool false) /\ (L 3 = true -> x 84 = .bool false) /\ (L 4 = true -> x 85 = .pointer (some ⟨wr.heap.size,2,none⟩)) /\ (L 5 = true -> x 86 = .int .i64 tr) /\ (L 6 = true -> x 87 = .bool true) /\ (L 7 = true -> x 88 = .bool true) /\ (L 8 = true -> x 89 = .bool true) /\ (L 9 = true -> x 90 = undef) /\ (L 10 = true -> x 91 = undef) /\ (L 11 = true -> x 92 = undef) /\ (L 12 = true -> x 93 = undef) /\ (L 13 = true -> x 94 = undef) /\ (L 14 = true -> x 95 = undef) /\ (L 15 = true -> x 96 = .bool true)) (by kernel_rfl) (by kernel_rfl) (by kernel_rfl) ?_ ((Go.RE.Each.cons ?_ (Go.RE.Each.cons ?_ (Go.RE.Each.cons ?_ (Go.RE.Each.cons ?_ (Go.RE.Each.cons ?_ (Go.RE.Each.cons ?_ (Go.RE.Each.cons ?_ (Go.RE.Each.cons ?_ (Go.RE.Each.cons ?_ (Go.RE.Each.cons ?_ (Go.RE.Each.cons ?_ (Go.RE.Each.cons ?_ (Go.RE.Each.cons ?_ (Go.RE.Each.cons ?_ (Go.RE.Each.cons ?_ (Go.RE.Each.cons ?_ Go.RE.Each.nil))))))))))))))))) ?_
        ·exact fun x => ⟨bl_dr HB3.out,fun h => (by cases h),fun h => (by cases h),fun h => (by cases h),fun h => (by cases h),fun h => (by cases h),fun h => (by cases h),fun h => (by cases h),fun h => (by cases h),fun h => (by cases h),fun h => (by cases h),fun h => (by cases h),fun h => (by cases h),fun h => (by cases h),fun h => (by cases h),fun h => (by cases h),fun h => (by cases h)⟩
        ·intro L x a wR K hL hd hf hx hΦ hK
         obtain ⟨hI,f0,f1,f2,f3,f4,f5,f6,f7,f8,f9,f10,f11,f12,f13,f14,f15⟩:=hΦ
         refine ⟨fun _ => ?_,fun h => absurd h (by rw [Go.RE.wanted_none rfl]; decide)⟩
         have e4:a.tmps[4]? = some (.pointer (some ⟨wr.heap.size,0,none⟩)):=hf 4 (of_decide_eq_true (by kernel_rfl))
         clear hf hx hd
         go_simp
         refine hK _ _ ?_
         exact ⟨hI,fun _ => rfl,fun h => f1 h,fun h => f2 h,fun h => f3 h,fun h => f4 h,fun h => f5 h,fun h => f6 h,fun h => f7 h,fun h => f8 h,fun h => f9 h,fun h => f10 h,fun h => f11 h,fun h => f12 h,fun h => f13 h,fun h => f14 h,fun h => f15 h⟩
        ·intro L x a wR K hL hd hf hx hΦ hK
         obtain ⟨hI,f0,f1,f2,f3,f4,f5,f6,f7,f8,f9,f10,f11,f12,f13,f14,f15⟩:=hΦ
         refine ⟨fun _ => ?_,fun h => absurd h (by rw [Go.RE.wanted_none rfl]; decide)⟩
         have d0:=f0 (hd 0 (by kernel_rfl))
         have e81:a.tmps[81]? = some (x 81):=hx 0 _ 81 rfl rfl (hd 0 (by kernel_rfl))
         rw [d0] at e81
         have c:=HK.blk_cell (HBO2.out _ hI) 1
         clear hf hx hd
         go_simp
         refine hK _ _ ?_
         exact ⟨hI,fun h => f0 h,fun _ => rfl,fun h => f2 h,fun h => f3 h,fun h => f4 h,fun h => f5 h,fun h => f6 h,fun h => f7 h,fun h => f8 h,fun h => f9 h,fun h => f10 h,fun h => f11 h,fun h => f12 h,fun h => f13 h,fun h => f14 h,fun h => f15 h⟩
        ·intro L x a wR K hL hd hf hx hΦ hK
         obtain ⟨hI,f0,f1,f2,f3,f4,f5,f6,f7,f8,f9,f10,f11,f12,f13,f14,f15⟩:=hΦ
         refine ⟨fun _ => ?_,fun h => absurd h (by rw [Go.RE.wanted_none rfl]; decide)⟩
         have d1:=f1 (hd 1 (by kernel_rfl))
         have e82:a.tmps[82]? = some (x 82):=hx 1 _ 82 rfl rfl (hd 1 (by kernel_rfl))
         rw [d1] at e82
         have q:=HQ.out
         clear hf hx hd
         go_simp
         refine hK _ _ ?_
         exact ⟨hI,fun h => f0 h,fun h => f1 h,fun _ => rfl,fun h => f3 h,fun h => f4 h,fun h => f5 h,fun h => f6 h,fun h => f7 h,fun h => f8 h,fun h => f9 h,fun h => f10 h,fun h => f11 h,fun h => f12 h,fun h => f13 h,fun h => f14 h,fun h => f15 h⟩
        ·intro L x a wR K hL hd hf hx hΦ hK
         obtain ⟨hI,f0,f1,f2,f3,f4,f5,f6,f7,f8,f9,f10,f11,f12,f13,f14,f15⟩:=hΦ
         refine ⟨fun _ => ?_,fun h => absurd h (by rw [Go.RE.wanted_none rfl]; decide)⟩
         have d2:=f2 (hd 2 (by kernel_rfl))
         have e83:a.tmps[83]? = some (x 83):=hx 2 _ 83 rfl rfl (hd 2 (by kernel_rfl))
         rw [d2] at e83
         clear hf hx hd
         go_simp
         refine hK _ _ ?_
         exact ⟨hI,fun h => f0 h,fun h => f1 h,fun h => f2 h,fun _ => rfl,fun h => f4 h,fun h => f5 h,fun h => f6 h,fun h => f7 h,fun h => f8 h,fun h => f9 h,fun h => f10 h,fun h => f11 h,fun h => f12 h,fun h => f13 h,fun h => f14 h,fun h => f15 h⟩
        ·intro L x a wR K hL hd hf hx hΦ hK
         obtain ⟨hI,f0,f1,f2,f3,f4,f5,f6,f7,f8,f9,f10,f11,f12,f13,f14,f15⟩:=hΦ
         have g3:=f3 (hd 3 (by kernel_rfl))
         have ge:a.tmps[84]? = some (x 84):=hx 3 _ 84 rfl rfl (hd 3 (by kernel_rfl))
         rw [g3] at ge
         refine ⟨fun _ => ?_,fun h => absurd h (by rw [Go.RE.wanted_of rfl (Go.RE.yielded_of rfl rfl ge)]; decide)⟩
         have e4:a.tmps[4]? = some (.pointer (some ⟨wr.heap.size,0,none⟩)):=hf 4 (of_decide_eq_true (by kernel_rfl))
         clear hf hx hd
         go_simp
         refine hK _ _ ?_
         exact ⟨hI,fun h => f0 h,fun h => f1 h,fun h => f2 h,fun h => f3 h,fun _ => rfl,fun h => f5 h,fun h => f6 h,fun h => f7 h,fun h => f8 h,fun h => f9 h,fun h => f10 h,fun h => f11 h,fun h => f12 h,fun h => f13 h,fun h => f14 h,fun h => f15 h⟩
        ·intro L x a wR K hL hd hf hx hΦ hK
         obtain ⟨hI,f0,f1,f2,f3,f4,f5,f6,f7,f8,f9,f10,f11,f12,f13,f14,f15⟩:=hΦ
         have g3:=f3 (hd 3 (by kernel_rfl))
         have ge:a.tmps[84]? = some (x 84):=hx 3 _ 84 rfl rfl (hd 3 (by kernel_rfl))
         rw [g3] at ge
         refine ⟨fun _ => ?_,fun h => absurd h (by rw [Go.RE.wanted_of rfl (Go.RE.yielded_of rfl rfl ge)]; decide)⟩
         have d4:=f4 (hd 4 (by kernel_rfl))
         have e85:a.tmps[85]? = some (x 85):=hx 4 _ 85 rfl rfl (hd 4 (by kernel_rfl))
         rw [d4] at e85
         have c:=HK.blk_cell (HBO2.out _ hI) 2
         clear hf hx hd
         go_simp
         refine hK _ _ ?_
         exact ⟨hI,fun h => f0 h,fun h => f1 h,fun h => f2 h,fun h => f3 h,fun h => f4 h,fun _ => rfl,fun h => f6 h,fun h => f7 h,fun h => f8 h,fun h => f9 h,fun h => f10 h,fun h => f11 h,fun h => f12 h,fun h => f13 h,fun h => f14 h,fun h => f15 h⟩
        ·intro L x a wR K hL hd hf hx hΦ hK
         obtain ⟨hI,f0,f1,f2,f3,f4,f5,f6,f7,f8,f9,f10,f11,f12,f13,f14,f15⟩:=hΦ
         have g3:=f3 (hd 3 (by kernel_rfl))
         have ge:a.tmps[84]? = some (x 84):=hx 3 _ 84 rfl rfl (hd 3 (by kernel_rfl))
         rw [g3] at ge
         refine ⟨fun _ => ?_,fun h => absurd h (by rw [Go.RE.wanted_of rfl (Go.RE.yielded_of rfl rfl ge)]; decide)⟩
         have d5:=f5 (hd 5 (by kernel_rfl))
         have e86:a.tmps[86]? = some (x 86):=hx 5 _ 86 rfl rfl (hd 5 (by kernel_rfl))
         rw [d5] at e86
         have q:=HQ2.out
         clear hf hx hd
         go_simp
         refine hK _ _ ?_
         exact ⟨hI,fun h => f0 h,fun h => f1 h,fun h => f2 h,fun h => f3 h,fun h => f4 h,fun h => f5 h,fun _ => rfl,fun h => f7 h,fun h => f8 h,fun h => f9 h,fun h => f10 h,fun h => f11 h,fun h => f12 h,fun h => f13 h,fun h => f14 h,fun h => f15 h⟩
        ·intro L x a wR K hL hd hf hx hΦ hK
         obtain ⟨hI,f0,f1,f2,f3,f4,f5,f6,f7,f8,f9,f10,f11,f12,f13,f14,f15⟩:=hΦ
         refine ⟨fun _ => ?_,fun h => absurd h (by rw [Go.RE.wanted_none rfl]; decide)⟩
         have d3:=f3 (hd 3 (by kernel_rfl))
         have e84:a.tmps[84]? = some (x 84):=hx 3 _ 84 rfl rfl (hd 3 (by kernel_rfl))
         rw [d3] at e84
         have d6:=f6 (hd 6 (by kernel_rfl))
         have e87:a.tmps[87]? = some (x 87):=hx 6 _ 87 rfl rfl (hd 6 (by kernel_rfl))
         rw [d6] at e87
         clear hf hx hd
         go_simp
         refine hK _ _ ?_
         exact ⟨hI,fun h => f0 h,fun h => f1 h,fun h => f2 h,fun h => f3 h,fun h => f4 h,fun h => f5 h,fun h => f6 h,fun _ => rfl,fun h => f8 h,fun h => f9 h,fun h => f10 h,fun h => f11 h,fun h => f12 h,fun h => f13 h,fun h => f14 h,fun h => f15 h⟩
        ·intro L x a wR K hL hd hf hx hΦ hK
         obtain ⟨hI,f0,f1,f2,f3,f4,f5,f6,f7,f8,f9,f10,f11,f12,f13,f14,f15⟩:=hΦ
         refine ⟨fun _ => ?_,fun h => absurd h (by rw [Go.RE.wanted_none rfl]; decide)⟩
         have d7:=f7 (hd 7 (by kernel_rfl))
         have e88:a.tmps[88]? = some (x 88):=hx 7 _ 88 rfl rfl (hd 7 (by kernel_rfl))
         rw [d7] at e88
         clear hf hx hd
         go_simp
         refine hK _ _ ?_
         exact ⟨hI,fun h => f0 h,fun h => f1 h,fun h => f2 h,fun h => f3 h,fun h => f4 h,fun h => f5 h,fun h => f6 h,fun h => f7 h,fun _ => rfl,fun h => f9 h,fun h => f10 h,fun h => f11 h,fun h => f12 h,fun h => f13 h,fun h => f14 h,fun h => f15 h⟩
        ·intro L x a wR K hL hd hf hx hΦ hK
         obtain ⟨hI,f0,f1,f2,f3,f4,f5,f6,f7,f8,f9,f10,f11,f12,f13,f14,f15⟩:=hΦ
         have g8:=f8 (hd 8 (by kernel_rfl))
         have ge:a.tmps[89]? = some (x 89):=hx 8 _ 89 rfl rfl (hd 8 (by kernel_rfl))
         rw [g8] at ge
         refine ⟨fun h => absurd h (by rw [Go.RE.wanted_of rfl (Go.RE.yielded_of rfl rfl ge)]; decide),fun _ => ?_⟩
         refine hK undef _ ?_
         exact ⟨hI,fun h => f0 h,fun h => f1 h,fun h => f2 h,fun h => f3 h,fun h => f4 h,fun h => f5 h,fun h => f6 h,fun h => f7 h,fun h => f8 h,fun _ => rfl,fun h => f10 h,fun h => f11 h,fun h => f12 h,fun h => f13 h,fun h => f14 h,fun h => f15 h⟩
        ·intro L x a wR K hL hd hf hx hΦ hK
         obtain ⟨hI,f0,f1,f2,f3,f4,f5,f6,f7,f8,f9,f10,f11,f12,f13,f14,f15⟩:=hΦ
         have g8:=f8 (hd 8 (by kernel_rfl))
         have ge:a.tmps[89]? = some (x 89):=hx 8 _ 89 rfl rfl (hd 8 (by kernel_rfl))
         rw [g8] at ge
         refine ⟨fun h => absurd h (by rw [Go.RE.wanted_of rfl (Go.RE.yielded_of rfl rfl ge)]; decide),fun _ => ?_⟩
         refine hK undef _ ?_
         exact ⟨hI,fun h => f0 h,fun h => f1 h,fun h => f2 h,fun h => f3 h,fun h => f4 h,fun h => f5 h,fun h => f6 h,fun h => f7 h,fun h => f8 h,fun h => f9 h,fun _ => rfl,fun h => f11 h,fun h => f12 h,fun h => f13 h,fun h => f14 h,fun h => f15 h⟩
        ·intro L x a wR K hL hd hf hx hΦ hK
         obtain ⟨hI,f0,f1,f2,f3,f4,f5,f6,f7,f8,f9,f10,f11,f12,f13,f14,f15⟩:=hΦ
         have g8:=f8 (hd 8 (by kernel_rfl))
         have ge:a.tmps[89]? = some (x 89):=hx 8 _ 89 rfl rfl (hd 8 (by kernel_rfl))
         rw [g8] at ge
         refine ⟨fun h => absurd h (by rw [Go.RE.wanted_of rfl (Go.RE.yielded_of rfl rfl ge)]; decide),fun _ => ?_⟩
         refine hK undef _ ?_
         exact ⟨hI,fun h => f0 h,fun h => f1 h,fun h => f2 h,fun h => f3 h,fun h => f4 h,fun h => f5 h,fun h => f6 h,fun h => f7 h,fun h => f8 h,fun h => f9 h,fun h => f10 h,fun _ => rfl,fun h => f12 h,fun h => f13 h,fun h => f14 h,fun h => f15 h⟩
        ·intro L x a wR K hL hd hf hx hΦ hK
         obtain ⟨hI,f0,f1,f2,f3,f4,f5,f6,f7,f8,f9,f10,f11,f12,f13,f14,f15⟩:=hΦ
         have g8:=f8 (hd 8 (by kernel_rfl))
         have ge:a.tmps[89]? = some (x 89):=hx 8 _ 89 rfl rfl (hd 8 (by kernel_rfl))
         rw [g8] at ge
         refine ⟨fun h => absurd h (by rw [Go.RE.wanted_of rfl (Go.RE.yielded_of rfl rfl ge)]; decide),fun _ => ?_⟩
         refine hK undef _ ?_
         exact ⟨hI,fun h => f0 h,fun h => f1 h,fun h => f2 h,fun h => f3 h,fun h => f4 h,fun h => f5 h,fun h => f6 h,fun h => f7 h,fun h => f8 h,fun h => f9 h,fun h => f10 h,fun h => f11 h,fun _ => rfl,fun h => f13 h,fun h => f14 h,fun h => f15 h⟩
        ·intro L x a wR K hL hd hf hx hΦ hK
         obtain ⟨hI,f0,f1,f2,f3,f4,f5,f6,f7,f8,f9,f10,f11,f12,f13,f14,f15⟩:=hΦ
         have g8:=f8 (hd 8 (by kernel_rfl))
         have ge:a.tmps[89]? = some (x 89):=hx 8 _ 89 rfl rfl (hd 8 (by kernel_rfl))
         rw [g8] at ge
         refine ⟨fun h => absurd h (by rw [Go.RE.wanted_of rfl (Go.RE.yielded_of rfl rfl ge)]; decide),fun _ => ?_⟩
         refine hK undef _ ?_
         exact ⟨hI,fun h => f0 h,fun h => f1 h,fun h => f2 h,fun h => f3 h,fun h => f4 h,fun h => f5 h,fun h => f6 h,fun h => f7 h,fun h => f8 h,fun h => f9 h,fun h => f10 h,fun h => f11 h,fun h => f12 h,fun _ => rfl,fun h => f14 h,fun h => f15 h⟩
        ·intro L x a wR K hL hd hf hx hΦ hK
         obtain ⟨hI,f0,f1,f2,f3,f4,f5,f6,f7,f8,f9,f10,f11,f12,f13,f14,f15⟩:=hΦ
         have g8:=f8 (hd 8 (by kernel_rfl))
         have ge:a.tmps[89]? = some (x 89):=hx 8 _ 89 rfl rfl (hd 8 (by kernel_rfl))
         rw [g8] at ge
         refine ⟨fun h => absurd h (by rw [Go.RE.wanted_of rfl (Go.RE.yielded_of rfl rfl ge)]; decide),fun _ => ?_⟩
         refine hK undef _ ?_
         exact ⟨hI,fun h => f0 h,fun h => f1 h,fun h => f2 h,fun h => f3 h,fun h => f4 h,fun h => f5 h,fun h => f6 h,fun h => f7 h,fun h => f8 h,fun h => f9 h,fun h => f10 h,fun h => f11 h,fun h => f12 h,fun h => f13 h,fun _ => rfl,fun h => f15 h⟩
        ·intro L x a wR K hL hd hf hx hΦ hK
         obtain ⟨hI,f0,f1,f2,f3,f4,f5,f6,f7,f8,f9,f10,f11,f12,f13,f14,f15⟩:=hΦ
         refine ⟨fun _ => ?_,fun h => absurd h (by rw [Go.RE.wanted_none rfl]; decide)⟩
         have d8:=f8 (hd 8 (by kernel_rfl))
         have e89:a.tmps[89]? = some (x 89):=hx 8 _ 89 rfl rfl (hd 8 (by kernel_rfl))
         rw [d8] at e89
         have d14:=f14 (hd 14 (by kernel_rfl))
         have e95:a.tmps[95]? = some (x 95):=hx 14 _ 95 rfl rfl (hd 14 (by kernel_rfl))
         rw [d14] at e95
         clear hf hx hd
         go_simp
         refine hK _ _ ?_
         exact ⟨hI,fun h => f0 h,fun h => f1 h,fun h => f2 h,fun h => f3 h,fun h => f4 h,fun h => f5 h,fun h => f6 h,fun h => f7 h,fun h => f8 h,fun h => f9 h,fun h => f10 h,fun h => f11 h,fun h => f12 h,fun h => f13 h,fun h => f14 h,fun _ => rfl⟩
        ·rintro x W ⟨hI,f0,f1,f2,f3,f4,f5,f6,f7,f8,f9,f10,f11,f12,f13,f14,f15⟩
         simp only [Exit.then]
         go_step
         go_meet
         exact ⟨true,f15 rfl,by rw [H0.out,H1.out]; rfl,hI⟩
       ·have HQ2:Hid (decide (tr < 0) = false):=hid (decide_eq_false h1)
        have H1:Hid (decide (0 <= tr) = true):=hid (decide_eq_true (by omega))
        clear h1
        by_cases h2:(z:Int) <= tr
        ·have HQ3:Hid (decide ((z:Int) <= tr) = true):=hid (decide_eq_true h2)
         have H2:Hid (decide (tr < (z:Int)) = false):=hid (decide_eq_false (by omega))
         clear h2
         refine Go.RE.wp_region_eachg [81,82,83,84,85,86,87,88,89,90,91,92,93,94,95,96] (fun L x W => (Below (wr.alloc fb).heap.size (wr.alloc fb) W) /\ (L 0 = true -> x 81 = .pointer (some ⟨wr.heap.size,1,none⟩)) /\ (L 1 = true -> x 82 = .int .i64 ar) /\ (L 2 = true -> x 83 = .bool false) /\ (L 3 = true -> x 84 = .bool false) /\ (L 4 = true -> x 85 = .pointer (some ⟨wr.heap.size,2,none⟩)) /\ (L 5 = true -> x 86 = .int .i64 tr) /\ (L 6 = true -> x 87 = .bool false) /\ (L 7 = true -> x 88 = .bool false) /\ (L 8 = true -> x 89 = .bool false) /\ (L 9 = true -> x 90 = .pointer (some ⟨wr.heap.size,2,none⟩)) /\ (L 10 = true -> x 91 = .int .i64 tr) /\ (L 11 = true -> x 92 = .pointer (some ⟨w.heap.size,1,none⟩)) /\ (L 12 = true -> x 93 = .int .i64 (n:Int)) /\ (L 13 = true -> x 94 = .int .i64 (z:Int)) /\ (L 14 = true -> x 95 = .bool true) /\ (L 15 = true -> x 96 = .bool true)) (by kernel_rfl) (by kernel_rfl) (by kernel_rfl) ?_ ((Go.RE.Each.cons ?_ (Go.RE.Each.cons ?_ (Go.RE.Each.cons ?_ (Go.RE.Each.cons ?_ (Go.RE.Each.cons ?_ (Go.RE.Each.cons ?_ (Go.RE.Each.cons ?_ (Go.RE.Each.cons ?_ (Go.RE.Each.cons ?_ (Go.RE.Each.cons ?_ (Go.RE.Each.cons ?_ (Go.RE.Each.cons ?_ (Go.RE.Each.cons ?_ (Go.RE.Each.cons ?_ (Go.RE.Each.cons ?_ (Go.RE.Each.cons ?_ Go.RE.Each.nil))))))))))))))))) ?_
         ·exact fun x => ⟨bl_dr HB3.out,fun h => (by cases h),fun h => (by cases h),fun h => (by cases h),fun h => (by cases h),fun h => (by cases h),fun h => (by cases h),fun h => (by cases h),fun h => (by cases h),fun h => (by cases h),fun h => (by cases h),fun h => (by cases h),fun h => (by cases h),fun h => (by cases h),fun h => (by cases h),fun h => (by cases h),fun h => (by cases h)⟩
         ·intro L x a wR K hL hd hf hx hΦ hK
          obtain ⟨hI,f0,f1,f2,f3,f4,f5,f6,f7,f8,f9,f10,f11,f12,f13,f14,f15⟩:=hΦ
          refine ⟨fun _ => ?_,fun h => absurd h (by rw [Go.RE.wanted_none rfl]; decide)⟩
          have e4:a.tmps[4]? = some (.pointer (some ⟨wr.heap.size,0,none⟩)):=hf 4 (of_decide_eq_true (by kernel_rfl))
          clear hf hx hd
          go_simp
          refine hK _ _ ?_
          exact ⟨hI,fun _ => rfl,fun h => f1 h,fun h => f2 h,fun h => f3 h,fun h => f4 h,fun h => f5 h,fun h => f6 h,fun h => f7 h,fun h => f8 h,fun h => f9 h,fun h => f10 h,fun h => f11 h,fun h => f12 h,fun h => f13 h,fun h => f14 h,fun h => f15 h⟩
         ·intro L x a wR K hL hd hf hx hΦ hK
          obtain ⟨hI,f0,f1,f2,f3,f4,f5,f6,f7,f8,f9,f10,f11,f12,f13,f14,f15⟩:=hΦ
          refine ⟨fun _ => ?_,fun h => absurd h (by rw [Go.RE.wanted_none rfl]; decide)⟩
          have d0:=f0 (hd 0 (by kernel_rfl))
          have e81:a.tmps[81]? = some (x 81):=hx 0 _ 81 rfl rfl (hd 0 (by kernel_rfl))
          rw [d0] at e81
          have c:=HK.blk_cell (HBO2.out _ hI) 1
          clear hf hx hd
          go_simp
          refine hK _ _ ?_
          exact ⟨hI,fun h => f0 h,fun _ => rfl,fun h => f2 h,fun h => f3 h,fun h => f4 h,fun h => f5 h,fun h => f6 h,fun h => f7 h,fun h => f8 h,fun h => f9 h,fun h => f10 h,fun h => f11 h,fun h => f12 h,fun h => f13 h,fun h => f14 h,fun h => f15 h⟩
         ·intro L x a wR K hL hd hf hx hΦ hK
          obtain ⟨hI,f0,f1,f2,f3,f4,f5,f6,f7,f8,f9,f10,f11,f12,f13,f14,f15⟩:=hΦ
          refine ⟨fun _ => ?_,fun h => absurd h (by rw [Go.RE.wanted_none rfl]; decide)⟩
          have d1:=f1 (hd 1 (by kernel_rfl))
          have e82:a.tmps[82]? = some (x 82):=hx 1 _ 82 rfl rfl (hd 1 (by kernel_rfl))
          rw [d1] at e82
          have q:=HQ.out
          clear hf hx hd
          go_simp
          refine hK _ _ ?_
          exact ⟨hI,fun h => f0 h,fun h => f1 h,fun _ => rfl,fun h => f3 h,fun h => f4 h,fun h => f5 h,fun h => f6 h,fun h => f7 h,fun h => f8 h,fun h => f9 h,fun h => f10 h,fun h => f11 h,fun h => f12 h,fun h => f13 h,fun h => f14 h,fun h => f15 h⟩
         ·intro L x a wR K hL hd hf hx hΦ hK
          obtain ⟨hI,f0,f1,f2,f3,f4,f5,f6,f7,f8,f9,f10,f11,f12,f13,f14,f15⟩:=hΦ
          refine ⟨fun _ => ?_,fun h => absurd h (by rw [Go.RE.wanted_none rfl]; decide)⟩
          have d2:=f2 (hd 2 (by kernel_rfl))
          have e83:a.tmps[83]? = some (x 83):=hx 2 _ 83 rfl rfl (hd 2 (by kernel_rfl))
          rw [d2] at e83
          clear hf hx hd
          go_simp
          refine hK _ _ ?_
          exact ⟨hI,fun h => f0 h,fun h => f1 h,fun h => f2 h,fun _ => rfl,fun h => f4 h,fun h => f5 h,fun h => f6 h,fun h => f7 h,fun h => f8 h,fun h => f9 h,fun h => f10 h,fun h => f11 h,fun h => f12 h,fun h => f13 h,fun h => f14 h,fun h => f15 h⟩
         ·intro L x a wR K hL hd hf hx hΦ hK
          obtain ⟨hI,f0,f1,f2,f3,f4,f5,f6,f7,f8,f9,f10,f11,f12,f13,f14,f15⟩:=hΦ
          have g3:=f3 (hd 3 (by kernel_rfl))
          have ge:a.tmps[84]? = some (x 84):=hx 3 _ 84 rfl rfl (hd 3 (by kernel_rfl))
          rw [g3] at ge
          refine ⟨fun _ => ?_,fun h => absurd h (by rw [Go.RE.wanted_of rfl (Go.RE.yielded_of rfl rfl ge)]; decide)⟩
          have e4:a.tmps[4]? = some (.pointer (some ⟨wr.heap.size,0,none⟩)):=hf 4 (of_decide_eq_true (by kernel_rfl))
          clear hf hx hd
          go_simp
          refine hK _ _ ?_
          exact ⟨hI,fun h => f0 h,fun h => f1 h,fun h => f2 h,fun h => f3 h,fun _ => rfl,fun h => f5 h,fun h => f6 h,fun h => f7 h,fun h => f8 h,fun h => f9 h,fun h => f10 h,fun h => f11 h,fun h => f12 h,fun h => f13 h,fun h => f14 h,fun h => f15 h⟩
         ·intro L x a wR K hL hd hf hx hΦ hK
          obtain ⟨hI,f0,f1,f2,f3,f4,f5,f6,f7,f8,f9,f10,f11,f12,f13,f14,f15⟩:=hΦ
          have g3:=f3 (hd 3 (by kernel_rfl))
          have ge:a.tmps[84]? = some (x 84):=hx 3 _ 84 rfl rfl (hd 3 (by kernel_rfl))
          rw [g3] at ge
          refine ⟨fun _ => ?_,fun h => absurd h (by rw [Go.RE.wanted_of rfl (Go.RE.yielded_of rfl rfl ge)]; decide)⟩
          have d4:=f4 (hd 4 (by kernel_rfl))
          have e85:a.tmps[85]? = some (x 85):=hx 4 _ 85 rfl rfl (hd 4 (by kernel_rfl))
          rw [d4] at e85
          have c:=HK.blk_cell (HBO2.out _ hI) 2
          clear hf hx hd
          go_simp
          refine hK _ _ ?_
          exact ⟨hI,fun h => f0 h,fun h => f1 h,fun h => f2 h,fun h => f3 h,fun h => f4 h,fun _ => rfl,fun h => f6 h,fun h => f7 h,fun h => f8 h,fun h => f9 h,fun h => f10 h,fun h => f11 h,fun h => f12 h,fun h => f13 h,fun h => f14 h,fun h => f15 h⟩
         ·intro L x a wR K hL hd hf hx hΦ hK
          obtain ⟨hI,f0,f1,f2,f3,f4,f5,f6,f7,f8,f9,f10,f11,f12,f13,f14,f15⟩:=hΦ
          have g3:=f3 (hd 3 (by kernel_rfl))
          have ge:a.tmps[84]? = some (x 84):=hx 3 _ 84 rfl rfl (hd 3 (by kernel_rfl))
          rw [g3] at ge
          refine ⟨fun _ => ?_,fun h => absurd h (by rw [Go.RE.wanted_of rfl (Go.RE.yielded_of rfl rfl ge)]; decide)⟩
          have d5:=f5 (hd 5 (by kernel_rfl))
          have e86:a.tmps[86]? = some (x 86):=hx 5 _ 86 rfl rfl (hd 5 (by kernel_rfl))
          rw [d5] at e86
          have q:=HQ2.out
          clear hf hx hd
          go_simp
          refine hK _ _ ?_
          exact ⟨hI,fun h => f0 h,fun h => f1 h,fun h => f2 h,fun h => f3 h,fun h => f4 h,fun h => f5 h,fun _ => rfl,fun h => f7 h,fun h => f8 h,fun h => f9 h,fun h => f10 h,fun h => f11 h,fun h => f12 h,fun h => f13 h,fun h => f14 h,fun h => f15 h⟩
         ·intro L x a wR K hL hd hf hx hΦ hK
          obtain ⟨hI,f0,f1,f2,f3,f4,f5,f6,f7,f8,f9,f10,f11,f12,f13,f14,f15⟩:=hΦ
          refine ⟨fun _ => ?_,fun h => absurd h (by rw [Go.RE.wanted_none rfl]; decide)⟩
          have d3:=f3 (hd 3 (by kernel_rfl))
          have e84:a.tmps[84]? = some (x 84):=hx 3 _ 84 rfl rfl (hd 3 (by kernel_rfl))
          rw [d3] at e84
          have d6:=f6 (hd 6 (by kernel_rfl))
          have e87:a.tmps[87]? = some (x 87):=hx 6 _ 87 rfl rfl (hd 6 (by kernel_rfl))
          rw [d6] at e87
          clear hf hx hd
          go_simp
          refine hK _ _ ?_
          exact ⟨hI,fun h => f0 h,fun h => f1 h,fun h => f2 h,fun h => f3 h,fun h => f4 h,fun h => f5 h,fun h => f6 h,fun _ => rfl,fun h => f8 h,fun h => f9 h,fun h => f10 h,fun h => f11 h,fun h => f12 h,fun h => f13 h,fun h => f14 h,fun h => f15 h⟩
         ·intro L x a wR K hL hd hf hx hΦ hK
          obtain ⟨hI,f0,f1,f2,f3,f4,f5,f6,f7,f8,f9,f10,f11,f12,f13,f14,f15⟩:=hΦ
          refine ⟨fun _ => ?_,fun h => absurd h (by rw [Go.RE.wanted_none rfl]; decide)⟩
          have d7:=f7 (hd 7 (by kernel_rfl))
          have e88:a.tmps[88]? = some (x 88):=hx 7 _ 88 rfl rfl (hd 7 (by kernel_rfl))
          rw [d7] at e88
          clear hf hx hd
          go_simp
          refine hK _ _ ?_
          exact ⟨hI,fun h => f0 h,fun h => f1 h,fun h => f2 h,fun h => f3 h,fun h => f4 h,fun h => f5 h,fun h => f6 h,fun h => f7 h,fun _ => rfl,fun h => f9 h,fun h => f10 h,fun h => f11 h,fun h => f12 h,fun h => f13 h,fun h => f14 h,fun h => f15 h⟩
         ·intro L x a wR K hL hd hf hx hΦ hK
          obtain ⟨hI,f0,f1,f2,f3,f4,f5,f6,f7,f8,f9,f10,f11,f12,f13,f14,f15⟩:=hΦ
          have g8:=f8 (hd 8 (by kernel_rfl))
          have ge:a.tmps[89]? = some (x 89):=hx 8 _ 89 rfl rfl (hd 8 (by kernel_rfl))
          rw [g8] at ge
          refine ⟨fun _ => ?_,fun h => absurd h (by rw [Go.RE.wanted_of rfl (Go.RE.yielded_of rfl rfl ge)]; decide)⟩
          have e4:a.tmps[4]? = some (.pointer (some ⟨wr.heap.size,0,none⟩)):=hf 4 (of_decide_eq_true (by kernel_rfl))
          clear hf hx hd
          go_simp
          refine hK _ _ ?_
          exact ⟨hI,fun h => f0 h,fun h => f1 h,fun h => f2 h,fun h => f3 h,fun h => f4 h,fun h => f5 h,fun h => f6 h,fun h => f7 h,fun h => f8 h,fun _ => rfl,fun h => f10 h,fun h => f11 h,fun h => f12 h,fun h => f13 h,fun h => f14 h,fun h => f15 h⟩
         ·intro L x a wR K hL hd hf hx hΦ hK
          obtain ⟨hI,f0,f1,f2,f3,f4,f5,f6,f7,f8,f9,f10,f11,f12,f13,f14,f15⟩:=hΦ
          have g8:=f8 (hd 8 (by kernel_rfl))
          have ge:a.tmps[89]? = some (x 89):=hx 8 _ 89 rfl rfl (hd 8 (by kernel_rfl))
          rw [g8] at ge
          refine ⟨fun _ => ?_,fun h => absurd h (by rw [Go.RE.wanted_of rfl (Go.RE.yielded_of rfl rfl ge)]; decide)⟩
          have d9:=f9 (hd 9 (by kernel_rfl))
          have e90:a.tmps[90]? = some (x 90):=hx 9 _ 90 rfl rfl (hd 9 (by kernel_rfl))
          rw [d9] at e90
          have c:=HK.blk_cell (HBO2.out _ hI) 2
          clear hf hx hd
          go_simp
          refine hK _ _ ?_
          exact ⟨hI,fun h => f0 h,fun h => f1 h,fun h => f2 h,fun h => f3 h,fun h => f4 h,fun h => f5 h,fun h => f6 h,fun h => f7 h,fun h => f8 h,fun h => f9 h,fun _ => rfl,fun h => f11 h,fun h => f12 h,fun h => f13 h,fun h => f14 h,fun h => f15 h⟩
         ·intro L x a wR K hL hd hf hx hΦ hK
          obtain ⟨hI,f0,f1,f2,f3,f4,f5,f6,f7,f8,f9,f10,f11,f12,f13,f14,f15⟩:=hΦ
          have g8:=f8 (hd 8 (by kernel_rfl))
          have ge:a.tmps[89]? = some (x 89):=hx 8 _ 89 rfl rfl (hd 8 (by kernel_rfl))
          rw [g8] at ge
          refine ⟨fun _ => ?_,fun h => absurd h (by rw [Go.RE.wanted_of rfl (Go.RE.yielded_of rfl rfl ge)]; decide)⟩
          have e1:a.tmps[1]? = some (.pointer (some ⟨w.heap.size,0,none⟩)):=hf 1 (of_decide_eq_true (by kernel_rfl))
          clear hf hx hd
          go_simp
          refine hK _ _ ?_
          exact ⟨hI,fun h => f0 h,fun h => f1 h,fun h => f2 h,fun h => f3 h,fun h => f4 h,fun h => f5 h,fun h => f6 h,fun h => f7 h,fun h => f8 h,fun h => f9 h,fun h => f10 h,fun _ => rfl,fun h => f12 h,fun h => f13 h,fun h => f14 h,fun h => f15 h⟩
         ·intro L x a wR K hL hd hf hx hΦ hK
          obtain ⟨hI,f0,f1,f2,f3,f4,f5,f6,f7,f8,f9,f10,f11,f12,f13,f14,f15⟩:=hΦ
          have g8:=f8 (hd 8 (by kernel_rfl))
          have ge:a.tmps[89]? = some (x 89):=hx 8 _ 89 rfl rfl (hd 8 (by kernel_rfl))
          rw [g8] at ge
          refine ⟨fun _ => ?_,fun h => absurd h (by rw [Go.RE.wanted_of rfl (Go.RE.yielded_of rfl rfl ge)]; decide)⟩
          have d11:=f11 (hd 11 (by kernel_rfl))
          have e92:a.tmps[92]? = some (x 92):=hx 11 _ 92 rfl rfl (hd 11 (by kernel_rfl))
          rw [d11] at e92
          have c:=HK.blk_cell (HBK.out _ hI) 1
          clear hf hx hd
          go_simp
          refine hK _ _ ?_
          exact ⟨hI,fun h => f0 h,fun h => f1 h,fun h => f2 h,fun h => f3 h,fun h => f4 h,fun h => f5 h,fun h => f6 h,fun h => f7 h,fun h => f8 h,fun h => f9 h,fun h => f10 h,fun h => f11 h,fun _ => rfl,fun h => f13 h,fun h => f14 h,fun h => f15 h⟩
         ·intro L x a wR K hL hd hf hx hΦ hK
          obtain ⟨hI,f0,f1,f2,f3,f4,f5,f6,f7,f8,f9,f10,f11,f12,f13,f14,f15⟩:=hΦ
          have g8:=f8 (hd 8 (by kernel_rfl))
          have ge:a.tmps[89]? = some (x 89):=hx 8 _ 89 rfl rfl (hd 8 (by kernel_rfl))
          rw [g8] at ge
          refine ⟨fun _ => ?_,fun h => absurd h (by rw [Go.RE.wanted_of rfl (Go.RE.yielded_of rfl rfl ge)]; decide)⟩
          have d12:=f12 (hd 12 (by kernel_rfl))
          have e93:a.tmps[93]? = some (x 93):=hx 12 _ 93 rfl rfl (hd 12 (by kernel_rfl))
          rw [d12] at e93
          have sh1:=HF1.out
          have sh2:=(IntWalk.i64_left _).symm.trans sh1
          have qn:(0:Int) <= (n:Int):=by omega
          have hmin:min n 64 = n:=by omega
          clear hf hx hd
          go_simp
          refine hK _ _ ?_
          exact ⟨hI,fun h => f0 h,fun h => f1 h,fun h => f2 h,fun h => f3 h,fun h => f4 h,fun h => f5 h,fun h => f6 h,fun h => f7 h,fun h => f8 h,fun h => f9 h,fun h => f10 h,fun h => f11 h,fun h => f12 h,fun _ => rfl,fun h => f14 h,fun h => f15 h⟩
         ·intro L x a wR K hL hd hf hx hΦ hK
          obtain ⟨hI,f0,f1,f2,f3,f4,f5,f6,f7,f8,f9,f10,f11,f12,f13,f14,f15⟩:=hΦ
          have g8:=f8 (hd 8 (by kernel_rfl))
          have ge:a.tmps[89]? = some (x 89):=hx 8 _ 89 rfl rfl (hd 8 (by kernel_rfl))
          rw [g8] at ge
          refine ⟨fun _ => ?_,fun h => absurd h (by rw [Go.RE.wanted_of rfl (Go.RE.yielded_of rfl rfl ge)]; decide)⟩
          have d10:=f10 (hd 10 (by kernel_rfl))
          have e91:a.tmps[91]? = some (x 91):=hx 10 _ 91 rfl rfl (hd 10 (by kernel_rfl))
          rw [d10] at e91
          have d13:=f13 (hd 13 (by kernel_rfl))
          have e94:a.tmps[94]? = some (x 94):=hx 13 _ 94 rfl rfl (hd 13 (by kernel_rfl))
          rw [d13] at e94
          have q:=HQ3.out
          clear hf hx hd
          go_simp
          refine hK _ _ ?_
          exact ⟨hI,fun h => f0 h,fun h => f1 h,fun h => f2 h,fun h => f3 h,fun h => f4 h,fun h => f5 h,fun h => f6 h,fun h => f7 h,fun h => f8 h,fun h => f9 h,fun h => f10 h,fun h => f11 h,fun h => f12 h,fun h => f13 h,fun _ => rfl,fun h => f15 h⟩
         ·intro L x a wR K hL hd hf hx hΦ hK
          obtain ⟨hI,f0,f1,f2,f3,f4,f5,f6,f7,f8,f9,f10,f11,f12,f13,f14,f15⟩:=hΦ
          refine ⟨fun _ => ?_,fun h => absurd h (by rw [Go.RE.wanted_none rfl]; decide)⟩
          have d8:=f8 (hd 8 (by kernel_rfl))
          have e89:a.tmps[89]? = some (x 89):=hx 8 _ 89 rfl rfl (hd 8 (by kernel_rfl))
          rw [d8] at e89
          have d14:=f14 (hd 14 (by kernel_rfl))
          have e95:a.tmps[95]? = some (x 95):=hx 14 _ 95 rfl rfl (hd 14 (by kernel_rfl))
          rw [d14] at e95
          clear hf hx hd
          go_simp
          refine hK _ _ ?_
          exact ⟨hI,fun h => f0 h,fun h => f1 h,fun h => f2 h,fun h => f3 h,fun h => f4 h,fun h => f5 h,fun h => f6 h,fun h => f7 h,fun h => f8 h,fun h => f9 h,fun h => f10 h,fun h => f11 h,fun h => f12 h,fun h => f13 h,fun h => f14 h,fun _ => rfl⟩
         ·rintro x W ⟨hI,f0,f1,f2,f3,f4,f5,f6,f7,f8,f9,f10,f11,f12,f13,f14,f15⟩
          simp only [Exit.then]
          go_step
          go_meet
          exact ⟨true,f15 rfl,by rw [H0.out,H1.out,H2.out]; rfl,hI⟩
        ·have HQ3:Hid (decide ((z:Int) <= tr) = false):=hid (decide_eq_false h2)
         have H2:Hid (decide (tr < (z:Int)) = true):=hid (decide_eq_true (by omega))
         clear h2
         refine Go.RE.wp_region_eachg [81,82,83,84,85,86,87,88,89,90,91,92,93,94,95,96] (fun L x W => (Below (wr.alloc fb).heap.size (wr.alloc fb) W) /\ (L 0 = true -> x 81 = .pointer (some ⟨wr.heap.size,1,none⟩)) /\ (L 1 = true -> x 82 = .int .i64 ar) /\ (L 2 = true -> x 83 = .bool false) /\ (L 3 = true -> x 84 = .bool false) /\ (L 4 = true -> x 85 = .pointer (some ⟨wr.heap.size,2,none⟩)) /\ (L 5 = true -> x 86 = .int .i64 tr) /\ (L 6 = true -> x 87 = .bool false) /\ (L 7 = true -> x 88 = .bool false) /\ (L 8 = true -> x 89 = .bool false) /\ (L 9 = true -> x 90 = .pointer (some ⟨wr.heap.size,2,none⟩)) /\ (L 10 = true -> x 91 = .int .i64 tr) /\ (L 11 = true -> x 92 = .pointer (some ⟨w.heap.size,1,none⟩)) /\ (L 12 = true -> x 93 = .int .i64 (n:Int)) /\ (L 13 = true -> x 94 = .int .i64 (z:Int)) /\ (L 14 = true -> x 95 = .bool false) /\ (L 15 = true -> x 96 = .bool false)) (by kernel_rfl) (by kernel_rfl) (by kernel_rfl) ?_ ((Go.RE.Each.cons ?_ (Go.RE.Each.cons ?_ (Go.RE.Each.cons ?_ (Go.RE.Each.cons ?_ (Go.RE.Each.cons ?_ (Go.RE.Each.cons ?_ (Go.RE.Each.cons ?_ (Go.RE.Each.cons ?_ (Go.RE.Each.cons ?_ (Go.RE.Each.cons ?_ (Go.RE.Each.cons ?_ (Go.RE.Each.cons ?_ (Go.RE.Each.cons ?_ (Go.RE.Each.cons ?_ (Go.RE.Each.cons ?_ (Go.RE.Each.cons ?_ Go.RE.Each.nil))))))))))))))))) ?_
         ·exact fun x => ⟨bl_dr HB3.out,fun h => (by cases h),fun h => (by cases h),fun h => (by cases h),fun h => (by cases h),fun h => (by cases h),fun h => (by cases h),fun h => (by cases h),fun h => (by cases h),fun h => (by cases h),fun h => (by cases h),fun h => (by cases h),fun h => (by cases h),fun h => (by cases h),fun h => (by cases h),fun h => (by cases h),fun h => (by cases h)⟩
         ·intro L x a wR K hL hd hf hx hΦ hK
          obtain ⟨hI,f0,f1,f2,f3,f4,f5,f6,f7,f8,f9,f10,f11,f12,f13,f14,f15⟩:=hΦ
          refine ⟨fun _ => ?_,fun h => absurd h (by rw [Go.RE.wanted_none rfl]; decide)⟩
          have e4:a.tmps[4]? = some (.pointer (some ⟨wr.heap.size,0,none⟩)):=hf 4 (of_decide_eq_true (by kernel_rfl))
          clear hf hx hd
          go_simp
          refine hK _ _ ?_
          exact ⟨hI,fun _ => rfl,fun h => f1 h,fun h => f2 h,fun h => f3 h,fun h => f4 h,fun h => f5 h,fun h => f6 h,fun h => f7 h,fun h => f8 h,fun h => f9 h,fun h => f10 h,fun h => f11 h,fun h => f12 h,fun h => f13 h,fun h => f14 h,fun h => f15 h⟩
         ·intro L x a wR K hL hd hf hx hΦ hK
          obtain ⟨hI,f0,f1,f2,f3,f4,f5,f6,f7,f8,f9,f10,f11,f12,f13,f14,f15⟩:=hΦ
          refine ⟨fun _ => ?_,fun h => absurd h (by rw [Go.RE.wanted_none rfl]; decide)⟩
          have d0:=f0 (hd 0 (by kernel_rfl))
          have e81:a.tmps[81]? = some (x 81):=hx 0 _ 81 rfl rfl (hd 0 (by kernel_rfl))
          rw [d0] at e81
          have c:=HK.blk_cell (HBO2.out _ hI) 1
          clear hf hx hd
          go_simp
          refine hK _ _ ?_
          exact ⟨hI,fun h => f0 h,fun _ => rfl,fun h => f2 h,fun h => f3 h,fun h => f4 h,fun h => f5 h,fun h => f6 h,fun h => f7 h,fun h => f8 h,fun h => f9 h,fun h => f10 h,fun h => f11 h,fun h => f12 h,fun h => f13 h,fun h => f14 h,fun h => f15 h⟩
         ·intro L x a wR K hL hd hf hx hΦ hK
          obtain ⟨hI,f0,f1,f2,f3,f4,f5,f6,f7,f8,f9,f10,f11,f12,f13,f14,f15⟩:=hΦ
          refine ⟨fun _ => ?_,fun h => absurd h (by rw [Go.RE.wanted_none rfl]; decide)⟩
          have d1:=f1 (hd 1 (by kernel_rfl))
          have e82:a.tmps[82]? = some (x 82):=hx 1 _ 82 rfl rfl (hd 1 (by kernel_rfl))
          rw [d1] at e82
          have q:=HQ.out
          clear hf hx hd
          go_simp
          refine hK _ _ ?_
          exact ⟨hI,fun h => f0 h,fun h => f1 h,fun _ => rfl,fun h => f3 h,fun h => f4 h,fun h => f5 h,fun h => f6 h,fun h => f7 h,fun h => f8 h,fun h => f9 h,fun h => f10 h,fun h => f11 h,fun h => f12 h,fun h => f13 h,fun h => f14 h,fun h => f15 h⟩
         ·intro L x a wR K hL hd hf hx hΦ hK
          obtain ⟨hI,f0,f1,f2,f3,f4,f5,f6,f7,f8,f9,f10,f11,f12,f13,f14,f15⟩:=hΦ
          refine ⟨fun _ => ?_,fun h => absurd h (by rw [Go.RE.wanted_none rfl]; decide)⟩
          have d2:=f2 (hd 2 (by kernel_rfl))
          have e83:a.tmps[83]? = some (x 83):=hx 2 _ 83 rfl rfl (hd 2 (by kernel_rfl))
          rw [d2] at e83
          clear hf hx hd
          go_simp
          refine hK _ _ ?_
          exact ⟨hI,fun h => f0 h,fun h => f1 h,fun h => f2 h,fun _ => rfl,fun h => f4 h,fun h => f5 h,fun h => f6 h,fun h => f7 h,fun h => f8 h,fun h => f9 h,fun h => f10 h,fun h => f11 h,fun h => f12 h,fun h => f13 h,fun h => f14 h,fun h => f15 h⟩
         ·intro L x a wR K hL hd hf hx hΦ hK
          obtain ⟨hI,f0,f1,f2,f3,f4,f5,f6,f7,f8,f9,f10,f11,f12,f13,f14,f15⟩:=hΦ
          have g3:=f3 (hd 3 (by kernel_rfl))
          have ge:a.tmps[84]? = some (x 84):=hx 3 _ 84 rfl rfl (hd 3 (by kernel_rfl))
          rw [g3] at ge
          refine ⟨fun _ => ?_,fun h => absurd h (by rw [Go.RE.wanted_of rfl (Go.RE.yielded_of rfl rfl ge)]; decide)⟩
          have e4:a.tmps[4]? = some (.pointer (some ⟨wr.heap.size,0,none⟩)):=hf 4 (of_decide_eq_true (by kernel_rfl))
          clear hf hx hd
          go_simp
          refine hK _ _ ?_
          exact ⟨hI,fun h => f0 h,fun h => f1 h,fun h => f2 h,fun h => f3 h,fun _ => rfl,fun h => f5 h,fun h => f6 h,fun h => f7 h,fun h => f8 h,fun h => f9 h,fun h => f10 h,fun h => f11 h,fun h => f12 h,fun h => f13 h,fun h => f14 h,fun h => f15 h⟩
         ·intro L x a wR K hL hd hf hx hΦ hK
          obtain ⟨hI,f0,f1,f2,f3,f4,f5,f6,f7,f8,f9,f10,f11,f12,f13,f14,f15⟩:=hΦ
          have g3:=f3 (hd 3 (by kernel_rfl))
          have ge:a.tmps[84]? = some (x 84):=hx 3 _ 84 rfl rfl (hd 3 (by kernel_rfl))
          rw [g3] at ge
          refine ⟨fun _ => ?_,fun h => absurd h (by rw [Go.RE.wanted_of rfl (Go.RE.yielded_of rfl rfl ge)]; decide)⟩
          have d4:=f4 (hd 4 (by kernel_rfl))
          have e85:a.tmps[85]? = some (x 85):=hx 4 _ 85 rfl rfl (hd 4 (by kernel_rfl))
          rw [d4] at e85
          have c:=HK.blk_cell (HBO2.out _ hI) 2
          clear hf hx hd
          go_simp
          refine hK _ _ ?_
          exact ⟨hI,fun h => f0 h,fun h => f1 h,fun h => f2 h,fun h => f3 h,fun h => f4 h,fun _ => rfl,fun h => f6 h,fun h => f7 h,fun h => f8 h,fun h => f9 h,fun h => f10 h,fun h => f11 h,fun h => f12 h,fun h => f13 h,fun h => f14 h,fun h => f15 h⟩
         ·intro L x a wR K hL hd hf hx hΦ hK
          obtain ⟨hI,f0,f1,f2,f3,f4,f5,f6,f7,f8,f9,f10,f11,f12,f13,f14,f15⟩:=hΦ
          have g3:=f3 (hd 3 (by kernel_rfl))
          have ge:a.tmps[84]? = some (x 84):=hx 3 _ 84 rfl rfl (hd 3 (by kernel_rfl))
          rw [g3] at ge
          refine ⟨fun _ => ?_,fun h => absurd h (by rw [Go.RE.wanted_of rfl (Go.RE.yielded_of rfl rfl ge)]; decide)⟩
          have d5:=f5 (hd 5 (by kernel_rfl))
          have e86:a.tmps[86]? = some (x 86):=hx 5 _ 86 rfl rfl (hd 5 (by kernel_rfl))
          rw [d5] at e86
          have q:=HQ2.out
          clear hf hx hd
          go_simp
          refine hK _ _ ?_
          exact ⟨hI,fun h => f0 h,fun h => f1 h,fun h => f2 h,fun h => f3 h,fun h => f4 h,fun h => f5 h,fun _ => rfl,fun h => f7 h,fun h => f8 h,fun h => f9 h,fun h => f10 h,fun h => f11 h,fun h => f12 h,fun h => f13 h,fun h => f14 h,fun h => f15 h⟩
         ·intro L x a wR K hL hd hf hx hΦ hK
          obtain ⟨hI,f0,f1,f2,f3,f4,f5,f6,f7,f8,f9,f10,f11,f12,f13,f14,f15⟩:=hΦ
          refine ⟨fun _ => ?_,fun h => absurd h (by rw [Go.RE.wanted_none rfl]; decide)⟩
          have d3:=f3 (hd 3 (by kernel_rfl))
          have e84:a.tmps[84]? = some (x 84):=hx 3 _ 84 rfl rfl (hd 3 (by kernel_rfl))
          rw [d3] at e84
          have d6:=f6 (hd 6 (by kernel_rfl))
          have e87:a.tmps[87]? = some (x 87):=hx 6 _ 87 rfl rfl (hd 6 (by kernel_rfl))
          rw [d6] at e87
          clear hf hx hd
          go_simp
          refine hK _ _ ?_
          exact ⟨hI,fun h => f0 h,fun h => f1 h,fun h => f2 h,fun h => f3 h,fun h => f4 h,fun h => f5 h,fun h => f6 h,fun _ => rfl,fun h => f8 h,fun h => f9 h,fun h => f10 h,fun h => f11 h,fun h => f12 h,fun h => f13 h,fun h => f14 h,fun h => f15 h⟩
         ·intro L x a wR K hL hd hf hx hΦ hK
          obtain ⟨hI,f0,f1,f2,f3,f4,f5,f6,f7,f8,f9,f10,f11,f12,f13,f14,f15⟩:=hΦ
          refine ⟨fun _ => ?_,fun h => absurd h (by rw [Go.RE.wanted_none rfl]; decide)⟩
          have d7:=f7 (hd 7 (by kernel_rfl))
          have e88:a.tmps[88]? = some (x 88):=hx 7 _ 88 rfl rfl (hd 7 (by kernel_rfl))
          rw [d7] at e88
          clear hf hx hd
          go_simp
          refine hK _ _ ?_
          exact ⟨hI,fun h => f0 h,fun h => f1 h,fun h => f2 h,fun h => f3 h,fun h => f4 h,fun h => f5 h,fun h => f6 h,fun h => f7 h,fun _ => rfl,fun h => f9 h,fun h => f10 h,fun h => f11 h,fun h => f12 h,fun h => f13 h,fun h => f14 h,fun h => f15 h⟩
         ·intro L x a wR K hL hd hf hx hΦ hK
          obtain ⟨hI,f0,f1,f2,f3,f4,f5,f6,f7,f8,f9,f10,f11,f12,f13,f14,f15⟩:=hΦ
          have g8:=f8 (hd 8 (by kernel_rfl))
          have ge:a.tmps[89]? = some (x 89):=hx 8 _ 89 rfl rfl (hd 8 (by kernel_rfl))
          rw [g8] at ge
          refine ⟨fun _ => ?_,fun h => absurd h (by rw [Go.RE.wanted_of rfl (Go.RE.yielded_of rfl rfl ge)]; decide)⟩
          have e4:a.tmps[4]? = some (.pointer (some ⟨wr.heap.size,0,none⟩)):=hf 4 (of_decide_eq_true (by kernel_rfl))
          clear hf hx hd
          go_simp
          refine hK _ _ ?_
          exact ⟨hI,fun h => f0 h,fun h => f1 h,fun h => f2 h,fun h => f3 h,fun h => f4 h,fun h => f5 h,fun h => f6 h,fun h => f7 h,fun h => f8 h,fun _ => rfl,fun h => f10 h,fun h => f11 h,fun h => f12 h,fun h => f13 h,fun h => f14 h,fun h => f15 h⟩
         ·intro L x a wR K hL hd hf hx hΦ hK
          obtain ⟨hI,f0,f1,f2,f3,f4,f5,f6,f7,f8,f9,f10,f11,f12,f13,f14,f15⟩:=hΦ
          have g8:=f8 (hd 8 (by kernel_rfl))
          have ge:a.tmps[89]? = some (x 89):=hx 8 _ 89 rfl rfl (hd 8 (by kernel_rfl))
          rw [g8] at ge
          refine ⟨fun _ => ?_,fun h => absurd h (by rw [Go.RE.wanted_of rfl (Go.RE.yielded_of rfl rfl ge)]; decide)⟩
          have d9:=f9 (hd 9 (by kernel_rfl))
          have e90:a.tmps[90]? = some (x 90):=hx 9 _ 90 rfl rfl (hd 9 (by kernel_rfl))
          rw [d9] at e90
          have c:=HK.blk_cell (HBO2.out _ hI) 2
          clear hf hx hd
          go_simp
          refine hK _ _ ?_
          exact ⟨hI,fun h => f0 h,fun h => f1 h,fun h => f2 h,fun h => f3 h,fun h => f4 h,fun h => f5 h,fun h => f6 h,fun h => f7 h,fun h => f8 h,fun h => f9 h,fun _ => rfl,fun h => f11 h,fun h => f12 h,fun h => f13 h,fun h => f14 h,fun h => f15 h⟩
         ·intro L x a wR K hL hd hf hx hΦ hK
          obtain ⟨hI,f0,f1,f2,f3,f4,f5,f6,f7,f8,f9,f10,f11,f12,f13,f14,f15⟩:=hΦ
          have g8:=f8 (hd 8 (by kernel_rfl))
          have ge:a.tmps[89]? = some (x 89):=hx 8 _ 89 rfl rfl (hd 8 (by kernel_rfl))
          rw [g8] at ge
          refine ⟨fun _ => ?_,fun h => absurd h (by rw [Go.RE.wanted_of rfl (Go.RE.yielded_of rfl rfl ge)]; decide)⟩
          have e1:a.tmps[1]? = some (.pointer (some ⟨w.heap.size,0,none⟩)):=hf 1 (of_decide_eq_true (by kernel_rfl))
          clear hf hx hd
          go_simp
          refine hK _ _ ?_
          exact ⟨hI,fun h => f0 h,fun h => f1 h,fun h => f2 h,fun h => f3 h,fun h => f4 h,fun h => f5 h,fun h => f6 h,fun h => f7 h,fun h => f8 h,fun h => f9 h,fun h => f10 h,fun _ => rfl,fun h => f12 h,fun h => f13 h,fun h => f14 h,fun h => f15 h⟩
         ·intro L x a wR K hL hd hf hx hΦ hK
          obtain ⟨hI,f0,f1,f2,f3,f4,f5,f6,f7,f8,f9,f10,f11,f12,f13,f14,f15⟩:=hΦ
          have g8:=f8 (hd 8 (by kernel_rfl))
          have ge:a.tmps[89]? = some (x 89):=hx 8 _ 89 rfl rfl (hd 8 (by kernel_rfl))
          rw [g8] at ge
          refine ⟨fun _ => ?_,fun h => absurd h (by rw [Go.RE.wanted_of rfl (Go.RE.yielded_of rfl rfl ge)]; decide)⟩
          have d11:=f11 (hd 11 (by kernel_rfl))
          have e92:a.tmps[92]? = some (x 92):=hx 11 _ 92 rfl rfl (hd 11 (by kernel_rfl))
          rw [d11] at e92
          have c:=HK.blk_cell (HBK.out _ hI) 1
          clear hf hx hd
          go_simp
          refine hK _ _ ?_
          exact ⟨hI,fun h => f0 h,fun h => f1 h,fun h => f2 h,fun h => f3 h,fun h => f4 h,fun h => f5 h,fun h => f6 h,fun h => f7 h,fun h => f8 h,fun h => f9 h,fun h => f10 h,fun h => f11 h,fun _ => rfl,fun h => f13 h,fun h => f14 h,fun h => f15 h⟩
         ·intro L x a wR K hL hd hf hx hΦ hK
          obtain ⟨hI,f0,f1,f2,f3,f4,f5,f6,f7,f8,f9,f10,f11,f12,f13,f14,f15⟩:=hΦ
          have g8:=f8 (hd 8 (by kernel_rfl))
          have ge:a.tmps[89]? = some (x 89):=hx 8 _ 89 rfl rfl (hd 8 (by kernel_rfl))
          rw [g8] at ge
          refine ⟨fun _ => ?_,fun h => absurd h (by rw [Go.RE.wanted_of rfl (Go.RE.yielded_of rfl rfl ge)]; decide)⟩
          have d12:=f12 (hd 12 (by kernel_rfl))
          have e93:a.tmps[93]? = some (x 93):=hx 12 _ 93 rfl rfl (hd 12 (by kernel_rfl))
          rw [d12] at e93
          have sh1:=HF1.out
          have sh2:=(IntWalk.i64_left _).symm.trans sh1
          have qn:(0:Int) <= (n:Int):=by omega
          have hmin:min n 64 = n:=by omega
          clear hf hx hd
          go_simp
          refine hK _ _ ?_
          exact ⟨hI,fun h => f0 h,fun h => f1 h,fun h => f2 h,fun h => f3 h,fun h => f4 h,fun h => f5 h,fun h => f6 h,fun h => f7 h,fun h => f8 h,fun h => f9 h,fun h => f10 h,fun h => f11 h,fun h => f12 h,fun _ => rfl,fun h => f14 h,fun h => f15 h⟩
         ·intro L x a wR K hL hd hf hx hΦ hK
          obtain ⟨hI,f0,f1,f2,f3,f4,f5,f6,f7,f8,f9,f10,f11,f12,f13,f14,f15⟩:=hΦ
          have g8:=f8 (hd 8 (by kernel_rfl))
          have ge:a.tmps[89]? = some (x 89):=hx 8 _ 89 rfl rfl (hd 8 (by kernel_rfl))
          rw [g8] at ge
          refine ⟨fun _ => ?_,fun h => absurd h (by rw [Go.RE.wanted_of rfl (Go.RE.yielded_of rfl rfl ge)]; decide)⟩
          have d10:=f10 (hd 10 (by kernel_rfl))
          have e91:a.tmps[91]? = some (x 91):=hx 10 _ 91 rfl rfl (hd 10 (by kernel_rfl))
          rw [d10] at e91
          have d13:=f13 (hd 13 (by kernel_rfl))
          have e94:a.tmps[94]? = some (x 94):=hx 13 _ 94 rfl rfl (hd 13 (by kernel_rfl))
          rw [d13] at e94
          have q:=HQ3.out
          clear hf hx hd
          go_simp
          refine hK _ _ ?_
          exact ⟨hI,fun h => f0 h,fun h => f1 h,fun h => f2 h,fun h => f3 h,fun h => f4 h,fun h => f5 h,fun h => f6 h,fun h => f7 h,fun h => f8 h,fun h => f9 h,fun h => f10 h,fun h => f11 h,fun h => f12 h,fun h => f13 h,fun _ => rfl,fun h => f15 h⟩
         ·intro L x a wR K hL hd hf hx hΦ hK
          obtain ⟨hI,f0,f1,f2,f3,f4,f5,f6,f7,f8,f9,f10,f11,f12,f13,f14,f15⟩:=hΦ
          refine ⟨fun _ => ?_,fun h => absurd h (by rw [Go.RE.wanted_none rfl]; decide)⟩
          have d8:=f8 (hd 8 (by kernel_rfl))
          have e89:a.tmps[89]? = some (x 89):=hx 8 _ 89 rfl rfl (hd 8 (by kernel_rfl))
          rw [d8] at e89
          have d14:=f14 (hd 14 (by kernel_rfl))
          have e95:a.tmps[95]? = some (x 95):=hx 14 _ 95 rfl rfl (hd 14 (by kernel_rfl))
          rw [d14] at e95
          clear hf hx hd
          go_simp
          refine hK _ _ ?_
          exact ⟨hI,fun h => f0 h,fun h => f1 h,fun h => f2 h,fun h => f3 h,fun h => f4 h,fun h => f5 h,fun h => f6 h,fun h => f7 h,fun h => f8 h,fun h => f9 h,fun h => f10 h,fun h => f11 h,fun h => f12 h,fun h => f13 h,fun h => f14 h,fun _ => rfl⟩
         ·rintro x W ⟨hI,f0,f1,f2,f3,f4,f5,f6,f7,f8,f9,f10,f11,f12,f13,f14,f15⟩
          simp only [Exit.then]
          go_step
          go_meet
          exact ⟨false,f15 rfl,by rw [H0.out,H1.out,H2.out]; rfl,hI⟩
      ·have HQ:Hid ((ar != 0) = true):=hid (by simpa using h0)
       have H0:=hid (decide_eq_false h0)
       clear h0
       refine Go.RE.wp_region_eachg [81,82,83,84,85,86,87,88,89,90,91,92,93,94,95,96] (fun L x W => (Below (wr.alloc fb).heap.size (wr.alloc fb) W) /\ (L 0 = true -> x 81 = .pointer (some ⟨wr.heap.size,1,none⟩)) /\ (L 1 = true -> x 82 = .int .i64 ar) /\ (L 2 = true -> x 83 = .bool true) /\ (L 3 = true -> x 84 = .bool true) /\ (L 4 = true -> x 85 = undef) /\ (L 5 = true -> x 86 = undef) /\ (L 6 = true -> x 87 = undef) /\ (L 7 = true -> x 88 = .bool true) /\ (L 8 = true -> x 89 = .bool true) /\ (L 9 = true -> x 90 = undef) /\ (L 10 = true -> x 91 = undef) /\ (L 11 = true -> x 92 = undef) /\ (L 12 = true -> x 93 = undef) /\ (L 13 = true -> x 94 = undef) /\ (L 14 = true -> x 95 = undef) /\ (L 15 = true -> x 96 = .bool true)) (by kernel_rfl) (by kernel_rfl) (by kernel_rfl) ?_ ((Go.RE.Each.cons ?_ (Go.RE.Each.cons ?_ (Go.RE.Each.cons ?_ (Go.RE.Each.cons ?_ (Go.RE.Each.cons ?_ (Go.RE.Each.cons ?_ (Go.RE.Each.cons ?_ (Go.RE.Each.cons ?_ (Go.RE.Each.cons ?_ (Go.RE.Each.cons ?_ (Go.RE.Each.cons ?_ (Go.RE.Each.cons ?_ (Go.RE.Each.cons ?_ (Go.RE.Each.cons ?_ (Go.RE.Each.cons ?_ (Go.RE.Each.cons ?_ Go.RE.Each.nil))))))))))))))))) ?_
       ·exact fun x => ⟨bl_dr HB3.out,fun h => (by cases h),fun h => (by cases h),fun h => (by cases h),fun h => (by cases h),fun h => (by cases h),fun h => (by cases h),fun h => (by cases h),fun h => (by cases h),fun h => (by cases h),fun h => (by cases h),fun h => (by cases h),fun h => (by cases h),fun h => (by cases h),fun h => (by cases h),fun h => (by cases h),fun h => (by cases h)⟩
       ·intro L x a wR K hL hd hf hx hΦ hK
        obtain ⟨hI,f0,f1,f2,f3,f4,f5,f6,f7,f8,f9,f10,f11,f12,f13,f14,f15⟩:=hΦ
        refine ⟨fun _ => ?_,fun h => absurd h (by rw [Go.RE.wanted_none rfl]; decide)⟩
        have e4:a.tmps[4]? = some (.pointer (some ⟨wr.heap.size,0,none⟩)):=hf 4 (of_decide_eq_true (by kernel_rfl))
        clear hf hx hd
        go_simp
        refine hK _ _ ?_
        exact ⟨hI,fun _ => rfl,fun h => f1 h,fun h => f2 h,fun h => f3 h,fun h => f4 h,fun h => f5 h,fun h => f6 h,fun h => f7 h,fun h => f8 h,fun h => f9 h,fun h => f10 h,fun h => f11 h,fun h => f12 h,fun h => f13 h,fun h => f14 h,fun h => f15 h⟩
       ·intro L x a wR K hL hd hf hx hΦ hK
        obtain ⟨hI,f0,f1,f2,f3,f4,f5,f6,f7,f8,f9,f10,f11,f12,f13,f14,f15⟩:=hΦ
        refine ⟨fun _ => ?_,fun h => absurd h (by rw [Go.RE.wanted_none rfl]; decide)⟩
        have d0:=f0 (hd 0 (by kernel_rfl))
        have e81:a.tmps[81]? = some (x 81):=hx 0 _ 81 rfl rfl (hd 0 (by kernel_rfl))
        rw [d0] at e81
        have c:=HK.blk_cell (HBO2.out _ hI) 1
        clear hf hx hd
        go_simp
        refine hK _ _ ?_
        exact ⟨hI,fun h => f0 h,fun _ => rfl,fun h => f2 h,fun h => f3 h,fun h => f4 h,fun h => f5 h,fun h => f6 h,fun h => f7 h,fun h => f8 h,fun h => f9 h,fun h => f10 h,fun h => f11 h,fun h => f12 h,fun h => f13 h,fun h => f14 h,fun h => f15 h⟩
       ·intro L x a wR K hL hd hf hx hΦ hK
        obtain ⟨hI,f0,f1,f2,f3,f4,f5,f6,f7,f8,f9,f10,f11,f12,f13,f14,f15⟩:=hΦ
        refine ⟨fun _ => ?_,fun h => absurd h (by rw [Go.RE.wanted_none rfl]; decide)⟩
        have d1:=f1 (hd 1 (by kernel_rfl))
        have e82:a.tmps[82]? = some (x 82):=hx 1 _ 82 rfl rfl (hd 1 (by kernel_rfl))
        rw [d1] at e82
        have q:=HQ.out
        clear hf hx hd
        go_simp
        refine hK _ _ ?_
        exact ⟨hI,fun h => f0 h,fun h => f1 h,fun _ => rfl,fun h => f3 h,fun h => f4 h,fun h => f5 h,fun h => f6 h,fun h => f7 h,fun h => f8 h,fun h => f9 h,fun h => f10 h,fun h => f11 h,fun h => f12 h,fun h => f13 h,fun h => f14 h,fun h => f15 h⟩
       ·intro L x a wR K hL hd hf hx hΦ hK
        obtain ⟨hI,f0,f1,f2,f3,f4,f5,f6,f7,f8,f9,f10,f11,f12,f13,f14,f15⟩:=hΦ
        refine ⟨fun _ => ?_,fun h => absurd h (by rw [Go.RE.wanted_none rfl]; decide)⟩
        have d2:=f2 (hd 2 (by kernel_rfl))
        have e83:a.tmps[83]? = some (x 83):=hx 2 _ 83 rfl rfl (hd 2 (by kernel_rfl))
        rw [d2] at e83
        clear hf hx hd
        go_simp
        refine hK _ _ ?_
        exact ⟨hI,fun h => f0 h,fun h => f1 h,fun h => f2 h,fun _ => rfl,fun h => f4 h,fun h => f5 h,fun h => f6 h,fun h => f7 h,fun h => f8 h,fun h => f9 h,fun h => f10 h,fun h => f11 h,fun h => f12 h,fun h => f13 h,fun h => f14 h,fun h => f15 h⟩
       ·intro L x a wR K hL hd hf hx hΦ hK
        obtain ⟨hI,f0,f1,f2,f3,f4,f5,f6,f7,f8,f9,f10,f11,f12,f13,f14,f15⟩:=hΦ
        have g3:=f3 (hd 3 (by kernel_rfl))
        have ge:a.tmps[84]? = some (x 84):=hx 3 _ 84 rfl rfl (hd 3 (by kernel_rfl))
        rw [g3] at ge
        refine ⟨fun h => absurd h (by rw [Go.RE.wanted_of rfl (Go.RE.yielded_of rfl rfl ge)]; decide),fun _ => ?_⟩
        refine hK undef _ ?_
        exact ⟨hI,fun h => f0 h,fun h => f1 h,fun h => f2 h,fun h => f3 h,fun _ => rfl,fun h => f5 h,fun h => f6 h,fun h => f7 h,fun h => f8 h,fun h => f9 h,fun h => f10 h,fun h => f11 h,fun h => f12 h,fun h => f13 h,fun h => f14 h,fun h => f15 h⟩
       ·intro L x a wR K hL hd hf hx hΦ hK
        obtain ⟨hI,f0,f1,f2,f3,f4,f5,f6,f7,f8,f9,f10,f11,f12,f13,f14,f15⟩:=hΦ
        have g3:=f3 (hd 3 (by kernel_rfl))
        have ge:a.tmps[84]? = some (x 84):=hx 3 _ 84 rfl rfl (hd 3 (by kernel_rfl))
        rw [g3] at ge
        refine ⟨fun h => absurd h (by rw [Go.RE.wanted_of rfl (Go.RE.yielded_of rfl rfl ge)]; decide),fun _ => ?_⟩
        refine hK undef _ ?_
        exact ⟨hI,fun h => f0 h,fun h => f1 h,fun h => f2 h,fun h => f3 h,fun h => f4 h,fun _ => rfl,fun h => f6 h,fun h => f7 h,fun h => f8 h,fun h => f9 h,fun h => f10 h,fun h => f11 h,fun h => f12 h,fun h => f13 h,fun h => f14 h,fun h => f15 h⟩
       ·intro L x a wR K hL hd hf hx hΦ hK
        obtain ⟨hI,f0,f1,f2,f3,f4,f5,f6,f7,f8,f9,f10,f11,f12,f13,f14,f15⟩:=hΦ
        have g3:=f3 (hd 3 (by kernel_rfl))
        have ge:a.tmps[84]? = some (x 84):=hx 3 _ 84 rfl rfl (hd 3 (by kernel_rfl))
        rw [g3] at ge
        refine ⟨fun h => absurd h (by rw [Go.RE.wanted_of rfl (Go.RE.yielded_of rfl rfl ge)]; decide),fun _ => ?_⟩
        refine hK undef _ ?_
        exact ⟨hI,fun h => f0 h,fun h => f1 h,fun h => f2 h,fun h => f3 h,fun h => f4 h,fun h => f5 h,fun _ => rfl,fun h => f7 h,fun h => f8 h,fun h => f9 h,fun h => f10 h,fun h => f11 h,fun h => f12 h,fun h => f13 h,fun h => f14 h,fun h => f15 h⟩
       ·intro L x a wR K hL hd hf hx hΦ hK
        obtain ⟨hI,f0,f1,f2,f3,f4,f5,f6,f7,f8,f9,f10,f11,f12,f13,f14,f15⟩:=hΦ
        refine ⟨fun _ => ?_,fun h => absurd h (by rw [Go.RE.wanted_none rfl]; decide)⟩
        have d3:=f3 (hd 3 (by kernel_rfl))
        have e84:a.tmps[84]? = some (x 84):=hx 3 _ 84 rfl rfl (hd 3 (by kernel_rfl))
        rw [d3] at e84
        have d6:=f6 (hd 6 (by kernel_rfl))
        have e87:a.tmps[87]? = some (x 87):=hx 6 _ 87 rfl rfl (hd 6 (by kernel_rfl))
        rw [d6] at e87
        clear hf hx hd
        go_simp
        refine hK _ _ ?_
        exact ⟨hI,fun h => f0 h,fun h => f1 h,fun h => f2 h,fun h => f3 h,fun h => f4 h,fun h => f5 h,fun h => f6 h,fun _ => rfl,fun h => f8 h,fun h => f9 h,fun h => f10 h,fun h => f11 h,fun h => f12 h,fun h => f13 h,fun h => f14 h,fun h => f15 h⟩
       ·intro L x a wR K hL hd hf hx hΦ hK
        obtain ⟨hI,f0,f1,f2,f3,f4,f5,f6,f7,f8,f9,f10,f11,f12,f13,f14,f15⟩:=hΦ
        refine ⟨fun _ => ?_,fun h => absurd h (by rw [Go.RE.wanted_none rfl]; decide)⟩
        have d7:=f7 (hd 7 (by kernel_rfl))
        have e88:a.tmps[88]? = some (x 88):=hx 7 _ 88 rfl rfl (hd 7 (by kernel_rfl))
        rw [d7] at e88
        clear hf hx hd
        go_simp
        refine hK _ _ ?_
        exact ⟨hI,fun h => f0 h,fun h => f1 h,fun h => f2 h,fun h => f3 h,fun h => f4 h,fun h => f5 h,fun h => f6 h,fun h => f7 h,fun _ => rfl,fun h => f9 h,fun h => f10 h,fun h => f11 h,fun h => f12 h,fun h => f13 h,fun h => f14 h,fun h => f15 h⟩
       ·intro L x a wR K hL hd hf hx hΦ hK
        obtain ⟨hI,f0,f1,f2,f3,f4,f5,f6,f7,f8,f9,f10,f11,f12,f13,f14,f15⟩:=hΦ
        have g8:=f8 (hd 8 (by kernel_rfl))
        have ge:a.tmps[89]? = some (x 89):=hx 8 _ 89 rfl rfl (hd 8 (by kernel_rfl))
        rw [g8] at ge
        refine ⟨fun h => absurd h (by rw [Go.RE.wanted_of rfl (Go.RE.yielded_of rfl rfl ge)]; decide),fun _ => ?_⟩
        refine hK undef _ ?_
        exact ⟨hI,fun h => f0 h,fun h => f1 h,fun h => f2 h,fun h => f3 h,fun h => f4 h,fun h => f5 h,fun h => f6 h,fun h => f7 h,fun h => f8 h,fun _ => rfl,fun h => f10 h,fun h => f11 h,fun h => f12 h,fun h => f13 h,fun h => f14 h,fun h => f15 h⟩
       ·intro L x a wR K hL hd hf hx hΦ hK
        obtain ⟨hI,f0,f1,f2,f3,f4,f5,f6,f7,f8,f9,f10,f11,f12,f13,f14,f15⟩:=hΦ
        have g8:=f8 (hd 8 (by kernel_rfl))
        have ge:a.tmps[89]? = some (x 89):=hx 8 _ 89 rfl rfl (hd 8 (by kernel_rfl))
        rw [g8] at ge
        refine ⟨fun h => absurd h (by rw [Go.RE.wanted_of rfl (Go.RE.yielded_of rfl rfl ge)]; decide),fun _ => ?_⟩
        refine hK undef _ ?_
        exact ⟨hI,fun h => f0 h,fun h => f1 h,fun h => f2 h,fun h => f3 h,fun h => f4 h,fun h => f5 h,fun h => f6 h,fun h => f7 h,fun h => f8 h,fun h => f9 h,fun _ => rfl,fun h => f11 h,fun h => f12 h,fun h => f13 h,fun h => f14 h,fun h => f15 h⟩
       ·intro L x a wR K hL hd hf hx hΦ hK
        obtain ⟨hI,f0,f1,f2,f3,f4,f5,f6,f7,f8,f9,f10,f11,f12,f13,f14,f15⟩:=hΦ
        have g8:=f8 (hd 8 (by kernel_rfl))
        have ge:a.tmps[89]? = some (x 89):=hx 8 _ 89 rfl rfl (hd 8 (by kernel_rfl))
        rw [g8] at ge
        refine ⟨fun h => absurd h (by rw [Go.RE.wanted_of rfl (Go.RE.yielded_of rfl rfl ge)]; decide),fun _ => ?_⟩
        refine hK undef _ ?_
        exact ⟨hI,fun h => f0 h,fun h => f1 h,fun h => f2 h,fun h => f3 h,fun h => f4 h,fun h => f5 h,fun h => f6 h,fun h => f7 h,fun h => f8 h,fun h => f9 h,fun h => f10 h,fun _ => rfl,fun h => f12 h,fun h => f13 h,fun h => f14 h,fun h => f15 h⟩
       ·intro L x a wR K hL hd hf hx hΦ hK
        obtain ⟨hI,f0,f1,f2,f3,f4,f5,f6,f7,f8,f9,f10,f11,f12,f13,f14,f15⟩:=hΦ
        have g8:=f8 (hd 8 (by kernel_rfl))
        have ge:a.tmps[89]? = some (x 89):=hx 8 _ 89 rfl rfl (hd 8 (by kernel_rfl))
        rw [g8] at ge
        refine ⟨fun h => absurd h (by rw [Go.RE.wanted_of rfl (Go.RE.yielded_of rfl rfl ge)]; decide),fun _ => ?_⟩
        refine hK undef _ ?_
        exact ⟨hI,fun h => f0 h,fun h => f1 h,fun h => f2 h,fun h => f3 h,fun h => f4 h,fun h => f5 h,fun h => f6 h,fun h => f7 h,fun h => f8 h,fun h => f9 h,fun h => f10 h,fun h => f11 h,fun _ => rfl,fun h => f13 h,fun h => f14 h,fun h => f15 h⟩
       ·intro L x a wR K hL hd hf hx hΦ hK
        obtain ⟨hI,f0,f1,f2,f3,f4,f5,f6,f7,f8,f9,f10,f11,f12,f13,f14,f15⟩:=hΦ
        have g8:=f8 (hd 8 (by kernel_rfl))
        have ge:a.tmps[89]? = some (x 89):=hx 8 _ 89 rfl rfl (hd 8 (by kernel_rfl))
        rw [g8] at ge
        refine ⟨fun h => absurd h (by rw [Go.RE.wanted_of rfl (Go.RE.yielded_of rfl rfl ge)]; decide),fun _ => ?_⟩
        refine hK undef _ ?_
        exact ⟨hI,fun h => f0 h,fun h => f1 h,fun h => f2 h,fun h => f3 h,fun h => f4 h,fun h => f5 h,fun h => f6 h,fun h => f7 h,fun h => f8 h,fun h => f9 h,fun h => f10 h,fun h => f11 h,fun h => f12 h,fun _ => rfl,fun h => f14 h,fun h => f15 h⟩
       ·intro L x a wR K hL hd hf hx hΦ hK
        obtain ⟨hI,f0,f1,f2,f3,f4,f5,f6,f7,f8,f9,f10,f11,f12,f13,f14,f15⟩:=hΦ
        have g8:=f8 (hd 8 (by kernel_rfl))
        have ge:a.tmps[89]? = some (x 89):=hx 8 _ 89 rfl rfl (hd 8 (by kernel_rfl))
        rw [g8] at ge
        refine ⟨fun h => absurd h (by rw [Go.RE.wanted_of rfl (Go.RE.yielded_of rfl rfl ge)]; decide),fun _ => ?_⟩
        refine hK undef _ ?_
        exact ⟨hI,fun h => f0 h,fun h => f1 h,fun h => f2 h,fun h => f3 h,fun h => f4 h,fun h => f5 h,fun h => f6 h,fun h => f7 h,fun h => f8 h,fun h => f9 h,fun h => f10 h,fun h => f11 h,fun h => f12 h,fun h => f13 h,fun _ => rfl,fun h => f15 h⟩
       ·intro L x a wR K hL hd hf hx hΦ hK
        obtain ⟨hI,f0,f1,f2,f3,f4,f5,f6,f7,f8,f9,f10,f11,f12,f13,f14,f15⟩:=hΦ
        refine ⟨fun _ => ?_,fun h => absurd h (by rw [Go.RE.wanted_none rfl]; decide)⟩
        have d8:=f8 (hd 8 (by kernel_rfl))
        have e89:a.tmps[89]? = some (x 89):=hx 8 _ 89 rfl rfl (hd 8 (by kernel_rfl))
        rw [d8] at e89
        have d14:=f14 (hd 14 (by kernel_rfl))
        have e95:a.tmps[95]? = some (x 95):=hx 14 _ 95 rfl rfl (hd 14 (by kernel_rfl))
        rw [d14] at e95
        clear hf hx hd
        go_simp
        refine hK _ _ ?_
        exact ⟨hI,fun h => f0 h,fun h => f1 h,fun h => f2 h,fun h => f3 h,fun h => f4 h,fun h => f5 h,fun h => f6 h,fun h => f7 h,fun h => f8 h,fun h => f9 h,fun h => f10 h,fun h => f11 h,fun h => f12 h,fun h => f13 h,fun h => f14 h,fun _ => rfl⟩
       ·rintro x W ⟨hI,f0,f1,f2,f3,f4,f5,f6,f7,f8,f9,f10,f11,f12,f13,f14,f15⟩
        simp only [Exit.then]
        go_step
        go_meet
        exact ⟨true,f15 rfl,by rw [H0.out]; rfl,hI⟩
     case rest =>
      obtain ⟨xb,rfl,hxb,hB4⟩:=hcut
      have HXB:=hid hxb
      have HB4:=hid hB4
      clear hxb hB4
      cases xb
      case true =>
       go_wp2_with (fail)
       go_ret
       exact ⟨by rw [HNO.out (by rw [HFE.out,show (decide (ar = 0) && decide (0 <= tr) && decide (tr < (z:Int))) = false from not_f HXB.out]; rfl)]; rfl,HBW.out.trans ((HBB.out _ HB4.out).mono HBW.out.size)⟩
      case false =>
       have HXT:Hid ((decide (ar = 0) && decide (0 <= tr) && decide (tr < (z:Int))) = true):=hid (not_t HXB.out)
       have hx3:=HXT.out
       rw [Bool.and_eq_true,Bool.and_eq_true,decide_eq_true_iff,decide_eq_true_iff,decide_eq_true_iff] at hx3
       obtain ⟨m,hm⟩:∃ m:Nat,tr = (m:Int):=⟨tr.toNat,by omega⟩
       have hm16:m < 16:=by omega
       clear hx3
       obtain ⟨w4,hw4⟩:∃ w4:World,w4 = wc:=⟨_,rfl⟩
       subst hw4
       have hbk:=HBK.out _ HB4.out
       have x0:=HK.blk_cell hbk 0
       have x2:=HK.blk_cell hbk 2
       have y2:=HK.blk_cell (HBO2.out _ HB4.out) 2
       have HK0:=hid hbk
       have HBW4:Hid (Below w.heap.size w w4):=hid (HBW.out.trans ((HBB.out _ HB4.out).mono HBW.out.size))
       clear hbk
       have HM:Hid (tr.toNat = m):=hid (by omega)
       have hps:=persists_call w4 g o n c rel (HR.out.below HBW4.out) HN.out HOK.out m hm16
       rw [<- hm] at hps
       obtain ⟨ps,hp⟩:∃ ps,ps = persK rel m n:=⟨_,rfl⟩
       rw [<- hp] at hps
       have HPS:=hid hps
       have HP:Hid (factB false rel facts k = (!false || ps)):=hid (by rw [HFE.out,HXT.out,HM.out,<- hp]; simp)
       clear hps hp hm
       go_wp2_with (fail)
       go_roundw
       case rel => exact ⟨k + 1,by omega,by go_num,HBW4.out,by rw [HBXE.out]; exact HK0.out,by unfold factsK; rw [HFK.out,HP.out]; rfl⟩
       case measure => simp [intOf]; omega
  ·obtain rfl:k = fn:=by omega
   have HB:=hid hB
   have HFK:=hid hfk
   clear hB hfk
   go_wp2_with (fail)
   go_ret
   exact ⟨by rw [HFN.out,HFK.out]; rfl,HB.out⟩
set_option maxRecDepth 100000 in
set_option maxHeartbeats 1000000 in
theorem relation_any (w:World) (rs:SL) (xs:List Int) {S:Nat -> Prop} (hR:IsZs S w rs xs):Calls Tryd.prog 41 #[rs.v] w fun e w' => e = .returned (.bool (relB xs)) /\ w' = w:=by
 obtain ⟨ra,rn,rc⟩:=rs
 by_cases h0:rn = 0
 ·have h1:=hR.1
  simp only [] at h1
  have hx:xs = []:=List.eq_nil_of_length_eq_zero (by omega)
  subst hx h0
  rw [show relB [] = false from rfl]
  simp only [SL.v]
  clear h1 hR
  go_enter Tryd.func41,Tryd.ntmps41
  go_wp2_with (fail)
  go_ret
  exact ⟨rfl,rfl⟩
 ·obtain ⟨g,o,ha⟩:=hR.pos (show 0 < rn by omega)
  simp only [] at ha
  subst ha
  exact relation_call w g o rn rc xs hR.z hR.1.symm
theorem relK_false {n:Nat} {xs:List Int}:relB xs = true -> 1 <= xs.length /\ xs.length <= 4:=by
 intro h
 unfold relB at h
 simp at h
 omega
set_option maxRecDepth 100000 in
set_option maxHeartbeats 4000000 in
theorem valid_no (w:World) (kind:Nat) (size loop:Int) (rs fs us bs:SL) (xs:List Int) (facts:List (ByteArray × Int × Int)) (hk:kind < 256) (hR:IsZs (fun k => k < w.heap.size) w rs xs)
  (hno:(decide (kind = 3 ∨ kind = 4) && relB xs && decide (size = (xs.length:Int)) && decide (us.n = 0) && decide (bs.n = 0) && decide (loop = 0) && suitsB (decide (kind = 3)) 0 (natsI xs) (xs.length - 1)) = false) :
  Calls Tryd.prog 18 #[.agg #[.int .u8 (kind:Int),.int .i64 size,rs.v,.int .i64 loop,fs.v,us.v,bs.v]] w (RetW w false):=by
 have T0:∀ o':Obj,IsZs (fun k => k < (w.alloc o').heap.size) (w.alloc o') rs xs:=fun o' => hR.turn fun k hk => ⟨by simp; omega,Below.heap_alloc _ _ _ hk⟩
 have hrl:=fun (o':Obj) => relation_any (w.alloc o') rs xs (T0 o')
 obtain ⟨rb,hrb⟩:∃ rb,rb = relB xs:=⟨_,rfl⟩
 rw [<- hrb] at hrl hno
 have HRB:=hid hrb
 have HB1:Hid (∀ o,Below w.heap.size w (w.alloc o)):=hid fun o => (Below.refl _ w).alloc (Nat.le_refl _) _
 have hlen:=hR.1
 by_cases hkd:kind = 3 ∨ kind = 4
 ·have hsu:rb = true -> ∀ (o':Obj),Calls Tryd.prog 42 #[.int .u8 (kind:Int),.int .u8 0,rs.v,.int .i64 ((rs.n:Int) - 1)] (w.alloc o') (RetB (w.alloc o') (suitsB (decide (kind = 3)) 0 (natsI xs) (xs.length - 1))):=fun hb o' => by
   rw [hrb] at hb
   obtain ⟨rel,hxr,hok,h1⟩:=relB_frok hb
   have hRr:=T0 o'
   obtain ⟨g,o,ha⟩:=hRr.pos (by rw [hlen,hxr,List.length_map]; omega)
   obtain ⟨ra,rn,rc⟩:=rs
   simp only [] at ha hlen
   subst ha
   have hZ:=hRr.z
   rw [hxr] at hZ
   have hn:rel.length = rn:=by rw [hlen,hxr,List.length_map]
   rw [hxr,natsI_of,List.length_map,hn]
   rcases hkd with rfl | rfl
   ·have:=suits_force (w.alloc o') g o rn rc rel hZ.r hn hok 0 (rn - 1) (by omega) (by omega)
    rw [show (((rn - 1:Nat)):Int) = (rn:Int) - 1 by omega] at this
    exact this
   ·have:=suits_modal (w.alloc o') g o rn rc rel hZ.r hn hok 4 0 (rn - 1) (by omega) (by omega) (by omega)
    rw [show lackAll 0 rel (rn - 1 + 1) = suitsB false 0 rel (rn - 1) from rfl,show (((rn - 1:Nat)):Int) = (rn:Int) - 1 by omega] at this
    exact this
  obtain ⟨su,hsu2⟩:∃ su,su = suitsB (decide (kind = 3)) 0 (natsI xs) (xs.length - 1):=⟨_,rfl⟩
  rw [<- hsu2] at hsu hno
  rw [decide_eq_true hkd,Bool.true_and,<- hlen] at hno
  have hr4:rb = true -> 1 <= rs.n /\ rs.n <= 4:=fun h => by rw [hlen]; exact relK_false (n:=0) (by rw [<- hrb]; exact h)
  obtain ⟨ra,rn,rc⟩:=rs
  obtain ⟨fa,fn,fc⟩:=fs
  obtain ⟨ua,un,uc⟩:=us
  obtain ⟨ba,bn,bc⟩:=bs
  simp only [SL.v] at *
  unfold RetB at hsu
  have HRL:=hid hrl
  have HSU:=hid hsu
  have HBN:Hid (∀ (o:Obj) (W:World),Below (w.alloc o).heap.size (w.alloc o) W -> Below w.heap.size w W):=hid fun o W h => ((Below.refl _ w).alloc (Nat.le_refl _) o).trans (h.mono (by simp))
  clear hrl hsu hsu2 hrb hlen hR HRB T0
  have key:rb = false ∨ (rb = true /\ (size ≠ (rn:Int) ∨ (size = (rn:Int) /\ (0 < un ∨ (un = 0 /\ (0 < bn ∨ (bn = 0 /\ (loop ≠ 0 ∨ (loop = 0 /\ su = false))))))))):=by
   rcases rb with _ | _
   ·exact .inl rfl
   ·rcases su with _ | _
    ·right; refine ⟨rfl,?_⟩
     simp only [and_true]
     omega
    ·right; refine ⟨rfl,?_⟩
     simp at hno
     simp only [Bool.true_eq_false,and_false,or_false]
     omega
  clear hno
  rcases key with h | ⟨hrb,h | ⟨h2,h | ⟨h3,h | ⟨h4,h | ⟨h5,h6⟩⟩⟩⟩⟩
  ·subst h
   rcases hkd with rfl | rfl
   all_goals (
    simp only [show ((3:Nat):Int) = 3 from rfl,show ((4:Nat):Int) = 4 from rfl] at HSU ⊢
    go_enter Tryd.func18,Tryd.ntmps18
    go_wp2_with (first
     | (go_at_call 41; ((with_reducible refine (HRL.out _).mono ?_); rintro e w1 ⟨rfl,hw1⟩; have hw1:=hw1.symm; subst hw1))
     | (go_at_call 42; ((with_reducible refine (HSU.out True.intro _).mono ?_); rintro e w2 ⟨rfl,hB2⟩)))
    go_ret
    first
     | exact ⟨rfl,HB1.out _⟩
     | exact ⟨rfl,HBN.out _ _ hB2⟩)
  ·have h4:=hr4 hrb
   subst hrb
   have b1:(size != (rn:Int)) = true:=by simpa using h
   have b2:(size == (rn:Int)) = false:=by simpa using h
   clear h hr4
   rcases hkd with rfl | rfl
   all_goals (
    simp only [show ((3:Nat):Int) = 3 from rfl,show ((4:Nat):Int) = 4 from rfl] at HSU ⊢
    go_enter Tryd.func18,Tryd.ntmps18
    go_wp2_with (first
     | (go_at_call 41; ((with_reducible refine (HRL.out _).mono ?_); rintro e w1 ⟨rfl,hw1⟩; have hw1:=hw1.symm; subst hw1))
     | (go_at_call 42; ((with_reducible refine (HSU.out True.intro _).mono ?_); rintro e w2 ⟨rfl,hB2⟩)))
    go_ret
    first
     | exact ⟨rfl,HB1.out _⟩
     | exact ⟨rfl,HBN.out _ _ hB2⟩)
  ·have h4:=hr4 hrb
   subst hrb h2
   have b1:(0:Int) < (un:Int):=by omega
   clear hr4
   rcases hkd with rfl | rfl
   all_goals (
    simp only [show ((3:Nat):Int) = 3 from rfl,show ((4:Nat):Int) = 4 from rfl] at HSU ⊢
    go_enter Tryd.func18,Tryd.ntmps18
    go_wp2_with (first
     | (go_at_call 41; ((with_reducible refine (HRL.out _).mono ?_); rintro e w1 ⟨rfl,hw1⟩; have hw1:=hw1.symm; subst hw1))
     | (go_at_call 42; ((with_reducible refine (HSU.out True.intro _).mono ?_); rintro e w2 ⟨rfl,hB2⟩)))
    go_ret
    first
     | exact ⟨rfl,HB1.out _⟩
     | exact ⟨rfl,HBN.out _ _ hB2⟩)
  ·have h4:=hr4 hrb
   subst hrb h2 h3
   have b1:(0:Int) < (bn:Int):=by omega
   clear hr4
   rcases hkd with rfl | rfl
   all_goals (
    simp only [show ((3:Nat):Int) = 3 from rfl,show ((4:Nat):Int) = 4 from rfl] at HSU ⊢
    go_enter Tryd.func18,Tryd.ntmps18
    go_wp2_with (first
     | (go_at_call 41; ((with_reducible refine (HRL.out _).mono ?_); rintro e w1 ⟨rfl,hw1⟩; have hw1:=hw1.symm; subst hw1))
     | (go_at_call 42; ((with_reducible refine (HSU.out True.intro _).mono ?_); rintro e w2 ⟨rfl,hB2⟩)))
    go_ret
    first
     | exact ⟨rfl,HB1.out _⟩
     | exact ⟨rfl,HBN.out _ _ hB2⟩)
  ·have h9:=hr4 hrb
   subst hrb h2 h3 h4
   have b1:(loop != 0) = true:=by simpa using h
   have b2:(loop == 0) = false:=by simpa using h
   clear h hr4
   rcases hkd with rfl | rfl
   all_goals (
    simp only [show ((3:Nat):Int) = 3 from rfl,show ((4:Nat):Int) = 4 from rfl] at HSU ⊢
    go_enter Tryd.func18,Tryd.ntmps18
    go_wp2_with (first
     | (go_at_call 41; ((with_reducible refine (HRL.out _).mono ?_); rintro e w1 ⟨rfl,hw1⟩; have hw1:=hw1.symm; subst hw1))
     | (go_at_call 42; ((with_reducible refine (HSU.out True.intro _).mono ?_); rintro e w2 ⟨rfl,hB2⟩)))
    go_ret
    first
     | exact ⟨rfl,HB1.out _⟩
     | exact ⟨rfl,HBN.out _ _ hB2⟩)
  ·have h9:=hr4 hrb
   subst hrb h2 h3 h4 h5 h6
   clear hr4
   rcases hkd with rfl | rfl
   all_goals (
    simp only [show ((3:Nat):Int) = 3 from rfl,show ((4:Nat):Int) = 4 from rfl] at HSU ⊢
    go_enter Tryd.func18,Tryd.ntmps18
    go_wp2_with (first
     | (go_at_call 41; ((with_reducible refine (HRL.out _).mono ?_); rintro e w1 ⟨rfl,hw1⟩; have hw1:=hw1.symm; subst hw1))
     | (go_at_call 42; ((with_reducible refine (HSU.out True.intro _).mono ?_); rintro e w2 ⟨rfl,hB2⟩)))
    go_ret
    first
     | exact ⟨rfl,HB1.out _⟩
     | exact ⟨rfl,HBN.out _ _ hB2⟩)
 ·have e3:((kind:Int) == 3) = false:=by simp; omega
  have e4:((kind:Int) == 4) = false:=by simp; omega
  have e3':((kind:Int) != 3) = true:=by simp; omega
  have e4':((kind:Int) != 4) = true:=by simp; omega
  obtain ⟨ra,rn,rc⟩:=rs
  obtain ⟨fa,fn,fc⟩:=fs
  obtain ⟨ua,un,uc⟩:=us
  obtain ⟨ba,bn,bc⟩:=bs
  simp only [SL.v]
  clear hrl hno hrb hlen hR T0 HRB hkd
  go_enter Tryd.func18,Tryd.ntmps18
  go_wp2_with (fail)
  go_ret
  exact ⟨rfl,HB1.out _⟩
theorem valid_call (w:World) (kind:Nat) (size loop:Int) (rs fs us bs:SL) (xs:List Int) (facts:List (ByteArray × Int × Int)) (hk:kind < 256) (hR:IsZs (fun k => k < w.heap.size) w rs xs) (hF:IsFz (fun k => k < w.heap.size) w fs facts) (hl:fs.n <= 1000000000) :
  Calls Tryd.prog 18 #[.agg #[.int .u8 (kind:Int),.int .i64 size,rs.v,.int .i64 loop,fs.v,us.v,bs.v]] w (RetW w (validB kind size xs loop facts us.n bs.n)):=by
 have hno:=valid_no w kind size loop rs fs us bs xs facts hk hR
 unfold validB
 obtain ⟨X,hX⟩:∃ X,X = (decide (kind = 3 ∨ kind = 4) && relB xs && decide (size = (xs.length:Int)) && decide (us.n = 0) && decide (bs.n = 0) && decide (loop = 0) && suitsB (decide (kind = 3)) 0 (natsI xs) (xs.length - 1)):=⟨_,rfl⟩
 rw [<- hX] at hno ⊢
 rcases X with _ | _
 ·exact hno rfl
 ·clear hno
  have hX:=hX.symm
  simp only [Bool.and_eq_true,decide_eq_true_iff] at hX
  obtain ⟨⟨⟨⟨⟨⟨hkd,hr⟩,hs⟩,hu⟩,hb⟩,hlo⟩,hsu⟩:=hX
  obtain ⟨rel,hxr,hok,h1⟩:=relB_frok hr
  have hlen:=hR.1
  obtain ⟨g,o,ha⟩:=hR.pos (by rw [hlen,hxr,List.length_map]; omega)
  obtain ⟨ra,rn,rc⟩:=rs
  simp only [] at ha hlen
  subst ha
  have hZ:=hR.z
  rw [hxr] at hZ
  have hn:rel.length = rn:=by rw [hlen,hxr,List.length_map]
  rw [hxr,natsI_of,List.length_map,hn] at hsu
  rw [Bool.true_and,hxr,natsI_of,hs,<- hlen]
  rcases hkd with rfl | rfl
  ·exact valid_3 w loop g o rn rc fs us bs rel facts hn hok (by omega) hZ.r hF hl hu hb hlo hsu
  ·exact valid_4 w loop g o rn rc fs us bs rel facts hn hok (by omega) hZ.r hF hl hu hb hlo hsu
end Go.Proofs.YtflmllablfjfeaaDoor
