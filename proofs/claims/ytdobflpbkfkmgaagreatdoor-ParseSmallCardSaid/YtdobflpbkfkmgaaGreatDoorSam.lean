import Derived.Test.YtdobflpbkfkmgaaGreatDoorMpd
import Derived.Test.YtdobflpbkfkmgaaGreatDoorMea
namespace Go.Proofs.YtdobflpbkfkmgaaGreatDoor
open Go.RowKit Go.HK Go.FR Lib
set_option linter.unusedVariables false
set_option linter.unusedSimpArgs false
set_option linter.unusedSectionVars false
theorem mem_nodesT {l:List Tm} {t:Tm} (h:t ∈ l):nodesTs t.args <= nodesTs l:=by
 induction l with
 | nil => cases h
 | cons x r ih =>
  rcases List.mem_cons.1 h with rfl | h
  ·cases t; simp only [nodesTs,nodesT,FR.Tm.args]; omega
  ·have:=ih h; simp only [nodesTs]; omega
theorem mem_nodesF {l:List Fm} {f:Fm} (h:f ∈ l):nodesF f <= nodesL l:=by
 induction l with
 | nil => cases h
 | cons x r ih =>
  rcases List.mem_cons.1 h with rfl | h
  ·simp only [nodesL]; omega
  ·have:=ih h; simp only [nodesL]; omega
def SN (w:World) (k:Nat):Prop:=k < w.heap.size
theorem sn_up {w w':World} (hB:Below w.heap.size w w'):∀ k,SN w k -> SN w' k /\ w'.heap[k]? = w.heap[k]?:=fun k hk => ⟨Nat.lt_of_lt_of_le hk hB.size,hB.block k hk⟩
theorem bl_dr9 {B:Nat} {a w:World} (h:Below B a w):Below B a w.drew:=⟨h.os,h.tape,h.output,h.size,h.block⟩
def RetY (w:World) (e:Ending) (w':World):Prop:=e = .returned (.bool true) /\ Below w.heap.size w w'
def TermsSame (l:List Tm):Prop:=nodesTs l <= 1000000 -> ∀ (w:World) (s1 s2:SL),IsTs (SN w) w s1 l -> IsTs (SN w) w s2 l -> Calls Tryz.prog 16 #[s1.v,s2.v] w (RetY w)
def FormsSame (l:List Fm):Prop:=nodesL l <= 1000000 -> ∀ (w:World) (s1 s2:SL),IsFs (SN w) w s1 l -> IsFs (SN w) w s2 l -> Calls Tryz.prog 19 #[s1.v,s2.v] w (RetY w)
def FormSame (f:Fm):Prop:=nodesF f <= 1000000 -> ∀ (w:World) (a1 s1 a2 s2:SL),IsTs (SN w) w a1 f.args -> IsTs (SN w) w a2 f.args -> IsFs (SN w) w s1 f.subs -> IsFs (SN w) w s2 f.subs ->
 Calls Tryz.prog 11 #[.agg #[.int .u8 (f.op:Int),.string f.name,a1.v,s1.v],.agg #[.int .u8 (f.op:Int),.string f.name,a2.v,s2.v]] w (RetY w)
set_option maxRecDepth 100000 in
set_option maxHeartbeats 4000000 in
theorem terms_same_of (l:List Tm) (IH:∀ t ∈ l,TermsSame t.args):TermsSame l:=by
 intro hN w s1 s2 hs1 hs2
 have hn1:=hs1.len
 have hn2:=hs2.len
 obtain ⟨sa,n,sc⟩:=s1
 obtain ⟨ta,n2,tc⟩:=s2
 simp only at hn1 hn2
 obtain rfl:n2 = n:=by rw [hn1,hn2]
 simp only [SL.v]
 have hn6:n2 <= 1000000:=by have:=nodesTs_len l; omega
 have HNN:=hid hN
 clear hN
 have HS1:=hid hs1
 have HS2:=hid hs2
 have HIH:=hid IH
 have HN:=hid hn1
 clear hs1 hs2 IH hn1 hn2
 unfold RetY
 go_enter Tryz.func16,Tryz.ntmps16
 go_wp2_with (fail)
 go_loopw [5] (fun i wr => ∃ j:Nat,j <= n2 /\ i = .int .i64 j /\ Below w.heap.size w wr) (fun i _ => n2 - (intOf i).toNat)
 case atStart => exact ⟨0,by omega,rfl,Below.refl _ _⟩
 case round =>
  obtain ⟨j,hj,rfl,hB⟩:=hrel
  by_cases hjn:(j:Int) < (n2:Int)
  ·have b0:(0:Int) <= (j:Int):=by omega
   obtain ⟨q,hq⟩:∃ q,l[j]? = some q:=⟨_,List.getElem?_eq_getElem (by rw [<- HN.out]; omega)⟩
   have hp1:=HS1.out.turn (sn_up hB)
   have hp2:=HS2.out.turn (sn_up hB)
   obtain ⟨g1,o1,hga⟩:=ts_pos HS1.out (show 0 < n2 by omega)
   obtain ⟨g2,o2,hgb⟩:=ts_pos HS2.out (show 0 < n2 by omega)
   subst hga hgb
   obtain ⟨u,c0,c1,c2,hu,hz⟩:=ts_at hp1 hq
   obtain ⟨v,d0,d1,d2,hv,_⟩:=ts_at hp2 hq
   have hcq:=fun (W:World) (hW:Below wr.heap.size wr W) => HIH.out q (List.mem_of_getElem? hq) (Nat.le_trans (mem_nodesT (List.mem_of_getElem? hq)) HNN.out) W u v (hu.turn (sn_up hW)) (hv.turn (sn_up hW))
   obtain ⟨qb,qn,qa⟩:=q
   obtain ⟨ua,un,uc⟩:=u
   obtain ⟨va,vn,vc⟩:=v
   simp only [FR.Tm.var,FR.Tm.name,SL.v,RetY] at c0 c1 c2 d0 d1 d2 hcq
   have HC0:=hid c0
   have HC1:=hid c1
   have HC2:=hid c2
   have HD0:=hid d0
   have HD1:=hid d1
   have HD2:=hid d2
   have HCQ:=hid hcq
   have HG1:=hid (World.block_lt_of_cell? wr ⟨g1,_,none⟩ c0)
   have HG2:=hid (World.block_lt_of_cell? wr ⟨g2,_,none⟩ d0)
   clear c0 c1 c2 d0 d1 d2 hcq hu hv hz
   have HB:=hid hB
   have HJ1:Hid ((0:Int) <= (j:Int) /\ (j:Int) < (n2:Int)):=hid ⟨b0,hjn⟩
   clear hB hp1 hp2 hq
   go_upto_region 6 with (fail)
   go_cut [54] from 17 to 54 (fun v wx => v = .bool false /\ Below wr.heap.size wr wx)
   case first =>
    refine Go.RE.wp_region_eachg [17,18,19,20,21,22,23,24,25,26,27,28,29,30,31,32,33,34,35,36,37,38,39,40,41,42,43,44,45,46,47,48,49,50,51,52,53,54] (fun L x W => (Below wr.heap.size wr W) /\ (L 0 = true -> x 17 = .slice (some ⟨g1,o1,none⟩) n2 sc) /\ (L 1 = true -> x 18 = .int .i64 (j:Int)) /\ (L 2 = true -> x 19 = .pointer (some ⟨g1,o1 + j * 3,none⟩)) /\ (L 3 = true -> x 20 = .pointer (some ⟨g1,o1 + j * 3,none⟩)) /\ (L 4 = true -> x 21 = .bool qb) /\ (L 5 = true -> x 22 = .slice (some ⟨g2,o2,none⟩) n2 tc) /\ (L 6 = true -> x 23 = .int .i64 (j:Int)) /\ (L 7 = true -> x 24 = .pointer (some ⟨g2,o2 + j * 3,none⟩)) /\ (L 8 = true -> x 25 = .pointer (some ⟨g2,o2 + j * 3,none⟩)) /\ (L 9 = true -> x 26 = .bool qb) /\ (L 10 = true -> x 27 = .bool false) /\ (L 11 = true -> x 28 = .bool false) /\ (L 12 = true -> x 29 = .slice (some ⟨g1,o1,none⟩) n2 sc) /\ (L 13 = true -> x 30 = .int .i64 (j:Int)) /\ (L 14 = true -> x 31 = .pointer (some ⟨g1,o1 + j * 3,none⟩)) /\ (L 15 = true -> x 32 = .pointer (some ⟨g1,o1 + j * 3 + 1,none⟩)) /\ (L 16 = true -> x 33 = .string qn) /\ (L 17 = true -> x 34 = .slice (some ⟨g2,o2,none⟩) n2 tc) /\ (L 18 = true -> x 35 = .int .i64 (j:Int)) /\ (L 19 = true -> x 36 = .pointer (some ⟨g2,o2 + j * 3,none⟩)) /\ (L 20 = true -> x 37 = .pointer (some ⟨g2,o2 + j * 3 + 1,none⟩)) /\ (L 21 = true -> x 38 = .string qn) /\ (L 22 = true -> x 39 = .bool false) /\ (L 23 = true -> x 40 = .bool false) /\ (L 24 = true -> x 41 = .bool false) /\ (L 25 = true -> x 42 = .slice (some ⟨g1,o1,none⟩) n2 sc) /\ (L 26 = true -> x 43 = .int .i64 (j:Int)) /\ (L 27 = true -> x 44 = .pointer (some ⟨g1,o1 + j * 3,none⟩)) /\ (L 28 = true -> x 45 = .pointer (some ⟨g1,o1 + j * 3 + 2,none⟩)) /\ (L 29 = true -> x 46 = .slice ua un uc) /\ (L 30 = true -> x 47 = .slice (some ⟨g2,o2,none⟩) n2 tc) /\ (L 31 = true -> x 48 = .int .i64 (j:Int)) /\ (L 32 = true -> x 49 = .pointer (some ⟨g2,o2 + j * 3,none⟩)) /\ (L 33 = true -> x 50 = .pointer (some ⟨g2,o2 + j * 3 + 2,none⟩)) /\ (L 34 = true -> x 51 = .slice va vn vc) /\ (L 35 = true -> x 52 = .bool true) /\ (L 36 = true -> x 53 = .bool false) /\ (L 37 = true -> x 54 = .bool false)) (by kernel_rfl) (by kernel_rfl) (by kernel_rfl) ?_ ((Go.RE.Each.cons ?_ (Go.RE.Each.cons ?_ (Go.RE.Each.cons ?_ (Go.RE.Each.cons ?_ (Go.RE.Each.cons ?_ (Go.RE.Each.cons ?_ (Go.RE.Each.cons ?_ (Go.RE.Each.cons ?_ (Go.RE.Each.cons ?_ (Go.RE.Each.cons ?_ (Go.RE.Each.cons ?_ (Go.RE.Each.cons ?_ (Go.RE.Each.cons ?_ (Go.RE.Each.cons ?_ (Go.RE.Each.cons ?_ (Go.RE.Each.cons ?_ (Go.RE.Each.cons ?_ (Go.RE.Each.cons ?_ (Go.RE.Each.cons ?_ (Go.RE.Each.cons ?_ (Go.RE.Each.cons ?_ (Go.RE.Each.cons ?_ (Go.RE.Each.cons ?_ (Go.RE.Each.cons ?_ (Go.RE.Each.cons ?_ (Go.RE.Each.cons ?_ (Go.RE.Each.cons ?_ (Go.RE.Each.cons ?_ (Go.RE.Each.cons ?_ (Go.RE.Each.cons ?_ (Go.RE.Each.cons ?_ (Go.RE.Each.cons ?_ (Go.RE.Each.cons ?_ (Go.RE.Each.cons ?_ (Go.RE.Each.cons ?_ (Go.RE.Each.cons ?_ (Go.RE.Each.cons ?_ (Go.RE.Each.cons ?_ Go.RE.Each.nil))))))))))))))))))))))))))))))))))))))) ?_
    ·exact fun x => ⟨bl_dr9 (Below.refl _ _),nofun,nofun,nofun,nofun,nofun,nofun,nofun,nofun,nofun,nofun,nofun,nofun,nofun,nofun,nofun,nofun,nofun,nofun,nofun,nofun,nofun,nofun,nofun,nofun,nofun,nofun,nofun,nofun,nofun,nofun,nofun,nofun,nofun,nofun,nofun,nofun,nofun,nofun⟩
    ·intro L x a wR K hL hd hf hx hΦ hK
     obtain ⟨hI,f0,f1,f2,f3,f4,f5,f6,f7,f8,f9,f10,f11,f12,f13,f14,f15,f16,f17,f18,f19,f20,f21,f22,f23,f24,f25,f26,f27,f28,f29,f30,f31,f32,f33,f34,f35,f36,f37⟩:=hΦ
     refine ⟨fun _ => ?_,fun h => absurd h (by rw [Go.RE.wanted_none rfl]; decide)⟩
     have e0:a.tmps[0]? = some (.slice (some ⟨g1,o1,none⟩) n2 sc):=hf 0 (of_decide_eq_true (by kernel_rfl))
     clear hf hx hd
     go_simp
     refine hK _ _ ?_
     exact ⟨hI,fun _ => rfl,f1,f2,f3,f4,f5,f6,f7,f8,f9,f10,f11,f12,f13,f14,f15,f16,f17,f18,f19,f20,f21,f22,f23,f24,f25,f26,f27,f28,f29,f30,f31,f32,f33,f34,f35,f36,f37⟩
    ·intro L x a wR K hL hd hf hx hΦ hK
     obtain ⟨hI,f0,f1,f2,f3,f4,f5,f6,f7,f8,f9,f10,f11,f12,f13,f14,f15,f16,f17,f18,f19,f20,f21,f22,f23,f24,f25,f26,f27,f28,f29,f30,f31,f32,f33,f34,f35,f36,f37⟩:=hΦ
     refine ⟨fun _ => ?_,fun h => absurd h (by rw [Go.RE.wanted_none rfl]; decide)⟩
     have e5:a.tmps[5]? = some (.int .i64 (j:Int)):=hf 5 (of_decide_eq_true (by kernel_rfl))
     clear hf hx hd
     go_simp
     refine hK _ _ ?_
     exact ⟨hI,f0,fun _ => rfl,f2,f3,f4,f5,f6,f7,f8,f9,f10,f11,f12,f13,f14,f15,f16,f17,f18,f19,f20,f21,f22,f23,f24,f25,f26,f27,f28,f29,f30,f31,f32,f33,f34,f35,f36,f37⟩
    ·intro L x a wR K hL hd hf hx hΦ hK
     obtain ⟨hI,f0,f1,f2,f3,f4,f5,f6,f7,f8,f9,f10,f11,f12,f13,f14,f15,f16,f17,f18,f19,f20,f21,f22,f23,f24,f25,f26,f27,f28,f29,f30,f31,f32,f33,f34,f35,f36,f37⟩:=hΦ
     refine ⟨fun _ => ?_,fun h => absurd h (by rw [Go.RE.wanted_none rfl]; decide)⟩
     have d0:=f0 (hd 0 (by kernel_rfl))
     have e17:a.tmps[17]? = some (x 17):=hx 0 _ 17 rfl rfl (hd 0 (by kernel_rfl))
     rw [d0] at e17
     have d1:=f1 (hd 1 (by kernel_rfl))
     have e18:a.tmps[18]? = some (x 18):=hx 1 _ 18 rfl rfl (hd 1 (by kernel_rfl))
     rw [d1] at e18
     have l1:=HJ1.out.1
     have l2:=HJ1.out.2
     clear hf hx hd
     go_simp
     refine hK _ _ ?_
     exact ⟨hI,f0,f1,fun _ => rfl,f3,f4,f5,f6,f7,f8,f9,f10,f11,f12,f13,f14,f15,f16,f17,f18,f19,f20,f21,f22,f23,f24,f25,f26,f27,f28,f29,f30,f31,f32,f33,f34,f35,f36,f37⟩
    ·intro L x a wR K hL hd hf hx hΦ hK
     obtain ⟨hI,f0,f1,f2,f3,f4,f5,f6,f7,f8,f9,f10,f11,f12,f13,f14,f15,f16,f17,f18,f19,f20,f21,f22,f23,f24,f25,f26,f27,f28,f29,f30,f31,f32,f33,f34,f35,f36,f37⟩:=hΦ
     refine ⟨fun _ => ?_,fun h => absurd h (by rw [Go.RE.wanted_none rfl]; decide)⟩
     have d2:=f2 (hd 2 (by kernel_rfl))
     have e19:a.tmps[19]? = some (x 19):=hx 2 _ 19 rfl rfl (hd 2 (by kernel_rfl))
     rw [d2] at e19
     clear hf hx hd
     go_simp
     refine hK _ _ ?_
     exact ⟨hI,f0,f1,f2,fun _ => rfl,f4,f5,f6,f7,f8,f9,f10,f11,f12,f13,f14,f15,f16,f17,f18,f19,f20,f21,f22,f23,f24,f25,f26,f27,f28,f29,f30,f31,f32,f33,f34,f35,f36,f37⟩
    ·intro L x a wR K hL hd hf hx hΦ hK
     obtain ⟨hI,f0,f1,f2,f3,f4,f5,f6,f7,f8,f9,f10,f11,f12,f13,f14,f15,f16,f17,f18,f19,f20,f21,f22,f23,f24,f25,f26,f27,f28,f29,f30,f31,f32,f33,f34,f35,f36,f37⟩:=hΦ
     refine ⟨fun _ => ?_,fun h => absurd h (by rw [Go.RE.wanted_none rfl]; decide)⟩
     have d3:=f3 (hd 3 (by kernel_rfl))
     have e20:a.tmps[20]? = some (x 20):=hx 3 _ 20 rfl rfl (hd 3 (by kernel_rfl))
     rw [d3] at e20
     have c0:=(hI.cell (p:=⟨g1,o1 + j * 3,none⟩) HG1.out).trans HC0.out
     clear hf hx hd
     go_simp
     refine hK _ _ ?_
     exact ⟨hI,f0,f1,f2,f3,fun _ => rfl,f5,f6,f7,f8,f9,f10,f11,f12,f13,f14,f15,f16,f17,f18,f19,f20,f21,f22,f23,f24,f25,f26,f27,f28,f29,f30,f31,f32,f33,f34,f35,f36,f37⟩
    ·intro L x a wR K hL hd hf hx hΦ hK
     obtain ⟨hI,f0,f1,f2,f3,f4,f5,f6,f7,f8,f9,f10,f11,f12,f13,f14,f15,f16,f17,f18,f19,f20,f21,f22,f23,f24,f25,f26,f27,f28,f29,f30,f31,f32,f33,f34,f35,f36,f37⟩:=hΦ
     refine ⟨fun _ => ?_,fun h => absurd h (by rw [Go.RE.wanted_none rfl]; decide)⟩
     have e1:a.tmps[1]? = some (.slice (some ⟨g2,o2,none⟩) n2 tc):=hf 1 (of_decide_eq_true (by kernel_rfl))
     clear hf hx hd
     go_simp
     refine hK _ _ ?_
     exact ⟨hI,f0,f1,f2,f3,f4,fun _ => rfl,f6,f7,f8,f9,f10,f11,f12,f13,f14,f15,f16,f17,f18,f19,f20,f21,f22,f23,f24,f25,f26,f27,f28,f29,f30,f31,f32,f33,f34,f35,f36,f37⟩
    ·intro L x a wR K hL hd hf hx hΦ hK
     obtain ⟨hI,f0,f1,f2,f3,f4,f5,f6,f7,f8,f9,f10,f11,f12,f13,f14,f15,f16,f17,f18,f19,f20,f21,f22,f23,f24,f25,f26,f27,f28,f29,f30,f31,f32,f33,f34,f35,f36,f37⟩:=hΦ
     refine ⟨fun _ => ?_,fun h => absurd h (by rw [Go.RE.wanted_none rfl]; decide)⟩
     have e5:a.tmps[5]? = some (.int .i64 (j:Int)):=hf 5 (of_decide_eq_true (by kernel_rfl))
     clear hf hx hd
     go_simp
     refine hK _ _ ?_
     exact ⟨hI,f0,f1,f2,f3,f4,f5,fun _ => rfl,f7,f8,f9,f10,f11,f12,f13,f14,f15,f16,f17,f18,f19,f20,f21,f22,f23,f24,f25,f26,f27,f28,f29,f30,f31,f32,f33,f34,f35,f36,f37⟩
    ·intro L x a wR K hL hd hf hx hΦ hK
     obtain ⟨hI,f0,f1,f2,f3,f4,f5,f6,f7,f8,f9,f10,f11,f12,f13,f14,f15,f16,f17,f18,f19,f20,f21,f22,f23,f24,f25,f26,f27,f28,f29,f30,f31,f32,f33,f34,f35,f36,f37⟩:=hΦ
     refine ⟨fun _ => ?_,fun h => absurd h (by rw [Go.RE.wanted_none rfl]; decide)⟩
     have d5:=f5 (hd 5 (by kernel_rfl))
     have e22:a.tmps[22]? = some (x 22):=hx 5 _ 22 rfl rfl (hd 5 (by kernel_rfl))
     rw [d5] at e22
     have d6:=f6 (hd 6 (by kernel_rfl))
     have e23:a.tmps[23]? = some (x 23):=hx 6 _ 23 rfl rfl (hd 6 (by kernel_rfl))
     rw [d6] at e23
     have l1:=HJ1.out.1
     have l2:=HJ1.out.2
     clear hf hx hd
     go_simp
     refine hK _ _ ?_
     exact ⟨hI,f0,f1,f2,f3,f4,f5,f6,fun _ => rfl,f8,f9,f10,f11,f12,f13,f14,f15,f16,f17,f18,f19,f20,f21,f22,f23,f24,f25,f26,f27,f28,f29,f30,f31,f32,f33,f34,f35,f36,f37⟩
    ·intro L x a wR K hL hd hf hx hΦ hK
     obtain ⟨hI,f0,f1,f2,f3,f4,f5,f6,f7,f8,f9,f10,f11,f12,f13,f14,f15,f16,f17,f18,f19,f20,f21,f22,f23,f24,f25,f26,f27,f28,f29,f30,f31,f32,f33,f34,f35,f36,f37⟩:=hΦ
     refine ⟨fun _ => ?_,fun h => absurd h (by rw [Go.RE.wanted_none rfl]; decide)⟩
     have d7:=f7 (hd 7 (by kernel_rfl))
     have e24:a.tmps[24]? = some (x 24):=hx 7 _ 24 rfl rfl (hd 7 (by kernel_rfl))
     rw [d7] at e24
     clear hf hx hd
     go_simp
     refine hK _ _ ?_
     exact ⟨hI,f0,f1,f2,f3,f4,f5,f6,f7,fun _ => rfl,f9,f10,f11,f12,f13,f14,f15,f16,f17,f18,f19,f20,f21,f22,f23,f24,f25,f26,f27,f28,f29,f30,f31,f32,f33,f34,f35,f36,f37⟩
    ·intro L x a wR K hL hd hf hx hΦ hK
     obtain ⟨hI,f0,f1,f2,f3,f4,f5,f6,f7,f8,f9,f10,f11,f12,f13,f14,f15,f16,f17,f18,f19,f20,f21,f22,f23,f24,f25,f26,f27,f28,f29,f30,f31,f32,f33,f34,f35,f36,f37⟩:=hΦ
     refine ⟨fun _ => ?_,fun h => absurd h (by rw [Go.RE.wanted_none rfl]; decide)⟩
     have d8:=f8 (hd 8 (by kernel_rfl))
     have e25:a.tmps[25]? = some (x 25):=hx 8 _ 25 rfl rfl (hd 8 (by kernel_rfl))
     rw [d8] at e25
     have c0:=(hI.cell (p:=⟨g2,o2 + j * 3,none⟩) HG2.out).trans HD0.out
     clear hf hx hd
     go_simp
     refine hK _ _ ?_
     exact ⟨hI,f0,f1,f2,f3,f4,f5,f6,f7,f8,fun _ => rfl,f10,f11,f12,f13,f14,f15,f16,f17,f18,f19,f20,f21,f22,f23,f24,f25,f26,f27,f28,f29,f30,f31,f32,f33,f34,f35,f36,f37⟩
    ·intro L x a wR K hL hd hf hx hΦ hK
     obtain ⟨hI,f0,f1,f2,f3,f4,f5,f6,f7,f8,f9,f10,f11,f12,f13,f14,f15,f16,f17,f18,f19,f20,f21,f22,f23,f24,f25,f26,f27,f28,f29,f30,f31,f32,f33,f34,f35,f36,f37⟩:=hΦ
     refine ⟨fun _ => ?_,fun h => absurd h (by rw [Go.RE.wanted_none rfl]; decide)⟩
     have d4:=f4 (hd 4 (by kernel_rfl))
     have e21:a.tmps[21]? = some (x 21):=hx 4 _ 21 rfl rfl (hd 4 (by kernel_rfl))
     rw [d4] at e21
     have d9:=f9 (hd 9 (by kernel_rfl))
     have e26:a.tmps[26]? = some (x 26):=hx 9 _ 26 rfl rfl (hd 9 (by kernel_rfl))
     rw [d9] at e26
     clear hf hx hd
     go_simp
     refine hK _ _ ?_
     exact ⟨hI,f0,f1,f2,f3,f4,f5,f6,f7,f8,f9,fun _ => rfl,f11,f12,f13,f14,f15,f16,f17,f18,f19,f20,f21,f22,f23,f24,f25,f26,f27,f28,f29,f30,f31,f32,f33,f34,f35,f36,f37⟩
    ·intro L x a wR K hL hd hf hx hΦ hK
     obtain ⟨hI,f0,f1,f2,f3,f4,f5,f6,f7,f8,f9,f10,f11,f12,f13,f14,f15,f16,f17,f18,f19,f20,f21,f22,f23,f24,f25,f26,f27,f28,f29,f30,f31,f32,f33,f34,f35,f36,f37⟩:=hΦ
     refine ⟨fun _ => ?_,fun h => absurd h (by rw [Go.RE.wanted_none rfl]; decide)⟩
     have d10:=f10 (hd 10 (by kernel_rfl))
     have e27:a.tmps[27]? = some (x 27):=hx 10 _ 27 rfl rfl (hd 10 (by kernel_rfl))
     rw [d10] at e27
     clear hf hx hd
     go_simp
     refine hK _ _ ?_
     exact ⟨hI,f0,f1,f2,f3,f4,f5,f6,f7,f8,f9,f10,fun _ => rfl,f12,f13,f14,f15,f16,f17,f18,f19,f20,f21,f22,f23,f24,f25,f26,f27,f28,f29,f30,f31,f32,f33,f34,f35,f36,f37⟩
    ·intro L x a wR K hL hd hf hx hΦ hK
     obtain ⟨hI,f0,f1,f2,f3,f4,f5,f6,f7,f8,f9,f10,f11,f12,f13,f14,f15,f16,f17,f18,f19,f20,f21,f22,f23,f24,f25,f26,f27,f28,f29,f30,f31,f32,f33,f34,f35,f36,f37⟩:=hΦ
     have g11:=f11 (hd 11 (by kernel_rfl))
     have ge:a.tmps[28]? = some (x 28):=hx 11 _ 28 rfl rfl (hd 11 (by kernel_rfl))
     rw [g11] at ge
     refine ⟨fun _ => ?_,fun h => absurd h (by rw [Go.RE.wanted_of rfl (Go.RE.yielded_of rfl rfl ge)]; decide)⟩
     have e0:a.tmps[0]? = some (.slice (some ⟨g1,o1,none⟩) n2 sc):=hf 0 (of_decide_eq_true (by kernel_rfl))
     clear hf hx hd
     go_simp
     refine hK _ _ ?_
     exact ⟨hI,f0,f1,f2,f3,f4,f5,f6,f7,f8,f9,f10,f11,fun _ => rfl,f13,f14,f15,f16,f17,f18,f19,f20,f21,f22,f23,f24,f25,f26,f27,f28,f29,f30,f31,f32,f33,f34,f35,f36,f37⟩
    ·intro L x a wR K hL hd hf hx hΦ hK
     obtain ⟨hI,f0,f1,f2,f3,f4,f5,f6,f7,f8,f9,f10,f11,f12,f13,f14,f15,f16,f17,f18,f19,f20,f21,f22,f23,f24,f25,f26,f27,f28,f29,f30,f31,f32,f33,f34,f35,f36,f37⟩:=hΦ
     have g11:=f11 (hd 11 (by kernel_rfl))
     have ge:a.tmps[28]? = some (x 28):=hx 11 _ 28 rfl rfl (hd 11 (by kernel_rfl))
     rw [g11] at ge
     refine ⟨fun _ => ?_,fun h => absurd h (by rw [Go.RE.wanted_of rfl (Go.RE.yielded_of rfl rfl ge)]; decide)⟩
     have e5:a.tmps[5]? = some (.int .i64 (j:Int)):=hf 5 (of_decide_eq_true (by kernel_rfl))
     clear hf hx hd
     go_simp
     refine hK _ _ ?_
     exact ⟨hI,f0,f1,f2,f3,f4,f5,f6,f7,f8,f9,f10,f11,f12,fun _ => rfl,f14,f15,f16,f17,f18,f19,f20,f21,f22,f23,f24,f25,f26,f27,f28,f29,f30,f31,f32,f33,f34,f35,f36,f37⟩
    ·intro L x a wR K hL hd hf hx hΦ hK
     obtain ⟨hI,f0,f1,f2,f3,f4,f5,f6,f7,f8,f9,f10,f11,f12,f13,f14,f15,f16,f17,f18,f19,f20,f21,f22,f23,f24,f25,f26,f27,f28,f29,f30,f31,f32,f33,f34,f35,f36,f37⟩:=hΦ
     have g11:=f11 (hd 11 (by kernel_rfl))
     have ge:a.tmps[28]? = some (x 28):=hx 11 _ 28 rfl rfl (hd 11 (by kernel_rfl))
     rw [g11] at ge
     refine ⟨fun _ => ?_,fun h => absurd h (by rw [Go.RE.wanted_of rfl (Go.RE.yielded_of rfl rfl ge)]; decide)⟩
     have d12:=f12 (hd 12 (by kernel_rfl))
     have e29:a.tmps[29]? = some (x 29):=hx 12 _ 29 rfl rfl (hd 12 (by kernel_rfl))
     rw [d12] at e29
     have d13:=f13 (hd 13 (by kernel_rfl))
     have e30:a.tmps[30]? = some (x 30):=hx 13 _ 30 rfl rfl (hd 13 (by kernel_rfl))
     rw [d13] at e30
     have l1:=HJ1.out.1
     have l2:=HJ1.out.2
     clear hf hx hd
     go_simp
     refine hK _ _ ?_
     exact ⟨hI,f0,f1,f2,f3,f4,f5,f6,f7,f8,f9,f10,f11,f12,f13,fun _ => rfl,f15,f16,f17,f18,f19,f20,f21,f22,f23,f24,f25,f26,f27,f28,f29,f30,f31,f32,f33,f34,f35,f36,f37⟩
    ·intro L x a wR K hL hd hf hx hΦ hK
     obtain ⟨hI,f0,f1,f2,f3,f4,f5,f6,f7,f8,f9,f10,f11,f12,f13,f14,f15,f16,f17,f18,f19,f20,f21,f22,f23,f24,f25,f26,f27,f28,f29,f30,f31,f32,f33,f34,f35,f36,f37⟩:=hΦ
     have g11:=f11 (hd 11 (by kernel_rfl))
     have ge:a.tmps[28]? = some (x 28):=hx 11 _ 28 rfl rfl (hd 11 (by kernel_rfl))
     rw [g11] at ge
     refine ⟨fun _ => ?_,fun h => absurd h (by rw [Go.RE.wanted_of rfl (Go.RE.yielded_of rfl rfl ge)]; decide)⟩
     have d14:=f14 (hd 14 (by kernel_rfl))
     have e31:a.tmps[31]? = some (x 31):=hx 14 _ 31 rfl rfl (hd 14 (by kernel_rfl))
     rw [d14] at e31
     clear hf hx hd
     go_simp
     refine hK _ _ ?_
     exact ⟨hI,f0,f1,f2,f3,f4,f5,f6,f7,f8,f9,f10,f11,f12,f13,f14,fun _ => rfl,f16,f17,f18,f19,f20,f21,f22,f23,f24,f25,f26,f27,f28,f29,f30,f31,f32,f33,f34,f35,f36,f37⟩
    ·intro L x a wR K hL hd hf hx hΦ hK
     obtain ⟨hI,f0,f1,f2,f3,f4,f5,f6,f7,f8,f9,f10,f11,f12,f13,f14,f15,f16,f17,f18,f19,f20,f21,f22,f23,f24,f25,f26,f27,f28,f29,f30,f31,f32,f33,f34,f35,f36,f37⟩:=hΦ
     have g11:=f11 (hd 11 (by kernel_rfl))
     have ge:a.tmps[28]? = some (x 28):=hx 11 _ 28 rfl rfl (hd 11 (by kernel_rfl))
     rw [g11] at ge
     refine ⟨fun _ => ?_,fun h => absurd h (by rw [Go.RE.wanted_of rfl (Go.RE.yielded_of rfl rfl ge)]; decide)⟩
     have d15:=f15 (hd 15 (by kernel_rfl))
     have e32:a.tmps[32]? = some (x 32):=hx 15 _ 32 rfl rfl (hd 15 (by kernel_rfl))
     rw [d15] at e32
     have c1:=(hI.cell (p:=⟨g1,o1 + j * 3 + 1,none⟩) HG1.out).trans HC1.out
     clear hf hx hd
     go_simp
     refine hK _ _ ?_
     exact ⟨hI,f0,f1,f2,f3,f4,f5,f6,f7,f8,f9,f10,f11,f12,f13,f14,f15,fun _ => rfl,f17,f18,f19,f20,f21,f22,f23,f24,f25,f26,f27,f28,f29,f30,f31,f32,f33,f34,f35,f36,f37⟩
    ·intro L x a wR K hL hd hf hx hΦ hK
     obtain ⟨hI,f0,f1,f2,f3,f4,f5,f6,f7,f8,f9,f10,f11,f12,f13,f14,f15,f16,f17,f18,f19,f20,f21,f22,f23,f24,f25,f26,f27,f28,f29,f30,f31,f32,f33,f34,f35,f36,f37⟩:=hΦ
     have g11:=f11 (hd 11 (by kernel_rfl))
     have ge:a.tmps[28]? = some (x 28):=hx 11 _ 28 rfl rfl (hd 11 (by kernel_rfl))
     rw [g11] at ge
     refine ⟨fun _ => ?_,fun h => absurd h (by rw [Go.RE.wanted_of rfl (Go.RE.yielded_of rfl rfl ge)]; decide)⟩
     have e1:a.tmps[1]? = some (.slice (some ⟨g2,o2,none⟩) n2 tc):=hf 1 (of_decide_eq_true (by kernel_rfl))
     clear hf hx hd
     go_simp
     refine hK _ _ ?_
     exact ⟨hI,f0,f1,f2,f3,f4,f5,f6,f7,f8,f9,f10,f11,f12,f13,f14,f15,f16,fun _ => rfl,f18,f19,f20,f21,f22,f23,f24,f25,f26,f27,f28,f29,f30,f31,f32,f33,f34,f35,f36,f37⟩
    ·intro L x a wR K hL hd hf hx hΦ hK
     obtain ⟨hI,f0,f1,f2,f3,f4,f5,f6,f7,f8,f9,f10,f11,f12,f13,f14,f15,f16,f17,f18,f19,f20,f21,f22,f23,f24,f25,f26,f27,f28,f29,f30,f31,f32,f33,f34,f35,f36,f37⟩:=hΦ
     have g11:=f11 (hd 11 (by kernel_rfl))
     have ge:a.tmps[28]? = some (x 28):=hx 11 _ 28 rfl rfl (hd 11 (by kernel_rfl))
     rw [g11] at ge
     refine ⟨fun _ => ?_,fun h => absurd h (by rw [Go.RE.wanted_of rfl (Go.RE.yielded_of rfl rfl ge)]; decide)⟩
     have e5:a.tmps[5]? = some (.int .i64 (j:Int)):=hf 5 (of_decide_eq_true (by kernel_rfl))
     clear hf hx hd
     go_simp
     refine hK _ _ ?_
     exact ⟨hI,f0,f1,f2,f3,f4,f5,f6,f7,f8,f9,f10,f11,f12,f13,f14,f15,f16,f17,fun _ => rfl,f19,f20,f21,f22,f23,f24,f25,f26,f27,f28,f29,f30,f31,f32,f33,f34,f35,f36,f37⟩
    ·intro L x a wR K hL hd hf hx hΦ hK
     obtain ⟨hI,f0,f1,f2,f3,f4,f5,f6,f7,f8,f9,f10,f11,f12,f13,f14,f15,f16,f17,f18,f19,f20,f21,f22,f23,f24,f25,f26,f27,f28,f29,f30,f31,f32,f33,f34,f35,f36,f37⟩:=hΦ
     have g11:=f11 (hd 11 (by kernel_rfl))
     have ge:a.tmps[28]? = some (x 28):=hx 11 _ 28 rfl rfl (hd 11 (by kernel_rfl))
     rw [g11] at ge
     refine ⟨fun _ => ?_,fun h => absurd h (by rw [Go.RE.wanted_of rfl (Go.RE.yielded_of rfl rfl ge)]; decide)⟩
     have d17:=f17 (hd 17 (by kernel_rfl))
     have e34:a.tmps[34]? = some (x 34):=hx 17 _ 34 rfl rfl (hd 17 (by kernel_rfl))
     rw [d17] at e34
     have d18:=f18 (hd 18 (by kernel_rfl))
     have e35:a.tmps[35]? = some (x 35):=hx 18 _ 35 rfl rfl (hd 18 (by kernel_rfl))
     rw [d18] at e35
     have l1:=HJ1.out.1
     have l2:=HJ1.out.2
     clear hf hx hd
     go_simp
     refine hK _ _ ?_
     exact ⟨hI,f0,f1,f2,f3,f4,f5,f6,f7,f8,f9,f10,f11,f12,f13,f14,f15,f16,f17,f18,fun _ => rfl,f20,f21,f22,f23,f24,f25,f26,f27,f28,f29,f30,f31,f32,f33,f34,f35,f36,f37⟩
    ·intro L x a wR K hL hd hf hx hΦ hK
     obtain ⟨hI,f0,f1,f2,f3,f4,f5,f6,f7,f8,f9,f10,f11,f12,f13,f14,f15,f16,f17,f18,f19,f20,f21,f22,f23,f24,f25,f26,f27,f28,f29,f30,f31,f32,f33,f34,f35,f36,f37⟩:=hΦ
     have g11:=f11 (hd 11 (by kernel_rfl))
     have ge:a.tmps[28]? = some (x 28):=hx 11 _ 28 rfl rfl (hd 11 (by kernel_rfl))
     rw [g11] at ge
     refine ⟨fun _ => ?_,fun h => absurd h (by rw [Go.RE.wanted_of rfl (Go.RE.yielded_of rfl rfl ge)]; decide)⟩
     have d19:=f19 (hd 19 (by kernel_rfl))
     have e36:a.tmps[36]? = some (x 36):=hx 19 _ 36 rfl rfl (hd 19 (by kernel_rfl))
     rw [d19] at e36
     clear hf hx hd
     go_simp
     refine hK _ _ ?_
     exact ⟨hI,f0,f1,f2,f3,f4,f5,f6,f7,f8,f9,f10,f11,f12,f13,f14,f15,f16,f17,f18,f19,fun _ => rfl,f21,f22,f23,f24,f25,f26,f27,f28,f29,f30,f31,f32,f33,f34,f35,f36,f37⟩
    ·intro L x a wR K hL hd hf hx hΦ hK
     obtain ⟨hI,f0,f1,f2,f3,f4,f5,f6,f7,f8,f9,f10,f11,f12,f13,f14,f15,f16,f17,f18,f19,f20,f21,f22,f23,f24,f25,f26,f27,f28,f29,f30,f31,f32,f33,f34,f35,f36,f37⟩:=hΦ
     have g11:=f11 (hd 11 (by kernel_rfl))
     have ge:a.tmps[28]? = some (x 28):=hx 11 _ 28 rfl rfl (hd 11 (by kernel_rfl))
     rw [g11] at ge
     refine ⟨fun _ => ?_,fun h => absurd h (by rw [Go.RE.wanted_of rfl (Go.RE.yielded_of rfl rfl ge)]; decide)⟩
     have d20:=f20 (hd 20 (by kernel_rfl))
     have e37:a.tmps[37]? = some (x 37):=hx 20 _ 37 rfl rfl (hd 20 (by kernel_rfl))
     rw [d20] at e37
     have c1:=(hI.cell (p:=⟨g2,o2 + j * 3 + 1,none⟩) HG2.out).trans HD1.out
     clear hf hx hd
     go_simp
     refine hK _ _ ?_
     exact ⟨hI,f0,f1,f2,f3,f4,f5,f6,f7,f8,f9,f10,f11,f12,f13,f14,f15,f16,f17,f18,f19,f20,fun _ => rfl,f22,f23,f24,f25,f26,f27,f28,f29,f30,f31,f32,f33,f34,f35,f36,f37⟩
    ·intro L x a wR K hL hd hf hx hΦ hK
     obtain ⟨hI,f0,f1,f2,f3,f4,f5,f6,f7,f8,f9,f10,f11,f12,f13,f14,f15,f16,f17,f18,f19,f20,f21,f22,f23,f24,f25,f26,f27,f28,f29,f30,f31,f32,f33,f34,f35,f36,f37⟩:=hΦ
     have g11:=f11 (hd 11 (by kernel_rfl))
     have ge:a.tmps[28]? = some (x 28):=hx 11 _ 28 rfl rfl (hd 11 (by kernel_rfl))
     rw [g11] at ge
     refine ⟨fun _ => ?_,fun h => absurd h (by rw [Go.RE.wanted_of rfl (Go.RE.yielded_of rfl rfl ge)]; decide)⟩
     have d16:=f16 (hd 16 (by kernel_rfl))
     have e33:a.tmps[33]? = some (x 33):=hx 16 _ 33 rfl rfl (hd 16 (by kernel_rfl))
     rw [d16] at e33
     have d21:=f21 (hd 21 (by kernel_rfl))
     have e38:a.tmps[38]? = some (x 38):=hx 21 _ 38 rfl rfl (hd 21 (by kernel_rfl))
     rw [d21] at e38
     clear hf hx hd
     go_simp
     refine hK _ _ ?_
     exact ⟨hI,f0,f1,f2,f3,f4,f5,f6,f7,f8,f9,f10,f11,f12,f13,f14,f15,f16,f17,f18,f19,f20,f21,fun _ => rfl,f23,f24,f25,f26,f27,f28,f29,f30,f31,f32,f33,f34,f35,f36,f37⟩
    ·intro L x a wR K hL hd hf hx hΦ hK
     obtain ⟨hI,f0,f1,f2,f3,f4,f5,f6,f7,f8,f9,f10,f11,f12,f13,f14,f15,f16,f17,f18,f19,f20,f21,f22,f23,f24,f25,f26,f27,f28,f29,f30,f31,f32,f33,f34,f35,f36,f37⟩:=hΦ
     refine ⟨fun _ => ?_,fun h => absurd h (by rw [Go.RE.wanted_none rfl]; decide)⟩
     have d11:=f11 (hd 11 (by kernel_rfl))
     have e28:a.tmps[28]? = some (x 28):=hx 11 _ 28 rfl rfl (hd 11 (by kernel_rfl))
     rw [d11] at e28
     have d22:=f22 (hd 22 (by kernel_rfl))
     have e39:a.tmps[39]? = some (x 39):=hx 22 _ 39 rfl rfl (hd 22 (by kernel_rfl))
     rw [d22] at e39
     clear hf hx hd
     go_simp
     refine hK _ _ ?_
     exact ⟨hI,f0,f1,f2,f3,f4,f5,f6,f7,f8,f9,f10,f11,f12,f13,f14,f15,f16,f17,f18,f19,f20,f21,f22,fun _ => rfl,f24,f25,f26,f27,f28,f29,f30,f31,f32,f33,f34,f35,f36,f37⟩
    ·intro L x a wR K hL hd hf hx hΦ hK
     obtain ⟨hI,f0,f1,f2,f3,f4,f5,f6,f7,f8,f9,f10,f11,f12,f13,f14,f15,f16,f17,f18,f19,f20,f21,f22,f23,f24,f25,f26,f27,f28,f29,f30,f31,f32,f33,f34,f35,f36,f37⟩:=hΦ
     refine ⟨fun _ => ?_,fun h => absurd h (by rw [Go.RE.wanted_none rfl]; decide)⟩
     have d23:=f23 (hd 23 (by kernel_rfl))
     have e40:a.tmps[40]? = some (x 40):=hx 23 _ 40 rfl rfl (hd 23 (by kernel_rfl))
     rw [d23] at e40
     clear hf hx hd
     go_simp
     refine hK _ _ ?_
     exact ⟨hI,f0,f1,f2,f3,f4,f5,f6,f7,f8,f9,f10,f11,f12,f13,f14,f15,f16,f17,f18,f19,f20,f21,f22,f23,fun _ => rfl,f25,f26,f27,f28,f29,f30,f31,f32,f33,f34,f35,f36,f37⟩
    ·intro L x a wR K hL hd hf hx hΦ hK
     obtain ⟨hI,f0,f1,f2,f3,f4,f5,f6,f7,f8,f9,f10,f11,f12,f13,f14,f15,f16,f17,f18,f19,f20,f21,f22,f23,f24,f25,f26,f27,f28,f29,f30,f31,f32,f33,f34,f35,f36,f37⟩:=hΦ
     have g24:=f24 (hd 24 (by kernel_rfl))
     have ge:a.tmps[41]? = some (x 41):=hx 24 _ 41 rfl rfl (hd 24 (by kernel_rfl))
     rw [g24] at ge
     refine ⟨fun _ => ?_,fun h => absurd h (by rw [Go.RE.wanted_of rfl (Go.RE.yielded_of rfl rfl ge)]; decide)⟩
     have e0:a.tmps[0]? = some (.slice (some ⟨g1,o1,none⟩) n2 sc):=hf 0 (of_decide_eq_true (by kernel_rfl))
     clear hf hx hd
     go_simp
     refine hK _ _ ?_
     exact ⟨hI,f0,f1,f2,f3,f4,f5,f6,f7,f8,f9,f10,f11,f12,f13,f14,f15,f16,f17,f18,f19,f20,f21,f22,f23,f24,fun _ => rfl,f26,f27,f28,f29,f30,f31,f32,f33,f34,f35,f36,f37⟩
    ·intro L x a wR K hL hd hf hx hΦ hK
     obtain ⟨hI,f0,f1,f2,f3,f4,f5,f6,f7,f8,f9,f10,f11,f12,f13,f14,f15,f16,f17,f18,f19,f20,f21,f22,f23,f24,f25,f26,f27,f28,f29,f30,f31,f32,f33,f34,f35,f36,f37⟩:=hΦ
     have g24:=f24 (hd 24 (by kernel_rfl))
     have ge:a.tmps[41]? = some (x 41):=hx 24 _ 41 rfl rfl (hd 24 (by kernel_rfl))
     rw [g24] at ge
     refine ⟨fun _ => ?_,fun h => absurd h (by rw [Go.RE.wanted_of rfl (Go.RE.yielded_of rfl rfl ge)]; decide)⟩
     have e5:a.tmps[5]? = some (.int .i64 (j:Int)):=hf 5 (of_decide_eq_true (by kernel_rfl))
     clear hf hx hd
     go_simp
     refine hK _ _ ?_
     exact ⟨hI,f0,f1,f2,f3,f4,f5,f6,f7,f8,f9,f10,f11,f12,f13,f14,f15,f16,f17,f18,f19,f20,f21,f22,f23,f24,f25,fun _ => rfl,f27,f28,f29,f30,f31,f32,f33,f34,f35,f36,f37⟩
    ·intro L x a wR K hL hd hf hx hΦ hK
     obtain ⟨hI,f0,f1,f2,f3,f4,f5,f6,f7,f8,f9,f10,f11,f12,f13,f14,f15,f16,f17,f18,f19,f20,f21,f22,f23,f24,f25,f26,f27,f28,f29,f30,f31,f32,f33,f34,f35,f36,f37⟩:=hΦ
     have g24:=f24 (hd 24 (by kernel_rfl))
     have ge:a.tmps[41]? = some (x 41):=hx 24 _ 41 rfl rfl (hd 24 (by kernel_rfl))
     rw [g24] at ge
     refine ⟨fun _ => ?_,fun h => absurd h (by rw [Go.RE.wanted_of rfl (Go.RE.yielded_of rfl rfl ge)]; decide)⟩
     have d25:=f25 (hd 25 (by kernel_rfl))
     have e42:a.tmps[42]? = some (x 42):=hx 25 _ 42 rfl rfl (hd 25 (by kernel_rfl))
     rw [d25] at e42
     have d26:=f26 (hd 26 (by kernel_rfl))
     have e43:a.tmps[43]? = some (x 43):=hx 26 _ 43 rfl rfl (hd 26 (by kernel_rfl))
     rw [d26] at e43
     have l1:=HJ1.out.1
     have l2:=HJ1.out.2
     clear hf hx hd
     go_simp
     refine hK _ _ ?_
     exact ⟨hI,f0,f1,f2,f3,f4,f5,f6,f7,f8,f9,f10,f11,f12,f13,f14,f15,f16,f17,f18,f19,f20,f21,f22,f23,f24,f25,f26,fun _ => rfl,f28,f29,f30,f31,f32,f33,f34,f35,f36,f37⟩
    ·intro L x a wR K hL hd hf hx hΦ hK
     obtain ⟨hI,f0,f1,f2,f3,f4,f5,f6,f7,f8,f9,f10,f11,f12,f13,f14,f15,f16,f17,f18,f19,f20,f21,f22,f23,f24,f25,f26,f27,f28,f29,f30,f31,f32,f33,f34,f35,f36,f37⟩:=hΦ
     have g24:=f24 (hd 24 (by kernel_rfl))
     have ge:a.tmps[41]? = some (x 41):=hx 24 _ 41 rfl rfl (hd 24 (by kernel_rfl))
     rw [g24] at ge
     refine ⟨fun _ => ?_,fun h => absurd h (by rw [Go.RE.wanted_of rfl (Go.RE.yielded_of rfl rfl ge)]; decide)⟩
     have d27:=f27 (hd 27 (by kernel_rfl))
     have e44:a.tmps[44]? = some (x 44):=hx 27 _ 44 rfl rfl (hd 27 (by kernel_rfl))
     rw [d27] at e44
     clear hf hx hd
     go_simp
     refine hK _ _ ?_
     exact ⟨hI,f0,f1,f2,f3,f4,f5,f6,f7,f8,f9,f10,f11,f12,f13,f14,f15,f16,f17,f18,f19,f20,f21,f22,f23,f24,f25,f26,f27,fun _ => rfl,f29,f30,f31,f32,f33,f34,f35,f36,f37⟩
    ·intro L x a wR K hL hd hf hx hΦ hK
     obtain ⟨hI,f0,f1,f2,f3,f4,f5,f6,f7,f8,f9,f10,f11,f12,f13,f14,f15,f16,f17,f18,f19,f20,f21,f22,f23,f24,f25,f26,f27,f28,f29,f30,f31,f32,f33,f34,f35,f36,f37⟩:=hΦ
     have g24:=f24 (hd 24 (by kernel_rfl))
     have ge:a.tmps[41]? = some (x 41):=hx 24 _ 41 rfl rfl (hd 24 (by kernel_rfl))
     rw [g24] at ge
     refine ⟨fun _ => ?_,fun h => absurd h (by rw [Go.RE.wanted_of rfl (Go.RE.yielded_of rfl rfl ge)]; decide)⟩
     have d28:=f28 (hd 28 (by kernel_rfl))
     have e45:a.tmps[45]? = some (x 45):=hx 28 _ 45 rfl rfl (hd 28 (by kernel_rfl))
     rw [d28] at e45
     have c2:=(hI.cell (p:=⟨g1,o1 + j * 3 + 2,none⟩) HG1.out).trans HC2.out
     clear hf hx hd
     go_simp
     refine hK _ _ ?_
     exact ⟨hI,f0,f1,f2,f3,f4,f5,f6,f7,f8,f9,f10,f11,f12,f13,f14,f15,f16,f17,f18,f19,f20,f21,f22,f23,f24,f25,f26,f27,f28,fun _ => rfl,f30,f31,f32,f33,f34,f35,f36,f37⟩
    ·intro L x a wR K hL hd hf hx hΦ hK
     obtain ⟨hI,f0,f1,f2,f3,f4,f5,f6,f7,f8,f9,f10,f11,f12,f13,f14,f15,f16,f17,f18,f19,f20,f21,f22,f23,f24,f25,f26,f27,f28,f29,f30,f31,f32,f33,f34,f35,f36,f37⟩:=hΦ
     have g24:=f24 (hd 24 (by kernel_rfl))
     have ge:a.tmps[41]? = some (x 41):=hx 24 _ 41 rfl rfl (hd 24 (by kernel_rfl))
     rw [g24] at ge
     refine ⟨fun _ => ?_,fun h => absurd h (by rw [Go.RE.wanted_of rfl (Go.RE.yielded_of rfl rfl ge)]; decide)⟩
     have e1:a.tmps[1]? = some (.slice (some ⟨g2,o2,none⟩) n2 tc):=hf 1 (of_decide_eq_true (by kernel_rfl))
     clear hf hx hd
     go_simp
     refine hK _ _ ?_
     exact ⟨hI,f0,f1,f2,f3,f4,f5,f6,f7,f8,f9,f10,f11,f12,f13,f14,f15,f16,f17,f18,f19,f20,f21,f22,f23,f24,f25,f26,f27,f28,f29,fun _ => rfl,f31,f32,f33,f34,f35,f36,f37⟩
    ·intro L x a wR K hL hd hf hx hΦ hK
     obtain ⟨hI,f0,f1,f2,f3,f4,f5,f6,f7,f8,f9,f10,f11,f12,f13,f14,f15,f16,f17,f18,f19,f20,f21,f22,f23,f24,f25,f26,f27,f28,f29,f30,f31,f32,f33,f34,f35,f36,f37⟩:=hΦ
     have g24:=f24 (hd 24 (by kernel_rfl))
     have ge:a.tmps[41]? = some (x 41):=hx 24 _ 41 rfl rfl (hd 24 (by kernel_rfl))
     rw [g24] at ge
     refine ⟨fun _ => ?_,fun h => absurd h (by rw [Go.RE.wanted_of rfl (Go.RE.yielded_of rfl rfl ge)]; decide)⟩
     have e5:a.tmps[5]? = some (.int .i64 (j:Int)):=hf 5 (of_decide_eq_true (by kernel_rfl))
     clear hf hx hd
     go_simp
     refine hK _ _ ?_
     exact ⟨hI,f0,f1,f2,f3,f4,f5,f6,f7,f8,f9,f10,f11,f12,f13,f14,f15,f16,f17,f18,f19,f20,f21,f22,f23,f24,f25,f26,f27,f28,f29,f30,fun _ => rfl,f32,f33,f34,f35,f36,f37⟩
    ·intro L x a wR K hL hd hf hx hΦ hK
     obtain ⟨hI,f0,f1,f2,f3,f4,f5,f6,f7,f8,f9,f10,f11,f12,f13,f14,f15,f16,f17,f18,f19,f20,f21,f22,f23,f24,f25,f26,f27,f28,f29,f30,f31,f32,f33,f34,f35,f36,f37⟩:=hΦ
     have g24:=f24 (hd 24 (by kernel_rfl))
     have ge:a.tmps[41]? = some (x 41):=hx 24 _ 41 rfl rfl (hd 24 (by kernel_rfl))
     rw [g24] at ge
     refine ⟨fun _ => ?_,fun h => absurd h (by rw [Go.RE.wanted_of rfl (Go.RE.yielded_of rfl rfl ge)]; decide)⟩
     have d30:=f30 (hd 30 (by kernel_rfl))
     have e47:a.tmps[47]? = some (x 47):=hx 30 _ 47 rfl rfl (hd 30 (by kernel_rfl))
     rw [d30] at e47
     have d31:=f31 (hd 31 (by kernel_rfl))
     have e48:a.tmps[48]? = some (x 48):=hx 31 _ 48 rfl rfl (hd 31 (by kernel_rfl))
     rw [d31] at e48
     have l1:=HJ1.out.1
     have l2:=HJ1.out.2
     clear hf hx hd
     go_simp
     refine hK _ _ ?_
     exact ⟨hI,f0,f1,f2,f3,f4,f5,f6,f7,f8,f9,f10,f11,f12,f13,f14,f15,f16,f17,f18,f19,f20,f21,f22,f23,f24,f25,f26,f27,f28,f29,f30,f31,fun _ => rfl,f33,f34,f35,f36,f37⟩
    ·intro L x a wR K hL hd hf hx hΦ hK
     obtain ⟨hI,f0,f1,f2,f3,f4,f5,f6,f7,f8,f9,f10,f11,f12,f13,f14,f15,f16,f17,f18,f19,f20,f21,f22,f23,f24,f25,f26,f27,f28,f29,f30,f31,f32,f33,f34,f35,f36,f37⟩:=hΦ
     have g24:=f24 (hd 24 (by kernel_rfl))
     have ge:a.tmps[41]? = some (x 41):=hx 24 _ 41 rfl rfl (hd 24 (by kernel_rfl))
     rw [g24] at ge
     refine ⟨fun _ => ?_,fun h => absurd h (by rw [Go.RE.wanted_of rfl (Go.RE.yielded_of rfl rfl ge)]; decide)⟩
     have d32:=f32 (hd 32 (by kernel_rfl))
     have e49:a.tmps[49]? = some (x 49):=hx 32 _ 49 rfl rfl (hd 32 (by kernel_rfl))
     rw [d32] at e49
     clear hf hx hd
     go_simp
     refine hK _ _ ?_
     exact ⟨hI,f0,f1,f2,f3,f4,f5,f6,f7,f8,f9,f10,f11,f12,f13,f14,f15,f16,f17,f18,f19,f20,f21,f22,f23,f24,f25,f26,f27,f28,f29,f30,f31,f32,fun _ => rfl,f34,f35,f36,f37⟩
    ·intro L x a wR K hL hd hf hx hΦ hK
     obtain ⟨hI,f0,f1,f2,f3,f4,f5,f6,f7,f8,f9,f10,f11,f12,f13,f14,f15,f16,f17,f18,f19,f20,f21,f22,f23,f24,f25,f26,f27,f28,f29,f30,f31,f32,f33,f34,f35,f36,f37⟩:=hΦ
     have g24:=f24 (hd 24 (by kernel_rfl))
     have ge:a.tmps[41]? = some (x 41):=hx 24 _ 41 rfl rfl (hd 24 (by kernel_rfl))
     rw [g24] at ge
     refine ⟨fun _ => ?_,fun h => absurd h (by rw [Go.RE.wanted_of rfl (Go.RE.yielded_of rfl rfl ge)]; decide)⟩
     have d33:=f33 (hd 33 (by kernel_rfl))
     have e50:a.tmps[50]? = some (x 50):=hx 33 _ 50 rfl rfl (hd 33 (by kernel_rfl))
     rw [d33] at e50
     have c2:=(hI.cell (p:=⟨g2,o2 + j * 3 + 2,none⟩) HG2.out).trans HD2.out
     clear hf hx hd
     go_simp
     refine hK _ _ ?_
     exact ⟨hI,f0,f1,f2,f3,f4,f5,f6,f7,f8,f9,f10,f11,f12,f13,f14,f15,f16,f17,f18,f19,f20,f21,f22,f23,f24,f25,f26,f27,f28,f29,f30,f31,f32,f33,fun _ => rfl,f35,f36,f37⟩
    ·intro L x a wR K hL hd hf hx hΦ hK
     obtain ⟨hI,f0,f1,f2,f3,f4,f5,f6,f7,f8,f9,f10,f11,f12,f13,f14,f15,f16,f17,f18,f19,f20,f21,f22,f23,f24,f25,f26,f27,f28,f29,f30,f31,f32,f33,f34,f35,f36,f37⟩:=hΦ
     have g24:=f24 (hd 24 (by kernel_rfl))
     have ge:a.tmps[41]? = some (x 41):=hx 24 _ 41 rfl rfl (hd 24 (by kernel_rfl))
     rw [g24] at ge
     refine ⟨fun _ => ?_,fun h => absurd h (by rw [Go.RE.wanted_of rfl (Go.RE.yielded_of rfl rfl ge)]; decide)⟩
     have d29:=f29 (hd 29 (by kernel_rfl))
     have e46:a.tmps[46]? = some (x 46):=hx 29 _ 46 rfl rfl (hd 29 (by kernel_rfl))
     rw [d29] at e46
     have d34:=f34 (hd 34 (by kernel_rfl))
     have e51:a.tmps[51]? = some (x 51):=hx 34 _ 51 rfl rfl (hd 34 (by kernel_rfl))
     rw [d34] at e51
     clear hf hx hd
     go_simp
     go_at_call 16
     with_reducible refine (HCQ.out _ hI).mono ?_
     rintro e w' ⟨rfl,hB8⟩
     simp only
     refine hK _ _ ?_
     exact ⟨hI.trans (hB8.mono hI.size),f0,f1,f2,f3,f4,f5,f6,f7,f8,f9,f10,f11,f12,f13,f14,f15,f16,f17,f18,f19,f20,f21,f22,f23,f24,f25,f26,f27,f28,f29,f30,f31,f32,f33,f34,fun _ => rfl,f36,f37⟩
    ·intro L x a wR K hL hd hf hx hΦ hK
     obtain ⟨hI,f0,f1,f2,f3,f4,f5,f6,f7,f8,f9,f10,f11,f12,f13,f14,f15,f16,f17,f18,f19,f20,f21,f22,f23,f24,f25,f26,f27,f28,f29,f30,f31,f32,f33,f34,f35,f36,f37⟩:=hΦ
     have g24:=f24 (hd 24 (by kernel_rfl))
     have ge:a.tmps[41]? = some (x 41):=hx 24 _ 41 rfl rfl (hd 24 (by kernel_rfl))
     rw [g24] at ge
     refine ⟨fun _ => ?_,fun h => absurd h (by rw [Go.RE.wanted_of rfl (Go.RE.yielded_of rfl rfl ge)]; decide)⟩
     have d35:=f35 (hd 35 (by kernel_rfl))
     have e52:a.tmps[52]? = some (x 52):=hx 35 _ 52 rfl rfl (hd 35 (by kernel_rfl))
     rw [d35] at e52
     clear hf hx hd
     go_simp
     refine hK _ _ ?_
     exact ⟨hI,f0,f1,f2,f3,f4,f5,f6,f7,f8,f9,f10,f11,f12,f13,f14,f15,f16,f17,f18,f19,f20,f21,f22,f23,f24,f25,f26,f27,f28,f29,f30,f31,f32,f33,f34,f35,fun _ => rfl,f37⟩
    ·intro L x a wR K hL hd hf hx hΦ hK
     obtain ⟨hI,f0,f1,f2,f3,f4,f5,f6,f7,f8,f9,f10,f11,f12,f13,f14,f15,f16,f17,f18,f19,f20,f21,f22,f23,f24,f25,f26,f27,f28,f29,f30,f31,f32,f33,f34,f35,f36,f37⟩:=hΦ
     refine ⟨fun _ => ?_,fun h => absurd h (by rw [Go.RE.wanted_none rfl]; decide)⟩
     have d24:=f24 (hd 24 (by kernel_rfl))
     have e41:a.tmps[41]? = some (x 41):=hx 24 _ 41 rfl rfl (hd 24 (by kernel_rfl))
     rw [d24] at e41
     have d36:=f36 (hd 36 (by kernel_rfl))
     have e53:a.tmps[53]? = some (x 53):=hx 36 _ 53 rfl rfl (hd 36 (by kernel_rfl))
     rw [d36] at e53
     clear hf hx hd
     go_simp
     refine hK _ _ ?_
     exact ⟨hI,f0,f1,f2,f3,f4,f5,f6,f7,f8,f9,f10,f11,f12,f13,f14,f15,f16,f17,f18,f19,f20,f21,f22,f23,f24,f25,f26,f27,f28,f29,f30,f31,f32,f33,f34,f35,f36,fun _ => rfl⟩
    ·rintro x W ⟨hI,f0,f1,f2,f3,f4,f5,f6,f7,f8,f9,f10,f11,f12,f13,f14,f15,f16,f17,f18,f19,f20,f21,f22,f23,f24,f25,f26,f27,f28,f29,f30,f31,f32,f33,f34,f35,f36,f37⟩
     simp only [Exit.then]
     go_step
     go_meet
     exact ⟨f37 rfl,hI⟩
   case rest =>
    obtain ⟨rfl,hB3⟩:=hcut
    have HB3:=hid hB3
    clear hB3
    go_wp2_with (fail)
    go_roundw
    case rel => exact ⟨j + 1,by omega,by go_num,HB.out.trans (HB3.out.mono HB.out.size)⟩
    case measure => simp [intOf]; omega
  ·obtain rfl:j = n2:=by omega
   have HB:=hid hB
   clear hB
   go_wp2_with (fail)
   go_ret
   exact ⟨rfl,HB.out⟩
set_option maxRecDepth 100000 in
set_option maxHeartbeats 4000000 in
theorem form_same_of (f:Fm) (ha:TermsSame f.args) (he:FormsSame f.subs):FormSame f:=by
 intro hN w a1 s1 a2 s2 h1 h2 h3 h4
 have hN1:nodesTs f.args <= 1000000 /\ nodesL f.subs <= 1000000:=by cases f; simp only [nodesF] at hN; simp only [FR.Fm.args,FR.Fm.subs]; omega
 have h0:=fun (W:World) (hB:Below w.heap.size w W) => ha hN1.1 W a1 a2 (h1.turn (sn_up hB)) (h2.turn (sn_up hB))
 have h5:=fun (W:World) (hB:Below w.heap.size w W) => he hN1.2 W s1 s2 (h3.turn (sn_up hB)) (h4.turn (sn_up hB))
 obtain ⟨op,nm,args,subs⟩:=f
 obtain ⟨aa,an,ac⟩:=a1
 obtain ⟨ba,bn,bc⟩:=a2
 obtain ⟨sa,sn,sc⟩:=s1
 obtain ⟨ta,tn,tc⟩:=s2
 simp only [FR.Fm.op,FR.Fm.name,SL.v,RetY] at h0 h5 ⊢
 have H0:=hid h0
 have H5:=hid h5
 clear h0 h5 he ha h1 h2 h3 h4 hN hN1
 go_enter Tryz.func11,Tryz.ntmps11
 go_upto_region 1 with (fail)
 obtain ⟨w1,hw1⟩:∃ w1,w1 = (w.alloc (.cells #[.int .u8 (op:Int),.string nm,.slice aa an ac,.slice sa sn sc] 28)).alloc (.cells #[.int .u8 (op:Int),.string nm,.slice ba bn bc,.slice ta tn tc] 28):=⟨_,rfl⟩
 rw [<- hw1]
 have hB1:Below w.heap.size w w1:=by rw [hw1]; exact ((Below.refl _ w).alloc (Nat.le_refl _) _).alloc (by simp) _
 have k1:w1.heap[w.heap.size]? = some (.cells #[.int .u8 (op:Int),.string nm,.slice aa an ac,.slice sa sn sc] 28 (0,0)):=by rw [hw1]; exact HK.blk_alloc (HK.blk_new _ _) _
 have k2:w1.heap[w.heap.size + 1]? = some (.cells #[.int .u8 (op:Int),.string nm,.slice ba bn bc,.slice ta tn tc] 28 (0,0)):=by rw [hw1]; have:=HK.blk_new (w.alloc (.cells #[.int .u8 (op:Int),.string nm,.slice aa an ac,.slice sa sn sc] 28)) (.cells #[.int .u8 (op:Int),.string nm,.slice ba bn bc,.slice ta tn tc] 28); simpa using this
 have x0:=HK.blk_cell k1 0
 have y0:=HK.blk_cell k2 0
 have x1:=HK.blk_cell k1 1
 have y1:=HK.blk_cell k2 1
 have x2:=HK.blk_cell k1 2
 have y2:=HK.blk_cell k2 2
 have x3:=HK.blk_cell k1 3
 have y3:=HK.blk_cell k2 3
 have HB1:=hid hB1
 have HK1:=hid k1
 have HK2:=hid k2
 clear k1 k2 hw1 hB1
 go_wp2_with (fail)
 go_at_call 16
 with_reducible refine (H0.out _ HB1.out).mono ?_
 rintro e w2 ⟨rfl,hB2⟩
 have z1:=(hB2.block _ (HK.blk_lt HK1.out)).trans HK1.out
 have z2:=(hB2.block _ (HK.blk_lt HK2.out)).trans HK2.out
 have x3':=HK.blk_cell z1 3
 have y3':=HK.blk_cell z2 3
 have HB2:=hid (HB1.out.trans (hB2.mono HB1.out.size))
 clear hB2 z1 z2
 go_wp2_with (fail)
 go_at_call 19
 with_reducible refine (H5.out _ HB2.out).mono ?_
 rintro e w3 ⟨rfl,hB3⟩
 have HB3:=hid (HB2.out.trans (hB3.mono HB2.out.size))
 clear hB3
 go_wp2_with (fail)
 go_ret
 exact ⟨rfl,HB3.out⟩
set_option maxRecDepth 100000 in
set_option maxHeartbeats 4000000 in
theorem forms_same_of (l:List Fm) (IH:∀ t ∈ l,FormSame t):FormsSame l:=by
 intro hN w s1 s2 hs1 hs2
 have hn1:=hs1.len
 have hn2:=hs2.len
 obtain ⟨sa,n,sc⟩:=s1
 obtain ⟨ta,n2,tc⟩:=s2
 simp only at hn1 hn2
 obtain rfl:n2 = n:=by rw [hn1,hn2]
 simp only [SL.v]
 have hn6:n2 <= 1000000:=by have:=nodesL_len l; omega
 have HNN:=hid hN
 clear hN
 have HS1:=hid hs1
 have HS2:=hid hs2
 have HIH:=hid IH
 have HN:=hid hn1
 clear hs1 hs2 IH hn1 hn2
 unfold RetY
 go_enter Tryz.func19,Tryz.ntmps19
 go_wp2_with (fail)
 go_loopw [5] (fun i wr => ∃ j:Nat,j <= n2 /\ i = .int .i64 j /\ Below w.heap.size w wr) (fun i _ => n2 - (intOf i).toNat)
 case atStart => exact ⟨0,by omega,rfl,Below.refl _ _⟩
 case round =>
  obtain ⟨j,hj,rfl,hB⟩:=hrel
  by_cases hjn:(j:Int) < (n2:Int)
  ·have b0:(0:Int) <= (j:Int):=by omega
   obtain ⟨q,hq⟩:∃ q,l[j]? = some q:=⟨_,List.getElem?_eq_getElem (by rw [<- HN.out]; omega)⟩
   have hp1:=HS1.out.turn (sn_up hB)
   have hp2:=HS2.out.turn (sn_up hB)
   obtain ⟨g1,o1,hga⟩:=IsFs.pos HS1.out (show 0 < n2 by omega)
   obtain ⟨g2,o2,hgb⟩:=IsFs.pos HS2.out (show 0 < n2 by omega)
   subst hga hgb
   obtain ⟨u,d,c0,c1,c2,c3,hu,hd,_⟩:=fs_at hp1 hq
   obtain ⟨v,e,d0,d1,d2,d3,hv,he,_⟩:=fs_at hp2 hq
   have hcq:=fun (W:World) (hW:Below wr.heap.size wr W) => HIH.out q (List.mem_of_getElem? hq) (Nat.le_trans (mem_nodesF (List.mem_of_getElem? hq)) HNN.out) W u d v e (hu.turn (sn_up hW)) (hv.turn (sn_up hW)) (hd.turn (sn_up hW)) (he.turn (sn_up hW))
   obtain ⟨qo,qn,qa,qs⟩:=q
   obtain ⟨ua,un,uc⟩:=u
   obtain ⟨va,vn,vc⟩:=v
   obtain ⟨da,dn,dc⟩:=d
   obtain ⟨ea,en,ec⟩:=e
   simp only [FR.Fm.op,FR.Fm.name,SL.v,RetY] at c0 c1 c2 c3 d0 d1 d2 d3 hcq
   have HC0:=hid c0
   have HC1:=hid c1
   have HC2:=hid c2
   have HC3:=hid c3
   have HD0:=hid d0
   have HD1:=hid d1
   have HD2:=hid d2
   have HD3:=hid d3
   have HCQ:=hid hcq
   have HG1:=hid (World.block_lt_of_cell? wr ⟨g1,_,none⟩ c0)
   have HG2:=hid (World.block_lt_of_cell? wr ⟨g2,_,none⟩ d0)
   clear c0 c1 c2 c3 d0 d1 d2 d3 hcq hu hv hd he
   have HB:=hid hB
   have HJ1:Hid ((0:Int) <= (j:Int) /\ (j:Int) < (n2:Int)):=hid ⟨b0,hjn⟩
   clear hB hp1 hp2 hq
   go_upto_region 6 with (fail)
   go_cut [26] from 17 to 26 (fun v wx => v = .bool false /\ Below wr.heap.size wr wx)
   case first =>
    refine Go.RE.wp_region_eachg [17,18,19,20,21,22,23,24,25,26] (fun L x W => (Below wr.heap.size wr W) /\ (L 0 = true -> x 17 = .slice (some ⟨g1,o1,none⟩) n2 sc) /\ (L 1 = true -> x 18 = .int .i64 (j:Int)) /\ (L 2 = true -> x 19 = .pointer (some ⟨g1,o1 + j * 4,none⟩)) /\ (L 3 = true -> x 20 = .agg #[.int .u8 (qo:Int),.string qn,.slice ua un uc,.slice da dn dc]) /\ (L 4 = true -> x 21 = .slice (some ⟨g2,o2,none⟩) n2 tc) /\ (L 5 = true -> x 22 = .int .i64 (j:Int)) /\ (L 6 = true -> x 23 = .pointer (some ⟨g2,o2 + j * 4,none⟩)) /\ (L 7 = true -> x 24 = .agg #[.int .u8 (qo:Int),.string qn,.slice va vn vc,.slice ea en ec]) /\ (L 8 = true -> x 25 = .bool true) /\ (L 9 = true -> x 26 = .bool false)) (by kernel_rfl) (by kernel_rfl) (by kernel_rfl) ?_ ((Go.RE.Each.cons ?_ (Go.RE.Each.cons ?_ (Go.RE.Each.cons ?_ (Go.RE.Each.cons ?_ (Go.RE.Each.cons ?_ (Go.RE.Each.cons ?_ (Go.RE.Each.cons ?_ (Go.RE.Each.cons ?_ (Go.RE.Each.cons ?_ (Go.RE.Each.cons ?_ Go.RE.Each.nil))))))))))) ?_
    ·exact fun x => ⟨bl_dr9 (Below.refl _ _),nofun,nofun,nofun,nofun,nofun,nofun,nofun,nofun,nofun,nofun⟩
    ·intro L x a wR K hL hd hf hx hΦ hK
     obtain ⟨hI,f0,f1,f2,f3,f4,f5,f6,f7,f8,f9⟩:=hΦ
     refine ⟨fun _ => ?_,fun h => absurd h (by rw [Go.RE.wanted_none rfl]; decide)⟩
     have e0:a.tmps[0]? = some (.slice (some ⟨g1,o1,none⟩) n2 sc):=hf 0 (of_decide_eq_true (by kernel_rfl))
     clear hf hx hd
     go_simp
     refine hK _ _ ?_
     exact ⟨hI,fun _ => rfl,f1,f2,f3,f4,f5,f6,f7,f8,f9⟩
    ·intro L x a wR K hL hd hf hx hΦ hK
     obtain ⟨hI,f0,f1,f2,f3,f4,f5,f6,f7,f8,f9⟩:=hΦ
     refine ⟨fun _ => ?_,fun h => absurd h (by rw [Go.RE.wanted_none rfl]; decide)⟩
     have e5:a.tmps[5]? = some (.int .i64 (j:Int)):=hf 5 (of_decide_eq_true (by kernel_rfl))
     clear hf hx hd
     go_simp
     refine hK _ _ ?_
     exact ⟨hI,f0,fun _ => rfl,f2,f3,f4,f5,f6,f7,f8,f9⟩
    ·intro L x a wR K hL hd hf hx hΦ hK
     obtain ⟨hI,f0,f1,f2,f3,f4,f5,f6,f7,f8,f9⟩:=hΦ
     refine ⟨fun _ => ?_,fun h => absurd h (by rw [Go.RE.wanted_none rfl]; decide)⟩
     have d0:=f0 (hd 0 (by kernel_rfl))
     have e17:a.tmps[17]? = some (x 17):=hx 0 _ 17 rfl rfl (hd 0 (by kernel_rfl))
     rw [d0] at e17
     have d1:=f1 (hd 1 (by kernel_rfl))
     have e18:a.tmps[18]? = some (x 18):=hx 1 _ 18 rfl rfl (hd 1 (by kernel_rfl))
     rw [d1] at e18
     have l1:=HJ1.out.1
     have l2:=HJ1.out.2
     clear hf hx hd
     go_simp
     refine hK _ _ ?_
     exact ⟨hI,f0,f1,fun _ => rfl,f3,f4,f5,f6,f7,f8,f9⟩
    ·intro L x a wR K hL hd hf hx hΦ hK
     obtain ⟨hI,f0,f1,f2,f3,f4,f5,f6,f7,f8,f9⟩:=hΦ
     refine ⟨fun _ => ?_,fun h => absurd h (by rw [Go.RE.wanted_none rfl]; decide)⟩
     have d2:=f2 (hd 2 (by kernel_rfl))
     have e19:a.tmps[19]? = some (x 19):=hx 2 _ 19 rfl rfl (hd 2 (by kernel_rfl))
     rw [d2] at e19
     have c0:=(hI.cell (p:=⟨g1,o1 + j * 4,none⟩) HG1.out).trans HC0.out
     have c1:=(hI.cell (p:=⟨g1,o1 + j * 4 + 1,none⟩) HG1.out).trans HC1.out
     have c2:=(hI.cell (p:=⟨g1,o1 + j * 4 + 2,none⟩) HG1.out).trans HC2.out
     have c3:=(hI.cell (p:=⟨g1,o1 + j * 4 + 3,none⟩) HG1.out).trans HC3.out
     clear hf hx hd
     go_simp
     refine hK _ _ ?_
     exact ⟨hI,f0,f1,f2,fun _ => rfl,f4,f5,f6,f7,f8,f9⟩
    ·intro L x a wR K hL hd hf hx hΦ hK
     obtain ⟨hI,f0,f1,f2,f3,f4,f5,f6,f7,f8,f9⟩:=hΦ
     refine ⟨fun _ => ?_,fun h => absurd h (by rw [Go.RE.wanted_none rfl]; decide)⟩
     have e1:a.tmps[1]? = some (.slice (some ⟨g2,o2,none⟩) n2 tc):=hf 1 (of_decide_eq_true (by kernel_rfl))
     clear hf hx hd
     go_simp
     refine hK _ _ ?_
     exact ⟨hI,f0,f1,f2,f3,fun _ => rfl,f5,f6,f7,f8,f9⟩
    ·intro L x a wR K hL hd hf hx hΦ hK
     obtain ⟨hI,f0,f1,f2,f3,f4,f5,f6,f7,f8,f9⟩:=hΦ
     refine ⟨fun _ => ?_,fun h => absurd h (by rw [Go.RE.wanted_none rfl]; decide)⟩
     have e5:a.tmps[5]? = some (.int .i64 (j:Int)):=hf 5 (of_decide_eq_true (by kernel_rfl))
     clear hf hx hd
     go_simp
     refine hK _ _ ?_
     exact ⟨hI,f0,f1,f2,f3,f4,fun _ => rfl,f6,f7,f8,f9⟩
    ·intro L x a wR K hL hd hf hx hΦ hK
     obtain ⟨hI,f0,f1,f2,f3,f4,f5,f6,f7,f8,f9⟩:=hΦ
     refine ⟨fun _ => ?_,fun h => absurd h (by rw [Go.RE.wanted_none rfl]; decide)⟩
     have d4:=f4 (hd 4 (by kernel_rfl))
     have e21:a.tmps[21]? = some (x 21):=hx 4 _ 21 rfl rfl (hd 4 (by kernel_rfl))
     rw [d4] at e21
     have d5:=f5 (hd 5 (by kernel_rfl))
     have e22:a.tmps[22]? = some (x 22):=hx 5 _ 22 rfl rfl (hd 5 (by kernel_rfl))
     rw [d5] at e22
     have l1:=HJ1.out.1
     have l2:=HJ1.out.2
     clear hf hx hd
     go_simp
     refine hK _ _ ?_
     exact ⟨hI,f0,f1,f2,f3,f4,f5,fun _ => rfl,f7,f8,f9⟩
    ·intro L x a wR K hL hd hf hx hΦ hK
     obtain ⟨hI,f0,f1,f2,f3,f4,f5,f6,f7,f8,f9⟩:=hΦ
     refine ⟨fun _ => ?_,fun h => absurd h (by rw [Go.RE.wanted_none rfl]; decide)⟩
     have d6:=f6 (hd 6 (by kernel_rfl))
     have e23:a.tmps[23]? = some (x 23):=hx 6 _ 23 rfl rfl (hd 6 (by kernel_rfl))
     rw [d6] at e23
     have c0:=(hI.cell (p:=⟨g2,o2 + j * 4,none⟩) HG2.out).trans HD0.out
     have c1:=(hI.cell (p:=⟨g2,o2 + j * 4 + 1,none⟩) HG2.out).trans HD1.out
     have c2:=(hI.cell (p:=⟨g2,o2 + j * 4 + 2,none⟩) HG2.out).trans HD2.out
     have c3:=(hI.cell (p:=⟨g2,o2 + j * 4 + 3,none⟩) HG2.out).trans HD3.out
     clear hf hx hd
     go_simp
     refine hK _ _ ?_
     exact ⟨hI,f0,f1,f2,f3,f4,f5,f6,fun _ => rfl,f8,f9⟩
    ·intro L x a wR K hL hd hf hx hΦ hK
     obtain ⟨hI,f0,f1,f2,f3,f4,f5,f6,f7,f8,f9⟩:=hΦ
     refine ⟨fun _ => ?_,fun h => absurd h (by rw [Go.RE.wanted_none rfl]; decide)⟩
     have d3:=f3 (hd 3 (by kernel_rfl))
     have e20:a.tmps[20]? = some (x 20):=hx 3 _ 20 rfl rfl (hd 3 (by kernel_rfl))
     rw [d3] at e20
     have d7:=f7 (hd 7 (by kernel_rfl))
     have e24:a.tmps[24]? = some (x 24):=hx 7 _ 24 rfl rfl (hd 7 (by kernel_rfl))
     rw [d7] at e24
     clear hf hx hd
     go_simp
     go_at_call 11
     with_reducible refine (HCQ.out _ hI).mono ?_
     rintro e w' ⟨rfl,hB8⟩
     simp only
     refine hK _ _ ?_
     exact ⟨hI.trans (hB8.mono hI.size),f0,f1,f2,f3,f4,f5,f6,f7,fun _ => rfl,f9⟩
    ·intro L x a wR K hL hd hf hx hΦ hK
     obtain ⟨hI,f0,f1,f2,f3,f4,f5,f6,f7,f8,f9⟩:=hΦ
     refine ⟨fun _ => ?_,fun h => absurd h (by rw [Go.RE.wanted_none rfl]; decide)⟩
     have d8:=f8 (hd 8 (by kernel_rfl))
     have e25:a.tmps[25]? = some (x 25):=hx 8 _ 25 rfl rfl (hd 8 (by kernel_rfl))
     rw [d8] at e25
     clear hf hx hd
     go_simp
     refine hK _ _ ?_
     exact ⟨hI,f0,f1,f2,f3,f4,f5,f6,f7,f8,fun _ => rfl⟩
    ·rintro x W ⟨hI,f0,f1,f2,f3,f4,f5,f6,f7,f8,f9⟩
     simp only [Exit.then]
     go_step
     go_meet
     exact ⟨f9 rfl,hI⟩
   case rest =>
    obtain ⟨rfl,hB3⟩:=hcut
    have HB3:=hid hB3
    clear hB3
    go_wp2_with (fail)
    go_roundw
    case rel => exact ⟨j + 1,by omega,by go_num,HB.out.trans (HB3.out.mono HB.out.size)⟩
    case measure => simp [intOf]; omega
  ·obtain rfl:j = n2:=by omega
   have HB:=hid hB
   clear hB
   go_wp2_with (fail)
   go_ret
   exact ⟨rfl,HB.out⟩
mutual
theorem terms_same_t:∀ t:Tm,TermsSame t.args
 | .mk _ _ args => terms_same_of args (terms_same_l args)
theorem terms_same_l:∀ l:List Tm,∀ t ∈ l,TermsSame t.args
 | [],_,h => by cases h
 | x :: r,t,h => by
  rcases List.mem_cons.1 h with he | h
  ·rw [he]; exact terms_same_t x
  ·exact terms_same_l r t h
end
theorem terms_same (l:List Tm):TermsSame l:=terms_same_of l (terms_same_l l)
mutual
theorem form_same:∀ f:Fm,FormSame f
 | .mk op nm args subs => form_same_of _ (terms_same args) (forms_same_of subs (forms_same_l subs))
theorem forms_same_l:∀ l:List Fm,∀ t ∈ l,FormSame t
 | [],_,h => by cases h
 | x :: r,t,h => by
  rcases List.mem_cons.1 h with he | h
  ·rw [he]; exact form_same x
  ·exact forms_same_l r t h
end
theorem forms_same (l:List Fm):FormsSame l:=forms_same_of l (forms_same_l l)
end Go.Proofs.YtdobflpbkfkmgaaGreatDoor
