import Derived.Test.YtdobflpbkfkmgaaGreatDoorR8m
import Derived.Test.YtdobflpbkfkmgaaGreatDoorKit
import Derived.Test.YtdobflpbkfkmgaaGreatDoorMea
import Derived.Deep.CutRange
namespace Go.Proofs.YtdobflpbkfkmgaaGreatDoor
open Go.RowKit Go.HK Lib
set_option linter.unusedVariables false
set_option linter.unusedSimpArgs false
set_option linter.unusedSectionVars false
theorem lit_row (l:List ByteArray) (hl:∀ e ∈ l,e.size <= 8) {wr:World} {g:Nat} (h:wr.heap[g]? = some (.cells (l.map Value.string).toArray 9 (0,0))) {i:Nat} (hi:i < l.length):∃ e:ByteArray,wr.cell? ⟨g,i,none⟩ = some (.string e) /\ e.size <= 8:=by
 refine ⟨l[i],(Go.HK.blk_cell h _).trans ?_,hl _ (List.getElem_mem hi)⟩
 simp [List.getElem?_eq_getElem hi]
theorem bl_dr8 {B:Nat} {a w:World} (h:Below B a w):Below B a w.drew:=⟨h.os,h.tape,h.output,h.size,h.block⟩
theorem idx_mod (j n:Nat):(j:Int).tmod (n:Int) = ((j % n:Nat):Int):=(Int.ofNat_tmod j n).symm
theorem idx_div (j n:Nat):(j:Int).tdiv (n:Int) = ((j / n:Nat):Int):=(Int.ofNat_tdiv j n).symm
set_option maxRecDepth 100000 in
set_option maxHeartbeats 8000000 in
theorem small_of (G:World -> Prop) (hUp:∀ W W',G W -> Below W.heap.size W W' -> G W') (hP:∀ W s,G W -> s.size <= 16384 -> Calls Tryz.prog 5 #[.string s] W (RetW W true)) (hN:∀ W,G W -> Calls Tryz.prog 7 #[] W (RetW W true)) (hS:∀ W,G W -> Calls Tryz.prog 8 #[] W (RetW W true)) (hA:∀ W,G W -> Calls Tryz.prog 6 #[] W (RetW W true)) (w:World) (hG:G w):Calls Tryz.prog 4 #[] w (RetW w true):=by
 unfold RetW at hP hN hS hA
 have HP:=hid hP
 have HN:=hid hN
 have HS:=hid hS
 have HA:=hid hA
 have HUP:=hid hUp
 have hB1:Below w.heap.size w (w.alloc (.cells #[.string ⟨#[]⟩,.string ⟨#[80]⟩,.string ⟨#[120]⟩,.string ⟨#[97]⟩,.string ⟨#[40]⟩,.string ⟨#[41]⟩,.string ⟨#[44]⟩,.string ⟨#[126]⟩,.string ⟨#[38]⟩,.string ⟨#[45,62]⟩,.string ⟨#[117,110,116,105,108]⟩,.string ⟨#[97,108,108]⟩,.string ⟨#[63,65]⟩,.string ⟨#[63,116]⟩,.string ⟨#[91]⟩] 9)):=(Below.refl _ w).alloc (Nat.le_refl _) _
 have hG1:G (w.alloc (.cells #[.string ⟨#[]⟩,.string ⟨#[80]⟩,.string ⟨#[120]⟩,.string ⟨#[97]⟩,.string ⟨#[40]⟩,.string ⟨#[41]⟩,.string ⟨#[44]⟩,.string ⟨#[126]⟩,.string ⟨#[38]⟩,.string ⟨#[45,62]⟩,.string ⟨#[117,110,116,105,108]⟩,.string ⟨#[97,108,108]⟩,.string ⟨#[63,65]⟩,.string ⟨#[63,116]⟩,.string ⟨#[91]⟩] 9)):=hUp _ _ hG hB1
 have hk:=Go.HK.blk_new w (.cells #[.string ⟨#[]⟩,.string ⟨#[80]⟩,.string ⟨#[120]⟩,.string ⟨#[97]⟩,.string ⟨#[40]⟩,.string ⟨#[41]⟩,.string ⟨#[44]⟩,.string ⟨#[126]⟩,.string ⟨#[38]⟩,.string ⟨#[45,62]⟩,.string ⟨#[117,110,116,105,108]⟩,.string ⟨#[97,108,108]⟩,.string ⟨#[63,65]⟩,.string ⟨#[63,116]⟩,.string ⟨#[91]⟩] 9)
 have HG1:=hid hG1
 have HB1:=hid hB1
 have HK0:=hid hk
 clear hP hUp hG hB1 hG1 hk hN hS hA
 go_enter Tryz.func4,Tryz.ntmps4
 go_upto_region 3 with (fail)
 obtain ⟨w1,hw1⟩:∃ x,x = w.alloc (.cells #[.string ⟨#[]⟩,.string ⟨#[80]⟩,.string ⟨#[120]⟩,.string ⟨#[97]⟩,.string ⟨#[40]⟩,.string ⟨#[41]⟩,.string ⟨#[44]⟩,.string ⟨#[126]⟩,.string ⟨#[38]⟩,.string ⟨#[45,62]⟩,.string ⟨#[117,110,116,105,108]⟩,.string ⟨#[97,108,108]⟩,.string ⟨#[63,65]⟩,.string ⟨#[63,116]⟩,.string ⟨#[91]⟩] 9):=⟨_,rfl⟩
 obtain ⟨g,hg⟩:∃ b,b = w.heap.size:=⟨_,rfl⟩
 rw [<- hw1] at HG1 HB1 HK0 ⊢
 rw [<- hg] at HK0 ⊢
 have HB0:=HB1
 clear hw1 HB1 hg
 go_loopw [2] (fun i wr => ∃ (j:Nat),i = .int .i64 j /\ j <= 3375 /\ G wr /\ Below w1.heap.size w1 wr) (fun i _ => 3375 - (intOf i).toNat)
 case atStart => exact ⟨0,rfl,by omega,HG1.out,Below.refl _ _⟩
 case round =>
  obtain ⟨j,rfl,hj,hG,hB⟩:=hrel
  have HG:=hid hG
  have HBW:=hid hB
  clear hG hB
  by_cases hj8:(j:Int) < 3375
  ·have j0:(0:Int) <= (j:Int):=by omega
   go_upto_region 5 with (fail)
   go_cut [38] from 13 to 38 (fun v wx => v = .bool false /\ G wx /\ Below wr.heap.size wr wx)
   case first =>
     obtain ⟨na,ha⟩:∃ a,a = j % 15:=⟨_,rfl⟩
     obtain ⟨nq,hq⟩:∃ a,a = j / 15:=⟨_,rfl⟩
     obtain ⟨nb,hb⟩:∃ a,a = nq % 15:=⟨_,rfl⟩
     obtain ⟨nc,hc⟩:∃ a,a = j / 225:=⟨_,rfl⟩
     obtain ⟨ea,hea,hza⟩:=lit_row [⟨#[]⟩,⟨#[80]⟩,⟨#[120]⟩,⟨#[97]⟩,⟨#[40]⟩,⟨#[41]⟩,⟨#[44]⟩,⟨#[126]⟩,⟨#[38]⟩,⟨#[45,62]⟩,⟨#[117,110,116,105,108]⟩,⟨#[97,108,108]⟩,⟨#[63,65]⟩,⟨#[63,116]⟩,⟨#[91]⟩] (by decide) ((HBW.out.block _ (HK.blk_lt HK0.out)).trans HK0.out) (show na < 15 by omega)
     obtain ⟨eb,heb,hzb⟩:=lit_row [⟨#[]⟩,⟨#[80]⟩,⟨#[120]⟩,⟨#[97]⟩,⟨#[40]⟩,⟨#[41]⟩,⟨#[44]⟩,⟨#[126]⟩,⟨#[38]⟩,⟨#[45,62]⟩,⟨#[117,110,116,105,108]⟩,⟨#[97,108,108]⟩,⟨#[63,65]⟩,⟨#[63,116]⟩,⟨#[91]⟩] (by decide) ((HBW.out.block _ (HK.blk_lt HK0.out)).trans HK0.out) (show nb < 15 by omega)
     obtain ⟨ec,hec,hzc⟩:=lit_row [⟨#[]⟩,⟨#[80]⟩,⟨#[120]⟩,⟨#[97]⟩,⟨#[40]⟩,⟨#[41]⟩,⟨#[44]⟩,⟨#[126]⟩,⟨#[38]⟩,⟨#[45,62]⟩,⟨#[117,110,116,105,108]⟩,⟨#[97,108,108]⟩,⟨#[63,65]⟩,⟨#[63,116]⟩,⟨#[91]⟩] (by decide) ((HBW.out.block _ (HK.blk_lt HK0.out)).trans HK0.out) (show nc < 15 by omega)
     have HEa:=hid hea
     have HEb:=hid heb
     have HEc:=hid hec
     have HZ:Hid (ea.size <= 8 /\ eb.size <= 8 /\ ec.size <= 8):=hid ⟨hza,hzb,hzc⟩
     have HRA:Hid ((j:Int).tmod 15 = (na:Int)):=hid (by rw [ha]; exact idx_mod j 15)
     have HRQ:Hid ((j:Int).tdiv 15 = (nq:Int) /\ nq <= 3375):=hid ⟨(by rw [hq]; exact idx_div j 15),by omega⟩
     have HRB:Hid ((nq:Int).tmod 15 = (nb:Int)):=hid (by rw [hb]; exact idx_mod nq 15)
     have HRC:Hid ((j:Int).tdiv 225 = (nc:Int) /\ nc <= 3375):=hid ⟨(by rw [hc]; exact idx_div j 225),by omega⟩
     have HLA:Hid ((0:Int) <= (na:Int) /\ (na:Int) < 15):=hid (by omega)
     have HLB:Hid ((0:Int) <= (nb:Int) /\ (nb:Int) < 15):=hid (by omega)
     have HLC:Hid ((0:Int) <= (nc:Int) /\ (nc:Int) < 15):=hid (by omega)
     have HGL:=hid (World.block_lt_of_cell? wr ⟨g,_,none⟩ hea)
     clear hea heb hec ha hb hc hq hza hzb hzc j0 hj8 hj
     refine Go.RE.wp_region_eachg [17,18,19,20,21,22,23,24,25,26,27,28,29,30,31,32,33,34,35,36,37,38] (fun L x W => (G W /\ Below wr.heap.size wr W) /\ (L 0 = true -> x 17 = .slice (some ⟨g,0,none⟩) 15 15) /\ (L 1 = true -> x 18 = .int .i64 (j:Int)) /\ (L 2 = true -> x 19 = .int .i64 (na:Int)) /\ (L 3 = true -> x 20 = .pointer (some ⟨g,na,none⟩)) /\ (L 4 = true -> x 21 = .string ea) /\ (L 5 = true -> x 22 = .string (ea ++ ⟨#[32]⟩)) /\ (L 6 = true -> x 23 = .slice (some ⟨g,0,none⟩) 15 15) /\ (L 7 = true -> x 24 = .int .i64 (j:Int)) /\ (L 8 = true -> x 25 = .int .i64 (nq:Int)) /\ (L 9 = true -> x 26 = .int .i64 (nb:Int)) /\ (L 10 = true -> x 27 = .pointer (some ⟨g,nb,none⟩)) /\ (L 11 = true -> x 28 = .string eb) /\ (L 12 = true -> x 29 = .string (ea ++ ⟨#[32]⟩ ++ eb)) /\ (L 13 = true -> x 30 = .string (ea ++ ⟨#[32]⟩ ++ eb ++ ⟨#[32]⟩)) /\ (L 14 = true -> x 31 = .slice (some ⟨g,0,none⟩) 15 15) /\ (L 15 = true -> x 32 = .int .i64 (j:Int)) /\ (L 16 = true -> x 33 = .int .i64 (nc:Int)) /\ (L 17 = true -> x 34 = .pointer (some ⟨g,nc,none⟩)) /\ (L 18 = true -> x 35 = .string ec) /\ (L 19 = true -> x 36 = .string (ea ++ ⟨#[32]⟩ ++ eb ++ ⟨#[32]⟩ ++ ec)) /\ (L 20 = true -> x 37 = .bool true) /\ (L 21 = true -> x 38 = .bool false)) (by kernel_rfl) (by kernel_rfl) (by kernel_rfl) ?_ ((Go.RE.Each.cons ?_ (Go.RE.Each.cons ?_ (Go.RE.Each.cons ?_ (Go.RE.Each.cons ?_ (Go.RE.Each.cons ?_ (Go.RE.Each.cons ?_ (Go.RE.Each.cons ?_ (Go.RE.Each.cons ?_ (Go.RE.Each.cons ?_ (Go.RE.Each.cons ?_ (Go.RE.Each.cons ?_ (Go.RE.Each.cons ?_ (Go.RE.Each.cons ?_ (Go.RE.Each.cons ?_ (Go.RE.Each.cons ?_ (Go.RE.Each.cons ?_ (Go.RE.Each.cons ?_ (Go.RE.Each.cons ?_ (Go.RE.Each.cons ?_ (Go.RE.Each.cons ?_ (Go.RE.Each.cons ?_ (Go.RE.Each.cons ?_ Go.RE.Each.nil))))))))))))))))))))))) ?_
     ·exact fun x => ⟨⟨HUP.out _ _ HG.out (bl_dr8 (Below.refl _ _)),bl_dr8 (Below.refl _ _)⟩,nofun,nofun,nofun,nofun,nofun,nofun,nofun,nofun,nofun,nofun,nofun,nofun,nofun,nofun,nofun,nofun,nofun,nofun,nofun,nofun,nofun,nofun⟩
     ·intro L x a wR K hL hd hf hx hΦ hK
      obtain ⟨hI,f0,f1,f2,f3,f4,f5,f6,f7,f8,f9,f10,f11,f12,f13,f14,f15,f16,f17,f18,f19,f20,f21⟩:=hΦ
      refine ⟨fun _ => ?_,fun h => absurd h (by rw [Go.RE.wanted_none rfl]; decide)⟩
      have e1:a.tmps[1]? = some (.slice (some ⟨g,0,none⟩) 15 15):=hf 1 (of_decide_eq_true (by kernel_rfl))
      clear hf hx hd
      go_simp
      refine hK _ _ ?_
      exact ⟨hI,fun _ => rfl,f1,f2,f3,f4,f5,f6,f7,f8,f9,f10,f11,f12,f13,f14,f15,f16,f17,f18,f19,f20,f21⟩
     ·intro L x a wR K hL hd hf hx hΦ hK
      obtain ⟨hI,f0,f1,f2,f3,f4,f5,f6,f7,f8,f9,f10,f11,f12,f13,f14,f15,f16,f17,f18,f19,f20,f21⟩:=hΦ
      refine ⟨fun _ => ?_,fun h => absurd h (by rw [Go.RE.wanted_none rfl]; decide)⟩
      have e2:a.tmps[2]? = some (.int .i64 (j:Int)):=hf 2 (of_decide_eq_true (by kernel_rfl))
      clear hf hx hd
      go_simp
      refine hK _ _ ?_
      exact ⟨hI,f0,fun _ => rfl,f2,f3,f4,f5,f6,f7,f8,f9,f10,f11,f12,f13,f14,f15,f16,f17,f18,f19,f20,f21⟩
     ·intro L x a wR K hL hd hf hx hΦ hK
      obtain ⟨hI,f0,f1,f2,f3,f4,f5,f6,f7,f8,f9,f10,f11,f12,f13,f14,f15,f16,f17,f18,f19,f20,f21⟩:=hΦ
      refine ⟨fun _ => ?_,fun h => absurd h (by rw [Go.RE.wanted_none rfl]; decide)⟩
      have d1:=f1 (hd 1 (by kernel_rfl))
      have e18:a.tmps[18]? = some (x 18):=hx 1 _ 18 rfl rfl (hd 1 (by kernel_rfl))
      rw [d1] at e18
      have r:=HRA.out
      clear hf hx hd
      go_simp
      refine hK _ _ ?_
      exact ⟨hI,f0,f1,fun _ => rfl,f3,f4,f5,f6,f7,f8,f9,f10,f11,f12,f13,f14,f15,f16,f17,f18,f19,f20,f21⟩
     ·intro L x a wR K hL hd hf hx hΦ hK
      obtain ⟨hI,f0,f1,f2,f3,f4,f5,f6,f7,f8,f9,f10,f11,f12,f13,f14,f15,f16,f17,f18,f19,f20,f21⟩:=hΦ
      refine ⟨fun _ => ?_,fun h => absurd h (by rw [Go.RE.wanted_none rfl]; decide)⟩
      have d0:=f0 (hd 0 (by kernel_rfl))
      have e17:a.tmps[17]? = some (x 17):=hx 0 _ 17 rfl rfl (hd 0 (by kernel_rfl))
      rw [d0] at e17
      have d2:=f2 (hd 2 (by kernel_rfl))
      have e19:a.tmps[19]? = some (x 19):=hx 2 _ 19 rfl rfl (hd 2 (by kernel_rfl))
      rw [d2] at e19
      have l1:=HLA.out
      have l2:=HLB.out
      have l3:=HLC.out
      clear hf hx hd
      go_simp
      refine hK _ _ ?_
      exact ⟨hI,f0,f1,f2,fun _ => rfl,f4,f5,f6,f7,f8,f9,f10,f11,f12,f13,f14,f15,f16,f17,f18,f19,f20,f21⟩
     ·intro L x a wR K hL hd hf hx hΦ hK
      obtain ⟨hI,f0,f1,f2,f3,f4,f5,f6,f7,f8,f9,f10,f11,f12,f13,f14,f15,f16,f17,f18,f19,f20,f21⟩:=hΦ
      refine ⟨fun _ => ?_,fun h => absurd h (by rw [Go.RE.wanted_none rfl]; decide)⟩
      have d3:=f3 (hd 3 (by kernel_rfl))
      have e20:a.tmps[20]? = some (x 20):=hx 3 _ 20 rfl rfl (hd 3 (by kernel_rfl))
      rw [d3] at e20
      have c1:=(hI.2.cell (p:=⟨g,na,none⟩) HGL.out).trans HEa.out
      clear hf hx hd
      go_simp
      refine hK _ _ ?_
      exact ⟨hI,f0,f1,f2,f3,fun _ => rfl,f5,f6,f7,f8,f9,f10,f11,f12,f13,f14,f15,f16,f17,f18,f19,f20,f21⟩
     ·intro L x a wR K hL hd hf hx hΦ hK
      obtain ⟨hI,f0,f1,f2,f3,f4,f5,f6,f7,f8,f9,f10,f11,f12,f13,f14,f15,f16,f17,f18,f19,f20,f21⟩:=hΦ
      refine ⟨fun _ => ?_,fun h => absurd h (by rw [Go.RE.wanted_none rfl]; decide)⟩
      have d4:=f4 (hd 4 (by kernel_rfl))
      have e21:a.tmps[21]? = some (x 21):=hx 4 _ 21 rfl rfl (hd 4 (by kernel_rfl))
      rw [d4] at e21
      clear hf hx hd
      have hz:=HZ.out
      go_simp
      rw [if_neg (by first | omega | (simp only [ByteArray.size_append,szL,List.size_toArray,List.length_cons,List.length_nil]; omega))]
      go_simp
      refine hK _ _ ?_
      exact ⟨hI,f0,f1,f2,f3,f4,fun _ => rfl,f6,f7,f8,f9,f10,f11,f12,f13,f14,f15,f16,f17,f18,f19,f20,f21⟩
     ·intro L x a wR K hL hd hf hx hΦ hK
      obtain ⟨hI,f0,f1,f2,f3,f4,f5,f6,f7,f8,f9,f10,f11,f12,f13,f14,f15,f16,f17,f18,f19,f20,f21⟩:=hΦ
      refine ⟨fun _ => ?_,fun h => absurd h (by rw [Go.RE.wanted_none rfl]; decide)⟩
      have e1:a.tmps[1]? = some (.slice (some ⟨g,0,none⟩) 15 15):=hf 1 (of_decide_eq_true (by kernel_rfl))
      clear hf hx hd
      go_simp
      refine hK _ _ ?_
      exact ⟨hI,f0,f1,f2,f3,f4,f5,fun _ => rfl,f7,f8,f9,f10,f11,f12,f13,f14,f15,f16,f17,f18,f19,f20,f21⟩
     ·intro L x a wR K hL hd hf hx hΦ hK
      obtain ⟨hI,f0,f1,f2,f3,f4,f5,f6,f7,f8,f9,f10,f11,f12,f13,f14,f15,f16,f17,f18,f19,f20,f21⟩:=hΦ
      refine ⟨fun _ => ?_,fun h => absurd h (by rw [Go.RE.wanted_none rfl]; decide)⟩
      have e2:a.tmps[2]? = some (.int .i64 (j:Int)):=hf 2 (of_decide_eq_true (by kernel_rfl))
      clear hf hx hd
      go_simp
      refine hK _ _ ?_
      exact ⟨hI,f0,f1,f2,f3,f4,f5,f6,fun _ => rfl,f8,f9,f10,f11,f12,f13,f14,f15,f16,f17,f18,f19,f20,f21⟩
     ·intro L x a wR K hL hd hf hx hΦ hK
      obtain ⟨hI,f0,f1,f2,f3,f4,f5,f6,f7,f8,f9,f10,f11,f12,f13,f14,f15,f16,f17,f18,f19,f20,f21⟩:=hΦ
      refine ⟨fun _ => ?_,fun h => absurd h (by rw [Go.RE.wanted_none rfl]; decide)⟩
      have d7:=f7 (hd 7 (by kernel_rfl))
      have e24:a.tmps[24]? = some (x 24):=hx 7 _ 24 rfl rfl (hd 7 (by kernel_rfl))
      rw [d7] at e24
      have r:=HRQ.out.1
      have e2:IntKind.i64.wrap (nq:Int) = (nq:Int):=IntWalk.i64_in _ (by have:=HRQ.out.2; omega)
      clear hf hx hd
      go_simp
      refine hK _ _ ?_
      exact ⟨hI,f0,f1,f2,f3,f4,f5,f6,f7,fun _ => rfl,f9,f10,f11,f12,f13,f14,f15,f16,f17,f18,f19,f20,f21⟩
     ·intro L x a wR K hL hd hf hx hΦ hK
      obtain ⟨hI,f0,f1,f2,f3,f4,f5,f6,f7,f8,f9,f10,f11,f12,f13,f14,f15,f16,f17,f18,f19,f20,f21⟩:=hΦ
      refine ⟨fun _ => ?_,fun h => absurd h (by rw [Go.RE.wanted_none rfl]; decide)⟩
      have d8:=f8 (hd 8 (by kernel_rfl))
      have e25:a.tmps[25]? = some (x 25):=hx 8 _ 25 rfl rfl (hd 8 (by kernel_rfl))
      rw [d8] at e25
      have r:=HRB.out
      clear hf hx hd
      go_simp
      refine hK _ _ ?_
      exact ⟨hI,f0,f1,f2,f3,f4,f5,f6,f7,f8,fun _ => rfl,f10,f11,f12,f13,f14,f15,f16,f17,f18,f19,f20,f21⟩
     ·intro L x a wR K hL hd hf hx hΦ hK
      obtain ⟨hI,f0,f1,f2,f3,f4,f5,f6,f7,f8,f9,f10,f11,f12,f13,f14,f15,f16,f17,f18,f19,f20,f21⟩:=hΦ
      refine ⟨fun _ => ?_,fun h => absurd h (by rw [Go.RE.wanted_none rfl]; decide)⟩
      have d6:=f6 (hd 6 (by kernel_rfl))
      have e23:a.tmps[23]? = some (x 23):=hx 6 _ 23 rfl rfl (hd 6 (by kernel_rfl))
      rw [d6] at e23
      have d9:=f9 (hd 9 (by kernel_rfl))
      have e26:a.tmps[26]? = some (x 26):=hx 9 _ 26 rfl rfl (hd 9 (by kernel_rfl))
      rw [d9] at e26
      have l1:=HLA.out
      have l2:=HLB.out
      have l3:=HLC.out
      clear hf hx hd
      go_simp
      refine hK _ _ ?_
      exact ⟨hI,f0,f1,f2,f3,f4,f5,f6,f7,f8,f9,fun _ => rfl,f11,f12,f13,f14,f15,f16,f17,f18,f19,f20,f21⟩
     ·intro L x a wR K hL hd hf hx hΦ hK
      obtain ⟨hI,f0,f1,f2,f3,f4,f5,f6,f7,f8,f9,f10,f11,f12,f13,f14,f15,f16,f17,f18,f19,f20,f21⟩:=hΦ
      refine ⟨fun _ => ?_,fun h => absurd h (by rw [Go.RE.wanted_none rfl]; decide)⟩
      have d10:=f10 (hd 10 (by kernel_rfl))
      have e27:a.tmps[27]? = some (x 27):=hx 10 _ 27 rfl rfl (hd 10 (by kernel_rfl))
      rw [d10] at e27
      have c1:=(hI.2.cell (p:=⟨g,nb,none⟩) HGL.out).trans HEb.out
      clear hf hx hd
      go_simp
      refine hK _ _ ?_
      exact ⟨hI,f0,f1,f2,f3,f4,f5,f6,f7,f8,f9,f10,fun _ => rfl,f12,f13,f14,f15,f16,f17,f18,f19,f20,f21⟩
     ·intro L x a wR K hL hd hf hx hΦ hK
      obtain ⟨hI,f0,f1,f2,f3,f4,f5,f6,f7,f8,f9,f10,f11,f12,f13,f14,f15,f16,f17,f18,f19,f20,f21⟩:=hΦ
      refine ⟨fun _ => ?_,fun h => absurd h (by rw [Go.RE.wanted_none rfl]; decide)⟩
      have d5:=f5 (hd 5 (by kernel_rfl))
      have e22:a.tmps[22]? = some (x 22):=hx 5 _ 22 rfl rfl (hd 5 (by kernel_rfl))
      rw [d5] at e22
      have d11:=f11 (hd 11 (by kernel_rfl))
      have e28:a.tmps[28]? = some (x 28):=hx 11 _ 28 rfl rfl (hd 11 (by kernel_rfl))
      rw [d11] at e28
      clear hf hx hd
      have hz:=HZ.out
      go_simp
      rw [if_neg (by first | omega | (simp only [ByteArray.size_append,szL,List.size_toArray,List.length_cons,List.length_nil]; omega))]
      go_simp
      refine hK _ _ ?_
      exact ⟨hI,f0,f1,f2,f3,f4,f5,f6,f7,f8,f9,f10,f11,fun _ => rfl,f13,f14,f15,f16,f17,f18,f19,f20,f21⟩
     ·intro L x a wR K hL hd hf hx hΦ hK
      obtain ⟨hI,f0,f1,f2,f3,f4,f5,f6,f7,f8,f9,f10,f11,f12,f13,f14,f15,f16,f17,f18,f19,f20,f21⟩:=hΦ
      refine ⟨fun _ => ?_,fun h => absurd h (by rw [Go.RE.wanted_none rfl]; decide)⟩
      have d12:=f12 (hd 12 (by kernel_rfl))
      have e29:a.tmps[29]? = some (x 29):=hx 12 _ 29 rfl rfl (hd 12 (by kernel_rfl))
      rw [d12] at e29
      clear hf hx hd
      have hz:=HZ.out
      go_simp
      rw [if_neg (by first | omega | (simp only [ByteArray.size_append,szL,List.size_toArray,List.length_cons,List.length_nil]; omega))]
      go_simp
      refine hK _ _ ?_
      exact ⟨hI,f0,f1,f2,f3,f4,f5,f6,f7,f8,f9,f10,f11,f12,fun _ => rfl,f14,f15,f16,f17,f18,f19,f20,f21⟩
     ·intro L x a wR K hL hd hf hx hΦ hK
      obtain ⟨hI,f0,f1,f2,f3,f4,f5,f6,f7,f8,f9,f10,f11,f12,f13,f14,f15,f16,f17,f18,f19,f20,f21⟩:=hΦ
      refine ⟨fun _ => ?_,fun h => absurd h (by rw [Go.RE.wanted_none rfl]; decide)⟩
      have e1:a.tmps[1]? = some (.slice (some ⟨g,0,none⟩) 15 15):=hf 1 (of_decide_eq_true (by kernel_rfl))
      clear hf hx hd
      go_simp
      refine hK _ _ ?_
      exact ⟨hI,f0,f1,f2,f3,f4,f5,f6,f7,f8,f9,f10,f11,f12,f13,fun _ => rfl,f15,f16,f17,f18,f19,f20,f21⟩
     ·intro L x a wR K hL hd hf hx hΦ hK
      obtain ⟨hI,f0,f1,f2,f3,f4,f5,f6,f7,f8,f9,f10,f11,f12,f13,f14,f15,f16,f17,f18,f19,f20,f21⟩:=hΦ
      refine ⟨fun _ => ?_,fun h => absurd h (by rw [Go.RE.wanted_none rfl]; decide)⟩
      have e2:a.tmps[2]? = some (.int .i64 (j:Int)):=hf 2 (of_decide_eq_true (by kernel_rfl))
      clear hf hx hd
      go_simp
      refine hK _ _ ?_
      exact ⟨hI,f0,f1,f2,f3,f4,f5,f6,f7,f8,f9,f10,f11,f12,f13,f14,fun _ => rfl,f16,f17,f18,f19,f20,f21⟩
     ·intro L x a wR K hL hd hf hx hΦ hK
      obtain ⟨hI,f0,f1,f2,f3,f4,f5,f6,f7,f8,f9,f10,f11,f12,f13,f14,f15,f16,f17,f18,f19,f20,f21⟩:=hΦ
      refine ⟨fun _ => ?_,fun h => absurd h (by rw [Go.RE.wanted_none rfl]; decide)⟩
      have d15:=f15 (hd 15 (by kernel_rfl))
      have e32:a.tmps[32]? = some (x 32):=hx 15 _ 32 rfl rfl (hd 15 (by kernel_rfl))
      rw [d15] at e32
      have r:=HRC.out.1
      have e2:IntKind.i64.wrap (nc:Int) = (nc:Int):=IntWalk.i64_in _ (by have:=HRC.out.2; omega)
      clear hf hx hd
      go_simp
      refine hK _ _ ?_
      exact ⟨hI,f0,f1,f2,f3,f4,f5,f6,f7,f8,f9,f10,f11,f12,f13,f14,f15,fun _ => rfl,f17,f18,f19,f20,f21⟩
     ·intro L x a wR K hL hd hf hx hΦ hK
      obtain ⟨hI,f0,f1,f2,f3,f4,f5,f6,f7,f8,f9,f10,f11,f12,f13,f14,f15,f16,f17,f18,f19,f20,f21⟩:=hΦ
      refine ⟨fun _ => ?_,fun h => absurd h (by rw [Go.RE.wanted_none rfl]; decide)⟩
      have d14:=f14 (hd 14 (by kernel_rfl))
      have e31:a.tmps[31]? = some (x 31):=hx 14 _ 31 rfl rfl (hd 14 (by kernel_rfl))
      rw [d14] at e31
      have d16:=f16 (hd 16 (by kernel_rfl))
      have e33:a.tmps[33]? = some (x 33):=hx 16 _ 33 rfl rfl (hd 16 (by kernel_rfl))
      rw [d16] at e33
      have l1:=HLA.out
      have l2:=HLB.out
      have l3:=HLC.out
      clear hf hx hd
      go_simp
      refine hK _ _ ?_
      exact ⟨hI,f0,f1,f2,f3,f4,f5,f6,f7,f8,f9,f10,f11,f12,f13,f14,f15,f16,fun _ => rfl,f18,f19,f20,f21⟩
     ·intro L x a wR K hL hd hf hx hΦ hK
      obtain ⟨hI,f0,f1,f2,f3,f4,f5,f6,f7,f8,f9,f10,f11,f12,f13,f14,f15,f16,f17,f18,f19,f20,f21⟩:=hΦ
      refine ⟨fun _ => ?_,fun h => absurd h (by rw [Go.RE.wanted_none rfl]; decide)⟩
      have d17:=f17 (hd 17 (by kernel_rfl))
      have e34:a.tmps[34]? = some (x 34):=hx 17 _ 34 rfl rfl (hd 17 (by kernel_rfl))
      rw [d17] at e34
      have c1:=(hI.2.cell (p:=⟨g,nc,none⟩) HGL.out).trans HEc.out
      clear hf hx hd
      go_simp
      refine hK _ _ ?_
      exact ⟨hI,f0,f1,f2,f3,f4,f5,f6,f7,f8,f9,f10,f11,f12,f13,f14,f15,f16,f17,fun _ => rfl,f19,f20,f21⟩
     ·intro L x a wR K hL hd hf hx hΦ hK
      obtain ⟨hI,f0,f1,f2,f3,f4,f5,f6,f7,f8,f9,f10,f11,f12,f13,f14,f15,f16,f17,f18,f19,f20,f21⟩:=hΦ
      refine ⟨fun _ => ?_,fun h => absurd h (by rw [Go.RE.wanted_none rfl]; decide)⟩
      have d13:=f13 (hd 13 (by kernel_rfl))
      have e30:a.tmps[30]? = some (x 30):=hx 13 _ 30 rfl rfl (hd 13 (by kernel_rfl))
      rw [d13] at e30
      have d18:=f18 (hd 18 (by kernel_rfl))
      have e35:a.tmps[35]? = some (x 35):=hx 18 _ 35 rfl rfl (hd 18 (by kernel_rfl))
      rw [d18] at e35
      clear hf hx hd
      have hz:=HZ.out
      go_simp
      rw [if_neg (by first | omega | (simp only [ByteArray.size_append,szL,List.size_toArray,List.length_cons,List.length_nil]; omega))]
      go_simp
      refine hK _ _ ?_
      exact ⟨hI,f0,f1,f2,f3,f4,f5,f6,f7,f8,f9,f10,f11,f12,f13,f14,f15,f16,f17,f18,fun _ => rfl,f20,f21⟩
     ·intro L x a wR K hL hd hf hx hΦ hK
      obtain ⟨hI,f0,f1,f2,f3,f4,f5,f6,f7,f8,f9,f10,f11,f12,f13,f14,f15,f16,f17,f18,f19,f20,f21⟩:=hΦ
      refine ⟨fun _ => ?_,fun h => absurd h (by rw [Go.RE.wanted_none rfl]; decide)⟩
      have d19:=f19 (hd 19 (by kernel_rfl))
      have e36:a.tmps[36]? = some (x 36):=hx 19 _ 36 rfl rfl (hd 19 (by kernel_rfl))
      rw [d19] at e36
      clear hf hx hd
      go_simp
      go_at_call 5
      with_reducible refine (HP.out _ _ hI.1 (by have:=HZ.out; first | omega | (simp only [ByteArray.size_append,szL,List.size_toArray,List.length_cons,List.length_nil]; omega))).mono ?_
      rintro e w' ⟨rfl,hB8⟩
      simp only
      refine hK _ _ ?_
      exact ⟨⟨HUP.out _ _ hI.1 hB8,hI.2.trans (hB8.mono hI.2.size)⟩,f0,f1,f2,f3,f4,f5,f6,f7,f8,f9,f10,f11,f12,f13,f14,f15,f16,f17,f18,f19,fun _ => rfl,f21⟩
     ·intro L x a wR K hL hd hf hx hΦ hK
      obtain ⟨hI,f0,f1,f2,f3,f4,f5,f6,f7,f8,f9,f10,f11,f12,f13,f14,f15,f16,f17,f18,f19,f20,f21⟩:=hΦ
      refine ⟨fun _ => ?_,fun h => absurd h (by rw [Go.RE.wanted_none rfl]; decide)⟩
      have d20:=f20 (hd 20 (by kernel_rfl))
      have e37:a.tmps[37]? = some (x 37):=hx 20 _ 37 rfl rfl (hd 20 (by kernel_rfl))
      rw [d20] at e37
      clear hf hx hd
      go_simp
      refine hK _ _ ?_
      exact ⟨hI,f0,f1,f2,f3,f4,f5,f6,f7,f8,f9,f10,f11,f12,f13,f14,f15,f16,f17,f18,f19,f20,fun _ => rfl⟩
     ·rintro x W ⟨hI,f0,f1,f2,f3,f4,f5,f6,f7,f8,f9,f10,f11,f12,f13,f14,f15,f16,f17,f18,f19,f20,f21⟩
      simp only [Exit.then]
      go_step
      go_meet
      exact ⟨f21 rfl,hI⟩
   case rest =>
    obtain ⟨rfl,hG3,hB3⟩:=hcut
    have HG3:=hid hG3
    have HB3:=hid hB3
    clear hG3 hB3
    go_wp2_with (fail)
    go_roundw
    case rel => exact ⟨j + 1,by go_num,by omega,HG3.out,HBW.out.trans (HB3.out.mono HBW.out.size)⟩
    case measure => simp [intOf]; omega
  ·have HG2:=HG
   have HB2:=HBW
   clear HG HBW
   go_upto_region 9 with (fail)
   clear hj hj8
   have hkn:=Go.HK.blk_new wr (.cells #[.string ⟨#[]⟩,.string ⟨#[80,40]⟩,.string ⟨#[102,40]⟩,.string ⟨#[120]⟩,.string ⟨#[44]⟩,.string ⟨#[41]⟩,.string ⟨#[63,65,91,63,116,47,120,93]⟩] 9)
   have hbn:Below wr.heap.size wr (wr.alloc (.cells #[.string ⟨#[]⟩,.string ⟨#[80,40]⟩,.string ⟨#[102,40]⟩,.string ⟨#[120]⟩,.string ⟨#[44]⟩,.string ⟨#[41]⟩,.string ⟨#[63,65,91,63,116,47,120,93]⟩] 9)):=(Below.refl _ _).alloc (Nat.le_refl _) _
   have HK2:=hid hkn
   have HB1:Hid (Below w.heap.size w (wr.alloc (.cells #[.string ⟨#[]⟩,.string ⟨#[80,40]⟩,.string ⟨#[102,40]⟩,.string ⟨#[120]⟩,.string ⟨#[44]⟩,.string ⟨#[41]⟩,.string ⟨#[63,65,91,63,116,47,120,93]⟩] 9))):=hid (HB0.out.trans ((HB2.out.trans (hbn.mono HB2.out.size)).mono HB0.out.size))
   have HG1:=hid (HUP.out _ _ HG2.out hbn)
   clear hkn hbn
   obtain ⟨w2,hw2⟩:∃ x,x = wr.alloc (.cells #[.string ⟨#[]⟩,.string ⟨#[80,40]⟩,.string ⟨#[102,40]⟩,.string ⟨#[120]⟩,.string ⟨#[44]⟩,.string ⟨#[41]⟩,.string ⟨#[63,65,91,63,116,47,120,93]⟩] 9):=⟨_,rfl⟩
   obtain ⟨g2,hg2⟩:∃ b,b = wr.heap.size:=⟨_,rfl⟩
   rw [<- hw2] at HG1 HB1 HK2 ⊢
   rw [<- hg2] at HK2 ⊢
   
   clear hw2 hg2
   have HBy:=HB1
   go_loopw [4] (fun i wr => ∃ (j:Nat),i = .int .i64 j /\ j <= 16807 /\ G wr /\ Below w2.heap.size w2 wr) (fun i _ => 16807 - (intOf i).toNat)
   case atStart => exact ⟨0,rfl,by omega,HG1.out,Below.refl _ _⟩
   case round =>
    obtain ⟨j,rfl,hj,hG,hB⟩:=hrel
    have HG:=hid hG
    have HBW:=hid hB
    clear hG hB
    by_cases hj8:(j:Int) < 16807
    ·have j0:(0:Int) <= (j:Int):=by omega
     go_wp2_with (fail)
     have HGa:=HG
     have HBa:=HBW
     go_loopw [5,6,7] (fun a k n wr => ∃ (m q:Nat) (x:ByteArray),a = .string x /\ k = .int .i64 m /\ n = .int .i64 q /\ m <= 5 /\ q <= 16807 /\ x.size <= 8 * m /\ G wr /\ Below w2.heap.size w2 wr) (fun _ k _ _ => 5 - (intOf k).toNat)
     case atStart => exact ⟨0,j,_,rfl,rfl,rfl,by omega,by omega,by decide,HGa.out,HBa.out⟩
     case round =>
      obtain ⟨m,q,x,rfl,rfl,rfl,hm,hq,hx,hG,hB⟩:=hrel
      have HG:=hid hG
      have HBW:=hid hB
      clear hG hB HGa HBa
      by_cases hm4:(m:Int) < 5
      ·have m0:(0:Int) <= (m:Int):=by omega
       obtain ⟨nb,hb⟩:∃ a,a = q % 7:=⟨_,rfl⟩
       obtain ⟨nc,hc⟩:∃ a,a = q / 7:=⟨_,rfl⟩
       obtain ⟨eb,heb,hzb⟩:=lit_row [⟨#[]⟩,⟨#[80,40]⟩,⟨#[102,40]⟩,⟨#[120]⟩,⟨#[44]⟩,⟨#[41]⟩,⟨#[63,65,91,63,116,47,120,93]⟩] (by decide) ((HBW.out.block _ (HK.blk_lt HK2.out)).trans HK2.out) (show nb < 7 by omega)
       have r1:(q:Int).tmod 7 = (nb:Int):=by rw [hb]; exact idx_mod q 7
       have r2:(q:Int).tdiv 7 = (nc:Int):=by rw [hc]; exact idx_div q 7
       have r3:IntKind.i64.wrap (nc:Int) = (nc:Int):=IntWalk.i64_in _ (by omega)
       have l1:(0:Int) <= (nb:Int):=by omega
       have l2:(nb:Int) < 7:=by omega
       have hcc:nc <= 16807:=by omega
       clear hb hc
       go_wp2_with (fail)
       go_roundw
       case rel => exact ⟨m + 1,nc,_,rfl,by go_num,rfl,by omega,by omega,by first | omega | (simp only [ByteArray.size_append,szL,List.size_toArray,List.length_cons,List.length_nil]; omega),HG.out,HBW.out⟩
       case measure => simp [intOf]; omega
      ·go_wp2_with ((go_at_call 5; (with_reducible refine (HP.out _ _ HG.out (by first | omega | (simp only [ByteArray.size_append,szL,List.size_toArray,List.length_cons,List.length_nil]; omega))).mono ?_); rintro _ w9 ⟨rfl,hB9⟩; replace HG:=hid (HUP.out _ _ HG.out hB9); replace HBW:=hid (HBW.out.trans (hB9.mono HBW.out.size)); clear hB9))
       go_roundw
       case rel => exact ⟨j + 1,by go_num,by omega,HG.out,HBW.out⟩
       case measure => simp [intOf]; omega
    ·have HG2:=HG
     have HB2:=HBW
     clear HG HBW
     go_upto_region 19 with (fail)
     clear hj hj8
     have hkn:=Go.HK.blk_new wr (.cells #[.string ⟨#[60,45,62]⟩,.string ⟨#[45,62]⟩,.string ⟨#[117,110,116,105,108]⟩,.string ⟨#[124]⟩,.string ⟨#[38]⟩,.string ⟨#[47]⟩,.string ⟨#[44]⟩] 9)
     have hbn:Below wr.heap.size wr (wr.alloc (.cells #[.string ⟨#[60,45,62]⟩,.string ⟨#[45,62]⟩,.string ⟨#[117,110,116,105,108]⟩,.string ⟨#[124]⟩,.string ⟨#[38]⟩,.string ⟨#[47]⟩,.string ⟨#[44]⟩] 9)):=(Below.refl _ _).alloc (Nat.le_refl _) _
     have HK3:=hid hkn
     have HB1:Hid (Below w.heap.size w (wr.alloc (.cells #[.string ⟨#[60,45,62]⟩,.string ⟨#[45,62]⟩,.string ⟨#[117,110,116,105,108]⟩,.string ⟨#[124]⟩,.string ⟨#[38]⟩,.string ⟨#[47]⟩,.string ⟨#[44]⟩] 9))):=hid (HBy.out.trans ((HB2.out.trans (hbn.mono HB2.out.size)).mono HBy.out.size))
     have HG1:=hid (HUP.out _ _ HG2.out hbn)
     clear hkn hbn
     obtain ⟨w3,hw3⟩:∃ x,x = wr.alloc (.cells #[.string ⟨#[60,45,62]⟩,.string ⟨#[45,62]⟩,.string ⟨#[117,110,116,105,108]⟩,.string ⟨#[124]⟩,.string ⟨#[38]⟩,.string ⟨#[47]⟩,.string ⟨#[44]⟩] 9):=⟨_,rfl⟩
     obtain ⟨g3,hg3⟩:∃ b,b = wr.heap.size:=⟨_,rfl⟩
     rw [<- hw3] at HG1 HB1 HK3 ⊢
     rw [<- hg3] at HK3 ⊢
     
     clear hw3 hg3
     have HBy:=HB1
     have HGy:=HG1
     clear HB1 HG1 HB2 HG2
     go_upto_region 21 with (fail)
     have hkn:=Go.HK.blk_new w3 (.cells #[.string ⟨#[]⟩,.string ⟨#[126]⟩,.string ⟨#[91,93]⟩,.string ⟨#[60,62]⟩,.string ⟨#[110,101,120,116,32]⟩,.string ⟨#[97,108,119,97,121,115,32]⟩,.string ⟨#[97,108,108,32,120,32]⟩,.string ⟨#[115,111,109,101,32,121,49,32]⟩,.string ⟨#[102,97,108,115,101]⟩,.string ⟨#[40]⟩] 9)
     have hbn:Below w3.heap.size w3 (w3.alloc (.cells #[.string ⟨#[]⟩,.string ⟨#[126]⟩,.string ⟨#[91,93]⟩,.string ⟨#[60,62]⟩,.string ⟨#[110,101,120,116,32]⟩,.string ⟨#[97,108,119,97,121,115,32]⟩,.string ⟨#[97,108,108,32,120,32]⟩,.string ⟨#[115,111,109,101,32,121,49,32]⟩,.string ⟨#[102,97,108,115,101]⟩,.string ⟨#[40]⟩] 9)):=(Below.refl _ _).alloc (Nat.le_refl _) _
     have HK4:=hid hkn
     have HB1:Hid (Below w.heap.size w (w3.alloc (.cells #[.string ⟨#[]⟩,.string ⟨#[126]⟩,.string ⟨#[91,93]⟩,.string ⟨#[60,62]⟩,.string ⟨#[110,101,120,116,32]⟩,.string ⟨#[97,108,119,97,121,115,32]⟩,.string ⟨#[97,108,108,32,120,32]⟩,.string ⟨#[115,111,109,101,32,121,49,32]⟩,.string ⟨#[102,97,108,115,101]⟩,.string ⟨#[40]⟩] 9))):=hid (HBy.out.trans (((Below.refl w3.heap.size w3).trans (hbn.mono (Below.refl w3.heap.size w3).size)).mono HBy.out.size))
     have HG1:=hid (HUP.out _ _ HGy.out hbn)
     clear hkn hbn
     obtain ⟨w4,hw4⟩:∃ x,x = w3.alloc (.cells #[.string ⟨#[]⟩,.string ⟨#[126]⟩,.string ⟨#[91,93]⟩,.string ⟨#[60,62]⟩,.string ⟨#[110,101,120,116,32]⟩,.string ⟨#[97,108,119,97,121,115,32]⟩,.string ⟨#[97,108,108,32,120,32]⟩,.string ⟨#[115,111,109,101,32,121,49,32]⟩,.string ⟨#[102,97,108,115,101]⟩,.string ⟨#[40]⟩] 9):=⟨_,rfl⟩
     obtain ⟨g4,hg4⟩:∃ b,b = w3.heap.size:=⟨_,rfl⟩
     rw [<- hw4] at HG1 HB1 HK4 ⊢
     rw [<- hg4] at HK4 ⊢
     have hwq:=hw4.symm
     clear hw4 hg4
     have hk34:=HK.blk_alloc HK3.out (.cells #[.string ⟨#[]⟩,.string ⟨#[126]⟩,.string ⟨#[91,93]⟩,.string ⟨#[60,62]⟩,.string ⟨#[110,101,120,116,32]⟩,.string ⟨#[97,108,119,97,121,115,32]⟩,.string ⟨#[97,108,108,32,120,32]⟩,.string ⟨#[115,111,109,101,32,121,49,32]⟩,.string ⟨#[102,97,108,115,101]⟩,.string ⟨#[40]⟩] 9)
     rw [hwq] at hk34
     have HK3:=hid hk34
     clear hk34 hwq
     go_loopw [10] (fun i wr => ∃ (j:Nat),i = .int .i64 j /\ j <= 4900 /\ G wr /\ Below w4.heap.size w4 wr) (fun i _ => 4900 - (intOf i).toNat)
     case atStart => exact ⟨0,rfl,by omega,HG1.out,Below.refl _ _⟩
     case round =>
      obtain ⟨j,rfl,hj,hG,hB⟩:=hrel
      have HG:=hid hG
      have HBW:=hid hB
      clear hG hB
      by_cases hj8:(j:Int) < 4900
      ·have j0:(0:Int) <= (j:Int):=by omega
       go_upto_region 23 with (fail)
       go_cut [11] from 67 to 95 (fun v wx => (∃ x:ByteArray,v = .string x /\ x.size <= 40) /\ Below wr.heap.size wr wx)
       case first =>
        obtain ⟨nq,hq⟩:∃ a,a = j / 49:=⟨_,rfl⟩
        obtain ⟨na,ha⟩:∃ a,a = nq % 10:=⟨_,rfl⟩
        obtain ⟨nb,hb⟩:∃ a,a = j % 7:=⟨_,rfl⟩
        obtain ⟨nc,hc⟩:∃ a,a = j / 490:=⟨_,rfl⟩
        obtain ⟨nr,hr⟩:∃ a,a = j / 7:=⟨_,rfl⟩
        obtain ⟨nd,hd⟩:∃ a,a = nr % 7:=⟨_,rfl⟩
        obtain ⟨ea,hea,hza⟩:=lit_row [⟨#[]⟩,⟨#[126]⟩,⟨#[91,93]⟩,⟨#[60,62]⟩,⟨#[110,101,120,116,32]⟩,⟨#[97,108,119,97,121,115,32]⟩,⟨#[97,108,108,32,120,32]⟩,⟨#[115,111,109,101,32,121,49,32]⟩,⟨#[102,97,108,115,101]⟩,⟨#[40]⟩] (by decide) ((HBW.out.block _ (HK.blk_lt HK4.out)).trans HK4.out) (show na < 10 by omega)
        obtain ⟨eb,heb,hzb⟩:=lit_row [⟨#[60,45,62]⟩,⟨#[45,62]⟩,⟨#[117,110,116,105,108]⟩,⟨#[124]⟩,⟨#[38]⟩,⟨#[47]⟩,⟨#[44]⟩] (by decide) ((HBW.out.block _ (HK.blk_lt HK3.out)).trans HK3.out) (show nb < 7 by omega)
        obtain ⟨ec,hec,hzc⟩:=lit_row [⟨#[]⟩,⟨#[126]⟩,⟨#[91,93]⟩,⟨#[60,62]⟩,⟨#[110,101,120,116,32]⟩,⟨#[97,108,119,97,121,115,32]⟩,⟨#[97,108,108,32,120,32]⟩,⟨#[115,111,109,101,32,121,49,32]⟩,⟨#[102,97,108,115,101]⟩,⟨#[40]⟩] (by decide) ((HBW.out.block _ (HK.blk_lt HK4.out)).trans HK4.out) (show nc < 10 by omega)
        obtain ⟨ed,hed,hzd⟩:=lit_row [⟨#[60,45,62]⟩,⟨#[45,62]⟩,⟨#[117,110,116,105,108]⟩,⟨#[124]⟩,⟨#[38]⟩,⟨#[47]⟩,⟨#[44]⟩] (by decide) ((HBW.out.block _ (HK.blk_lt HK3.out)).trans HK3.out) (show nd < 7 by omega)
        have HEa:=hid hea
        have HEb:=hid heb
        have HEc:=hid hec
        have HEd:=hid hed
        have HZ:Hid (ea.size <= 8 /\ eb.size <= 8 /\ ec.size <= 8 /\ ed.size <= 8):=hid ⟨hza,hzb,hzc,hzd⟩
        have HRQ:Hid ((j:Int).tdiv 49 = (nq:Int) /\ nq <= 4900):=hid ⟨(by rw [hq]; exact idx_div j 49),by omega⟩
        have HRA:Hid ((nq:Int).tmod 10 = (na:Int)):=hid (by rw [ha]; exact idx_mod nq 10)
        have HRB:Hid ((j:Int).tmod 7 = (nb:Int)):=hid (by rw [hb]; exact idx_mod j 7)
        have HRC:Hid ((j:Int).tdiv 490 = (nc:Int) /\ nc <= 4900):=hid ⟨(by rw [hc]; exact idx_div j 490),by omega⟩
        have HRR:Hid ((j:Int).tdiv 7 = (nr:Int) /\ nr <= 4900):=hid ⟨(by rw [hr]; exact idx_div j 7),by omega⟩
        have HRD:Hid ((nr:Int).tmod 7 = (nd:Int)):=hid (by rw [hd]; exact idx_mod nr 7)
        have HLA:Hid ((0:Int) <= (na:Int) /\ (na:Int) < 10):=hid (by omega)
        have HLB:Hid ((0:Int) <= (nb:Int) /\ (nb:Int) < 7):=hid (by omega)
        have HLC:Hid ((0:Int) <= (nc:Int) /\ (nc:Int) < 10):=hid (by omega)
        have HLD:Hid ((0:Int) <= (nd:Int) /\ (nd:Int) < 7):=hid (by omega)
        have HGg4:=hid (World.block_lt_of_cell? wr ⟨g4,_,none⟩ hea)
        have HGg3:=hid (World.block_lt_of_cell? wr ⟨g3,_,none⟩ heb)
        clear hea heb hec hed ha hb hc hq hr hd hza hzb hzc hzd j0 hj8 hj
        refine Go.RE.wp_region_eachg [67,68,69,70,71,72,73,74,75,76,77,78,79,80,81,82,83,84,85,86,87,88,89,90,91,92,93,94,95,11] (fun L x W => (Below wr.heap.size wr W) /\ (L 0 = true -> x 67 = .slice (some ⟨g4,0,none⟩) 10 10) /\ (L 1 = true -> x 68 = .int .i64 (j:Int)) /\ (L 2 = true -> x 69 = .int .i64 (nq:Int)) /\ (L 3 = true -> x 70 = .int .i64 (na:Int)) /\ (L 4 = true -> x 71 = .pointer (some ⟨g4,na,none⟩)) /\ (L 5 = true -> x 72 = .string ea) /\ (L 6 = true -> x 73 = .string (ea ++ ⟨#[80,32]⟩)) /\ (L 7 = true -> x 74 = .slice (some ⟨g3,0,none⟩) 7 7) /\ (L 8 = true -> x 75 = .int .i64 (j:Int)) /\ (L 9 = true -> x 76 = .int .i64 (nb:Int)) /\ (L 10 = true -> x 77 = .pointer (some ⟨g3,nb,none⟩)) /\ (L 11 = true -> x 78 = .string eb) /\ (L 12 = true -> x 79 = .string (ea ++ ⟨#[80,32]⟩ ++ eb)) /\ (L 13 = true -> x 80 = .string (ea ++ ⟨#[80,32]⟩ ++ eb ++ ⟨#[32]⟩)) /\ (L 14 = true -> x 81 = .slice (some ⟨g4,0,none⟩) 10 10) /\ (L 15 = true -> x 82 = .int .i64 (j:Int)) /\ (L 16 = true -> x 83 = .int .i64 (nc:Int)) /\ (L 17 = true -> x 84 = .pointer (some ⟨g4,nc,none⟩)) /\ (L 18 = true -> x 85 = .string ec) /\ (L 19 = true -> x 86 = .string (ea ++ ⟨#[80,32]⟩ ++ eb ++ ⟨#[32]⟩ ++ ec)) /\ (L 20 = true -> x 87 = .string (ea ++ ⟨#[80,32]⟩ ++ eb ++ ⟨#[32]⟩ ++ ec ++ ⟨#[81,32]⟩)) /\ (L 21 = true -> x 88 = .slice (some ⟨g3,0,none⟩) 7 7) /\ (L 22 = true -> x 89 = .int .i64 (j:Int)) /\ (L 23 = true -> x 90 = .int .i64 (nr:Int)) /\ (L 24 = true -> x 91 = .int .i64 (nd:Int)) /\ (L 25 = true -> x 92 = .pointer (some ⟨g3,nd,none⟩)) /\ (L 26 = true -> x 93 = .string ed) /\ (L 27 = true -> x 94 = .string (ea ++ ⟨#[80,32]⟩ ++ eb ++ ⟨#[32]⟩ ++ ec ++ ⟨#[81,32]⟩ ++ ed)) /\ (L 28 = true -> x 95 = .string (ea ++ ⟨#[80,32]⟩ ++ eb ++ ⟨#[32]⟩ ++ ec ++ ⟨#[81,32]⟩ ++ ed ++ ⟨#[32,82]⟩)) /\ (L 29 = true -> x 11 = .string (ea ++ ⟨#[80,32]⟩ ++ eb ++ ⟨#[32]⟩ ++ ec ++ ⟨#[81,32]⟩ ++ ed ++ ⟨#[32,82]⟩))) (by kernel_rfl) (by kernel_rfl) (by kernel_rfl) ?_ ((Go.RE.Each.cons ?_ (Go.RE.Each.cons ?_ (Go.RE.Each.cons ?_ (Go.RE.Each.cons ?_ (Go.RE.Each.cons ?_ (Go.RE.Each.cons ?_ (Go.RE.Each.cons ?_ (Go.RE.Each.cons ?_ (Go.RE.Each.cons ?_ (Go.RE.Each.cons ?_ (Go.RE.Each.cons ?_ (Go.RE.Each.cons ?_ (Go.RE.Each.cons ?_ (Go.RE.Each.cons ?_ (Go.RE.Each.cons ?_ (Go.RE.Each.cons ?_ (Go.RE.Each.cons ?_ (Go.RE.Each.cons ?_ (Go.RE.Each.cons ?_ (Go.RE.Each.cons ?_ (Go.RE.Each.cons ?_ (Go.RE.Each.cons ?_ (Go.RE.Each.cons ?_ (Go.RE.Each.cons ?_ (Go.RE.Each.cons ?_ (Go.RE.Each.cons ?_ (Go.RE.Each.cons ?_ (Go.RE.Each.cons ?_ (Go.RE.Each.cons ?_ (Go.RE.Each.cons ?_ Go.RE.Each.nil))))))))))))))))))))))))))))))) ?_
        ·exact fun x => ⟨bl_dr8 (Below.refl _ _),nofun,nofun,nofun,nofun,nofun,nofun,nofun,nofun,nofun,nofun,nofun,nofun,nofun,nofun,nofun,nofun,nofun,nofun,nofun,nofun,nofun,nofun,nofun,nofun,nofun,nofun,nofun,nofun,nofun,nofun⟩
        ·intro L x a wR K hL hd hf hx hΦ hK
         obtain ⟨hI,f0,f1,f2,f3,f4,f5,f6,f7,f8,f9,f10,f11,f12,f13,f14,f15,f16,f17,f18,f19,f20,f21,f22,f23,f24,f25,f26,f27,f28,f29⟩:=hΦ
         refine ⟨fun _ => ?_,fun h => absurd h (by rw [Go.RE.wanted_none rfl]; decide)⟩
         have e9:a.tmps[9]? = some (.slice (some ⟨g4,0,none⟩) 10 10):=hf 9 (of_decide_eq_true (by kernel_rfl))
         clear hf hx hd
         go_simp
         refine hK _ _ ?_
         exact ⟨hI,fun _ => rfl,f1,f2,f3,f4,f5,f6,f7,f8,f9,f10,f11,f12,f13,f14,f15,f16,f17,f18,f19,f20,f21,f22,f23,f24,f25,f26,f27,f28,f29⟩
        ·intro L x a wR K hL hd hf hx hΦ hK
         obtain ⟨hI,f0,f1,f2,f3,f4,f5,f6,f7,f8,f9,f10,f11,f12,f13,f14,f15,f16,f17,f18,f19,f20,f21,f22,f23,f24,f25,f26,f27,f28,f29⟩:=hΦ
         refine ⟨fun _ => ?_,fun h => absurd h (by rw [Go.RE.wanted_none rfl]; decide)⟩
         have e10:a.tmps[10]? = some (.int .i64 (j:Int)):=hf 10 (of_decide_eq_true (by kernel_rfl))
         clear hf hx hd
         go_simp
         refine hK _ _ ?_
         exact ⟨hI,f0,fun _ => rfl,f2,f3,f4,f5,f6,f7,f8,f9,f10,f11,f12,f13,f14,f15,f16,f17,f18,f19,f20,f21,f22,f23,f24,f25,f26,f27,f28,f29⟩
        ·intro L x a wR K hL hd hf hx hΦ hK
         obtain ⟨hI,f0,f1,f2,f3,f4,f5,f6,f7,f8,f9,f10,f11,f12,f13,f14,f15,f16,f17,f18,f19,f20,f21,f22,f23,f24,f25,f26,f27,f28,f29⟩:=hΦ
         refine ⟨fun _ => ?_,fun h => absurd h (by rw [Go.RE.wanted_none rfl]; decide)⟩
         have d1:=f1 (hd 1 (by kernel_rfl))
         have e68:a.tmps[68]? = some (x 68):=hx 1 _ 68 rfl rfl (hd 1 (by kernel_rfl))
         rw [d1] at e68
         have r:=HRQ.out.1
         have e2:IntKind.i64.wrap (nq:Int) = (nq:Int):=IntWalk.i64_in _ (by have:=HRQ.out.2; omega)
         clear hf hx hd
         go_simp
         refine hK _ _ ?_
         exact ⟨hI,f0,f1,fun _ => rfl,f3,f4,f5,f6,f7,f8,f9,f10,f11,f12,f13,f14,f15,f16,f17,f18,f19,f20,f21,f22,f23,f24,f25,f26,f27,f28,f29⟩
        ·intro L x a wR K hL hd hf hx hΦ hK
         obtain ⟨hI,f0,f1,f2,f3,f4,f5,f6,f7,f8,f9,f10,f11,f12,f13,f14,f15,f16,f17,f18,f19,f20,f21,f22,f23,f24,f25,f26,f27,f28,f29⟩:=hΦ
         refine ⟨fun _ => ?_,fun h => absurd h (by rw [Go.RE.wanted_none rfl]; decide)⟩
         have d2:=f2 (hd 2 (by kernel_rfl))
         have e69:a.tmps[69]? = some (x 69):=hx 2 _ 69 rfl rfl (hd 2 (by kernel_rfl))
         rw [d2] at e69
         have r:=HRA.out
         clear hf hx hd
         go_simp
         refine hK _ _ ?_
         exact ⟨hI,f0,f1,f2,fun _ => rfl,f4,f5,f6,f7,f8,f9,f10,f11,f12,f13,f14,f15,f16,f17,f18,f19,f20,f21,f22,f23,f24,f25,f26,f27,f28,f29⟩
        ·intro L x a wR K hL hd hf hx hΦ hK
         obtain ⟨hI,f0,f1,f2,f3,f4,f5,f6,f7,f8,f9,f10,f11,f12,f13,f14,f15,f16,f17,f18,f19,f20,f21,f22,f23,f24,f25,f26,f27,f28,f29⟩:=hΦ
         refine ⟨fun _ => ?_,fun h => absurd h (by rw [Go.RE.wanted_none rfl]; decide)⟩
         have d0:=f0 (hd 0 (by kernel_rfl))
         have e67:a.tmps[67]? = some (x 67):=hx 0 _ 67 rfl rfl (hd 0 (by kernel_rfl))
         rw [d0] at e67
         have d3:=f3 (hd 3 (by kernel_rfl))
         have e70:a.tmps[70]? = some (x 70):=hx 3 _ 70 rfl rfl (hd 3 (by kernel_rfl))
         rw [d3] at e70
         have l1:=HLA.out
         have l2:=HLB.out
         have l3:=HLC.out
         have l4:=HLD.out
         clear hf hx hd
         go_simp
         refine hK _ _ ?_
         exact ⟨hI,f0,f1,f2,f3,fun _ => rfl,f5,f6,f7,f8,f9,f10,f11,f12,f13,f14,f15,f16,f17,f18,f19,f20,f21,f22,f23,f24,f25,f26,f27,f28,f29⟩
        ·intro L x a wR K hL hd hf hx hΦ hK
         obtain ⟨hI,f0,f1,f2,f3,f4,f5,f6,f7,f8,f9,f10,f11,f12,f13,f14,f15,f16,f17,f18,f19,f20,f21,f22,f23,f24,f25,f26,f27,f28,f29⟩:=hΦ
         refine ⟨fun _ => ?_,fun h => absurd h (by rw [Go.RE.wanted_none rfl]; decide)⟩
         have d4:=f4 (hd 4 (by kernel_rfl))
         have e71:a.tmps[71]? = some (x 71):=hx 4 _ 71 rfl rfl (hd 4 (by kernel_rfl))
         rw [d4] at e71
         have c1:=(hI.cell (p:=⟨g4,na,none⟩) HGg4.out).trans HEa.out
         clear hf hx hd
         go_simp
         refine hK _ _ ?_
         exact ⟨hI,f0,f1,f2,f3,f4,fun _ => rfl,f6,f7,f8,f9,f10,f11,f12,f13,f14,f15,f16,f17,f18,f19,f20,f21,f22,f23,f24,f25,f26,f27,f28,f29⟩
        ·intro L x a wR K hL hd hf hx hΦ hK
         obtain ⟨hI,f0,f1,f2,f3,f4,f5,f6,f7,f8,f9,f10,f11,f12,f13,f14,f15,f16,f17,f18,f19,f20,f21,f22,f23,f24,f25,f26,f27,f28,f29⟩:=hΦ
         refine ⟨fun _ => ?_,fun h => absurd h (by rw [Go.RE.wanted_none rfl]; decide)⟩
         have d5:=f5 (hd 5 (by kernel_rfl))
         have e72:a.tmps[72]? = some (x 72):=hx 5 _ 72 rfl rfl (hd 5 (by kernel_rfl))
         rw [d5] at e72
         clear hf hx hd
         have hz:=HZ.out
         go_simp
         rw [if_neg (by first | omega | (simp only [ByteArray.size_append,szL,List.size_toArray,List.length_cons,List.length_nil]; omega))]
         go_simp
         refine hK _ _ ?_
         exact ⟨hI,f0,f1,f2,f3,f4,f5,fun _ => rfl,f7,f8,f9,f10,f11,f12,f13,f14,f15,f16,f17,f18,f19,f20,f21,f22,f23,f24,f25,f26,f27,f28,f29⟩
        ·intro L x a wR K hL hd hf hx hΦ hK
         obtain ⟨hI,f0,f1,f2,f3,f4,f5,f6,f7,f8,f9,f10,f11,f12,f13,f14,f15,f16,f17,f18,f19,f20,f21,f22,f23,f24,f25,f26,f27,f28,f29⟩:=hΦ
         refine ⟨fun _ => ?_,fun h => absurd h (by rw [Go.RE.wanted_none rfl]; decide)⟩
         have e8:a.tmps[8]? = some (.slice (some ⟨g3,0,none⟩) 7 7):=hf 8 (of_decide_eq_true (by kernel_rfl))
         clear hf hx hd
         go_simp
         refine hK _ _ ?_
         exact ⟨hI,f0,f1,f2,f3,f4,f5,f6,fun _ => rfl,f8,f9,f10,f11,f12,f13,f14,f15,f16,f17,f18,f19,f20,f21,f22,f23,f24,f25,f26,f27,f28,f29⟩
        ·intro L x a wR K hL hd hf hx hΦ hK
         obtain ⟨hI,f0,f1,f2,f3,f4,f5,f6,f7,f8,f9,f10,f11,f12,f13,f14,f15,f16,f17,f18,f19,f20,f21,f22,f23,f24,f25,f26,f27,f28,f29⟩:=hΦ
         refine ⟨fun _ => ?_,fun h => absurd h (by rw [Go.RE.wanted_none rfl]; decide)⟩
         have e10:a.tmps[10]? = some (.int .i64 (j:Int)):=hf 10 (of_decide_eq_true (by kernel_rfl))
         clear hf hx hd
         go_simp
         refine hK _ _ ?_
         exact ⟨hI,f0,f1,f2,f3,f4,f5,f6,f7,fun _ => rfl,f9,f10,f11,f12,f13,f14,f15,f16,f17,f18,f19,f20,f21,f22,f23,f24,f25,f26,f27,f28,f29⟩
        ·intro L x a wR K hL hd hf hx hΦ hK
         obtain ⟨hI,f0,f1,f2,f3,f4,f5,f6,f7,f8,f9,f10,f11,f12,f13,f14,f15,f16,f17,f18,f19,f20,f21,f22,f23,f24,f25,f26,f27,f28,f29⟩:=hΦ
         refine ⟨fun _ => ?_,fun h => absurd h (by rw [Go.RE.wanted_none rfl]; decide)⟩
         have d8:=f8 (hd 8 (by kernel_rfl))
         have e75:a.tmps[75]? = some (x 75):=hx 8 _ 75 rfl rfl (hd 8 (by kernel_rfl))
         rw [d8] at e75
         have r:=HRB.out
         clear hf hx hd
         go_simp
         refine hK _ _ ?_
         exact ⟨hI,f0,f1,f2,f3,f4,f5,f6,f7,f8,fun _ => rfl,f10,f11,f12,f13,f14,f15,f16,f17,f18,f19,f20,f21,f22,f23,f24,f25,f26,f27,f28,f29⟩
        ·intro L x a wR K hL hd hf hx hΦ hK
         obtain ⟨hI,f0,f1,f2,f3,f4,f5,f6,f7,f8,f9,f10,f11,f12,f13,f14,f15,f16,f17,f18,f19,f20,f21,f22,f23,f24,f25,f26,f27,f28,f29⟩:=hΦ
         refine ⟨fun _ => ?_,fun h => absurd h (by rw [Go.RE.wanted_none rfl]; decide)⟩
         have d7:=f7 (hd 7 (by kernel_rfl))
         have e74:a.tmps[74]? = some (x 74):=hx 7 _ 74 rfl rfl (hd 7 (by kernel_rfl))
         rw [d7] at e74
         have d9:=f9 (hd 9 (by kernel_rfl))
         have e76:a.tmps[76]? = some (x 76):=hx 9 _ 76 rfl rfl (hd 9 (by kernel_rfl))
         rw [d9] at e76
         have l1:=HLA.out
         have l2:=HLB.out
         have l3:=HLC.out
         have l4:=HLD.out
         clear hf hx hd
         go_simp
         refine hK _ _ ?_
         exact ⟨hI,f0,f1,f2,f3,f4,f5,f6,f7,f8,f9,fun _ => rfl,f11,f12,f13,f14,f15,f16,f17,f18,f19,f20,f21,f22,f23,f24,f25,f26,f27,f28,f29⟩
        ·intro L x a wR K hL hd hf hx hΦ hK
         obtain ⟨hI,f0,f1,f2,f3,f4,f5,f6,f7,f8,f9,f10,f11,f12,f13,f14,f15,f16,f17,f18,f19,f20,f21,f22,f23,f24,f25,f26,f27,f28,f29⟩:=hΦ
         refine ⟨fun _ => ?_,fun h => absurd h (by rw [Go.RE.wanted_none rfl]; decide)⟩
         have d10:=f10 (hd 10 (by kernel_rfl))
         have e77:a.tmps[77]? = some (x 77):=hx 10 _ 77 rfl rfl (hd 10 (by kernel_rfl))
         rw [d10] at e77
         have c1:=(hI.cell (p:=⟨g3,nb,none⟩) HGg3.out).trans HEb.out
         clear hf hx hd
         go_simp
         refine hK _ _ ?_
         exact ⟨hI,f0,f1,f2,f3,f4,f5,f6,f7,f8,f9,f10,fun _ => rfl,f12,f13,f14,f15,f16,f17,f18,f19,f20,f21,f22,f23,f24,f25,f26,f27,f28,f29⟩
        ·intro L x a wR K hL hd hf hx hΦ hK
         obtain ⟨hI,f0,f1,f2,f3,f4,f5,f6,f7,f8,f9,f10,f11,f12,f13,f14,f15,f16,f17,f18,f19,f20,f21,f22,f23,f24,f25,f26,f27,f28,f29⟩:=hΦ
         refine ⟨fun _ => ?_,fun h => absurd h (by rw [Go.RE.wanted_none rfl]; decide)⟩
         have d6:=f6 (hd 6 (by kernel_rfl))
         have e73:a.tmps[73]? = some (x 73):=hx 6 _ 73 rfl rfl (hd 6 (by kernel_rfl))
         rw [d6] at e73
         have d11:=f11 (hd 11 (by kernel_rfl))
         have e78:a.tmps[78]? = some (x 78):=hx 11 _ 78 rfl rfl (hd 11 (by kernel_rfl))
         rw [d11] at e78
         clear hf hx hd
         have hz:=HZ.out
         go_simp
         rw [if_neg (by first | omega | (simp only [ByteArray.size_append,szL,List.size_toArray,List.length_cons,List.length_nil]; omega))]
         go_simp
         refine hK _ _ ?_
         exact ⟨hI,f0,f1,f2,f3,f4,f5,f6,f7,f8,f9,f10,f11,fun _ => rfl,f13,f14,f15,f16,f17,f18,f19,f20,f21,f22,f23,f24,f25,f26,f27,f28,f29⟩
        ·intro L x a wR K hL hd hf hx hΦ hK
         obtain ⟨hI,f0,f1,f2,f3,f4,f5,f6,f7,f8,f9,f10,f11,f12,f13,f14,f15,f16,f17,f18,f19,f20,f21,f22,f23,f24,f25,f26,f27,f28,f29⟩:=hΦ
         refine ⟨fun _ => ?_,fun h => absurd h (by rw [Go.RE.wanted_none rfl]; decide)⟩
         have d12:=f12 (hd 12 (by kernel_rfl))
         have e79:a.tmps[79]? = some (x 79):=hx 12 _ 79 rfl rfl (hd 12 (by kernel_rfl))
         rw [d12] at e79
         clear hf hx hd
         have hz:=HZ.out
         go_simp
         rw [if_neg (by first | omega | (simp only [ByteArray.size_append,szL,List.size_toArray,List.length_cons,List.length_nil]; omega))]
         go_simp
         refine hK _ _ ?_
         exact ⟨hI,f0,f1,f2,f3,f4,f5,f6,f7,f8,f9,f10,f11,f12,fun _ => rfl,f14,f15,f16,f17,f18,f19,f20,f21,f22,f23,f24,f25,f26,f27,f28,f29⟩
        ·intro L x a wR K hL hd hf hx hΦ hK
         obtain ⟨hI,f0,f1,f2,f3,f4,f5,f6,f7,f8,f9,f10,f11,f12,f13,f14,f15,f16,f17,f18,f19,f20,f21,f22,f23,f24,f25,f26,f27,f28,f29⟩:=hΦ
         refine ⟨fun _ => ?_,fun h => absurd h (by rw [Go.RE.wanted_none rfl]; decide)⟩
         have e9:a.tmps[9]? = some (.slice (some ⟨g4,0,none⟩) 10 10):=hf 9 (of_decide_eq_true (by kernel_rfl))
         clear hf hx hd
         go_simp
         refine hK _ _ ?_
         exact ⟨hI,f0,f1,f2,f3,f4,f5,f6,f7,f8,f9,f10,f11,f12,f13,fun _ => rfl,f15,f16,f17,f18,f19,f20,f21,f22,f23,f24,f25,f26,f27,f28,f29⟩
        ·intro L x a wR K hL hd hf hx hΦ hK
         obtain ⟨hI,f0,f1,f2,f3,f4,f5,f6,f7,f8,f9,f10,f11,f12,f13,f14,f15,f16,f17,f18,f19,f20,f21,f22,f23,f24,f25,f26,f27,f28,f29⟩:=hΦ
         refine ⟨fun _ => ?_,fun h => absurd h (by rw [Go.RE.wanted_none rfl]; decide)⟩
         have e10:a.tmps[10]? = some (.int .i64 (j:Int)):=hf 10 (of_decide_eq_true (by kernel_rfl))
         clear hf hx hd
         go_simp
         refine hK _ _ ?_
         exact ⟨hI,f0,f1,f2,f3,f4,f5,f6,f7,f8,f9,f10,f11,f12,f13,f14,fun _ => rfl,f16,f17,f18,f19,f20,f21,f22,f23,f24,f25,f26,f27,f28,f29⟩
        ·intro L x a wR K hL hd hf hx hΦ hK
         obtain ⟨hI,f0,f1,f2,f3,f4,f5,f6,f7,f8,f9,f10,f11,f12,f13,f14,f15,f16,f17,f18,f19,f20,f21,f22,f23,f24,f25,f26,f27,f28,f29⟩:=hΦ
         refine ⟨fun _ => ?_,fun h => absurd h (by rw [Go.RE.wanted_none rfl]; decide)⟩
         have d15:=f15 (hd 15 (by kernel_rfl))
         have e82:a.tmps[82]? = some (x 82):=hx 15 _ 82 rfl rfl (hd 15 (by kernel_rfl))
         rw [d15] at e82
         have r:=HRC.out.1
         have e2:IntKind.i64.wrap (nc:Int) = (nc:Int):=IntWalk.i64_in _ (by have:=HRC.out.2; omega)
         clear hf hx hd
         go_simp
         refine hK _ _ ?_
         exact ⟨hI,f0,f1,f2,f3,f4,f5,f6,f7,f8,f9,f10,f11,f12,f13,f14,f15,fun _ => rfl,f17,f18,f19,f20,f21,f22,f23,f24,f25,f26,f27,f28,f29⟩
        ·intro L x a wR K hL hd hf hx hΦ hK
         obtain ⟨hI,f0,f1,f2,f3,f4,f5,f6,f7,f8,f9,f10,f11,f12,f13,f14,f15,f16,f17,f18,f19,f20,f21,f22,f23,f24,f25,f26,f27,f28,f29⟩:=hΦ
         refine ⟨fun _ => ?_,fun h => absurd h (by rw [Go.RE.wanted_none rfl]; decide)⟩
         have d14:=f14 (hd 14 (by kernel_rfl))
         have e81:a.tmps[81]? = some (x 81):=hx 14 _ 81 rfl rfl (hd 14 (by kernel_rfl))
         rw [d14] at e81
         have d16:=f16 (hd 16 (by kernel_rfl))
         have e83:a.tmps[83]? = some (x 83):=hx 16 _ 83 rfl rfl (hd 16 (by kernel_rfl))
         rw [d16] at e83
         have l1:=HLA.out
         have l2:=HLB.out
         have l3:=HLC.out
         have l4:=HLD.out
         clear hf hx hd
         go_simp
         refine hK _ _ ?_
         exact ⟨hI,f0,f1,f2,f3,f4,f5,f6,f7,f8,f9,f10,f11,f12,f13,f14,f15,f16,fun _ => rfl,f18,f19,f20,f21,f22,f23,f24,f25,f26,f27,f28,f29⟩
        ·intro L x a wR K hL hd hf hx hΦ hK
         obtain ⟨hI,f0,f1,f2,f3,f4,f5,f6,f7,f8,f9,f10,f11,f12,f13,f14,f15,f16,f17,f18,f19,f20,f21,f22,f23,f24,f25,f26,f27,f28,f29⟩:=hΦ
         refine ⟨fun _ => ?_,fun h => absurd h (by rw [Go.RE.wanted_none rfl]; decide)⟩
         have d17:=f17 (hd 17 (by kernel_rfl))
         have e84:a.tmps[84]? = some (x 84):=hx 17 _ 84 rfl rfl (hd 17 (by kernel_rfl))
         rw [d17] at e84
         have c1:=(hI.cell (p:=⟨g4,nc,none⟩) HGg4.out).trans HEc.out
         clear hf hx hd
         go_simp
         refine hK _ _ ?_
         exact ⟨hI,f0,f1,f2,f3,f4,f5,f6,f7,f8,f9,f10,f11,f12,f13,f14,f15,f16,f17,fun _ => rfl,f19,f20,f21,f22,f23,f24,f25,f26,f27,f28,f29⟩
        ·intro L x a wR K hL hd hf hx hΦ hK
         obtain ⟨hI,f0,f1,f2,f3,f4,f5,f6,f7,f8,f9,f10,f11,f12,f13,f14,f15,f16,f17,f18,f19,f20,f21,f22,f23,f24,f25,f26,f27,f28,f29⟩:=hΦ
         refine ⟨fun _ => ?_,fun h => absurd h (by rw [Go.RE.wanted_none rfl]; decide)⟩
         have d13:=f13 (hd 13 (by kernel_rfl))
         have e80:a.tmps[80]? = some (x 80):=hx 13 _ 80 rfl rfl (hd 13 (by kernel_rfl))
         rw [d13] at e80
         have d18:=f18 (hd 18 (by kernel_rfl))
         have e85:a.tmps[85]? = some (x 85):=hx 18 _ 85 rfl rfl (hd 18 (by kernel_rfl))
         rw [d18] at e85
         clear hf hx hd
         have hz:=HZ.out
         go_simp
         rw [if_neg (by first | omega | (simp only [ByteArray.size_append,szL,List.size_toArray,List.length_cons,List.length_nil]; omega))]
         go_simp
         refine hK _ _ ?_
         exact ⟨hI,f0,f1,f2,f3,f4,f5,f6,f7,f8,f9,f10,f11,f12,f13,f14,f15,f16,f17,f18,fun _ => rfl,f20,f21,f22,f23,f24,f25,f26,f27,f28,f29⟩
        ·intro L x a wR K hL hd hf hx hΦ hK
         obtain ⟨hI,f0,f1,f2,f3,f4,f5,f6,f7,f8,f9,f10,f11,f12,f13,f14,f15,f16,f17,f18,f19,f20,f21,f22,f23,f24,f25,f26,f27,f28,f29⟩:=hΦ
         refine ⟨fun _ => ?_,fun h => absurd h (by rw [Go.RE.wanted_none rfl]; decide)⟩
         have d19:=f19 (hd 19 (by kernel_rfl))
         have e86:a.tmps[86]? = some (x 86):=hx 19 _ 86 rfl rfl (hd 19 (by kernel_rfl))
         rw [d19] at e86
         clear hf hx hd
         have hz:=HZ.out
         go_simp
         rw [if_neg (by first | omega | (simp only [ByteArray.size_append,szL,List.size_toArray,List.length_cons,List.length_nil]; omega))]
         go_simp
         refine hK _ _ ?_
         exact ⟨hI,f0,f1,f2,f3,f4,f5,f6,f7,f8,f9,f10,f11,f12,f13,f14,f15,f16,f17,f18,f19,fun _ => rfl,f21,f22,f23,f24,f25,f26,f27,f28,f29⟩
        ·intro L x a wR K hL hd hf hx hΦ hK
         obtain ⟨hI,f0,f1,f2,f3,f4,f5,f6,f7,f8,f9,f10,f11,f12,f13,f14,f15,f16,f17,f18,f19,f20,f21,f22,f23,f24,f25,f26,f27,f28,f29⟩:=hΦ
         refine ⟨fun _ => ?_,fun h => absurd h (by rw [Go.RE.wanted_none rfl]; decide)⟩
         have e8:a.tmps[8]? = some (.slice (some ⟨g3,0,none⟩) 7 7):=hf 8 (of_decide_eq_true (by kernel_rfl))
         clear hf hx hd
         go_simp
         refine hK _ _ ?_
         exact ⟨hI,f0,f1,f2,f3,f4,f5,f6,f7,f8,f9,f10,f11,f12,f13,f14,f15,f16,f17,f18,f19,f20,fun _ => rfl,f22,f23,f24,f25,f26,f27,f28,f29⟩
        ·intro L x a wR K hL hd hf hx hΦ hK
         obtain ⟨hI,f0,f1,f2,f3,f4,f5,f6,f7,f8,f9,f10,f11,f12,f13,f14,f15,f16,f17,f18,f19,f20,f21,f22,f23,f24,f25,f26,f27,f28,f29⟩:=hΦ
         refine ⟨fun _ => ?_,fun h => absurd h (by rw [Go.RE.wanted_none rfl]; decide)⟩
         have e10:a.tmps[10]? = some (.int .i64 (j:Int)):=hf 10 (of_decide_eq_true (by kernel_rfl))
         clear hf hx hd
         go_simp
         refine hK _ _ ?_
         exact ⟨hI,f0,f1,f2,f3,f4,f5,f6,f7,f8,f9,f10,f11,f12,f13,f14,f15,f16,f17,f18,f19,f20,f21,fun _ => rfl,f23,f24,f25,f26,f27,f28,f29⟩
        ·intro L x a wR K hL hd hf hx hΦ hK
         obtain ⟨hI,f0,f1,f2,f3,f4,f5,f6,f7,f8,f9,f10,f11,f12,f13,f14,f15,f16,f17,f18,f19,f20,f21,f22,f23,f24,f25,f26,f27,f28,f29⟩:=hΦ
         refine ⟨fun _ => ?_,fun h => absurd h (by rw [Go.RE.wanted_none rfl]; decide)⟩
         have d22:=f22 (hd 22 (by kernel_rfl))
         have e89:a.tmps[89]? = some (x 89):=hx 22 _ 89 rfl rfl (hd 22 (by kernel_rfl))
         rw [d22] at e89
         have r:=HRR.out.1
         have e2:IntKind.i64.wrap (nr:Int) = (nr:Int):=IntWalk.i64_in _ (by have:=HRR.out.2; omega)
         clear hf hx hd
         go_simp
         refine hK _ _ ?_
         exact ⟨hI,f0,f1,f2,f3,f4,f5,f6,f7,f8,f9,f10,f11,f12,f13,f14,f15,f16,f17,f18,f19,f20,f21,f22,fun _ => rfl,f24,f25,f26,f27,f28,f29⟩
        ·intro L x a wR K hL hd hf hx hΦ hK
         obtain ⟨hI,f0,f1,f2,f3,f4,f5,f6,f7,f8,f9,f10,f11,f12,f13,f14,f15,f16,f17,f18,f19,f20,f21,f22,f23,f24,f25,f26,f27,f28,f29⟩:=hΦ
         refine ⟨fun _ => ?_,fun h => absurd h (by rw [Go.RE.wanted_none rfl]; decide)⟩
         have d23:=f23 (hd 23 (by kernel_rfl))
         have e90:a.tmps[90]? = some (x 90):=hx 23 _ 90 rfl rfl (hd 23 (by kernel_rfl))
         rw [d23] at e90
         have r:=HRD.out
         clear hf hx hd
         go_simp
         refine hK _ _ ?_
         exact ⟨hI,f0,f1,f2,f3,f4,f5,f6,f7,f8,f9,f10,f11,f12,f13,f14,f15,f16,f17,f18,f19,f20,f21,f22,f23,fun _ => rfl,f25,f26,f27,f28,f29⟩
        ·intro L x a wR K hL hd hf hx hΦ hK
         obtain ⟨hI,f0,f1,f2,f3,f4,f5,f6,f7,f8,f9,f10,f11,f12,f13,f14,f15,f16,f17,f18,f19,f20,f21,f22,f23,f24,f25,f26,f27,f28,f29⟩:=hΦ
         refine ⟨fun _ => ?_,fun h => absurd h (by rw [Go.RE.wanted_none rfl]; decide)⟩
         have d21:=f21 (hd 21 (by kernel_rfl))
         have e88:a.tmps[88]? = some (x 88):=hx 21 _ 88 rfl rfl (hd 21 (by kernel_rfl))
         rw [d21] at e88
         have d24:=f24 (hd 24 (by kernel_rfl))
         have e91:a.tmps[91]? = some (x 91):=hx 24 _ 91 rfl rfl (hd 24 (by kernel_rfl))
         rw [d24] at e91
         have l1:=HLA.out
         have l2:=HLB.out
         have l3:=HLC.out
         have l4:=HLD.out
         clear hf hx hd
         go_simp
         refine hK _ _ ?_
         exact ⟨hI,f0,f1,f2,f3,f4,f5,f6,f7,f8,f9,f10,f11,f12,f13,f14,f15,f16,f17,f18,f19,f20,f21,f22,f23,f24,fun _ => rfl,f26,f27,f28,f29⟩
        ·intro L x a wR K hL hd hf hx hΦ hK
         obtain ⟨hI,f0,f1,f2,f3,f4,f5,f6,f7,f8,f9,f10,f11,f12,f13,f14,f15,f16,f17,f18,f19,f20,f21,f22,f23,f24,f25,f26,f27,f28,f29⟩:=hΦ
         refine ⟨fun _ => ?_,fun h => absurd h (by rw [Go.RE.wanted_none rfl]; decide)⟩
         have d25:=f25 (hd 25 (by kernel_rfl))
         have e92:a.tmps[92]? = some (x 92):=hx 25 _ 92 rfl rfl (hd 25 (by kernel_rfl))
         rw [d25] at e92
         have c1:=(hI.cell (p:=⟨g3,nd,none⟩) HGg3.out).trans HEd.out
         clear hf hx hd
         go_simp
         refine hK _ _ ?_
         exact ⟨hI,f0,f1,f2,f3,f4,f5,f6,f7,f8,f9,f10,f11,f12,f13,f14,f15,f16,f17,f18,f19,f20,f21,f22,f23,f24,f25,fun _ => rfl,f27,f28,f29⟩
        ·intro L x a wR K hL hd hf hx hΦ hK
         obtain ⟨hI,f0,f1,f2,f3,f4,f5,f6,f7,f8,f9,f10,f11,f12,f13,f14,f15,f16,f17,f18,f19,f20,f21,f22,f23,f24,f25,f26,f27,f28,f29⟩:=hΦ
         refine ⟨fun _ => ?_,fun h => absurd h (by rw [Go.RE.wanted_none rfl]; decide)⟩
         have d20:=f20 (hd 20 (by kernel_rfl))
         have e87:a.tmps[87]? = some (x 87):=hx 20 _ 87 rfl rfl (hd 20 (by kernel_rfl))
         rw [d20] at e87
         have d26:=f26 (hd 26 (by kernel_rfl))
         have e93:a.tmps[93]? = some (x 93):=hx 26 _ 93 rfl rfl (hd 26 (by kernel_rfl))
         rw [d26] at e93
         clear hf hx hd
         have hz:=HZ.out
         go_simp
         rw [if_neg (by first | omega | (simp only [ByteArray.size_append,szL,List.size_toArray,List.length_cons,List.length_nil]; omega))]
         go_simp
         refine hK _ _ ?_
         exact ⟨hI,f0,f1,f2,f3,f4,f5,f6,f7,f8,f9,f10,f11,f12,f13,f14,f15,f16,f17,f18,f19,f20,f21,f22,f23,f24,f25,f26,fun _ => rfl,f28,f29⟩
        ·intro L x a wR K hL hd hf hx hΦ hK
         obtain ⟨hI,f0,f1,f2,f3,f4,f5,f6,f7,f8,f9,f10,f11,f12,f13,f14,f15,f16,f17,f18,f19,f20,f21,f22,f23,f24,f25,f26,f27,f28,f29⟩:=hΦ
         refine ⟨fun _ => ?_,fun h => absurd h (by rw [Go.RE.wanted_none rfl]; decide)⟩
         have d27:=f27 (hd 27 (by kernel_rfl))
         have e94:a.tmps[94]? = some (x 94):=hx 27 _ 94 rfl rfl (hd 27 (by kernel_rfl))
         rw [d27] at e94
         clear hf hx hd
         have hz:=HZ.out
         go_simp
         rw [if_neg (by first | omega | (simp only [ByteArray.size_append,szL,List.size_toArray,List.length_cons,List.length_nil]; omega))]
         go_simp
         refine hK _ _ ?_
         exact ⟨hI,f0,f1,f2,f3,f4,f5,f6,f7,f8,f9,f10,f11,f12,f13,f14,f15,f16,f17,f18,f19,f20,f21,f22,f23,f24,f25,f26,f27,fun _ => rfl,f29⟩
        ·intro L x a wR K hL hd hf hx hΦ hK
         obtain ⟨hI,f0,f1,f2,f3,f4,f5,f6,f7,f8,f9,f10,f11,f12,f13,f14,f15,f16,f17,f18,f19,f20,f21,f22,f23,f24,f25,f26,f27,f28,f29⟩:=hΦ
         refine ⟨fun _ => ?_,fun h => absurd h (by rw [Go.RE.wanted_none rfl]; decide)⟩
         have d28:=f28 (hd 28 (by kernel_rfl))
         have e95:a.tmps[95]? = some (x 95):=hx 28 _ 95 rfl rfl (hd 28 (by kernel_rfl))
         rw [d28] at e95
         clear hf hx hd
         go_simp
         refine hK _ _ ?_
         exact ⟨hI,f0,f1,f2,f3,f4,f5,f6,f7,f8,f9,f10,f11,f12,f13,f14,f15,f16,f17,f18,f19,f20,f21,f22,f23,f24,f25,f26,f27,f28,fun _ => rfl⟩
        ·rintro x W ⟨hI,f0,f1,f2,f3,f4,f5,f6,f7,f8,f9,f10,f11,f12,f13,f14,f15,f16,f17,f18,f19,f20,f21,f22,f23,f24,f25,f26,f27,f28,f29⟩
         simp only [Exit.then]
         go_step
         go_meet
         exact ⟨⟨_,f29 rfl,by have:=HZ.out; first | omega | (simp only [ByteArray.size_append,szL,List.size_toArray,List.length_cons,List.length_nil]; omega)⟩,hI⟩
       case rest =>
        obtain ⟨⟨x,rfl,hx⟩,hB3⟩:=hcut
        have HG:=hid (HUP.out _ _ HG.out hB3)
        have HBW:=hid (HBW.out.trans (hB3.mono HBW.out.size))
        clear hB3
        go_wp2_with ((go_at_call 5; (with_reducible refine (HP.out _ _ HG.out (by first | omega | (simp only [ByteArray.size_append,szL,List.size_toArray,List.length_cons,List.length_nil]; omega))).mono ?_); rintro _ w9 ⟨rfl,hB9⟩; replace HG:=hid (HUP.out _ _ HG.out hB9); replace HBW:=hid (HBW.out.trans (hB9.mono HBW.out.size)); clear hB9))
        go_roundw
        case rel => exact ⟨j + 1,by go_num,by omega,HG.out,HBW.out⟩
        case measure => simp [intOf]; omega
      ·have HB3:Hid (Below w.heap.size w wr):=hid (HB1.out.trans (HBW.out.mono HB1.out.size))
       clear HBW HB1
       go_wp2_with (first
        | (go_at_call 7; ((with_reducible refine (HN.out _ HG.out).mono ?_); rintro _ w9 ⟨rfl,hB9⟩; replace HG:=hid (HUP.out _ _ HG.out hB9); replace HB3:=hid (HB3.out.trans (hB9.mono HB3.out.size)); clear hB9))
        | (go_at_call 8; ((with_reducible refine (HS.out _ HG.out).mono ?_); rintro _ w9 ⟨rfl,hB9⟩; replace HG:=hid (HUP.out _ _ HG.out hB9); replace HB3:=hid (HB3.out.trans (hB9.mono HB3.out.size)); clear hB9))
        | (go_at_call 6; ((with_reducible refine (HA.out _ HG.out).mono ?_); rintro _ w9 ⟨rfl,hB9⟩; replace HG:=hid (HUP.out _ _ HG.out hB9); replace HB3:=hid (HB3.out.trans (hB9.mono HB3.out.size)); clear hB9)))
       refine bodyPost_ret (v:=.bool true) (by simp [results,Tryz.results4,go_sem]) rfl ?_
       exact ⟨rfl,HB3.out⟩
end Go.Proofs.YtdobflpbkfkmgaaGreatDoor
