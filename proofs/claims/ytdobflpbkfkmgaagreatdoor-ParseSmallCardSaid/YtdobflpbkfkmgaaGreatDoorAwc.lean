import Derived.Test.YtdobflpbkfkmgaaGreatDoorMaw
import Derived.Test.YtdobflpbkfkmgaaGreatDoorMea
namespace Go.Proofs.YtdobflpbkfkmgaaGreatDoor
open Go.RowKit Go.HK Go.FR Lib
set_option linter.unusedVariables false
set_option linter.unusedSimpArgs false
set_option linter.unusedSectionVars false
theorem of4 (W:World) (lo:Nat) (l:List Fm) (a:Option Addr) (n c:Nat) (h:FsV W lo l (.slice a n c)):Calls Tryz.prog 20 #[.int .u8 4,.string ⟨#[]⟩,.slice a n c] W fun e W' => e = .returned (.agg #[.int .u8 4,.string ⟨#[]⟩,.slice none 0 0,.slice a n c]) /\ Below W.heap.size W W' /\ FmV W' lo (.mk 4 ⟨#[]⟩ [] l) (.agg #[.int .u8 4,.string ⟨#[]⟩,.slice none 0 0,.slice a n c]):=of_call W lo 4 (by decide) ⟨#[]⟩ (by decide) l a n c h
theorem of5 (W:World) (lo:Nat) (l:List Fm) (a:Option Addr) (n c:Nat) (h:FsV W lo l (.slice a n c)):Calls Tryz.prog 20 #[.int .u8 5,.string ⟨#[]⟩,.slice a n c] W fun e W' => e = .returned (.agg #[.int .u8 5,.string ⟨#[]⟩,.slice none 0 0,.slice a n c]) /\ Below W.heap.size W W' /\ FmV W' lo (.mk 5 ⟨#[]⟩ [] l) (.agg #[.int .u8 5,.string ⟨#[]⟩,.slice none 0 0,.slice a n c]):=of_call W lo 5 (by decide) ⟨#[]⟩ (by decide) l a n c h
theorem of6 (W:World) (lo:Nat) (l:List Fm) (a:Option Addr) (n c:Nat) (h:FsV W lo l (.slice a n c)):Calls Tryz.prog 20 #[.int .u8 6,.string ⟨#[]⟩,.slice a n c] W fun e W' => e = .returned (.agg #[.int .u8 6,.string ⟨#[]⟩,.slice none 0 0,.slice a n c]) /\ Below W.heap.size W W' /\ FmV W' lo (.mk 6 ⟨#[]⟩ [] l) (.agg #[.int .u8 6,.string ⟨#[]⟩,.slice none 0 0,.slice a n c]):=of_call W lo 6 (by decide) ⟨#[]⟩ (by decide) l a n c h
theorem of7 (W:World) (lo:Nat) (l:List Fm) (a:Option Addr) (n c:Nat) (h:FsV W lo l (.slice a n c)):Calls Tryz.prog 20 #[.int .u8 7,.string ⟨#[]⟩,.slice a n c] W fun e W' => e = .returned (.agg #[.int .u8 7,.string ⟨#[]⟩,.slice none 0 0,.slice a n c]) /\ Below W.heap.size W W' /\ FmV W' lo (.mk 7 ⟨#[]⟩ [] l) (.agg #[.int .u8 7,.string ⟨#[]⟩,.slice none 0 0,.slice a n c]):=of_call W lo 7 (by decide) ⟨#[]⟩ (by decide) l a n c h
theorem of8 (W:World) (lo:Nat) (l:List Fm) (a:Option Addr) (n c:Nat) (h:FsV W lo l (.slice a n c)):Calls Tryz.prog 20 #[.int .u8 8,.string ⟨#[120]⟩,.slice a n c] W fun e W' => e = .returned (.agg #[.int .u8 8,.string ⟨#[120]⟩,.slice none 0 0,.slice a n c]) /\ Below W.heap.size W W' /\ FmV W' lo (.mk 8 ⟨#[120]⟩ [] l) (.agg #[.int .u8 8,.string ⟨#[120]⟩,.slice none 0 0,.slice a n c]):=of_call W lo 8 (by decide) ⟨#[120]⟩ (by decide) l a n c h
theorem of10 (W:World) (lo:Nat) (l:List Fm) (a:Option Addr) (n c:Nat) (h:FsV W lo l (.slice a n c)):Calls Tryz.prog 20 #[.int .u8 10,.string ⟨#[]⟩,.slice a n c] W fun e W' => e = .returned (.agg #[.int .u8 10,.string ⟨#[]⟩,.slice none 0 0,.slice a n c]) /\ Below W.heap.size W W' /\ FmV W' lo (.mk 10 ⟨#[]⟩ [] l) (.agg #[.int .u8 10,.string ⟨#[]⟩,.slice none 0 0,.slice a n c]):=of_call W lo 10 (by decide) ⟨#[]⟩ (by decide) l a n c h
theorem of3 (W:World) (lo:Nat) (l:List Fm) (a:Option Addr) (n c:Nat) (h:FsV W lo l (.slice a n c)):Calls Tryz.prog 20 #[.int .u8 3,.string ⟨#[]⟩,.slice a n c] W fun e W' => e = .returned (.agg #[.int .u8 3,.string ⟨#[]⟩,.slice none 0 0,.slice a n c]) /\ Below W.heap.size W W' /\ FmV W' lo (.mk 3 ⟨#[]⟩ [] l) (.agg #[.int .u8 3,.string ⟨#[]⟩,.slice none 0 0,.slice a n c]):=of_call W lo 3 (by decide) ⟨#[]⟩ (by decide) l a n c h
theorem of14 (W:World) (lo:Nat) (l:List Fm) (a:Option Addr) (n c:Nat) (h:FsV W lo l (.slice a n c)):Calls Tryz.prog 20 #[.int .u8 14,.string ⟨#[]⟩,.slice a n c] W fun e W' => e = .returned (.agg #[.int .u8 14,.string ⟨#[]⟩,.slice none 0 0,.slice a n c]) /\ Below W.heap.size W W' /\ FmV W' lo (.mk 14 ⟨#[]⟩ [] l) (.agg #[.int .u8 14,.string ⟨#[]⟩,.slice none 0 0,.slice a n c]):=of_call W lo 14 (by decide) ⟨#[]⟩ (by decide) l a n c h
theorem of9 (W:World) (lo:Nat) (l:List Fm) (a:Option Addr) (n c:Nat) (h:FsV W lo l (.slice a n c)):Calls Tryz.prog 20 #[.int .u8 9,.string ⟨#[120]⟩,.slice a n c] W fun e W' => e = .returned (.agg #[.int .u8 9,.string ⟨#[120]⟩,.slice none 0 0,.slice a n c]) /\ Below W.heap.size W W' /\ FmV W' lo (.mk 9 ⟨#[120]⟩ [] l) (.agg #[.int .u8 9,.string ⟨#[120]⟩,.slice none 0 0,.slice a n c]):=of_call W lo 9 (by decide) ⟨#[120]⟩ (by decide) l a n c h
theorem p0 (W:World) (lo:Nat) (nm:ByteArray) (hn:nm.size <= maxLen):Calls Tryz.prog 21 #[.string nm,.slice none 0 0] W fun e W' => e = .returned (.agg #[.int .u8 1,.string nm,.slice none 0 0,.slice none 0 0]) /\ Below W.heap.size W W' /\ FmV W' lo (.mk 1 nm [] []) (.agg #[.int .u8 1,.string nm,.slice none 0 0,.slice none 0 0]):=p_call W lo nm hn [] none 0 0 ⟨⟨none,0,0⟩,rfl,.nil _ _⟩
def RetA1 (w:World) (e:Ending) (W':World):Prop:=e = .returned (.bool true) /\ Below w.heap.size w W'
def awg34:Fm:=(.mk 4 ⟨#[]⟩ [] [(.mk 4 ⟨#[]⟩ [] [(.mk 1 ⟨#[80]⟩ [] []),(.mk 1 ⟨#[81]⟩ [] [])]),(.mk 1 ⟨#[82]⟩ [] [])])
def awg35:Fm:=(.mk 1 ⟨#[83]⟩ [] [])
def awg36:List Fm:=[awg34,awg35]
def awg37:Fm:=(.mk 5 ⟨#[]⟩ [] awg36)
def awg38:Fm:=(.mk 6 ⟨#[]⟩ [] [(.mk 1 ⟨#[84]⟩ [] []),(.mk 1 ⟨#[85,49]⟩ [] [])])
def awg39:List Fm:=[awg37,awg38]
def awg40:Fm:=(.mk 6 ⟨#[]⟩ [] awg39)
def awg45:List Tm:=[Va ⟨#[120]⟩]
def awg46:Fm:=(.mk 1 ⟨#[80]⟩ awg45 [])
def awg47:List Fm:=[awg46]
def awg48:Fm:=(.mk 8 ⟨#[120]⟩ [] awg47)
def awg49:Fm:=(.mk 1 ⟨#[81]⟩ [] [])
def awg50:List Fm:=[awg48,awg49]
def awg51:Fm:=(.mk 4 ⟨#[]⟩ [] awg50)
def awg56:Fm:=(.mk 1 ⟨#[80]⟩ [] [])
def awg57:List Fm:=[awg56]
def awg58:Fm:=(.mk 10 ⟨#[]⟩ [] awg57)
def awg59:List Fm:=[awg58]
def awg60:Fm:=(.mk 3 ⟨#[]⟩ [] awg59)
def awg61:Fm:=(.mk 1 ⟨#[81]⟩ [] [])
def awg62:Fm:=(.mk 1 ⟨#[82]⟩ [] [])
def awg63:List Fm:=[awg61,awg62]
def awg64:Fm:=(.mk 14 ⟨#[]⟩ [] awg63)
def awg65:List Fm:=[awg60,awg64]
def awg66:Fm:=(.mk 14 ⟨#[]⟩ [] awg65)
def awg71:Fm:=(.mk 7 ⟨#[]⟩ [] [(.mk 6 ⟨#[]⟩ [] [(.mk 1 ⟨#[80]⟩ [] []),(.mk 1 ⟨#[81]⟩ [] [])]),(.mk 1 ⟨#[82]⟩ [] [])])
def awg72:Fm:=(.mk 1 ⟨#[83]⟩ [] [])
def awg73:List Fm:=[awg71,awg72]
def awg74:Fm:=(.mk 7 ⟨#[]⟩ [] awg73)
def awg79:Fm:=(.mk 16 ⟨#[63,65]⟩ [Va ⟨#[120]⟩,Va ⟨#[63,116]⟩] [])
def awg80:Fm:=(.mk 15 ⟨#[63,65]⟩ [] [])
def awg81:List Fm:=[awg80]
def awg82:Fm:=(.mk 9 ⟨#[120]⟩ [] awg81)
def awg83:List Fm:=[awg79,awg82]
def awg84:Fm:=(.mk 4 ⟨#[]⟩ [] awg83)
set_option maxRecDepth 100000 in
set_option maxHeartbeats 8000000 in
theorem awake_any (w:World) (hG:Signs w) (hV:IsLv w) (hR:IsRows w):Calls Tryz.prog 6 #[] w (RetA1 w):=by
 have HG:=hid hG
 have HV:=hid hV
 have HR:=hid hR
 clear hG hV hR
 go_enter Tryz.func6,Tryz.ntmps6
 have HB:=hid (Below.refl w.heap.size w)
 go_wp2_with (fail)
 go_at_call 21
 with_reducible refine (p0 _ w.heap.size ⟨#[80]⟩ (by decide)).mono ?_
 rintro e W1 ⟨rfl,hB,hf⟩
 have F12:=hid hf
 have HB:=hid (HB.out.trans (hB.mono HB.out.size))
 clear hB hf
 go_wp2_with (fail)
 go_at_call 21
 with_reducible refine (p0 _ w.heap.size ⟨#[81]⟩ (by decide)).mono ?_
 rintro e W2 ⟨rfl,hB,hf⟩
 have F12:=hid (F12.out.up hB)
 have F13:=hid hf
 have HB:=hid (HB.out.trans (hB.mono HB.out.size))
 clear hB hf
 have G14:=hid (fs_two F12.out F13.out HB.out.size)
 have HB:=hid (HB.out.trans ((bl_al9 (W:=W2) (.cells #[.int .u8 1,.string ⟨#[80]⟩,.slice none 0 0,.slice none 0 0,.int .u8 1,.string ⟨#[81]⟩,.slice none 0 0,.slice none 0 0] 28)).mono HB.out.size))
 go_wp2_with (fail)
 go_at_call 20
 with_reducible refine (of4 _ w.heap.size _ _ _ _ G14.out).mono ?_
 rintro e W3 ⟨rfl,hB,hf⟩
 have F15:=hid hf
 have HB:=hid (HB.out.trans (hB.mono HB.out.size))
 clear hB hf
 go_wp2_with (fail)
 go_at_call 21
 with_reducible refine (p0 _ w.heap.size ⟨#[82]⟩ (by decide)).mono ?_
 rintro e W4 ⟨rfl,hB,hf⟩
 have F15:=hid (F15.out.up hB)
 have F16:=hid hf
 have HB:=hid (HB.out.trans (hB.mono HB.out.size))
 clear hB hf
 have G17:=hid (fs_two F15.out F16.out HB.out.size)
 have HB:=hid (HB.out.trans ((bl_al9 (W:=W4) (.cells #[.int .u8 4,.string ⟨#[]⟩,.slice none 0 0,.slice (some ⟨W2.heap.size,0,none⟩) 2 2,.int .u8 1,.string ⟨#[82]⟩,.slice none 0 0,.slice none 0 0] 28)).mono HB.out.size))
 go_wp2_with (fail)
 go_at_call 20
 with_reducible refine (of4 _ w.heap.size _ _ _ _ G17.out).mono ?_
 rintro e W5 ⟨rfl,hB,hf⟩
 have F18:=hid hf
 have HB:=hid (HB.out.trans (hB.mono HB.out.size))
 clear hB hf
 go_wp2_with (fail)
 go_at_call 21
 with_reducible refine (p0 _ w.heap.size ⟨#[84]⟩ (by decide)).mono ?_
 rintro e W6 ⟨rfl,hB,hf⟩
 have F18:=hid (F18.out.up hB)
 have F19:=hid hf
 have HB:=hid (HB.out.trans (hB.mono HB.out.size))
 clear hB hf
 go_wp2_with (fail)
 go_at_call 21
 with_reducible refine (p0 _ w.heap.size ⟨#[85,49]⟩ (by decide)).mono ?_
 rintro e W7 ⟨rfl,hB,hf⟩
 have F18:=hid (F18.out.up hB)
 have F19:=hid (F19.out.up hB)
 have F20:=hid hf
 have HB:=hid (HB.out.trans (hB.mono HB.out.size))
 clear hB hf
 have G21:=hid (fs_two F19.out F20.out HB.out.size)
 have F18:=hid (F18.out.up (bl_al9 (W:=W7) (.cells #[.int .u8 1,.string ⟨#[84]⟩,.slice none 0 0,.slice none 0 0,.int .u8 1,.string ⟨#[85,49]⟩,.slice none 0 0,.slice none 0 0] 28)))
 have HB:=hid (HB.out.trans ((bl_al9 (W:=W7) (.cells #[.int .u8 1,.string ⟨#[84]⟩,.slice none 0 0,.slice none 0 0,.int .u8 1,.string ⟨#[85,49]⟩,.slice none 0 0,.slice none 0 0] 28)).mono HB.out.size))
 go_wp2_with (fail)
 go_at_call 20
 with_reducible refine (of6 _ w.heap.size _ _ _ _ G21.out).mono ?_
 rintro e W8 ⟨rfl,hB,hf⟩
 have F18:=hid (F18.out.up hB)
 have F22:=hid hf
 have HB:=hid (HB.out.trans (hB.mono HB.out.size))
 clear hB hf
 go_wp2_with (fail)
 go_at_call 21
 with_reducible refine (p0 _ w.heap.size ⟨#[80]⟩ (by decide)).mono ?_
 rintro e W9 ⟨rfl,hB,hf⟩
 have F18:=hid (F18.out.up hB)
 have F22:=hid (F22.out.up hB)
 have F23:=hid hf
 have HB:=hid (HB.out.trans (hB.mono HB.out.size))
 clear hB hf
 go_wp2_with (fail)
 go_at_call 21
 with_reducible refine (p0 _ w.heap.size ⟨#[81]⟩ (by decide)).mono ?_
 rintro e W10 ⟨rfl,hB,hf⟩
 have F18:=hid (F18.out.up hB)
 have F22:=hid (F22.out.up hB)
 have F23:=hid (F23.out.up hB)
 have F24:=hid hf
 have HB:=hid (HB.out.trans (hB.mono HB.out.size))
 clear hB hf
 have G25:=hid (fs_two F23.out F24.out HB.out.size)
 have F18:=hid (F18.out.up (bl_al9 (W:=W10) (.cells #[.int .u8 1,.string ⟨#[80]⟩,.slice none 0 0,.slice none 0 0,.int .u8 1,.string ⟨#[81]⟩,.slice none 0 0,.slice none 0 0] 28)))
 have F22:=hid (F22.out.up (bl_al9 (W:=W10) (.cells #[.int .u8 1,.string ⟨#[80]⟩,.slice none 0 0,.slice none 0 0,.int .u8 1,.string ⟨#[81]⟩,.slice none 0 0,.slice none 0 0] 28)))
 have HB:=hid (HB.out.trans ((bl_al9 (W:=W10) (.cells #[.int .u8 1,.string ⟨#[80]⟩,.slice none 0 0,.slice none 0 0,.int .u8 1,.string ⟨#[81]⟩,.slice none 0 0,.slice none 0 0] 28)).mono HB.out.size))
 go_wp2_with (fail)
 go_at_call 20
 with_reducible refine (of6 _ w.heap.size _ _ _ _ G25.out).mono ?_
 rintro e W11 ⟨rfl,hB,hf⟩
 have F18:=hid (F18.out.up hB)
 have F22:=hid (F22.out.up hB)
 have F26:=hid hf
 have HB:=hid (HB.out.trans (hB.mono HB.out.size))
 clear hB hf
 go_wp2_with (fail)
 go_at_call 21
 with_reducible refine (p0 _ w.heap.size ⟨#[82]⟩ (by decide)).mono ?_
 rintro e W12 ⟨rfl,hB,hf⟩
 have F18:=hid (F18.out.up hB)
 have F22:=hid (F22.out.up hB)
 have F26:=hid (F26.out.up hB)
 have F27:=hid hf
 have HB:=hid (HB.out.trans (hB.mono HB.out.size))
 clear hB hf
 have G28:=hid (fs_two F26.out F27.out HB.out.size)
 have F18:=hid (F18.out.up (bl_al9 (W:=W12) (.cells #[.int .u8 6,.string ⟨#[]⟩,.slice none 0 0,.slice (some ⟨W10.heap.size,0,none⟩) 2 2,.int .u8 1,.string ⟨#[82]⟩,.slice none 0 0,.slice none 0 0] 28)))
 have F22:=hid (F22.out.up (bl_al9 (W:=W12) (.cells #[.int .u8 6,.string ⟨#[]⟩,.slice none 0 0,.slice (some ⟨W10.heap.size,0,none⟩) 2 2,.int .u8 1,.string ⟨#[82]⟩,.slice none 0 0,.slice none 0 0] 28)))
 have HB:=hid (HB.out.trans ((bl_al9 (W:=W12) (.cells #[.int .u8 6,.string ⟨#[]⟩,.slice none 0 0,.slice (some ⟨W10.heap.size,0,none⟩) 2 2,.int .u8 1,.string ⟨#[82]⟩,.slice none 0 0,.slice none 0 0] 28)).mono HB.out.size))
 go_wp2_with (fail)
 go_at_call 20
 with_reducible refine (of7 _ w.heap.size _ _ _ _ G28.out).mono ?_
 rintro e W13 ⟨rfl,hB,hf⟩
 have F18:=hid (F18.out.up hB)
 have F22:=hid (F22.out.up hB)
 have F29:=hid hf
 have HB:=hid (HB.out.trans (hB.mono HB.out.size))
 clear hB hf
 go_wp2_with (fail)
 have hn3:=three_new W13 (.cells #[.int .u8 4,.string ⟨#[]⟩,.slice none 0 0,.slice (some ⟨W4.heap.size,0,none⟩) 2 2] 28) (.cells #[.int .u8 6,.string ⟨#[]⟩,.slice none 0 0,.slice (some ⟨W7.heap.size,0,none⟩) 2 2] 28) (.cells #[.int .u8 7,.string ⟨#[]⟩,.slice none 0 0,.slice (some ⟨W12.heap.size,0,none⟩) 2 2] 28)
 have hbb:Below W13.heap.size W13 (((W13.alloc (.cells #[.int .u8 4,.string ⟨#[]⟩,.slice none 0 0,.slice (some ⟨W4.heap.size,0,none⟩) 2 2] 28)).alloc (.cells #[.int .u8 6,.string ⟨#[]⟩,.slice none 0 0,.slice (some ⟨W7.heap.size,0,none⟩) 2 2] 28)).alloc (.cells #[.int .u8 7,.string ⟨#[]⟩,.slice none 0 0,.slice (some ⟨W12.heap.size,0,none⟩) 2 2] 28)):=(((Below.refl _ W13).alloc (Nat.le_refl _) _).alloc (by simp) _).alloc (by simp; omega) _
 obtain ⟨WB,hWB⟩:∃ WB,WB = (((W13.alloc (.cells #[.int .u8 4,.string ⟨#[]⟩,.slice none 0 0,.slice (some ⟨W4.heap.size,0,none⟩) 2 2] 28)).alloc (.cells #[.int .u8 6,.string ⟨#[]⟩,.slice none 0 0,.slice (some ⟨W7.heap.size,0,none⟩) 2 2] 28)).alloc (.cells #[.int .u8 7,.string ⟨#[]⟩,.slice none 0 0,.slice (some ⟨W12.heap.size,0,none⟩) 2 2] 28)):=⟨_,rfl⟩
 rw [<- hWB] at hn3 hbb ⊢
 clear hWB
 have F18:=hid (F18.out.up hbb)
 have F22:=hid (F22.out.up hbb)
 have F29:=hid (F29.out.up hbb)
 have HB:=hid (HB.out.trans (hbb.mono HB.out.size))
 have B1:=hid hn3.1
 have B2:=hid hn3.2.1
 have B3:=hid hn3.2.2
 clear hn3 hbb
 go_at_call 22
 with_reducible refine (v_call _ _).mono ?_
 rintro e WC ⟨rfl,hC⟩
 go_wp2_with (fail)
 go_at_call 22
 with_reducible refine (v_call _ _).mono ?_
 rintro e WD ⟨rfl,hD⟩
 go_upto_region 3 with (fail)
 have hwd:Below WB.heap.size WB WD:=hC.trans (hD.mono hC.size)
 have hn2:=HK.blk_new (WD.alloc (.cells #[.bool true,.string ⟨#[120]⟩,.slice none 0 0,.bool true,.string ⟨#[63,116]⟩,.slice none 0 0] 36)) (.cells #[.int .u8 16,.string ⟨#[63,65]⟩,.slice (some ⟨WD.heap.size,0,none⟩) 2 2,.slice none 0 0] 28)
 have hts:=(ts_two9 (W:=WD) (lo:=w.heap.size) ⟨#[120]⟩ ⟨#[63,116]⟩ (by decide) (by decide) (by have:=HB.out.size; have:=hwd.size; omega)).up (bl_al9 (.cells #[.int .u8 16,.string ⟨#[63,65]⟩,.slice (some ⟨WD.heap.size,0,none⟩) 2 2,.slice none 0 0] 28))
 have hbe:Below WB.heap.size WB ((WD.alloc (.cells #[.bool true,.string ⟨#[120]⟩,.slice none 0 0,.bool true,.string ⟨#[63,116]⟩,.slice none 0 0] 36)).alloc (.cells #[.int .u8 16,.string ⟨#[63,65]⟩,.slice (some ⟨WD.heap.size,0,none⟩) 2 2,.slice none 0 0] 28)):=(hwd.alloc hwd.size _).alloc (by simp; have:=hwd.size; omega) _
 obtain ⟨w5,hw5⟩:∃ w5,w5 = ((WD.alloc (.cells #[.bool true,.string ⟨#[120]⟩,.slice none 0 0,.bool true,.string ⟨#[63,116]⟩,.slice none 0 0] 36)).alloc (.cells #[.int .u8 16,.string ⟨#[63,65]⟩,.slice (some ⟨WD.heap.size,0,none⟩) 2 2,.slice none 0 0] 28)):=⟨_,rfl⟩
 rw [<- hw5] at hn2 hts hbe ⊢
 rw [World.size_alloc] at hn2
 clear hw5 hC hD
 have hfi:FmV w5 w.heap.size (.mk 16 ⟨#[63,65]⟩ [Va ⟨#[120]⟩,Va ⟨#[63,116]⟩] []) (.agg #[.int .u8 16,.string ⟨#[63,65]⟩,.slice (some ⟨WD.heap.size,0,none⟩) 2 2,.slice none 0 0]):=by
  obtain ⟨⟨sa,sn,sc⟩,he,h1⟩:=hts
  cases he
  exact ⟨⟨_,_,_⟩,⟨none,0,0⟩,rfl,h1,.nil _ _,by show (16:Nat) < 256; decide,by show (2:Nat) <= _; decide⟩
 have F18:=hid (F18.out.up hbe)
 have F22:=hid (F22.out.up hbe)
 have F29:=hid (F29.out.up hbe)
 have F33:=hid hfi
 have B1:=hid ((hbe.block _ (HK.blk_lt B1.out)).trans B1.out)
 have B2:=hid ((hbe.block _ (HK.blk_lt B2.out)).trans B2.out)
 have B3:=hid ((hbe.block _ (HK.blk_lt B3.out)).trans B3.out)
 have B4:=hid hn2
 have HB:=hid (HB.out.trans (hbe.mono HB.out.size))
 clear hn2 hts hbe hfi hwd
 have HM1:Hid (∀ W v,Below w5.heap.size w5 W -> FmV W w.heap.size awg40 v -> Calls Tryz.prog 23 #[.string ⟨#[80,32,38,32,81,32,38,32,82,32,124,32,83,32,45,62,32,84,32,45,62,32,85,49]⟩,v] W fun e W' => e = .returned (.bool true) /\ Below W.heap.size W W'):=hid fun W v hB hv => by
  have hb:=HB.out.trans (hB.mono HB.out.size)
  exact means_call W w.heap.size awT1 (by decide) (HG.out.below hb) (HV.out.turn (hb.block 0 HV.out.pos)) (HR.out.turn (hb.block 1 HR.out.pos)) awR1 awS1 hv
 have HM2:Hid (∀ W v,Below w5.heap.size w5 W -> FmV W w.heap.size awg51 v -> Calls Tryz.prog 23 #[.string ⟨#[97,108,108,32,120,32,80,40,120,41,32,38,32,81]⟩,v] W fun e W' => e = .returned (.bool true) /\ Below W.heap.size W W'):=hid fun W v hB hv => by
  have hb:=HB.out.trans (hB.mono HB.out.size)
  exact means_call W w.heap.size awT2 (by decide) (HG.out.below hb) (HV.out.turn (hb.block 0 HV.out.pos)) (HR.out.turn (hb.block 1 HR.out.pos)) awR2 awS2 hv
 have HM3:Hid (∀ W v,Below w5.heap.size w5 W -> FmV W w.heap.size awg66 v -> Calls Tryz.prog 23 #[.string ⟨#[126,91,93,80,32,117,110,116,105,108,32,81,32,117,110,116,105,108,32,82]⟩,v] W fun e W' => e = .returned (.bool true) /\ Below W.heap.size W W'):=hid fun W v hB hv => by
  have hb:=HB.out.trans (hB.mono HB.out.size)
  exact means_call W w.heap.size awT3 (by decide) (HG.out.below hb) (HV.out.turn (hb.block 0 HV.out.pos)) (HR.out.turn (hb.block 1 HR.out.pos)) awR3 awS3 hv
 have HM4:Hid (∀ W v,Below w5.heap.size w5 W -> FmV W w.heap.size awg74 v -> Calls Tryz.prog 23 #[.string ⟨#[80,32,45,62,32,81,32,60,45,62,32,82,32,60,45,62,32,83]⟩,v] W fun e W' => e = .returned (.bool true) /\ Below W.heap.size W W'):=hid fun W v hB hv => by
  have hb:=HB.out.trans (hB.mono HB.out.size)
  exact means_call W w.heap.size awT4 (by decide) (HG.out.below hb) (HV.out.turn (hb.block 0 HV.out.pos)) (HR.out.turn (hb.block 1 HR.out.pos)) awR4 awS4 hv
 have HM5:Hid (∀ W v,Below w5.heap.size w5 W -> FmV W w.heap.size awg84 v -> Calls Tryz.prog 23 #[.string ⟨#[63,65,91,63,116,47,120,93,32,38,32,115,111,109,101,32,120,32,63,65]⟩,v] W fun e W' => e = .returned (.bool true) /\ Below W.heap.size W W'):=hid fun W v hB hv => by
  have hb:=HB.out.trans (hB.mono HB.out.size)
  exact means_call W w.heap.size awT5 (by decide) (HG.out.below hb) (HV.out.turn (hb.block 0 HV.out.pos)) (HR.out.turn (hb.block 1 HR.out.pos)) awR5 awS5 hv
 go_cut [87] from 34 to 87 (fun v wx => v = .bool false /\ Below w5.heap.size w5 wx)
 case first =>
  refine Go.RE.wp_region_eachg [34,35,36,37,38,39,40,41,42,43,44,45,46,47,48,49,50,51,52,53,54,55,56,57,58,59,60,61,62,63,64,65,66,67,68,69,70,71,72,73,74,75,76,77,78,79,80,81,82,83,84,85,86,87] (fun L x W => (Below w5.heap.size w5 W) /\ (L 0 = true -> FmV W w.heap.size awg34 (x 34)) /\ (L 1 = true -> FmV W w.heap.size awg35 (x 35)) /\ (L 2 = true -> FsV W w.heap.size awg36 (x 36)) /\ (L 3 = true -> FmV W w.heap.size awg37 (x 37)) /\ (L 4 = true -> FmV W w.heap.size awg38 (x 38)) /\ (L 5 = true -> FsV W w.heap.size awg39 (x 39)) /\ (L 6 = true -> FmV W w.heap.size awg40 (x 40)) /\ (L 7 = true -> x 41 = .bool true) /\ (L 8 = true -> x 42 = .bool false) /\ (L 9 = true -> x 43 = .bool false) /\ (L 10 = true -> x 44 = .agg #[.bool true,.string ⟨#[120]⟩,.slice none 0 0]) /\ (L 11 = true -> TsV W w.heap.size awg45 (x 45)) /\ (L 12 = true -> FmV W w.heap.size awg46 (x 46)) /\ (L 13 = true -> FsV W w.heap.size awg47 (x 47)) /\ (L 14 = true -> FmV W w.heap.size awg48 (x 48)) /\ (L 15 = true -> FmV W w.heap.size awg49 (x 49)) /\ (L 16 = true -> FsV W w.heap.size awg50 (x 50)) /\ (L 17 = true -> FmV W w.heap.size awg51 (x 51)) /\ (L 18 = true -> x 52 = .bool true) /\ (L 19 = true -> x 53 = .bool false) /\ (L 20 = true -> x 54 = .bool false) /\ (L 21 = true -> x 55 = .bool false) /\ (L 22 = true -> FmV W w.heap.size awg56 (x 56)) /\ (L 23 = true -> FsV W w.heap.size awg57 (x 57)) /\ (L 24 = true -> FmV W w.heap.size awg58 (x 58)) /\ (L 25 = true -> FsV W w.heap.size awg59 (x 59)) /\ (L 26 = true -> FmV W w.heap.size awg60 (x 60)) /\ (L 27 = true -> FmV W w.heap.size awg61 (x 61)) /\ (L 28 = true -> FmV W w.heap.size awg62 (x 62)) /\ (L 29 = true -> FsV W w.heap.size awg63 (x 63)) /\ (L 30 = true -> FmV W w.heap.size awg64 (x 64)) /\ (L 31 = true -> FsV W w.heap.size awg65 (x 65)) /\ (L 32 = true -> FmV W w.heap.size awg66 (x 66)) /\ (L 33 = true -> x 67 = .bool true) /\ (L 34 = true -> x 68 = .bool false) /\ (L 35 = true -> x 69 = .bool false) /\ (L 36 = true -> x 70 = .bool false) /\ (L 37 = true -> FmV W w.heap.size awg71 (x 71)) /\ (L 38 = true -> FmV W w.heap.size awg72 (x 72)) /\ (L 39 = true -> FsV W w.heap.size awg73 (x 73)) /\ (L 40 = true -> FmV W w.heap.size awg74 (x 74)) /\ (L 41 = true -> x 75 = .bool true) /\ (L 42 = true -> x 76 = .bool false) /\ (L 43 = true -> x 77 = .bool false) /\ (L 44 = true -> x 78 = .bool false) /\ (L 45 = true -> FmV W w.heap.size awg79 (x 79)) /\ (L 46 = true -> FmV W w.heap.size awg80 (x 80)) /\ (L 47 = true -> FsV W w.heap.size awg81 (x 81)) /\ (L 48 = true -> FmV W w.heap.size awg82 (x 82)) /\ (L 49 = true -> FsV W w.heap.size awg83 (x 83)) /\ (L 50 = true -> FmV W w.heap.size awg84 (x 84)) /\ (L 51 = true -> x 85 = .bool true) /\ (L 52 = true -> x 86 = .bool false) /\ (L 53 = true -> x 87 = .bool false)) (by kernel_rfl) (by kernel_rfl) (by kernel_rfl) ?_ ((Go.RE.Each.cons ?_ (Go.RE.Each.cons ?_ (Go.RE.Each.cons ?_ (Go.RE.Each.cons ?_ (Go.RE.Each.cons ?_ (Go.RE.Each.cons ?_ (Go.RE.Each.cons ?_ (Go.RE.Each.cons ?_ (Go.RE.Each.cons ?_ (Go.RE.Each.cons ?_ (Go.RE.Each.cons ?_ (Go.RE.Each.cons ?_ (Go.RE.Each.cons ?_ (Go.RE.Each.cons ?_ (Go.RE.Each.cons ?_ (Go.RE.Each.cons ?_ (Go.RE.Each.cons ?_ (Go.RE.Each.cons ?_ (Go.RE.Each.cons ?_ (Go.RE.Each.cons ?_ (Go.RE.Each.cons ?_ (Go.RE.Each.cons ?_ (Go.RE.Each.cons ?_ (Go.RE.Each.cons ?_ (Go.RE.Each.cons ?_ (Go.RE.Each.cons ?_ (Go.RE.Each.cons ?_ (Go.RE.Each.cons ?_ (Go.RE.Each.cons ?_ (Go.RE.Each.cons ?_ (Go.RE.Each.cons ?_ (Go.RE.Each.cons ?_ (Go.RE.Each.cons ?_ (Go.RE.Each.cons ?_ (Go.RE.Each.cons ?_ (Go.RE.Each.cons ?_ (Go.RE.Each.cons ?_ (Go.RE.Each.cons ?_ (Go.RE.Each.cons ?_ (Go.RE.Each.cons ?_ (Go.RE.Each.cons ?_ (Go.RE.Each.cons ?_ (Go.RE.Each.cons ?_ (Go.RE.Each.cons ?_ (Go.RE.Each.cons ?_ (Go.RE.Each.cons ?_ (Go.RE.Each.cons ?_ (Go.RE.Each.cons ?_ (Go.RE.Each.cons ?_ (Go.RE.Each.cons ?_ (Go.RE.Each.cons ?_ (Go.RE.Each.cons ?_ (Go.RE.Each.cons ?_ (Go.RE.Each.cons ?_ Go.RE.Each.nil))))))))))))))))))))))))))))))))))))))))))))))))))))))) ?_
  ·exact fun x => ⟨bl_dr9 (Below.refl _ _),nofun,nofun,nofun,nofun,nofun,nofun,nofun,nofun,nofun,nofun,nofun,nofun,nofun,nofun,nofun,nofun,nofun,nofun,nofun,nofun,nofun,nofun,nofun,nofun,nofun,nofun,nofun,nofun,nofun,nofun,nofun,nofun,nofun,nofun,nofun,nofun,nofun,nofun,nofun,nofun,nofun,nofun,nofun,nofun,nofun,nofun,nofun,nofun,nofun,nofun,nofun,nofun,nofun,nofun⟩
  ·intro L x a wR K hL hd hf hx hΦ hK
   obtain ⟨hI,f0,f1,f2,f3,f4,f5,f6,f7,f8,f9,f10,f11,f12,f13,f14,f15,f16,f17,f18,f19,f20,f21,f22,f23,f24,f25,f26,f27,f28,f29,f30,f31,f32,f33,f34,f35,f36,f37,f38,f39,f40,f41,f42,f43,f44,f45,f46,f47,f48,f49,f50,f51,f52,f53⟩:=hΦ
   refine ⟨fun _ => ?_,fun h => absurd h (by rw [Go.RE.wanted_none rfl]; decide)⟩
   have e1:a.tmps[1]? = some (.pointer (some ⟨W13.heap.size,0,none⟩)):=hf 1 (of_decide_eq_true (by kernel_rfl))
   have hk:=(hI.block _ (HK.blk_lt B1.out)).trans B1.out
   have c0:=HK.blk_cell hk 0
   have c1:=HK.blk_cell hk 1
   have c2:=HK.blk_cell hk 2
   have c3:=HK.blk_cell hk 3
   clear hf hx hd
   go_simp
   refine hK _ _ ?_
   exact ⟨hI,fun _ => F18.out.up hI,f1,f2,f3,f4,f5,f6,f7,f8,f9,f10,f11,f12,f13,f14,f15,f16,f17,f18,f19,f20,f21,f22,f23,f24,f25,f26,f27,f28,f29,f30,f31,f32,f33,f34,f35,f36,f37,f38,f39,f40,f41,f42,f43,f44,f45,f46,f47,f48,f49,f50,f51,f52,f53⟩
  ·intro L x a wR K hL hd hf hx hΦ hK
   obtain ⟨hI,f0,f1,f2,f3,f4,f5,f6,f7,f8,f9,f10,f11,f12,f13,f14,f15,f16,f17,f18,f19,f20,f21,f22,f23,f24,f25,f26,f27,f28,f29,f30,f31,f32,f33,f34,f35,f36,f37,f38,f39,f40,f41,f42,f43,f44,f45,f46,f47,f48,f49,f50,f51,f52,f53⟩:=hΦ
   refine ⟨fun _ => ?_,fun h => absurd h (by rw [Go.RE.wanted_none rfl]; decide)⟩
   clear hf hx hd
   go_simp
   go_at_call 21
   with_reducible refine (p0 _ w.heap.size ⟨#[83]⟩ (by decide)).mono ?_
   rintro e w' ⟨rfl,hB8,hf8⟩
   simp only
   refine hK _ _ ?_
   exact ⟨hI.trans (hB8.mono hI.size),fun h=>(f0 h).up hB8,fun _ => hf8,fun h=>(f2 h).up hB8,fun h=>(f3 h).up hB8,fun h=>(f4 h).up hB8,fun h=>(f5 h).up hB8,fun h=>(f6 h).up hB8,f7,f8,f9,f10,fun h=>(f11 h).up hB8,fun h=>(f12 h).up hB8,fun h=>(f13 h).up hB8,fun h=>(f14 h).up hB8,fun h=>(f15 h).up hB8,fun h=>(f16 h).up hB8,fun h=>(f17 h).up hB8,f18,f19,f20,f21,fun h=>(f22 h).up hB8,fun h=>(f23 h).up hB8,fun h=>(f24 h).up hB8,fun h=>(f25 h).up hB8,fun h=>(f26 h).up hB8,fun h=>(f27 h).up hB8,fun h=>(f28 h).up hB8,fun h=>(f29 h).up hB8,fun h=>(f30 h).up hB8,fun h=>(f31 h).up hB8,fun h=>(f32 h).up hB8,f33,f34,f35,f36,fun h=>(f37 h).up hB8,fun h=>(f38 h).up hB8,fun h=>(f39 h).up hB8,fun h=>(f40 h).up hB8,f41,f42,f43,f44,fun h=>(f45 h).up hB8,fun h=>(f46 h).up hB8,fun h=>(f47 h).up hB8,fun h=>(f48 h).up hB8,fun h=>(f49 h).up hB8,fun h=>(f50 h).up hB8,f51,f52,f53⟩
  ·intro L x a wR K hL hd hf hx hΦ hK
   obtain ⟨hI,f0,f1,f2,f3,f4,f5,f6,f7,f8,f9,f10,f11,f12,f13,f14,f15,f16,f17,f18,f19,f20,f21,f22,f23,f24,f25,f26,f27,f28,f29,f30,f31,f32,f33,f34,f35,f36,f37,f38,f39,f40,f41,f42,f43,f44,f45,f46,f47,f48,f49,f50,f51,f52,f53⟩:=hΦ
   refine ⟨fun _ => ?_,fun h => absurd h (by rw [Go.RE.wanted_none rfl]; decide)⟩
   have d0:=f0 (hd 0 (by kernel_rfl))
   have e34:a.tmps[34]? = some (x 34):=hx 0 _ 34 rfl rfl (hd 0 (by kernel_rfl))
   have d1:=f1 (hd 1 (by kernel_rfl))
   have e35:a.tmps[35]? = some (x 35):=hx 1 _ 35 rfl rfl (hd 1 (by kernel_rfl))
   obtain ⟨o34,n34,a34,an34,ac34,b34,bn34,bc34,hx34,hv34⟩:=d0.fx
   rw [hx34] at e34
   obtain ⟨o35,n35,a35,an35,ac35,b35,bn35,bc35,hx35,hv35⟩:=d1.fx
   rw [hx35] at e35
   have hlo:w.heap.size <= wR.heap.size:=Nat.le_trans HB.out.size hI.size
   clear hf hx hd
   go_simp
   refine hK _ _ ?_
   exact ⟨hI.trans ((bl_al9 _).mono hI.size),fun h=>(f0 h).up (bl_al9 _),fun h=>(f1 h).up (bl_al9 _),fun _ => fs_two hv34 hv35 hlo,fun h=>(f3 h).up (bl_al9 _),fun h=>(f4 h).up (bl_al9 _),fun h=>(f5 h).up (bl_al9 _),fun h=>(f6 h).up (bl_al9 _),f7,f8,f9,f10,fun h=>(f11 h).up (bl_al9 _),fun h=>(f12 h).up (bl_al9 _),fun h=>(f13 h).up (bl_al9 _),fun h=>(f14 h).up (bl_al9 _),fun h=>(f15 h).up (bl_al9 _),fun h=>(f16 h).up (bl_al9 _),fun h=>(f17 h).up (bl_al9 _),f18,f19,f20,f21,fun h=>(f22 h).up (bl_al9 _),fun h=>(f23 h).up (bl_al9 _),fun h=>(f24 h).up (bl_al9 _),fun h=>(f25 h).up (bl_al9 _),fun h=>(f26 h).up (bl_al9 _),fun h=>(f27 h).up (bl_al9 _),fun h=>(f28 h).up (bl_al9 _),fun h=>(f29 h).up (bl_al9 _),fun h=>(f30 h).up (bl_al9 _),fun h=>(f31 h).up (bl_al9 _),fun h=>(f32 h).up (bl_al9 _),f33,f34,f35,f36,fun h=>(f37 h).up (bl_al9 _),fun h=>(f38 h).up (bl_al9 _),fun h=>(f39 h).up (bl_al9 _),fun h=>(f40 h).up (bl_al9 _),f41,f42,f43,f44,fun h=>(f45 h).up (bl_al9 _),fun h=>(f46 h).up (bl_al9 _),fun h=>(f47 h).up (bl_al9 _),fun h=>(f48 h).up (bl_al9 _),fun h=>(f49 h).up (bl_al9 _),fun h=>(f50 h).up (bl_al9 _),f51,f52,f53⟩
  ·intro L x a wR K hL hd hf hx hΦ hK
   obtain ⟨hI,f0,f1,f2,f3,f4,f5,f6,f7,f8,f9,f10,f11,f12,f13,f14,f15,f16,f17,f18,f19,f20,f21,f22,f23,f24,f25,f26,f27,f28,f29,f30,f31,f32,f33,f34,f35,f36,f37,f38,f39,f40,f41,f42,f43,f44,f45,f46,f47,f48,f49,f50,f51,f52,f53⟩:=hΦ
   refine ⟨fun _ => ?_,fun h => absurd h (by rw [Go.RE.wanted_none rfl]; decide)⟩
   have d2:=f2 (hd 2 (by kernel_rfl))
   have e36:a.tmps[36]? = some (x 36):=hx 2 _ 36 rfl rfl (hd 2 (by kernel_rfl))
   obtain ⟨⟨a36,an36,ac36⟩,hx36,hs36⟩:=d2
   simp only [SL.v] at hx36
   rw [hx36] at e36
   have hS36:FsV wR w.heap.size awg36 (.slice a36 an36 ac36):=⟨⟨a36,an36,ac36⟩,rfl,hs36⟩
   clear hf hx hd
   go_simp
   go_at_call 20
   with_reducible refine (of5 _ w.heap.size _ _ _ _ hS36).mono ?_
   rintro e w' ⟨rfl,hB8,hf8⟩
   simp only
   refine hK _ _ ?_
   exact ⟨hI.trans (hB8.mono hI.size),fun h=>(f0 h).up hB8,fun h=>(f1 h).up hB8,fun h=>(f2 h).up hB8,fun _ => hf8,fun h=>(f4 h).up hB8,fun h=>(f5 h).up hB8,fun h=>(f6 h).up hB8,f7,f8,f9,f10,fun h=>(f11 h).up hB8,fun h=>(f12 h).up hB8,fun h=>(f13 h).up hB8,fun h=>(f14 h).up hB8,fun h=>(f15 h).up hB8,fun h=>(f16 h).up hB8,fun h=>(f17 h).up hB8,f18,f19,f20,f21,fun h=>(f22 h).up hB8,fun h=>(f23 h).up hB8,fun h=>(f24 h).up hB8,fun h=>(f25 h).up hB8,fun h=>(f26 h).up hB8,fun h=>(f27 h).up hB8,fun h=>(f28 h).up hB8,fun h=>(f29 h).up hB8,fun h=>(f30 h).up hB8,fun h=>(f31 h).up hB8,fun h=>(f32 h).up hB8,f33,f34,f35,f36,fun h=>(f37 h).up hB8,fun h=>(f38 h).up hB8,fun h=>(f39 h).up hB8,fun h=>(f40 h).up hB8,f41,f42,f43,f44,fun h=>(f45 h).up hB8,fun h=>(f46 h).up hB8,fun h=>(f47 h).up hB8,fun h=>(f48 h).up hB8,fun h=>(f49 h).up hB8,fun h=>(f50 h).up hB8,f51,f52,f53⟩
  ·intro L x a wR K hL hd hf hx hΦ hK
   obtain ⟨hI,f0,f1,f2,f3,f4,f5,f6,f7,f8,f9,f10,f11,f12,f13,f14,f15,f16,f17,f18,f19,f20,f21,f22,f23,f24,f25,f26,f27,f28,f29,f30,f31,f32,f33,f34,f35,f36,f37,f38,f39,f40,f41,f42,f43,f44,f45,f46,f47,f48,f49,f50,f51,f52,f53⟩:=hΦ
   refine ⟨fun _ => ?_,fun h => absurd h (by rw [Go.RE.wanted_none rfl]; decide)⟩
   have e2:a.tmps[2]? = some (.pointer (some ⟨W13.heap.size + 1,0,none⟩)):=hf 2 (of_decide_eq_true (by kernel_rfl))
   have hk:=(hI.block _ (HK.blk_lt B2.out)).trans B2.out
   have c0:=HK.blk_cell hk 0
   have c1:=HK.blk_cell hk 1
   have c2:=HK.blk_cell hk 2
   have c3:=HK.blk_cell hk 3
   clear hf hx hd
   go_simp
   refine hK _ _ ?_
   exact ⟨hI,f0,f1,f2,f3,fun _ => F22.out.up hI,f5,f6,f7,f8,f9,f10,f11,f12,f13,f14,f15,f16,f17,f18,f19,f20,f21,f22,f23,f24,f25,f26,f27,f28,f29,f30,f31,f32,f33,f34,f35,f36,f37,f38,f39,f40,f41,f42,f43,f44,f45,f46,f47,f48,f49,f50,f51,f52,f53⟩
  ·intro L x a wR K hL hd hf hx hΦ hK
   obtain ⟨hI,f0,f1,f2,f3,f4,f5,f6,f7,f8,f9,f10,f11,f12,f13,f14,f15,f16,f17,f18,f19,f20,f21,f22,f23,f24,f25,f26,f27,f28,f29,f30,f31,f32,f33,f34,f35,f36,f37,f38,f39,f40,f41,f42,f43,f44,f45,f46,f47,f48,f49,f50,f51,f52,f53⟩:=hΦ
   refine ⟨fun _ => ?_,fun h => absurd h (by rw [Go.RE.wanted_none rfl]; decide)⟩
   have d3:=f3 (hd 3 (by kernel_rfl))
   have e37:a.tmps[37]? = some (x 37):=hx 3 _ 37 rfl rfl (hd 3 (by kernel_rfl))
   have d4:=f4 (hd 4 (by kernel_rfl))
   have e38:a.tmps[38]? = some (x 38):=hx 4 _ 38 rfl rfl (hd 4 (by kernel_rfl))
   obtain ⟨o37,n37,a37,an37,ac37,b37,bn37,bc37,hx37,hv37⟩:=d3.fx
   rw [hx37] at e37
   obtain ⟨o38,n38,a38,an38,ac38,b38,bn38,bc38,hx38,hv38⟩:=d4.fx
   rw [hx38] at e38
   have hlo:w.heap.size <= wR.heap.size:=Nat.le_trans HB.out.size hI.size
   clear hf hx hd
   go_simp
   refine hK _ _ ?_
   exact ⟨hI.trans ((bl_al9 _).mono hI.size),fun h=>(f0 h).up (bl_al9 _),fun h=>(f1 h).up (bl_al9 _),fun h=>(f2 h).up (bl_al9 _),fun h=>(f3 h).up (bl_al9 _),fun h=>(f4 h).up (bl_al9 _),fun _ => fs_two hv37 hv38 hlo,fun h=>(f6 h).up (bl_al9 _),f7,f8,f9,f10,fun h=>(f11 h).up (bl_al9 _),fun h=>(f12 h).up (bl_al9 _),fun h=>(f13 h).up (bl_al9 _),fun h=>(f14 h).up (bl_al9 _),fun h=>(f15 h).up (bl_al9 _),fun h=>(f16 h).up (bl_al9 _),fun h=>(f17 h).up (bl_al9 _),f18,f19,f20,f21,fun h=>(f22 h).up (bl_al9 _),fun h=>(f23 h).up (bl_al9 _),fun h=>(f24 h).up (bl_al9 _),fun h=>(f25 h).up (bl_al9 _),fun h=>(f26 h).up (bl_al9 _),fun h=>(f27 h).up (bl_al9 _),fun h=>(f28 h).up (bl_al9 _),fun h=>(f29 h).up (bl_al9 _),fun h=>(f30 h).up (bl_al9 _),fun h=>(f31 h).up (bl_al9 _),fun h=>(f32 h).up (bl_al9 _),f33,f34,f35,f36,fun h=>(f37 h).up (bl_al9 _),fun h=>(f38 h).up (bl_al9 _),fun h=>(f39 h).up (bl_al9 _),fun h=>(f40 h).up (bl_al9 _),f41,f42,f43,f44,fun h=>(f45 h).up (bl_al9 _),fun h=>(f46 h).up (bl_al9 _),fun h=>(f47 h).up (bl_al9 _),fun h=>(f48 h).up (bl_al9 _),fun h=>(f49 h).up (bl_al9 _),fun h=>(f50 h).up (bl_al9 _),f51,f52,f53⟩
  ·intro L x a wR K hL hd hf hx hΦ hK
   obtain ⟨hI,f0,f1,f2,f3,f4,f5,f6,f7,f8,f9,f10,f11,f12,f13,f14,f15,f16,f17,f18,f19,f20,f21,f22,f23,f24,f25,f26,f27,f28,f29,f30,f31,f32,f33,f34,f35,f36,f37,f38,f39,f40,f41,f42,f43,f44,f45,f46,f47,f48,f49,f50,f51,f52,f53⟩:=hΦ
   refine ⟨fun _ => ?_,fun h => absurd h (by rw [Go.RE.wanted_none rfl]; decide)⟩
   have d5:=f5 (hd 5 (by kernel_rfl))
   have e39:a.tmps[39]? = some (x 39):=hx 5 _ 39 rfl rfl (hd 5 (by kernel_rfl))
   obtain ⟨⟨a39,an39,ac39⟩,hx39,hs39⟩:=d5
   simp only [SL.v] at hx39
   rw [hx39] at e39
   have hS39:FsV wR w.heap.size awg39 (.slice a39 an39 ac39):=⟨⟨a39,an39,ac39⟩,rfl,hs39⟩
   clear hf hx hd
   go_simp
   go_at_call 20
   with_reducible refine (of6 _ w.heap.size _ _ _ _ hS39).mono ?_
   rintro e w' ⟨rfl,hB8,hf8⟩
   simp only
   refine hK _ _ ?_
   exact ⟨hI.trans (hB8.mono hI.size),fun h=>(f0 h).up hB8,fun h=>(f1 h).up hB8,fun h=>(f2 h).up hB8,fun h=>(f3 h).up hB8,fun h=>(f4 h).up hB8,fun h=>(f5 h).up hB8,fun _ => hf8,f7,f8,f9,f10,fun h=>(f11 h).up hB8,fun h=>(f12 h).up hB8,fun h=>(f13 h).up hB8,fun h=>(f14 h).up hB8,fun h=>(f15 h).up hB8,fun h=>(f16 h).up hB8,fun h=>(f17 h).up hB8,f18,f19,f20,f21,fun h=>(f22 h).up hB8,fun h=>(f23 h).up hB8,fun h=>(f24 h).up hB8,fun h=>(f25 h).up hB8,fun h=>(f26 h).up hB8,fun h=>(f27 h).up hB8,fun h=>(f28 h).up hB8,fun h=>(f29 h).up hB8,fun h=>(f30 h).up hB8,fun h=>(f31 h).up hB8,fun h=>(f32 h).up hB8,f33,f34,f35,f36,fun h=>(f37 h).up hB8,fun h=>(f38 h).up hB8,fun h=>(f39 h).up hB8,fun h=>(f40 h).up hB8,f41,f42,f43,f44,fun h=>(f45 h).up hB8,fun h=>(f46 h).up hB8,fun h=>(f47 h).up hB8,fun h=>(f48 h).up hB8,fun h=>(f49 h).up hB8,fun h=>(f50 h).up hB8,f51,f52,f53⟩
  ·intro L x a wR K hL hd hf hx hΦ hK
   obtain ⟨hI,f0,f1,f2,f3,f4,f5,f6,f7,f8,f9,f10,f11,f12,f13,f14,f15,f16,f17,f18,f19,f20,f21,f22,f23,f24,f25,f26,f27,f28,f29,f30,f31,f32,f33,f34,f35,f36,f37,f38,f39,f40,f41,f42,f43,f44,f45,f46,f47,f48,f49,f50,f51,f52,f53⟩:=hΦ
   refine ⟨fun _ => ?_,fun h => absurd h (by rw [Go.RE.wanted_none rfl]; decide)⟩
   have d6:=f6 (hd 6 (by kernel_rfl))
   have e40:a.tmps[40]? = some (x 40):=hx 6 _ 40 rfl rfl (hd 6 (by kernel_rfl))
   obtain ⟨o40,n40,a40,an40,ac40,b40,bn40,bc40,hx40,hv40⟩:=d6.fx
   rw [hx40] at e40
   clear hf hx hd
   go_simp
   go_at_call 23
   with_reducible refine (HM1.out _ _ hI hv40).mono ?_
   rintro e w' ⟨rfl,hB8⟩
   simp only
   refine hK _ _ ?_
   exact ⟨hI.trans (hB8.mono hI.size),fun h=>(f0 h).up hB8,fun h=>(f1 h).up hB8,fun h=>(f2 h).up hB8,fun h=>(f3 h).up hB8,fun h=>(f4 h).up hB8,fun h=>(f5 h).up hB8,fun h=>(f6 h).up hB8,fun _ => rfl,f8,f9,f10,fun h=>(f11 h).up hB8,fun h=>(f12 h).up hB8,fun h=>(f13 h).up hB8,fun h=>(f14 h).up hB8,fun h=>(f15 h).up hB8,fun h=>(f16 h).up hB8,fun h=>(f17 h).up hB8,f18,f19,f20,f21,fun h=>(f22 h).up hB8,fun h=>(f23 h).up hB8,fun h=>(f24 h).up hB8,fun h=>(f25 h).up hB8,fun h=>(f26 h).up hB8,fun h=>(f27 h).up hB8,fun h=>(f28 h).up hB8,fun h=>(f29 h).up hB8,fun h=>(f30 h).up hB8,fun h=>(f31 h).up hB8,fun h=>(f32 h).up hB8,f33,f34,f35,f36,fun h=>(f37 h).up hB8,fun h=>(f38 h).up hB8,fun h=>(f39 h).up hB8,fun h=>(f40 h).up hB8,f41,f42,f43,f44,fun h=>(f45 h).up hB8,fun h=>(f46 h).up hB8,fun h=>(f47 h).up hB8,fun h=>(f48 h).up hB8,fun h=>(f49 h).up hB8,fun h=>(f50 h).up hB8,f51,f52,f53⟩
  ·intro L x a wR K hL hd hf hx hΦ hK
   obtain ⟨hI,f0,f1,f2,f3,f4,f5,f6,f7,f8,f9,f10,f11,f12,f13,f14,f15,f16,f17,f18,f19,f20,f21,f22,f23,f24,f25,f26,f27,f28,f29,f30,f31,f32,f33,f34,f35,f36,f37,f38,f39,f40,f41,f42,f43,f44,f45,f46,f47,f48,f49,f50,f51,f52,f53⟩:=hΦ
   refine ⟨fun _ => ?_,fun h => absurd h (by rw [Go.RE.wanted_none rfl]; decide)⟩
   have d7:=f7 (hd 7 (by kernel_rfl))
   have e41:a.tmps[41]? = some (x 41):=hx 7 _ 41 rfl rfl (hd 7 (by kernel_rfl))
   rw [d7] at e41
   clear hf hx hd
   go_simp
   refine hK _ _ ?_
   exact ⟨hI,f0,f1,f2,f3,f4,f5,f6,f7,fun _ => rfl,f9,f10,f11,f12,f13,f14,f15,f16,f17,f18,f19,f20,f21,f22,f23,f24,f25,f26,f27,f28,f29,f30,f31,f32,f33,f34,f35,f36,f37,f38,f39,f40,f41,f42,f43,f44,f45,f46,f47,f48,f49,f50,f51,f52,f53⟩
  ·intro L x a wR K hL hd hf hx hΦ hK
   obtain ⟨hI,f0,f1,f2,f3,f4,f5,f6,f7,f8,f9,f10,f11,f12,f13,f14,f15,f16,f17,f18,f19,f20,f21,f22,f23,f24,f25,f26,f27,f28,f29,f30,f31,f32,f33,f34,f35,f36,f37,f38,f39,f40,f41,f42,f43,f44,f45,f46,f47,f48,f49,f50,f51,f52,f53⟩:=hΦ
   refine ⟨fun _ => ?_,fun h => absurd h (by rw [Go.RE.wanted_none rfl]; decide)⟩
   have d8:=f8 (hd 8 (by kernel_rfl))
   have e42:a.tmps[42]? = some (x 42):=hx 8 _ 42 rfl rfl (hd 8 (by kernel_rfl))
   rw [d8] at e42
   clear hf hx hd
   go_simp
   refine hK _ _ ?_
   exact ⟨hI,f0,f1,f2,f3,f4,f5,f6,f7,f8,fun _ => rfl,f10,f11,f12,f13,f14,f15,f16,f17,f18,f19,f20,f21,f22,f23,f24,f25,f26,f27,f28,f29,f30,f31,f32,f33,f34,f35,f36,f37,f38,f39,f40,f41,f42,f43,f44,f45,f46,f47,f48,f49,f50,f51,f52,f53⟩
  ·intro L x a wR K hL hd hf hx hΦ hK
   obtain ⟨hI,f0,f1,f2,f3,f4,f5,f6,f7,f8,f9,f10,f11,f12,f13,f14,f15,f16,f17,f18,f19,f20,f21,f22,f23,f24,f25,f26,f27,f28,f29,f30,f31,f32,f33,f34,f35,f36,f37,f38,f39,f40,f41,f42,f43,f44,f45,f46,f47,f48,f49,f50,f51,f52,f53⟩:=hΦ
   have g9:=f9 (hd 9 (by kernel_rfl))
   have ge:a.tmps[43]? = some (x 43):=hx 9 _ 43 rfl rfl (hd 9 (by kernel_rfl))
   rw [g9] at ge
   refine ⟨fun _ => ?_,fun h => absurd h (by rw [Go.RE.wanted_of rfl (Go.RE.yielded_of rfl rfl ge)]; decide)⟩
   clear hf hx hd
   go_simp
   go_at_call 22
   with_reducible refine (v_call _ _).mono ?_
   rintro e w' ⟨rfl,hB8⟩
   simp only
   refine hK _ _ ?_
   exact ⟨hI.trans (hB8.mono hI.size),fun h=>(f0 h).up hB8,fun h=>(f1 h).up hB8,fun h=>(f2 h).up hB8,fun h=>(f3 h).up hB8,fun h=>(f4 h).up hB8,fun h=>(f5 h).up hB8,fun h=>(f6 h).up hB8,f7,f8,f9,fun _ => rfl,fun h=>(f11 h).up hB8,fun h=>(f12 h).up hB8,fun h=>(f13 h).up hB8,fun h=>(f14 h).up hB8,fun h=>(f15 h).up hB8,fun h=>(f16 h).up hB8,fun h=>(f17 h).up hB8,f18,f19,f20,f21,fun h=>(f22 h).up hB8,fun h=>(f23 h).up hB8,fun h=>(f24 h).up hB8,fun h=>(f25 h).up hB8,fun h=>(f26 h).up hB8,fun h=>(f27 h).up hB8,fun h=>(f28 h).up hB8,fun h=>(f29 h).up hB8,fun h=>(f30 h).up hB8,fun h=>(f31 h).up hB8,fun h=>(f32 h).up hB8,f33,f34,f35,f36,fun h=>(f37 h).up hB8,fun h=>(f38 h).up hB8,fun h=>(f39 h).up hB8,fun h=>(f40 h).up hB8,f41,f42,f43,f44,fun h=>(f45 h).up hB8,fun h=>(f46 h).up hB8,fun h=>(f47 h).up hB8,fun h=>(f48 h).up hB8,fun h=>(f49 h).up hB8,fun h=>(f50 h).up hB8,f51,f52,f53⟩
  ·intro L x a wR K hL hd hf hx hΦ hK
   obtain ⟨hI,f0,f1,f2,f3,f4,f5,f6,f7,f8,f9,f10,f11,f12,f13,f14,f15,f16,f17,f18,f19,f20,f21,f22,f23,f24,f25,f26,f27,f28,f29,f30,f31,f32,f33,f34,f35,f36,f37,f38,f39,f40,f41,f42,f43,f44,f45,f46,f47,f48,f49,f50,f51,f52,f53⟩:=hΦ
   have g9:=f9 (hd 9 (by kernel_rfl))
   have ge:a.tmps[43]? = some (x 43):=hx 9 _ 43 rfl rfl (hd 9 (by kernel_rfl))
   rw [g9] at ge
   refine ⟨fun _ => ?_,fun h => absurd h (by rw [Go.RE.wanted_of rfl (Go.RE.yielded_of rfl rfl ge)]; decide)⟩
   have d10:=f10 (hd 10 (by kernel_rfl))
   have e44:a.tmps[44]? = some (x 44):=hx 10 _ 44 rfl rfl (hd 10 (by kernel_rfl))
   rw [d10] at e44
   have hlo:w.heap.size <= wR.heap.size:=Nat.le_trans HB.out.size hI.size
   clear hf hx hd
   go_simp
   refine hK _ _ ?_
   exact ⟨hI.trans ((bl_al9 _).mono hI.size),fun h=>(f0 h).up (bl_al9 _),fun h=>(f1 h).up (bl_al9 _),fun h=>(f2 h).up (bl_al9 _),fun h=>(f3 h).up (bl_al9 _),fun h=>(f4 h).up (bl_al9 _),fun h=>(f5 h).up (bl_al9 _),fun h=>(f6 h).up (bl_al9 _),f7,f8,f9,f10,fun _ => ts_one9 ⟨#[120]⟩ (by decide) hlo,fun h=>(f12 h).up (bl_al9 _),fun h=>(f13 h).up (bl_al9 _),fun h=>(f14 h).up (bl_al9 _),fun h=>(f15 h).up (bl_al9 _),fun h=>(f16 h).up (bl_al9 _),fun h=>(f17 h).up (bl_al9 _),f18,f19,f20,f21,fun h=>(f22 h).up (bl_al9 _),fun h=>(f23 h).up (bl_al9 _),fun h=>(f24 h).up (bl_al9 _),fun h=>(f25 h).up (bl_al9 _),fun h=>(f26 h).up (bl_al9 _),fun h=>(f27 h).up (bl_al9 _),fun h=>(f28 h).up (bl_al9 _),fun h=>(f29 h).up (bl_al9 _),fun h=>(f30 h).up (bl_al9 _),fun h=>(f31 h).up (bl_al9 _),fun h=>(f32 h).up (bl_al9 _),f33,f34,f35,f36,fun h=>(f37 h).up (bl_al9 _),fun h=>(f38 h).up (bl_al9 _),fun h=>(f39 h).up (bl_al9 _),fun h=>(f40 h).up (bl_al9 _),f41,f42,f43,f44,fun h=>(f45 h).up (bl_al9 _),fun h=>(f46 h).up (bl_al9 _),fun h=>(f47 h).up (bl_al9 _),fun h=>(f48 h).up (bl_al9 _),fun h=>(f49 h).up (bl_al9 _),fun h=>(f50 h).up (bl_al9 _),f51,f52,f53⟩
  ·intro L x a wR K hL hd hf hx hΦ hK
   obtain ⟨hI,f0,f1,f2,f3,f4,f5,f6,f7,f8,f9,f10,f11,f12,f13,f14,f15,f16,f17,f18,f19,f20,f21,f22,f23,f24,f25,f26,f27,f28,f29,f30,f31,f32,f33,f34,f35,f36,f37,f38,f39,f40,f41,f42,f43,f44,f45,f46,f47,f48,f49,f50,f51,f52,f53⟩:=hΦ
   have g9:=f9 (hd 9 (by kernel_rfl))
   have ge:a.tmps[43]? = some (x 43):=hx 9 _ 43 rfl rfl (hd 9 (by kernel_rfl))
   rw [g9] at ge
   refine ⟨fun _ => ?_,fun h => absurd h (by rw [Go.RE.wanted_of rfl (Go.RE.yielded_of rfl rfl ge)]; decide)⟩
   have d11:=f11 (hd 11 (by kernel_rfl))
   have e45:a.tmps[45]? = some (x 45):=hx 11 _ 45 rfl rfl (hd 11 (by kernel_rfl))
   obtain ⟨⟨a45,an45,ac45⟩,hx45,hs45⟩:=d11
   simp only [SL.v] at hx45
   rw [hx45] at e45
   have hS45:TsV wR w.heap.size awg45 (.slice a45 an45 ac45):=⟨⟨a45,an45,ac45⟩,rfl,hs45⟩
   clear hf hx hd
   go_simp
   go_at_call 21
   with_reducible refine (p_call _ w.heap.size ⟨#[80]⟩ (by decide) _ _ _ _ hS45).mono ?_
   rintro e w' ⟨rfl,hB8,hf8⟩
   simp only
   refine hK _ _ ?_
   exact ⟨hI.trans (hB8.mono hI.size),fun h=>(f0 h).up hB8,fun h=>(f1 h).up hB8,fun h=>(f2 h).up hB8,fun h=>(f3 h).up hB8,fun h=>(f4 h).up hB8,fun h=>(f5 h).up hB8,fun h=>(f6 h).up hB8,f7,f8,f9,f10,fun h=>(f11 h).up hB8,fun _ => hf8,fun h=>(f13 h).up hB8,fun h=>(f14 h).up hB8,fun h=>(f15 h).up hB8,fun h=>(f16 h).up hB8,fun h=>(f17 h).up hB8,f18,f19,f20,f21,fun h=>(f22 h).up hB8,fun h=>(f23 h).up hB8,fun h=>(f24 h).up hB8,fun h=>(f25 h).up hB8,fun h=>(f26 h).up hB8,fun h=>(f27 h).up hB8,fun h=>(f28 h).up hB8,fun h=>(f29 h).up hB8,fun h=>(f30 h).up hB8,fun h=>(f31 h).up hB8,fun h=>(f32 h).up hB8,f33,f34,f35,f36,fun h=>(f37 h).up hB8,fun h=>(f38 h).up hB8,fun h=>(f39 h).up hB8,fun h=>(f40 h).up hB8,f41,f42,f43,f44,fun h=>(f45 h).up hB8,fun h=>(f46 h).up hB8,fun h=>(f47 h).up hB8,fun h=>(f48 h).up hB8,fun h=>(f49 h).up hB8,fun h=>(f50 h).up hB8,f51,f52,f53⟩
  ·intro L x a wR K hL hd hf hx hΦ hK
   obtain ⟨hI,f0,f1,f2,f3,f4,f5,f6,f7,f8,f9,f10,f11,f12,f13,f14,f15,f16,f17,f18,f19,f20,f21,f22,f23,f24,f25,f26,f27,f28,f29,f30,f31,f32,f33,f34,f35,f36,f37,f38,f39,f40,f41,f42,f43,f44,f45,f46,f47,f48,f49,f50,f51,f52,f53⟩:=hΦ
   have g9:=f9 (hd 9 (by kernel_rfl))
   have ge:a.tmps[43]? = some (x 43):=hx 9 _ 43 rfl rfl (hd 9 (by kernel_rfl))
   rw [g9] at ge
   refine ⟨fun _ => ?_,fun h => absurd h (by rw [Go.RE.wanted_of rfl (Go.RE.yielded_of rfl rfl ge)]; decide)⟩
   have d12:=f12 (hd 12 (by kernel_rfl))
   have e46:a.tmps[46]? = some (x 46):=hx 12 _ 46 rfl rfl (hd 12 (by kernel_rfl))
   obtain ⟨o46,n46,a46,an46,ac46,b46,bn46,bc46,hx46,hv46⟩:=d12.fx
   rw [hx46] at e46
   have hlo:w.heap.size <= wR.heap.size:=Nat.le_trans HB.out.size hI.size
   clear hf hx hd
   go_simp
   refine hK _ _ ?_
   exact ⟨hI.trans ((bl_al9 _).mono hI.size),fun h=>(f0 h).up (bl_al9 _),fun h=>(f1 h).up (bl_al9 _),fun h=>(f2 h).up (bl_al9 _),fun h=>(f3 h).up (bl_al9 _),fun h=>(f4 h).up (bl_al9 _),fun h=>(f5 h).up (bl_al9 _),fun h=>(f6 h).up (bl_al9 _),f7,f8,f9,f10,fun h=>(f11 h).up (bl_al9 _),fun h=>(f12 h).up (bl_al9 _),fun _ => fs_one hv46 hlo,fun h=>(f14 h).up (bl_al9 _),fun h=>(f15 h).up (bl_al9 _),fun h=>(f16 h).up (bl_al9 _),fun h=>(f17 h).up (bl_al9 _),f18,f19,f20,f21,fun h=>(f22 h).up (bl_al9 _),fun h=>(f23 h).up (bl_al9 _),fun h=>(f24 h).up (bl_al9 _),fun h=>(f25 h).up (bl_al9 _),fun h=>(f26 h).up (bl_al9 _),fun h=>(f27 h).up (bl_al9 _),fun h=>(f28 h).up (bl_al9 _),fun h=>(f29 h).up (bl_al9 _),fun h=>(f30 h).up (bl_al9 _),fun h=>(f31 h).up (bl_al9 _),fun h=>(f32 h).up (bl_al9 _),f33,f34,f35,f36,fun h=>(f37 h).up (bl_al9 _),fun h=>(f38 h).up (bl_al9 _),fun h=>(f39 h).up (bl_al9 _),fun h=>(f40 h).up (bl_al9 _),f41,f42,f43,f44,fun h=>(f45 h).up (bl_al9 _),fun h=>(f46 h).up (bl_al9 _),fun h=>(f47 h).up (bl_al9 _),fun h=>(f48 h).up (bl_al9 _),fun h=>(f49 h).up (bl_al9 _),fun h=>(f50 h).up (bl_al9 _),f51,f52,f53⟩
  ·intro L x a wR K hL hd hf hx hΦ hK
   obtain ⟨hI,f0,f1,f2,f3,f4,f5,f6,f7,f8,f9,f10,f11,f12,f13,f14,f15,f16,f17,f18,f19,f20,f21,f22,f23,f24,f25,f26,f27,f28,f29,f30,f31,f32,f33,f34,f35,f36,f37,f38,f39,f40,f41,f42,f43,f44,f45,f46,f47,f48,f49,f50,f51,f52,f53⟩:=hΦ
   have g9:=f9 (hd 9 (by kernel_rfl))
   have ge:a.tmps[43]? = some (x 43):=hx 9 _ 43 rfl rfl (hd 9 (by kernel_rfl))
   rw [g9] at ge
   refine ⟨fun _ => ?_,fun h => absurd h (by rw [Go.RE.wanted_of rfl (Go.RE.yielded_of rfl rfl ge)]; decide)⟩
   have d13:=f13 (hd 13 (by kernel_rfl))
   have e47:a.tmps[47]? = some (x 47):=hx 13 _ 47 rfl rfl (hd 13 (by kernel_rfl))
   obtain ⟨⟨a47,an47,ac47⟩,hx47,hs47⟩:=d13
   simp only [SL.v] at hx47
   rw [hx47] at e47
   have hS47:FsV wR w.heap.size awg47 (.slice a47 an47 ac47):=⟨⟨a47,an47,ac47⟩,rfl,hs47⟩
   clear hf hx hd
   go_simp
   go_at_call 20
   with_reducible refine (of8 _ w.heap.size _ _ _ _ hS47).mono ?_
   rintro e w' ⟨rfl,hB8,hf8⟩
   simp only
   refine hK _ _ ?_
   exact ⟨hI.trans (hB8.mono hI.size),fun h=>(f0 h).up hB8,fun h=>(f1 h).up hB8,fun h=>(f2 h).up hB8,fun h=>(f3 h).up hB8,fun h=>(f4 h).up hB8,fun h=>(f5 h).up hB8,fun h=>(f6 h).up hB8,f7,f8,f9,f10,fun h=>(f11 h).up hB8,fun h=>(f12 h).up hB8,fun h=>(f13 h).up hB8,fun _ => hf8,fun h=>(f15 h).up hB8,fun h=>(f16 h).up hB8,fun h=>(f17 h).up hB8,f18,f19,f20,f21,fun h=>(f22 h).up hB8,fun h=>(f23 h).up hB8,fun h=>(f24 h).up hB8,fun h=>(f25 h).up hB8,fun h=>(f26 h).up hB8,fun h=>(f27 h).up hB8,fun h=>(f28 h).up hB8,fun h=>(f29 h).up hB8,fun h=>(f30 h).up hB8,fun h=>(f31 h).up hB8,fun h=>(f32 h).up hB8,f33,f34,f35,f36,fun h=>(f37 h).up hB8,fun h=>(f38 h).up hB8,fun h=>(f39 h).up hB8,fun h=>(f40 h).up hB8,f41,f42,f43,f44,fun h=>(f45 h).up hB8,fun h=>(f46 h).up hB8,fun h=>(f47 h).up hB8,fun h=>(f48 h).up hB8,fun h=>(f49 h).up hB8,fun h=>(f50 h).up hB8,f51,f52,f53⟩
  ·intro L x a wR K hL hd hf hx hΦ hK
   obtain ⟨hI,f0,f1,f2,f3,f4,f5,f6,f7,f8,f9,f10,f11,f12,f13,f14,f15,f16,f17,f18,f19,f20,f21,f22,f23,f24,f25,f26,f27,f28,f29,f30,f31,f32,f33,f34,f35,f36,f37,f38,f39,f40,f41,f42,f43,f44,f45,f46,f47,f48,f49,f50,f51,f52,f53⟩:=hΦ
   have g9:=f9 (hd 9 (by kernel_rfl))
   have ge:a.tmps[43]? = some (x 43):=hx 9 _ 43 rfl rfl (hd 9 (by kernel_rfl))
   rw [g9] at ge
   refine ⟨fun _ => ?_,fun h => absurd h (by rw [Go.RE.wanted_of rfl (Go.RE.yielded_of rfl rfl ge)]; decide)⟩
   clear hf hx hd
   go_simp
   go_at_call 21
   with_reducible refine (p0 _ w.heap.size ⟨#[81]⟩ (by decide)).mono ?_
   rintro e w' ⟨rfl,hB8,hf8⟩
   simp only
   refine hK _ _ ?_
   exact ⟨hI.trans (hB8.mono hI.size),fun h=>(f0 h).up hB8,fun h=>(f1 h).up hB8,fun h=>(f2 h).up hB8,fun h=>(f3 h).up hB8,fun h=>(f4 h).up hB8,fun h=>(f5 h).up hB8,fun h=>(f6 h).up hB8,f7,f8,f9,f10,fun h=>(f11 h).up hB8,fun h=>(f12 h).up hB8,fun h=>(f13 h).up hB8,fun h=>(f14 h).up hB8,fun _ => hf8,fun h=>(f16 h).up hB8,fun h=>(f17 h).up hB8,f18,f19,f20,f21,fun h=>(f22 h).up hB8,fun h=>(f23 h).up hB8,fun h=>(f24 h).up hB8,fun h=>(f25 h).up hB8,fun h=>(f26 h).up hB8,fun h=>(f27 h).up hB8,fun h=>(f28 h).up hB8,fun h=>(f29 h).up hB8,fun h=>(f30 h).up hB8,fun h=>(f31 h).up hB8,fun h=>(f32 h).up hB8,f33,f34,f35,f36,fun h=>(f37 h).up hB8,fun h=>(f38 h).up hB8,fun h=>(f39 h).up hB8,fun h=>(f40 h).up hB8,f41,f42,f43,f44,fun h=>(f45 h).up hB8,fun h=>(f46 h).up hB8,fun h=>(f47 h).up hB8,fun h=>(f48 h).up hB8,fun h=>(f49 h).up hB8,fun h=>(f50 h).up hB8,f51,f52,f53⟩
  ·intro L x a wR K hL hd hf hx hΦ hK
   obtain ⟨hI,f0,f1,f2,f3,f4,f5,f6,f7,f8,f9,f10,f11,f12,f13,f14,f15,f16,f17,f18,f19,f20,f21,f22,f23,f24,f25,f26,f27,f28,f29,f30,f31,f32,f33,f34,f35,f36,f37,f38,f39,f40,f41,f42,f43,f44,f45,f46,f47,f48,f49,f50,f51,f52,f53⟩:=hΦ
   have g9:=f9 (hd 9 (by kernel_rfl))
   have ge:a.tmps[43]? = some (x 43):=hx 9 _ 43 rfl rfl (hd 9 (by kernel_rfl))
   rw [g9] at ge
   refine ⟨fun _ => ?_,fun h => absurd h (by rw [Go.RE.wanted_of rfl (Go.RE.yielded_of rfl rfl ge)]; decide)⟩
   have d14:=f14 (hd 14 (by kernel_rfl))
   have e48:a.tmps[48]? = some (x 48):=hx 14 _ 48 rfl rfl (hd 14 (by kernel_rfl))
   have d15:=f15 (hd 15 (by kernel_rfl))
   have e49:a.tmps[49]? = some (x 49):=hx 15 _ 49 rfl rfl (hd 15 (by kernel_rfl))
   obtain ⟨o48,n48,a48,an48,ac48,b48,bn48,bc48,hx48,hv48⟩:=d14.fx
   rw [hx48] at e48
   obtain ⟨o49,n49,a49,an49,ac49,b49,bn49,bc49,hx49,hv49⟩:=d15.fx
   rw [hx49] at e49
   have hlo:w.heap.size <= wR.heap.size:=Nat.le_trans HB.out.size hI.size
   clear hf hx hd
   go_simp
   refine hK _ _ ?_
   exact ⟨hI.trans ((bl_al9 _).mono hI.size),fun h=>(f0 h).up (bl_al9 _),fun h=>(f1 h).up (bl_al9 _),fun h=>(f2 h).up (bl_al9 _),fun h=>(f3 h).up (bl_al9 _),fun h=>(f4 h).up (bl_al9 _),fun h=>(f5 h).up (bl_al9 _),fun h=>(f6 h).up (bl_al9 _),f7,f8,f9,f10,fun h=>(f11 h).up (bl_al9 _),fun h=>(f12 h).up (bl_al9 _),fun h=>(f13 h).up (bl_al9 _),fun h=>(f14 h).up (bl_al9 _),fun h=>(f15 h).up (bl_al9 _),fun _ => fs_two hv48 hv49 hlo,fun h=>(f17 h).up (bl_al9 _),f18,f19,f20,f21,fun h=>(f22 h).up (bl_al9 _),fun h=>(f23 h).up (bl_al9 _),fun h=>(f24 h).up (bl_al9 _),fun h=>(f25 h).up (bl_al9 _),fun h=>(f26 h).up (bl_al9 _),fun h=>(f27 h).up (bl_al9 _),fun h=>(f28 h).up (bl_al9 _),fun h=>(f29 h).up (bl_al9 _),fun h=>(f30 h).up (bl_al9 _),fun h=>(f31 h).up (bl_al9 _),fun h=>(f32 h).up (bl_al9 _),f33,f34,f35,f36,fun h=>(f37 h).up (bl_al9 _),fun h=>(f38 h).up (bl_al9 _),fun h=>(f39 h).up (bl_al9 _),fun h=>(f40 h).up (bl_al9 _),f41,f42,f43,f44,fun h=>(f45 h).up (bl_al9 _),fun h=>(f46 h).up (bl_al9 _),fun h=>(f47 h).up (bl_al9 _),fun h=>(f48 h).up (bl_al9 _),fun h=>(f49 h).up (bl_al9 _),fun h=>(f50 h).up (bl_al9 _),f51,f52,f53⟩
  ·intro L x a wR K hL hd hf hx hΦ hK
   obtain ⟨hI,f0,f1,f2,f3,f4,f5,f6,f7,f8,f9,f10,f11,f12,f13,f14,f15,f16,f17,f18,f19,f20,f21,f22,f23,f24,f25,f26,f27,f28,f29,f30,f31,f32,f33,f34,f35,f36,f37,f38,f39,f40,f41,f42,f43,f44,f45,f46,f47,f48,f49,f50,f51,f52,f53⟩:=hΦ
   have g9:=f9 (hd 9 (by kernel_rfl))
   have ge:a.tmps[43]? = some (x 43):=hx 9 _ 43 rfl rfl (hd 9 (by kernel_rfl))
   rw [g9] at ge
   refine ⟨fun _ => ?_,fun h => absurd h (by rw [Go.RE.wanted_of rfl (Go.RE.yielded_of rfl rfl ge)]; decide)⟩
   have d16:=f16 (hd 16 (by kernel_rfl))
   have e50:a.tmps[50]? = some (x 50):=hx 16 _ 50 rfl rfl (hd 16 (by kernel_rfl))
   obtain ⟨⟨a50,an50,ac50⟩,hx50,hs50⟩:=d16
   simp only [SL.v] at hx50
   rw [hx50] at e50
   have hS50:FsV wR w.heap.size awg50 (.slice a50 an50 ac50):=⟨⟨a50,an50,ac50⟩,rfl,hs50⟩
   clear hf hx hd
   go_simp
   go_at_call 20
   with_reducible refine (of4 _ w.heap.size _ _ _ _ hS50).mono ?_
   rintro e w' ⟨rfl,hB8,hf8⟩
   simp only
   refine hK _ _ ?_
   exact ⟨hI.trans (hB8.mono hI.size),fun h=>(f0 h).up hB8,fun h=>(f1 h).up hB8,fun h=>(f2 h).up hB8,fun h=>(f3 h).up hB8,fun h=>(f4 h).up hB8,fun h=>(f5 h).up hB8,fun h=>(f6 h).up hB8,f7,f8,f9,f10,fun h=>(f11 h).up hB8,fun h=>(f12 h).up hB8,fun h=>(f13 h).up hB8,fun h=>(f14 h).up hB8,fun h=>(f15 h).up hB8,fun h=>(f16 h).up hB8,fun _ => hf8,f18,f19,f20,f21,fun h=>(f22 h).up hB8,fun h=>(f23 h).up hB8,fun h=>(f24 h).up hB8,fun h=>(f25 h).up hB8,fun h=>(f26 h).up hB8,fun h=>(f27 h).up hB8,fun h=>(f28 h).up hB8,fun h=>(f29 h).up hB8,fun h=>(f30 h).up hB8,fun h=>(f31 h).up hB8,fun h=>(f32 h).up hB8,f33,f34,f35,f36,fun h=>(f37 h).up hB8,fun h=>(f38 h).up hB8,fun h=>(f39 h).up hB8,fun h=>(f40 h).up hB8,f41,f42,f43,f44,fun h=>(f45 h).up hB8,fun h=>(f46 h).up hB8,fun h=>(f47 h).up hB8,fun h=>(f48 h).up hB8,fun h=>(f49 h).up hB8,fun h=>(f50 h).up hB8,f51,f52,f53⟩
  ·intro L x a wR K hL hd hf hx hΦ hK
   obtain ⟨hI,f0,f1,f2,f3,f4,f5,f6,f7,f8,f9,f10,f11,f12,f13,f14,f15,f16,f17,f18,f19,f20,f21,f22,f23,f24,f25,f26,f27,f28,f29,f30,f31,f32,f33,f34,f35,f36,f37,f38,f39,f40,f41,f42,f43,f44,f45,f46,f47,f48,f49,f50,f51,f52,f53⟩:=hΦ
   have g9:=f9 (hd 9 (by kernel_rfl))
   have ge:a.tmps[43]? = some (x 43):=hx 9 _ 43 rfl rfl (hd 9 (by kernel_rfl))
   rw [g9] at ge
   refine ⟨fun _ => ?_,fun h => absurd h (by rw [Go.RE.wanted_of rfl (Go.RE.yielded_of rfl rfl ge)]; decide)⟩
   have d17:=f17 (hd 17 (by kernel_rfl))
   have e51:a.tmps[51]? = some (x 51):=hx 17 _ 51 rfl rfl (hd 17 (by kernel_rfl))
   obtain ⟨o51,n51,a51,an51,ac51,b51,bn51,bc51,hx51,hv51⟩:=d17.fx
   rw [hx51] at e51
   clear hf hx hd
   go_simp
   go_at_call 23
   with_reducible refine (HM2.out _ _ hI hv51).mono ?_
   rintro e w' ⟨rfl,hB8⟩
   simp only
   refine hK _ _ ?_
   exact ⟨hI.trans (hB8.mono hI.size),fun h=>(f0 h).up hB8,fun h=>(f1 h).up hB8,fun h=>(f2 h).up hB8,fun h=>(f3 h).up hB8,fun h=>(f4 h).up hB8,fun h=>(f5 h).up hB8,fun h=>(f6 h).up hB8,f7,f8,f9,f10,fun h=>(f11 h).up hB8,fun h=>(f12 h).up hB8,fun h=>(f13 h).up hB8,fun h=>(f14 h).up hB8,fun h=>(f15 h).up hB8,fun h=>(f16 h).up hB8,fun h=>(f17 h).up hB8,fun _ => rfl,f19,f20,f21,fun h=>(f22 h).up hB8,fun h=>(f23 h).up hB8,fun h=>(f24 h).up hB8,fun h=>(f25 h).up hB8,fun h=>(f26 h).up hB8,fun h=>(f27 h).up hB8,fun h=>(f28 h).up hB8,fun h=>(f29 h).up hB8,fun h=>(f30 h).up hB8,fun h=>(f31 h).up hB8,fun h=>(f32 h).up hB8,f33,f34,f35,f36,fun h=>(f37 h).up hB8,fun h=>(f38 h).up hB8,fun h=>(f39 h).up hB8,fun h=>(f40 h).up hB8,f41,f42,f43,f44,fun h=>(f45 h).up hB8,fun h=>(f46 h).up hB8,fun h=>(f47 h).up hB8,fun h=>(f48 h).up hB8,fun h=>(f49 h).up hB8,fun h=>(f50 h).up hB8,f51,f52,f53⟩
  ·intro L x a wR K hL hd hf hx hΦ hK
   obtain ⟨hI,f0,f1,f2,f3,f4,f5,f6,f7,f8,f9,f10,f11,f12,f13,f14,f15,f16,f17,f18,f19,f20,f21,f22,f23,f24,f25,f26,f27,f28,f29,f30,f31,f32,f33,f34,f35,f36,f37,f38,f39,f40,f41,f42,f43,f44,f45,f46,f47,f48,f49,f50,f51,f52,f53⟩:=hΦ
   have g9:=f9 (hd 9 (by kernel_rfl))
   have ge:a.tmps[43]? = some (x 43):=hx 9 _ 43 rfl rfl (hd 9 (by kernel_rfl))
   rw [g9] at ge
   refine ⟨fun _ => ?_,fun h => absurd h (by rw [Go.RE.wanted_of rfl (Go.RE.yielded_of rfl rfl ge)]; decide)⟩
   have d18:=f18 (hd 18 (by kernel_rfl))
   have e52:a.tmps[52]? = some (x 52):=hx 18 _ 52 rfl rfl (hd 18 (by kernel_rfl))
   rw [d18] at e52
   clear hf hx hd
   go_simp
   refine hK _ _ ?_
   exact ⟨hI,f0,f1,f2,f3,f4,f5,f6,f7,f8,f9,f10,f11,f12,f13,f14,f15,f16,f17,f18,fun _ => rfl,f20,f21,f22,f23,f24,f25,f26,f27,f28,f29,f30,f31,f32,f33,f34,f35,f36,f37,f38,f39,f40,f41,f42,f43,f44,f45,f46,f47,f48,f49,f50,f51,f52,f53⟩
  ·intro L x a wR K hL hd hf hx hΦ hK
   obtain ⟨hI,f0,f1,f2,f3,f4,f5,f6,f7,f8,f9,f10,f11,f12,f13,f14,f15,f16,f17,f18,f19,f20,f21,f22,f23,f24,f25,f26,f27,f28,f29,f30,f31,f32,f33,f34,f35,f36,f37,f38,f39,f40,f41,f42,f43,f44,f45,f46,f47,f48,f49,f50,f51,f52,f53⟩:=hΦ
   refine ⟨fun _ => ?_,fun h => absurd h (by rw [Go.RE.wanted_none rfl]; decide)⟩
   have d9:=f9 (hd 9 (by kernel_rfl))
   have e43:a.tmps[43]? = some (x 43):=hx 9 _ 43 rfl rfl (hd 9 (by kernel_rfl))
   rw [d9] at e43
   have d19:=f19 (hd 19 (by kernel_rfl))
   have e53:a.tmps[53]? = some (x 53):=hx 19 _ 53 rfl rfl (hd 19 (by kernel_rfl))
   rw [d19] at e53
   clear hf hx hd
   go_simp
   refine hK _ _ ?_
   exact ⟨hI,f0,f1,f2,f3,f4,f5,f6,f7,f8,f9,f10,f11,f12,f13,f14,f15,f16,f17,f18,f19,fun _ => rfl,f21,f22,f23,f24,f25,f26,f27,f28,f29,f30,f31,f32,f33,f34,f35,f36,f37,f38,f39,f40,f41,f42,f43,f44,f45,f46,f47,f48,f49,f50,f51,f52,f53⟩
  ·intro L x a wR K hL hd hf hx hΦ hK
   obtain ⟨hI,f0,f1,f2,f3,f4,f5,f6,f7,f8,f9,f10,f11,f12,f13,f14,f15,f16,f17,f18,f19,f20,f21,f22,f23,f24,f25,f26,f27,f28,f29,f30,f31,f32,f33,f34,f35,f36,f37,f38,f39,f40,f41,f42,f43,f44,f45,f46,f47,f48,f49,f50,f51,f52,f53⟩:=hΦ
   refine ⟨fun _ => ?_,fun h => absurd h (by rw [Go.RE.wanted_none rfl]; decide)⟩
   have d20:=f20 (hd 20 (by kernel_rfl))
   have e54:a.tmps[54]? = some (x 54):=hx 20 _ 54 rfl rfl (hd 20 (by kernel_rfl))
   rw [d20] at e54
   clear hf hx hd
   go_simp
   refine hK _ _ ?_
   exact ⟨hI,f0,f1,f2,f3,f4,f5,f6,f7,f8,f9,f10,f11,f12,f13,f14,f15,f16,f17,f18,f19,f20,fun _ => rfl,f22,f23,f24,f25,f26,f27,f28,f29,f30,f31,f32,f33,f34,f35,f36,f37,f38,f39,f40,f41,f42,f43,f44,f45,f46,f47,f48,f49,f50,f51,f52,f53⟩
  ·intro L x a wR K hL hd hf hx hΦ hK
   obtain ⟨hI,f0,f1,f2,f3,f4,f5,f6,f7,f8,f9,f10,f11,f12,f13,f14,f15,f16,f17,f18,f19,f20,f21,f22,f23,f24,f25,f26,f27,f28,f29,f30,f31,f32,f33,f34,f35,f36,f37,f38,f39,f40,f41,f42,f43,f44,f45,f46,f47,f48,f49,f50,f51,f52,f53⟩:=hΦ
   have g21:=f21 (hd 21 (by kernel_rfl))
   have ge:a.tmps[55]? = some (x 55):=hx 21 _ 55 rfl rfl (hd 21 (by kernel_rfl))
   rw [g21] at ge
   refine ⟨fun _ => ?_,fun h => absurd h (by rw [Go.RE.wanted_of rfl (Go.RE.yielded_of rfl rfl ge)]; decide)⟩
   clear hf hx hd
   go_simp
   go_at_call 21
   with_reducible refine (p0 _ w.heap.size ⟨#[80]⟩ (by decide)).mono ?_
   rintro e w' ⟨rfl,hB8,hf8⟩
   simp only
   refine hK _ _ ?_
   exact ⟨hI.trans (hB8.mono hI.size),fun h=>(f0 h).up hB8,fun h=>(f1 h).up hB8,fun h=>(f2 h).up hB8,fun h=>(f3 h).up hB8,fun h=>(f4 h).up hB8,fun h=>(f5 h).up hB8,fun h=>(f6 h).up hB8,f7,f8,f9,f10,fun h=>(f11 h).up hB8,fun h=>(f12 h).up hB8,fun h=>(f13 h).up hB8,fun h=>(f14 h).up hB8,fun h=>(f15 h).up hB8,fun h=>(f16 h).up hB8,fun h=>(f17 h).up hB8,f18,f19,f20,f21,fun _ => hf8,fun h=>(f23 h).up hB8,fun h=>(f24 h).up hB8,fun h=>(f25 h).up hB8,fun h=>(f26 h).up hB8,fun h=>(f27 h).up hB8,fun h=>(f28 h).up hB8,fun h=>(f29 h).up hB8,fun h=>(f30 h).up hB8,fun h=>(f31 h).up hB8,fun h=>(f32 h).up hB8,f33,f34,f35,f36,fun h=>(f37 h).up hB8,fun h=>(f38 h).up hB8,fun h=>(f39 h).up hB8,fun h=>(f40 h).up hB8,f41,f42,f43,f44,fun h=>(f45 h).up hB8,fun h=>(f46 h).up hB8,fun h=>(f47 h).up hB8,fun h=>(f48 h).up hB8,fun h=>(f49 h).up hB8,fun h=>(f50 h).up hB8,f51,f52,f53⟩
  ·intro L x a wR K hL hd hf hx hΦ hK
   obtain ⟨hI,f0,f1,f2,f3,f4,f5,f6,f7,f8,f9,f10,f11,f12,f13,f14,f15,f16,f17,f18,f19,f20,f21,f22,f23,f24,f25,f26,f27,f28,f29,f30,f31,f32,f33,f34,f35,f36,f37,f38,f39,f40,f41,f42,f43,f44,f45,f46,f47,f48,f49,f50,f51,f52,f53⟩:=hΦ
   have g21:=f21 (hd 21 (by kernel_rfl))
   have ge:a.tmps[55]? = some (x 55):=hx 21 _ 55 rfl rfl (hd 21 (by kernel_rfl))
   rw [g21] at ge
   refine ⟨fun _ => ?_,fun h => absurd h (by rw [Go.RE.wanted_of rfl (Go.RE.yielded_of rfl rfl ge)]; decide)⟩
   have d22:=f22 (hd 22 (by kernel_rfl))
   have e56:a.tmps[56]? = some (x 56):=hx 22 _ 56 rfl rfl (hd 22 (by kernel_rfl))
   obtain ⟨o56,n56,a56,an56,ac56,b56,bn56,bc56,hx56,hv56⟩:=d22.fx
   rw [hx56] at e56
   have hlo:w.heap.size <= wR.heap.size:=Nat.le_trans HB.out.size hI.size
   clear hf hx hd
   go_simp
   refine hK _ _ ?_
   exact ⟨hI.trans ((bl_al9 _).mono hI.size),fun h=>(f0 h).up (bl_al9 _),fun h=>(f1 h).up (bl_al9 _),fun h=>(f2 h).up (bl_al9 _),fun h=>(f3 h).up (bl_al9 _),fun h=>(f4 h).up (bl_al9 _),fun h=>(f5 h).up (bl_al9 _),fun h=>(f6 h).up (bl_al9 _),f7,f8,f9,f10,fun h=>(f11 h).up (bl_al9 _),fun h=>(f12 h).up (bl_al9 _),fun h=>(f13 h).up (bl_al9 _),fun h=>(f14 h).up (bl_al9 _),fun h=>(f15 h).up (bl_al9 _),fun h=>(f16 h).up (bl_al9 _),fun h=>(f17 h).up (bl_al9 _),f18,f19,f20,f21,fun h=>(f22 h).up (bl_al9 _),fun _ => fs_one hv56 hlo,fun h=>(f24 h).up (bl_al9 _),fun h=>(f25 h).up (bl_al9 _),fun h=>(f26 h).up (bl_al9 _),fun h=>(f27 h).up (bl_al9 _),fun h=>(f28 h).up (bl_al9 _),fun h=>(f29 h).up (bl_al9 _),fun h=>(f30 h).up (bl_al9 _),fun h=>(f31 h).up (bl_al9 _),fun h=>(f32 h).up (bl_al9 _),f33,f34,f35,f36,fun h=>(f37 h).up (bl_al9 _),fun h=>(f38 h).up (bl_al9 _),fun h=>(f39 h).up (bl_al9 _),fun h=>(f40 h).up (bl_al9 _),f41,f42,f43,f44,fun h=>(f45 h).up (bl_al9 _),fun h=>(f46 h).up (bl_al9 _),fun h=>(f47 h).up (bl_al9 _),fun h=>(f48 h).up (bl_al9 _),fun h=>(f49 h).up (bl_al9 _),fun h=>(f50 h).up (bl_al9 _),f51,f52,f53⟩
  ·intro L x a wR K hL hd hf hx hΦ hK
   obtain ⟨hI,f0,f1,f2,f3,f4,f5,f6,f7,f8,f9,f10,f11,f12,f13,f14,f15,f16,f17,f18,f19,f20,f21,f22,f23,f24,f25,f26,f27,f28,f29,f30,f31,f32,f33,f34,f35,f36,f37,f38,f39,f40,f41,f42,f43,f44,f45,f46,f47,f48,f49,f50,f51,f52,f53⟩:=hΦ
   have g21:=f21 (hd 21 (by kernel_rfl))
   have ge:a.tmps[55]? = some (x 55):=hx 21 _ 55 rfl rfl (hd 21 (by kernel_rfl))
   rw [g21] at ge
   refine ⟨fun _ => ?_,fun h => absurd h (by rw [Go.RE.wanted_of rfl (Go.RE.yielded_of rfl rfl ge)]; decide)⟩
   have d23:=f23 (hd 23 (by kernel_rfl))
   have e57:a.tmps[57]? = some (x 57):=hx 23 _ 57 rfl rfl (hd 23 (by kernel_rfl))
   obtain ⟨⟨a57,an57,ac57⟩,hx57,hs57⟩:=d23
   simp only [SL.v] at hx57
   rw [hx57] at e57
   have hS57:FsV wR w.heap.size awg57 (.slice a57 an57 ac57):=⟨⟨a57,an57,ac57⟩,rfl,hs57⟩
   clear hf hx hd
   go_simp
   go_at_call 20
   with_reducible refine (of10 _ w.heap.size _ _ _ _ hS57).mono ?_
   rintro e w' ⟨rfl,hB8,hf8⟩
   simp only
   refine hK _ _ ?_
   exact ⟨hI.trans (hB8.mono hI.size),fun h=>(f0 h).up hB8,fun h=>(f1 h).up hB8,fun h=>(f2 h).up hB8,fun h=>(f3 h).up hB8,fun h=>(f4 h).up hB8,fun h=>(f5 h).up hB8,fun h=>(f6 h).up hB8,f7,f8,f9,f10,fun h=>(f11 h).up hB8,fun h=>(f12 h).up hB8,fun h=>(f13 h).up hB8,fun h=>(f14 h).up hB8,fun h=>(f15 h).up hB8,fun h=>(f16 h).up hB8,fun h=>(f17 h).up hB8,f18,f19,f20,f21,fun h=>(f22 h).up hB8,fun h=>(f23 h).up hB8,fun _ => hf8,fun h=>(f25 h).up hB8,fun h=>(f26 h).up hB8,fun h=>(f27 h).up hB8,fun h=>(f28 h).up hB8,fun h=>(f29 h).up hB8,fun h=>(f30 h).up hB8,fun h=>(f31 h).up hB8,fun h=>(f32 h).up hB8,f33,f34,f35,f36,fun h=>(f37 h).up hB8,fun h=>(f38 h).up hB8,fun h=>(f39 h).up hB8,fun h=>(f40 h).up hB8,f41,f42,f43,f44,fun h=>(f45 h).up hB8,fun h=>(f46 h).up hB8,fun h=>(f47 h).up hB8,fun h=>(f48 h).up hB8,fun h=>(f49 h).up hB8,fun h=>(f50 h).up hB8,f51,f52,f53⟩
  ·intro L x a wR K hL hd hf hx hΦ hK
   obtain ⟨hI,f0,f1,f2,f3,f4,f5,f6,f7,f8,f9,f10,f11,f12,f13,f14,f15,f16,f17,f18,f19,f20,f21,f22,f23,f24,f25,f26,f27,f28,f29,f30,f31,f32,f33,f34,f35,f36,f37,f38,f39,f40,f41,f42,f43,f44,f45,f46,f47,f48,f49,f50,f51,f52,f53⟩:=hΦ
   have g21:=f21 (hd 21 (by kernel_rfl))
   have ge:a.tmps[55]? = some (x 55):=hx 21 _ 55 rfl rfl (hd 21 (by kernel_rfl))
   rw [g21] at ge
   refine ⟨fun _ => ?_,fun h => absurd h (by rw [Go.RE.wanted_of rfl (Go.RE.yielded_of rfl rfl ge)]; decide)⟩
   have d24:=f24 (hd 24 (by kernel_rfl))
   have e58:a.tmps[58]? = some (x 58):=hx 24 _ 58 rfl rfl (hd 24 (by kernel_rfl))
   obtain ⟨o58,n58,a58,an58,ac58,b58,bn58,bc58,hx58,hv58⟩:=d24.fx
   rw [hx58] at e58
   have hlo:w.heap.size <= wR.heap.size:=Nat.le_trans HB.out.size hI.size
   clear hf hx hd
   go_simp
   refine hK _ _ ?_
   exact ⟨hI.trans ((bl_al9 _).mono hI.size),fun h=>(f0 h).up (bl_al9 _),fun h=>(f1 h).up (bl_al9 _),fun h=>(f2 h).up (bl_al9 _),fun h=>(f3 h).up (bl_al9 _),fun h=>(f4 h).up (bl_al9 _),fun h=>(f5 h).up (bl_al9 _),fun h=>(f6 h).up (bl_al9 _),f7,f8,f9,f10,fun h=>(f11 h).up (bl_al9 _),fun h=>(f12 h).up (bl_al9 _),fun h=>(f13 h).up (bl_al9 _),fun h=>(f14 h).up (bl_al9 _),fun h=>(f15 h).up (bl_al9 _),fun h=>(f16 h).up (bl_al9 _),fun h=>(f17 h).up (bl_al9 _),f18,f19,f20,f21,fun h=>(f22 h).up (bl_al9 _),fun h=>(f23 h).up (bl_al9 _),fun h=>(f24 h).up (bl_al9 _),fun _ => fs_one hv58 hlo,fun h=>(f26 h).up (bl_al9 _),fun h=>(f27 h).up (bl_al9 _),fun h=>(f28 h).up (bl_al9 _),fun h=>(f29 h).up (bl_al9 _),fun h=>(f30 h).up (bl_al9 _),fun h=>(f31 h).up (bl_al9 _),fun h=>(f32 h).up (bl_al9 _),f33,f34,f35,f36,fun h=>(f37 h).up (bl_al9 _),fun h=>(f38 h).up (bl_al9 _),fun h=>(f39 h).up (bl_al9 _),fun h=>(f40 h).up (bl_al9 _),f41,f42,f43,f44,fun h=>(f45 h).up (bl_al9 _),fun h=>(f46 h).up (bl_al9 _),fun h=>(f47 h).up (bl_al9 _),fun h=>(f48 h).up (bl_al9 _),fun h=>(f49 h).up (bl_al9 _),fun h=>(f50 h).up (bl_al9 _),f51,f52,f53⟩
  ·intro L x a wR K hL hd hf hx hΦ hK
   obtain ⟨hI,f0,f1,f2,f3,f4,f5,f6,f7,f8,f9,f10,f11,f12,f13,f14,f15,f16,f17,f18,f19,f20,f21,f22,f23,f24,f25,f26,f27,f28,f29,f30,f31,f32,f33,f34,f35,f36,f37,f38,f39,f40,f41,f42,f43,f44,f45,f46,f47,f48,f49,f50,f51,f52,f53⟩:=hΦ
   have g21:=f21 (hd 21 (by kernel_rfl))
   have ge:a.tmps[55]? = some (x 55):=hx 21 _ 55 rfl rfl (hd 21 (by kernel_rfl))
   rw [g21] at ge
   refine ⟨fun _ => ?_,fun h => absurd h (by rw [Go.RE.wanted_of rfl (Go.RE.yielded_of rfl rfl ge)]; decide)⟩
   have d25:=f25 (hd 25 (by kernel_rfl))
   have e59:a.tmps[59]? = some (x 59):=hx 25 _ 59 rfl rfl (hd 25 (by kernel_rfl))
   obtain ⟨⟨a59,an59,ac59⟩,hx59,hs59⟩:=d25
   simp only [SL.v] at hx59
   rw [hx59] at e59
   have hS59:FsV wR w.heap.size awg59 (.slice a59 an59 ac59):=⟨⟨a59,an59,ac59⟩,rfl,hs59⟩
   clear hf hx hd
   go_simp
   go_at_call 20
   with_reducible refine (of3 _ w.heap.size _ _ _ _ hS59).mono ?_
   rintro e w' ⟨rfl,hB8,hf8⟩
   simp only
   refine hK _ _ ?_
   exact ⟨hI.trans (hB8.mono hI.size),fun h=>(f0 h).up hB8,fun h=>(f1 h).up hB8,fun h=>(f2 h).up hB8,fun h=>(f3 h).up hB8,fun h=>(f4 h).up hB8,fun h=>(f5 h).up hB8,fun h=>(f6 h).up hB8,f7,f8,f9,f10,fun h=>(f11 h).up hB8,fun h=>(f12 h).up hB8,fun h=>(f13 h).up hB8,fun h=>(f14 h).up hB8,fun h=>(f15 h).up hB8,fun h=>(f16 h).up hB8,fun h=>(f17 h).up hB8,f18,f19,f20,f21,fun h=>(f22 h).up hB8,fun h=>(f23 h).up hB8,fun h=>(f24 h).up hB8,fun h=>(f25 h).up hB8,fun _ => hf8,fun h=>(f27 h).up hB8,fun h=>(f28 h).up hB8,fun h=>(f29 h).up hB8,fun h=>(f30 h).up hB8,fun h=>(f31 h).up hB8,fun h=>(f32 h).up hB8,f33,f34,f35,f36,fun h=>(f37 h).up hB8,fun h=>(f38 h).up hB8,fun h=>(f39 h).up hB8,fun h=>(f40 h).up hB8,f41,f42,f43,f44,fun h=>(f45 h).up hB8,fun h=>(f46 h).up hB8,fun h=>(f47 h).up hB8,fun h=>(f48 h).up hB8,fun h=>(f49 h).up hB8,fun h=>(f50 h).up hB8,f51,f52,f53⟩
  ·intro L x a wR K hL hd hf hx hΦ hK
   obtain ⟨hI,f0,f1,f2,f3,f4,f5,f6,f7,f8,f9,f10,f11,f12,f13,f14,f15,f16,f17,f18,f19,f20,f21,f22,f23,f24,f25,f26,f27,f28,f29,f30,f31,f32,f33,f34,f35,f36,f37,f38,f39,f40,f41,f42,f43,f44,f45,f46,f47,f48,f49,f50,f51,f52,f53⟩:=hΦ
   have g21:=f21 (hd 21 (by kernel_rfl))
   have ge:a.tmps[55]? = some (x 55):=hx 21 _ 55 rfl rfl (hd 21 (by kernel_rfl))
   rw [g21] at ge
   refine ⟨fun _ => ?_,fun h => absurd h (by rw [Go.RE.wanted_of rfl (Go.RE.yielded_of rfl rfl ge)]; decide)⟩
   clear hf hx hd
   go_simp
   go_at_call 21
   with_reducible refine (p0 _ w.heap.size ⟨#[81]⟩ (by decide)).mono ?_
   rintro e w' ⟨rfl,hB8,hf8⟩
   simp only
   refine hK _ _ ?_
   exact ⟨hI.trans (hB8.mono hI.size),fun h=>(f0 h).up hB8,fun h=>(f1 h).up hB8,fun h=>(f2 h).up hB8,fun h=>(f3 h).up hB8,fun h=>(f4 h).up hB8,fun h=>(f5 h).up hB8,fun h=>(f6 h).up hB8,f7,f8,f9,f10,fun h=>(f11 h).up hB8,fun h=>(f12 h).up hB8,fun h=>(f13 h).up hB8,fun h=>(f14 h).up hB8,fun h=>(f15 h).up hB8,fun h=>(f16 h).up hB8,fun h=>(f17 h).up hB8,f18,f19,f20,f21,fun h=>(f22 h).up hB8,fun h=>(f23 h).up hB8,fun h=>(f24 h).up hB8,fun h=>(f25 h).up hB8,fun h=>(f26 h).up hB8,fun _ => hf8,fun h=>(f28 h).up hB8,fun h=>(f29 h).up hB8,fun h=>(f30 h).up hB8,fun h=>(f31 h).up hB8,fun h=>(f32 h).up hB8,f33,f34,f35,f36,fun h=>(f37 h).up hB8,fun h=>(f38 h).up hB8,fun h=>(f39 h).up hB8,fun h=>(f40 h).up hB8,f41,f42,f43,f44,fun h=>(f45 h).up hB8,fun h=>(f46 h).up hB8,fun h=>(f47 h).up hB8,fun h=>(f48 h).up hB8,fun h=>(f49 h).up hB8,fun h=>(f50 h).up hB8,f51,f52,f53⟩
  ·intro L x a wR K hL hd hf hx hΦ hK
   obtain ⟨hI,f0,f1,f2,f3,f4,f5,f6,f7,f8,f9,f10,f11,f12,f13,f14,f15,f16,f17,f18,f19,f20,f21,f22,f23,f24,f25,f26,f27,f28,f29,f30,f31,f32,f33,f34,f35,f36,f37,f38,f39,f40,f41,f42,f43,f44,f45,f46,f47,f48,f49,f50,f51,f52,f53⟩:=hΦ
   have g21:=f21 (hd 21 (by kernel_rfl))
   have ge:a.tmps[55]? = some (x 55):=hx 21 _ 55 rfl rfl (hd 21 (by kernel_rfl))
   rw [g21] at ge
   refine ⟨fun _ => ?_,fun h => absurd h (by rw [Go.RE.wanted_of rfl (Go.RE.yielded_of rfl rfl ge)]; decide)⟩
   clear hf hx hd
   go_simp
   go_at_call 21
   with_reducible refine (p0 _ w.heap.size ⟨#[82]⟩ (by decide)).mono ?_
   rintro e w' ⟨rfl,hB8,hf8⟩
   simp only
   refine hK _ _ ?_
   exact ⟨hI.trans (hB8.mono hI.size),fun h=>(f0 h).up hB8,fun h=>(f1 h).up hB8,fun h=>(f2 h).up hB8,fun h=>(f3 h).up hB8,fun h=>(f4 h).up hB8,fun h=>(f5 h).up hB8,fun h=>(f6 h).up hB8,f7,f8,f9,f10,fun h=>(f11 h).up hB8,fun h=>(f12 h).up hB8,fun h=>(f13 h).up hB8,fun h=>(f14 h).up hB8,fun h=>(f15 h).up hB8,fun h=>(f16 h).up hB8,fun h=>(f17 h).up hB8,f18,f19,f20,f21,fun h=>(f22 h).up hB8,fun h=>(f23 h).up hB8,fun h=>(f24 h).up hB8,fun h=>(f25 h).up hB8,fun h=>(f26 h).up hB8,fun h=>(f27 h).up hB8,fun _ => hf8,fun h=>(f29 h).up hB8,fun h=>(f30 h).up hB8,fun h=>(f31 h).up hB8,fun h=>(f32 h).up hB8,f33,f34,f35,f36,fun h=>(f37 h).up hB8,fun h=>(f38 h).up hB8,fun h=>(f39 h).up hB8,fun h=>(f40 h).up hB8,f41,f42,f43,f44,fun h=>(f45 h).up hB8,fun h=>(f46 h).up hB8,fun h=>(f47 h).up hB8,fun h=>(f48 h).up hB8,fun h=>(f49 h).up hB8,fun h=>(f50 h).up hB8,f51,f52,f53⟩
  ·intro L x a wR K hL hd hf hx hΦ hK
   obtain ⟨hI,f0,f1,f2,f3,f4,f5,f6,f7,f8,f9,f10,f11,f12,f13,f14,f15,f16,f17,f18,f19,f20,f21,f22,f23,f24,f25,f26,f27,f28,f29,f30,f31,f32,f33,f34,f35,f36,f37,f38,f39,f40,f41,f42,f43,f44,f45,f46,f47,f48,f49,f50,f51,f52,f53⟩:=hΦ
   have g21:=f21 (hd 21 (by kernel_rfl))
   have ge:a.tmps[55]? = some (x 55):=hx 21 _ 55 rfl rfl (hd 21 (by kernel_rfl))
   rw [g21] at ge
   refine ⟨fun _ => ?_,fun h => absurd h (by rw [Go.RE.wanted_of rfl (Go.RE.yielded_of rfl rfl ge)]; decide)⟩
   have d27:=f27 (hd 27 (by kernel_rfl))
   have e61:a.tmps[61]? = some (x 61):=hx 27 _ 61 rfl rfl (hd 27 (by kernel_rfl))
   have d28:=f28 (hd 28 (by kernel_rfl))
   have e62:a.tmps[62]? = some (x 62):=hx 28 _ 62 rfl rfl (hd 28 (by kernel_rfl))
   obtain ⟨o61,n61,a61,an61,ac61,b61,bn61,bc61,hx61,hv61⟩:=d27.fx
   rw [hx61] at e61
   obtain ⟨o62,n62,a62,an62,ac62,b62,bn62,bc62,hx62,hv62⟩:=d28.fx
   rw [hx62] at e62
   have hlo:w.heap.size <= wR.heap.size:=Nat.le_trans HB.out.size hI.size
   clear hf hx hd
   go_simp
   refine hK _ _ ?_
   exact ⟨hI.trans ((bl_al9 _).mono hI.size),fun h=>(f0 h).up (bl_al9 _),fun h=>(f1 h).up (bl_al9 _),fun h=>(f2 h).up (bl_al9 _),fun h=>(f3 h).up (bl_al9 _),fun h=>(f4 h).up (bl_al9 _),fun h=>(f5 h).up (bl_al9 _),fun h=>(f6 h).up (bl_al9 _),f7,f8,f9,f10,fun h=>(f11 h).up (bl_al9 _),fun h=>(f12 h).up (bl_al9 _),fun h=>(f13 h).up (bl_al9 _),fun h=>(f14 h).up (bl_al9 _),fun h=>(f15 h).up (bl_al9 _),fun h=>(f16 h).up (bl_al9 _),fun h=>(f17 h).up (bl_al9 _),f18,f19,f20,f21,fun h=>(f22 h).up (bl_al9 _),fun h=>(f23 h).up (bl_al9 _),fun h=>(f24 h).up (bl_al9 _),fun h=>(f25 h).up (bl_al9 _),fun h=>(f26 h).up (bl_al9 _),fun h=>(f27 h).up (bl_al9 _),fun h=>(f28 h).up (bl_al9 _),fun _ => fs_two hv61 hv62 hlo,fun h=>(f30 h).up (bl_al9 _),fun h=>(f31 h).up (bl_al9 _),fun h=>(f32 h).up (bl_al9 _),f33,f34,f35,f36,fun h=>(f37 h).up (bl_al9 _),fun h=>(f38 h).up (bl_al9 _),fun h=>(f39 h).up (bl_al9 _),fun h=>(f40 h).up (bl_al9 _),f41,f42,f43,f44,fun h=>(f45 h).up (bl_al9 _),fun h=>(f46 h).up (bl_al9 _),fun h=>(f47 h).up (bl_al9 _),fun h=>(f48 h).up (bl_al9 _),fun h=>(f49 h).up (bl_al9 _),fun h=>(f50 h).up (bl_al9 _),f51,f52,f53⟩
  ·intro L x a wR K hL hd hf hx hΦ hK
   obtain ⟨hI,f0,f1,f2,f3,f4,f5,f6,f7,f8,f9,f10,f11,f12,f13,f14,f15,f16,f17,f18,f19,f20,f21,f22,f23,f24,f25,f26,f27,f28,f29,f30,f31,f32,f33,f34,f35,f36,f37,f38,f39,f40,f41,f42,f43,f44,f45,f46,f47,f48,f49,f50,f51,f52,f53⟩:=hΦ
   have g21:=f21 (hd 21 (by kernel_rfl))
   have ge:a.tmps[55]? = some (x 55):=hx 21 _ 55 rfl rfl (hd 21 (by kernel_rfl))
   rw [g21] at ge
   refine ⟨fun _ => ?_,fun h => absurd h (by rw [Go.RE.wanted_of rfl (Go.RE.yielded_of rfl rfl ge)]; decide)⟩
   have d29:=f29 (hd 29 (by kernel_rfl))
   have e63:a.tmps[63]? = some (x 63):=hx 29 _ 63 rfl rfl (hd 29 (by kernel_rfl))
   obtain ⟨⟨a63,an63,ac63⟩,hx63,hs63⟩:=d29
   simp only [SL.v] at hx63
   rw [hx63] at e63
   have hS63:FsV wR w.heap.size awg63 (.slice a63 an63 ac63):=⟨⟨a63,an63,ac63⟩,rfl,hs63⟩
   clear hf hx hd
   go_simp
   go_at_call 20
   with_reducible refine (of14 _ w.heap.size _ _ _ _ hS63).mono ?_
   rintro e w' ⟨rfl,hB8,hf8⟩
   simp only
   refine hK _ _ ?_
   exact ⟨hI.trans (hB8.mono hI.size),fun h=>(f0 h).up hB8,fun h=>(f1 h).up hB8,fun h=>(f2 h).up hB8,fun h=>(f3 h).up hB8,fun h=>(f4 h).up hB8,fun h=>(f5 h).up hB8,fun h=>(f6 h).up hB8,f7,f8,f9,f10,fun h=>(f11 h).up hB8,fun h=>(f12 h).up hB8,fun h=>(f13 h).up hB8,fun h=>(f14 h).up hB8,fun h=>(f15 h).up hB8,fun h=>(f16 h).up hB8,fun h=>(f17 h).up hB8,f18,f19,f20,f21,fun h=>(f22 h).up hB8,fun h=>(f23 h).up hB8,fun h=>(f24 h).up hB8,fun h=>(f25 h).up hB8,fun h=>(f26 h).up hB8,fun h=>(f27 h).up hB8,fun h=>(f28 h).up hB8,fun h=>(f29 h).up hB8,fun _ => hf8,fun h=>(f31 h).up hB8,fun h=>(f32 h).up hB8,f33,f34,f35,f36,fun h=>(f37 h).up hB8,fun h=>(f38 h).up hB8,fun h=>(f39 h).up hB8,fun h=>(f40 h).up hB8,f41,f42,f43,f44,fun h=>(f45 h).up hB8,fun h=>(f46 h).up hB8,fun h=>(f47 h).up hB8,fun h=>(f48 h).up hB8,fun h=>(f49 h).up hB8,fun h=>(f50 h).up hB8,f51,f52,f53⟩
  ·intro L x a wR K hL hd hf hx hΦ hK
   obtain ⟨hI,f0,f1,f2,f3,f4,f5,f6,f7,f8,f9,f10,f11,f12,f13,f14,f15,f16,f17,f18,f19,f20,f21,f22,f23,f24,f25,f26,f27,f28,f29,f30,f31,f32,f33,f34,f35,f36,f37,f38,f39,f40,f41,f42,f43,f44,f45,f46,f47,f48,f49,f50,f51,f52,f53⟩:=hΦ
   have g21:=f21 (hd 21 (by kernel_rfl))
   have ge:a.tmps[55]? = some (x 55):=hx 21 _ 55 rfl rfl (hd 21 (by kernel_rfl))
   rw [g21] at ge
   refine ⟨fun _ => ?_,fun h => absurd h (by rw [Go.RE.wanted_of rfl (Go.RE.yielded_of rfl rfl ge)]; decide)⟩
   have d26:=f26 (hd 26 (by kernel_rfl))
   have e60:a.tmps[60]? = some (x 60):=hx 26 _ 60 rfl rfl (hd 26 (by kernel_rfl))
   have d30:=f30 (hd 30 (by kernel_rfl))
   have e64:a.tmps[64]? = some (x 64):=hx 30 _ 64 rfl rfl (hd 30 (by kernel_rfl))
   obtain ⟨o60,n60,a60,an60,ac60,b60,bn60,bc60,hx60,hv60⟩:=d26.fx
   rw [hx60] at e60
   obtain ⟨o64,n64,a64,an64,ac64,b64,bn64,bc64,hx64,hv64⟩:=d30.fx
   rw [hx64] at e64
   have hlo:w.heap.size <= wR.heap.size:=Nat.le_trans HB.out.size hI.size
   clear hf hx hd
   go_simp
   refine hK _ _ ?_
   exact ⟨hI.trans ((bl_al9 _).mono hI.size),fun h=>(f0 h).up (bl_al9 _),fun h=>(f1 h).up (bl_al9 _),fun h=>(f2 h).up (bl_al9 _),fun h=>(f3 h).up (bl_al9 _),fun h=>(f4 h).up (bl_al9 _),fun h=>(f5 h).up (bl_al9 _),fun h=>(f6 h).up (bl_al9 _),f7,f8,f9,f10,fun h=>(f11 h).up (bl_al9 _),fun h=>(f12 h).up (bl_al9 _),fun h=>(f13 h).up (bl_al9 _),fun h=>(f14 h).up (bl_al9 _),fun h=>(f15 h).up (bl_al9 _),fun h=>(f16 h).up (bl_al9 _),fun h=>(f17 h).up (bl_al9 _),f18,f19,f20,f21,fun h=>(f22 h).up (bl_al9 _),fun h=>(f23 h).up (bl_al9 _),fun h=>(f24 h).up (bl_al9 _),fun h=>(f25 h).up (bl_al9 _),fun h=>(f26 h).up (bl_al9 _),fun h=>(f27 h).up (bl_al9 _),fun h=>(f28 h).up (bl_al9 _),fun h=>(f29 h).up (bl_al9 _),fun h=>(f30 h).up (bl_al9 _),fun _ => fs_two hv60 hv64 hlo,fun h=>(f32 h).up (bl_al9 _),f33,f34,f35,f36,fun h=>(f37 h).up (bl_al9 _),fun h=>(f38 h).up (bl_al9 _),fun h=>(f39 h).up (bl_al9 _),fun h=>(f40 h).up (bl_al9 _),f41,f42,f43,f44,fun h=>(f45 h).up (bl_al9 _),fun h=>(f46 h).up (bl_al9 _),fun h=>(f47 h).up (bl_al9 _),fun h=>(f48 h).up (bl_al9 _),fun h=>(f49 h).up (bl_al9 _),fun h=>(f50 h).up (bl_al9 _),f51,f52,f53⟩
  ·intro L x a wR K hL hd hf hx hΦ hK
   obtain ⟨hI,f0,f1,f2,f3,f4,f5,f6,f7,f8,f9,f10,f11,f12,f13,f14,f15,f16,f17,f18,f19,f20,f21,f22,f23,f24,f25,f26,f27,f28,f29,f30,f31,f32,f33,f34,f35,f36,f37,f38,f39,f40,f41,f42,f43,f44,f45,f46,f47,f48,f49,f50,f51,f52,f53⟩:=hΦ
   have g21:=f21 (hd 21 (by kernel_rfl))
   have ge:a.tmps[55]? = some (x 55):=hx 21 _ 55 rfl rfl (hd 21 (by kernel_rfl))
   rw [g21] at ge
   refine ⟨fun _ => ?_,fun h => absurd h (by rw [Go.RE.wanted_of rfl (Go.RE.yielded_of rfl rfl ge)]; decide)⟩
   have d31:=f31 (hd 31 (by kernel_rfl))
   have e65:a.tmps[65]? = some (x 65):=hx 31 _ 65 rfl rfl (hd 31 (by kernel_rfl))
   obtain ⟨⟨a65,an65,ac65⟩,hx65,hs65⟩:=d31
   simp only [SL.v] at hx65
   rw [hx65] at e65
   have hS65:FsV wR w.heap.size awg65 (.slice a65 an65 ac65):=⟨⟨a65,an65,ac65⟩,rfl,hs65⟩
   clear hf hx hd
   go_simp
   go_at_call 20
   with_reducible refine (of14 _ w.heap.size _ _ _ _ hS65).mono ?_
   rintro e w' ⟨rfl,hB8,hf8⟩
   simp only
   refine hK _ _ ?_
   exact ⟨hI.trans (hB8.mono hI.size),fun h=>(f0 h).up hB8,fun h=>(f1 h).up hB8,fun h=>(f2 h).up hB8,fun h=>(f3 h).up hB8,fun h=>(f4 h).up hB8,fun h=>(f5 h).up hB8,fun h=>(f6 h).up hB8,f7,f8,f9,f10,fun h=>(f11 h).up hB8,fun h=>(f12 h).up hB8,fun h=>(f13 h).up hB8,fun h=>(f14 h).up hB8,fun h=>(f15 h).up hB8,fun h=>(f16 h).up hB8,fun h=>(f17 h).up hB8,f18,f19,f20,f21,fun h=>(f22 h).up hB8,fun h=>(f23 h).up hB8,fun h=>(f24 h).up hB8,fun h=>(f25 h).up hB8,fun h=>(f26 h).up hB8,fun h=>(f27 h).up hB8,fun h=>(f28 h).up hB8,fun h=>(f29 h).up hB8,fun h=>(f30 h).up hB8,fun h=>(f31 h).up hB8,fun _ => hf8,f33,f34,f35,f36,fun h=>(f37 h).up hB8,fun h=>(f38 h).up hB8,fun h=>(f39 h).up hB8,fun h=>(f40 h).up hB8,f41,f42,f43,f44,fun h=>(f45 h).up hB8,fun h=>(f46 h).up hB8,fun h=>(f47 h).up hB8,fun h=>(f48 h).up hB8,fun h=>(f49 h).up hB8,fun h=>(f50 h).up hB8,f51,f52,f53⟩
  ·intro L x a wR K hL hd hf hx hΦ hK
   obtain ⟨hI,f0,f1,f2,f3,f4,f5,f6,f7,f8,f9,f10,f11,f12,f13,f14,f15,f16,f17,f18,f19,f20,f21,f22,f23,f24,f25,f26,f27,f28,f29,f30,f31,f32,f33,f34,f35,f36,f37,f38,f39,f40,f41,f42,f43,f44,f45,f46,f47,f48,f49,f50,f51,f52,f53⟩:=hΦ
   have g21:=f21 (hd 21 (by kernel_rfl))
   have ge:a.tmps[55]? = some (x 55):=hx 21 _ 55 rfl rfl (hd 21 (by kernel_rfl))
   rw [g21] at ge
   refine ⟨fun _ => ?_,fun h => absurd h (by rw [Go.RE.wanted_of rfl (Go.RE.yielded_of rfl rfl ge)]; decide)⟩
   have d32:=f32 (hd 32 (by kernel_rfl))
   have e66:a.tmps[66]? = some (x 66):=hx 32 _ 66 rfl rfl (hd 32 (by kernel_rfl))
   obtain ⟨o66,n66,a66,an66,ac66,b66,bn66,bc66,hx66,hv66⟩:=d32.fx
   rw [hx66] at e66
   clear hf hx hd
   go_simp
   go_at_call 23
   with_reducible refine (HM3.out _ _ hI hv66).mono ?_
   rintro e w' ⟨rfl,hB8⟩
   simp only
   refine hK _ _ ?_
   exact ⟨hI.trans (hB8.mono hI.size),fun h=>(f0 h).up hB8,fun h=>(f1 h).up hB8,fun h=>(f2 h).up hB8,fun h=>(f3 h).up hB8,fun h=>(f4 h).up hB8,fun h=>(f5 h).up hB8,fun h=>(f6 h).up hB8,f7,f8,f9,f10,fun h=>(f11 h).up hB8,fun h=>(f12 h).up hB8,fun h=>(f13 h).up hB8,fun h=>(f14 h).up hB8,fun h=>(f15 h).up hB8,fun h=>(f16 h).up hB8,fun h=>(f17 h).up hB8,f18,f19,f20,f21,fun h=>(f22 h).up hB8,fun h=>(f23 h).up hB8,fun h=>(f24 h).up hB8,fun h=>(f25 h).up hB8,fun h=>(f26 h).up hB8,fun h=>(f27 h).up hB8,fun h=>(f28 h).up hB8,fun h=>(f29 h).up hB8,fun h=>(f30 h).up hB8,fun h=>(f31 h).up hB8,fun h=>(f32 h).up hB8,fun _ => rfl,f34,f35,f36,fun h=>(f37 h).up hB8,fun h=>(f38 h).up hB8,fun h=>(f39 h).up hB8,fun h=>(f40 h).up hB8,f41,f42,f43,f44,fun h=>(f45 h).up hB8,fun h=>(f46 h).up hB8,fun h=>(f47 h).up hB8,fun h=>(f48 h).up hB8,fun h=>(f49 h).up hB8,fun h=>(f50 h).up hB8,f51,f52,f53⟩
  ·intro L x a wR K hL hd hf hx hΦ hK
   obtain ⟨hI,f0,f1,f2,f3,f4,f5,f6,f7,f8,f9,f10,f11,f12,f13,f14,f15,f16,f17,f18,f19,f20,f21,f22,f23,f24,f25,f26,f27,f28,f29,f30,f31,f32,f33,f34,f35,f36,f37,f38,f39,f40,f41,f42,f43,f44,f45,f46,f47,f48,f49,f50,f51,f52,f53⟩:=hΦ
   have g21:=f21 (hd 21 (by kernel_rfl))
   have ge:a.tmps[55]? = some (x 55):=hx 21 _ 55 rfl rfl (hd 21 (by kernel_rfl))
   rw [g21] at ge
   refine ⟨fun _ => ?_,fun h => absurd h (by rw [Go.RE.wanted_of rfl (Go.RE.yielded_of rfl rfl ge)]; decide)⟩
   have d33:=f33 (hd 33 (by kernel_rfl))
   have e67:a.tmps[67]? = some (x 67):=hx 33 _ 67 rfl rfl (hd 33 (by kernel_rfl))
   rw [d33] at e67
   clear hf hx hd
   go_simp
   refine hK _ _ ?_
   exact ⟨hI,f0,f1,f2,f3,f4,f5,f6,f7,f8,f9,f10,f11,f12,f13,f14,f15,f16,f17,f18,f19,f20,f21,f22,f23,f24,f25,f26,f27,f28,f29,f30,f31,f32,f33,fun _ => rfl,f35,f36,f37,f38,f39,f40,f41,f42,f43,f44,f45,f46,f47,f48,f49,f50,f51,f52,f53⟩
  ·intro L x a wR K hL hd hf hx hΦ hK
   obtain ⟨hI,f0,f1,f2,f3,f4,f5,f6,f7,f8,f9,f10,f11,f12,f13,f14,f15,f16,f17,f18,f19,f20,f21,f22,f23,f24,f25,f26,f27,f28,f29,f30,f31,f32,f33,f34,f35,f36,f37,f38,f39,f40,f41,f42,f43,f44,f45,f46,f47,f48,f49,f50,f51,f52,f53⟩:=hΦ
   refine ⟨fun _ => ?_,fun h => absurd h (by rw [Go.RE.wanted_none rfl]; decide)⟩
   have d21:=f21 (hd 21 (by kernel_rfl))
   have e55:a.tmps[55]? = some (x 55):=hx 21 _ 55 rfl rfl (hd 21 (by kernel_rfl))
   rw [d21] at e55
   have d34:=f34 (hd 34 (by kernel_rfl))
   have e68:a.tmps[68]? = some (x 68):=hx 34 _ 68 rfl rfl (hd 34 (by kernel_rfl))
   rw [d34] at e68
   clear hf hx hd
   go_simp
   refine hK _ _ ?_
   exact ⟨hI,f0,f1,f2,f3,f4,f5,f6,f7,f8,f9,f10,f11,f12,f13,f14,f15,f16,f17,f18,f19,f20,f21,f22,f23,f24,f25,f26,f27,f28,f29,f30,f31,f32,f33,f34,fun _ => rfl,f36,f37,f38,f39,f40,f41,f42,f43,f44,f45,f46,f47,f48,f49,f50,f51,f52,f53⟩
  ·intro L x a wR K hL hd hf hx hΦ hK
   obtain ⟨hI,f0,f1,f2,f3,f4,f5,f6,f7,f8,f9,f10,f11,f12,f13,f14,f15,f16,f17,f18,f19,f20,f21,f22,f23,f24,f25,f26,f27,f28,f29,f30,f31,f32,f33,f34,f35,f36,f37,f38,f39,f40,f41,f42,f43,f44,f45,f46,f47,f48,f49,f50,f51,f52,f53⟩:=hΦ
   refine ⟨fun _ => ?_,fun h => absurd h (by rw [Go.RE.wanted_none rfl]; decide)⟩
   have d35:=f35 (hd 35 (by kernel_rfl))
   have e69:a.tmps[69]? = some (x 69):=hx 35 _ 69 rfl rfl (hd 35 (by kernel_rfl))
   rw [d35] at e69
   clear hf hx hd
   go_simp
   refine hK _ _ ?_
   exact ⟨hI,f0,f1,f2,f3,f4,f5,f6,f7,f8,f9,f10,f11,f12,f13,f14,f15,f16,f17,f18,f19,f20,f21,f22,f23,f24,f25,f26,f27,f28,f29,f30,f31,f32,f33,f34,f35,fun _ => rfl,f37,f38,f39,f40,f41,f42,f43,f44,f45,f46,f47,f48,f49,f50,f51,f52,f53⟩
  ·intro L x a wR K hL hd hf hx hΦ hK
   obtain ⟨hI,f0,f1,f2,f3,f4,f5,f6,f7,f8,f9,f10,f11,f12,f13,f14,f15,f16,f17,f18,f19,f20,f21,f22,f23,f24,f25,f26,f27,f28,f29,f30,f31,f32,f33,f34,f35,f36,f37,f38,f39,f40,f41,f42,f43,f44,f45,f46,f47,f48,f49,f50,f51,f52,f53⟩:=hΦ
   have g36:=f36 (hd 36 (by kernel_rfl))
   have ge:a.tmps[70]? = some (x 70):=hx 36 _ 70 rfl rfl (hd 36 (by kernel_rfl))
   rw [g36] at ge
   refine ⟨fun _ => ?_,fun h => absurd h (by rw [Go.RE.wanted_of rfl (Go.RE.yielded_of rfl rfl ge)]; decide)⟩
   have e3:a.tmps[3]? = some (.pointer (some ⟨W13.heap.size + 1 + 1,0,none⟩)):=hf 3 (of_decide_eq_true (by kernel_rfl))
   have hk:=(hI.block _ (HK.blk_lt B3.out)).trans B3.out
   have c0:=HK.blk_cell hk 0
   have c1:=HK.blk_cell hk 1
   have c2:=HK.blk_cell hk 2
   have c3:=HK.blk_cell hk 3
   clear hf hx hd
   go_simp
   refine hK _ _ ?_
   exact ⟨hI,f0,f1,f2,f3,f4,f5,f6,f7,f8,f9,f10,f11,f12,f13,f14,f15,f16,f17,f18,f19,f20,f21,f22,f23,f24,f25,f26,f27,f28,f29,f30,f31,f32,f33,f34,f35,f36,fun _ => F29.out.up hI,f38,f39,f40,f41,f42,f43,f44,f45,f46,f47,f48,f49,f50,f51,f52,f53⟩
  ·intro L x a wR K hL hd hf hx hΦ hK
   obtain ⟨hI,f0,f1,f2,f3,f4,f5,f6,f7,f8,f9,f10,f11,f12,f13,f14,f15,f16,f17,f18,f19,f20,f21,f22,f23,f24,f25,f26,f27,f28,f29,f30,f31,f32,f33,f34,f35,f36,f37,f38,f39,f40,f41,f42,f43,f44,f45,f46,f47,f48,f49,f50,f51,f52,f53⟩:=hΦ
   have g36:=f36 (hd 36 (by kernel_rfl))
   have ge:a.tmps[70]? = some (x 70):=hx 36 _ 70 rfl rfl (hd 36 (by kernel_rfl))
   rw [g36] at ge
   refine ⟨fun _ => ?_,fun h => absurd h (by rw [Go.RE.wanted_of rfl (Go.RE.yielded_of rfl rfl ge)]; decide)⟩
   clear hf hx hd
   go_simp
   go_at_call 21
   with_reducible refine (p0 _ w.heap.size ⟨#[83]⟩ (by decide)).mono ?_
   rintro e w' ⟨rfl,hB8,hf8⟩
   simp only
   refine hK _ _ ?_
   exact ⟨hI.trans (hB8.mono hI.size),fun h=>(f0 h).up hB8,fun h=>(f1 h).up hB8,fun h=>(f2 h).up hB8,fun h=>(f3 h).up hB8,fun h=>(f4 h).up hB8,fun h=>(f5 h).up hB8,fun h=>(f6 h).up hB8,f7,f8,f9,f10,fun h=>(f11 h).up hB8,fun h=>(f12 h).up hB8,fun h=>(f13 h).up hB8,fun h=>(f14 h).up hB8,fun h=>(f15 h).up hB8,fun h=>(f16 h).up hB8,fun h=>(f17 h).up hB8,f18,f19,f20,f21,fun h=>(f22 h).up hB8,fun h=>(f23 h).up hB8,fun h=>(f24 h).up hB8,fun h=>(f25 h).up hB8,fun h=>(f26 h).up hB8,fun h=>(f27 h).up hB8,fun h=>(f28 h).up hB8,fun h=>(f29 h).up hB8,fun h=>(f30 h).up hB8,fun h=>(f31 h).up hB8,fun h=>(f32 h).up hB8,f33,f34,f35,f36,fun h=>(f37 h).up hB8,fun _ => hf8,fun h=>(f39 h).up hB8,fun h=>(f40 h).up hB8,f41,f42,f43,f44,fun h=>(f45 h).up hB8,fun h=>(f46 h).up hB8,fun h=>(f47 h).up hB8,fun h=>(f48 h).up hB8,fun h=>(f49 h).up hB8,fun h=>(f50 h).up hB8,f51,f52,f53⟩
  ·intro L x a wR K hL hd hf hx hΦ hK
   obtain ⟨hI,f0,f1,f2,f3,f4,f5,f6,f7,f8,f9,f10,f11,f12,f13,f14,f15,f16,f17,f18,f19,f20,f21,f22,f23,f24,f25,f26,f27,f28,f29,f30,f31,f32,f33,f34,f35,f36,f37,f38,f39,f40,f41,f42,f43,f44,f45,f46,f47,f48,f49,f50,f51,f52,f53⟩:=hΦ
   have g36:=f36 (hd 36 (by kernel_rfl))
   have ge:a.tmps[70]? = some (x 70):=hx 36 _ 70 rfl rfl (hd 36 (by kernel_rfl))
   rw [g36] at ge
   refine ⟨fun _ => ?_,fun h => absurd h (by rw [Go.RE.wanted_of rfl (Go.RE.yielded_of rfl rfl ge)]; decide)⟩
   have d37:=f37 (hd 37 (by kernel_rfl))
   have e71:a.tmps[71]? = some (x 71):=hx 37 _ 71 rfl rfl (hd 37 (by kernel_rfl))
   have d38:=f38 (hd 38 (by kernel_rfl))
   have e72:a.tmps[72]? = some (x 72):=hx 38 _ 72 rfl rfl (hd 38 (by kernel_rfl))
   obtain ⟨o71,n71,a71,an71,ac71,b71,bn71,bc71,hx71,hv71⟩:=d37.fx
   rw [hx71] at e71
   obtain ⟨o72,n72,a72,an72,ac72,b72,bn72,bc72,hx72,hv72⟩:=d38.fx
   rw [hx72] at e72
   have hlo:w.heap.size <= wR.heap.size:=Nat.le_trans HB.out.size hI.size
   clear hf hx hd
   go_simp
   refine hK _ _ ?_
   exact ⟨hI.trans ((bl_al9 _).mono hI.size),fun h=>(f0 h).up (bl_al9 _),fun h=>(f1 h).up (bl_al9 _),fun h=>(f2 h).up (bl_al9 _),fun h=>(f3 h).up (bl_al9 _),fun h=>(f4 h).up (bl_al9 _),fun h=>(f5 h).up (bl_al9 _),fun h=>(f6 h).up (bl_al9 _),f7,f8,f9,f10,fun h=>(f11 h).up (bl_al9 _),fun h=>(f12 h).up (bl_al9 _),fun h=>(f13 h).up (bl_al9 _),fun h=>(f14 h).up (bl_al9 _),fun h=>(f15 h).up (bl_al9 _),fun h=>(f16 h).up (bl_al9 _),fun h=>(f17 h).up (bl_al9 _),f18,f19,f20,f21,fun h=>(f22 h).up (bl_al9 _),fun h=>(f23 h).up (bl_al9 _),fun h=>(f24 h).up (bl_al9 _),fun h=>(f25 h).up (bl_al9 _),fun h=>(f26 h).up (bl_al9 _),fun h=>(f27 h).up (bl_al9 _),fun h=>(f28 h).up (bl_al9 _),fun h=>(f29 h).up (bl_al9 _),fun h=>(f30 h).up (bl_al9 _),fun h=>(f31 h).up (bl_al9 _),fun h=>(f32 h).up (bl_al9 _),f33,f34,f35,f36,fun h=>(f37 h).up (bl_al9 _),fun h=>(f38 h).up (bl_al9 _),fun _ => fs_two hv71 hv72 hlo,fun h=>(f40 h).up (bl_al9 _),f41,f42,f43,f44,fun h=>(f45 h).up (bl_al9 _),fun h=>(f46 h).up (bl_al9 _),fun h=>(f47 h).up (bl_al9 _),fun h=>(f48 h).up (bl_al9 _),fun h=>(f49 h).up (bl_al9 _),fun h=>(f50 h).up (bl_al9 _),f51,f52,f53⟩
  ·intro L x a wR K hL hd hf hx hΦ hK
   obtain ⟨hI,f0,f1,f2,f3,f4,f5,f6,f7,f8,f9,f10,f11,f12,f13,f14,f15,f16,f17,f18,f19,f20,f21,f22,f23,f24,f25,f26,f27,f28,f29,f30,f31,f32,f33,f34,f35,f36,f37,f38,f39,f40,f41,f42,f43,f44,f45,f46,f47,f48,f49,f50,f51,f52,f53⟩:=hΦ
   have g36:=f36 (hd 36 (by kernel_rfl))
   have ge:a.tmps[70]? = some (x 70):=hx 36 _ 70 rfl rfl (hd 36 (by kernel_rfl))
   rw [g36] at ge
   refine ⟨fun _ => ?_,fun h => absurd h (by rw [Go.RE.wanted_of rfl (Go.RE.yielded_of rfl rfl ge)]; decide)⟩
   have d39:=f39 (hd 39 (by kernel_rfl))
   have e73:a.tmps[73]? = some (x 73):=hx 39 _ 73 rfl rfl (hd 39 (by kernel_rfl))
   obtain ⟨⟨a73,an73,ac73⟩,hx73,hs73⟩:=d39
   simp only [SL.v] at hx73
   rw [hx73] at e73
   have hS73:FsV wR w.heap.size awg73 (.slice a73 an73 ac73):=⟨⟨a73,an73,ac73⟩,rfl,hs73⟩
   clear hf hx hd
   go_simp
   go_at_call 20
   with_reducible refine (of7 _ w.heap.size _ _ _ _ hS73).mono ?_
   rintro e w' ⟨rfl,hB8,hf8⟩
   simp only
   refine hK _ _ ?_
   exact ⟨hI.trans (hB8.mono hI.size),fun h=>(f0 h).up hB8,fun h=>(f1 h).up hB8,fun h=>(f2 h).up hB8,fun h=>(f3 h).up hB8,fun h=>(f4 h).up hB8,fun h=>(f5 h).up hB8,fun h=>(f6 h).up hB8,f7,f8,f9,f10,fun h=>(f11 h).up hB8,fun h=>(f12 h).up hB8,fun h=>(f13 h).up hB8,fun h=>(f14 h).up hB8,fun h=>(f15 h).up hB8,fun h=>(f16 h).up hB8,fun h=>(f17 h).up hB8,f18,f19,f20,f21,fun h=>(f22 h).up hB8,fun h=>(f23 h).up hB8,fun h=>(f24 h).up hB8,fun h=>(f25 h).up hB8,fun h=>(f26 h).up hB8,fun h=>(f27 h).up hB8,fun h=>(f28 h).up hB8,fun h=>(f29 h).up hB8,fun h=>(f30 h).up hB8,fun h=>(f31 h).up hB8,fun h=>(f32 h).up hB8,f33,f34,f35,f36,fun h=>(f37 h).up hB8,fun h=>(f38 h).up hB8,fun h=>(f39 h).up hB8,fun _ => hf8,f41,f42,f43,f44,fun h=>(f45 h).up hB8,fun h=>(f46 h).up hB8,fun h=>(f47 h).up hB8,fun h=>(f48 h).up hB8,fun h=>(f49 h).up hB8,fun h=>(f50 h).up hB8,f51,f52,f53⟩
  ·intro L x a wR K hL hd hf hx hΦ hK
   obtain ⟨hI,f0,f1,f2,f3,f4,f5,f6,f7,f8,f9,f10,f11,f12,f13,f14,f15,f16,f17,f18,f19,f20,f21,f22,f23,f24,f25,f26,f27,f28,f29,f30,f31,f32,f33,f34,f35,f36,f37,f38,f39,f40,f41,f42,f43,f44,f45,f46,f47,f48,f49,f50,f51,f52,f53⟩:=hΦ
   have g36:=f36 (hd 36 (by kernel_rfl))
   have ge:a.tmps[70]? = some (x 70):=hx 36 _ 70 rfl rfl (hd 36 (by kernel_rfl))
   rw [g36] at ge
   refine ⟨fun _ => ?_,fun h => absurd h (by rw [Go.RE.wanted_of rfl (Go.RE.yielded_of rfl rfl ge)]; decide)⟩
   have d40:=f40 (hd 40 (by kernel_rfl))
   have e74:a.tmps[74]? = some (x 74):=hx 40 _ 74 rfl rfl (hd 40 (by kernel_rfl))
   obtain ⟨o74,n74,a74,an74,ac74,b74,bn74,bc74,hx74,hv74⟩:=d40.fx
   rw [hx74] at e74
   clear hf hx hd
   go_simp
   go_at_call 23
   with_reducible refine (HM4.out _ _ hI hv74).mono ?_
   rintro e w' ⟨rfl,hB8⟩
   simp only
   refine hK _ _ ?_
   exact ⟨hI.trans (hB8.mono hI.size),fun h=>(f0 h).up hB8,fun h=>(f1 h).up hB8,fun h=>(f2 h).up hB8,fun h=>(f3 h).up hB8,fun h=>(f4 h).up hB8,fun h=>(f5 h).up hB8,fun h=>(f6 h).up hB8,f7,f8,f9,f10,fun h=>(f11 h).up hB8,fun h=>(f12 h).up hB8,fun h=>(f13 h).up hB8,fun h=>(f14 h).up hB8,fun h=>(f15 h).up hB8,fun h=>(f16 h).up hB8,fun h=>(f17 h).up hB8,f18,f19,f20,f21,fun h=>(f22 h).up hB8,fun h=>(f23 h).up hB8,fun h=>(f24 h).up hB8,fun h=>(f25 h).up hB8,fun h=>(f26 h).up hB8,fun h=>(f27 h).up hB8,fun h=>(f28 h).up hB8,fun h=>(f29 h).up hB8,fun h=>(f30 h).up hB8,fun h=>(f31 h).up hB8,fun h=>(f32 h).up hB8,f33,f34,f35,f36,fun h=>(f37 h).up hB8,fun h=>(f38 h).up hB8,fun h=>(f39 h).up hB8,fun h=>(f40 h).up hB8,fun _ => rfl,f42,f43,f44,fun h=>(f45 h).up hB8,fun h=>(f46 h).up hB8,fun h=>(f47 h).up hB8,fun h=>(f48 h).up hB8,fun h=>(f49 h).up hB8,fun h=>(f50 h).up hB8,f51,f52,f53⟩
  ·intro L x a wR K hL hd hf hx hΦ hK
   obtain ⟨hI,f0,f1,f2,f3,f4,f5,f6,f7,f8,f9,f10,f11,f12,f13,f14,f15,f16,f17,f18,f19,f20,f21,f22,f23,f24,f25,f26,f27,f28,f29,f30,f31,f32,f33,f34,f35,f36,f37,f38,f39,f40,f41,f42,f43,f44,f45,f46,f47,f48,f49,f50,f51,f52,f53⟩:=hΦ
   have g36:=f36 (hd 36 (by kernel_rfl))
   have ge:a.tmps[70]? = some (x 70):=hx 36 _ 70 rfl rfl (hd 36 (by kernel_rfl))
   rw [g36] at ge
   refine ⟨fun _ => ?_,fun h => absurd h (by rw [Go.RE.wanted_of rfl (Go.RE.yielded_of rfl rfl ge)]; decide)⟩
   have d41:=f41 (hd 41 (by kernel_rfl))
   have e75:a.tmps[75]? = some (x 75):=hx 41 _ 75 rfl rfl (hd 41 (by kernel_rfl))
   rw [d41] at e75
   clear hf hx hd
   go_simp
   refine hK _ _ ?_
   exact ⟨hI,f0,f1,f2,f3,f4,f5,f6,f7,f8,f9,f10,f11,f12,f13,f14,f15,f16,f17,f18,f19,f20,f21,f22,f23,f24,f25,f26,f27,f28,f29,f30,f31,f32,f33,f34,f35,f36,f37,f38,f39,f40,f41,fun _ => rfl,f43,f44,f45,f46,f47,f48,f49,f50,f51,f52,f53⟩
  ·intro L x a wR K hL hd hf hx hΦ hK
   obtain ⟨hI,f0,f1,f2,f3,f4,f5,f6,f7,f8,f9,f10,f11,f12,f13,f14,f15,f16,f17,f18,f19,f20,f21,f22,f23,f24,f25,f26,f27,f28,f29,f30,f31,f32,f33,f34,f35,f36,f37,f38,f39,f40,f41,f42,f43,f44,f45,f46,f47,f48,f49,f50,f51,f52,f53⟩:=hΦ
   refine ⟨fun _ => ?_,fun h => absurd h (by rw [Go.RE.wanted_none rfl]; decide)⟩
   have d36:=f36 (hd 36 (by kernel_rfl))
   have e70:a.tmps[70]? = some (x 70):=hx 36 _ 70 rfl rfl (hd 36 (by kernel_rfl))
   rw [d36] at e70
   have d42:=f42 (hd 42 (by kernel_rfl))
   have e76:a.tmps[76]? = some (x 76):=hx 42 _ 76 rfl rfl (hd 42 (by kernel_rfl))
   rw [d42] at e76
   clear hf hx hd
   go_simp
   refine hK _ _ ?_
   exact ⟨hI,f0,f1,f2,f3,f4,f5,f6,f7,f8,f9,f10,f11,f12,f13,f14,f15,f16,f17,f18,f19,f20,f21,f22,f23,f24,f25,f26,f27,f28,f29,f30,f31,f32,f33,f34,f35,f36,f37,f38,f39,f40,f41,f42,fun _ => rfl,f44,f45,f46,f47,f48,f49,f50,f51,f52,f53⟩
  ·intro L x a wR K hL hd hf hx hΦ hK
   obtain ⟨hI,f0,f1,f2,f3,f4,f5,f6,f7,f8,f9,f10,f11,f12,f13,f14,f15,f16,f17,f18,f19,f20,f21,f22,f23,f24,f25,f26,f27,f28,f29,f30,f31,f32,f33,f34,f35,f36,f37,f38,f39,f40,f41,f42,f43,f44,f45,f46,f47,f48,f49,f50,f51,f52,f53⟩:=hΦ
   refine ⟨fun _ => ?_,fun h => absurd h (by rw [Go.RE.wanted_none rfl]; decide)⟩
   have d43:=f43 (hd 43 (by kernel_rfl))
   have e77:a.tmps[77]? = some (x 77):=hx 43 _ 77 rfl rfl (hd 43 (by kernel_rfl))
   rw [d43] at e77
   clear hf hx hd
   go_simp
   refine hK _ _ ?_
   exact ⟨hI,f0,f1,f2,f3,f4,f5,f6,f7,f8,f9,f10,f11,f12,f13,f14,f15,f16,f17,f18,f19,f20,f21,f22,f23,f24,f25,f26,f27,f28,f29,f30,f31,f32,f33,f34,f35,f36,f37,f38,f39,f40,f41,f42,f43,fun _ => rfl,f45,f46,f47,f48,f49,f50,f51,f52,f53⟩
  ·intro L x a wR K hL hd hf hx hΦ hK
   obtain ⟨hI,f0,f1,f2,f3,f4,f5,f6,f7,f8,f9,f10,f11,f12,f13,f14,f15,f16,f17,f18,f19,f20,f21,f22,f23,f24,f25,f26,f27,f28,f29,f30,f31,f32,f33,f34,f35,f36,f37,f38,f39,f40,f41,f42,f43,f44,f45,f46,f47,f48,f49,f50,f51,f52,f53⟩:=hΦ
   have g44:=f44 (hd 44 (by kernel_rfl))
   have ge:a.tmps[78]? = some (x 78):=hx 44 _ 78 rfl rfl (hd 44 (by kernel_rfl))
   rw [g44] at ge
   refine ⟨fun _ => ?_,fun h => absurd h (by rw [Go.RE.wanted_of rfl (Go.RE.yielded_of rfl rfl ge)]; decide)⟩
   have e4:a.tmps[4]? = some (.pointer (some ⟨WD.heap.size + 1,0,none⟩)):=hf 4 (of_decide_eq_true (by kernel_rfl))
   have hk:=(hI.block _ (HK.blk_lt B4.out)).trans B4.out
   have c0:=HK.blk_cell hk 0
   have c1:=HK.blk_cell hk 1
   have c2:=HK.blk_cell hk 2
   have c3:=HK.blk_cell hk 3
   clear hf hx hd
   go_simp
   refine hK _ _ ?_
   exact ⟨hI,f0,f1,f2,f3,f4,f5,f6,f7,f8,f9,f10,f11,f12,f13,f14,f15,f16,f17,f18,f19,f20,f21,f22,f23,f24,f25,f26,f27,f28,f29,f30,f31,f32,f33,f34,f35,f36,f37,f38,f39,f40,f41,f42,f43,f44,fun _ => F33.out.up hI,f46,f47,f48,f49,f50,f51,f52,f53⟩
  ·intro L x a wR K hL hd hf hx hΦ hK
   obtain ⟨hI,f0,f1,f2,f3,f4,f5,f6,f7,f8,f9,f10,f11,f12,f13,f14,f15,f16,f17,f18,f19,f20,f21,f22,f23,f24,f25,f26,f27,f28,f29,f30,f31,f32,f33,f34,f35,f36,f37,f38,f39,f40,f41,f42,f43,f44,f45,f46,f47,f48,f49,f50,f51,f52,f53⟩:=hΦ
   have g44:=f44 (hd 44 (by kernel_rfl))
   have ge:a.tmps[78]? = some (x 78):=hx 44 _ 78 rfl rfl (hd 44 (by kernel_rfl))
   rw [g44] at ge
   refine ⟨fun _ => ?_,fun h => absurd h (by rw [Go.RE.wanted_of rfl (Go.RE.yielded_of rfl rfl ge)]; decide)⟩
   clear hf hx hd
   go_simp
   refine hK _ _ ?_
   exact ⟨hI,f0,f1,f2,f3,f4,f5,f6,f7,f8,f9,f10,f11,f12,f13,f14,f15,f16,f17,f18,f19,f20,f21,f22,f23,f24,f25,f26,f27,f28,f29,f30,f31,f32,f33,f34,f35,f36,f37,f38,f39,f40,f41,f42,f43,f44,f45,fun _ => ⟨⟨none,0,0⟩,⟨none,0,0⟩,rfl,.nil _ _,.nil _ _,by show (15:Nat) < 256; decide,by show (2:Nat) <= _; decide⟩,f47,f48,f49,f50,f51,f52,f53⟩
  ·intro L x a wR K hL hd hf hx hΦ hK
   obtain ⟨hI,f0,f1,f2,f3,f4,f5,f6,f7,f8,f9,f10,f11,f12,f13,f14,f15,f16,f17,f18,f19,f20,f21,f22,f23,f24,f25,f26,f27,f28,f29,f30,f31,f32,f33,f34,f35,f36,f37,f38,f39,f40,f41,f42,f43,f44,f45,f46,f47,f48,f49,f50,f51,f52,f53⟩:=hΦ
   have g44:=f44 (hd 44 (by kernel_rfl))
   have ge:a.tmps[78]? = some (x 78):=hx 44 _ 78 rfl rfl (hd 44 (by kernel_rfl))
   rw [g44] at ge
   refine ⟨fun _ => ?_,fun h => absurd h (by rw [Go.RE.wanted_of rfl (Go.RE.yielded_of rfl rfl ge)]; decide)⟩
   have d46:=f46 (hd 46 (by kernel_rfl))
   have e80:a.tmps[80]? = some (x 80):=hx 46 _ 80 rfl rfl (hd 46 (by kernel_rfl))
   obtain ⟨o80,n80,a80,an80,ac80,b80,bn80,bc80,hx80,hv80⟩:=d46.fx
   rw [hx80] at e80
   have hlo:w.heap.size <= wR.heap.size:=Nat.le_trans HB.out.size hI.size
   clear hf hx hd
   go_simp
   refine hK _ _ ?_
   exact ⟨hI.trans ((bl_al9 _).mono hI.size),fun h=>(f0 h).up (bl_al9 _),fun h=>(f1 h).up (bl_al9 _),fun h=>(f2 h).up (bl_al9 _),fun h=>(f3 h).up (bl_al9 _),fun h=>(f4 h).up (bl_al9 _),fun h=>(f5 h).up (bl_al9 _),fun h=>(f6 h).up (bl_al9 _),f7,f8,f9,f10,fun h=>(f11 h).up (bl_al9 _),fun h=>(f12 h).up (bl_al9 _),fun h=>(f13 h).up (bl_al9 _),fun h=>(f14 h).up (bl_al9 _),fun h=>(f15 h).up (bl_al9 _),fun h=>(f16 h).up (bl_al9 _),fun h=>(f17 h).up (bl_al9 _),f18,f19,f20,f21,fun h=>(f22 h).up (bl_al9 _),fun h=>(f23 h).up (bl_al9 _),fun h=>(f24 h).up (bl_al9 _),fun h=>(f25 h).up (bl_al9 _),fun h=>(f26 h).up (bl_al9 _),fun h=>(f27 h).up (bl_al9 _),fun h=>(f28 h).up (bl_al9 _),fun h=>(f29 h).up (bl_al9 _),fun h=>(f30 h).up (bl_al9 _),fun h=>(f31 h).up (bl_al9 _),fun h=>(f32 h).up (bl_al9 _),f33,f34,f35,f36,fun h=>(f37 h).up (bl_al9 _),fun h=>(f38 h).up (bl_al9 _),fun h=>(f39 h).up (bl_al9 _),fun h=>(f40 h).up (bl_al9 _),f41,f42,f43,f44,fun h=>(f45 h).up (bl_al9 _),fun h=>(f46 h).up (bl_al9 _),fun _ => fs_one hv80 hlo,fun h=>(f48 h).up (bl_al9 _),fun h=>(f49 h).up (bl_al9 _),fun h=>(f50 h).up (bl_al9 _),f51,f52,f53⟩
  ·intro L x a wR K hL hd hf hx hΦ hK
   obtain ⟨hI,f0,f1,f2,f3,f4,f5,f6,f7,f8,f9,f10,f11,f12,f13,f14,f15,f16,f17,f18,f19,f20,f21,f22,f23,f24,f25,f26,f27,f28,f29,f30,f31,f32,f33,f34,f35,f36,f37,f38,f39,f40,f41,f42,f43,f44,f45,f46,f47,f48,f49,f50,f51,f52,f53⟩:=hΦ
   have g44:=f44 (hd 44 (by kernel_rfl))
   have ge:a.tmps[78]? = some (x 78):=hx 44 _ 78 rfl rfl (hd 44 (by kernel_rfl))
   rw [g44] at ge
   refine ⟨fun _ => ?_,fun h => absurd h (by rw [Go.RE.wanted_of rfl (Go.RE.yielded_of rfl rfl ge)]; decide)⟩
   have d47:=f47 (hd 47 (by kernel_rfl))
   have e81:a.tmps[81]? = some (x 81):=hx 47 _ 81 rfl rfl (hd 47 (by kernel_rfl))
   obtain ⟨⟨a81,an81,ac81⟩,hx81,hs81⟩:=d47
   simp only [SL.v] at hx81
   rw [hx81] at e81
   have hS81:FsV wR w.heap.size awg81 (.slice a81 an81 ac81):=⟨⟨a81,an81,ac81⟩,rfl,hs81⟩
   clear hf hx hd
   go_simp
   go_at_call 20
   with_reducible refine (of9 _ w.heap.size _ _ _ _ hS81).mono ?_
   rintro e w' ⟨rfl,hB8,hf8⟩
   simp only
   refine hK _ _ ?_
   exact ⟨hI.trans (hB8.mono hI.size),fun h=>(f0 h).up hB8,fun h=>(f1 h).up hB8,fun h=>(f2 h).up hB8,fun h=>(f3 h).up hB8,fun h=>(f4 h).up hB8,fun h=>(f5 h).up hB8,fun h=>(f6 h).up hB8,f7,f8,f9,f10,fun h=>(f11 h).up hB8,fun h=>(f12 h).up hB8,fun h=>(f13 h).up hB8,fun h=>(f14 h).up hB8,fun h=>(f15 h).up hB8,fun h=>(f16 h).up hB8,fun h=>(f17 h).up hB8,f18,f19,f20,f21,fun h=>(f22 h).up hB8,fun h=>(f23 h).up hB8,fun h=>(f24 h).up hB8,fun h=>(f25 h).up hB8,fun h=>(f26 h).up hB8,fun h=>(f27 h).up hB8,fun h=>(f28 h).up hB8,fun h=>(f29 h).up hB8,fun h=>(f30 h).up hB8,fun h=>(f31 h).up hB8,fun h=>(f32 h).up hB8,f33,f34,f35,f36,fun h=>(f37 h).up hB8,fun h=>(f38 h).up hB8,fun h=>(f39 h).up hB8,fun h=>(f40 h).up hB8,f41,f42,f43,f44,fun h=>(f45 h).up hB8,fun h=>(f46 h).up hB8,fun h=>(f47 h).up hB8,fun _ => hf8,fun h=>(f49 h).up hB8,fun h=>(f50 h).up hB8,f51,f52,f53⟩
  ·intro L x a wR K hL hd hf hx hΦ hK
   obtain ⟨hI,f0,f1,f2,f3,f4,f5,f6,f7,f8,f9,f10,f11,f12,f13,f14,f15,f16,f17,f18,f19,f20,f21,f22,f23,f24,f25,f26,f27,f28,f29,f30,f31,f32,f33,f34,f35,f36,f37,f38,f39,f40,f41,f42,f43,f44,f45,f46,f47,f48,f49,f50,f51,f52,f53⟩:=hΦ
   have g44:=f44 (hd 44 (by kernel_rfl))
   have ge:a.tmps[78]? = some (x 78):=hx 44 _ 78 rfl rfl (hd 44 (by kernel_rfl))
   rw [g44] at ge
   refine ⟨fun _ => ?_,fun h => absurd h (by rw [Go.RE.wanted_of rfl (Go.RE.yielded_of rfl rfl ge)]; decide)⟩
   have d45:=f45 (hd 45 (by kernel_rfl))
   have e79:a.tmps[79]? = some (x 79):=hx 45 _ 79 rfl rfl (hd 45 (by kernel_rfl))
   have d48:=f48 (hd 48 (by kernel_rfl))
   have e82:a.tmps[82]? = some (x 82):=hx 48 _ 82 rfl rfl (hd 48 (by kernel_rfl))
   obtain ⟨o79,n79,a79,an79,ac79,b79,bn79,bc79,hx79,hv79⟩:=d45.fx
   rw [hx79] at e79
   obtain ⟨o82,n82,a82,an82,ac82,b82,bn82,bc82,hx82,hv82⟩:=d48.fx
   rw [hx82] at e82
   have hlo:w.heap.size <= wR.heap.size:=Nat.le_trans HB.out.size hI.size
   clear hf hx hd
   go_simp
   refine hK _ _ ?_
   exact ⟨hI.trans ((bl_al9 _).mono hI.size),fun h=>(f0 h).up (bl_al9 _),fun h=>(f1 h).up (bl_al9 _),fun h=>(f2 h).up (bl_al9 _),fun h=>(f3 h).up (bl_al9 _),fun h=>(f4 h).up (bl_al9 _),fun h=>(f5 h).up (bl_al9 _),fun h=>(f6 h).up (bl_al9 _),f7,f8,f9,f10,fun h=>(f11 h).up (bl_al9 _),fun h=>(f12 h).up (bl_al9 _),fun h=>(f13 h).up (bl_al9 _),fun h=>(f14 h).up (bl_al9 _),fun h=>(f15 h).up (bl_al9 _),fun h=>(f16 h).up (bl_al9 _),fun h=>(f17 h).up (bl_al9 _),f18,f19,f20,f21,fun h=>(f22 h).up (bl_al9 _),fun h=>(f23 h).up (bl_al9 _),fun h=>(f24 h).up (bl_al9 _),fun h=>(f25 h).up (bl_al9 _),fun h=>(f26 h).up (bl_al9 _),fun h=>(f27 h).up (bl_al9 _),fun h=>(f28 h).up (bl_al9 _),fun h=>(f29 h).up (bl_al9 _),fun h=>(f30 h).up (bl_al9 _),fun h=>(f31 h).up (bl_al9 _),fun h=>(f32 h).up (bl_al9 _),f33,f34,f35,f36,fun h=>(f37 h).up (bl_al9 _),fun h=>(f38 h).up (bl_al9 _),fun h=>(f39 h).up (bl_al9 _),fun h=>(f40 h).up (bl_al9 _),f41,f42,f43,f44,fun h=>(f45 h).up (bl_al9 _),fun h=>(f46 h).up (bl_al9 _),fun h=>(f47 h).up (bl_al9 _),fun h=>(f48 h).up (bl_al9 _),fun _ => fs_two hv79 hv82 hlo,fun h=>(f50 h).up (bl_al9 _),f51,f52,f53⟩
  ·intro L x a wR K hL hd hf hx hΦ hK
   obtain ⟨hI,f0,f1,f2,f3,f4,f5,f6,f7,f8,f9,f10,f11,f12,f13,f14,f15,f16,f17,f18,f19,f20,f21,f22,f23,f24,f25,f26,f27,f28,f29,f30,f31,f32,f33,f34,f35,f36,f37,f38,f39,f40,f41,f42,f43,f44,f45,f46,f47,f48,f49,f50,f51,f52,f53⟩:=hΦ
   have g44:=f44 (hd 44 (by kernel_rfl))
   have ge:a.tmps[78]? = some (x 78):=hx 44 _ 78 rfl rfl (hd 44 (by kernel_rfl))
   rw [g44] at ge
   refine ⟨fun _ => ?_,fun h => absurd h (by rw [Go.RE.wanted_of rfl (Go.RE.yielded_of rfl rfl ge)]; decide)⟩
   have d49:=f49 (hd 49 (by kernel_rfl))
   have e83:a.tmps[83]? = some (x 83):=hx 49 _ 83 rfl rfl (hd 49 (by kernel_rfl))
   obtain ⟨⟨a83,an83,ac83⟩,hx83,hs83⟩:=d49
   simp only [SL.v] at hx83
   rw [hx83] at e83
   have hS83:FsV wR w.heap.size awg83 (.slice a83 an83 ac83):=⟨⟨a83,an83,ac83⟩,rfl,hs83⟩
   clear hf hx hd
   go_simp
   go_at_call 20
   with_reducible refine (of4 _ w.heap.size _ _ _ _ hS83).mono ?_
   rintro e w' ⟨rfl,hB8,hf8⟩
   simp only
   refine hK _ _ ?_
   exact ⟨hI.trans (hB8.mono hI.size),fun h=>(f0 h).up hB8,fun h=>(f1 h).up hB8,fun h=>(f2 h).up hB8,fun h=>(f3 h).up hB8,fun h=>(f4 h).up hB8,fun h=>(f5 h).up hB8,fun h=>(f6 h).up hB8,f7,f8,f9,f10,fun h=>(f11 h).up hB8,fun h=>(f12 h).up hB8,fun h=>(f13 h).up hB8,fun h=>(f14 h).up hB8,fun h=>(f15 h).up hB8,fun h=>(f16 h).up hB8,fun h=>(f17 h).up hB8,f18,f19,f20,f21,fun h=>(f22 h).up hB8,fun h=>(f23 h).up hB8,fun h=>(f24 h).up hB8,fun h=>(f25 h).up hB8,fun h=>(f26 h).up hB8,fun h=>(f27 h).up hB8,fun h=>(f28 h).up hB8,fun h=>(f29 h).up hB8,fun h=>(f30 h).up hB8,fun h=>(f31 h).up hB8,fun h=>(f32 h).up hB8,f33,f34,f35,f36,fun h=>(f37 h).up hB8,fun h=>(f38 h).up hB8,fun h=>(f39 h).up hB8,fun h=>(f40 h).up hB8,f41,f42,f43,f44,fun h=>(f45 h).up hB8,fun h=>(f46 h).up hB8,fun h=>(f47 h).up hB8,fun h=>(f48 h).up hB8,fun h=>(f49 h).up hB8,fun _ => hf8,f51,f52,f53⟩
  ·intro L x a wR K hL hd hf hx hΦ hK
   obtain ⟨hI,f0,f1,f2,f3,f4,f5,f6,f7,f8,f9,f10,f11,f12,f13,f14,f15,f16,f17,f18,f19,f20,f21,f22,f23,f24,f25,f26,f27,f28,f29,f30,f31,f32,f33,f34,f35,f36,f37,f38,f39,f40,f41,f42,f43,f44,f45,f46,f47,f48,f49,f50,f51,f52,f53⟩:=hΦ
   have g44:=f44 (hd 44 (by kernel_rfl))
   have ge:a.tmps[78]? = some (x 78):=hx 44 _ 78 rfl rfl (hd 44 (by kernel_rfl))
   rw [g44] at ge
   refine ⟨fun _ => ?_,fun h => absurd h (by rw [Go.RE.wanted_of rfl (Go.RE.yielded_of rfl rfl ge)]; decide)⟩
   have d50:=f50 (hd 50 (by kernel_rfl))
   have e84:a.tmps[84]? = some (x 84):=hx 50 _ 84 rfl rfl (hd 50 (by kernel_rfl))
   obtain ⟨o84,n84,a84,an84,ac84,b84,bn84,bc84,hx84,hv84⟩:=d50.fx
   rw [hx84] at e84
   clear hf hx hd
   go_simp
   go_at_call 23
   with_reducible refine (HM5.out _ _ hI hv84).mono ?_
   rintro e w' ⟨rfl,hB8⟩
   simp only
   refine hK _ _ ?_
   exact ⟨hI.trans (hB8.mono hI.size),fun h=>(f0 h).up hB8,fun h=>(f1 h).up hB8,fun h=>(f2 h).up hB8,fun h=>(f3 h).up hB8,fun h=>(f4 h).up hB8,fun h=>(f5 h).up hB8,fun h=>(f6 h).up hB8,f7,f8,f9,f10,fun h=>(f11 h).up hB8,fun h=>(f12 h).up hB8,fun h=>(f13 h).up hB8,fun h=>(f14 h).up hB8,fun h=>(f15 h).up hB8,fun h=>(f16 h).up hB8,fun h=>(f17 h).up hB8,f18,f19,f20,f21,fun h=>(f22 h).up hB8,fun h=>(f23 h).up hB8,fun h=>(f24 h).up hB8,fun h=>(f25 h).up hB8,fun h=>(f26 h).up hB8,fun h=>(f27 h).up hB8,fun h=>(f28 h).up hB8,fun h=>(f29 h).up hB8,fun h=>(f30 h).up hB8,fun h=>(f31 h).up hB8,fun h=>(f32 h).up hB8,f33,f34,f35,f36,fun h=>(f37 h).up hB8,fun h=>(f38 h).up hB8,fun h=>(f39 h).up hB8,fun h=>(f40 h).up hB8,f41,f42,f43,f44,fun h=>(f45 h).up hB8,fun h=>(f46 h).up hB8,fun h=>(f47 h).up hB8,fun h=>(f48 h).up hB8,fun h=>(f49 h).up hB8,fun h=>(f50 h).up hB8,fun _ => rfl,f52,f53⟩
  ·intro L x a wR K hL hd hf hx hΦ hK
   obtain ⟨hI,f0,f1,f2,f3,f4,f5,f6,f7,f8,f9,f10,f11,f12,f13,f14,f15,f16,f17,f18,f19,f20,f21,f22,f23,f24,f25,f26,f27,f28,f29,f30,f31,f32,f33,f34,f35,f36,f37,f38,f39,f40,f41,f42,f43,f44,f45,f46,f47,f48,f49,f50,f51,f52,f53⟩:=hΦ
   have g44:=f44 (hd 44 (by kernel_rfl))
   have ge:a.tmps[78]? = some (x 78):=hx 44 _ 78 rfl rfl (hd 44 (by kernel_rfl))
   rw [g44] at ge
   refine ⟨fun _ => ?_,fun h => absurd h (by rw [Go.RE.wanted_of rfl (Go.RE.yielded_of rfl rfl ge)]; decide)⟩
   have d51:=f51 (hd 51 (by kernel_rfl))
   have e85:a.tmps[85]? = some (x 85):=hx 51 _ 85 rfl rfl (hd 51 (by kernel_rfl))
   rw [d51] at e85
   clear hf hx hd
   go_simp
   refine hK _ _ ?_
   exact ⟨hI,f0,f1,f2,f3,f4,f5,f6,f7,f8,f9,f10,f11,f12,f13,f14,f15,f16,f17,f18,f19,f20,f21,f22,f23,f24,f25,f26,f27,f28,f29,f30,f31,f32,f33,f34,f35,f36,f37,f38,f39,f40,f41,f42,f43,f44,f45,f46,f47,f48,f49,f50,f51,fun _ => rfl,f53⟩
  ·intro L x a wR K hL hd hf hx hΦ hK
   obtain ⟨hI,f0,f1,f2,f3,f4,f5,f6,f7,f8,f9,f10,f11,f12,f13,f14,f15,f16,f17,f18,f19,f20,f21,f22,f23,f24,f25,f26,f27,f28,f29,f30,f31,f32,f33,f34,f35,f36,f37,f38,f39,f40,f41,f42,f43,f44,f45,f46,f47,f48,f49,f50,f51,f52,f53⟩:=hΦ
   refine ⟨fun _ => ?_,fun h => absurd h (by rw [Go.RE.wanted_none rfl]; decide)⟩
   have d44:=f44 (hd 44 (by kernel_rfl))
   have e78:a.tmps[78]? = some (x 78):=hx 44 _ 78 rfl rfl (hd 44 (by kernel_rfl))
   rw [d44] at e78
   have d52:=f52 (hd 52 (by kernel_rfl))
   have e86:a.tmps[86]? = some (x 86):=hx 52 _ 86 rfl rfl (hd 52 (by kernel_rfl))
   rw [d52] at e86
   clear hf hx hd
   go_simp
   refine hK _ _ ?_
   exact ⟨hI,f0,f1,f2,f3,f4,f5,f6,f7,f8,f9,f10,f11,f12,f13,f14,f15,f16,f17,f18,f19,f20,f21,f22,f23,f24,f25,f26,f27,f28,f29,f30,f31,f32,f33,f34,f35,f36,f37,f38,f39,f40,f41,f42,f43,f44,f45,f46,f47,f48,f49,f50,f51,f52,fun _ => rfl⟩
  ·rintro x W ⟨hI,f0,f1,f2,f3,f4,f5,f6,f7,f8,f9,f10,f11,f12,f13,f14,f15,f16,f17,f18,f19,f20,f21,f22,f23,f24,f25,f26,f27,f28,f29,f30,f31,f32,f33,f34,f35,f36,f37,f38,f39,f40,f41,f42,f43,f44,f45,f46,f47,f48,f49,f50,f51,f52,f53⟩
   simp only [Exit.then]
   go_step
   go_meet
   exact ⟨f53 rfl,hI⟩
 case rest =>
  obtain ⟨rfl,hB3⟩:=hcut
  obtain ⟨w6,hw6⟩:∃ w6:World,w6 = wc:=⟨_,rfl⟩
  subst hw6
  have HB6:=hid (HB.out.trans (hB3.mono HB.out.size))
  clear hB3 F18 F22 F29 F33 B1 B2 B3 B4 HM1 HM2 HM3 HM4 HM5 G14 G17 G21 G25 G28
  have HZ:Hid (∀ W,Calls Tryz.prog 11 #[.agg #[.int .u8 0,.string ⟨#[]⟩,.slice none 0 0,.slice none 0 0],.agg #[.int .u8 0,.string ⟨#[]⟩,.slice none 0 0,.slice none 0 0]] W fun e w' => e = .returned (.bool true) /\ Below W.heap.size W w'):=hid fun W => same_v (l1:=0) (l2:=0) (f:=.mk 0 ⟨#[]⟩ [] []) ⟨⟨none,0,0⟩,⟨none,0,0⟩,rfl,.nil _ _,.nil _ _,by show (0:Nat) < 256; decide,by show (0:Nat) <= _; decide⟩ ⟨⟨none,0,0⟩,⟨none,0,0⟩,rfl,.nil _ _,.nil _ _,by show (0:Nat) < 256; decide,by show (0:Nat) <= _; decide⟩ (by decide)
  have HF0:Hid (∀ W,Below w6.heap.size w6 W -> Calls Tryz.prog 9 #[.string ⟨#[80,32,38]⟩] W fun E W' => Below W.heap.size W W' /\ E = .returned (.tuple #[.agg #[.int .u8 0,.string ⟨#[]⟩,.slice none 0 0,.slice none 0 0],.int .i64 3,.int .i64 50])):=hid fun W hB => by
   have hb:=HB6.out.trans (hB.mono HB6.out.size)
   have:=form_call W ⟨#[80,32,38]⟩ (by decide) (HG.out.below hb) (HV.out.turn (hb.block 0 HV.out.pos)) (HR.out.turn (hb.block 1 HR.out.pos)) awB0
   rw [show (formA (.bad 3 50) = .bad 3 50) from rfl] at this
   exact this
  have HF1:Hid (∀ W,Below w6.heap.size w6 W -> Calls Tryz.prog 9 #[.string ⟨#[80,32,81]⟩] W fun E W' => Below W.heap.size W W' /\ E = .returned (.tuple #[.agg #[.int .u8 0,.string ⟨#[]⟩,.slice none 0 0,.slice none 0 0],.int .i64 2,.int .i64 50])):=hid fun W hB => by
   have hb:=HB6.out.trans (hB.mono HB6.out.size)
   have:=form_call W ⟨#[80,32,81]⟩ (by decide) (HG.out.below hb) (HV.out.turn (hb.block 0 HV.out.pos)) (HR.out.turn (hb.block 1 HR.out.pos)) awB1
   rw [show (formA (.bad 2 50) = .bad 2 50) from rfl] at this
   exact this
  have HF2:Hid (∀ W,Below w6.heap.size w6 W -> Calls Tryz.prog 9 #[.string ⟨#[97,108,108,32,97,32,80]⟩] W fun E W' => Below W.heap.size W W' /\ E = .returned (.tuple #[.agg #[.int .u8 0,.string ⟨#[]⟩,.slice none 0 0,.slice none 0 0],.int .i64 4,.int .i64 50])):=hid fun W hB => by
   have hb:=HB6.out.trans (hB.mono HB6.out.size)
   have:=form_call W ⟨#[97,108,108,32,97,32,80]⟩ (by decide) (HG.out.below hb) (HV.out.turn (hb.block 0 HV.out.pos)) (HR.out.turn (hb.block 1 HR.out.pos)) awB2
   rw [show (formA (.bad 4 50) = .bad 4 50) from rfl] at this
   exact this
  have HF3:Hid (∀ W,Below w6.heap.size w6 W -> Calls Tryz.prog 9 #[.string ⟨#[80,40]⟩] W fun E W' => Below W.heap.size W W' /\ E = .returned (.tuple #[.agg #[.int .u8 0,.string ⟨#[]⟩,.slice none 0 0,.slice none 0 0],.int .i64 2,.int .i64 50])):=hid fun W hB => by
   have hb:=HB6.out.trans (hB.mono HB6.out.size)
   have:=form_call W ⟨#[80,40]⟩ (by decide) (HG.out.below hb) (HV.out.turn (hb.block 0 HV.out.pos)) (HR.out.turn (hb.block 1 HR.out.pos)) awB3
   rw [show (formA (.bad 2 50) = .bad 2 50) from rfl] at this
   exact this
  have HF4:Hid (∀ W,Below w6.heap.size w6 W -> Calls Tryz.prog 9 #[.string ⟨#[80,40,41]⟩] W fun E W' => Below W.heap.size W W' /\ E = .returned (.tuple #[.agg #[.int .u8 0,.string ⟨#[]⟩,.slice none 0 0,.slice none 0 0],.int .i64 2,.int .i64 50])):=hid fun W hB => by
   have hb:=HB6.out.trans (hB.mono HB6.out.size)
   have:=form_call W ⟨#[80,40,41]⟩ (by decide) (HG.out.below hb) (HV.out.turn (hb.block 0 HV.out.pos)) (HR.out.turn (hb.block 1 HR.out.pos)) awB4
   rw [show (formA (.bad 2 50) = .bad 2 50) from rfl] at this
   exact this
  have HF5:Hid (∀ W,Below w6.heap.size w6 W -> Calls Tryz.prog 9 #[.string ⟨#[40,80]⟩] W fun E W' => Below W.heap.size W W' /\ E = .returned (.tuple #[.agg #[.int .u8 0,.string ⟨#[]⟩,.slice none 0 0,.slice none 0 0],.int .i64 2,.int .i64 50])):=hid fun W hB => by
   have hb:=HB6.out.trans (hB.mono HB6.out.size)
   have:=form_call W ⟨#[40,80]⟩ (by decide) (HG.out.below hb) (HV.out.turn (hb.block 0 HV.out.pos)) (HR.out.turn (hb.block 1 HR.out.pos)) awB5
   rw [show (formA (.bad 2 50) = .bad 2 50) from rfl] at this
   exact this
  have HF6:Hid (∀ W,Below w6.heap.size w6 W -> Calls Tryz.prog 9 #[.string ⟨#[63,65]⟩] W fun E W' => Below W.heap.size W W' /\ E = .returned (.tuple #[.agg #[.int .u8 0,.string ⟨#[]⟩,.slice none 0 0,.slice none 0 0],.int .i64 0,.int .i64 50])):=hid fun W hB => by
   have hb:=HB6.out.trans (hB.mono HB6.out.size)
   have:=form_call W ⟨#[63,65]⟩ (by decide) (HG.out.below hb) (HV.out.turn (hb.block 0 HV.out.pos)) (HR.out.turn (hb.block 1 HR.out.pos)) awB6
   rw [show (formA (.bad 0 50) = .bad 0 50) from rfl] at this
   exact this
  have HF7:Hid (∀ W,Below w6.heap.size w6 W -> Calls Tryz.prog 9 #[.string ⟨#[80,40,97,44,32,97,44,32,97,44,32,97,44,32,97,41]⟩] W fun E W' => Below W.heap.size W W' /\ E = .returned (.tuple #[.agg #[.int .u8 0,.string ⟨#[]⟩,.slice none 0 0,.slice none 0 0],.int .i64 0,.int .i64 3])):=hid fun W hB => by
   have hb:=HB6.out.trans (hB.mono HB6.out.size)
   have:=form_call W ⟨#[80,40,97,44,32,97,44,32,97,44,32,97,44,32,97,41]⟩ (by decide) (HG.out.below hb) (HV.out.turn (hb.block 0 HV.out.pos)) (HR.out.turn (hb.block 1 HR.out.pos)) awB7
   rw [show (formA (.ok awG7) = .bad 0 3) from by simp [formA,awN7]] at this
   exact this
  have HF8:Hid (∀ W,Below w6.heap.size w6 W -> Calls Tryz.prog 9 #[.string ⟨#[]⟩] W fun E W' => Below W.heap.size W W' /\ E = .returned (.tuple #[.agg #[.int .u8 0,.string ⟨#[]⟩,.slice none 0 0,.slice none 0 0],.int .i64 0,.int .i64 50])):=hid fun W hB => by
   have hb:=HB6.out.trans (hB.mono HB6.out.size)
   have:=form_call W ⟨#[]⟩ (by decide) (HG.out.below hb) (HV.out.turn (hb.block 0 HV.out.pos)) (HR.out.turn (hb.block 1 HR.out.pos)) awB8
   rw [show (formA (.bad 0 50) = .bad 0 50) from rfl] at this
   exact this
  go_wp2_with (fail)
  have hrow:=HK.blk_new w6 (.cells #[.string ⟨#[80,32,38]⟩,.string ⟨#[80,32,81]⟩,.string ⟨#[97,108,108,32,97,32,80]⟩,.string ⟨#[80,40]⟩,.string ⟨#[80,40,41]⟩,.string ⟨#[40,80]⟩,.string ⟨#[63,65]⟩,.string ⟨#[80,40,97,44,32,97,44,32,97,44,32,97,44,32,97,41]⟩,.string ⟨#[]⟩] 9)
  have hB7:=HB6.out.alloc HB6.out.size (.cells #[.string ⟨#[80,32,38]⟩,.string ⟨#[80,32,81]⟩,.string ⟨#[97,108,108,32,97,32,80]⟩,.string ⟨#[80,40]⟩,.string ⟨#[80,40,41]⟩,.string ⟨#[40,80]⟩,.string ⟨#[63,65]⟩,.string ⟨#[80,40,97,44,32,97,44,32,97,44,32,97,44,32,97,41]⟩,.string ⟨#[]⟩] 9)
  have h67:=bl_al9 (W:=w6) (.cells #[.string ⟨#[80,32,38]⟩,.string ⟨#[80,32,81]⟩,.string ⟨#[97,108,108,32,97,32,80]⟩,.string ⟨#[80,40]⟩,.string ⟨#[80,40,41]⟩,.string ⟨#[40,80]⟩,.string ⟨#[63,65]⟩,.string ⟨#[80,40,97,44,32,97,44,32,97,44,32,97,44,32,97,41]⟩,.string ⟨#[]⟩] 9)
  obtain ⟨w7,hw7⟩:∃ w7,w7 = w6.alloc (.cells #[.string ⟨#[80,32,38]⟩,.string ⟨#[80,32,81]⟩,.string ⟨#[97,108,108,32,97,32,80]⟩,.string ⟨#[80,40]⟩,.string ⟨#[80,40,41]⟩,.string ⟨#[40,80]⟩,.string ⟨#[63,65]⟩,.string ⟨#[80,40,97,44,32,97,44,32,97,44,32,97,44,32,97,41]⟩,.string ⟨#[]⟩] 9):=⟨_,rfl⟩
  rw [<- hw7] at hrow hB7 h67 ⊢
  have HROW:=hid hrow
  have HB7:=hid hB7
  have H67:=hid h67
  clear hrow hB7 h67 hw7
  go_loopw [90] (fun i wr => ∃ j:Nat,j <= 9 /\ i = .int .i64 j /\ Below w7.heap.size w7 wr) (fun i _ => 9 - (intOf i).toNat)
  case atStart => exact ⟨0,by omega,rfl,Below.refl _ _⟩
  case round =>
   obtain ⟨j,hj,rfl,hB⟩:=hrel
   have hr:=(hB.block _ (HK.blk_lt HROW.out)).trans HROW.out
   have HBR:=hid hB
   have HRR:=hid hr
   have H6R:=hid (H67.out.trans (hB.mono H67.out.size))
   clear hB hr
   rcases (by omega:j = 0 ∨ j = 1 ∨ j = 2 ∨ j = 3 ∨ j = 4 ∨ j = 5 ∨ j = 6 ∨ j = 7 ∨ j = 8 ∨ j = 9) with rfl | rfl | rfl | rfl | rfl | rfl | rfl | rfl | rfl | rfl
   ·simp only [show ((0:Nat):Int) = 0 from rfl]
    have c:=HK.blk_cell HRR.out 0
    go_upto_region 8 with (fail)
    go_region
    go_wp2_with (fail)
    go_at_call 9
    have hb:=bl_dr9 (H6R.out.alloc H6R.out.size (.cells #[.int .i64 3,.int .i64 2,.int .i64 4,.int .i64 2,.int .i64 2,.int .i64 2,.int .i64 0,.int .i64 0,.int .i64 0] 3))
    have hb7:=bl_dr9 (HBR.out.alloc HBR.out.size (.cells #[.int .i64 3,.int .i64 2,.int .i64 4,.int .i64 2,.int .i64 2,.int .i64 2,.int .i64 0,.int .i64 0,.int .i64 0] 3))
    with_reducible refine (HF0.out _ hb).mono ?_
    rintro E wf ⟨hBf,rfl⟩
    have HBF:=hid (hb7.trans (hBf.mono hb7.size))
    clear hb hb7 hBf c
    go_wp2_with (fail)
    go_at_call 11
    have hb8:=HBF.out.alloc HBF.out.size (.cells #[.int .u8 0,.string ⟨#[]⟩,.slice none 0 0,.slice none 0 0] 28)
    with_reducible refine (HZ.out _).mono ?_
    rintro E wg ⟨rfl,hBg⟩
    have HBG:=hid (hb8.trans (hBg.mono hb8.size))
    clear hb8 hBg
    go_wp2_with (fail)
    go_roundw
    case rel => exact ⟨1,by omega,by go_num,HBG.out⟩
    case measure => simp [intOf]
   ·simp only [show ((1:Nat):Int) = 1 from rfl]
    have c:=HK.blk_cell HRR.out 1
    go_upto_region 8 with (fail)
    go_region
    go_wp2_with (fail)
    go_at_call 9
    have hb:=bl_dr9 (H6R.out.alloc H6R.out.size (.cells #[.int .i64 3,.int .i64 2,.int .i64 4,.int .i64 2,.int .i64 2,.int .i64 2,.int .i64 0,.int .i64 0,.int .i64 0] 3))
    have hb7:=bl_dr9 (HBR.out.alloc HBR.out.size (.cells #[.int .i64 3,.int .i64 2,.int .i64 4,.int .i64 2,.int .i64 2,.int .i64 2,.int .i64 0,.int .i64 0,.int .i64 0] 3))
    with_reducible refine (HF1.out _ hb).mono ?_
    rintro E wf ⟨hBf,rfl⟩
    have HBF:=hid (hb7.trans (hBf.mono hb7.size))
    clear hb hb7 hBf c
    go_wp2_with (fail)
    go_at_call 11
    have hb8:=HBF.out.alloc HBF.out.size (.cells #[.int .u8 0,.string ⟨#[]⟩,.slice none 0 0,.slice none 0 0] 28)
    with_reducible refine (HZ.out _).mono ?_
    rintro E wg ⟨rfl,hBg⟩
    have HBG:=hid (hb8.trans (hBg.mono hb8.size))
    clear hb8 hBg
    go_wp2_with (fail)
    go_roundw
    case rel => exact ⟨2,by omega,by go_num,HBG.out⟩
    case measure => simp [intOf]
   ·simp only [show ((2:Nat):Int) = 2 from rfl]
    have c:=HK.blk_cell HRR.out 2
    go_upto_region 8 with (fail)
    go_region
    go_wp2_with (fail)
    go_at_call 9
    have hb:=bl_dr9 (H6R.out.alloc H6R.out.size (.cells #[.int .i64 3,.int .i64 2,.int .i64 4,.int .i64 2,.int .i64 2,.int .i64 2,.int .i64 0,.int .i64 0,.int .i64 0] 3))
    have hb7:=bl_dr9 (HBR.out.alloc HBR.out.size (.cells #[.int .i64 3,.int .i64 2,.int .i64 4,.int .i64 2,.int .i64 2,.int .i64 2,.int .i64 0,.int .i64 0,.int .i64 0] 3))
    with_reducible refine (HF2.out _ hb).mono ?_
    rintro E wf ⟨hBf,rfl⟩
    have HBF:=hid (hb7.trans (hBf.mono hb7.size))
    clear hb hb7 hBf c
    go_wp2_with (fail)
    go_at_call 11
    have hb8:=HBF.out.alloc HBF.out.size (.cells #[.int .u8 0,.string ⟨#[]⟩,.slice none 0 0,.slice none 0 0] 28)
    with_reducible refine (HZ.out _).mono ?_
    rintro E wg ⟨rfl,hBg⟩
    have HBG:=hid (hb8.trans (hBg.mono hb8.size))
    clear hb8 hBg
    go_wp2_with (fail)
    go_roundw
    case rel => exact ⟨3,by omega,by go_num,HBG.out⟩
    case measure => simp [intOf]
   ·simp only [show ((3:Nat):Int) = 3 from rfl]
    have c:=HK.blk_cell HRR.out 3
    go_upto_region 8 with (fail)
    go_region
    go_wp2_with (fail)
    go_at_call 9
    have hb:=bl_dr9 (H6R.out.alloc H6R.out.size (.cells #[.int .i64 3,.int .i64 2,.int .i64 4,.int .i64 2,.int .i64 2,.int .i64 2,.int .i64 0,.int .i64 0,.int .i64 0] 3))
    have hb7:=bl_dr9 (HBR.out.alloc HBR.out.size (.cells #[.int .i64 3,.int .i64 2,.int .i64 4,.int .i64 2,.int .i64 2,.int .i64 2,.int .i64 0,.int .i64 0,.int .i64 0] 3))
    with_reducible refine (HF3.out _ hb).mono ?_
    rintro E wf ⟨hBf,rfl⟩
    have HBF:=hid (hb7.trans (hBf.mono hb7.size))
    clear hb hb7 hBf c
    go_wp2_with (fail)
    go_at_call 11
    have hb8:=HBF.out.alloc HBF.out.size (.cells #[.int .u8 0,.string ⟨#[]⟩,.slice none 0 0,.slice none 0 0] 28)
    with_reducible refine (HZ.out _).mono ?_
    rintro E wg ⟨rfl,hBg⟩
    have HBG:=hid (hb8.trans (hBg.mono hb8.size))
    clear hb8 hBg
    go_wp2_with (fail)
    go_roundw
    case rel => exact ⟨4,by omega,by go_num,HBG.out⟩
    case measure => simp [intOf]
   ·simp only [show ((4:Nat):Int) = 4 from rfl]
    have c:=HK.blk_cell HRR.out 4
    go_upto_region 8 with (fail)
    go_region
    go_wp2_with (fail)
    go_at_call 9
    have hb:=bl_dr9 (H6R.out.alloc H6R.out.size (.cells #[.int .i64 3,.int .i64 2,.int .i64 4,.int .i64 2,.int .i64 2,.int .i64 2,.int .i64 0,.int .i64 0,.int .i64 0] 3))
    have hb7:=bl_dr9 (HBR.out.alloc HBR.out.size (.cells #[.int .i64 3,.int .i64 2,.int .i64 4,.int .i64 2,.int .i64 2,.int .i64 2,.int .i64 0,.int .i64 0,.int .i64 0] 3))
    with_reducible refine (HF4.out _ hb).mono ?_
    rintro E wf ⟨hBf,rfl⟩
    have HBF:=hid (hb7.trans (hBf.mono hb7.size))
    clear hb hb7 hBf c
    go_wp2_with (fail)
    go_at_call 11
    have hb8:=HBF.out.alloc HBF.out.size (.cells #[.int .u8 0,.string ⟨#[]⟩,.slice none 0 0,.slice none 0 0] 28)
    with_reducible refine (HZ.out _).mono ?_
    rintro E wg ⟨rfl,hBg⟩
    have HBG:=hid (hb8.trans (hBg.mono hb8.size))
    clear hb8 hBg
    go_wp2_with (fail)
    go_roundw
    case rel => exact ⟨5,by omega,by go_num,HBG.out⟩
    case measure => simp [intOf]
   ·simp only [show ((5:Nat):Int) = 5 from rfl]
    have c:=HK.blk_cell HRR.out 5
    go_upto_region 8 with (fail)
    go_region
    go_wp2_with (fail)
    go_at_call 9
    have hb:=bl_dr9 (H6R.out.alloc H6R.out.size (.cells #[.int .i64 3,.int .i64 2,.int .i64 4,.int .i64 2,.int .i64 2,.int .i64 2,.int .i64 0,.int .i64 0,.int .i64 0] 3))
    have hb7:=bl_dr9 (HBR.out.alloc HBR.out.size (.cells #[.int .i64 3,.int .i64 2,.int .i64 4,.int .i64 2,.int .i64 2,.int .i64 2,.int .i64 0,.int .i64 0,.int .i64 0] 3))
    with_reducible refine (HF5.out _ hb).mono ?_
    rintro E wf ⟨hBf,rfl⟩
    have HBF:=hid (hb7.trans (hBf.mono hb7.size))
    clear hb hb7 hBf c
    go_wp2_with (fail)
    go_at_call 11
    have hb8:=HBF.out.alloc HBF.out.size (.cells #[.int .u8 0,.string ⟨#[]⟩,.slice none 0 0,.slice none 0 0] 28)
    with_reducible refine (HZ.out _).mono ?_
    rintro E wg ⟨rfl,hBg⟩
    have HBG:=hid (hb8.trans (hBg.mono hb8.size))
    clear hb8 hBg
    go_wp2_with (fail)
    go_roundw
    case rel => exact ⟨6,by omega,by go_num,HBG.out⟩
    case measure => simp [intOf]
   ·simp only [show ((6:Nat):Int) = 6 from rfl]
    have c:=HK.blk_cell HRR.out 6
    go_upto_region 8 with (fail)
    go_region
    go_wp2_with (fail)
    go_at_call 9
    have hb:=bl_dr9 (H6R.out.alloc H6R.out.size (.cells #[.int .i64 3,.int .i64 2,.int .i64 4,.int .i64 2,.int .i64 2,.int .i64 2,.int .i64 0,.int .i64 0,.int .i64 0] 3))
    have hb7:=bl_dr9 (HBR.out.alloc HBR.out.size (.cells #[.int .i64 3,.int .i64 2,.int .i64 4,.int .i64 2,.int .i64 2,.int .i64 2,.int .i64 0,.int .i64 0,.int .i64 0] 3))
    with_reducible refine (HF6.out _ hb).mono ?_
    rintro E wf ⟨hBf,rfl⟩
    have HBF:=hid (hb7.trans (hBf.mono hb7.size))
    clear hb hb7 hBf c
    go_wp2_with (fail)
    go_at_call 11
    have hb8:=HBF.out.alloc HBF.out.size (.cells #[.int .u8 0,.string ⟨#[]⟩,.slice none 0 0,.slice none 0 0] 28)
    with_reducible refine (HZ.out _).mono ?_
    rintro E wg ⟨rfl,hBg⟩
    have HBG:=hid (hb8.trans (hBg.mono hb8.size))
    clear hb8 hBg
    go_wp2_with (fail)
    go_roundw
    case rel => exact ⟨7,by omega,by go_num,HBG.out⟩
    case measure => simp [intOf]
   ·simp only [show ((7:Nat):Int) = 7 from rfl]
    have c:=HK.blk_cell HRR.out 7
    go_upto_region 8 with (fail)
    go_region
    go_wp2_with (fail)
    go_at_call 9
    have hb:=bl_dr9 (H6R.out.alloc H6R.out.size (.cells #[.int .i64 3,.int .i64 2,.int .i64 4,.int .i64 2,.int .i64 2,.int .i64 2,.int .i64 0,.int .i64 0,.int .i64 0] 3))
    have hb7:=bl_dr9 (HBR.out.alloc HBR.out.size (.cells #[.int .i64 3,.int .i64 2,.int .i64 4,.int .i64 2,.int .i64 2,.int .i64 2,.int .i64 0,.int .i64 0,.int .i64 0] 3))
    with_reducible refine (HF7.out _ hb).mono ?_
    rintro E wf ⟨hBf,rfl⟩
    have HBF:=hid (hb7.trans (hBf.mono hb7.size))
    clear hb hb7 hBf c
    go_wp2_with (fail)
    go_at_call 11
    have hb8:=HBF.out.alloc HBF.out.size (.cells #[.int .u8 0,.string ⟨#[]⟩,.slice none 0 0,.slice none 0 0] 28)
    with_reducible refine (HZ.out _).mono ?_
    rintro E wg ⟨rfl,hBg⟩
    have HBG:=hid (hb8.trans (hBg.mono hb8.size))
    clear hb8 hBg
    go_wp2_with (fail)
    go_roundw
    case rel => exact ⟨8,by omega,by go_num,HBG.out⟩
    case measure => simp [intOf]
   ·simp only [show ((8:Nat):Int) = 8 from rfl]
    have c:=HK.blk_cell HRR.out 8
    go_upto_region 8 with (fail)
    go_region
    go_wp2_with (fail)
    go_at_call 9
    have hb:=bl_dr9 (H6R.out.alloc H6R.out.size (.cells #[.int .i64 3,.int .i64 2,.int .i64 4,.int .i64 2,.int .i64 2,.int .i64 2,.int .i64 0,.int .i64 0,.int .i64 0] 3))
    have hb7:=bl_dr9 (HBR.out.alloc HBR.out.size (.cells #[.int .i64 3,.int .i64 2,.int .i64 4,.int .i64 2,.int .i64 2,.int .i64 2,.int .i64 0,.int .i64 0,.int .i64 0] 3))
    with_reducible refine (HF8.out _ hb).mono ?_
    rintro E wf ⟨hBf,rfl⟩
    have HBF:=hid (hb7.trans (hBf.mono hb7.size))
    clear hb hb7 hBf c
    go_wp2_with (fail)
    go_at_call 11
    have hb8:=HBF.out.alloc HBF.out.size (.cells #[.int .u8 0,.string ⟨#[]⟩,.slice none 0 0,.slice none 0 0] 28)
    with_reducible refine (HZ.out _).mono ?_
    rintro E wg ⟨rfl,hBg⟩
    have HBG:=hid (hb8.trans (hBg.mono hb8.size))
    clear hb8 hBg
    go_wp2_with (fail)
    go_roundw
    case rel => exact ⟨9,by omega,by go_num,HBG.out⟩
    case measure => simp [intOf]
   ·simp only [show ((9:Nat):Int) = 9 from rfl]
    go_wp2_with (fail)
    go_ret
    exact ⟨rfl,HB7.out.trans (HBR.out.mono HB7.out.size)⟩

end Go.Proofs.YtdobflpbkfkmgaaGreatDoor
