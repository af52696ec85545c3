import Derived.Test.YtdobflpbkfkmgaaGreatDoorLexN
import Derived.Deep.CutBlock
import Derived.Deep.CutRange
import Derived.Laws.EntriesVeiled
namespace Go.Proofs.YtdobflpbkfkmgaaGreatDoor
open Go.RowKit Lib
set_option linter.unusedVariables false
set_option linter.unusedSimpArgs false
set_option linter.unusedSectionVars false
def prefB (p s:ByteArray):Bool:=decide (p.size <= s.size) && decide (bys (s.extract 0 p.size) = bys p)
theorem bys_inj {a b:ByteArray}:bys a = bys b ↔ a = b:=by
 constructor
 ·intro h
  rw [bys_eq.1 h]
  exact bys_eq.1 rfl |>.symm ▸ rfl
 ·rintro rfl; rfl
set_option maxRecDepth 100000 in
set_option maxHeartbeats 1000000 in
theorem pref50 (w:World) (s p:ByteArray) (hs:s.size <= maxLen) (hp:p.size <= maxLen):Calls Tryz.prog 126 #[.string s,.string p] w (RetC w (prefB p s)):=by
 unfold maxLen at hs hp
 by_cases h1:p.size <= s.size
 ·have d1:decide (p.size <= s.size) = true:=decide_eq_true h1
  by_cases h2:s.extract 0 p.size = p
  ·have hr:prefB p s = true:=by simp [prefB,h1,h2]
   have e:((s.extract 0 p.size).toList == p.toList) = true:=by rw [h2]; simp
   have HR:=hid hr
   clear h2 hr
   go_enter Tryz.func126,Tryz.ntmps126
   go_wp2
   go_ret
   exact ⟨by rw [HR.out]; rfl,rfl⟩
  ·have hr:prefB p s = false:=by simp [prefB,h1,bys_inj,h2]
   have e:=bytes_ne h2
   have HR:=hid hr
   clear h2 hr
   go_enter Tryz.func126,Tryz.ntmps126
   go_wp2
   go_ret
   exact ⟨by rw [HR.out]; rfl,rfl⟩
 ·have d1:decide (p.size <= s.size) = false:=decide_eq_false h1
  have hr:prefB p s = false:=by simp [prefB,h1]
  have HR:=hid hr
  clear hr
  go_enter Tryz.func126,Tryz.ntmps126
  go_wp2
  go_ret
  exact ⟨by rw [HR.out]; rfl,rfl⟩
set_option maxRecDepth 100000 in
theorem hasPrefix_any (w:World) (s p:ByteArray) (hs:s.size <= maxLen) (hp:p.size <= maxLen):Calls Tryz.prog 118 #[.string s,.string p] w (RetC w (prefB p s)):=by
 go_enter Tryz.func118,Tryz.ntmps118
 go_wp2_with (go_at_call 126; (refine (pref50 w s p hs hp).mono ?_; rintro e w' ⟨rfl,rfl⟩))
 go_ret
 exact ⟨rfl,rfl⟩
def fmB (s:ByteArray):Bool:=decide (s.size <= 16) && prefB ⟨#[63]⟩ s && checkB capB alnumB (s.extract 1 s.size)
set_option maxRecDepth 100000 in
set_option maxHeartbeats 1000000 in
theorem formMeta_any (w:World) (s:ByteArray) (hs:s.size <= maxLen):Calls Tryz.prog 113 #[.string s] w (RetW w (fmB s)):=by
 have hpf:=hasPrefix_any w s ⟨#[63]⟩ hs (by decide)
 have hx:(s.extract 1 s.size).size <= maxLen:=by rw [ByteArray.size_extract]; omega
 have hck:=predicate_any w (s.extract 1 s.size) hx
 have hs':=hs
 unfold maxLen at hs'
 by_cases h1:s.size <= 16
 ·have d1:decide (s.size <= 16) = true:=decide_eq_true h1
  cases h2:prefB ⟨#[63]⟩ s with
  | true =>
   have h3:1 <= s.size:=by
    have:=h2
    simp only [prefB,Bool.and_eq_true,decide_eq_true_eq] at this
    exact this.1
   have hr:fmB s = checkB capB alnumB (s.extract 1 s.size):=by simp [fmB,h1,h2]
   rw [hr]
   rw [h2] at hpf
   have HPF:=hid hpf
   have HCK:=hid hck
   clear hr h2 hpf hck hx
   go_enter Tryz.func113,Tryz.ntmps113
   go_wp2_with (first
    | (go_at_call 118; (refine HPF.out.mono ?_; rintro e w' ⟨rfl,rfl⟩))
    | (go_at_call 112; (refine HCK.out.mono ?_; rintro e w' ⟨rfl,hB⟩)))
   go_ret
   exact ⟨rfl,hB⟩
  | false =>
   have hr:fmB s = false:=by simp [fmB,h2]
   rw [hr]
   rw [h2] at hpf
   have HPF:=hid hpf
   clear hr h2 hpf hck hx
   go_enter Tryz.func113,Tryz.ntmps113
   go_wp2_with (go_at_call 118; (refine HPF.out.mono ?_; rintro e w' ⟨rfl,rfl⟩))
   go_ret
   exact ⟨rfl,Below.refl _ _⟩
 ·have d1:decide (s.size <= 16) = false:=decide_eq_false h1
  have hr:fmB s = false:=by simp [fmB,h1]
  rw [hr]
  clear hr hpf hck hx
  go_enter Tryz.func113,Tryz.ntmps113
  go_wp2
  go_ret
  exact ⟨rfl,Below.refl _ _⟩
def tmB (s:ByteArray):Bool:=decide (s.size <= 16) && prefB ⟨#[63]⟩ s && checkB funB alnumB (s.extract 1 s.size)
set_option maxRecDepth 100000 in
set_option maxHeartbeats 1000000 in
theorem termMeta_any (w:World) (s:ByteArray) (hs:s.size <= maxLen):Calls Tryz.prog 92 #[.string s] w (RetW w (tmB s)):=by
 have hpf:=hasPrefix_any w s ⟨#[63]⟩ hs (by decide)
 have hx:(s.extract 1 s.size).size <= maxLen:=by rw [ByteArray.size_extract]; omega
 have hck:=function_any w (s.extract 1 s.size) hx
 have hs':=hs
 unfold maxLen at hs'
 by_cases h1:s.size <= 16
 ·have d1:decide (s.size <= 16) = true:=decide_eq_true h1
  cases h2:prefB ⟨#[63]⟩ s with
  | true =>
   have h3:1 <= s.size:=by
    have:=h2
    simp only [prefB,Bool.and_eq_true,decide_eq_true_eq] at this
    exact this.1
   have hr:tmB s = checkB funB alnumB (s.extract 1 s.size):=by simp [tmB,h1,h2]
   rw [hr]
   rw [h2] at hpf
   have HPF:=hid hpf
   have HCK:=hid hck
   clear hr h2 hpf hck hx
   go_enter Tryz.func92,Tryz.ntmps92
   go_wp2_with (first
    | (go_at_call 118; (refine HPF.out.mono ?_; rintro e w' ⟨rfl,rfl⟩))
    | (go_at_call 59; (refine HCK.out.mono ?_; rintro e w' ⟨rfl,hB⟩)))
   go_ret
   exact ⟨rfl,hB⟩
  | false =>
   have hr:tmB s = false:=by simp [tmB,h2]
   rw [hr]
   rw [h2] at hpf
   have HPF:=hid hpf
   clear hr h2 hpf hck hx
   go_enter Tryz.func92,Tryz.ntmps92
   go_wp2_with (go_at_call 118; (refine HPF.out.mono ?_; rintro e w' ⟨rfl,rfl⟩))
   go_ret
   exact ⟨rfl,Below.refl _ _⟩
 ·have d1:decide (s.size <= 16) = false:=decide_eq_false h1
  have hr:tmB s = false:=by simp [tmB,h1]
  rw [hr]
  clear hr hpf hck hx
  go_enter Tryz.func92,Tryz.ntmps92
  go_wp2
  go_ret
  exact ⟨rfl,Below.refl _ _⟩
def metaB (s:ByteArray):Bool:=fmB s || tmB s
set_option maxRecDepth 100000 in
set_option maxHeartbeats 1000000 in
theorem meta_any (w:World) (s:ByteArray) (hs:s.size <= maxLen):Calls Tryz.prog 138 #[.string s] w (RetW w (metaB s)):=by
 have h1:=formMeta_any w s hs
 cases hf:fmB s with
 | true =>
  rw [hf] at h1
  have H1:=hid h1
  have hr:metaB s = true:=by simp [metaB,hf]
  rw [hr]
  clear h1 hf hr
  go_enter Tryz.func138,Tryz.ntmps138
  go_wp2_with (go_at_call 113; (refine H1.out.mono ?_; rintro e w' ⟨rfl,hB⟩))
  go_ret
  exact ⟨rfl,hB⟩
 | false =>
  rw [hf] at h1
  have H1:=hid h1
  have hr:metaB s = tmB s:=by simp [metaB,hf]
  rw [hr]
  clear h1 hf hr
  go_enter Tryz.func138,Tryz.ntmps138
  go_wp2_with (first
   | (go_at_call 113; (refine H1.out.mono ?_; rintro e w1 ⟨rfl,hB1⟩))
   | (go_at_call 92; (refine (termMeta_any w1 s hs).mono ?_; rintro e w2 ⟨rfl,hB2⟩)))
  go_ret
  exact ⟨rfl,hB1.trans (hB2.mono hB1.size)⟩
end Go.Proofs.YtdobflpbkfkmgaaGreatDoor
namespace Go.Proofs.YtdobflpbkfkmgaaGreatDoor
open Go.RowKit
set_option linter.unusedVariables false
set_option linter.unusedSimpArgs false
set_option linter.unusedSectionVars false
def spanE (s:ByteArray) (i:Nat):Nat:=if i < s.size /\ alnumB (bt s i) = true then spanE s (i + 1) else i
termination_by s.size - i
theorem spanE_yes {s:ByteArray} {i:Nat} (h:i < s.size) (ha:alnumB (bt s i) = true):spanE s i = spanE s (i + 1):=by
 rw [spanE,if_pos ⟨h,ha⟩]
theorem spanE_no {s:ByteArray} {i:Nat} (h:¬ (i < s.size /\ alnumB (bt s i) = true)):spanE s i = i:=by
 rw [spanE,if_neg h]
structure Scan (w:World) (b at_:Nat) (s:ByteArray):Prop where
 h:w.heap[b]? = some (.cells #[.int .i64 at_,.string s] 112 (0,0))
theorem Scan.c0 {w:World} {b at_:Nat} {s:ByteArray} (h:Scan w b at_ s):w.cell? ⟨b,0,none⟩ = some (.int .i64 at_):=blk_cell h.h 0
theorem Scan.c1 {w:World} {b at_:Nat} {s:ByteArray} (h:Scan w b at_ s):w.cell? ⟨b,1,none⟩ = some (.string s):=blk_cell h.h 1
theorem Scan.below {w w':World} {b at_:Nat} {s:ByteArray} (h:Scan w b at_ s) (hb:Below w.heap.size w w'):Scan w' b at_ s :=
 ⟨(hb.block b (Array.getElem?_eq_some_iff.1 h.h).1).trans h.h⟩
def RetT (w:World) (x:ByteArray) (e:Ending) (w':World):Prop:=e = .returned (.string x) /\ ∃ d,w' = w.drewN d
set_option maxRecDepth 100000 in
set_option maxHeartbeats 2000000 in
theorem behind_any (w:World) (b at_:Nat) (s:ByteArray) (h:Scan w b at_ s) (hs:s.size <= maxLen) (ha:at_ + 1 <= s.size) :
  Calls Tryz.prog 136 #[.pointer (some ⟨b,0,none⟩),.int .i64 1] w (RetT w (s.extract at_ (spanE s (at_ + 1)))):=by
 unfold maxLen at hs
 have c0:=h.c0
 have c1:=h.c1
 go_enter Tryz.func136,Tryz.ntmps136
 go_wp2_with (fail)
 go_loop [5] (fun i => ∃ k:Nat,at_ + 1 <= k /\ k <= s.size /\ i = .int .i64 k /\ spanE s (at_ + 1) = spanE s k) (fun i => s.size - (intOf i).toNat)
 case atStart => exact ⟨at_ + 1,by omega,by omega,by go_num,rfl⟩
 case round =>
  obtain ⟨k,hk1,hk,rfl,he⟩:=hrel
  have HE:=Lib.hid he
  clear he
  by_cases hks:k < s.size
  ·have b0:(0:Int) <= (k:Int):=by omega
   have b1:(k:Int) < (s.size:Int):=by omega
   have d1:decide (k < s.size) = true:=decide_eq_true hks
   have hq:=alnum_any w ((s[k]'hks).toNat) (by rw [bt_eq]; exact bt_le s k)
   cases hal:alnumB (bt s k) with
   | true =>
    rw [bt_eq hks,hal] at hq
    have HQ:Hid (Calls Tryz.prog 141 #[.int .u8 ((s[k]'hks).toNat:Nat)] w (RetC w true)):=Lib.hid (by rw [bt_eq hks]; exact hq)
    have hsp:=spanE_yes hks hal
    have HSP:=Lib.hid hsp
    clear hq hal hsp
    go_wp2_with (go_at_call 141; (refine HQ.out.mono ?_; rintro e w' ⟨rfl,rfl⟩))
    go_round
    case rel => exact ⟨k + 1,by omega,by omega,by go_num,HE.out.trans HSP.out⟩
    case measure => simp [intOf]; omega
   | false =>
    rw [bt_eq hks,hal] at hq
    have HQ:Hid (Calls Tryz.prog 141 #[.int .u8 ((s[k]'hks).toNat:Nat)] w (RetC w false)):=Lib.hid (by rw [bt_eq hks]; exact hq)
    have hsp:spanE s k = k:=spanE_no (fun hh => by rw [hal] at hh; cases hh.2)
    have HSP:=Lib.hid hsp
    clear hq hal hsp
    go_wp2_with (go_at_call 141; (refine HQ.out.mono ?_; rintro e w' ⟨rfl,rfl⟩))
    go_quiet (fail)
    go_wp2_with (fail)
    go_ret
    exact ⟨by rw [HE.out,HSP.out]; rfl,_,rfl⟩
  ·have d1:decide (k < s.size) = false:=decide_eq_false hks
   have hsp:spanE s k = k:=spanE_no (fun hh => hks hh.1)
   have HSP:=Lib.hid hsp
   clear hsp
   go_wp2_with (fail)
   go_quiet (fail)
   go_wp2_with (fail)
   go_ret
   exact ⟨by rw [HE.out,HSP.out]; rfl,_,rfl⟩
end Go.Proofs.YtdobflpbkfkmgaaGreatDoor
namespace Go.Proofs.YtdobflpbkfkmgaaGreatDoor
open Go.RowKit Lib
set_option linter.unusedVariables false
set_option linter.unusedSimpArgs false
set_option linter.unusedSectionVars false
def nameB (t:ByteArray):Bool:=checkB varB digitB t || checkB funB alnumB t || checkB capB alnumB t
structure KT where
 k:Int
 t:ByteArray
 e:Int
def runR (t:ByteArray):KT:=if wordB t then ⟨3,t,0⟩ else if nameB t then ⟨1,t,0⟩ else ⟨0,⟨#[]⟩,41⟩
def markR (t:ByteArray):KT:=if metaB t then ⟨2,t,0⟩ else ⟨0,⟨#[]⟩,41⟩
def RetK (w:World) (r:KT) (e:Ending) (w':World):Prop:=e = .returned (.tuple #[.int .u8 r.k,.string r.t,.int .i64 r.e]) /\ Below w.heap.size w w'
theorem drew_below (w:World) (d:Nat):Below w.heap.size w (w.drewN d):=below_drewN (Below.refl _ w) d
theorem extract_le {s:ByteArray} (hs:s.size <= maxLen) (a b:Nat):(s.extract a b).size <= maxLen:=by
 rw [ByteArray.size_extract]; omega
set_option maxRecDepth 100000 in
set_option maxHeartbeats 2000000 in
theorem mark_any (w:World) (b at_:Nat) (s:ByteArray) (h:Scan w b at_ s) (hs:s.size <= maxLen) (ha:at_ + 1 <= s.size) :
  Calls Tryz.prog 131 #[.pointer (some ⟨b,0,none⟩)] w (RetK w (markR (s.extract at_ (spanE s (at_ + 1))))):=by
 have hb:=behind_any w b at_ s h hs ha
 have hl:=extract_le hs at_ (spanE s (at_ + 1))
 obtain ⟨T,hT⟩:∃ T,s.extract at_ (spanE s (at_ + 1)) = T:=⟨_,rfl⟩
 rw [hT] at hb hl ⊢
 have HB:=hid hb
 have hm:=fun d => meta_any (w.drewN d) T hl
 cases hc:metaB T with
 | true =>
  have hr:markR T = ⟨2,T,0⟩:=by simp [markR,hc]
  rw [hr]
  rw [hc] at hm
  have HM:=hid hm
  clear hb hT hm hc hr h
  go_enter Tryz.func131,Tryz.ntmps131
  go_wp2_with (first
   | (go_at_call 136; (refine HB.out.mono ?_; rintro e w' ⟨rfl,d,rfl⟩))
   | (go_at_call 138; (refine (HM.out d).mono ?_; rintro e w2 ⟨rfl,hB2⟩)))
  refine bodyPost_ret (v:=.tuple #[.int .u8 2,.string T,.int .i64 0]) (by simp [results,Tryz.results131,go_sem]) rfl ⟨rfl,?_⟩
  exact (drew_below w d).trans hB2
 | false =>
  have hr:markR T = ⟨0,⟨#[]⟩,41⟩:=by simp [markR,hc]
  rw [hr]
  rw [hc] at hm
  have HM:=hid hm
  clear hb hT hm hc hr h
  go_enter Tryz.func131,Tryz.ntmps131
  go_wp2_with (first
   | (go_at_call 136; (refine HB.out.mono ?_; rintro e w' ⟨rfl,d,rfl⟩))
   | (go_at_call 138; (refine (HM.out d).mono ?_; rintro e w2 ⟨rfl,hB2⟩)))
  refine bodyPost_ret (v:=.tuple #[.int .u8 0,.string ⟨#[]⟩,.int .i64 41]) (by simp [results,Tryz.results131,go_sem]) rfl ⟨rfl,?_⟩
  exact (drew_below w d).trans hB2
set_option maxRecDepth 100000 in
set_option maxHeartbeats 4000000 in
theorem run_any (w:World) (b at_:Nat) (s:ByteArray) (h:Scan w b at_ s) (hs:s.size <= maxLen) (ha:at_ + 1 <= s.size) :
  Calls Tryz.prog 129 #[.pointer (some ⟨b,0,none⟩)] w (RetK w (runR (s.extract at_ (spanE s (at_ + 1))))):=by
 have hb:=behind_any w b at_ s h hs ha
 have hl:=extract_le hs at_ (spanE s (at_ + 1))
 obtain ⟨T,hT⟩:∃ T,s.extract at_ (spanE s (at_ + 1)) = T:=⟨_,rfl⟩
 rw [hT] at hb hl ⊢
 have HB:=hid hb
 have hw:=fun w' => word_any w' T
 have hv:=fun w' => variable_any w' T hl
 have hf:=fun w' => function_any w' T hl
 have hp:=fun w' => predicate_any w' T hl
 cases c1:wordB T with
 | true =>
  have hr:runR T = ⟨3,T,0⟩:=by simp [runR,c1]
  rw [hr]
  rw [c1] at hw
  have HW:=hid hw
  clear hb hT hw hv hf hp c1 hr h
  go_enter Tryz.func129,Tryz.ntmps129
  go_wp2_with (first
   | (go_at_call 136; (refine HB.out.mono ?_; rintro e w' ⟨rfl,d,rfl⟩))
   | (go_at_call 137; (refine (HW.out _).mono ?_; rintro e wq ⟨rfl,rfl⟩)))
  refine bodyPost_ret (v:=.tuple #[.int .u8 3,.string T,.int .i64 0]) (by simp [results,Tryz.results129,go_sem]) rfl ⟨rfl,?_⟩
  exact drew_below w d
 | false =>
  rw [c1] at hw
  have HW:=hid hw
  cases c2:checkB varB digitB T with
  | true =>
   have hr:runR T = ⟨1,T,0⟩:=by simp [runR,nameB,c1,c2]
   rw [hr]
   rw [c2] at hv
   have HV:=hid hv
   clear hb hT hw hv hf hp c1 c2 hr h
   go_enter Tryz.func129,Tryz.ntmps129
   go_wp2_with (first
    | (go_at_call 136; (refine HB.out.mono ?_; rintro e w' ⟨rfl,d,rfl⟩))
    | (go_at_call 137; (refine (HW.out _).mono ?_; rintro e wq ⟨rfl,rfl⟩))
    | (go_at_call 58; (refine (HV.out (w.drewN d)).mono ?_; rintro e w1 ⟨rfl,hB1⟩)))
   refine bodyPost_ret (v:=.tuple #[.int .u8 1,.string T,.int .i64 0]) (by simp [results,Tryz.results129,go_sem]) rfl ⟨rfl,?_⟩
   exact (drew_below w d).trans hB1
  | false =>
   rw [c2] at hv
   have HV:=hid hv
   cases c3:checkB funB alnumB T with
   | true =>
    have hr:runR T = ⟨1,T,0⟩:=by simp [runR,nameB,c1,c2,c3]
    rw [hr]
    rw [c3] at hf
    have HF:=hid hf
    clear hb hT hw hv hf hp c1 c2 c3 hr h
    go_enter Tryz.func129,Tryz.ntmps129
    go_wp2_with (first
     | (go_at_call 136; (refine HB.out.mono ?_; rintro e w' ⟨rfl,d,rfl⟩))
     | (go_at_call 137; (refine (HW.out _).mono ?_; rintro e wq ⟨rfl,rfl⟩))
     | (go_at_call 58; (refine (HV.out (w.drewN d)).mono ?_; rintro e w1 ⟨rfl,hB1⟩))
     | (go_at_call 59; (refine (HF.out w1).mono ?_; rintro e w2 ⟨rfl,hB2⟩)))
    refine bodyPost_ret (v:=.tuple #[.int .u8 1,.string T,.int .i64 0]) (by simp [results,Tryz.results129,go_sem]) rfl ⟨rfl,?_⟩
    exact ((drew_below w d).trans hB1).trans (hB2.mono ((drew_below w d).trans hB1).size)
   | false =>
    rw [c3] at hf
    have HF:=hid hf
    cases c4:checkB capB alnumB T with
    | true =>
     have hr:runR T = ⟨1,T,0⟩:=by simp [runR,nameB,c1,c2,c3,c4]
     rw [hr]
     rw [c4] at hp
     have HP:=hid hp
     clear hb hT hw hv hf hp c1 c2 c3 c4 hr h
     go_enter Tryz.func129,Tryz.ntmps129
     go_wp2_with (first
      | (go_at_call 136; (refine HB.out.mono ?_; rintro e w' ⟨rfl,d,rfl⟩))
      | (go_at_call 137; (refine (HW.out _).mono ?_; rintro e wq ⟨rfl,rfl⟩))
      | (go_at_call 58; (refine (HV.out (w.drewN d)).mono ?_; rintro e w1 ⟨rfl,hB1⟩))
      | (go_at_call 59; (refine (HF.out w1).mono ?_; rintro e w2 ⟨rfl,hB2⟩))
      | (go_at_call 112; (refine (HP.out w2).mono ?_; rintro e w3 ⟨rfl,hB3⟩)))
     refine bodyPost_ret (v:=.tuple #[.int .u8 1,.string T,.int .i64 0]) (by simp [results,Tryz.results129,go_sem]) rfl ⟨rfl,?_⟩
     exact (((drew_below w d).trans hB1).trans (hB2.mono ((drew_below w d).trans hB1).size)).trans (hB3.mono (((drew_below w d).trans hB1).trans (hB2.mono ((drew_below w d).trans hB1).size)).size)
    | false =>
     have hr:runR T = ⟨0,⟨#[]⟩,41⟩:=by simp [runR,nameB,c1,c2,c3,c4]
     rw [hr]
     rw [c4] at hp
     have HP:=hid hp
     clear hb hT hw hv hf hp c1 c2 c3 c4 hr h
     go_enter Tryz.func129,Tryz.ntmps129
     go_wp2_with (first
      | (go_at_call 136; (refine HB.out.mono ?_; rintro e w' ⟨rfl,d,rfl⟩))
      | (go_at_call 137; (refine (HW.out _).mono ?_; rintro e wq ⟨rfl,rfl⟩))
      | (go_at_call 58; (refine (HV.out (w.drewN d)).mono ?_; rintro e w1 ⟨rfl,hB1⟩))
      | (go_at_call 59; (refine (HF.out w1).mono ?_; rintro e w2 ⟨rfl,hB2⟩))
      | (go_at_call 112; (refine (HP.out w2).mono ?_; rintro e w3 ⟨rfl,hB3⟩)))
     refine bodyPost_ret (v:=.tuple #[.int .u8 0,.string ⟨#[]⟩,.int .i64 41]) (by simp [results,Tryz.results129,go_sem]) rfl ⟨rfl,?_⟩
     exact (((drew_below w d).trans hB1).trans (hB2.mono ((drew_below w d).trans hB1).size)).trans (hB3.mono (((drew_below w d).trans hB1).trans (hB2.mono ((drew_below w d).trans hB1).size)).size)
def signsB:List ByteArray:=[⟨#[60,45,62]⟩,⟨#[45,62]⟩,⟨#[91,93]⟩,⟨#[60,62]⟩,⟨#[40]⟩,⟨#[41]⟩,⟨#[44]⟩,⟨#[126]⟩,⟨#[38]⟩,⟨#[124]⟩,⟨#[47]⟩,⟨#[91]⟩,⟨#[93]⟩]
def Signs (w:World):Prop:=(∀ (i:Nat) (g:ByteArray),signsB[i]? = some g -> w.cell? ⟨2,i,none⟩ = some (.string g)) /\ 2 < w.heap.size
theorem Signs.below {w w':World} (h:Signs w) (hb:Below w.heap.size w w'):Signs w' :=
 ⟨fun i g hg => (hb.cell (p:=⟨2,i,none⟩) h.2).trans (h.1 i g hg),Nat.lt_of_lt_of_le h.2 hb.size⟩
def signR (t:ByteArray):KT:=match signsB.find? (fun g => prefB g t) with
 | some g => ⟨4,g,0⟩
 | none => ⟨0,⟨#[]⟩,40⟩
theorem signR_yes {t:ByteArray} {k:Nat} {g:ByteArray} (hg:signsB[k]? = some g) (hp:prefB g t = true) (hall:∀ (j:Nat) (x:ByteArray),j < k -> signsB[j]? = some x -> prefB x t = false):signR t = ⟨4,g,0⟩:=by
 have:signsB.find? (fun g => prefB g t) = some g:=by
  rw [List.find?_eq_some_iff_getElem]
  obtain ⟨hl,he⟩:=List.getElem?_eq_some_iff.1 hg
  refine ⟨hp,k,hl,he,fun j hj => ?_⟩
  have:=hall j signsB[j] hj (List.getElem?_eq_getElem (by omega))
  simp [this]
 simp [signR,this]
theorem signR_no {t:ByteArray} (hall:∀ (j:Nat) (x:ByteArray),j < 13 -> signsB[j]? = some x -> prefB x t = false):signR t = ⟨0,⟨#[]⟩,40⟩:=by
 have:signsB.find? (fun g => prefB g t) = none:=by
  rw [List.find?_eq_none]
  intro x hx
  obtain ⟨j,hj⟩:=List.mem_iff_getElem?.1 hx
  have hl:=(List.getElem?_eq_some_iff.1 hj).1
  have:=hall j x hl hj
  simp [this]
 simp [signR,this]
def signsV:Array Value:=#[.string ⟨#[60,45,62]⟩,.string ⟨#[45,62]⟩,.string ⟨#[91,93]⟩,.string ⟨#[60,62]⟩,.string ⟨#[40]⟩,.string ⟨#[41]⟩,.string ⟨#[44]⟩,.string ⟨#[126]⟩,.string ⟨#[38]⟩,.string ⟨#[124]⟩,.string ⟨#[47]⟩,.string ⟨#[91]⟩,.string ⟨#[93]⟩]
set_option maxRecDepth 100000 in
theorem sign_index (k:Nat) (g:ByteArray) (hg:signsB[k]? = some g) (w:World):(Instr.index 153 (.agg signsV) (.int .i64 k)).run Tryz.prog w = .ok (.string g) w:=by
 have hl:k < 13:=(List.getElem?_eq_some_iff.1 hg).1
 have:k = 0 ∨ k = 1 ∨ k = 2 ∨ k = 3 ∨ k = 4 ∨ k = 5 ∨ k = 6 ∨ k = 7 ∨ k = 8 ∨ k = 9 ∨ k = 10 ∨ k = 11 ∨ k = 12:=by omega
 rcases this with rfl | rfl | rfl | rfl | rfl | rfl | rfl | rfl | rfl | rfl | rfl | rfl | rfl <;> (simp only [signsB] at hg; cases hg; exact rfl)
set_option maxRecDepth 100000 in
set_option maxHeartbeats 8000000 in
theorem sign_any (w:World) (b at_:Nat) (s:ByteArray) (h:Scan w b at_ s) (hs:s.size <= maxLen) (ha:at_ <= s.size) (hG:Signs w) :
  Calls Tryz.prog 133 #[.pointer (some ⟨b,0,none⟩)] w (RetK w (signR (s.extract at_ s.size))):=by
 have HH:=hid h
 have g0:=hG.1 0 _ rfl
 have g1:=hG.1 1 _ rfl
 have g2:=hG.1 2 _ rfl
 have g3:=hG.1 3 _ rfl
 have g4:=hG.1 4 _ rfl
 have g5:=hG.1 5 _ rfl
 have g6:=hG.1 6 _ rfl
 have g7:=hG.1 7 _ rfl
 have g8:=hG.1 8 _ rfl
 have g9:=hG.1 9 _ rfl
 have g10:=hG.1 10 _ rfl
 have g11:=hG.1 11 _ rfl
 have g12:=hG.1 12 _ rfl
 have hl:=extract_le hs at_ s.size
 have hs':=hs
 unfold maxLen at hs'
 obtain ⟨T,hT⟩:∃ T,s.extract at_ s.size = T:=⟨_,rfl⟩
 rw [hT] at hl ⊢
 have HL:=hid hl
 clear h hG hs hl
 go_enter Tryz.func133,Tryz.ntmps133
 go_wp2_with (fail)
 clear g0 g1 g2 g3 g4 g5 g6 g7 g8 g9 g10 g11 g12
 go_loopw [8] (fun i wr => ∃ k d:Nat,k <= 13 /\ i = .int .i64 k /\ wr = w.drewN d /\ ∀ (j:Nat) (x:ByteArray),j < k -> signsB[j]? = some x -> prefB x T = false) (fun i _ => 13 - (intOf i).toNat)
 case atStart => exact ⟨0,0,by omega,rfl,rfl,fun j x hj => by omega⟩
 case round =>
  obtain ⟨k,d,hk,rfl,hwr,hall⟩:=hrel
  have c0:wr.cell? ⟨b,0,none⟩ = some (.int .i64 at_):=by rw [hwr]; exact HH.out.c0
  have c1:wr.cell? ⟨b,1,none⟩ = some (.string s):=by rw [hwr]; exact HH.out.c1
  have HWR:=hid hwr
  have HALL:=hid hall
  have a0:(0:Int) <= (at_:Int):=by omega
  have a1:(at_:Int) <= (s.size:Int):=by omega
  clear hwr hall
  by_cases hk13:k < 13
  ·obtain ⟨g,hg⟩:∃ g,signsB[k]? = some g:=⟨_,List.getElem?_eq_getElem (show k < signsB.length from hk13)⟩
   have hgl:g.size <= maxLen:=by
    have:k = 0 ∨ k = 1 ∨ k = 2 ∨ k = 3 ∨ k = 4 ∨ k = 5 ∨ k = 6 ∨ k = 7 ∨ k = 8 ∨ k = 9 ∨ k = 10 ∨ k = 11 ∨ k = 12:=by omega
    rcases this with rfl | rfl | rfl | rfl | rfl | rfl | rfl | rfl | rfl | rfl | rfl | rfl | rfl <;> (simp only [signsB] at hg; cases hg; decide)
   have hpf:=fun w' => hasPrefix_any w' T g HL.out hgl
   have HG:=hid hg
   have hix:=sign_index k g hg wr
   unfold signsV at hix
   cases hp:prefB g T with
   | true =>
    rw [hp] at hpf
    have HPF:=hid hpf
    have hr:=signR_yes hg hp HALL.out
    have HR:=hid hr
    have b1:(k:Int) < 13:=by omega
    clear hp hpf hgl hr hg
    go_wp2_with (fail)
    go_quiet ((go_at_call 118; exact Calls.quiet_of_same ((HPF.out _).mono fun _ _ h => ⟨h.1,h.2.symm⟩)))
    go_wp2_with (fail)
    refine bodyPost_ret (v:=.tuple #[.int .u8 4,.string g,.int .i64 0]) (by simp [results,Tryz.results133,go_sem]) rfl ⟨by rw [HR.out],?_⟩
    rw [HWR.out]
    exact below_drewN (drew_below w _) _
   | false =>
    have HP:=hid hp
    rw [hp] at hpf
    have HPF:=hid hpf
    have b1:(k:Int) < 13:=by omega
    clear hp hpf hgl hg
    go_wp2_with (fail)
    go_quiet ((go_at_call 118; exact Calls.quiet_of_same ((HPF.out _).mono fun _ _ h => ⟨h.1,h.2.symm⟩)))
    go_wp2_with (fail)
    go_roundw
    case rel => exact ⟨k + 1,d + nq,by omega,by go_num,by rw [HWR.out,World.drewN_drewN],fun j x hj hx => by
     by_cases e:j = k
     ·subst e
      have:=HG.out
      rw [hx] at this; cases this
      exact HP.out
     ·exact HALL.out j x (by omega) hx⟩
    case measure => simp [intOf]; omega
  ·obtain rfl:k = 13:=by omega
   have hr:=signR_no HALL.out
   have HR:=hid hr
   clear hr
   go_wp2_with (fail)
   refine bodyPost_ret (v:=.tuple #[.int .u8 0,.string ⟨#[]⟩,.int .i64 40]) (by simp [results,Tryz.results133,go_sem]) rfl ⟨by rw [HR.out],?_⟩
   rw [HWR.out]
   exact drew_below w d
end Go.Proofs.YtdobflpbkfkmgaaGreatDoor
namespace Go.Proofs.YtdobflpbkfkmgaaGreatDoor
open Go.RowKit
set_option linter.unusedVariables false
set_option linter.unusedSimpArgs false
set_option linter.unusedSectionVars false
def startsV (b:Nat):Array Value:=#[.func (.func 128) #[] #[],.func (.func 129) #[.pointer (some ⟨b,0,none⟩)] #[],.func (.func 130) #[] #[],.func (.func 131) #[.pointer (some ⟨b,0,none⟩)] #[],.func (.func 132) #[] #[],.func (.func 133) #[.pointer (some ⟨b,0,none⟩)] #[]]
set_option maxRecDepth 100000 in
set_option maxHeartbeats 2000000 in
theorem starts_any (w:World) (b:Nat) :
  Calls Tryz.prog 124 #[.pointer (some ⟨b,0,none⟩)] w fun e w' => e = .returned (.agg (startsV b)) /\ Below w.heap.size w w':=by
 go_enter Tryz.func124,Tryz.ntmps124
 go_wp2_with (fail)
 refine bodyPost_ret (v:=.agg (startsV b)) (by simp [results,Tryz.results124,go_sem,startsV]) rfl ⟨rfl,?_⟩
 first
  | exact (Below.refl _ w).alloc (Nat.le_refl _) _
  | exact ((((((((Below.refl _ w).alloc (Nat.le_refl _) _).setCell (by simp) _).setCell (by simp) _).setCell (by simp) _).setCell (by simp) _).setCell (by simp) _).setCell (by simp) _)
end Go.Proofs.YtdobflpbkfkmgaaGreatDoor
