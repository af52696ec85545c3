import Derived.Test.YtflmllablfjfeaaDoorOrB
import Derived.Test.YtflmllablfjfeaaDoorPli
import Derived.KernelRfl
namespace Go.Proofs.YtflmllablfjfeaaDoor
open Go.RowKit Go.HK Go.FR
set_option linter.unusedVariables false
set_option linter.unusedSimpArgs false
set_option linter.unusedSectionVars false
def fcN (ss:List ByteArray) (fs:List Nat):List (ByteArray × Int × Int):=(ss.zip fs).map fun p => (p.1,(0:Int),(p.2:Int))
theorem fcN_len {ss:List ByteArray} {fs:List Nat} (h:fs.length = ss.length):(fcN ss fs).length = ss.length:=by simp [fcN,h]
theorem fcN_get {ss:List ByteArray} {fs:List Nat} {t:Nat} {f:ByteArray × Int × Int} (h:(fcN ss fs)[t]? = some f):∃ s d,ss[t]? = some s /\ fs[t]? = some d /\ f = (s,0,(d:Int)):=by
 unfold fcN at h
 rw [List.getElem?_map] at h
 obtain ⟨⟨s,d⟩,hz,rfl⟩:=Option.map_eq_some_iff.1 h
 rw [List.getElem?_zip_eq_some] at hz
 exact ⟨s,d,hz.1,hz.2,rfl⟩
theorem factN_fcN {ss:List ByteArray} {fs:List Nat} (h:fs.length = ss.length):factN (fcN ss fs) = fs:=by
 unfold factN fcN
 rw [List.map_map]
 have:((fun f:ByteArray × Int × Int => f.2.2.toNat) ∘ fun p:ByteArray × Nat => (p.1,(0:Int),(p.2:Int))) = Prod.snd:=by funext p; simp
 rw [this,List.map_snd_zip (by omega)]
def mdlN (kind n:Nat) (ss:List ByteArray) (rel fs:List Nat):Mdl:=⟨kind,(n:Int),rel.map fun x:Nat => (x:Int),0,fcN ss fs,0,0⟩
def hdN (n k g6 c6 gF:Nat):MH:=⟨⟨some ⟨g6,0,none⟩,n,c6⟩,⟨some ⟨gF,0,none⟩,k,k⟩,⟨none,0,0⟩,⟨none,0,0⟩⟩
theorem ntx_is {b0 kind n k:Nat} {ss:List ByteArray} {rel fs:List Nat} {v:Array Value} {W:World} (h:NtX b0 kind n k ss rel fs v W) (hk:kind < 256) (hrl:rel.length = n) (hss:ss.length = k) (hfs:fs.length = k) (hk9:k <= 1000000) (hz:∀ s ∈ ss,s.size <= maxLen) :
  ∃ g6 c6 gF,.agg v = (mdlN kind n ss rel fs).v (hdN n k g6 c6 gF) /\ b0 <= g6 /\ g6 < W.heap.size /\ b0 <= gF /\ gF < W.heap.size /\ IsM (fun q => b0 <= q /\ q < W.heap.size) W (hdN n k g6 c6 gF) (mdlN kind n ss rel fs):=by
 obtain ⟨g6,c6,gF,cs6,csF,rfl,x2,x3,x4,x5,x6,x7⟩:=h.ex
 have l6:=HK.blk_lt x4
 have lF:=HK.blk_lt x6
 refine ⟨g6,c6,gF,rfl,x2,l6,x3,lF,⟨?_,?_,rfl,rfl,hk,by show k <= _; omega⟩⟩
 ·refine ⟨by show n = _; simp [mdlN,hrl],fun i x hx => ?_⟩
  unfold mdlN at hx
  rw [List.getElem?_map] at hx
  obtain ⟨y,hy,rfl⟩:=Option.map_eq_some_iff.1 hx
  exact ⟨g6,0,rfl,⟨x2,l6⟩,by rw [Nat.zero_add,HK.blk_cell x4]; exact x5 i y hy⟩
 ·refine ⟨by show k = _; rw [show (mdlN kind n ss rel fs).facts = fcN ss fs from rfl,fcN_len (by omega),hss],fun i f hf => ?_⟩
  obtain ⟨s,d,h1,h2,rfl⟩:=fcN_get hf
  obtain ⟨e0,e1,e2⟩:=x7 i s d h1 h2
  exact ⟨gF,0,rfl,⟨x3,lF⟩,by rw [Nat.zero_add,HK.blk_cell x6]; exact e0,by rw [Nat.zero_add,HK.blk_cell x6]; exact e1,by rw [Nat.zero_add,HK.blk_cell x6]; exact e2,hz s (List.mem_of_getElem? h1)⟩
theorem truths_mem {force:Bool} {rel:List Nat} {m k:Nat} (h:m ∈ truthsK force rel k):m < k /\ (!force || persK rel m rel.length) = true:=by
 unfold truthsK at h
 rw [List.mem_filter,List.mem_range] at h
 exact ⟨h.1,h.2⟩
theorem incK_get {ss:List ByteArray} {k:Nat} (h:incK ss k = true) {t:Nat} (ht:t < k):predB (ss.getD t ⟨#[]⟩) = true /\ (decide (t = 0) || ltS (ss.getD (t - 1) ⟨#[]⟩) (ss.getD t ⟨#[]⟩)) = true:=by
 have:=incK_mono (show t + 1 <= k by omega) h
 unfold incK at this
 simp only [Bool.and_eq_true] at this
 exact this.2
theorem factsN {force:Bool} {rel:List Nat} {ss:List ByteArray} {fs:List Nat} (hl:fs.length = ss.length) (hi:incK ss ss.length = true) (hf:∀ x ∈ fs,x ∈ truthsK force rel (2 ^ rel.length)):∀ k,k <= ss.length -> factsK force rel (fcN ss fs) k = true
 | 0,_ => rfl
 | k + 1,hk => by
  unfold factsK
  rw [factsN hl hi hf k (by omega),Bool.true_and]
  have hat:∀ t,t < ss.length -> (fcN ss fs).getD t (⟨#[]⟩,0,0) = (ss.getD t ⟨#[]⟩,(0:Int),((fs.getD t 0:Nat):Int)):=fun t ht => by
   have h1:(fcN ss fs)[t]? = some (ss[t],(0:Int),((fs[t]:Nat):Int)):=by
    unfold fcN
    rw [List.getElem?_map,List.getElem?_eq_getElem (by rw [List.length_zip]; omega),List.getElem_zip]
    rfl
   rw [List.getD_eq_getElem?_getD,h1,List.getD_eq_getElem?_getD,List.getElem?_eq_getElem ht,List.getD_eq_getElem?_getD,List.getElem?_eq_getElem (by omega)]
   rfl
  obtain ⟨i1,i2⟩:=incK_get hi (t:=k) (by omega)
  have hm:=hf (fs.getD k 0) (by rw [List.getD_eq_getElem?_getD,List.getElem?_eq_getElem (by omega)]; exact List.getElem_mem _)
  obtain ⟨m1,m2⟩:=truths_mem hm
  unfold factB nmK
  rw [hat k (by omega)]
  have hp:(decide (k = 0) || ltS ((fcN ss fs).getD (k - 1) (⟨#[]⟩,0,0)).1 (ss.getD k ⟨#[]⟩)) = true:=by
   by_cases h0:k = 0
   ·simp [h0]
   ·rw [hat (k - 1) (by omega)]; exact i2
  simp only [i1,hp,Int.toNat_natCast,m2,Bool.and_true,Bool.true_and]
  have q1:(0:Int) <= ((fs.getD k 0:Nat):Int):=by omega
  have q2:((fs.getD k 0:Nat):Int) < ((2 ^ rel.length:Nat):Int):=by omega
  simp only [decide_eq_true q1,decide_eq_true q2,decide_true,Bool.and_true]
theorem mdlN_ok {kind n mask:Nat} {ss:List ByteArray} {rel fs:List Nat} (hk:kind = 3 ∨ kind = 4) (h1:1 <= n) (h4:n <= 4) (hm0:kind = 3 -> mask = 0) (hr:rel ∈ relsL (decide (kind = 3)) mask n) (hl:fs.length = ss.length) (hi:incK ss ss.length = true) (hf:∀ x ∈ fs,x ∈ truthsK (decide (kind = 3)) rel (2 ^ n)):(mdlN kind n ss rel fs).ok = true:=by
 obtain ⟨r1,r2⟩:=rels_ok h4 h1 hr
 have hn:=rels_len hr
 have hs:suitsB (decide (kind = 3)) 0 rel (n - 1) = true:=by
  rcases hk with rfl | rfl
  ·rw [hm0 rfl] at r2; exact r2
  ·unfold suitsB
   simp only [show decide ((4:Nat) = 3) = false from rfl,Bool.false_eq_true,if_false]
   exact lackAll_of fun i _ => by simp [lackS]
 unfold Mdl.ok validB mdlN
 simp only []
 rw [frok_relB r1 (by omega),natsI_of,List.length_map,hn,hs,fcN_len hl,factsN hl hi (by rw [hn]; exact hf) _ (Nat.le_refl _)]
 simp [hk]
end Go.Proofs.YtflmllablfjfeaaDoor
namespace Go.Proofs.YtflmllablfjfeaaDoor
open Go.RowKit Go.HK Go.FR
set_option linter.unusedVariables false
set_option linter.unusedSimpArgs false
set_option linter.unusedSectionVars false
theorem flat_len {α β:Type} {f:α -> List β} {c:Nat}:∀ {l:List α},(∀ x ∈ l,(f x).length <= c) -> (l.flatMap f).length <= l.length * c
 | [],_ => by simp
 | a :: l,h => by
  have h1:=h a (by simp)
  have h2:=flat_len (f:=f) (c:=c) (l:=l) fun x hx => h x (by simp [hx])
  rw [List.flatMap_cons,List.length_append,List.length_cons,Nat.succ_mul]
  omega
theorem relsD_len (force:Bool) (m n:Nat):∀ (d:Nat) (rel:List Nat),(relsD force m n d rel).length <= (2 ^ n) ^ d
 | 0,rel => by unfold relsD; simp
 | d + 1,rel => by
  unfold relsD
  refine Nat.le_trans (flat_len (c:=(2 ^ n) ^ d) fun s _ => ?_) ?_
  ·split
   ·exact relsD_len force m n d _
   ·simp
  ·rw [List.length_range,Nat.pow_succ,Nat.mul_comm]
   exact Nat.le_refl _
theorem ways_bound (force:Bool) (n k:Nat) (x:List Nat):waysR force n k x <= (2 ^ n) ^ k:=by
 unfold waysR powC
 exact Nat.le_trans (Nat.min_le_left _ _) (Nat.pow_le_pow_left (truthsK_len _ _ _) _)
theorem sum_bound (force:Bool) (n k:Nat):∀ L:List (List Nat),sumK force n k L <= L.length * (2 ^ n) ^ k
 | [] => by simp [sumK]
 | x :: L => by
  have h1:=ways_bound force n k x
  have h2:=sum_bound force n k L
  simp only [sumK,List.map_cons,List.sum_cons,List.length_cons,Nat.succ_mul] at h2 ⊢
  omega
set_option maxRecDepth 100000 in
theorem force3:(relsL true 0 3).length <= 64:=by decide +kernel
theorem many_only {force:Bool} {m n k:Nat} (hf:force = true -> m = 0) (h1:1 <= n) (h3:n <= 3) (hk:k <= 2) (h:16384 < countS force m k n):n = 3 /\ k = 2 /\ force = false:=by
 have hs:16384 < sumK force n k (relsL force m n):=by unfold countS at h; omega
 have hb:=sum_bound force n k (relsL force m n)
 have hl:(relsL force m n).length <= (2 ^ n) ^ n:=relsD_len force m n n _
 have hm:=Nat.mul_le_mul_right ((2 ^ n) ^ k) hl
 rcases (by omega:n = 1 ∨ n = 2 ∨ n = 3) with rfl | rfl | rfl <;> rcases (by omega:k = 0 ∨ k = 1 ∨ k = 2) with rfl | rfl | rfl
 all_goals first
  | (exfalso; have:sumK _ _ _ _ <= _:=Nat.le_trans hb hm; revert this; simp only [Nat.reducePow,Nat.reduceMul]; omega)
  | skip
 cases force
 ·exact ⟨rfl,rfl,rfl⟩
 ·exfalso
  rw [hf rfl] at hs hb
  have:=Nat.mul_le_mul_right ((2 ^ 3) ^ 2) force3
  have h9:=Nat.le_trans hb this
  revert h9
  simp only [Nat.reducePow,Nat.reduceMul]
  omega
set_option maxRecDepth 100000 in
theorem some_rel:(∀ m,m < 8 -> ∀ n,n < 3 -> (relsL false m (n + 1)).isEmpty = false) /\ ∀ n,n < 3 -> (relsL true 0 (n + 1)).isEmpty = false:=by decide +kernel
theorem count_pos {force:Bool} {m n k:Nat} (hm:m < 8) (hf:force = true -> m = 0) (h1:1 <= n) (h3:n <= 3):1 <= countS force m k n:=by
 have h0:(relsL force m n).isEmpty = false:=by
  obtain ⟨q,rfl⟩:∃ q,n = q + 1:=⟨n - 1,by omega⟩
  cases force
  ·exact some_rel.1 m hm q (by omega)
  ·rw [hf rfl]; exact some_rel.2 q (by omega)
 have hl:1 <= (relsL force m n).length:=by
  cases e:relsL force m n with
  | nil => rw [e] at h0; cases h0
  | cons a l => simp
 have:=sum_many force n k (relsL force m n)
 unfold countS
 omega
def pqN (k:Nat):List ByteArray:=[⟨#[80]⟩,⟨#[81]⟩].take k
theorem pqN_len {k:Nat} (hk:k <= 2):(pqN k).length = k:=by simp [pqN]; omega
theorem pqN_inc {k:Nat} (hk:k <= 2):incK (pqN k) (pqN k).length = true:=by
 rcases (by omega:k = 0 ∨ k = 1 ∨ k = 2) with rfl | rfl | rfl <;> decide +kernel
theorem pqN_size {k:Nat}:∀ s ∈ pqN k,s.size <= maxLen:=fun s hs => by
 have:=List.mem_of_mem_take hs
 simp only [List.mem_cons,List.not_mem_nil,or_false] at this
 rcases this with rfl | rfl <;> decide
end Go.Proofs.YtflmllablfjfeaaDoor
namespace Go.Proofs.YtflmllablfjfeaaDoor
open Go.RowKit Go.HK Go.FR
set_option linter.unusedVariables false
set_option linter.unusedSimpArgs false
set_option linter.unusedSectionVars false
set_option maxRecDepth 100000 in
set_option maxHeartbeats 1000000 in
theorem copy_call (w:World) (g o n c:Nat) (xs:List Nat) (hR:IsR w g o xs) (hn:xs.length = n) (hle:n <= 10000) :
  Calls Tryd.prog 35 #[.slice (some ⟨g,o,none⟩) n c] w (RetRow w xs):=by
 have HR:=Lib.hid hR
 have HN:=Lib.hid hn
 clear hR hn
 go_enter Tryd.func35,Tryd.ntmps35
 go_wp2_with (
  at_builtin
  refine wpList_app_any rfl elem25 _ _ rfl (.slice none 0 0) w.heap.size 0 [] rfl ⟨rfl,.inl ⟨rfl,rfl⟩⟩ ⟨g,o,none⟩ n c (ints xs) rfl (by rw [ints_len,HN.out]; omega) (IsR.addr HR.out) (ints_one _) (by simp only [maxLen]; omega) (by omega) (Nat.le_refl _) ?_
  intro v3 w3 hown hgrow hnil hat)
 go_ret
 rw [Nat.zero_add,List.nil_append] at hown
 exact ⟨v3,rfl,(Below.refl w.heap.size w).grown hgrow (Nat.le_refl _) (fun k hk => by cases hk),by rw [HN.out]; exact hown⟩
def NmAt (gN:Nat) (W:World):Prop:=W.heap[gN]? = some (.cells #[.string ⟨#[80]⟩,.string ⟨#[81]⟩] 9 (0,0))
theorem NmAt.up {gN:Nat} {W W':World} (h:NmAt gN W) (hB:Below W.heap.size W W'):NmAt gN W':=(hB.block _ (HK.blk_lt h)).trans h
theorem pq_cell {gN:Nat} {W:World} (h:NmAt gN W) {k t:Nat} {s:ByteArray} (hs:(pqN k)[t]? = some s):W.cell? ⟨gN,0 + t,none⟩ = some (.string s):=by
 unfold pqN at hs
 rw [List.getElem?_take] at hs
 split at hs
 ·rw [Nat.zero_add,HK.blk_cell h]
  match t,hs with
  | 0,hs => cases hs; rfl
  | 1,hs => cases hs; rfl
 ·cases hs
def RetCt (w:World) (force:Bool) (mask k n:Nat) (e:Ending) (w':World):Prop :=
 Below w.heap.size w w' /\ e = .returned (.tuple (if 16384 < countS force mask k n then #[.int .i64 0,.int .i64 5] else #[.int .i64 ((countS force mask k n:Nat):Int),.int .i64 0]))
theorem cnt_call (W:World) (gN:Nat) (hN:NmAt gN W) (kind mask k n cp:Nat) (hk:kind = 3 ∨ kind = 4) (hm:mask < 8) (hm0:kind = 3 -> mask = 0) (h1:1 <= n) (h3:n <= 3) (hk2:k <= 2) :
  Calls Tryd.prog 32 #[.int .u8 (kind:Int),.int .u8 (mask:Int),.slice (some ⟨gN,0,none⟩) k cp,.int .i64 (n:Int)] W (RetCt W (decide (kind = 3)) mask k n):=by
 have h:=count32_call W kind mask (n:Int) gN 0 k cp (pqN k) (fun t s hs => ⟨pq_cell hN hs,pqN_size s (List.mem_of_getElem? hs)⟩) (pqN_len hk2) (by omega) (by omega) (by omega) (by omega)
 unfold RetCount at h
 have hw:wrongB kind mask (n:Int) = false:=by
  unfold wrongB
  rcases hk with rfl | rfl
  ·rw [if_pos rfl,hm0 rfl]; simp; omega
  ·simp; omega
 rw [hw,pqN_inc hk2,pqN_len hk2,Int.toNat_natCast] at h
 simp only [Bool.false_eq_true,or_self,if_false,Bool.true_eq_false] at h
 exact h
def RetX (w:World) (kind mask n k i:Nat) (e:Ending) (w':World):Prop :=
 Below w.heap.size w w' /\ ∃ rel fs g6 c6 gF,NthOk (decide (kind = 3)) mask n k i rel fs /\ e = .returned (.tuple #[(mdlN kind n (pqN k) rel fs).v (hdN n k g6 c6 gF),.int .i64 0]) /\ w.heap.size <= g6 /\ g6 < w'.heap.size /\ w.heap.size <= gF /\ gF < w'.heap.size /\
  IsM (fun q => w.heap.size <= q /\ q < w'.heap.size) w' (hdN n k g6 c6 gF) (mdlN kind n (pqN k) rel fs)
theorem nthN_call (W:World) (gN:Nat) (hN:NmAt gN W) (kind mask k n cp i:Nat) (hk:kind = 3 ∨ kind = 4) (hm:mask < 8) (hm0:kind = 3 -> mask = 0) (h1:1 <= n) (h3:n <= 3) (hk2:k <= 2) (hi:i <= 1000000) (hct:countS (decide (kind = 3)) mask k n <= 16384) :
  Calls Tryd.prog 33 #[.int .u8 (kind:Int),.int .u8 (mask:Int),.slice (some ⟨gN,0,none⟩) k cp,.int .i64 (n:Int),.int .i64 (i:Int)] W (RetNt W (decide (kind = 3)) kind mask n k i (pqN k)) :=
 nth_call W kind n mask i k cp (countS (decide (kind = 3)) mask k n) (some ⟨gN,0,none⟩) (pqN k) (by omega) (by omega) h1 (by omega) (by omega) (by omega) (pqN_len hk2)
  (fun t s hs => ⟨pqN_size s (List.mem_of_getElem? hs),gN,0,rfl,HK.blk_lt hN,pq_cell hN hs⟩)
  (fun W' hB => by
   have h:=cnt_call W' gN (hN.up hB) kind mask k n cp hk hm hm0 h1 h3 hk2
   unfold RetCt at h
   rw [if_neg (by omega)] at h
   exact h) hct
theorem nthX_call (W:World) (gN:Nat) (hN:NmAt gN W) (kind mask k n cp i:Nat) (hk:kind = 3 ∨ kind = 4) (hm:mask < 8) (hm0:kind = 3 -> mask = 0) (h1:1 <= n) (h3:n <= 3) (hk2:k <= 2) (hct:countS (decide (kind = 3)) mask k n <= 16384) (hi:i < countS (decide (kind = 3)) mask k n) :
  Calls Tryd.prog 33 #[.int .u8 (kind:Int),.int .u8 (mask:Int),.slice (some ⟨gN,0,none⟩) k cp,.int .i64 (n:Int),.int .i64 (i:Int)] W (RetX W kind mask n k i):=by
 have hs:sumK (decide (kind = 3)) n k (relsL (decide (kind = 3)) mask n) <= 16384:=by unfold countS at hct; omega
 refine (nthN_call W gN hN kind mask k n cp i hk hm hm0 h1 h3 hk2 (by omega) hct).mono ?_
 rintro e w' ⟨hB,⟨hp,_⟩ | ⟨rel,j,v,hp,rfl,hX⟩⟩
 ·exfalso
  have:=pick_none.1 hp
  rw [<- sumK_sumW] at this
  unfold countS at hi
  omega
 ·have hok:=nth_ok hs hp
  obtain ⟨g6,c6,gF,hv,a1,a2,a3,a4,a5⟩:=ntx_is hX (by omega) (rels_len hok.mem) (pqN_len hk2) hok.len (by omega) pqN_size
  exact ⟨hB,rel,_,g6,c6,gF,hok,by rw [<- hv],a1,a2,a3,a4,a5⟩
theorem nthZ_call (W:World) (gN:Nat) (hN:NmAt gN W) (kind mask k n cp:Nat) (hk:kind = 3 ∨ kind = 4) (hm:mask < 8) (hm0:kind = 3 -> mask = 0) (h1:1 <= n) (h3:n <= 3) (hk2:k <= 2) (hct:countS (decide (kind = 3)) mask k n <= 16384) :
  Calls Tryd.prog 33 #[.int .u8 (kind:Int),.int .u8 (mask:Int),.slice (some ⟨gN,0,none⟩) k cp,.int .i64 (n:Int),.int .i64 ((countS (decide (kind = 3)) mask k n:Nat):Int)] W (RetNx W 6):=by
 have hs:sumK (decide (kind = 3)) n k (relsL (decide (kind = 3)) mask n) <= 16384:=by unfold countS at hct; omega
 refine (nthN_call W gN hN kind mask k n cp _ hk hm hm0 h1 h3 hk2 (by omega) hct).mono ?_
 rintro e w' ⟨hB,⟨hp,rfl⟩ | ⟨rel,j,v,hp,rfl,hX⟩⟩
 ·exact ⟨hB,rfl⟩
 ·exfalso
  have:pick (waysR (decide (kind = 3)) n k) (relsL (decide (kind = 3)) mask n) (countS (decide (kind = 3)) mask k n) = none:=pick_none.2 (by rw [<- sumK_sumW]; unfold countS; omega)
  rw [this] at hp
  cases hp
theorem mdlX_ok {kind mask n k i:Nat} {rel fs:List Nat} (hk:kind = 3 ∨ kind = 4) (hm0:kind = 3 -> mask = 0) (h1:1 <= n) (h3:n <= 3) (hk2:k <= 2) (h:NthOk (decide (kind = 3)) mask n k i rel fs):(mdlN kind n (pqN k) rel fs).ok = true :=
 mdlN_ok hk h1 (by omega) hm0 h.mem (by rw [h.len,pqN_len hk2]) (pqN_inc hk2) h.fact
theorem validX_call (W:World) {kind mask n k i g6 c6 gF:Nat} {rel fs:List Nat} (hk:kind = 3 ∨ kind = 4) (hm0:kind = 3 -> mask = 0) (h1:1 <= n) (h3:n <= 3) (hk2:k <= 2) (h:NthOk (decide (kind = 3)) mask n k i rel fs) (hM:IsM (fun q => q < W.heap.size) W (hdN n k g6 c6 gF) (mdlN kind n (pqN k) rel fs)) :
  Calls Tryd.prog 18 #[(mdlN kind n (pqN k) rel fs).v (hdN n k g6 c6 gF)] W (RetW W true):=by
 have hv:=validM W _ _ hM
 rw [mdlX_ok hk hm0 h1 h3 hk2 h] at hv
 exact hv
theorem isR_of_M {S:Nat -> Prop} {W:World} {kind n k g6 c6 gF:Nat} {rel fs:List Nat} (hM:IsM S W (hdN n k g6 c6 gF) (mdlN kind n (pqN k) rel fs)):IsR W g6 0 rel:=fun i x hx => by
 obtain ⟨g,o,e,_,hc⟩:=hM.r.2 i (x:Int) (by show (rel.map fun x:Nat => (x:Int))[i]? = _; rw [List.getElem?_map,hx]; rfl)
 cases e
 exact hc
theorem numX_call (W:World) {kind mask n k i g6 c6 gF:Nat} {rel fs:List Nat} (hk:kind = 3 ∨ kind = 4) (hm:mask < 8) (hm0:kind = 3 -> mask = 0) (h1:1 <= n) (h3:n <= 3) (hk2:k <= 2) (hct:countS (decide (kind = 3)) mask k n <= 16384) (h:NthOk (decide (kind = 3)) mask n k i rel fs) (hg:g6 < W.heap.size) (hM:IsM (fun q => q < W.heap.size) W (hdN n k g6 c6 gF) (mdlN kind n (pqN k) rel fs)) :
  Calls Tryd.prog 34 #[(mdlN kind n (pqN k) rel fs).v (hdN n k g6 c6 gF),.int .u8 (mask:Int)] W (fun e w' => e = .returned (.tuple #[.int .i64 (i:Int),.int .i64 0]) /\ Below W.heap.size W w'):=by
 obtain ⟨r1,r2⟩:=rels_ok (by omega) h1 h.mem
 have hl:(fcN (pqN k) fs).length = k:=by rw [fcN_len (by rw [h.len,pqN_len hk2]),pqN_len hk2]
 have hw:wrongB kind mask (n:Int) = false:=by
  unfold wrongB
  rcases hk with rfl | rfl
  ·rw [if_pos rfl,hm0 rfl]; simp; omega
  ·simp; omega
 have hn:=number_call W kind n mask g6 0 c6 ⟨some ⟨gF,0,none⟩,k,k⟩ ⟨none,0,0⟩ ⟨none,0,0⟩ rel (fcN (pqN k) fs) (by omega) (by omega) h1 (by omega) r1 (rels_len h.mem) hg (isR_of_M hM) hM.f (by omega)
  (fun W' hB => validX_call W' hk hm0 h1 h3 hk2 h (hM.below hB)) hw r2 (by rw [hl]; exact hct)
  (fun f hf => by
   obtain ⟨t,ht⟩:=List.getElem?_of_mem hf
   obtain ⟨s,d,_,hd,rfl⟩:=fcN_get ht
   exact ⟨d,rfl,h.fact d (List.mem_of_getElem? hd)⟩) h.mem
 rw [hl,factN_fcN (by rw [h.len,pqN_len hk2]),h.num] at hn
 exact hn
theorem fitsX_call (W:World) {kind mask n k i g6 c6 gF:Nat} {rel fs:List Nat} (hk:kind = 3 ∨ kind = 4) (hm:mask < 8) (hm0:kind = 3 -> mask = 0) (h1:1 <= n) (h3:n <= 3) (h:NthOk (decide (kind = 3)) mask n k i rel fs) (hM:IsM (fun q => q < W.heap.size) W (hdN n k g6 c6 gF) (mdlN kind n (pqN k) rel fs)) :
  Calls Tryd.prog 21 #[.slice (some ⟨g6,0,none⟩) n c6,.int .u8 (mask:Int)] W (RetW W true):=by
 obtain ⟨r1,r2⟩:=rels_ok (by omega) h1 h.mem
 have hl:=rels_len h.mem
 have hf:=fits_call W g6 0 n c6 rel (isR_of_M hM) hl r1 h1 mask (by omega)
 have e:fitsB mask rel = true:=by
  unfold fitsB
  rw [decide_eq_true (show mask <= 7 by omega),Bool.true_and,hl]
  rcases hk with rfl | rfl
  ·rw [hm0 rfl]
   exact lackAll_of fun i _ => by simp [lackS]
  ·unfold suitsB at r2
   simp only [show decide ((4:Nat) = 3) = false from rfl,Bool.false_eq_true,if_false] at r2
   rw [Nat.sub_add_cancel h1] at r2
   exact r2
 rw [e] at hf
 exact hf
end Go.Proofs.YtflmllablfjfeaaDoor
