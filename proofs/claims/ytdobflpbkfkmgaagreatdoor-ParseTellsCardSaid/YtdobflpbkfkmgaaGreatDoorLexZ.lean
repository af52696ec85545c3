import Derived.Test.YtdobflpbkfkmgaaGreatDoorLexO
import Derived.Lib.Join
namespace Go.Proofs.YtdobflpbkfkmgaaGreatDoor
open Go.RowKit
set_option linter.unusedVariables false
set_option linter.unusedSimpArgs false
set_option linter.unusedSectionVars false
def mkS (l:List UInt8):ByteArray:=⟨l.toArray⟩
theorem bys_mk (l:List UInt8):bys (mkS l) = l:=by simp [bys,mkS]
theorem mk_bys (s:ByteArray):mkS (bys s) = s:=by cases s; simp [bys,mkS]
theorem mk_size (l:List UInt8):(mkS l).size = l.length:=by simp [mkS,ByteArray.size]
def alL (b:UInt8):Bool:=alnumB b.toNat
def readL (c:UInt8) (l:List UInt8):KT :=
 if letterB c.toNat then runR (mkS (c :: l.takeWhile alL))
 else if markB c.toNat then markR (mkS (c :: l.takeWhile alL))
 else signR (mkS (c :: l))
structure Tok where
 k:Int
 t:ByteArray
 p:Nat
def blL (c:UInt8):Bool:=blankB c.toNat
inductive LexL:Nat -> List UInt8 -> List Tok -> Nat -> Int -> Prop
 | nil (a):LexL a [] [⟨5,mkS [],a⟩] 0 0
 | blank {a c l ts p e}:blL c = true -> LexL (a + 1) l ts p e -> LexL a (c :: l) ts p e
 | bad {a c l}:blL c = false -> (readL c l).e ≠ 0 -> LexL a (c :: l) [] a (readL c l).e
 | tok {a c l r ts p e}:blL c = false -> (readL c l).e = 0 -> c :: l = bys (readL c l).t ++ r -> LexL (a + (readL c l).t.size) r ts p e -> LexL a (c :: l) (⟨(readL c l).k,(readL c l).t,a⟩ :: ts) p e

def prefL:List UInt8 -> List UInt8 -> Bool
 | [],_ => true
 | _ :: _,[] => false
 | a :: g,b :: l => a == b && prefL g l
theorem prefL_iff:∀ (g l:List UInt8),prefL g l = true ↔ ∃ r,l = g ++ r
 | [],l => by simp [prefL]
 | a :: g,[] => by simp [prefL]
 | a :: g,b :: l => by
  simp only [prefL,Bool.and_eq_true,beq_iff_eq,prefL_iff g l,List.cons_append,List.cons.injEq]
  constructor
  ·rintro ⟨rfl,r,rfl⟩; exact ⟨r,rfl,rfl⟩
  ·rintro ⟨r,rfl,rfl⟩; exact ⟨rfl,r,rfl⟩
theorem prefB_prefL (g s:ByteArray):prefB g s = prefL (bys g) (bys s):=by
 rw [Bool.eq_iff_iff,prefL_iff]
 simp only [prefB,Bool.and_eq_true,decide_eq_true_eq]
 have he:bys (s.extract 0 g.size) = (bys s).take g.size:=by
  simp [bys,ByteArray.data_extract,Array.toList_extract,List.extract_eq_take_drop]
 rw [he]
 have hl:(bys g).length = g.size:=rfl
 have hl':(bys s).length = s.size:=rfl
 constructor
 ·rintro ⟨h1,h2⟩
  refine ⟨(bys s).drop g.size,?_⟩
  rw [<- h2,List.take_append_drop]
 ·rintro ⟨r,hr⟩
  refine ⟨by rw [<- hl,<- hl',hr]; simp,by rw [hr,<- hl,List.take_left]⟩
def signsD:List (List UInt8):=[[60,45,62],[45,62],[91,93],[60,62],[40],[41],[44],[126],[38],[124],[47],[91],[93]]
theorem signs_mk:signsB = signsD.map mkS:=by rfl
def signL (l:List UInt8):Option (List UInt8):=signsD.find? (fun g => prefL g l)
theorem signR_L (l:List UInt8):signR (mkS l) = match signL l with | some g => ⟨4,mkS g,0⟩ | none => ⟨0,⟨#[]⟩,40⟩:=by
 unfold signR signL
 rw [signs_mk,List.find?_map]
 have:((fun g => prefB g (mkS l)) ∘ mkS) = fun g => prefL g l:=by funext g; simp [prefB_prefL,bys_mk]
 rw [this]
 cases signsD.find? (fun g => prefL g l) <;> rfl
theorem signsD_plain:∀ g ∈ signsD,(∀ x ∈ g,blL x = false /\ alL x = false) /\ g ≠ []:=by decide +kernel
theorem prefL_append {g l:List UInt8} (h:prefL g l = true) (r:List UInt8):prefL g (l ++ r) = true:=by
 obtain ⟨x,rfl⟩:=(prefL_iff _ _).1 h
 exact (prefL_iff _ _).2 ⟨x ++ r,by simp⟩
theorem signL_part {g u r:List UInt8} (h:signL (g ++ (u ++ r)) = some g):signL (g ++ u) = some g:=by
 unfold signL at h ⊢
 rw [List.find?_eq_some_iff_append] at h ⊢
 obtain ⟨h1,us,vs,h2,h3⟩:=h
 refine ⟨(prefL_iff _ _).2 ⟨u,rfl⟩,us,vs,h2,fun a ha => ?_⟩
 have h6:=h3 a ha
 cases hp:prefL a (g ++ u) with
 | false => rfl
 | true =>
  have h5:=prefL_append hp r
  rw [List.append_assoc] at h5
  rw [h5] at h6
  cases h6
theorem signL_mem {l g:List UInt8} (h:signL l = some g):g ∈ signsD /\ ∃ r,l = g ++ r:=by
 unfold signL at h
 exact ⟨List.mem_of_find?_eq_some h,(prefL_iff _ _).1 (List.find?_some (p:=fun g => prefL g l) h)⟩

theorem runR_ok {t:ByteArray} (h:(runR t).e = 0):(runR t).t = t /\ ((runR t).k = 1 ∨ (runR t).k = 3):=by
 unfold runR at h ⊢
 split
 ·exact ⟨rfl,.inr rfl⟩
 ·split
  ·exact ⟨rfl,.inl rfl⟩
  ·rename_i h1 h2; simp [h1,h2] at h
theorem runR_e (t:ByteArray):(runR t).e = 0 ∨ runR t = ⟨0,⟨#[]⟩,41⟩:=by
 unfold runR; split
 ·exact .inl rfl
 ·split
  ·exact .inl rfl
  ·exact .inr rfl
theorem markR_ok {t:ByteArray} (h:(markR t).e = 0):(markR t).t = t /\ (markR t).k = 2:=by
 unfold markR at h ⊢
 split
 ·exact ⟨rfl,rfl⟩
 ·rename_i h1; simp [h1] at h
theorem markR_e (t:ByteArray):(markR t).e = 0 ∨ markR t = ⟨0,⟨#[]⟩,41⟩:=by
 unfold markR; split
 ·exact .inl rfl
 ·exact .inr rfl
structure TokIs (c:UInt8) (l:List UInt8) (k:Int) (t:List UInt8) (r:List UInt8):Prop where
 all:c :: l = t ++ r
 ne:t ≠ []
 way:(letterB c.toNat = true /\ (k = 1 ∨ k = 3) /\ t = c :: l.takeWhile alL /\ runR (mkS t) = ⟨k,mkS t,0⟩) ∨
  (letterB c.toNat = false /\ markB c.toNat = true /\ k = 2 /\ t = c :: l.takeWhile alL /\ markR (mkS t) = ⟨k,mkS t,0⟩) ∨
  (letterB c.toNat = false /\ markB c.toNat = false /\ k = 4 /\ t ∈ signsD /\ signL (c :: l) = some t)
theorem KT.eta (x:KT):x = ⟨x.k,x.t,x.e⟩:=rfl
theorem read_ok {c:UInt8} {l:List UInt8} (h:(readL c l).e = 0):∃ r,TokIs c l (readL c l).k (bys (readL c l).t) r:=by
 unfold readL at h ⊢
 by_cases h1:letterB c.toNat = true
 ·rw [if_pos h1] at h ⊢
  obtain ⟨h2,h3⟩:=runR_ok h
  refine ⟨l.dropWhile alL,?_,?_,.inl ⟨h1,h3,?_,?_⟩⟩
  ·rw [h2,bys_mk,List.cons_append,List.takeWhile_append_dropWhile]
  ·rw [h2,bys_mk]; simp
  ·rw [h2,bys_mk]
  ·rw [h2,mk_bys]; conv => lhs; rw [KT.eta (runR _),h2,h]
 ·rw [if_neg h1] at h ⊢
  have h1':letterB c.toNat = false:=by simpa using h1
  by_cases h4:markB c.toNat = true
  ·rw [if_pos h4] at h ⊢
   obtain ⟨h2,h3⟩:=markR_ok h
   refine ⟨l.dropWhile alL,?_,?_,.inr (.inl ⟨h1',h4,h3,?_,?_⟩)⟩
   ·rw [h2,bys_mk,List.cons_append,List.takeWhile_append_dropWhile]
   ·rw [h2,bys_mk]; simp
   ·rw [h2,bys_mk]
   ·rw [h2,mk_bys]; conv => lhs; rw [KT.eta (markR _),h2,h]
  ·rw [if_neg h4] at h ⊢
   rw [signR_L] at h ⊢
   have h4':markB c.toNat = false:=by simpa using h4
   cases hs:signL (c :: l) with
   | none => rw [hs] at h; cases h
   | some g =>
    obtain ⟨hm,r,hr⟩:=signL_mem hs
    refine ⟨r,?_,?_,.inr (.inr ⟨h1',h4',rfl,?_,?_⟩)⟩
    ·rw [bys_mk]; exact hr
    ·rw [bys_mk]; exact (signsD_plain g hm).2
    ·rw [bys_mk]; exact hm
    ·rw [bys_mk]; exact hs
theorem takeWhile_part {p:UInt8 -> Bool}:∀ (l:List UInt8) (n:Nat) (t r:List UInt8),l.takeWhile p = t -> l = t ++ r -> (t ++ r.take n).takeWhile p = t
 | l,n,[],r,h,h2 => by
  subst h2
  cases l with
  | nil => simp
  | cons a r =>
   cases n with
   | zero => simp
   | succ n =>
    simp only [List.nil_append,List.takeWhile_cons] at h ⊢
    cases hp:p a with
    | true => rw [hp] at h; simp at h
    | false => simp [hp]
 | l,n,a :: t,r,h,h2 => by
  subst h2
  simp only [List.cons_append,List.takeWhile_cons] at h ⊢
  cases hp:p a with
  | false => rw [hp] at h; simp at h
  | true =>
   rw [hp] at h
   simp only [if_true,List.cons.injEq,true_and] at h ⊢
   exact takeWhile_part (t ++ r) n t r h rfl
theorem TokIs.part {c:UInt8} {l:List UInt8} {k:Int} {t r:List UInt8} (h:TokIs c l k t r) (n:Nat):∃ l',c :: l' = t ++ r.take n /\ readL c l' = ⟨k,mkS t,0⟩:=by
 obtain ⟨h1,h2,h3⟩:=h
 cases t with
 | nil => exact absurd rfl h2
 | cons d t =>
  simp only [List.cons_append,List.cons.injEq] at h1
  obtain ⟨rfl,h1⟩:=h1
  refine ⟨t ++ r.take n,by simp,?_⟩
  rcases h3 with ⟨a1,a2,a3,a4⟩ | ⟨a1,a2,a3,a4,a5⟩ | ⟨a1,a2,a3,a4,a5⟩
  ·simp only [List.cons.injEq,true_and] at a3
   unfold readL
   rw [if_pos a1,takeWhile_part l n t r a3.symm h1,a4]
  ·simp only [List.cons.injEq,true_and] at a4
   unfold readL
   rw [if_neg (by rw [a1]; decide),if_pos a2,takeWhile_part l n t r a4.symm h1,a5]
  ·unfold readL
   rw [if_neg (by rw [a1]; decide),if_neg (by rw [a2]; decide),signR_L]
   have:signL (c :: (t ++ r.take n)) = some (c :: t):=by
    rw [h1] at a5
    have:=signL_part (g:=c :: t) (u:=r.take n) (r:=r.drop n) (by rw [List.take_append_drop]; exact a5)
    exact this
   rw [this,a3]
theorem TokIs.len {c:UInt8} {l:List UInt8} {k:Int} {t r:List UInt8} (h:TokIs c l k t r):r.length < (c :: l).length:=by
 have h1:=congrArg List.length h.all
 have h2:t.length ≠ 0:=by intro e; exact h.ne (List.length_eq_zero_iff.1 e)
 rw [List.length_append] at h1; omega
theorem TokIs.kind {c:UInt8} {l:List UInt8} {k:Int} {t r:List UInt8} (h:TokIs c l k t r):1 <= k /\ k <= 4:=by
 rcases h.way with ⟨_,a,_⟩ | ⟨_,_,a,_⟩ | ⟨_,_,a,_⟩ <;> omega
theorem lex_total:∀ (n:Nat) (l:List UInt8),l.length <= n -> ∀ a,∃ ts p e,LexL a l ts p e
 | _,[],_,a => ⟨_,_,_,.nil a⟩
 | 0,c :: l,h,a => by simp at h
 | n + 1,c :: l,h,a => by
  cases hb:blL c with
  | true =>
   obtain ⟨ts,p,e,hL⟩:=lex_total n l (by simp at h; omega) (a + 1)
   exact ⟨ts,p,e,.blank hb hL⟩
  | false =>
   by_cases he:(readL c l).e = 0
   ·obtain ⟨r,hr⟩:=read_ok he
    obtain ⟨ts,p,e,hL⟩:=lex_total n r (by have:=hr.len; simp only [List.length_cons] at this h; omega) (a + (readL c l).t.size)
    exact ⟨_,p,e,.tok hb he hr.all hL⟩
   ·exact ⟨_,_,_,.bad hb he⟩
theorem readL_e (c:UInt8) (l:List UInt8):(readL c l).e = 0 ∨ (readL c l).e = 40 ∨ (readL c l).e = 41:=by
 unfold readL
 split
 ·rcases runR_e (mkS (c :: l.takeWhile alL)) with h | h
  ·exact .inl h
  ·rw [h]; exact .inr (.inr rfl)
 ·split
  ·rcases markR_e (mkS (c :: l.takeWhile alL)) with h | h
   ·exact .inl h
   ·rw [h]; exact .inr (.inr rfl)
  ·rw [signR_L]
   split
   ·exact .inl rfl
   ·exact .inr (.inl rfl)
theorem lex_err {a:Nat} {l:List UInt8} {ts:List Tok} {p:Nat} {e:Int} (h:LexL a l ts p e):(e = 0 /\ p = 0) ∨ ((e = 40 ∨ e = 41) /\ a <= p /\ p < a + l.length):=by
 induction h with
 | nil a => exact .inl ⟨rfl,rfl⟩
 | blank hb _ ih =>
  rcases ih with ih | ⟨h1,h2,h3⟩
  ·exact .inl ih
  ·exact .inr ⟨h1,by omega,by simp only [List.length_cons]; omega⟩
 | @bad a c l hb he =>
  rcases readL_e c l with h | h
  ·exact absurd h he
  ·exact .inr ⟨h,Nat.le_refl _,by simp⟩
 | @tok a c l r ts p e hb he hr _ ih =>
  rcases ih with ih | ⟨h1,h2,h3⟩
  ·exact .inl ih
  ·have:=congrArg List.length hr
   rw [List.length_append,show (bys (readL c l).t).length = (readL c l).t.size from rfl] at this
   exact .inr ⟨h1,by omega,by omega⟩
theorem lex_end {a:Nat} {l:List UInt8} {ts:List Tok} {p:Nat} {e:Int} (h:LexL a l ts p e):e = 0 -> ∃ init,ts = init ++ [⟨5,mkS [],a + l.length⟩] /\ ∀ t ∈ init,1 <= t.k /\ t.k <= 4 /\ 1 <= t.t.size:=by
 induction h with
 | nil a => exact fun _ => ⟨[],by simp,fun t ht => by cases ht⟩
 | @blank a c l ts p e hb _ ih =>
  intro he
  obtain ⟨init,h1,h2⟩:=ih he
  exact ⟨init,by rw [h1,List.length_cons,show a + 1 + l.length = a + (l.length + 1) by omega],h2⟩
 | bad hb he => exact fun h => absurd h he
 | @tok a c l r ts p e hb he hr _ ih =>
  intro h0
  obtain ⟨init,h1,h2⟩:=ih h0
  have:=congrArg List.length hr
  rw [List.length_append,show (bys (readL c l).t).length = (readL c l).t.size from rfl] at this
  obtain ⟨r',ht⟩:=read_ok he
  have hk:=ht.kind
  have hn:1 <= (readL c l).t.size:=by
   have h3:=ht.ne
   rcases Nat.eq_zero_or_pos (readL c l).t.size with h4 | h4
   ·exact absurd (List.length_eq_zero_iff.1 h4) h3
   ·exact h4
  refine ⟨_ :: init,by rw [h1,this,Nat.add_assoc]; rfl,fun t hm => ?_⟩
  rcases List.mem_cons.1 hm with rfl | hm
  ·exact ⟨hk.1,hk.2,hn⟩
  ·exact h2 t hm
theorem lex_places {a:Nat} {l:List UInt8} {ts:List Tok} {p:Nat} {e:Int} (h:LexL a l ts p e):ts.length <= l.length + 1 /\ ∀ t ∈ ts,a <= t.p /\ t.p + t.t.size <= a + l.length /\ (t.k = 1 ∨ t.k = 2 ∨ t.k = 3 ∨ t.k = 4 ∨ t.k = 5):=by
 induction h with
 | nil a => exact ⟨by simp,fun t ht => by rcases List.mem_singleton.1 ht with rfl; simp [mk_size]⟩
 | @blank a c l ts p e hb _ ih =>
  refine ⟨by simp only [List.length_cons]; omega,fun t ht => ?_⟩
  have:=ih.2 t ht
  simp only [List.length_cons]; exact ⟨by omega,by omega,this.2.2⟩
 | bad hb he => exact ⟨by simp,fun t ht => by cases ht⟩
 | @tok a c l r ts p e hb he hr _ ih =>
  have h3:=congrArg List.length hr
  rw [List.length_append,show (bys (readL c l).t).length = (readL c l).t.size from rfl] at h3
  obtain ⟨r',ht⟩:=read_ok he
  have hk:=ht.kind
  have h4:=ht.len
  have h5:=congrArg List.length ht.all
  rw [List.length_append,show (bys (readL c l).t).length = (readL c l).t.size from rfl] at h5
  refine ⟨by have:=ih.1; simp only [List.length_cons] at h3 h4 h5 ⊢; omega,fun t hm => ?_⟩
  rcases List.mem_cons.1 hm with rfl | hm
  ·exact ⟨Nat.le_refl _,by show a + (readL c l).t.size <= _; omega,by show (readL c l).k = 1 ∨ (readL c l).k = 2 ∨ (readL c l).k = 3 ∨ (readL c l).k = 4 ∨ (readL c l).k = 5; omega⟩
  ·have:=ih.2 t hm
   exact ⟨by omega,by omega,this.2.2⟩

def lexF:Nat -> Nat -> List UInt8 -> Option (List Tok × Nat × Int)
 | 0,_,_ => none
 | n + 1,a,[] => some ([⟨5,mkS [],a⟩],0,0)
 | n + 1,a,c :: l =>
  if blL c then lexF n (a + 1) l
  else if (readL c l).e = 0 then
   match lexF n (a + (readL c l).t.size) ((c :: l).drop (readL c l).t.size) with
   | some (ts,p,e) => some (⟨(readL c l).k,(readL c l).t,a⟩ :: ts,p,e)
   | none => none
  else some ([],a,(readL c l).e)
theorem lexF_sound:∀ (n a:Nat) (l:List UInt8) (ts:List Tok) (p:Nat) (e:Int),lexF n a l = some (ts,p,e) -> LexL a l ts p e
 | 0,_,_,_,_,_,h => by cases h
 | n + 1,a,[],ts,p,e,h => by
  simp only [lexF,Option.some.injEq,Prod.mk.injEq] at h
  obtain ⟨rfl,rfl,rfl⟩:=h
  exact .nil a
 | n + 1,a,c :: l,ts,p,e,h => by
  simp only [lexF] at h
  by_cases hb:blL c = true
  ·rw [if_pos hb] at h
   exact .blank hb (lexF_sound n _ _ _ _ _ h)
  ·rw [if_neg hb] at h
   have hb':blL c = false:=by simpa using hb
   by_cases he:(readL c l).e = 0
   ·rw [if_pos he] at h
    obtain ⟨r,hr⟩:=read_ok he
    have hd:(c :: l).drop (readL c l).t.size = r:=by
     rw [hr.all,show (readL c l).t.size = (bys (readL c l).t).length from rfl,List.drop_left]
    rw [hd] at h
    cases hq:lexF n (a + (readL c l).t.size) r with
    | none => rw [hq] at h; cases h
    | some x =>
     obtain ⟨ts',p',e'⟩:=x
     rw [hq] at h
     simp only [Option.some.injEq,Prod.mk.injEq] at h
     obtain ⟨rfl,rfl,rfl⟩:=h
     exact .tok hb' he hr.all (lexF_sound n _ _ _ _ _ hq)
   ·rw [if_neg he] at h
    simp only [Option.some.injEq,Prod.mk.injEq] at h
    obtain ⟨rfl,rfl,rfl⟩:=h
    exact .bad hb' he
end Go.Proofs.YtdobflpbkfkmgaaGreatDoor
