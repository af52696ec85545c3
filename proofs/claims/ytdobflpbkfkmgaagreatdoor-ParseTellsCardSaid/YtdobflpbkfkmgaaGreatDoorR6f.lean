import Derived.Test.YtdobflpbkfkmgaaGreatDoorR6e
namespace Go.Proofs.YtdobflpbkfkmgaaGreatDoor
open Go.RowKit Go.HK Go.FR
set_option linter.unusedVariables false
set_option linter.unusedSimpArgs false
set_option linter.unusedSectionVars false
theorem runL_det9 {m:Bool} {ts:List Tok} {N N':Nat}:∀ (n:Nat) (acc:List Fm) (k:Nat) (x x':Ol) (n':Nat),runL m ts N n acc k = some x -> runL m ts N' n' acc k = some x' -> x' = x
 | 0,_,_,_,_,_,h,_ => by cases h
 | n + 1,acc,k,x,x',0,_,h' => by cases h'
 | n + 1,acc,k,x,x',n' + 1,h,h' => by
  unfold runL at h h'
  cases hy:run m ts N (.bin 0) k 0 with
  | none => rw [hy] at h; cases h
  | some y =>
   cases hy':run m ts N' (.bin 0) k 0 with
   | none => rw [hy'] at h'; cases h'
   | some y' =>
    have e:=run_det m ts hy' hy
    subst e
    rw [hy] at h
    rw [hy'] at h'
    cases y' with
    | bad k2 e => cases h; cases h'; rfl
    | ok ob k2 =>
     simp only at h h'
     by_cases hc:txt ts k2 = [44]
     ·rw [if_pos hc] at h h'
      exact runL_det9 n _ _ _ _ n' h h'
     ·rw [if_neg hc] at h h'
      cases h; cases h'; rfl
theorem runL_le9 {m:Bool} {ts:List Tok} {z N:Nat} (hE:Ends ts z):∀ (n:Nat) (acc:List Fm) (k:Nat) (x:Ol),k <= z -> runL m ts N n acc k = some x -> plL x <= z
 | 0,_,_,_,_,h => by cases h
 | n + 1,acc,k,x,hk,h => by
  unfold runL at h
  cases hy:run m ts N (.bin 0) k 0 with
  | none => rw [hy] at h; cases h
  | some y =>
   have h1:=run_iz hE N _ _ _ _ hk hy
   rw [hy] at h
   cases y with
   | bad k2 e => cases h; exact h1.2.1
   | ok ob k2 =>
    simp only at h
    split at h
    ·rename_i hc
     exact runL_le9 hE n _ _ _ (hE.lt h1.2.1 (by rw [hc]; decide)) h
    ·cases h; exact h1.2.1
theorem rforms_call (w:World) (s:ByteArray) (hs:s.size <= 16384) {r:An (List Fm)} (h:RdL false (bys s) r):Calls Tryz.prog 18 #[.string s] w (RetLs w (formsA r)):=by
 cases h with
 | lexbad hL he => exact rforms_lexbad w s hs hL he
 | @read ts p N n x hL hx =>
  have hT:=tsok_of_lex (l:=bys s) hs hL
  have hlen:=hT.en.len
  unfold runFs at hx
  by_cases h5:(tkA ts 0).k = 5
  ·rw [if_pos h5] at hx
   cases hx
   have h1:ts.length = 1:=by
    by_cases h0:0 < ts.length - 1
    ·have:=(hT.en.mid 0 h0).2.2; omega
    ·omega
   rw [show formsA (resL ts (.ok [] 0)) = .ok [] by simp only [resL]; rw [if_pos h5]; rfl]
   exact rforms_none w s hs hL h1
  ·rw [if_neg h5] at hx
   have h1:ts.length ≠ 1:=fun h => h5 (by have:=hT.en.last.1; rw [h] at this; exact this)
   obtain ⟨M,hM⟩:=fst_ex ts (ts.length - 1)
   obtain ⟨y,hy⟩:=runL_total (m:=true) hT.en (ts.length - 1 + 1) 0 [] (Nat.zero_le _) (by omega)
   have hle:=runL_le9 hT.en _ _ _ _ (Nat.zero_le _) hy
   have e:resL ts x = eL M ts y:=by
    unfold eL
    by_cases h:M <= ts.length - 1
    ·obtain ⟨a,b⟩:=runL_mta (mta_of hT (lex_kinds hL) hM h) _ _ _ _ _ _ (Nat.zero_le _) hy hx
     by_cases hh:M < plL y
     ·rw [if_pos hh,a hh]; rfl
     ·rw [if_neg hh,b hh]
    ·rw [if_neg (by omega)]
     rw [runL_nometa (m:=true) (m':=false) (no_mta hT hM h)] at hy
     rw [runL_det9 _ _ _ _ _ _ hx hy]
   rw [e]
   exact rforms_ok w s hs hL hy hM h1
end Go.Proofs.YtdobflpbkfkmgaaGreatDoor
