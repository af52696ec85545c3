import Derived.WalkKit
import Derived.Laws.BitsAllLaws
namespace Go.FR
open Go
theorem ofInt64 (a:Nat) (ha:a < 18446744073709551616):(BitVec.ofInt 64 (a:Int)).toNat = a:=by
 rw [BitVec.ofInt_natCast,BitVec.toNat_ofNat]; exact Nat.mod_eq_of_lt (by omega)
theorem bits_and (a b:Nat) (ha:a < 4294967296) (hb:b < 4294967296):bits .and .i64 (a:Int) (b:Int) = ((a &&& b:Nat):Int):=by
 have hx:a &&& b < 2 ^ 32:=Nat.and_lt_two_pow _ (by omega)
 show IntKind.i64.wrap ((BitVec.ofInt 64 (a:Int) &&& BitVec.ofInt 64 (b:Int)).toNat:Int) = _
 rw [BitVec.toNat_and,ofInt64 a (by omega),ofInt64 b (by omega)]
 exact IntWalk.i64_in _ (by omega)
theorem bits_or (a b:Nat) (ha:a < 4294967296) (hb:b < 4294967296):bits .or .i64 (a:Int) (b:Int) = ((a ||| b:Nat):Int):=by
 have hx:a ||| b < 2 ^ 32:=Nat.or_lt_two_pow (by omega) (by omega)
 show IntKind.i64.wrap ((BitVec.ofInt 64 (a:Int) ||| BitVec.ofInt 64 (b:Int)).toNat:Int) = _
 rw [BitVec.toNat_or,ofInt64 a (by omega),ofInt64 b (by omega)]
 exact IntWalk.i64_in _ (by omega)
theorem bits_xor (a b:Nat) (ha:a < 4294967296) (hb:b < 4294967296):bits .xor .i64 (a:Int) (b:Int) = ((a ^^^ b:Nat):Int):=by
 have hx:a ^^^ b < 2 ^ 32:=Nat.xor_lt_two_pow (by omega) (by omega)
 show IntKind.i64.wrap ((BitVec.ofInt 64 (a:Int) ^^^ BitVec.ofInt 64 (b:Int)).toNat:Int) = _
 rw [BitVec.toNat_xor,ofInt64 a (by omega),ofInt64 b (by omega)]
 exact IntWalk.i64_in _ (by omega)
def andn (a b:Nat):Nat:=a &&& (18446744073709551615 - b)
theorem bits_andn (a b:Nat) (ha:a < 4294967296) (hb:b < 4294967296):bits .andNot .i64 (a:Int) (b:Int) = ((andn a b:Nat):Int):=by
 have hx:andn a b < 2 ^ 32:=by unfold andn; exact Nat.lt_of_le_of_lt Nat.and_le_left (by omega)
 show IntKind.i64.wrap ((BitVec.ofInt 64 (a:Int) &&& ~~~BitVec.ofInt 64 (b:Int)).toNat:Int) = _
 rw [BitVec.toNat_and,BitVec.toNat_not,ofInt64 a (by omega),ofInt64 b (by omega)]
 have e:2 ^ 64 - 1 - b = 18446744073709551615 - b:=by omega
 rw [e]
 exact IntWalk.i64_in _ (by unfold andn at hx; omega)
theorem testBit_one (a u:Nat):((a >>> u) &&& 1 = 1) ↔ a.testBit u = true:=by
 rw [Nat.testBit,Nat.and_comm]
 have h:1 &&& a >>> u < 2:=by have:=@Nat.and_le_left 1 (a >>> u); omega
 constructor
 ·intro h; simp [h]
 ·intro h2; have:¬ (1 &&& a >>> u) = 0:=by simpa using h2
  omega
end Go.FR
namespace Go.FR
open Go
set_option linter.unusedVariables false
set_option linter.unusedSimpArgs false
inductive Tm where
 | mk (var:Bool) (name:ByteArray) (args:List Tm)
inductive Fm where
 | mk (op:Nat) (name:ByteArray) (args:List Tm) (subs:List Fm)
def maskN:Nat -> (Nat -> Bool) -> Nat
 | 0,_ => 0
 | n + 1,P => if P n = true then maskN n P ||| 1 <<< n else maskN n P
theorem shl_test (n w:Nat):(1 <<< n:Nat).testBit w = decide (w = n):=by
 rw [Nat.one_shiftLeft,Nat.testBit_two_pow]
 by_cases h:n = w
 ·subst h; simp
 ·have h2:¬ w = n:=fun e => h e.symm
  simp [h,h2]
theorem maskN_test (P:Nat -> Bool):∀ n w,(maskN n P).testBit w = (decide (w < n) && P w)
 | 0,w => by simp [maskN]
 | n + 1,w => by
  have ih:=maskN_test P n w
  unfold maskN
  by_cases h:P n = true
  ·rw [if_pos h,Nat.testBit_or,ih,shl_test]
   by_cases e:w = n
   ·subst e; simp [h]
   ·have:decide (w < n + 1) = decide (w < n):=by simp; omega
    simp [e,this]
  ·rw [if_neg h,ih]
   by_cases e:w = n
   ·subst e; simp [h]
   ·have:decide (w < n + 1) = decide (w < n):=by simp; omega
    simp [this]
theorem lt_of_bits {a n:Nat} (h:∀ w,a.testBit w = true -> w < n):a < 2 ^ n:=by
 apply Nat.lt_pow_two_of_testBit
 intro i hi
 rcases hb:a.testBit i with _ | _
 ·rfl
 ·have:=h i hb; omega
theorem bits_lt {a n w:Nat} (h:a < 2 ^ n) (hb:a.testBit w = true):w < n:=by
 rcases Nat.lt_or_ge w n with h1 | h1
 ·exact h1
 ·rw [Nat.testBit_lt_two_pow (Nat.lt_of_lt_of_le h (Nat.pow_le_pow_right (by omega) h1))] at hb
  cases hb
theorem maskN_lt (P:Nat -> Bool) (n:Nat):maskN n P < 2 ^ n:=lt_of_bits fun w h => by
 rw [maskN_test] at h
 simp at h
 exact h.1
theorem andn_test {a b:Nat} (ha:a < 4294967296) (hb:b < 4294967296) (u:Nat):(andn a b).testBit u = (a.testBit u && !b.testBit u):=by
 unfold andn
 rw [Nat.testBit_and]
 have e:18446744073709551615 - b = 2 ^ 64 - (b + 1):=by omega
 rw [e,Nat.testBit_two_pow_sub_succ (by omega)]
 rcases hu:a.testBit u with _ | _
 ·rfl
 ·have:u < 32:=bits_lt (n:=32) (by omega) hu
  have h2:u < 64:=by omega
  simp [h2]
theorem andn_zero {a b:Nat} (ha:a < 4294967296) (hb:b < 4294967296):andn a b = 0 ↔ ∀ u,a.testBit u = true -> b.testBit u = true:=by
 constructor
 ·intro h u hu
  have:=congrArg (fun x => Nat.testBit x u) h
  simp only [andn_test ha hb,hu,Bool.true_and,Nat.zero_testBit] at this
  simpa using this
 ·intro h
  apply Nat.eq_of_testBit_eq
  intro u
  rw [andn_test ha hb,Nat.zero_testBit]
  rcases hu:a.testBit u with _ | _
  ·rfl
  ·rw [h u hu]; rfl
def holdsB (force:Bool) (op w sees a b:Nat):Bool :=
 let reach:=if force then sees else 1 <<< w
 if op = 3 then decide (reach &&& a = 0)
 else if op = 4 then (a &&& b).testBit w
 else if op = 5 then (a ||| b).testBit w
 else if op = 6 then decide (andn (reach &&& a) b = 0)
 else if op = 7 then decide (reach &&& (a ^^^ b) = 0)
 else if op = 10 then decide (andn sees a = 0)
 else if op = 11 then decide (sees &&& a ≠ 0)
 else false
def nodeS (force:Bool) (rel:List Nat) (look:ByteArray -> Option Nat) (op:Nat) (nm:ByteArray) (a b:Nat):Nat :=
 if op = 1 then (look nm).getD 0 else maskN rel.length fun w => holdsB force op w (rel.getD w 0) a b
mutual
def semF (force:Bool) (rel:List Nat) (look:ByteArray -> Option Nat):Fm -> Nat
 | .mk op nm _ subs => nodeS force rel look op nm (semL force rel look subs).1 (semL force rel look subs).2
def semL (force:Bool) (rel:List Nat) (look:ByteArray -> Option Nat):List Fm -> Nat × Nat
 | [] => (0,0)
 | f :: r => (semF force rel look f,(semL force rel look r).1)
end
mutual
def lackF (look:ByteArray -> Option Nat):Fm -> Bool
 | .mk op nm _ subs => (lackL look subs).1 || (lackL look subs).2 || (decide (op = 1) && (look nm).isNone)
def lackL (look:ByteArray -> Option Nat):List Fm -> Bool × Bool
 | [] => (false,false)
 | f :: r => (lackF look f,(lackL look r).1)
end
def Op1 (op:Nat) (f:Fm):Fm:=.mk op ⟨#[]⟩ [] [f]
def Op2 (op:Nat) (f g:Fm):Fm:=.mk op ⟨#[]⟩ [] [f,g]
structure FrOk (rel:List Nat):Prop where
 len:rel.length <= 4
 lt:∀ (w s:Nat),rel[w]? = some s -> s < 2 ^ rel.length
def LookOk (n:Nat) (look:ByteArray -> Option Nat):Prop:=∀ s m,look s = some m -> m < 2 ^ n
theorem pow_le4 {n:Nat} (h:n <= 4):2 ^ n <= 16:=by
 have:=Nat.pow_le_pow_right (n:=2) (by omega) h
 omega
theorem FrOk.get {rel:List Nat} (h:FrOk rel) (w:Nat):rel.getD w 0 < 16:=by
 have hp:=pow_le4 h.len
 rw [List.getD_eq_getElem?_getD]
 rcases e:rel[w]? with _ | s
 ·simp
 ·have:=h.lt w s e
  simp; omega
theorem nodeS_lt {force:Bool} {rel:List Nat} {look:ByteArray -> Option Nat} (hl:LookOk rel.length look) (op:Nat) (nm:ByteArray) (a b:Nat):nodeS force rel look op nm a b < 2 ^ rel.length:=by
 unfold nodeS
 split
 ·rcases e:look nm with _ | m
  ·exact Nat.two_pow_pos _
  ·exact hl nm m e
 ·exact maskN_lt _ _
theorem semF_lt {force:Bool} {rel:List Nat} {look:ByteArray -> Option Nat} (hl:LookOk rel.length look) (f:Fm):semF force rel look f < 2 ^ rel.length:=by
 cases f with
 | mk op nm args subs => unfold semF; exact nodeS_lt hl _ _ _ _
theorem semF_16 {force:Bool} {rel:List Nat} {look:ByteArray -> Option Nat} (hr:FrOk rel) (hl:LookOk rel.length look) (f:Fm):semF force rel look f < 16 :=
 Nat.lt_of_lt_of_le (semF_lt hl f) (pow_le4 hr.len)
end Go.FR
namespace Go.FR
open Go
set_option linter.unusedVariables false
set_option linter.unusedSimpArgs false
structure Forc (rel:List Nat):Prop where
 ok:FrOk rel
 refl:∀ w,w < rel.length -> (rel.getD w 0).testBit w = true
 trans:∀ w u v,(rel.getD w 0).testBit u = true -> (rel.getD u 0).testBit v = true -> (rel.getD w 0).testBit v = true
def UpM (rel:List Nat) (m:Nat):Prop:=∀ w u,m.testBit w = true -> (rel.getD w 0).testBit u = true -> m.testBit u = true
def LookUp (rel:List Nat) (look:ByteArray -> Option Nat):Prop:=∀ s m,look s = some m -> UpM rel m
mutual
def opsF (modal:Bool):Fm -> Bool
 | .mk op _ args subs => args.isEmpty && (decide (1 <= op /\ op <= 7) || (modal && (decide (op = 10) || decide (op = 11)))) && opsL modal subs
def opsL (modal:Bool):List Fm -> Bool
 | [] => true
 | f :: r => opsF modal f && opsL modal r
end
theorem FrOk.lt32 {rel:List Nat} (h:FrOk rel) (w:Nat):rel.getD w 0 < 4294967296:=by have:=h.get w; omega
theorem one_shl_lt {w:Nat} (h:w < 4):(1 <<< w:Nat) < 16:=by
 rw [Nat.one_shiftLeft]
 have:=Nat.pow_le_pow_right (n:=2) (by omega) (show w <= 3 by omega)
 omega
end Go.FR
namespace Go.FR
open Go
set_option linter.unusedVariables false
set_option linter.unusedSimpArgs false
set_option linter.unusedSectionVars false
section
variable {force:Bool} {rel:List Nat} {look:ByteArray -> Option Nat}
theorem FrOk.see {rel:List Nat} (h:FrOk rel) {w u:Nat} (hs:(rel.getD w 0).testBit u = true):w < rel.length /\ u < rel.length:=by
 by_cases hw:w < rel.length
 ·have hx:rel[w]? = some (rel.getD w 0):=by rw [List.getD_eq_getElem?_getD,List.getElem?_eq_getElem hw]; rfl
  exact ⟨hw,bits_lt (h.lt w _ hx) hs⟩
 ·rw [List.getD_eq_getElem?_getD,List.getElem?_eq_none (by omega)] at hs
  simp at hs
end
section
variable {rel:List Nat} {look:ByteArray -> Option Nat} (hF:Forc rel) (hlk:LookOk rel.length look) (hup:LookUp rel look)
include hF hlk
include hup
end
end Go.FR
