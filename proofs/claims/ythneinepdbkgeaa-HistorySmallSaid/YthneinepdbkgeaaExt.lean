/- What later acts keep of a tree. -/
import Derived.Test.YthneinepdbkgeaaActRow
namespace Go.Proofs.Ythneinepdbkgeaa
open Go.RowKit Go.HK
set_option linter.unusedVariables false
set_option linter.unusedSimpArgs false
set_option linter.unusedSectionVars false
/-- The entries of a are the first ones of b. -/
structure Ext (a b : List Go.HK.HN) : Prop where
  len : a.length ≤ b.length
  par : ∀ x, x < a.length → parF b x = parF a x
  tick : ∀ x, x < a.length → tickF b x = tickF a x
  note : ∀ x, x < a.length → noteF b x = noteF a x
  state : ∀ x, x < a.length → stateF b x = stateF a x
theorem Ext.refl (a : List Go.HK.HN) : Ext a a := ⟨Nat.le_refl _, fun _ _ => rfl, fun _ _ => rfl, fun _ _ => rfl, fun _ _ => rfl⟩
theorem Ext.trans {a b c : List Go.HK.HN} (h : Ext a b) (k : Ext b c) : Ext a c :=
  ⟨Nat.le_trans h.len k.len, fun x hx => (k.par x (Nat.lt_of_lt_of_le hx h.len)).trans (h.par x hx), fun x hx => (k.tick x (Nat.lt_of_lt_of_le hx h.len)).trans (h.tick x hx),
    fun x hx => (k.note x (Nat.lt_of_lt_of_le hx h.len)).trans (h.note x hx), fun x hx => (k.state x (Nat.lt_of_lt_of_le hx h.len)).trans (h.state x hx)⟩
theorem Ext.lead (a : List Go.HK.HN) (n : Nat) : Ext a (lead a n) :=
  ⟨Nat.le_of_eq (lead_length _ _).symm, fun x _ => congrFun (parF_leadL _ _ _) x, fun x _ => congrFun (tickF_leadL _ _ _) x, fun x _ => congrFun (noteF_leadL _ _ _) x, fun x _ => congrFun (stateF_leadL _ _ _) x⟩
theorem Ext.addN (a : List Go.HK.HN) (par : Nat) (tick : Int) (note state : ByteArray) : Ext a (addN a par tick note state) :=
  ⟨by simp, fun x hx => by rw [parF_addN, if_neg (by omega)], fun x hx => by rw [tickF_addN, if_neg (by omega)], fun x hx => by rw [noteF_addN, if_neg (by omega)], fun x hx => by rw [stateF_addN, if_neg (by omega)]⟩
/-- The entry x as data. -/
def entF (nodes : List Go.HK.HN) (x : Nat) : Ent := ⟨parF nodes x, tickF nodes x, noteF nodes x, stateF nodes x⟩
theorem ents_get {nodes : List Go.HK.HN} {x : Nat} (hx : x < nodes.length) : (ents nodes)[x]? = some (entF nodes x) := by
  obtain ⟨n, hn⟩ := get_of_lt hx
  simp [ents, hn, entF, parF, tickF, noteF, stateF, Go.HK.HN.ent]
theorem Ext.ent {a b : List Go.HK.HN} (h : Ext a b) {x : Nat} (hx : x < a.length) : entF b x = entF a x := by
  simp only [entF, h.par x hx, h.tick x hx, h.note x hx, h.state x hx]
end Go.Proofs.Ythneinepdbkgeaa
