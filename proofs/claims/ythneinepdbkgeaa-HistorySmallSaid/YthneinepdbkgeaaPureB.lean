/- Plain data: a new entry, the way made to lead to an entry: the tree stays a tree. -/
import Derived.Test.YthneinepdbkgeaaPure
namespace Go.HK
set_option linter.unusedVariables false
set_option linter.unusedSimpArgs false
set_option linter.unusedSectionVars false

/-- A new entry, filed under its parent. -/
def addN (nodes : List HN) (par : Nat) (tick : Int) (note state : ByteArray) : List HN := setFav (nodes ++ [⟨par, tick, note, state, -1⟩]) par nodes.length

section
variable (nodes : List HN) (e : HN)
theorem snoc_get (x : Nat) : (nodes ++ [e])[x]? = if x < nodes.length then nodes[x]? else if x = nodes.length then some e else none := by
  by_cases h : x < nodes.length
  · rw [if_pos h, List.getElem?_append_left h]
  · rw [if_neg h, List.getElem?_append_right (by omega)]
    by_cases h2 : x = nodes.length
    · rw [if_pos h2, h2]; simp
    · rw [if_neg h2, List.getElem?_eq_none (by simp; omega)]
theorem parF_snoc (x : Nat) : parF (nodes ++ [e]) x = if x = nodes.length then e.par else parF nodes x := by
  simp only [parF, snoc_get]
  split
  · rw [if_neg (by omega)]
  · split
    · rfl
    · rw [List.getElem?_eq_none (by omega)]
theorem favF_snoc (x : Nat) : favF (nodes ++ [e]) x = if x = nodes.length then e.fav else favF nodes x := by
  simp only [favF, snoc_get]
  split
  · rw [if_neg (by omega)]
  · split
    · rfl
    · rw [List.getElem?_eq_none (by omega)]
theorem stateF_snoc (x : Nat) : stateF (nodes ++ [e]) x = if x = nodes.length then e.state else stateF nodes x := by
  simp only [stateF, snoc_get]
  split
  · rw [if_neg (by omega)]
  · split
    · rfl
    · rw [List.getElem?_eq_none (by omega)]
theorem tickF_snoc (x : Nat) : tickF (nodes ++ [e]) x = if x = nodes.length then e.tick else tickF nodes x := by
  simp only [tickF, snoc_get]
  split
  · rw [if_neg (by omega)]
  · split
    · rfl
    · rw [List.getElem?_eq_none (by omega)]
theorem noteF_snoc (x : Nat) : noteF (nodes ++ [e]) x = if x = nodes.length then e.note else noteF nodes x := by
  simp only [noteF, snoc_get]
  split
  · rw [if_neg (by omega)]
  · split
    · rfl
    · rw [List.getElem?_eq_none (by omega)]
end

section
variable (nodes : List HN) (par : Nat) (tick : Int) (note state : ByteArray)
@[simp] theorem addN_length : (addN nodes par tick note state).length = nodes.length + 1 := by simp [addN]
theorem parF_addN (x : Nat) : parF (addN nodes par tick note state) x = if x = nodes.length then (par : Int) else parF nodes x := by
  rw [addN, parF_setFav, parF_snoc]
theorem stateF_addN (x : Nat) : stateF (addN nodes par tick note state) x = if x = nodes.length then state else stateF nodes x := by
  rw [addN, stateF_setFav, stateF_snoc]
theorem tickF_addN (x : Nat) : tickF (addN nodes par tick note state) x = if x = nodes.length then tick else tickF nodes x := by
  rw [addN, tickF_setFav, tickF_snoc]
theorem noteF_addN (x : Nat) : noteF (addN nodes par tick note state) x = if x = nodes.length then note else noteF nodes x := by
  rw [addN, noteF_setFav, noteF_snoc]
theorem favF_addN (hp : par < nodes.length) (x : Nat) : favF (addN nodes par tick note state) x = if x = nodes.length then -1 else if x = par then (nodes.length : Int) else favF nodes x := by
  rw [addN, favF_setFav, favF_snoc]
  simp only [List.length_append, List.length_cons, List.length_nil]
  by_cases h1 : x = nodes.length
  · rw [if_neg (by omega), if_pos h1, if_pos h1]
  · rw [if_neg h1, if_neg h1]
    by_cases h2 : x = par
    · rw [if_pos ⟨h2.symm, by omega⟩, if_pos h2]
    · rw [if_neg (fun h => h2 h.1.symm), if_neg h2]
theorem kidsOf_addN : kidsOf (addN nodes par tick note state) = fun j => if j = par then kidsOf nodes par ++ [nodes.length] else kidsOf nodes j := by
  funext j
  simp only [kidsOf, addN_length, List.range_succ, List.filter_append]
  have e1 : ∀ i : Nat, (List.range nodes.length).filter (fun j => decide (parF (addN nodes par tick note state) j = (i : Int))) = (List.range nodes.length).filter (fun j => decide (parF nodes j = (i : Int))) := fun i => by
    apply List.filter_congr
    intro q hq
    have := List.mem_range.1 hq
    rw [parF_addN, if_neg (by omega)]
  rw [e1]
  by_cases h : j = par
  · subst h
    rw [if_pos rfl]
    congr 1
    simp [parF_addN]
  · rw [if_neg h]
    have : ([nodes.length].filter fun q => decide (parF (addN nodes par tick note state) q = (j : Int))) = [] := by
      simp [parF_addN]; omega
    rw [this, List.append_nil]
theorem idxOf_addN : idxOf (addN nodes par tick note state) = fun s => if s = state then idxOf nodes state ++ [nodes.length] else idxOf nodes s := by
  funext s
  simp only [idxOf, addN_length, List.range_succ, List.filter_append]
  have e1 : ∀ s : ByteArray, (List.range nodes.length).filter (fun j => decide (stateF (addN nodes par tick note state) j = s)) = (List.range nodes.length).filter (fun j => decide (stateF nodes j = s)) := fun s => by
    apply List.filter_congr
    intro q hq
    have := List.mem_range.1 hq
    rw [stateF_addN, if_neg (by omega)]
  rw [e1]
  by_cases h : s = state
  · subst h
    rw [if_pos rfl]
    congr 1
    simp [stateF_addN]
  · rw [if_neg h]
    have : ([nodes.length].filter fun q => decide (stateF (addN nodes par tick note state) q = s)) = [] := by
      simp [stateF_addN]; exact fun e => h e.symm
    rw [this, List.append_nil]
end

theorem WF.addN {nodes : List HN} {now : Nat} (h : WF nodes now) {par : Nat} (hp : par < nodes.length) (hle : nodes.length < 1000) (tick : Int) (note state : ByteArray) : WF (addN nodes par tick note state) now where
  pos := by simp
  le := by simp; omega
  now := by have := h.now; simp; omega
  root := by rw [parF_addN, if_neg (by have := h.pos; omega), h.root]
  par := fun x h0 hx => by
    simp at hx
    rw [parF_addN]
    by_cases e : x = nodes.length
    · rw [if_pos e]; omega
    · rw [if_neg e]; exact h.par x h0 (by omega)
  fav := fun x hx => by
    simp at hx
    rw [favF_addN _ _ _ _ _ hp]
    by_cases e : x = nodes.length
    · rw [if_pos e]; exact .inl rfl
    · rw [if_neg e]
      by_cases e2 : x = par
      · rw [if_pos e2]
        exact .inr ⟨nodes.length, rfl, by simp, by rw [parF_addN, if_pos rfl, e2]⟩
      · rw [if_neg e2]
        rcases h.fav x (by omega) with h1 | ⟨y, h1, h2, h3⟩
        · exact .inl h1
        · exact .inr ⟨y, h1, by simp; omega, by rw [parF_addN, if_neg (by omega), h3]⟩

theorem WF.setFav {nodes : List HN} {now : Nat} (h : WF nodes now) {x c : Nat} (hc : c < nodes.length) (hp : parF nodes c = x) : WF (setFav nodes x c) now where
  pos := by simpa using h.pos
  le := by simpa using h.le
  now := by simpa using h.now
  root := by rw [parF_setFav]; exact h.root
  par := fun y h0 hy => by rw [parF_setFav]; exact h.par y h0 (by simpa using hy)
  fav := fun y hy => by
    simp at hy
    rw [favF_setFav, parF_setFav]
    by_cases e : x = y ∧ y < nodes.length
    · rw [if_pos e]; exact .inr ⟨c, rfl, by simpa using hc, by rw [hp, e.1]⟩
    · rw [if_neg e]
      rcases h.fav y hy with h1 | ⟨z, h1, h2, h3⟩
      · exact .inl h1
      · exact .inr ⟨z, h1, by simpa using h2, h3⟩
/-- Each entry of the list is the parent of the one before. -/
def Chain (par : Nat → Int) : Int → List Nat → Prop
  | _, [] => True
  | c, x :: xs => (0 ≤ c → par c.toNat = x) ∧ Chain par x xs
theorem WF.leadL {now : Nat} : ∀ (xs : List Nat) {nodes : List HN} (c : Int), WF nodes now → c < nodes.length → (∀ x ∈ xs, x < nodes.length) → Chain (parF nodes) c xs → WF (leadL nodes c xs) now
  | [], _, _, h, _, _, _ => h
  | x :: xs, nodes, c, h, hc, hx, hch => by
    simp only [HK.leadL]
    have hxl := hx x (by simp)
    split
    · rename_i h0
      have hs : WF (HK.setFav nodes x c) now := by
        have := h.setFav (x := x) (c := c.toNat) (by omega) (hch.1 h0)
        rwa [show ((c.toNat : Nat) : Int) = c by omega] at this
      refine WF.leadL xs (x : Int) hs (by simp; omega) (fun y hy => by simp; exact hx y (List.mem_cons_of_mem _ hy)) ?_
      rw [parF_setFav]; exact hch.2
    · exact WF.leadL xs (x : Int) h (by omega) (fun y hy => hx y (List.mem_cons_of_mem _ hy)) hch.2
theorem chain_upF {par : Nat → Int} {n : Nat} (hpar : ∀ x, x < n → par x < x ∧ -1 ≤ par x) : ∀ (f : Nat) (c i : Int), i < n → (0 ≤ c → par c.toNat = i) → Chain par c (upF par f i)
  | 0, _, _, _, _ => trivial
  | f + 1, c, i, hi, hc => by
    simp only [upF]
    split
    · trivial
    · rename_i h0
      refine ⟨fun h => by rw [hc h]; omega, ?_⟩
      have := hpar i.toNat (by omega)
      exact chain_upF hpar f _ _ (by omega) (fun _ => rfl)
theorem WF.lead {nodes : List HN} {now : Nat} (h : WF nodes now) {i : Nat} (hi : i < nodes.length) : WF (lead nodes i) now :=
  WF.leadL _ _ h (by have := h.pos; omega) (fun x hx => by have := upL_mem h hi x hx; omega) (chain_upF h.par' _ _ _ (by omega) (fun h => by omega))
theorem lead_length (nodes : List HN) (i : Nat) : (lead nodes i).length = nodes.length := leadL_length _ _ _
theorem kidsOf_congr {a b : List HN} (hl : a.length = b.length) (hp : parF a = parF b) : kidsOf a = kidsOf b := by
  funext i; simp only [kidsOf, hl, hp]
theorem idxOf_congr {a b : List HN} (hl : a.length = b.length) (hp : stateF a = stateF b) : idxOf a = idxOf b := by
  funext i; simp only [idxOf, hl, hp]
theorem kidsOf_lead (nodes : List HN) (i : Nat) : kidsOf (lead nodes i) = kidsOf nodes := kidsOf_congr (lead_length _ _) (parF_leadL _ _ _)
theorem idxOf_lead (nodes : List HN) (i : Nat) : idxOf (lead nodes i) = idxOf nodes := idxOf_congr (lead_length _ _) (stateF_leadL _ _ _)
end Go.HK
