/- The history tree as plain data: what the functions of the program do to it. No memory, no program. -/
import Derived.Test.YthneinepdbkgeaaTree
namespace Go.HK
set_option linter.unusedVariables false
set_option linter.unusedSimpArgs false
set_option linter.unusedSectionVars false

/-- Parents in number form: -1 for the root (and for what is not there). -/
def parF (nodes : List HN) (x : Nat) : Int := ((nodes[x]?).map (·.par)).getD (-1)
def favF (nodes : List HN) (x : Nat) : Int := ((nodes[x]?).map (·.fav)).getD (-1)
def tickF (nodes : List HN) (x : Nat) : Int := ((nodes[x]?).map (·.tick)).getD 0
def noteF (nodes : List HN) (x : Nat) : ByteArray := ((nodes[x]?).map (·.note)).getD ByteArray.empty
def stateF (nodes : List HN) (x : Nat) : ByteArray := ((nodes[x]?).map (·.state)).getD ByteArray.empty
def upF (par : Nat → Int) : Nat → Int → List Nat
  | 0, _ => []
  | f + 1, i => if i < 0 then [] else i.toNat :: upF par f (par i.toNat)
/-- The entries from one to the root. -/
def upL (nodes : List HN) (i : Nat) : List Nat := upF (parF nodes) (i + 1) i
def wayL (nodes : List HN) (i : Nat) : List Nat := (upL nodes i).reverse

/-- Entries are those of a tree. -/
structure WF (nodes : List HN) (now : Nat) : Prop where
  pos : 0 < nodes.length
  le : nodes.length ≤ 1000
  now : now < nodes.length
  root : parF nodes 0 = -1
  par : ∀ x, 0 < x → x < nodes.length → 0 ≤ parF nodes x ∧ parF nodes x < x
  fav : ∀ x, x < nodes.length → favF nodes x = -1 ∨ ∃ y : Nat, favF nodes x = y ∧ y < nodes.length ∧ parF nodes y = x

theorem WF.par' {nodes : List HN} {now : Nat} (h : WF nodes now) : ∀ x, x < nodes.length → parF nodes x < x ∧ -1 ≤ parF nodes x := fun x hx => by
  rcases Nat.eq_zero_or_pos x with rfl | h0
  · rw [h.root]; exact ⟨by omega, by omega⟩
  · have := h.par x h0 hx; exact ⟨this.2, by omega⟩

section
variable {par : Nat → Int} {n : Nat}
theorem upF_ext (hpar : ∀ x, x < n → par x < x ∧ -1 ≤ par x) : ∀ (f f' : Nat) (i : Int), i < f → i < f' → i < n → upF par f i = upF par f' i
  | 0, 0, _, _, _, _ => rfl
  | 0, f' + 1, i, h, _, _ => by simp only [upF]; rw [if_pos (by omega)]
  | f + 1, 0, i, _, h, _ => by simp only [upF]; rw [if_pos (by omega)]
  | f + 1, f' + 1, i, h, h', hn => by
    simp only [upF]
    by_cases h0 : i < 0
    · rw [if_pos h0, if_pos h0]
    · rw [if_neg h0, if_neg h0]
      have := hpar i.toNat (by omega)
      rw [upF_ext hpar f f' (par i.toNat) (by omega) (by omega) (by omega)]
theorem upF_mem (hpar : ∀ x, x < n → par x < x ∧ -1 ≤ par x) : ∀ (f : Nat) (i : Int), i < n → ∀ x ∈ upF par f i, (x : Int) ≤ i
  | 0, _, _, x, hx => by simp [upF] at hx
  | f + 1, i, hn, x, hx => by
    simp only [upF] at hx
    split at hx
    · simp at hx
    · rcases List.mem_cons.1 hx with rfl | hx
      · omega
      · have h1 := hpar i.toNat (by omega)
        have := upF_mem hpar f (par i.toNat) (by omega) x hx
        omega
theorem upF_len (par : Nat → Int) : ∀ (f : Nat) (i : Int), (upF par f i).length ≤ f
  | 0, _ => by simp [upF]
  | f + 1, i => by
    simp only [upF]
    split
    · simp
    · have := upF_len par f (par i.toNat); simp; omega
end

theorem upL_cons {nodes : List HN} {now : Nat} (h : WF nodes now) {i : Nat} (hi : i < nodes.length) : upL nodes i = i :: (if parF nodes i < 0 then [] else upL nodes (parF nodes i).toNat) := by
  have hp := h.par' i hi
  have e1 : upL nodes i = i :: upF (parF nodes) i (parF nodes i) := by
    simp only [upL, upF]
    rw [if_neg (by omega)]
    rfl
  rw [e1]
  congr 1
  split
  · rename_i h0
    cases i with
    | zero => rfl
    | succ i => simp only [upF]; rw [if_pos h0]
  · rename_i h0
    unfold upL
    rw [show (((parF nodes i).toNat : Nat) : Int) = parF nodes i by omega]
    exact upF_ext h.par' _ _ _ (by omega) (by omega) (by omega)
theorem upL_mem {nodes : List HN} {now : Nat} (h : WF nodes now) {i : Nat} (hi : i < nodes.length) : ∀ x ∈ upL nodes i, x ≤ i := fun x hx => by
  have := upF_mem h.par' (i + 1) i (by omega) x hx
  omega
theorem upL_len {nodes : List HN} {now : Nat} (h : WF nodes now) {i : Nat} (hi : i < nodes.length) : (upL nodes i).length ≤ 1000 := by
  have := upF_len (parF nodes) (i + 1) i
  have := h.le
  unfold upL
  omega
theorem wayL_eq {nodes : List HN} {now : Nat} (h : WF nodes now) {i : Nat} (hi : i < nodes.length) : wayL nodes i = (if parF nodes i < 0 then [] else wayL nodes (parF nodes i).toNat) ++ [i] := by
  unfold wayL
  rw [upL_cons h hi]
  split <;> simp

/-- Children and entries with a state. -/
def kidsOf (nodes : List HN) (i : Nat) : List Nat := (List.range nodes.length).filter fun j => decide (parF nodes j = i)
def idxOf (nodes : List HN) (s : ByteArray) : List Nat := (List.range nodes.length).filter fun j => decide (stateF nodes j = s)
theorem kidsOf_len (nodes : List HN) (i : Nat) : (kidsOf nodes i).length ≤ nodes.length := by
  have := List.length_filter_le (fun j => decide (parF nodes j = (i : Int))) (List.range nodes.length)
  simpa [kidsOf] using this
theorem idxOf_len (nodes : List HN) (s : ByteArray) : (idxOf nodes s).length ≤ nodes.length := by
  have := List.length_filter_le (fun j => decide (stateF nodes j = s)) (List.range nodes.length)
  simpa [idxOf] using this

/-! ### the favourites -/
def setFav (nodes : List HN) (i : Nat) (f : Int) : List HN := nodes.modify i fun x => { x with fav := f }
@[simp] theorem setFav_length (nodes : List HN) (i : Nat) (f : Int) : (setFav nodes i f).length = nodes.length := by simp [setFav]
theorem setFav_get (nodes : List HN) (i : Nat) (f : Int) (x : Nat) : (setFav nodes i f)[x]? = if i = x then (nodes[x]?).map (fun y => { y with fav := f }) else nodes[x]? := by
  simp only [setFav, List.getElem?_modify]
  split <;> simp
theorem parF_setFav (nodes : List HN) (i : Nat) (f : Int) : parF (setFav nodes i f) = parF nodes := by
  funext x
  simp only [parF, setFav_get]
  split
  · cases nodes[x]? <;> rfl
  · rfl
theorem stateF_setFav (nodes : List HN) (i : Nat) (f : Int) : stateF (setFav nodes i f) = stateF nodes := by
  funext x
  simp only [stateF, setFav_get]
  split
  · cases nodes[x]? <;> rfl
  · rfl
theorem tickF_setFav (nodes : List HN) (i : Nat) (f : Int) : tickF (setFav nodes i f) = tickF nodes := by
  funext x
  simp only [tickF, setFav_get]
  split
  · cases nodes[x]? <;> rfl
  · rfl
theorem noteF_setFav (nodes : List HN) (i : Nat) (f : Int) : noteF (setFav nodes i f) = noteF nodes := by
  funext x
  simp only [noteF, setFav_get]
  split
  · cases nodes[x]? <;> rfl
  · rfl
theorem favF_setFav (nodes : List HN) (i : Nat) (f : Int) (x : Nat) : favF (setFav nodes i f) x = if i = x ∧ x < nodes.length then f else favF nodes x := by
  simp only [favF, setFav_get]
  by_cases h : i = x
  · subst h
    rw [if_pos rfl]
    by_cases hl : i < nodes.length
    · rw [if_pos ⟨rfl, hl⟩, List.getElem?_eq_getElem hl]; rfl
    · rw [if_neg (fun h => hl h.2), List.getElem?_eq_none (by omega)]; rfl
  · rw [if_neg h, if_neg (fun h' => h h'.1)]
/-- What 'lead' does while it goes up: child is the entry that came before (-1: none). -/
def leadL (nodes : List HN) : Int → List Nat → List HN
  | _, [] => nodes
  | c, x :: xs => leadL (if 0 ≤ c then setFav nodes x c else nodes) x xs
def lead (nodes : List HN) (n : Nat) : List HN := leadL nodes (-1) (upL nodes n)
theorem leadL_snoc : ∀ (xs : List Nat) (nodes : List HN) (c : Int) (x : Nat), leadL nodes c (xs ++ [x]) = (if 0 ≤ (xs.getLast?.map (fun y : Nat => (y : Int))).getD c then setFav (leadL nodes c xs) x ((xs.getLast?.map (fun y : Nat => (y : Int))).getD c) else leadL nodes c xs)
  | [], nodes, c, x => rfl
  | y :: xs, nodes, c, x => by
    simp only [List.cons_append, leadL]
    rw [leadL_snoc xs _ y x]
    have e : (((y :: xs).getLast?).map (fun y : Nat => (y : Int))).getD c = ((xs.getLast?).map (fun y : Nat => (y : Int))).getD (y : Int) := by
      cases xs with
      | nil => rfl
      | cons z zs => rw [List.getLast?_cons_cons]; cases h : (z :: zs).getLast? with
        | none => simp at h
        | some q => rfl
    rw [e]
@[simp] theorem leadL_length : ∀ (xs : List Nat) (nodes : List HN) (c : Int), (leadL nodes c xs).length = nodes.length
  | [], _, _ => rfl
  | x :: xs, nodes, c => by simp only [leadL]; rw [leadL_length xs]; split <;> simp
theorem parF_leadL : ∀ (xs : List Nat) (nodes : List HN) (c : Int), parF (leadL nodes c xs) = parF nodes
  | [], _, _ => rfl
  | x :: xs, nodes, c => by simp only [leadL]; rw [parF_leadL xs]; split <;> simp [parF_setFav]
theorem stateF_leadL : ∀ (xs : List Nat) (nodes : List HN) (c : Int), stateF (leadL nodes c xs) = stateF nodes
  | [], _, _ => rfl
  | x :: xs, nodes, c => by simp only [leadL]; rw [stateF_leadL xs]; split <;> simp [stateF_setFav]
theorem tickF_leadL : ∀ (xs : List Nat) (nodes : List HN) (c : Int), tickF (leadL nodes c xs) = tickF nodes
  | [], _, _ => rfl
  | x :: xs, nodes, c => by simp only [leadL]; rw [tickF_leadL xs]; split <;> simp [tickF_setFav]
theorem noteF_leadL : ∀ (xs : List Nat) (nodes : List HN) (c : Int), noteF (leadL nodes c xs) = noteF nodes
  | [], _, _ => rfl
  | x :: xs, nodes, c => by simp only [leadL]; rw [noteF_leadL xs]; split <;> simp [noteF_setFav]
end Go.HK
