/- Frame: the formulas that Built makes, as data. No program in sight. -/
import Derived.Test.YtflmllablfjfeaaDoorPlF
namespace Go.FR
open Go
set_option linter.unusedVariables false
set_option linter.unusedSimpArgs false
set_option linter.unusedSectionVars false
mutual
def nodesF : Fm → Nat
  | .mk _ _ args subs => 1 + nodesTs args + nodesL subs
def nodesL : List Fm → Nat
  | [] => 0
  | f :: r => nodesF f + nodesL r
def nodesT : Tm → Nat
  | .mk _ _ args => 1 + nodesTs args
def nodesTs : List Tm → Nat
  | [] => 0
  | t :: r => nodesT t + nodesTs r
end
mutual
def depthT : Tm → Nat
  | .mk _ _ args => 1 + depthTs args
def depthTs : List Tm → Nat
  | [] => 0
  | t :: r => max (depthT t) (depthTs r)
end
mutual
def depthF : Fm → Nat
  | .mk _ _ args subs => 1 + max (depthTs args) (depthL subs)
def depthL : List Fm → Nat
  | [] => 0
  | f :: r => max (depthF f) (depthL r)
end
/-- The name of the atom that a byte makes. -/
def pqr (k : Nat) : ByteArray := ⟨#[UInt8.ofNat (80 + k)]⟩
def AtomF (nm : ByteArray) : Fm := .mk 1 nm [] []
def FalseF : Fm := .mk 2 ⟨#[]⟩ [] []
mutual
/-- A formula of a kind over the atoms P, Q and R, without arguments. -/
def plnF (modal : Bool) : Fm → Bool
  | .mk op nm args subs => args.isEmpty && ((decide (op = 1) && (decide (nm = pqr 0) || decide (nm = pqr 1) || decide (nm = pqr 2)) && subs.isEmpty) || (decide (op = 2) && decide (nm = ⟨#[]⟩) && subs.isEmpty) || (decide (op = 3) && decide (nm = ⟨#[]⟩) && decide (subs.length = 1)) ||
      (decide (4 ≤ op ∧ op ≤ 7) && decide (nm = ⟨#[]⟩) && decide (subs.length = 2)) || (modal && decide (op = 10 ∨ op = 11) && decide (nm = ⟨#[]⟩) && decide (subs.length = 1))) && plnL modal subs
def plnL (modal : Bool) : List Fm → Bool
  | [] => true
  | f :: r => plnF modal f && plnL modal r
end
/-- One byte more. -/
def bstep (modal : Bool) (s : List Fm) (b : Nat) : List Fm :=
  let n := s.length
  let op := b % 10
  if op < 3 then s ++ [AtomF (pqr op)]
  else if op = 3 ∧ 1 ≤ n then s.take (n - 1) ++ [Op1 3 (s.getD (n - 1) FalseF)]
  else if 3 < op ∧ op < 8 ∧ 2 ≤ n then s.take (n - 2) ++ [Op2 op (s.getD (n - 2) FalseF) (s.getD (n - 1) FalseF)]
  else if 8 ≤ op ∧ 1 ≤ n ∧ modal = true then s.take (n - 1) ++ [Op1 (op + 2) (s.getD (n - 1) FalseF)]
  else if op = 8 then s ++ [FalseF]
  else s
def bstack (modal : Bool) (l : List Nat) : List Fm := l.foldl (bstep modal) []
def bjoin : List Fm → Fm
  | [] => FalseF
  | f :: r => r.foldl (fun a b => Op2 5 a b) f
/-- What Built returns. -/
def builtF (modal : Bool) (l : List Nat) : Fm := bjoin (bstack modal (l.take 20))
theorem nodesF_pos (f : Fm) : 1 ≤ nodesF f := by cases f; unfold nodesF; omega
mutual
theorem depth_leT : ∀ t : Tm, depthT t ≤ nodesT t
  | .mk _ _ args => by unfold depthT nodesT; have := depth_leTs args; omega
theorem depth_leTs : ∀ l : List Tm, depthTs l ≤ nodesTs l
  | [] => Nat.le_refl _
  | t :: r => by unfold depthTs nodesTs; have := depth_leT t; have := depth_leTs r; omega
end
mutual
theorem depth_leF : ∀ f : Fm, depthF f ≤ nodesF f
  | .mk _ _ args subs => by unfold depthF nodesF; have := depth_leTs args; have := depth_leL subs; omega
theorem depth_leL : ∀ l : List Fm, depthL l ≤ nodesL l
  | [] => Nat.le_refl _
  | t :: r => by unfold depthL nodesL; have := depth_leF t; have := depth_leL r; omega
end
theorem nodesL_append : ∀ a b : List Fm, nodesL (a ++ b) = nodesL a + nodesL b
  | [], b => by simp [nodesL]
  | f :: a, b => by simp only [List.cons_append, nodesL, nodesL_append a b]; omega
theorem nodesL_len : ∀ l : List Fm, l.length ≤ nodesL l
  | [] => by simp
  | f :: l => by have := nodesL_len l; have := nodesF_pos f; simp only [List.length_cons, nodesL]; omega
theorem nodes_one (op : Nat) (f : Fm) : nodesF (Op1 op f) = nodesF f + 1 := by unfold Op1; simp only [nodesF, nodesTs, nodesL]; omega
theorem nodes_two (op : Nat) (f g : Fm) : nodesF (Op2 op f g) = nodesF f + nodesF g + 1 := by unfold Op2; simp only [nodesF, nodesTs, nodesL]; omega
theorem depth_one (op : Nat) (f : Fm) : depthF (Op1 op f) = depthF f + 1 := by unfold Op1; simp only [depthF, depthTs, depthL]; omega
theorem depth_two (op : Nat) (f g : Fm) : depthF (Op2 op f g) = max (depthF f) (depthF g) + 1 := by unfold Op2; simp only [depthF, depthTs, depthL]; omega
theorem take_last {s : List Fm} (h : 1 ≤ s.length) : s = s.take (s.length - 1) ++ [s.getD (s.length - 1) FalseF] := by
  have hi : s.length - 1 < s.length := by omega
  have e : s.getD (s.length - 1) FalseF = s[s.length - 1] := by rw [List.getD_eq_getElem?_getD, List.getElem?_eq_getElem hi]; rfl
  rw [e, ← List.take_succ_eq_append_getElem hi, List.take_of_length_le (by omega)]
theorem take_last2 {s : List Fm} (h : 2 ≤ s.length) : s = s.take (s.length - 2) ++ [s.getD (s.length - 2) FalseF, s.getD (s.length - 1) FalseF] := by
  have hi : s.length - 2 < s.length := by omega
  have e : s.getD (s.length - 2) FalseF = s[s.length - 2] := by rw [List.getD_eq_getElem?_getD, List.getElem?_eq_getElem hi]; rfl
  have h1 := take_last (s := s) (by omega)
  have e2 : s.take (s.length - 1) = s.take (s.length - 2) ++ [s.getD (s.length - 2) FalseF] := by
    rw [e, ← List.take_succ_eq_append_getElem hi]
    congr 1; omega
  rw [e2, List.append_assoc] at h1
  exact h1
/-- A stack of plain formulas. -/
def PlnS (modal : Bool) (s : List Fm) (k : Nat) : Prop := plnL modal s = true ∧ nodesL s ≤ k
theorem plnL_append (modal : Bool) : ∀ a b : List Fm, plnL modal (a ++ b) = (plnL modal a && plnL modal b)
  | [], b => by simp [plnL]
  | f :: a, b => by simp only [List.cons_append, plnL, plnL_append modal a b, Bool.and_assoc]
theorem pln_atom (modal : Bool) {k : Nat} (h : k < 3) : plnF modal (AtomF (pqr k)) = true := by
  unfold AtomF plnF
  rcases (by omega : k = 0 ∨ k = 1 ∨ k = 2) with rfl | rfl | rfl <;> simp [plnL]
theorem pln_false (modal : Bool) : plnF modal FalseF = true := by unfold FalseF plnF; simp [plnL]
theorem pln_one {modal : Bool} {op : Nat} {f : Fm} (ho : op = 3 ∨ (modal = true ∧ (op = 10 ∨ op = 11))) (h : plnF modal f = true) : plnF modal (Op1 op f) = true := by
  unfold Op1 plnF
  rcases ho with rfl | ⟨rfl, rfl | rfl⟩ <;> simp [plnL, h]
theorem pln_two {modal : Bool} {op : Nat} {f g : Fm} (ho : 4 ≤ op ∧ op ≤ 7) (h : plnF modal f = true) (h2 : plnF modal g = true) : plnF modal (Op2 op f g) = true := by
  unfold Op2 plnF
  simp [plnL, h, h2, ho]
theorem bstep_pln {modal : Bool} {s : List Fm} {k b : Nat} (h : PlnS modal s k) : PlnS modal (bstep modal s b) (k + 1) := by
  obtain ⟨h1, h2⟩ := h
  unfold bstep
  simp only []
  split
  · rename_i ho
    exact ⟨by rw [plnL_append, h1]; simp [plnL, pln_atom modal ho], by rw [nodesL_append]; simp [nodesL, AtomF, nodesF, nodesTs]; omega⟩
  · split
    · rename_i ho
      have e := take_last ho.2
      rw [e, plnL_append] at h1
      rw [e, nodesL_append] at h2
      simp only [plnL, Bool.and_true, Bool.and_eq_true] at h1
      simp only [nodesL] at h2
      exact ⟨by rw [plnL_append, h1.1]; simp only [plnL, pln_one (.inl rfl) h1.2, Bool.and_true], by rw [nodesL_append]; simp only [nodesL, nodes_one]; omega⟩
    · split
      · rename_i ho
        have e := take_last2 ho.2.2
        rw [e, plnL_append] at h1
        rw [e, nodesL_append] at h2
        simp only [plnL, Bool.and_true, Bool.and_eq_true] at h1
        simp only [nodesL] at h2
        exact ⟨by rw [plnL_append, h1.1]; simp only [plnL, pln_two (op := b % 10) ⟨by omega, by omega⟩ h1.2.1 h1.2.2, Bool.and_true], by rw [nodesL_append]; simp only [nodesL, nodes_two]; omega⟩
      · split
        · rename_i ho
          have e := take_last ho.2.1
          rw [e, plnL_append] at h1
          rw [e, nodesL_append] at h2
          simp only [plnL, Bool.and_true, Bool.and_eq_true] at h1
          simp only [nodesL] at h2
          have hop : b % 10 + 2 = 10 ∨ b % 10 + 2 = 11 := by omega
          exact ⟨by rw [plnL_append, h1.1]; simp only [plnL, pln_one (.inr ⟨ho.2.2, hop⟩) h1.2, Bool.and_true], by rw [nodesL_append]; simp only [nodesL, nodes_one]; omega⟩
        · split
          · exact ⟨by rw [plnL_append, h1]; simp [plnL, pln_false], by rw [nodesL_append]; simp [nodesL, FalseF, nodesF, nodesTs]; omega⟩
          · exact ⟨h1, by omega⟩
theorem bstack_pln (modal : Bool) : ∀ (l : List Nat) (s : List Fm) (k : Nat), PlnS modal s k → PlnS modal (l.foldl (bstep modal) s) (k + l.length)
  | [], s, k, h => h
  | b :: l, s, k, h => by
    have := bstack_pln modal l _ _ (bstep_pln (b := b) h)
    simp only [List.foldl_cons, List.length_cons]
    rw [show k + (l.length + 1) = k + 1 + l.length by omega]
    exact this
theorem bjoin_fold (modal : Bool) : ∀ (r : List Fm) (f : Fm) (N : Nat), plnF modal f = true → plnL modal r = true → depthF f ≤ N → 1 ≤ N → plnF modal (r.foldl (fun a b => Op2 5 a b) f) = true ∧ depthF (r.foldl (fun a b => Op2 5 a b) f) ≤ N + nodesL r ∧ nodesF (r.foldl (fun a b => Op2 5 a b) f) ≤ nodesF f + 2 * nodesL r
  | [], f, N, h, _, hd, _ => ⟨h, by simpa [nodesL] using hd, by simp [nodesL]⟩
  | g :: r, f, N, h, hr, hd, hN => by
    simp only [plnL, Bool.and_eq_true] at hr
    have hg := depth_leF g
    have hp := nodesF_pos g
    have := bjoin_fold modal r (Op2 5 f g) (N + nodesF g) (pln_two ⟨by omega, by omega⟩ h hr.1) hr.2 (by rw [depth_two]; omega) (by omega)
    simp only [List.foldl_cons, nodesL]
    rw [nodes_two] at this
    exact ⟨this.1, by omega, by omega⟩
/-- What Built makes is plain, and not deep. -/
theorem built_pln (modal : Bool) (l : List Nat) : plnF modal (builtF modal l) = true ∧ depthF (builtF modal l) ≤ 20 ∧ nodesF (builtF modal l) ≤ 40 := by
  unfold builtF bstack
  have h := bstack_pln modal (l.take 20) [] 0 ⟨rfl, by simp [nodesL]⟩
  have hl : (l.take 20).length ≤ 20 := by rw [List.length_take]; omega
  obtain ⟨h1, h2⟩ := h
  rcases e : (l.take 20).foldl (bstep modal) [] with _ | ⟨f, r⟩
  · exact ⟨pln_false modal, by simp [bjoin, FalseF, depthF, depthTs, depthL], by simp [bjoin, FalseF, nodesF, nodesTs, nodesL]⟩
  · rw [e] at h1 h2
    simp only [plnL, Bool.and_eq_true] at h1
    simp only [nodesL] at h2
    have hf := depth_leF f
    have hp := nodesF_pos f
    have := bjoin_fold modal r f (nodesF f) h1.1 h1.2 hf hp
    show plnF modal (r.foldl _ f) = true ∧ _
    exact ⟨this.1, by have := this.2.1; show depthF (r.foldl _ f) ≤ 20; omega, by have := this.2.2; show nodesF (r.foldl _ f) ≤ 40; omega⟩
end Go.FR
