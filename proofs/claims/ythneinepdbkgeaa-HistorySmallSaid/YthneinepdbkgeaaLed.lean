/- Favourites lead to the present entry. -/
import Derived.Test.YthneinepdbkgeaaAwake
namespace Go.Proofs.Ythneinepdbkgeaa
open Go.RowKit Go.HK
set_option linter.unusedVariables false
set_option linter.unusedSimpArgs false
set_option linter.unusedSectionVars false

theorem upL_desc {nodes : List Go.HK.HN} {now : Nat} (h : WF nodes now) : ∀ (i : Nat), i < nodes.length → (upL nodes i).Pairwise (· > ·) := by
  intro i
  induction i using Nat.strongRecOn with
  | _ i ih =>
    intro hi
    have hp := h.par' i hi
    rw [upL_cons h hi]
    by_cases h0 : parF nodes i < 0
    · rw [if_pos h0]; simp
    · rw [if_neg h0]
      refine List.pairwise_cons.2 ⟨fun y hy => ?_, ih _ (by omega) (by omega)⟩
      have := upL_mem h (i := (parF nodes i).toNat) (by omega) y hy
      omega
theorem upL_self {nodes : List Go.HK.HN} {now : Nat} (h : WF nodes now) {i : Nat} (hi : i < nodes.length) : i ∈ upL nodes i := by
  rw [upL_cons h hi]; simp
theorem upL_par {nodes : List Go.HK.HN} {now : Nat} (h : WF nodes now) : ∀ (i : Nat), i < nodes.length → ∀ z ∈ upL nodes i, z ≠ 0 → (parF nodes z).toNat ∈ upL nodes i := by
  intro i
  induction i using Nat.strongRecOn with
  | _ i ih =>
    intro hi z hz h0
    have hp := h.par' i hi
    rw [upL_cons h hi] at hz ⊢
    rcases List.mem_cons.1 hz with rfl | hz
    · have := h.par z (by omega) hi
      rw [if_neg (by omega)]
      exact List.mem_cons_of_mem _ (upL_self h (by omega))
    · by_cases hn : parF nodes i < 0
      · rw [if_pos hn] at hz; cases hz
      · rw [if_neg hn] at hz ⊢
        exact List.mem_cons_of_mem _ (ih _ (by omega) (by omega) z hz h0)
theorem upL_in {nodes : List Go.HK.HN} {now : Nat} (h : WF nodes now) {i : Nat} (hi : i < nodes.length) (x : Nat) (hx : x ∈ upL nodes i) : x < nodes.length := by
  have := upL_mem h hi x hx; omega

theorem lead_fav : ∀ (l : List Nat) (nodes : List Go.HK.HN) (c : Int), (∀ x ∈ l, x < nodes.length) → (∀ x ∈ l, parF nodes x < x) → Chain (parF nodes) c l → l.Pairwise (· > ·) →
    (∀ y, y ∉ l → favF (leadL nodes c l) y = favF nodes y) ∧ (∀ x xs, l = x :: xs → 0 ≤ c → favF (leadL nodes c l) x = c) ∧
    (∀ z ∈ l, ∀ p ∈ l, parF nodes z = (p : Nat) → favF (leadL nodes c l) p = z)
  | [], nodes, c, _, _, _, _ => ⟨fun y _ => rfl, fun x xs h => (by cases h), fun z hz => (by cases hz)⟩
  | x :: xs, nodes, c, hl, hp, hc, hd => by
    obtain ⟨nn, hnn⟩ : ∃ nn, nn = (if 0 ≤ c then setFav nodes x c else nodes) := ⟨_, rfl⟩
    have e : leadL nodes c (x :: xs) = leadL nn x xs := by rw [hnn]; rfl
    have hpar : parF nn = parF nodes := by rw [hnn]; split <;> simp [parF_setFav]
    have hlen : nn.length = nodes.length := by rw [hnn]; split <;> simp
    have hd' := List.pairwise_cons.1 hd
    have ih := lead_fav xs nn x (fun y hy => by rw [hlen]; exact hl y (by simp [hy])) (fun y hy => by rw [hpar]; exact hp y (by simp [hy])) (by rw [hpar]; exact hc.2) hd'.2
    have hxl := hl x (by simp)
    have hnot : x ∉ xs := fun hx => by have := hd'.1 x hx; omega
    have hfav : ∀ y, y ≠ x → favF nn y = favF nodes y := by
      intro y hy
      rw [hnn]
      split
      · rw [favF_setFav, if_neg (by omega)]
      · rfl
    rw [e]
    refine ⟨fun y hy => ?_, fun x' xs' h h0 => ?_, fun z hz p hpm hzp => ?_⟩
    · rw [ih.1 y (fun h => hy (by simp [h])), hfav y (fun h => hy (by simp [h]))]
    · cases h
      rw [ih.1 x hnot, hnn, if_pos h0, favF_setFav, if_pos ⟨rfl, hxl⟩]
    · have hpz : parF nodes z < z := hp z hz
      rcases List.mem_cons.1 hz with rfl | hz'
      · have hpm' : p ∈ xs := by
          rcases List.mem_cons.1 hpm with rfl | h
          · omega
          · exact h
        match xs, hc.2, ih, hpm' with
        | y :: ys, hc2, ih, _ =>
          have hy := hc2.1 (by omega)
          have : p = y := by simp only [Int.toNat_natCast] at hy; omega
          subst this
          exact ih.2.1 p ys rfl (by omega)
      · have hzx := hd'.1 z hz'
        have hpm' : p ∈ xs := by
          rcases List.mem_cons.1 hpm with rfl | h
          · omega
          · exact h
        exact ih.2.2 z hz' p hpm' (by rw [hpar]; exact hzp)

/-- On the way to the present entry the favourites lead to it. -/
def Led (nodes : List Go.HK.HN) (now : Nat) : Prop := ∀ x ∈ upL nodes now, x ≠ 0 → favF nodes (parF nodes x).toNat = x
theorem upL_parF {a b : List Go.HK.HN} (hp : parF a = parF b) (i : Nat) : upL a i = upL b i := by
  unfold upL; rw [hp]
theorem Led.root (st : ByteArray) : Led (rootN st) 0 := by
  intro x hx h0
  have := upL_mem (WF.root st) (i := 0) (by simp [rootN]) x hx
  omega
theorem Led.lead {nodes : List Go.HK.HN} {now n : Nat} (h : WF nodes now) (hn : n < nodes.length) : Led (lead nodes n) n := by
  intro z hz h0
  have hpe : parF (HK.lead nodes n) = parF nodes := parF_leadL _ _ _
  rw [upL_parF hpe] at hz
  rw [hpe]
  have h3 := (lead_fav (upL nodes n) nodes (-1) (upL_in h hn) (fun x hx => (h.par' x (upL_in h hn x hx)).1) (chain_upF h.par' _ _ _ (by omega) (fun h => by omega)) (upL_desc h n hn)).2.2
  have hzl := upL_in h hn z hz
  have := h.par z (by omega) hzl
  exact h3 z hz _ (upL_par h n hn z hz h0) (by omega)
theorem Led.undo {nodes : List Go.HK.HN} {now : Nat} (h : WF nodes now) (hl : Led nodes now) (h0 : now ≠ 0) : Led nodes (parF nodes now).toNat := by
  intro z hz hz0
  refine hl z ?_ hz0
  have := h.par now (by omega) h.now
  rw [upL_cons h h.now, if_neg (by omega)]
  exact List.mem_cons_of_mem _ hz
theorem Led.redo {nodes : List Go.HK.HN} {now q : Nat} (h : WF nodes now) (hl : Led nodes now) (hq : q < nodes.length) (hf : favF nodes now = q) (hp : parF nodes q = now) : Led nodes q := by
  intro z hz hz0
  rw [upL_cons h hq, if_neg (by omega)] at hz
  rcases List.mem_cons.1 hz with rfl | hz
  · rw [hp]; simpa using hf
  · rw [hp] at hz; exact hl z (by simpa using hz) hz0
end Go.Proofs.Ythneinepdbkgeaa
